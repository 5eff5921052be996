/-
  RRef6 SRef3
-/
import Derived.Test.YtkkacnfpdafadaaGreatDoorQ41
import Derived.Test.YtkkacnfpdafadaaGreatDoorQ42
namespace Go.Proofs.YtkkacnfpdafadaaGreatDoor
open Go.RowKit
set_option linter.unusedVariables false
set_option maxRecDepth 20000
attribute [local go_sem ↓] seal_append
attribute [local go_sem] opC upC

structure FSt (w2 wr : World) (S ob : Nat) (s1 si s3 al : Value) (zs : List Int) (cur : List RGo) (cu3 kp : List RIt) : Prop where
  blk : Blk wr ob [s1, si, s3] 26
  seen : wr.ownsRow w2.heap.size 3 1 s1 zs.length (zs.map eI)
  gone : wr.ownsRow w2.heap.size 94 3 s3 cur.length (cur.flatMap encGo)
  all : wr.ownsRow w2.heap.size 92 4 al cu3.length (cu3.flatMap encIt)
  new : wr.ownsRow S 92 4 si kp.length (kp.flatMap encIt)
  bel : Below w2.heap.size w2 wr
  sle : w2.heap.size ≤ S
  sle2 : S ≤ wr.heap.size
theorem FSt.below {w2 wr w' : World} {S ob : Nat} {s1 si s3 al : Value} {zs : List Int} {cur : List RGo} {cu3 kp : List RIt} (h : FSt w2 wr S ob s1 si s3 al zs cur cu3 kp) (hb : Below wr.heap.size wr w') : FSt w2 w' S ob s1 si s3 al zs cur cu3 kp :=
  ⟨h.blk.keep (hb.block _ h.blk.lt), own_below h.seen hb, own_below h.gone hb, own_below h.all hb, own_below h.new hb, h.bel.trans (hb.mono h.bel.size), h.sle, Nat.le_trans h.sle2 hb.size⟩

end Go.Proofs.YtkkacnfpdafadaaGreatDoor

namespace Go.Proofs.YtkkacnfpdafadaaGreatDoor
open Go.RowKit
set_option linter.unusedVariables false
set_option maxRecDepth 20000
attribute [local go_sem] opC upC

set_option maxRecDepth 100000 in
set_option maxHeartbeats 3000000 in
theorem rvalidS_any (w : World) (F : Blks) (v : Value) (x : SMsg) (h : MsgV F w v x) (hki : ∀ y ∈ x.tell.items, y.key.length ≤ 1000000000) (hkg : ∀ y ∈ x.tell.gone, y.key.length ≤ 1000000000) :
    Calls Tryz.prog 51 #[v] w fun e w' => e = .returned (.bool (svalid x)) ∧ Below w.heap.size w w' := by
  replace h := h.mono (G := fun q => q < w.heap.size) fun q _ hlt => hlt
  obtain ⟨sv, s1, s2, s3, rfl, h⟩ := h
  obtain ⟨a0, p0, rfl, -⟩ := h.seen.shape
  obtain ⟨a1, p1, rfl, -⟩ := h.tell.seen.shape
  obtain ⟨a2, p2, rfl, -⟩ := h.tell.items.shape
  obtain ⟨a3, p3, rfl, -⟩ := h.tell.gone.shape
  obtain ⟨wx, hwx⟩ : ∃ qq, qq = w.alloc (.cells #[.int .i64 x.frm, .slice a0 x.seen.length p0, .slice a1 x.tell.seen.length p1, .slice a2 x.tell.items.length p2, .slice a3 x.tell.gone.length p3] 43) := ⟨_, rfl⟩
  have hbx : Below w.heap.size w wx := by rw [hwx]; exact kept_alloc _ _
  have hzx : wx.heap.size = w.heap.size + 1 := by rw [hwx]; simp
  have hx := h.keep (w' := wx) fun b _ hlt => hbx.block b hlt
  have hnx : Blk wx w.heap.size [.int .i64 x.frm, .slice a0 x.seen.length p0, .slice a1 x.tell.seen.length p1, .slice a2 x.tell.items.length p2, .slice a3 x.tell.gone.length p3] 43 := by rw [hwx]; exact Blk.new _ _ _
  have Hx := Lib.hid hx
  have Hwx := Lib.hid hwx; have Hbx := Lib.hid hbx; have Hzx := Lib.hid hzx
  have Hnx := Lib.hid hnx
  clear hx hwx hbx hnx hzx h
  have HR := Lib.hid (show ∀ W, Below wx.heap.size wx W → Below w.heap.size w W ∧ Blk W w.heap.size [.int .i64 x.frm, .slice a0 x.seen.length p0, .slice a1 x.tell.seen.length p1, .slice a2 x.tell.items.length p2, .slice a3 x.tell.gone.length p3] 43 ∧ MsgIn (fun q => q < w.heap.size) W (.slice a0 x.seen.length p0) (.slice a1 x.tell.seen.length p1) (.slice a2 x.tell.items.length p2) (.slice a3 x.tell.gone.length p3) x from fun W hW => by
    have hz := Hzx.out
    exact ⟨Hbx.out.trans (hW.mono (by omega)), Hnx.out.keep (hW.block _ (by omega)), Hx.out.keep (w' := W) fun q hq hlt => hW.block q hlt⟩)
  obtain ⟨d, hd⟩ : ∃ d, x.frm = d := ⟨_, rfl⟩
  obtain ⟨kv, hkv⟩ : ∃ kv, knowsR x.seen = kv := ⟨_, rfl⟩
  obtain ⟨ok, hok⟩ : ∃ ok, validR x.tell = ok := ⟨_, rfl⟩
  have HS := Lib.hid (show svalid x = (devOk d && kv && ok && x.tell.items.all fun i => !seqIn x.seen i) by unfold svalid; rw [hd, hkv, hok])
  have HK := Lib.hid (rknow_any wx _ (.slice a0 x.seen.length p0) x.seen (HR.out wx (Below.refl _ _)).2.2.seen)
  rw [hkv] at HK
  have HV := Lib.hid (rvalid2_any wx _ (.agg #[.slice a1 x.tell.seen.length p1, .slice a2 x.tell.items.length p2, .slice a3 x.tell.gone.length p3]) x.tell ⟨_, _, _, rfl, (HR.out wx (Below.refl _ _)).2.2.tell⟩ hki hkg)
  rw [hok] at HV
  obtain ⟨c0, c1, c2, c3, c4⟩ := cell5 Hnx.out
  have Hd := Lib.hid hd; have Hkv := Lib.hid hkv; have Hok := Lib.hid hok
  rw [hd] at c0
  have Hwx' := Lib.hid (show wx = w.alloc (.cells #[.int .i64 d, .slice a0 x.seen.length p0, .slice a1 x.tell.seen.length p1, .slice a2 x.tell.items.length p2, .slice a3 x.tell.gone.length p3] 43) by rw [← hd]; exact Hwx.out)
  have hbx0 := Lib.hid Hbx.out
  rw [hd]
  clear hd hkv hok hki hkg
  go_enter Tryz.func51, Tryz.ntmps51
  by_cases hd0 : d < 0
  · have d0 : decide (d < 0) = true := by simpa using hd0
    have Hr := Lib.hid (show svalid x = false by rw [HS.out, show devOk d = false by unfold devOk; simp; omega]; rfl)
    go_wp2_with fail
    rw [← Hwx'.out]
    go_ret
    exact ⟨by rw [Hr.out]; first | done | rfl, hbx0.out⟩
  have d0 : decide (d < 0) = false := by simpa using hd0
  by_cases hd8 : d ≥ 8
  · have d1 : decide (d ≥ 8) = true := by simpa using hd8
    have hd8' : (8 : Int) ≤ d := hd8
    have Hr := Lib.hid (show svalid x = false by rw [HS.out, show devOk d = false by unfold devOk; simp; omega]; rfl)
    go_wp2_with fail
    rw [← Hwx'.out]
    go_ret
    exact ⟨by rw [Hr.out]; first | done | rfl, hbx0.out⟩
  have d1 : decide (d ≥ 8) = false := by simpa using hd8
  have hd8' : ¬ (8 : Int) ≤ d := hd8
  have hdk : devOk d = true := by unfold devOk; simp; omega
  rw [hdk] at HS
  clear hdk
  go_wp2_with fail
  rw [← Hwx'.out]
  refine HK.out.mono ?_
  rintro e w2 ⟨rfl, hw2⟩
  obtain rfl := hw2.symm
  clear HK hw2
  cases kv with
  | false =>
    have Hr := Lib.hid (show svalid x = false by rw [HS.out]; rfl)
    go_wp2_with fail
    go_ret
    exact ⟨by rw [Hr.out]; first | done | rfl, hbx0.out⟩
  | true =>
    go_wp2_with fail
    refine HV.out.mono ?_
    rintro e w3 ⟨rfl, hb3⟩
    clear HV c0 c1 c2 c3 c4
    cases ok with
    | false =>
      have Hr := Lib.hid (show svalid x = false by rw [HS.out]; rfl)
      have Hb := Lib.hid (HR.out w3 hb3).1
      clear hb3
      go_wp2_with fail
      go_ret
      exact ⟨by rw [Hr.out]; first | done | rfl, Hb.out⟩
    | true =>
      have hkn := (knows_iff x.seen).1 Hkv.out
      have f := valid_formed Hok.out
      have hlen : x.tell.items.length ≤ 4096 := (valid_lens Hok.out).2.1
      have hdev : ∀ y ∈ x.tell.items, 0 ≤ y.dev ∧ y.dev < (x.seen.length : Int) := fun y hy => by
        have := known_seq (f.iknown y hy)
        have h1 : y.pl.2 = y.dev := rfl
        rw [h1, f.len] at this
        rw [hkn.len]
        exact ⟨this.1, this.2.1⟩
      have Hdev := Lib.hid hdev; have Hb3 := Lib.hid hb3
      clear hdev f hkn hb3
      go_wp2_with fail
      go_loopw [3] (fun i wr => ∃ k : Nat, k ≤ x.tell.items.length ∧ i = .int .i64 (k : Int) ∧ Below wx.heap.size wx wr ∧ ∀ j (hj : j < x.tell.items.length), j < k → seqIn x.seen x.tell.items[j] = false) (fun i _ => x.tell.items.length - (intOf i).toNat)
      case atStart => exact ⟨0, by omega, rfl, Hb3.out, fun j _ hj => by omega⟩
      case round =>
        obtain ⟨k, hk, rfl, hbw, hall⟩ := hrel
        have Hall := Lib.hid hall; have Hbw := Lib.hid hbw
        clear hall hbw
        obtain ⟨hB, kx, mx⟩ := HR.out wr Hbw.out
        obtain ⟨c0, c1, c2, c3, c4⟩ := cell5 kx
        rw [Hd.out] at c0
        have HB := Lib.hid hB
        by_cases hkn : k < x.tell.items.length
        · have hkI : (k : Int) < (x.tell.items.length : Int) := by omega
          obtain ⟨bi, oi, rfl, -, -, hic⟩ := it_cell mx.tell.items (by omega)
          obtain ⟨x0, x1, x2, x3⟩ := hic k hkn
          have hxm := Hdev.out x.tell.items[k] (List.getElem_mem hkn)
          obtain ⟨it, hit⟩ : ∃ it, x.tell.items[k] = it := ⟨_, rfl⟩
          rw [hit] at x0 x1 x2 x3 hxm
          have Hit := Lib.hid hit
          obtain ⟨xk, xd, xs, xv⟩ := it
          dsimp only at x0 x1 x2 x3 hxm
          obtain ⟨q, rfl⟩ := Int.eq_ofNat_of_zero_le hxm.1
          have hqs : q < x.seen.length := by omega
          have hqI : (q : Int) < (x.seen.length : Int) := by omega
          obtain ⟨bs, os, rfl, -, -, hsc⟩ := int_cell mx.seen (by omega)
          have e0 := hsc q hqs
          obtain ⟨y, hy⟩ : ∃ y, x.seen[q] = y := ⟨_, rfl⟩
          rw [hy] at e0
          have Hsq := Lib.hid (show seqIn x.seen ⟨xk, (q : Int), xs, xv⟩ = decide (xs ≤ y) by
            unfold seqIn
            dsimp only
            rw [Int.toNat_natCast, List.getD_eq_getElem?_getD, List.getElem?_eq_getElem hqs, hy]
            rfl)
          clear hsc hy hic hit mx kx hxm hB
          by_cases hle : xs ≤ y
          · have Hr := Lib.hid (show svalid x = false by
              rw [HS.out, List.all_eq_false.2 ⟨_, List.getElem_mem hkn, by rw [Hit.out, Hsq.out, decide_eq_true hle]; simp⟩]
              rfl)
            have dle : decide (xs ≤ y) = true := decide_eq_true hle
            go_wp2_with fail
            go_quiet (fail)
            go_wp2_with fail
            go_ret
            exact ⟨by rw [Hr.out]; first | done | rfl, kept_drewN HB.out _⟩
          · have Hn := Lib.hid (show seqIn x.seen x.tell.items[k] = false by rw [Hit.out, Hsq.out, decide_eq_false hle])
            have dle : decide (xs ≤ y) = false := decide_eq_false hle
            go_wp2_with fail
            go_quiet (fail)
            go_wp2_with fail
            go_roundw
            case rel => exact ⟨k + 1, by omega, by go_num, kept_drewN Hbw.out _, fun j hj hjk => by
              rcases Nat.lt_succ_iff_lt_or_eq.1 hjk with h | h
              · exact Hall.out j hj h
              · subst h; exact Hn.out⟩
            case measure => simp [intOf]; omega
        · have hkI : ¬ (k : Int) < (x.tell.items.length : Int) := by omega
          have Hr := Lib.hid (show svalid x = true by
            rw [HS.out, List.all_eq_true.2 fun y hy => by
              obtain ⟨j, hj, rfl⟩ := List.mem_iff_getElem.1 hy
              rw [Hall.out j hj (by omega)]
              rfl]
            rfl)
          clear mx kx hB
          go_wp2_with fail
          go_ret
          exact ⟨by rw [Hr.out]; first | done | rfl, HB.out⟩
end Go.Proofs.YtkkacnfpdafadaaGreatDoor
