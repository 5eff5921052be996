/-
  SValid
-/
import Derived.Test.YtelphnigdancpaaGreatDoorZA28
namespace Go.Proofs.YtelphnigdancpaaGreatDoor
open Go.RowKit Go.Sort
set_option linter.unusedVariables false
set_option maxRecDepth 20000
attribute [local go_sem] opC upC

set_option maxRecDepth 100000 in
set_option maxHeartbeats 1500000 in
theorem validC_any (w : World) (bs : Nat) (a : Option Addr) (c : Nat) (F : Blks) (s : List Int) (x : RIt) (hc : w.cell? ⟨bs, 1, none⟩ = some (.slice a s.length c)) (hv : Rows F w 1 (.slice a s.length c) s.length (s.map eI)) (hd : 0 ≤ x.dev ∧ x.dev < (s.length : Int)) :
    Calls Tryz.prog 88 #[itV x, .pointer (some ⟨bs, 0, none⟩)] w fun e w' => e = .returned (.bool (seqIn s x)) ∧ Below w.heap.size w w' := by
  obtain ⟨q, hq⟩ := Int.eq_ofNat_of_zero_le hd.1
  have hqs : q < s.length := by omega
  obtain ⟨b, off, rfl, -, hlt, hcc⟩ := int_cell hv (by omega)
  have e0 := hcc q hqs
  obtain ⟨y, hy⟩ : ∃ y, s[q] = y := ⟨_, rfl⟩
  rw [hy] at e0
  obtain ⟨xk, xd, xs, xv⟩ := x
  obtain rfl : xd = (q : Int) := hq
  have hr : seqIn s ⟨xk, q, xs, xv⟩ = decide (xs ≤ y) := by
    unfold seqIn
    dsimp only
    rw [Int.toNat_natCast, List.getD_eq_getElem?_getD, List.getElem?_eq_getElem hqs, hy]
    rfl
  obtain ⟨w1, hw1⟩ : ∃ w1, w1 = w.alloc (.cells #[.string ⟨xk.toArray⟩, .int .i64 (q : Int), .int .i64 xs, .int .i64 xv] 50) := ⟨_, rfl⟩
  have hb1 : Below w.heap.size w w1 := by rw [hw1]; exact kept_alloc _ _
  have kx : Blk w1 w.heap.size [.string ⟨xk.toArray⟩, .int .i64 (q : Int), .int .i64 xs, .int .i64 xv] 50 := by rw [hw1]; exact Blk.new _ _ _
  obtain ⟨x0, x1, x2, x3⟩ := cell4 kx
  have e1 : w1.cell? ⟨b, off + q, none⟩ = some (.int .i64 y) := (hb1.cell (p := ⟨b, off + q, none⟩) hlt).trans e0
  have s1 : w1.cell? ⟨bs, 1, none⟩ = some (.slice (some ⟨b, off, none⟩) s.length c) := (hb1.cell (p := ⟨bs, 1, none⟩) (cellLt hc)).trans hc
  obtain ⟨n, hn⟩ : ∃ n, s.length = n := ⟨_, rfl⟩
  rw [hn] at s1
  have hqI : (q : Int) < (n : Int) := by omega
  have Hr := Lib.hid hr; have Hw1 := Lib.hid hw1; have Hb1 := Lib.hid hb1
  clear hr hw1 hb1 kx e0 hc hcc hv hd hy hn
  unfold itV
  go_enter Tryz.func88, Tryz.ntmps88
  go_wp2_with fail
  rw [← Hw1.out]
  go_quiet (fail)
  go_wp2_with fail
  go_ret
  exact ⟨by rw [Hr.out]; first | done | rfl, kept_drewN Hb1.out _⟩
set_option maxRecDepth 100000 in
set_option maxHeartbeats 2000000 in
theorem indexSeq_any (w : World) (bs : Nat) (av : Option Addr) (cv : Nat) (G : Blks) (s : List Int) (hc : w.cell? ⟨bs, 1, none⟩ = some (.slice av s.length cv)) (hvs : Rows G w 1 (.slice av s.length cv) s.length (s.map eI)) (F : Blks) (v : Value) (l : List RIt) (hv : Rows F w 4 v l.length (l.flatMap encIt)) (hl : l.length ≤ 1000000)
    (hd : ∀ x ∈ l, 0 ≤ x.dev ∧ x.dev < (s.length : Int)) :
    Calls Tryz.prog 84 #[v, .func (.func 88) #[] #[.pointer (some ⟨bs, 0, none⟩)]] w fun e w' => (∃ i : Int, e = .returned (.int .i64 i) ∧ (0 ≤ i ↔ l.all (fun x => !seqIn s x) = false) ∧ -1 ≤ i) ∧ Below w.heap.size w w' := by
  obtain ⟨n, hn⟩ : ∃ n, l.length = n := ⟨_, rfl⟩
  obtain ⟨a, cap, rfl, -⟩ := hv.shape
  have Hv := Lib.hid hv; have Hd := Lib.hid hd; have Hc := Lib.hid hc; have Hvs := Lib.hid hvs
  rw [hn] at hl ⊢
  have Hn := Lib.hid hn
  have H0 := Lib.hid (show Below w.heap.size w w from Below.refl _ _)
  clear hv hn hd hc hvs
  go_enter Tryz.func84, Tryz.ntmps84
  go_wp2_with fail
  go_loopw [8] (fun i wr => ∃ k : Nat, k ≤ n ∧ i = .int .i64 (k : Int) ∧ Below w.heap.size w wr ∧ ∀ j (hj : j < l.length), j < k → seqIn s l[j] = false) (fun i _ => n - (intOf i).toNat)
  case atStart => exact ⟨0, by omega, rfl, H0.out, fun j _ hj => by omega⟩
  case round =>
    obtain ⟨k, hk, rfl, hbw, hall⟩ := hrel
    have Hbw := Lib.hid hbw; have Hall := Lib.hid hall
    clear hbw hall
    by_cases hkn : k < n
    · have hkI : (k : Int) < (n : Int) := by omega
      have hkl : k < l.length := by rw [Hn.out]; exact hkn
      have hm := Hv.out.keep (w' := wr) fun b _ hlt => Hbw.out.block b hlt
      obtain ⟨b, off, rfl, -, -, hcc⟩ := it_cell hm (by omega)
      obtain ⟨x0, x1, x2, x3⟩ := hcc k hkl
      obtain ⟨x, hx⟩ : ∃ x, l[k] = x := ⟨_, rfl⟩
      rw [hx] at x0 x1 x2 x3
      have hV := validC_any wr bs av cv G s x ((Hbw.out.cell (p := ⟨bs, 1, none⟩) (cellLt Hc.out)).trans Hc.out) (Hvs.out.keep (w' := wr) fun b _ hlt => Hbw.out.block b hlt) (Hd.out x (by rw [← hx]; exact List.getElem_mem _))
      unfold itV at hV
      have Hx := Lib.hid hx
      obtain ⟨kk, hkk⟩ : ∃ kk, seqIn s x = kk := ⟨_, rfl⟩
      rw [hkk] at hV
      have V := Lib.hid hV
      have Hkk := Lib.hid hkk
      clear hcc hx hm hkk hV
      go_wp2_with fail
      refine V.out.mono ?_
      rintro e w1 ⟨rfl, hb1⟩
      have Hb1 := Lib.hid (Hbw.out.trans (hb1.mono Hbw.out.size))
      clear V hb1 x0 x1 x2 x3
      cases kk with
      | false =>
        go_wp2_with fail
        go_roundw
        case rel => exact ⟨k + 1, by omega, by go_num, Hb1.out, fun j hj hjk => by
          rcases Nat.lt_succ_iff_lt_or_eq.1 hjk with h | h
          · exact Hall.out j hj h
          · subst h; rw [Hx.out]; exact Hkk.out⟩
        case measure => simp [intOf]; omega
      | true =>
        go_wp2_with fail
        go_ret
        refine ⟨⟨_, rfl, ⟨fun _ => ?_, fun _ => by omega⟩, by omega⟩, Hb1.out⟩
        rw [List.all_eq_false]
        exact ⟨l[k], List.getElem_mem hkl, by rw [Hx.out, Hkk.out]; simp⟩
    · have hkI : ¬ (k : Int) < (n : Int) := by omega
      have hall : l.all (fun x => !seqIn s x) = true := by
        rw [List.all_eq_true]
        intro x hx
        obtain ⟨j, hj, rfl⟩ := List.mem_iff_getElem.1 hx
        rw [Hall.out j hj (by rw [Hn.out] at hj; omega)]
        rfl
      have Hal := Lib.hid hall
      clear hall
      go_wp2_with fail
      go_ret
      exact ⟨⟨-1, rfl, ⟨fun h => by omega, fun h => by
        first
          | (rw [Hal.out] at h; cases h)
          | (obtain ⟨x, hx, hkx⟩ := h; have hz := List.all_eq_true.1 Hal.out x hx; simp [hkx] at hz)⟩, by omega⟩, Hbw.out⟩
set_option maxHeartbeats 1000000 in
theorem containsSeq_any (w : World) (bs : Nat) (av : Option Addr) (cv : Nat) (G : Blks) (s : List Int) (hc : w.cell? ⟨bs, 1, none⟩ = some (.slice av s.length cv)) (hvs : Rows G w 1 (.slice av s.length cv) s.length (s.map eI)) (F : Blks) (v : Value) (l : List RIt) (hv : Rows F w 4 v l.length (l.flatMap encIt)) (hl : l.length ≤ 1000000)
    (hd : ∀ x ∈ l, 0 ≤ x.dev ∧ x.dev < (s.length : Int)) :
    Calls Tryz.prog 87 #[v, .func (.func 88) #[] #[.pointer (some ⟨bs, 0, none⟩)]] w fun e w' => e = .returned (.bool (!l.all fun x => !seqIn s x)) ∧ Below w.heap.size w w' := by
  have HI := Lib.hid (indexSeq_any w bs av cv G s hc hvs F v l hv hl hd)
  obtain ⟨a, cap, rfl, -⟩ := hv.shape
  obtain ⟨r, hr⟩ : ∃ r, (l.all fun x => !seqIn s x) = r := ⟨_, rfl⟩
  rw [hr]
  obtain ⟨n, hn⟩ : ∃ n, l.length = n := ⟨_, rfl⟩
  rw [hn] at HI ⊢
  have Hr := Lib.hid hr
  clear hv hr hn hc hvs hd
  go_enter Tryz.func87, Tryz.ntmps87
  go_wp2_with fail
  refine HI.out.mono ?_
  rintro e w1 ⟨⟨i, rfl, hi, -⟩, hb1⟩
  rw [Hr.out] at hi
  clear HI
  cases r with
  | true =>
    have hI : ¬ 0 ≤ i := fun h => by have := hi.1 h; cases this
    clear hi
    go_wp2_with fail
    go_ret
    exact ⟨ret_bool (by simpa using hI), hb1⟩
  | false =>
    have hI : 0 ≤ i := hi.2 rfl
    clear hi
    go_wp2_with fail
    go_ret
    exact ⟨ret_bool (by simp), hb1⟩
set_option maxRecDepth 100000 in
set_option maxHeartbeats 3000000 in
theorem svalid_any (w : World) (hT : Tabs w) (h3 : 3 ≤ w.heap.size) (F : Blks) (v : Value) (x : SMsg) (h : MsgV F w v x) (hki : ∀ y ∈ x.tell.items, y.key.length ≤ 1000000) (hkg : ∀ y ∈ x.tell.gone, y.key.length ≤ 1000000) :
    Calls Tryz.prog 50 #[v] w fun e w' => e = .returned (.bool (svalid x)) ∧ Below w.heap.size w w' := by
  replace h := h.mono (G := fun q => q < w.heap.size) fun q _ hlt => hlt
  obtain ⟨sv, s1, s2, s3, rfl, h⟩ := h
  obtain ⟨a0, p0, rfl, -⟩ := h.seen.shape
  obtain ⟨a1, p1, rfl, -⟩ := h.tell.seen.shape
  obtain ⟨a2, p2, rfl, -⟩ := h.tell.items.shape
  obtain ⟨a3, p3, rfl, -⟩ := h.tell.gone.shape
  obtain ⟨wx, hwx⟩ : ∃ qq, qq = w.alloc (.cells #[.int .i64 x.frm, .slice a0 x.seen.length p0, .slice a1 x.tell.seen.length p1, .slice a2 x.tell.items.length p2, .slice a3 x.tell.gone.length p3] 39) := ⟨_, rfl⟩
  have hbx : Below w.heap.size w wx := by rw [hwx]; exact kept_alloc _ _
  have hzx : wx.heap.size = w.heap.size + 1 := by rw [hwx]; simp
  have hx := h.keep (w' := wx) fun b _ hlt => hbx.block b hlt
  have hnx : Blk wx w.heap.size [.int .i64 x.frm, .slice a0 x.seen.length p0, .slice a1 x.tell.seen.length p1, .slice a2 x.tell.items.length p2, .slice a3 x.tell.gone.length p3] 39 := by rw [hwx]; exact Blk.new _ _ _
  have Hx := Lib.hid hx
  have Hwx := Lib.hid hwx; have Hbx := Lib.hid hbx; have Hzx := Lib.hid hzx
  have Hnx := Lib.hid hnx
  clear hx hwx hbx hnx hzx h
  have HTb := Lib.hid (show ∀ W, Below w.heap.size w W → Tabs W ∧ 3 ≤ W.heap.size from fun W hW => ⟨tabs_below hT h3 hW, Nat.le_trans h3 hW.size⟩)
  have HR := Lib.hid (show ∀ W, Below wx.heap.size wx W → Below w.heap.size w W ∧ Blk W w.heap.size [.int .i64 x.frm, .slice a0 x.seen.length p0, .slice a1 x.tell.seen.length p1, .slice a2 x.tell.items.length p2, .slice a3 x.tell.gone.length p3] 39 ∧ MsgIn (fun q => q < w.heap.size) W (.slice a0 x.seen.length p0) (.slice a1 x.tell.seen.length p1) (.slice a2 x.tell.items.length p2) (.slice a3 x.tell.gone.length p3) x from fun W hW => by
    have hz := Hzx.out
    exact ⟨Hbx.out.trans (hW.mono (by omega)), Hnx.out.keep (hW.block _ (by omega)), Hx.out.keep (w' := W) fun q hq hlt => hW.block q hlt⟩)
  obtain ⟨d, hd⟩ : ∃ d, x.frm = d := ⟨_, rfl⟩
  obtain ⟨dk, hdk⟩ : ∃ dk, devOk d = dk := ⟨_, rfl⟩
  obtain ⟨kv, hkv⟩ : ∃ kv, knowsR x.seen = kv := ⟨_, rfl⟩
  obtain ⟨ok, hok⟩ : ∃ ok, validR x.tell = ok := ⟨_, rfl⟩
  have HS := Lib.hid (show svalid x = (dk && kv && ok && x.tell.items.all fun i => !seqIn x.seen i) by unfold svalid; rw [hd, hdk, hkv, hok])
  have HI := Lib.hid (isDev_any wx d)
  rw [hdk] at HI
  have HK := Lib.hid (knows_any wx _ (.slice a0 x.seen.length p0) x.seen (HR.out wx (Below.refl _ _)).2.2.seen)
  rw [hkv] at HK
  obtain ⟨c0, c1, c2, c3, c4⟩ := cell5 Hnx.out
  have Hd := Lib.hid hd; have Hkv := Lib.hid hkv; have Hok := Lib.hid hok; have Hki := Lib.hid hki; have Hkg := Lib.hid hkg
  rw [hd] at c0
  have Hwx' := Lib.hid (show wx = w.alloc (.cells #[.int .i64 d, .slice a0 x.seen.length p0, .slice a1 x.tell.seen.length p1, .slice a2 x.tell.items.length p2, .slice a3 x.tell.gone.length p3] 39) by rw [← hd]; exact Hwx.out)
  rw [hd]
  clear hd hdk hkv hok hki hkg hT
  go_enter Tryz.func50, Tryz.ntmps50
  go_wp2_with fail
  rw [← Hwx'.out]
  refine HI.out.mono ?_
  rintro e w2 ⟨rfl, rfl⟩
  clear HI
  cases dk with
  | false =>
    clear c0 c1 c2 c3 c4
    go_wp2_with fail
    go_ret
    exact ⟨by rw [HS.out]; first | done | rfl, Hbx.out⟩
  | true =>
    go_wp2_with fail
    refine HK.out.mono ?_
    rintro e w2 ⟨rfl, hb2⟩
    obtain ⟨hB2, k2, m2⟩ := HR.out w2 hb2
    clear HK c0 c1 c2 c3 c4
    cases kv with
    | false =>
      clear k2 m2
      go_wp2_with fail
      go_ret
      exact ⟨by rw [HS.out]; first | done | rfl, hB2⟩
    | true =>
      have HC := Lib.hid (check_any w2 (HTb.out w2 hB2).1 (HTb.out w2 hB2).2 _ (.agg #[.slice a1 x.tell.seen.length p1, .slice a2 x.tell.items.length p2, .slice a3 x.tell.gone.length p3]) x.tell ⟨_, _, _, rfl, m2.tell⟩ Hki.out Hkg.out)
      rw [Hok.out] at HC
      obtain ⟨c0, c1, c2, c3, c4⟩ := cell5 k2
      rw [Hd.out] at c0
      have Hb2 := Lib.hid hb2
      clear k2 m2 hB2 hb2
      go_wp2_with fail
      refine HC.out.mono ?_
      rintro e w3 ⟨rfl, hb3⟩
      have hL3 := Hb2.out.trans (hb3.mono Hb2.out.size)
      obtain ⟨hB3, k3, m3⟩ := HR.out w3 hL3
      clear HC c0 c1 c2 c3 c4
      cases ok with
      | false =>
        clear k3 m3 hL3
        go_wp2_with fail
        go_ret
        exact ⟨by rw [HS.out]; first | done | rfl, hB3⟩
      | true =>
        have hkn := (knows_iff x.seen).1 Hkv.out
        have f := valid_formed Hok.out
        have hCF := containsSeq_any w3 w.heap.size a0 p0 _ x.seen (cell5 k3).2.1 m3.seen _ (.slice a2 x.tell.items.length p2) x.tell.items m3.tell.items (by have := (valid_lens Hok.out).2.1; omega) (fun y hy => by
          have := known_seq (f.iknown y hy)
          have h1 : y.pl.2 = y.dev := rfl
          rw [h1, f.len] at this
          rw [hkn.len]
          exact ⟨this.1, this.2.1⟩)
        obtain ⟨al, hal⟩ : ∃ al, (x.tell.items.all fun i => !seqIn x.seen i) = al := ⟨_, rfl⟩
        rw [hal] at hCF HS
        have HCF := Lib.hid hCF; have HB3 := Lib.hid hB3
        obtain ⟨c0, c1, c2, c3, c4⟩ := cell5 k3
        rw [Hd.out] at c0
        clear k3 m3 hL3 hCF hkn f hal hB3 hb3
        go_wp2_with fail
        refine HCF.out.mono ?_
        rintro e w4 ⟨rfl, hb4⟩
        have hB4 := HB3.out.trans (hb4.mono HB3.out.size)
        clear HCF c0 c1 c2 c3 c4 hb4
        cases al with
        | false =>
          go_wp2_with fail
          go_ret
          exact ⟨by rw [HS.out]; first | done | rfl, hB4⟩
        | true =>
          go_wp2_with fail
          go_ret
          exact ⟨by rw [HS.out]; first | done | rfl, hB4⟩
end Go.Proofs.YtelphnigdancpaaGreatDoor
