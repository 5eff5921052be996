/-
  RefCode
-/
import Derived.Test.YtohahloghmanpaaGreatDoorZB08
namespace Go.Proofs.YtohahloghmanpaaGreatDoor
open Go.RowKit
set_option linter.unusedVariables false
set_option maxRecDepth 20000
attribute [local go_sem ↓] seal_append

set_option maxRecDepth 100000 in
set_option maxHeartbeats 1500000 in
theorem refUint_any (w : World) (n : Nat) (hn : n < 18446744073709551616) :
    Calls Tryz.prog 65 #[.int .u64 (n : Int)] w fun e w' => (∃ r, e = .returned r ∧ w'.ownsRow w.heap.size 5 1 r (uvar n).length ((uvar n).map B)) ∧ Below w.heap.size w w' := by
  go_enter Tryz.func65, Tryz.ntmps65
  go_wp2_with fail
  go_loopg [0, 3] n (fun k s0 s1 wr => ∃ (m : Nat) (pre : List UInt8), s0 = .int .u64 (m : Int) ∧ m ≤ n ∧ m ≤ k ∧ wr.ownsRow w.heap.size 5 1 s1 pre.length (pre.map B) ∧ pre.length ≤ 10 ∧ pre ++ uvar m = uvar n ∧ Below w.heap.size w wr)
  case atStart => exact ⟨n, [], rfl, Nat.le_refl _, Nat.le_refl _, World.ownsRow_nil _ _ _ _, by simp, rfl, Below.refl _ _⟩
  case round =>
    obtain ⟨m, pre, rfl, hmn, hmk, ho0, hp, hu, hb⟩ := hrel
    have hul := uvar_len n
    obtain ⟨ar, cr, rfl⟩ := own_shape ho0
    obtain ⟨N, hN⟩ : ∃ N, pre.length = N := ⟨_, rfl⟩
    have ha : Apt wr w.heap.size (.slice ar N cr) pre := .inl (by rw [hN] at ho0 ⊢; exact ho0)
    rw [hN]
    have HN := Lib.hid hN
    clear hN ho0
    have Hu := Lib.hid hu; have Hb := Lib.hid hb
    clear hu hb
    by_cases hge : 128 ≤ m
    · have hgI : (128 : Int) ≤ (m : Int) := by omega
      obtain ⟨r8, hr8⟩ : ∃ r8, r8 = m % 128 := ⟨_, rfl⟩
      obtain ⟨d8, hd8⟩ : ∃ d8, d8 = m % 128 + 128 := ⟨_, rfl⟩
      obtain ⟨q, hq⟩ : ∃ q, q = m / 128 := ⟨_, rfl⟩
      have hrm : (m : Int) % 128 = (r8 : Int) := by omega
      have hw8 : IntKind.u8.wrap (r8 : Int) = (r8 : Int) := IntWalk.u8_in _ (by omega)
      have hw9 : IntKind.u8.wrap ((r8 : Int) + 128) = (d8 : Int) := by rw [IntWalk.u8_in _ (by omega)]; omega
      have hsh : (m : Int) / 128 = (q : Int) := by omega
      have hby : (UInt8.ofNat d8).toNat = d8 := by
        rw [UInt8.toNat_ofNat']; omega
      obtain ⟨v', w', hr, ho, hb2⟩ := run_apt_one wr w.heap.size _ _ ha (UInt8.ofNat d8) (by rw [HN.out, ← HN.out]; omega) Hb.out.size
      unfold B at hr
      rw [hby] at hr
      obtain ⟨av, cv, rfl⟩ := own_shape ho
      obtain ⟨N1, hN1⟩ : ∃ N1, (pre ++ [UInt8.ofNat d8]).length = N1 := ⟨_, rfl⟩
      rw [hN1] at hr
      have Ho := Lib.hid (show w'.ownsRow w.heap.size 5 1 (.slice av N1 cv) (pre ++ [UInt8.ofNat d8]).length ((pre ++ [UInt8.ofNat d8]).map B) by rw [← hN1]; exact ho); have Hb2 := Lib.hid hb2; have HN1 := Lib.hid hN1
      have Hd8 := Lib.hid hd8; have Hq := Lib.hid hq
      clear ho hN1 hb2 hd8 hq hby ha hr8
      go_wp2_with fail
      go_roundg q
      case measure => have := Hq.out; omega
      case rel =>
        refine ⟨q, pre ++ [UInt8.ofNat d8], rfl, by have := Hq.out; omega, Nat.le_refl _, Ho.out, ?_, ?_, Hb.out.trans Hb2.out⟩
        · have h1 := congrArg List.length Hu.out
          have h2 := uvar_pos q
          rw [uvar_step m (by omega) (by omega), ← Hq.out] at h1
          simp at h1 ⊢
          omega
        · have h1 := Hu.out
          rw [uvar_step m (by omega) (by omega), ← Hq.out, ← Hd8.out] at h1
          simpa [List.append_assoc] using h1
    · have hgI : ¬ (128 : Int) ≤ (m : Int) := by omega
      have hw8 : IntKind.u8.wrap (m : Int) = (m : Int) := IntWalk.u8_in _ (by omega)
      have hby : (UInt8.ofNat m).toNat = m := by
        rw [UInt8.toNat_ofNat']; omega
      obtain ⟨v', w', hr, ho, hb2⟩ := run_apt_one wr w.heap.size _ _ ha (UInt8.ofNat m) (by rw [HN.out, ← HN.out]; omega) Hb.out.size
      unfold B at hr
      rw [hby] at hr
      obtain ⟨av, cv, rfl⟩ := own_shape ho
      obtain ⟨N1, hN1⟩ : ∃ N1, (pre ++ [UInt8.ofNat m]).length = N1 := ⟨_, rfl⟩
      rw [hN1] at hr
      have Ho := Lib.hid (show w'.ownsRow w.heap.size 5 1 (.slice av N1 cv) (pre ++ [UInt8.ofNat m]).length ((pre ++ [UInt8.ofNat m]).map B) by rw [← hN1]; exact ho); have Hb2 := Lib.hid hb2; have HN1 := Lib.hid hN1
      clear ho hN1 hb2 hby ha
      go_wp2_with fail
      go_ret
      refine ⟨⟨_, rfl, ?_⟩, Hb.out.trans Hb2.out⟩
      have h1 := Hu.out
      rw [uvar_small m (by omega)] at h1
      have h2 := Ho.out
      rw [h1] at h2
      exact h2

set_option maxRecDepth 100000 in
set_option maxHeartbeats 1500000 in
theorem refText_any (w : World) (k : RKey) (hk : k.length ≤ 1000000000000) :
    Calls Tryz.prog 66 #[.string ⟨k.toArray⟩] w fun e w' => (∃ r, e = .returned r ∧ w'.ownsRow w.heap.size 5 1 r (codeText k).length ((codeText k).map B)) ∧ Below w.heap.size w w' := by
  have HP := Lib.hid (refUint_any w k.length (by omega))
  have hw : IntKind.u64.wrap (k.length : Int) = (k.length : Int) := IntWalk.u64_in _ (by omega)
  obtain ⟨kn, hkn⟩ : ∃ kn, k.length = kn := ⟨_, rfl⟩
  have Hkn := Lib.hid hkn
  have hsz : (ByteArray.mk k.toArray).size = kn := by rw [← hkn]; rfl
  rw [hkn] at HP hw hk
  clear hkn
  go_enter Tryz.func66, Tryz.ntmps66
  go_wp2_with fail
  refine HP.out.mono ?_
  rintro e w1 ⟨⟨r1, rfl, ho1⟩, hb1⟩
  obtain ⟨i0, hi, hz0, hz1, hz2⟩ := info_parts infoU8
  have hul := uvar_len kn
  obtain ⟨v', w', hr, ho, hg, -⟩ := Lib.run_append_own_string (P := Tryz.prog) w1 w.heap.size 72 9 72 5 i0 Tryz.underlying72 Tryz.underlying9 hi hz0 hz1 hz2 r1 _ _ ho1 ⟨k.toArray⟩ (by rw [hsz]; unfold maxLen; omega) (by rw [hsz]; omega) hb1.size
  have hr' : (AP #[72, 9] 72 #[r1, .string ⟨k.toArray⟩]).run Tryz.prog w1 = .ok v' w' := hr
  have Ho := Lib.hid (show w'.ownsRow w.heap.size 5 1 v' (codeText k).length ((codeText k).map B) by
    rw [strCells_list, hsz] at ho
    have e1 : (codeText k).length = (uvar kn).length + kn := by unfold codeText; rw [Hkn.out]; simp [Hkn.out]
    have e2 : (codeText k).map B = (uvar kn).map B ++ k.map B := by unfold codeText; rw [Hkn.out]; simp
    rw [e1, e2]
    exact ho)
  have Hb := Lib.hid (hb1.trans (Below.grownOwn ho1 hg hb1.size (Nat.le_refl _)))
  clear hr ho hg HP ho1 hb1
  go_wp2_with fail
  go_ret
  exact ⟨⟨_, rfl, Ho.out⟩, Hb.out⟩

def Out (w wr : World) (base : Nat) (s : Value) (l : List UInt8) : Prop := wr.ownsRow base 5 1 s l.length (l.map B) ∧ Below base w wr ∧ base ≤ wr.heap.size
theorem Out.app {w wr w1 : World} {base : Nat} {s r : Value} {l x : List UInt8} (h : Out w wr base s l) (h1 : Below wr.heap.size wr w1) (ho : w1.ownsRow wr.heap.size 5 1 r x.length (x.map B)) (hl : l.length ≤ 1000000000) (hx : x.length ≤ 1000000000) :
    ∃ a n c w2, (AP #[72, 72] 72 #[s, r]).run Tryz.prog w1 = .ok (.slice a n c) w2 ∧ Out w w2 base (.slice a n c) (l ++ x) ∧ ∀ b L t, Blk wr b L t → t ≠ 5 → Blk w2 b L t := by
  obtain ⟨h2, h3, h4⟩ := h
  have h5 : w1.ownsRow base 5 1 s l.length (l.map B) := own_below h2 h1
  obtain ⟨v', w', hr, hown, hg⟩ := run_append_bytes w1 base s l h5 (fun _ => True) r x (Bytes.of_owns ho _ fun _ _ _ => trivial) (by omega) (Nat.le_trans h4 h1.size)
  obtain ⟨a, c, rfl⟩ := own_shape hown
  have hB : Below base w1 w' := (Below.refl _ _).grown hg (Nat.le_trans h4 h1.size) (fun q hq => (h5.lt q hq).1)
  exact ⟨a, _, c, w', hr, ⟨hown, (h3.trans (h1.mono h4)).trans hB, Nat.le_trans (Nat.le_trans h4 h1.size) hB.size⟩, fun b L t hb ht => (hb.keep (h1.block _ hb.lt)).grownNe h5 (fun e => ht e.symm) hg⟩

theorem Out.alloc {w wr : World} {base : Nat} {s : Value} {l : List UInt8} (h : Out w wr base s l) (o : Obj) : Out w (wr.alloc o) base s l :=
  ⟨own_below h.1 (kept_alloc _ _), h.2.1.alloc h.2.2 _, Nat.le_trans h.2.2 (by simp)⟩
theorem cell_same {w w1 w2 : World} {base : Nat} (h1 : Below base w w1) (h2 : Below base w w2) {a : Addr} {x : Value} (ha : a.block < base) (h : w1.cell? a = some x) : w2.cell? a = some x := by
  have hb : w2.heap[a.block]? = w1.heap[a.block]? := (h2.block _ ha).trans (h1.block _ ha).symm
  unfold World.cell? at *
  rw [hb]
  exact h

set_option maxRecDepth 100000 in
set_option maxHeartbeats 3000000 in
theorem refCode_any (w : World) (F : Blks) (v : Value) (m : RMap) (h : MapV F w v m) (hC : Codable m) :
    Calls Tryz.prog 35 #[v] w fun e w' => (∃ r, e = .returned r ∧ Bytes (fun _ => True) w' r (codeR m)) ∧ Below w.heap.size w w' := by
  replace h := h.mono (G := fun b => b < w.heap.size) fun b _ hlt => hlt
  have HC := Lib.hid hC
  obtain ⟨s1, s2, s3, rfl, h⟩ := h
  obtain ⟨a1, p1, rfl, -⟩ := h.seen.shape
  obtain ⟨a2, p2, rfl, -⟩ := h.items.shape
  obtain ⟨a3, p3, rfl, -⟩ := h.gone.shape
  have l1 := h.seen.len
  have l2 := h.items.len
  have l3 := h.gone.len
  unfold maxLen at l1 l2 l3
  obtain ⟨n1, hn1⟩ : ∃ n, m.seen.length = n := ⟨_, rfl⟩
  obtain ⟨n2, hn2⟩ : ∃ n, m.items.length = n := ⟨_, rfl⟩
  obtain ⟨n3, hn3⟩ : ∃ n, m.gone.length = n := ⟨_, rfl⟩
  rw [hn1, hn2, hn3] at h
  rw [hn1] at l1 ⊢
  rw [hn2] at l2 ⊢
  rw [hn3] at l3 ⊢
  obtain ⟨wx, hwx⟩ : ∃ wx, wx = w.alloc (.cells #[.slice a1 n1 p1, .slice a2 n2 p2, .slice a3 n3 p3] 26) := ⟨_, rfl⟩
  have hbx : Below w.heap.size w wx := by rw [hwx]; exact kept_alloc _ _
  have hzx : wx.heap.size = w.heap.size + 1 := by rw [hwx]; simp
  have hx := h.keep (w' := wx) fun b _ hlt => hbx.block b hlt
  have hnx : Blk wx w.heap.size [.slice a1 n1 p1, .slice a2 n2 p2, .slice a3 n3 p3] 26 := by rw [hwx]; exact Blk.new _ _ _
  have Hx := Lib.hid hx; have Hn1 := Lib.hid hn1; have Hn2 := Lib.hid hn2; have Hn3 := Lib.hid hn3
  have Hwx := Lib.hid hwx; have Hbx := Lib.hid hbx; have Hzx := Lib.hid hzx
  have c0 := hnx.cell 0
  have c1 := hnx.cell 1
  have c2 := hnx.cell 2
  simp at c0 c1 c2
  have Hnx := Lib.hid hnx
  clear hx hn1 hn2 hn3 hwx hbx hnx hzx
  clear h hC
  have HM := Lib.hid (show ∀ w' base, Below base wx w' → base = w.heap.size + 1 → (w'.cell? ⟨w.heap.size, 0, none⟩ = some (.slice a1 n1 p1) ∧ w'.cell? ⟨w.heap.size, 1, none⟩ = some (.slice a2 n2 p2) ∧ w'.cell? ⟨w.heap.size, 2, none⟩ = some (.slice a3 n3 p3)) ∧ MapIn (fun b => b < w.heap.size) w' (.slice a1 n1 p1) (.slice a2 n2 p2) (.slice a3 n3 p3) m from fun w' base hb hbase => by
    have hk := Hnx.out.keep (hb.block _ (by omega))
    have k0 := hk.cell 0
    have k1 := hk.cell 1
    have k2 := hk.cell 2
    simp at k0 k1 k2
    exact ⟨⟨k0, k1, k2⟩, Hx.out.keep fun b hb' hlt => hb.block b (by omega)⟩)
  have HB := Lib.hid (show (codeR m).length ≤ 1000000000 from HC.out.len)
  have hst : Out wx wx (w.heap.size + 1) (.slice none 0 0) [] := ⟨World.ownsRow_nil _ _ _ _, Below.refl _ _, by rw [Hzx.out]; exact Nat.le_refl _⟩
  have Hst := Lib.hid hst
  clear hst c0 c1 c2
  go_enter Tryz.func35, Tryz.ntmps35
  go_wp2_with fail
  rw [← Hwx.out]
  go_loopw [3, 4] (fun s i wr => ∃ k : Nat, k ≤ n1 ∧ i = .int .i64 (k : Int) ∧ Out wx wr (w.heap.size + 1) s ((m.seen.take k).flatMap fun n => uvar n.toNat)) (fun _ i _ => n1 - (intOf i).toNat)
  case atStart => exact ⟨0, by omega, rfl, Hst.out⟩
  case round =>
    obtain ⟨k, hk, rfl, hou⟩ := hrel
    obtain ⟨⟨d0, d1, d2⟩, hmp⟩ := HM.out wr _ hou.2.1 rfl
    obtain ⟨ar, cr, hsr⟩ := own_shape hou.1
    obtain ⟨L0, hL0⟩ : ∃ L0, ((m.seen.take k).flatMap fun n => uvar n.toNat) = L0 := ⟨_, rfl⟩
    obtain ⟨N0, hN0⟩ : ∃ N0, L0.length = N0 := ⟨_, rfl⟩
    rw [hL0] at hou hsr
    rw [hN0] at hsr
    subst hsr
    have hlb : L0.length ≤ 1000000000 := by
      rw [← hL0]
      have h1 := flat_take_le (fun n : Int => uvar n.toNat) m.seen k
      have h2 := codeA_le m
      have h3 := HB.out
      unfold codeA at h2
      rw [List.length_append] at h2
      omega
    have Hlb := Lib.hid hlb; have HL0 := Lib.hid hL0; have Hou := Lib.hid hou
    clear hlb hL0 hN0 hou
    by_cases hkn : k < n1
    · have hkI : (k : Int) < (n1 : Int) := by omega
      have hkl : k < m.seen.length := by rw [Hn1.out]; exact hkn
      obtain ⟨b, off, rfl, -, -, hc⟩ := int_cell hmp.seen (by omega)
      have e0 := hc k hkl
      obtain ⟨x, hx⟩ : ∃ x, m.seen[k] = x := ⟨_, rfl⟩
      rw [hx] at e0
      have hxb := HC.out.seen x (by rw [← hx]; exact List.getElem_mem hkl)
      obtain ⟨q, rfl⟩ := Int.eq_ofNat_of_zero_le hxb.1
      have hw : IntKind.u64.wrap (q : Int) = (q : Int) := IntWalk.u64_in _ (by omega)
      have HU := Lib.hid (refUint_any wr q (by omega))
      have Hx := Lib.hid hx
      clear hc hx hmp
      go_wp2_with fail
      refine HU.out.mono ?_
      rintro e w7 ⟨⟨r7, rfl, ho7⟩, hb7⟩
      obtain ⟨b7, m7, c7, v7, hr7, hou7, hkp7⟩ := Hou.out.app hb7 ho7 (by have := Hlb.out; omega) (by have := uvar_len q; omega)
      obtain ⟨x7, y7, hxy7⟩ := own_shape ho7
      obtain ⟨z7, hz7⟩ : ∃ z, (uvar q).length = z := ⟨_, rfl⟩
      rw [hz7] at hxy7
      subst hxy7
      have Hou7 := Lib.hid hou7
      have Hkp7 := Lib.hid hkp7
      clear hou7 ho7 hb7 hkp7 hz7 HU
      go_wp2_with fail
      go_roundw
      case rel => exact ⟨k + 1, by omega, by go_num, by
        rw [flat_take _ _ _ hkl, Hx.out, HL0.out]
        exact Hou7.out⟩
      case measure => simp [intOf]; omega
    · have hkI : ¬ (k : Int) < (n1 : Int) := by omega
      have hke : k = m.seen.length := by rw [Hn1.out]; omega
      have HL1 := Lib.hid (show L0 = m.seen.flatMap fun n => uvar n.toNat by rw [← HL0.out, hke, List.take_length])
      have hw : IntKind.u64.wrap (n2 : Int) = (n2 : Int) := IntWalk.u64_in _ (by omega)
      have HU := Lib.hid (refUint_any wr n2 (by omega))
      clear HL0 hmp
      go_wp2_with fail
      refine HU.out.mono ?_
      rintro e w7 ⟨⟨r7, rfl, ho7⟩, hb7⟩
      obtain ⟨b7, m7, c7, v7, hr7, hou7, hkp7⟩ := Hou.out.app hb7 ho7 (by have := Hlb.out; omega) (by have := uvar_len n2; omega)
      obtain ⟨x7, y7, hxy7⟩ := own_shape ho7
      obtain ⟨z7, hz7⟩ : ∃ z, (uvar n2).length = z := ⟨_, rfl⟩
      rw [hz7] at hxy7
      subst hxy7
      have Hou7 := Lib.hid hou7
      have Hkp7 := Lib.hid hkp7
      clear hou7 ho7 hb7 hkp7 hz7 HU
      have Hst2 := Lib.hid (show Out wx v7 (w.heap.size + 1) (.slice b7 m7 c7) (codeB m 0) by
        rw [codeB_zero]
        unfold codeA
        rw [Hn2.out, ← HL1.out]
        exact Hou7.out)
      obtain ⟨⟨d70, d71, d72⟩, -⟩ := HM.out v7 _ Hou7.out.2.1 rfl
      clear Hou7 HL1 Hlb Hou hke hkI hkn hk Hst d0 d1 d2
      go_wp2_with fail
      go_loopw [3, 5] (fun s i wr => ∃ k : Nat, k ≤ n2 ∧ i = .int .i64 (k : Int) ∧ Out wx wr (w.heap.size + 1) s (codeB m k)) (fun _ i _ => n2 - (intOf i).toNat)
      case atStart => exact ⟨0, by omega, rfl, Hst2.out⟩
      case round =>
        obtain ⟨k, hk, rfl, hou⟩ := hrel
        obtain ⟨⟨d0, d1, d2⟩, hmp⟩ := HM.out _ _ hou.2.1 rfl
        obtain ⟨ar, cr, hsr⟩ := own_shape hou.1
        have hlb : (codeB m k).length ≤ 1000000000 := Nat.le_trans (codeB_le m k) HB.out
        have hcs := codeB_succ m k
        obtain ⟨L0, hL0⟩ : ∃ L0, codeB m k = L0 := ⟨_, rfl⟩
        obtain ⟨N0, hN0⟩ : ∃ N0, L0.length = N0 := ⟨_, rfl⟩
        rw [hL0] at hou hsr hlb hcs
        rw [hN0] at hsr
        subst hsr
        have Hlb := Lib.hid hlb; have Hou := Lib.hid hou
        have HL0 := Lib.hid hL0
        clear hlb hN0 hou hL0
        by_cases hkn : k < n2
        · have hkI : (k : Int) < (n2 : Int) := by omega
          have hkl : k < m.items.length := by rw [Hn2.out]; exact hkn
          obtain ⟨b, off, rfl, -, -, hc⟩ := it_cell hmp.items (by omega)
          obtain ⟨e0, e1, e2, e3⟩ := hc k hkl
          replace hcs := hcs hkl
          obtain ⟨x, hx⟩ : ∃ x, m.items[k] = x := ⟨_, rfl⟩
          rw [hx] at e0 e1 e2 e3 hcs
          have hxb := HC.out.items x (by rw [← hx]; exact List.getElem_mem hkl)
          obtain ⟨q1, hq1⟩ := Int.eq_ofNat_of_zero_le hxb.2.1.1
          obtain ⟨q2, hq2⟩ := Int.eq_ofNat_of_zero_le hxb.2.2.1.1
          obtain ⟨q3, hq3⟩ := Int.eq_ofNat_of_zero_le hxb.2.2.2.1
          have hkl4 := hxb.1
          have g1 : q1 ≤ 9223372036854775807 := by omega
          have g2 : q2 ≤ 9223372036854775807 := by omega
          have g3 : q3 ≤ 9223372036854775807 := by omega
          obtain ⟨xk, xd, xs, xv⟩ := x
          dsimp only at hq1 hq2 hq3 e0 e1 e2 e3 hcs hkl4
          subst hq1 hq2 hq3
          have u1 : IntKind.u64.wrap (q1 : Int) = (q1 : Int) := IntWalk.u64_in _ (by omega)
          have u2 : IntKind.u64.wrap (q2 : Int) = (q2 : Int) := IntWalk.u64_in _ (by omega)
          have u3 : IntKind.u64.wrap (q3 : Int) = (q3 : Int) := IntWalk.u64_in _ (by omega)
          have Hcs := Lib.hid (show codeB m (k + 1) = (((L0 ++ codeText xk) ++ uvar q1) ++ uvar q2) ++ uvar q3 by rw [hcs]; simp)
          have HouA := Lib.hid (Hou.out.alloc (.cells #[.string ⟨xk.toArray⟩, .int .i64 q1, .int .i64 q2, .int .i64 q3] 44))
          have hXB := Blk.new wr #[.string ⟨xk.toArray⟩, .int .i64 q1, .int .i64 q2, .int .i64 q3] 44
          have HXB := Lib.hid hXB
          have HT := Lib.hid (refText_any (wr.alloc (.cells #[.string ⟨xk.toArray⟩, .int .i64 q1, .int .i64 q2, .int .i64 q3] 44)) xk (by omega))
          have htl := codeText_len xk hkl4
          have Htl := Lib.hid htl
          have Hg := Lib.hid (And.intro g1 (And.intro g2 g3))
          clear hc hx hmp hxb hcs hXB htl hkl4 g1 g2 g3
          go_wp2_with fail
          refine HT.out.mono ?_
          rintro e w7 ⟨⟨r7, rfl, ho7⟩, hb7⟩
          obtain ⟨b7, m7, c7, v7, hr7, hou7, hkp7⟩ := HouA.out.app hb7 ho7 (by have := Hlb.out; omega) (by have := Htl.out; omega)
          obtain ⟨x7, y7, hxy7⟩ := own_shape ho7
          obtain ⟨z7, hz7⟩ : ∃ z, (codeText xk).length = z := ⟨_, rfl⟩
          rw [hz7] at hxy7
          subst hxy7
          have Hou7 := Lib.hid hou7
          have Hkp7 := Lib.hid hkp7
          clear hou7 ho7 hb7 hkp7 hz7 HT
          have hX7 := Hkp7.out _ _ _ HXB.out (by decide)
          have p1 := hX7.cell 1
          simp at p1
          have Hb7 := Lib.hid (show (L0 ++ codeText xk).length ≤ 1000000000 from Nat.le_trans (by rw [Hcs.out]; simp) (Nat.le_trans (codeB_le m (k + 1)) HB.out))
          have HU1 := Lib.hid (refUint_any v7 q1 (by have := Hg.out; omega))
          have HX7 := Lib.hid hX7
          clear hX7 Hkp7 HXB
          go_wp2_with fail
          refine HU1.out.mono ?_
          rintro e w8 ⟨⟨r8, rfl, ho8⟩, hb8⟩
          obtain ⟨b8, m8, c8, v8, hr8, hou8, hkp8⟩ := Hou7.out.app hb8 ho8 (by have := Hb7.out; omega) (by have := uvar_len q1; omega)
          obtain ⟨x8, y8, hxy8⟩ := own_shape ho8
          obtain ⟨z8, hz8⟩ : ∃ z, (uvar q1).length = z := ⟨_, rfl⟩
          rw [hz8] at hxy8
          subst hxy8
          have Hou8 := Lib.hid hou8
          have Hkp8 := Lib.hid hkp8
          clear hou8 ho8 hb8 hkp8 hz8 HU1
          have hX8 := Hkp8.out _ _ _ HX7.out (by decide)
          have p2 := hX8.cell 2
          simp at p2
          have Hb8 := Lib.hid (show ((L0 ++ codeText xk) ++ uvar q1).length ≤ 1000000000 from Nat.le_trans (by rw [Hcs.out]; simp) (Nat.le_trans (codeB_le m (k + 1)) HB.out))
          have HU2 := Lib.hid (refUint_any v8 q2 (by have := Hg.out; omega))
          have HX8 := Lib.hid hX8
          clear hX8 Hkp8 HX7 p1
          go_wp2_with fail
          refine HU2.out.mono ?_
          rintro e w9 ⟨⟨r9, rfl, ho9⟩, hb9⟩
          obtain ⟨b9, m9, c9, v9, hr9, hou9, hkp9⟩ := Hou8.out.app hb9 ho9 (by have := Hb8.out; omega) (by have := uvar_len q2; omega)
          obtain ⟨x9, y9, hxy9⟩ := own_shape ho9
          obtain ⟨z9, hz9⟩ : ∃ z, (uvar q2).length = z := ⟨_, rfl⟩
          rw [hz9] at hxy9
          subst hxy9
          have Hou9 := Lib.hid hou9
          have Hkp9 := Lib.hid hkp9
          clear hou9 ho9 hb9 hkp9 hz9 HU2
          have hX9 := Hkp9.out _ _ _ HX8.out (by decide)
          have p3 := hX9.cell 3
          simp at p3
          have Hb9 := Lib.hid (show (((L0 ++ codeText xk) ++ uvar q1) ++ uvar q2).length ≤ 1000000000 from Nat.le_trans (by rw [Hcs.out]; simp) (Nat.le_trans (codeB_le m (k + 1)) HB.out))
          have HU3 := Lib.hid (refUint_any v9 q3 (by have := Hg.out; omega))
          clear hX9 Hkp9 HX8 p2
          go_wp2_with fail
          refine HU3.out.mono ?_
          rintro e w10 ⟨⟨r10, rfl, ho10⟩, hb10⟩
          obtain ⟨b10, m10, c10, v10, hr10, hou10, hkp10⟩ := Hou9.out.app hb10 ho10 (by have := Hb9.out; omega) (by have := uvar_len q3; omega)
          obtain ⟨x10, y10, hxy10⟩ := own_shape ho10
          obtain ⟨z10, hz10⟩ : ∃ z, (uvar q3).length = z := ⟨_, rfl⟩
          rw [hz10] at hxy10
          subst hxy10
          have Hou10 := Lib.hid hou10
          have Hkp10 := Lib.hid hkp10
          clear hou10 ho10 hb10 hkp10 hz10 HU3
          go_wp2_with fail
          go_roundw
          case rel => exact ⟨k + 1, by omega, by go_num, by rw [Hcs.out]; exact Hou10.out⟩
          case measure => simp [intOf]; omega
        · have hkI : ¬ (k : Int) < (n2 : Int) := by omega
          have hke : k = m.items.length := by rw [Hn2.out]; omega
          have HL1 := Lib.hid (show L0 = codeB m m.items.length by rw [← HL0.out, hke])
          have hw : IntKind.u64.wrap (n3 : Int) = (n3 : Int) := IntWalk.u64_in _ (by omega)
          have HU := Lib.hid (refUint_any wr n3 (by omega))
          clear HL0 hmp hcs
          go_wp2_with fail
          refine HU.out.mono ?_
          rintro e w7 ⟨⟨r7, rfl, ho7⟩, hb7⟩
          obtain ⟨b7, m7, c7, v7, hr7, hou7, hkp7⟩ := Hou.out.app hb7 ho7 (by have := Hlb.out; omega) (by have := uvar_len n3; omega)
          obtain ⟨x7, y7, hxy7⟩ := own_shape ho7
          obtain ⟨z7, hz7⟩ : ∃ z, (uvar n3).length = z := ⟨_, rfl⟩
          rw [hz7] at hxy7
          subst hxy7
          have Hou7 := Lib.hid hou7
          have Hkp7 := Lib.hid hkp7
          clear hou7 ho7 hb7 hkp7 hz7 HU
          have Hst3 := Lib.hid (show Out wx v7 (w.heap.size + 1) (.slice b7 m7 c7) (codeC m 0) by
            rw [codeC_zero, Hn3.out, ← HL1.out]
            exact Hou7.out)
          obtain ⟨⟨d70, d71, d72⟩, -⟩ := HM.out v7 _ Hou7.out.2.1 rfl
          clear Hou7 HL1 Hlb Hou hke hkI hkn hk Hst2 d0 d1 d2 Hkp7
          go_wp2_with fail
          go_loopw [3, 7] (fun s i wr => ∃ k : Nat, k ≤ n3 ∧ i = .int .i64 (k : Int) ∧ Out wx wr (w.heap.size + 1) s (codeC m k)) (fun _ i _ => n3 - (intOf i).toNat)
          case atStart => exact ⟨0, by omega, rfl, Hst3.out⟩
          case round =>
            obtain ⟨k, hk, rfl, hou⟩ := hrel
            obtain ⟨⟨d0, d1, d2⟩, hmp⟩ := HM.out _ _ hou.2.1 rfl
            obtain ⟨ar, cr, hsr⟩ := own_shape hou.1
            have hlb : (codeC m k).length ≤ 1000000000 := Nat.le_trans (codeC_le m k) HB.out
            have hcs := codeC_succ m k
            obtain ⟨L0, hL0⟩ : ∃ L0, codeC m k = L0 := ⟨_, rfl⟩
            obtain ⟨N0, hN0⟩ : ∃ N0, L0.length = N0 := ⟨_, rfl⟩
            rw [hL0] at hou hsr hlb hcs
            rw [hN0] at hsr
            subst hsr
            have Hlb := Lib.hid hlb; have Hou := Lib.hid hou
            have HL0 := Lib.hid hL0
            clear hlb hN0 hou hL0
            by_cases hkn : k < n3
            · have hkI : (k : Int) < (n3 : Int) := by omega
              have hkl : k < m.gone.length := by rw [Hn3.out]; exact hkn
              obtain ⟨b, off, rfl, hFb, -, hc⟩ := go_cell hmp.gone (by omega)
              obtain ⟨e0, e1, e2⟩ := hc k hkl
              replace hcs := hcs hkl
              obtain ⟨x, hx⟩ : ∃ x, m.gone[k] = x := ⟨_, rfl⟩
              rw [hx] at e0 e1 e2 hcs
              have hxb := HC.out.gone x (by rw [← hx]; exact List.getElem_mem hkl)
              obtain ⟨q1, hq1⟩ := Int.eq_ofNat_of_zero_le hxb.2.1.1
              obtain ⟨q2, hq2⟩ := Int.eq_ofNat_of_zero_le hxb.2.2.1
              have hkl4 := hxb.1
              have g1 : q1 ≤ 9223372036854775807 := by omega
              have g2 : q2 ≤ 9223372036854775807 := by omega
              obtain ⟨xk, xd, xs⟩ := x
              dsimp only at hq1 hq2 e0 e1 e2 hcs hkl4
              subst hq1 hq2
              have u1 : IntKind.u64.wrap (q1 : Int) = (q1 : Int) := IntWalk.u64_in _ (by omega)
              have u2 : IntKind.u64.wrap (q2 : Int) = (q2 : Int) := IntWalk.u64_in _ (by omega)
              have Hcs := Lib.hid (show codeC m (k + 1) = ((L0 ++ codeText xk) ++ uvar q1) ++ uvar q2 by rw [hcs]; simp)
              have HG := Lib.hid (show ∀ w', Below (w.heap.size + 1) wx w' → w'.cell? _ = _ ∧ w'.cell? _ = _ from fun w' hb => ⟨cell_same Hou.out.2.1 hb (by show b < _; omega) e1, cell_same Hou.out.2.1 hb (by show b < _; omega) e2⟩)
              have HT := Lib.hid (refText_any wr xk (by omega))
              have htl := codeText_len xk hkl4
              have Htl := Lib.hid htl
              have Hg := Lib.hid (And.intro g1 g2)
              clear hc hx hmp hxb hcs htl hkl4 g1 g2 e1 e2
              go_wp2_with fail
              refine HT.out.mono ?_
              rintro e w7 ⟨⟨r7, rfl, ho7⟩, hb7⟩
              obtain ⟨b7, m7, c7, v7, hr7, hou7, hkp7⟩ := Hou.out.app hb7 ho7 (by have := Hlb.out; omega) (by have := Htl.out; omega)
              obtain ⟨x7, y7, hxy7⟩ := own_shape ho7
              obtain ⟨z7, hz7⟩ : ∃ z, (codeText xk).length = z := ⟨_, rfl⟩
              rw [hz7] at hxy7
              subst hxy7
              have Hou7 := Lib.hid hou7
              have Hkp7 := Lib.hid hkp7
              clear hou7 ho7 hb7 hkp7 hz7 HT
              obtain ⟨p1, -⟩ := HG.out _ Hou7.out.2.1
              obtain ⟨⟨t0, t1, t2⟩, -⟩ := HM.out _ _ Hou7.out.2.1 rfl
              have Hb7 := Lib.hid (show (L0 ++ codeText xk).length ≤ 1000000000 from Nat.le_trans (by rw [Hcs.out]; simp) (Nat.le_trans (codeC_le m (k + 1)) HB.out))
              have HU1 := Lib.hid (refUint_any v7 q1 (by have := Hg.out; omega))
              clear Hkp7 e0 d0 d1 d2
              go_wp2_with fail
              refine HU1.out.mono ?_
              rintro e w8 ⟨⟨r8, rfl, ho8⟩, hb8⟩
              obtain ⟨b8, m8, c8, v8, hr8, hou8, hkp8⟩ := Hou7.out.app hb8 ho8 (by have := Hb7.out; omega) (by have := uvar_len q1; omega)
              obtain ⟨x8, y8, hxy8⟩ := own_shape ho8
              obtain ⟨z8, hz8⟩ : ∃ z, (uvar q1).length = z := ⟨_, rfl⟩
              rw [hz8] at hxy8
              subst hxy8
              have Hou8 := Lib.hid hou8
              have Hkp8 := Lib.hid hkp8
              clear hou8 ho8 hb8 hkp8 hz8 HU1
              obtain ⟨-, p2⟩ := HG.out _ Hou8.out.2.1
              obtain ⟨⟨f0, f1, f2⟩, -⟩ := HM.out _ _ Hou8.out.2.1 rfl
              have Hb8 := Lib.hid (show ((L0 ++ codeText xk) ++ uvar q1).length ≤ 1000000000 from Nat.le_trans (by rw [Hcs.out]; simp) (Nat.le_trans (codeC_le m (k + 1)) HB.out))
              have HU2 := Lib.hid (refUint_any v8 q2 (by have := Hg.out; omega))
              clear Hkp8 p1 t0 t1 t2
              go_wp2_with fail
              refine HU2.out.mono ?_
              rintro e w9 ⟨⟨r9, rfl, ho9⟩, hb9⟩
              obtain ⟨b9, m9, c9, v9, hr9, hou9, hkp9⟩ := Hou8.out.app hb9 ho9 (by have := Hb8.out; omega) (by have := uvar_len q2; omega)
              obtain ⟨x9, y9, hxy9⟩ := own_shape ho9
              obtain ⟨z9, hz9⟩ : ∃ z, (uvar q2).length = z := ⟨_, rfl⟩
              rw [hz9] at hxy9
              subst hxy9
              have Hou9 := Lib.hid hou9
              have Hkp9 := Lib.hid hkp9
              clear hou9 ho9 hb9 hkp9 hz9 HU2
              go_wp2_with fail
              go_roundw
              case rel => exact ⟨k + 1, by omega, by go_num, by rw [Hcs.out]; exact Hou9.out⟩
              case measure => simp [intOf]; omega
            · have hkI : ¬ (k : Int) < (n3 : Int) := by omega
              have hke : k = m.gone.length := by rw [Hn3.out]; omega
              have Hend := Lib.hid (show (∃ r, Ending.returned (.slice ar N0 cr) = .returned r ∧ Bytes (fun _ => True) wr r (codeR m)) ∧ Below w.heap.size w wr by
                refine ⟨⟨_, rfl, ?_⟩, Hbx.out.trans (Hou.out.2.1.mono (by omega))⟩
                rw [← codeC_all, ← hke, HL0.out]
                exact Bytes.of_owns Hou.out.1 _ fun _ _ _ => trivial)
              clear hcs hmp
              go_wp2_with fail
              go_ret
              exact Hend.out
end Go.Proofs.YtohahloghmanpaaGreatDoor
