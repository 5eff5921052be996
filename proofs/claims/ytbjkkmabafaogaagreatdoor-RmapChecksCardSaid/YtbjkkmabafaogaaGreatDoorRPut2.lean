/- coding.PutText; the closure that puts numbers. -/
import Derived.Test.YtbjkkmabafaogaaGreatDoorRPut
namespace Go.Proofs.YtbjkkmabafaogaaGreatDoor
open Go.RowKit
set_option linter.unusedVariables false
set_option maxRecDepth 20000
attribute [local go_sem ↓] seal_append

theorem strCells_list (k : List UInt8) : Lib.strCells ⟨k.toArray⟩ = k.map B := by simp [Lib.strCells, B]

set_option maxRecDepth 100000 in
set_option maxHeartbeats 1500000 in
theorem putText_any (w : World) (F : Blks) (v : Value) (l : List UInt8) (hv : Bytes F w v l) (k : RKey) (hk : k.length ≤ 1000000000000) (hl : l.length ≤ 1000000000000) :
    Calls Tryz.prog 92 #[v, .string ⟨k.toArray⟩] w fun e w' => (∃ r, e = .returned r ∧ w'.ownsRow w.heap.size 5 1 r (l ++ codeText k).length ((l ++ codeText k).map B)) ∧ Below w.heap.size w w' := by
  have HP := Lib.hid (putUint_any w F v l hv k.length (by omega) hl)
  have hw : IntKind.u64.wrap (k.length : Int) = (k.length : Int) := IntWalk.u64_in _ (by omega)
  obtain ⟨kn, hkn⟩ : ∃ kn, k.length = kn := ⟨_, rfl⟩
  obtain ⟨a, cap, rfl, -⟩ := hv
  have Hkn := Lib.hid hkn
  have hsz : (ByteArray.mk k.toArray).size = kn := by rw [← hkn]; rfl
  rw [hkn] at HP hw hk
  clear hkn
  go_enter Tryz.func92, Tryz.ntmps92
  go_wp2_with fail
  refine HP.out.mono ?_
  rintro e w1 ⟨⟨r1, rfl, ho1⟩, hb1⟩
  obtain ⟨i0, hi, hz0, hz1, hz2⟩ := info_parts infoU8
  have hul := uvar_len kn
  obtain ⟨v', w', hr, ho, hg, -⟩ := Lib.run_append_own_string (P := Tryz.prog) w1 w.heap.size 48 9 48 5 i0 Tryz.underlying48 Tryz.underlying9 hi hz0 hz1 hz2 r1 _ _ ho1 ⟨k.toArray⟩ (by rw [hsz, List.length_append]; unfold maxLen; omega) (by rw [hsz, List.length_append]; omega) hb1.size
  have hr' : (AP #[48, 9] 48 #[r1, .string ⟨k.toArray⟩]).run Tryz.prog w1 = .ok v' w' := hr
  have Ho := Lib.hid (show w'.ownsRow w.heap.size 5 1 v' (l ++ codeText k).length ((l ++ codeText k).map B) by
    rw [strCells_list, hsz] at ho
    have e1 : (l ++ codeText k).length = (l ++ uvar kn).length + kn := by unfold codeText; rw [Hkn.out]; simp [Hkn.out]; omega
    have e2 : (l ++ codeText k).map B = (l ++ uvar kn).map B ++ k.map B := by unfold codeText; rw [Hkn.out]; simp
    rw [e1, e2]
    exact ho)
  have Hb := Lib.hid (hb1.trans (Below.grownOwn ho1 hg hb1.size (Nat.le_refl _)))
  clear hr ho hg HP ho1 hb1
  go_wp2_with fail
  go_ret
  exact ⟨⟨_, rfl, Ho.out⟩, Hb.out⟩

/-- the bytes in a box -/
def PutAt (w : World) (bb : Nat) (l : List UInt8) : Prop := ∃ v, Blk w bb [v] 48 ∧ Bytes (fun b => b ≠ bb) w v l
theorem PutAt.keep {w w' : World} {bb : Nat} {l : List UInt8} (h : PutAt w bb l) (hb : Below w.heap.size w w') : PutAt w' bb l := by
  obtain ⟨v, h1, h2⟩ := h
  exact ⟨v, h1.keep (hb.block _ h1.lt), h2.keep fun b _ hlt => hb.block b hlt⟩
theorem PutAt.stored {w w1 : World} {bb : Nat} {l0 l : List UInt8} {v : Value} {base : Nat} (h : PutAt w bb l0) (hb : Below w.heap.size w w1) (ho : w1.ownsRow base 5 1 v l.length (l.map B)) (hbase : w.heap.size ≤ base) : PutAt (w1.setCell ⟨bb, 0, none⟩ v) bb l ∧ Only (fun b => b = bb) w (w1.setCell ⟨bb, 0, none⟩ v) := by
  obtain ⟨v0, h1, h2⟩ := h
  have h3 := h1.keep (hb.block _ h1.lt)
  have hlt := h1.lt
  refine ⟨⟨v, by simpa using h3.set 0 v, ?_⟩, (Only.of_below (F := fun b => b = bb) hb).setCell (p := ⟨bb, 0, none⟩) (.inl rfl) v⟩
  have hby : Bytes (fun b => b ≠ bb) w1 v l := Bytes.of_owns ho _ (fun k hk _ => by omega)
  exact hby.keep fun b hne _ => Below.heap_setCell _ ⟨bb, 0, none⟩ _ b hne

set_option maxRecDepth 100000 in
set_option maxHeartbeats 1500000 in
theorem put_any (w : World) (bb : Nat) (l : List UInt8) (hp : PutAt w bb l) (F : Blks) (v : Value) (ns : List Int) (hv : Rows F w 1 v ns.length (ns.map eI)) (hF : ∀ b, F b → b ≠ bb) (hn : ∀ n ∈ ns, 0 ≤ n ∧ n ≤ 9223372036854775807) (hns : ns.length ≤ 1000000) (hl : l.length ≤ 100000000000) :
    Calls Tryz.prog 90 #[v, .pointer (some ⟨bb, 0, none⟩)] w fun e w' => e = .returned (.tuple #[]) ∧ PutAt w' bb (l ++ ns.flatMap fun n => uvar n.toNat) ∧ Only (fun b => b = bb) w w' := by
  obtain ⟨N, hN⟩ : ∃ N, ns.length = N := ⟨_, rfl⟩
  obtain ⟨a, cap, rfl, -⟩ := hv.shape
  rw [hN] at hv hns ⊢
  have HN := Lib.hid hN; have Hv := Lib.hid hv; have Hp := Lib.hid hp
  clear hN hv hp
  go_enter Tryz.func90, Tryz.ntmps90
  go_wp2_with fail
  go_loopw [7] (fun i wr => ∃ k : Nat, k ≤ N ∧ i = .int .i64 (k : Int) ∧ PutAt wr bb (l ++ (ns.take k).flatMap fun n => uvar n.toNat) ∧ Only (fun b => b = bb) w wr) (fun i _ => N - (intOf i).toNat)
  case atStart => exact ⟨0, by omega, rfl, by simpa using Hp.out, Only.refl _ _⟩
  case round =>
    obtain ⟨k, hk, rfl, hpk, hok⟩ := hrel
    have Hok := Lib.hid hok
    by_cases hkn : k < N
    · have hkI : (k : Int) < (N : Int) := by omega
      have hkl : k < ns.length := by rw [HN.out]; exact hkn
      have hm := Hv.out.keep (w' := wr) fun b hFb hlt => Hok.out.block b hlt (hF b hFb)
      obtain ⟨b, off, rfl, -, -, hc⟩ := int_cell (by rw [HN.out]; exact hm) (by omega)
      have e0 := hc k hkl
      obtain ⟨x, hx⟩ : ∃ x, ns[k] = x := ⟨_, rfl⟩
      rw [hx] at e0
      obtain ⟨hx0, hx1⟩ := hn x (by rw [← hx]; exact List.getElem_mem hkl)
      obtain ⟨m, rfl⟩ := Int.eq_ofNat_of_zero_le hx0
      have hw : IntKind.u64.wrap (m : Int) = (m : Int) := IntWalk.u64_in _ (by omega)
      have hlen : (l ++ (ns.take k).flatMap fun n => uvar n.toNat).length ≤ 1000000000000 := by
        have h1 := flat_len_le (fun n : Int => uvar n.toNat) 10 (ns.take k) fun n _ => uvar_len _
        have h2 : (ns.take k).length ≤ N := by simp; omega
        simp only [List.length_append]; omega
      obtain ⟨L0, hL0⟩ : ∃ L0, l ++ ((ns.take k).flatMap fun n => uvar n.toNat) = L0 := ⟨_, rfl⟩
      rw [hL0] at hpk hlen
      have HL0 := Lib.hid hL0
      obtain ⟨v0, hb0, hby0⟩ := hpk
      have c0 := hb0.cell 0
      simp at c0
      have f0 := hb0.free 0
      have HP := Lib.hid (putUint_any wr _ v0 _ hby0 m (by omega) hlen)
      have Hpk := Lib.hid (show PutAt wr bb _ from ⟨v0, hb0, hby0⟩)
      have Hx := Lib.hid hx
      obtain ⟨a0, cap0, rfl, -⟩ := hby0
      obtain ⟨N0, hN0⟩ : ∃ N0, L0.length = N0 := ⟨_, rfl⟩
      rw [hN0] at HP c0
      clear hm hc hx hb0 hok hL0 hN0 hlen
      go_wp2_with fail
      refine HP.out.mono ?_
      rintro e w1 ⟨⟨r1, rfl, ho1⟩, hb1⟩
      obtain ⟨hp1, ho2⟩ := Hpk.out.stored hb1 ho1 (Nat.le_refl _)
      obtain ⟨v1, hbb⟩ : ∃ v1, Blk w1 bb [v1] 48 := by
        obtain ⟨v1, h1, -⟩ := Hpk.out
        exact ⟨v1, h1.keep (hb1.block _ h1.lt)⟩
      have hfr := hbb.free 0
      have hce := hbb.cell 0
      simp at hce
      obtain ⟨N2, hN2⟩ : ∃ N2, (L0 ++ uvar m).length = N2 := ⟨_, rfl⟩
      obtain ⟨a2, c2, hr2⟩ := own_shape ho1
      rw [hN2] at hr2
      subst hr2
      clear hN2
      have Hp1 := Lib.hid hp1
      have Ho2 := Lib.hid (Hok.out.trans ho2 (fun i h => .inl h))
      clear HP hp1 ho2 ho1 hb1 hbb c0 f0 e0
      go_wp2_with fail
      go_roundw
      case rel => exact ⟨k + 1, by omega, by go_num, by
        rw [flat_take _ _ _ hkl, Hx.out, ← List.append_assoc, HL0.out]
        exact Hp1.out, Ho2.out⟩
      case measure => simp [intOf]; omega
    · have hkI : ¬ (k : Int) < (N : Int) := by omega
      have hke : k = ns.length := by rw [HN.out]; omega
      have Hpk := Lib.hid (show PutAt wr bb (l ++ ns.flatMap fun n => uvar n.toNat) by rw [hke, List.take_length] at hpk; exact hpk)
      clear hpk hok
      go_wp2_with fail
      go_end0
      exact ⟨rfl, Hpk.out, Hok.out⟩
end Go.Proofs.YtbjkkmabafaogaaGreatDoor
