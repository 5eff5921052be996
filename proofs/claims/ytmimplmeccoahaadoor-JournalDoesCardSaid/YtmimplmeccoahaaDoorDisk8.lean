/- Copy of a disk, by contract. -/
import Derived.Test.YtmimplmeccoahaaDoorDisk7
namespace Go.Proofs.YtmimplmeccoahaaDoor
open Go.RowKit
set_option linter.unusedVariables false
set_option maxRecDepth 20000
attribute [local go_sem ↓] seal_append seal_build_fault seal_load_sector seal_load_fault seal_store_sector seal_store_fault
/-- a new variable, kept whole -/
def AL (t : TypeId) (h : Bool) (old : Value) : Sem Value := Instr.alloc t h old
theorem seal_alloc_fault (h : Bool) (old : Value) : Instr.alloc 89 h old = AL 89 h old := rfl
attribute [local go_sem ↓] seal_alloc_fault

theorem Sectors.oneCell {L : List Value} {S : List (List UInt8)} (h : Sectors L S) : ∀ v ∈ L.take (S.length * 64), v.oneCell' = true := by
  intro v hv
  obtain ⟨j, hj, rfl⟩ := List.getElem_of_mem hv
  simp only [List.length_take] at hj
  have h1 := h.1
  have hi : j / 64 < S.length := by omega
  have hl : (S[j / 64]).length = 64 := h.2.2 _ (List.getElem_mem hi)
  have := flat_get h (j / 64) hi (j % 64) (by omega)
  rw [show j / 64 * 64 + j % 64 = j from by omega] at this
  rw [List.getElem?_eq_getElem (by omega)] at this
  simp only [Option.some.injEq] at this
  rw [List.getElem_take, this]
  rfl

theorem Sectors.cut {L M : List Value} {S : List (List UInt8)} (h : Sectors L S) (hM : S.length * 64 ≤ M.length) (he : M.take (S.length * 64) = L.take (S.length * 64)) : Sectors M S := by
  refine ⟨hM, fun i hi => ?_, h.2.2⟩
  rw [← h.2.1 i hi]
  apply List.ext_getElem?
  intro k
  simp only [List.getElem?_take, List.getElem?_drop]
  by_cases hk : k < 64
  · rw [if_pos hk, if_pos hk]
    have : (M.take (S.length * 64))[i * 64 + k]? = (L.take (S.length * 64))[i * 64 + k]? := by rw [he]
    rw [List.getElem?_take, List.getElem?_take, if_pos (by omega), if_pos (by omega)] at this
    exact this
  · rw [if_neg hk, if_neg hk]

theorem cloneSectors_any (w : World) (bs cap : Nat) (L : List Value) (S : List (List UInt8)) (h : Blk w bs L 87) (hs : Sectors L S) (h0 : 0 < S.length) (h1 : S.length ≤ 65536) :
    Calls Tryd.prog 82 #[.slice (some ⟨bs, 0, none⟩) S.length cap] w fun e w' => ∃ g c M, e = .returned (.slice (some ⟨g, 0, none⟩) S.length c) ∧
      w.heap.size ≤ g ∧ S.length ≤ c ∧ c ≤ maxLen ∧ Blk w' g M 87 ∧ Sectors M S ∧ Below w.heap.size w w' := by
  obtain ⟨i0, hi, hz0, hz1, hz2⟩ := info_parts infoSector
  have hW : Blk (w.alloc (.cells #[] 87)) bs L 87 := h.alloc _
  have hlen := hs.1
  obtain ⟨v', w', hr, hown, hgb, _⟩ := run_append_own (P := Tryd.prog) (w.alloc (.cells #[] 87)) w.heap.size 83 83 87 i0 _ 64 64 Tryd.underlying83 hi hz0 hz1 hz2 rfl (by decide)
    (.slice (some ⟨w.heap.size, 0, none⟩) 0 0) 0 [] ⟨by simp, .inr ⟨w.heap.size, 0, #[], rfl, Nat.le_refl _, by unfold World.alloc; simp, Nat.le_refl _, by unfold maxLen; omega, rfl, rfl⟩⟩
    ⟨bs, 0, none⟩ S.length cap (L.take (S.length * 64)) (by simp; omega) (fun j u hj => by
      rw [Addr.add_lit, Nat.zero_add, hW.cell j]
      rw [List.getElem?_take] at hj
      split at hj
      · exact hj
      · cases hj) hs.oneCell (by unfold maxLen; omega) (by omega) (by simp)
  have hr' : (AP #[83, 83] 83 #[.slice (some ⟨w.heap.size, 0, none⟩) 0 0, .slice (some ⟨bs, 0, none⟩) S.length cap]).run Tryd.prog (w.alloc (.cells #[] 87)) = .ok v' w' := hr
  have hn := fun (W : World) => Lib.run_eql_slice_nil (P := Tryd.prog) W 83 87 (some ⟨bs, 0, none⟩) S.length cap 0 0 Tryd.underlying83
  have Hown := Lib.hid hown
  have Hgb := Lib.hid hgb
  clear hr hown hgb hlen hW
  go_enter Tryd.func82, Tryd.ntmps82
  go_wp2_with fail
  go_ret
  obtain ⟨k1, k2⟩ := Hown.out
  rcases k2 with ⟨_, k2⟩ | ⟨g, c, cur, rfl, hg1, hg2, hg3, hg4, hg5, hg6⟩
  · omega
  · refine ⟨g, c, cur.toList, by simp, hg1, by omega, hg4, by unfold Blk; simpa using hg2, hs.cut (by simp; omega) (by simpa using hg6), (kept_alloc _ _).grown Hgb.out (by simp) (fun k hk => by simp [Value.ownBlock] at hk; omega)⟩

theorem run_AL_fault (w : World) (h : Bool) : ∃ z, z.size = 65 ∧ (AL 89 h (.tuple #[])).run Tryd.prog w = .ok (.pointer (some ⟨w.heap.size, 0, none⟩)) (w.alloc (.cells z 89)) := by
  obtain ⟨i, zv, hi, hz, hs⟩ := info_zero zeroFault
  refine ⟨zv.cells, hs, ?_⟩
  cases h <;> simp [AL, Instr.alloc, zeroValue, typeInfo, hi, hz, newVar, newRow] <;> rfl
end Go.Proofs.YtmimplmeccoahaaDoor
