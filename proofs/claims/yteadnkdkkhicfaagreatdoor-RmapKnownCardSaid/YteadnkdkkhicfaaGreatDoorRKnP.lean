/- The examples of RmapKnown, plain. -/
import Derived.Test.YteadnkdkkhicfaaGreatDoorRDec
namespace Go.Proofs.YteadnkdkkhicfaaGreatDoor
set_option linter.unusedVariables false
set_option maxRecDepth 20000

abbrev kB : RKey := [49, 97, 0, 98]
abbrev kC : RKey := [49, 97, 0, 99]
theorem kB_ok : keyOk kB = true := by decide +kernel
theorem kC_ok : keyOk kC = true := by decide +kernel
def knX : RMap := ⟨[1, 0, 0, 0, 0, 0, 0, 0], [⟨kB, 0, 1, 65536⟩, ⟨kC, 0, 1, 65536⟩], []⟩
def knY : RMap := ⟨[1, 1, 0, 0, 0, 0, 0, 0], [⟨kC, 0, 1, 65536⟩], [⟨kB, 0, 1⟩]⟩
def knZ : RMap := ⟨[2, 0, 0, 0, 0, 0, 0, 0], [⟨kB, 0, 2, 130816⟩, ⟨kC, 0, 1, 65536⟩], []⟩
def knB : RMap := ⟨[2, 1, 0, 0, 0, 0, 0, 0], [⟨kB, 0, 2, 130816⟩, ⟨kC, 0, 1, 65536⟩], [⟨kB, 0, 1⟩]⟩
abbrev kBC : List RKey := [kB, kC]
theorem kn_all (d : Int) (l : List RKey) (h0 : 0 ≤ d) (h8 : d < 8) (hn : l.Nodup) (hl : ∀ k ∈ l, k ∈ kBC) : Allowed d l := ⟨h0, h8, hn, fun k hk => by
  have := hl k hk
  simp only [kBC, List.mem_cons, List.not_mem_nil, or_false] at this
  rcases this with rfl | rfl
  · exact kB_ok
  · exact kC_ok⟩
theorem kn_a1 : Allowed 0 [kC, kB] := kn_all 0 _ (by omega) (by omega) (by decide) (by decide)
theorem kn_a2 : Allowed 1 [kB] := kn_all 1 _ (by omega) (by omega) (by decide) (by decide)
theorem kn_a3 : Allowed 0 [kB] := kn_all 0 _ (by omega) (by omega) (by decide) (by decide)
theorem kn_useX : useM .new 0 [kC, kB] = knX := by
  rw [← refUse_eq .new 0 [kC, kB] new_formed.items (by decide)]
  rfl
theorem kn_goodX : Good kBC 1 knX := by
  have := (Good.new kBC).use kn_a1 (by omega) (by decide) (by omega)
  rw [kn_useX] at this
  exact this
theorem kn_forgetY : forgetM knX 1 [kB] = knY := by
  rw [← refForget_eq knX 1 [kB] kn_goodX.formed]
  rfl
theorem kn_goodY : Good kBC 2 knY := by
  have := kn_goodX.forget kn_a2 (by omega)
  rw [kn_forgetY] at this
  exact this
theorem kn_dec : decUse 65536 1 = 130816 := by decide +kernel
theorem kn_useZ : useM knX 0 [kB] = knZ := by
  rw [← refUse_eq knX 0 [kB] kn_goodX.formed.items (by decide)]
  have e : refItem knX 0 kB = ⟨kB, 0, 2, decUse 65536 1⟩ := rfl
  show RMap.mk _ (([kB].map (refItem knX 0)).foldl (putL RIt.pl) knX.items) _ = _
  rw [List.map_cons, List.map_nil, e, kn_dec]
  rfl
theorem kn_goodZ : Good kBC 2 knZ := by
  have := kn_goodX.use kn_a3 (by omega) (by decide) (by omega)
  rw [kn_useZ] at this
  exact this
theorem kn_mergeA : mergeM knX knY = knY := by
  rw [← refMerge_eq knX knY kn_goodX.formed kn_goodY.formed]
  rfl
theorem kn_mergeB : mergeM knZ knY = knB := by
  rw [← refMerge_eq knZ knY kn_goodZ.formed kn_goodY.formed]
  rfl
theorem kn_goodB : Good kBC 2 knB := by
  have := kn_goodZ.merge kn_goodY
  rw [kn_mergeB] at this
  exact this
theorem kn_x : useR .new 0 [kC, kB] = (knX, 0) := by rw [useR_ok (Good.new kBC) (by simp) kn_a1 (by omega) (by decide) (by omega), kn_useX]
theorem kn_y : forgetR knX 1 [kB] = (knY, 0) := by rw [forgetR_ok kn_goodX (by simp) kn_a2 (by omega), kn_forgetY]
theorem kn_z : useR knX 0 [kB] = (knZ, 0) := by rw [useR_ok kn_goodX (by simp) kn_a3 (by omega) (by decide) (by omega), kn_useZ]
theorem kn_a : mergeR knX knY = (knY, 0) := by rw [mergeR_ok (kn_goodX.mono (by omega)) kn_goodY (by simp), kn_mergeA]
theorem kn_b : mergeR knZ knY = (knB, 0) := by rw [mergeR_ok kn_goodZ kn_goodY (by simp), kn_mergeB]
theorem kn_vx : valueR knX kB = 65536 := by
  unfold valueR
  rw [if_pos (kn_goodX.valid (by simp))]
  decide +kernel
theorem kn_vb : valueR knB kB = 130816 := by
  unfold valueR
  rw [if_pos (kn_goodB.valid (by simp))]
  decide +kernel
theorem kn_new : validR .new = true := (Good.new kBC).valid (by simp)
theorem kn_e1 : useR .new 8 [] = (.empty, 1) := by
  unfold useR
  rw [kn_new, show allowedR 8 [] = false by decide +kernel]
  rfl
theorem kn_e2 : useR .new 0 [kB, kB] = (.empty, 1) := by
  unfold useR
  rw [kn_new, show allowedR 0 [kB, kB] = false by decide +kernel]
  rfl
theorem kn_e3 : useR .new 0 [[107]] = (.empty, 1) := by
  unfold useR
  rw [kn_new, show allowedR 0 [[107]] = false by decide +kernel]
  rfl
theorem kn_e4 : useR .empty 8 [] = (.empty, 5) := by
  unfold useR
  rw [show validR .empty = false by decide +kernel]
  rfl
theorem kn_e5 : decR [] = (.empty, 5) := by
  unfold decR
  rw [if_neg]
  intro h
  exact absurd h.1 (by decide +kernel)
theorem kn_code : codeR .new = List.replicate 10 0 := by decide +kernel
theorem kn_keys (m : RMap) (h : m = knX ∨ m = knY ∨ m = knZ ∨ m = knB) : ((∀ x ∈ m.items, x.key.length ≤ 1000000) ∧ (∀ x ∈ m.gone, x.key.length ≤ 1000000)) ∧ m.seen.length ≤ 1000000 ∧ m.items.length ≤ 1000000 ∧ m.gone.length ≤ 1000000 := by
  rcases h with rfl | rfl | rfl | rfl <;> decide
end Go.Proofs.YteadnkdkkhicfaaGreatDoor
