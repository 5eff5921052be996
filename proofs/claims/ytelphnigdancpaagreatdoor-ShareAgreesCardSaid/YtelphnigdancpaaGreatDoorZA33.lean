/-
  RDec SDec SKnP
-/
import Derived.Test.YtelphnigdancpaaGreatDoorZA02
import Derived.Test.YtelphnigdancpaaGreatDoorZA03
namespace Go.Proofs.YtelphnigdancpaaGreatDoor
set_option linter.unusedVariables false
set_option maxRecDepth 20000

/-! a reader: what is still to be read; none: something was wrong -/
/-! what was read -/
/-! a code that was read to its end is the code of what was read -/
/-! the code of a valid map is read -/
end Go.Proofs.YtelphnigdancpaaGreatDoor

namespace Go.Proofs.YtelphnigdancpaaGreatDoor
set_option linter.unusedVariables false
set_option maxRecDepth 20000

theorem svalid_tell {x : SMsg} (h : svalid x = true) : validR x.tell = true := by
  unfold svalid at h
  simp only [Bool.and_eq_true] at h
  exact h.1.2
end Go.Proofs.YtelphnigdancpaaGreatDoor

namespace Go.Proofs.YtelphnigdancpaaGreatDoor
set_option linter.unusedVariables false
set_option maxRecDepth 20000

abbrev sK : RKey := [49, 97, 0, 98]
abbrev sKs : List RKey := [sK]
theorem sK_ok : keyOk sK = true := by decide +kernel
def shX : RMap := ⟨[1, 0, 0, 0, 0, 0, 0, 0], [⟨sK, 0, 1, 65536⟩], []⟩
def shY : RMap := ⟨[2, 0, 0, 0, 0, 0, 0, 0], [⟨sK, 0, 2, 130816⟩], []⟩
def shE : RMap := ⟨[2, 0, 0, 0, 0, 0, 0, 0], [], []⟩
abbrev no8 : List Int := [0, 0, 0, 0, 0, 0, 0, 0]
abbrev one8 : List Int := [1, 0, 0, 0, 0, 0, 0, 0]
def shA : SMsg := ⟨0, no8, shY⟩
def shC : SMsg := ⟨0, one8, shY⟩
theorem sh_all : Allowed 0 [sK] := ⟨by omega, by omega, by decide, fun k hk => by rw [List.mem_singleton.1 hk]; exact sK_ok⟩
theorem sh_useX : useM .new 0 [sK] = shX := by
  rw [← refUse_eq .new 0 [sK] new_formed.items (by decide)]
  rfl
theorem sh_goodX : Good sKs 1 shX := by
  have := (Good.new sKs).use sh_all (by omega) (by decide) (by omega)
  rw [sh_useX] at this
  exact this
theorem sh_dec : decUse 65536 1 = 130816 := by decide +kernel
theorem sh_useY : useM shX 0 [sK] = shY := by
  rw [← refUse_eq shX 0 [sK] sh_goodX.formed.items (by decide)]
  have e : refItem shX 0 sK = ⟨sK, 0, 2, decUse 65536 1⟩ := rfl
  show RMap.mk _ (([sK].map (refItem shX 0)).foldl (putL RIt.pl) shX.items) _ = _
  rw [List.map_cons, List.map_nil, e, sh_dec]
  rfl
theorem sh_goodY : Good sKs 2 shY := by
  have := sh_goodX.use sh_all (by omega) (by decide) (by omega)
  rw [sh_useY] at this
  exact this
theorem sh_x : useR .new 0 [sK] = (shX, 0) := by rw [useR_ok (Good.new sKs) (by simp) sh_all (by omega) (by decide) (by omega), sh_useX]
theorem sh_y : useR shX 0 [sK] = (shY, 0) := by rw [useR_ok sh_goodX (by simp) sh_all (by omega) (by decide) (by omega), sh_useY]
theorem sh_vn : validR .new = true := (Good.new sKs).valid (by simp)
theorem sh_vx : validR shX = true := sh_goodX.valid (by simp)
theorem sh_vy : validR shY = true := sh_goodY.valid (by simp)
theorem sh_since {m : RMap} {s : List Int} {t : RMap} (hv : validR m = true) (hk : knowsR s = true) (ht : sinceF m s = t) : sinceR m s = (t, 0) := by
  unfold sinceR
  rw [hv, hk, ht]
  rfl
theorem sh_since2 : sinceR shY one8 = (shY, 0) := sh_since sh_vy (by decide +kernel) rfl
theorem sh_since4 : sinceR shY no8 = (shY, 0) := sh_since sh_vy (by decide +kernel) rfl
theorem sh_a : sendR 0 shY no8 = (shA, 0) := by
  unfold sendR
  rw [sh_since4]
  rfl
theorem sh_c : sendR 0 shY one8 = (shC, 0) := by
  unfold sendR
  rw [sh_since2]
  rfl
theorem sh_vA : svalid shA = true := by
  unfold svalid
  rw [show validR shA.tell = true from sh_vy]
  decide +kernel
theorem sh_vC : svalid shC = true := by
  unfold svalid
  rw [show validR shC.tell = true from sh_vy]
  decide +kernel
theorem sh_mergeN : mergeM .new shY = shY := by
  rw [← refMerge_eq .new shY new_formed sh_goodY.formed]
  rfl
theorem sh_mergeX : mergeM shX shY = shY := by
  rw [← refMerge_eq shX shY sh_goodX.formed sh_goodY.formed]
  rfl
theorem sh_mN : mergeR .new shY = (shY, 0) := by rw [mergeR_ok ((Good.new sKs).mono (by omega)) sh_goodY (by simp), sh_mergeN]
theorem sh_mX : mergeR shX shY = (shY, 0) := by rw [mergeR_ok (sh_goodX.mono (by omega)) sh_goodY (by simp), sh_mergeX]
theorem sh_b : recvR .new shA = (shY, 0) := by
  unfold recvR
  rw [sh_vn, sh_vA, show aheadR shA.seen RMap.new.seen = false by decide +kernel]
  exact sh_mN
theorem sh_j : recvR .new shC = (.empty, 8) := by
  unfold recvR
  rw [sh_vn, sh_vC, show aheadR shC.seen RMap.new.seen = true by decide +kernel]
  rfl
theorem sh_d : recvR shX shC = (shY, 0) := by
  unfold recvR
  rw [sh_vx, sh_vC, show aheadR shC.seen shX.seen = false by decide +kernel]
  exact sh_mX
theorem sh_keys (m : RMap) (h : m = shX ∨ m = shY ∨ m = shE) : ((∀ x ∈ m.items, x.key.length ≤ 1000000) ∧ (∀ x ∈ m.gone, x.key.length ≤ 1000000)) ∧ m.seen.length ≤ 1000000 ∧ m.items.length ≤ 1000000 ∧ m.gone.length ≤ 1000000 := by
  rcases h with rfl | rfl | rfl <;> decide
end Go.Proofs.YtelphnigdancpaaGreatDoor
