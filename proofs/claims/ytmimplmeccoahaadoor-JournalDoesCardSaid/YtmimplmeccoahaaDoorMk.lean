/- New rows of bytes. -/
import Derived.Test.YtmimplmeccoahaaDoorDisk9
namespace Go.Proofs.YtmimplmeccoahaaDoor
open Go.RowKit
set_option linter.unusedVariables false
set_option maxRecDepth 20000
theorem seal_make_bytes (l c : Value) : Instr.makeSlice 30 l c = MK 30 l c := rfl
attribute [local go_sem ↓] seal_append seal_make_bytes

/-- a new row of n zero bytes -/
theorem run_make_bytes (w : World) (n : Nat) (h : n ≤ 140737488355328) :
    ∃ w', (MK 30 (.int .i64 (n : Int)) (.int .i64 (n : Int))).run Tryd.prog w = .ok (.slice (some ⟨w.heap.size, 0, none⟩) n n) w' ∧ Blk w' w.heap.size (List.replicate n (B 0)) 5 ∧ Below w.heap.size w w' := by
  obtain ⟨i0, hi, hz0, hz1, hz2⟩ := info_parts infoU8
  obtain ⟨w2, hr, hown, hgb⟩ := run_make_full (P := Tryd.prog) w w.heap.size 30 5 i0 _ 1 Tryd.underlying30 hi hz0 hz1 .i64 .i64 n (by rw [hz2]; omega) (by unfold maxLen; omega) (Nat.le_refl _)
  refine ⟨w2, hr, ?_, (Below.refl _ _).grown hgb (Nat.le_refl _) (by simp)⟩
  obtain ⟨g, cap, cur, hv, hg1, hg2, hg3, hg4, hg5, hg6⟩ := hown.2.resolve_left (by rintro ⟨h, _⟩; cases h)
  simp at hv
  obtain ⟨rfl, rfl⟩ := hv
  have hcur : cur.toList = List.replicate n (B 0) := by
    rw [List.take_of_length_le (by simp; omega)] at hg6
    rw [hg6]
    have : (Value.int .u8 0).cells = Array.replicate 1 (.int .u8 0) := rfl
    rw [this, madeCells_replicate _ _ _ (by decide)]
    simp only [Array.toList_replicate, Nat.mul_one]
    rfl
  unfold Blk
  rw [← hcur]
  simpa using hg2

theorem set_rep (n k : Nat) (a b : Value) (h : k < n) : (List.replicate k a ++ List.replicate (n - k) b).set k a = List.replicate (k + 1) a ++ List.replicate (n - (k + 1)) b := by
  rw [List.set_append_right _ _ (by simp)]
  simp only [List.length_replicate, Nat.sub_self]
  obtain ⟨m, hm⟩ : ∃ m, n - k = m + 1 := ⟨n - k - 1, by omega⟩
  rw [hm, List.replicate_succ, List.set_cons_zero, show n - (k + 1) = m from by omega, List.replicate_succ' (n := k)]
  simp

/-- its bytes -/
theorem bytes_of_blk {w : World} {g : Nat} {l : List UInt8} {t : TypeId} (h : Blk w g (l.map B) t) (hl : l.length ≤ maxLen) (F : Blks) (hF : F g) : Bytes F w (.slice (some ⟨g, 0, none⟩) l.length l.length) l :=
  ⟨_, _, rfl, Nat.le_refl _, hl, nofun, .inr ⟨g, 0, _, t, (0, 0), rfl, hF, h, by simp, fun i hi => by simp [List.getElem?_eq_getElem hi]⟩⟩
theorem bytes_of_sector {w : World} {g : Nat} {c : UInt8} {t : TypeId} (h : Blk w g (List.replicate 64 (B c)) t) (F : Blks) (hF : F g) : Bytes F w (.slice (some ⟨g, 0, none⟩) 64 64) (List.replicate 64 c) := by
  have := bytes_of_blk (l := List.replicate 64 c) (t := t) (w := w) (g := g) (by simpa using h) (by simp [maxLen]) F hF
  simpa using this
end Go.Proofs.YtmimplmeccoahaaDoor
