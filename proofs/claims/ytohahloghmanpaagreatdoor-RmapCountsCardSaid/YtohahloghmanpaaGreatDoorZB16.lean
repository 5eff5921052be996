/-
  Str
-/
import Derived.Test.YtohahloghmanpaaGreatDoorChecked
import Derived.Test.YtohahloghmanpaaGreatDoorZB05
import Derived.WalkSpells
namespace Go.Proofs.YtohahloghmanpaaGreatDoor
open Go.RowKit
set_option linter.unusedVariables false
set_option maxRecDepth 20000

theorem run_strB {F : Blks} {w : World} {v : Value} {l : List UInt8} (h : Bytes F w v l) : (convert 72 9 v).run Tryz.prog w = .ok (.string ⟨l.toArray⟩) w := by
  obtain ⟨a, cap, rfl, hc, hm, hz, hx⟩ := h
  cases a with
  | none =>
    have hl : l = [] := by
      rcases hx with h | ⟨b, off, L, t, fz, h, _⟩
      · exact h
      · cases h
    subst hl
    rw [run_convert_bytes_string w 72 9 5 none _ cap Tryz.underlying72 Tryz.underlying5 Tryz.underlying9]
    rfl
  | some ad =>
    refine run_convert_bytes_back w 72 9 5 ad cap l Tryz.underlying72 Tryz.underlying5 Tryz.underlying9 (fun j hj => ?_)
    rcases hx with rfl | ⟨b, off, L, t, fz, hb, hF, hg, hL, hr⟩
    · simp at hj
    · simp at hb
      subst hb
      rw [Addr.add_lit, cell_of_row w b (off + j) L t fz hg]
      exact hr j hj

theorem run_str1 (w : World) (c : UInt8) : (convert 72 9 (.slice (some ⟨w.heap.size, 0, none⟩) 1 1)).run Tryz.prog (w.alloc (.cells #[B c] 5)) = .ok (.string ⟨#[c]⟩) (w.alloc (.cells #[B c] 5)) :=
  run_strB (F := fun _ => True) (l := [c]) ⟨_, 1, rfl, by simp, by unfold maxLen; omega, nofun, .inr ⟨w.heap.size, 0, #[B c], 5, (0, 0), rfl, trivial, by unfold World.alloc; simp, by simp, fun i hi => by simp at hi; subst hi; rfl⟩⟩
end Go.Proofs.YtohahloghmanpaaGreatDoor
