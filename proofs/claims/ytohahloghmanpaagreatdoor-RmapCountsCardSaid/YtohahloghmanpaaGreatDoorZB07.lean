/-
  Clone
-/
import Derived.Test.YtohahloghmanpaaGreatDoorChecked
import Derived.Test.YtohahloghmanpaaGreatDoorZB05
import Derived.WalkSpells
namespace Go.Proofs.YtohahloghmanpaaGreatDoor
open Go.RowKit
set_option linter.unusedVariables false
set_option maxRecDepth 20000
attribute [local go_sem ↓] seal_append

theorem infoU8 : (Tryz.prog.info? 5).map (fun i => (i.zero, i.size, i.bytes)) = some (some (.int .u8 0), 1, 1) := by kernel_rfl

theorem run_append_bytes (W : World) (base : Nat) (v : Value) (xs : List UInt8) (hown : W.ownsRow base 5 1 v xs.length (xs.map B)) (F : Blks) (x : Value) (l : List UInt8) (hx : Bytes F W x l)
    (hlen : xs.length + l.length ≤ 140737488355328) (hbase : base ≤ W.heap.size) :
    ∃ v' w', (AP #[72, 72] 72 #[v, x]).run Tryz.prog W = .ok v' w' ∧ w'.ownsRow base 5 1 v' (xs ++ l).length ((xs ++ l).map B) ∧ W.grownBy w' v.ownBlock := by
  obtain ⟨i0, hi, hz0, hz1, hz2⟩ := info_parts infoU8
  obtain ⟨a, cap, rfl, hc, hm, hz, hx⟩ := hx
  cases a with
  | none =>
    have hl : l = [] := by
      rcases hx with h | ⟨b, off, L, t, fz, h, _⟩
      · exact h
      · cases h
    subst hl
    obtain rfl := hz rfl
    exact ⟨v, W, run_append_owned_none W base 72 72 5 i0 1 Tryz.underlying72 hi v _ _ hown, by simpa using hown, World.grownBy.refl _ _⟩
  | some ad =>
    obtain ⟨v', w', hr, h1, h2, h3⟩ := run_append_own (P := Tryz.prog) W base 72 72 5 i0 _ 1 1 Tryz.underlying72 hi hz0 hz1 hz2 rfl (by decide) v xs.length (xs.map B) hown ad l.length cap (l.map B) (by simp)
      (fun j u hj => by
        rcases hx with rfl | ⟨b, off, L, t, fz, hb, hF, hg, hL, hr⟩
        · simp at hj
        · simp at hb
          subst hb
          have hjl : j < l.length := by have := (List.getElem?_eq_some_iff.1 hj).1; simpa using this
          rw [Addr.add_lit, cell_of_row W b (off + j) L t fz hg, hr j hjl]
          simp [List.getElem?_eq_getElem hjl] at hj
          simp [hj])
      (oneCell_B l) (by unfold maxLen; omega) (by omega) hbase
    exact ⟨v', w', hr, by simpa using h1, h2⟩

theorem clone_any (w : World) (F : Blks) (v : Value) (l : List UInt8) (hv : Bytes F w v l) (hlen : l.length ≤ 140737488355328) :
    Calls Tryz.prog 79 #[v] w fun e w' => ∃ r, e = .returned r ∧ w'.ownsRow w.heap.size 5 1 r l.length (l.map B) ∧ Below w.heap.size w w' := by
  have hv0 := hv
  obtain ⟨a, cap, rfl, hc, hm, hz, hx⟩ := hv
  have hW : Bytes F (w.alloc (.cells #[] 5)) (.slice a l.length cap) l := hv0.keep fun b _ hb => Below.heap_alloc _ _ _ hb
  obtain ⟨v', w', hr, hown, hgb⟩ := run_append_bytes (w.alloc (.cells #[] 5)) w.heap.size (.slice (some ⟨w.heap.size, 0, none⟩) 0 0) []
    ⟨rfl, .inr ⟨w.heap.size, 0, #[], rfl, Nat.le_refl _, by unfold World.alloc; simp, Nat.le_refl _, by unfold maxLen; omega, rfl, rfl⟩⟩ F (.slice a l.length cap) l hW (by simpa using hlen) (by simp)
  have Hown := Lib.hid hown; clear hown
  have Hgb := Lib.hid hgb; clear hgb
  have Hx := Lib.hid hx; clear hx
  cases a with
  | none =>
    have hl : l = [] := by
      rcases Hx.out with h | ⟨b, off, L, t, fz, h, _⟩
      · exact h
      · cases h
    subst hl
    obtain rfl := hz rfl
    have hn := fun (W : World) => Lib.run_eql_slice_nil (P := Tryz.prog) W 72 5 none 0 0 0 0 Tryz.underlying72
    go_enter Tryz.func79, Tryz.ntmps79
    go_wp2_with fail
    go_ret
    exact ⟨_, rfl, World.ownsRow_nil _ _ _ _, Below.refl _ _⟩
  | some ad =>
    have hn := fun (W : World) => Lib.run_eql_slice_nil (P := Tryz.prog) W 72 5 (some ad) l.length cap 0 0 Tryz.underlying72
    go_enter Tryz.func79, Tryz.ntmps79
    go_wp2_with fail
    go_ret
    exact ⟨_, rfl, by simpa using Hown.out, (kept_alloc _ _).grown Hgb.out (by simp) (fun k hk => by simp [Value.ownBlock] at hk; omega)⟩
end Go.Proofs.YtohahloghmanpaaGreatDoor
