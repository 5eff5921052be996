/-
  SArg
-/
import Derived.Test.YtkkacnfpdafadaaGreatDoorR45
import Derived.Test.YtkkacnfpdafadaaGreatDoorR30
namespace Go.Proofs.YtkkacnfpdafadaaGreatDoor
open Go.RowKit Go.ChangeShapes Go.WideShapes Go.ChangeAt Go.Deep
set_option linter.unusedVariables false
set_option maxRecDepth 20000

def IsInts (w : World) (v : Value) : Prop := ∃ l : List Int, (∀ n ∈ l, i64ok n) ∧ Rows (fun b => b < w.heap.size) w 1 v l.length (l.map eI)
theorem ints_of_row {w : World} {v : Value} {n : Nat} (h : RowOf 1 IsI64 w v n) : IsInts w v := by
  obtain ⟨l0, rfl, q0, R0⟩ := rows_of_row (fun n => [eI n]) 1 (by omega) (fun _ => rfl) IsI64 i64ok (fun cs ⟨n, e, hn⟩ => ⟨n, e, hn⟩) h
  rw [flat_ints] at R0
  exact ⟨l0, q0, R0⟩
theorem cells_msg : Tryz.prog.cellsOf 43 = 5 := by kernel_rfl
def IsSMsg (w : World) (v : Value) : Prop := ∃ x, MsgV (fun b => b < w.heap.size) w v x
theorem open_SMsg {H : Type} {enc : TypeId × Value → H} {w : World} {b0 : Nat} {v : Value} {d : DataW H} {p : List MemPlace}
    (hv : Value.okWide Tryz.prog w .any b0 43 v) (h : DataW.Trod enc Tryz.prog w 0 (fun _ => true) true 43 v d p) : IsSMsg w v := by
  obtain ⟨cs, rfl, hsz⟩ := okWide_struct Tryz.underlying43 hv
  rw [cells_msg] at hsz
  obtain ⟨fuel, hf⟩ := h
  obtain ⟨cl⟩ := cs
  match cl, hsz with
  | [c0, c1, c2, c3, c4], _ =>
    obtain ⟨y0, y1, y2, n, _, hl, h0, h1, h2⟩ := trod_struct3 Tryz.underlying43 hf
    simp only [cells_int, cells_ints, cells_map, Value.cells] at h0 h1 h2
    simp at h0 h1 h2
    obtain ⟨a, ea, wa⟩ := rd_int h0
    simp at ea
    subst ea
    obtain ⟨n0, r0⟩ := read_row (by omega) Tryz.underlying22 cells_int IsI64 (fun m cs y hy => rd_int hy) h1
    obtain ⟨l0, k0, R0⟩ := ints_of_row r0
    obtain ⟨z0, z1, z2, n', _, hl', g0, g1, g2⟩ := trod_struct3 Tryz.underlying26 h2
    simp only [cells_ints, cells_items, cells_gones] at g0 g1 g2
    simp at g0 g1 g2
    obtain ⟨n1, r1⟩ := read_row (by omega) Tryz.underlying22 cells_int IsI64 (fun m cs y hy => rd_int hy) g0
    obtain ⟨n2, r2⟩ := read_row (by omega) Tryz.underlying23 cells_item IsIt (fun m cs y hy => rd_item hy) g1
    obtain ⟨n3, r3⟩ := read_row (by omega) Tryz.underlying24 cells_gone IsGo (fun m cs y hy => rd_gone hy) g2
    obtain ⟨l1, k1, R1⟩ := ints_of_row r1
    obtain ⟨l2, rfl, q2, R2⟩ := rows_of_row encIt 4 (by omega) (fun _ => rfl) IsIt (fun x => x.key.length ≤ 9223372036854775807 ∧ i64ok x.dev ∧ i64ok x.seq ∧ i64ok x.val) (fun cs ⟨n, e, hn⟩ => ⟨n, e, hn⟩) r2
    obtain ⟨l3, rfl, q3, R3⟩ := rows_of_row encGo 3 (by omega) (fun _ => rfl) IsGo (fun x => x.key.length ≤ 9223372036854775807 ∧ i64ok x.dev ∧ i64ok x.seq) (fun cs ⟨n, e, hn⟩ => ⟨n, e, hn⟩) r3
    exact ⟨⟨a, l0, ⟨l1, l2, l3⟩⟩, c1, c2, c3, c4, rfl, R0, ⟨R1, R2, R3, k1, q2, q3⟩, wa, k0⟩
end Go.Proofs.YtkkacnfpdafadaaGreatDoor
