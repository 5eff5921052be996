/-
  RArg
-/
import Derived.Test.YtohahloghmanpaaGreatDoorChecked
import Derived.Test.YtohahloghmanpaaGreatDoorZB06
import Derived.Test.YtohahloghmanpaaGreatDoorZB43
import Derived.Deep.Strs
import Derived.Lib.SmallJoins
import Derived.Test.YtohahloghmanpaaGreatDoorRows
import Derived.Test.YtohahloghmanpaaGreatDoorZB14
import Derived.ChangeSame
import Derived.ChangeVars
import Derived.JoinedOf
import Derived.RowKit
import Derived.Lib.LaidIn
import Derived.Lib.LaidU8T
namespace Go.Proofs.YtohahloghmanpaaGreatDoor
open Go.RowKit Go.ChangeShapes Go.WideShapes Go.ChangeAt Go.Deep
set_option linter.unusedVariables false
set_option maxRecDepth 20000

theorem rows_of_row {α : Type} (enc : α → List Value) (k : Nat) (hk0 : 0 < k) (hk : ∀ x, (enc x).length = k) (E : List Value → Prop) (Q : α → Prop) (hE : ∀ cs, E cs → ∃ x, cs = enc x ∧ Q x) {w : World} {v : Value} {n : Nat} (h : RowOf k E w v n) :
    ∃ l : List α, l.length = n ∧ (∀ x ∈ l, Q x) ∧ Rows (fun b => b < w.heap.size) w k v n (l.flatMap enc) := by
  obtain ⟨a, cap, rfl, h1, h2, h3, h4⟩ := h
  by_cases hn : n = 0
  · subst hn
    exact ⟨[], rfl, nofun, a, cap, rfl, h1, h2, h3, by simp, .inl rfl⟩
  · obtain ⟨b, off, L, t, fz, rfl, hb, hg, hle, hEE⟩ := h4.resolve_left hn
    have hval : ∀ i, i < n → ∃ x, (L.toList.drop (off + i * k)).take k = enc x ∧ Q x := fun i hi => hE _ (hEE i hi)
    obtain ⟨x0, _⟩ := hval 0 (by omega)
    let f : Nat → α := fun i => if h : i < n then Classical.choose (hval i h) else x0
    have hf : ∀ i, i < n → (L.toList.drop (off + i * k)).take k = enc (f i) ∧ Q (f i) := fun i h => by
      simp only [f, dif_pos h]
      exact Classical.choose_spec (hval i h)
    have hlen : ((List.range n).map f).length = n := by simp
    refine ⟨(List.range n).map f, hlen, fun x hx => ?_, some ⟨b, off, none⟩, cap, rfl, h1, h2, nofun, by rw [flat_length enc k hk, hlen], .inr ⟨b, off, L, t, fz, rfl, hb, hg, hle, fun i hi => ?_⟩⟩
    · obtain ⟨i, hi, rfl⟩ := List.mem_map.1 hx
      exact (hf i (List.mem_range.1 hi)).2
    · have hq : i / k < n := Nat.div_lt_of_lt_mul (by rw [Nat.mul_comm]; exact hi)
      have hr : i % k < k := Nat.mod_lt _ hk0
      have hi2 : i / k * k + i % k = i := by rw [Nat.mul_comm]; exact Nat.div_add_mod i k
      have e1 := flat_get enc k hk ((List.range n).map f) (i / k) (i % k) (by simpa using hq) hr
      rw [hi2] at e1
      rw [e1]
      simp only [List.getElem_map, List.getElem_range]
      rw [← (hf _ hq).1, List.getElem?_take, if_pos hr, List.getElem?_drop, Nat.add_assoc, hi2]
      simp

def IsI64 (cs : List Value) : Prop := ∃ n : Int, cs = [.int .i64 n] ∧ i64ok n
def IsStr (cs : List Value) : Prop := ∃ s : ByteArray, cs = [.string s] ∧ s.size ≤ maxLen
def IsIt (cs : List Value) : Prop := ∃ x : RIt, cs = encIt x ∧ x.key.length ≤ 9223372036854775807 ∧ i64ok x.dev ∧ i64ok x.seq ∧ i64ok x.val
def IsGo (cs : List Value) : Prop := ∃ x : RGo, cs = encGo x ∧ x.key.length ≤ 9223372036854775807 ∧ i64ok x.dev ∧ i64ok x.seq
theorem str_enc (s : ByteArray) : Value.string s = Go.Proofs.encStr s.data.toList := by cases s; simp [Go.Proofs.encStr]
theorem str_len {s : ByteArray} (h : s.size ≤ maxLen) : s.data.toList.length ≤ 9223372036854775807 := by
  have : s.size = s.data.size := rfl
  simp
  unfold maxLen at h
  omega

section
variable {H : Type} {enc : TypeId × Value → H} {w : World} {base : Nat} {held : Bool}
theorem rd_int {m : Nat} {cs : List Value} {y : DataW H × List MemPlace} (h : DataW.trod enc Tryz.prog w base (fun _ => true) held m 3 cs = some y) : IsI64 cs := by
  obtain ⟨z, rfl, _, wz⟩ := DataW.trod_int Tryz.underlying3 h
  exact ⟨z, rfl, bounds_i64 wz⟩
theorem rd_str {m : Nat} {cs : List Value} {y : DataW H × List MemPlace} (h : DataW.trod enc Tryz.prog w base (fun _ => true) held m 9 cs = some y) : IsStr cs := by
  obtain ⟨s, rfl, _, ws⟩ := DataW.trod_string Tryz.underlying9 h
  exact ⟨s, rfl, ws⟩
theorem cells_str : Tryz.prog.cellsOf 9 = 1 := by kernel_rfl
theorem cells_int : Tryz.prog.cellsOf 3 = 1 := by kernel_rfl
theorem cells_item : Tryz.prog.cellsOf 44 = 4 := by kernel_rfl
theorem cells_gone : Tryz.prog.cellsOf 46 = 3 := by kernel_rfl
theorem cells_ints : Tryz.prog.cellsOf 22 = 1 := by kernel_rfl
theorem cells_items : Tryz.prog.cellsOf 23 = 1 := by kernel_rfl
theorem cells_gones : Tryz.prog.cellsOf 24 = 1 := by kernel_rfl
theorem cells_map : Tryz.prog.cellsOf 26 = 3 := by kernel_rfl
theorem rd_item {m : Nat} {cs : List Value} {y : DataW H × List MemPlace} (h : DataW.trod enc Tryz.prog w base (fun _ => true) held m 44 cs = some y) : IsIt cs := by
  obtain ⟨y0, y1, y2, y3, n, rfl, hl, h0, h1, h2, h3⟩ := Go.Joins.trod_struct4 Tryz.underlying44 h
  rw [cells_item] at hl
  simp only [cells_str, cells_int] at h0 h1 h2 h3
  match cs, hl with
  | [c0, c1, c2, c3], _ =>
    obtain ⟨s, e0, ws⟩ := rd_str h0
    obtain ⟨a, e1, wa⟩ := rd_int h1
    obtain ⟨b, e2, wb⟩ := rd_int h2
    obtain ⟨c, e3, wc⟩ := rd_int h3
    simp at e0 e1 e2 e3
    subst e0 e1 e2 e3
    exact ⟨⟨s.data.toList, a, b, c⟩, by simp [encIt, eI, str_enc], str_len ws, wa, wb, wc⟩
theorem rd_gone {m : Nat} {cs : List Value} {y : DataW H × List MemPlace} (h : DataW.trod enc Tryz.prog w base (fun _ => true) held m 46 cs = some y) : IsGo cs := by
  obtain ⟨y0, y1, y2, n, rfl, hl, h0, h1, h2⟩ := trod_struct3 Tryz.underlying46 h
  rw [cells_gone] at hl
  simp only [cells_str, cells_int] at h0 h1 h2
  match cs, hl with
  | [c0, c1, c2], _ =>
    obtain ⟨s, e0, ws⟩ := rd_str h0
    obtain ⟨a, e1, wa⟩ := rd_int h1
    obtain ⟨b, e2, wb⟩ := rd_int h2
    simp at e0 e1 e2
    subst e0 e1 e2
    exact ⟨⟨s.data.toList, a, b⟩, by simp [encGo, eI, str_enc], str_len ws, wa, wb⟩
end

theorem flat_ints (l : List Int) : l.flatMap (fun n => [eI n]) = l.map eI := by induction l with
  | nil => rfl
  | cons x l ih => rw [List.flatMap_cons, ih]; rfl

def IsRMap (w : World) (v : Value) : Prop := ∃ m, MapV (fun b => b < w.heap.size) w v m
theorem open_RMap {H : Type} {enc : TypeId × Value → H} {w : World} {b0 : Nat} {v : Value} {d : DataW H} {p : List MemPlace}
    (hv : Value.okWide Tryz.prog w .any b0 26 v) (h : DataW.Trod enc Tryz.prog w 0 (fun _ => true) true 26 v d p) : IsRMap w v := by
  obtain ⟨cs, rfl, hsz⟩ := okWide_struct Tryz.underlying26 hv
  rw [cells_map] at hsz
  obtain ⟨fuel, hf⟩ := h
  obtain ⟨cl⟩ := cs
  match cl, hsz with
  | [c0, c1, c2], _ =>
    obtain ⟨y0, y1, y2, n, _, hl, h0, h1, h2⟩ := trod_struct3 Tryz.underlying26 hf
    simp only [cells_ints, cells_items, cells_gones, Value.cells] at h0 h1 h2
    simp at h0 h1 h2
    obtain ⟨n0, r0⟩ := read_row (by omega) Tryz.underlying22 cells_int IsI64 (fun m cs y hy => rd_int hy) h0
    obtain ⟨n1, r1⟩ := read_row (by omega) Tryz.underlying23 cells_item IsIt (fun m cs y hy => rd_item hy) h1
    obtain ⟨n2, r2⟩ := read_row (by omega) Tryz.underlying24 cells_gone IsGo (fun m cs y hy => rd_gone hy) h2
    obtain ⟨l0, rfl, q0, R0⟩ := rows_of_row (fun n => [eI n]) 1 (by omega) (fun _ => rfl) IsI64 i64ok (fun cs ⟨n, e, hn⟩ => ⟨n, e, hn⟩) r0
    obtain ⟨l1, rfl, q1, R1⟩ := rows_of_row encIt 4 (by omega) (fun _ => rfl) IsIt (fun x => x.key.length ≤ 9223372036854775807 ∧ i64ok x.dev ∧ i64ok x.seq ∧ i64ok x.val) (fun cs ⟨n, e, hn⟩ => ⟨n, e, hn⟩) r1
    obtain ⟨l2, rfl, q2, R2⟩ := rows_of_row encGo 3 (by omega) (fun _ => rfl) IsGo (fun x => x.key.length ≤ 9223372036854775807 ∧ i64ok x.dev ∧ i64ok x.seq) (fun cs ⟨n, e, hn⟩ => ⟨n, e, hn⟩) r2
    rw [flat_ints] at R0
    exact ⟨⟨l0, l1, l2⟩, c0, c1, c2, rfl, R0, R1, R2, q0, q1, q2⟩

end Go.Proofs.YtohahloghmanpaaGreatDoor
/- What the premise on the laid tables says, and a world that fits it. -/
namespace Go.Proofs.YtohahloghmanpaaGreatDoor
open Go.ChangeShapes Go.WideShapes Go.RowKit Go.Lib
set_option linter.unusedVariables false
set_option maxRecDepth 20000

abbrev laidQ : List (String × DataW Unit) := [("unicode/utf8.acceptRanges", Rows.laid_unicode_utf8_acceptRanges), ("unicode/utf8.first", Rows.laid_unicode_utf8_first)]
theorem accept_eq : Rows.laid_unicode_utf8_acceptRanges (H := Unit) = Lib.acceptData := by kernel_rfl
theorem first_eq : Rows.laid_unicode_utf8_first = Lib.firstData := by kernel_rfl

theorem tabs_of_laid {W : World} (h : laidMet Tryz.prog laidQ W) : Tabs W ∧ 3 ≤ W.heap.size := by
  have h3 := Lib.laidMet.reads h (.tail _ (.head _))
  have h4 := Lib.laidMet.reads h (.head _)
  rw [first_eq] at h3
  rw [accept_eq] at h4
  have hT : Tabs W := utf8Tabs_of_readsT (U8Types.of196 Tryz.laysValid) ⟨by kernel_rfl, by kernel_rfl, by kernel_rfl, by kernel_rfl, by kernel_rfl, by kernel_rfl, by kernel_rfl⟩ h3 h4
  refine ⟨hT, ?_⟩
  have hc := (hT.2 0 (by decide)).1
  have h2 : Tryz.laysValid_ren.g 4 = 2 := by decide
  rw [h2] at hc
  have hz : W.heap[2]? ≠ none := fun hn => by simp [World.cell?, hn] at hc
  have := Array.getElem?_eq_none_iff (xs := W.heap) (i := 2)
  by_cases hs : W.heap.size ≤ 2
  · exact absurd (this.2 hs) hz
  · omega

noncomputable def laidWorld (os : Os) : World :=
  let w0 := World.holding Tryz.prog os ⟨#[], #[], []⟩
  let put (h : Array Obj) (g : Nat) (cs : Array Value) : Array Obj := h.modify g fun
    | .cells _ t frozen => .cells cs t frozen
    | o => o
  let h1 := put w0.heap (Tryz.laysValid_ren.g 3) (Lib.firstTab.map fun z => Value.int .u8 z).toArray
  let h2 := put h1 (Tryz.laysValid_ren.g 4) ((List.range 16).flatMap fun i => [Value.int .u8 (Lib.accLo i), Value.int .u8 (Lib.accHi i)]).toArray
  { w0 with heap := h2 }
theorem laidWorld_met (os : Os) (args : Array Value) : laidMet Tryz.prog laidQ ((laidWorld os).forCall (fun _ _ => 0) ⟨#[], args, []⟩).memory :=
  (LaidIn.of_run (l := laidQ) [Tryz.laysValid_ren.g 4, Tryz.laysValid_ren.g 3] 8 (by kernel_rfl) (by kernel_rfl) (by kernel_rfl) (by kernel_rfl)).met
end Go.Proofs.YtohahloghmanpaaGreatDoor
