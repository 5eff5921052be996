/-
  Read RArg
-/
import Derived.Test.YtkkacnfpdafadaaGreatDoorR04
import Derived.OpenShut
import Derived.Deep.Slices
import Derived.ChangeSame
import Derived.Test.YtkkacnfpdafadaaGreatDoorChecked
import Derived.Test.YtkkacnfpdafadaaGreatDoorR05
import Derived.Deep.Strs
import Derived.Lib.SmallJoins
import Derived.Test.YtkkacnfpdafadaaGreatDoorRows
import Derived.Test.YtkkacnfpdafadaaGreatDoorR16
import Derived.ChangeVars
import Derived.JoinedOf
import Derived.RowKit
import Derived.Lib.LaidIn
import Derived.Lib.LaidU8T
namespace Go.Proofs.YtkkacnfpdafadaaGreatDoor
open Go.RowKit Go.ChangeShapes Go.WideShapes Go.Deep
set_option linter.unusedVariables false
set_option maxRecDepth 20000

theorem cell_block {w : World} {a : Addr} {v : Value} (h : w.cell? a = some v) : a.spot = none ∧ ∃ L t fz, w.heap[a.block]? = some (.cells L t fz) ∧ L[a.off]? = some v := by
  unfold World.cell? at h
  split at h
  · rename_i c e f hb
    by_cases hs : a.spot.isSome = true
    · simp [hs] at h
    · refine ⟨by simpa using hs, c, e, f, hb, ?_⟩
      simpa [hs] using h
  · cases h

def RowOf (k : Nat) (E : List Value → Prop) (w : World) (v : Value) (n : Nat) : Prop :=
  ∃ a cap, v = .slice a n cap ∧ n ≤ cap ∧ cap ≤ maxLen ∧ (a = none → cap = 0) ∧
    (n = 0 ∨ ∃ b off L t fz, a = some ⟨b, off, none⟩ ∧ b < w.heap.size ∧ w.heap[b]? = some (.cells L t fz) ∧ off + n * k ≤ L.size ∧ ∀ i, i < n → E ((L.toList.drop (off + i * k)).take k))

section
variable {H : Type} {enc : TypeId × Value → H} {P : Program} {w : World} {base : Nat} {held : Bool}

theorem read_row {t e : TypeId} {fuel k : Nat} {v : Value} {x : DataW H × List MemPlace} (hk : 0 < k) (ht : P.underlying t = some (.slice e)) (hC : P.cellsOf e = k) (E : List Value → Prop)
    (hE : ∀ (m : Nat) (cs : List Value) (y : DataW H × List MemPlace), DataW.trod enc P w base (fun _ => true) held m e cs = some y → E cs)
    (h : DataW.trod enc P w base (fun _ => true) held fuel t [v] = some x) : ∃ n, RowOf k E w v n := by
  rcases open_slice ht h with ⟨h0, _⟩ | ⟨a, len, cap, m, n, D, Pl, hcs, hb, hl, hm, hmm, hx, hi⟩
  · simp at h0
    subst h0
    exact ⟨0, none, 0, rfl, Nat.le_refl _, by unfold maxLen; omega, fun _ => rfl, .inl rfl⟩
  · simp at hcs
    subst hcs
    simp only [if_true] at hmm
    subst hmm
    refine ⟨len, some a, m, rfl, hl, hm, nofun, ?_⟩
    by_cases h0 : len = 0
    · exact .inl h0
    · right
      rw [hC] at hi
      obtain ⟨cs0, hc0, _⟩ := hi 0 (by omega)
      obtain ⟨_, hl0, ha0⟩ := World.cells?_some hc0
      have h00 := ha0 0 hk
      rw [List.getElem?_eq_getElem (by omega)] at h00
      simp only [Nat.zero_mul] at h00
      have hadd : (a.add 0).add 0 = a := by simp [Addr.add]
      rw [hadd] at h00
      obtain ⟨hs, L, t', fz, hbk, _⟩ := cell_block h00
      have haa : a = ⟨a.block, a.off, none⟩ := by cases a; simp_all
      have hcell : ∀ i j, i < len → j < k → ∀ cs', w.cells? base (a.add (i * k)) k = some cs' → L[a.off + i * k + j]? = cs'[j]? := by
        intro i j hi' hj cs' hcs'
        obtain ⟨_, hlc, hac⟩ := World.cells?_some hcs'
        have hh := hac j hj
        rw [add_add, haa, Addr.add_lit, cell_of_row w a.block _ L t' fz hbk] at hh
        rw [Nat.add_assoc]
        exact hh
      refine ⟨a.block, a.off, L, t', fz, by rw [← haa], lt_of_block hbk, hbk, ?_, fun i hil => ?_⟩
      · obtain ⟨cs1, hc1, _⟩ := hi (len - 1) (by omega)
        obtain ⟨_, hl1, _⟩ := World.cells?_some hc1
        have := hcell (len - 1) (k - 1) (by omega) (by omega) cs1 hc1
        rw [List.getElem?_eq_getElem (by omega)] at this
        have := (Array.getElem?_eq_some_iff.1 this).1
        have e1 : len * k = (len - 1) * k + k := by
          obtain ⟨q, rfl⟩ : ∃ q, len = q + 1 := ⟨len - 1, by omega⟩
          simp [Nat.add_mul]
        omega
      · obtain ⟨cs1, hc1, ht1⟩ := hi i (by omega)
        obtain ⟨_, hl1, _⟩ := World.cells?_some hc1
        have e : (L.toList.drop (a.off + i * k)).take k = cs1 := by
          apply List.ext_getElem?
          intro j
          rw [List.getElem?_take]
          by_cases hj : j < k
          · rw [if_pos hj, List.getElem?_drop, ← hcell i j hil hj cs1 hc1]
            simp
          · rw [if_neg hj, List.getElem?_eq_none (by omega)]
        rw [e]
        exact hE _ _ _ ht1

def IsU8 (cs : List Value) : Prop := ∃ n : Int, cs = [.int .u8 n] ∧ 0 ≤ n ∧ n ≤ 255

theorem bytes_of_row {w : World} {v : Value} {n : Nat} (h : RowOf 1 IsU8 w v n) : ∃ l : List UInt8, l.length = n ∧ Bytes (fun b => b < w.heap.size) w v l := by
  obtain ⟨a, cap, rfl, h1, h2, h3, h4⟩ := h
  rcases h4 with rfl | ⟨b, off, L, t, fz, rfl, hb, hg, hle, hE⟩
  · exact ⟨[], rfl, a, cap, rfl, h1, h2, h3, .inl rfl⟩
  · have hval : ∀ i, i < n → ∃ c : UInt8, L[off + i]? = some (B c) := by
      intro i hi
      obtain ⟨z, hz, z0, z1⟩ := hE i hi
      refine ⟨UInt8.ofNat z.toNat, ?_⟩
      have : ((L.toList.drop (off + i * 1)).take 1)[0]? = some (.int .u8 z) := by rw [hz]; rfl
      rw [List.getElem?_take, if_pos (by omega), List.getElem?_drop] at this
      have e : B (UInt8.ofNat z.toNat) = .int .u8 z := by
        unfold B
        congr 1
        simp only [UInt8.toNat_ofNat']
        omega
      rw [e]
      simpa using this
    let f : Nat → UInt8 := fun i => if h : i < n then Classical.choose (hval i h) else 0
    have hf : ∀ i, (h : i < n) → L[off + i]? = some (B (f i)) := fun i h => by
      simp only [f, dif_pos h]
      exact Classical.choose_spec (hval i h)
    refine ⟨(List.range n).map f, by simp, some ⟨b, off, none⟩, cap, by simp, by simpa using h1, h2, nofun, .inr ⟨b, off, L, t, fz, rfl, hb, hg, by simp; omega, fun i hi => ?_⟩⟩
    simp at hi
    simpa using hf i hi

theorem read_bytes {t e : TypeId} {fuel : Nat} {v : Value} {x : DataW H × List MemPlace} (ht : P.underlying t = some (.slice e)) (he : P.underlying e = some (.int .u8)) (hC : P.cellsOf e = 1)
    (h : DataW.trod enc P w base (fun _ => true) held fuel t [v] = some x) : ∃ l : List UInt8, Bytes (fun b => b < w.heap.size) w v l := by
  obtain ⟨n, hn⟩ := read_row (by omega) ht hC IsU8 (fun m cs y hy => by
    obtain ⟨z, rfl, _, wz⟩ := DataW.trod_int he hy
    exact ⟨z, rfl, bounds_u8 wz⟩) h
  obtain ⟨l, _, hl⟩ := bytes_of_row hn
  exact ⟨l, hl⟩
end

theorem RowOf.keep {k : Nat} {E : List Value → Prop} {w w' : World} {v : Value} {n : Nat} (h : RowOf k E w v n) (hb : Below w.heap.size w w') : RowOf k E w' v n := by
  obtain ⟨a, cap, rfl, h1, h2, h3, h4⟩ := h
  refine ⟨a, cap, rfl, h1, h2, h3, ?_⟩
  rcases h4 with h4 | ⟨b, off, L, t, fz, rfl, hlt, hg, hle, hE⟩
  · exact .inl h4
  · exact .inr ⟨b, off, L, t, fz, rfl, Nat.lt_of_lt_of_le hlt hb.size, (hb.block b hlt).trans hg, hle, hE⟩
end Go.Proofs.YtkkacnfpdafadaaGreatDoor

namespace Go.Proofs.YtkkacnfpdafadaaGreatDoor
open Go.RowKit Go.ChangeShapes Go.WideShapes Go.ChangeAt Go.Deep
set_option linter.unusedVariables false
set_option maxRecDepth 20000

theorem rows_of_row {α : Type} (enc : α → List Value) (k : Nat) (hk0 : 0 < k) (hk : ∀ x, (enc x).length = k) (E : List Value → Prop) (Q : α → Prop) (hE : ∀ cs, E cs → ∃ x, cs = enc x ∧ Q x) {w : World} {v : Value} {n : Nat} (h : RowOf k E w v n) :
    ∃ l : List α, l.length = n ∧ (∀ x ∈ l, Q x) ∧ Rows (fun b => b < w.heap.size) w k v n (l.flatMap enc) := by
  obtain ⟨a, cap, rfl, h1, h2, h3, h4⟩ := h
  by_cases hn : n = 0
  · subst hn
    exact ⟨[], rfl, nofun, a, cap, rfl, h1, h2, h3, by simp, .inl rfl⟩
  · obtain ⟨b, off, L, t, fz, rfl, hb, hg, hle, hEE⟩ := h4.resolve_left hn
    have hval : ∀ i, i < n → ∃ x, (L.toList.drop (off + i * k)).take k = enc x ∧ Q x := fun i hi => hE _ (hEE i hi)
    obtain ⟨x0, _⟩ := hval 0 (by omega)
    let f : Nat → α := fun i => if h : i < n then Classical.choose (hval i h) else x0
    have hf : ∀ i, i < n → (L.toList.drop (off + i * k)).take k = enc (f i) ∧ Q (f i) := fun i h => by
      simp only [f, dif_pos h]
      exact Classical.choose_spec (hval i h)
    have hlen : ((List.range n).map f).length = n := by simp
    refine ⟨(List.range n).map f, hlen, fun x hx => ?_, some ⟨b, off, none⟩, cap, rfl, h1, h2, nofun, by rw [flat_length enc k hk, hlen], .inr ⟨b, off, L, t, fz, rfl, hb, hg, hle, fun i hi => ?_⟩⟩
    · obtain ⟨i, hi, rfl⟩ := List.mem_map.1 hx
      exact (hf i (List.mem_range.1 hi)).2
    · have hq : i / k < n := Nat.div_lt_of_lt_mul (by rw [Nat.mul_comm]; exact hi)
      have hr : i % k < k := Nat.mod_lt _ hk0
      have hi2 : i / k * k + i % k = i := by rw [Nat.mul_comm]; exact Nat.div_add_mod i k
      have e1 := flat_get enc k hk ((List.range n).map f) (i / k) (i % k) (by simpa using hq) hr
      rw [hi2] at e1
      rw [e1]
      simp only [List.getElem_map, List.getElem_range]
      rw [← (hf _ hq).1, List.getElem?_take, if_pos hr, List.getElem?_drop, Nat.add_assoc, hi2]
      simp

def IsI64 (cs : List Value) : Prop := ∃ n : Int, cs = [.int .i64 n] ∧ i64ok n
def IsStr (cs : List Value) : Prop := ∃ s : ByteArray, cs = [.string s] ∧ s.size ≤ maxLen
def IsIt (cs : List Value) : Prop := ∃ x : RIt, cs = encIt x ∧ x.key.length ≤ 9223372036854775807 ∧ i64ok x.dev ∧ i64ok x.seq ∧ i64ok x.val
def IsGo (cs : List Value) : Prop := ∃ x : RGo, cs = encGo x ∧ x.key.length ≤ 9223372036854775807 ∧ i64ok x.dev ∧ i64ok x.seq
theorem str_enc (s : ByteArray) : Value.string s = Go.Proofs.encStr s.data.toList := by cases s; simp [Go.Proofs.encStr]
theorem str_len {s : ByteArray} (h : s.size ≤ maxLen) : s.data.toList.length ≤ 9223372036854775807 := by
  have : s.size = s.data.size := rfl
  simp
  unfold maxLen at h
  omega

section
variable {H : Type} {enc : TypeId × Value → H} {w : World} {base : Nat} {held : Bool}
theorem rd_int {m : Nat} {cs : List Value} {y : DataW H × List MemPlace} (h : DataW.trod enc Tryz.prog w base (fun _ => true) held m 3 cs = some y) : IsI64 cs := by
  obtain ⟨z, rfl, _, wz⟩ := DataW.trod_int Tryz.underlying3 h
  exact ⟨z, rfl, bounds_i64 wz⟩
theorem rd_str {m : Nat} {cs : List Value} {y : DataW H × List MemPlace} (h : DataW.trod enc Tryz.prog w base (fun _ => true) held m 9 cs = some y) : IsStr cs := by
  obtain ⟨s, rfl, _, ws⟩ := DataW.trod_string Tryz.underlying9 h
  exact ⟨s, rfl, ws⟩
theorem cells_str : Tryz.prog.cellsOf 9 = 1 := by kernel_rfl
theorem cells_int : Tryz.prog.cellsOf 3 = 1 := by kernel_rfl
theorem cells_item : Tryz.prog.cellsOf 92 = 4 := by kernel_rfl
theorem cells_gone : Tryz.prog.cellsOf 94 = 3 := by kernel_rfl
theorem cells_ints : Tryz.prog.cellsOf 22 = 1 := by kernel_rfl
theorem cells_items : Tryz.prog.cellsOf 23 = 1 := by kernel_rfl
theorem cells_gones : Tryz.prog.cellsOf 24 = 1 := by kernel_rfl
theorem cells_map : Tryz.prog.cellsOf 26 = 3 := by kernel_rfl
theorem rd_item {m : Nat} {cs : List Value} {y : DataW H × List MemPlace} (h : DataW.trod enc Tryz.prog w base (fun _ => true) held m 92 cs = some y) : IsIt cs := by
  obtain ⟨y0, y1, y2, y3, n, rfl, hl, h0, h1, h2, h3⟩ := Go.Joins.trod_struct4 Tryz.underlying92 h
  rw [cells_item] at hl
  simp only [cells_str, cells_int] at h0 h1 h2 h3
  match cs, hl with
  | [c0, c1, c2, c3], _ =>
    obtain ⟨s, e0, ws⟩ := rd_str h0
    obtain ⟨a, e1, wa⟩ := rd_int h1
    obtain ⟨b, e2, wb⟩ := rd_int h2
    obtain ⟨c, e3, wc⟩ := rd_int h3
    simp at e0 e1 e2 e3
    subst e0 e1 e2 e3
    exact ⟨⟨s.data.toList, a, b, c⟩, by simp [encIt, eI, str_enc], str_len ws, wa, wb, wc⟩
theorem rd_gone {m : Nat} {cs : List Value} {y : DataW H × List MemPlace} (h : DataW.trod enc Tryz.prog w base (fun _ => true) held m 94 cs = some y) : IsGo cs := by
  obtain ⟨y0, y1, y2, n, rfl, hl, h0, h1, h2⟩ := trod_struct3 Tryz.underlying94 h
  rw [cells_gone] at hl
  simp only [cells_str, cells_int] at h0 h1 h2
  match cs, hl with
  | [c0, c1, c2], _ =>
    obtain ⟨s, e0, ws⟩ := rd_str h0
    obtain ⟨a, e1, wa⟩ := rd_int h1
    obtain ⟨b, e2, wb⟩ := rd_int h2
    simp at e0 e1 e2
    subst e0 e1 e2
    exact ⟨⟨s.data.toList, a, b⟩, by simp [encGo, eI, str_enc], str_len ws, wa, wb⟩
end

theorem flat_ints (l : List Int) : l.flatMap (fun n => [eI n]) = l.map eI := by induction l with
  | nil => rfl
  | cons x l ih => rw [List.flatMap_cons, ih]; rfl

theorem open_Bytes {H : Type} {enc : TypeId × Value → H} {w : World} {b0 : Nat} {v : Value} {d : DataW H} {p : List MemPlace}
    (hv : Value.okWide Tryz.prog w .any b0 57 v) (h : DataW.Trod enc Tryz.prog w 0 (fun _ => true) true 57 v d p) : ∃ l : List UInt8, Bytes (fun b => b < w.heap.size) w v l := by
  obtain ⟨a0, len0, cap0, rfl⟩ := okWide_slice Tryz.underlying57 hv
  obtain ⟨fuel, hf⟩ := h
  exact read_bytes Tryz.underlying57 Tryz.underlying5 (by kernel_rfl) hf
end Go.Proofs.YtkkacnfpdafadaaGreatDoor
/- What the premise on the laid tables says, and a world that fits it. -/
namespace Go.Proofs.YtkkacnfpdafadaaGreatDoor
open Go.ChangeShapes Go.WideShapes Go.RowKit Go.Lib
set_option linter.unusedVariables false
set_option maxRecDepth 20000

abbrev laidQ : List (String × DataW Unit) := [("unicode/utf8.acceptRanges", Rows.laid_unicode_utf8_acceptRanges), ("unicode/utf8.first", Rows.laid_unicode_utf8_first)]
theorem accept_eq : Rows.laid_unicode_utf8_acceptRanges (H := Unit) = Lib.acceptData := by kernel_rfl
theorem first_eq : Rows.laid_unicode_utf8_first = Lib.firstData := by kernel_rfl

theorem tabs_of_laid {W : World} (h : laidMet Tryz.prog laidQ W) : Tabs W ∧ 3 ≤ W.heap.size := by
  have h3 := Lib.laidMet.reads h (.tail _ (.head _))
  have h4 := Lib.laidMet.reads h (.head _)
  rw [first_eq] at h3
  rw [accept_eq] at h4
  have hT : Tabs W := utf8Tabs_of_readsT (U8Types.of196 Tryz.laysValid) ⟨by kernel_rfl, by kernel_rfl, by kernel_rfl, by kernel_rfl, by kernel_rfl, by kernel_rfl, by kernel_rfl⟩ h3 h4
  refine ⟨hT, ?_⟩
  have hc := (hT.2 0 (by decide)).1
  have h2 : Tryz.laysValid_ren.g 4 = 2 := by decide
  rw [h2] at hc
  have hz : W.heap[2]? ≠ none := fun hn => by simp [World.cell?, hn] at hc
  have := Array.getElem?_eq_none_iff (xs := W.heap) (i := 2)
  by_cases hs : W.heap.size ≤ 2
  · exact absurd (this.2 hs) hz
  · omega

noncomputable def laidWorld (os : Os) : World :=
  let w0 := World.holding Tryz.prog os ⟨#[], #[], []⟩
  let put (h : Array Obj) (g : Nat) (cs : Array Value) : Array Obj := h.modify g fun
    | .cells _ t frozen => .cells cs t frozen
    | o => o
  let h1 := put w0.heap (Tryz.laysValid_ren.g 3) (Lib.firstTab.map fun z => Value.int .u8 z).toArray
  let h2 := put h1 (Tryz.laysValid_ren.g 4) ((List.range 16).flatMap fun i => [Value.int .u8 (Lib.accLo i), Value.int .u8 (Lib.accHi i)]).toArray
  { w0 with heap := h2 }
theorem laidWorld_met (os : Os) (args : Array Value) : laidMet Tryz.prog laidQ ((laidWorld os).forCall (fun _ _ => 0) ⟨#[], args, []⟩).memory :=
  (LaidIn.of_run (l := laidQ) [Tryz.laysValid_ren.g 4, Tryz.laysValid_ren.g 3] 8 (by kernel_rfl) (by kernel_rfl) (by kernel_rfl) (by kernel_rfl)).met
end Go.Proofs.YtkkacnfpdafadaaGreatDoor
