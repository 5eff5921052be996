/-
  Read RArg SArg SActs
-/
import Derived.Test.YtelphnigdancpaaGreatDoorZA04
import Derived.OpenShut
import Derived.Deep.Slices
import Derived.ChangeSame
import Derived.Test.YtelphnigdancpaaGreatDoorChecked
import Derived.Test.YtelphnigdancpaaGreatDoorZA05
import Derived.Deep.Strs
import Derived.Lib.SmallJoins
import Derived.Test.YtelphnigdancpaaGreatDoorRows
import Derived.Test.YtelphnigdancpaaGreatDoorZA15
import Derived.ChangeVars
import Derived.JoinedOf
import Derived.RowKit
import Derived.Lib.LaidIn
import Derived.Lib.LaidU8T
import Derived.Test.YtelphnigdancpaaGreatDoorZA12
import Derived.Test.YtelphnigdancpaaGreatDoorZA23
namespace Go.Proofs.YtelphnigdancpaaGreatDoor
open Go.RowKit Go.ChangeShapes Go.WideShapes Go.Deep
set_option linter.unusedVariables false
set_option maxRecDepth 20000

theorem cell_block {w : World} {a : Addr} {v : Value} (h : w.cell? a = some v) : a.spot = none ∧ ∃ L t fz, w.heap[a.block]? = some (.cells L t fz) ∧ L[a.off]? = some v := by
  unfold World.cell? at h
  split at h
  · rename_i c e f hb
    by_cases hs : a.spot.isSome = true
    · simp [hs] at h
    · refine ⟨by simpa using hs, c, e, f, hb, ?_⟩
      simpa [hs] using h
  · cases h

def RowOf (k : Nat) (E : List Value → Prop) (w : World) (v : Value) (n : Nat) : Prop :=
  ∃ a cap, v = .slice a n cap ∧ n ≤ cap ∧ cap ≤ maxLen ∧ (a = none → cap = 0) ∧
    (n = 0 ∨ ∃ b off L t fz, a = some ⟨b, off, none⟩ ∧ b < w.heap.size ∧ w.heap[b]? = some (.cells L t fz) ∧ off + n * k ≤ L.size ∧ ∀ i, i < n → E ((L.toList.drop (off + i * k)).take k))

section
variable {H : Type} {enc : TypeId × Value → H} {P : Program} {w : World} {base : Nat} {held : Bool}

theorem read_row {t e : TypeId} {fuel k : Nat} {v : Value} {x : DataW H × List MemPlace} (hk : 0 < k) (ht : P.underlying t = some (.slice e)) (hC : P.cellsOf e = k) (E : List Value → Prop)
    (hE : ∀ (m : Nat) (cs : List Value) (y : DataW H × List MemPlace), DataW.trod enc P w base (fun _ => true) held m e cs = some y → E cs)
    (h : DataW.trod enc P w base (fun _ => true) held fuel t [v] = some x) : ∃ n, RowOf k E w v n := by
  rcases open_slice ht h with ⟨h0, _⟩ | ⟨a, len, cap, m, n, D, Pl, hcs, hb, hl, hm, hmm, hx, hi⟩
  · simp at h0
    subst h0
    exact ⟨0, none, 0, rfl, Nat.le_refl _, by unfold maxLen; omega, fun _ => rfl, .inl rfl⟩
  · simp at hcs
    subst hcs
    simp only [if_true] at hmm
    subst hmm
    refine ⟨len, some a, m, rfl, hl, hm, nofun, ?_⟩
    by_cases h0 : len = 0
    · exact .inl h0
    · right
      rw [hC] at hi
      obtain ⟨cs0, hc0, _⟩ := hi 0 (by omega)
      obtain ⟨_, hl0, ha0⟩ := World.cells?_some hc0
      have h00 := ha0 0 hk
      rw [List.getElem?_eq_getElem (by omega)] at h00
      simp only [Nat.zero_mul] at h00
      have hadd : (a.add 0).add 0 = a := by simp [Addr.add]
      rw [hadd] at h00
      obtain ⟨hs, L, t', fz, hbk, _⟩ := cell_block h00
      have haa : a = ⟨a.block, a.off, none⟩ := by cases a; simp_all
      have hcell : ∀ i j, i < len → j < k → ∀ cs', w.cells? base (a.add (i * k)) k = some cs' → L[a.off + i * k + j]? = cs'[j]? := by
        intro i j hi' hj cs' hcs'
        obtain ⟨_, hlc, hac⟩ := World.cells?_some hcs'
        have hh := hac j hj
        rw [add_add, haa, Addr.add_lit, cell_of_row w a.block _ L t' fz hbk] at hh
        rw [Nat.add_assoc]
        exact hh
      refine ⟨a.block, a.off, L, t', fz, by rw [← haa], lt_of_block hbk, hbk, ?_, fun i hil => ?_⟩
      · obtain ⟨cs1, hc1, _⟩ := hi (len - 1) (by omega)
        obtain ⟨_, hl1, _⟩ := World.cells?_some hc1
        have := hcell (len - 1) (k - 1) (by omega) (by omega) cs1 hc1
        rw [List.getElem?_eq_getElem (by omega)] at this
        have := (Array.getElem?_eq_some_iff.1 this).1
        have e1 : len * k = (len - 1) * k + k := by
          obtain ⟨q, rfl⟩ : ∃ q, len = q + 1 := ⟨len - 1, by omega⟩
          simp [Nat.add_mul]
        omega
      · obtain ⟨cs1, hc1, ht1⟩ := hi i (by omega)
        obtain ⟨_, hl1, _⟩ := World.cells?_some hc1
        have e : (L.toList.drop (a.off + i * k)).take k = cs1 := by
          apply List.ext_getElem?
          intro j
          rw [List.getElem?_take]
          by_cases hj : j < k
          · rw [if_pos hj, List.getElem?_drop, ← hcell i j hil hj cs1 hc1]
            simp
          · rw [if_neg hj, List.getElem?_eq_none (by omega)]
        rw [e]
        exact hE _ _ _ ht1

def IsU8 (cs : List Value) : Prop := ∃ n : Int, cs = [.int .u8 n] ∧ 0 ≤ n ∧ n ≤ 255

theorem bytes_of_row {w : World} {v : Value} {n : Nat} (h : RowOf 1 IsU8 w v n) : ∃ l : List UInt8, l.length = n ∧ Bytes (fun b => b < w.heap.size) w v l := by
  obtain ⟨a, cap, rfl, h1, h2, h3, h4⟩ := h
  rcases h4 with rfl | ⟨b, off, L, t, fz, rfl, hb, hg, hle, hE⟩
  · exact ⟨[], rfl, a, cap, rfl, h1, h2, h3, .inl rfl⟩
  · have hval : ∀ i, i < n → ∃ c : UInt8, L[off + i]? = some (B c) := by
      intro i hi
      obtain ⟨z, hz, z0, z1⟩ := hE i hi
      refine ⟨UInt8.ofNat z.toNat, ?_⟩
      have : ((L.toList.drop (off + i * 1)).take 1)[0]? = some (.int .u8 z) := by rw [hz]; rfl
      rw [List.getElem?_take, if_pos (by omega), List.getElem?_drop] at this
      have e : B (UInt8.ofNat z.toNat) = .int .u8 z := by
        unfold B
        congr 1
        simp only [UInt8.toNat_ofNat']
        omega
      rw [e]
      simpa using this
    let f : Nat → UInt8 := fun i => if h : i < n then Classical.choose (hval i h) else 0
    have hf : ∀ i, (h : i < n) → L[off + i]? = some (B (f i)) := fun i h => by
      simp only [f, dif_pos h]
      exact Classical.choose_spec (hval i h)
    refine ⟨(List.range n).map f, by simp, some ⟨b, off, none⟩, cap, by simp, by simpa using h1, h2, nofun, .inr ⟨b, off, L, t, fz, rfl, hb, hg, by simp; omega, fun i hi => ?_⟩⟩
    simp at hi
    simpa using hf i hi

theorem read_bytes {t e : TypeId} {fuel : Nat} {v : Value} {x : DataW H × List MemPlace} (ht : P.underlying t = some (.slice e)) (he : P.underlying e = some (.int .u8)) (hC : P.cellsOf e = 1)
    (h : DataW.trod enc P w base (fun _ => true) held fuel t [v] = some x) : ∃ l : List UInt8, Bytes (fun b => b < w.heap.size) w v l := by
  obtain ⟨n, hn⟩ := read_row (by omega) ht hC IsU8 (fun m cs y hy => by
    obtain ⟨z, rfl, _, wz⟩ := DataW.trod_int he hy
    exact ⟨z, rfl, bounds_u8 wz⟩) h
  obtain ⟨l, _, hl⟩ := bytes_of_row hn
  exact ⟨l, hl⟩
end

theorem RowOf.keep {k : Nat} {E : List Value → Prop} {w w' : World} {v : Value} {n : Nat} (h : RowOf k E w v n) (hb : Below w.heap.size w w') : RowOf k E w' v n := by
  obtain ⟨a, cap, rfl, h1, h2, h3, h4⟩ := h
  refine ⟨a, cap, rfl, h1, h2, h3, ?_⟩
  rcases h4 with h4 | ⟨b, off, L, t, fz, rfl, hlt, hg, hle, hE⟩
  · exact .inl h4
  · exact .inr ⟨b, off, L, t, fz, rfl, Nat.lt_of_lt_of_le hlt hb.size, (hb.block b hlt).trans hg, hle, hE⟩
end Go.Proofs.YtelphnigdancpaaGreatDoor

namespace Go.Proofs.YtelphnigdancpaaGreatDoor
open Go.RowKit Go.ChangeShapes Go.WideShapes Go.ChangeAt Go.Deep
set_option linter.unusedVariables false
set_option maxRecDepth 20000

section
variable {H : Type} {enc : TypeId × Value → H} {w : World} {base : Nat} {held : Bool}
end

end Go.Proofs.YtelphnigdancpaaGreatDoor
/- What the premise on the laid tables says, and a world that fits it. -/
namespace Go.Proofs.YtelphnigdancpaaGreatDoor
open Go.ChangeShapes Go.WideShapes Go.RowKit Go.Lib
set_option linter.unusedVariables false
set_option maxRecDepth 20000

abbrev laidQ : List (String × DataW Unit) := [("unicode/utf8.acceptRanges", Rows.laid_unicode_utf8_acceptRanges), ("unicode/utf8.first", Rows.laid_unicode_utf8_first)]
theorem accept_eq : Rows.laid_unicode_utf8_acceptRanges (H := Unit) = Lib.acceptData := by kernel_rfl
theorem first_eq : Rows.laid_unicode_utf8_first = Lib.firstData := by kernel_rfl

theorem tabs_of_laid {W : World} (h : laidMet Tryz.prog laidQ W) : Tabs W ∧ 3 ≤ W.heap.size := by
  have h3 := Lib.laidMet.reads h (.tail _ (.head _))
  have h4 := Lib.laidMet.reads h (.head _)
  rw [first_eq] at h3
  rw [accept_eq] at h4
  have hT : Tabs W := utf8Tabs_of_readsT (U8Types.of196 Tryz.laysValid) ⟨by kernel_rfl, by kernel_rfl, by kernel_rfl, by kernel_rfl, by kernel_rfl, by kernel_rfl, by kernel_rfl⟩ h3 h4
  refine ⟨hT, ?_⟩
  have hc := (hT.2 0 (by decide)).1
  have h2 : Tryz.laysValid_ren.g 4 = 2 := by decide
  rw [h2] at hc
  have hz : W.heap[2]? ≠ none := fun hn => by simp [World.cell?, hn] at hc
  have := Array.getElem?_eq_none_iff (xs := W.heap) (i := 2)
  by_cases hs : W.heap.size ≤ 2
  · exact absurd (this.2 hs) hz
  · omega

noncomputable def laidWorld (os : Os) : World :=
  let w0 := World.holding Tryz.prog os ⟨#[], #[], []⟩
  let put (h : Array Obj) (g : Nat) (cs : Array Value) : Array Obj := h.modify g fun
    | .cells _ t frozen => .cells cs t frozen
    | o => o
  let h1 := put w0.heap (Tryz.laysValid_ren.g 3) (Lib.firstTab.map fun z => Value.int .u8 z).toArray
  let h2 := put h1 (Tryz.laysValid_ren.g 4) ((List.range 16).flatMap fun i => [Value.int .u8 (Lib.accLo i), Value.int .u8 (Lib.accHi i)]).toArray
  { w0 with heap := h2 }
theorem laidWorld_met (os : Os) (args : Array Value) : laidMet Tryz.prog laidQ ((laidWorld os).forCall (fun _ _ => 0) ⟨#[], args, []⟩).memory :=
  (LaidIn.of_run (l := laidQ) [Tryz.laysValid_ren.g 4, Tryz.laysValid_ren.g 3] 8 (by kernel_rfl) (by kernel_rfl) (by kernel_rfl) (by kernel_rfl)).met
end Go.Proofs.YtelphnigdancpaaGreatDoor

namespace Go.Proofs.YtelphnigdancpaaGreatDoor
open Go.RowKit Go.ChangeShapes Go.WideShapes Go.ChangeAt Go.Deep
set_option linter.unusedVariables false
set_option maxRecDepth 20000

end Go.Proofs.YtelphnigdancpaaGreatDoor

namespace Go.Proofs.YtelphnigdancpaaGreatDoor
open Go.RowKit Go.ChangeShapes Go.WideShapes Go.ChangeAt
set_option linter.unusedVariables false
set_option maxRecDepth 20000
attribute [local go_sem ↓] seal_append
attribute [local go_sem] opC upC

/-! arguments -/
def IsActIn (w : World) (cs : List Value) : Prop :=
  ∃ (kind one two which : Int) (vB : Value) (l : List UInt8), cs = [.int .u8 kind, .int .u8 one, .int .u8 two, .int .u16 which, vB] ∧ Bytes (fun b => b < w.heap.size) w vB l ∧
    (0 ≤ kind ∧ kind ≤ 255) ∧ (0 ≤ one ∧ one ≤ 255) ∧ (0 ≤ two ∧ two ≤ 255) ∧ (0 ≤ which ∧ which ≤ 65535)
theorem cellsAct : Tryz.prog.cellsOf 81 = 5 := by kernel_rfl
theorem cellsU8r : Tryz.prog.cellsOf 5 = 1 := by kernel_rfl
theorem cellsU16r : Tryz.prog.cellsOf 79 = 1 := by kernel_rfl
theorem cellsBsr : Tryz.prog.cellsOf 57 = 1 := by kernel_rfl
theorem act_of_trod {H : Type} {enc : TypeId × Value → H} {w : World} {base m : Nat} {held : Bool} {cs : List Value} {y : DataW H × List MemPlace}
    (hy : DataW.trod enc Tryz.prog w base (fun _ => true) held m 81 cs = some y) : IsActIn w cs := by
  obtain ⟨xs, n, _, _, hlen, hxl, hg⟩ := DataW.trod_struct Tryz.underlying81 hy
  have g0 := hg 0 _ rfl
  have g1 := hg 1 _ rfl
  have g2 := hg 2 _ rfl
  have g3 := hg 3 _ rfl
  have g4 := hg 4 _ rfl
  rw [cellsAct] at hlen
  match cs, hlen, xs, hxl with
  | [c0, c1, c2, c3, c4], _, [x0, x1, x2, x3, x4], _ =>
    simp [cellsU8r, cellsU16r, cellsBsr] at g0 g1 g2 g3 g4
    obtain ⟨z0, e0, _, wz0⟩ := DataW.trod_int Tryz.underlying5 g0
    obtain ⟨z1, e1, _, wz1⟩ := DataW.trod_int Tryz.underlying5 g1
    obtain ⟨z2, e2, _, wz2⟩ := DataW.trod_int Tryz.underlying5 g2
    obtain ⟨z3, e3, _, wz3⟩ := DataW.trod_int Tryz.underlying79 g3
    obtain ⟨l, hl⟩ := read_bytes Tryz.underlying57 Tryz.underlying5 cellsU8r g4
    simp at e0 e1 e2 e3
    subst e0 e1 e2 e3
    exact ⟨z0, z1, z2, z3, c4, l, rfl, hl, bounds_u8 wz0, bounds_u8 wz1, bounds_u8 wz2, bounds_u16 wz3⟩
def IsActs (w : World) (v : Value) : Prop := ∃ n, RowOf 5 (IsActIn w) w v n
theorem open_Acts {H : Type} {enc : TypeId × Value → H} {w : World} {b0 : Nat} {v : Value} {d : DataW H} {p : List MemPlace}
    (hv : Value.okWide Tryz.prog w .any b0 62 v) (h : DataW.Trod enc Tryz.prog w 0 (fun _ => true) true 62 v d p) : IsActs w v := by
  obtain ⟨a0, len0, cap0, rfl⟩ := okWide_slice Tryz.underlying62 hv
  obtain ⟨fuel, hf⟩ := h
  exact read_row (by omega) Tryz.underlying62 cellsAct (IsActIn w) (fun m cs y hy => act_of_trod hy) hf

structure SAct where
  kind : Int
  one : Int
  two : Int
  which : Int
  keys : List UInt8
def ActOk (x : SAct) : Prop := (0 ≤ x.kind ∧ x.kind ≤ 255) ∧ (0 ≤ x.one ∧ x.one ≤ 255) ∧ (0 ≤ x.two ∧ x.two ≤ 255) ∧ (0 ≤ x.which ∧ x.which ≤ 65535)
def ActsAt (w : World) (lo : Nat) (v : Value) (A : List SAct) : Prop :=
  ∃ a cap, v = .slice a A.length cap ∧ A.length ≤ 9223372036854775807 ∧ (A = [] ∨ ∃ b off, a = some ⟨b, off, none⟩ ∧ b < lo ∧ ∀ i (h : i < A.length), ActOk A[i] ∧
    ∃ x c, w.cell? ⟨b, off + i * 5, none⟩ = some (.int .u8 A[i].kind) ∧ w.cell? ⟨b, off + i * 5 + 1, none⟩ = some (.int .u8 A[i].one) ∧ w.cell? ⟨b, off + i * 5 + 2, none⟩ = some (.int .u8 A[i].two) ∧ w.cell? ⟨b, off + i * 5 + 3, none⟩ = some (.int .u16 A[i].which) ∧ w.cell? ⟨b, off + i * 5 + 4, none⟩ = some (.slice x A[i].keys.length c) ∧ Bytes (fun b => b < lo) w (.slice x A[i].keys.length c) A[i].keys)
theorem acts_of {w : World} {v : Value} (h : IsActs w v) : ∃ A, ActsAt w w.heap.size v A := by
  obtain ⟨n, a, cap, rfl, h1, h2, h3, h4⟩ := h
  have hn9 : n ≤ 9223372036854775807 := by unfold maxLen at h2; omega
  rcases h4 with rfl | ⟨b, off, L, t, fz, rfl, hb, hg, hle, hE⟩
  · exact ⟨[], a, cap, rfl, by simp, .inl rfl⟩
  · have hex : ∀ i, i < n → ∃ A : SAct, ActOk A ∧
        ∃ x c, w.cell? ⟨b, off + i * 5, none⟩ = some (.int .u8 A.kind) ∧ w.cell? ⟨b, off + i * 5 + 1, none⟩ = some (.int .u8 A.one) ∧ w.cell? ⟨b, off + i * 5 + 2, none⟩ = some (.int .u8 A.two) ∧ w.cell? ⟨b, off + i * 5 + 3, none⟩ = some (.int .u16 A.which) ∧ w.cell? ⟨b, off + i * 5 + 4, none⟩ = some (.slice x A.keys.length c) ∧ Bytes (fun b => b < w.heap.size) w (.slice x A.keys.length c) A.keys := by
      intro i hi
      obtain ⟨kind, one, two, which, vB, l, he, hB, k1, k2, k3, k4⟩ := hE i hi
      have hB0 := hB
      obtain ⟨x, c, rfl, hc, hm, -, -⟩ := hB
      have hget : ∀ j u, [Value.int .u8 kind, .int .u8 one, .int .u8 two, .int .u16 which, .slice x l.length c][j]? = some u → j < 5 → w.cell? ⟨b, off + i * 5 + j, none⟩ = some u := fun j u hu hj => by
        rw [← he, List.getElem?_take, if_pos hj, List.getElem?_drop] at hu
        rw [cell_of_row w b _ L t fz hg]
        simpa using hu
      exact ⟨⟨kind, one, two, which, l⟩, ⟨k1, k2, k3, k4⟩, x, c, hget 0 _ rfl (by omega), hget 1 _ rfl (by omega), hget 2 _ rfl (by omega), hget 3 _ rfl (by omega), hget 4 _ rfl (by omega), hB0⟩
    let f : Nat → SAct := fun i => if h : i < n then Classical.choose (hex i h) else ⟨0, 0, 0, 0, []⟩
    have hf : ∀ i, (h : i < n) → _ := fun i h => Classical.choose_spec (hex i h)
    have hfe : ∀ i, (h : i < n) → f i = Classical.choose (hex i h) := fun i h => by simp only [f, dif_pos h]
    refine ⟨(List.range n).map f, some ⟨b, off, none⟩, cap, by simp, by simpa using hn9, .inr ⟨b, off, rfl, hb, fun i hi => ?_⟩⟩
    have hi' : i < n := by simpa using hi
    have e : ((List.range n).map f)[i] = Classical.choose (hex i hi') := by simp [hfe i hi']
    rw [e]
    exact hf i hi'
theorem ActsAt.kept {w w' : World} {lo : Nat} {v : Value} {A : List SAct} (h : ActsAt w lo v A) (hb : Below lo w w') : ActsAt w' lo v A := by
  obtain ⟨a, cap, rfl, h9, h⟩ := h
  refine ⟨a, cap, rfl, h9, ?_⟩
  rcases h with h | ⟨b, off, rfl, hlt, h⟩
  · exact .inl h
  · refine .inr ⟨b, off, rfl, hlt, fun i hi => ?_⟩
    obtain ⟨h1, x, c, c0, c1, c2, c3, c4, hB⟩ := h i hi
    have hc : ∀ j, w'.cell? ⟨b, j, none⟩ = w.cell? ⟨b, j, none⟩ := fun j => hb.cell (p := ⟨b, j, none⟩) hlt
    exact ⟨h1, x, c, by rw [hc]; exact c0, by rw [hc]; exact c1, by rw [hc]; exact c2, by rw [hc]; exact c3, by rw [hc]; exact c4, hB.keep fun b hb' _ => hb.block b hb'⟩

/-! the four keys -/
def key4 (n : Nat) : RKey := [49, 97, 0, UInt8.ofNat (98 + n)]
def K4 : List RKey := [[49, 97, 0, 98], [49, 97, 0, 99], [49, 97, 0, 100], [49, 97, 0, 101]]
theorem K4_ok : ∀ k ∈ K4, keyOk k = true := by
  have h : K4.all keyOk = true := by decide +kernel
  exact List.all_eq_true.1 h
theorem key4_mem {n : Nat} (h : n < 4) : key4 n ∈ K4 := by
  unfold key4 K4
  rcases (show n = 0 ∨ n = 1 ∨ n = 2 ∨ n = 3 by omega) with rfl | rfl | rfl | rfl <;> decide
def hasN (l : List UInt8) (n k : Nat) : Bool := (l.take k).any fun c => decide (c.toNat % 4 = n)
def namedQ (l : List UInt8) (n : Nat) : List RKey := ((List.range n).filter fun i => hasN l i 10).map key4
def named4 (l : List UInt8) : List RKey := namedQ l 4
theorem hasN_succ (l : List UInt8) (n k : Nat) (h : k < l.length) : hasN l n (k + 1) = (hasN l n k || decide (l[k].toNat % 4 = n)) := by
  unfold hasN
  rw [List.take_succ_eq_append_getElem h, List.any_append]
  simp
theorem hasN_end (l : List UInt8) (n k : Nat) (h : k = l.length ∨ k = 10) (hk : k ≤ 10) : hasN l n k = hasN l n 10 := by
  rcases h with rfl | rfl
  · unfold hasN
    rw [List.take_length, List.take_of_length_le hk]
  · rfl
theorem namedQ_succ (l : List UInt8) (n : Nat) : namedQ l (n + 1) = namedQ l n ++ if hasN l n 10 then [key4 n] else [] := by
  unfold namedQ
  rw [List.range_succ, List.filter_append, List.map_append]
  congr 1
  by_cases h : hasN l n 10 = true
  · simp [h]
  · simp [h]
theorem named4_mem {l : List UInt8} {k : RKey} (h : k ∈ named4 l) : k ∈ K4 := by
  unfold named4 namedQ at h
  obtain ⟨i, hi, rfl⟩ := List.mem_map.1 h
  exact key4_mem (List.mem_range.1 (List.mem_filter.1 hi).1)
theorem namedQ_len (l : List UInt8) (n : Nat) : (namedQ l n).length ≤ n := by
  unfold namedQ
  rw [List.length_map]
  exact Nat.le_trans (List.length_filter_le _ _) (by simp)
theorem key4_inj {a b : Nat} (ha : a < 4) (hb : b < 4) (h : key4 a = key4 b) : a = b := by
  unfold key4 at h
  simp at h
  have := ofNat8_inj (a := 98 + a) (b := 98 + b) (by omega) (by omega) (by simpa using h)
  omega
theorem named4_nodup (l : List UInt8) : (named4 l).Nodup := by
  unfold named4 namedQ
  refine List.pairwise_map.2 ?_
  have h1 : ((List.range 4).filter fun i => hasN l i 10).Nodup := List.nodup_range.filter _
  refine (List.pairwise_iff_forall_sublist).2 fun {a b} hs e => ?_
  have ha : a ∈ (List.range 4).filter fun i => hasN l i 10 := hs.subset (by simp)
  have hb : b ∈ (List.range 4).filter fun i => hasN l i 10 := hs.subset (by simp)
  have hab := key4_inj (List.mem_range.1 (List.mem_filter.1 ha).1) (List.mem_range.1 (List.mem_filter.1 hb).1) e
  subst hab
  have := h1.sublist hs
  simp at this
theorem named4_allowed {d : Int} (h0 : 0 ≤ d) (h8 : d < 8) (l : List UInt8) : Allowed d (named4 l) := ⟨h0, h8, named4_nodup l, fun k hk => K4_ok k (named4_mem hk)⟩
theorem named4_len (l : List UInt8) : (named4 l).length ≤ 4 := namedQ_len l 4
theorem K4_keys {k : RKey} (h : k ∈ K4) : k.length ≤ 400 := keyOk_len (K4_ok k h)
end Go.Proofs.YtelphnigdancpaaGreatDoor
