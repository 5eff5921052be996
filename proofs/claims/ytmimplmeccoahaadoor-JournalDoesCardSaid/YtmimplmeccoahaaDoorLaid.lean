/- What the premise on the laid variable says, and a world that fits it. -/
import Derived.Test.YtmimplmeccoahaaDoorRows
import Derived.Test.YtmimplmeccoahaaDoorCrc
import Derived.ChangeSame
import Derived.ChangeVars
import Derived.JoinedOf
import Derived.RowKit
namespace Go.Proofs.YtmimplmeccoahaaDoor
open Go.ChangeShapes Go.WideShapes Go.RowKit
set_option linter.unusedVariables false
set_option maxRecDepth 20000

theorem q_own : ownKnob Tryd.prog.godebug = none := by kernel_rfl
theorem q_num : Tryd.prog.globalNamed "henkan/crc.quarter" = some 0 := by kernel_rfl
theorem q_type : (Tryd.prog.globals[0]?).map (·.type) = some 115 := by kernel_rfl
theorem q_cells : Tryd.prog.cellsOf 115 = 16 := by kernel_rfl
theorem q_cell : Tryd.prog.cellsOf 67 = 1 := by kernel_rfl
theorem q_under : Tryd.prog.underlying 115 = some (.array 16 67) := by kernel_rfl
theorem q_underI : Tryd.prog.underlying 67 = some (.int .u32) := by kernel_rfl

theorem int_of_trod {H : Type} {enc : TypeId × Value → H} {P : Program} {w : World} {base : Nat} {sp : Nat → Bool} {held : Bool} {fuel : Nat} {t : TypeId} {k : IntKind} {c : Value} {y : DataW H × List MemPlace}
    (ht : P.underlying t = some (.int k)) (h : DataW.trod enc P w base sp held fuel t [c] = some y) : ∃ n, c = .int k n ∧ y = (.lit (.int k n), []) := by
  cases fuel with
  | zero => simp [DataW.trod] at h
  | succ fuel =>
    cases c <;> simp [DataW.trod, ht] at h
    rename_i k' n
    obtain ⟨⟨rfl, _⟩, rfl⟩ := h
    exact ⟨n, rfl, rfl⟩

abbrev laidQ : List (String × DataW Unit) := [("henkan/crc.quarter", Rows.laid_henkan_crc_quarter)]

set_option maxHeartbeats 1000000 in
theorem cells_of_laid {W : World} (h : laidMet Tryd.prog laidQ W) : W.var? Tryd.prog "henkan/crc.quarter" = some quarterCells.toArray := by
  obtain ⟨ps, ⟨g, t, cs, fuel, p, q, hg, ht, hvar, hd, _, _⟩, _⟩ := h
  obtain rfl := Option.some.inj (q_num.symm.trans hg)
  obtain rfl := Option.some.inj (q_type.symm.trans ht)
  rw [hvar]
  congr 1
  obtain ⟨l⟩ := cs
  cases fuel with
  | zero => simp [DataW.trod] at hd
  | succ fuel =>
    simp only [DataW.trod, q_under, q_cells, q_cell] at hd
    split at hd
    · rename_i hl
      obtain ⟨c0, c1, c2, c3, c4, c5, c6, c7, c8, c9, c10, c11, c12, c13, c14, c15, rfl⟩ : ∃ c0 c1 c2 c3 c4 c5 c6 c7 c8 c9 c10 c11 c12 c13 c14 c15, l = [c0, c1, c2, c3, c4, c5, c6, c7, c8, c9, c10, c11, c12, c13, c14, c15] := by
        match l, hl with
        | [c0, c1, c2, c3, c4, c5, c6, c7, c8, c9, c10, c11, c12, c13, c14, c15], _ => exact ⟨c0, c1, c2, c3, c4, c5, c6, c7, c8, c9, c10, c11, c12, c13, c14, c15, rfl⟩
      have e : List.range 16 = [0, 1, 2, 3, 4, 5, 6, 7, 8, 9, 10, 11, 12, 13, 14, 15] := rfl
      rw [e] at hd
      simp only [Option.map_eq_some_iff, List.mapM_cons, List.mapM_nil, Option.bind_eq_bind, Option.bind_eq_some_iff, Option.pure_def, Option.some.injEq] at hd
      obtain ⟨xs, ⟨y0, h0, _, ⟨y1, h1, _, ⟨y2, h2, _, ⟨y3, h3, _, ⟨y4, h4, _, ⟨y5, h5, _, ⟨y6, h6, _, ⟨y7, h7, _, ⟨y8, h8, _, ⟨y9, h9, _, ⟨y10, h10, _, ⟨y11, h11, _, ⟨y12, h12, _, ⟨y13, h13, _, ⟨y14, h14, _, ⟨y15, h15, _, rfl, rfl⟩, rfl⟩, rfl⟩, rfl⟩, rfl⟩, rfl⟩, rfl⟩, rfl⟩, rfl⟩, rfl⟩, rfl⟩, rfl⟩, rfl⟩, rfl⟩, rfl⟩, rfl⟩, hx⟩ := hd
      obtain ⟨n0, rfl, rfl⟩ := int_of_trod q_underI h0
      obtain ⟨n1, rfl, rfl⟩ := int_of_trod q_underI h1
      obtain ⟨n2, rfl, rfl⟩ := int_of_trod q_underI h2
      obtain ⟨n3, rfl, rfl⟩ := int_of_trod q_underI h3
      obtain ⟨n4, rfl, rfl⟩ := int_of_trod q_underI h4
      obtain ⟨n5, rfl, rfl⟩ := int_of_trod q_underI h5
      obtain ⟨n6, rfl, rfl⟩ := int_of_trod q_underI h6
      obtain ⟨n7, rfl, rfl⟩ := int_of_trod q_underI h7
      obtain ⟨n8, rfl, rfl⟩ := int_of_trod q_underI h8
      obtain ⟨n9, rfl, rfl⟩ := int_of_trod q_underI h9
      obtain ⟨n10, rfl, rfl⟩ := int_of_trod q_underI h10
      obtain ⟨n11, rfl, rfl⟩ := int_of_trod q_underI h11
      obtain ⟨n12, rfl, rfl⟩ := int_of_trod q_underI h12
      obtain ⟨n13, rfl, rfl⟩ := int_of_trod q_underI h13
      obtain ⟨n14, rfl, rfl⟩ := int_of_trod q_underI h14
      obtain ⟨n15, rfl, rfl⟩ := int_of_trod q_underI h15
      simp [Rows.laid_henkan_crc_quarter] at hx
      obtain ⟨⟨rfl, rfl, rfl, rfl, rfl, rfl, rfl, rfl, rfl, rfl, rfl, rfl, rfl, rfl, rfl, rfl⟩, _⟩ := hx
      rfl
    · cases hd

theorem quarter_of_laid {W : World} (h : laidMet Tryd.prog laidQ W) : Quarter W := by
  have hv := cells_of_laid h
  unfold World.var? at hv
  rw [q_num] at hv
  simp only [Option.bind_some] at hv
  split at hv
  · rename_i cs t fz hc
    obtain rfl := Option.some.inj hv
    exact ⟨_, _, hc⟩
  · cases hv

noncomputable def laidWorld (os : Os) : World :=
  { World.holding Tryd.prog os ⟨#[], #[], []⟩ with heap := (World.holding Tryd.prog os ⟨#[], #[], []⟩).heap.modify 0 fun
      | .cells _ t frozen => .cells quarterCells.toArray t frozen
      | o => o }
theorem laidWorld_row (os : Os) (args : Array Value) : ((laidWorld os).forCall (fun _ _ => 0) ⟨#[], args, []⟩).memory.heap[0]? = some (.cells quarterCells.toArray 115 (0, 0)) := by kernel_rfl

theorem laidWorld_met (os : Os) (args : Array Value) : laidMet Tryd.prog laidQ ((laidWorld os).forCall (fun _ _ => 0) ⟨#[], args, []⟩).memory :=
  ⟨_, ⟨0, 115, quarterCells.toArray, 8, [], [], by kernel_rfl, by kernel_rfl, by kernel_rfl, by kernel_rfl, rfl, rfl⟩, by decide +kernel, fun b off h => by
    have h' : MemPlace.cell b off ∈ [MemPlace.cell 0 0, MemPlace.cell 0 1, MemPlace.cell 0 2, MemPlace.cell 0 3, MemPlace.cell 0 4, MemPlace.cell 0 5, MemPlace.cell 0 6, MemPlace.cell 0 7, MemPlace.cell 0 8, MemPlace.cell 0 9, MemPlace.cell 0 10, MemPlace.cell 0 11, MemPlace.cell 0 12, MemPlace.cell 0 13, MemPlace.cell 0 14, MemPlace.cell 0 15] := h
    have hb : b = 0 ∧ off < 16 := by
      simp at h'
      omega
    obtain ⟨rfl, ho⟩ := hb
    refine ⟨⟨_, _, laidWorld_row os args⟩, fun u v hc => ?_⟩
    simp only [World.cell?, laidWorld_row os args] at hc
    have : ∀ i, i < 16 → ∃ n, quarterCells.toArray[i]? = some (.int .u32 n) := fun i hi => by
      have hl : quarterCells.length = 16 := by decide
      refine ⟨((quarterT.getD i 0#32).toNat : Int), ?_⟩
      have hl2 : quarterT.length = 16 := by decide
      simp [quarterCells, List.getElem?_eq_getElem (show i < quarterT.length by omega)]
    obtain ⟨n, hn⟩ := this off ho
    simp at hc hn
    rw [hn] at hc
    simp at hc⟩
end Go.Proofs.YtmimplmeccoahaaDoor
