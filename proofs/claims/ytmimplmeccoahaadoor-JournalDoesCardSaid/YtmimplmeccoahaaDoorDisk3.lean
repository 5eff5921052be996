/- New and Fail of a disk, by contracts. -/
import Derived.Test.YtmimplmeccoahaaDoorDisk2
namespace Go.Proofs.YtmimplmeccoahaaDoor
open Go.RowKit
set_option linter.unusedVariables false
set_option maxRecDepth 20000

theorem fold_list (off : Nat) : ∀ (V : List Value) (i : Nat) (cs : Array Value), off + i + V.length ≤ cs.size →
    (V.zipIdx i).foldl (fun (cs : Array Value) (x : Value × Nat) => cs.setIfInBounds (off + x.2) x.1) cs = (cs.toList.take (off + i) ++ V ++ cs.toList.drop (off + i + V.length)).toArray := by
  intro V
  induction V with
  | nil => intro i cs h; simp
  | cons v V ih =>
    intro i cs h
    simp only [List.length_cons] at h
    rw [List.zipIdx_cons, List.foldl_cons, ih (i + 1) _ (by simp; omega)]
    congr 1
    simp only [Array.toList_setIfInBounds]
    apply List.ext_getElem?
    intro j
    simp only [List.getElem?_append, List.length_append, List.length_take, List.length_set, Array.length_toList, List.getElem?_take, List.getElem?_drop, List.getElem?_set, List.length_cons]
    by_cases h1 : j < off + i
    · have e1 : j < min (off + (i + 1)) cs.size := by omega
      have e2 : j < min (off + i) cs.size := by omega
      rw [if_pos (by omega), if_pos e1, if_pos (by omega), if_neg (by omega), if_pos (by omega), if_pos e2, if_pos h1]
    · by_cases h2 : j = off + i
      · subst h2
        have e1 : off + i < min (off + (i + 1)) cs.size := by omega
        rw [if_pos (by omega), if_pos e1, if_pos (by omega), if_pos rfl, if_pos (by omega), if_pos (by omega), if_neg (by omega)]
        simp [show off + i - min (off + i) cs.size = 0 from by omega]
      · by_cases h3 : j < off + i + (V.length + 1)
        · rw [if_pos (by omega), if_neg (by omega), if_pos (by omega), if_neg (by omega)]
          rw [show j - min (off + i) cs.size = (j - min (off + (i + 1)) cs.size) + 1 from by omega]
          simp
        · rw [if_neg (by omega), if_neg (by omega), if_neg (by omega)]
          congr 1
          omega

theorem fold_set (V : List Value) (off : Nat) (cs : Array Value) (h : off + V.length ≤ cs.size) :
    V.toArray.zipIdx.foldl (fun (cs : Array Value) (x : Value × Nat) => cs.setIfInBounds (off + x.2) x.1) cs = (cs.toList.take off ++ V ++ cs.toList.drop (off + V.length)).toArray := by
  have := fold_list off V 0 cs (by simpa using h)
  simp only [Nat.add_zero] at this
  rw [← this]
  simp

/-- a struct's value put together, kept whole -/
def BD (t : TypeId) (parts : Array (Nat × Value)) : Sem Value := Instr.build t parts
theorem seal_build_fault (parts : Array (Nat × Value)) : Instr.build 89 parts = BD 89 parts := rfl
theorem seal_load_sector (a : Addr) : loadVar 87 a = LV 87 a := rfl
theorem seal_load_fault (a : Addr) : loadVar 89 a = LV 89 a := rfl
theorem seal_store_sector (a : Addr) (v : Value) : storeVar 87 a v = SV 87 a v := rfl
theorem seal_store_fault (a : Addr) (v : Value) : storeVar 89 a v = SV 89 a v := rfl

theorem zeroFault : (Tryd.prog.info? 89).map (fun i => i.zero.map (fun z => z.cells.size)) = some (some 65) := by kernel_rfl
theorem info_zero {P : Program} {t : TypeId} {n : Nat} (h : (P.info? t).map (fun i => i.zero.map (fun z => z.cells.size)) = some (some n)) : ∃ i z, P.info? t = some i ∧ i.zero = some z ∧ z.cells.size = n := by
  obtain ⟨i, hi, h1⟩ := Option.map_eq_some_iff.1 h
  obtain ⟨z, hz, h2⟩ := Option.map_eq_some_iff.1 h1
  exact ⟨i, z, hi, hz, h2⟩
theorem sizeSector : (Tryd.prog.info? 87).map (·.size) = some 64 := by kernel_rfl
theorem sizeFault : (Tryd.prog.info? 89).map (·.size) = some 65 := by kernel_rfl
theorem sizeInt : (Tryd.prog.info? 3).map (·.size) = some 1 := by kernel_rfl

theorem run_BD_fault (w : World) (k : Int) (V : List Value) (hV : V.length = 64) :
    (BD 89 #[(0, .int .i64 k), (1, .agg V.toArray)]).run Tryd.prog w = .ok (.agg (.int .i64 k :: V).toArray) w := by
  obtain ⟨i, zv, hi, hz, hs⟩ := info_zero zeroFault
  obtain ⟨i1, h1, s1⟩ := Option.map_eq_some_iff.1 sizeInt
  obtain ⟨i2, h2, s2⟩ := Option.map_eq_some_iff.1 sizeSector
  generalize hzc : zv.cells = z at *
  have hne : ¬ z = #[] := by intro h; rw [h] at hs; simp at hs
  have hf := fold_list 1 V 0 (z.setIfInBounds 0 (.int .i64 k)) (by simp; omega)
  have c1 : ∀ (q : IntKind) (n : Int), (Value.int q n).cells = #[.int q n] := fun _ _ => rfl
  have c2 : ∀ (cs : Array Value), (Value.agg cs).cells = cs := fun _ => rfl
  have fin : (List.take 1 (z.toList.set 0 (.int .i64 k)) ++ V ++ List.drop (1 + V.length) (z.toList.set 0 (.int .i64 k))) = .int .i64 k :: V := by
    have : z.toList.length = 65 := by simpa using hs
    generalize z.toList = zl at *
    obtain ⟨a, zl, rfl⟩ : ∃ a l, zl = a :: l := by cases zl with
      | nil => simp at this
      | cons a l => exact ⟨a, l, rfl⟩
    simp at this
    simp [hV, this]
  simp only [Nat.add_zero, Array.toList_setIfInBounds, fin] at hf
  simp only [BD, Instr.build, zeroValue, typeInfo, sizeOf]
  simp [hi, hz, h1, h2, run_underlying Tryd.underlying89, Instr.fill, c1, c2, s1, s2, hV, hs, hzc, hne, hf]
end Go.Proofs.YtmimplmeccoahaaDoor
