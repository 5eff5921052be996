/- copy into a sector; the head of a generation. -/
import Derived.Test.YtmimplmeccoahaaDoorJ1
import Derived.Laws.CopyOwn
import Derived.Laws.IdiomCopy
namespace Go.Proofs.YtmimplmeccoahaaDoor
open Go.RowKit
set_option linter.unusedVariables false
set_option maxRecDepth 20000

/-- copy, kept whole -/
def CP (ts : Array TypeId) (t : TypeId) (args : Array Value) : Sem Value := Builtin.copy_ ts t args
theorem seal_copy (ts : Array TypeId) (t : TypeId) (args : Array Value) : Builtin.copy_ ts t args = CP ts t args := rfl
attribute [local go_sem ↓] seal_copy
attribute [local go_sem] opC upC

theorem sizeU8 : (Tryd.prog.info? 5).map (·.size) = some 1 := by kernel_rfl

theorem run_copy_sec {w : World} {sb : Nat} {l : List UInt8} (h : SecAt w sb l) (off dLen dCap : Nat) {F : Blks} {v : Value} {x : List UInt8} (hv : Bytes F w v x) (n : Nat) (hn : n = Nat.min x.length dLen) (hfit : off + n ≤ 64) :
    ∃ w', (CP #[30, 30] 3 #[.slice (some ⟨sb, off, none⟩) dLen dCap, v]).run Tryd.prog w = .ok (.int .i64 (n : Int)) w' ∧ SecAt w' sb (putL l off (x.take n)) ∧ Only (fun b => b = sb) w w' ∧ w'.heap.size = w.heap.size := by
  obtain ⟨hb, hl⟩ := h
  obtain ⟨a, cap, rfl, hc, hm, hz, hx⟩ := hv
  have hxl : (x.take n).length = n := by rw [List.length_take, hn]; exact Nat.min_eq_left (Nat.min_le_left _ _)
  by_cases h0 : n = 0
  · subst h0
    refine ⟨w, run_copy_none w 30 30 3 5 (some ⟨sb, off, none⟩) a dLen dCap _ cap Tryd.underlying30 sizeU8 hn.symm, ⟨?_, ?_⟩, Only.refl _ _, rfl⟩
    · simpa [putL] using hb
    · simp [putL, hl]
  · rcases hx with rfl | ⟨b, o, L, t, fz, rfl, hF, hg, hle, hr⟩
    · simp at hn; omega
    · have hrun := run_copy_row (P := Tryd.prog) w 30 30 3 5 sb off dLen dCap ⟨b, o, none⟩ x.length cap (l.map B).toArray 78 ((x.take n).map B) Tryd.underlying30 sizeU8 hb (by rw [List.length_map, hxl, hn])
        (fun j u hj => by
          have hjn : j < n := by have := (List.getElem?_eq_some_iff.1 hj).1; rw [List.length_map, hxl] at this; exact this
          have hjx : j < x.length := by rw [hn] at hjn; exact Nat.lt_of_lt_of_le hjn (Nat.min_le_left _ _)
          rw [Addr.add_lit, cell_of_row w b (o + j) L t fz hg, hr j hjx]
          rw [List.getElem?_map, List.getElem?_take, if_pos hjn, List.getElem?_eq_getElem hjx] at hj
          exact hj) (by rw [List.length_map, hxl]; simp [hl]; omega) (oneCell_B _)
      simp only [List.length_map, hxl] at hrun
      refine ⟨_, hrun, ⟨?_, ?_⟩, Only.setRow (F := fun b => b = sb) (Only.refl _ w) (.inl rfl) _, by simp⟩
      · have := hb.row ((l.map B).take off ++ (x.take n).map B ++ (l.map B).drop (off + n))
        unfold putL
        rw [hxl]
        simpa [List.map_append, List.map_take, List.map_drop] using this
      · rw [putL_length _ _ _ (by rw [hxl, hl]; exact hfit), hl]

theorem run_copy_magic {w : World} {sb : Nat} {l : List UInt8} (h : SecAt w sb l) :
    ∃ w', (CP #[30, 9] 3 #[.slice (some ⟨sb, 0, none⟩) 64 64, .string ⟨#[72, 78, 75, 74]⟩]).run Tryd.prog w = .ok (.int .i64 4) w' ∧ SecAt w' sb (putL l 0 magicB) ∧ Only (fun b => b = sb) w w' ∧ w'.heap.size = w.heap.size := by
  obtain ⟨hb, hl⟩ := h
  have hst := run_storeCells_at Tryd.prog sb 0 78 (magicB.map B) 0 (l.map B).toArray w hb (by simp [magicB, hl]) (oneCell_B _)
  simp only [Nat.zero_add, Nat.add_zero] at hst
  refine ⟨w.setRow sb ((l.map B).toArray.toList.take 0 ++ magicB.map B ++ (l.map B).toArray.toList.drop (magicB.map B).length).toArray, ?_, ⟨?_, ?_⟩, Only.setRow (F := fun b => b = sb) (Only.refl _ w) (.inl rfl) _, by simp⟩
  · obtain ⟨i0, hi, hz0, hz1, hz2⟩ := info_parts infoU8
    have hn : Nat.min (ByteArray.mk #[72, 78, 75, 74]).size 64 = 4 := by decide
    have hlit : [Value.int .u8 72, .int .u8 78, .int .u8 75, .int .u8 74] = magicB.map B := rfl
    simp only [CP, Builtin.copy_, Builtin.lenOf, Builtin.firstCells, sizeOf, typeInfo]
    simp [hi, hn]
    rw [hlit, hst]
    simp [goInt]
  · have := hb.row ((l.map B).take 0 ++ magicB.map B ++ (l.map B).drop 4)
    unfold putL
    simpa [List.map_append, List.map_take, List.map_drop, magicB] using this
  · rw [putL_length _ _ _ (by simp [magicB, hl]), hl]

/-- a new sector of zeros -/
def zero64 : List UInt8 := List.replicate 64 0
theorem zero64_length : zero64.length = 64 := by simp [zero64]

theorem head_eq (g : Nat) : sealed ((putL (putL zero64 0 magicB) 4 (num4 g)).take 60) = headB g := by
  unfold headB
  congr 1

theorem seal_build_sector (parts : Array (Nat × Value)) : Instr.build 78 parts = BD 78 parts := rfl
attribute [local go_sem ↓] seal_build_sector
theorem run_BD_sector (W : World) : (BD 78 #[]).run Tryd.prog W = .ok (.agg (zero64.map B).toArray) W := by kernel_rfl

theorem SecAt.new (w : World) (l : List UInt8) (hl : l.length = 64) : SecAt (w.alloc (.cells (l.map B).toArray 78)) w.heap.size l :=
  ⟨by simpa using Blk.new w (l.map B).toArray 78, hl⟩

/-- the four steps to a head -/
theorem below_only {F : Blks} {B0 : Nat} {a w w' : World} (h : Below B0 a w) (ho : Only F w w') (hF : ∀ b, F b → B0 ≤ b) (hs : B0 ≤ w.heap.size) : Below B0 a w' := h.trans (ho.below hF hs)

set_option maxHeartbeats 1000000 in
theorem head_any (w : World) (hq : Quarter w) (h0 : 0 < w.heap.size) (g : Nat) (hg : g < 4294967296) :
    Calls Tryd.prog 48 #[.int .u32 (g : Int)] w fun e w' => ∃ sb, e = .returned (.pointer (some ⟨sb, 0, none⟩)) ∧ w.heap.size ≤ sb ∧ SecAt w' sb (headB g) ∧ Below w.heap.size w w' := by
  have hbd := run_BD_sector w
  obtain ⟨w1, hw1⟩ : ∃ w1, w1 = w.alloc (.cells (zero64.map B).toArray 78) := ⟨_, rfl⟩
  have hs1 : SecAt w1 w.heap.size zero64 := by rw [hw1]; exact SecAt.new _ _ zero64_length
  have hk1 : Below w.heap.size w w1 := by rw [hw1]; exact kept_alloc _ _
  have hz1 : w1.heap.size = w.heap.size + 1 := by rw [hw1]; simp
  have hq1 := hq.keep (hk1.block 0 h0)
  obtain ⟨w2, hcp, hs2, ho2, hz2⟩ := run_copy_magic hs1
  have hk2 := below_only hk1 ho2 (fun b e => by rw [e]; exact Nat.le_refl _) (by omega)
  have hq2 := hq1.keep (ho2.block 0 (by omega) (by omega))
  rw [hw1] at hcp
  have Hw1 := Lib.hid hw1; clear hw1
  have hput := put_any w2 w.heap.size _ hs2 4 g (by omega) hg
  have Hput := Lib.hid hput; clear hput
  go_enter Tryd.func48, Tryd.ntmps48
  go_wp2_with fail
  refine Hput.out.mono ?_
  rintro e w3 ⟨rfl, hs3, ho3, hz3⟩
  have hk3 := below_only hk2 ho3 (fun b e => by rw [e]; exact Nat.le_refl _) (by omega)
  have hq3 := hq2.keep (ho3.block 0 (by omega) (by omega))
  go_wp2_with fail
  refine (seal_any w3 hq3 w.heap.size _ hs3).mono ?_
  rintro e w4 ⟨rfl, hs4, ho4, hz4⟩
  have hk4 := below_only hk3 ho4 (fun b e => by rw [e]; exact Nat.le_refl _) (by omega)
  rw [head_eq] at hs4
  go_wp2_with fail
  go_ret
  exact ⟨_, rfl, Nat.le_refl _, hs4, hk4⟩
end Go.Proofs.YtmimplmeccoahaaDoor
