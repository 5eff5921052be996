/- New and Copy of a disk, by contracts. -/
import Derived.Test.YtmimplmeccoahaaDoorDisk6
namespace Go.Proofs.YtmimplmeccoahaaDoor
open Go.RowKit
set_option linter.unusedVariables false
set_option maxRecDepth 20000
attribute [local go_sem ↓] seal_append seal_build_fault seal_load_sector seal_load_fault seal_store_sector seal_store_fault
theorem seal_make_sectors (l c : Value) : Instr.makeSlice 83 l c = MK 83 l c := rfl
attribute [local go_sem ↓] seal_make_sectors

theorem infoSector : (Tryd.prog.info? 87).map (fun i => (i.zero, i.size, i.bytes)) = some (some (.agg (Array.replicate 64 (.int .u8 0))), 64, 64) := by kernel_rfl

theorem madeCells_replicate (u : Value) (k n : Nat) (hk : 0 < k) : madeCells (Array.replicate k u) n = Array.replicate n u := by
  apply Array.ext
  · simp [madeCells]
  · intro i h1 h2
    simp only [madeCells, Array.getElem_map, Array.getElem_range, Array.size_replicate, Array.getElem_replicate]
    rw [getElem!_pos (Array.replicate k u) (i % k) (by simpa using Nat.mod_lt i hk)]
    simp

/-- a new disk -/
def MD.fresh (n : Nat) : MD := { S := List.replicate n (List.replicate 64 0), down := false, fault := none, writes := 0 }

theorem sectors_fresh (n m : Nat) (h : n * 64 ≤ m) : Sectors (List.replicate m (.int .u8 0)) (List.replicate n (List.replicate 64 0)) := by
  refine ⟨by simpa using h, fun i hi => ?_, fun s hs => ?_⟩
  · simp only [List.length_replicate] at hi
    simp only [List.drop_replicate, List.take_replicate, List.getElem_replicate, List.map_replicate]
    rw [show min 64 (m - i * 64) = 64 from by omega]
    rfl
  · rw [List.eq_of_mem_replicate hs]; simp

theorem new_ok (w : World) (n : Nat) (h1 : 0 < n) (h2 : n ≤ 65536) :
    Calls Tryd.prog 23 #[.int .i64 (n : Int)] w fun e w' => ∃ K : DK, e = .returned (.tuple #[.pointer (some ⟨K.d, 0, none⟩), .int .i64 0]) ∧ DiskAt w' K (MD.fresh n) ∧ Below w.heap.size w w' ∧ (∀ b, K.foot b → w.heap.size ≤ b) := by
  obtain ⟨i0, hi, hz0, hz1, hz2⟩ := info_parts infoSector
  obtain ⟨w2, hr, hown, hgb⟩ := run_make_full (P := Tryd.prog) w w.heap.size 83 87 i0 _ 64 Tryd.underlying83 hi hz0 hz1 .i64 .i64 n (by rw [hz2]; omega) (by unfold maxLen; omega) (Nat.le_refl _)
  have hr' : (MK 83 (.int .i64 (n : Int)) (.int .i64 (n : Int))).run Tryd.prog w = .ok (.slice (some ⟨w.heap.size, 0, none⟩) n n) w2 := hr
  obtain ⟨g, cap, cur, hv, hg1, hg2, hg3, hg4, hg5, hg6⟩ := hown.2.resolve_left (by rintro ⟨h, _⟩; cases h)
  simp at hv
  obtain ⟨rfl, rfl⟩ := hv
  have hblk : Blk w2 w.heap.size cur.toList 87 := by unfold Blk; simpa using hg2
  have hcur : cur.toList = List.replicate (n * 64) (.int .u8 0) := by
    rw [List.take_of_length_le (by simp; omega)] at hg6
    rw [hg6]
    simp only [Value.cells]
    rw [madeCells_replicate _ _ _ (by decide)]
    simp
  rw [hcur] at hblk
  have hlt := hblk.lt
  have hkb : Below w.heap.size w w2 := (Below.refl _ _).grown hgb (Nat.le_refl _) (by simp)
  have Hkb := Lib.hid hkb
  clear hr hown hgb hg1 hg2 hg3 hg4 hg5 hg6 hcur hkb
  have Hb := Lib.hid hblk; clear hblk
  go_enter Tryd.func23, Tryd.ntmps23
  go_wp2_with fail
  go_ret2
  refine ⟨⟨w2.heap.size, w.heap.size, w2.heap.size⟩, rfl, ⟨by simpa [MD.fresh] using h1, by simpa [MD.fresh] using h2, ⟨n, by simp [MD.fresh], by unfold maxLen; omega, ?_⟩, ⟨_, Hb.out.alloc _, ?_⟩, fun _ => rfl, nofun⟩, Hkb.out.alloc (by omega) _, ?_⟩
  · simpa [MD.fresh] using Blk.new w2 #[.slice (some ⟨w.heap.size, 0, none⟩) n n, .bool false, .pointer none, .int .i64 0] 86
  · exact sectors_fresh n (n * 64) (Nat.le_refl _)
  · rintro b (rfl | rfl | rfl)
    · exact Nat.le_of_lt hlt
    · exact Nat.le_refl _
    · exact Nat.le_of_lt hlt

theorem new_err (w : World) (n : Int) (h : n < 1 ∨ 65536 < n) :
    Calls Tryd.prog 23 #[.int .i64 n] w fun e w' => e = .returned (.tuple #[.pointer none, .int .i64 6]) ∧ w = w' := by
  by_cases h1 : n < 1
  · go_enter Tryd.func23, Tryd.ntmps23
    go_wp2_with fail
    go_ret2
    exact ⟨rfl, rfl⟩
  · have h2 : 65536 < n := by omega
    go_enter Tryd.func23, Tryd.ntmps23
    go_wp2_with fail
    go_ret2
    exact ⟨rfl, rfl⟩
end Go.Proofs.YtmimplmeccoahaaDoor
