/- Fail and Write of a disk, by contracts. -/
import Derived.Test.YtmimplmeccoahaaDoorDisk3
namespace Go.Proofs.YtmimplmeccoahaaDoor
open Go.RowKit
set_option linter.unusedVariables false
set_option maxRecDepth 20000
attribute [local go_sem ↓] seal_append seal_build_fault seal_load_sector seal_load_fault seal_store_sector seal_store_fault

/-- 64 bytes that a slice holds, loaded as an array -/
theorem Bytes.load {F : Blks} {w : World} {a : Option Addr} {n cap : Nat} {l : List UInt8} (h : Bytes F w (.slice a n cap) l) (hl : l.length = 64) :
    ∃ b off, a = some ⟨b, off, none⟩ ∧ F b ∧ ∀ w' : World, w'.heap[b]? = w.heap[b]? → (LV 87 ⟨b, off, none⟩).run Tryd.prog w' = .ok (.agg (l.map B).toArray) w' := by
  obtain ⟨a', cap', hv, hc, hm, hz, h⟩ := h
  simp at hv
  obtain ⟨rfl, rfl, rfl⟩ := hv
  rcases h with h | ⟨b, off, L, t, fz, rfl, hF, hb, hle, hr⟩
  · rw [h] at hl; simp at hl
  · refine ⟨b, off, rfl, hF, fun w' hw' => ?_⟩
    have hb' : w'.heap[b]? = some (.cells L.toList.toArray t fz) := by rw [hw', hb]
    rw [run_LV Tryd.underlying87 rfl sizeSector hb' (by simp; omega)]
    congr 4
    apply List.ext_getElem?
    intro j
    rw [List.getElem?_take, List.getElem?_drop, List.getElem?_map]
    by_cases hj : j < 64
    · rw [if_pos hj]
      have := hr j (by omega)
      simp [List.getElem?_eq_getElem (show j < l.length by omega), ← this]
    · rw [if_neg hj, List.getElem?_eq_none (by omega)]
      rfl

theorem run_arrayAt (w : World) (a : Option Addr) (n cap : Nat) (h : 64 ≤ n) : (Instr.arrayAt 87 (.slice a n cap)).run Tryd.prog w = .ok (.pointer a) w := by
  simp [Instr.arrayAt, run_underlying Tryd.underlying87, Nat.not_lt.2 h]

theorem fail_err (w : World) (K : DK) (n : Int) (a : Option Addr) (len cap : Nat) (hlen : len ≤ 9223372036854775807) (hc : n < 0 ∨ len ≠ 64) :
    Calls Tryd.prog 27 #[.pointer (some ⟨K.d, 0, none⟩), .int .i64 n, .slice a len cap] w fun e w' => e = .returned (.int .i64 (if n < 0 then 6 else 1)) ∧ w = w' := by
  by_cases hn : n < 0
  · go_enter Tryd.func27, Tryd.ntmps27
    go_wp2_with fail
    go_ret
    exact ⟨rfl, rfl⟩
  · have hc' : len ≠ 64 := by omega
    have hb : ((len : Int) != 64) = true := bne_iff_ne.2 (by omega)
    have hb2 : (len != 64) = true := bne_iff_ne.2 (by omega)
    go_enter Tryd.func27, Tryd.ntmps27
    go_wp2_with fail
    go_ret
    exact ⟨rfl, rfl⟩

theorem fail_nil (w : World) (n : Int) (v : Value) :
    Calls Tryd.prog 27 #[.pointer none, .int .i64 n, v] w fun e w' => e = .returned (.int .i64 9) ∧ w = w' := by
  go_enter Tryd.func27, Tryd.ntmps27
  go_wp2_with fail
  go_ret
  exact ⟨rfl, rfl⟩


theorem fail_ok (w : World) (K : DK) (M : MD) (h : DiskAt w K M) (n : Nat) (hn : n ≤ 9223372036854775807) (F : Blks) (v : Value) (l : List UInt8) (hv : Bytes F w v l) (hl : l.length = 64) :
    Calls Tryd.prog 27 #[.pointer (some ⟨K.d, 0, none⟩), .int .i64 (n : Int), v] w fun e w' => e = .returned (.int .i64 0) ∧
      DiskAt w' ⟨K.d, K.bs, w.heap.size⟩ { M with fault := some (n, l) } ∧ Only K.foot w w' := by
  have hv0 := hv
  obtain ⟨a, cap, rfl, hc, hm, hz, hx⟩ := hv
  obtain ⟨b, off, rfl, hF, hld⟩ := hv0.load hl
  have hld0 := hld w rfl
  have har := fun W : World => run_arrayAt W (some ⟨b, off, none⟩) 64 cap (Nat.le_refl _)
  have hbd := run_BD_fault w n (l.map B) (by simpa using hl)
  clear hld hx hz
  obtain ⟨h1, h2, ⟨cap', hcap, hcm, h3⟩, ⟨L, h4, h5⟩, h6, h7⟩ := h
  have hne := h3.ne h4 (by decide)
  have hlt := h3.lt
  have c0 := h3.cell 2
  have f0 := h3.free 2
  simp at c0
  have H6 := Lib.hid h6; have H7 := Lib.hid h7; clear h6 h7
  generalize hl2 : l.length = ln at *
  obtain rfl : ln = 64 := hl
  have HL := Lib.hid hl2; clear hl2
  have hlt2 := h4.lt
  go_enter Tryd.func27, Tryd.ntmps27
  go_wp2_with fail
  go_ret
  refine ⟨rfl, ⟨h1, h2, ⟨cap', hcap, hcm, by simpa using (h3.set 2 (.pointer (some ⟨w.heap.size, 0, none⟩))).alloc _⟩, ⟨L, (h4.set_other _ hne.symm).alloc _, h5⟩, nofun, fun k t ht => ?_⟩, ((Only.refl _ _).setCell (.inl (.inl rfl)) _).alloc _⟩
  simp at ht
  obtain ⟨rfl, rfl⟩ := ht
  exact ⟨HL.out, hn, by simpa [World.setCell] using Blk.new (w.setCell ⟨K.d, 2, none⟩ (.pointer (some ⟨w.heap.size, 0, none⟩))) (.int .i64 (n : Int) :: l.map B).toArray 89⟩
end Go.Proofs.YtmimplmeccoahaaDoor
