/- Write of a disk, by contracts. -/
import Derived.Test.YtmimplmeccoahaaDoorDisk4
namespace Go.Proofs.YtmimplmeccoahaaDoor
open Go.RowKit
set_option linter.unusedVariables false
set_option maxRecDepth 20000
attribute [local go_sem ↓] seal_append seal_build_fault seal_load_sector seal_load_fault seal_store_sector seal_store_fault

/-- a write of 64 bytes to a sector that is there, the power being on -/
def MD.write (M : MD) (i : Nat) (l : List UInt8) : MD × Int :=
  match M.fault with
  | none => ({ M with S := M.S.set i l, writes := M.writes + 1 }, 0)
  | some (0, t) => ({ M with S := M.S.set i t, fault := none, down := true }, 341)
  | some (k + 1, t) => ({ M with S := M.S.set i l, fault := some (k, t), writes := M.writes + 1 }, 0)

theorem write_chk (w : World) (K : DK) (M : MD) (i : Int) (v : Value) (h : DiskAt w K M) (hc : M.chk i ≠ 0) :
    Calls Tryd.prog 33 #[.pointer (some ⟨K.d, 0, none⟩), .int .i64 i, v] w fun e w' => e = .returned (.int .i64 (M.chk i)) ∧ w = w' := by
  have hb : (M.chk i == 0) = false := beq_eq_false_iff_ne.2 hc
  have hb2 : (M.chk i != 0) = true := bne_iff_ne.2 hc
  go_enter Tryd.func33, Tryd.ntmps33
  go_wp2_with fail
  refine (check_any w K M i h).mono ?_
  rintro e w' ⟨rfl, rfl⟩
  go_wp2_with fail
  go_ret
  exact ⟨rfl, rfl⟩

theorem write_nil (w : World) (i : Int) (v : Value) :
    Calls Tryd.prog 33 #[.pointer none, .int .i64 i, v] w fun e w' => e = .returned (.int .i64 9) ∧ w = w' := by
  go_enter Tryd.func33, Tryd.ntmps33
  go_wp2_with fail
  refine (check_nil w i).mono ?_
  rintro e w' ⟨rfl, rfl⟩
  go_wp2_with fail
  go_ret
  exact ⟨rfl, rfl⟩

theorem write_len (w : World) (K : DK) (M : MD) (i : Int) (a : Option Addr) (len cap : Nat) (hlen : len ≤ 9223372036854775807) (h : DiskAt w K M) (hc : M.chk i = 0) (hl : len ≠ 64) :
    Calls Tryd.prog 33 #[.pointer (some ⟨K.d, 0, none⟩), .int .i64 i, .slice a len cap] w fun e w' => e = .returned (.int .i64 1) ∧ w = w' := by
  have Hc := Lib.hid hc; clear hc
  have hb2 : (len != 64) = true := bne_iff_ne.2 (by omega)
  have hb3 : ((len : Int) != 64) = true := bne_iff_ne.2 (by omega)
  go_enter Tryd.func33, Tryd.ntmps33
  go_wp2_with fail
  refine (check_any w K M i h).mono ?_
  rintro e w' ⟨rfl, rfl⟩
  rw [Hc.out]
  go_wp2_with fail
  go_ret
  exact ⟨rfl, rfl⟩

theorem Sectors.put {L : List Value} {S : List (List UInt8)} (h : Sectors L S) (i : Nat) (hi : i < S.length) (l : List UInt8) (hl : l.length = 64) :
    Sectors (L.take (i * 64) ++ l.map B ++ L.drop (i * 64 + 64)) (S.set i l) := by
  obtain ⟨h1, h2, h3⟩ := h
  have hlen : (L.take (i * 64) ++ l.map B ++ L.drop (i * 64 + 64)).length = L.length := by simp; omega
  refine ⟨by simp only [List.length_set]; omega, fun j hj => ?_, fun s hs => ?_⟩
  · simp only [List.length_set] at hj
    by_cases hji : j = i
    · subst hji
      rw [List.getElem_set_self]
      have e : (L.take (j * 64) ++ l.map B ++ L.drop (j * 64 + 64)).drop (j * 64) = l.map B ++ L.drop (j * 64 + 64) := by
        rw [List.append_assoc]
        have : (L.take (j * 64)).length = j * 64 := by simp; omega
        exact List.drop_left' this
      rw [e, List.take_append_of_le_length (by simp; omega), List.take_of_length_le (by simp; omega)]
    · rw [List.getElem_set_ne (Ne.symm hji), ← h2 j hj]
      apply List.ext_getElem?
      intro k
      simp only [List.getElem?_take, List.getElem?_drop]
      by_cases hk : k < 64
      · rw [if_pos hk, if_pos hk]
        simp only [List.getElem?_append, List.length_append, List.length_take, List.length_map, List.getElem?_take, List.getElem?_drop, hl]
        by_cases hlt : j < i
        · rw [if_pos (by omega), if_pos (by omega), if_pos (by omega)]
        · rw [if_neg (by omega)]
          congr 1
          omega
      · rw [if_neg hk, if_neg hk]
  · rcases List.mem_or_eq_of_mem_set hs with h | rfl
    · exact h3 _ h
    · exact hl

theorem write_none (w : World) (K : DK) (M : MD) (h : DiskAt w K M) (hft : M.fault = none) (i : Nat) (hi : i < M.S.length) (hdn : M.down = false) (hw : M.writes < 4611686018427387904) (F : Blks) (v : Value) (l : List UInt8) (hv : Bytes F w v l) (hl : l.length = 64) :
    Calls Tryd.prog 33 #[.pointer (some ⟨K.d, 0, none⟩), .int .i64 (i : Int), v] w fun e w' => e = .returned (.int .i64 0) ∧
      DiskAt w' K { M with S := M.S.set i l, writes := M.writes + 1 } ∧ Only K.foot w w' ∧ w'.heap.size = w.heap.size := by
  have hc : M.chk (i : Int) = 0 := by unfold MD.chk; rw [hdn, if_neg (by simp), if_pos (by omega)]
  have Hc := Lib.hid hc; clear hc
  have hv0 := hv
  obtain ⟨a, cap, rfl, hcp, hm, hz, hx⟩ := hv
  obtain ⟨b, off, rfl, hF, hld⟩ := hv0.load hl
  have hld0 := hld w.drew rfl
  have har := fun W : World => run_arrayAt W (some ⟨b, off, none⟩) 64 cap (Nat.le_refl _)
  clear hld hx hz
  have h0 := h
  obtain ⟨h1, h2, ⟨cap', hcap, hcm, h3⟩, ⟨L, h4, h5⟩, h6, h7⟩ := h
  rw [hft] at h3
  have hne := h3.ne h4 (by decide)
  have hlt := h3.lt
  have c0 := h3.cell 0
  have c2 := h3.cell 2
  have c3 := h3.cell 3
  have f3 := h3.free 3
  simp at c0 c2 c3
  have hsl := h5.1
  have hst := run_SV (P := Tryd.prog) (w := w.drew) sizeSector (off := i * 64) h4 (V := l.map B) (by simpa using hl) (by omega) (oneCell_B l)
  have H6 := Lib.hid h6; have H7 := Lib.hid h7; have Hft := Lib.hid hft; clear h6 h7 hft
  have HS := Lib.hid (h5.put i hi l hl)
  obtain ⟨w3, hw3⟩ : ∃ w3, w3 = w.drew.setRow K.bs (L.take (i * 64) ++ l.map B ++ L.drop (i * 64 + 64)).toArray := ⟨_, rfl⟩
  rw [← hw3] at hst
  have h3b := h3.drew.row_other (L.take (i * 64) ++ l.map B ++ L.drop (i * 64 + 64)).toArray hne
  have h4b := h4.drew.row (L.take (i * 64) ++ l.map B ++ L.drop (i * 64 + 64))
  rw [← hw3] at h3b h4b
  have hon : Only K.foot w w3 := by rw [hw3]; exact (Only.refl _ _).drew.setRow (.inl (.inr (.inl rfl))) _
  have hsz : w3.heap.size = w.heap.size := by rw [hw3]; simp
  have c3b := h3b.cell 3
  have f3b := h3b.free 3
  simp at c3b
  have Hsz := Lib.hid hsz; clear hsz
  clear hw3
  generalize hl2 : l.length = ln at *
  obtain rfl : ln = 64 := hl
  have HL := Lib.hid hl2; clear hl2
  have hn0 : (i : Int) < (M.S.length : Int) := by omega
  go_enter Tryd.func33, Tryd.ntmps33
  go_wp2_with fail
  refine (check_any w K M i h0).mono ?_
  rintro e w' ⟨rfl, rfl⟩
  rw [Hc.out]
  go_wp2_with fail
  go_still_tail 9, (by kernel_rfl)
  change wpList _ _ _ _ _ w.drew
  go_wp2_with fail
  go_ret
  refine ⟨rfl, ⟨by simpa using h1, by simpa using h2, ⟨cap', by simpa using hcap, hcm, ?_⟩, ⟨_, h4b.set_other _ hne.symm, HS.out⟩, H6.out, fun k t ht => ?_⟩, hon.setCell (.inl (.inl rfl)) _, ?_⟩
  · rw [Hft.out]; simpa using h3b.set 3 (.int .i64 ((M.writes : Int) + 1))
  · rw [Hft.out] at ht; cases ht
  · simp [World.setCell]; exact Hsz.out
end Go.Proofs.YtmimplmeccoahaaDoor
