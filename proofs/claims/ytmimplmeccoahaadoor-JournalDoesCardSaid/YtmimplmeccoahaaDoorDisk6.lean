/- Write of a disk while a fault is armed; Write whole. -/
import Derived.Test.YtmimplmeccoahaaDoorDisk5
namespace Go.Proofs.YtmimplmeccoahaaDoor
open Go.RowKit
set_option linter.unusedVariables false
set_option maxRecDepth 20000
attribute [local go_sem ↓] seal_append seal_build_fault seal_load_sector seal_load_fault seal_store_sector seal_store_fault

theorem write_zero (w : World) (K : DK) (M : MD) (h : DiskAt w K M) (t : List UInt8) (hft : M.fault = some (0, t)) (i : Nat) (hi : i < M.S.length) (hdn : M.down = false) (F : Blks) (v : Value) (l : List UInt8) (hv : Bytes F w v l) (hl : l.length = 64) :
    Calls Tryd.prog 33 #[.pointer (some ⟨K.d, 0, none⟩), .int .i64 (i : Int), v] w fun e w' => e = .returned (.int .i64 341) ∧
      DiskAt w' { K with bf := K.d } { M with S := M.S.set i t, fault := none, down := true } ∧ Only K.foot w w' ∧ w'.heap.size = w.heap.size := by
  have hc : M.chk (i : Int) = 0 := by unfold MD.chk; rw [hdn, if_neg (by simp), if_pos (by omega)]
  have Hc := Lib.hid hc; clear hc
  obtain ⟨a, cap, rfl, hcp, hm, hz, hx⟩ := hv
  clear hx hz
  have h0 := h
  have hnf := h.ne2 (by rw [hft]; simp)
  obtain ⟨h1, h2, ⟨cap', hcap, hcm, h3⟩, ⟨L, h4, h5⟩, h6, h7⟩ := h
  obtain ⟨ht, hk, h7⟩ := h7 0 t hft
  rw [hft] at h3
  have hne := h3.ne h4 (by decide)
  have hlt := h3.lt
  have c0 := h3.cell 0
  have c2 := h3.cell 2
  have k0 := h7.cell 0
  simp at c0 c2 k0
  have hsl := h5.1
  have hld0 := run_LV (P := Tryd.prog) (w := w.drew) Tryd.underlying87 rfl sizeSector (off := 1) h7 (by simp; omega)
  rw [List.drop_one, List.tail_cons, List.take_of_length_le (by simp; omega)] at hld0
  have hst := run_SV (P := Tryd.prog) (w := w.drew) sizeSector (off := i * 64) h4 (V := t.map B) (by simpa using ht) (by omega) (oneCell_B t)
  have H6 := Lib.hid h6; have Hft := Lib.hid hft; clear h6 hft
  have HS := Lib.hid (h5.put i hi t ht)
  obtain ⟨w3, hw3⟩ : ∃ w3, w3 = w.drew.setRow K.bs (L.take (i * 64) ++ t.map B ++ L.drop (i * 64 + 64)).toArray := ⟨_, rfl⟩
  rw [← hw3] at hst
  have h3b := h3.drew.row_other (L.take (i * 64) ++ t.map B ++ L.drop (i * 64 + 64)).toArray hne
  have h4b := h4.drew.row (L.take (i * 64) ++ t.map B ++ L.drop (i * 64 + 64))
  rw [← hw3] at h3b h4b
  have hon : Only K.foot w w3 := by rw [hw3]; exact (Only.refl _ _).drew.setRow (.inl (.inr (.inl rfl))) _
  have hsz : w3.heap.size = w.heap.size := by rw [hw3]; simp
  have c2b := h3b.cell 2
  have f2b := h3b.free 2
  have c1b := h3b.cell 1
  have f1b := h3b.free 1
  simp at c1b c2b
  have Hsz := Lib.hid hsz; clear hsz
  clear hw3
  generalize hl2 : l.length = ln at *
  obtain rfl : ln = 64 := hl
  have HL := Lib.hid hl2; clear hl2
  have Ht := Lib.hid ht; clear ht
  have hn0 : (i : Int) < (M.S.length : Int) := by omega
  go_enter Tryd.func33, Tryd.ntmps33
  go_wp2_with fail
  refine (check_any w K M i h0).mono ?_
  rintro e w' ⟨rfl, rfl⟩
  rw [Hc.out]
  go_wp2_with fail
  go_still_tail 13, (by kernel_rfl)
  change wpList _ _ _ _ _ w.drew
  go_wp2_with fail
  go_ret
  refine ⟨rfl, ⟨by simpa using h1, by simpa using h2, ⟨cap', by simpa using hcap, hcm, ?_⟩, ⟨_, (h4b.set_other _ hne.symm).set_other _ hne.symm, HS.out⟩, fun _ => rfl, nofun⟩, (hon.setCell (.inl (.inl rfl)) _).setCell (.inl (.inl rfl)) _, ?_⟩
  · simpa using (h3b.set 2 (.pointer none)).set 1 (.bool true)
  · simp [World.setCell]; exact Hsz.out

theorem write_succ (w : World) (K : DK) (M : MD) (h : DiskAt w K M) (n : Nat) (t : List UInt8) (hft : M.fault = some (n + 1, t)) (i : Nat) (hi : i < M.S.length) (hdn : M.down = false) (hw : M.writes < 4611686018427387904) (F : Blks) (v : Value) (l : List UInt8) (hv : Bytes F w v l) (hl : l.length = 64)
    (hF : ∀ b, F b → ¬ K.foot b) :
    Calls Tryd.prog 33 #[.pointer (some ⟨K.d, 0, none⟩), .int .i64 (i : Int), v] w fun e w' => e = .returned (.int .i64 0) ∧
      DiskAt w' K { M with S := M.S.set i l, fault := some (n, t), writes := M.writes + 1 } ∧ Only K.foot w w' ∧ w'.heap.size = w.heap.size := by
  have hc : M.chk (i : Int) = 0 := by unfold MD.chk; rw [hdn, if_neg (by simp), if_pos (by omega)]
  have Hc := Lib.hid hc; clear hc
  have hv0 := hv
  obtain ⟨a, cap, rfl, hcp, hm, hz, hx⟩ := hv
  obtain ⟨b, off, rfl, hFb, hld⟩ := hv0.load hl
  have har := fun W : World => run_arrayAt W (some ⟨b, off, none⟩) 64 cap (Nat.le_refl _)
  clear hx hz
  have h0 := h
  have hnf := h.ne2 (by rw [hft]; simp)
  have hnf2 := h.ne.2
  obtain ⟨h1, h2, ⟨cap', hcap, hcm, h3⟩, ⟨L, h4, h5⟩, h6, h7⟩ := h
  obtain ⟨ht, hk, h7⟩ := h7 (n + 1) t hft
  rw [hft] at h3
  have hne := h3.ne h4 (by decide)
  have hlt := h3.lt
  have c0 := h3.cell 0
  have c2 := h3.cell 2
  have c3 := h3.cell 3
  have k0 := h7.cell 0
  have kf0 := h7.free 0
  simp at c0 c2 c3 k0
  have hsl := h5.1
  -- behind the fault's count
  have h3a := h3.set_other (a := ⟨K.bf, 0, none⟩) (.int .i64 (n : Int)) hnf
  have h4a := h4.set_other (a := ⟨K.bf, 0, none⟩) (.int .i64 (n : Int)) hnf2
  have h7a := h7.set 0 (.int .i64 (n : Int))
  have hon : Only K.foot w (w.setCell ⟨K.bf, 0, none⟩ (.int .i64 (n : Int))) := (Only.refl _ _).setCell (.inl (.inr (.inr rfl))) _
  have hld0 := hld ((w.setCell ⟨K.bf, 0, none⟩ (.int .i64 (n : Int))).drew) (by
    have hb := hF b hFb
    exact Below.heap_setCell w ⟨K.bf, 0, none⟩ _ b (fun e => hb (.inr (.inr e))))
  clear hld
  have hsz : (w.setCell ⟨K.bf, 0, none⟩ (.int .i64 (n : Int))).heap.size = w.heap.size := by simp [World.setCell]
  generalize hw2 : w.setCell ⟨K.bf, 0, none⟩ (.int .i64 (n : Int)) = w2 at *
  have Hw2 := Lib.hid hw2; clear hw2
  have c0a := h3a.cell 0
  simp at c0a
  have hst := run_SV (P := Tryd.prog) (w := w2.drew) sizeSector (off := i * 64) h4a (V := l.map B) (by simpa using hl) (by omega) (oneCell_B l)
  have H6 := Lib.hid h6; have Hft := Lib.hid hft; clear h6 hft
  have HS := Lib.hid (h5.put i hi l hl)
  obtain ⟨w3, hw3⟩ : ∃ w3, w3 = w2.drew.setRow K.bs (L.take (i * 64) ++ l.map B ++ L.drop (i * 64 + 64)).toArray := ⟨_, rfl⟩
  rw [← hw3] at hst
  have h3b := h3a.drew.row_other (L.take (i * 64) ++ l.map B ++ L.drop (i * 64 + 64)).toArray hne
  have h4b := h4a.drew.row (L.take (i * 64) ++ l.map B ++ L.drop (i * 64 + 64))
  have h7b := h7a.drew.row_other (L.take (i * 64) ++ l.map B ++ L.drop (i * 64 + 64)).toArray hnf2.symm
  rw [← hw3] at h3b h4b h7b
  have hon3 : Only K.foot w w3 := by rw [hw3]; exact hon.drew.setRow (.inl (.inr (.inl rfl))) _
  have hsz3 : w3.heap.size = w.heap.size := by rw [hw3]; simpa using hsz
  have c3b := h3b.cell 3
  have f3b := h3b.free 3
  simp at c3b
  have Hsz3 := Lib.hid hsz3; clear hsz hsz3
  clear hw3
  generalize hl2 : l.length = ln at *
  obtain rfl : ln = 64 := hl
  have HL := Lib.hid hl2; clear hl2
  have Ht := Lib.hid ht; clear ht
  have hn0 : (i : Int) < (M.S.length : Int) := by omega
  have hbf : ((n : Int) + 1 == 0) = false := beq_eq_false_iff_ne.2 (by omega)
  go_enter Tryd.func33, Tryd.ntmps33
  go_wp2_with fail
  refine (check_any w K M i h0).mono ?_
  rintro e w' ⟨rfl, rfl⟩
  rw [Hc.out]
  go_wp2_with fail
  rw [Hw2.out]
  go_still_tail 9, (by kernel_rfl)
  change wpList _ _ _ _ _ w2.drew
  go_wp2_with fail
  go_ret
  refine ⟨rfl, ⟨by simpa using h1, by simpa using h2, ⟨cap', by simpa using hcap, hcm, ?_⟩, ⟨_, h4b.set_other _ hne.symm, HS.out⟩, nofun, fun k t' ht' => ?_⟩, hon3.setCell (.inl (.inl rfl)) _, ?_⟩
  · simpa using h3b.set 3 (.int .i64 ((M.writes : Int) + 1))
  · simp at ht'
    obtain ⟨rfl, rfl⟩ := ht'
    exact ⟨Ht.out, by omega, by simpa using h7b.set_other _ hnf.symm⟩
  · simp [World.setCell]; exact Hsz3.out

/-- Write of 64 bytes to a sector that is there, the power being on -/
theorem write_ok (w : World) (K : DK) (M : MD) (h : DiskAt w K M) (i : Nat) (hi : i < M.S.length) (hdn : M.down = false) (hw : M.writes < 4611686018427387904) (F : Blks) (v : Value) (l : List UInt8) (hv : Bytes F w v l) (hl : l.length = 64)
    (hF : ∀ b, F b → ¬ K.foot b) :
    Calls Tryd.prog 33 #[.pointer (some ⟨K.d, 0, none⟩), .int .i64 (i : Int), v] w fun e w' => e = .returned (.int .i64 (M.write i l).2) ∧
      (∃ K', K'.d = K.d ∧ (∀ b, K'.foot b → K.foot b) ∧ DiskAt w' K' (M.write i l).1) ∧ Only K.foot w w' ∧ w'.heap.size = w.heap.size := by
  cases hft : M.fault with
  | none =>
    refine (write_none w K M h hft i hi hdn hw F v l hv hl).mono ?_
    rintro e w' ⟨rfl, hd, ho, hs⟩
    have e1 : M.write i l = ({ M with S := M.S.set i l, writes := M.writes + 1 }, 0) := by simp [MD.write, hft]
    rw [e1]
    exact ⟨rfl, ⟨K, rfl, fun _ hb => hb, hd⟩, ho, hs⟩
  | some p =>
    obtain ⟨n, t⟩ := p
    cases n with
    | zero =>
      refine (write_zero w K M h t hft i hi hdn F v l hv hl).mono ?_
      rintro e w' ⟨rfl, hd, ho, hs⟩
      have e1 : M.write i l = ({ M with S := M.S.set i t, fault := none, down := true }, 341) := by simp [MD.write, hft]
      rw [e1]
      refine ⟨rfl, ⟨{ K with bf := K.d }, rfl, ?_, hd⟩, ho, hs⟩
      rintro b (rfl | rfl | rfl)
      · exact .inl rfl
      · exact .inr (.inl rfl)
      · exact .inl rfl
    | succ n =>
      refine (write_succ w K M h n t hft i hi hdn hw F v l hv hl hF).mono ?_
      rintro e w' ⟨rfl, hd, ho, hs⟩
      have e1 : M.write i l = ({ M with S := M.S.set i l, fault := some (n, t), writes := M.writes + 1 }, 0) := by simp [MD.write, hft]
      rw [e1]
      exact ⟨rfl, ⟨K, rfl, fun _ hb => hb, hd⟩, ho, hs⟩
end Go.Proofs.YtmimplmeccoahaaDoor
