/- The law JournalKnown: it has no arguments. No condition. -/
import Derived.Test.YtmimplmeccoahaaDoorKnownB
namespace Go.Proofs.YtmimplmeccoahaaDoor
open Go.RowKit
set_option linter.unusedVariables false
set_option maxRecDepth 20000
attribute [local go_sem ↓] seal_make_bytes
attribute [local go_sem] run_conv_const

set_option maxRecDepth 100000 in
set_option maxHeartbeats 8000000 in
theorem JournalKnown_walk (w : World) (hq : Quarter w) :
    Calls Tryd.prog 8 #[] w fun e w' => e = .returned (.bool true) ∧ Below w.heap.size w w' := by
  have h0 : 0 < w.heap.size := by obtain ⟨t, fz, hh⟩ := hq; exact lt_of_block hh
  have hq' : ∀ {w' : World}, Below w.heap.size w w' → Quarter w' := fun hb => hq.keep (hb.block 0 h0)
  have hfresh := fresh_X w 8 (by omega) (by omega) hq
  rw [show ((8 : Nat) : Int) = 8 from rfl] at hfresh
  go_enter Tryd.func8, Tryd.ntmps8
  go_wp2_with fail
  refine hfresh.mono ?_
  rintro e w1 ⟨j, d, rfl, hU1, hb1⟩
  have hU1 : JX w1 w.heap.size j d kM0 kJ0 := hU1
  clear hfresh
  go_wp2_with fail
  have k2 := kept_alloc w1 (.cells #[.int .u8 120] 5 (1, 2))
  have v2 := bytes_const w1 [120] #[.int .u8 120] rfl 1 rfl (by simp) 5 (1, 2)
  refine (replace_X w1 _ _ _ _ _ _ hU1 k2 (hq' (kept_trans hb1 k2)) _ _ _ v2 (fun b e => by rw [e]; simp) k_w0).mono ?_
  rintro e w2 ⟨rfl, hU2, hb2⟩
  have hb2 : Below w.heap.size w w2 := (kept_trans hb1 k2).trans hb2
  have hU2 : JX w2 w.heap.size j d kM1 kJ1 := hU2
  rw [k_r1]
  clear hU1 hb1 k2 v2
  go_wp2_with fail
  refine (torn_any w2).mono ?_
  rintro e w3 ⟨g, rfl, hg, hbg, hb3⟩
  have hU3 := hU2.kept hb3
  have hb3 := kept_trans hb2 hb3
  clear hU2 hb2
  go_wp2_with fail
  refine (fail_JX w3 _ _ _ _ _ hU3 0 (by omega) (by omega) _ _ t255 (blk_bytes64 hbg rfl (fun _ => True) trivial) rfl).mono ?_
  rintro e w4 ⟨rfl, hU4, hb4⟩
  have hU4 : JX w4 w.heap.size j d kM2 kJ1 := hU4
  have hb4 := hb3.trans hb4
  clear hU3 hb3 hbg hg
  go_wp2_with fail
  have k5 := kept_alloc w4 (.cells #[.int .u8 121] 5 (1, 2))
  have v5 := bytes_const w4 [121] #[.int .u8 121] rfl 1 rfl (by simp) 5 (1, 2)
  refine (append_X w4 _ _ _ _ _ _ hU4 k5 (hq' (kept_trans hb4 k5)) _ _ _ v5 (fun b e => by rw [e]; simp) k_w2).mono ?_
  rintro e w5 ⟨rfl, hU5, hb5⟩
  have hb5 : Below w.heap.size w w5 := (kept_trans hb4 k5).trans hb5
  have hU5 : JX w5 w.heap.size j d kM3 kJ3 := hU5
  rw [k_r3]
  clear hU4 hb4 k5 v5
  go_wp2_with fail
  have k6 := kept_alloc w5 (.cells #[.int .u8 122] 5 (1, 2))
  have v6 := bytes_const w5 [122] #[.int .u8 122] rfl 1 rfl (by simp) 5 (1, 2)
  refine (append_X w5 _ _ _ _ _ _ hU5 k6 (hq' (kept_trans hb5 k6)) _ _ _ v6 (fun b e => by rw [e]; simp) k_w3).mono ?_
  rintro e w6 ⟨rfl, hU6, hb6⟩
  have hb6 : Below w.heap.size w w6 := (kept_trans hb5 k6).trans hb6
  have hU6 : JX w6 w.heap.size j d kM4 kJ4 := hU6
  rw [k_r4]
  clear hU5 hb5 k6 v6
  go_wp2_with fail
  refine (replace_X w6 w6 _ _ _ _ _ hU6 (Below.refl _ _) (hq' hb6) none_ _ _ (bytes_empty none_ w6 none) (fun b e => e.elim) k_w4).mono ?_
  rintro e w7 ⟨rfl, hU7, hb7⟩
  have hb7 : Below w.heap.size w w7 := hb6.trans hb7
  have hU7 : JX w7 w.heap.size j d kM5 kJ5 := hU7
  rw [k_r5]
  clear hU6 hb6
  go_wp2_with fail
  refine (dead_X w7 _ _ _ _ _ hU7).mono ?_
  rintro e w' ⟨rfl, rfl⟩
  rw [k_dead]
  go_wp2_with fail
  refine (records_X w7 _ _ _ _ _ hU7).mono ?_
  rintro e w8 ⟨r, R8, rfl, hr8, -, hb8⟩
  rw [k_recs] at hr8
  have hU8 := hU7.kept hb8
  have hb8 := kept_trans hb7 hb8
  clear hU7 hb7
  go_wp2_with fail
  have k9 : Below w8.heap.size w8 ((w8.alloc (.cells #[.int .u8 120] 5 (1, 2))).alloc (.cells #[.slice (some ⟨w8.heap.size, 0, none⟩) 1 1] 30)) := (kept_alloc w8 _).alloc (by simp) _
  have v9 := bytes_const w8 [120] #[.int .u8 120] rfl 1 rfl (by simp) 5 (1, 2)
  have r9 := rowsAt_one (l0 := [120]) v9 (fun b e => by rw [e]; simp)
  rw [show (w8.alloc (.cells #[.int .u8 120] 5 (1, 2))).heap.size = w8.heap.size + 1 from by simp] at r9
  refine (equal_any _ _ _ _ _ _ _ (hr8.at.kept k9) r9 (by simp) (by simp)).mono ?_
  rintro e w10 ⟨rfl, m2, hw10⟩
  have k10 : Below w8.heap.size w8 w10 := by rw [← hw10]; exact Below.drewN' k9 m2
  have hU10 := hU8.kept k10
  have hb10 := kept_trans hb8 k10
  rw [show decide (([[120]] : List (List UInt8)) = [[120]]) = true from by decide]
  clear hw10 k9 v9 r9 hr8 hU8 hb8 k10
  have HO := Lib.hid (open_X w10 _ _ _ hU10.disk (hq' hb10))
  go_wp2_with fail
  refine HO.out.mono ?_
  rintro e w11 ⟨he, hb11⟩
  rw [k_o5] at he
  subst he
  have hU11 := hU10.kept hb11
  have hb11 := kept_trans hb10 hb11
  have HUp := Lib.hid (up_X w11 _ _ _ hU11.disk)
  clear hU10 hb10 HO hU11
  go_wp2_with fail
  refine HUp.out.mono ?_
  rintro e w12 ⟨rfl, hd12, hb12⟩
  have hd12 : DX w12 w.heap.size d kM6 := hd12
  have hb12 := hb11.trans hb12
  have HO := Lib.hid (open_X w12 _ _ _ hd12 (hq' hb12))
  clear hb11 HUp
  go_wp2_with fail
  refine HO.out.mono ?_
  rintro e w13 ⟨he, hb13⟩
  rw [k_o6] at he
  obtain ⟨kk, rfl, hU13⟩ := he
  have hb13 := kept_trans hb12 hb13
  clear hb12 hd12 HO
  go_wp2_with fail
  refine (records_X w13 _ _ _ _ _ hU13).mono ?_
  rintro e w14 ⟨r2, R14, rfl, hr14, -, hb14⟩
  have hr14 : RowsIn R14 w14 w13.heap.size r2 [[120]] := hr14
  have hU14 := hU13.kept hb14
  have hb14 := kept_trans hb13 hb14
  clear hU13 hb13
  go_wp2_with fail
  have k15 : Below w14.heap.size w14 ((w14.alloc (.cells #[.int .u8 120] 5 (1, 2))).alloc (.cells #[.slice (some ⟨w14.heap.size, 0, none⟩) 1 1] 30)) := (kept_alloc w14 _).alloc (by simp) _
  have v15 := bytes_const w14 [120] #[.int .u8 120] rfl 1 rfl (by simp) 5 (1, 2)
  have r15 := rowsAt_one (l0 := [120]) v15 (fun b e => by rw [e]; simp)
  rw [show (w14.alloc (.cells #[.int .u8 120] 5 (1, 2))).heap.size = w14.heap.size + 1 from by simp] at r15
  refine (equal_any _ _ _ _ _ _ _ (hr14.at.kept k15) r15 (by simp) (by simp)).mono ?_
  rintro e w16 ⟨rfl, m3, hw16⟩
  have k16 : Below w14.heap.size w14 w16 := by rw [← hw16]; exact Below.drewN' k15 m3
  have hU16 := hU14.kept k16
  have hb16 := kept_trans hb14 k16
  rw [show decide (([[120]] : List (List UInt8)) = [[120]]) = true from by decide]
  clear hw16 k15 v15 r15 hr14 hU14 hb14 k16
  obtain ⟨n, hn⟩ : ∃ n : Nat, n = 65537 := ⟨_, rfl⟩
  obtain ⟨w17, hmk, hblk, hb17⟩ := run_make_bytes w16 n (by omega)
  rw [show ((n : Nat) : Int) = 65537 from by omega] at hmk
  have Hn := Lib.hid hn
  clear hn
  go_wp2_with fail
  have v17 : Bytes (fun b => b = w16.heap.size) w17 (.slice (some ⟨w16.heap.size, 0, none⟩) n n) (List.replicate n 0) := by
    have := bytes_of_blk (l := List.replicate n 0) (t := 5) (by simpa using hblk) (by rw [List.length_replicate, Hn.out]; unfold maxLen; omega) (fun b => b = w16.heap.size) rfl
    rw [List.length_replicate] at this
    exact this
  have hap := append_X w16 w17 _ _ _ _ _ hU16 hb17 (hq' (kept_trans hb16 hb17)) _ _ _ v17 (fun b e => by rw [e]; exact ⟨.inr (Nat.le_refl _), hblk.lt⟩) k_w6
  rw [k_a6 _ (by rw [List.length_replicate, Hn.out])] at hap
  have Hap := Lib.hid hap
  refine Hap.out.mono ?_
  rintro e w18 ⟨rfl, hU18, hb18⟩
  have hU18 : JX w18 w.heap.size kk d kM6 kJ6 := hU18
  have hb18 : Below w.heap.size w w18 := (kept_trans hb16 hb17).trans hb18
  clear hU16 hb16 hmk hblk v17 hap Hap hb17
  obtain ⟨w19, hmk, hblk, hb19⟩ := run_make_bytes w18 n (by rw [Hn.out]; omega)
  rw [show ((n : Nat) : Int) = 65537 from by rw [Hn.out]; rfl] at hmk
  go_wp2_with fail
  have v19 : Bytes (fun b => b = w18.heap.size) w19 (.slice (some ⟨w18.heap.size, 0, none⟩) n n) (List.replicate n 0) := by
    have := bytes_of_blk (l := List.replicate n 0) (t := 5) (by simpa using hblk) (by rw [List.length_replicate, Hn.out]; unfold maxLen; omega) (fun b => b = w18.heap.size) rfl
    rw [List.length_replicate] at this
    exact this
  have hap := replace_X w18 w19 _ _ _ _ _ hU18 hb19 (hq' (kept_trans hb18 hb19)) _ _ _ v19 (fun b e => by rw [e]; exact ⟨.inr (Nat.le_refl _), hblk.lt⟩) k_w6
  rw [k_p6 _ (by rw [List.length_replicate, Hn.out])] at hap
  have Hap := Lib.hid hap
  refine Hap.out.mono ?_
  rintro e w20 ⟨rfl, hU20, hb20⟩
  have hU20 : JX w20 w.heap.size kk d kM6 kJ6 := hU20
  have hb20 : Below w.heap.size w w20 := (kept_trans hb18 hb19).trans hb20
  have hd20 : DX w20 w.heap.size d kM6 := hU20.disk
  clear hU18 hb18 hmk hblk v19 hap Hap hb19 hU20
  have HNew := Lib.hid (new_ok w20 8 (by omega) (by omega))
  go_wp2_with fail
  rw [show (8 : Int) = ((8 : Nat) : Int) from rfl]
  refine HNew.out.mono ?_
  rintro e w21 ⟨K, rfl, hd, hb21, hK⟩
  have hd21 := hd20.kept hb21
  have hz20 := hb20.size
  have hdn : DX w21 w.heap.size K.d (MD.fresh 8) := ⟨K, rfl, h0, fun b hb => by have := hK b hb; omega, hd⟩
  have hb21 := kept_trans hb20 hb21
  have HO := Lib.hid (open_X w21 _ _ _ hdn (hq' hb21))
  clear hd hdn hd20 hb20 HNew hK
  go_wp2_with fail
  refine HO.out.mono ?_
  rintro e w22 ⟨he, hb22⟩
  rw [k_on] at he
  subst he
  have hd22 := hd21.kept hb22
  have hb22 := kept_trans hb21 hb22
  have HH := Lib.hid (head35_any w22 (hq' hb22) _ _ _ hd22 k_down k_head)
  clear hd21 hb21 HO hd22
  go_wp2_with fail
  refine HH.out.mono ?_
  rintro e w23 ⟨rfl, hb23⟩
  have hb23 := kept_trans hb22 hb23
  have HL := Lib.hid (long_any w23 (hq' hb23))
  clear hb22 HH
  go_wp2_with fail
  refine HL.out.mono ?_
  rintro e w24 ⟨rfl, hb24⟩
  have hb24 := kept_trans hb23 hb24
  have HW := Lib.hid (works_any w24 (hq' hb24))
  clear hb23 HL
  go_wp2_with fail
  refine HW.out.mono ?_
  rintro e w25 ⟨rfl, hb25⟩
  go_wp2_with fail
  go_ret
  exact ⟨rfl, kept_trans hb24 hb25⟩
end Go.Proofs.YtmimplmeccoahaaDoor
