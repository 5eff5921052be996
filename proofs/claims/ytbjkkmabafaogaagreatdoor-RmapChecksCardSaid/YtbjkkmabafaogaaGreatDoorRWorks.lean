/- works: the chapter's first example. -/
import Derived.Test.YtbjkkmabafaogaaGreatDoorRSums
import Derived.Test.YtbjkkmabafaogaaGreatDoorRRun
namespace Go.Proofs.YtbjkkmabafaogaaGreatDoor
open Go.RowKit
set_option linter.unusedVariables false
set_option maxRecDepth 20000

abbrev exK : RKey := [49, 97, 0, 98]
theorem exK_ok : keyOk exK = true := by decide +kernel
def exM1 : RMap := ⟨[0, 0, 1, 0, 0, 0, 0, 0], [⟨exK, 2, 1, 65536⟩], []⟩
def exM2 : RMap := ⟨[0, 0, 2, 0, 0, 0, 0, 0], [⟨exK, 2, 2, 130816⟩], []⟩
theorem exA : Allowed 2 [exK] := ⟨by omega, by omega, by simp, fun k hk => by rw [List.mem_singleton.1 hk]; exact exK_ok⟩
theorem sortK_one (k : RKey) : sortK [k] = [k] := List.mergeSort_singleton k
theorem ex_use1 : useM .new 2 [exK] = exM1 := by
  unfold useM
  rw [sortK_one]
  show RMap.mk _ (mergeL RIt.pl _ [] _) _ = _
  rw [mergeL_nil_l]
  rfl
theorem ex_use2 : useM exM1 2 [exK] = exM2 := by
  unfold useM
  rw [sortK_one]
  have h1 : nowR exM1 2 = 2 := by decide +kernel
  have h2 : decUse 65536 (2 - 1) = 130816 := by decide +kernel
  have e := mergeL_eq (pl := RIt.pl) (useBetter 2) (x := ⟨exK, 2, 1, 65536⟩) (y := usedIt 2 2 exK) [] [] rfl
  rw [mergeL_nil_l] at e
  rw [h1]
  show RMap.mk _ (mergeL RIt.pl (useBetter 2) [⟨exK, 2, 1, 65536⟩] [usedIt 2 2 exK]) _ = _
  rw [e]
  unfold useBetter usedIt
  rw [h2]
  rfl
theorem ex_good1 : Good [exK] 1 exM1 := by
  have := (Good.new [exK]).use exA (by omega) (fun k hk => hk) (by omega)
  rw [ex_use1] at this
  exact this
theorem ex_useR1 : useR .new 2 [exK] = (exM1, 0) := by
  rw [useR_ok (Good.new [exK]) (by simp) exA (by omega) (fun k hk => hk) (by omega), ex_use1]
theorem ex_useR2 : useR exM1 2 [exK] = (exM2, 0) := by
  rw [useR_ok ex_good1 (by simp) exA (by omega) (fun k hk => hk) (by omega), ex_use2]
theorem ex_value1 : valueR exM1 exK = 65536 := by
  unfold valueR
  rw [if_pos (ex_good1.valid (by simp))]
  decide +kernel

theorem MapV.later {F : Blks} {w w' : World} {v : Value} {m : RMap} {B : Nat} (h : MapV F w v m) (hb : Below B w w') (hB : w.heap.size ≤ B) : MapV F w' v m := h.keep fun b _ hlt => hb.block b (by omega)
theorem exM_keys (m : RMap) (h : m = exM1 ∨ m = exM2) : (∀ x ∈ m.items, x.key.length ≤ 1000000) ∧ (∀ x ∈ m.gone, x.key.length ≤ 1000000) ∧ m.seen.length ≤ 1000000 ∧ m.items.length ≤ 1000000 ∧ m.gone.length ≤ 1000000 := by
  rcases h with rfl | rfl
  · exact ⟨fun x hx => by rw [List.mem_singleton.1 hx]; decide, nofun, by decide, by decide, by decide⟩
  · exact ⟨fun x hx => by rw [List.mem_singleton.1 hx]; decide, nofun, by decide, by decide, by decide⟩
set_option maxRecDepth 100000 in
set_option maxHeartbeats 3000000 in
theorem works_any (w : World) (hT : Tabs w) (h3 : 3 ≤ w.heap.size) :
    Calls Tryz.prog 24 #[] w fun e w' => e = .returned (.bool true) ∧ Below w.heap.size w w' := by
  have HTb := Lib.hid (show ∀ W, Below w.heap.size w W → Tabs W ∧ 3 ≤ W.heap.size from fun W hb => ⟨tabs_below hT h3 hb, Nat.le_trans h3 hb.size⟩)
  have HN := Lib.hid (pnew_any w)
  clear hT
  go_enter Tryz.func24, Tryz.ntmps24
  go_wp2_with fail
  refine HN.out.mono ?_
  rintro e w1 ⟨v1, rfl, hm1, hb1⟩
  obtain ⟨w2, hw2⟩ : ∃ w2, w2 = w1.alloc (.cells #[.string ⟨exK.toArray⟩] 9) := ⟨_, rfl⟩
  have hb2 : Below w.heap.size w w2 := by rw [hw2]; exact hb1.alloc hb1.size _
  have hm2 : MapV (fun b => w.heap.size ≤ b) w2 v1 .new := by rw [hw2]; exact hm1.keep fun b _ hlt => Below.heap_alloc _ _ _ hlt
  have hr2 : Rows (fun b => b = w1.heap.size) w2 1 (.slice (some ⟨w1.heap.size, 0, none⟩) 1 1) [exK].length ([exK].map eS) := by
    rw [hw2]; exact rows_new w1 #[.string ⟨exK.toArray⟩] 9 1 rfl (by unfold maxLen; omega)
  have hU := puse_any w2 (HTb.out w2 hb2).1 (HTb.out w2 hb2).2 _ v1 .new hm2 nofun nofun (by decide) (by decide) 2 _ _ [exK] hr2 (by decide) (fun k hk => by rw [List.mem_singleton.1 hk]; decide)
  rw [ex_useR1] at hU
  have HU := Lib.hid hU
  obtain ⟨s1, s2, s3, rfl, -⟩ := hm1
  have Hw2 := Lib.hid hw2; have Hb2 := Lib.hid hb2
  clear hw2 hb2 hm2 hr2 hU hb1 HN
  go_wp2_with fail
  rw [← Hw2.out]
  refine HU.out.mono ?_
  rintro e w3 ⟨⟨r1, rfl, ⟨t1, t2, t3, rfl, ho1⟩, hbd1⟩, hb3⟩
  have hk1 := exM_keys exM1 (.inl rfl)
  obtain ⟨w4, hw4⟩ : ∃ w4, w4 = w3.alloc (.cells #[t1, t2, t3] 31) := ⟨_, rfl⟩
  obtain ⟨a1, d1, ht1⟩ := own_shape ho1.seen
  obtain ⟨a2, d2, ht2⟩ := own_shape ho1.items
  obtain ⟨a3, d3, ht3⟩ := own_shape ho1.gone
  subst ht1 ht2 ht3
  have hb3' : Below w.heap.size w w3 := Hb2.out.trans (hb3.mono Hb2.out.size)
  have hb4 : Below w.heap.size w w4 := by rw [hw4]; exact hb3'.alloc hb3'.size _
  have hM4 : Blk w4 w3.heap.size [.slice a1 exM1.seen.length d1, .slice a2 exM1.items.length d2, .slice a3 exM1.gone.length d3] 31 := by rw [hw4]; exact Blk.new _ _ _
  obtain ⟨w5, hw5⟩ : ∃ w5, w5 = w4.alloc (.cells #[.string ⟨exK.toArray⟩] 9) := ⟨_, rfl⟩
  have hb5 : Below w.heap.size w w5 := by rw [hw5]; exact hb4.alloc hb4.size _
  have hz4 : w4.heap.size = w3.heap.size + 1 := by rw [hw4]; simp
  have hm5 : MapV (fun b => w2.heap.size ≤ b) w5 (.agg #[.slice a1 exM1.seen.length d1, .slice a2 exM1.items.length d2, .slice a3 exM1.gone.length d3]) exM1 := by
    have h1 : MapV (fun b => w2.heap.size ≤ b) w3 (.agg #[.slice a1 exM1.seen.length d1, .slice a2 exM1.items.length d2, .slice a3 exM1.gone.length d3]) exM1 := ⟨_, _, _, rfl, ho1.map hbd1⟩
    rw [hw5, hw4]
    exact (h1.keep fun b _ hlt => Below.heap_alloc _ _ _ hlt).keep fun b _ hlt => Below.heap_alloc _ _ _ hlt
  have hr5 : Rows (fun b => b = w4.heap.size) w5 1 (.slice (some ⟨w4.heap.size, 0, none⟩) 1 1) [exK].length ([exK].map eS) := by
    rw [hw5]; exact rows_new w4 #[.string ⟨exK.toArray⟩] 9 1 rfl (by unfold maxLen; omega)
  have hU := puse_any w5 (HTb.out w5 hb5).1 (HTb.out w5 hb5).2 _ _ exM1 hm5 hk1.1 hk1.2.1 hk1.2.2.2.1 hk1.2.2.2.2 2 _ _ [exK] hr5 (by decide) (fun k hk => by rw [List.mem_singleton.1 hk]; decide)
  rw [ex_useR2, hz4] at hU
  have HU2 := Lib.hid hU
  have Hw5 := Lib.hid (show w5 = (w3.alloc (.cells #[.slice a1 exM1.seen.length d1, .slice a2 exM1.items.length d2, .slice a3 exM1.gone.length d3] 31)).alloc (.cells #[.string ⟨exK.toArray⟩] 9) by rw [hw5, hw4])
  have hM5 := hM4.alloc (.cells #[.string ⟨exK.toArray⟩] 9)
  rw [← hw5] at hM5
  have HM5 := Lib.hid hM5; have Hb5 := Lib.hid hb5; have Hm5 := Lib.hid hm5
  clear hU hw5 hw4 hb3 hb3' hb4 hM4 hM5 hb5 hm5 hr5 ho1 hbd1 hz4 hk1 HU
  go_wp2_with fail
  rw [← Hw5.out]
  refine HU2.out.mono ?_
  rintro e w6 ⟨⟨r2, rfl, ⟨u1, u2, u3, rfl, ho2⟩, hbd2⟩, hb6⟩
  have hk1 := exM_keys exM1 (.inl rfl)
  have hk2 := exM_keys exM2 (.inr rfl)
  obtain ⟨b1, f1, hu1⟩ := own_shape ho2.seen
  obtain ⟨b2, f2, hu2⟩ := own_shape ho2.items
  obtain ⟨b3, f3, hu3⟩ := own_shape ho2.gone
  subst hu1 hu2 hu3
  have hbw6 : Below w.heap.size w w6 := Hb5.out.trans (hb6.mono Hb5.out.size)
  obtain ⟨w7, hw7⟩ : ∃ w7, w7 = w6.alloc (.cells #[.slice b1 exM2.seen.length f1, .slice b2 exM2.items.length f2, .slice b3 exM2.gone.length f3] 31) := ⟨_, rfl⟩
  obtain ⟨w8, hw8⟩ : ∃ w8, w8 = w7.alloc (.cells #[.int .i64 0, .int .i64 0, .int .i64 2, .int .i64 0, .int .i64 0, .int .i64 0, .int .i64 0, .int .i64 0] 3) := ⟨_, rfl⟩
  obtain ⟨w9, hw9⟩ : ∃ w9, w9 = w8.alloc (.cells #[.string ⟨exK.toArray⟩, .int .i64 2, .int .i64 2, .int .i64 130816] 72) := ⟨_, rfl⟩
  have hz7 : w7.heap.size = w6.heap.size + 1 := by rw [hw7]; simp
  have hz8 : w8.heap.size = w6.heap.size + 2 := by rw [hw8]; simp [hz7]
  have hbw9 : Below w.heap.size w w9 := by
    rw [hw9, hw8, hw7]
    exact ((hbw6.alloc hbw6.size _).alloc (by have := hbw6.size; simp; omega) _).alloc (by have := hbw6.size; simp; omega) _
  have hl69 : Below w6.heap.size w6 w9 := by
    rw [hw9, hw8, hw7]
    exact ((kept_alloc _ _).alloc (by simp) _).alloc (by simp; omega) _
  have hm9 : MapV (fun b => w5.heap.size ≤ b) w9 (.agg #[.slice b1 exM2.seen.length f1, .slice b2 exM2.items.length f2, .slice b3 exM2.gone.length f3]) exM2 := MapV.later ⟨_, _, _, rfl, ho2.map hbd2⟩ hl69 (Nat.le_refl _)
  have hlit : MapV (fun _ => True) w9 (.agg #[.slice (some ⟨w6.heap.size + 1, 0, none⟩) 8 8, .slice (some ⟨w6.heap.size + 2, 0, none⟩) 1 1, .slice none 0 0]) exM2 := by
    refine ⟨_, _, _, rfl, ?_, ?_, Rows.nil _ _ _, hbd2.seenB, hbd2.itemsB, hbd2.goneB⟩
    · have h1 := rows_new w7 #[.int .i64 0, .int .i64 0, .int .i64 2, .int .i64 0, .int .i64 0, .int .i64 0, .int .i64 0, .int .i64 0] 3 8 rfl (by unfold maxLen; omega)
      rw [hz7] at h1
      rw [hw9, hw8]
      exact (h1.keep fun b _ hlt => Below.heap_alloc _ _ _ hlt).mono fun _ _ _ => trivial
    · refine ⟨_, 1, rfl, Nat.le_refl _, by unfold maxLen; omega, nofun, rfl, .inr ⟨w6.heap.size + 2, 0, #[.string ⟨exK.toArray⟩, .int .i64 2, .int .i64 2, .int .i64 130816], 72, (0, 0), rfl, trivial, ?_, by decide, fun i hi => ?_⟩⟩
      · rw [hw9, ← hz8]; unfold World.alloc; simp
      · rw [Nat.zero_add]
        rcases (show i = 0 ∨ i = 1 ∨ i = 2 ∨ i = 3 by have : exM2.items.length = 1 := rfl; omega) with rfl | rfl | rfl | rfl <;> rfl
  have hS := same_any w9 _ _ _ _ exM2 exM2 hm9 hlit hk2.2.2.1 hk2.2.2.2.1 hk2.2.2.2.2
  have HS := Lib.hid hS
  have hN9 : Blk w7 w6.heap.size [.slice b1 exM2.seen.length f1, .slice b2 exM2.items.length f2, .slice b3 exM2.gone.length f3] 31 := by rw [hw7]; exact Blk.new _ _ _
  have hlt6 : w3.heap.size < w6.heap.size := Nat.lt_of_lt_of_le HM5.out.lt hb6.size
  have hM9 : Blk w9 w3.heap.size [.slice a1 exM1.seen.length d1, .slice a2 exM1.items.length d2, .slice a3 exM1.gone.length d3] 31 := (HM5.out.keep (hb6.block _ HM5.out.lt)).keep (hl69.block _ hlt6)
  have hm19 := (Hm5.out.later hb6 (Nat.le_refl _)).later hl69 (Nat.le_refl _)
  obtain ⟨g0, g1, g2⟩ := cell3 hN9
  have Hw9 := Lib.hid (show w9 = ((w6.alloc (.cells #[.slice b1 exM2.seen.length f1, .slice b2 exM2.items.length f2, .slice b3 exM2.gone.length f3] 31)).alloc (.cells #[.int .i64 0, .int .i64 0, .int .i64 2, .int .i64 0, .int .i64 0, .int .i64 0, .int .i64 0, .int .i64 0] 3)).alloc (.cells #[.string ⟨exK.toArray⟩, .int .i64 2, .int .i64 2, .int .i64 130816] 72) by rw [hw9, hw8, hw7])
  have Hbw9 := Lib.hid hbw9; have HM9 := Lib.hid hM9; have Hm19 := Lib.hid hm19
  clear HU2 ho2 hbd2 hb6 hbw6 hw7 hw8 hw9 hz7 hz8 hbw9 hl69 hm9 hlit hS hN9 hM9 hm19 g0 g1 g2 hk2
  go_wp2_with fail
  rw [← Hw9.out]
  refine HS.out.mono ?_
  rintro e w10 ⟨r, rfl, hr, hb10⟩
  obtain rfl : r = true := hr.2 rfl
  have hbw10 : Below w.heap.size w w10 := Hbw9.out.trans (hb10.mono Hbw9.out.size)
  obtain ⟨m0, m1, m2⟩ := cell3 (HM9.out.keep (hb10.block _ HM9.out.lt))
  have hV := pvalue_any w10 (HTb.out w10 hbw10).1 (HTb.out w10 hbw10).2 _ _ exM1 (Hm19.out.later hb10 (Nat.le_refl _)) hk1.1 hk1.2.1 exK (by decide)
  rw [ex_value1] at hV
  have HV := Lib.hid hV; have Hbw10 := Lib.hid hbw10
  clear hV hbw10 hb10 hr HS hk1
  go_wp2_with fail
  refine HV.out.mono ?_
  rintro e w11 ⟨rfl, hb11⟩
  clear HV
  go_wp2_with fail
  go_ret
  exact ⟨rfl, Hbw10.out.trans (hb11.mono Hbw10.out.size)⟩
end Go.Proofs.YtbjkkmabafaogaaGreatDoor
