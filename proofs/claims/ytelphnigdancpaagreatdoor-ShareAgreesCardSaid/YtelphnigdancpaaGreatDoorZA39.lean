/-
  SNamed
-/
import Derived.Test.YtelphnigdancpaaGreatDoorZA38
namespace Go.Proofs.YtelphnigdancpaaGreatDoor
open Go.RowKit Go.Lib
set_option linter.unusedVariables false
set_option maxRecDepth 20000
attribute [local go_sem ↓] seal_append
attribute [local go_sem] opC upC

set_option maxRecDepth 100000 in
set_option maxHeartbeats 4000000 in
theorem named_any (w : World) (F : Blks) (v : Value) (l : List UInt8) (hv : Bytes F w v l) (hF : ∀ b, F b → b < w.heap.size) :
    Calls Tryz.prog 68 #[v] w fun e w' => (∃ r, e = .returned r ∧ w'.ownsRow w.heap.size 9 1 r (named4 l).length ((named4 l).map eS)) ∧ Below w.heap.size w w' := by
  obtain ⟨av, cv, rfl, hcv, hmv, -, -⟩ := id hv
  obtain ⟨n, hn⟩ : ∃ n, l.length = n := ⟨_, rfl⟩
  have hn9 : n ≤ 9223372036854775807 := by unfold maxLen at hmv; omega
  have HB := Lib.hid (show ∀ W, Below w.heap.size w W → Bytes F W (.slice av l.length cv) l from fun W hW => hv.keep (w' := W) fun b hb hlt => hW.block b (hF b hb))
  rw [hn]
  have Hn := Lib.hid hn
  clear hv hn hcv hmv
  go_enter Tryz.func68, Tryz.ntmps68
  go_wp2_with fail
  go_loopw [3, 4] (fun so i wr => ∃ q : Nat, q ≤ 4 ∧ i = .int .i64 (q : Int) ∧ wr.ownsRow w.heap.size 9 1 so (namedQ l q).length ((namedQ l q).map eS) ∧ Below w.heap.size w wr) (fun _ i _ => 4 - (intOf i).toNat)
  case atStart => exact ⟨0, by omega, rfl, World.ownsRow_nil _ _ _ _, Below.refl _ _⟩
  case round =>
    rename World => wr
    obtain ⟨q, hq4, rfl, hown, hbw⟩ := hrel
    obtain ⟨ao, co, rfl⟩ := own_shape hown
    have hlq := namedQ_len l q
    have Hown := Lib.hid hown; have Hbw := Lib.hid hbw
    clear hown hbw
    by_cases hq : q < 4
    · have hqI : (q : Int) < 4 := by omega
      go_wp2_with fail
      go_loopw [5, 6] (fun sb i wq => ∃ k : Nat, k ≤ n ∧ k ≤ 10 ∧ i = .int .i64 (k : Int) ∧ sb = .bool (hasN l q k) ∧ wq = wr) (fun _ i _ => n - (intOf i).toNat)
      case atStart => exact ⟨0, by omega, by omega, rfl, rfl, rfl⟩
      case round =>
        rename World => wq
        obtain ⟨k, hkn0, hk10, rfl, rfl, rfl⟩ := hrel
        by_cases hkn : k < n
        · have hkI : (k : Int) < (n : Int) := by omega
          by_cases hk1 : k < 10
          · have hk1I : (k : Int) < 10 := by omega
            have hkl : k < l.length := by rw [Hn.out]; exact hkn
            obtain ⟨c, hc⟩ : ∃ c, l[k] = c := ⟨_, rfl⟩
            have Hst := Lib.hid (show hasN l q (k + 1) = (hasN l q k || decide (c.toNat % 4 = q)) by rw [hasN_succ l q k hkl, hc])
            obtain ⟨-, -, -, hbc⟩ := (HB.out wq Hbw.out).cells
            obtain ⟨bb, ob, rfl, -, -, hcc⟩ := hbc.resolve_left (by intro e; rw [e] at hkl; simp at hkl)
            have c0 : wq.cell? ⟨bb, ob + k, none⟩ = some (.int .u8 (c.toNat : Int)) := by have := hcc k hkl; rw [hc] at this; exact this
            have hc255 : c.toNat ≤ 255 := by have := c.toNat_lt; omega
            obtain ⟨z, hz⟩ : ∃ z, c.toNat = z := ⟨_, rfl⟩
            rw [hz] at c0 Hst hc255
            obtain ⟨r, hr⟩ : ∃ r, z % 4 = r := ⟨_, rfl⟩
            have hm : Int.tmod (z : Int) 4 = (r : Int) := by rw [Int.tmod_eq_emod_of_nonneg (by omega)]; omega
            have hr4 : r < 4 := by omega
            rw [hr] at Hst
            generalize hasN l q k = b0 at Hst ⊢
            have He := Lib.hid (show ((r : Int) == (q : Int)) = decide (r = q) from (decide_eq_decide (p := (r : Int) = (q : Int))).2 (by omega))
            clear hcc hbc hc hz hr
            cases b0 with
            | true =>
              go_wp2_with fail
              go_roundw
              case rel => exact ⟨k + 1, by omega, by omega, by go_num, by rw [Hst.out]; rfl, trivial⟩
              case measure => first | (simp [intOf]; done) | (simp [intOf]; omega)
            | false =>
              go_wp2_with fail
              go_roundw
              case rel => exact ⟨k + 1, by omega, by omega, by go_num, by rw [Hst.out, Bool.false_or, He.out], trivial⟩
              case measure => first | (simp [intOf]; done) | (simp [intOf]; omega)
          · have hk1I : ¬ (k : Int) < 10 := by omega
            rw [hasN_end l q k (.inr (by omega)) hk10]
            obtain ⟨b1, hb1⟩ : ∃ b1, hasN l q 10 = b1 := ⟨_, rfl⟩
            rw [hb1]
            have Hh := Lib.hid hb1
            clear hb1
            cases b1 with
            | true =>
              rcases (show q = 0 ∨ q = 1 ∨ q = 2 ∨ q = 3 by omega) with rfl | rfl | rfl | rfl
              ·
                have hstr : ((⟨#[49, 97, 0]⟩ : ByteArray) ++ (⟨#[98, 99, 100, 101]⟩ : ByteArray).extract 0 (0 + 1)) = ⟨#[49, 97, 0, 98]⟩ := by rfl
                simp only [Nat.reduceAdd] at hstr
                obtain ⟨i0, t1, t2, t3, t4⟩ := info_parts infoS
                obtain ⟨v5, w9, hr5, hown5, hg5⟩ := run_append_one (P := Tryz.prog) wq w.heap.size 89 9 Tryz.underlying89 t1 t2 t3 t4 rfl (by decide) (.slice ao (namedQ l 0).length co) (namedQ l 0).length _ Hown.out #[.string ⟨#[49, 97, 0, 98]⟩] rfl (by simp [Value.oneCell']) (by unfold maxLen; omega) (by omega) Hbw.out.size
                obtain ⟨a9, c9, rfl⟩ := own_shape hown5
                have hb9 : Below w.heap.size w w9 := Hbw.out.trans (((Below.refl w.heap.size wq).alloc Hbw.out.size _).trans (Below.grownOwn (own_below Hown.out (kept_alloc _ _)) hg5 (by have := Hbw.out.size; simp; omega) (Nat.le_refl _)))
                have Hf := Lib.hid (show w9.ownsRow w.heap.size 9 1 (.slice a9 ((namedQ l 0).length + 1) c9) (namedQ l (0 + 1)).length ((namedQ l (0 + 1)).map eS) by
                  rw [namedQ_succ l 0, if_pos Hh.out, List.length_append, List.map_append]; exact hown5)
                have HBf := Lib.hid hb9
                obtain ⟨nq, hnq⟩ : ∃ nq, (namedQ l 0).length = nq := ⟨_, rfl⟩
                rw [hnq] at hr5 Hf ⊢
                clear hown5 hg5 hb9 t1 t2 t3 t4 hnq
                go_wp2_with fail
                go_roundw
                case rel => exact ⟨0 + 1, by omega, by go_num, Hf.out, HBf.out⟩
                case measure => first | (simp [intOf]; done) | (simp [intOf]; omega)
              ·
                have hstr : ((⟨#[49, 97, 0]⟩ : ByteArray) ++ (⟨#[98, 99, 100, 101]⟩ : ByteArray).extract 1 (1 + 1)) = ⟨#[49, 97, 0, 99]⟩ := by rfl
                simp only [Nat.reduceAdd] at hstr
                obtain ⟨i0, t1, t2, t3, t4⟩ := info_parts infoS
                obtain ⟨v5, w9, hr5, hown5, hg5⟩ := run_append_one (P := Tryz.prog) wq w.heap.size 89 9 Tryz.underlying89 t1 t2 t3 t4 rfl (by decide) (.slice ao (namedQ l 1).length co) (namedQ l 1).length _ Hown.out #[.string ⟨#[49, 97, 0, 99]⟩] rfl (by simp [Value.oneCell']) (by unfold maxLen; omega) (by omega) Hbw.out.size
                obtain ⟨a9, c9, rfl⟩ := own_shape hown5
                have hb9 : Below w.heap.size w w9 := Hbw.out.trans (((Below.refl w.heap.size wq).alloc Hbw.out.size _).trans (Below.grownOwn (own_below Hown.out (kept_alloc _ _)) hg5 (by have := Hbw.out.size; simp; omega) (Nat.le_refl _)))
                have Hf := Lib.hid (show w9.ownsRow w.heap.size 9 1 (.slice a9 ((namedQ l 1).length + 1) c9) (namedQ l (1 + 1)).length ((namedQ l (1 + 1)).map eS) by
                  rw [namedQ_succ l 1, if_pos Hh.out, List.length_append, List.map_append]; exact hown5)
                have HBf := Lib.hid hb9
                obtain ⟨nq, hnq⟩ : ∃ nq, (namedQ l 1).length = nq := ⟨_, rfl⟩
                rw [hnq] at hr5 Hf ⊢
                clear hown5 hg5 hb9 t1 t2 t3 t4 hnq
                go_wp2_with fail
                go_roundw
                case rel => exact ⟨1 + 1, by omega, by go_num, Hf.out, HBf.out⟩
                case measure => first | (simp [intOf]; done) | (simp [intOf]; omega)
              ·
                have hstr : ((⟨#[49, 97, 0]⟩ : ByteArray) ++ (⟨#[98, 99, 100, 101]⟩ : ByteArray).extract 2 (2 + 1)) = ⟨#[49, 97, 0, 100]⟩ := by rfl
                simp only [Nat.reduceAdd] at hstr
                obtain ⟨i0, t1, t2, t3, t4⟩ := info_parts infoS
                obtain ⟨v5, w9, hr5, hown5, hg5⟩ := run_append_one (P := Tryz.prog) wq w.heap.size 89 9 Tryz.underlying89 t1 t2 t3 t4 rfl (by decide) (.slice ao (namedQ l 2).length co) (namedQ l 2).length _ Hown.out #[.string ⟨#[49, 97, 0, 100]⟩] rfl (by simp [Value.oneCell']) (by unfold maxLen; omega) (by omega) Hbw.out.size
                obtain ⟨a9, c9, rfl⟩ := own_shape hown5
                have hb9 : Below w.heap.size w w9 := Hbw.out.trans (((Below.refl w.heap.size wq).alloc Hbw.out.size _).trans (Below.grownOwn (own_below Hown.out (kept_alloc _ _)) hg5 (by have := Hbw.out.size; simp; omega) (Nat.le_refl _)))
                have Hf := Lib.hid (show w9.ownsRow w.heap.size 9 1 (.slice a9 ((namedQ l 2).length + 1) c9) (namedQ l (2 + 1)).length ((namedQ l (2 + 1)).map eS) by
                  rw [namedQ_succ l 2, if_pos Hh.out, List.length_append, List.map_append]; exact hown5)
                have HBf := Lib.hid hb9
                obtain ⟨nq, hnq⟩ : ∃ nq, (namedQ l 2).length = nq := ⟨_, rfl⟩
                rw [hnq] at hr5 Hf ⊢
                clear hown5 hg5 hb9 t1 t2 t3 t4 hnq
                go_wp2_with fail
                go_roundw
                case rel => exact ⟨2 + 1, by omega, by go_num, Hf.out, HBf.out⟩
                case measure => first | (simp [intOf]; done) | (simp [intOf]; omega)
              ·
                have hstr : ((⟨#[49, 97, 0]⟩ : ByteArray) ++ (⟨#[98, 99, 100, 101]⟩ : ByteArray).extract 3 (3 + 1)) = ⟨#[49, 97, 0, 101]⟩ := by rfl
                simp only [Nat.reduceAdd] at hstr
                obtain ⟨i0, t1, t2, t3, t4⟩ := info_parts infoS
                obtain ⟨v5, w9, hr5, hown5, hg5⟩ := run_append_one (P := Tryz.prog) wq w.heap.size 89 9 Tryz.underlying89 t1 t2 t3 t4 rfl (by decide) (.slice ao (namedQ l 3).length co) (namedQ l 3).length _ Hown.out #[.string ⟨#[49, 97, 0, 101]⟩] rfl (by simp [Value.oneCell']) (by unfold maxLen; omega) (by omega) Hbw.out.size
                obtain ⟨a9, c9, rfl⟩ := own_shape hown5
                have hb9 : Below w.heap.size w w9 := Hbw.out.trans (((Below.refl w.heap.size wq).alloc Hbw.out.size _).trans (Below.grownOwn (own_below Hown.out (kept_alloc _ _)) hg5 (by have := Hbw.out.size; simp; omega) (Nat.le_refl _)))
                have Hf := Lib.hid (show w9.ownsRow w.heap.size 9 1 (.slice a9 ((namedQ l 3).length + 1) c9) (namedQ l (3 + 1)).length ((namedQ l (3 + 1)).map eS) by
                  rw [namedQ_succ l 3, if_pos Hh.out, List.length_append, List.map_append]; exact hown5)
                have HBf := Lib.hid hb9
                obtain ⟨nq, hnq⟩ : ∃ nq, (namedQ l 3).length = nq := ⟨_, rfl⟩
                rw [hnq] at hr5 Hf ⊢
                clear hown5 hg5 hb9 t1 t2 t3 t4 hnq
                go_wp2_with fail
                go_roundw
                case rel => exact ⟨3 + 1, by omega, by go_num, Hf.out, HBf.out⟩
                case measure => first | (simp [intOf]; done) | (simp [intOf]; omega)
            | false =>
              have Hf := Lib.hid (show wq.ownsRow w.heap.size 9 1 (.slice ao (namedQ l q).length co) (namedQ l (q + 1)).length ((namedQ l (q + 1)).map eS) by rw [namedQ_succ l q, if_neg (by rw [Hh.out]; simp), List.append_nil]; exact Hown.out)
              go_wp2_with fail
              go_roundw
              case rel => exact ⟨q + 1, by omega, by go_num, Hf.out, Hbw.out⟩
              case measure => first | (simp [intOf]; done) | (simp [intOf]; omega)
        · have hkI : ¬ (k : Int) < (n : Int) := by omega
          rw [hasN_end l q k (.inl (by rw [Hn.out]; omega)) hk10]
          obtain ⟨b1, hb1⟩ : ∃ b1, hasN l q 10 = b1 := ⟨_, rfl⟩
          rw [hb1]
          have Hh := Lib.hid hb1
          clear hb1
          cases b1 with
          | true =>
            rcases (show q = 0 ∨ q = 1 ∨ q = 2 ∨ q = 3 by omega) with rfl | rfl | rfl | rfl
            ·
              have hstr : ((⟨#[49, 97, 0]⟩ : ByteArray) ++ (⟨#[98, 99, 100, 101]⟩ : ByteArray).extract 0 (0 + 1)) = ⟨#[49, 97, 0, 98]⟩ := by rfl
              simp only [Nat.reduceAdd] at hstr
              obtain ⟨i0, t1, t2, t3, t4⟩ := info_parts infoS
              obtain ⟨v5, w9, hr5, hown5, hg5⟩ := run_append_one (P := Tryz.prog) wq w.heap.size 89 9 Tryz.underlying89 t1 t2 t3 t4 rfl (by decide) (.slice ao (namedQ l 0).length co) (namedQ l 0).length _ Hown.out #[.string ⟨#[49, 97, 0, 98]⟩] rfl (by simp [Value.oneCell']) (by unfold maxLen; omega) (by omega) Hbw.out.size
              obtain ⟨a9, c9, rfl⟩ := own_shape hown5
              have hb9 : Below w.heap.size w w9 := Hbw.out.trans (((Below.refl w.heap.size wq).alloc Hbw.out.size _).trans (Below.grownOwn (own_below Hown.out (kept_alloc _ _)) hg5 (by have := Hbw.out.size; simp; omega) (Nat.le_refl _)))
              have Hf := Lib.hid (show w9.ownsRow w.heap.size 9 1 (.slice a9 ((namedQ l 0).length + 1) c9) (namedQ l (0 + 1)).length ((namedQ l (0 + 1)).map eS) by
                rw [namedQ_succ l 0, if_pos Hh.out, List.length_append, List.map_append]; exact hown5)
              have HBf := Lib.hid hb9
              obtain ⟨nq, hnq⟩ : ∃ nq, (namedQ l 0).length = nq := ⟨_, rfl⟩
              rw [hnq] at hr5 Hf ⊢
              clear hown5 hg5 hb9 t1 t2 t3 t4 hnq
              go_wp2_with fail
              go_roundw
              case rel => exact ⟨0 + 1, by omega, by go_num, Hf.out, HBf.out⟩
              case measure => first | (simp [intOf]; done) | (simp [intOf]; omega)
            ·
              have hstr : ((⟨#[49, 97, 0]⟩ : ByteArray) ++ (⟨#[98, 99, 100, 101]⟩ : ByteArray).extract 1 (1 + 1)) = ⟨#[49, 97, 0, 99]⟩ := by rfl
              simp only [Nat.reduceAdd] at hstr
              obtain ⟨i0, t1, t2, t3, t4⟩ := info_parts infoS
              obtain ⟨v5, w9, hr5, hown5, hg5⟩ := run_append_one (P := Tryz.prog) wq w.heap.size 89 9 Tryz.underlying89 t1 t2 t3 t4 rfl (by decide) (.slice ao (namedQ l 1).length co) (namedQ l 1).length _ Hown.out #[.string ⟨#[49, 97, 0, 99]⟩] rfl (by simp [Value.oneCell']) (by unfold maxLen; omega) (by omega) Hbw.out.size
              obtain ⟨a9, c9, rfl⟩ := own_shape hown5
              have hb9 : Below w.heap.size w w9 := Hbw.out.trans (((Below.refl w.heap.size wq).alloc Hbw.out.size _).trans (Below.grownOwn (own_below Hown.out (kept_alloc _ _)) hg5 (by have := Hbw.out.size; simp; omega) (Nat.le_refl _)))
              have Hf := Lib.hid (show w9.ownsRow w.heap.size 9 1 (.slice a9 ((namedQ l 1).length + 1) c9) (namedQ l (1 + 1)).length ((namedQ l (1 + 1)).map eS) by
                rw [namedQ_succ l 1, if_pos Hh.out, List.length_append, List.map_append]; exact hown5)
              have HBf := Lib.hid hb9
              obtain ⟨nq, hnq⟩ : ∃ nq, (namedQ l 1).length = nq := ⟨_, rfl⟩
              rw [hnq] at hr5 Hf ⊢
              clear hown5 hg5 hb9 t1 t2 t3 t4 hnq
              go_wp2_with fail
              go_roundw
              case rel => exact ⟨1 + 1, by omega, by go_num, Hf.out, HBf.out⟩
              case measure => first | (simp [intOf]; done) | (simp [intOf]; omega)
            ·
              have hstr : ((⟨#[49, 97, 0]⟩ : ByteArray) ++ (⟨#[98, 99, 100, 101]⟩ : ByteArray).extract 2 (2 + 1)) = ⟨#[49, 97, 0, 100]⟩ := by rfl
              simp only [Nat.reduceAdd] at hstr
              obtain ⟨i0, t1, t2, t3, t4⟩ := info_parts infoS
              obtain ⟨v5, w9, hr5, hown5, hg5⟩ := run_append_one (P := Tryz.prog) wq w.heap.size 89 9 Tryz.underlying89 t1 t2 t3 t4 rfl (by decide) (.slice ao (namedQ l 2).length co) (namedQ l 2).length _ Hown.out #[.string ⟨#[49, 97, 0, 100]⟩] rfl (by simp [Value.oneCell']) (by unfold maxLen; omega) (by omega) Hbw.out.size
              obtain ⟨a9, c9, rfl⟩ := own_shape hown5
              have hb9 : Below w.heap.size w w9 := Hbw.out.trans (((Below.refl w.heap.size wq).alloc Hbw.out.size _).trans (Below.grownOwn (own_below Hown.out (kept_alloc _ _)) hg5 (by have := Hbw.out.size; simp; omega) (Nat.le_refl _)))
              have Hf := Lib.hid (show w9.ownsRow w.heap.size 9 1 (.slice a9 ((namedQ l 2).length + 1) c9) (namedQ l (2 + 1)).length ((namedQ l (2 + 1)).map eS) by
                rw [namedQ_succ l 2, if_pos Hh.out, List.length_append, List.map_append]; exact hown5)
              have HBf := Lib.hid hb9
              obtain ⟨nq, hnq⟩ : ∃ nq, (namedQ l 2).length = nq := ⟨_, rfl⟩
              rw [hnq] at hr5 Hf ⊢
              clear hown5 hg5 hb9 t1 t2 t3 t4 hnq
              go_wp2_with fail
              go_roundw
              case rel => exact ⟨2 + 1, by omega, by go_num, Hf.out, HBf.out⟩
              case measure => first | (simp [intOf]; done) | (simp [intOf]; omega)
            ·
              have hstr : ((⟨#[49, 97, 0]⟩ : ByteArray) ++ (⟨#[98, 99, 100, 101]⟩ : ByteArray).extract 3 (3 + 1)) = ⟨#[49, 97, 0, 101]⟩ := by rfl
              simp only [Nat.reduceAdd] at hstr
              obtain ⟨i0, t1, t2, t3, t4⟩ := info_parts infoS
              obtain ⟨v5, w9, hr5, hown5, hg5⟩ := run_append_one (P := Tryz.prog) wq w.heap.size 89 9 Tryz.underlying89 t1 t2 t3 t4 rfl (by decide) (.slice ao (namedQ l 3).length co) (namedQ l 3).length _ Hown.out #[.string ⟨#[49, 97, 0, 101]⟩] rfl (by simp [Value.oneCell']) (by unfold maxLen; omega) (by omega) Hbw.out.size
              obtain ⟨a9, c9, rfl⟩ := own_shape hown5
              have hb9 : Below w.heap.size w w9 := Hbw.out.trans (((Below.refl w.heap.size wq).alloc Hbw.out.size _).trans (Below.grownOwn (own_below Hown.out (kept_alloc _ _)) hg5 (by have := Hbw.out.size; simp; omega) (Nat.le_refl _)))
              have Hf := Lib.hid (show w9.ownsRow w.heap.size 9 1 (.slice a9 ((namedQ l 3).length + 1) c9) (namedQ l (3 + 1)).length ((namedQ l (3 + 1)).map eS) by
                rw [namedQ_succ l 3, if_pos Hh.out, List.length_append, List.map_append]; exact hown5)
              have HBf := Lib.hid hb9
              obtain ⟨nq, hnq⟩ : ∃ nq, (namedQ l 3).length = nq := ⟨_, rfl⟩
              rw [hnq] at hr5 Hf ⊢
              clear hown5 hg5 hb9 t1 t2 t3 t4 hnq
              go_wp2_with fail
              go_roundw
              case rel => exact ⟨3 + 1, by omega, by go_num, Hf.out, HBf.out⟩
              case measure => first | (simp [intOf]; done) | (simp [intOf]; omega)
          | false =>
            have Hf := Lib.hid (show wq.ownsRow w.heap.size 9 1 (.slice ao (namedQ l q).length co) (namedQ l (q + 1)).length ((namedQ l (q + 1)).map eS) by rw [namedQ_succ l q, if_neg (by rw [Hh.out]; simp), List.append_nil]; exact Hown.out)
            go_wp2_with fail
            go_roundw
            case rel => exact ⟨q + 1, by omega, by go_num, Hf.out, Hbw.out⟩
            case measure => first | (simp [intOf]; done) | (simp [intOf]; omega)
    · have hqI : ¬ (q : Int) < 4 := by omega
      obtain rfl : q = 4 := by omega
      go_wp2_with fail
      go_ret
      exact ⟨⟨_, rfl, Hown.out⟩, Hbw.out⟩
end Go.Proofs.YtelphnigdancpaaGreatDoor
