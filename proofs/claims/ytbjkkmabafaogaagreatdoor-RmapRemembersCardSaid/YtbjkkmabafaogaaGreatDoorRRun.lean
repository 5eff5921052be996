/- named, run: what happens to the copies of three devices. -/
import Derived.Test.YtbjkkmabafaogaaGreatDoorRActs
import Derived.Test.YtbjkkmabafaogaaGreatDoorRForg2
namespace Go.Proofs.YtbjkkmabafaogaaGreatDoor
open Go.RowKit Go.Lib
set_option linter.unusedVariables false
set_option maxRecDepth 20000
attribute [local go_sem ↓] seal_append
attribute [local go_sem] opC upC

theorem namedK_len (l : List UInt8) : ∀ k, (namedK l k).length ≤ k
  | 0 => by simp [namedK]
  | k + 1 => by
    by_cases h : k < l.length
    · rw [namedK_succ l k h]
      have := namedK_len l k
      have := addN_len (namedK l k) l[k]
      omega
    · have e : namedK l (k + 1) = namedK l k := by
        unfold namedK
        rw [List.take_of_length_le (by omega), List.take_of_length_le (by omega)]
      rw [e]
      have := namedK_len l k
      omega
set_option maxRecDepth 100000 in
set_option maxHeartbeats 4000000 in
theorem named_any (w : World) (F : Blks) (v : Value) (l : List UInt8) (hv : Bytes F w v l) (hF : ∀ b, F b → b < w.heap.size) :
    Calls Tryz.prog 76 #[v] w fun e w' => (∃ r, e = .returned r ∧ w'.ownsRow w.heap.size 9 1 r (namedN l).length ((namedN l).map eS)) ∧ Below w.heap.size w w' := by
  obtain ⟨av, cv, rfl, hcv, hmv, -, -⟩ := id hv
  obtain ⟨n, hn⟩ : ∃ n, l.length = n := ⟨_, rfl⟩
  have hn9 : n ≤ 9223372036854775807 := by unfold maxLen at hmv; omega
  have HB := Lib.hid (show ∀ W, Below w.heap.size w W → Bytes F W (.slice av l.length cv) l from fun W hW => hv.keep (w' := W) fun b hb hlt => hW.block b hlt)
  rw [hn]
  have Hn := Lib.hid hn
  clear hv hn hcv hmv
  go_enter Tryz.func76, Tryz.ntmps76
  go_wp2_with fail
  go_loopw [3, 4] (fun so i wr => ∃ k : Nat, k ≤ n ∧ k ≤ 10 ∧ i = .int .i64 (k : Int) ∧ wr.ownsRow w.heap.size 9 1 so (namedK l k).length ((namedK l k).map eS) ∧ Below w.heap.size w wr) (fun _ i _ => n - (intOf i).toNat)
  case atStart => exact ⟨0, by omega, by omega, rfl, World.ownsRow_nil _ _ _ _, Below.refl _ _⟩
  case round =>
    obtain ⟨k, hkn0, hk10, rfl, hown, hbw⟩ := hrel
    obtain ⟨ao, co, rfl⟩ := own_shape hown
    have hlk := namedK_len l k
    obtain ⟨L, hL⟩ : ∃ L, namedK l k = L := ⟨_, rfl⟩
    rw [hL] at hown hlk ⊢
    have HL := Lib.hid hL; have Hown := Lib.hid hown; have Hbw := Lib.hid hbw
    clear hL hown hbw
    by_cases hkn : k < n
    · have hkI : (k : Int) < (n : Int) := by omega
      by_cases hk1 : k < 10
      · have hk1I : (k : Int) < 10 := by omega
        have hkl : k < l.length := by rw [Hn.out]; exact hkn
        obtain ⟨c, hc⟩ : ∃ c, l[k] = c := ⟨_, rfl⟩
        have hst := namedK_succ l k hkl
        rw [HL.out, hc] at hst
        have Hst := Lib.hid hst
        obtain ⟨-, -, -, hbc⟩ := (HB.out wr Hbw.out).cells
        obtain ⟨bb, ob, rfl, hFb, -, -⟩ := hbc.resolve_left (by intro e; rw [e] at hkl; simp at hkl)
        have HX := Lib.hid (show ∀ W, Below wr.heap.size wr W → W.cell? ⟨bb, ob + k, none⟩ = some (.int .u8 (c.toNat : Int)) ∧ W.ownsRow w.heap.size 9 1 (.slice ao L.length co) L.length (L.map eS) ∧ Below w.heap.size w W from fun W hW => by
          have hB := Hbw.out.trans (hW.mono Hbw.out.size)
          obtain ⟨-, -, -, hbc⟩ := (HB.out W hB).cells
          obtain ⟨bb', ob', e, -, -, hc'⟩ := hbc.resolve_left (by intro e; rw [e] at hkl; simp at hkl)
          simp at e
          obtain ⟨rfl, rfl⟩ := e
          have := hc' k hkl
          rw [hc] at this
          exact ⟨this, own_below Hown.out hW, hB⟩)
        have hc255 : c.toNat ≤ 255 := by have := c.toNat_lt; omega
        obtain ⟨y, hy⟩ : ∃ y, keyN c.toNat = y := ⟨_, rfl⟩
        have HK := Lib.hid (show ∀ W, Calls Tryz.prog 38 #[.int .u8 (c.toNat : Int)] W fun e w' => e = .returned (.string ⟨y.toArray⟩) ∧ W = w' from fun W => by rw [← hy]; exact key_any W c.toNat hc255)
        unfold addN at hst
        have Hy := Lib.hid hy
        clear hst hbc hc hy
        go_wp2_with fail
        go_loopw [5, 6] (fun sb j wq => ∃ jn : Nat, jn ≤ L.length ∧ j = .int .i64 (jn : Int) ∧ sb = .bool (decide (y ∈ L.take jn)) ∧ Below wr.heap.size wr wq) (fun _ j _ => L.length - (intOf j).toNat)
        case atStart => exact ⟨0, by omega, rfl, by simp, Below.refl _ _⟩
        case round =>
          rename World => wq
          obtain ⟨jn, hjn, rfl, rfl, hbq⟩ := hrel
          have Hbq := Lib.hid hbq
          clear hbq
          by_cases hj : jn < L.length
          · have hjI : (jn : Int) < (L.length : Int) := by omega
            obtain ⟨bl, ol, rfl, -, -, hlc⟩ := str_cell (Rows.of_owns (HX.out wq Hbq.out).2.1) (by omega)
            obtain ⟨z, hz⟩ : ∃ z, L[jn] = z := ⟨_, rfl⟩
            have hall : ∀ w', Later wq.drew w' → Below wr.heap.size wr w' := fun w' hh => Hbq.out.drew.trans (RowKit.Below.mono hh Hbq.out.size)
            have pb : ∀ w', Later wq.drew w' → w'.cell? ⟨bb, ob + k, none⟩ = some (.int .u8 (c.toNat : Int)) := fun w' hh => (HX.out w' (hall w' hh)).1
            have pk : ∀ w', Later wq.drew w' → w'.cell? ⟨bl, ol + jn, none⟩ = some (.string ⟨z.toArray⟩) := fun w' hh => by
              obtain ⟨b', o', hbb, -, -, hlc'⟩ := str_cell (Rows.of_owns (HX.out w' (hall w' hh)).2.1) (by omega)
              simp at hbb
              obtain ⟨rfl, rfl⟩ := hbb
              have := hlc' jn hj
              rw [hz] at this
              exact this
            have Hst2 := Lib.hid (show decide (y ∈ L.take (jn + 1)) = (decide (y ∈ L.take jn) || (z == y)) by rw [mem_take_succ5 L y jn hj, hz])
            generalize decide (y ∈ L.take jn) = b0 at Hst2 ⊢
            clear hlc hz
            cases b0 with
            | false =>
              go_wp2_with fail
              refine wp_region_can Later [(0, true), (1, true), (2, true), (3, true), (4, true), (5, true), (6, true), (7, true), (8, true), (9, true), (10, false), (11, true), (12, true), (13, true)] (by kernel_rfl) (by kernel_rfl) later_refl later_trans ?_
              repeat (first
                | (refine can_yes (v := ?_) rfl (wanted_none rfl) (fun w' hC => ?_) (fun K hK => ?_); rotate_left; (focus (go_simp; (try simp (disch := omega) only [IntWalk.i64_in]); first | done | exact rfl)); go_simp; (try simp (disch := omega) only [IntWalk.i64_in]); refine hK _ ?_; clear hK K)
                | (refine can_guard rfl (fun A B hA hB => ?_); go_simp; first | (refine hA ⟨?_, fun w' hC => ?_, fun K hK => ?_⟩; rotate_left; (focus (go_simp; (try simp (disch := omega) only [IntWalk.i64_in]); first | done | exact rfl)); go_simp; (try simp (disch := omega) only [IntWalk.i64_in]); refine hK _ ?_; clear hK K hA hB A B) | (refine hB (fun K hK => ?_); go_simp; (try simp (disch := omega) only [IntWalk.i64_in]); refine hK _ ?_; clear hK K hA hB A B))
                | (refine can_guard_go rfl (fun A B hA hB => ?_); go_simp; refine hB (fun K hK => ?_); go_simp; (try simp (disch := omega) only [IntWalk.i64_in]); refine hK _ ?_; clear hK K hA hB A B))
              refine can_go rfl rfl (fun KK hK => ?_)
              go_simp
              refine (HK.out _).mono ?_
              rintro e w8 ⟨rfl, hw8⟩
              refine ⟨_, rfl, by rw [← hw8]; exact later_refl _, hK _ _ ?_⟩
              have Hb8 := Lib.hid (show Below wr.heap.size wr w8 by rw [← hw8]; exact Hbq.out.drew)
              clear hK KK pb pk hall hw8
              go_simp
              repeat (first
                | (refine can_yes (v := ?_) rfl (wanted_none rfl) (fun w' hC => ?_) (fun K hK => ?_); rotate_left; (focus (go_simp; (try simp (disch := omega) only [IntWalk.i64_in]); first | done | exact rfl)); go_simp; (try simp (disch := omega) only [IntWalk.i64_in]); refine hK _ ?_; clear hK K)
                | (refine can_guard rfl (fun A B hA hB => ?_); go_simp; first | (refine hA ⟨?_, fun w' hC => ?_, fun K hK => ?_⟩; rotate_left; (focus (go_simp; (try simp (disch := omega) only [IntWalk.i64_in]); first | done | exact rfl)); go_simp; (try simp (disch := omega) only [IntWalk.i64_in]); refine hK _ ?_; clear hK K hA hB A B) | (refine hB (fun K hK => ?_); go_simp; (try simp (disch := omega) only [IntWalk.i64_in]); refine hK _ ?_; clear hK K hA hB A B))
                | (refine can_guard_go rfl (fun A B hA hB => ?_); go_simp; refine hB (fun K hK => ?_); go_simp; (try simp (disch := omega) only [IntWalk.i64_in]); refine hK _ ?_; clear hK K hA hB A B))
              refine can_nil ?_
              go_wp2_with fail
              go_roundw
              case rel => exact ⟨jn + 1, by omega, by go_num, by rw [Hst2.out]; simp, Hb8.out⟩
              case measure => simp [intOf]; omega
            | true =>
              go_wp2_with fail
              refine wp_region_can Later [(0, true), (1, true), (2, true), (3, true), (4, true), (5, true), (6, true), (7, true), (8, true), (9, true), (10, false), (11, true), (12, true), (13, true)] (by kernel_rfl) (by kernel_rfl) later_refl later_trans ?_
              repeat (first
                | (refine can_yes (v := ?_) rfl (wanted_none rfl) (fun w' hC => ?_) (fun K hK => ?_); rotate_left; (focus (go_simp; (try simp (disch := omega) only [IntWalk.i64_in]); first | done | exact rfl)); go_simp; (try simp (disch := omega) only [IntWalk.i64_in]); refine hK _ ?_; clear hK K)
                | (refine can_guard rfl (fun A B hA hB => ?_); go_simp; first | (refine hA ⟨?_, fun w' hC => ?_, fun K hK => ?_⟩; rotate_left; (focus (go_simp; (try simp (disch := omega) only [IntWalk.i64_in]); first | done | exact rfl)); go_simp; (try simp (disch := omega) only [IntWalk.i64_in]); refine hK _ ?_; clear hK K hA hB A B) | (refine hB (fun K hK => ?_); go_simp; (try simp (disch := omega) only [IntWalk.i64_in]); refine hK _ ?_; clear hK K hA hB A B))
                | (refine can_guard_go rfl (fun A B hA hB => ?_); go_simp; refine hB (fun K hK => ?_); go_simp; (try simp (disch := omega) only [IntWalk.i64_in]); refine hK _ ?_; clear hK K hA hB A B))
              refine can_nil ?_
              clear pb pk hall
              go_wp2_with fail
              go_roundw
              case rel => exact ⟨jn + 1, by omega, by go_num, by rw [Hst2.out]; rfl, Hbq.out.drew⟩
              case measure => simp [intOf]; omega
          · have hjI : ¬ (jn : Int) < (L.length : Int) := by omega
            obtain rfl : jn = L.length := by omega
            rw [List.take_length]
            obtain ⟨pb, hown, hB⟩ := HX.out wq Hbq.out
            by_cases hmem : y ∈ L
            · have hd : decide (y ∈ L) = true := decide_eq_true hmem
              rw [hd]
              have Hf := Lib.hid (show wq.ownsRow w.heap.size 9 1 (.slice ao L.length co) (namedK l (k + 1)).length ((namedK l (k + 1)).map eS) by
                rw [Hst.out]; unfold addN; rw [Hy.out, if_pos hmem]; exact hown)
              have HBf := Lib.hid hB
              clear hd hmem hown hB pb
              go_wp2_with fail
              go_roundw
              case rel => exact ⟨k + 1, by omega, by omega, by go_num, Hf.out, HBf.out⟩
              case measure => simp [intOf]; omega
            · have hd : decide (y ∈ L) = false := decide_eq_false hmem
              rw [hd]
              obtain ⟨i0, t1, t2, t3, t4⟩ := info_parts infoS
              obtain ⟨v5, w9, hr5, hown5, hg5⟩ := run_append_one (P := Tryz.prog) wq w.heap.size 39 9 Tryz.underlying39 t1 t2 t3 t4 rfl (by decide) (.slice ao L.length co) L.length _ hown #[.string ⟨y.toArray⟩] rfl (by simp [Value.oneCell']) (by unfold maxLen; omega) (by omega) hB.size
              obtain ⟨a9, c9, rfl⟩ := own_shape hown5
              have hb9 : Below w.heap.size w w9 := hB.trans (((Below.refl w.heap.size wq).alloc hB.size _).trans (Below.grownOwn (own_below hown (kept_alloc _ _)) hg5 (by have := hB.size; simp; omega) (Nat.le_refl _)))
              have Hf := Lib.hid (show w9.ownsRow w.heap.size 9 1 (.slice a9 (L.length + 1) c9) (namedK l (k + 1)).length ((namedK l (k + 1)).map eS) by
                rw [Hst.out]; unfold addN; rw [Hy.out, if_neg hmem, List.length_append, List.map_append]; exact hown5)
              have HBf := Lib.hid hb9
              clear hd hmem hown hB hown5 hg5 hb9 t1 t2 t3 t4
              go_wp2_with fail
              refine (HK.out _).mono ?_
              rintro e w8 ⟨rfl, rfl⟩
              go_wp2_with fail
              clear hr5 pb
              go_roundw
              case rel => exact ⟨k + 1, by omega, by omega, by go_num, Hf.out, HBf.out⟩
              case measure => simp [intOf]; omega
      · have hk1I : ¬ (k : Int) < 10 := by omega
        have Hf := Lib.hid (show wr.ownsRow w.heap.size 9 1 (.slice ao L.length co) (namedN l).length ((namedN l).map eS) by rw [← namedK_end l k (.inr (by omega)) hk10, HL.out]; exact Hown.out)
        go_wp2_with fail
        go_ret
        exact ⟨⟨_, rfl, Hf.out⟩, Hbw.out⟩
    · have hkI : ¬ (k : Int) < (n : Int) := by omega
      have Hf := Lib.hid (show wr.ownsRow w.heap.size 9 1 (.slice ao L.length co) (namedN l).length ((namedN l).map eS) by rw [← namedK_end l k (.inl (by rw [Hn.out]; omega)) hk10, HL.out]; exact Hown.out)
      go_wp2_with fail
      go_ret
      exact ⟨⟨_, rfl, Hf.out⟩, Hbw.out⟩
end Go.Proofs.YtbjkkmabafaogaaGreatDoor
