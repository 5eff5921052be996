/-
  SBegin
-/
import Derived.Test.YtelphnigdancpaaGreatDoorZA13
import Derived.Test.YtelphnigdancpaaGreatDoorZA35
namespace Go.Proofs.YtelphnigdancpaaGreatDoor
open Go.RowKit Go.Lib
set_option linter.unusedVariables false
set_option maxRecDepth 20000
attribute [local go_sem] opC upC

def hcB (N : Nat) (h : Nat → Nat) (j : Nat) : Value := if j < N then .slice (some ⟨h j, 0, none⟩) 8 8 else .slice none 0 0
structure BI (w W : World) (p g N : Nat) (h : Nat → Nat) : Prop where
  bel : Below w.heap.size w W
  box : Blk W p [.slice (some ⟨g, 0, none⟩) 3 3, hcB N h 0, hcB N h 1, hcB N h 2, hcB N h 3, hcB N h 4, hcB N h 5, hcB N h 6, hcB N h 7, hcB N h 8, .slice none 0 0] 70
  maps : MapsAt (fun q => q < g) W g (fun _ => .new)
  hd : ∀ j, j < N → Blk W (h j) (no8.map eI) 3 ∧ p < h j
  inj : ∀ a b, a < N → b < N → h a = h b → a = b
  low : w.heap.size ≤ g ∧ g < p
theorem BI.keep {w W W' : World} {p g N : Nat} {h : Nat → Nat} (b : BI w W p g N h) (hb : Below W.heap.size W W') : BI w W' p g N h := by
  have hg : g < W.heap.size := by obtain ⟨c, h1, -⟩ := b.maps; exact h1.lt
  exact ⟨b.bel.trans (hb.mono b.bel.size), b.box.keep (hb.block _ b.box.lt), b.maps.keep (hb.block _ hg) (fun q hq hlt => hb.block q hlt) (fun q hq _ => hq), fun j hj => ⟨(b.hd j hj).1.keep (hb.block _ (b.hd j hj).1.lt), (b.hd j hj).2⟩, b.inj, b.low⟩
theorem BI.step {w W : World} {p g N B : Nat} {h : Nat → Nat} (b : BI w W p g N h) (hN : N < 9) (hB : Blk W B (no8.map eI) 3) (hp : p < B) (hne : ∀ j, j < N → h j ≠ B) : BI w (W.setCell ⟨p, 1 + N, none⟩ (.slice (some ⟨B, 0, none⟩) 8 8)) p g (N + 1) (fun j => if j = N then B else h j) := by
  have hgb : g < p := b.low.2
  have k := b.box.set (1 + N) (.slice (some ⟨B, 0, none⟩) 8 8)
  have hkq : ∀ q, q ≠ p → (W.setCell ⟨p, 1 + N, none⟩ (.slice (some ⟨B, 0, none⟩) 8 8)).heap[q]? = W.heap[q]? := fun q hq => Below.heap_setCell _ _ _ _ hq
  refine ⟨b.bel.setCell (p := ⟨p, 1 + N, none⟩) (by have := b.low.1; show w.heap.size ≤ p; omega) _, ?_, b.maps.keep (hkq g (by omega)) (fun q hq _ => hkq q (by have hq' : q < g := hq; omega)) (fun q hq _ => hq), fun j hj => ?_, fun x y hx hy he => ?_, b.low⟩
  · rcases (show N = 0 ∨ N = 1 ∨ N = 2 ∨ N = 3 ∨ N = 4 ∨ N = 5 ∨ N = 6 ∨ N = 7 ∨ N = 8 by omega) with rfl | rfl | rfl | rfl | rfl | rfl | rfl | rfl | rfl <;> simpa [hcB] using k
  · try dsimp only
    by_cases e : j = N
    · rw [if_pos e]
      exact ⟨hB.keep (hkq B (by omega)), hp⟩
    · rw [if_neg e]
      obtain ⟨h1, h2⟩ := b.hd j (by omega)
      exact ⟨h1.keep (hkq _ (by omega)), h2⟩
  · try dsimp only at he
    by_cases e1 : x = N
    · by_cases e2 : y = N
      · omega
      · rw [if_pos e1, if_neg e2] at he
        exact absurd he.symm (hne y (by omega))
    · by_cases e2 : y = N
      · rw [if_neg e1, if_pos e2] at he
        exact absurd he (hne x (by omega))
      · rw [if_neg e1, if_neg e2] at he
        exact b.inj x y (by omega) (by omega) he
theorem BI.done {w W : World} {p g : Nat} {h : Nat → Nat} (b : BI w W p g 9 h) : WAt W w.heap.size p g (fun i k => h (i * 3 + k)) (.slice none 0 0) ⟨fun _ => .new, fun _ _ => no8, []⟩ := by
  have hF : ∀ q, q < g → Free p g (fun i k => h (i * 3 + k)) (.slice none 0 0) W q := fun q hq => by
    have hg : g < W.heap.size := by obtain ⟨c, h1, -⟩ := b.maps; exact h1.lt
    refine ⟨by omega, by have := b.low.2; omega, by omega, fun i k hi hk => ?_, nofun⟩
    have := (b.hd (i * 3 + k) (by omega)).2
    have := b.low.2
    try dsimp only
    omega
  refine ⟨by simpa [hcB] using b.box, b.maps.keep rfl (fun q hq _ => rfl) (fun q hq _ => hF q hq), fun i k hi hk => ⟨(b.hd (i * 3 + k) (by omega)).1, rfl, fun n hn => ?_⟩, fun i k a c hi hk ha hc e => ?_, ⟨[], rfl, nofun, World.ownsRow_nil _ _ _ _, fun i hi => absurd hi (by simp)⟩, ?_⟩
  · have : n = 0 := by simpa [no8] using hn
    subst this; exact ⟨by decide, by decide⟩
  · have := b.inj _ _ (by omega) (by omega) e
    omega
  · refine ⟨by have := b.low; omega, b.low.1, fun i k hi hk => ?_⟩
    have := (b.hd (i * 3 + k) (by omega)).2
    have := b.low
    try dsimp only
    omega
def BegPost (w : World) (e : Ending) (w' : World) : Prop := ∃ p g hb lv, e = .returned (.pointer (some ⟨p, 0, none⟩)) ∧ WAt w' w.heap.size p g hb lv ⟨fun _ => .new, fun _ _ => no8, []⟩ ∧ Below w.heap.size w w'
set_option maxRecDepth 100000 in
set_option maxHeartbeats 8000000 in
theorem begin_any (w : World) : Calls Tryz.prog 57 #[] w (BegPost w) := by
  have HN1 := Lib.hid (pnew_any w)
  go_enter Tryz.func57, Tryz.ntmps57
  go_wp2_with fail
  refine HN1.out.mono ?_
  rintro e w1 ⟨v1, rfl, ⟨x1, x2, x3, rfl, hm1⟩, hb1⟩
  have HN2 := Lib.hid (pnew_any w1)
  clear HN1
  go_wp2_with fail
  refine HN2.out.mono ?_
  rintro e w2 ⟨v2, rfl, ⟨y1, y2, y3, rfl, hm2⟩, hb2⟩
  have HN3 := Lib.hid (pnew_any w2)
  clear HN2
  go_wp2_with fail
  refine HN3.out.mono ?_
  rintro e w3 ⟨v3, rfl, ⟨z1, z2, z3, rfl, hm3⟩, hb3⟩
  clear HN3
  obtain ⟨ax1, cx1, rfl, -⟩ := hm1.seen.shape
  obtain ⟨ax2, cx2, rfl, -⟩ := hm1.items.shape
  obtain ⟨ax3, cx3, rfl, -⟩ := hm1.gone.shape
  obtain ⟨ay1, cy1, rfl, -⟩ := hm2.seen.shape
  obtain ⟨ay2, cy2, rfl, -⟩ := hm2.items.shape
  obtain ⟨ay3, cy3, rfl, -⟩ := hm2.gone.shape
  obtain ⟨az1, cz1, rfl, -⟩ := hm3.seen.shape
  obtain ⟨az2, cz2, rfl, -⟩ := hm3.items.shape
  obtain ⟨az3, cz3, rfl, -⟩ := hm3.gone.shape
  obtain ⟨g, hg⟩ : ∃ g, w3.heap.size = g := ⟨_, rfl⟩
  obtain ⟨w4, hw4⟩ : ∃ w4, w4 = w3.alloc (.cells #[.slice ax1 RMap.new.seen.length cx1, .slice ax2 RMap.new.items.length cx2, .slice ax3 RMap.new.gone.length cx3, .slice ay1 RMap.new.seen.length cy1, .slice ay2 RMap.new.items.length cy2, .slice ay3 RMap.new.gone.length cy3, .slice az1 RMap.new.seen.length cz1, .slice az2 RMap.new.items.length cz2, .slice az3 RMap.new.gone.length cz3] 31) := ⟨_, rfl⟩
  obtain ⟨w5, hw5⟩ : ∃ w5, w5 = w4.alloc (.cells #[.slice (some ⟨g, 0, none⟩) 3 3, .slice none 0 0, .slice none 0 0, .slice none 0 0, .slice none 0 0, .slice none 0 0, .slice none 0 0, .slice none 0 0, .slice none 0 0, .slice none 0 0, .slice none 0 0] 70) := ⟨_, rfl⟩
  have hk4 : Below w3.heap.size w3 w4 := by rw [hw4]; exact kept_alloc _ _
  have hz4 : w4.heap.size = g + 1 := by rw [hw4, ← hg]; simp
  have hk5 : Below w4.heap.size w4 w5 := by rw [hw5]; exact kept_alloc _ _
  have hm34 : MapsAt (fun q => q < g) w4 g (fun _ => RMap.new) := by
    refine ⟨fun j => match j with | 0 => .slice ax1 RMap.new.seen.length cx1 | 1 => .slice ax2 RMap.new.items.length cx2 | 2 => .slice ax3 RMap.new.gone.length cx3 | 3 => .slice ay1 RMap.new.seen.length cy1 | 4 => .slice ay2 RMap.new.items.length cy2 | 5 => .slice ay3 RMap.new.gone.length cy3 | 6 => .slice az1 RMap.new.seen.length cz1 | 7 => .slice az2 RMap.new.items.length cz2 | _ => .slice az3 RMap.new.gone.length cz3, ?_, fun i hi => ?_⟩
    · rw [hw4, ← hg]; exact Blk.new _ _ _
    · have hx : i = 0 ∨ i = 1 ∨ i = 2 := by omega
      rcases hx with rfl | rfl | rfl
      · exact ⟨_, _, _, _, _, _, rfl, rfl, rfl, (((hm1.mono (G := fun q => q < w1.heap.size) fun q _ hlt => hlt).keep (w' := w4) fun q hq _ => by
          rw [hk4.block q (by have := hb2.size; have := hb3.size; omega), hb3.block q (by have := hb2.size; omega), hb2.block q hq])).mono fun q hq _ => by have := hb2.size; have := hb3.size; omega⟩
      · exact ⟨_, _, _, _, _, _, rfl, rfl, rfl, (((hm2.mono (G := fun q => q < w2.heap.size) fun q _ hlt => hlt).keep (w' := w4) fun q hq _ => by
          rw [hk4.block q (by have := hb3.size; omega), hb3.block q hq])).mono fun q hq _ => by have := hb3.size; omega⟩
      · exact ⟨_, _, _, _, _, _, rfl, rfl, rfl, (((hm3.mono (G := fun q => q < w3.heap.size) fun q _ hlt => hlt).keep (w' := w4) fun q hq _ => by
          rw [hk4.block q hq])).mono fun q hq _ => by omega⟩
  have hgw : w.heap.size ≤ g := by have := hb1.size; have := hb2.size; have := hb3.size; omega
  have hB4 : Below w.heap.size w w4 := ((hb1.trans (hb2.mono hb1.size)).trans (hb3.mono (by have := hb1.size; have := hb2.size; omega))).trans (hk4.mono (by rw [hg]; exact hgw))
  have hI0 : BI w w5 (g + 1) g 0 (fun _ => 0) := by
    refine ⟨hB4.trans (hk5.mono hB4.size), ?_, hm34.keep (hk5.block g (by omega)) (fun q hq hlt => hk5.block q hlt) (fun q hq _ => hq), nofun, nofun, ⟨hgw, by omega⟩⟩
    have k := Blk.new w4 #[.slice (some ⟨g, 0, none⟩) 3 3, .slice none 0 0, .slice none 0 0, .slice none 0 0, .slice none 0 0, .slice none 0 0, .slice none 0 0, .slice none 0 0, .slice none 0 0, .slice none 0 0, .slice none 0 0] 70
    rw [← hw5, hz4] at k
    exact k
  have HI0 := Lib.hid hI0; have Hw4 := Lib.hid hw4; have Hw5 := Lib.hid hw5
  clear hm1 hm2 hm3 hb1 hb2 hb3 hk4 hk5 hz4 hm34 hw4 hw5 hI0 hB4
  go_wp2_with fail
  rw [← Hw4.out, ← Hw5.out]
  clear hg
  go_loopw [2] (fun i wr => ∃ a : Nat, a ≤ 3 ∧ i = .int .i64 (a : Int) ∧ ∃ h, BI w wr (g + 1) g (a * 3) h) (fun i _ => 3 - (intOf i).toNat)
  case atStart => exact ⟨0, by omega, rfl, _, HI0.out⟩
  case round =>
    rename World => wr
    obtain ⟨a, ha, rfl, h0, hbI0⟩ := hrel
    by_cases ha3 : a < 3
    · have haI : (a : Int) < 3 := by omega
      go_wp2_with fail
      go_loopw [3] (fun i wq => ∃ b : Nat, b ≤ 3 ∧ i = .int .i64 (b : Int) ∧ ∃ h, BI w wq (g + 1) g (a * 3 + b) h) (fun i _ => 3 - (intOf i).toNat)
      case atStart => exact ⟨0, by omega, rfl, _, hbI0⟩
      case round =>
        rename World => wq
        obtain ⟨b, hb, rfl, h, hbI⟩ := hrel
        clear hbI0
        by_cases hb3 : b < 3
        · have hbI3 : (b : Int) < 3 := by omega
          have HN := Lib.hid (none_any wq.drew)
          have hlt : ∀ j, j < a * 3 + b → h j < wq.heap.size := fun j hj => (hbI.hd j hj).1.lt
          have hgp : g + 1 < wq.heap.size := hbI.box.lt
          have Hb := Lib.hid hbI; have Hlt := Lib.hid hlt; have Hgp := Lib.hid hgp
          clear hbI hlt hgp
          go_wp2_with fail
          refine wp_region_canL Later 8 [(0, true), (1, true), (2, true), (4, true), (5, true), (6, true), (3, false), (7, true), (8, false)] (by kernel_rfl) (by kernel_rfl) (by kernel_rfl) later_refl later_trans ?_
          repeat (refine canL_yes (v := ?_) rfl (wanted_none rfl) (fun w' hC => ?_) (fun K hK => ?_); rotate_left; (focus (go_simp; first | done | exact rfl)); go_simp; refine hK _ ?_; clear hK K)
          refine canL_go rfl rfl (fun KK hK => ?_)
          go_simp
          refine HN.out.mono ?_
          rintro e w8 ⟨v8, rfl, rfl, hS8, hb8⟩
          refine ⟨_, rfl, hb8, hK _ _ ?_⟩
          clear hK KK HN
          go_simp
          have h8 := Hb.out.keep (W' := w8) ((Below.refl wq.heap.size wq).drew.trans hb8)
          have f0 := h8.box.free (1 + a * 3 + b)
          obtain ⟨zc, e0⟩ : ∃ z, w8.cell? ⟨g + 1, 1 + a * 3 + b, none⟩ = some z := ⟨_, (h8.box.cell (1 + a * 3 + b)).trans (List.getElem?_eq_getElem (by simp only [List.length_cons, List.length_nil]; omega))⟩
          have h9 := h8.step (N := a * 3 + b) (B := wq.heap.size) (by omega) hS8 Hgp.out (fun j hj => by have := Hlt.out j hj; omega)
          obtain ⟨w9, hw9⟩ : ∃ q, q = w8.setCell ⟨g + 1, 1 + a * 3 + b, none⟩ (.slice (some ⟨wq.heap.size, 0, none⟩) 8 8) := ⟨_, rfl⟩
          have H9 := Lib.hid (show BI w w9 (g + 1) g (a * 3 + (b + 1)) _ by rw [hw9, show 1 + a * 3 + b = 1 + (a * 3 + b) by omega]; exact h9)
          have Hw9 := Lib.hid hw9
          clear hS8 hb8 h8 h9 hw9 Hlt Hgp
          repeat (refine canL_yes (v := ?_) rfl (wanted_none rfl) (fun w' hC => ?_) (fun K hK => ?_); rotate_left; (focus (go_simp; first | done | exact rfl)); go_simp; refine hK _ ?_; clear hK K)
          refine canL_last rfl rfl rfl (fun KK hK => ?_)
          go_simp
          rw [← Hw9.out]
          refine hK _ _ ?_
          clear hK KK e0 f0
          go_simp
          refine canL_nil ?_
          go_wp2_with fail
          go_roundw
          case rel => exact ⟨b + 1, by omega, by go_num, _, H9.out⟩
          case measure => first | (simp [intOf]; done) | (simp [intOf]; omega)
        · have hbI3 : ¬ (b : Int) < 3 := by omega
          obtain rfl : b = 3 := by omega
          have Hb := Lib.hid hbI
          clear hbI
          go_wp2_with fail
          go_roundw
          case rel => exact ⟨a + 1, by omega, by go_num, _, by rw [show (a + 1) * 3 = a * 3 + 3 by omega]; exact Hb.out⟩
          case measure => first | (simp [intOf]; done) | (simp [intOf]; omega)
    · have haI : ¬ (a : Int) < 3 := by omega
      obtain rfl : a = 3 := by omega
      have Hb := Lib.hid hbI0
      clear hbI0
      go_wp2_with fail
      go_ret
      exact ⟨g + 1, g, _, _, rfl, Hb.out.done, Hb.out.bel⟩
end Go.Proofs.YtelphnigdancpaaGreatDoor
