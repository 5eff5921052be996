/- A sector in memory: put, get. -/
import Derived.Test.YtmimplmeccoahaaDoorCrc
import Derived.Test.YtmimplmeccoahaaDoorRegion2
namespace Go.Proofs.YtmimplmeccoahaaDoor
open Go.RowKit
set_option linter.unusedVariables false
set_option maxRecDepth 20000
attribute [local go_sem] opC upC

/-- a sector variable that holds bytes -/
def SecAt (w : World) (b : Nat) (l : List UInt8) : Prop := Blk w b (l.map B) 78 ∧ l.length = 64

/-- four bytes put into a list -/
def putL (l : List UInt8) (at_ : Nat) (x : List UInt8) : List UInt8 := l.take at_ ++ x ++ l.drop (at_ + x.length)
theorem putL_length (l : List UInt8) (at_ : Nat) (x : List UInt8) (h : at_ + x.length ≤ l.length) : (putL l at_ x).length = l.length := by simp [putL]; omega
theorem putL_snoc (l : List UInt8) (at_ : Nat) (x : List UInt8) (c : UInt8) (h : at_ + x.length < l.length) : (putL l at_ x).set (at_ + x.length) c = putL l at_ (x ++ [c]) := by
  unfold putL
  have hlen : (l.take at_ ++ x).length = at_ + x.length := by simp; omega
  rw [List.set_append_right _ _ (by omega), hlen, Nat.sub_self]
  have : l.drop (at_ + x.length) = l[at_ + x.length] :: l.drop (at_ + x.length + 1) := List.drop_eq_getElem_cons h
  rw [this, List.set_cons_zero]
  simp [Nat.add_assoc]

theorem B_ofNat (n : Nat) : B (UInt8.ofNat n) = .int .u8 ((n : Int) % 256) := by
  unfold B
  congr 1

theorem put_step {w wr : World} {sb : Nat} {l : List UInt8} (hl : l.length = 64) (at_ n : Nat) (hat : at_ + 4 ≤ 64) (k : Nat) (hk : k < 4) (z : Int) (hz : B ((num4 n)[k]'(by rw [num4_length]; exact hk)) = .int .u8 z)
    (hb : Blk wr sb ((putL l at_ ((num4 n).take k)).map B) 78) (ho : Only (fun b => b = sb) w wr) (hs : wr.heap.size = w.heap.size) :
    ∃ u, wr.cell? ⟨sb, at_ + k, none⟩ = some u ∧ wr.frozen? ⟨sb, at_ + k, none⟩ = false ∧
      Hid (Blk (wr.setCell ⟨sb, at_ + k, none⟩ (.int .u8 z)) sb ((putL l at_ ((num4 n).take (k + 1))).map B) 78 ∧ Only (fun b => b = sb) w (wr.setCell ⟨sb, at_ + k, none⟩ (.int .u8 z)) ∧ (wr.setCell ⟨sb, at_ + k, none⟩ (.int .u8 z)).heap.size = w.heap.size) := by
  have hx : ((num4 n).take k).length = k := by rw [List.length_take, num4_length]; omega
  have hset := putL_snoc l at_ ((num4 n).take k) ((num4 n)[k]'(by rw [num4_length]; exact hk)) (by rw [hx]; omega)
  rw [hx, ← List.take_succ_eq_append_getElem] at hset
  have hpl : (putL l at_ ((num4 n).take k)).length = 64 := by rw [putL_length _ _ _ (by rw [hx]; omega), hl]
  have cc := hb.cell (at_ + k)
  rw [List.getElem?_eq_getElem (by simp; omega)] at cc
  have hb2 := hb.set (at_ + k) (B ((num4 n)[k]'(by rw [num4_length]; exact hk)))
  rw [← List.map_set, hset, hz] at hb2
  exact ⟨_, cc, hb.free _, Lib.hid ⟨hb2, ho.setCell (.inl rfl) _, by simpa [World.setCell] using hs⟩⟩


theorem put_any (w : World) (sb : Nat) (l : List UInt8) (h : SecAt w sb l) (at_ n : Nat) (hat : at_ + 4 ≤ 64) (hn : n < 4294967296) :
    Calls Tryd.prog 75 #[.pointer (some ⟨sb, 0, none⟩), .int .i64 (at_ : Int), .int .u32 (n : Int)] w fun e w' => e = .returned (.tuple #[]) ∧ SecAt w' sb (putL l at_ (num4 n)) ∧ Only (fun b => b = sb) w w' ∧ w'.heap.size = w.heap.size := by
  obtain ⟨hb, hl⟩ := h
  have hnI : (n : Int) < 4294967296 := by omega
  go_enter Tryd.func75, Tryd.ntmps75
  go_wp2_with fail
  go_loopw [7] (fun i wr => ∃ k : Nat, k ≤ 4 ∧ i = .int .i64 (k : Int) ∧ Blk wr sb ((putL l at_ ((num4 n).take k)).map B) 78 ∧ Only (fun b => b = sb) w wr ∧ wr.heap.size = w.heap.size) (fun i _ => 4 - (intOf i).toNat)
  case atStart => exact ⟨0, by omega, rfl, by simpa [putL] using hb, Only.refl _ _, rfl⟩
  case round =>
    obtain ⟨k, hk, rfl, hbk, ho, hsz⟩ := hrel
    have k4 : k = 0 ∨ k = 1 ∨ k = 2 ∨ k = 3 ∨ k = 4 := by omega
    rcases k4 with rfl | rfl | rfl | rfl | rfl
    ·
      obtain ⟨u, cc, cf, Hst⟩ := put_step (w := w) hl at_ n hat 0 (by omega) ((n : Int) % 256) (B_ofNat n) hbk.drew ho.drew hsz
      clear hbk ho hb
      have hw1 := IntWalk.i64_in (at_ : Int) (by omega)
      have hw2 := IntWalk.i64_in 0 (by omega)
      have hw3 : 0 ≤ (at_ : Int) := by omega
      have hw4 : (at_ : Int) < 64 := by omega
      have hw5 : IntKind.u8.wrap (n : Int) = ((n : Int) % 256) := IntKind.wrap_u8 _
      have hw6 : ((at_ : Int)).toNat = at_ + 0 := by omega
      try simp only [Nat.add_zero] at cc cf Hst hw6
      go_wp2_with fail
      refine wp_region_canL Later 11 [(0, true), (1, true), (2, true), (3, true), (4, true), (5, true), (6, true), (7, true), (8, true), (9, true), (10, true), (11, false)] (by kernel_rfl) (by kernel_rfl) (by kernel_rfl) later_refl later_trans ?_
      repeat (first
        | (refine canL_yes (v := ?_) rfl (wanted_none rfl) (fun w' hC => ?_) (fun K hK => ?_); rotate_left; (focus (go_simp; first | done | exact rfl)); go_simp; refine hK _ ?_; clear hK K)
        | (refine canL_guard rfl (fun A B hA hB => ?_); go_simp; first | (refine hA ⟨?_, fun w' hC => ?_, fun K hK => ?_⟩; rotate_left; (focus (go_simp; first | done | exact rfl)); go_simp; refine hK _ ?_; clear hK K hA hB A B) | (refine hB (fun K hK => ?_); go_simp; refine hK _ ?_; clear hK K hA hB A B))
        | (refine canL_guard_go rfl (fun A B hA hB => ?_); go_simp; refine hB (fun K hK => ?_); go_simp; refine hK _ ?_; clear hK K hA hB A B))
      refine canL_last rfl rfl rfl (fun KK hK => ?_)
      go_simp
      refine hK _ _ ?_
      clear hK KK
      go_simp
      refine canL_nil ?_
      go_wp2_with fail
      go_roundw
      case rel => exact ⟨0 + 1, by omega, by go_num, Hst.out.1, Hst.out.2.1, Hst.out.2.2⟩
      case measure => simp [intOf]
    ·
      obtain ⟨u, cc, cf, Hst⟩ := put_step (w := w) hl at_ n hat 1 (by omega) ((n : Int) / 256 % 256) (B_ofNat (n / 256)) hbk.drew ho.drew hsz
      clear hbk ho hb
      have hw1 := IntWalk.i64_in ((at_ : Int) + 1) (by omega)
      have hw2 := IntWalk.i64_in 8 (by omega)
      have hw3 : 0 ≤ ((at_ : Int) + 1) := by omega
      have hw4 : ((at_ : Int) + 1) < 64 := by omega
      have hw5 : IntKind.u8.wrap ((n : Int) / 256) = ((n : Int) / 256 % 256) := IntKind.wrap_u8 _
      have hw6 : (((at_ : Int) + 1)).toNat = at_ + 1 := by omega
      try simp only [Nat.add_zero] at cc cf Hst hw6
      go_wp2_with fail
      refine wp_region_canL Later 11 [(0, true), (1, true), (2, true), (3, true), (4, true), (5, true), (6, true), (7, true), (8, true), (9, true), (10, true), (11, false)] (by kernel_rfl) (by kernel_rfl) (by kernel_rfl) later_refl later_trans ?_
      repeat (first
        | (refine canL_yes (v := ?_) rfl (wanted_none rfl) (fun w' hC => ?_) (fun K hK => ?_); rotate_left; (focus (go_simp; first | done | exact rfl)); go_simp; refine hK _ ?_; clear hK K)
        | (refine canL_guard rfl (fun A B hA hB => ?_); go_simp; first | (refine hA ⟨?_, fun w' hC => ?_, fun K hK => ?_⟩; rotate_left; (focus (go_simp; first | done | exact rfl)); go_simp; refine hK _ ?_; clear hK K hA hB A B) | (refine hB (fun K hK => ?_); go_simp; refine hK _ ?_; clear hK K hA hB A B))
        | (refine canL_guard_go rfl (fun A B hA hB => ?_); go_simp; refine hB (fun K hK => ?_); go_simp; refine hK _ ?_; clear hK K hA hB A B))
      refine canL_last rfl rfl rfl (fun KK hK => ?_)
      go_simp
      refine hK _ _ ?_
      clear hK KK
      go_simp
      refine canL_nil ?_
      go_wp2_with fail
      go_roundw
      case rel => exact ⟨1 + 1, by omega, by go_num, Hst.out.1, Hst.out.2.1, Hst.out.2.2⟩
      case measure => simp [intOf]
    ·
      obtain ⟨u, cc, cf, Hst⟩ := put_step (w := w) hl at_ n hat 2 (by omega) ((n : Int) / 65536 % 256) (B_ofNat (n / 65536)) hbk.drew ho.drew hsz
      clear hbk ho hb
      have hw1 := IntWalk.i64_in ((at_ : Int) + 2) (by omega)
      have hw2 := IntWalk.i64_in 16 (by omega)
      have hw3 : 0 ≤ ((at_ : Int) + 2) := by omega
      have hw4 : ((at_ : Int) + 2) < 64 := by omega
      have hw5 : IntKind.u8.wrap ((n : Int) / 65536) = ((n : Int) / 65536 % 256) := IntKind.wrap_u8 _
      have hw6 : (((at_ : Int) + 2)).toNat = at_ + 2 := by omega
      try simp only [Nat.add_zero] at cc cf Hst hw6
      go_wp2_with fail
      refine wp_region_canL Later 11 [(0, true), (1, true), (2, true), (3, true), (4, true), (5, true), (6, true), (7, true), (8, true), (9, true), (10, true), (11, false)] (by kernel_rfl) (by kernel_rfl) (by kernel_rfl) later_refl later_trans ?_
      repeat (first
        | (refine canL_yes (v := ?_) rfl (wanted_none rfl) (fun w' hC => ?_) (fun K hK => ?_); rotate_left; (focus (go_simp; first | done | exact rfl)); go_simp; refine hK _ ?_; clear hK K)
        | (refine canL_guard rfl (fun A B hA hB => ?_); go_simp; first | (refine hA ⟨?_, fun w' hC => ?_, fun K hK => ?_⟩; rotate_left; (focus (go_simp; first | done | exact rfl)); go_simp; refine hK _ ?_; clear hK K hA hB A B) | (refine hB (fun K hK => ?_); go_simp; refine hK _ ?_; clear hK K hA hB A B))
        | (refine canL_guard_go rfl (fun A B hA hB => ?_); go_simp; refine hB (fun K hK => ?_); go_simp; refine hK _ ?_; clear hK K hA hB A B))
      refine canL_last rfl rfl rfl (fun KK hK => ?_)
      go_simp
      refine hK _ _ ?_
      clear hK KK
      go_simp
      refine canL_nil ?_
      go_wp2_with fail
      go_roundw
      case rel => exact ⟨2 + 1, by omega, by go_num, Hst.out.1, Hst.out.2.1, Hst.out.2.2⟩
      case measure => simp [intOf]
    ·
      obtain ⟨u, cc, cf, Hst⟩ := put_step (w := w) hl at_ n hat 3 (by omega) ((n : Int) / 16777216 % 256) (B_ofNat (n / 16777216)) hbk.drew ho.drew hsz
      clear hbk ho hb
      have hw1 := IntWalk.i64_in ((at_ : Int) + 3) (by omega)
      have hw2 := IntWalk.i64_in 24 (by omega)
      have hw3 : 0 ≤ ((at_ : Int) + 3) := by omega
      have hw4 : ((at_ : Int) + 3) < 64 := by omega
      have hw5 : IntKind.u8.wrap ((n : Int) / 16777216) = ((n : Int) / 16777216 % 256) := IntKind.wrap_u8 _
      have hw6 : (((at_ : Int) + 3)).toNat = at_ + 3 := by omega
      try simp only [Nat.add_zero] at cc cf Hst hw6
      go_wp2_with fail
      refine wp_region_canL Later 11 [(0, true), (1, true), (2, true), (3, true), (4, true), (5, true), (6, true), (7, true), (8, true), (9, true), (10, true), (11, false)] (by kernel_rfl) (by kernel_rfl) (by kernel_rfl) later_refl later_trans ?_
      repeat (first
        | (refine canL_yes (v := ?_) rfl (wanted_none rfl) (fun w' hC => ?_) (fun K hK => ?_); rotate_left; (focus (go_simp; first | done | exact rfl)); go_simp; refine hK _ ?_; clear hK K)
        | (refine canL_guard rfl (fun A B hA hB => ?_); go_simp; first | (refine hA ⟨?_, fun w' hC => ?_, fun K hK => ?_⟩; rotate_left; (focus (go_simp; first | done | exact rfl)); go_simp; refine hK _ ?_; clear hK K hA hB A B) | (refine hB (fun K hK => ?_); go_simp; refine hK _ ?_; clear hK K hA hB A B))
        | (refine canL_guard_go rfl (fun A B hA hB => ?_); go_simp; refine hB (fun K hK => ?_); go_simp; refine hK _ ?_; clear hK K hA hB A B))
      refine canL_last rfl rfl rfl (fun KK hK => ?_)
      go_simp
      refine hK _ _ ?_
      clear hK KK
      go_simp
      refine canL_nil ?_
      go_wp2_with fail
      go_roundw
      case rel => exact ⟨3 + 1, by omega, by go_num, Hst.out.1, Hst.out.2.1, Hst.out.2.2⟩
      case measure => simp [intOf]
    · go_wp2_with fail
      go_end0
      refine ⟨rfl, ⟨?_, ?_⟩, ho, hsz⟩
      · rw [List.take_of_length_le (by rw [num4_length]; omega)] at hbk; exact hbk
      · rw [putL_length _ _ _ (by rw [num4_length]; omega)]; exact hl
end Go.Proofs.YtmimplmeccoahaaDoor
