/- same, equal, New. -/
import Derived.Test.YtbjkkmabafaogaaGreatDoorRL3
import Derived.Test.YtbjkkmabafaogaaGreatDoorRegion2
namespace Go.Proofs.YtbjkkmabafaogaaGreatDoor
open Go.RowKit
set_option linter.unusedVariables false
set_option maxRecDepth 20000
attribute [local go_sem ↓] seal_append
attribute [local go_sem] opC upC

theorem cellLt {w : World} {a : Addr} {x : Value} (h : w.cell? a = some x) : a.block < w.heap.size := by
  rcases Nat.lt_or_ge a.block w.heap.size with hlt | hge
  · exact hlt
  · unfold World.cell? at h
    rw [Array.getElem?_eq_none hge] at h
    cases h
theorem laterC {w w' : World} {a : Addr} {x : Value} (h : w.cell? a = some x) (hl : Later w.drew w') : w'.cell? a = some x := by
  have hb : w'.heap[a.block]? = w.heap[a.block]? := hl.block a.block (cellLt h)
  unfold World.cell? at *
  rw [hb]
  exact h

set_option maxRecDepth 100000 in
set_option maxHeartbeats 1500000 in
theorem same_any (w : World) (F G : Blks) (va vb : Value) (a b : RMap) (ha : MapV F w va a) (hb : MapV G w vb b) (hs : a.seen.length ≤ 1000000) (hi : a.items.length ≤ 1000000) (hg : a.gone.length ≤ 1000000) :
    Calls Tryz.prog 21 #[va, vb] w (SamePost w a b) := by
  obtain ⟨s1a, s2a, s3a, rfl, ha⟩ := ha
  obtain ⟨a1a, p1a, rfl, -⟩ := ha.seen.shape
  obtain ⟨a2a, p2a, rfl, -⟩ := ha.items.shape
  obtain ⟨a3a, p3a, rfl, -⟩ := ha.gone.shape
  have l1a := ha.seen.len
  have l2a := ha.items.len
  have l3a := ha.gone.len
  unfold maxLen at l1a l2a l3a
  obtain ⟨n1a, hn1a⟩ : ∃ n, a.seen.length = n := ⟨_, rfl⟩
  obtain ⟨n2a, hn2a⟩ : ∃ n, a.items.length = n := ⟨_, rfl⟩
  obtain ⟨n3a, hn3a⟩ : ∃ n, a.gone.length = n := ⟨_, rfl⟩
  rw [hn1a, hn2a, hn3a] at ha
  rw [hn1a] at l1a ⊢
  rw [hn2a] at l2a ⊢
  rw [hn3a] at l3a ⊢
  obtain ⟨wxa, hwxa⟩ : ∃ wx, wx = w.alloc (.cells #[.slice a1a n1a p1a, .slice a2a n2a p2a, .slice a3a n3a p3a] 31) := ⟨_, rfl⟩
  have hbxa : Below w.heap.size w wxa := by rw [hwxa]; exact kept_alloc _ _
  have hzxa : wxa.heap.size = w.heap.size + 1 := by rw [hwxa]; simp
  have hxa := ha.keep (w' := wxa) fun b _ hlt => hbxa.block b hlt
  have hnxa : Blk wxa w.heap.size [.slice a1a n1a p1a, .slice a2a n2a p2a, .slice a3a n3a p3a] 31 := by rw [hwxa]; exact Blk.new _ _ _
  have Hxa := Lib.hid hxa; have Hn1a := Lib.hid hn1a; have Hn2a := Lib.hid hn2a; have Hn3a := Lib.hid hn3a
  have Hwxa := Lib.hid hwxa; have Hbxa := Lib.hid hbxa; have Hzxa := Lib.hid hzxa
  have c0a := hnxa.cell 0
  have c1a := hnxa.cell 1
  have c2a := hnxa.cell 2
  simp at c0a c1a c2a
  have Hnxa := Lib.hid hnxa
  clear hxa hn1a hn2a hn3a hwxa hbxa hnxa hzxa
  replace hb := hb.keep (w' := wxa) fun b _ hlt => Hbxa.out.block b hlt
  obtain ⟨s1b, s2b, s3b, rfl, hb⟩ := hb
  obtain ⟨a1b, p1b, rfl, -⟩ := hb.seen.shape
  obtain ⟨a2b, p2b, rfl, -⟩ := hb.items.shape
  obtain ⟨a3b, p3b, rfl, -⟩ := hb.gone.shape
  have l1b := hb.seen.len
  have l2b := hb.items.len
  have l3b := hb.gone.len
  unfold maxLen at l1b l2b l3b
  obtain ⟨n1b, hn1b⟩ : ∃ n, b.seen.length = n := ⟨_, rfl⟩
  obtain ⟨n2b, hn2b⟩ : ∃ n, b.items.length = n := ⟨_, rfl⟩
  obtain ⟨n3b, hn3b⟩ : ∃ n, b.gone.length = n := ⟨_, rfl⟩
  rw [hn1b, hn2b, hn3b] at hb
  rw [hn1b] at l1b ⊢
  rw [hn2b] at l2b ⊢
  rw [hn3b] at l3b ⊢
  obtain ⟨wxb, hwxb⟩ : ∃ wx, wx = wxa.alloc (.cells #[.slice a1b n1b p1b, .slice a2b n2b p2b, .slice a3b n3b p3b] 26) := ⟨_, rfl⟩
  have hbxb : Below wxa.heap.size wxa wxb := by rw [hwxb]; exact kept_alloc _ _
  have hzxb : wxb.heap.size = wxa.heap.size + 1 := by rw [hwxb]; simp
  have hxb := hb.keep (w' := wxb) fun b _ hlt => hbxb.block b hlt
  have hnxb : Blk wxb wxa.heap.size [.slice a1b n1b p1b, .slice a2b n2b p2b, .slice a3b n3b p3b] 26 := by rw [hwxb]; exact Blk.new _ _ _
  have Hxb := Lib.hid hxb; have Hn1b := Lib.hid hn1b; have Hn2b := Lib.hid hn2b; have Hn3b := Lib.hid hn3b
  have Hwxb := Lib.hid hwxb; have Hbxb := Lib.hid hbxb; have Hzxb := Lib.hid hzxb
  have c0b := hnxb.cell 0
  have c1b := hnxb.cell 1
  have c2b := hnxb.cell 2
  simp at c0b c1b c2b
  have Hnxb := Lib.hid hnxb
  clear hxb hn1b hn2b hn3b hwxb hbxb hnxb hzxb
  have Hxa := Lib.hid (Hxa.out.keep (w' := wxb) fun b _ hlt => Hbxb.out.block b hlt)
  have hnxa := Hnxa.out.keep (Hbxb.out.block _ Hnxa.out.lt)
  have c0a := hnxa.cell 0
  have c1a := hnxa.cell 1
  have c2a := hnxa.cell 2
  simp at c0a c1a c2a
  have Hnxa := Lib.hid hnxa
  rw [Hzxa.out] at c0b c1b c2b
  have Hbx := Lib.hid (kept_trans Hbxa.out Hbxb.out)
  clear hnxa
  have kd : Below w.heap.size w wxb := Hbx.out
  have HT := Lib.hid (taken_any wxb.drew F (.agg #[.slice a1a n1a p1a, .slice a2a n2a p2a, .slice a3a n3a p3a]) a (show MapV F wxb.drew _ a from ⟨_, _, _, rfl, Hxa.out.keep (w' := wxb.drew) fun b _ _ => rfl⟩) hs hi hg)
  have r0 : ∀ w', Later wxb.drew w' → w'.cell? ⟨w.heap.size, 0, none⟩ = some (.slice a1a n1a p1a) := fun w' hh => laterC c0a hh
  have r1 : ∀ w', Later wxb.drew w' → w'.cell? ⟨w.heap.size, 1, none⟩ = some (.slice a2a n2a p2a) := fun w' hh => laterC c1a hh
  have r2 : ∀ w', Later wxb.drew w' → w'.cell? ⟨w.heap.size, 2, none⟩ = some (.slice a3a n3a p3a) := fun w' hh => laterC c2a hh
  have s0 : ∀ w', Later wxb.drew w' → w'.cell? ⟨w.heap.size + 1, 0, none⟩ = some (.slice a1b n1b p1b) := fun w' hh => laterC c0b hh
  have s1 : ∀ w', Later wxb.drew w' → w'.cell? ⟨w.heap.size + 1, 1, none⟩ = some (.slice a2b n2b p2b) := fun w' hh => laterC c1b hh
  have s2 : ∀ w', Later wxb.drew w' → w'.cell? ⟨w.heap.size + 1, 2, none⟩ = some (.slice a3b n3b p3b) := fun w' hh => laterC c2b hh
  clear ha hb hs hi hg
  go_enter Tryz.func21, Tryz.ntmps21
  go_wp2_with fail
  rw [← Hwxa.out, ← Hwxb.out]
  refine wp_region_can Later [(0, true), (2, true), (1, false), (3, false), (4, true)] (by kernel_rfl) (by kernel_rfl) later_refl later_trans ?_
  clear c0a c1a c2a c0b c1b c2b
  repeat (first
    | (refine can_yes (v := ?_) rfl (wanted_none rfl) (fun w' hC => ?_) (fun K hK => ?_); rotate_left; (focus (go_simp; first | done | exact rfl)); go_simp; refine hK _ ?_; clear hK K)
    | (refine can_guard rfl (fun A B hA hB => ?_); go_simp; first | (refine hA ⟨?_, fun w' hC => ?_, fun K hK => ?_⟩; rotate_left; (focus (go_simp; first | done | exact rfl)); go_simp; refine hK _ ?_; clear hK K hA hB A B) | (refine hB (fun K hK => ?_); go_simp; refine hK _ ?_; clear hK K hA hB A B))
    | (refine can_guard_go rfl (fun A B hA hB => ?_); go_simp; refine hB (fun K hK => ?_); go_simp; refine hK _ ?_; clear hK K hA hB A B))
  refine can_go rfl rfl (fun KK hK => ?_)
  go_simp
  refine HT.out.mono ?_
  rintro e w3 ⟨vt, rfl, hvt, hb3⟩
  refine ⟨_, rfl, hb3, hK _ _ ?_⟩
  clear hK KK
  go_simp
  have HS := Lib.hid (same_any0 w3 _ _ _ (.agg #[.slice a1b n1b p1b, .slice a2b n2b p2b, .slice a3b n3b p3b]) a b hvt (show MapV G w3 _ b from ⟨_, _, _, rfl, Hxb.out.keep (w' := w3) fun b _ hlt => hb3.block b hlt⟩))
  have Hb3 := Lib.hid hb3
  clear HT hvt hb3
  repeat (first
    | (refine can_yes (v := ?_) rfl (wanted_none rfl) (fun w' hC => ?_) (fun K hK => ?_); rotate_left; (focus (go_simp; first | done | exact rfl)); go_simp; refine hK _ ?_; clear hK K)
    | (refine can_guard rfl (fun A B hA hB => ?_); go_simp; first | (refine hA ⟨?_, fun w' hC => ?_, fun K hK => ?_⟩; rotate_left; (focus (go_simp; first | done | exact rfl)); go_simp; refine hK _ ?_; clear hK K hA hB A B) | (refine hB (fun K hK => ?_); go_simp; refine hK _ ?_; clear hK K hA hB A B))
    | (refine can_guard_go rfl (fun A B hA hB => ?_); go_simp; refine hB (fun K hK => ?_); go_simp; refine hK _ ?_; clear hK K hA hB A B))
  refine can_go rfl rfl (fun KK hK => ?_)
  go_simp
  refine HS.out.mono ?_
  rintro e w4 ⟨r, rfl, hr, hb4⟩
  refine ⟨_, rfl, hb4, hK _ _ ?_⟩
  clear hK KK r0 r1 r2 s0 s1 s2 HS
  go_simp
  repeat (first
    | (refine can_yes (v := ?_) rfl (wanted_none rfl) (fun w' hC => ?_) (fun K hK => ?_); rotate_left; (focus (go_simp; first | done | exact rfl)); go_simp; refine hK _ ?_; clear hK K)
    | (refine can_guard rfl (fun A B hA hB => ?_); go_simp; first | (refine hA ⟨?_, fun w' hC => ?_, fun K hK => ?_⟩; rotate_left; (focus (go_simp; first | done | exact rfl)); go_simp; refine hK _ ?_; clear hK K hA hB A B) | (refine hB (fun K hK => ?_); go_simp; refine hK _ ?_; clear hK K hA hB A B))
    | (refine can_guard_go rfl (fun A B hA hB => ?_); go_simp; refine hB (fun K hK => ?_); go_simp; refine hK _ ?_; clear hK K hA hB A B))
  refine can_nil ?_
  have Hr := Lib.hid hr
  clear hr
  go_wp2_with fail
  go_ret
  have hz3 : wxb.heap.size ≤ w3.heap.size := Hb3.out.size
  exact ⟨r, rfl, Hr.out, (kd.drew).trans ((Hb3.out.mono kd.size).trans (hb4.mono (Nat.le_trans kd.size hz3)))⟩

set_option maxRecDepth 100000 in
set_option maxHeartbeats 1500000 in
theorem equal_any (w : World) (F G : Blks) (va vb : Value) (a b : RMap) (ha : MapV F w va a) (hb : MapV G w vb b) (hs : a.seen.length ≤ 1000000) (hi : a.items.length ≤ 1000000) (hg : a.gone.length ≤ 1000000)
    (hs' : b.seen.length ≤ 1000000) (hi' : b.items.length ≤ 1000000) (hg' : b.gone.length ≤ 1000000) :
    Calls Tryz.prog 33 #[va, vb] w (SamePost w a b) := by
  obtain ⟨s1a, s2a, s3a, rfl, ha⟩ := ha
  obtain ⟨a1a, p1a, rfl, -⟩ := ha.seen.shape
  obtain ⟨a2a, p2a, rfl, -⟩ := ha.items.shape
  obtain ⟨a3a, p3a, rfl, -⟩ := ha.gone.shape
  have l1a := ha.seen.len
  have l2a := ha.items.len
  have l3a := ha.gone.len
  unfold maxLen at l1a l2a l3a
  obtain ⟨n1a, hn1a⟩ : ∃ n, a.seen.length = n := ⟨_, rfl⟩
  obtain ⟨n2a, hn2a⟩ : ∃ n, a.items.length = n := ⟨_, rfl⟩
  obtain ⟨n3a, hn3a⟩ : ∃ n, a.gone.length = n := ⟨_, rfl⟩
  rw [hn1a, hn2a, hn3a] at ha
  rw [hn1a] at l1a ⊢
  rw [hn2a] at l2a ⊢
  rw [hn3a] at l3a ⊢
  obtain ⟨wxa, hwxa⟩ : ∃ wx, wx = w.alloc (.cells #[.slice a1a n1a p1a, .slice a2a n2a p2a, .slice a3a n3a p3a] 31) := ⟨_, rfl⟩
  have hbxa : Below w.heap.size w wxa := by rw [hwxa]; exact kept_alloc _ _
  have hzxa : wxa.heap.size = w.heap.size + 1 := by rw [hwxa]; simp
  have hxa := ha.keep (w' := wxa) fun b _ hlt => hbxa.block b hlt
  have hnxa : Blk wxa w.heap.size [.slice a1a n1a p1a, .slice a2a n2a p2a, .slice a3a n3a p3a] 31 := by rw [hwxa]; exact Blk.new _ _ _
  have Hxa := Lib.hid hxa; have Hn1a := Lib.hid hn1a; have Hn2a := Lib.hid hn2a; have Hn3a := Lib.hid hn3a
  have Hwxa := Lib.hid hwxa; have Hbxa := Lib.hid hbxa; have Hzxa := Lib.hid hzxa
  have c0a := hnxa.cell 0
  have c1a := hnxa.cell 1
  have c2a := hnxa.cell 2
  simp at c0a c1a c2a
  have Hnxa := Lib.hid hnxa
  clear hxa hn1a hn2a hn3a hwxa hbxa hnxa hzxa
  replace hb := hb.keep (w' := wxa) fun b _ hlt => Hbxa.out.block b hlt
  obtain ⟨s1b, s2b, s3b, rfl, hb⟩ := hb
  obtain ⟨a1b, p1b, rfl, -⟩ := hb.seen.shape
  obtain ⟨a2b, p2b, rfl, -⟩ := hb.items.shape
  obtain ⟨a3b, p3b, rfl, -⟩ := hb.gone.shape
  have l1b := hb.seen.len
  have l2b := hb.items.len
  have l3b := hb.gone.len
  unfold maxLen at l1b l2b l3b
  obtain ⟨n1b, hn1b⟩ : ∃ n, b.seen.length = n := ⟨_, rfl⟩
  obtain ⟨n2b, hn2b⟩ : ∃ n, b.items.length = n := ⟨_, rfl⟩
  obtain ⟨n3b, hn3b⟩ : ∃ n, b.gone.length = n := ⟨_, rfl⟩
  rw [hn1b, hn2b, hn3b] at hb
  rw [hn1b] at l1b ⊢
  rw [hn2b] at l2b ⊢
  rw [hn3b] at l3b ⊢
  obtain ⟨wxb, hwxb⟩ : ∃ wx, wx = wxa.alloc (.cells #[.slice a1b n1b p1b, .slice a2b n2b p2b, .slice a3b n3b p3b] 31) := ⟨_, rfl⟩
  have hbxb : Below wxa.heap.size wxa wxb := by rw [hwxb]; exact kept_alloc _ _
  have hzxb : wxb.heap.size = wxa.heap.size + 1 := by rw [hwxb]; simp
  have hxb := hb.keep (w' := wxb) fun b _ hlt => hbxb.block b hlt
  have hnxb : Blk wxb wxa.heap.size [.slice a1b n1b p1b, .slice a2b n2b p2b, .slice a3b n3b p3b] 31 := by rw [hwxb]; exact Blk.new _ _ _
  have Hxb := Lib.hid hxb; have Hn1b := Lib.hid hn1b; have Hn2b := Lib.hid hn2b; have Hn3b := Lib.hid hn3b
  have Hwxb := Lib.hid hwxb; have Hbxb := Lib.hid hbxb; have Hzxb := Lib.hid hzxb
  have c0b := hnxb.cell 0
  have c1b := hnxb.cell 1
  have c2b := hnxb.cell 2
  simp at c0b c1b c2b
  have Hnxb := Lib.hid hnxb
  clear hxb hn1b hn2b hn3b hwxb hbxb hnxb hzxb
  have Hxa := Lib.hid (Hxa.out.keep (w' := wxb) fun b _ hlt => Hbxb.out.block b hlt)
  have hnxa := Hnxa.out.keep (Hbxb.out.block _ Hnxa.out.lt)
  have c0a := hnxa.cell 0
  have c1a := hnxa.cell 1
  have c2a := hnxa.cell 2
  simp at c0a c1a c2a
  have Hnxa := Lib.hid hnxa
  rw [Hzxa.out] at c0b c1b c2b
  have Hbx := Lib.hid (kept_trans Hbxa.out Hbxb.out)
  clear hnxa
  have kd : Below w.heap.size w wxb := Hbx.out
  have HT := Lib.hid (taken_any wxb.drew F (.agg #[.slice a1a n1a p1a, .slice a2a n2a p2a, .slice a3a n3a p3a]) a (show MapV F wxb.drew _ a from ⟨_, _, _, rfl, Hxa.out.keep (w' := wxb.drew) fun b _ _ => rfl⟩) hs hi hg)
  have r0 : ∀ w', Later wxb.drew w' → w'.cell? ⟨w.heap.size, 0, none⟩ = some (.slice a1a n1a p1a) := fun w' hh => laterC c0a hh
  have r1 : ∀ w', Later wxb.drew w' → w'.cell? ⟨w.heap.size, 1, none⟩ = some (.slice a2a n2a p2a) := fun w' hh => laterC c1a hh
  have r2 : ∀ w', Later wxb.drew w' → w'.cell? ⟨w.heap.size, 2, none⟩ = some (.slice a3a n3a p3a) := fun w' hh => laterC c2a hh
  have s0 : ∀ w', Later wxb.drew w' → w'.cell? ⟨w.heap.size + 1, 0, none⟩ = some (.slice a1b n1b p1b) := fun w' hh => laterC c0b hh
  have s1 : ∀ w', Later wxb.drew w' → w'.cell? ⟨w.heap.size + 1, 1, none⟩ = some (.slice a2b n2b p2b) := fun w' hh => laterC c1b hh
  have s2 : ∀ w', Later wxb.drew w' → w'.cell? ⟨w.heap.size + 1, 2, none⟩ = some (.slice a3b n3b p3b) := fun w' hh => laterC c2b hh
  have Hs := Lib.hid hs'; have Hi := Lib.hid hi'; have Hg := Lib.hid hg'
  clear ha hb hs hi hg hs' hi' hg'
  go_enter Tryz.func33, Tryz.ntmps33
  go_wp2_with fail
  rw [← Hwxa.out, ← Hwxb.out]
  refine wp_region_can Later [(0, true), (2, true), (1, false), (3, false), (4, false), (5, true)] (by kernel_rfl) (by kernel_rfl) later_refl later_trans ?_
  clear c0a c1a c2a c0b c1b c2b
  repeat (first
    | (refine can_yes (v := ?_) rfl (wanted_none rfl) (fun w' hC => ?_) (fun K hK => ?_); rotate_left; (focus (go_simp; first | done | exact rfl)); go_simp; refine hK _ ?_; clear hK K)
    | (refine can_guard rfl (fun A B hA hB => ?_); go_simp; first | (refine hA ⟨?_, fun w' hC => ?_, fun K hK => ?_⟩; rotate_left; (focus (go_simp; first | done | exact rfl)); go_simp; refine hK _ ?_; clear hK K hA hB A B) | (refine hB (fun K hK => ?_); go_simp; refine hK _ ?_; clear hK K hA hB A B))
    | (refine can_guard_go rfl (fun A B hA hB => ?_); go_simp; refine hB (fun K hK => ?_); go_simp; refine hK _ ?_; clear hK K hA hB A B))
  refine can_go rfl rfl (fun KK hK => ?_)
  go_simp
  refine HT.out.mono ?_
  rintro e w3 ⟨vt, rfl, hvt, hb3⟩
  refine ⟨_, rfl, hb3, hK _ _ ?_⟩
  clear hK KK
  go_simp
  have HT2 := Lib.hid (taken_any w3 G (.agg #[.slice a1b n1b p1b, .slice a2b n2b p2b, .slice a3b n3b p3b]) b (show MapV G w3 _ b from ⟨_, _, _, rfl, Hxb.out.keep (w' := w3) fun b _ hlt => hb3.block b hlt⟩) Hs.out Hi.out Hg.out)
  have Hb3 := Lib.hid hb3; have Hvt := Lib.hid hvt
  clear HT hvt hb3
  repeat (first
    | (refine can_yes (v := ?_) rfl (wanted_none rfl) (fun w' hC => ?_) (fun K hK => ?_); rotate_left; (focus (go_simp; first | done | exact rfl)); go_simp; refine hK _ ?_; clear hK K)
    | (refine can_guard rfl (fun A B hA hB => ?_); go_simp; first | (refine hA ⟨?_, fun w' hC => ?_, fun K hK => ?_⟩; rotate_left; (focus (go_simp; first | done | exact rfl)); go_simp; refine hK _ ?_; clear hK K hA hB A B) | (refine hB (fun K hK => ?_); go_simp; refine hK _ ?_; clear hK K hA hB A B))
    | (refine can_guard_go rfl (fun A B hA hB => ?_); go_simp; refine hB (fun K hK => ?_); go_simp; refine hK _ ?_; clear hK K hA hB A B))
  refine can_go rfl rfl (fun KK hK => ?_)
  go_simp
  refine HT2.out.mono ?_
  rintro e w4 ⟨vu, rfl, hvu, hb4⟩
  refine ⟨_, rfl, hb4, hK _ _ ?_⟩
  clear hK KK
  go_simp
  have HS := Lib.hid (same_any0 w4 _ _ _ _ a b (Hvt.out.keep (w' := w4) fun b _ hlt => hb4.block b hlt) hvu)
  have Hb4 := Lib.hid hb4
  clear HT2 hvu hb4 Hvt
  repeat (first
    | (refine can_yes (v := ?_) rfl (wanted_none rfl) (fun w' hC => ?_) (fun K hK => ?_); rotate_left; (focus (go_simp; first | done | exact rfl)); go_simp; refine hK _ ?_; clear hK K)
    | (refine can_guard rfl (fun A B hA hB => ?_); go_simp; first | (refine hA ⟨?_, fun w' hC => ?_, fun K hK => ?_⟩; rotate_left; (focus (go_simp; first | done | exact rfl)); go_simp; refine hK _ ?_; clear hK K hA hB A B) | (refine hB (fun K hK => ?_); go_simp; refine hK _ ?_; clear hK K hA hB A B))
    | (refine can_guard_go rfl (fun A B hA hB => ?_); go_simp; refine hB (fun K hK => ?_); go_simp; refine hK _ ?_; clear hK K hA hB A B))
  refine can_go rfl rfl (fun KK hK => ?_)
  go_simp
  refine HS.out.mono ?_
  rintro e w5 ⟨r, rfl, hr, hb5⟩
  refine ⟨_, rfl, hb5, hK _ _ ?_⟩
  clear hK KK r0 r1 r2 s0 s1 s2 HS
  go_simp
  repeat (first
    | (refine can_yes (v := ?_) rfl (wanted_none rfl) (fun w' hC => ?_) (fun K hK => ?_); rotate_left; (focus (go_simp; first | done | exact rfl)); go_simp; refine hK _ ?_; clear hK K)
    | (refine can_guard rfl (fun A B hA hB => ?_); go_simp; first | (refine hA ⟨?_, fun w' hC => ?_, fun K hK => ?_⟩; rotate_left; (focus (go_simp; first | done | exact rfl)); go_simp; refine hK _ ?_; clear hK K hA hB A B) | (refine hB (fun K hK => ?_); go_simp; refine hK _ ?_; clear hK K hA hB A B))
    | (refine can_guard_go rfl (fun A B hA hB => ?_); go_simp; refine hB (fun K hK => ?_); go_simp; refine hK _ ?_; clear hK K hA hB A B))
  refine can_nil ?_
  have Hr := Lib.hid hr
  clear hr
  go_wp2_with fail
  go_ret
  have hz3 : wxb.heap.size ≤ w3.heap.size := Hb3.out.size
  have hz4 := Hb4.out.size
  exact ⟨r, rfl, Hr.out, (kd.drew).trans ((Hb3.out.mono kd.size).trans ((Hb4.out.mono (Nat.le_trans kd.size hz3)).trans (hb5.mono (by have := kd.size; omega))))⟩

/-! New -/
theorem flat8 : (List.replicate 8 (0 : Int)).map eI = [eI 0, eI 0, eI 0, eI 0, eI 0, eI 0, eI 0, eI 0] := rfl
theorem made8 : (madeCells (Value.int .i64 0).cells (8 * 1)).toList = (List.replicate 8 (0 : Int)).map eI := by
  have h : madeCells (Array.replicate 1 (Value.int .i64 0)) 8 = Array.replicate 8 (Value.int .i64 0) := by
    apply Array.ext
    · simp [madeCells]
    · intro i h1 h2
      simp only [madeCells, Array.getElem_map, Array.getElem_range, Array.size_replicate, Array.getElem_replicate]
      rw [getElem!_pos (Array.replicate 1 (Value.int .i64 0)) (i % 1) (by simpa using Nat.mod_lt i (show 0 < 1 by decide))]
      simp
  simp only [Value.cells]
  rw [show #[Value.int .i64 0] = Array.replicate 1 (Value.int .i64 0) from rfl, show 8 * 1 = 8 from rfl, h]
  simp
attribute [local go_sem ↓] seal_make
set_option maxRecDepth 100000 in
set_option maxHeartbeats 1500000 in
theorem pnew_any (w : World) :
    Calls Tryz.prog 22 #[] w (GivenPost w RMap.new) := by
  obtain ⟨w1, hw1⟩ : ∃ w1, w1 = w.alloc (.cells #[.slice none 0 0, .slice none 0 0, .slice none 0 0] 31) := ⟨_, rfl⟩
  have hb1 : Below w.heap.size w w1 := by rw [hw1]; exact kept_alloc _ _
  have hz1 : w1.heap.size = w.heap.size + 1 := by rw [hw1]; simp
  have hr1 : Blk w1 w.heap.size [.slice none 0 0, .slice none 0 0, .slice none 0 0] 31 := by rw [hw1]; exact Blk.new _ _ _
  obtain ⟨i0, q1, q2, q3, q4⟩ := info_parts infoI
  obtain ⟨w2, hr, hown, hgb⟩ := run_make_full (P := Tryz.prog) w1 w.heap.size 22 3 i0 _ 1 Tryz.underlying22 q1 q2 q3 .i64 .i64 8 (by rw [q4]; omega) (by unfold maxLen; omega) (by omega)
  have hr' : (MK 22 (.int .i64 8) (.int .i64 8)).run Tryz.prog w1 = .ok (.slice (some ⟨w1.heap.size, 0, none⟩) 8 8) w2 := hr
  rw [made8] at hown
  have hr2 : Blk w2 w.heap.size _ _ := hr1.keep (hgb.block _ hr1.lt (by simp))
  have hb2 : Below w.heap.size w w2 := hb1.trans ((Below.refl w.heap.size w1).grown hgb (by omega) (by simp))
  have y0 := hr2.cell 0
  have y1 := hr2.cell 1
  have y2 := hr2.cell 2
  have z0 := hr2.free 0
  have z1 := hr2.free 1
  have z2 := hr2.free 2
  simp at y0 y1 y2
  rw [hz1] at hr' hown
  obtain ⟨wf, hwf⟩ : ∃ wf, wf = ((w2.setCell ⟨w.heap.size, 0, none⟩ (.slice (some ⟨w.heap.size + 1, 0, none⟩) 8 8)).setCell ⟨w.heap.size, 1, none⟩ (.slice none 0 0)).setCell ⟨w.heap.size, 2, none⟩ (.slice none 0 0) := ⟨_, rfl⟩
  have e1 := hr2.set 0 (.slice (some ⟨w.heap.size + 1, 0, none⟩) 8 8)
  have e2 := e1.set 1 (.slice none 0 0)
  have e3 := e2.set 2 (.slice none 0 0)
  have o1 := own_setCell (i := 2) (own_setCell (i := 1) (own_setCell (i := 0) hown hr2 (by decide) (.slice (some ⟨w.heap.size + 1, 0, none⟩) 8 8)) e1 (by decide) (.slice none 0 0)) e2 (by decide) (.slice none 0 0)
  have hbf : Below w.heap.size w wf := by
    rw [hwf]
    exact ((hb2.setCell (p := ⟨w.heap.size, 0, none⟩) (Nat.le_refl _) _).setCell (p := ⟨w.heap.size, 1, none⟩) (Nat.le_refl _) _).setCell (p := ⟨w.heap.size, 2, none⟩) (Nat.le_refl _) _
  have hmf : MapV (fun b => w.heap.size ≤ b) wf (.agg #[.slice (some ⟨w.heap.size + 1, 0, none⟩) 8 8, .slice none 0 0, .slice none 0 0]) RMap.new := by
    rw [hwf]
    refine ⟨_, _, _, rfl, (Rows.of_owns o1).mono (fun b h _ => h.1), Rows.nil _ _ _, Rows.nil _ _ _, ?_, nofun, nofun⟩
    intro n hn
    obtain rfl := List.eq_of_mem_replicate hn
    exact ⟨by decide, by decide⟩
  rw [← hwf] at e3
  have q0 := e3.cell 0
  have q1' := e3.cell 1
  have q2' := e3.cell 2
  simp at q0 q1' q2'
  rw [hw1] at hr'
  have Hwf := Lib.hid hwf; have Hmf := Lib.hid hmf; have Hbf := Lib.hid hbf
  have Q0 := Lib.hid q0; have Q1 := Lib.hid q1'; have Q2 := Lib.hid q2'
  clear hb1 hz1 hr1 hw1 hr hown hgb hr2 hb2 e1 e2 e3 o1 hbf hmf hwf q0 q1' q2' q1 q2 q3 q4
  go_enter Tryz.func22, Tryz.ntmps22
  go_wp2_with fail
  rw [← Hwf.out]
  have q0 := Q0.out
  have q1 := Q1.out
  have q2 := Q2.out
  exact bodyPost_ret (v := .agg #[.slice (some ⟨w.heap.size + 1, 0, none⟩) 8 8, .slice none 0 0, .slice none 0 0]) (by simp [results, Tryz.results22, go_sem, q0, q1, q2]) rfl ⟨_, rfl, Hmf.out, Hbf.out⟩
set_option maxRecDepth 100000 in
set_option maxHeartbeats 1500000 in
theorem rnew_any (w : World) :
    Calls Tryz.prog 23 #[] w (GivenPost w RMap.new) := by
  obtain ⟨w1, hw1⟩ : ∃ w1, w1 = w.alloc (.cells #[.slice none 0 0, .slice none 0 0, .slice none 0 0] 26) := ⟨_, rfl⟩
  have hb1 : Below w.heap.size w w1 := by rw [hw1]; exact kept_alloc _ _
  have hz1 : w1.heap.size = w.heap.size + 1 := by rw [hw1]; simp
  have hr1 : Blk w1 w.heap.size [.slice none 0 0, .slice none 0 0, .slice none 0 0] 26 := by rw [hw1]; exact Blk.new _ _ _
  obtain ⟨i0, q1, q2, q3, q4⟩ := info_parts infoI
  obtain ⟨w2, hr, hown, hgb⟩ := run_make_full (P := Tryz.prog) w1 w.heap.size 22 3 i0 _ 1 Tryz.underlying22 q1 q2 q3 .i64 .i64 8 (by rw [q4]; omega) (by unfold maxLen; omega) (by omega)
  have hr' : (MK 22 (.int .i64 8) (.int .i64 8)).run Tryz.prog w1 = .ok (.slice (some ⟨w1.heap.size, 0, none⟩) 8 8) w2 := hr
  rw [made8] at hown
  have hr2 : Blk w2 w.heap.size _ _ := hr1.keep (hgb.block _ hr1.lt (by simp))
  have hb2 : Below w.heap.size w w2 := hb1.trans ((Below.refl w.heap.size w1).grown hgb (by omega) (by simp))
  have y0 := hr2.cell 0
  have y1 := hr2.cell 1
  have y2 := hr2.cell 2
  have z0 := hr2.free 0
  have z1 := hr2.free 1
  have z2 := hr2.free 2
  simp at y0 y1 y2
  rw [hz1] at hr' hown
  obtain ⟨wf, hwf⟩ : ∃ wf, wf = ((w2.setCell ⟨w.heap.size, 0, none⟩ (.slice (some ⟨w.heap.size + 1, 0, none⟩) 8 8)).setCell ⟨w.heap.size, 1, none⟩ (.slice none 0 0)).setCell ⟨w.heap.size, 2, none⟩ (.slice none 0 0) := ⟨_, rfl⟩
  have e1 := hr2.set 0 (.slice (some ⟨w.heap.size + 1, 0, none⟩) 8 8)
  have e2 := e1.set 1 (.slice none 0 0)
  have e3 := e2.set 2 (.slice none 0 0)
  have o1 := own_setCell (i := 2) (own_setCell (i := 1) (own_setCell (i := 0) hown hr2 (by decide) (.slice (some ⟨w.heap.size + 1, 0, none⟩) 8 8)) e1 (by decide) (.slice none 0 0)) e2 (by decide) (.slice none 0 0)
  have hbf : Below w.heap.size w wf := by
    rw [hwf]
    exact ((hb2.setCell (p := ⟨w.heap.size, 0, none⟩) (Nat.le_refl _) _).setCell (p := ⟨w.heap.size, 1, none⟩) (Nat.le_refl _) _).setCell (p := ⟨w.heap.size, 2, none⟩) (Nat.le_refl _) _
  have hmf : MapV (fun b => w.heap.size ≤ b) wf (.agg #[.slice (some ⟨w.heap.size + 1, 0, none⟩) 8 8, .slice none 0 0, .slice none 0 0]) RMap.new := by
    rw [hwf]
    refine ⟨_, _, _, rfl, (Rows.of_owns o1).mono (fun b h _ => h.1), Rows.nil _ _ _, Rows.nil _ _ _, ?_, nofun, nofun⟩
    intro n hn
    obtain rfl := List.eq_of_mem_replicate hn
    exact ⟨by decide, by decide⟩
  rw [← hwf] at e3
  have q0 := e3.cell 0
  have q1' := e3.cell 1
  have q2' := e3.cell 2
  simp at q0 q1' q2'
  rw [hw1] at hr'
  have Hwf := Lib.hid hwf; have Hmf := Lib.hid hmf; have Hbf := Lib.hid hbf
  have Q0 := Lib.hid q0; have Q1 := Lib.hid q1'; have Q2 := Lib.hid q2'
  clear hb1 hz1 hr1 hw1 hr hown hgb hr2 hb2 e1 e2 e3 o1 hbf hmf hwf q0 q1' q2' q1 q2 q3 q4
  go_enter Tryz.func23, Tryz.ntmps23
  go_wp2_with fail
  rw [← Hwf.out]
  have q0 := Q0.out
  have q1 := Q1.out
  have q2 := Q2.out
  exact bodyPost_ret (v := .agg #[.slice (some ⟨w.heap.size + 1, 0, none⟩) 8 8, .slice none 0 0, .slice none 0 0]) (by simp [results, Tryz.results23, go_sem, q0, q1, q2]) rfl ⟨_, rfl, Hmf.out, Hbf.out⟩
end Go.Proofs.YtbjkkmabafaogaaGreatDoor
