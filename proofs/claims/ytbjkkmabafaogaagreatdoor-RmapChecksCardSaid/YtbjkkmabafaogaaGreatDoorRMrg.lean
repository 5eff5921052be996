/- merge. -/
import Derived.Test.YtbjkkmabafaogaaGreatDoorREv2
import Derived.Test.YtbjkkmabafaogaaGreatDoorDecayAft
namespace Go.Proofs.YtbjkkmabafaogaaGreatDoor
open Go.RowKit
set_option linter.unusedVariables false
set_option maxRecDepth 20000
attribute [local go_sem ↓] seal_append
attribute [local go_sem] opC upC

def slLen : Value → Nat
  | .slice _ n _ => n
  | _ => 0
def MrgRel {α : Type} (pl : α → RPl) (better : α → α → α) (enc : α → List Value) (k : Nat) (te : TypeId) (w : World) (A B R : List α) (s0 s1 s9 : Value) (wr : World) : Prop :=
  ∃ (i j : Nat) (pre : List α), i ≤ A.length ∧ j ≤ B.length ∧ Rows (fun b => b < w.heap.size) wr k s0 (A.drop i).length ((A.drop i).flatMap enc) ∧ Rows (fun b => b < w.heap.size) wr k s1 (B.drop j).length ((B.drop j).flatMap enc) ∧
    wr.ownsRow w.heap.size te k s9 pre.length (pre.flatMap enc) ∧ pre ++ mergeL pl better (A.drop i) (B.drop j) = R ∧ pre.length ≤ i + j ∧ Below w.heap.size w wr
theorem rows_len {F : Blks} {w : World} {k n : Nat} {v : Value} {X : List Value} (h : Rows F w k v n X) : ∃ a c, v = .slice a n c ∧ n ≤ c ∧ c ≤ maxLen := by
  obtain ⟨a, c, rfl, h1, h2, -⟩ := h.shape
  exact ⟨a, c, rfl, h1, h2⟩

theorem rows_tail {F : Blks} {w : World} {k n b off cap : Nat} {X : List Value} {aN : Option Addr} (h : Rows F w k (.slice (some ⟨b, off, none⟩) n cap) n X) (hn : 1 ≤ n) (ha : (if cap = 1 then some (⟨b, off, none⟩ : Addr) else some ⟨b, off + k, none⟩) = aN) :
    Rows F w k (.slice aN (n - 1) (cap - 1)) (n - 1) (X.drop k) := by
  obtain ⟨a', cap', hv, hc, hm, hz, hX, h⟩ := h
  simp at hv
  obtain ⟨rfl, rfl⟩ := hv
  obtain ⟨q, rfl⟩ : ∃ q, n = q + 1 := ⟨n - 1, by omega⟩
  simp only [Nat.add_sub_cancel]
  have hmul : (q + 1) * k = q * k + k := Nat.succ_mul q k
  refine ⟨aN, cap - 1, rfl, by omega, by omega, fun hN => ?_, by rw [List.length_drop, hX, hmul]; omega, ?_⟩
  · rw [hN] at ha
    split at ha <;> cases ha
  · rcases Nat.eq_zero_or_pos q with h0 | h0
    · exact .inl h0
    · right
      rcases h with h | ⟨b', off', L, t, fz, hb, hF, hg, hl, hr⟩
      · omega
      · simp at hb
        obtain ⟨rfl, rfl⟩ := hb
        rw [if_neg (by omega)] at ha
        refine ⟨b, off + k, L, t, fz, ha.symm, hF, hg, by omega, fun i hi => ?_⟩
        have := hr (k + i) (by omega)
        rw [Nat.add_assoc, this, List.getElem?_drop]
theorem flat_tail {α : Type} (enc : α → List Value) (k : Nat) (hk : ∀ x, (enc x).length = k) (A : List α) (i : Nat) (h : i < A.length) : ((A.drop i).flatMap enc).drop k = (A.drop (i + 1)).flatMap enc := by
  rw [List.drop_eq_getElem_cons h, List.flatMap_cons, ← hk A[i], List.drop_left]
theorem flat_snoc {α : Type} (enc : α → List Value) (pre : List α) (x : α) : (pre ++ [x]).flatMap enc = pre.flatMap enc ++ enc x := by simp

set_option maxRecDepth 100000 in
set_option maxHeartbeats 6000000 in
theorem mergeIt_later (w : World)  (F G : Blks) (va vb : Value) (A B : List RIt) (ha : Rows F w 4 va A.length (A.flatMap encIt)) (hb : Rows G w 4 vb B.length (B.flatMap encIt)) (hlA : A.length ≤ 1000000) (hlB : B.length ≤ 1000000)
    (hbet : ∀ x ∈ A, ∀ y ∈ B, RIt.pl x = RIt.pl y → ∀ W, Below w.heap.size w W → Calls Tryz.prog 69 #[itV x, itV y] W fun e w' => e = .returned (itV (laterR x y)) ∧ Below W.heap.size W w') :
    Calls Tryz.prog 56 #[va, vb, .func (.func 45) #[] #[], .func (.func 69) #[] #[]] w fun e w' =>
      ∃ r, e = .returned r ∧ w'.ownsRow w.heap.size 75 4 r (mergeL RIt.pl laterR A B).length ((mergeL RIt.pl laterR A B).flatMap encIt) ∧ Below w.heap.size w w' := by
  replace ha := ha.mono (G := fun b => b < w.heap.size) fun b _ hlt => hlt
  replace hb := hb.mono (G := fun b => b < w.heap.size) fun b _ hlt => hlt
  obtain ⟨R, hR⟩ : ∃ R, mergeL RIt.pl laterR A B = R := ⟨_, rfl⟩
  rw [hR]
  have HS := Lib.hid (show MrgRel RIt.pl laterR encIt 4 75 w A B R va vb (.slice none 0 0) w from ⟨0, 0, [], by omega, by omega, by simpa using ha, by simpa using hb, World.ownsRow_nil _ _ _ _, by simpa using hR, by simp, Below.refl _ _⟩)
  have HBet := Lib.hid hbet
  obtain ⟨aa, ca, rfl, -⟩ := ha.shape
  obtain ⟨ab, cb, rfl, -⟩ := hb.shape
  clear ha hb hR hbet
  go_enter Tryz.func56, Tryz.ntmps56
  go_wp2_with fail
  go_loopw [0, 1, 9] (fun s0 s1 s9 wr => MrgRel RIt.pl laterR encIt 4 75 w A B R s0 s1 s9 wr) (fun s0 s1 _ _ => slLen s0 + slLen s1)
  case atStart => exact HS.out
  case round =>
    obtain ⟨i, j, pre, hi, hj, hA, hB, hown, hR, hpl, hbw⟩ := hrel
    obtain ⟨a0, c0, rfl, hc0, hm0⟩ := rows_len hA
    obtain ⟨a1, c1, rfl, hc1, hm1⟩ := rows_len hB
    obtain ⟨a9, c9, hs9⟩ := own_shape hown
    subst hs9
    obtain ⟨na, hna⟩ : ∃ na, (A.drop i).length = na := ⟨_, rfl⟩
    obtain ⟨nb, hnb⟩ : ∃ nb, (B.drop j).length = nb := ⟨_, rfl⟩
    obtain ⟨np, hnp⟩ : ∃ np, pre.length = np := ⟨_, rfl⟩
    have HA := Lib.hid hA; have HB := Lib.hid hB; have HO := Lib.hid hown; have HR := Lib.hid hR; have Hbw := Lib.hid hbw
    rw [hna] at hc0 ⊢
    rw [hnb] at hc1 ⊢
    rw [hnp] at hpl ⊢
    have Hna := Lib.hid hna; have Hnb := Lib.hid hnb; have Hnp := Lib.hid hnp
    have hna' : na = A.length - i := by rw [← hna]; simp
    have hnb' : nb = B.length - j := by rw [← hnb]; simp
    have Hna' := Lib.hid hna'; have Hnb' := Lib.hid hnb'
    clear hA hB hown hR hna hnb hnp hbw HS hna' hnb'
    unfold maxLen at hm0 hm1
    by_cases h0 : 0 < na
    · by_cases h1 : 0 < nb
      · have h0I : (0 : Int) < (na : Int) := by omega
        have h1I : (0 : Int) < (nb : Int) := by omega
        have h0I2 : (1 : Int) ≤ (na : Int) := by omega
        have h1I2 : (1 : Int) ≤ (nb : Int) := by omega
        have hiA : i < A.length := by have := Hna'.out; omega
        have hjB : j < B.length := by have := Hnb'.out; omega
        have hA := HA.out
        have hB := HB.out
        obtain ⟨ba, oa, rfl, hFa, hlta, hca⟩ := it_cell hA (by rw [Hna.out]; exact h0)
        obtain ⟨bb, ob, rfl, hFb, hltb, hcb⟩ := it_cell hB (by rw [Hnb.out]; exact h1)
        obtain ⟨x0, x1, x2, x3⟩ := hca 0 (by rw [Hna.out]; exact h0)
        obtain ⟨y0, y1, y2, y3⟩ := hcb 0 (by rw [Hnb.out]; exact h1)
        obtain ⟨x, hx⟩ : ∃ x, A[i] = x := ⟨_, rfl⟩
        obtain ⟨y, hy⟩ : ∃ y, B[j] = y := ⟨_, rfl⟩
        have hx' : (A.drop i)[0]'(by rw [Hna.out]; exact h0) = x := by rw [List.getElem_drop]; simpa using hx
        have hy' : (B.drop j)[0]'(by rw [Hnb.out]; exact h1) = y := by rw [List.getElem_drop]; simpa using hy
        rw [hx'] at x0 x1 x2 x3
        rw [hy'] at y0 y1 y2 y3
        simp only [Nat.zero_mul, Nat.add_zero] at x0 x1 x2 x3 y0 y1 y2 y3
        have HXC := Lib.hid (show ∀ w', Only (fun b => w.heap.size ≤ b) wr w' → (w'.cell? ⟨ba, oa, none⟩ = some (.string ⟨x.key.toArray⟩) ∧ w'.cell? ⟨ba, oa + 1, none⟩ = some (.int .i64 x.dev) ∧ w'.cell? ⟨ba, oa + 2, none⟩ = some (.int .i64 x.seq) ∧ w'.cell? ⟨ba, oa + 3, none⟩ = some (.int .i64 x.val)) ∧ w'.cell? ⟨bb, ob, none⟩ = some (.string ⟨y.key.toArray⟩) ∧ w'.cell? ⟨bb, ob + 1, none⟩ = some (.int .i64 y.dev) ∧ w'.cell? ⟨bb, ob + 2, none⟩ = some (.int .i64 y.seq) ∧ w'.cell? ⟨bb, ob + 3, none⟩ = some (.int .i64 y.val) from fun w' hh => by
          have hk : ∀ (q : Nat) u, wr.cell? ⟨ba, q, none⟩ = some u → w'.cell? ⟨ba, q, none⟩ = some u := fun q u h => by
            have hb : w'.heap[ba]? = wr.heap[ba]? := hh.block ba hlta (by omega)
            unfold World.cell? at *
            rw [hb]; exact h
          have hk2 : ∀ (q : Nat) u, wr.cell? ⟨bb, q, none⟩ = some u → w'.cell? ⟨bb, q, none⟩ = some u := fun q u h => by
            have hb : w'.heap[bb]? = wr.heap[bb]? := hh.block bb hltb (by omega)
            unfold World.cell? at *
            rw [hb]; exact h
          exact ⟨⟨hk _ _ x0, hk _ _ x1, hk _ _ x2, hk _ _ x3⟩, hk2 _ _ y0, hk2 _ _ y1, hk2 _ _ y2, hk2 _ _ y3⟩)
        have p0 : ∀ w', Later wr.drew w' → w'.cell? _ = _ := fun w' hh => laterC x0 hh
        have p1 : ∀ w', Later wr.drew w' → w'.cell? _ = _ := fun w' hh => laterC x1 hh
        have p2 : ∀ w', Later wr.drew w' → w'.cell? _ = _ := fun w' hh => laterC x2 hh
        have q0 : ∀ w', Later wr.drew w' → w'.cell? _ = _ := fun w' hh => laterC y0 hh
        have q1 : ∀ w', Later wr.drew w' → w'.cell? _ = _ := fun w' hh => laterC y1 hh
        have q2 : ∀ w', Later wr.drew w' → w'.cell? _ = _ := fun w' hh => laterC y2 hh
        have p3 : ∀ w', Later wr.drew w' → w'.cell? _ = _ := fun w' hh => laterC x3 hh; have q3 : ∀ w', Later wr.drew w' → w'.cell? _ = _ := fun w' hh => laterC y3 hh
        have HPX := Lib.hid (fun W => show Calls Tryz.prog 45 #[.agg #[.string ⟨x.key.toArray⟩, .int .i64 x.dev, .int .i64 x.seq, .int .i64 x.val]] W _ from itPlace_any W x)
        have HPY := Lib.hid (fun W => show Calls Tryz.prog 45 #[.agg #[.string ⟨y.key.toArray⟩, .int .i64 y.dev, .int .i64 y.seq, .int .i64 y.val]] W _ from itPlace_any W y)
        have HC := Lib.hid (fun W => compare_any W x.pl y.pl)
        have Hx := Lib.hid hx; have Hy := Lib.hid hy
        clear hca hcb hx hy hx' hy' x0 x1 x2 x3 y0 y1 y2 y3 hA hB
        go_wp2_with fail
        refine wp_region_can Later [(0, true), (1, true), (2, true), (3, true), (5, true), (6, true), (7, true), (8, true), (4, false), (9, false), (10, false), (11, true)] (by kernel_rfl) (by kernel_rfl) later_refl later_trans ?_
        repeat (first
          | (refine can_yes (v := ?_) rfl (wanted_none rfl) (fun w' hC => ?_) (fun K hK => ?_); rotate_left; (focus (go_simp; (try simp (disch := omega) only [IntWalk.i64_in]); (try simp (disch := omega) only [IntWalk.u32_in]); (try simp (disch := omega) only [IntWalk.u8_in]); (try simp (disch := omega) only [IntWalk.i64_quo]); (try simp (disch := omega) only [IntWalk.rem_in]); first | done | exact rfl)); go_simp; (try simp (disch := omega) only [IntWalk.i64_in]); (try simp (disch := omega) only [IntWalk.u32_in]); (try simp (disch := omega) only [IntWalk.u8_in]); (try simp (disch := omega) only [IntWalk.i64_quo]); (try simp (disch := omega) only [IntWalk.rem_in]); refine hK _ ?_; clear hK K)
          | (refine can_guard rfl (fun A B hA hB => ?_); go_simp; first | (refine hA ⟨?_, fun w' hC => ?_, fun K hK => ?_⟩; rotate_left; (focus (go_simp; (try simp (disch := omega) only [IntWalk.i64_in]); (try simp (disch := omega) only [IntWalk.u32_in]); (try simp (disch := omega) only [IntWalk.u8_in]); (try simp (disch := omega) only [IntWalk.i64_quo]); (try simp (disch := omega) only [IntWalk.rem_in]); first | done | exact rfl)); go_simp; (try simp (disch := omega) only [IntWalk.i64_in]); (try simp (disch := omega) only [IntWalk.u32_in]); (try simp (disch := omega) only [IntWalk.u8_in]); (try simp (disch := omega) only [IntWalk.i64_quo]); (try simp (disch := omega) only [IntWalk.rem_in]); refine hK _ ?_; clear hK K hA hB A B) | (refine hB (fun K hK => ?_); go_simp; (try simp (disch := omega) only [IntWalk.i64_in]); (try simp (disch := omega) only [IntWalk.u32_in]); (try simp (disch := omega) only [IntWalk.u8_in]); (try simp (disch := omega) only [IntWalk.i64_quo]); (try simp (disch := omega) only [IntWalk.rem_in]); refine hK _ ?_; clear hK K hA hB A B))
          | (refine can_guard_go rfl (fun A B hA hB => ?_); go_simp; refine hB (fun K hK => ?_); go_simp; (try simp (disch := omega) only [IntWalk.i64_in]); (try simp (disch := omega) only [IntWalk.u32_in]); (try simp (disch := omega) only [IntWalk.u8_in]); (try simp (disch := omega) only [IntWalk.i64_quo]); (try simp (disch := omega) only [IntWalk.rem_in]); refine hK _ ?_; clear hK K hA hB A B))
        refine can_go rfl rfl (fun KK hK => ?_)
        go_simp
        refine (HPX.out _).mono ?_
        rintro e w1 ⟨rfl, hb1⟩
        refine ⟨_, rfl, hb1, hK _ _ ?_⟩
        clear hK KK HPX p0 p1 p2 q0 q1 q2 p3 q3
        go_simp
        have Hl1 := Lib.hid (show Later wr w1 from (Below.refl _ _).drew.trans hb1)
        clear hb1
        repeat (first
          | (refine can_yes (v := ?_) rfl (wanted_none rfl) (fun w' hC => ?_) (fun K hK => ?_); rotate_left; (focus (go_simp; (try simp (disch := omega) only [IntWalk.i64_in]); (try simp (disch := omega) only [IntWalk.u32_in]); (try simp (disch := omega) only [IntWalk.u8_in]); (try simp (disch := omega) only [IntWalk.i64_quo]); (try simp (disch := omega) only [IntWalk.rem_in]); first | done | exact rfl)); go_simp; (try simp (disch := omega) only [IntWalk.i64_in]); (try simp (disch := omega) only [IntWalk.u32_in]); (try simp (disch := omega) only [IntWalk.u8_in]); (try simp (disch := omega) only [IntWalk.i64_quo]); (try simp (disch := omega) only [IntWalk.rem_in]); refine hK _ ?_; clear hK K)
          | (refine can_guard rfl (fun A B hA hB => ?_); go_simp; first | (refine hA ⟨?_, fun w' hC => ?_, fun K hK => ?_⟩; rotate_left; (focus (go_simp; (try simp (disch := omega) only [IntWalk.i64_in]); (try simp (disch := omega) only [IntWalk.u32_in]); (try simp (disch := omega) only [IntWalk.u8_in]); (try simp (disch := omega) only [IntWalk.i64_quo]); (try simp (disch := omega) only [IntWalk.rem_in]); first | done | exact rfl)); go_simp; (try simp (disch := omega) only [IntWalk.i64_in]); (try simp (disch := omega) only [IntWalk.u32_in]); (try simp (disch := omega) only [IntWalk.u8_in]); (try simp (disch := omega) only [IntWalk.i64_quo]); (try simp (disch := omega) only [IntWalk.rem_in]); refine hK _ ?_; clear hK K hA hB A B) | (refine hB (fun K hK => ?_); go_simp; (try simp (disch := omega) only [IntWalk.i64_in]); (try simp (disch := omega) only [IntWalk.u32_in]); (try simp (disch := omega) only [IntWalk.u8_in]); (try simp (disch := omega) only [IntWalk.i64_quo]); (try simp (disch := omega) only [IntWalk.rem_in]); refine hK _ ?_; clear hK K hA hB A B))
          | (refine can_guard_go rfl (fun A B hA hB => ?_); go_simp; refine hB (fun K hK => ?_); go_simp; (try simp (disch := omega) only [IntWalk.i64_in]); (try simp (disch := omega) only [IntWalk.u32_in]); (try simp (disch := omega) only [IntWalk.u8_in]); (try simp (disch := omega) only [IntWalk.i64_quo]); (try simp (disch := omega) only [IntWalk.rem_in]); refine hK _ ?_; clear hK K hA hB A B))
        refine can_go rfl rfl (fun KK hK => ?_)
        go_simp
        refine (HPY.out _).mono ?_
        rintro e w2 ⟨rfl, hb2⟩
        refine ⟨_, rfl, hb2, hK _ _ ?_⟩
        clear hK KK HPY
        go_simp
        have Hl2 := Lib.hid (later_trans _ _ _ Hl1.out hb2)
        clear hb2 Hl1
        repeat (first
          | (refine can_yes (v := ?_) rfl (wanted_none rfl) (fun w' hC => ?_) (fun K hK => ?_); rotate_left; (focus (go_simp; (try simp (disch := omega) only [IntWalk.i64_in]); (try simp (disch := omega) only [IntWalk.u32_in]); (try simp (disch := omega) only [IntWalk.u8_in]); (try simp (disch := omega) only [IntWalk.i64_quo]); (try simp (disch := omega) only [IntWalk.rem_in]); first | done | exact rfl)); go_simp; (try simp (disch := omega) only [IntWalk.i64_in]); (try simp (disch := omega) only [IntWalk.u32_in]); (try simp (disch := omega) only [IntWalk.u8_in]); (try simp (disch := omega) only [IntWalk.i64_quo]); (try simp (disch := omega) only [IntWalk.rem_in]); refine hK _ ?_; clear hK K)
          | (refine can_guard rfl (fun A B hA hB => ?_); go_simp; first | (refine hA ⟨?_, fun w' hC => ?_, fun K hK => ?_⟩; rotate_left; (focus (go_simp; (try simp (disch := omega) only [IntWalk.i64_in]); (try simp (disch := omega) only [IntWalk.u32_in]); (try simp (disch := omega) only [IntWalk.u8_in]); (try simp (disch := omega) only [IntWalk.i64_quo]); (try simp (disch := omega) only [IntWalk.rem_in]); first | done | exact rfl)); go_simp; (try simp (disch := omega) only [IntWalk.i64_in]); (try simp (disch := omega) only [IntWalk.u32_in]); (try simp (disch := omega) only [IntWalk.u8_in]); (try simp (disch := omega) only [IntWalk.i64_quo]); (try simp (disch := omega) only [IntWalk.rem_in]); refine hK _ ?_; clear hK K hA hB A B) | (refine hB (fun K hK => ?_); go_simp; (try simp (disch := omega) only [IntWalk.i64_in]); (try simp (disch := omega) only [IntWalk.u32_in]); (try simp (disch := omega) only [IntWalk.u8_in]); (try simp (disch := omega) only [IntWalk.i64_quo]); (try simp (disch := omega) only [IntWalk.rem_in]); refine hK _ ?_; clear hK K hA hB A B))
          | (refine can_guard_go rfl (fun A B hA hB => ?_); go_simp; refine hB (fun K hK => ?_); go_simp; (try simp (disch := omega) only [IntWalk.i64_in]); (try simp (disch := omega) only [IntWalk.u32_in]); (try simp (disch := omega) only [IntWalk.u8_in]); (try simp (disch := omega) only [IntWalk.i64_quo]); (try simp (disch := omega) only [IntWalk.rem_in]); refine hK _ ?_; clear hK K hA hB A B))
        refine can_go rfl rfl (fun KK hK => ?_)
        go_simp
        refine (HC.out _).mono ?_
        rintro e w3 ⟨rfl, hb3⟩
        refine ⟨_, rfl, hb3, hK _ _ ?_⟩
        clear hK KK HC
        go_simp
        have hl3 : Later wr w3 := later_trans _ _ _ Hl2.out hb3
        have hb3' : Below w.heap.size w w3 := Hbw.out.trans (RowKit.Below.mono hl3 Hbw.out.size)
        have hF3 : Only (fun b => w.heap.size ≤ b) wr w3 := Only.of_below hl3
        obtain ⟨⟨e0, e1, e2, e3⟩, g0, g1, g2, g3⟩ := HXC.out w3 hF3
        have HO3 := Lib.hid (own_below HO.out hl3)
        have HA3 := Lib.hid (HA.out.keep (w' := w3) fun b hb hlt => RowKit.Below.block hl3 b hlt)
        have HB3 := Lib.hid (HB.out.keep (w' := w3) fun b hb hlt => RowKit.Below.block hl3 b hlt)
        have Hl3 := Lib.hid hl3; have Hb3 := Lib.hid hb3'
        clear hb3 Hl2 hb3' hl3 hF3
        by_cases hlt : plt x.pl y.pl
        · have hv : pcmp x.pl y.pl = -1 := by unfold pcmp; rw [if_pos hlt]
          rw [hv]
          have hmm := merge_at_lt laterR A B i j hiA hjB (by rw [Hx.out, Hy.out]; exact hlt)
          have Hmm := Lib.hid hmm
          clear hv hlt hmm
          repeat (first
            | (refine can_yes (v := ?_) rfl (wanted_none rfl) (fun w' hC => ?_) (fun K hK => ?_); rotate_left; (focus (go_simp; (try simp (disch := omega) only [IntWalk.i64_in]); (try simp (disch := omega) only [IntWalk.u32_in]); (try simp (disch := omega) only [IntWalk.u8_in]); (try simp (disch := omega) only [IntWalk.i64_quo]); (try simp (disch := omega) only [IntWalk.rem_in]); first | done | exact rfl)); go_simp; (try simp (disch := omega) only [IntWalk.i64_in]); (try simp (disch := omega) only [IntWalk.u32_in]); (try simp (disch := omega) only [IntWalk.u8_in]); (try simp (disch := omega) only [IntWalk.i64_quo]); (try simp (disch := omega) only [IntWalk.rem_in]); refine hK _ ?_; clear hK K)
            | (refine can_guard rfl (fun A B hA hB => ?_); go_simp; first | (refine hA ⟨?_, fun w' hC => ?_, fun K hK => ?_⟩; rotate_left; (focus (go_simp; (try simp (disch := omega) only [IntWalk.i64_in]); (try simp (disch := omega) only [IntWalk.u32_in]); (try simp (disch := omega) only [IntWalk.u8_in]); (try simp (disch := omega) only [IntWalk.i64_quo]); (try simp (disch := omega) only [IntWalk.rem_in]); first | done | exact rfl)); go_simp; (try simp (disch := omega) only [IntWalk.i64_in]); (try simp (disch := omega) only [IntWalk.u32_in]); (try simp (disch := omega) only [IntWalk.u8_in]); (try simp (disch := omega) only [IntWalk.i64_quo]); (try simp (disch := omega) only [IntWalk.rem_in]); refine hK _ ?_; clear hK K hA hB A B) | (refine hB (fun K hK => ?_); go_simp; (try simp (disch := omega) only [IntWalk.i64_in]); (try simp (disch := omega) only [IntWalk.u32_in]); (try simp (disch := omega) only [IntWalk.u8_in]); (try simp (disch := omega) only [IntWalk.i64_quo]); (try simp (disch := omega) only [IntWalk.rem_in]); refine hK _ ?_; clear hK K hA hB A B))
            | (refine can_guard_go rfl (fun A B hA hB => ?_); go_simp; refine hB (fun K hK => ?_); go_simp; (try simp (disch := omega) only [IntWalk.i64_in]); (try simp (disch := omega) only [IntWalk.u32_in]); (try simp (disch := omega) only [IntWalk.u8_in]); (try simp (disch := omega) only [IntWalk.i64_quo]); (try simp (disch := omega) only [IntWalk.rem_in]); refine hK _ ?_; clear hK K hA hB A B))
          refine can_nil ?_
          have HX3 := Lib.hid (fun w' (hh : Only (fun b => w.heap.size ≤ b) w3.drew w') => HXC.out w' ((Only.of_below (F := fun b => w.heap.size ≤ b) Hl3.out).drew.trans hh (fun i h => .inl h)))
          obtain ⟨i0, t1, t2, t3, t4⟩ := info_parts infoItP
          have hO3 : w3.drew.ownsRow w.heap.size 75 4 (.slice a9 np c9) np (pre.flatMap encIt) := by have := HO3.out; rw [Hnp.out] at this; exact this
          obtain ⟨v5, w5, hr5, hown5, hg5⟩ := run_append_one (P := Tryz.prog) w3.drew w.heap.size 28 75 Tryz.underlying28 t1 t2 t3 t4 rfl (by decide) (.slice a9 np c9) np _ hO3 #[.string ⟨x.key.toArray⟩, .int .i64 x.dev, .int .i64 x.seq, .int .i64 x.val] rfl (by simp [Value.oneCell']) (by unfold maxLen; omega) (by omega) (show w.heap.size ≤ w3.heap.size from Hb3.out.size)
          obtain ⟨a5, c5, rfl⟩ := own_shape hown5
          have k1 : LaterF (fun b => w.heap.size ≤ b) w3.drew (w3.drew.alloc (.cells #[.string ⟨x.key.toArray⟩, .int .i64 x.dev, .int .i64 x.seq, .int .i64 x.val] 75)) := LaterF.of_below (kept_alloc _ _)
          have hoA := own_below hO3 (kept_alloc w3.drew (.cells #[.string ⟨x.key.toArray⟩, .int .i64 x.dev, .int .i64 x.seq, .int .i64 x.val] 75))
          have k2 : LaterF (fun b => w.heap.size ≤ b) (w3.drew.alloc (.cells #[.string ⟨x.key.toArray⟩, .int .i64 x.dev, .int .i64 x.seq, .int .i64 x.val] 75)) w5 := ⟨hg5.os, hg5.tape, hg5.output, hg5.size, fun q hq hn => hg5.block q hq (fun e => hn (hoA.lt q e.symm).1)⟩
          have hk5 : Only (fun b => w.heap.size ≤ b) w3 w5 := (Only.of_below (F := fun b => w.heap.size ≤ b) ((Below.refl _ _).drew)).trans (Only.trans k1 k2 (fun i h => .inl h)) (fun i h => .inl h)
          have hb5 : Below w.heap.size w w5 := Hb3.out.trans (hk5.below (fun i h => h) Hb3.out.size)
          obtain ⟨wz, hwz⟩ : ∃ wz, wz = w3.drew.alloc (.cells #[.string ⟨x.key.toArray⟩, .int .i64 x.dev, .int .i64 x.seq, .int .i64 x.val] 75) := ⟨_, rfl⟩
          rw [← hwz] at hr5 k1 k2
          have hr5' : (AP #[28, 28] 28 #[.slice a9 np c9, .slice (some ⟨w3.heap.size, 0, none⟩) 1 1]).run Tryz.prog wz = .ok (.slice a5 (np + 1) c5) w5 := hr5
          have Hown5 := Lib.hid hown5; have Hk5 := Lib.hid hk5; have Hb5 := Lib.hid hb5
          have r0 : ∀ w', LaterF (fun b => w.heap.size ≤ b) w3.drew w' → w'.cell? _ = _ := fun w' hh => (HX3.out w' hh).1.1; have r1 : ∀ w', LaterF (fun b => w.heap.size ≤ b) w3.drew w' → w'.cell? _ = _ := fun w' hh => (HX3.out w' hh).1.2.1; have r2 : ∀ w', LaterF (fun b => w.heap.size ≤ b) w3.drew w' → w'.cell? _ = _ := fun w' hh => (HX3.out w' hh).1.2.2.1; have r3 : ∀ w', LaterF (fun b => w.heap.size ≤ b) w3.drew w' → w'.cell? _ = _ := fun w' hh => (HX3.out w' hh).1.2.2.2
          have Hwz := Lib.hid hwz
          clear hown5 hg5 hoA hk5 hb5 hwz hr5 t1 t2 t3 t4 hO3
          go_wp2_with fail
          refine wp_region_can (LaterF (fun b => w.heap.size ≤ b)) [(0, true), (1, true), (2, true), (3, true), (6, true), (7, true), (4, false), (5, false), (8, true), (9, true)] (by kernel_rfl) (by kernel_rfl) (laterF_refl _) (laterF_trans _) ?_
          repeat (first
            | (refine can_yes (v := ?_) rfl (wanted_none rfl) (fun w' hC => ?_) (fun K hK => ?_); rotate_left; (focus (go_simp; (try simp (disch := omega) only [IntWalk.i64_in]); (try simp (disch := omega) only [IntWalk.u32_in]); (try simp (disch := omega) only [IntWalk.u8_in]); (try simp (disch := omega) only [IntWalk.i64_quo]); (try simp (disch := omega) only [IntWalk.rem_in]); first | done | exact rfl)); go_simp; (try simp (disch := omega) only [IntWalk.i64_in]); (try simp (disch := omega) only [IntWalk.u32_in]); (try simp (disch := omega) only [IntWalk.u8_in]); (try simp (disch := omega) only [IntWalk.i64_quo]); (try simp (disch := omega) only [IntWalk.rem_in]); refine hK _ ?_; clear hK K)
            | (refine can_guard rfl (fun A B hA hB => ?_); go_simp; first | (refine hA ⟨?_, fun w' hC => ?_, fun K hK => ?_⟩; rotate_left; (focus (go_simp; (try simp (disch := omega) only [IntWalk.i64_in]); (try simp (disch := omega) only [IntWalk.u32_in]); (try simp (disch := omega) only [IntWalk.u8_in]); (try simp (disch := omega) only [IntWalk.i64_quo]); (try simp (disch := omega) only [IntWalk.rem_in]); first | done | exact rfl)); go_simp; (try simp (disch := omega) only [IntWalk.i64_in]); (try simp (disch := omega) only [IntWalk.u32_in]); (try simp (disch := omega) only [IntWalk.u8_in]); (try simp (disch := omega) only [IntWalk.i64_quo]); (try simp (disch := omega) only [IntWalk.rem_in]); refine hK _ ?_; clear hK K hA hB A B) | (refine hB (fun K hK => ?_); go_simp; (try simp (disch := omega) only [IntWalk.i64_in]); (try simp (disch := omega) only [IntWalk.u32_in]); (try simp (disch := omega) only [IntWalk.u8_in]); (try simp (disch := omega) only [IntWalk.i64_quo]); (try simp (disch := omega) only [IntWalk.rem_in]); refine hK _ ?_; clear hK K hA hB A B))
            | (refine can_guard_go rfl (fun A B hA hB => ?_); go_simp; refine hB (fun K hK => ?_); go_simp; (try simp (disch := omega) only [IntWalk.i64_in]); (try simp (disch := omega) only [IntWalk.u32_in]); (try simp (disch := omega) only [IntWalk.u8_in]); (try simp (disch := omega) only [IntWalk.i64_quo]); (try simp (disch := omega) only [IntWalk.rem_in]); refine hK _ ?_; clear hK K hA hB A B))
          generalize haN : (if c0 = 1 then some (⟨ba, oa, none⟩ : Addr) else some ⟨ba, oa + 4, none⟩) = aN at *
          refine can_go rfl rfl (fun KK hK => ?_)
          go_simp
          rw [show (w3.alloc (.cells #[.string ⟨x.key.toArray⟩, .int .i64 x.dev, .int .i64 x.seq, .int .i64 x.val] 75)).drew = wz from Hwz.out.symm]
          first | refine ⟨k1, hK _ _ ?_⟩ | refine hK _ _ ?_
          clear hK KK
          go_simp
          refine can_go rfl rfl (fun KK hK => ?_)
          go_simp
          first | refine ⟨k2, hK _ _ ?_⟩ | refine hK _ _ ?_
          clear hK KK r0 r1 r2 r3
          go_simp
          repeat (first
            | (refine can_yes (v := ?_) rfl (wanted_none rfl) (fun w' hC => ?_) (fun K hK => ?_); rotate_left; (focus (go_simp; (try simp (disch := omega) only [IntWalk.i64_in]); (try simp (disch := omega) only [IntWalk.u32_in]); (try simp (disch := omega) only [IntWalk.u8_in]); (try simp (disch := omega) only [IntWalk.i64_quo]); (try simp (disch := omega) only [IntWalk.rem_in]); first | done | exact rfl)); go_simp; (try simp (disch := omega) only [IntWalk.i64_in]); (try simp (disch := omega) only [IntWalk.u32_in]); (try simp (disch := omega) only [IntWalk.u8_in]); (try simp (disch := omega) only [IntWalk.i64_quo]); (try simp (disch := omega) only [IntWalk.rem_in]); refine hK _ ?_; clear hK K)
            | (refine can_guard rfl (fun A B hA hB => ?_); go_simp; first | (refine hA ⟨?_, fun w' hC => ?_, fun K hK => ?_⟩; rotate_left; (focus (go_simp; (try simp (disch := omega) only [IntWalk.i64_in]); (try simp (disch := omega) only [IntWalk.u32_in]); (try simp (disch := omega) only [IntWalk.u8_in]); (try simp (disch := omega) only [IntWalk.i64_quo]); (try simp (disch := omega) only [IntWalk.rem_in]); first | done | exact rfl)); go_simp; (try simp (disch := omega) only [IntWalk.i64_in]); (try simp (disch := omega) only [IntWalk.u32_in]); (try simp (disch := omega) only [IntWalk.u8_in]); (try simp (disch := omega) only [IntWalk.i64_quo]); (try simp (disch := omega) only [IntWalk.rem_in]); refine hK _ ?_; clear hK K hA hB A B) | (refine hB (fun K hK => ?_); go_simp; (try simp (disch := omega) only [IntWalk.i64_in]); (try simp (disch := omega) only [IntWalk.u32_in]); (try simp (disch := omega) only [IntWalk.u8_in]); (try simp (disch := omega) only [IntWalk.i64_quo]); (try simp (disch := omega) only [IntWalk.rem_in]); refine hK _ ?_; clear hK K hA hB A B))
            | (refine can_guard_go rfl (fun A B hA hB => ?_); go_simp; refine hB (fun K hK => ?_); go_simp; (try simp (disch := omega) only [IntWalk.i64_in]); (try simp (disch := omega) only [IntWalk.u32_in]); (try simp (disch := omega) only [IntWalk.u8_in]); (try simp (disch := omega) only [IntWalk.i64_quo]); (try simp (disch := omega) only [IntWalk.rem_in]); refine hK _ ?_; clear hK K hA hB A B))
          refine can_nil ?_
          go_wp2_with fail
          go_roundw
          case measure => simp [slLen]; omega
          case rel =>
            refine ⟨i + 1, j, pre ++ [x], by omega, hj, ?_, ?_, ?_, ?_, ?_, Hb5.out⟩
            · have h1 := HA3.out.keep (w' := w5) fun b hb hlt => Hk5.out.block b hlt (by omega)
              rw [Hna.out] at h1
              have h2 := rows_tail h1 (by omega) haN
              rw [flat_tail encIt 4 encIt_len A i hiA] at h2
              have h3 : (A.drop (i + 1)).length = na - 1 := by have := Hna'.out; simp; omega
              rw [h3]
              exact h2
            · have h1 := HB3.out.keep (w' := w5) fun b hb hlt => Hk5.out.block b hlt (by omega)
              rw [Hnb.out] at h1 ⊢
              exact h1
            · rw [flat_snoc, List.length_append, Hnp.out]
              exact Hown5.out
            · rw [← HR.out, Hmm.out, Hx.out]; simp
            · rw [List.length_append, Hnp.out]; simp; omega
        · by_cases hgt : plt y.pl x.pl
          · have hv : pcmp x.pl y.pl = 1 := by unfold pcmp; rw [if_neg hlt, if_pos hgt]
            rw [hv]
            have hmm := merge_at_gt laterR A B i j hiA hjB (by rw [Hx.out, Hy.out]; exact hgt)
            have Hmm := Lib.hid hmm
            clear hv hlt hmm hgt
            repeat (first
              | (refine can_yes (v := ?_) rfl (wanted_none rfl) (fun w' hC => ?_) (fun K hK => ?_); rotate_left; (focus (go_simp; (try simp (disch := omega) only [IntWalk.i64_in]); (try simp (disch := omega) only [IntWalk.u32_in]); (try simp (disch := omega) only [IntWalk.u8_in]); (try simp (disch := omega) only [IntWalk.i64_quo]); (try simp (disch := omega) only [IntWalk.rem_in]); first | done | exact rfl)); go_simp; (try simp (disch := omega) only [IntWalk.i64_in]); (try simp (disch := omega) only [IntWalk.u32_in]); (try simp (disch := omega) only [IntWalk.u8_in]); (try simp (disch := omega) only [IntWalk.i64_quo]); (try simp (disch := omega) only [IntWalk.rem_in]); refine hK _ ?_; clear hK K)
              | (refine can_guard rfl (fun A B hA hB => ?_); go_simp; first | (refine hA ⟨?_, fun w' hC => ?_, fun K hK => ?_⟩; rotate_left; (focus (go_simp; (try simp (disch := omega) only [IntWalk.i64_in]); (try simp (disch := omega) only [IntWalk.u32_in]); (try simp (disch := omega) only [IntWalk.u8_in]); (try simp (disch := omega) only [IntWalk.i64_quo]); (try simp (disch := omega) only [IntWalk.rem_in]); first | done | exact rfl)); go_simp; (try simp (disch := omega) only [IntWalk.i64_in]); (try simp (disch := omega) only [IntWalk.u32_in]); (try simp (disch := omega) only [IntWalk.u8_in]); (try simp (disch := omega) only [IntWalk.i64_quo]); (try simp (disch := omega) only [IntWalk.rem_in]); refine hK _ ?_; clear hK K hA hB A B) | (refine hB (fun K hK => ?_); go_simp; (try simp (disch := omega) only [IntWalk.i64_in]); (try simp (disch := omega) only [IntWalk.u32_in]); (try simp (disch := omega) only [IntWalk.u8_in]); (try simp (disch := omega) only [IntWalk.i64_quo]); (try simp (disch := omega) only [IntWalk.rem_in]); refine hK _ ?_; clear hK K hA hB A B))
              | (refine can_guard_go rfl (fun A B hA hB => ?_); go_simp; refine hB (fun K hK => ?_); go_simp; (try simp (disch := omega) only [IntWalk.i64_in]); (try simp (disch := omega) only [IntWalk.u32_in]); (try simp (disch := omega) only [IntWalk.u8_in]); (try simp (disch := omega) only [IntWalk.i64_quo]); (try simp (disch := omega) only [IntWalk.rem_in]); refine hK _ ?_; clear hK K hA hB A B))
            refine can_nil ?_
            go_wp2_with fail
            have HX3 := Lib.hid (fun w' (hh : Only (fun b => w.heap.size ≤ b) w3.drew w') => HXC.out w' ((Only.of_below (F := fun b => w.heap.size ≤ b) Hl3.out).drew.trans hh (fun i h => .inl h)))
            obtain ⟨i0, t1, t2, t3, t4⟩ := info_parts infoItP
            have hO3 : w3.drew.ownsRow w.heap.size 75 4 (.slice a9 np c9) np (pre.flatMap encIt) := by have := HO3.out; rw [Hnp.out] at this; exact this
            obtain ⟨v5, w5, hr5, hown5, hg5⟩ := run_append_one (P := Tryz.prog) w3.drew w.heap.size 28 75 Tryz.underlying28 t1 t2 t3 t4 rfl (by decide) (.slice a9 np c9) np _ hO3 #[.string ⟨y.key.toArray⟩, .int .i64 y.dev, .int .i64 y.seq, .int .i64 y.val] rfl (by simp [Value.oneCell']) (by unfold maxLen; omega) (by omega) (show w.heap.size ≤ w3.heap.size from Hb3.out.size)
            obtain ⟨a5, c5, rfl⟩ := own_shape hown5
            have k1 : LaterF (fun b => w.heap.size ≤ b) w3.drew (w3.drew.alloc (.cells #[.string ⟨y.key.toArray⟩, .int .i64 y.dev, .int .i64 y.seq, .int .i64 y.val] 75)) := LaterF.of_below (kept_alloc _ _)
            have hoA := own_below hO3 (kept_alloc w3.drew (.cells #[.string ⟨y.key.toArray⟩, .int .i64 y.dev, .int .i64 y.seq, .int .i64 y.val] 75))
            have k2 : LaterF (fun b => w.heap.size ≤ b) (w3.drew.alloc (.cells #[.string ⟨y.key.toArray⟩, .int .i64 y.dev, .int .i64 y.seq, .int .i64 y.val] 75)) w5 := ⟨hg5.os, hg5.tape, hg5.output, hg5.size, fun q hq hn => hg5.block q hq (fun e => hn (hoA.lt q e.symm).1)⟩
            have hk5 : Only (fun b => w.heap.size ≤ b) w3 w5 := (Only.of_below (F := fun b => w.heap.size ≤ b) ((Below.refl _ _).drew)).trans (Only.trans k1 k2 (fun i h => .inl h)) (fun i h => .inl h)
            have hb5 : Below w.heap.size w w5 := Hb3.out.trans (hk5.below (fun i h => h) Hb3.out.size)
            obtain ⟨wz, hwz⟩ : ∃ wz, wz = w3.drew.alloc (.cells #[.string ⟨y.key.toArray⟩, .int .i64 y.dev, .int .i64 y.seq, .int .i64 y.val] 75) := ⟨_, rfl⟩
            rw [← hwz] at hr5 k1 k2
            have hr5' : (AP #[28, 28] 28 #[.slice a9 np c9, .slice (some ⟨w3.heap.size, 0, none⟩) 1 1]).run Tryz.prog wz = .ok (.slice a5 (np + 1) c5) w5 := hr5
            have Hown5 := Lib.hid hown5; have Hk5 := Lib.hid hk5; have Hb5 := Lib.hid hb5
            have r0 : ∀ w', LaterF (fun b => w.heap.size ≤ b) w3.drew w' → w'.cell? _ = _ := fun w' hh => (HX3.out w' hh).2.1; have r1 : ∀ w', LaterF (fun b => w.heap.size ≤ b) w3.drew w' → w'.cell? _ = _ := fun w' hh => (HX3.out w' hh).2.2.1; have r2 : ∀ w', LaterF (fun b => w.heap.size ≤ b) w3.drew w' → w'.cell? _ = _ := fun w' hh => (HX3.out w' hh).2.2.2.1; have r3 : ∀ w', LaterF (fun b => w.heap.size ≤ b) w3.drew w' → w'.cell? _ = _ := fun w' hh => (HX3.out w' hh).2.2.2.2
            have Hwz := Lib.hid hwz
            clear hown5 hg5 hoA hk5 hb5 hwz hr5 t1 t2 t3 t4 hO3
            go_wp2_with fail
            refine wp_region_can (LaterF (fun b => w.heap.size ≤ b)) [(0, true), (1, true), (2, true), (3, true), (6, true), (7, true), (4, false), (5, false), (8, true), (9, true)] (by kernel_rfl) (by kernel_rfl) (laterF_refl _) (laterF_trans _) ?_
            repeat (first
              | (refine can_yes (v := ?_) rfl (wanted_none rfl) (fun w' hC => ?_) (fun K hK => ?_); rotate_left; (focus (go_simp; (try simp (disch := omega) only [IntWalk.i64_in]); (try simp (disch := omega) only [IntWalk.u32_in]); (try simp (disch := omega) only [IntWalk.u8_in]); (try simp (disch := omega) only [IntWalk.i64_quo]); (try simp (disch := omega) only [IntWalk.rem_in]); first | done | exact rfl)); go_simp; (try simp (disch := omega) only [IntWalk.i64_in]); (try simp (disch := omega) only [IntWalk.u32_in]); (try simp (disch := omega) only [IntWalk.u8_in]); (try simp (disch := omega) only [IntWalk.i64_quo]); (try simp (disch := omega) only [IntWalk.rem_in]); refine hK _ ?_; clear hK K)
              | (refine can_guard rfl (fun A B hA hB => ?_); go_simp; first | (refine hA ⟨?_, fun w' hC => ?_, fun K hK => ?_⟩; rotate_left; (focus (go_simp; (try simp (disch := omega) only [IntWalk.i64_in]); (try simp (disch := omega) only [IntWalk.u32_in]); (try simp (disch := omega) only [IntWalk.u8_in]); (try simp (disch := omega) only [IntWalk.i64_quo]); (try simp (disch := omega) only [IntWalk.rem_in]); first | done | exact rfl)); go_simp; (try simp (disch := omega) only [IntWalk.i64_in]); (try simp (disch := omega) only [IntWalk.u32_in]); (try simp (disch := omega) only [IntWalk.u8_in]); (try simp (disch := omega) only [IntWalk.i64_quo]); (try simp (disch := omega) only [IntWalk.rem_in]); refine hK _ ?_; clear hK K hA hB A B) | (refine hB (fun K hK => ?_); go_simp; (try simp (disch := omega) only [IntWalk.i64_in]); (try simp (disch := omega) only [IntWalk.u32_in]); (try simp (disch := omega) only [IntWalk.u8_in]); (try simp (disch := omega) only [IntWalk.i64_quo]); (try simp (disch := omega) only [IntWalk.rem_in]); refine hK _ ?_; clear hK K hA hB A B))
              | (refine can_guard_go rfl (fun A B hA hB => ?_); go_simp; refine hB (fun K hK => ?_); go_simp; (try simp (disch := omega) only [IntWalk.i64_in]); (try simp (disch := omega) only [IntWalk.u32_in]); (try simp (disch := omega) only [IntWalk.u8_in]); (try simp (disch := omega) only [IntWalk.i64_quo]); (try simp (disch := omega) only [IntWalk.rem_in]); refine hK _ ?_; clear hK K hA hB A B))
            generalize hbN : (if c1 = 1 then some (⟨bb, ob, none⟩ : Addr) else some ⟨bb, ob + 4, none⟩) = bN at *
            refine can_go rfl rfl (fun KK hK => ?_)
            go_simp
            rw [show (w3.alloc (.cells #[.string ⟨y.key.toArray⟩, .int .i64 y.dev, .int .i64 y.seq, .int .i64 y.val] 75)).drew = wz from Hwz.out.symm]
            first | refine ⟨k1, hK _ _ ?_⟩ | refine hK _ _ ?_
            clear hK KK
            go_simp
            refine can_go rfl rfl (fun KK hK => ?_)
            go_simp
            first | refine ⟨k2, hK _ _ ?_⟩ | refine hK _ _ ?_
            clear hK KK r0 r1 r2 r3
            go_simp
            repeat (first
              | (refine can_yes (v := ?_) rfl (wanted_none rfl) (fun w' hC => ?_) (fun K hK => ?_); rotate_left; (focus (go_simp; (try simp (disch := omega) only [IntWalk.i64_in]); (try simp (disch := omega) only [IntWalk.u32_in]); (try simp (disch := omega) only [IntWalk.u8_in]); (try simp (disch := omega) only [IntWalk.i64_quo]); (try simp (disch := omega) only [IntWalk.rem_in]); first | done | exact rfl)); go_simp; (try simp (disch := omega) only [IntWalk.i64_in]); (try simp (disch := omega) only [IntWalk.u32_in]); (try simp (disch := omega) only [IntWalk.u8_in]); (try simp (disch := omega) only [IntWalk.i64_quo]); (try simp (disch := omega) only [IntWalk.rem_in]); refine hK _ ?_; clear hK K)
              | (refine can_guard rfl (fun A B hA hB => ?_); go_simp; first | (refine hA ⟨?_, fun w' hC => ?_, fun K hK => ?_⟩; rotate_left; (focus (go_simp; (try simp (disch := omega) only [IntWalk.i64_in]); (try simp (disch := omega) only [IntWalk.u32_in]); (try simp (disch := omega) only [IntWalk.u8_in]); (try simp (disch := omega) only [IntWalk.i64_quo]); (try simp (disch := omega) only [IntWalk.rem_in]); first | done | exact rfl)); go_simp; (try simp (disch := omega) only [IntWalk.i64_in]); (try simp (disch := omega) only [IntWalk.u32_in]); (try simp (disch := omega) only [IntWalk.u8_in]); (try simp (disch := omega) only [IntWalk.i64_quo]); (try simp (disch := omega) only [IntWalk.rem_in]); refine hK _ ?_; clear hK K hA hB A B) | (refine hB (fun K hK => ?_); go_simp; (try simp (disch := omega) only [IntWalk.i64_in]); (try simp (disch := omega) only [IntWalk.u32_in]); (try simp (disch := omega) only [IntWalk.u8_in]); (try simp (disch := omega) only [IntWalk.i64_quo]); (try simp (disch := omega) only [IntWalk.rem_in]); refine hK _ ?_; clear hK K hA hB A B))
              | (refine can_guard_go rfl (fun A B hA hB => ?_); go_simp; refine hB (fun K hK => ?_); go_simp; (try simp (disch := omega) only [IntWalk.i64_in]); (try simp (disch := omega) only [IntWalk.u32_in]); (try simp (disch := omega) only [IntWalk.u8_in]); (try simp (disch := omega) only [IntWalk.i64_quo]); (try simp (disch := omega) only [IntWalk.rem_in]); refine hK _ ?_; clear hK K hA hB A B))
            refine can_nil ?_
            go_wp2_with fail
            go_roundw
            case measure => simp [slLen]; omega
            case rel =>
              refine ⟨i, j + 1, pre ++ [y], hi, by omega, ?_, ?_, ?_, ?_, ?_, Hb5.out⟩
              · have h1 := HA3.out.keep (w' := w5) fun b hb hlt => Hk5.out.block b hlt (by omega)
                rw [Hna.out] at h1 ⊢
                exact h1
              · have h1 := HB3.out.keep (w' := w5) fun b hb hlt => Hk5.out.block b hlt (by omega)
                rw [Hnb.out] at h1
                have h2 := rows_tail h1 (by omega) hbN
                rw [flat_tail encIt 4 encIt_len B j hjB] at h2
                have h3 : (B.drop (j + 1)).length = nb - 1 := by have := Hnb'.out; simp; omega
                rw [h3]
                exact h2
              · rw [flat_snoc, List.length_append, Hnp.out]
                exact Hown5.out
              · rw [← HR.out, Hmm.out, Hy.out]; simp
              · rw [List.length_append, Hnp.out]; simp; omega
          · have hxy := plt_tri hlt hgt
            have hv : pcmp x.pl y.pl = 0 := by unfold pcmp; rw [if_neg hlt, if_neg hgt]
            rw [hv]
            have hmm := merge_at_eq laterR A B i j hiA hjB (by rw [Hx.out, Hy.out]; exact hxy)
            rw [Hx.out, Hy.out] at hmm
            have hbt := HBet.out x (by rw [← Hx.out]; exact List.getElem_mem hiA) y (by rw [← Hy.out]; exact List.getElem_mem hjB) hxy w3.drew Hb3.out.drew
            obtain ⟨z, hz⟩ : ∃ z, laterR x y = z := ⟨_, rfl⟩
            rw [hz] at hbt hmm
            have HBt := Lib.hid (show Calls Tryz.prog 69 #[.agg #[.string ⟨x.key.toArray⟩, .int .i64 x.dev, .int .i64 x.seq, .int .i64 x.val], .agg #[.string ⟨y.key.toArray⟩, .int .i64 y.dev, .int .i64 y.seq, .int .i64 y.val]] w3.drew _ from hbt)
            have Hmm := Lib.hid hmm
            have HX3 := Lib.hid (fun w' (hh : Only (fun b => w.heap.size ≤ b) w3.drew w') => HXC.out w' ((Only.of_below (F := fun b => w.heap.size ≤ b) Hl3.out).drew.trans hh (fun i h => .inl h)))
            have r0 : ∀ w', LaterF (fun b => w.heap.size ≤ b) w3.drew w' → w'.cell? _ = _ := fun w' hh => (HX3.out w' hh).1.1; have r1 : ∀ w', LaterF (fun b => w.heap.size ≤ b) w3.drew w' → w'.cell? _ = _ := fun w' hh => (HX3.out w' hh).1.2.1; have r2 : ∀ w', LaterF (fun b => w.heap.size ≤ b) w3.drew w' → w'.cell? _ = _ := fun w' hh => (HX3.out w' hh).1.2.2.1; have r3 : ∀ w', LaterF (fun b => w.heap.size ≤ b) w3.drew w' → w'.cell? _ = _ := fun w' hh => (HX3.out w' hh).1.2.2.2
            have u0 : ∀ w', LaterF (fun b => w.heap.size ≤ b) w3.drew w' → w'.cell? _ = _ := fun w' hh => (HX3.out w' hh).2.1; have u1 : ∀ w', LaterF (fun b => w.heap.size ≤ b) w3.drew w' → w'.cell? _ = _ := fun w' hh => (HX3.out w' hh).2.2.1; have u2 : ∀ w', LaterF (fun b => w.heap.size ≤ b) w3.drew w' → w'.cell? _ = _ := fun w' hh => (HX3.out w' hh).2.2.2.1; have u3 : ∀ w', LaterF (fun b => w.heap.size ≤ b) w3.drew w' → w'.cell? _ = _ := fun w' hh => (HX3.out w' hh).2.2.2.2
            clear hv hlt hmm hgt hbt hxy
            repeat (first
              | (refine can_yes (v := ?_) rfl (wanted_none rfl) (fun w' hC => ?_) (fun K hK => ?_); rotate_left; (focus (go_simp; (try simp (disch := omega) only [IntWalk.i64_in]); (try simp (disch := omega) only [IntWalk.u32_in]); (try simp (disch := omega) only [IntWalk.u8_in]); (try simp (disch := omega) only [IntWalk.i64_quo]); (try simp (disch := omega) only [IntWalk.rem_in]); first | done | exact rfl)); go_simp; (try simp (disch := omega) only [IntWalk.i64_in]); (try simp (disch := omega) only [IntWalk.u32_in]); (try simp (disch := omega) only [IntWalk.u8_in]); (try simp (disch := omega) only [IntWalk.i64_quo]); (try simp (disch := omega) only [IntWalk.rem_in]); refine hK _ ?_; clear hK K)
              | (refine can_guard rfl (fun A B hA hB => ?_); go_simp; first | (refine hA ⟨?_, fun w' hC => ?_, fun K hK => ?_⟩; rotate_left; (focus (go_simp; (try simp (disch := omega) only [IntWalk.i64_in]); (try simp (disch := omega) only [IntWalk.u32_in]); (try simp (disch := omega) only [IntWalk.u8_in]); (try simp (disch := omega) only [IntWalk.i64_quo]); (try simp (disch := omega) only [IntWalk.rem_in]); first | done | exact rfl)); go_simp; (try simp (disch := omega) only [IntWalk.i64_in]); (try simp (disch := omega) only [IntWalk.u32_in]); (try simp (disch := omega) only [IntWalk.u8_in]); (try simp (disch := omega) only [IntWalk.i64_quo]); (try simp (disch := omega) only [IntWalk.rem_in]); refine hK _ ?_; clear hK K hA hB A B) | (refine hB (fun K hK => ?_); go_simp; (try simp (disch := omega) only [IntWalk.i64_in]); (try simp (disch := omega) only [IntWalk.u32_in]); (try simp (disch := omega) only [IntWalk.u8_in]); (try simp (disch := omega) only [IntWalk.i64_quo]); (try simp (disch := omega) only [IntWalk.rem_in]); refine hK _ ?_; clear hK K hA hB A B))
              | (refine can_guard_go rfl (fun A B hA hB => ?_); go_simp; refine hB (fun K hK => ?_); go_simp; (try simp (disch := omega) only [IntWalk.i64_in]); (try simp (disch := omega) only [IntWalk.u32_in]); (try simp (disch := omega) only [IntWalk.u8_in]); (try simp (disch := omega) only [IntWalk.i64_quo]); (try simp (disch := omega) only [IntWalk.rem_in]); refine hK _ ?_; clear hK K hA hB A B))
            refine can_nil ?_
            go_wp2_with fail
            refine wp_region_can (LaterF (fun b => w.heap.size ≤ b)) [(0, true), (1, true), (2, true), (3, true), (4, true), (5, true), (6, true), (7, true), (11, true), (12, true), (13, true), (14, true), (8, false), (9, false), (10, false), (15, true), (16, true), (17, true)] (by kernel_rfl) (by kernel_rfl) (laterF_refl _) (laterF_trans _) ?_
            repeat (first
              | (refine can_yes (v := ?_) rfl (wanted_none rfl) (fun w' hC => ?_) (fun K hK => ?_); rotate_left; (focus (go_simp; (try simp (disch := omega) only [IntWalk.i64_in]); (try simp (disch := omega) only [IntWalk.u32_in]); (try simp (disch := omega) only [IntWalk.u8_in]); (try simp (disch := omega) only [IntWalk.i64_quo]); (try simp (disch := omega) only [IntWalk.rem_in]); first | done | exact rfl)); go_simp; (try simp (disch := omega) only [IntWalk.i64_in]); (try simp (disch := omega) only [IntWalk.u32_in]); (try simp (disch := omega) only [IntWalk.u8_in]); (try simp (disch := omega) only [IntWalk.i64_quo]); (try simp (disch := omega) only [IntWalk.rem_in]); refine hK _ ?_; clear hK K)
              | (refine can_guard rfl (fun A B hA hB => ?_); go_simp; first | (refine hA ⟨?_, fun w' hC => ?_, fun K hK => ?_⟩; rotate_left; (focus (go_simp; (try simp (disch := omega) only [IntWalk.i64_in]); (try simp (disch := omega) only [IntWalk.u32_in]); (try simp (disch := omega) only [IntWalk.u8_in]); (try simp (disch := omega) only [IntWalk.i64_quo]); (try simp (disch := omega) only [IntWalk.rem_in]); first | done | exact rfl)); go_simp; (try simp (disch := omega) only [IntWalk.i64_in]); (try simp (disch := omega) only [IntWalk.u32_in]); (try simp (disch := omega) only [IntWalk.u8_in]); (try simp (disch := omega) only [IntWalk.i64_quo]); (try simp (disch := omega) only [IntWalk.rem_in]); refine hK _ ?_; clear hK K hA hB A B) | (refine hB (fun K hK => ?_); go_simp; (try simp (disch := omega) only [IntWalk.i64_in]); (try simp (disch := omega) only [IntWalk.u32_in]); (try simp (disch := omega) only [IntWalk.u8_in]); (try simp (disch := omega) only [IntWalk.i64_quo]); (try simp (disch := omega) only [IntWalk.rem_in]); refine hK _ ?_; clear hK K hA hB A B))
              | (refine can_guard_go rfl (fun A B hA hB => ?_); go_simp; refine hB (fun K hK => ?_); go_simp; (try simp (disch := omega) only [IntWalk.i64_in]); (try simp (disch := omega) only [IntWalk.u32_in]); (try simp (disch := omega) only [IntWalk.u8_in]); (try simp (disch := omega) only [IntWalk.i64_quo]); (try simp (disch := omega) only [IntWalk.rem_in]); refine hK _ ?_; clear hK K hA hB A B))
            generalize haN : (if c0 = 1 then some (⟨ba, oa, none⟩ : Addr) else some ⟨ba, oa + 4, none⟩) = aN at *
            generalize hbN : (if c1 = 1 then some (⟨bb, ob, none⟩ : Addr) else some ⟨bb, ob + 4, none⟩) = bN at *
            refine can_go rfl rfl (fun KK hK => ?_)
            go_simp
            refine HBt.out.mono ?_
            rintro e w4 ⟨rfl, hb4⟩
            refine ⟨_, rfl, LaterF.of_below hb4, hK _ _ ?_⟩
            clear hK KK HBt r0 r1 r2 r3 u0 u1 u2 u3
            go_simp
            simp only [itV]
            have hl4 : Later w3 w4 := (Below.refl _ _).drew.trans hb4
            have hb4' : Below w.heap.size w w4 := Hb3.out.trans (RowKit.Below.mono hl4 Hb3.out.size)
            obtain ⟨i0, t1, t2, t3, t4⟩ := info_parts infoItP
            have hO4 : w4.ownsRow w.heap.size 75 4 (.slice a9 np c9) np (pre.flatMap encIt) := by have := own_below HO3.out hl4; rw [Hnp.out] at this; exact this
            obtain ⟨v5, w5, hr5, hown5, hg5⟩ := run_append_one (P := Tryz.prog) w4 w.heap.size 28 75 Tryz.underlying28 t1 t2 t3 t4 rfl (by decide) (.slice a9 np c9) np _ hO4 #[.string ⟨z.key.toArray⟩, .int .i64 z.dev, .int .i64 z.seq, .int .i64 z.val] rfl (by simp [Value.oneCell']) (by unfold maxLen; omega) (by omega) hb4'.size
            obtain ⟨a5, c5, rfl⟩ := own_shape hown5
            have k1 : LaterF (fun b => w.heap.size ≤ b) w4 (w4.alloc (.cells #[.string ⟨z.key.toArray⟩, .int .i64 z.dev, .int .i64 z.seq, .int .i64 z.val] 75)) := LaterF.of_below (kept_alloc _ _)
            have hoA := own_below hO4 (kept_alloc w4 (.cells #[.string ⟨z.key.toArray⟩, .int .i64 z.dev, .int .i64 z.seq, .int .i64 z.val] 75))
            have k2 : LaterF (fun b => w.heap.size ≤ b) (w4.alloc (.cells #[.string ⟨z.key.toArray⟩, .int .i64 z.dev, .int .i64 z.seq, .int .i64 z.val] 75)) w5 := ⟨hg5.os, hg5.tape, hg5.output, hg5.size, fun q hq hn => hg5.block q hq (fun e => hn (hoA.lt q e.symm).1)⟩
            have hk5 : Only (fun b => w.heap.size ≤ b) w3 w5 := (Only.of_below (F := fun b => w.heap.size ≤ b) hl4).trans (Only.trans k1 k2 (fun i h => .inl h)) (fun i h => .inl h)
            have hb5 : Below w.heap.size w w5 := Hb3.out.trans (hk5.below (fun i h => h) Hb3.out.size)
            have Hown5 := Lib.hid hown5; have Hk5 := Lib.hid hk5; have Hb5 := Lib.hid hb5
            clear hown5 hg5 hoA hk5 hb5 t1 t2 t3 t4 hO4 hb4 hl4 hb4'
            refine can_go rfl rfl (fun KK hK => ?_)
            go_simp
            first | refine ⟨k1, hK _ _ ?_⟩ | refine hK _ _ ?_
            clear hK KK
            go_simp
            refine can_go rfl rfl (fun KK hK => ?_)
            go_simp
            first | refine ⟨k2, hK _ _ ?_⟩ | refine hK _ _ ?_
            clear hK KK
            go_simp
            repeat (first
              | (refine can_yes (v := ?_) rfl (wanted_none rfl) (fun w' hC => ?_) (fun K hK => ?_); rotate_left; (focus (go_simp; (try simp (disch := omega) only [IntWalk.i64_in]); (try simp (disch := omega) only [IntWalk.u32_in]); (try simp (disch := omega) only [IntWalk.u8_in]); (try simp (disch := omega) only [IntWalk.i64_quo]); (try simp (disch := omega) only [IntWalk.rem_in]); first | done | exact rfl)); go_simp; (try simp (disch := omega) only [IntWalk.i64_in]); (try simp (disch := omega) only [IntWalk.u32_in]); (try simp (disch := omega) only [IntWalk.u8_in]); (try simp (disch := omega) only [IntWalk.i64_quo]); (try simp (disch := omega) only [IntWalk.rem_in]); refine hK _ ?_; clear hK K)
              | (refine can_guard rfl (fun A B hA hB => ?_); go_simp; first | (refine hA ⟨?_, fun w' hC => ?_, fun K hK => ?_⟩; rotate_left; (focus (go_simp; (try simp (disch := omega) only [IntWalk.i64_in]); (try simp (disch := omega) only [IntWalk.u32_in]); (try simp (disch := omega) only [IntWalk.u8_in]); (try simp (disch := omega) only [IntWalk.i64_quo]); (try simp (disch := omega) only [IntWalk.rem_in]); first | done | exact rfl)); go_simp; (try simp (disch := omega) only [IntWalk.i64_in]); (try simp (disch := omega) only [IntWalk.u32_in]); (try simp (disch := omega) only [IntWalk.u8_in]); (try simp (disch := omega) only [IntWalk.i64_quo]); (try simp (disch := omega) only [IntWalk.rem_in]); refine hK _ ?_; clear hK K hA hB A B) | (refine hB (fun K hK => ?_); go_simp; (try simp (disch := omega) only [IntWalk.i64_in]); (try simp (disch := omega) only [IntWalk.u32_in]); (try simp (disch := omega) only [IntWalk.u8_in]); (try simp (disch := omega) only [IntWalk.i64_quo]); (try simp (disch := omega) only [IntWalk.rem_in]); refine hK _ ?_; clear hK K hA hB A B))
              | (refine can_guard_go rfl (fun A B hA hB => ?_); go_simp; refine hB (fun K hK => ?_); go_simp; (try simp (disch := omega) only [IntWalk.i64_in]); (try simp (disch := omega) only [IntWalk.u32_in]); (try simp (disch := omega) only [IntWalk.u8_in]); (try simp (disch := omega) only [IntWalk.i64_quo]); (try simp (disch := omega) only [IntWalk.rem_in]); refine hK _ ?_; clear hK K hA hB A B))
            refine can_nil ?_
            go_wp2_with fail
            go_roundw
            case measure => simp [slLen]; omega
            case rel =>
              refine ⟨i + 1, j + 1, pre ++ [z], by omega, by omega, ?_, ?_, ?_, ?_, ?_, Hb5.out⟩
              · have h1 := HA3.out.keep (w' := w5) fun b hb hlt => Hk5.out.block b hlt (by omega)
                rw [Hna.out] at h1
                have h2 := rows_tail h1 (by omega) haN
                rw [flat_tail encIt 4 encIt_len A i hiA] at h2
                have h3 : (A.drop (i + 1)).length = na - 1 := by have := Hna'.out; simp; omega
                rw [h3]
                exact h2
              · have h1 := HB3.out.keep (w' := w5) fun b hb hlt => Hk5.out.block b hlt (by omega)
                rw [Hnb.out] at h1
                have h2 := rows_tail h1 (by omega) hbN
                rw [flat_tail encIt 4 encIt_len B j hjB] at h2
                have h3 : (B.drop (j + 1)).length = nb - 1 := by have := Hnb'.out; simp; omega
                rw [h3]
                exact h2
              · rw [flat_snoc, List.length_append, Hnp.out]
                exact Hown5.out
              · rw [← HR.out, Hmm.out]; simp
              · rw [List.length_append, Hnp.out]; simp; omega
      · have hfin := merge_end (pl := RIt.pl) laterR A B i j (by have := Hnb'.out; omega)
        obtain ⟨i0, t1, t2, t3, t4⟩ := info_parts infoItP
        have hO := HO.out
        rw [Hnp.out] at hO
        have hA := HA.out
        rw [Hna.out] at hA
        have hB := HB.out
        rw [Hnb.out] at hB
        have Hi := Lib.hid hi; have Hj := Lib.hid hj
        obtain ⟨v5, w5, hr5, hown5, hg5⟩ := run_append_rows (P := Tryz.prog) wr w.heap.size 28 75 Tryz.underlying28 t1 t2 t3 t4 rfl (by decide) (.slice a9 np c9) np _ hO (fun b => b < w.heap.size) _ na _ hA (one_encIt _) (by have := Hna'.out; unfold maxLen; omega) (by have := Hna'.out; omega) Hbw.out.size
        obtain ⟨a5, c5, rfl⟩ := own_shape hown5
        have hb5 : Below w.heap.size wr w5 := Below.grownOwn hO hg5 Hbw.out.size (Nat.le_refl _)
        have hB5 := hB.keep (w' := w5) fun b hb hlt => hb5.block b hb
        obtain ⟨v6, w6, hr6, hown6, hg6⟩ := run_append_rows (P := Tryz.prog) w5 w.heap.size 28 75 Tryz.underlying28 t1 t2 t3 t4 rfl (by decide) (.slice a5 (np + na) c5) (np + na) _ hown5 (fun b => b < w.heap.size) _ nb _ hB5 (one_encIt _) (by have := Hna'.out; have := Hnb'.out; unfold maxLen; omega) (by have := Hna'.out; have := Hnb'.out; omega) (Nat.le_trans Hbw.out.size hb5.size)
        obtain ⟨a6, c6, rfl⟩ := own_shape hown6
        have hb6 : Below w.heap.size wr w6 := hb5.trans (Below.grownOwn hown5 hg6 (Nat.le_trans Hbw.out.size hb5.size) (Nat.le_refl _))
        have Hb6 := Lib.hid (Hbw.out.trans hb6)
        have Hown6 := Lib.hid (show w6.ownsRow w.heap.size 75 4 (.slice a6 (np + na + nb) c6) R.length (R.flatMap encIt) by
          rw [← HR.out, hfin]
          have h1 : (pre ++ (A.drop i ++ B.drop j)).length = np + na + nb := by rw [List.length_append, List.length_append, Hnp.out, Hna.out, Hnb.out]; omega
          rw [h1]
          simpa [List.append_assoc] using hown6)
        clear hb5 hb6 hown5 hown6 hg5 hg6 hB5 hA hB hO hfin t1 t2 t3 t4 hi hj
        go_wp2_with fail
        go_ret
        exact ⟨_, rfl, Hown6.out, Hb6.out⟩
    · have hfin := merge_end (pl := RIt.pl) laterR A B i j (by have := Hna'.out; omega)
      obtain ⟨i0, t1, t2, t3, t4⟩ := info_parts infoItP
      have hO := HO.out
      rw [Hnp.out] at hO
      have hA := HA.out
      rw [Hna.out] at hA
      have hB := HB.out
      rw [Hnb.out] at hB
      have Hi := Lib.hid hi; have Hj := Lib.hid hj
      obtain ⟨v5, w5, hr5, hown5, hg5⟩ := run_append_rows (P := Tryz.prog) wr w.heap.size 28 75 Tryz.underlying28 t1 t2 t3 t4 rfl (by decide) (.slice a9 np c9) np _ hO (fun b => b < w.heap.size) _ na _ hA (one_encIt _) (by have := Hna'.out; unfold maxLen; omega) (by have := Hna'.out; omega) Hbw.out.size
      obtain ⟨a5, c5, rfl⟩ := own_shape hown5
      have hb5 : Below w.heap.size wr w5 := Below.grownOwn hO hg5 Hbw.out.size (Nat.le_refl _)
      have hB5 := hB.keep (w' := w5) fun b hb hlt => hb5.block b hb
      obtain ⟨v6, w6, hr6, hown6, hg6⟩ := run_append_rows (P := Tryz.prog) w5 w.heap.size 28 75 Tryz.underlying28 t1 t2 t3 t4 rfl (by decide) (.slice a5 (np + na) c5) (np + na) _ hown5 (fun b => b < w.heap.size) _ nb _ hB5 (one_encIt _) (by have := Hna'.out; have := Hnb'.out; unfold maxLen; omega) (by have := Hna'.out; have := Hnb'.out; omega) (Nat.le_trans Hbw.out.size hb5.size)
      obtain ⟨a6, c6, rfl⟩ := own_shape hown6
      have hb6 : Below w.heap.size wr w6 := hb5.trans (Below.grownOwn hown5 hg6 (Nat.le_trans Hbw.out.size hb5.size) (Nat.le_refl _))
      have Hb6 := Lib.hid (Hbw.out.trans hb6)
      have Hown6 := Lib.hid (show w6.ownsRow w.heap.size 75 4 (.slice a6 (np + na + nb) c6) R.length (R.flatMap encIt) by
        rw [← HR.out, hfin]
        have h1 : (pre ++ (A.drop i ++ B.drop j)).length = np + na + nb := by rw [List.length_append, List.length_append, Hnp.out, Hna.out, Hnb.out]; omega
        rw [h1]
        simpa [List.append_assoc] using hown6)
      clear hb5 hb6 hown5 hown6 hg5 hg6 hB5 hA hB hO hfin t1 t2 t3 t4 hi hj
      go_wp2_with fail
      go_ret
      exact ⟨_, rfl, Hown6.out, Hb6.out⟩
set_option maxRecDepth 100000 in
set_option maxHeartbeats 6000000 in
theorem mergeIt_use (w : World) (nw : Nat) (now : Int) (F G : Blks) (va vb : Value) (A B : List RIt) (ha : Rows F w 4 va A.length (A.flatMap encIt)) (hb : Rows G w 4 vb B.length (B.flatMap encIt)) (hlA : A.length ≤ 1000000) (hlB : B.length ≤ 1000000)
    (hbet : ∀ x ∈ A, ∀ y ∈ B, RIt.pl x = RIt.pl y → ∀ W, Below w.heap.size w W → Calls Tryz.prog 57 #[itV x, itV y, .pointer (some ⟨nw, 0, none⟩)] W fun e w' => e = .returned (itV ((useBetter now) x y)) ∧ Below W.heap.size W w') :
    Calls Tryz.prog 56 #[va, vb, .func (.func 45) #[] #[], .func (.func 57) #[] #[.pointer (some ⟨nw, 0, none⟩)]] w fun e w' =>
      ∃ r, e = .returned r ∧ w'.ownsRow w.heap.size 75 4 r (mergeL RIt.pl (useBetter now) A B).length ((mergeL RIt.pl (useBetter now) A B).flatMap encIt) ∧ Below w.heap.size w w' := by
  replace ha := ha.mono (G := fun b => b < w.heap.size) fun b _ hlt => hlt
  replace hb := hb.mono (G := fun b => b < w.heap.size) fun b _ hlt => hlt
  obtain ⟨R, hR⟩ : ∃ R, mergeL RIt.pl (useBetter now) A B = R := ⟨_, rfl⟩
  rw [hR]
  have HS := Lib.hid (show MrgRel RIt.pl (useBetter now) encIt 4 75 w A B R va vb (.slice none 0 0) w from ⟨0, 0, [], by omega, by omega, by simpa using ha, by simpa using hb, World.ownsRow_nil _ _ _ _, by simpa using hR, by simp, Below.refl _ _⟩)
  have HBet := Lib.hid hbet
  obtain ⟨aa, ca, rfl, -⟩ := ha.shape
  obtain ⟨ab, cb, rfl, -⟩ := hb.shape
  clear ha hb hR hbet
  go_enter Tryz.func56, Tryz.ntmps56
  go_wp2_with fail
  go_loopw [0, 1, 9] (fun s0 s1 s9 wr => MrgRel RIt.pl (useBetter now) encIt 4 75 w A B R s0 s1 s9 wr) (fun s0 s1 _ _ => slLen s0 + slLen s1)
  case atStart => exact HS.out
  case round =>
    obtain ⟨i, j, pre, hi, hj, hA, hB, hown, hR, hpl, hbw⟩ := hrel
    obtain ⟨a0, c0, rfl, hc0, hm0⟩ := rows_len hA
    obtain ⟨a1, c1, rfl, hc1, hm1⟩ := rows_len hB
    obtain ⟨a9, c9, hs9⟩ := own_shape hown
    subst hs9
    obtain ⟨na, hna⟩ : ∃ na, (A.drop i).length = na := ⟨_, rfl⟩
    obtain ⟨nb, hnb⟩ : ∃ nb, (B.drop j).length = nb := ⟨_, rfl⟩
    obtain ⟨np, hnp⟩ : ∃ np, pre.length = np := ⟨_, rfl⟩
    have HA := Lib.hid hA; have HB := Lib.hid hB; have HO := Lib.hid hown; have HR := Lib.hid hR; have Hbw := Lib.hid hbw
    rw [hna] at hc0 ⊢
    rw [hnb] at hc1 ⊢
    rw [hnp] at hpl ⊢
    have Hna := Lib.hid hna; have Hnb := Lib.hid hnb; have Hnp := Lib.hid hnp
    have hna' : na = A.length - i := by rw [← hna]; simp
    have hnb' : nb = B.length - j := by rw [← hnb]; simp
    have Hna' := Lib.hid hna'; have Hnb' := Lib.hid hnb'
    clear hA hB hown hR hna hnb hnp hbw HS hna' hnb'
    unfold maxLen at hm0 hm1
    by_cases h0 : 0 < na
    · by_cases h1 : 0 < nb
      · have h0I : (0 : Int) < (na : Int) := by omega
        have h1I : (0 : Int) < (nb : Int) := by omega
        have h0I2 : (1 : Int) ≤ (na : Int) := by omega
        have h1I2 : (1 : Int) ≤ (nb : Int) := by omega
        have hiA : i < A.length := by have := Hna'.out; omega
        have hjB : j < B.length := by have := Hnb'.out; omega
        have hA := HA.out
        have hB := HB.out
        obtain ⟨ba, oa, rfl, hFa, hlta, hca⟩ := it_cell hA (by rw [Hna.out]; exact h0)
        obtain ⟨bb, ob, rfl, hFb, hltb, hcb⟩ := it_cell hB (by rw [Hnb.out]; exact h1)
        obtain ⟨x0, x1, x2, x3⟩ := hca 0 (by rw [Hna.out]; exact h0)
        obtain ⟨y0, y1, y2, y3⟩ := hcb 0 (by rw [Hnb.out]; exact h1)
        obtain ⟨x, hx⟩ : ∃ x, A[i] = x := ⟨_, rfl⟩
        obtain ⟨y, hy⟩ : ∃ y, B[j] = y := ⟨_, rfl⟩
        have hx' : (A.drop i)[0]'(by rw [Hna.out]; exact h0) = x := by rw [List.getElem_drop]; simpa using hx
        have hy' : (B.drop j)[0]'(by rw [Hnb.out]; exact h1) = y := by rw [List.getElem_drop]; simpa using hy
        rw [hx'] at x0 x1 x2 x3
        rw [hy'] at y0 y1 y2 y3
        simp only [Nat.zero_mul, Nat.add_zero] at x0 x1 x2 x3 y0 y1 y2 y3
        have HXC := Lib.hid (show ∀ w', Only (fun b => w.heap.size ≤ b) wr w' → (w'.cell? ⟨ba, oa, none⟩ = some (.string ⟨x.key.toArray⟩) ∧ w'.cell? ⟨ba, oa + 1, none⟩ = some (.int .i64 x.dev) ∧ w'.cell? ⟨ba, oa + 2, none⟩ = some (.int .i64 x.seq) ∧ w'.cell? ⟨ba, oa + 3, none⟩ = some (.int .i64 x.val)) ∧ w'.cell? ⟨bb, ob, none⟩ = some (.string ⟨y.key.toArray⟩) ∧ w'.cell? ⟨bb, ob + 1, none⟩ = some (.int .i64 y.dev) ∧ w'.cell? ⟨bb, ob + 2, none⟩ = some (.int .i64 y.seq) ∧ w'.cell? ⟨bb, ob + 3, none⟩ = some (.int .i64 y.val) from fun w' hh => by
          have hk : ∀ (q : Nat) u, wr.cell? ⟨ba, q, none⟩ = some u → w'.cell? ⟨ba, q, none⟩ = some u := fun q u h => by
            have hb : w'.heap[ba]? = wr.heap[ba]? := hh.block ba hlta (by omega)
            unfold World.cell? at *
            rw [hb]; exact h
          have hk2 : ∀ (q : Nat) u, wr.cell? ⟨bb, q, none⟩ = some u → w'.cell? ⟨bb, q, none⟩ = some u := fun q u h => by
            have hb : w'.heap[bb]? = wr.heap[bb]? := hh.block bb hltb (by omega)
            unfold World.cell? at *
            rw [hb]; exact h
          exact ⟨⟨hk _ _ x0, hk _ _ x1, hk _ _ x2, hk _ _ x3⟩, hk2 _ _ y0, hk2 _ _ y1, hk2 _ _ y2, hk2 _ _ y3⟩)
        have p0 : ∀ w', Later wr.drew w' → w'.cell? _ = _ := fun w' hh => laterC x0 hh
        have p1 : ∀ w', Later wr.drew w' → w'.cell? _ = _ := fun w' hh => laterC x1 hh
        have p2 : ∀ w', Later wr.drew w' → w'.cell? _ = _ := fun w' hh => laterC x2 hh
        have q0 : ∀ w', Later wr.drew w' → w'.cell? _ = _ := fun w' hh => laterC y0 hh
        have q1 : ∀ w', Later wr.drew w' → w'.cell? _ = _ := fun w' hh => laterC y1 hh
        have q2 : ∀ w', Later wr.drew w' → w'.cell? _ = _ := fun w' hh => laterC y2 hh
        have p3 : ∀ w', Later wr.drew w' → w'.cell? _ = _ := fun w' hh => laterC x3 hh; have q3 : ∀ w', Later wr.drew w' → w'.cell? _ = _ := fun w' hh => laterC y3 hh
        have HPX := Lib.hid (fun W => show Calls Tryz.prog 45 #[.agg #[.string ⟨x.key.toArray⟩, .int .i64 x.dev, .int .i64 x.seq, .int .i64 x.val]] W _ from itPlace_any W x)
        have HPY := Lib.hid (fun W => show Calls Tryz.prog 45 #[.agg #[.string ⟨y.key.toArray⟩, .int .i64 y.dev, .int .i64 y.seq, .int .i64 y.val]] W _ from itPlace_any W y)
        have HC := Lib.hid (fun W => compare_any W x.pl y.pl)
        have Hx := Lib.hid hx; have Hy := Lib.hid hy
        clear hca hcb hx hy hx' hy' x0 x1 x2 x3 y0 y1 y2 y3 hA hB
        go_wp2_with fail
        refine wp_region_can Later [(0, true), (1, true), (2, true), (3, true), (5, true), (6, true), (7, true), (8, true), (4, false), (9, false), (10, false), (11, true)] (by kernel_rfl) (by kernel_rfl) later_refl later_trans ?_
        repeat (first
          | (refine can_yes (v := ?_) rfl (wanted_none rfl) (fun w' hC => ?_) (fun K hK => ?_); rotate_left; (focus (go_simp; (try simp (disch := omega) only [IntWalk.i64_in]); (try simp (disch := omega) only [IntWalk.u32_in]); (try simp (disch := omega) only [IntWalk.u8_in]); (try simp (disch := omega) only [IntWalk.i64_quo]); (try simp (disch := omega) only [IntWalk.rem_in]); first | done | exact rfl)); go_simp; (try simp (disch := omega) only [IntWalk.i64_in]); (try simp (disch := omega) only [IntWalk.u32_in]); (try simp (disch := omega) only [IntWalk.u8_in]); (try simp (disch := omega) only [IntWalk.i64_quo]); (try simp (disch := omega) only [IntWalk.rem_in]); refine hK _ ?_; clear hK K)
          | (refine can_guard rfl (fun A B hA hB => ?_); go_simp; first | (refine hA ⟨?_, fun w' hC => ?_, fun K hK => ?_⟩; rotate_left; (focus (go_simp; (try simp (disch := omega) only [IntWalk.i64_in]); (try simp (disch := omega) only [IntWalk.u32_in]); (try simp (disch := omega) only [IntWalk.u8_in]); (try simp (disch := omega) only [IntWalk.i64_quo]); (try simp (disch := omega) only [IntWalk.rem_in]); first | done | exact rfl)); go_simp; (try simp (disch := omega) only [IntWalk.i64_in]); (try simp (disch := omega) only [IntWalk.u32_in]); (try simp (disch := omega) only [IntWalk.u8_in]); (try simp (disch := omega) only [IntWalk.i64_quo]); (try simp (disch := omega) only [IntWalk.rem_in]); refine hK _ ?_; clear hK K hA hB A B) | (refine hB (fun K hK => ?_); go_simp; (try simp (disch := omega) only [IntWalk.i64_in]); (try simp (disch := omega) only [IntWalk.u32_in]); (try simp (disch := omega) only [IntWalk.u8_in]); (try simp (disch := omega) only [IntWalk.i64_quo]); (try simp (disch := omega) only [IntWalk.rem_in]); refine hK _ ?_; clear hK K hA hB A B))
          | (refine can_guard_go rfl (fun A B hA hB => ?_); go_simp; refine hB (fun K hK => ?_); go_simp; (try simp (disch := omega) only [IntWalk.i64_in]); (try simp (disch := omega) only [IntWalk.u32_in]); (try simp (disch := omega) only [IntWalk.u8_in]); (try simp (disch := omega) only [IntWalk.i64_quo]); (try simp (disch := omega) only [IntWalk.rem_in]); refine hK _ ?_; clear hK K hA hB A B))
        refine can_go rfl rfl (fun KK hK => ?_)
        go_simp
        refine (HPX.out _).mono ?_
        rintro e w1 ⟨rfl, hb1⟩
        refine ⟨_, rfl, hb1, hK _ _ ?_⟩
        clear hK KK HPX p0 p1 p2 q0 q1 q2 p3 q3
        go_simp
        have Hl1 := Lib.hid (show Later wr w1 from (Below.refl _ _).drew.trans hb1)
        clear hb1
        repeat (first
          | (refine can_yes (v := ?_) rfl (wanted_none rfl) (fun w' hC => ?_) (fun K hK => ?_); rotate_left; (focus (go_simp; (try simp (disch := omega) only [IntWalk.i64_in]); (try simp (disch := omega) only [IntWalk.u32_in]); (try simp (disch := omega) only [IntWalk.u8_in]); (try simp (disch := omega) only [IntWalk.i64_quo]); (try simp (disch := omega) only [IntWalk.rem_in]); first | done | exact rfl)); go_simp; (try simp (disch := omega) only [IntWalk.i64_in]); (try simp (disch := omega) only [IntWalk.u32_in]); (try simp (disch := omega) only [IntWalk.u8_in]); (try simp (disch := omega) only [IntWalk.i64_quo]); (try simp (disch := omega) only [IntWalk.rem_in]); refine hK _ ?_; clear hK K)
          | (refine can_guard rfl (fun A B hA hB => ?_); go_simp; first | (refine hA ⟨?_, fun w' hC => ?_, fun K hK => ?_⟩; rotate_left; (focus (go_simp; (try simp (disch := omega) only [IntWalk.i64_in]); (try simp (disch := omega) only [IntWalk.u32_in]); (try simp (disch := omega) only [IntWalk.u8_in]); (try simp (disch := omega) only [IntWalk.i64_quo]); (try simp (disch := omega) only [IntWalk.rem_in]); first | done | exact rfl)); go_simp; (try simp (disch := omega) only [IntWalk.i64_in]); (try simp (disch := omega) only [IntWalk.u32_in]); (try simp (disch := omega) only [IntWalk.u8_in]); (try simp (disch := omega) only [IntWalk.i64_quo]); (try simp (disch := omega) only [IntWalk.rem_in]); refine hK _ ?_; clear hK K hA hB A B) | (refine hB (fun K hK => ?_); go_simp; (try simp (disch := omega) only [IntWalk.i64_in]); (try simp (disch := omega) only [IntWalk.u32_in]); (try simp (disch := omega) only [IntWalk.u8_in]); (try simp (disch := omega) only [IntWalk.i64_quo]); (try simp (disch := omega) only [IntWalk.rem_in]); refine hK _ ?_; clear hK K hA hB A B))
          | (refine can_guard_go rfl (fun A B hA hB => ?_); go_simp; refine hB (fun K hK => ?_); go_simp; (try simp (disch := omega) only [IntWalk.i64_in]); (try simp (disch := omega) only [IntWalk.u32_in]); (try simp (disch := omega) only [IntWalk.u8_in]); (try simp (disch := omega) only [IntWalk.i64_quo]); (try simp (disch := omega) only [IntWalk.rem_in]); refine hK _ ?_; clear hK K hA hB A B))
        refine can_go rfl rfl (fun KK hK => ?_)
        go_simp
        refine (HPY.out _).mono ?_
        rintro e w2 ⟨rfl, hb2⟩
        refine ⟨_, rfl, hb2, hK _ _ ?_⟩
        clear hK KK HPY
        go_simp
        have Hl2 := Lib.hid (later_trans _ _ _ Hl1.out hb2)
        clear hb2 Hl1
        repeat (first
          | (refine can_yes (v := ?_) rfl (wanted_none rfl) (fun w' hC => ?_) (fun K hK => ?_); rotate_left; (focus (go_simp; (try simp (disch := omega) only [IntWalk.i64_in]); (try simp (disch := omega) only [IntWalk.u32_in]); (try simp (disch := omega) only [IntWalk.u8_in]); (try simp (disch := omega) only [IntWalk.i64_quo]); (try simp (disch := omega) only [IntWalk.rem_in]); first | done | exact rfl)); go_simp; (try simp (disch := omega) only [IntWalk.i64_in]); (try simp (disch := omega) only [IntWalk.u32_in]); (try simp (disch := omega) only [IntWalk.u8_in]); (try simp (disch := omega) only [IntWalk.i64_quo]); (try simp (disch := omega) only [IntWalk.rem_in]); refine hK _ ?_; clear hK K)
          | (refine can_guard rfl (fun A B hA hB => ?_); go_simp; first | (refine hA ⟨?_, fun w' hC => ?_, fun K hK => ?_⟩; rotate_left; (focus (go_simp; (try simp (disch := omega) only [IntWalk.i64_in]); (try simp (disch := omega) only [IntWalk.u32_in]); (try simp (disch := omega) only [IntWalk.u8_in]); (try simp (disch := omega) only [IntWalk.i64_quo]); (try simp (disch := omega) only [IntWalk.rem_in]); first | done | exact rfl)); go_simp; (try simp (disch := omega) only [IntWalk.i64_in]); (try simp (disch := omega) only [IntWalk.u32_in]); (try simp (disch := omega) only [IntWalk.u8_in]); (try simp (disch := omega) only [IntWalk.i64_quo]); (try simp (disch := omega) only [IntWalk.rem_in]); refine hK _ ?_; clear hK K hA hB A B) | (refine hB (fun K hK => ?_); go_simp; (try simp (disch := omega) only [IntWalk.i64_in]); (try simp (disch := omega) only [IntWalk.u32_in]); (try simp (disch := omega) only [IntWalk.u8_in]); (try simp (disch := omega) only [IntWalk.i64_quo]); (try simp (disch := omega) only [IntWalk.rem_in]); refine hK _ ?_; clear hK K hA hB A B))
          | (refine can_guard_go rfl (fun A B hA hB => ?_); go_simp; refine hB (fun K hK => ?_); go_simp; (try simp (disch := omega) only [IntWalk.i64_in]); (try simp (disch := omega) only [IntWalk.u32_in]); (try simp (disch := omega) only [IntWalk.u8_in]); (try simp (disch := omega) only [IntWalk.i64_quo]); (try simp (disch := omega) only [IntWalk.rem_in]); refine hK _ ?_; clear hK K hA hB A B))
        refine can_go rfl rfl (fun KK hK => ?_)
        go_simp
        refine (HC.out _).mono ?_
        rintro e w3 ⟨rfl, hb3⟩
        refine ⟨_, rfl, hb3, hK _ _ ?_⟩
        clear hK KK HC
        go_simp
        have hl3 : Later wr w3 := later_trans _ _ _ Hl2.out hb3
        have hb3' : Below w.heap.size w w3 := Hbw.out.trans (RowKit.Below.mono hl3 Hbw.out.size)
        have hF3 : Only (fun b => w.heap.size ≤ b) wr w3 := Only.of_below hl3
        obtain ⟨⟨e0, e1, e2, e3⟩, g0, g1, g2, g3⟩ := HXC.out w3 hF3
        have HO3 := Lib.hid (own_below HO.out hl3)
        have HA3 := Lib.hid (HA.out.keep (w' := w3) fun b hb hlt => RowKit.Below.block hl3 b hlt)
        have HB3 := Lib.hid (HB.out.keep (w' := w3) fun b hb hlt => RowKit.Below.block hl3 b hlt)
        have Hl3 := Lib.hid hl3; have Hb3 := Lib.hid hb3'
        clear hb3 Hl2 hb3' hl3 hF3
        by_cases hlt : plt x.pl y.pl
        · have hv : pcmp x.pl y.pl = -1 := by unfold pcmp; rw [if_pos hlt]
          rw [hv]
          have hmm := merge_at_lt (useBetter now) A B i j hiA hjB (by rw [Hx.out, Hy.out]; exact hlt)
          have Hmm := Lib.hid hmm
          clear hv hlt hmm
          repeat (first
            | (refine can_yes (v := ?_) rfl (wanted_none rfl) (fun w' hC => ?_) (fun K hK => ?_); rotate_left; (focus (go_simp; (try simp (disch := omega) only [IntWalk.i64_in]); (try simp (disch := omega) only [IntWalk.u32_in]); (try simp (disch := omega) only [IntWalk.u8_in]); (try simp (disch := omega) only [IntWalk.i64_quo]); (try simp (disch := omega) only [IntWalk.rem_in]); first | done | exact rfl)); go_simp; (try simp (disch := omega) only [IntWalk.i64_in]); (try simp (disch := omega) only [IntWalk.u32_in]); (try simp (disch := omega) only [IntWalk.u8_in]); (try simp (disch := omega) only [IntWalk.i64_quo]); (try simp (disch := omega) only [IntWalk.rem_in]); refine hK _ ?_; clear hK K)
            | (refine can_guard rfl (fun A B hA hB => ?_); go_simp; first | (refine hA ⟨?_, fun w' hC => ?_, fun K hK => ?_⟩; rotate_left; (focus (go_simp; (try simp (disch := omega) only [IntWalk.i64_in]); (try simp (disch := omega) only [IntWalk.u32_in]); (try simp (disch := omega) only [IntWalk.u8_in]); (try simp (disch := omega) only [IntWalk.i64_quo]); (try simp (disch := omega) only [IntWalk.rem_in]); first | done | exact rfl)); go_simp; (try simp (disch := omega) only [IntWalk.i64_in]); (try simp (disch := omega) only [IntWalk.u32_in]); (try simp (disch := omega) only [IntWalk.u8_in]); (try simp (disch := omega) only [IntWalk.i64_quo]); (try simp (disch := omega) only [IntWalk.rem_in]); refine hK _ ?_; clear hK K hA hB A B) | (refine hB (fun K hK => ?_); go_simp; (try simp (disch := omega) only [IntWalk.i64_in]); (try simp (disch := omega) only [IntWalk.u32_in]); (try simp (disch := omega) only [IntWalk.u8_in]); (try simp (disch := omega) only [IntWalk.i64_quo]); (try simp (disch := omega) only [IntWalk.rem_in]); refine hK _ ?_; clear hK K hA hB A B))
            | (refine can_guard_go rfl (fun A B hA hB => ?_); go_simp; refine hB (fun K hK => ?_); go_simp; (try simp (disch := omega) only [IntWalk.i64_in]); (try simp (disch := omega) only [IntWalk.u32_in]); (try simp (disch := omega) only [IntWalk.u8_in]); (try simp (disch := omega) only [IntWalk.i64_quo]); (try simp (disch := omega) only [IntWalk.rem_in]); refine hK _ ?_; clear hK K hA hB A B))
          refine can_nil ?_
          have HX3 := Lib.hid (fun w' (hh : Only (fun b => w.heap.size ≤ b) w3.drew w') => HXC.out w' ((Only.of_below (F := fun b => w.heap.size ≤ b) Hl3.out).drew.trans hh (fun i h => .inl h)))
          obtain ⟨i0, t1, t2, t3, t4⟩ := info_parts infoItP
          have hO3 : w3.drew.ownsRow w.heap.size 75 4 (.slice a9 np c9) np (pre.flatMap encIt) := by have := HO3.out; rw [Hnp.out] at this; exact this
          obtain ⟨v5, w5, hr5, hown5, hg5⟩ := run_append_one (P := Tryz.prog) w3.drew w.heap.size 28 75 Tryz.underlying28 t1 t2 t3 t4 rfl (by decide) (.slice a9 np c9) np _ hO3 #[.string ⟨x.key.toArray⟩, .int .i64 x.dev, .int .i64 x.seq, .int .i64 x.val] rfl (by simp [Value.oneCell']) (by unfold maxLen; omega) (by omega) (show w.heap.size ≤ w3.heap.size from Hb3.out.size)
          obtain ⟨a5, c5, rfl⟩ := own_shape hown5
          have k1 : LaterF (fun b => w.heap.size ≤ b) w3.drew (w3.drew.alloc (.cells #[.string ⟨x.key.toArray⟩, .int .i64 x.dev, .int .i64 x.seq, .int .i64 x.val] 75)) := LaterF.of_below (kept_alloc _ _)
          have hoA := own_below hO3 (kept_alloc w3.drew (.cells #[.string ⟨x.key.toArray⟩, .int .i64 x.dev, .int .i64 x.seq, .int .i64 x.val] 75))
          have k2 : LaterF (fun b => w.heap.size ≤ b) (w3.drew.alloc (.cells #[.string ⟨x.key.toArray⟩, .int .i64 x.dev, .int .i64 x.seq, .int .i64 x.val] 75)) w5 := ⟨hg5.os, hg5.tape, hg5.output, hg5.size, fun q hq hn => hg5.block q hq (fun e => hn (hoA.lt q e.symm).1)⟩
          have hk5 : Only (fun b => w.heap.size ≤ b) w3 w5 := (Only.of_below (F := fun b => w.heap.size ≤ b) ((Below.refl _ _).drew)).trans (Only.trans k1 k2 (fun i h => .inl h)) (fun i h => .inl h)
          have hb5 : Below w.heap.size w w5 := Hb3.out.trans (hk5.below (fun i h => h) Hb3.out.size)
          obtain ⟨wz, hwz⟩ : ∃ wz, wz = w3.drew.alloc (.cells #[.string ⟨x.key.toArray⟩, .int .i64 x.dev, .int .i64 x.seq, .int .i64 x.val] 75) := ⟨_, rfl⟩
          rw [← hwz] at hr5 k1 k2
          have hr5' : (AP #[28, 28] 28 #[.slice a9 np c9, .slice (some ⟨w3.heap.size, 0, none⟩) 1 1]).run Tryz.prog wz = .ok (.slice a5 (np + 1) c5) w5 := hr5
          have Hown5 := Lib.hid hown5; have Hk5 := Lib.hid hk5; have Hb5 := Lib.hid hb5
          have r0 : ∀ w', LaterF (fun b => w.heap.size ≤ b) w3.drew w' → w'.cell? _ = _ := fun w' hh => (HX3.out w' hh).1.1; have r1 : ∀ w', LaterF (fun b => w.heap.size ≤ b) w3.drew w' → w'.cell? _ = _ := fun w' hh => (HX3.out w' hh).1.2.1; have r2 : ∀ w', LaterF (fun b => w.heap.size ≤ b) w3.drew w' → w'.cell? _ = _ := fun w' hh => (HX3.out w' hh).1.2.2.1; have r3 : ∀ w', LaterF (fun b => w.heap.size ≤ b) w3.drew w' → w'.cell? _ = _ := fun w' hh => (HX3.out w' hh).1.2.2.2
          have Hwz := Lib.hid hwz
          clear hown5 hg5 hoA hk5 hb5 hwz hr5 t1 t2 t3 t4 hO3
          go_wp2_with fail
          refine wp_region_can (LaterF (fun b => w.heap.size ≤ b)) [(0, true), (1, true), (2, true), (3, true), (6, true), (7, true), (4, false), (5, false), (8, true), (9, true)] (by kernel_rfl) (by kernel_rfl) (laterF_refl _) (laterF_trans _) ?_
          repeat (first
            | (refine can_yes (v := ?_) rfl (wanted_none rfl) (fun w' hC => ?_) (fun K hK => ?_); rotate_left; (focus (go_simp; (try simp (disch := omega) only [IntWalk.i64_in]); (try simp (disch := omega) only [IntWalk.u32_in]); (try simp (disch := omega) only [IntWalk.u8_in]); (try simp (disch := omega) only [IntWalk.i64_quo]); (try simp (disch := omega) only [IntWalk.rem_in]); first | done | exact rfl)); go_simp; (try simp (disch := omega) only [IntWalk.i64_in]); (try simp (disch := omega) only [IntWalk.u32_in]); (try simp (disch := omega) only [IntWalk.u8_in]); (try simp (disch := omega) only [IntWalk.i64_quo]); (try simp (disch := omega) only [IntWalk.rem_in]); refine hK _ ?_; clear hK K)
            | (refine can_guard rfl (fun A B hA hB => ?_); go_simp; first | (refine hA ⟨?_, fun w' hC => ?_, fun K hK => ?_⟩; rotate_left; (focus (go_simp; (try simp (disch := omega) only [IntWalk.i64_in]); (try simp (disch := omega) only [IntWalk.u32_in]); (try simp (disch := omega) only [IntWalk.u8_in]); (try simp (disch := omega) only [IntWalk.i64_quo]); (try simp (disch := omega) only [IntWalk.rem_in]); first | done | exact rfl)); go_simp; (try simp (disch := omega) only [IntWalk.i64_in]); (try simp (disch := omega) only [IntWalk.u32_in]); (try simp (disch := omega) only [IntWalk.u8_in]); (try simp (disch := omega) only [IntWalk.i64_quo]); (try simp (disch := omega) only [IntWalk.rem_in]); refine hK _ ?_; clear hK K hA hB A B) | (refine hB (fun K hK => ?_); go_simp; (try simp (disch := omega) only [IntWalk.i64_in]); (try simp (disch := omega) only [IntWalk.u32_in]); (try simp (disch := omega) only [IntWalk.u8_in]); (try simp (disch := omega) only [IntWalk.i64_quo]); (try simp (disch := omega) only [IntWalk.rem_in]); refine hK _ ?_; clear hK K hA hB A B))
            | (refine can_guard_go rfl (fun A B hA hB => ?_); go_simp; refine hB (fun K hK => ?_); go_simp; (try simp (disch := omega) only [IntWalk.i64_in]); (try simp (disch := omega) only [IntWalk.u32_in]); (try simp (disch := omega) only [IntWalk.u8_in]); (try simp (disch := omega) only [IntWalk.i64_quo]); (try simp (disch := omega) only [IntWalk.rem_in]); refine hK _ ?_; clear hK K hA hB A B))
          generalize haN : (if c0 = 1 then some (⟨ba, oa, none⟩ : Addr) else some ⟨ba, oa + 4, none⟩) = aN at *
          refine can_go rfl rfl (fun KK hK => ?_)
          go_simp
          rw [show (w3.alloc (.cells #[.string ⟨x.key.toArray⟩, .int .i64 x.dev, .int .i64 x.seq, .int .i64 x.val] 75)).drew = wz from Hwz.out.symm]
          first | refine ⟨k1, hK _ _ ?_⟩ | refine hK _ _ ?_
          clear hK KK
          go_simp
          refine can_go rfl rfl (fun KK hK => ?_)
          go_simp
          first | refine ⟨k2, hK _ _ ?_⟩ | refine hK _ _ ?_
          clear hK KK r0 r1 r2 r3
          go_simp
          repeat (first
            | (refine can_yes (v := ?_) rfl (wanted_none rfl) (fun w' hC => ?_) (fun K hK => ?_); rotate_left; (focus (go_simp; (try simp (disch := omega) only [IntWalk.i64_in]); (try simp (disch := omega) only [IntWalk.u32_in]); (try simp (disch := omega) only [IntWalk.u8_in]); (try simp (disch := omega) only [IntWalk.i64_quo]); (try simp (disch := omega) only [IntWalk.rem_in]); first | done | exact rfl)); go_simp; (try simp (disch := omega) only [IntWalk.i64_in]); (try simp (disch := omega) only [IntWalk.u32_in]); (try simp (disch := omega) only [IntWalk.u8_in]); (try simp (disch := omega) only [IntWalk.i64_quo]); (try simp (disch := omega) only [IntWalk.rem_in]); refine hK _ ?_; clear hK K)
            | (refine can_guard rfl (fun A B hA hB => ?_); go_simp; first | (refine hA ⟨?_, fun w' hC => ?_, fun K hK => ?_⟩; rotate_left; (focus (go_simp; (try simp (disch := omega) only [IntWalk.i64_in]); (try simp (disch := omega) only [IntWalk.u32_in]); (try simp (disch := omega) only [IntWalk.u8_in]); (try simp (disch := omega) only [IntWalk.i64_quo]); (try simp (disch := omega) only [IntWalk.rem_in]); first | done | exact rfl)); go_simp; (try simp (disch := omega) only [IntWalk.i64_in]); (try simp (disch := omega) only [IntWalk.u32_in]); (try simp (disch := omega) only [IntWalk.u8_in]); (try simp (disch := omega) only [IntWalk.i64_quo]); (try simp (disch := omega) only [IntWalk.rem_in]); refine hK _ ?_; clear hK K hA hB A B) | (refine hB (fun K hK => ?_); go_simp; (try simp (disch := omega) only [IntWalk.i64_in]); (try simp (disch := omega) only [IntWalk.u32_in]); (try simp (disch := omega) only [IntWalk.u8_in]); (try simp (disch := omega) only [IntWalk.i64_quo]); (try simp (disch := omega) only [IntWalk.rem_in]); refine hK _ ?_; clear hK K hA hB A B))
            | (refine can_guard_go rfl (fun A B hA hB => ?_); go_simp; refine hB (fun K hK => ?_); go_simp; (try simp (disch := omega) only [IntWalk.i64_in]); (try simp (disch := omega) only [IntWalk.u32_in]); (try simp (disch := omega) only [IntWalk.u8_in]); (try simp (disch := omega) only [IntWalk.i64_quo]); (try simp (disch := omega) only [IntWalk.rem_in]); refine hK _ ?_; clear hK K hA hB A B))
          refine can_nil ?_
          go_wp2_with fail
          go_roundw
          case measure => simp [slLen]; omega
          case rel =>
            refine ⟨i + 1, j, pre ++ [x], by omega, hj, ?_, ?_, ?_, ?_, ?_, Hb5.out⟩
            · have h1 := HA3.out.keep (w' := w5) fun b hb hlt => Hk5.out.block b hlt (by omega)
              rw [Hna.out] at h1
              have h2 := rows_tail h1 (by omega) haN
              rw [flat_tail encIt 4 encIt_len A i hiA] at h2
              have h3 : (A.drop (i + 1)).length = na - 1 := by have := Hna'.out; simp; omega
              rw [h3]
              exact h2
            · have h1 := HB3.out.keep (w' := w5) fun b hb hlt => Hk5.out.block b hlt (by omega)
              rw [Hnb.out] at h1 ⊢
              exact h1
            · rw [flat_snoc, List.length_append, Hnp.out]
              exact Hown5.out
            · rw [← HR.out, Hmm.out, Hx.out]; simp
            · rw [List.length_append, Hnp.out]; simp; omega
        · by_cases hgt : plt y.pl x.pl
          · have hv : pcmp x.pl y.pl = 1 := by unfold pcmp; rw [if_neg hlt, if_pos hgt]
            rw [hv]
            have hmm := merge_at_gt (useBetter now) A B i j hiA hjB (by rw [Hx.out, Hy.out]; exact hgt)
            have Hmm := Lib.hid hmm
            clear hv hlt hmm hgt
            repeat (first
              | (refine can_yes (v := ?_) rfl (wanted_none rfl) (fun w' hC => ?_) (fun K hK => ?_); rotate_left; (focus (go_simp; (try simp (disch := omega) only [IntWalk.i64_in]); (try simp (disch := omega) only [IntWalk.u32_in]); (try simp (disch := omega) only [IntWalk.u8_in]); (try simp (disch := omega) only [IntWalk.i64_quo]); (try simp (disch := omega) only [IntWalk.rem_in]); first | done | exact rfl)); go_simp; (try simp (disch := omega) only [IntWalk.i64_in]); (try simp (disch := omega) only [IntWalk.u32_in]); (try simp (disch := omega) only [IntWalk.u8_in]); (try simp (disch := omega) only [IntWalk.i64_quo]); (try simp (disch := omega) only [IntWalk.rem_in]); refine hK _ ?_; clear hK K)
              | (refine can_guard rfl (fun A B hA hB => ?_); go_simp; first | (refine hA ⟨?_, fun w' hC => ?_, fun K hK => ?_⟩; rotate_left; (focus (go_simp; (try simp (disch := omega) only [IntWalk.i64_in]); (try simp (disch := omega) only [IntWalk.u32_in]); (try simp (disch := omega) only [IntWalk.u8_in]); (try simp (disch := omega) only [IntWalk.i64_quo]); (try simp (disch := omega) only [IntWalk.rem_in]); first | done | exact rfl)); go_simp; (try simp (disch := omega) only [IntWalk.i64_in]); (try simp (disch := omega) only [IntWalk.u32_in]); (try simp (disch := omega) only [IntWalk.u8_in]); (try simp (disch := omega) only [IntWalk.i64_quo]); (try simp (disch := omega) only [IntWalk.rem_in]); refine hK _ ?_; clear hK K hA hB A B) | (refine hB (fun K hK => ?_); go_simp; (try simp (disch := omega) only [IntWalk.i64_in]); (try simp (disch := omega) only [IntWalk.u32_in]); (try simp (disch := omega) only [IntWalk.u8_in]); (try simp (disch := omega) only [IntWalk.i64_quo]); (try simp (disch := omega) only [IntWalk.rem_in]); refine hK _ ?_; clear hK K hA hB A B))
              | (refine can_guard_go rfl (fun A B hA hB => ?_); go_simp; refine hB (fun K hK => ?_); go_simp; (try simp (disch := omega) only [IntWalk.i64_in]); (try simp (disch := omega) only [IntWalk.u32_in]); (try simp (disch := omega) only [IntWalk.u8_in]); (try simp (disch := omega) only [IntWalk.i64_quo]); (try simp (disch := omega) only [IntWalk.rem_in]); refine hK _ ?_; clear hK K hA hB A B))
            refine can_nil ?_
            go_wp2_with fail
            have HX3 := Lib.hid (fun w' (hh : Only (fun b => w.heap.size ≤ b) w3.drew w') => HXC.out w' ((Only.of_below (F := fun b => w.heap.size ≤ b) Hl3.out).drew.trans hh (fun i h => .inl h)))
            obtain ⟨i0, t1, t2, t3, t4⟩ := info_parts infoItP
            have hO3 : w3.drew.ownsRow w.heap.size 75 4 (.slice a9 np c9) np (pre.flatMap encIt) := by have := HO3.out; rw [Hnp.out] at this; exact this
            obtain ⟨v5, w5, hr5, hown5, hg5⟩ := run_append_one (P := Tryz.prog) w3.drew w.heap.size 28 75 Tryz.underlying28 t1 t2 t3 t4 rfl (by decide) (.slice a9 np c9) np _ hO3 #[.string ⟨y.key.toArray⟩, .int .i64 y.dev, .int .i64 y.seq, .int .i64 y.val] rfl (by simp [Value.oneCell']) (by unfold maxLen; omega) (by omega) (show w.heap.size ≤ w3.heap.size from Hb3.out.size)
            obtain ⟨a5, c5, rfl⟩ := own_shape hown5
            have k1 : LaterF (fun b => w.heap.size ≤ b) w3.drew (w3.drew.alloc (.cells #[.string ⟨y.key.toArray⟩, .int .i64 y.dev, .int .i64 y.seq, .int .i64 y.val] 75)) := LaterF.of_below (kept_alloc _ _)
            have hoA := own_below hO3 (kept_alloc w3.drew (.cells #[.string ⟨y.key.toArray⟩, .int .i64 y.dev, .int .i64 y.seq, .int .i64 y.val] 75))
            have k2 : LaterF (fun b => w.heap.size ≤ b) (w3.drew.alloc (.cells #[.string ⟨y.key.toArray⟩, .int .i64 y.dev, .int .i64 y.seq, .int .i64 y.val] 75)) w5 := ⟨hg5.os, hg5.tape, hg5.output, hg5.size, fun q hq hn => hg5.block q hq (fun e => hn (hoA.lt q e.symm).1)⟩
            have hk5 : Only (fun b => w.heap.size ≤ b) w3 w5 := (Only.of_below (F := fun b => w.heap.size ≤ b) ((Below.refl _ _).drew)).trans (Only.trans k1 k2 (fun i h => .inl h)) (fun i h => .inl h)
            have hb5 : Below w.heap.size w w5 := Hb3.out.trans (hk5.below (fun i h => h) Hb3.out.size)
            obtain ⟨wz, hwz⟩ : ∃ wz, wz = w3.drew.alloc (.cells #[.string ⟨y.key.toArray⟩, .int .i64 y.dev, .int .i64 y.seq, .int .i64 y.val] 75) := ⟨_, rfl⟩
            rw [← hwz] at hr5 k1 k2
            have hr5' : (AP #[28, 28] 28 #[.slice a9 np c9, .slice (some ⟨w3.heap.size, 0, none⟩) 1 1]).run Tryz.prog wz = .ok (.slice a5 (np + 1) c5) w5 := hr5
            have Hown5 := Lib.hid hown5; have Hk5 := Lib.hid hk5; have Hb5 := Lib.hid hb5
            have r0 : ∀ w', LaterF (fun b => w.heap.size ≤ b) w3.drew w' → w'.cell? _ = _ := fun w' hh => (HX3.out w' hh).2.1; have r1 : ∀ w', LaterF (fun b => w.heap.size ≤ b) w3.drew w' → w'.cell? _ = _ := fun w' hh => (HX3.out w' hh).2.2.1; have r2 : ∀ w', LaterF (fun b => w.heap.size ≤ b) w3.drew w' → w'.cell? _ = _ := fun w' hh => (HX3.out w' hh).2.2.2.1; have r3 : ∀ w', LaterF (fun b => w.heap.size ≤ b) w3.drew w' → w'.cell? _ = _ := fun w' hh => (HX3.out w' hh).2.2.2.2
            have Hwz := Lib.hid hwz
            clear hown5 hg5 hoA hk5 hb5 hwz hr5 t1 t2 t3 t4 hO3
            go_wp2_with fail
            refine wp_region_can (LaterF (fun b => w.heap.size ≤ b)) [(0, true), (1, true), (2, true), (3, true), (6, true), (7, true), (4, false), (5, false), (8, true), (9, true)] (by kernel_rfl) (by kernel_rfl) (laterF_refl _) (laterF_trans _) ?_
            repeat (first
              | (refine can_yes (v := ?_) rfl (wanted_none rfl) (fun w' hC => ?_) (fun K hK => ?_); rotate_left; (focus (go_simp; (try simp (disch := omega) only [IntWalk.i64_in]); (try simp (disch := omega) only [IntWalk.u32_in]); (try simp (disch := omega) only [IntWalk.u8_in]); (try simp (disch := omega) only [IntWalk.i64_quo]); (try simp (disch := omega) only [IntWalk.rem_in]); first | done | exact rfl)); go_simp; (try simp (disch := omega) only [IntWalk.i64_in]); (try simp (disch := omega) only [IntWalk.u32_in]); (try simp (disch := omega) only [IntWalk.u8_in]); (try simp (disch := omega) only [IntWalk.i64_quo]); (try simp (disch := omega) only [IntWalk.rem_in]); refine hK _ ?_; clear hK K)
              | (refine can_guard rfl (fun A B hA hB => ?_); go_simp; first | (refine hA ⟨?_, fun w' hC => ?_, fun K hK => ?_⟩; rotate_left; (focus (go_simp; (try simp (disch := omega) only [IntWalk.i64_in]); (try simp (disch := omega) only [IntWalk.u32_in]); (try simp (disch := omega) only [IntWalk.u8_in]); (try simp (disch := omega) only [IntWalk.i64_quo]); (try simp (disch := omega) only [IntWalk.rem_in]); first | done | exact rfl)); go_simp; (try simp (disch := omega) only [IntWalk.i64_in]); (try simp (disch := omega) only [IntWalk.u32_in]); (try simp (disch := omega) only [IntWalk.u8_in]); (try simp (disch := omega) only [IntWalk.i64_quo]); (try simp (disch := omega) only [IntWalk.rem_in]); refine hK _ ?_; clear hK K hA hB A B) | (refine hB (fun K hK => ?_); go_simp; (try simp (disch := omega) only [IntWalk.i64_in]); (try simp (disch := omega) only [IntWalk.u32_in]); (try simp (disch := omega) only [IntWalk.u8_in]); (try simp (disch := omega) only [IntWalk.i64_quo]); (try simp (disch := omega) only [IntWalk.rem_in]); refine hK _ ?_; clear hK K hA hB A B))
              | (refine can_guard_go rfl (fun A B hA hB => ?_); go_simp; refine hB (fun K hK => ?_); go_simp; (try simp (disch := omega) only [IntWalk.i64_in]); (try simp (disch := omega) only [IntWalk.u32_in]); (try simp (disch := omega) only [IntWalk.u8_in]); (try simp (disch := omega) only [IntWalk.i64_quo]); (try simp (disch := omega) only [IntWalk.rem_in]); refine hK _ ?_; clear hK K hA hB A B))
            generalize hbN : (if c1 = 1 then some (⟨bb, ob, none⟩ : Addr) else some ⟨bb, ob + 4, none⟩) = bN at *
            refine can_go rfl rfl (fun KK hK => ?_)
            go_simp
            rw [show (w3.alloc (.cells #[.string ⟨y.key.toArray⟩, .int .i64 y.dev, .int .i64 y.seq, .int .i64 y.val] 75)).drew = wz from Hwz.out.symm]
            first | refine ⟨k1, hK _ _ ?_⟩ | refine hK _ _ ?_
            clear hK KK
            go_simp
            refine can_go rfl rfl (fun KK hK => ?_)
            go_simp
            first | refine ⟨k2, hK _ _ ?_⟩ | refine hK _ _ ?_
            clear hK KK r0 r1 r2 r3
            go_simp
            repeat (first
              | (refine can_yes (v := ?_) rfl (wanted_none rfl) (fun w' hC => ?_) (fun K hK => ?_); rotate_left; (focus (go_simp; (try simp (disch := omega) only [IntWalk.i64_in]); (try simp (disch := omega) only [IntWalk.u32_in]); (try simp (disch := omega) only [IntWalk.u8_in]); (try simp (disch := omega) only [IntWalk.i64_quo]); (try simp (disch := omega) only [IntWalk.rem_in]); first | done | exact rfl)); go_simp; (try simp (disch := omega) only [IntWalk.i64_in]); (try simp (disch := omega) only [IntWalk.u32_in]); (try simp (disch := omega) only [IntWalk.u8_in]); (try simp (disch := omega) only [IntWalk.i64_quo]); (try simp (disch := omega) only [IntWalk.rem_in]); refine hK _ ?_; clear hK K)
              | (refine can_guard rfl (fun A B hA hB => ?_); go_simp; first | (refine hA ⟨?_, fun w' hC => ?_, fun K hK => ?_⟩; rotate_left; (focus (go_simp; (try simp (disch := omega) only [IntWalk.i64_in]); (try simp (disch := omega) only [IntWalk.u32_in]); (try simp (disch := omega) only [IntWalk.u8_in]); (try simp (disch := omega) only [IntWalk.i64_quo]); (try simp (disch := omega) only [IntWalk.rem_in]); first | done | exact rfl)); go_simp; (try simp (disch := omega) only [IntWalk.i64_in]); (try simp (disch := omega) only [IntWalk.u32_in]); (try simp (disch := omega) only [IntWalk.u8_in]); (try simp (disch := omega) only [IntWalk.i64_quo]); (try simp (disch := omega) only [IntWalk.rem_in]); refine hK _ ?_; clear hK K hA hB A B) | (refine hB (fun K hK => ?_); go_simp; (try simp (disch := omega) only [IntWalk.i64_in]); (try simp (disch := omega) only [IntWalk.u32_in]); (try simp (disch := omega) only [IntWalk.u8_in]); (try simp (disch := omega) only [IntWalk.i64_quo]); (try simp (disch := omega) only [IntWalk.rem_in]); refine hK _ ?_; clear hK K hA hB A B))
              | (refine can_guard_go rfl (fun A B hA hB => ?_); go_simp; refine hB (fun K hK => ?_); go_simp; (try simp (disch := omega) only [IntWalk.i64_in]); (try simp (disch := omega) only [IntWalk.u32_in]); (try simp (disch := omega) only [IntWalk.u8_in]); (try simp (disch := omega) only [IntWalk.i64_quo]); (try simp (disch := omega) only [IntWalk.rem_in]); refine hK _ ?_; clear hK K hA hB A B))
            refine can_nil ?_
            go_wp2_with fail
            go_roundw
            case measure => simp [slLen]; omega
            case rel =>
              refine ⟨i, j + 1, pre ++ [y], hi, by omega, ?_, ?_, ?_, ?_, ?_, Hb5.out⟩
              · have h1 := HA3.out.keep (w' := w5) fun b hb hlt => Hk5.out.block b hlt (by omega)
                rw [Hna.out] at h1 ⊢
                exact h1
              · have h1 := HB3.out.keep (w' := w5) fun b hb hlt => Hk5.out.block b hlt (by omega)
                rw [Hnb.out] at h1
                have h2 := rows_tail h1 (by omega) hbN
                rw [flat_tail encIt 4 encIt_len B j hjB] at h2
                have h3 : (B.drop (j + 1)).length = nb - 1 := by have := Hnb'.out; simp; omega
                rw [h3]
                exact h2
              · rw [flat_snoc, List.length_append, Hnp.out]
                exact Hown5.out
              · rw [← HR.out, Hmm.out, Hy.out]; simp
              · rw [List.length_append, Hnp.out]; simp; omega
          · have hxy := plt_tri hlt hgt
            have hv : pcmp x.pl y.pl = 0 := by unfold pcmp; rw [if_neg hlt, if_neg hgt]
            rw [hv]
            have hmm := merge_at_eq (useBetter now) A B i j hiA hjB (by rw [Hx.out, Hy.out]; exact hxy)
            rw [Hx.out, Hy.out] at hmm
            have hbt := HBet.out x (by rw [← Hx.out]; exact List.getElem_mem hiA) y (by rw [← Hy.out]; exact List.getElem_mem hjB) hxy w3.drew Hb3.out.drew
            obtain ⟨z, hz⟩ : ∃ z, (useBetter now) x y = z := ⟨_, rfl⟩
            rw [hz] at hbt hmm
            have HBt := Lib.hid (show Calls Tryz.prog 57 #[.agg #[.string ⟨x.key.toArray⟩, .int .i64 x.dev, .int .i64 x.seq, .int .i64 x.val], .agg #[.string ⟨y.key.toArray⟩, .int .i64 y.dev, .int .i64 y.seq, .int .i64 y.val], .pointer (some ⟨nw, 0, none⟩)] w3.drew _ from hbt)
            have Hmm := Lib.hid hmm
            have HX3 := Lib.hid (fun w' (hh : Only (fun b => w.heap.size ≤ b) w3.drew w') => HXC.out w' ((Only.of_below (F := fun b => w.heap.size ≤ b) Hl3.out).drew.trans hh (fun i h => .inl h)))
            have r0 : ∀ w', LaterF (fun b => w.heap.size ≤ b) w3.drew w' → w'.cell? _ = _ := fun w' hh => (HX3.out w' hh).1.1; have r1 : ∀ w', LaterF (fun b => w.heap.size ≤ b) w3.drew w' → w'.cell? _ = _ := fun w' hh => (HX3.out w' hh).1.2.1; have r2 : ∀ w', LaterF (fun b => w.heap.size ≤ b) w3.drew w' → w'.cell? _ = _ := fun w' hh => (HX3.out w' hh).1.2.2.1; have r3 : ∀ w', LaterF (fun b => w.heap.size ≤ b) w3.drew w' → w'.cell? _ = _ := fun w' hh => (HX3.out w' hh).1.2.2.2
            have u0 : ∀ w', LaterF (fun b => w.heap.size ≤ b) w3.drew w' → w'.cell? _ = _ := fun w' hh => (HX3.out w' hh).2.1; have u1 : ∀ w', LaterF (fun b => w.heap.size ≤ b) w3.drew w' → w'.cell? _ = _ := fun w' hh => (HX3.out w' hh).2.2.1; have u2 : ∀ w', LaterF (fun b => w.heap.size ≤ b) w3.drew w' → w'.cell? _ = _ := fun w' hh => (HX3.out w' hh).2.2.2.1; have u3 : ∀ w', LaterF (fun b => w.heap.size ≤ b) w3.drew w' → w'.cell? _ = _ := fun w' hh => (HX3.out w' hh).2.2.2.2
            clear hv hlt hmm hgt hbt hxy
            repeat (first
              | (refine can_yes (v := ?_) rfl (wanted_none rfl) (fun w' hC => ?_) (fun K hK => ?_); rotate_left; (focus (go_simp; (try simp (disch := omega) only [IntWalk.i64_in]); (try simp (disch := omega) only [IntWalk.u32_in]); (try simp (disch := omega) only [IntWalk.u8_in]); (try simp (disch := omega) only [IntWalk.i64_quo]); (try simp (disch := omega) only [IntWalk.rem_in]); first | done | exact rfl)); go_simp; (try simp (disch := omega) only [IntWalk.i64_in]); (try simp (disch := omega) only [IntWalk.u32_in]); (try simp (disch := omega) only [IntWalk.u8_in]); (try simp (disch := omega) only [IntWalk.i64_quo]); (try simp (disch := omega) only [IntWalk.rem_in]); refine hK _ ?_; clear hK K)
              | (refine can_guard rfl (fun A B hA hB => ?_); go_simp; first | (refine hA ⟨?_, fun w' hC => ?_, fun K hK => ?_⟩; rotate_left; (focus (go_simp; (try simp (disch := omega) only [IntWalk.i64_in]); (try simp (disch := omega) only [IntWalk.u32_in]); (try simp (disch := omega) only [IntWalk.u8_in]); (try simp (disch := omega) only [IntWalk.i64_quo]); (try simp (disch := omega) only [IntWalk.rem_in]); first | done | exact rfl)); go_simp; (try simp (disch := omega) only [IntWalk.i64_in]); (try simp (disch := omega) only [IntWalk.u32_in]); (try simp (disch := omega) only [IntWalk.u8_in]); (try simp (disch := omega) only [IntWalk.i64_quo]); (try simp (disch := omega) only [IntWalk.rem_in]); refine hK _ ?_; clear hK K hA hB A B) | (refine hB (fun K hK => ?_); go_simp; (try simp (disch := omega) only [IntWalk.i64_in]); (try simp (disch := omega) only [IntWalk.u32_in]); (try simp (disch := omega) only [IntWalk.u8_in]); (try simp (disch := omega) only [IntWalk.i64_quo]); (try simp (disch := omega) only [IntWalk.rem_in]); refine hK _ ?_; clear hK K hA hB A B))
              | (refine can_guard_go rfl (fun A B hA hB => ?_); go_simp; refine hB (fun K hK => ?_); go_simp; (try simp (disch := omega) only [IntWalk.i64_in]); (try simp (disch := omega) only [IntWalk.u32_in]); (try simp (disch := omega) only [IntWalk.u8_in]); (try simp (disch := omega) only [IntWalk.i64_quo]); (try simp (disch := omega) only [IntWalk.rem_in]); refine hK _ ?_; clear hK K hA hB A B))
            refine can_nil ?_
            go_wp2_with fail
            refine wp_region_can (LaterF (fun b => w.heap.size ≤ b)) [(0, true), (1, true), (2, true), (3, true), (4, true), (5, true), (6, true), (7, true), (11, true), (12, true), (13, true), (14, true), (8, false), (9, false), (10, false), (15, true), (16, true), (17, true)] (by kernel_rfl) (by kernel_rfl) (laterF_refl _) (laterF_trans _) ?_
            repeat (first
              | (refine can_yes (v := ?_) rfl (wanted_none rfl) (fun w' hC => ?_) (fun K hK => ?_); rotate_left; (focus (go_simp; (try simp (disch := omega) only [IntWalk.i64_in]); (try simp (disch := omega) only [IntWalk.u32_in]); (try simp (disch := omega) only [IntWalk.u8_in]); (try simp (disch := omega) only [IntWalk.i64_quo]); (try simp (disch := omega) only [IntWalk.rem_in]); first | done | exact rfl)); go_simp; (try simp (disch := omega) only [IntWalk.i64_in]); (try simp (disch := omega) only [IntWalk.u32_in]); (try simp (disch := omega) only [IntWalk.u8_in]); (try simp (disch := omega) only [IntWalk.i64_quo]); (try simp (disch := omega) only [IntWalk.rem_in]); refine hK _ ?_; clear hK K)
              | (refine can_guard rfl (fun A B hA hB => ?_); go_simp; first | (refine hA ⟨?_, fun w' hC => ?_, fun K hK => ?_⟩; rotate_left; (focus (go_simp; (try simp (disch := omega) only [IntWalk.i64_in]); (try simp (disch := omega) only [IntWalk.u32_in]); (try simp (disch := omega) only [IntWalk.u8_in]); (try simp (disch := omega) only [IntWalk.i64_quo]); (try simp (disch := omega) only [IntWalk.rem_in]); first | done | exact rfl)); go_simp; (try simp (disch := omega) only [IntWalk.i64_in]); (try simp (disch := omega) only [IntWalk.u32_in]); (try simp (disch := omega) only [IntWalk.u8_in]); (try simp (disch := omega) only [IntWalk.i64_quo]); (try simp (disch := omega) only [IntWalk.rem_in]); refine hK _ ?_; clear hK K hA hB A B) | (refine hB (fun K hK => ?_); go_simp; (try simp (disch := omega) only [IntWalk.i64_in]); (try simp (disch := omega) only [IntWalk.u32_in]); (try simp (disch := omega) only [IntWalk.u8_in]); (try simp (disch := omega) only [IntWalk.i64_quo]); (try simp (disch := omega) only [IntWalk.rem_in]); refine hK _ ?_; clear hK K hA hB A B))
              | (refine can_guard_go rfl (fun A B hA hB => ?_); go_simp; refine hB (fun K hK => ?_); go_simp; (try simp (disch := omega) only [IntWalk.i64_in]); (try simp (disch := omega) only [IntWalk.u32_in]); (try simp (disch := omega) only [IntWalk.u8_in]); (try simp (disch := omega) only [IntWalk.i64_quo]); (try simp (disch := omega) only [IntWalk.rem_in]); refine hK _ ?_; clear hK K hA hB A B))
            generalize haN : (if c0 = 1 then some (⟨ba, oa, none⟩ : Addr) else some ⟨ba, oa + 4, none⟩) = aN at *
            generalize hbN : (if c1 = 1 then some (⟨bb, ob, none⟩ : Addr) else some ⟨bb, ob + 4, none⟩) = bN at *
            refine can_go rfl rfl (fun KK hK => ?_)
            go_simp
            refine HBt.out.mono ?_
            rintro e w4 ⟨rfl, hb4⟩
            refine ⟨_, rfl, LaterF.of_below hb4, hK _ _ ?_⟩
            clear hK KK HBt r0 r1 r2 r3 u0 u1 u2 u3
            go_simp
            simp only [itV]
            have hl4 : Later w3 w4 := (Below.refl _ _).drew.trans hb4
            have hb4' : Below w.heap.size w w4 := Hb3.out.trans (RowKit.Below.mono hl4 Hb3.out.size)
            obtain ⟨i0, t1, t2, t3, t4⟩ := info_parts infoItP
            have hO4 : w4.ownsRow w.heap.size 75 4 (.slice a9 np c9) np (pre.flatMap encIt) := by have := own_below HO3.out hl4; rw [Hnp.out] at this; exact this
            obtain ⟨v5, w5, hr5, hown5, hg5⟩ := run_append_one (P := Tryz.prog) w4 w.heap.size 28 75 Tryz.underlying28 t1 t2 t3 t4 rfl (by decide) (.slice a9 np c9) np _ hO4 #[.string ⟨z.key.toArray⟩, .int .i64 z.dev, .int .i64 z.seq, .int .i64 z.val] rfl (by simp [Value.oneCell']) (by unfold maxLen; omega) (by omega) hb4'.size
            obtain ⟨a5, c5, rfl⟩ := own_shape hown5
            have k1 : LaterF (fun b => w.heap.size ≤ b) w4 (w4.alloc (.cells #[.string ⟨z.key.toArray⟩, .int .i64 z.dev, .int .i64 z.seq, .int .i64 z.val] 75)) := LaterF.of_below (kept_alloc _ _)
            have hoA := own_below hO4 (kept_alloc w4 (.cells #[.string ⟨z.key.toArray⟩, .int .i64 z.dev, .int .i64 z.seq, .int .i64 z.val] 75))
            have k2 : LaterF (fun b => w.heap.size ≤ b) (w4.alloc (.cells #[.string ⟨z.key.toArray⟩, .int .i64 z.dev, .int .i64 z.seq, .int .i64 z.val] 75)) w5 := ⟨hg5.os, hg5.tape, hg5.output, hg5.size, fun q hq hn => hg5.block q hq (fun e => hn (hoA.lt q e.symm).1)⟩
            have hk5 : Only (fun b => w.heap.size ≤ b) w3 w5 := (Only.of_below (F := fun b => w.heap.size ≤ b) hl4).trans (Only.trans k1 k2 (fun i h => .inl h)) (fun i h => .inl h)
            have hb5 : Below w.heap.size w w5 := Hb3.out.trans (hk5.below (fun i h => h) Hb3.out.size)
            have Hown5 := Lib.hid hown5; have Hk5 := Lib.hid hk5; have Hb5 := Lib.hid hb5
            clear hown5 hg5 hoA hk5 hb5 t1 t2 t3 t4 hO4 hb4 hl4 hb4'
            refine can_go rfl rfl (fun KK hK => ?_)
            go_simp
            first | refine ⟨k1, hK _ _ ?_⟩ | refine hK _ _ ?_
            clear hK KK
            go_simp
            refine can_go rfl rfl (fun KK hK => ?_)
            go_simp
            first | refine ⟨k2, hK _ _ ?_⟩ | refine hK _ _ ?_
            clear hK KK
            go_simp
            repeat (first
              | (refine can_yes (v := ?_) rfl (wanted_none rfl) (fun w' hC => ?_) (fun K hK => ?_); rotate_left; (focus (go_simp; (try simp (disch := omega) only [IntWalk.i64_in]); (try simp (disch := omega) only [IntWalk.u32_in]); (try simp (disch := omega) only [IntWalk.u8_in]); (try simp (disch := omega) only [IntWalk.i64_quo]); (try simp (disch := omega) only [IntWalk.rem_in]); first | done | exact rfl)); go_simp; (try simp (disch := omega) only [IntWalk.i64_in]); (try simp (disch := omega) only [IntWalk.u32_in]); (try simp (disch := omega) only [IntWalk.u8_in]); (try simp (disch := omega) only [IntWalk.i64_quo]); (try simp (disch := omega) only [IntWalk.rem_in]); refine hK _ ?_; clear hK K)
              | (refine can_guard rfl (fun A B hA hB => ?_); go_simp; first | (refine hA ⟨?_, fun w' hC => ?_, fun K hK => ?_⟩; rotate_left; (focus (go_simp; (try simp (disch := omega) only [IntWalk.i64_in]); (try simp (disch := omega) only [IntWalk.u32_in]); (try simp (disch := omega) only [IntWalk.u8_in]); (try simp (disch := omega) only [IntWalk.i64_quo]); (try simp (disch := omega) only [IntWalk.rem_in]); first | done | exact rfl)); go_simp; (try simp (disch := omega) only [IntWalk.i64_in]); (try simp (disch := omega) only [IntWalk.u32_in]); (try simp (disch := omega) only [IntWalk.u8_in]); (try simp (disch := omega) only [IntWalk.i64_quo]); (try simp (disch := omega) only [IntWalk.rem_in]); refine hK _ ?_; clear hK K hA hB A B) | (refine hB (fun K hK => ?_); go_simp; (try simp (disch := omega) only [IntWalk.i64_in]); (try simp (disch := omega) only [IntWalk.u32_in]); (try simp (disch := omega) only [IntWalk.u8_in]); (try simp (disch := omega) only [IntWalk.i64_quo]); (try simp (disch := omega) only [IntWalk.rem_in]); refine hK _ ?_; clear hK K hA hB A B))
              | (refine can_guard_go rfl (fun A B hA hB => ?_); go_simp; refine hB (fun K hK => ?_); go_simp; (try simp (disch := omega) only [IntWalk.i64_in]); (try simp (disch := omega) only [IntWalk.u32_in]); (try simp (disch := omega) only [IntWalk.u8_in]); (try simp (disch := omega) only [IntWalk.i64_quo]); (try simp (disch := omega) only [IntWalk.rem_in]); refine hK _ ?_; clear hK K hA hB A B))
            refine can_nil ?_
            go_wp2_with fail
            go_roundw
            case measure => simp [slLen]; omega
            case rel =>
              refine ⟨i + 1, j + 1, pre ++ [z], by omega, by omega, ?_, ?_, ?_, ?_, ?_, Hb5.out⟩
              · have h1 := HA3.out.keep (w' := w5) fun b hb hlt => Hk5.out.block b hlt (by omega)
                rw [Hna.out] at h1
                have h2 := rows_tail h1 (by omega) haN
                rw [flat_tail encIt 4 encIt_len A i hiA] at h2
                have h3 : (A.drop (i + 1)).length = na - 1 := by have := Hna'.out; simp; omega
                rw [h3]
                exact h2
              · have h1 := HB3.out.keep (w' := w5) fun b hb hlt => Hk5.out.block b hlt (by omega)
                rw [Hnb.out] at h1
                have h2 := rows_tail h1 (by omega) hbN
                rw [flat_tail encIt 4 encIt_len B j hjB] at h2
                have h3 : (B.drop (j + 1)).length = nb - 1 := by have := Hnb'.out; simp; omega
                rw [h3]
                exact h2
              · rw [flat_snoc, List.length_append, Hnp.out]
                exact Hown5.out
              · rw [← HR.out, Hmm.out]; simp
              · rw [List.length_append, Hnp.out]; simp; omega
      · have hfin := merge_end (pl := RIt.pl) (useBetter now) A B i j (by have := Hnb'.out; omega)
        obtain ⟨i0, t1, t2, t3, t4⟩ := info_parts infoItP
        have hO := HO.out
        rw [Hnp.out] at hO
        have hA := HA.out
        rw [Hna.out] at hA
        have hB := HB.out
        rw [Hnb.out] at hB
        have Hi := Lib.hid hi; have Hj := Lib.hid hj
        obtain ⟨v5, w5, hr5, hown5, hg5⟩ := run_append_rows (P := Tryz.prog) wr w.heap.size 28 75 Tryz.underlying28 t1 t2 t3 t4 rfl (by decide) (.slice a9 np c9) np _ hO (fun b => b < w.heap.size) _ na _ hA (one_encIt _) (by have := Hna'.out; unfold maxLen; omega) (by have := Hna'.out; omega) Hbw.out.size
        obtain ⟨a5, c5, rfl⟩ := own_shape hown5
        have hb5 : Below w.heap.size wr w5 := Below.grownOwn hO hg5 Hbw.out.size (Nat.le_refl _)
        have hB5 := hB.keep (w' := w5) fun b hb hlt => hb5.block b hb
        obtain ⟨v6, w6, hr6, hown6, hg6⟩ := run_append_rows (P := Tryz.prog) w5 w.heap.size 28 75 Tryz.underlying28 t1 t2 t3 t4 rfl (by decide) (.slice a5 (np + na) c5) (np + na) _ hown5 (fun b => b < w.heap.size) _ nb _ hB5 (one_encIt _) (by have := Hna'.out; have := Hnb'.out; unfold maxLen; omega) (by have := Hna'.out; have := Hnb'.out; omega) (Nat.le_trans Hbw.out.size hb5.size)
        obtain ⟨a6, c6, rfl⟩ := own_shape hown6
        have hb6 : Below w.heap.size wr w6 := hb5.trans (Below.grownOwn hown5 hg6 (Nat.le_trans Hbw.out.size hb5.size) (Nat.le_refl _))
        have Hb6 := Lib.hid (Hbw.out.trans hb6)
        have Hown6 := Lib.hid (show w6.ownsRow w.heap.size 75 4 (.slice a6 (np + na + nb) c6) R.length (R.flatMap encIt) by
          rw [← HR.out, hfin]
          have h1 : (pre ++ (A.drop i ++ B.drop j)).length = np + na + nb := by rw [List.length_append, List.length_append, Hnp.out, Hna.out, Hnb.out]; omega
          rw [h1]
          simpa [List.append_assoc] using hown6)
        clear hb5 hb6 hown5 hown6 hg5 hg6 hB5 hA hB hO hfin t1 t2 t3 t4 hi hj
        go_wp2_with fail
        go_ret
        exact ⟨_, rfl, Hown6.out, Hb6.out⟩
    · have hfin := merge_end (pl := RIt.pl) (useBetter now) A B i j (by have := Hna'.out; omega)
      obtain ⟨i0, t1, t2, t3, t4⟩ := info_parts infoItP
      have hO := HO.out
      rw [Hnp.out] at hO
      have hA := HA.out
      rw [Hna.out] at hA
      have hB := HB.out
      rw [Hnb.out] at hB
      have Hi := Lib.hid hi; have Hj := Lib.hid hj
      obtain ⟨v5, w5, hr5, hown5, hg5⟩ := run_append_rows (P := Tryz.prog) wr w.heap.size 28 75 Tryz.underlying28 t1 t2 t3 t4 rfl (by decide) (.slice a9 np c9) np _ hO (fun b => b < w.heap.size) _ na _ hA (one_encIt _) (by have := Hna'.out; unfold maxLen; omega) (by have := Hna'.out; omega) Hbw.out.size
      obtain ⟨a5, c5, rfl⟩ := own_shape hown5
      have hb5 : Below w.heap.size wr w5 := Below.grownOwn hO hg5 Hbw.out.size (Nat.le_refl _)
      have hB5 := hB.keep (w' := w5) fun b hb hlt => hb5.block b hb
      obtain ⟨v6, w6, hr6, hown6, hg6⟩ := run_append_rows (P := Tryz.prog) w5 w.heap.size 28 75 Tryz.underlying28 t1 t2 t3 t4 rfl (by decide) (.slice a5 (np + na) c5) (np + na) _ hown5 (fun b => b < w.heap.size) _ nb _ hB5 (one_encIt _) (by have := Hna'.out; have := Hnb'.out; unfold maxLen; omega) (by have := Hna'.out; have := Hnb'.out; omega) (Nat.le_trans Hbw.out.size hb5.size)
      obtain ⟨a6, c6, rfl⟩ := own_shape hown6
      have hb6 : Below w.heap.size wr w6 := hb5.trans (Below.grownOwn hown5 hg6 (Nat.le_trans Hbw.out.size hb5.size) (Nat.le_refl _))
      have Hb6 := Lib.hid (Hbw.out.trans hb6)
      have Hown6 := Lib.hid (show w6.ownsRow w.heap.size 75 4 (.slice a6 (np + na + nb) c6) R.length (R.flatMap encIt) by
        rw [← HR.out, hfin]
        have h1 : (pre ++ (A.drop i ++ B.drop j)).length = np + na + nb := by rw [List.length_append, List.length_append, Hnp.out, Hna.out, Hnb.out]; omega
        rw [h1]
        simpa [List.append_assoc] using hown6)
      clear hb5 hb6 hown5 hown6 hg5 hg6 hB5 hA hB hO hfin t1 t2 t3 t4 hi hj
      go_wp2_with fail
      go_ret
      exact ⟨_, rfl, Hown6.out, Hb6.out⟩
set_option maxRecDepth 100000 in
set_option maxHeartbeats 6000000 in
theorem mergeGo_deeper (w : World)  (F G : Blks) (va vb : Value) (A B : List RGo) (ha : Rows F w 3 va A.length (A.flatMap encGo)) (hb : Rows G w 3 vb B.length (B.flatMap encGo)) (hlA : A.length ≤ 1000000) (hlB : B.length ≤ 1000000)
    (hbet : ∀ x ∈ A, ∀ y ∈ B, RGo.pl x = RGo.pl y → ∀ W, Below w.heap.size w W → Calls Tryz.prog 67 #[goV x, goV y] W fun e w' => e = .returned (goV (deeperR x y)) ∧ Below W.heap.size W w') :
    Calls Tryz.prog 66 #[va, vb, .func (.func 47) #[] #[], .func (.func 67) #[] #[]] w fun e w' =>
      ∃ r, e = .returned r ∧ w'.ownsRow w.heap.size 83 3 r (mergeL RGo.pl deeperR A B).length ((mergeL RGo.pl deeperR A B).flatMap encGo) ∧ Below w.heap.size w w' := by
  replace ha := ha.mono (G := fun b => b < w.heap.size) fun b _ hlt => hlt
  replace hb := hb.mono (G := fun b => b < w.heap.size) fun b _ hlt => hlt
  obtain ⟨R, hR⟩ : ∃ R, mergeL RGo.pl deeperR A B = R := ⟨_, rfl⟩
  rw [hR]
  have HS := Lib.hid (show MrgRel RGo.pl deeperR encGo 3 83 w A B R va vb (.slice none 0 0) w from ⟨0, 0, [], by omega, by omega, by simpa using ha, by simpa using hb, World.ownsRow_nil _ _ _ _, by simpa using hR, by simp, Below.refl _ _⟩)
  have HBet := Lib.hid hbet
  obtain ⟨aa, ca, rfl, -⟩ := ha.shape
  obtain ⟨ab, cb, rfl, -⟩ := hb.shape
  clear ha hb hR hbet
  go_enter Tryz.func66, Tryz.ntmps66
  go_wp2_with fail
  go_loopw [0, 1, 9] (fun s0 s1 s9 wr => MrgRel RGo.pl deeperR encGo 3 83 w A B R s0 s1 s9 wr) (fun s0 s1 _ _ => slLen s0 + slLen s1)
  case atStart => exact HS.out
  case round =>
    obtain ⟨i, j, pre, hi, hj, hA, hB, hown, hR, hpl, hbw⟩ := hrel
    obtain ⟨a0, c0, rfl, hc0, hm0⟩ := rows_len hA
    obtain ⟨a1, c1, rfl, hc1, hm1⟩ := rows_len hB
    obtain ⟨a9, c9, hs9⟩ := own_shape hown
    subst hs9
    obtain ⟨na, hna⟩ : ∃ na, (A.drop i).length = na := ⟨_, rfl⟩
    obtain ⟨nb, hnb⟩ : ∃ nb, (B.drop j).length = nb := ⟨_, rfl⟩
    obtain ⟨np, hnp⟩ : ∃ np, pre.length = np := ⟨_, rfl⟩
    have HA := Lib.hid hA; have HB := Lib.hid hB; have HO := Lib.hid hown; have HR := Lib.hid hR; have Hbw := Lib.hid hbw
    rw [hna] at hc0 ⊢
    rw [hnb] at hc1 ⊢
    rw [hnp] at hpl ⊢
    have Hna := Lib.hid hna; have Hnb := Lib.hid hnb; have Hnp := Lib.hid hnp
    have hna' : na = A.length - i := by rw [← hna]; simp
    have hnb' : nb = B.length - j := by rw [← hnb]; simp
    have Hna' := Lib.hid hna'; have Hnb' := Lib.hid hnb'
    clear hA hB hown hR hna hnb hnp hbw HS hna' hnb'
    unfold maxLen at hm0 hm1
    by_cases h0 : 0 < na
    · by_cases h1 : 0 < nb
      · have h0I : (0 : Int) < (na : Int) := by omega
        have h1I : (0 : Int) < (nb : Int) := by omega
        have h0I2 : (1 : Int) ≤ (na : Int) := by omega
        have h1I2 : (1 : Int) ≤ (nb : Int) := by omega
        have hiA : i < A.length := by have := Hna'.out; omega
        have hjB : j < B.length := by have := Hnb'.out; omega
        have hA := HA.out
        have hB := HB.out
        obtain ⟨ba, oa, rfl, hFa, hlta, hca⟩ := go_cell hA (by rw [Hna.out]; exact h0)
        obtain ⟨bb, ob, rfl, hFb, hltb, hcb⟩ := go_cell hB (by rw [Hnb.out]; exact h1)
        obtain ⟨x0, x1, x2⟩ := hca 0 (by rw [Hna.out]; exact h0)
        obtain ⟨y0, y1, y2⟩ := hcb 0 (by rw [Hnb.out]; exact h1)
        obtain ⟨x, hx⟩ : ∃ x, A[i] = x := ⟨_, rfl⟩
        obtain ⟨y, hy⟩ : ∃ y, B[j] = y := ⟨_, rfl⟩
        have hx' : (A.drop i)[0]'(by rw [Hna.out]; exact h0) = x := by rw [List.getElem_drop]; simpa using hx
        have hy' : (B.drop j)[0]'(by rw [Hnb.out]; exact h1) = y := by rw [List.getElem_drop]; simpa using hy
        rw [hx'] at x0 x1 x2
        rw [hy'] at y0 y1 y2
        simp only [Nat.zero_mul, Nat.add_zero] at x0 x1 x2 y0 y1 y2
        have HXC := Lib.hid (show ∀ w', Only (fun b => w.heap.size ≤ b) wr w' → (w'.cell? ⟨ba, oa, none⟩ = some (.string ⟨x.key.toArray⟩) ∧ w'.cell? ⟨ba, oa + 1, none⟩ = some (.int .i64 x.dev) ∧ w'.cell? ⟨ba, oa + 2, none⟩ = some (.int .i64 x.seq)) ∧ w'.cell? ⟨bb, ob, none⟩ = some (.string ⟨y.key.toArray⟩) ∧ w'.cell? ⟨bb, ob + 1, none⟩ = some (.int .i64 y.dev) ∧ w'.cell? ⟨bb, ob + 2, none⟩ = some (.int .i64 y.seq) from fun w' hh => by
          have hk : ∀ (q : Nat) u, wr.cell? ⟨ba, q, none⟩ = some u → w'.cell? ⟨ba, q, none⟩ = some u := fun q u h => by
            have hb : w'.heap[ba]? = wr.heap[ba]? := hh.block ba hlta (by omega)
            unfold World.cell? at *
            rw [hb]; exact h
          have hk2 : ∀ (q : Nat) u, wr.cell? ⟨bb, q, none⟩ = some u → w'.cell? ⟨bb, q, none⟩ = some u := fun q u h => by
            have hb : w'.heap[bb]? = wr.heap[bb]? := hh.block bb hltb (by omega)
            unfold World.cell? at *
            rw [hb]; exact h
          exact ⟨⟨hk _ _ x0, hk _ _ x1, hk _ _ x2⟩, hk2 _ _ y0, hk2 _ _ y1, hk2 _ _ y2⟩)
        have p0 : ∀ w', Later wr.drew w' → w'.cell? _ = _ := fun w' hh => laterC x0 hh
        have p1 : ∀ w', Later wr.drew w' → w'.cell? _ = _ := fun w' hh => laterC x1 hh
        have p2 : ∀ w', Later wr.drew w' → w'.cell? _ = _ := fun w' hh => laterC x2 hh
        have q0 : ∀ w', Later wr.drew w' → w'.cell? _ = _ := fun w' hh => laterC y0 hh
        have q1 : ∀ w', Later wr.drew w' → w'.cell? _ = _ := fun w' hh => laterC y1 hh
        have q2 : ∀ w', Later wr.drew w' → w'.cell? _ = _ := fun w' hh => laterC y2 hh
        skip
        have HPX := Lib.hid (fun W => show Calls Tryz.prog 47 #[.agg #[.string ⟨x.key.toArray⟩, .int .i64 x.dev, .int .i64 x.seq]] W _ from goPlace_any W x)
        have HPY := Lib.hid (fun W => show Calls Tryz.prog 47 #[.agg #[.string ⟨y.key.toArray⟩, .int .i64 y.dev, .int .i64 y.seq]] W _ from goPlace_any W y)
        have HC := Lib.hid (fun W => compare_any W x.pl y.pl)
        have Hx := Lib.hid hx; have Hy := Lib.hid hy
        clear hca hcb hx hy hx' hy' x0 x1 x2 y0 y1 y2 hA hB
        go_wp2_with fail
        refine wp_region_can Later [(0, true), (1, true), (2, true), (3, true), (5, true), (6, true), (7, true), (8, true), (4, false), (9, false), (10, false), (11, true)] (by kernel_rfl) (by kernel_rfl) later_refl later_trans ?_
        repeat (first
          | (refine can_yes (v := ?_) rfl (wanted_none rfl) (fun w' hC => ?_) (fun K hK => ?_); rotate_left; (focus (go_simp; (try simp (disch := omega) only [IntWalk.i64_in]); (try simp (disch := omega) only [IntWalk.u32_in]); (try simp (disch := omega) only [IntWalk.u8_in]); (try simp (disch := omega) only [IntWalk.i64_quo]); (try simp (disch := omega) only [IntWalk.rem_in]); first | done | exact rfl)); go_simp; (try simp (disch := omega) only [IntWalk.i64_in]); (try simp (disch := omega) only [IntWalk.u32_in]); (try simp (disch := omega) only [IntWalk.u8_in]); (try simp (disch := omega) only [IntWalk.i64_quo]); (try simp (disch := omega) only [IntWalk.rem_in]); refine hK _ ?_; clear hK K)
          | (refine can_guard rfl (fun A B hA hB => ?_); go_simp; first | (refine hA ⟨?_, fun w' hC => ?_, fun K hK => ?_⟩; rotate_left; (focus (go_simp; (try simp (disch := omega) only [IntWalk.i64_in]); (try simp (disch := omega) only [IntWalk.u32_in]); (try simp (disch := omega) only [IntWalk.u8_in]); (try simp (disch := omega) only [IntWalk.i64_quo]); (try simp (disch := omega) only [IntWalk.rem_in]); first | done | exact rfl)); go_simp; (try simp (disch := omega) only [IntWalk.i64_in]); (try simp (disch := omega) only [IntWalk.u32_in]); (try simp (disch := omega) only [IntWalk.u8_in]); (try simp (disch := omega) only [IntWalk.i64_quo]); (try simp (disch := omega) only [IntWalk.rem_in]); refine hK _ ?_; clear hK K hA hB A B) | (refine hB (fun K hK => ?_); go_simp; (try simp (disch := omega) only [IntWalk.i64_in]); (try simp (disch := omega) only [IntWalk.u32_in]); (try simp (disch := omega) only [IntWalk.u8_in]); (try simp (disch := omega) only [IntWalk.i64_quo]); (try simp (disch := omega) only [IntWalk.rem_in]); refine hK _ ?_; clear hK K hA hB A B))
          | (refine can_guard_go rfl (fun A B hA hB => ?_); go_simp; refine hB (fun K hK => ?_); go_simp; (try simp (disch := omega) only [IntWalk.i64_in]); (try simp (disch := omega) only [IntWalk.u32_in]); (try simp (disch := omega) only [IntWalk.u8_in]); (try simp (disch := omega) only [IntWalk.i64_quo]); (try simp (disch := omega) only [IntWalk.rem_in]); refine hK _ ?_; clear hK K hA hB A B))
        refine can_go rfl rfl (fun KK hK => ?_)
        go_simp
        refine (HPX.out _).mono ?_
        rintro e w1 ⟨rfl, hb1⟩
        refine ⟨_, rfl, hb1, hK _ _ ?_⟩
        clear hK KK HPX p0 p1 p2 q0 q1 q2 
        go_simp
        have Hl1 := Lib.hid (show Later wr w1 from (Below.refl _ _).drew.trans hb1)
        clear hb1
        repeat (first
          | (refine can_yes (v := ?_) rfl (wanted_none rfl) (fun w' hC => ?_) (fun K hK => ?_); rotate_left; (focus (go_simp; (try simp (disch := omega) only [IntWalk.i64_in]); (try simp (disch := omega) only [IntWalk.u32_in]); (try simp (disch := omega) only [IntWalk.u8_in]); (try simp (disch := omega) only [IntWalk.i64_quo]); (try simp (disch := omega) only [IntWalk.rem_in]); first | done | exact rfl)); go_simp; (try simp (disch := omega) only [IntWalk.i64_in]); (try simp (disch := omega) only [IntWalk.u32_in]); (try simp (disch := omega) only [IntWalk.u8_in]); (try simp (disch := omega) only [IntWalk.i64_quo]); (try simp (disch := omega) only [IntWalk.rem_in]); refine hK _ ?_; clear hK K)
          | (refine can_guard rfl (fun A B hA hB => ?_); go_simp; first | (refine hA ⟨?_, fun w' hC => ?_, fun K hK => ?_⟩; rotate_left; (focus (go_simp; (try simp (disch := omega) only [IntWalk.i64_in]); (try simp (disch := omega) only [IntWalk.u32_in]); (try simp (disch := omega) only [IntWalk.u8_in]); (try simp (disch := omega) only [IntWalk.i64_quo]); (try simp (disch := omega) only [IntWalk.rem_in]); first | done | exact rfl)); go_simp; (try simp (disch := omega) only [IntWalk.i64_in]); (try simp (disch := omega) only [IntWalk.u32_in]); (try simp (disch := omega) only [IntWalk.u8_in]); (try simp (disch := omega) only [IntWalk.i64_quo]); (try simp (disch := omega) only [IntWalk.rem_in]); refine hK _ ?_; clear hK K hA hB A B) | (refine hB (fun K hK => ?_); go_simp; (try simp (disch := omega) only [IntWalk.i64_in]); (try simp (disch := omega) only [IntWalk.u32_in]); (try simp (disch := omega) only [IntWalk.u8_in]); (try simp (disch := omega) only [IntWalk.i64_quo]); (try simp (disch := omega) only [IntWalk.rem_in]); refine hK _ ?_; clear hK K hA hB A B))
          | (refine can_guard_go rfl (fun A B hA hB => ?_); go_simp; refine hB (fun K hK => ?_); go_simp; (try simp (disch := omega) only [IntWalk.i64_in]); (try simp (disch := omega) only [IntWalk.u32_in]); (try simp (disch := omega) only [IntWalk.u8_in]); (try simp (disch := omega) only [IntWalk.i64_quo]); (try simp (disch := omega) only [IntWalk.rem_in]); refine hK _ ?_; clear hK K hA hB A B))
        refine can_go rfl rfl (fun KK hK => ?_)
        go_simp
        refine (HPY.out _).mono ?_
        rintro e w2 ⟨rfl, hb2⟩
        refine ⟨_, rfl, hb2, hK _ _ ?_⟩
        clear hK KK HPY
        go_simp
        have Hl2 := Lib.hid (later_trans _ _ _ Hl1.out hb2)
        clear hb2 Hl1
        repeat (first
          | (refine can_yes (v := ?_) rfl (wanted_none rfl) (fun w' hC => ?_) (fun K hK => ?_); rotate_left; (focus (go_simp; (try simp (disch := omega) only [IntWalk.i64_in]); (try simp (disch := omega) only [IntWalk.u32_in]); (try simp (disch := omega) only [IntWalk.u8_in]); (try simp (disch := omega) only [IntWalk.i64_quo]); (try simp (disch := omega) only [IntWalk.rem_in]); first | done | exact rfl)); go_simp; (try simp (disch := omega) only [IntWalk.i64_in]); (try simp (disch := omega) only [IntWalk.u32_in]); (try simp (disch := omega) only [IntWalk.u8_in]); (try simp (disch := omega) only [IntWalk.i64_quo]); (try simp (disch := omega) only [IntWalk.rem_in]); refine hK _ ?_; clear hK K)
          | (refine can_guard rfl (fun A B hA hB => ?_); go_simp; first | (refine hA ⟨?_, fun w' hC => ?_, fun K hK => ?_⟩; rotate_left; (focus (go_simp; (try simp (disch := omega) only [IntWalk.i64_in]); (try simp (disch := omega) only [IntWalk.u32_in]); (try simp (disch := omega) only [IntWalk.u8_in]); (try simp (disch := omega) only [IntWalk.i64_quo]); (try simp (disch := omega) only [IntWalk.rem_in]); first | done | exact rfl)); go_simp; (try simp (disch := omega) only [IntWalk.i64_in]); (try simp (disch := omega) only [IntWalk.u32_in]); (try simp (disch := omega) only [IntWalk.u8_in]); (try simp (disch := omega) only [IntWalk.i64_quo]); (try simp (disch := omega) only [IntWalk.rem_in]); refine hK _ ?_; clear hK K hA hB A B) | (refine hB (fun K hK => ?_); go_simp; (try simp (disch := omega) only [IntWalk.i64_in]); (try simp (disch := omega) only [IntWalk.u32_in]); (try simp (disch := omega) only [IntWalk.u8_in]); (try simp (disch := omega) only [IntWalk.i64_quo]); (try simp (disch := omega) only [IntWalk.rem_in]); refine hK _ ?_; clear hK K hA hB A B))
          | (refine can_guard_go rfl (fun A B hA hB => ?_); go_simp; refine hB (fun K hK => ?_); go_simp; (try simp (disch := omega) only [IntWalk.i64_in]); (try simp (disch := omega) only [IntWalk.u32_in]); (try simp (disch := omega) only [IntWalk.u8_in]); (try simp (disch := omega) only [IntWalk.i64_quo]); (try simp (disch := omega) only [IntWalk.rem_in]); refine hK _ ?_; clear hK K hA hB A B))
        refine can_go rfl rfl (fun KK hK => ?_)
        go_simp
        refine (HC.out _).mono ?_
        rintro e w3 ⟨rfl, hb3⟩
        refine ⟨_, rfl, hb3, hK _ _ ?_⟩
        clear hK KK HC
        go_simp
        have hl3 : Later wr w3 := later_trans _ _ _ Hl2.out hb3
        have hb3' : Below w.heap.size w w3 := Hbw.out.trans (RowKit.Below.mono hl3 Hbw.out.size)
        have hF3 : Only (fun b => w.heap.size ≤ b) wr w3 := Only.of_below hl3
        obtain ⟨⟨e0, e1, e2⟩, g0, g1, g2⟩ := HXC.out w3 hF3
        have HO3 := Lib.hid (own_below HO.out hl3)
        have HA3 := Lib.hid (HA.out.keep (w' := w3) fun b hb hlt => RowKit.Below.block hl3 b hlt)
        have HB3 := Lib.hid (HB.out.keep (w' := w3) fun b hb hlt => RowKit.Below.block hl3 b hlt)
        have Hl3 := Lib.hid hl3; have Hb3 := Lib.hid hb3'
        clear hb3 Hl2 hb3' hl3 hF3
        by_cases hlt : plt x.pl y.pl
        · have hv : pcmp x.pl y.pl = -1 := by unfold pcmp; rw [if_pos hlt]
          rw [hv]
          have hmm := merge_at_lt deeperR A B i j hiA hjB (by rw [Hx.out, Hy.out]; exact hlt)
          have Hmm := Lib.hid hmm
          clear hv hlt hmm
          repeat (first
            | (refine can_yes (v := ?_) rfl (wanted_none rfl) (fun w' hC => ?_) (fun K hK => ?_); rotate_left; (focus (go_simp; (try simp (disch := omega) only [IntWalk.i64_in]); (try simp (disch := omega) only [IntWalk.u32_in]); (try simp (disch := omega) only [IntWalk.u8_in]); (try simp (disch := omega) only [IntWalk.i64_quo]); (try simp (disch := omega) only [IntWalk.rem_in]); first | done | exact rfl)); go_simp; (try simp (disch := omega) only [IntWalk.i64_in]); (try simp (disch := omega) only [IntWalk.u32_in]); (try simp (disch := omega) only [IntWalk.u8_in]); (try simp (disch := omega) only [IntWalk.i64_quo]); (try simp (disch := omega) only [IntWalk.rem_in]); refine hK _ ?_; clear hK K)
            | (refine can_guard rfl (fun A B hA hB => ?_); go_simp; first | (refine hA ⟨?_, fun w' hC => ?_, fun K hK => ?_⟩; rotate_left; (focus (go_simp; (try simp (disch := omega) only [IntWalk.i64_in]); (try simp (disch := omega) only [IntWalk.u32_in]); (try simp (disch := omega) only [IntWalk.u8_in]); (try simp (disch := omega) only [IntWalk.i64_quo]); (try simp (disch := omega) only [IntWalk.rem_in]); first | done | exact rfl)); go_simp; (try simp (disch := omega) only [IntWalk.i64_in]); (try simp (disch := omega) only [IntWalk.u32_in]); (try simp (disch := omega) only [IntWalk.u8_in]); (try simp (disch := omega) only [IntWalk.i64_quo]); (try simp (disch := omega) only [IntWalk.rem_in]); refine hK _ ?_; clear hK K hA hB A B) | (refine hB (fun K hK => ?_); go_simp; (try simp (disch := omega) only [IntWalk.i64_in]); (try simp (disch := omega) only [IntWalk.u32_in]); (try simp (disch := omega) only [IntWalk.u8_in]); (try simp (disch := omega) only [IntWalk.i64_quo]); (try simp (disch := omega) only [IntWalk.rem_in]); refine hK _ ?_; clear hK K hA hB A B))
            | (refine can_guard_go rfl (fun A B hA hB => ?_); go_simp; refine hB (fun K hK => ?_); go_simp; (try simp (disch := omega) only [IntWalk.i64_in]); (try simp (disch := omega) only [IntWalk.u32_in]); (try simp (disch := omega) only [IntWalk.u8_in]); (try simp (disch := omega) only [IntWalk.i64_quo]); (try simp (disch := omega) only [IntWalk.rem_in]); refine hK _ ?_; clear hK K hA hB A B))
          refine can_nil ?_
          have HX3 := Lib.hid (fun w' (hh : Only (fun b => w.heap.size ≤ b) w3.drew w') => HXC.out w' ((Only.of_below (F := fun b => w.heap.size ≤ b) Hl3.out).drew.trans hh (fun i h => .inl h)))
          obtain ⟨i0, t1, t2, t3, t4⟩ := info_parts infoGoP
          have hO3 : w3.drew.ownsRow w.heap.size 83 3 (.slice a9 np c9) np (pre.flatMap encGo) := by have := HO3.out; rw [Hnp.out] at this; exact this
          obtain ⟨v5, w5, hr5, hown5, hg5⟩ := run_append_one (P := Tryz.prog) w3.drew w.heap.size 29 83 Tryz.underlying29 t1 t2 t3 t4 rfl (by decide) (.slice a9 np c9) np _ hO3 #[.string ⟨x.key.toArray⟩, .int .i64 x.dev, .int .i64 x.seq] rfl (by simp [Value.oneCell']) (by unfold maxLen; omega) (by omega) (show w.heap.size ≤ w3.heap.size from Hb3.out.size)
          obtain ⟨a5, c5, rfl⟩ := own_shape hown5
          have k1 : LaterF (fun b => w.heap.size ≤ b) w3.drew (w3.drew.alloc (.cells #[.string ⟨x.key.toArray⟩, .int .i64 x.dev, .int .i64 x.seq] 83)) := LaterF.of_below (kept_alloc _ _)
          have hoA := own_below hO3 (kept_alloc w3.drew (.cells #[.string ⟨x.key.toArray⟩, .int .i64 x.dev, .int .i64 x.seq] 83))
          have k2 : LaterF (fun b => w.heap.size ≤ b) (w3.drew.alloc (.cells #[.string ⟨x.key.toArray⟩, .int .i64 x.dev, .int .i64 x.seq] 83)) w5 := ⟨hg5.os, hg5.tape, hg5.output, hg5.size, fun q hq hn => hg5.block q hq (fun e => hn (hoA.lt q e.symm).1)⟩
          have hk5 : Only (fun b => w.heap.size ≤ b) w3 w5 := (Only.of_below (F := fun b => w.heap.size ≤ b) ((Below.refl _ _).drew)).trans (Only.trans k1 k2 (fun i h => .inl h)) (fun i h => .inl h)
          have hb5 : Below w.heap.size w w5 := Hb3.out.trans (hk5.below (fun i h => h) Hb3.out.size)
          obtain ⟨wz, hwz⟩ : ∃ wz, wz = w3.drew.alloc (.cells #[.string ⟨x.key.toArray⟩, .int .i64 x.dev, .int .i64 x.seq] 83) := ⟨_, rfl⟩
          rw [← hwz] at hr5 k1 k2
          have hr5' : (AP #[29, 29] 29 #[.slice a9 np c9, .slice (some ⟨w3.heap.size, 0, none⟩) 1 1]).run Tryz.prog wz = .ok (.slice a5 (np + 1) c5) w5 := hr5
          have Hown5 := Lib.hid hown5; have Hk5 := Lib.hid hk5; have Hb5 := Lib.hid hb5
          have r0 : ∀ w', LaterF (fun b => w.heap.size ≤ b) w3.drew w' → w'.cell? _ = _ := fun w' hh => (HX3.out w' hh).1.1; have r1 : ∀ w', LaterF (fun b => w.heap.size ≤ b) w3.drew w' → w'.cell? _ = _ := fun w' hh => (HX3.out w' hh).1.2.1; have r2 : ∀ w', LaterF (fun b => w.heap.size ≤ b) w3.drew w' → w'.cell? _ = _ := fun w' hh => (HX3.out w' hh).1.2.2
          have Hwz := Lib.hid hwz
          clear hown5 hg5 hoA hk5 hb5 hwz hr5 t1 t2 t3 t4 hO3
          go_wp2_with fail
          refine wp_region_can (LaterF (fun b => w.heap.size ≤ b)) [(0, true), (1, true), (2, true), (3, true), (6, true), (7, true), (4, false), (5, false), (8, true), (9, true)] (by kernel_rfl) (by kernel_rfl) (laterF_refl _) (laterF_trans _) ?_
          repeat (first
            | (refine can_yes (v := ?_) rfl (wanted_none rfl) (fun w' hC => ?_) (fun K hK => ?_); rotate_left; (focus (go_simp; (try simp (disch := omega) only [IntWalk.i64_in]); (try simp (disch := omega) only [IntWalk.u32_in]); (try simp (disch := omega) only [IntWalk.u8_in]); (try simp (disch := omega) only [IntWalk.i64_quo]); (try simp (disch := omega) only [IntWalk.rem_in]); first | done | exact rfl)); go_simp; (try simp (disch := omega) only [IntWalk.i64_in]); (try simp (disch := omega) only [IntWalk.u32_in]); (try simp (disch := omega) only [IntWalk.u8_in]); (try simp (disch := omega) only [IntWalk.i64_quo]); (try simp (disch := omega) only [IntWalk.rem_in]); refine hK _ ?_; clear hK K)
            | (refine can_guard rfl (fun A B hA hB => ?_); go_simp; first | (refine hA ⟨?_, fun w' hC => ?_, fun K hK => ?_⟩; rotate_left; (focus (go_simp; (try simp (disch := omega) only [IntWalk.i64_in]); (try simp (disch := omega) only [IntWalk.u32_in]); (try simp (disch := omega) only [IntWalk.u8_in]); (try simp (disch := omega) only [IntWalk.i64_quo]); (try simp (disch := omega) only [IntWalk.rem_in]); first | done | exact rfl)); go_simp; (try simp (disch := omega) only [IntWalk.i64_in]); (try simp (disch := omega) only [IntWalk.u32_in]); (try simp (disch := omega) only [IntWalk.u8_in]); (try simp (disch := omega) only [IntWalk.i64_quo]); (try simp (disch := omega) only [IntWalk.rem_in]); refine hK _ ?_; clear hK K hA hB A B) | (refine hB (fun K hK => ?_); go_simp; (try simp (disch := omega) only [IntWalk.i64_in]); (try simp (disch := omega) only [IntWalk.u32_in]); (try simp (disch := omega) only [IntWalk.u8_in]); (try simp (disch := omega) only [IntWalk.i64_quo]); (try simp (disch := omega) only [IntWalk.rem_in]); refine hK _ ?_; clear hK K hA hB A B))
            | (refine can_guard_go rfl (fun A B hA hB => ?_); go_simp; refine hB (fun K hK => ?_); go_simp; (try simp (disch := omega) only [IntWalk.i64_in]); (try simp (disch := omega) only [IntWalk.u32_in]); (try simp (disch := omega) only [IntWalk.u8_in]); (try simp (disch := omega) only [IntWalk.i64_quo]); (try simp (disch := omega) only [IntWalk.rem_in]); refine hK _ ?_; clear hK K hA hB A B))
          generalize haN : (if c0 = 1 then some (⟨ba, oa, none⟩ : Addr) else some ⟨ba, oa + 3, none⟩) = aN at *
          refine can_go rfl rfl (fun KK hK => ?_)
          go_simp
          rw [show (w3.alloc (.cells #[.string ⟨x.key.toArray⟩, .int .i64 x.dev, .int .i64 x.seq] 83)).drew = wz from Hwz.out.symm]
          first | refine ⟨k1, hK _ _ ?_⟩ | refine hK _ _ ?_
          clear hK KK
          go_simp
          refine can_go rfl rfl (fun KK hK => ?_)
          go_simp
          first | refine ⟨k2, hK _ _ ?_⟩ | refine hK _ _ ?_
          clear hK KK r0 r1 r2 
          go_simp
          repeat (first
            | (refine can_yes (v := ?_) rfl (wanted_none rfl) (fun w' hC => ?_) (fun K hK => ?_); rotate_left; (focus (go_simp; (try simp (disch := omega) only [IntWalk.i64_in]); (try simp (disch := omega) only [IntWalk.u32_in]); (try simp (disch := omega) only [IntWalk.u8_in]); (try simp (disch := omega) only [IntWalk.i64_quo]); (try simp (disch := omega) only [IntWalk.rem_in]); first | done | exact rfl)); go_simp; (try simp (disch := omega) only [IntWalk.i64_in]); (try simp (disch := omega) only [IntWalk.u32_in]); (try simp (disch := omega) only [IntWalk.u8_in]); (try simp (disch := omega) only [IntWalk.i64_quo]); (try simp (disch := omega) only [IntWalk.rem_in]); refine hK _ ?_; clear hK K)
            | (refine can_guard rfl (fun A B hA hB => ?_); go_simp; first | (refine hA ⟨?_, fun w' hC => ?_, fun K hK => ?_⟩; rotate_left; (focus (go_simp; (try simp (disch := omega) only [IntWalk.i64_in]); (try simp (disch := omega) only [IntWalk.u32_in]); (try simp (disch := omega) only [IntWalk.u8_in]); (try simp (disch := omega) only [IntWalk.i64_quo]); (try simp (disch := omega) only [IntWalk.rem_in]); first | done | exact rfl)); go_simp; (try simp (disch := omega) only [IntWalk.i64_in]); (try simp (disch := omega) only [IntWalk.u32_in]); (try simp (disch := omega) only [IntWalk.u8_in]); (try simp (disch := omega) only [IntWalk.i64_quo]); (try simp (disch := omega) only [IntWalk.rem_in]); refine hK _ ?_; clear hK K hA hB A B) | (refine hB (fun K hK => ?_); go_simp; (try simp (disch := omega) only [IntWalk.i64_in]); (try simp (disch := omega) only [IntWalk.u32_in]); (try simp (disch := omega) only [IntWalk.u8_in]); (try simp (disch := omega) only [IntWalk.i64_quo]); (try simp (disch := omega) only [IntWalk.rem_in]); refine hK _ ?_; clear hK K hA hB A B))
            | (refine can_guard_go rfl (fun A B hA hB => ?_); go_simp; refine hB (fun K hK => ?_); go_simp; (try simp (disch := omega) only [IntWalk.i64_in]); (try simp (disch := omega) only [IntWalk.u32_in]); (try simp (disch := omega) only [IntWalk.u8_in]); (try simp (disch := omega) only [IntWalk.i64_quo]); (try simp (disch := omega) only [IntWalk.rem_in]); refine hK _ ?_; clear hK K hA hB A B))
          refine can_nil ?_
          go_wp2_with fail
          go_roundw
          case measure => simp [slLen]; omega
          case rel =>
            refine ⟨i + 1, j, pre ++ [x], by omega, hj, ?_, ?_, ?_, ?_, ?_, Hb5.out⟩
            · have h1 := HA3.out.keep (w' := w5) fun b hb hlt => Hk5.out.block b hlt (by omega)
              rw [Hna.out] at h1
              have h2 := rows_tail h1 (by omega) haN
              rw [flat_tail encGo 3 encGo_len A i hiA] at h2
              have h3 : (A.drop (i + 1)).length = na - 1 := by have := Hna'.out; simp; omega
              rw [h3]
              exact h2
            · have h1 := HB3.out.keep (w' := w5) fun b hb hlt => Hk5.out.block b hlt (by omega)
              rw [Hnb.out] at h1 ⊢
              exact h1
            · rw [flat_snoc, List.length_append, Hnp.out]
              exact Hown5.out
            · rw [← HR.out, Hmm.out, Hx.out]; simp
            · rw [List.length_append, Hnp.out]; simp; omega
        · by_cases hgt : plt y.pl x.pl
          · have hv : pcmp x.pl y.pl = 1 := by unfold pcmp; rw [if_neg hlt, if_pos hgt]
            rw [hv]
            have hmm := merge_at_gt deeperR A B i j hiA hjB (by rw [Hx.out, Hy.out]; exact hgt)
            have Hmm := Lib.hid hmm
            clear hv hlt hmm hgt
            repeat (first
              | (refine can_yes (v := ?_) rfl (wanted_none rfl) (fun w' hC => ?_) (fun K hK => ?_); rotate_left; (focus (go_simp; (try simp (disch := omega) only [IntWalk.i64_in]); (try simp (disch := omega) only [IntWalk.u32_in]); (try simp (disch := omega) only [IntWalk.u8_in]); (try simp (disch := omega) only [IntWalk.i64_quo]); (try simp (disch := omega) only [IntWalk.rem_in]); first | done | exact rfl)); go_simp; (try simp (disch := omega) only [IntWalk.i64_in]); (try simp (disch := omega) only [IntWalk.u32_in]); (try simp (disch := omega) only [IntWalk.u8_in]); (try simp (disch := omega) only [IntWalk.i64_quo]); (try simp (disch := omega) only [IntWalk.rem_in]); refine hK _ ?_; clear hK K)
              | (refine can_guard rfl (fun A B hA hB => ?_); go_simp; first | (refine hA ⟨?_, fun w' hC => ?_, fun K hK => ?_⟩; rotate_left; (focus (go_simp; (try simp (disch := omega) only [IntWalk.i64_in]); (try simp (disch := omega) only [IntWalk.u32_in]); (try simp (disch := omega) only [IntWalk.u8_in]); (try simp (disch := omega) only [IntWalk.i64_quo]); (try simp (disch := omega) only [IntWalk.rem_in]); first | done | exact rfl)); go_simp; (try simp (disch := omega) only [IntWalk.i64_in]); (try simp (disch := omega) only [IntWalk.u32_in]); (try simp (disch := omega) only [IntWalk.u8_in]); (try simp (disch := omega) only [IntWalk.i64_quo]); (try simp (disch := omega) only [IntWalk.rem_in]); refine hK _ ?_; clear hK K hA hB A B) | (refine hB (fun K hK => ?_); go_simp; (try simp (disch := omega) only [IntWalk.i64_in]); (try simp (disch := omega) only [IntWalk.u32_in]); (try simp (disch := omega) only [IntWalk.u8_in]); (try simp (disch := omega) only [IntWalk.i64_quo]); (try simp (disch := omega) only [IntWalk.rem_in]); refine hK _ ?_; clear hK K hA hB A B))
              | (refine can_guard_go rfl (fun A B hA hB => ?_); go_simp; refine hB (fun K hK => ?_); go_simp; (try simp (disch := omega) only [IntWalk.i64_in]); (try simp (disch := omega) only [IntWalk.u32_in]); (try simp (disch := omega) only [IntWalk.u8_in]); (try simp (disch := omega) only [IntWalk.i64_quo]); (try simp (disch := omega) only [IntWalk.rem_in]); refine hK _ ?_; clear hK K hA hB A B))
            refine can_nil ?_
            go_wp2_with fail
            have HX3 := Lib.hid (fun w' (hh : Only (fun b => w.heap.size ≤ b) w3.drew w') => HXC.out w' ((Only.of_below (F := fun b => w.heap.size ≤ b) Hl3.out).drew.trans hh (fun i h => .inl h)))
            obtain ⟨i0, t1, t2, t3, t4⟩ := info_parts infoGoP
            have hO3 : w3.drew.ownsRow w.heap.size 83 3 (.slice a9 np c9) np (pre.flatMap encGo) := by have := HO3.out; rw [Hnp.out] at this; exact this
            obtain ⟨v5, w5, hr5, hown5, hg5⟩ := run_append_one (P := Tryz.prog) w3.drew w.heap.size 29 83 Tryz.underlying29 t1 t2 t3 t4 rfl (by decide) (.slice a9 np c9) np _ hO3 #[.string ⟨y.key.toArray⟩, .int .i64 y.dev, .int .i64 y.seq] rfl (by simp [Value.oneCell']) (by unfold maxLen; omega) (by omega) (show w.heap.size ≤ w3.heap.size from Hb3.out.size)
            obtain ⟨a5, c5, rfl⟩ := own_shape hown5
            have k1 : LaterF (fun b => w.heap.size ≤ b) w3.drew (w3.drew.alloc (.cells #[.string ⟨y.key.toArray⟩, .int .i64 y.dev, .int .i64 y.seq] 83)) := LaterF.of_below (kept_alloc _ _)
            have hoA := own_below hO3 (kept_alloc w3.drew (.cells #[.string ⟨y.key.toArray⟩, .int .i64 y.dev, .int .i64 y.seq] 83))
            have k2 : LaterF (fun b => w.heap.size ≤ b) (w3.drew.alloc (.cells #[.string ⟨y.key.toArray⟩, .int .i64 y.dev, .int .i64 y.seq] 83)) w5 := ⟨hg5.os, hg5.tape, hg5.output, hg5.size, fun q hq hn => hg5.block q hq (fun e => hn (hoA.lt q e.symm).1)⟩
            have hk5 : Only (fun b => w.heap.size ≤ b) w3 w5 := (Only.of_below (F := fun b => w.heap.size ≤ b) ((Below.refl _ _).drew)).trans (Only.trans k1 k2 (fun i h => .inl h)) (fun i h => .inl h)
            have hb5 : Below w.heap.size w w5 := Hb3.out.trans (hk5.below (fun i h => h) Hb3.out.size)
            obtain ⟨wz, hwz⟩ : ∃ wz, wz = w3.drew.alloc (.cells #[.string ⟨y.key.toArray⟩, .int .i64 y.dev, .int .i64 y.seq] 83) := ⟨_, rfl⟩
            rw [← hwz] at hr5 k1 k2
            have hr5' : (AP #[29, 29] 29 #[.slice a9 np c9, .slice (some ⟨w3.heap.size, 0, none⟩) 1 1]).run Tryz.prog wz = .ok (.slice a5 (np + 1) c5) w5 := hr5
            have Hown5 := Lib.hid hown5; have Hk5 := Lib.hid hk5; have Hb5 := Lib.hid hb5
            have r0 : ∀ w', LaterF (fun b => w.heap.size ≤ b) w3.drew w' → w'.cell? _ = _ := fun w' hh => (HX3.out w' hh).2.1; have r1 : ∀ w', LaterF (fun b => w.heap.size ≤ b) w3.drew w' → w'.cell? _ = _ := fun w' hh => (HX3.out w' hh).2.2.1; have r2 : ∀ w', LaterF (fun b => w.heap.size ≤ b) w3.drew w' → w'.cell? _ = _ := fun w' hh => (HX3.out w' hh).2.2.2
            have Hwz := Lib.hid hwz
            clear hown5 hg5 hoA hk5 hb5 hwz hr5 t1 t2 t3 t4 hO3
            go_wp2_with fail
            refine wp_region_can (LaterF (fun b => w.heap.size ≤ b)) [(0, true), (1, true), (2, true), (3, true), (6, true), (7, true), (4, false), (5, false), (8, true), (9, true)] (by kernel_rfl) (by kernel_rfl) (laterF_refl _) (laterF_trans _) ?_
            repeat (first
              | (refine can_yes (v := ?_) rfl (wanted_none rfl) (fun w' hC => ?_) (fun K hK => ?_); rotate_left; (focus (go_simp; (try simp (disch := omega) only [IntWalk.i64_in]); (try simp (disch := omega) only [IntWalk.u32_in]); (try simp (disch := omega) only [IntWalk.u8_in]); (try simp (disch := omega) only [IntWalk.i64_quo]); (try simp (disch := omega) only [IntWalk.rem_in]); first | done | exact rfl)); go_simp; (try simp (disch := omega) only [IntWalk.i64_in]); (try simp (disch := omega) only [IntWalk.u32_in]); (try simp (disch := omega) only [IntWalk.u8_in]); (try simp (disch := omega) only [IntWalk.i64_quo]); (try simp (disch := omega) only [IntWalk.rem_in]); refine hK _ ?_; clear hK K)
              | (refine can_guard rfl (fun A B hA hB => ?_); go_simp; first | (refine hA ⟨?_, fun w' hC => ?_, fun K hK => ?_⟩; rotate_left; (focus (go_simp; (try simp (disch := omega) only [IntWalk.i64_in]); (try simp (disch := omega) only [IntWalk.u32_in]); (try simp (disch := omega) only [IntWalk.u8_in]); (try simp (disch := omega) only [IntWalk.i64_quo]); (try simp (disch := omega) only [IntWalk.rem_in]); first | done | exact rfl)); go_simp; (try simp (disch := omega) only [IntWalk.i64_in]); (try simp (disch := omega) only [IntWalk.u32_in]); (try simp (disch := omega) only [IntWalk.u8_in]); (try simp (disch := omega) only [IntWalk.i64_quo]); (try simp (disch := omega) only [IntWalk.rem_in]); refine hK _ ?_; clear hK K hA hB A B) | (refine hB (fun K hK => ?_); go_simp; (try simp (disch := omega) only [IntWalk.i64_in]); (try simp (disch := omega) only [IntWalk.u32_in]); (try simp (disch := omega) only [IntWalk.u8_in]); (try simp (disch := omega) only [IntWalk.i64_quo]); (try simp (disch := omega) only [IntWalk.rem_in]); refine hK _ ?_; clear hK K hA hB A B))
              | (refine can_guard_go rfl (fun A B hA hB => ?_); go_simp; refine hB (fun K hK => ?_); go_simp; (try simp (disch := omega) only [IntWalk.i64_in]); (try simp (disch := omega) only [IntWalk.u32_in]); (try simp (disch := omega) only [IntWalk.u8_in]); (try simp (disch := omega) only [IntWalk.i64_quo]); (try simp (disch := omega) only [IntWalk.rem_in]); refine hK _ ?_; clear hK K hA hB A B))
            generalize hbN : (if c1 = 1 then some (⟨bb, ob, none⟩ : Addr) else some ⟨bb, ob + 3, none⟩) = bN at *
            refine can_go rfl rfl (fun KK hK => ?_)
            go_simp
            rw [show (w3.alloc (.cells #[.string ⟨y.key.toArray⟩, .int .i64 y.dev, .int .i64 y.seq] 83)).drew = wz from Hwz.out.symm]
            first | refine ⟨k1, hK _ _ ?_⟩ | refine hK _ _ ?_
            clear hK KK
            go_simp
            refine can_go rfl rfl (fun KK hK => ?_)
            go_simp
            first | refine ⟨k2, hK _ _ ?_⟩ | refine hK _ _ ?_
            clear hK KK r0 r1 r2 
            go_simp
            repeat (first
              | (refine can_yes (v := ?_) rfl (wanted_none rfl) (fun w' hC => ?_) (fun K hK => ?_); rotate_left; (focus (go_simp; (try simp (disch := omega) only [IntWalk.i64_in]); (try simp (disch := omega) only [IntWalk.u32_in]); (try simp (disch := omega) only [IntWalk.u8_in]); (try simp (disch := omega) only [IntWalk.i64_quo]); (try simp (disch := omega) only [IntWalk.rem_in]); first | done | exact rfl)); go_simp; (try simp (disch := omega) only [IntWalk.i64_in]); (try simp (disch := omega) only [IntWalk.u32_in]); (try simp (disch := omega) only [IntWalk.u8_in]); (try simp (disch := omega) only [IntWalk.i64_quo]); (try simp (disch := omega) only [IntWalk.rem_in]); refine hK _ ?_; clear hK K)
              | (refine can_guard rfl (fun A B hA hB => ?_); go_simp; first | (refine hA ⟨?_, fun w' hC => ?_, fun K hK => ?_⟩; rotate_left; (focus (go_simp; (try simp (disch := omega) only [IntWalk.i64_in]); (try simp (disch := omega) only [IntWalk.u32_in]); (try simp (disch := omega) only [IntWalk.u8_in]); (try simp (disch := omega) only [IntWalk.i64_quo]); (try simp (disch := omega) only [IntWalk.rem_in]); first | done | exact rfl)); go_simp; (try simp (disch := omega) only [IntWalk.i64_in]); (try simp (disch := omega) only [IntWalk.u32_in]); (try simp (disch := omega) only [IntWalk.u8_in]); (try simp (disch := omega) only [IntWalk.i64_quo]); (try simp (disch := omega) only [IntWalk.rem_in]); refine hK _ ?_; clear hK K hA hB A B) | (refine hB (fun K hK => ?_); go_simp; (try simp (disch := omega) only [IntWalk.i64_in]); (try simp (disch := omega) only [IntWalk.u32_in]); (try simp (disch := omega) only [IntWalk.u8_in]); (try simp (disch := omega) only [IntWalk.i64_quo]); (try simp (disch := omega) only [IntWalk.rem_in]); refine hK _ ?_; clear hK K hA hB A B))
              | (refine can_guard_go rfl (fun A B hA hB => ?_); go_simp; refine hB (fun K hK => ?_); go_simp; (try simp (disch := omega) only [IntWalk.i64_in]); (try simp (disch := omega) only [IntWalk.u32_in]); (try simp (disch := omega) only [IntWalk.u8_in]); (try simp (disch := omega) only [IntWalk.i64_quo]); (try simp (disch := omega) only [IntWalk.rem_in]); refine hK _ ?_; clear hK K hA hB A B))
            refine can_nil ?_
            go_wp2_with fail
            go_roundw
            case measure => simp [slLen]; omega
            case rel =>
              refine ⟨i, j + 1, pre ++ [y], hi, by omega, ?_, ?_, ?_, ?_, ?_, Hb5.out⟩
              · have h1 := HA3.out.keep (w' := w5) fun b hb hlt => Hk5.out.block b hlt (by omega)
                rw [Hna.out] at h1 ⊢
                exact h1
              · have h1 := HB3.out.keep (w' := w5) fun b hb hlt => Hk5.out.block b hlt (by omega)
                rw [Hnb.out] at h1
                have h2 := rows_tail h1 (by omega) hbN
                rw [flat_tail encGo 3 encGo_len B j hjB] at h2
                have h3 : (B.drop (j + 1)).length = nb - 1 := by have := Hnb'.out; simp; omega
                rw [h3]
                exact h2
              · rw [flat_snoc, List.length_append, Hnp.out]
                exact Hown5.out
              · rw [← HR.out, Hmm.out, Hy.out]; simp
              · rw [List.length_append, Hnp.out]; simp; omega
          · have hxy := plt_tri hlt hgt
            have hv : pcmp x.pl y.pl = 0 := by unfold pcmp; rw [if_neg hlt, if_neg hgt]
            rw [hv]
            have hmm := merge_at_eq deeperR A B i j hiA hjB (by rw [Hx.out, Hy.out]; exact hxy)
            rw [Hx.out, Hy.out] at hmm
            have hbt := HBet.out x (by rw [← Hx.out]; exact List.getElem_mem hiA) y (by rw [← Hy.out]; exact List.getElem_mem hjB) hxy w3.drew Hb3.out.drew
            obtain ⟨z, hz⟩ : ∃ z, deeperR x y = z := ⟨_, rfl⟩
            rw [hz] at hbt hmm
            have HBt := Lib.hid (show Calls Tryz.prog 67 #[.agg #[.string ⟨x.key.toArray⟩, .int .i64 x.dev, .int .i64 x.seq], .agg #[.string ⟨y.key.toArray⟩, .int .i64 y.dev, .int .i64 y.seq]] w3.drew _ from hbt)
            have Hmm := Lib.hid hmm
            have HX3 := Lib.hid (fun w' (hh : Only (fun b => w.heap.size ≤ b) w3.drew w') => HXC.out w' ((Only.of_below (F := fun b => w.heap.size ≤ b) Hl3.out).drew.trans hh (fun i h => .inl h)))
            have r0 : ∀ w', LaterF (fun b => w.heap.size ≤ b) w3.drew w' → w'.cell? _ = _ := fun w' hh => (HX3.out w' hh).1.1; have r1 : ∀ w', LaterF (fun b => w.heap.size ≤ b) w3.drew w' → w'.cell? _ = _ := fun w' hh => (HX3.out w' hh).1.2.1; have r2 : ∀ w', LaterF (fun b => w.heap.size ≤ b) w3.drew w' → w'.cell? _ = _ := fun w' hh => (HX3.out w' hh).1.2.2
            have u0 : ∀ w', LaterF (fun b => w.heap.size ≤ b) w3.drew w' → w'.cell? _ = _ := fun w' hh => (HX3.out w' hh).2.1; have u1 : ∀ w', LaterF (fun b => w.heap.size ≤ b) w3.drew w' → w'.cell? _ = _ := fun w' hh => (HX3.out w' hh).2.2.1; have u2 : ∀ w', LaterF (fun b => w.heap.size ≤ b) w3.drew w' → w'.cell? _ = _ := fun w' hh => (HX3.out w' hh).2.2.2
            clear hv hlt hmm hgt hbt hxy
            repeat (first
              | (refine can_yes (v := ?_) rfl (wanted_none rfl) (fun w' hC => ?_) (fun K hK => ?_); rotate_left; (focus (go_simp; (try simp (disch := omega) only [IntWalk.i64_in]); (try simp (disch := omega) only [IntWalk.u32_in]); (try simp (disch := omega) only [IntWalk.u8_in]); (try simp (disch := omega) only [IntWalk.i64_quo]); (try simp (disch := omega) only [IntWalk.rem_in]); first | done | exact rfl)); go_simp; (try simp (disch := omega) only [IntWalk.i64_in]); (try simp (disch := omega) only [IntWalk.u32_in]); (try simp (disch := omega) only [IntWalk.u8_in]); (try simp (disch := omega) only [IntWalk.i64_quo]); (try simp (disch := omega) only [IntWalk.rem_in]); refine hK _ ?_; clear hK K)
              | (refine can_guard rfl (fun A B hA hB => ?_); go_simp; first | (refine hA ⟨?_, fun w' hC => ?_, fun K hK => ?_⟩; rotate_left; (focus (go_simp; (try simp (disch := omega) only [IntWalk.i64_in]); (try simp (disch := omega) only [IntWalk.u32_in]); (try simp (disch := omega) only [IntWalk.u8_in]); (try simp (disch := omega) only [IntWalk.i64_quo]); (try simp (disch := omega) only [IntWalk.rem_in]); first | done | exact rfl)); go_simp; (try simp (disch := omega) only [IntWalk.i64_in]); (try simp (disch := omega) only [IntWalk.u32_in]); (try simp (disch := omega) only [IntWalk.u8_in]); (try simp (disch := omega) only [IntWalk.i64_quo]); (try simp (disch := omega) only [IntWalk.rem_in]); refine hK _ ?_; clear hK K hA hB A B) | (refine hB (fun K hK => ?_); go_simp; (try simp (disch := omega) only [IntWalk.i64_in]); (try simp (disch := omega) only [IntWalk.u32_in]); (try simp (disch := omega) only [IntWalk.u8_in]); (try simp (disch := omega) only [IntWalk.i64_quo]); (try simp (disch := omega) only [IntWalk.rem_in]); refine hK _ ?_; clear hK K hA hB A B))
              | (refine can_guard_go rfl (fun A B hA hB => ?_); go_simp; refine hB (fun K hK => ?_); go_simp; (try simp (disch := omega) only [IntWalk.i64_in]); (try simp (disch := omega) only [IntWalk.u32_in]); (try simp (disch := omega) only [IntWalk.u8_in]); (try simp (disch := omega) only [IntWalk.i64_quo]); (try simp (disch := omega) only [IntWalk.rem_in]); refine hK _ ?_; clear hK K hA hB A B))
            refine can_nil ?_
            go_wp2_with fail
            refine wp_region_can (LaterF (fun b => w.heap.size ≤ b)) [(0, true), (1, true), (2, true), (3, true), (4, true), (5, true), (6, true), (7, true), (11, true), (12, true), (13, true), (14, true), (8, false), (9, false), (10, false), (15, true), (16, true), (17, true)] (by kernel_rfl) (by kernel_rfl) (laterF_refl _) (laterF_trans _) ?_
            repeat (first
              | (refine can_yes (v := ?_) rfl (wanted_none rfl) (fun w' hC => ?_) (fun K hK => ?_); rotate_left; (focus (go_simp; (try simp (disch := omega) only [IntWalk.i64_in]); (try simp (disch := omega) only [IntWalk.u32_in]); (try simp (disch := omega) only [IntWalk.u8_in]); (try simp (disch := omega) only [IntWalk.i64_quo]); (try simp (disch := omega) only [IntWalk.rem_in]); first | done | exact rfl)); go_simp; (try simp (disch := omega) only [IntWalk.i64_in]); (try simp (disch := omega) only [IntWalk.u32_in]); (try simp (disch := omega) only [IntWalk.u8_in]); (try simp (disch := omega) only [IntWalk.i64_quo]); (try simp (disch := omega) only [IntWalk.rem_in]); refine hK _ ?_; clear hK K)
              | (refine can_guard rfl (fun A B hA hB => ?_); go_simp; first | (refine hA ⟨?_, fun w' hC => ?_, fun K hK => ?_⟩; rotate_left; (focus (go_simp; (try simp (disch := omega) only [IntWalk.i64_in]); (try simp (disch := omega) only [IntWalk.u32_in]); (try simp (disch := omega) only [IntWalk.u8_in]); (try simp (disch := omega) only [IntWalk.i64_quo]); (try simp (disch := omega) only [IntWalk.rem_in]); first | done | exact rfl)); go_simp; (try simp (disch := omega) only [IntWalk.i64_in]); (try simp (disch := omega) only [IntWalk.u32_in]); (try simp (disch := omega) only [IntWalk.u8_in]); (try simp (disch := omega) only [IntWalk.i64_quo]); (try simp (disch := omega) only [IntWalk.rem_in]); refine hK _ ?_; clear hK K hA hB A B) | (refine hB (fun K hK => ?_); go_simp; (try simp (disch := omega) only [IntWalk.i64_in]); (try simp (disch := omega) only [IntWalk.u32_in]); (try simp (disch := omega) only [IntWalk.u8_in]); (try simp (disch := omega) only [IntWalk.i64_quo]); (try simp (disch := omega) only [IntWalk.rem_in]); refine hK _ ?_; clear hK K hA hB A B))
              | (refine can_guard_go rfl (fun A B hA hB => ?_); go_simp; refine hB (fun K hK => ?_); go_simp; (try simp (disch := omega) only [IntWalk.i64_in]); (try simp (disch := omega) only [IntWalk.u32_in]); (try simp (disch := omega) only [IntWalk.u8_in]); (try simp (disch := omega) only [IntWalk.i64_quo]); (try simp (disch := omega) only [IntWalk.rem_in]); refine hK _ ?_; clear hK K hA hB A B))
            generalize haN : (if c0 = 1 then some (⟨ba, oa, none⟩ : Addr) else some ⟨ba, oa + 3, none⟩) = aN at *
            generalize hbN : (if c1 = 1 then some (⟨bb, ob, none⟩ : Addr) else some ⟨bb, ob + 3, none⟩) = bN at *
            refine can_go rfl rfl (fun KK hK => ?_)
            go_simp
            refine HBt.out.mono ?_
            rintro e w4 ⟨rfl, hb4⟩
            refine ⟨_, rfl, LaterF.of_below hb4, hK _ _ ?_⟩
            clear hK KK HBt r0 r1 r2  u0 u1 u2 
            go_simp
            simp only [goV]
            have hl4 : Later w3 w4 := (Below.refl _ _).drew.trans hb4
            have hb4' : Below w.heap.size w w4 := Hb3.out.trans (RowKit.Below.mono hl4 Hb3.out.size)
            obtain ⟨i0, t1, t2, t3, t4⟩ := info_parts infoGoP
            have hO4 : w4.ownsRow w.heap.size 83 3 (.slice a9 np c9) np (pre.flatMap encGo) := by have := own_below HO3.out hl4; rw [Hnp.out] at this; exact this
            obtain ⟨v5, w5, hr5, hown5, hg5⟩ := run_append_one (P := Tryz.prog) w4 w.heap.size 29 83 Tryz.underlying29 t1 t2 t3 t4 rfl (by decide) (.slice a9 np c9) np _ hO4 #[.string ⟨z.key.toArray⟩, .int .i64 z.dev, .int .i64 z.seq] rfl (by simp [Value.oneCell']) (by unfold maxLen; omega) (by omega) hb4'.size
            obtain ⟨a5, c5, rfl⟩ := own_shape hown5
            have k1 : LaterF (fun b => w.heap.size ≤ b) w4 (w4.alloc (.cells #[.string ⟨z.key.toArray⟩, .int .i64 z.dev, .int .i64 z.seq] 83)) := LaterF.of_below (kept_alloc _ _)
            have hoA := own_below hO4 (kept_alloc w4 (.cells #[.string ⟨z.key.toArray⟩, .int .i64 z.dev, .int .i64 z.seq] 83))
            have k2 : LaterF (fun b => w.heap.size ≤ b) (w4.alloc (.cells #[.string ⟨z.key.toArray⟩, .int .i64 z.dev, .int .i64 z.seq] 83)) w5 := ⟨hg5.os, hg5.tape, hg5.output, hg5.size, fun q hq hn => hg5.block q hq (fun e => hn (hoA.lt q e.symm).1)⟩
            have hk5 : Only (fun b => w.heap.size ≤ b) w3 w5 := (Only.of_below (F := fun b => w.heap.size ≤ b) hl4).trans (Only.trans k1 k2 (fun i h => .inl h)) (fun i h => .inl h)
            have hb5 : Below w.heap.size w w5 := Hb3.out.trans (hk5.below (fun i h => h) Hb3.out.size)
            have Hown5 := Lib.hid hown5; have Hk5 := Lib.hid hk5; have Hb5 := Lib.hid hb5
            clear hown5 hg5 hoA hk5 hb5 t1 t2 t3 t4 hO4 hb4 hl4 hb4'
            refine can_go rfl rfl (fun KK hK => ?_)
            go_simp
            first | refine ⟨k1, hK _ _ ?_⟩ | refine hK _ _ ?_
            clear hK KK
            go_simp
            refine can_go rfl rfl (fun KK hK => ?_)
            go_simp
            first | refine ⟨k2, hK _ _ ?_⟩ | refine hK _ _ ?_
            clear hK KK
            go_simp
            repeat (first
              | (refine can_yes (v := ?_) rfl (wanted_none rfl) (fun w' hC => ?_) (fun K hK => ?_); rotate_left; (focus (go_simp; (try simp (disch := omega) only [IntWalk.i64_in]); (try simp (disch := omega) only [IntWalk.u32_in]); (try simp (disch := omega) only [IntWalk.u8_in]); (try simp (disch := omega) only [IntWalk.i64_quo]); (try simp (disch := omega) only [IntWalk.rem_in]); first | done | exact rfl)); go_simp; (try simp (disch := omega) only [IntWalk.i64_in]); (try simp (disch := omega) only [IntWalk.u32_in]); (try simp (disch := omega) only [IntWalk.u8_in]); (try simp (disch := omega) only [IntWalk.i64_quo]); (try simp (disch := omega) only [IntWalk.rem_in]); refine hK _ ?_; clear hK K)
              | (refine can_guard rfl (fun A B hA hB => ?_); go_simp; first | (refine hA ⟨?_, fun w' hC => ?_, fun K hK => ?_⟩; rotate_left; (focus (go_simp; (try simp (disch := omega) only [IntWalk.i64_in]); (try simp (disch := omega) only [IntWalk.u32_in]); (try simp (disch := omega) only [IntWalk.u8_in]); (try simp (disch := omega) only [IntWalk.i64_quo]); (try simp (disch := omega) only [IntWalk.rem_in]); first | done | exact rfl)); go_simp; (try simp (disch := omega) only [IntWalk.i64_in]); (try simp (disch := omega) only [IntWalk.u32_in]); (try simp (disch := omega) only [IntWalk.u8_in]); (try simp (disch := omega) only [IntWalk.i64_quo]); (try simp (disch := omega) only [IntWalk.rem_in]); refine hK _ ?_; clear hK K hA hB A B) | (refine hB (fun K hK => ?_); go_simp; (try simp (disch := omega) only [IntWalk.i64_in]); (try simp (disch := omega) only [IntWalk.u32_in]); (try simp (disch := omega) only [IntWalk.u8_in]); (try simp (disch := omega) only [IntWalk.i64_quo]); (try simp (disch := omega) only [IntWalk.rem_in]); refine hK _ ?_; clear hK K hA hB A B))
              | (refine can_guard_go rfl (fun A B hA hB => ?_); go_simp; refine hB (fun K hK => ?_); go_simp; (try simp (disch := omega) only [IntWalk.i64_in]); (try simp (disch := omega) only [IntWalk.u32_in]); (try simp (disch := omega) only [IntWalk.u8_in]); (try simp (disch := omega) only [IntWalk.i64_quo]); (try simp (disch := omega) only [IntWalk.rem_in]); refine hK _ ?_; clear hK K hA hB A B))
            refine can_nil ?_
            go_wp2_with fail
            go_roundw
            case measure => simp [slLen]; omega
            case rel =>
              refine ⟨i + 1, j + 1, pre ++ [z], by omega, by omega, ?_, ?_, ?_, ?_, ?_, Hb5.out⟩
              · have h1 := HA3.out.keep (w' := w5) fun b hb hlt => Hk5.out.block b hlt (by omega)
                rw [Hna.out] at h1
                have h2 := rows_tail h1 (by omega) haN
                rw [flat_tail encGo 3 encGo_len A i hiA] at h2
                have h3 : (A.drop (i + 1)).length = na - 1 := by have := Hna'.out; simp; omega
                rw [h3]
                exact h2
              · have h1 := HB3.out.keep (w' := w5) fun b hb hlt => Hk5.out.block b hlt (by omega)
                rw [Hnb.out] at h1
                have h2 := rows_tail h1 (by omega) hbN
                rw [flat_tail encGo 3 encGo_len B j hjB] at h2
                have h3 : (B.drop (j + 1)).length = nb - 1 := by have := Hnb'.out; simp; omega
                rw [h3]
                exact h2
              · rw [flat_snoc, List.length_append, Hnp.out]
                exact Hown5.out
              · rw [← HR.out, Hmm.out]; simp
              · rw [List.length_append, Hnp.out]; simp; omega
      · have hfin := merge_end (pl := RGo.pl) deeperR A B i j (by have := Hnb'.out; omega)
        obtain ⟨i0, t1, t2, t3, t4⟩ := info_parts infoGoP
        have hO := HO.out
        rw [Hnp.out] at hO
        have hA := HA.out
        rw [Hna.out] at hA
        have hB := HB.out
        rw [Hnb.out] at hB
        have Hi := Lib.hid hi; have Hj := Lib.hid hj
        obtain ⟨v5, w5, hr5, hown5, hg5⟩ := run_append_rows (P := Tryz.prog) wr w.heap.size 29 83 Tryz.underlying29 t1 t2 t3 t4 rfl (by decide) (.slice a9 np c9) np _ hO (fun b => b < w.heap.size) _ na _ hA (one_encGo _) (by have := Hna'.out; unfold maxLen; omega) (by have := Hna'.out; omega) Hbw.out.size
        obtain ⟨a5, c5, rfl⟩ := own_shape hown5
        have hb5 : Below w.heap.size wr w5 := Below.grownOwn hO hg5 Hbw.out.size (Nat.le_refl _)
        have hB5 := hB.keep (w' := w5) fun b hb hlt => hb5.block b hb
        obtain ⟨v6, w6, hr6, hown6, hg6⟩ := run_append_rows (P := Tryz.prog) w5 w.heap.size 29 83 Tryz.underlying29 t1 t2 t3 t4 rfl (by decide) (.slice a5 (np + na) c5) (np + na) _ hown5 (fun b => b < w.heap.size) _ nb _ hB5 (one_encGo _) (by have := Hna'.out; have := Hnb'.out; unfold maxLen; omega) (by have := Hna'.out; have := Hnb'.out; omega) (Nat.le_trans Hbw.out.size hb5.size)
        obtain ⟨a6, c6, rfl⟩ := own_shape hown6
        have hb6 : Below w.heap.size wr w6 := hb5.trans (Below.grownOwn hown5 hg6 (Nat.le_trans Hbw.out.size hb5.size) (Nat.le_refl _))
        have Hb6 := Lib.hid (Hbw.out.trans hb6)
        have Hown6 := Lib.hid (show w6.ownsRow w.heap.size 83 3 (.slice a6 (np + na + nb) c6) R.length (R.flatMap encGo) by
          rw [← HR.out, hfin]
          have h1 : (pre ++ (A.drop i ++ B.drop j)).length = np + na + nb := by rw [List.length_append, List.length_append, Hnp.out, Hna.out, Hnb.out]; omega
          rw [h1]
          simpa [List.append_assoc] using hown6)
        clear hb5 hb6 hown5 hown6 hg5 hg6 hB5 hA hB hO hfin t1 t2 t3 t4 hi hj
        go_wp2_with fail
        go_ret
        exact ⟨_, rfl, Hown6.out, Hb6.out⟩
    · have hfin := merge_end (pl := RGo.pl) deeperR A B i j (by have := Hna'.out; omega)
      obtain ⟨i0, t1, t2, t3, t4⟩ := info_parts infoGoP
      have hO := HO.out
      rw [Hnp.out] at hO
      have hA := HA.out
      rw [Hna.out] at hA
      have hB := HB.out
      rw [Hnb.out] at hB
      have Hi := Lib.hid hi; have Hj := Lib.hid hj
      obtain ⟨v5, w5, hr5, hown5, hg5⟩ := run_append_rows (P := Tryz.prog) wr w.heap.size 29 83 Tryz.underlying29 t1 t2 t3 t4 rfl (by decide) (.slice a9 np c9) np _ hO (fun b => b < w.heap.size) _ na _ hA (one_encGo _) (by have := Hna'.out; unfold maxLen; omega) (by have := Hna'.out; omega) Hbw.out.size
      obtain ⟨a5, c5, rfl⟩ := own_shape hown5
      have hb5 : Below w.heap.size wr w5 := Below.grownOwn hO hg5 Hbw.out.size (Nat.le_refl _)
      have hB5 := hB.keep (w' := w5) fun b hb hlt => hb5.block b hb
      obtain ⟨v6, w6, hr6, hown6, hg6⟩ := run_append_rows (P := Tryz.prog) w5 w.heap.size 29 83 Tryz.underlying29 t1 t2 t3 t4 rfl (by decide) (.slice a5 (np + na) c5) (np + na) _ hown5 (fun b => b < w.heap.size) _ nb _ hB5 (one_encGo _) (by have := Hna'.out; have := Hnb'.out; unfold maxLen; omega) (by have := Hna'.out; have := Hnb'.out; omega) (Nat.le_trans Hbw.out.size hb5.size)
      obtain ⟨a6, c6, rfl⟩ := own_shape hown6
      have hb6 : Below w.heap.size wr w6 := hb5.trans (Below.grownOwn hown5 hg6 (Nat.le_trans Hbw.out.size hb5.size) (Nat.le_refl _))
      have Hb6 := Lib.hid (Hbw.out.trans hb6)
      have Hown6 := Lib.hid (show w6.ownsRow w.heap.size 83 3 (.slice a6 (np + na + nb) c6) R.length (R.flatMap encGo) by
        rw [← HR.out, hfin]
        have h1 : (pre ++ (A.drop i ++ B.drop j)).length = np + na + nb := by rw [List.length_append, List.length_append, Hnp.out, Hna.out, Hnb.out]; omega
        rw [h1]
        simpa [List.append_assoc] using hown6)
      clear hb5 hb6 hown5 hown6 hg5 hg6 hB5 hA hB hO hfin t1 t2 t3 t4 hi hj
      go_wp2_with fail
      go_ret
      exact ⟨_, rfl, Hown6.out, Hb6.out⟩
end Go.Proofs.YtbjkkmabafaogaaGreatDoor
