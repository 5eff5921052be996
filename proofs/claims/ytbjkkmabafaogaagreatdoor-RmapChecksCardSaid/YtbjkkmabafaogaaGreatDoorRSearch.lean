/- slices.BinarySearchFunc at Gone. -/
import Derived.Test.YtbjkkmabafaogaaGreatDoorRBur
import Derived.Laws.Shifts
namespace Go.Proofs.YtbjkkmabafaogaaGreatDoor
open Go.RowKit
set_option linter.unusedVariables false
set_option maxRecDepth 20000
attribute [local go_sem] opC upC

/-- all before i are before p, none from j on -/
def Srch (l : List RGo) (p : RPl) (i j : Nat) : Prop :=
  (∀ k (h : k < l.length), k < i → plt l[k].pl p) ∧ ∀ k (h : k < l.length), j ≤ k → ¬ plt l[k].pl p
theorem srch_lo {l : List RGo} {p : RPl} {i j h : Nat} (ha : Asc RGo.pl l) (s : Srch l p i j) (hh : h < l.length) (hl : plt l[h].pl p) : Srch l p (h + 1) j :=
  ⟨fun k hk hlt => by
    rcases Nat.lt_succ_iff_lt_or_eq.1 hlt with hx | hx
    · exact plt_trans (List.pairwise_iff_getElem.1 ha k h hk hh hx) hl
    · subst hx; exact hl, s.2⟩
theorem srch_hi {l : List RGo} {p : RPl} {i j h : Nat} (ha : Asc RGo.pl l) (s : Srch l p i j) (hh : h < l.length) (hl : ¬ plt l[h].pl p) : Srch l p i h :=
  ⟨s.1, fun k hk hle => by
    rcases Nat.lt_or_ge h k with hx | hx
    · exact fun hc => hl (plt_trans (List.pairwise_iff_getElem.1 ha h k hh hk hx) hc)
    · have : k = h := by omega
      subst this; exact hl⟩
theorem srch_hit {l : List RGo} {p : RPl} {i : Nat} (ha : Asc RGo.pl l) (hi : i < l.length) (he : l[i].pl = p) : look RGo.pl l p = some l[i] := by
  rw [← he]; exact look_of_mem ha (List.getElem_mem hi)
theorem srch_miss {l : List RGo} {p : RPl} {i : Nat} (ha : Asc RGo.pl l) (s : Srch l p i i) (hn : ∀ h : i < l.length, l[i].pl ≠ p) : look RGo.pl l p = none := by
  rw [look_none]
  intro x hx he
  obtain ⟨k, hk, rfl⟩ := List.mem_iff_getElem.1 hx
  rcases Nat.lt_trichotomy k i with h | h | h
  · exact plt_irrefl p (he ▸ s.1 k hk h)
  · subst h; exact hn hk he
  · have hi : i < l.length := by omega
    have h1 : plt l[i].pl p := by
      have := List.pairwise_iff_getElem.1 ha i k hi hk h
      rw [he] at this; exact this
    exact s.2 i hi (Nat.le_refl _) h1

/-- what the search tells -/
abbrev Found (l : List RGo) (p : RPl) (i : Nat) (ok : Bool) : Prop :=
  (ok = true → ∃ h : i < l.length, look RGo.pl l p = some l[i]) ∧ (ok = false → look RGo.pl l p = none)
set_option maxRecDepth 100000 in
set_option maxHeartbeats 3000000 in
theorem bsearch_any (w : World) (F : Blks) (v : Value) (l : List RGo) (p : RPl) (h : Rows F w 3 v l.length (l.flatMap encGo)) (hl : l.length ≤ 1000000) (ha : Asc RGo.pl l) :
    Calls Tryz.prog 88 #[v, plV p, .func (.func 89) #[] #[]] w fun e w' =>
      (∃ (i : Nat) (ok : Bool), e = .returned (.tuple #[.int .i64 i, .bool ok]) ∧ Found l p i ok) ∧ Below w.heap.size w w' := by
  have Hh := Lib.hid h
  obtain ⟨a, cap, rfl, -⟩ := h.shape
  obtain ⟨n, hn⟩ : ∃ n, l.length = n := ⟨_, rfl⟩
  have Hn := Lib.hid hn; have Ha := Lib.hid ha
  rw [hn] at hl
  obtain ⟨w1, hw1⟩ : ∃ w1, w1 = w.alloc (.cells #[.string ⟨p.1.toArray⟩, .int .i64 p.2] 91) := ⟨_, rfl⟩
  have hb1 : Below w.heap.size w w1 := by rw [hw1]; exact kept_alloc _ _
  have hp := Blk.new w #[.string ⟨p.1.toArray⟩, .int .i64 p.2] 91
  rw [← hw1] at hp
  have hz1 : w1.heap.size = w.heap.size + 1 := by rw [hw1]; simp
  have Hp := Lib.hid hp; have Hw1 := Lib.hid hw1; have Hz1 := Lib.hid hz1
  have Hs0 := Lib.hid (show Below (w.heap.size + 1) w1 w1 from Below.refl _ _)
  have Hb1 := Lib.hid hb1
  clear h ha hp hw1 hz1 hb1
  unfold plV
  rw [Hn.out]
  go_enter Tryz.func88, Tryz.ntmps88
  go_wp2_with fail
  go_loopg [9, 10] n (fun g s9 s10 wr => ∃ lo hi : Nat, s9 = .int .i64 lo ∧ s10 = .int .i64 hi ∧ lo ≤ hi ∧ hi ≤ n ∧ hi - lo ≤ g ∧ Below (w.heap.size + 1) w1 wr ∧ Srch l p lo hi)
  case atStart =>
    exact ⟨0, n, rfl, rfl, Nat.zero_le _, Nat.le_refl _, by omega, by
      have := Hs0.out
      rw [Hw1.out] at this ⊢
      exact this, fun k hk h0 => by omega, fun k hk h0 => by have := Hn.out; omega⟩
  case round =>
    obtain ⟨lo, hi, rfl, rfl, hlh, hin, hg, hbw, hs⟩ := hrel
    have Hbw := Lib.hid hbw; have Hs := Lib.hid hs
    have hmem := Hh.out.keep (w' := wr) fun b _ hlt => (Hbw.out.block b (by omega)).trans (Hb1.out.block b hlt)
    have q0 : wr.cell? ⟨w.heap.size, 0, none⟩ = some (.string ⟨p.1.toArray⟩) := by
      simpa using (Hp.out.keep (Hbw.out.block w.heap.size (by omega))).cell 0
    have q1 : wr.cell? ⟨w.heap.size, 1, none⟩ = some (.int .i64 p.2) := by
      simpa using (Hp.out.keep (Hbw.out.block w.heap.size (by omega))).cell 1
    clear hbw hs
    by_cases hlt : lo < hi
    · obtain ⟨m, hm⟩ : ∃ m, m = (lo + hi) / 2 := ⟨_, rfl⟩
      obtain ⟨b, off, rfl, -, -, hc⟩ := go_cell hmem (by rw [Hn.out]; omega)
      have hmn : m < l.length := by rw [Hn.out]; omega
      obtain ⟨x0, x1, x2⟩ := hc m hmn
      obtain ⟨x, hx⟩ : ∃ x, l[m] = x := ⟨_, rfl⟩
      rw [hx] at x0 x1 x2
      have Hx := Lib.hid hx
      have HC := Lib.hid (show Calls Tryz.prog 89 #[.agg #[.string ⟨x.key.toArray⟩, .int .i64 x.dev, .int .i64 x.seq], .agg #[.string ⟨p.1.toArray⟩, .int .i64 p.2]] wr.drew _ from burCmp_any wr.drew x p)
      have p0 : ∀ w', Later wr.drew w' → w'.cell? _ = _ := fun w' hh => laterC x0 hh
      have p1 : ∀ w', Later wr.drew w' → w'.cell? _ = _ := fun w' hh => laterC x1 hh
      have p2 : ∀ w', Later wr.drew w' → w'.cell? _ = _ := fun w' hh => laterC x2 hh
      have r0 : ∀ w', Later wr.drew w' → w'.cell? _ = _ := fun w' hh => laterC q0 hh
      have r1 : ∀ w', Later wr.drew w' → w'.cell? _ = _ := fun w' hh => laterC q1 hh
      have hs0 : IntKind.i64.wrap (m : Int) = (m : Int) := IntWalk.i64_in _ (by omega)
      have hs1 : IntKind.i64.wrap ((lo : Int) + hi) = (lo : Int) + hi := IntWalk.i64_in _ (by omega)
      have hs2 : ((lo : Int) + hi) / 2 = (m : Int) := by omega
      have hmI : (m : Int) < (n : Int) := by have := Hn.out; omega
      have Hm := Lib.hid hm
      clear hc hmem x0 x1 x2 q0 q1 hx hm
      go_wp2_with fail
      refine wp_region_can Later [(0, true), (1, true), (2, true), (3, true), (4, true), (5, true), (6, false), (7, true)] (by kernel_rfl) (by kernel_rfl) later_refl later_trans ?_
      repeat (first
        | (refine can_yes (v := ?_) rfl (wanted_none rfl) (fun w' hC => ?_) (fun K hK => ?_); rotate_left; (focus (go_simp; (try simp (disch := omega) only [IntWalk.i64_in]); (try simp (disch := omega) only [IntWalk.u32_in]); (try simp (disch := omega) only [IntWalk.u8_in]); (try simp (disch := omega) only [IntWalk.i64_quo]); (try simp (disch := omega) only [IntWalk.rem_in]); first | done | exact rfl)); go_simp; (try simp (disch := omega) only [IntWalk.i64_in]); (try simp (disch := omega) only [IntWalk.u32_in]); (try simp (disch := omega) only [IntWalk.u8_in]); (try simp (disch := omega) only [IntWalk.i64_quo]); (try simp (disch := omega) only [IntWalk.rem_in]); refine hK _ ?_; clear hK K)
        | (refine can_guard rfl (fun A B hA hB => ?_); go_simp; first | (refine hA ⟨?_, fun w' hC => ?_, fun K hK => ?_⟩; rotate_left; (focus (go_simp; (try simp (disch := omega) only [IntWalk.i64_in]); (try simp (disch := omega) only [IntWalk.u32_in]); (try simp (disch := omega) only [IntWalk.u8_in]); (try simp (disch := omega) only [IntWalk.i64_quo]); (try simp (disch := omega) only [IntWalk.rem_in]); first | done | exact rfl)); go_simp; (try simp (disch := omega) only [IntWalk.i64_in]); (try simp (disch := omega) only [IntWalk.u32_in]); (try simp (disch := omega) only [IntWalk.u8_in]); (try simp (disch := omega) only [IntWalk.i64_quo]); (try simp (disch := omega) only [IntWalk.rem_in]); refine hK _ ?_; clear hK K hA hB A B) | (refine hB (fun K hK => ?_); go_simp; (try simp (disch := omega) only [IntWalk.i64_in]); (try simp (disch := omega) only [IntWalk.u32_in]); (try simp (disch := omega) only [IntWalk.u8_in]); (try simp (disch := omega) only [IntWalk.i64_quo]); (try simp (disch := omega) only [IntWalk.rem_in]); refine hK _ ?_; clear hK K hA hB A B))
        | (refine can_guard_go rfl (fun A B hA hB => ?_); go_simp; refine hB (fun K hK => ?_); go_simp; (try simp (disch := omega) only [IntWalk.i64_in]); (try simp (disch := omega) only [IntWalk.u32_in]); (try simp (disch := omega) only [IntWalk.u8_in]); (try simp (disch := omega) only [IntWalk.i64_quo]); (try simp (disch := omega) only [IntWalk.rem_in]); refine hK _ ?_; clear hK K hA hB A B))
      refine can_go rfl rfl (fun KK hK => ?_)
      go_simp
      refine HC.out.mono ?_
      rintro e w2 ⟨rfl, hb2⟩
      refine ⟨_, rfl, hb2, hK _ _ ?_⟩
      clear hK KK HC p0 p1 p2 r0 r1
      go_simp
      have Hb2 := Lib.hid (Hbw.out.trans (((Below.refl _ _).drew.trans hb2).mono (Nat.le_trans (Nat.le_of_eq Hz1.out.symm) Hbw.out.size)))
      clear hb2
      by_cases hl : plt x.pl p
      · have hv : pcmp x.pl p = -1 := by unfold pcmp; rw [if_pos hl]
        rw [hv]
        have Hl := Lib.hid hl
        clear hv hl
        repeat (first
          | (refine can_yes (v := ?_) rfl (wanted_none rfl) (fun w' hC => ?_) (fun K hK => ?_); rotate_left; (focus (go_simp; (try simp (disch := omega) only [IntWalk.i64_in]); (try simp (disch := omega) only [IntWalk.u32_in]); (try simp (disch := omega) only [IntWalk.u8_in]); (try simp (disch := omega) only [IntWalk.i64_quo]); (try simp (disch := omega) only [IntWalk.rem_in]); first | done | exact rfl)); go_simp; (try simp (disch := omega) only [IntWalk.i64_in]); (try simp (disch := omega) only [IntWalk.u32_in]); (try simp (disch := omega) only [IntWalk.u8_in]); (try simp (disch := omega) only [IntWalk.i64_quo]); (try simp (disch := omega) only [IntWalk.rem_in]); refine hK _ ?_; clear hK K)
          | (refine can_guard rfl (fun A B hA hB => ?_); go_simp; first | (refine hA ⟨?_, fun w' hC => ?_, fun K hK => ?_⟩; rotate_left; (focus (go_simp; (try simp (disch := omega) only [IntWalk.i64_in]); (try simp (disch := omega) only [IntWalk.u32_in]); (try simp (disch := omega) only [IntWalk.u8_in]); (try simp (disch := omega) only [IntWalk.i64_quo]); (try simp (disch := omega) only [IntWalk.rem_in]); first | done | exact rfl)); go_simp; (try simp (disch := omega) only [IntWalk.i64_in]); (try simp (disch := omega) only [IntWalk.u32_in]); (try simp (disch := omega) only [IntWalk.u8_in]); (try simp (disch := omega) only [IntWalk.i64_quo]); (try simp (disch := omega) only [IntWalk.rem_in]); refine hK _ ?_; clear hK K hA hB A B) | (refine hB (fun K hK => ?_); go_simp; (try simp (disch := omega) only [IntWalk.i64_in]); (try simp (disch := omega) only [IntWalk.u32_in]); (try simp (disch := omega) only [IntWalk.u8_in]); (try simp (disch := omega) only [IntWalk.i64_quo]); (try simp (disch := omega) only [IntWalk.rem_in]); refine hK _ ?_; clear hK K hA hB A B))
          | (refine can_guard_go rfl (fun A B hA hB => ?_); go_simp; refine hB (fun K hK => ?_); go_simp; (try simp (disch := omega) only [IntWalk.i64_in]); (try simp (disch := omega) only [IntWalk.u32_in]); (try simp (disch := omega) only [IntWalk.u8_in]); (try simp (disch := omega) only [IntWalk.i64_quo]); (try simp (disch := omega) only [IntWalk.rem_in]); refine hK _ ?_; clear hK K hA hB A B))
        refine can_nil ?_
        go_wp2_with fail
        go_roundg (hi - (m + 1))
        case measure => have := Hm.out; omega
        case rel => exact ⟨m + 1, hi, by go_num, rfl, by have := Hm.out; omega, hin, Nat.le_refl _, Hb2.out, srch_lo Ha.out Hs.out hmn (by rw [Hx.out]; exact Hl.out)⟩
      · have hv : 0 ≤ pcmp x.pl p := by unfold pcmp; rw [if_neg hl]; split <;> omega
        have Hl := Lib.hid hl
        generalize pcmp x.pl p = cv at *
        clear hl
        have hv2 : ¬ cv < 0 := by omega
        repeat (first
          | (refine can_yes (v := ?_) rfl (wanted_none rfl) (fun w' hC => ?_) (fun K hK => ?_); rotate_left; (focus (go_simp; (try simp (disch := omega) only [IntWalk.i64_in]); (try simp (disch := omega) only [IntWalk.u32_in]); (try simp (disch := omega) only [IntWalk.u8_in]); (try simp (disch := omega) only [IntWalk.i64_quo]); (try simp (disch := omega) only [IntWalk.rem_in]); first | done | exact rfl)); go_simp; (try simp (disch := omega) only [IntWalk.i64_in]); (try simp (disch := omega) only [IntWalk.u32_in]); (try simp (disch := omega) only [IntWalk.u8_in]); (try simp (disch := omega) only [IntWalk.i64_quo]); (try simp (disch := omega) only [IntWalk.rem_in]); refine hK _ ?_; clear hK K)
          | (refine can_guard rfl (fun A B hA hB => ?_); go_simp; first | (refine hA ⟨?_, fun w' hC => ?_, fun K hK => ?_⟩; rotate_left; (focus (go_simp; (try simp (disch := omega) only [IntWalk.i64_in]); (try simp (disch := omega) only [IntWalk.u32_in]); (try simp (disch := omega) only [IntWalk.u8_in]); (try simp (disch := omega) only [IntWalk.i64_quo]); (try simp (disch := omega) only [IntWalk.rem_in]); first | done | exact rfl)); go_simp; (try simp (disch := omega) only [IntWalk.i64_in]); (try simp (disch := omega) only [IntWalk.u32_in]); (try simp (disch := omega) only [IntWalk.u8_in]); (try simp (disch := omega) only [IntWalk.i64_quo]); (try simp (disch := omega) only [IntWalk.rem_in]); refine hK _ ?_; clear hK K hA hB A B) | (refine hB (fun K hK => ?_); go_simp; (try simp (disch := omega) only [IntWalk.i64_in]); (try simp (disch := omega) only [IntWalk.u32_in]); (try simp (disch := omega) only [IntWalk.u8_in]); (try simp (disch := omega) only [IntWalk.i64_quo]); (try simp (disch := omega) only [IntWalk.rem_in]); refine hK _ ?_; clear hK K hA hB A B))
          | (refine can_guard_go rfl (fun A B hA hB => ?_); go_simp; refine hB (fun K hK => ?_); go_simp; (try simp (disch := omega) only [IntWalk.i64_in]); (try simp (disch := omega) only [IntWalk.u32_in]); (try simp (disch := omega) only [IntWalk.u8_in]); (try simp (disch := omega) only [IntWalk.i64_quo]); (try simp (disch := omega) only [IntWalk.rem_in]); refine hK _ ?_; clear hK K hA hB A B))
        refine can_nil ?_
        go_wp2_with fail
        go_roundg (m - lo)
        case measure => have := Hm.out; omega
        case rel => exact ⟨lo, m, rfl, rfl, by have := Hm.out; omega, by have := Hm.out; omega, Nat.le_refl _, Hb2.out, srch_hi Ha.out Hs.out hmn (by rw [Hx.out]; exact Hl.out)⟩
    · have he : hi = lo := by omega
      subst he
      by_cases hin2 : hi < n
      · obtain ⟨b, off, rfl, -, -, hc⟩ := go_cell hmem (by rw [Hn.out]; omega)
        have hmn : hi < l.length := by rw [Hn.out]; omega
        obtain ⟨x0, x1, x2⟩ := hc hi hmn
        obtain ⟨x, hx⟩ : ∃ x, l[hi] = x := ⟨_, rfl⟩
        rw [hx] at x0 x1 x2
        have Hx := Lib.hid hx
        have HC := Lib.hid (show Calls Tryz.prog 89 #[.agg #[.string ⟨x.key.toArray⟩, .int .i64 x.dev, .int .i64 x.seq], .agg #[.string ⟨p.1.toArray⟩, .int .i64 p.2]] wr.drew _ from burCmp_any wr.drew x p)
        have p0 : ∀ w', Later wr.drew w' → w'.cell? _ = _ := fun w' hh => laterC x0 hh
        have p1 : ∀ w', Later wr.drew w' → w'.cell? _ = _ := fun w' hh => laterC x1 hh
        have p2 : ∀ w', Later wr.drew w' → w'.cell? _ = _ := fun w' hh => laterC x2 hh
        have r0 : ∀ w', Later wr.drew w' → w'.cell? _ = _ := fun w' hh => laterC q0 hh
        have r1 : ∀ w', Later wr.drew w' → w'.cell? _ = _ := fun w' hh => laterC q1 hh
        have hs0 : IntKind.i64.wrap (hi : Int) = (hi : Int) := IntWalk.i64_in _ (by omega)
        have hmI : (hi : Int) < (n : Int) := by omega
        clear hc hmem x0 x1 x2 q0 q1 hx
        go_wp2_with fail
        refine wp_region_can Later [(0, true), (1, true), (2, true), (3, true), (4, true), (5, true), (6, true), (7, true), (8, true), (9, true), (10, true), (11, false), (12, true), (13, true), (14, true), (15, true)] (by kernel_rfl) (by kernel_rfl) later_refl later_trans ?_
        repeat (first
          | (refine can_yes (v := ?_) rfl (wanted_none rfl) (fun w' hC => ?_) (fun K hK => ?_); rotate_left; (focus (go_simp; (try simp (disch := omega) only [IntWalk.i64_in]); (try simp (disch := omega) only [IntWalk.u32_in]); (try simp (disch := omega) only [IntWalk.u8_in]); (try simp (disch := omega) only [IntWalk.i64_quo]); (try simp (disch := omega) only [IntWalk.rem_in]); first | done | exact rfl)); go_simp; (try simp (disch := omega) only [IntWalk.i64_in]); (try simp (disch := omega) only [IntWalk.u32_in]); (try simp (disch := omega) only [IntWalk.u8_in]); (try simp (disch := omega) only [IntWalk.i64_quo]); (try simp (disch := omega) only [IntWalk.rem_in]); refine hK _ ?_; clear hK K)
          | (refine can_guard rfl (fun A B hA hB => ?_); go_simp; first | (refine hA ⟨?_, fun w' hC => ?_, fun K hK => ?_⟩; rotate_left; (focus (go_simp; (try simp (disch := omega) only [IntWalk.i64_in]); (try simp (disch := omega) only [IntWalk.u32_in]); (try simp (disch := omega) only [IntWalk.u8_in]); (try simp (disch := omega) only [IntWalk.i64_quo]); (try simp (disch := omega) only [IntWalk.rem_in]); first | done | exact rfl)); go_simp; (try simp (disch := omega) only [IntWalk.i64_in]); (try simp (disch := omega) only [IntWalk.u32_in]); (try simp (disch := omega) only [IntWalk.u8_in]); (try simp (disch := omega) only [IntWalk.i64_quo]); (try simp (disch := omega) only [IntWalk.rem_in]); refine hK _ ?_; clear hK K hA hB A B) | (refine hB (fun K hK => ?_); go_simp; (try simp (disch := omega) only [IntWalk.i64_in]); (try simp (disch := omega) only [IntWalk.u32_in]); (try simp (disch := omega) only [IntWalk.u8_in]); (try simp (disch := omega) only [IntWalk.i64_quo]); (try simp (disch := omega) only [IntWalk.rem_in]); refine hK _ ?_; clear hK K hA hB A B))
          | (refine can_guard_go rfl (fun A B hA hB => ?_); go_simp; refine hB (fun K hK => ?_); go_simp; (try simp (disch := omega) only [IntWalk.i64_in]); (try simp (disch := omega) only [IntWalk.u32_in]); (try simp (disch := omega) only [IntWalk.u8_in]); (try simp (disch := omega) only [IntWalk.i64_quo]); (try simp (disch := omega) only [IntWalk.rem_in]); refine hK _ ?_; clear hK K hA hB A B))
        refine can_go rfl rfl (fun KK hK => ?_)
        go_simp
        refine HC.out.mono ?_
        rintro e w2 ⟨rfl, hb2⟩
        refine ⟨_, rfl, hb2, hK _ _ ?_⟩
        clear hK KK HC p0 p1 p2 r0 r1
        go_simp
        have Hb2 := Lib.hid (Hbw.out.trans (((Below.refl _ _).drew.trans hb2).mono (Nat.le_trans (Nat.le_of_eq Hz1.out.symm) Hbw.out.size)))
        clear hb2
        by_cases he : x.pl = p
        · have hv : pcmp x.pl p = 0 := by unfold pcmp; rw [he, if_neg (plt_irrefl p), if_neg (plt_irrefl p)]
          rw [hv]
          have He := Lib.hid he
          clear hv he
          repeat (first
            | (refine can_yes (v := ?_) rfl (wanted_none rfl) (fun w' hC => ?_) (fun K hK => ?_); rotate_left; (focus (go_simp; (try simp (disch := omega) only [IntWalk.i64_in]); (try simp (disch := omega) only [IntWalk.u32_in]); (try simp (disch := omega) only [IntWalk.u8_in]); (try simp (disch := omega) only [IntWalk.i64_quo]); (try simp (disch := omega) only [IntWalk.rem_in]); first | done | exact rfl)); go_simp; (try simp (disch := omega) only [IntWalk.i64_in]); (try simp (disch := omega) only [IntWalk.u32_in]); (try simp (disch := omega) only [IntWalk.u8_in]); (try simp (disch := omega) only [IntWalk.i64_quo]); (try simp (disch := omega) only [IntWalk.rem_in]); refine hK _ ?_; clear hK K)
            | (refine can_guard rfl (fun A B hA hB => ?_); go_simp; first | (refine hA ⟨?_, fun w' hC => ?_, fun K hK => ?_⟩; rotate_left; (focus (go_simp; (try simp (disch := omega) only [IntWalk.i64_in]); (try simp (disch := omega) only [IntWalk.u32_in]); (try simp (disch := omega) only [IntWalk.u8_in]); (try simp (disch := omega) only [IntWalk.i64_quo]); (try simp (disch := omega) only [IntWalk.rem_in]); first | done | exact rfl)); go_simp; (try simp (disch := omega) only [IntWalk.i64_in]); (try simp (disch := omega) only [IntWalk.u32_in]); (try simp (disch := omega) only [IntWalk.u8_in]); (try simp (disch := omega) only [IntWalk.i64_quo]); (try simp (disch := omega) only [IntWalk.rem_in]); refine hK _ ?_; clear hK K hA hB A B) | (refine hB (fun K hK => ?_); go_simp; (try simp (disch := omega) only [IntWalk.i64_in]); (try simp (disch := omega) only [IntWalk.u32_in]); (try simp (disch := omega) only [IntWalk.u8_in]); (try simp (disch := omega) only [IntWalk.i64_quo]); (try simp (disch := omega) only [IntWalk.rem_in]); refine hK _ ?_; clear hK K hA hB A B))
            | (refine can_guard_go rfl (fun A B hA hB => ?_); go_simp; refine hB (fun K hK => ?_); go_simp; (try simp (disch := omega) only [IntWalk.i64_in]); (try simp (disch := omega) only [IntWalk.u32_in]); (try simp (disch := omega) only [IntWalk.u8_in]); (try simp (disch := omega) only [IntWalk.i64_quo]); (try simp (disch := omega) only [IntWalk.rem_in]); refine hK _ ?_; clear hK K hA hB A B))
          refine can_nil ?_
          go_wp2_with fail
          go_ret2
          exact ⟨⟨hi, true, rfl, fun _ => ⟨hmn, srch_hit Ha.out hmn (by rw [Hx.out]; exact He.out)⟩, fun h => by cases h⟩, Hb1.out.trans (Hb2.out.mono (Nat.le_succ _))⟩
        · have hv : pcmp x.pl p ≠ 0 := by
            unfold pcmp
            intro h
            split at h
            · omega
            · rename_i h1
              split at h
              · omega
              · rename_i h2
                exact he (plt_tri h1 h2)
          have He := Lib.hid he
          generalize pcmp x.pl p = cv at *
          clear he
          have hvb : (cv == 0) = false := by simpa using hv
          repeat (first
            | (refine can_yes (v := ?_) rfl (wanted_none rfl) (fun w' hC => ?_) (fun K hK => ?_); rotate_left; (focus (go_simp; (try simp (disch := omega) only [IntWalk.i64_in]); (try simp (disch := omega) only [IntWalk.u32_in]); (try simp (disch := omega) only [IntWalk.u8_in]); (try simp (disch := omega) only [IntWalk.i64_quo]); (try simp (disch := omega) only [IntWalk.rem_in]); first | done | exact rfl)); go_simp; (try simp (disch := omega) only [IntWalk.i64_in]); (try simp (disch := omega) only [IntWalk.u32_in]); (try simp (disch := omega) only [IntWalk.u8_in]); (try simp (disch := omega) only [IntWalk.i64_quo]); (try simp (disch := omega) only [IntWalk.rem_in]); refine hK _ ?_; clear hK K)
            | (refine can_guard rfl (fun A B hA hB => ?_); go_simp; first | (refine hA ⟨?_, fun w' hC => ?_, fun K hK => ?_⟩; rotate_left; (focus (go_simp; (try simp (disch := omega) only [IntWalk.i64_in]); (try simp (disch := omega) only [IntWalk.u32_in]); (try simp (disch := omega) only [IntWalk.u8_in]); (try simp (disch := omega) only [IntWalk.i64_quo]); (try simp (disch := omega) only [IntWalk.rem_in]); first | done | exact rfl)); go_simp; (try simp (disch := omega) only [IntWalk.i64_in]); (try simp (disch := omega) only [IntWalk.u32_in]); (try simp (disch := omega) only [IntWalk.u8_in]); (try simp (disch := omega) only [IntWalk.i64_quo]); (try simp (disch := omega) only [IntWalk.rem_in]); refine hK _ ?_; clear hK K hA hB A B) | (refine hB (fun K hK => ?_); go_simp; (try simp (disch := omega) only [IntWalk.i64_in]); (try simp (disch := omega) only [IntWalk.u32_in]); (try simp (disch := omega) only [IntWalk.u8_in]); (try simp (disch := omega) only [IntWalk.i64_quo]); (try simp (disch := omega) only [IntWalk.rem_in]); refine hK _ ?_; clear hK K hA hB A B))
            | (refine can_guard_go rfl (fun A B hA hB => ?_); go_simp; refine hB (fun K hK => ?_); go_simp; (try simp (disch := omega) only [IntWalk.i64_in]); (try simp (disch := omega) only [IntWalk.u32_in]); (try simp (disch := omega) only [IntWalk.u8_in]); (try simp (disch := omega) only [IntWalk.i64_quo]); (try simp (disch := omega) only [IntWalk.rem_in]); refine hK _ ?_; clear hK K hA hB A B))
          refine can_nil ?_
          go_wp2_with fail
          go_ret2
          exact ⟨⟨hi, false, rfl, ⟨fun h => by simp at h, fun _ => srch_miss Ha.out Hs.out (fun _ => by rw [Hx.out]; exact He.out)⟩⟩, Hb1.out.trans (Hb2.out.mono (Nat.le_succ _))⟩
      · have hmI : ¬ (hi : Int) < (n : Int) := by omega
        have hnl : look RGo.pl l p = none := srch_miss Ha.out Hs.out (fun h => absurd (Hn.out ▸ h) hin2)
        have Hnl := Lib.hid hnl
        clear hnl hmem q0 q1
        go_wp2_with fail
        refine wp_region_can Later [(0, true), (1, true), (2, true), (3, true), (4, true), (5, true), (6, true), (7, true), (8, true), (9, true), (10, true), (11, false), (12, true), (13, true), (14, true), (15, true)] (by kernel_rfl) (by kernel_rfl) later_refl later_trans ?_
        repeat (first
          | (refine can_yes (v := ?_) rfl (wanted_none rfl) (fun w' hC => ?_) (fun K hK => ?_); rotate_left; (focus (go_simp; (try simp (disch := omega) only [IntWalk.i64_in]); (try simp (disch := omega) only [IntWalk.u32_in]); (try simp (disch := omega) only [IntWalk.u8_in]); (try simp (disch := omega) only [IntWalk.i64_quo]); (try simp (disch := omega) only [IntWalk.rem_in]); first | done | exact rfl)); go_simp; (try simp (disch := omega) only [IntWalk.i64_in]); (try simp (disch := omega) only [IntWalk.u32_in]); (try simp (disch := omega) only [IntWalk.u8_in]); (try simp (disch := omega) only [IntWalk.i64_quo]); (try simp (disch := omega) only [IntWalk.rem_in]); refine hK _ ?_; clear hK K)
          | (refine can_guard rfl (fun A B hA hB => ?_); go_simp; first | (refine hA ⟨?_, fun w' hC => ?_, fun K hK => ?_⟩; rotate_left; (focus (go_simp; (try simp (disch := omega) only [IntWalk.i64_in]); (try simp (disch := omega) only [IntWalk.u32_in]); (try simp (disch := omega) only [IntWalk.u8_in]); (try simp (disch := omega) only [IntWalk.i64_quo]); (try simp (disch := omega) only [IntWalk.rem_in]); first | done | exact rfl)); go_simp; (try simp (disch := omega) only [IntWalk.i64_in]); (try simp (disch := omega) only [IntWalk.u32_in]); (try simp (disch := omega) only [IntWalk.u8_in]); (try simp (disch := omega) only [IntWalk.i64_quo]); (try simp (disch := omega) only [IntWalk.rem_in]); refine hK _ ?_; clear hK K hA hB A B) | (refine hB (fun K hK => ?_); go_simp; (try simp (disch := omega) only [IntWalk.i64_in]); (try simp (disch := omega) only [IntWalk.u32_in]); (try simp (disch := omega) only [IntWalk.u8_in]); (try simp (disch := omega) only [IntWalk.i64_quo]); (try simp (disch := omega) only [IntWalk.rem_in]); refine hK _ ?_; clear hK K hA hB A B))
          | (refine can_guard_go rfl (fun A B hA hB => ?_); go_simp; refine hB (fun K hK => ?_); go_simp; (try simp (disch := omega) only [IntWalk.i64_in]); (try simp (disch := omega) only [IntWalk.u32_in]); (try simp (disch := omega) only [IntWalk.u8_in]); (try simp (disch := omega) only [IntWalk.i64_quo]); (try simp (disch := omega) only [IntWalk.rem_in]); refine hK _ ?_; clear hK K hA hB A B))
        refine can_nil ?_
        go_wp2_with fail
        go_ret2
        exact ⟨⟨hi, false, rfl, ⟨fun h => by simp at h, fun _ => Hnl.out⟩⟩, Hb1.out.trans (Hbw.out.drew.mono (Nat.le_succ _))⟩
end Go.Proofs.YtbjkkmabafaogaaGreatDoor
