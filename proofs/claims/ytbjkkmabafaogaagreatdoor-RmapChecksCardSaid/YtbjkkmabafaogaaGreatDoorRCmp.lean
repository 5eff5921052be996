/- Places are compared. -/
import Derived.Test.YtbjkkmabafaogaaGreatDoorRL4
import Derived.Test.YtbjkkmabafaogaaGreatDoorShelf
import Derived.Test.YtbjkkmabafaogaaGreatDoorTree
import Derived.Laws.Cover1
import Derived.Sort.Walk0
namespace Go.Proofs.YtbjkkmabafaogaaGreatDoor
open Go.RowKit
set_option linter.unusedVariables false
set_option maxRecDepth 20000
attribute [local go_sem] opC upC

theorem isNaNS_any (w : World) (a : List UInt8) :
    Calls Tryz.prog 120 #[.string ⟨a.toArray⟩] w fun e w' => e = .returned (.bool false) ∧ w = w' := by
  go_enter Tryz.func120, Tryz.ntmps120
  go_wp2_with fail
  go_ret
  exact ⟨rfl, rfl⟩
def kcmp (a b : RKey) : Int := if a < b then -1 else if b < a then 1 else 0
theorem cmpS_any (w : World) (a b : List UInt8) :
    Calls Tryz.prog 84 #[.string ⟨a.toArray⟩, .string ⟨b.toArray⟩] w fun e w' => e = .returned (.int .i64 (kcmp a b)) ∧ w = w' := by
  have NA := Lib.hid (isNaNS_any w a)
  have NB := Lib.hid (isNaNS_any w b)
  unfold kcmp
  by_cases h1 : a < b
  · rw [if_pos h1]
    have hb : Op.bytesLess a b = true := by rw [Go.Proofs.bytesLess_eq]; simpa using h1
    go_enter Tryz.func84, Tryz.ntmps84
    go_wp2_with fail
    refine NA.out.mono ?_
    rintro e w' ⟨rfl, rfl⟩
    go_wp2_with fail
    first
    | (refine NB.out.mono ?_; rintro e w' ⟨rfl, rfl⟩)
    | (refine NA.out.mono ?_; rintro e w' ⟨rfl, rfl⟩)
    go_wp2_with fail
    go_ret
    exact ⟨rfl, rfl⟩
  rw [if_neg h1]
  have hb : Op.bytesLess a b = false := by rw [Go.Proofs.bytesLess_eq]; simpa using h1
  by_cases h2 : b < a
  · rw [if_pos h2]
    have hne : (a == b) = false := by simp; rintro rfl; exact klt_irrefl _ h2
    clear h1 h2
    go_enter Tryz.func84, Tryz.ntmps84
    go_wp2_with fail
    refine NA.out.mono ?_
    rintro e w' ⟨rfl, rfl⟩
    go_wp2_with fail
    first
    | (refine NB.out.mono ?_; rintro e w' ⟨rfl, rfl⟩)
    | (refine NA.out.mono ?_; rintro e w' ⟨rfl, rfl⟩)
    go_wp2_with fail
    go_ret
    exact ⟨rfl, rfl⟩
  · rw [if_neg h2]
    obtain rfl := klt_tri h1 h2
    clear h1 h2
    go_enter Tryz.func84, Tryz.ntmps84
    go_wp2_with fail
    refine NA.out.mono ?_
    rintro e w' ⟨rfl, rfl⟩
    go_wp2_with fail
    first
    | (refine NB.out.mono ?_; rintro e w' ⟨rfl, rfl⟩)
    | (refine NA.out.mono ?_; rintro e w' ⟨rfl, rfl⟩)
    go_wp2_with fail
    go_ret
    exact ⟨rfl, rfl⟩

/-- a place by value -/
def plV (p : RPl) : Value := .agg #[.string ⟨p.1.toArray⟩, .int .i64 p.2]
theorem or2_any (w : World) (x y : Int) (cs : World) (hcs : cs = w.alloc (.cells #[.int .i64 x, .int .i64 y] 3)) :
    Calls Tryz.prog 110 #[.slice (some ⟨w.heap.size, 0, none⟩) 2 2] cs fun e w' => e = .returned (.int .i64 (if x = 0 then y else x)) ∧ cs = w' := by
  have c0 : cs.cell? ⟨w.heap.size, 0, none⟩ = some (.int .i64 x) := by
    have := (Blk.new w #[.int .i64 x, .int .i64 y] 3).cell 0
    rw [hcs]; simp
  have c1 : cs.cell? ⟨w.heap.size, 1, none⟩ = some (.int .i64 y) := by
    have := (Blk.new w #[.int .i64 x, .int .i64 y] 3).cell 1
    rw [hcs]; simp
  clear hcs
  obtain ⟨g, hg⟩ : ∃ g, w.heap.size = g := ⟨_, rfl⟩
  rw [hg] at c0 c1 ⊢
  clear hg
  by_cases h1 : x = 0
  · subst h1
    rw [if_pos rfl]
    go_enter Tryz.func110, Tryz.ntmps110
    go_wp2_with fail
    go_loop [8] (fun i => i = .int .i64 0 ∨ i = .int .i64 1 ∨ (y = 0 ∧ i = .int .i64 2)) (fun i => 2 - (intOf i).toNat)
    case atStart => exact .inl rfl
    case round =>
      rcases hrel with rfl | rfl | ⟨rfl, rfl⟩
      · go_wp2_with fail
        exact ⟨.inr (.inl rfl), by simp [intOf]⟩
      · by_cases hy : y = 0
        · subst hy
          go_wp2_with fail
          exact ⟨by simp, by simp [intOf]⟩
        · have hy' : (y != 0) = true := by simp [hy]
          clear hy
          go_wp2_with fail
          go_ret
          exact ⟨rfl, rfl⟩
      · go_wp2_with fail
        go_ret
        exact ⟨rfl, rfl⟩
  · rw [if_neg h1]
    have hx' : (x != 0) = true := by simp [h1]
    clear h1
    go_enter Tryz.func110, Tryz.ntmps110
    go_wp2_with fail
    go_loop [8] (fun i => i = .int .i64 0) (fun i => 2 - (intOf i).toNat)
    case atStart => rfl
    case round =>
      subst hrel
      go_wp2_with fail
      go_ret
      exact ⟨rfl, rfl⟩

theorem pcmp_or (p q : RPl) : pcmp p q = if kcmp p.1 q.1 = 0 then Lib.compareInt p.2 q.2 else kcmp p.1 q.1 := by
  unfold pcmp kcmp Lib.compareInt plt
  by_cases h1 : p.1 < q.1
  · simp [h1]
  · by_cases h2 : q.1 < p.1
    · have hne : p.1 ≠ q.1 := fun e => klt_irrefl q.1 (by rw [e] at h2; exact h2)
      simp [h1, h2, hne]
    · have e := klt_tri h1 h2
      have hi := klt_irrefl q.1
      simp [e, hi]
def treeCmp : Tree := .steady 0 (.steady 1 (.steady 2 (.steady 3 (.steady 5 (.steady 6 (.steady 7 (.steady 8 (.move 4 (.move 9 (.move 10 (.move 11 (.steady 12 .done))))))))))))
set_option maxRecDepth 100000 in
set_option maxHeartbeats 1500000 in
theorem compare_any (w : World) (p q : RPl) :
    Calls Tryz.prog 86 #[plV p, plV q] w fun e w' => e = .returned (.int .i64 (pcmp p q)) ∧ Below w.heap.size w w' := by
  obtain ⟨w2, hw2⟩ : ∃ w2, w2 = (w.alloc (.cells #[.string ⟨p.1.toArray⟩, .int .i64 p.2] 91)).alloc (.cells #[.string ⟨q.1.toArray⟩, .int .i64 q.2] 91) := ⟨_, rfl⟩
  have hb2 : Below w.heap.size w w2 := by rw [hw2]; exact (kept_alloc _ _).alloc (by simp) _
  have hp := (Blk.new w #[.string ⟨p.1.toArray⟩, .int .i64 p.2] 91).alloc (.cells #[.string ⟨q.1.toArray⟩, .int .i64 q.2] 91)
  have hq := Blk.new (w.alloc (.cells #[.string ⟨p.1.toArray⟩, .int .i64 p.2] 91)) #[.string ⟨q.1.toArray⟩, .int .i64 q.2] 91
  rw [← hw2] at hp hq
  have hz : (w.alloc (.cells #[.string ⟨p.1.toArray⟩, .int .i64 p.2] 91)).heap.size = w.heap.size + 1 := by simp
  rw [hz] at hq
  have p0 : ∀ w', Later w2.drew w' → w'.cell? ⟨w.heap.size, 0, none⟩ = some (.string ⟨p.1.toArray⟩) := fun w' hh => laterC (by simpa using hp.cell 0) hh
  have p1 : ∀ w', Later w2.drew w' → w'.cell? ⟨w.heap.size, 1, none⟩ = some (.int .i64 p.2) := fun w' hh => laterC (by simpa using hp.cell 1) hh
  have q0 : ∀ w', Later w2.drew w' → w'.cell? ⟨w.heap.size + 1, 0, none⟩ = some (.string ⟨q.1.toArray⟩) := fun w' hh => laterC (by simpa using hq.cell 0) hh
  have q1 : ∀ w', Later w2.drew w' → w'.cell? ⟨w.heap.size + 1, 1, none⟩ = some (.int .i64 q.2) := fun w' hh => laterC (by simpa using hq.cell 1) hh
  have Hw2 := Lib.hid hw2
  have HS := Lib.hid (cmpS_any w2.drew p.1 q.1)
  have HI := Lib.hid (Tryz.cmp_Compare_int p.2 q.2 w2.drew)
  clear hp hq hz hw2
  unfold plV
  go_enter Tryz.func86, Tryz.ntmps86
  go_wp2_with fail
  rw [← Hw2.out]
  refine wp_region_tree Later treeCmp 13 (by kernel_rfl) (by kernel_rfl) later_refl later_trans _ (fun _ _ h => h) ?_
  unfold treeCmp
  refine canT_yes (v := ?_) rfl (wanted_none rfl) (fun w' hC => ?_) (fun K hK => ?_); rotate_left; (focus (go_simp; first | done | exact rfl)); go_simp; refine hK _ ?_; clear hK K
  refine canT_yes (v := ?_) rfl (wanted_none rfl) (fun w' hC => ?_) (fun K hK => ?_); rotate_left; (focus (go_simp; first | done | exact rfl)); go_simp; refine hK _ ?_; clear hK K
  refine canT_yes (v := ?_) rfl (wanted_none rfl) (fun w' hC => ?_) (fun K hK => ?_); rotate_left; (focus (go_simp; first | done | exact rfl)); go_simp; refine hK _ ?_; clear hK K
  refine canT_yes (v := ?_) rfl (wanted_none rfl) (fun w' hC => ?_) (fun K hK => ?_); rotate_left; (focus (go_simp; first | done | exact rfl)); go_simp; refine hK _ ?_; clear hK K
  refine canT_yes (v := ?_) rfl (wanted_none rfl) (fun w' hC => ?_) (fun K hK => ?_); rotate_left; (focus (go_simp; first | done | exact rfl)); go_simp; refine hK _ ?_; clear hK K
  refine canT_yes (v := ?_) rfl (wanted_none rfl) (fun w' hC => ?_) (fun K hK => ?_); rotate_left; (focus (go_simp; first | done | exact rfl)); go_simp; refine hK _ ?_; clear hK K
  refine canT_yes (v := ?_) rfl (wanted_none rfl) (fun w' hC => ?_) (fun K hK => ?_); rotate_left; (focus (go_simp; first | done | exact rfl)); go_simp; refine hK _ ?_; clear hK K
  refine canT_yes (v := ?_) rfl (wanted_none rfl) (fun w' hC => ?_) (fun K hK => ?_); rotate_left; (focus (go_simp; first | done | exact rfl)); go_simp; refine hK _ ?_; clear hK K
  clear p0 p1 q0 q1
  refine canT_go rfl rfl (fun KK hK => ?_)
  go_simp
  refine HS.out.mono ?_
  rintro e w' ⟨rfl, rfl⟩
  refine ⟨_, rfl, later_refl _, hK _ _ ?_⟩
  clear hK KK
  go_simp
  refine canT_go rfl rfl (fun KK hK => ?_)
  go_simp
  refine HI.out.mono ?_
  rintro e w' ⟨rfl, rfl⟩
  refine ⟨_, rfl, later_refl _, hK _ _ ?_⟩
  clear hK KK HS HI
  go_simp
  refine canT_go rfl rfl (fun KK hK => ?_)
  go_simp
  obtain ⟨wz, hwz⟩ : ∃ wz, wz = w2.drew.alloc (.cells #[.int .i64 (kcmp p.1 q.1), .int .i64 (Lib.compareInt p.2 q.2)] 3) := ⟨_, rfl⟩
  have kz : Later w2.drew wz := by rw [hwz]; exact kept_alloc _ _
  have ho := or2_any w2.drew (kcmp p.1 q.1) (Lib.compareInt p.2 q.2) wz hwz
  rw [← pcmp_or] at ho
  have HO := Lib.hid ho
  clear ho
  rw [show (w2.alloc (.cells #[.int .i64 (kcmp p.1 q.1), .int .i64 (Lib.compareInt p.2 q.2)] 3)).drew = wz from hwz.symm]
  refine ⟨kz, hK _ _ ?_⟩
  clear hK KK hwz
  go_simp
  refine canT_go rfl rfl (fun KK hK => ?_)
  go_simp
  refine HO.out.mono ?_
  rintro e w' ⟨rfl, rfl⟩
  refine ⟨_, rfl, later_refl _, hK _ _ ?_⟩
  clear hK KK HO
  go_simp
  refine canT_yes (v := ?_) rfl (wanted_none rfl) (fun w' hC => ?_) (fun K hK => ?_); rotate_left; (focus (go_simp; first | done | exact rfl)); go_simp; refine hK _ ?_; clear hK K
  refine canT_nil ?_
  go_wp2_with fail
  go_ret
  exact ⟨rfl, hb2.drew.trans (RowKit.Below.mono kz hb2.size)⟩

def itV (x : RIt) : Value := .agg #[.string ⟨x.key.toArray⟩, .int .i64 x.dev, .int .i64 x.seq, .int .i64 x.val]
def goV (x : RGo) : Value := .agg #[.string ⟨x.key.toArray⟩, .int .i64 x.dev, .int .i64 x.seq]
set_option maxRecDepth 100000 in
set_option maxHeartbeats 1500000 in
theorem itPlace_any (w : World) (x : RIt) :
    Calls Tryz.prog 45 #[itV x] w fun e w' => e = .returned (plV x.pl) ∧ Below w.heap.size w w' := by
  obtain ⟨wf, hwf⟩ : ∃ wf, wf = (w.alloc (.cells #[.string ⟨x.key.toArray⟩, .int .i64 x.dev, .int .i64 x.seq, .int .i64 x.val] 75)).alloc (.cells #[.string ⟨x.key.toArray⟩, .int .i64 x.dev] 91) := ⟨_, rfl⟩
  have hbf : Below w.heap.size w wf := by rw [hwf]; exact (kept_alloc _ _).alloc (by simp) _
  have hq := Blk.new (w.alloc (.cells #[.string ⟨x.key.toArray⟩, .int .i64 x.dev, .int .i64 x.seq, .int .i64 x.val] 75)) #[.string ⟨x.key.toArray⟩, .int .i64 x.dev] 91
  rw [← hwf] at hq
  have hz : (w.alloc (.cells #[.string ⟨x.key.toArray⟩, .int .i64 x.dev, .int .i64 x.seq, .int .i64 x.val] 75)).heap.size = w.heap.size + 1 := by simp
  rw [hz] at hq
  have Q0 := Lib.hid (hq.cell 0)
  have Q1 := Lib.hid (hq.cell 1)
  have Hwf := Lib.hid hwf; have Hbf := Lib.hid hbf
  clear hq hz hwf hbf
  unfold itV
  go_enter Tryz.func45, Tryz.ntmps45
  go_wp2_with fail
  rw [← Hwf.out]
  have q0 := Q0.out
  have q1 := Q1.out
  simp at q0 q1
  exact bodyPost_ret (v := plV x.pl) (by simp [results, Tryz.results45, go_sem, q0, q1, plV, RIt.pl]) rfl ⟨rfl, Hbf.out⟩
set_option maxRecDepth 100000 in
set_option maxHeartbeats 1500000 in
theorem goPlace_any (w : World) (x : RGo) :
    Calls Tryz.prog 47 #[goV x] w fun e w' => e = .returned (plV x.pl) ∧ Below w.heap.size w w' := by
  obtain ⟨wf, hwf⟩ : ∃ wf, wf = (w.alloc (.cells #[.string ⟨x.key.toArray⟩, .int .i64 x.dev, .int .i64 x.seq] 83)).alloc (.cells #[.string ⟨x.key.toArray⟩, .int .i64 x.dev] 91) := ⟨_, rfl⟩
  have hbf : Below w.heap.size w wf := by rw [hwf]; exact (kept_alloc _ _).alloc (by simp) _
  have hq := Blk.new (w.alloc (.cells #[.string ⟨x.key.toArray⟩, .int .i64 x.dev, .int .i64 x.seq] 83)) #[.string ⟨x.key.toArray⟩, .int .i64 x.dev] 91
  rw [← hwf] at hq
  have hz : (w.alloc (.cells #[.string ⟨x.key.toArray⟩, .int .i64 x.dev, .int .i64 x.seq] 83)).heap.size = w.heap.size + 1 := by simp
  rw [hz] at hq
  have Q0 := Lib.hid (hq.cell 0)
  have Q1 := Lib.hid (hq.cell 1)
  have Hwf := Lib.hid hwf; have Hbf := Lib.hid hbf
  clear hq hz hwf hbf
  unfold goV
  go_enter Tryz.func47, Tryz.ntmps47
  go_wp2_with fail
  rw [← Hwf.out]
  have q0 := Q0.out
  have q1 := Q1.out
  simp at q0 q1
  exact bodyPost_ret (v := plV x.pl) (by simp [results, Tryz.results47, go_sem, q0, q1, plV, RGo.pl]) rfl ⟨rfl, Hbf.out⟩
end Go.Proofs.YtbjkkmabafaogaaGreatDoor
