/- A pair: a disk with a journal, and those of the reference. -/
import Derived.Test.YtmimplmeccoahaaDoorRJ3
import Derived.Test.YtmimplmeccoahaaDoorJX
namespace Go.Proofs.YtmimplmeccoahaaDoor
open Go.RowKit
set_option linter.unusedVariables false
set_option maxRecDepth 20000
attribute [local go_sem] opC upC

/-- the program's side, in blocks of F -/
def PSide (w : World) (F : Blks) (d : Nat) (jv : Value) (M : MD) : Option MJ → Prop
  | none => jv = .pointer none ∧ ∃ K : DK, K.d = d ∧ (∀ b, K.foot b → F b) ∧ DiskAt w K M
  | some J => ∃ jk : JK, jk.K.d = d ∧ jv = .pointer (some ⟨jk.j, 0, none⟩) ∧ (∀ b, jk.all b → F b) ∧ JAt w jk M J
/-- the reference's side -/
def RSide (w : World) (F : Blks) (e : Nat) (kv : Value) (M : MD) : Option MJ → Prop
  | none => kv = .pointer none ∧ ∃ K : RK, K.d = e ∧ (∀ b, K.all b → F b) ∧ RefAt w K M
  | some J => ∃ jk : RJK, jk.K.d = e ∧ kv = .pointer (some ⟨jk.j, 0, none⟩) ∧ (∀ b, jk.all b → F b) ∧ RJAt w jk M J

theorem PSide.keep {w w' : World} {F : Blks} {d : Nat} {jv : Value} {M : MD} {o : Option MJ} (h : PSide w F d jv M o) (hk : ∀ b, F b → b < w.heap.size → w'.heap[b]? = w.heap[b]?) (hs : w.heap.size ≤ w'.heap.size) : PSide w' F d jv M o := by
  cases o with
  | none =>
    obtain ⟨h1, K, h2, h3, h4⟩ := h
    exact ⟨h1, K, h2, h3, h4.keep fun b hb => hk b (h3 b hb) (h4.lt b hb)⟩
  | some J =>
    obtain ⟨jk, h1, h2, h3, h4⟩ := h
    exact ⟨jk, h1, h2, h3, h4.keep (fun b hb => hk b (h3 b hb) (h4.lt b hb)) hs⟩
theorem RSide.keep {w w' : World} {F : Blks} {d : Nat} {jv : Value} {M : MD} {o : Option MJ} (h : RSide w F d jv M o) (hk : ∀ b, F b → b < w.heap.size → w'.heap[b]? = w.heap[b]?) (hs : w.heap.size ≤ w'.heap.size) : RSide w' F d jv M o := by
  cases o with
  | none =>
    obtain ⟨h1, K, h2, h3, h4⟩ := h
    exact ⟨h1, K, h2, h3, h4.keep (fun b hb => hk b (h3 b hb) (h4.lt b hb)) hs⟩
  | some J =>
    obtain ⟨jk, h1, h2, h3, h4⟩ := h
    exact ⟨jk, h1, h2, h3, h4.keep (fun b hb => hk b (h3 b hb) (h4.lt b hb)) hs⟩
/-- the disk of a side -/
theorem PSide.disk {w : World} {F : Blks} {d : Nat} {jv : Value} {M : MD} {o : Option MJ} (h : PSide w F d jv M o) : ∃ K : DK, K.d = d ∧ (∀ b, K.foot b → F b) ∧ DiskAt w K M := by
  cases o with
  | none => exact h.2
  | some J =>
    obtain ⟨jk, h1, h2, h3, h4⟩ := h
    exact ⟨jk.K, h1, fun b hb => h3 b (.inr (.inl hb)), h4.disk⟩
theorem RSide.disk {w : World} {F : Blks} {d : Nat} {jv : Value} {M : MD} {o : Option MJ} (h : RSide w F d jv M o) : ∃ K : RK, K.d = d ∧ (∀ b, K.all b → F b) ∧ RefAt w K M := by
  cases o with
  | none => exact h.2
  | some J =>
    obtain ⟨jk, h1, h2, h3, h4⟩ := h
    exact ⟨jk.K, h1, fun b hb => h3 b (.inr (.inl hb)), h4.ref⟩

/-- a pair's parts -/
structure PK where
  F : Blks
  G : Blks
  d : Nat
  jv : Value
  e : Nat
  kv : Value

structure PairOf (w : World) (p lo : Nat) (k : PK) (M : MD) (o : Option MJ) : Prop where
  blk : Blk w p [.pointer (some ⟨k.d, 0, none⟩), k.jv, .pointer (some ⟨k.e, 0, none⟩), k.kv] 61
  ps : PSide w k.F k.d k.jv M o
  rs : RSide w k.G k.e k.kv M o
  fF : ∀ b, k.F b → lo ≤ b ∧ b ≠ p ∧ ¬ k.G b ∧ b < w.heap.size
  fG : ∀ b, k.G b → lo ≤ b ∧ b ≠ p ∧ b < w.heap.size
  pos : 0 < lo
  lo_p : lo ≤ p
def PairX (w : World) (p lo : Nat) (M : MD) (o : Option MJ) : Prop := ∃ k, PairOf w p lo k M o

theorem PairOf.kept {w w' : World} {p lo : Nat} {k : PK} {M : MD} {o : Option MJ} (h : PairOf w p lo k M o) (hb : Below w.heap.size w w') : PairOf w' p lo k M o := by
  obtain ⟨h1, h2, h3, h4, h5, h6, h7⟩ := h
  exact ⟨h1.keep (hb.block _ h1.lt), h2.keep (fun b _ hlt => hb.block b hlt) hb.size, h3.keep (fun b _ hlt => hb.block b hlt) hb.size, fun b hb' => ⟨(h4 b hb').1, (h4 b hb').2.1, (h4 b hb').2.2.1, Nat.lt_of_lt_of_le (h4 b hb').2.2.2 hb.size⟩, fun b hb' => ⟨(h5 b hb').1, (h5 b hb').2.1, Nat.lt_of_lt_of_le (h5 b hb').2.2 hb.size⟩, h6, h7⟩
theorem PairX.kept {w w' : World} {p lo : Nat} {M : MD} {o : Option MJ} (h : PairX w p lo M o) (hb : Below w.heap.size w w') : PairX w' p lo M o := by
  obtain ⟨k, h⟩ := h
  exact ⟨k, h.kept hb⟩

set_option maxRecDepth 100000 in
set_option maxHeartbeats 2000000 in
theorem like_none (w : World) (p lo : Nat) (M : MD) (h : PairX w p lo M none) :
    Calls Tryd.prog 37 #[.pointer (some ⟨p, 0, none⟩)] w fun e w' => e = .returned (.bool true) ∧ Below w.heap.size w w' := by
  obtain ⟨⟨F, G, d, jv, e, kv⟩, ⟨hblk, hps, hrs, -, -, -, -⟩⟩ := h
  obtain ⟨hjv, K, hK, -, hd⟩ := hps
  obtain ⟨hkv, KR, hKR, -, hr⟩ := hrs
  dsimp only at hblk hjv hkv hK hKR
  subst hjv hkv hK hKR
  obtain ⟨cap, hcap, -, r1, r5⟩ := hr.row
  have a0 : ∀ w', Later w.drew w' → w'.cell? ⟨p, 0, none⟩ = some (.pointer (some ⟨K.d, 0, none⟩)) := fun w' hh => later_cell (by simpa using hblk.cell 0) hh
  have a1 : ∀ w', Later w.drew w' → w'.cell? ⟨p, 1, none⟩ = some (.pointer none) := fun w' hh => later_cell (by simpa using hblk.cell 1) hh
  have a2 : ∀ w', Later w.drew w' → w'.cell? ⟨p, 2, none⟩ = some (.pointer (some ⟨KR.d, 0, none⟩)) := fun w' hh => later_cell (by simpa using hblk.cell 2) hh
  have a3 : ∀ w', Later w.drew w' → w'.cell? ⟨p, 3, none⟩ = some (.pointer none) := fun w' hh => later_cell (by simpa using hblk.cell 3) hh
  have b1 : ∀ w', Later w.drew w' → w'.cell? ⟨KR.d, 1, none⟩ = some (.bool M.down) := fun w' hh => later_cell r1 hh
  have b5 : ∀ w', Later w.drew w' → w'.cell? ⟨KR.d, 5, none⟩ = some (.int .i64 (M.writes : Int)) := fun w' hh => later_cell r5 hh
  have a3' : ∀ w', Later w.drew.drew w' → w'.cell? ⟨p, 3, none⟩ = some (.pointer none) := fun w' hh => a3 w' (later_trans _ _ _ (Below.refl _ _).drew hh)
  have HW := Lib.hid (writes_any w.drew K M (hd.kept (Below.refl _ _).drew))
  have HD := Lib.hid (down_any w.drew K M (hd.kept (Below.refl _ _).drew))
  clear hblk hd hr r1 r5
  generalize (M.writes : Int) = x at *
  generalize M.down = y at *
  go_enter Tryd.func37, Tryd.ntmps37
  go_wp2_with fail
  refine wp_region_can Later [(0, true), (1, true), (2, true), (3, true), (4, true), (5, true), (6, true), (7, true), (8, true), (9, true), (10, true), (11, true), (12, true), (13, true), (14, true), (15, true), (17, true), (18, true), (19, true), (20, true), (21, true), (22, true), (23, true), (16, false), (24, true), (25, true), (26, true), (27, true), (28, true), (29, true), (30, true), (32, true), (33, true), (34, true), (35, true), (36, true), (37, true), (38, true), (31, false), (39, true), (40, true)] (by kernel_rfl) (by kernel_rfl) later_refl later_trans ?_
  repeat (first
    | (refine can_yes (v := ?_) rfl (wanted_none rfl) (fun w' hC => ?_) (fun K hK => ?_); rotate_left; (focus (go_simp; first | done | exact rfl)); go_simp; refine hK _ ?_; clear hK K)
    | (refine can_guard rfl (fun A B hA hB => ?_); go_simp; first | (refine hA ⟨?_, fun w' hC => ?_, fun K hK => ?_⟩; rotate_left; (focus (go_simp; first | done | exact rfl)); go_simp; refine hK _ ?_; clear hK K hA hB A B) | (refine hB (fun K hK => ?_); go_simp; refine hK _ ?_; clear hK K hA hB A B))
    | (refine can_guard_go rfl (fun A B hA hB => ?_); go_simp; refine hB (fun K hK => ?_); go_simp; refine hK _ ?_; clear hK K hA hB A B))
  refine can_go rfl rfl (fun KK hK => ?_)
  go_simp
  refine HW.out.mono ?_
  rintro e w' ⟨rfl, rfl⟩
  refine ⟨_, rfl, later_refl _, hK _ _ ?_⟩
  clear hK KK
  go_simp
  repeat (first
    | (refine can_yes (v := ?_) rfl (wanted_none rfl) (fun w' hC => ?_) (fun K hK => ?_); rotate_left; (focus (go_simp; first | done | exact rfl)); go_simp; refine hK _ ?_; clear hK K)
    | (refine can_guard rfl (fun A B hA hB => ?_); go_simp; first | (refine hA ⟨?_, fun w' hC => ?_, fun K hK => ?_⟩; rotate_left; (focus (go_simp; first | done | exact rfl)); go_simp; refine hK _ ?_; clear hK K hA hB A B) | (refine hB (fun K hK => ?_); go_simp; refine hK _ ?_; clear hK K hA hB A B))
    | (refine can_guard_go rfl (fun A B hA hB => ?_); go_simp; refine hB (fun K hK => ?_); go_simp; refine hK _ ?_; clear hK K hA hB A B))
  refine can_go rfl rfl (fun KK hK => ?_)
  go_simp
  refine HD.out.mono ?_
  rintro e w' ⟨rfl, rfl⟩
  refine ⟨_, rfl, later_refl _, hK _ _ ?_⟩
  clear hK KK
  go_simp
  repeat (first
    | (refine can_yes (v := ?_) rfl (wanted_none rfl) (fun w' hC => ?_) (fun K hK => ?_); rotate_left; (focus (go_simp; first | done | exact rfl)); go_simp; refine hK _ ?_; clear hK K)
    | (refine can_guard rfl (fun A B hA hB => ?_); go_simp; first | (refine hA ⟨?_, fun w' hC => ?_, fun K hK => ?_⟩; rotate_left; (focus (go_simp; first | done | exact rfl)); go_simp; refine hK _ ?_; clear hK K hA hB A B) | (refine hB (fun K hK => ?_); go_simp; refine hK _ ?_; clear hK K hA hB A B))
    | (refine can_guard_go rfl (fun A B hA hB => ?_); go_simp; refine hB (fun K hK => ?_); go_simp; refine hK _ ?_; clear hK K hA hB A B))
  refine can_nil ?_
  clear a0 a1 a2 a3 b1 b5
  go_wp2_with fail
  refine wp_region_can Later [(0, true), (1, true), (2, true), (3, true), (4, true), (5, true), (6, true), (7, true), (8, true), (9, true), (11, true), (12, true), (13, true), (14, true), (10, false), (15, false), (16, false), (17, true), (18, true), (19, true), (20, true), (21, true), (23, true), (24, true), (25, true), (26, true), (22, false), (27, false), (28, true), (29, true), (30, true), (31, true), (32, true), (33, true), (34, true), (36, true), (37, true), (38, true), (39, true), (40, true), (41, true), (42, true), (35, false), (43, true), (44, true), (45, true), (46, true)] (by kernel_rfl) (by kernel_rfl) later_refl later_trans ?_
  repeat (first
    | (refine can_yes (v := ?_) rfl (wanted_none rfl) (fun w' hC => ?_) (fun K hK => ?_); rotate_left; (focus (go_simp; first | done | exact rfl)); go_simp; refine hK _ ?_; clear hK K)
    | (refine can_guard rfl (fun A B hA hB => ?_); go_simp; first | (refine hA ⟨?_, fun w' hC => ?_, fun K hK => ?_⟩; rotate_left; (focus (go_simp; first | done | exact rfl)); go_simp; refine hK _ ?_; clear hK K hA hB A B) | (refine hB (fun K hK => ?_); go_simp; refine hK _ ?_; clear hK K hA hB A B))
    | (refine can_guard_go rfl (fun A B hA hB => ?_); go_simp; refine hB (fun K hK => ?_); go_simp; refine hK _ ?_; clear hK K hA hB A B))
  refine can_nil ?_
  go_wp2_with fail
  go_ret
  exact ⟨rfl, ((Below.refl _ _).drew).drew⟩
end Go.Proofs.YtmimplmeccoahaaDoor
/- open and sectors, of a pair. -/
namespace Go.Proofs.YtmimplmeccoahaaDoor
open Go.RowKit
set_option linter.unusedVariables false
set_option maxRecDepth 20000
attribute [local go_sem] opC upC

def openOf : MJ ⊕ Int → Option MJ
  | .inl J => some J
  | .inr _ => none
def openJ (M : MD) : Option MJ := openOf (openM M)

set_option maxRecDepth 100000 in
set_option maxHeartbeats 2000000 in
theorem popen_any (w : World) (p lo : Nat) (M : MD) (o : Option MJ) (h : PairX w p lo M o) (hq : Quarter w) :
    Calls Tryd.prog 36 #[.pointer (some ⟨p, 0, none⟩)] w fun e w' => e = .returned (.bool true) ∧ PairX w' p lo M (openJ M) ∧ Below lo w w' := by
  obtain ⟨⟨F, G, d, jv, e, kv⟩, ⟨hblk, hps, hrs, hF, hG, h0, hlp⟩⟩ := h
  obtain ⟨K, hK, hKF, hd⟩ := hps.disk
  obtain ⟨KR, hKR, hKG, hr⟩ := hrs.disk
  dsimp only at hblk hK hKR hKF hKG hF hG
  subst hK hKR
  have hjv : ∃ x, jv = .pointer x := by cases o with | none => exact ⟨_, hps.1⟩ | some J => obtain ⟨jk, h1, h2, -⟩ := hps; exact ⟨_, h2⟩
  have hkv : ∃ x, kv = .pointer x := by cases o with | none => exact ⟨_, hrs.1⟩ | some J => obtain ⟨jk, h1, h2, -⟩ := hrs; exact ⟨_, h2⟩
  obtain ⟨jx, rfl⟩ := hjv
  obtain ⟨kx, rfl⟩ := hkv
  have hplt := hblk.lt
  have hq' : ∀ {w' : World}, Below w.heap.size w w' → Quarter w' := fun hb => hq.keep (hb.block 0 (by omega))
  have c0 := hblk.cell 0
  simp at c0
  have HO := Lib.hid (open_any w K M hd hq)
  have Hblk := Lib.hid hblk; have Hr := Lib.hid hr; have Hd := Lib.hid hd; have HF := Lib.hid hF; have HG := Lib.hid hG; have HKF := Lib.hid hKF; have HKG := Lib.hid hKG
  clear hblk hr hd hF hG hps hrs hKF hKG
  obtain ⟨oM, hoM⟩ : ∃ q, openM M = q := ⟨_, rfl⟩
  have hoJ : openJ M = openOf oM := by rw [← hoM]; rfl
  rw [hoJ]
  go_enter Tryd.func36, Tryd.ntmps36
  go_wp2_with fail
  refine HO.out.mono ?_
  rintro e w1 ⟨he1, hb1⟩
  have hblk1 : Blk w1 p _ _ := Hblk.out.keep (hb1.block _ hplt)
  have HO2 := Lib.hid (ropen_any w1 KR M (Hr.out.kept hb1))
  have hd1 := Hd.out.kept hb1
  have hr1 := Hr.out.kept hb1
  have c2 := hblk1.cell 2
  simp at c2
  have Hblk1 := Lib.hid hblk1; have Hd1 := Lib.hid hd1; have Hr1 := Lib.hid hr1
  have Hb1 := Lib.hid hb1
  rw [hoM] at he1 HO2
  clear hblk1 hd1 hr1 HO hoM hoJ
  cases oM with
  | inr c =>
    dsimp only at he1
    subst he1
    go_wp2_with fail
    refine HO2.out.mono ?_
    rintro e w2 ⟨he2, hb2⟩
    dsimp only at he2
    subst he2
    have hblk2 : Blk w2 p _ _ := Hblk1.out.keep (hb2.block _ Hblk1.out.lt)
    have x1 := hblk2.cell 1
    have x3 := hblk2.cell 3
    simp at x1 x3
    have f1 := hblk2.free 1
    have f3 := hblk2.free 3
    have hblk3 : Blk ((w2.setCell ⟨p, 1, none⟩ (.pointer none)).setCell ⟨p, 3, none⟩ (.pointer none)) p [.pointer (some ⟨K.d, 0, none⟩), .pointer none, .pointer (some ⟨KR.d, 0, none⟩), .pointer none] 61 := (hblk2.set 1 _).set 3 _
    have ho3 : Only (fun b => b = p) w2 ((w2.setCell ⟨p, 1, none⟩ (.pointer none)).setCell ⟨p, 3, none⟩ (.pointer none)) := (Only.setCell (Only.refl (fun b => b = p) w2) (p := ⟨p, 1, none⟩) (.inl (show p = p from rfl)) _).setCell (p := ⟨p, 3, none⟩) (.inl (show p = p from rfl)) _
    have Hblk3 := Lib.hid hblk3; have Ho3 := Lib.hid ho3
    clear hblk2 hblk3 ho3 HO2
    go_wp2_with fail
    go_ret
    have ho3 := Ho3.out
    have hb12 : Below w.heap.size w w2 := kept_trans Hb1.out hb2
    have hz := ho3.size
    have hz2 := hb12.size
    refine ⟨rfl, ⟨⟨F, G, K.d, .pointer none, KR.d, .pointer none⟩, ⟨Hblk3.out, ⟨rfl, K, rfl, HKF.out, (Hd1.out.kept hb2).only ho3 fun b hb e => (HF.out b (HKF.out b hb)).2.1 e⟩, ⟨rfl, KR, rfl, HKG.out, (Hr1.out.kept hb2).only ho3 fun b hb e => (HG.out b (HKG.out b hb)).2.1 e⟩, fun b hb => ⟨(HF.out b hb).1, (HF.out b hb).2.1, (HF.out b hb).2.2.1, by have := (HF.out b hb).2.2.2; exact Nat.lt_of_lt_of_le (Nat.lt_of_lt_of_le this hz2) hz⟩, fun b hb => ⟨(HG.out b hb).1, (HG.out b hb).2.1, by have := (HG.out b hb).2.2; exact Nat.lt_of_lt_of_le (Nat.lt_of_lt_of_le this hz2) hz⟩, h0, hlp⟩⟩, (hb12.mono (by omega)).trans (ho3.below (fun b e => by rw [e]; exact hlp) (by omega))⟩
  | inl J =>
    dsimp only at he1
    obtain ⟨jk, rfl, hjK, hj, hja⟩ := he1
    have Hj := Lib.hid hj
    have hjlt := hj.lt
    clear hj
    go_wp2_with fail
    refine HO2.out.mono ?_
    rintro e w2 ⟨he2, hb2⟩
    dsimp only at he2
    obtain ⟨rk, rfl, hrK, hr2, hra⟩ := he2
    have hblk2 : Blk w2 p _ _ := Hblk1.out.keep (hb2.block _ Hblk1.out.lt)
    have x1 := hblk2.cell 1
    have x3 := hblk2.cell 3
    simp at x1 x3
    have f1 := hblk2.free 1
    have f3 := hblk2.free 3
    have hblk3 : Blk ((w2.setCell ⟨p, 1, none⟩ (.pointer (some ⟨jk.j, 0, none⟩))).setCell ⟨p, 3, none⟩ (.pointer (some ⟨rk.j, 0, none⟩))) p [.pointer (some ⟨K.d, 0, none⟩), .pointer (some ⟨jk.j, 0, none⟩), .pointer (some ⟨KR.d, 0, none⟩), .pointer (some ⟨rk.j, 0, none⟩)] 61 := (hblk2.set 1 _).set 3 _
    have ho3 : Only (fun b => b = p) w2 ((w2.setCell ⟨p, 1, none⟩ (.pointer (some ⟨jk.j, 0, none⟩))).setCell ⟨p, 3, none⟩ (.pointer (some ⟨rk.j, 0, none⟩))) := (Only.setCell (Only.refl (fun b => b = p) w2) (p := ⟨p, 1, none⟩) (.inl (show p = p from rfl)) _).setCell (p := ⟨p, 3, none⟩) (.inl (show p = p from rfl)) _
    have Hblk3 := Lib.hid hblk3; have Ho3 := Lib.hid ho3; have Hr2 := Lib.hid hr2
    clear hblk2 hblk3 ho3 HO2 hr2
    go_wp2_with fail
    go_ret
    have ho3 := Ho3.out
    have hb1 := Hb1.out
    have hz1 := hb1.size
    have hb12 : Below w.heap.size w w2 := kept_trans Hb1.out hb2
    have hz := ho3.size
    have hz2 := hb2.size
    have hrlt := Hr2.out.lt
    have hjF : ∀ b, jk.all b → lo ≤ b ∧ b ≠ p ∧ b < w1.heap.size ∧ (F b ∨ w.heap.size ≤ b) := fun b hb => by
      have hlt := hjlt b hb
      rcases hja b hb with h | h
      · have := HF.out b (HKF.out b h); exact ⟨this.1, this.2.1, hlt, .inl (HKF.out b h)⟩
      · exact ⟨by omega, by omega, hlt, .inr h⟩
    have hrG : ∀ b, rk.all b → lo ≤ b ∧ b ≠ p ∧ b < w2.heap.size ∧ (G b ∨ w1.heap.size ≤ b) := fun b hb => by
      have hlt := hrlt b hb
      rcases hra b hb with h | h
      · have := HG.out b (HKG.out b h); exact ⟨this.1, this.2.1, hlt, .inl (HKG.out b h)⟩
      · exact ⟨by omega, by omega, hlt, .inr h⟩
    refine ⟨rfl, ⟨⟨jk.all, rk.all, K.d, .pointer (some ⟨jk.j, 0, none⟩), KR.d, .pointer (some ⟨rk.j, 0, none⟩)⟩, ⟨Hblk3.out, ⟨jk, by rw [hjK], rfl, fun b hb => hb, (Hj.out.kept hb2).only ho3 fun b hb e => (hjF b hb).2.1 e⟩, ⟨rk, by rw [hrK], rfl, fun b hb => hb, Hr2.out.only ho3 fun b hb e => (hrG b hb).2.1 e⟩, fun b hb => ⟨(hjF b hb).1, (hjF b hb).2.1, fun hx => ?_, by have := (hjF b hb).2.2.1; omega⟩, fun b hb => ⟨(hrG b hb).1, (hrG b hb).2.1, by have := (hrG b hb).2.2.1; omega⟩, h0, hlp⟩⟩, (hb12.mono (by omega)).trans (ho3.below (fun b e => by rw [e]; exact hlp) (by omega))⟩
    have h1 := hjF b hb
    have h2 := hrG b hx
    rcases h2.2.2.2 with h3 | h3
    · rcases h1.2.2.2 with h4 | h4
      · exact (HF.out b h4).2.2.1 h3
      · have := (HG.out b h3).2.2; omega
    · omega
end Go.Proofs.YtmimplmeccoahaaDoor
/- sectors, of a pair. -/
namespace Go.Proofs.YtmimplmeccoahaaDoor
open Go.RowKit
set_option linter.unusedVariables false
set_option maxRecDepth 20000
attribute [local go_sem] opC upC

set_option maxRecDepth 100000 in
set_option maxHeartbeats 2000000 in
theorem psectors_any (w : World) (p lo : Nat) (M : MD) (o : Option MJ) (h : PairX w p lo M o) (h1 : 0 < M.S.length) :
    Calls Tryd.prog 38 #[.pointer (some ⟨p, 0, none⟩)] w fun e w' => e = .returned (.bool true) ∧ Below w.heap.size w w' := by
  obtain ⟨⟨F, G, d, jv, e, kv⟩, ⟨hblk, hps, hrs, hF, hG, h0, hlp⟩⟩ := h
  obtain ⟨K, hK, hKF, hd⟩ := hps.disk
  obtain ⟨KR, hKR, hKG, hr⟩ := hrs.disk
  dsimp only at hblk hK hKR hKF hKG hF hG
  subst hK hKR
  have hle := hr.len
  have kd : Below w.heap.size w w.drew := (Below.refl _ _).drew
  have a0 : ∀ w', Later w.drew w' → w'.cell? ⟨p, 0, none⟩ = some (.pointer (some ⟨K.d, 0, none⟩)) := fun w' hh => later_cell (by simpa using hblk.cell 0) hh
  have a2 : ∀ w', Later w.drew w' → w'.cell? ⟨p, 2, none⟩ = some (.pointer (some ⟨KR.d, 0, none⟩)) := fun w' hh => later_cell (by simpa using hblk.cell 2) hh
  have HC := Lib.hid (copy_any w.drew K M (hd.kept kd)); have Hr := Lib.hid (hr.kept kd)
  clear hblk hps hrs hF hG hd hr hKF hKG
  go_enter Tryd.func38, Tryd.ntmps38
  go_wp2_with fail
  refine wp_region_can Later [(0, true), (1, true), (2, true), (3, true), (5, true), (6, true), (7, true), (8, true), (4, false), (9, false), (10, true), (11, true)] (by kernel_rfl) (by kernel_rfl) later_refl later_trans ?_
  repeat (first
    | (refine can_yes (v := ?_) rfl (wanted_none rfl) (fun w' hC => ?_) (fun K hK => ?_); rotate_left; (focus (go_simp; first | done | exact rfl)); go_simp; refine hK _ ?_; clear hK K)
    | (refine can_guard rfl (fun A B hA hB => ?_); go_simp; first | (refine hA ⟨?_, fun w' hC => ?_, fun K hK => ?_⟩; rotate_left; (focus (go_simp; first | done | exact rfl)); go_simp; refine hK _ ?_; clear hK K hA hB A B) | (refine hB (fun K hK => ?_); go_simp; refine hK _ ?_; clear hK K hA hB A B))
    | (refine can_guard_go rfl (fun A B hA hB => ?_); go_simp; refine hB (fun K hK => ?_); go_simp; refine hK _ ?_; clear hK K hA hB A B))
  refine can_go rfl rfl (fun KK hK => ?_)
  go_simp
  refine HC.out.mono ?_
  rintro e w1 ⟨K2, rfl, hd1, hb1, hK2⟩
  have HRC := Lib.hid (refCopy_any w1 KR M (Hr.out.kept hb1) h1)
  refine ⟨_, rfl, hb1, hK _ _ ?_⟩
  clear hK KK HC a0 a2
  go_simp
  refine can_go rfl rfl (fun KK hK => ?_)
  go_simp
  refine HRC.out.mono ?_
  rintro e w2 ⟨R2, rfl, hr2, hb2, hR2⟩
  refine ⟨_, rfl, hb2, hK _ _ ?_⟩
  clear hK KK HRC
  go_simp
  repeat (first
    | (refine can_yes (v := ?_) rfl (wanted_none rfl) (fun w' hC => ?_) (fun K hK => ?_); rotate_left; (focus (go_simp; first | done | exact rfl)); go_simp; refine hK _ ?_; clear hK K)
    | (refine can_guard rfl (fun A B hA hB => ?_); go_simp; first | (refine hA ⟨?_, fun w' hC => ?_, fun K hK => ?_⟩; rotate_left; (focus (go_simp; first | done | exact rfl)); go_simp; refine hK _ ?_; clear hK K hA hB A B) | (refine hB (fun K hK => ?_); go_simp; refine hK _ ?_; clear hK K hA hB A B))
    | (refine can_guard_go rfl (fun A B hA hB => ?_); go_simp; refine hB (fun K hK => ?_); go_simp; refine hK _ ?_; clear hK K hA hB A B))
  refine can_nil ?_
  have hd2 := hd1.kept hb2
  have hz1 : w.heap.size ≤ w1.heap.size := hb1.size
  have hz2 := hb2.size
  have hb12 : Below w.heap.size w w2 := kd.trans (show Below w.heap.size w.drew w2 from (show Below w.heap.size w.drew w1 from hb1).trans (hb2.mono hz1))
  have hK2lt := hd1.lt
  have HUp := Lib.hid (up_any w2 K2 M hd2)
  have Hr2 := Lib.hid hr2
  clear hd1 hd2 hr2
  go_wp2_with fail
  refine HUp.out.mono ?_
  rintro e w3 ⟨rfl, hd3, ho3, hz3⟩
  have hr3 : RefAt w3 R2 M := Hr2.out.only ho3 fun b hb h => by have := hR2 b hb; have := hK2lt b h; omega
  have hb3 : Below w.heap.size w w3 := hb12.trans (ho3.below (fun b hb => show w.heap.size ≤ b from hK2 b hb) (by omega))
  obtain ⟨M2, hM2⟩ : ∃ M2 : MD, M2 = { M with down := false } := ⟨_, rfl⟩
  have hd3 : DiskAt w3 K2 M2 := by rw [hM2]; exact hd3
  have hS2 : M2.S = M.S := by rw [hM2]
  have hdn2 : M2.down = false := by rw [hM2]
  obtain ⟨n, hn⟩ : ∃ n, M.S.length = n := ⟨_, rfl⟩
  obtain ⟨cap, hcap, r0, -, -⟩ := hr3.row
  rw [hn] at r0 hle h1 hcap
  have hnI : (n : Int) ≤ 65536 := by omega
  have Hd3 := Lib.hid hd3; have Hr3 := Lib.hid hr3; have HS2 := Lib.hid hS2; have Hdn2 := Lib.hid hdn2; have Hn := Lib.hid hn
  have hrlt3 := hr3.lt R2.d (.inl rfl)
  clear HUp Hr2 hd3 hr3 hS2 hdn2 hn hM2 hb1 hb2 hK2 hR2 hK2lt ho3 hz1 hz2 hz3
  go_wp2_with fail
  go_loopw [27] (fun i wr => ∃ m : Nat, m ≤ n ∧ i = .int .i64 (m : Int) ∧ Below w3.heap.size w3 wr) (fun i _ => n - (intOf i).toNat)
  case atStart => exact ⟨0, by omega, rfl, Below.refl _ _⟩
  case round =>
    obtain ⟨m, hm, rfl, hbw⟩ := hrel
    by_cases hmn : m < n
    · have hmI : (m : Int) < (n : Int) := by omega
      have hm2 : m < M2.S.length := by rw [HS2.out, Hn.out]; exact hmn
      have hm1 : m < M.S.length := by rw [Hn.out]; exact hmn
      have hrd := read_ok wr K2 M2 m (Hd3.out.kept hbw) hm2 Hdn2.out
      obtain ⟨x, hx, hbx⟩ := (Hr3.out.kept hbw).sector m hm1
      have hsec : M2.S[m] = M.S[m] := by simp only [HS2.out]
      rw [hsec] at hrd
      have h64 : (M.S[m]).length = 64 := Hr3.out.s64 _ (List.getElem_mem hm1)
      generalize M.S[m] = s at *
      have Hrd := Lib.hid hrd
      clear hrd hsec
      go_wp2_with fail
      refine Hrd.out.mono ?_
      rintro e w4 ⟨r, rfl, hr4, hb4⟩
      have hb4' : Below w3.heap.size w3 w4 := kept_trans hbw hb4
      have hr4' : w4.ownsRow wr.heap.size 5 1 r s.length (s.map B) := by rw [h64]; exact hr4
      have hby := owns_bytes hr4'
      have q1 : ∀ w', Later w4.drew w' → (convert 30 9 r).run Tryd.prog w' = .ok (.string ⟨s.toArray⟩) w' := fun w' hh => later_str hby hh
      have q2 : ∀ w', Later w4.drew w' → (convert 30 9 x).run Tryd.prog w' = .ok (.string ⟨s.toArray⟩) w' := fun w' hh => later_str (hbx.keep fun b _ hlt => hb4.block b hlt) hh
      have c0 : ∀ w', Later w4.drew w' → w'.cell? ⟨R2.d, 0, none⟩ = some (.slice (some ⟨R2.bs, 0, none⟩) n cap) := fun w' hh => later_cell (by rw [hb4'.cell (p := ⟨R2.d, 0, none⟩) hrlt3]; exact r0) hh
      have cx : ∀ w', Later w4.drew w' → w'.cell? ⟨R2.bs, m, none⟩ = some x := fun w' hh => later_cell (by rw [hb4.cell (p := ⟨R2.bs, m, none⟩) (cell_lt hx)]; exact hx) hh
      obtain ⟨xa, xc, rfl, -⟩ := id hbx
      obtain ⟨ra, rc, rfl, -⟩ := id hby
      have Hb4 := Lib.hid (show Below w3.heap.size w3 w4.drew from hb4'.drew)
      have H64 := Lib.hid h64
      clear hby hr4 hr4' hbx hx h64 Hrd
      go_wp2_with fail
      refine wp_region_can Later [(0, true), (1, true), (2, true), (3, true), (4, true), (5, true), (6, true), (7, true), (8, true), (9, true), (10, true), (11, true), (12, true), (13, true), (14, true)] (by kernel_rfl) (by kernel_rfl) later_refl later_trans ?_
      repeat (first
        | (refine can_yes (v := ?_) rfl (wanted_none rfl) (fun w' hC => ?_) (fun K hK => ?_); rotate_left; (focus (go_simp; first | done | exact rfl)); go_simp; refine hK _ ?_; clear hK K)
        | (refine can_guard rfl (fun A B hA hB => ?_); go_simp; first | (refine hA ⟨?_, fun w' hC => ?_, fun K hK => ?_⟩; rotate_left; (focus (go_simp; first | done | exact rfl)); go_simp; refine hK _ ?_; clear hK K hA hB A B) | (refine hB (fun K hK => ?_); go_simp; refine hK _ ?_; clear hK K hA hB A B))
        | (refine can_guard_go rfl (fun A B hA hB => ?_); go_simp; refine hB (fun K hK => ?_); go_simp; refine hK _ ?_; clear hK K hA hB A B))
      refine can_nil ?_
      go_wp2_with fail
      go_roundw
      case rel => exact ⟨m + 1, by omega, by go_num, Hb4.out⟩
      case measure => simp [intOf]; omega
    · have hmI : ¬ (m : Int) < (n : Int) := by omega
      have hsz := size_any wr.drew K2 M2 ((Hd3.out.kept hbw).kept (Below.refl _ _).drew)
      rw [show M2.S.length = n from by rw [HS2.out, Hn.out]] at hsz
      have c0 : ∀ w', Later wr.drew w' → w'.cell? ⟨R2.d, 0, none⟩ = some (.slice (some ⟨R2.bs, 0, none⟩) n cap) := fun w' hh => later_cell (by rw [hbw.cell (p := ⟨R2.d, 0, none⟩) hrlt3]; exact r0) hh
      have Hsz := Lib.hid hsz
      have hbw' : Below w.heap.size w wr := hb3.trans (hbw.mono hb3.size)
      clear hsz
      go_wp2_with fail
      refine wp_region_can Later [(0, true), (2, true), (3, true), (4, true), (5, true), (6, true), (1, false), (7, true), (8, true)] (by kernel_rfl) (by kernel_rfl) later_refl later_trans ?_
      repeat (first
        | (refine can_yes (v := ?_) rfl (wanted_none rfl) (fun w' hC => ?_) (fun K hK => ?_); rotate_left; (focus (go_simp; first | done | exact rfl)); go_simp; refine hK _ ?_; clear hK K)
        | (refine can_guard rfl (fun A B hA hB => ?_); go_simp; first | (refine hA ⟨?_, fun w' hC => ?_, fun K hK => ?_⟩; rotate_left; (focus (go_simp; first | done | exact rfl)); go_simp; refine hK _ ?_; clear hK K hA hB A B) | (refine hB (fun K hK => ?_); go_simp; refine hK _ ?_; clear hK K hA hB A B))
        | (refine can_guard_go rfl (fun A B hA hB => ?_); go_simp; refine hB (fun K hK => ?_); go_simp; refine hK _ ?_; clear hK K hA hB A B))
      refine can_go rfl rfl (fun KK hK => ?_)
      go_simp
      refine Hsz.out.mono ?_
      rintro e w' ⟨rfl, rfl⟩
      refine ⟨_, rfl, later_refl _, hK _ _ ?_⟩
      clear hK KK
      go_simp
      repeat (first
        | (refine can_yes (v := ?_) rfl (wanted_none rfl) (fun w' hC => ?_) (fun K hK => ?_); rotate_left; (focus (go_simp; first | done | exact rfl)); go_simp; refine hK _ ?_; clear hK K)
        | (refine can_guard rfl (fun A B hA hB => ?_); go_simp; first | (refine hA ⟨?_, fun w' hC => ?_, fun K hK => ?_⟩; rotate_left; (focus (go_simp; first | done | exact rfl)); go_simp; refine hK _ ?_; clear hK K hA hB A B) | (refine hB (fun K hK => ?_); go_simp; refine hK _ ?_; clear hK K hA hB A B))
        | (refine can_guard_go rfl (fun A B hA hB => ?_); go_simp; refine hB (fun K hK => ?_); go_simp; refine hK _ ?_; clear hK K hA hB A B))
      refine can_nil ?_
      go_wp2_with fail
      go_ret
      exact ⟨rfl, hbw'.drew⟩
end Go.Proofs.YtmimplmeccoahaaDoor
