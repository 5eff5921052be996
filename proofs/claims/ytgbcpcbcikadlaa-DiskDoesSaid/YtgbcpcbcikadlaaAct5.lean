/- An act on both disks: Fail. -/
import Derived.Test.YtgbcpcbcikadlaaAct4
namespace Go.Proofs.Ytgbcpcbcikadlaa
open Go.RowKit
set_option linter.unusedVariables false
attribute [local go_sem ↓] seal_append seal_make_bytes
attribute [local go_sem] opC upC



set_option maxRecDepth 100000 in
set_option maxHeartbeats 4000000 in
theorem act_fail_err (w : World) (K : DK) (KR : RK) (M : MD) (hb : Both w K KR M) (kind at_ n : Int) (vB : Value) (full : Bool) (l : List UInt8) (F : Blks) (hF : ∀ b, F b → b < w.heap.size ∧ ¬ K.foot b ∧ ¬ KR.all b) (hB : Bytes F w vB l) (hl : l.length ≤ 200) (hk0 : 0 ≤ kind) (hk9 : kind ≤ 255) (hkind : kind % 8 = 5) (hc : n < 0 ∨ (fullB full l).length ≠ 64) :
    Calls Try.prog 23 #[.pointer (some ⟨K.d, 0, none⟩), .pointer (some ⟨KR.d, 0, none⟩), .agg #[.int .u8 kind, .int .i64 at_, .int .i64 n, vB, .bool full]] w (ActPost w K KR M) := by
  obtain ⟨er, her⟩ : ∃ er : Int, (∀ (W : World) (a : Option Addr) (c : Nat), DiskAt W K M → Calls Try.prog 11 #[.pointer (some ⟨K.d, 0, none⟩), .int .i64 n, .slice a (fullB full l).length c] W fun e w' => e = .returned (.int .i64 er) ∧ W = w') ∧
      (∀ (W : World) (a : Option Addr) (c : Nat), RefAt W KR M → Calls Try.prog 31 #[.pointer (some ⟨KR.d, 0, none⟩), .int .i64 n, .slice a (fullB full l).length c] W fun e w' => e = .returned (.int .i64 er) ∧ W = w') := by
    have hle := fullB_le full l hl
    exact ⟨_, fun W a c h => fail_err W K n a _ c (by omega) hc, fun W a c h => refFail_err W KR.d n a _ c (by omega) hc⟩
  have Her := Lib.hid her; clear her
  have Hc := Lib.hid hc; clear hc
  all_goals
    obtain ⟨w1, hw1⟩ : ∃ w1, w1 = w.alloc (.cells #[.int .u8 kind, .int .i64 at_, .int .i64 n, vB, .bool full] 49) := ⟨_, rfl⟩
    have hk1 : Below w.heap.size w w1 := by rw [hw1]; exact kept_alloc _ _
    have hblk1 : Blk w1 w.heap.size [.int .u8 kind, .int .i64 at_, .int .i64 n, vB, .bool full] 49 := by rw [hw1]; exact Blk.new _ _ _
    have hs1 : w1.heap.size = w.heap.size + 1 := by rw [hw1]; simp
    have hB1 : Bytes F w1 vB l := hB.keep fun b hb _ => hk1.block b (hF b hb).1
    have Hw1 := Lib.hid hw1; clear hw1
    have Hs1 := Lib.hid hs1; clear hs1
    have hb1 := hb.kept hk1
    go_enter Try.func23, Try.ntmps23
    go_wp2_with fail
    rw [← Hw1.out]
    refine (actBytes_any w1 F kind at_ n _ full l hB1 hl).mono ?_
    rintro e wa ⟨r1, rfl, hr1, hba⟩
    have hblk := hblk1.keep (hba.block _ hblk1.lt)
    have hb2 := hb1.kept hba
    have hka := hk1.trans (hba.mono hk1.size)
    have hsa : w.heap.size + 1 ≤ wa.heap.size := by have := hba.size; have := Hs1.out; omega
    have hlen := fullB_le full l hl
    have hrest := RowRest.of_owns hr1
    rw [Hs1.out] at hrest hr1
    have hB2 : Bytes F wa vB l := hB1.keep fun b hb _ => hba.block b (by have := Hs1.out; have := (hF b hb).1; omega)
    obtain ⟨ra, rc, rfl, hrc, hrm⟩ := owns_is hr1
    have hrB : Bytes (fun b => w.heap.size + 1 ≤ b ∧ b < wa.heap.size) wa (.slice ra (fullB full l).length rc) (fullB full l) := Bytes.of_owns hr1 _ (fun k h1 h2 => ⟨h1, h2⟩)
    clear hba hblk1 hB1 hr1 hb1 hk1
    have c0 := hblk.cell 0
    have c1 := hblk.cell 1
    have c2 := hblk.cell 2
    have c3 := hblk.cell 3
    have c4 := hblk.cell 4
    simp at c0 c1 c2 c3 c4
    go_wp2_with fail
    have q1 : ∀ w', Later wa.drew w' → w'.cell? ⟨w.heap.size, 1, none⟩ = some (.int .i64 at_) := fun w' hh => by simpa using (hblk.keep (w' := w') (hh.block w.heap.size hblk.lt)).cell 1
    have q0 : ∀ w', Later wa.drew w' → w'.cell? ⟨w.heap.size, 0, none⟩ = some (.int .u8 kind) := fun w' hh => by simpa using (hblk.keep (w' := w') (hh.block w.heap.size hblk.lt)).cell 0
    have q2 : ∀ w', Later wa.drew w' → w'.cell? ⟨w.heap.size, 2, none⟩ = some (.int .i64 n) := fun w' hh => by simpa using (hblk.keep (w' := w') (hh.block w.heap.size hblk.lt)).cell 2
    have q3 : ∀ w', Later wa.drew w' → w'.cell? ⟨w.heap.size, 3, none⟩ = some vB := fun w' hh => by simpa using (hblk.keep (w' := w') (hh.block w.heap.size hblk.lt)).cell 3
    have q4 : ∀ w', Later wa.drew w' → w'.cell? ⟨w.heap.size, 4, none⟩ = some (.bool full) := fun w' hh => by simpa using (hblk.keep (w' := w') (hh.block w.heap.size hblk.lt)).cell 4
    refine wp_region_can Later [(0, true), (1, true), (2, true), (3, true), (5, true), (6, true), (7, true), (8, true), (4, false), (9, false), (10, false), (11, true), (12, true)] (by kernel_rfl) (by kernel_rfl) later_refl later_trans ?_
    repeat (first
      | (refine can_yes (v := ?_) rfl (wanted_none rfl) (fun w' hC => ?_) (fun K hK => ?_); rotate_left; (focus (go_simp; first | done | exact rfl)); go_simp; refine hK _ ?_; clear hK K)
      | (refine can_guard rfl (fun A B hA hB => ?_); go_simp; first | (refine hA ⟨?_, fun w' hC => ?_, fun K hK => ?_⟩; rotate_left; (focus (go_simp; first | done | exact rfl)); go_simp; refine hK _ ?_; clear hK K hA hB A B) | (refine hB (fun K hK => ?_); go_simp; refine hK _ ?_; clear hK K hA hB A B))
      | (refine can_guard_go rfl (fun A B hA hB => ?_); go_simp; refine hB (fun K hK => ?_); go_simp; refine hK _ ?_; clear hK K hA hB A B))
    refine can_go rfl rfl (fun KK hK => ?_)
    go_simp
    refine (Her.out.1 _ _ _ (hb2.d.kept (w' := wa.drew) (Below.refl _ _).drew)).mono ?_
    rintro e w' ⟨rfl, rfl⟩
    refine ⟨_, rfl, later_refl _, hK _ _ ?_⟩
    clear hK KK
    go_simp
    repeat (first
      | (refine can_yes (v := ?_) rfl (wanted_none rfl) (fun w' hC => ?_) (fun K hK => ?_); rotate_left; (focus (go_simp; first | done | exact rfl)); go_simp; refine hK _ ?_; clear hK K)
      | (refine can_guard rfl (fun A B hA hB => ?_); go_simp; first | (refine hA ⟨?_, fun w' hC => ?_, fun K hK => ?_⟩; rotate_left; (focus (go_simp; first | done | exact rfl)); go_simp; refine hK _ ?_; clear hK K hA hB A B) | (refine hB (fun K hK => ?_); go_simp; refine hK _ ?_; clear hK K hA hB A B))
      | (refine can_guard_go rfl (fun A B hA hB => ?_); go_simp; refine hB (fun K hK => ?_); go_simp; refine hK _ ?_; clear hK K hA hB A B))
    refine can_go rfl rfl (fun KK hK => ?_)
    go_simp
    refine (actBytes_any wa.drew F kind at_ n _ full l (hB2.keep (w' := wa.drew) fun b hb _ => rfl) hl).mono ?_
    rintro e wb ⟨r2, rfl, hr2, hbb⟩
    obtain ⟨ra2, rc2, rfl, hrc2, hrm2⟩ := owns_is hr2
    refine ⟨_, rfl, hbb, hK _ _ ?_⟩
    clear hK KK
    have hbb : Below wa.heap.size wa.drew wb := hbb
    have hb3 := (hb2.kept (w' := wa.drew) (Below.refl _ _).drew).kept hbb
    go_simp
    repeat (first
      | (refine can_yes (v := ?_) rfl (wanted_none rfl) (fun w' hC => ?_) (fun K hK => ?_); rotate_left; (focus (go_simp; first | done | exact rfl)); go_simp; refine hK _ ?_; clear hK K)
      | (refine can_guard rfl (fun A B hA hB => ?_); go_simp; first | (refine hA ⟨?_, fun w' hC => ?_, fun K hK => ?_⟩; rotate_left; (focus (go_simp; first | done | exact rfl)); go_simp; refine hK _ ?_; clear hK K hA hB A B) | (refine hB (fun K hK => ?_); go_simp; refine hK _ ?_; clear hK K hA hB A B))
      | (refine can_guard_go rfl (fun A B hA hB => ?_); go_simp; refine hB (fun K hK => ?_); go_simp; refine hK _ ?_; clear hK K hA hB A B))
    refine can_go rfl rfl (fun KK hK => ?_)
    go_simp
    refine (Her.out.2 _ _ _ hb3.r).mono ?_
    rintro e w' ⟨rfl, rfl⟩
    refine ⟨_, rfl, later_refl _, hK _ _ ?_⟩
    clear hK KK
    go_simp
    repeat (first
      | (refine can_yes (v := ?_) rfl (wanted_none rfl) (fun w' hC => ?_) (fun K hK => ?_); rotate_left; (focus (go_simp; first | done | exact rfl)); go_simp; refine hK _ ?_; clear hK K)
      | (refine can_guard rfl (fun A B hA hB => ?_); go_simp; first | (refine hA ⟨?_, fun w' hC => ?_, fun K hK => ?_⟩; rotate_left; (focus (go_simp; first | done | exact rfl)); go_simp; refine hK _ ?_; clear hK K hA hB A B) | (refine hB (fun K hK => ?_); go_simp; refine hK _ ?_; clear hK K hA hB A B))
      | (refine can_guard_go rfl (fun A B hA hB => ?_); go_simp; refine hB (fun K hK => ?_); go_simp; refine hK _ ?_; clear hK K hA hB A B))
    refine can_nil ?_
    have honly : Only (actFoot K KR) w wb := Only.of_below (hka.drew.trans (hbb.mono (show w.heap.size ≤ wa.heap.size from hka.size)))
    have hthen : Then (w.heap.size + 1) wa.heap.size K KR M wb K KR M := ⟨hb3, rfl, rfl, by omega, fun b hb => hb.imp id .inl⟩
    replace hrest : RowRest (w.heap.size + 1) wa.heap.size (.slice ra (fullB full l).length rc) (fullB full l).length 0 wb := hrest.keep fun b h1 h2 => hbb.block b h2
    clear hb3 hb2 hblk c0 c1 c2 c3 c4 hB2 hrB q0 q1 q2 q3 q4 hr2 hbb
    obtain ⟨K', KR', M', hK', hthen⟩ : ∃ K' KR' M', K'.d = K.d ∧ Then (w.heap.size + 1) wa.heap.size K KR M wb K' KR' M' := ⟨K, KR, M, rfl, hthen⟩
    generalize (fullB full l).length = fl at *
    rw [← hK']
    have HK' := Lib.hid hK'; clear hK'
    go_wp2_with fail
    go_loopw [16] (fun i wr => ∃ k : Nat, k ≤ fl ∧ i = .int .i64 (k : Int) ∧ Then (w.heap.size + 1) wa.heap.size K KR M wr K' KR' M' ∧ RowRest (w.heap.size + 1) wa.heap.size (.slice ra fl rc) fl k wr ∧ Only (actFoot K KR) w wr) (fun i _ => fl - (intOf i).toNat)
    case atStart => exact ⟨0, by omega, rfl, hthen, hrest, honly⟩
    case round =>
      obtain ⟨k, hk, rfl, hth, hre, hon⟩ := hrel
      by_cases hkl : k < fl
      · have hklI : (k : Int) < (fl : Int) := by omega
        obtain ⟨g, cap, L, hv, hg1, hg2, hL, hLc⟩ := hre.resolve_left (by omega)
        simp at hv
        obtain ⟨rfl, rfl⟩ := hv
        obtain ⟨c, hc⟩ := hLc k (Nat.le_refl _) hkl
        have cc := hL.cell k
        have cf := hL.free k
        rw [hc] at cc
        unfold B at cc
        have hset : RowRest (w.heap.size + 1) wa.heap.size (.slice (some ⟨g, 0, none⟩) fl rc) fl (k + 1) (wr.setCell ⟨g, k, none⟩ (.int .u8 (IntKind.u8.wrap ((c.toNat : Int) + 1)))) :=
          .inr ⟨g, rc, _, rfl, hg1, hg2, hL.set k _, fun j hj hjl => by rw [List.getElem?_set_ne (by omega)]; exact hLc j (by omega) hjl⟩
        have hth2 : Then (w.heap.size + 1) wa.heap.size K KR M (wr.setCell ⟨g, k, none⟩ (.int .u8 (IntKind.u8.wrap ((c.toNat : Int) + 1)))) K' KR' M' := ⟨hth.1.set _ _ (hth.lt hb (by omega) g hg1 hg2), hth.2⟩
        have Hset := Lib.hid hset; have Hth := Lib.hid hth2
        clear hset hth2 hre hth hLc hc hL
        go_wp2_with fail
        go_roundw
        case rel => exact ⟨k + 1, by omega, by go_num, Hth.out, Hset.out, hon.setCell (.inr (by show w.heap.size ≤ g; omega)) _⟩
        case measure => simp [intOf]; omega
      · have hklI : ¬ (k : Int) < (fl : Int) := by omega
        go_wp2_with fail
        go_ret2
        exact ⟨K', KR', M', rfl, ⟨hth.1, hth.2.1, hth.2.2.1, hth.2.2.2.1, fun b hb => (hth.2.2.2.2 b hb).imp id (Or.imp id (fun h => Nat.le_trans hka.size h))⟩, hon⟩
set_option maxRecDepth 100000 in
set_option maxHeartbeats 4000000 in
theorem act_fail_ok (w : World) (K : DK) (KR : RK) (M : MD) (hb : Both w K KR M) (kind : Int) (at_ : Int) (nn : Nat) (vB : Value) (full : Bool) (l : List UInt8) (F : Blks) (hF : ∀ b, F b → b < w.heap.size ∧ ¬ K.foot b ∧ ¬ KR.all b) (hB : Bytes F w vB l) (hl : l.length ≤ 200) (hk0 : 0 ≤ kind) (hk9 : kind ≤ 255) (hkind : kind % 8 = 5)
    (hn : nn ≤ 9223372036854775807) (h64 : (fullB full l).length = 64) (hw : M.writes < 4611686018427387904) :
    Calls Try.prog 23 #[.pointer (some ⟨K.d, 0, none⟩), .pointer (some ⟨KR.d, 0, none⟩), .agg #[.int .u8 kind, .int .i64 at_, .int .i64 (nn : Int), vB, .bool full]] w (ActPost w K KR M) := by
  obtain ⟨n, hn'⟩ : ∃ x : Int, x = (nn : Int) := ⟨_, rfl⟩
  rw [← hn']
  have HN0 : 0 ≤ n := by omega
  have HN1 : n.toNat ≤ 9223372036854775807 := by omega
  have HA := Lib.hid hn'; clear hn'
  have H64 := Lib.hid h64; clear h64
  all_goals
    obtain ⟨w1, hw1⟩ : ∃ w1, w1 = w.alloc (.cells #[.int .u8 kind, .int .i64 at_, .int .i64 n, vB, .bool full] 49) := ⟨_, rfl⟩
    have hk1 : Below w.heap.size w w1 := by rw [hw1]; exact kept_alloc _ _
    have hblk1 : Blk w1 w.heap.size [.int .u8 kind, .int .i64 at_, .int .i64 n, vB, .bool full] 49 := by rw [hw1]; exact Blk.new _ _ _
    have hs1 : w1.heap.size = w.heap.size + 1 := by rw [hw1]; simp
    have hB1 : Bytes F w1 vB l := hB.keep fun b hb _ => hk1.block b (hF b hb).1
    have Hw1 := Lib.hid hw1; clear hw1
    have Hs1 := Lib.hid hs1; clear hs1
    have hb1 := hb.kept hk1
    go_enter Try.func23, Try.ntmps23
    go_wp2_with fail
    rw [← Hw1.out]
    refine (actBytes_any w1 F kind at_ n _ full l hB1 hl).mono ?_
    rintro e wa ⟨r1, rfl, hr1, hba⟩
    have hblk := hblk1.keep (hba.block _ hblk1.lt)
    have hb2 := hb1.kept hba
    have hka := hk1.trans (hba.mono hk1.size)
    have hsa : w.heap.size + 1 ≤ wa.heap.size := by have := hba.size; have := Hs1.out; omega
    have hlen := fullB_le full l hl
    have hrest := RowRest.of_owns hr1
    rw [Hs1.out] at hrest hr1
    have hB2 : Bytes F wa vB l := hB1.keep fun b hb _ => hba.block b (by have := Hs1.out; have := (hF b hb).1; omega)
    obtain ⟨ra, rc, rfl, hrc, hrm⟩ := owns_is hr1
    have hrB : Bytes (fun b => w.heap.size + 1 ≤ b ∧ b < wa.heap.size) wa (.slice ra (fullB full l).length rc) (fullB full l) := Bytes.of_owns hr1 _ (fun k h1 h2 => ⟨h1, h2⟩)
    clear hba hblk1 hB1 hr1 hb1 hk1
    have c0 := hblk.cell 0
    have c1 := hblk.cell 1
    have c2 := hblk.cell 2
    have c3 := hblk.cell 3
    have c4 := hblk.cell 4
    simp at c0 c1 c2 c3 c4
    go_wp2_with fail
    have hlt1 := hb.d.lt
    have hlt2 := hb.r.lt
    have hnf : ¬ (actFoot K KR w.heap.size ∨ wa.heap.size ≤ w.heap.size) := by
      rintro ((h | h) | h)
      · have := hlt1 _ h; omega
      · have := hlt2 _ (RefAt.foot_all h); omega
      · omega
    have qq : ∀ w', LaterF (fun b => actFoot K KR b ∨ wa.heap.size ≤ b) wa.drew w' → w'.cell? ⟨w.heap.size, 0, none⟩ = some (.int .u8 kind) ∧ w'.cell? ⟨w.heap.size, 1, none⟩ = some (.int .i64 at_) ∧ w'.cell? ⟨w.heap.size, 2, none⟩ = some (.int .i64 n) ∧ w'.cell? ⟨w.heap.size, 3, none⟩ = some vB ∧ w'.cell? ⟨w.heap.size, 4, none⟩ = some (.bool full) := fun w' hh => by
      have hw' := hblk.keep (w' := w') (hh.block w.heap.size hblk.lt hnf)
      exact ⟨by simpa using hw'.cell 0, by simpa using hw'.cell 1, by simpa using hw'.cell 2, by simpa using hw'.cell 3, by simpa using hw'.cell 4⟩
    have q0 := fun w' hh => (qq w' hh).1
    have q1 := fun w' hh => (qq w' hh).2.1
    have q2 := fun w' hh => (qq w' hh).2.2.1
    have q3 := fun w' hh => (qq w' hh).2.2.2.1
    have q4 := fun w' hh => (qq w' hh).2.2.2.2
    have QQ := Lib.hid qq; clear qq
    refine wp_region_can (LaterF (fun b => actFoot K KR b ∨ wa.heap.size ≤ b)) [(0, true), (1, true), (2, true), (3, true), (5, true), (6, true), (7, true), (8, true), (4, false), (9, false), (10, false), (11, true), (12, true)] (by kernel_rfl) (by kernel_rfl) (laterF_refl _) (laterF_trans _) ?_
    repeat (first
      | (refine can_yes (v := ?_) rfl (wanted_none rfl) (fun w' hC => ?_) (fun K hK => ?_); rotate_left; (focus (go_simp; first | done | exact rfl)); go_simp; refine hK _ ?_; clear hK K)
      | (refine can_guard rfl (fun A B hA hB => ?_); go_simp; first | (refine hA ⟨?_, fun w' hC => ?_, fun K hK => ?_⟩; rotate_left; (focus (go_simp; first | done | exact rfl)); go_simp; refine hK _ ?_; clear hK K hA hB A B) | (refine hB (fun K hK => ?_); go_simp; refine hK _ ?_; clear hK K hA hB A B))
      | (refine can_guard_go rfl (fun A B hA hB => ?_); go_simp; refine hB (fun K hK => ?_); go_simp; refine hK _ ?_; clear hK K hA hB A B))
    refine can_go rfl rfl (fun KK hK => ?_)
    go_simp
    refine (fail_int wa.drew K M (hb2.d.kept (w' := wa.drew) (Below.refl _ _).drew) n HN0 (by omega) _ _ _ (hrB.keep (w' := wa.drew) fun b hb _ => rfl) H64.out).mono ?_
    rintro e wb ⟨rfl, ⟨K', hK', hKf, hd3⟩, ho3⟩
    have hKf : ∀ b, K'.foot b → K.foot b ∨ wa.heap.size ≤ b := hKf
    have hs3 : wa.heap.size ≤ wb.heap.size := ho3.size
    have ho3 : Only K.foot wa wb := ⟨ho3.os, ho3.tape, ho3.output, ho3.size, ho3.block⟩
    refine ⟨_, rfl, ⟨ho3.os, ho3.tape, ho3.output, ho3.size, fun b hb hn => ho3.block b hb (fun hf => hn (.inl (.inl hf)))⟩, hK _ _ ?_⟩
    clear hK KK
    have hr3 := hb2.r.only ho3 (fun b hb hf => hb2.apart b hf hb)
    have hB3 : Bytes F wb vB l := hB2.keep fun b hb hlt => ho3.block b hlt (fun hf => (hF b hb).2.1 hf)
    have hC3 : LaterF (fun b => actFoot K KR b ∨ wa.heap.size ≤ b) wa.drew wb := ⟨ho3.os, ho3.tape, ho3.output, ho3.size, fun b hb hn => ho3.block b hb (fun hf => hn (.inl (.inl hf)))⟩
    clear q0 q1 q2 q3 q4
    have q0 : ∀ w', LaterF (fun b => actFoot K KR b ∨ wa.heap.size ≤ b) wb w' → w'.cell? ⟨w.heap.size, 0, none⟩ = some (.int .u8 kind) := fun w' hh => (QQ.out w' (laterF_trans _ _ _ _ hC3 hh)).1
    have q1 : ∀ w', LaterF (fun b => actFoot K KR b ∨ wa.heap.size ≤ b) wb w' → w'.cell? ⟨w.heap.size, 1, none⟩ = some (.int .i64 at_) := fun w' hh => (QQ.out w' (laterF_trans _ _ _ _ hC3 hh)).2.1
    have q2 : ∀ w', LaterF (fun b => actFoot K KR b ∨ wa.heap.size ≤ b) wb w' → w'.cell? ⟨w.heap.size, 2, none⟩ = some (.int .i64 n) := fun w' hh => (QQ.out w' (laterF_trans _ _ _ _ hC3 hh)).2.2.1
    have q3 : ∀ w', LaterF (fun b => actFoot K KR b ∨ wa.heap.size ≤ b) wb w' → w'.cell? ⟨w.heap.size, 3, none⟩ = some vB := fun w' hh => (QQ.out w' (laterF_trans _ _ _ _ hC3 hh)).2.2.2.1
    have q4 : ∀ w', LaterF (fun b => actFoot K KR b ∨ wa.heap.size ≤ b) wb w' → w'.cell? ⟨w.heap.size, 4, none⟩ = some (.bool full) := fun w' hh => (QQ.out w' (laterF_trans _ _ _ _ hC3 hh)).2.2.2.2
    go_simp
    repeat (first
      | (refine can_yes (v := ?_) rfl (wanted_none rfl) (fun w' hC => ?_) (fun K hK => ?_); rotate_left; (focus (go_simp; first | done | exact rfl)); go_simp; refine hK _ ?_; clear hK K)
      | (refine can_guard rfl (fun A B hA hB => ?_); go_simp; first | (refine hA ⟨?_, fun w' hC => ?_, fun K hK => ?_⟩; rotate_left; (focus (go_simp; first | done | exact rfl)); go_simp; refine hK _ ?_; clear hK K hA hB A B) | (refine hB (fun K hK => ?_); go_simp; refine hK _ ?_; clear hK K hA hB A B))
      | (refine can_guard_go rfl (fun A B hA hB => ?_); go_simp; refine hB (fun K hK => ?_); go_simp; refine hK _ ?_; clear hK K hA hB A B))
    refine can_go rfl rfl (fun KK hK => ?_)
    go_simp
    refine (actBytes_any wb F kind at_ n _ full l hB3 hl).mono ?_
    rintro e wc ⟨r2, rfl, hr2, hbc⟩
    have hby2 : Bytes (fun b => wb.heap.size ≤ b ∧ b < wc.heap.size) wc r2 (fullB full l) := Bytes.of_owns hr2 _ (fun k h1 h2 => ⟨h1, h2⟩)
    obtain ⟨ra2, rc2, rfl, hrc2, hrm2⟩ := owns_is hr2
    refine ⟨_, rfl, LaterF.of_below hbc, hK _ _ ?_⟩
    clear hK KK q0 q1 q2 q3 q4
    have hd4 := hd3.kept hbc
    have hr4 := hr3.kept hbc
    go_simp
    repeat (first
      | (refine can_yes (v := ?_) rfl (wanted_none rfl) (fun w' hC => ?_) (fun K hK => ?_); rotate_left; (focus (go_simp; first | done | exact rfl)); go_simp; refine hK _ ?_; clear hK K)
      | (refine can_guard rfl (fun A B hA hB => ?_); go_simp; first | (refine hA ⟨?_, fun w' hC => ?_, fun K hK => ?_⟩; rotate_left; (focus (go_simp; first | done | exact rfl)); go_simp; refine hK _ ?_; clear hK K hA hB A B) | (refine hB (fun K hK => ?_); go_simp; refine hK _ ?_; clear hK K hA hB A B))
      | (refine can_guard_go rfl (fun A B hA hB => ?_); go_simp; refine hB (fun K hK => ?_); go_simp; refine hK _ ?_; clear hK K hA hB A B))
    refine can_go rfl rfl (fun KK hK => ?_)
    go_simp
    have hrw := refFail_ok wc KR M hr4 nn hn _ _ _ hby2 H64.out (fun b hb e => by have := hlt2 KR.d (.inl rfl); omega)
    rw [← HA.out] at hrw
    refine hrw.mono ?_
    rintro e wd ⟨rfl, ⟨KR', hKR', hRf, hr5⟩, ho5⟩
    have hbcs : wb.heap.size ≤ wc.heap.size := hbc.size
    refine ⟨_, rfl, ⟨ho5.os, ho5.tape, ho5.output, ho5.size, fun b hb hn => ho5.block b hb (fun hf => hn (.inl (.inr hf)))⟩, hK _ _ ?_⟩
    clear hK KK
    have hiw : n.toNat = nn := by have := HA.out; omega
    rw [hiw] at hd3 hd4
    go_simp
    repeat (first
      | (refine can_yes (v := ?_) rfl (wanted_none rfl) (fun w' hC => ?_) (fun K hK => ?_); rotate_left; (focus (go_simp; first | done | exact rfl)); go_simp; refine hK _ ?_; clear hK K)
      | (refine can_guard rfl (fun A B hA hB => ?_); go_simp; first | (refine hA ⟨?_, fun w' hC => ?_, fun K hK => ?_⟩; rotate_left; (focus (go_simp; first | done | exact rfl)); go_simp; refine hK _ ?_; clear hK K hA hB A B) | (refine hB (fun K hK => ?_); go_simp; refine hK _ ?_; clear hK K hA hB A B))
      | (refine can_guard_go rfl (fun A B hA hB => ?_); go_simp; refine hB (fun K hK => ?_); go_simp; refine hK _ ?_; clear hK K hA hB A B))
    refine can_nil ?_
    have hap : ∀ b, K'.foot b → ¬ KR'.all b := fun b hf ha => by
      have hb3 := hd3.lt b hf
      rcases hKf b hf with h1 | h1
      · rcases hRf b ha with h2 | h2
        · exact hb2.apart b h1 h2
        · have := hlt1 b h1; omega
      · rcases hRf b ha with h2 | h2
        · have := hlt2 b h2; omega
        · omega
    have hd5 := hd4.only ho5 (fun b hb' hf => by rcases hKf b hb' with h1 | h1; exact hb2.apart b h1 (RefAt.foot_all hf); have := hlt2 b (RefAt.foot_all hf); omega)
    have honly : Only (actFoot K KR) w wd := (((Only.of_below hka).trans ho3 (fun i hi => .inl (.inl hi))).trans (Only.of_below hbc) (fun i hi => .inl hi)).trans ho5 (fun i hi => .inl (.inr hi))
    have hthen : Then (w.heap.size + 1) wa.heap.size K KR M wd K' KR' { M with fault := some (nn, fullB full l) } := ⟨⟨hd5, hr5, hap⟩, hKR', rfl, by show M.writes ≤ _; omega, fun b hb => by
      rcases hb with hb | hb
      · rcases hKf b hb with h | h
        · exact .inl h
        · exact .inr (.inr h)
      · rcases hRf b hb with h | h
        · exact .inr (.inl h)
        · exact .inr (.inr (by omega))⟩
    replace hrest : RowRest (w.heap.size + 1) wa.heap.size (.slice ra (fullB full l).length rc) (fullB full l).length 0 wd := ((hrest.keep fun b h1 h2 => ho3.block b h2 (fun hf => by have := hlt1 b hf; omega)).keep fun b h1 h2 => hbc.block b (by omega)).keep fun b h1 h2 => ho5.block b (by omega) (fun hf => by have := hlt2 b (RefAt.foot_all hf); omega)
    have hKd : K'.d = K.d := hK'
    clear hd3 hd4 hd5 hr3 hr4 hr5 ho3 ho5 hB3 hC3 hby2 hr2 hb2 hblk c0 c1 c2 c3 c4 hB2 hrB hbc hap hrw QQ hK' hKR' hKf hRf
    obtain ⟨M', hM'⟩ : ∃ M' : MD, M' = { M with fault := some (nn, fullB full l) } := ⟨_, rfl⟩
    rw [← hM'] at hthen
    clear hM'
    have hfl := H64.out
    clear H64
    generalize (fullB full l).length = fl at *
    rw [← hKd]
    have HK' := Lib.hid hKd; clear hKd
    have Hfl := Lib.hid hfl; clear hfl
    go_wp2_with fail
    go_loopw [16] (fun i wr => ∃ k : Nat, k ≤ fl ∧ i = .int .i64 (k : Int) ∧ Then (w.heap.size + 1) wa.heap.size K KR M wr K' KR' M' ∧ RowRest (w.heap.size + 1) wa.heap.size (.slice ra fl rc) fl k wr ∧ Only (actFoot K KR) w wr) (fun i _ => fl - (intOf i).toNat)
    case atStart => exact ⟨0, by omega, rfl, hthen, hrest, honly⟩
    case round =>
      obtain ⟨k, hk, rfl, hth, hre, hon⟩ := hrel
      by_cases hkl : k < fl
      · have hklI : (k : Int) < (fl : Int) := by omega
        obtain ⟨g, cap, L, hv, hg1, hg2, hL, hLc⟩ := hre.resolve_left (by omega)
        simp at hv
        obtain ⟨rfl, rfl⟩ := hv
        obtain ⟨c, hc⟩ := hLc k (Nat.le_refl _) hkl
        have cc := hL.cell k
        have cf := hL.free k
        rw [hc] at cc
        unfold B at cc
        have hset : RowRest (w.heap.size + 1) wa.heap.size (.slice (some ⟨g, 0, none⟩) fl rc) fl (k + 1) (wr.setCell ⟨g, k, none⟩ (.int .u8 (IntKind.u8.wrap ((c.toNat : Int) + 1)))) :=
          .inr ⟨g, rc, _, rfl, hg1, hg2, hL.set k _, fun j hj hjl => by rw [List.getElem?_set_ne (by omega)]; exact hLc j (by omega) hjl⟩
        have hth2 : Then (w.heap.size + 1) wa.heap.size K KR M (wr.setCell ⟨g, k, none⟩ (.int .u8 (IntKind.u8.wrap ((c.toNat : Int) + 1)))) K' KR' M' := ⟨hth.1.set _ _ (hth.lt hb (by omega) g hg1 hg2), hth.2⟩
        have Hset := Lib.hid hset; have Hth := Lib.hid hth2
        clear hset hth2 hre hth hLc hc hL
        go_wp2_with fail
        go_roundw
        case rel => exact ⟨k + 1, by omega, by go_num, Hth.out, Hset.out, hon.setCell (.inr (by show w.heap.size ≤ g; omega)) _⟩
        case measure => simp [intOf]; omega
      · have hklI : ¬ (k : Int) < (fl : Int) := by omega
        go_wp2_with fail
        go_ret2
        exact ⟨K', KR', M', rfl, ⟨hth.1, hth.2.1, hth.2.2.1, hth.2.2.2.1, fun b hb => (hth.2.2.2.2 b hb).imp id (Or.imp id (fun h => Nat.le_trans hka.size h))⟩, hon⟩
end Go.Proofs.Ytgbcpcbcikadlaa
