/- An act on both disks: Write that is done. -/
import Derived.Test.YtgbcpcbcikadlaaAct3
namespace Go.Proofs.Ytgbcpcbcikadlaa
open Go.RowKit
set_option linter.unusedVariables false
attribute [local go_sem ↓] seal_append seal_make_bytes
attribute [local go_sem] opC upC



set_option maxRecDepth 100000 in
set_option maxHeartbeats 4000000 in
theorem act_write_ok (w : World) (K : DK) (KR : RK) (M : MD) (hb : Both w K KR M) (kind : Int) (atn : Nat) (n : Int) (vB : Value) (full : Bool) (l : List UInt8) (F : Blks) (hF : ∀ b, F b → b < w.heap.size ∧ ¬ K.foot b ∧ ¬ KR.all b) (hB : Bytes F w vB l) (hl : l.length ≤ 200) (hk0 : 0 ≤ kind) (hk9 : kind ≤ 255) (hkind : kind % 8 = 0 ∨ kind % 8 = 1 ∨ kind % 8 = 2 ∨ kind % 8 = 3)
    (hat : atn < M.S.length) (hdn : M.down = false) (h64 : (fullB full l).length = 64) (hw : M.writes < 4611686018427387904) :
    Calls Try.prog 23 #[.pointer (some ⟨K.d, 0, none⟩), .pointer (some ⟨KR.d, 0, none⟩), .agg #[.int .u8 kind, .int .i64 (atn : Int), .int .i64 n, vB, .bool full]] w (ActPost w K KR M) := by
  obtain ⟨at_, hat'⟩ : ∃ x : Int, x = (atn : Int) := ⟨_, rfl⟩
  rw [← hat']
  have hai : 0 ≤ at_ ∧ at_ < M.S.length := by omega
  have HA := Lib.hid hat'; clear hat'
  have H64 := Lib.hid h64; have Hdn := Lib.hid hdn; clear h64 hdn
  rcases hkind with hkind | hkind | hkind | hkind
  all_goals
    obtain ⟨w1, hw1⟩ : ∃ w1, w1 = w.alloc (.cells #[.int .u8 kind, .int .i64 at_, .int .i64 n, vB, .bool full] 49) := ⟨_, rfl⟩
    have hk1 : Below w.heap.size w w1 := by rw [hw1]; exact kept_alloc _ _
    have hblk1 : Blk w1 w.heap.size [.int .u8 kind, .int .i64 at_, .int .i64 n, vB, .bool full] 49 := by rw [hw1]; exact Blk.new _ _ _
    have hs1 : w1.heap.size = w.heap.size + 1 := by rw [hw1]; simp
    have hB1 : Bytes F w1 vB l := hB.keep fun b hb _ => hk1.block b (hF b hb).1
    have Hw1 := Lib.hid hw1; clear hw1
    have Hs1 := Lib.hid hs1; clear hs1
    have hb1 := hb.kept hk1
    go_enter Try.func23, Try.ntmps23
    go_wp2_with fail
    rw [← Hw1.out]
    refine (actBytes_any w1 F kind at_ n _ full l hB1 hl).mono ?_
    rintro e wa ⟨r1, rfl, hr1, hba⟩
    have hblk := hblk1.keep (hba.block _ hblk1.lt)
    have hb2 := hb1.kept hba
    have hka := hk1.trans (hba.mono hk1.size)
    have hsa : w.heap.size + 1 ≤ wa.heap.size := by have := hba.size; have := Hs1.out; omega
    have hlen := fullB_le full l hl
    have hrest := RowRest.of_owns hr1
    rw [Hs1.out] at hrest hr1
    have hB2 : Bytes F wa vB l := hB1.keep fun b hb _ => hba.block b (by have := Hs1.out; have := (hF b hb).1; omega)
    obtain ⟨ra, rc, rfl, hrc, hrm⟩ := owns_is hr1
    have hrB : Bytes (fun b => w.heap.size + 1 ≤ b ∧ b < wa.heap.size) wa (.slice ra (fullB full l).length rc) (fullB full l) := Bytes.of_owns hr1 _ (fun k h1 h2 => ⟨h1, h2⟩)
    clear hba hblk1 hB1 hr1 hb1 hk1
    have c0 := hblk.cell 0
    have c1 := hblk.cell 1
    have c2 := hblk.cell 2
    have c3 := hblk.cell 3
    have c4 := hblk.cell 4
    simp at c0 c1 c2 c3 c4
    go_wp2_with fail
    have hlt1 := hb.d.lt
    have hlt2 := hb.r.lt
    have hnf : ¬ (actFoot K KR w.heap.size ∨ wa.heap.size ≤ w.heap.size) := by
      rintro ((h | h) | h)
      · have := hlt1 _ h; omega
      · have := hlt2 _ (RefAt.foot_all h); omega
      · omega
    have qq : ∀ w', LaterF (fun b => actFoot K KR b ∨ wa.heap.size ≤ b) wa.drew w' → w'.cell? ⟨w.heap.size, 0, none⟩ = some (.int .u8 kind) ∧ w'.cell? ⟨w.heap.size, 1, none⟩ = some (.int .i64 at_) ∧ w'.cell? ⟨w.heap.size, 2, none⟩ = some (.int .i64 n) ∧ w'.cell? ⟨w.heap.size, 3, none⟩ = some vB ∧ w'.cell? ⟨w.heap.size, 4, none⟩ = some (.bool full) := fun w' hh => by
      have hw' := hblk.keep (w' := w') (hh.block w.heap.size hblk.lt hnf)
      exact ⟨by simpa using hw'.cell 0, by simpa using hw'.cell 1, by simpa using hw'.cell 2, by simpa using hw'.cell 3, by simpa using hw'.cell 4⟩
    have q0 := fun w' hh => (qq w' hh).1
    have q1 := fun w' hh => (qq w' hh).2.1
    have q2 := fun w' hh => (qq w' hh).2.2.1
    have q3 := fun w' hh => (qq w' hh).2.2.2.1
    have q4 := fun w' hh => (qq w' hh).2.2.2.2
    have QQ := Lib.hid qq; clear qq
    refine wp_region_can (LaterF (fun b => actFoot K KR b ∨ wa.heap.size ≤ b)) [(0, true), (1, true), (2, true), (3, true), (5, true), (6, true), (7, true), (8, true), (4, false), (9, false), (10, false), (11, true), (12, true)] (by kernel_rfl) (by kernel_rfl) (laterF_refl _) (laterF_trans _) ?_
    repeat (first
      | (refine can_yes (v := ?_) rfl (wanted_none rfl) (fun w' hC => ?_) (fun K hK => ?_); rotate_left; (focus (go_simp; first | done | exact rfl)); go_simp; refine hK _ ?_; clear hK K)
      | (refine can_guard rfl (fun A B hA hB => ?_); go_simp; first | (refine hA ⟨?_, fun w' hC => ?_, fun K hK => ?_⟩; rotate_left; (focus (go_simp; first | done | exact rfl)); go_simp; refine hK _ ?_; clear hK K hA hB A B) | (refine hB (fun K hK => ?_); go_simp; refine hK _ ?_; clear hK K hA hB A B))
      | (refine can_guard_go rfl (fun A B hA hB => ?_); go_simp; refine hB (fun K hK => ?_); go_simp; refine hK _ ?_; clear hK K hA hB A B))
    refine can_go rfl rfl (fun KK hK => ?_)
    go_simp
    refine (write_int wa.drew K M (hb2.d.kept (w' := wa.drew) (Below.refl _ _).drew) at_ hai.1 hai.2 Hdn.out hw _ _ _ (hrB.keep (w' := wa.drew) fun b hb _ => rfl) H64.out (fun b hb hf => by have := hlt1 b hf; omega)).mono ?_
    rintro e wb ⟨rfl, ⟨K', hK', hKf, hd3⟩, ho3, hs3⟩
    have hs3 : wb.heap.size = wa.heap.size := hs3
    have ho3 : Only K.foot wa wb := ⟨ho3.os, ho3.tape, ho3.output, ho3.size, ho3.block⟩
    refine ⟨_, rfl, ⟨ho3.os, ho3.tape, ho3.output, ho3.size, fun b hb hn => ho3.block b hb (fun hf => hn (.inl (.inl hf)))⟩, hK _ _ ?_⟩
    clear hK KK
    have hr3 := hb2.r.only ho3 (fun b hb hf => hb2.apart b hf hb)
    have hB3 : Bytes F wb vB l := hB2.keep fun b hb hlt => ho3.block b hlt (fun hf => (hF b hb).2.1 hf)
    have hC3 : LaterF (fun b => actFoot K KR b ∨ wa.heap.size ≤ b) wa.drew wb := ⟨ho3.os, ho3.tape, ho3.output, ho3.size, fun b hb hn => ho3.block b hb (fun hf => hn (.inl (.inl hf)))⟩
    clear q0 q1 q2 q3 q4
    have q0 : ∀ w', LaterF (fun b => actFoot K KR b ∨ wa.heap.size ≤ b) wb w' → w'.cell? ⟨w.heap.size, 0, none⟩ = some (.int .u8 kind) := fun w' hh => (QQ.out w' (laterF_trans _ _ _ _ hC3 hh)).1
    have q1 : ∀ w', LaterF (fun b => actFoot K KR b ∨ wa.heap.size ≤ b) wb w' → w'.cell? ⟨w.heap.size, 1, none⟩ = some (.int .i64 at_) := fun w' hh => (QQ.out w' (laterF_trans _ _ _ _ hC3 hh)).2.1
    have q2 : ∀ w', LaterF (fun b => actFoot K KR b ∨ wa.heap.size ≤ b) wb w' → w'.cell? ⟨w.heap.size, 2, none⟩ = some (.int .i64 n) := fun w' hh => (QQ.out w' (laterF_trans _ _ _ _ hC3 hh)).2.2.1
    have q3 : ∀ w', LaterF (fun b => actFoot K KR b ∨ wa.heap.size ≤ b) wb w' → w'.cell? ⟨w.heap.size, 3, none⟩ = some vB := fun w' hh => (QQ.out w' (laterF_trans _ _ _ _ hC3 hh)).2.2.2.1
    have q4 : ∀ w', LaterF (fun b => actFoot K KR b ∨ wa.heap.size ≤ b) wb w' → w'.cell? ⟨w.heap.size, 4, none⟩ = some (.bool full) := fun w' hh => (QQ.out w' (laterF_trans _ _ _ _ hC3 hh)).2.2.2.2
    go_simp
    repeat (first
      | (refine can_yes (v := ?_) rfl (wanted_none rfl) (fun w' hC => ?_) (fun K hK => ?_); rotate_left; (focus (go_simp; first | done | exact rfl)); go_simp; refine hK _ ?_; clear hK K)
      | (refine can_guard rfl (fun A B hA hB => ?_); go_simp; first | (refine hA ⟨?_, fun w' hC => ?_, fun K hK => ?_⟩; rotate_left; (focus (go_simp; first | done | exact rfl)); go_simp; refine hK _ ?_; clear hK K hA hB A B) | (refine hB (fun K hK => ?_); go_simp; refine hK _ ?_; clear hK K hA hB A B))
      | (refine can_guard_go rfl (fun A B hA hB => ?_); go_simp; refine hB (fun K hK => ?_); go_simp; refine hK _ ?_; clear hK K hA hB A B))
    refine can_go rfl rfl (fun KK hK => ?_)
    go_simp
    refine (actBytes_any wb F kind at_ n _ full l hB3 hl).mono ?_
    rintro e wc ⟨r2, rfl, hr2, hbc⟩
    have hby2 : Bytes (fun b => wb.heap.size ≤ b ∧ b < wc.heap.size) wc r2 (fullB full l) := Bytes.of_owns hr2 _ (fun k h1 h2 => ⟨h1, h2⟩)
    obtain ⟨ra2, rc2, rfl, hrc2, hrm2⟩ := owns_is hr2
    refine ⟨_, rfl, LaterF.of_below hbc, hK _ _ ?_⟩
    clear hK KK q0 q1 q2 q3 q4
    have hd4 := hd3.kept hbc
    have hr4 := hr3.kept hbc
    go_simp
    repeat (first
      | (refine can_yes (v := ?_) rfl (wanted_none rfl) (fun w' hC => ?_) (fun K hK => ?_); rotate_left; (focus (go_simp; first | done | exact rfl)); go_simp; refine hK _ ?_; clear hK K)
      | (refine can_guard rfl (fun A B hA hB => ?_); go_simp; first | (refine hA ⟨?_, fun w' hC => ?_, fun K hK => ?_⟩; rotate_left; (focus (go_simp; first | done | exact rfl)); go_simp; refine hK _ ?_; clear hK K hA hB A B) | (refine hB (fun K hK => ?_); go_simp; refine hK _ ?_; clear hK K hA hB A B))
      | (refine can_guard_go rfl (fun A B hA hB => ?_); go_simp; refine hB (fun K hK => ?_); go_simp; refine hK _ ?_; clear hK K hA hB A B))
    refine can_go rfl rfl (fun KK hK => ?_)
    go_simp
    have hrw := refWrite_ok wc KR M hr4 atn (by have := HA.out; omega) Hdn.out hw _ _ _ hby2 H64.out (fun b hb e => by have := hlt2 KR.d (.inl rfl); omega)
    rw [← HA.out] at hrw
    refine hrw.mono ?_
    rintro e wd ⟨rfl, ⟨KR', hKR', hRf, hr5⟩, ho5⟩
    have hbcs : wb.heap.size ≤ wc.heap.size := hbc.size
    refine ⟨_, rfl, ⟨ho5.os, ho5.tape, ho5.output, ho5.size, fun b hb hn => ho5.block b hb (fun hf => hn (.inl (.inr hf)))⟩, hK _ _ ?_⟩
    clear hK KK
    have hiw : at_.toNat = atn := by have := HA.out; omega
    rw [hiw] at hd3 hd4 ⊢
    go_simp
    repeat (first
      | (refine can_yes (v := ?_) rfl (wanted_none rfl) (fun w' hC => ?_) (fun K hK => ?_); rotate_left; (focus (go_simp; first | done | exact rfl)); go_simp; refine hK _ ?_; clear hK K)
      | (refine can_guard rfl (fun A B hA hB => ?_); go_simp; first | (refine hA ⟨?_, fun w' hC => ?_, fun K hK => ?_⟩; rotate_left; (focus (go_simp; first | done | exact rfl)); go_simp; refine hK _ ?_; clear hK K hA hB A B) | (refine hB (fun K hK => ?_); go_simp; refine hK _ ?_; clear hK K hA hB A B))
      | (refine can_guard_go rfl (fun A B hA hB => ?_); go_simp; refine hB (fun K hK => ?_); go_simp; refine hK _ ?_; clear hK K hA hB A B))
    refine can_nil ?_
    have hap : ∀ b, K'.foot b → ¬ KR'.all b := fun b hf ha => by
      have h1 := hKf b hf
      rcases hRf b ha with h2 | h2
      · exact hb2.apart b h1 h2
      · have := hlt1 b h1; omega
    have hd5 := hd4.only ho5 (fun b hb' hf => hb2.apart b (hKf b hb') (RefAt.foot_all hf))
    have honly : Only (actFoot K KR) w wd := (((Only.of_below hka).trans ho3 (fun i hi => .inl (.inl hi))).trans (Only.of_below hbc) (fun i hi => .inl hi)).trans ho5 (fun i hi => .inl (.inr hi))
    have hthen : Then (w.heap.size + 1) wa.heap.size K KR M wd K' KR' (M.write atn (fullB full l)).1 := ⟨⟨hd5, hr5, hap⟩, hKR', (write_S _ _ _).1, (write_S _ _ _).2, fun b hb => by
      rcases hb with hb | hb
      · exact .inl (hKf b hb)
      · rcases hRf b hb with h | h
        · exact .inr (.inl h)
        · exact .inr (.inr (by omega))⟩
    replace hrest : RowRest (w.heap.size + 1) wa.heap.size (.slice ra (fullB full l).length rc) (fullB full l).length 0 wd := ((hrest.keep fun b h1 h2 => ho3.block b h2 (fun hf => by have := hlt1 b hf; omega)).keep fun b h1 h2 => hbc.block b (by omega)).keep fun b h1 h2 => ho5.block b (by omega) (fun hf => by have := hlt2 b (RefAt.foot_all hf); omega)
    have hKd : K'.d = K.d := hK'
    clear hd3 hd4 hd5 hr3 hr4 hr5 ho3 ho5 hB3 hC3 hby2 hr2 hb2 hblk c0 c1 c2 c3 c4 hB2 hrB hbc hap hrw QQ hK' hKR' hKf hRf
    generalize (M.write atn (fullB full l)).1 = M' at *
    have hfl := H64.out
    clear H64
    generalize (fullB full l).length = fl at *
    rw [← hKd]
    have HK' := Lib.hid hKd; clear hKd
    have Hfl := Lib.hid hfl; clear hfl
    go_wp2_with fail
    go_loopw [16] (fun i wr => ∃ k : Nat, k ≤ fl ∧ i = .int .i64 (k : Int) ∧ Then (w.heap.size + 1) wa.heap.size K KR M wr K' KR' M' ∧ RowRest (w.heap.size + 1) wa.heap.size (.slice ra fl rc) fl k wr ∧ Only (actFoot K KR) w wr) (fun i _ => fl - (intOf i).toNat)
    case atStart => exact ⟨0, by omega, rfl, hthen, hrest, honly⟩
    case round =>
      obtain ⟨k, hk, rfl, hth, hre, hon⟩ := hrel
      by_cases hkl : k < fl
      · have hklI : (k : Int) < (fl : Int) := by omega
        obtain ⟨g, cap, L, hv, hg1, hg2, hL, hLc⟩ := hre.resolve_left (by omega)
        simp at hv
        obtain ⟨rfl, rfl⟩ := hv
        obtain ⟨c, hc⟩ := hLc k (Nat.le_refl _) hkl
        have cc := hL.cell k
        have cf := hL.free k
        rw [hc] at cc
        unfold B at cc
        have hset : RowRest (w.heap.size + 1) wa.heap.size (.slice (some ⟨g, 0, none⟩) fl rc) fl (k + 1) (wr.setCell ⟨g, k, none⟩ (.int .u8 (IntKind.u8.wrap ((c.toNat : Int) + 1)))) :=
          .inr ⟨g, rc, _, rfl, hg1, hg2, hL.set k _, fun j hj hjl => by rw [List.getElem?_set_ne (by omega)]; exact hLc j (by omega) hjl⟩
        have hth2 : Then (w.heap.size + 1) wa.heap.size K KR M (wr.setCell ⟨g, k, none⟩ (.int .u8 (IntKind.u8.wrap ((c.toNat : Int) + 1)))) K' KR' M' := ⟨hth.1.set _ _ (hth.lt hb (by omega) g hg1 hg2), hth.2⟩
        have Hset := Lib.hid hset; have Hth := Lib.hid hth2
        clear hset hth2 hre hth hLc hc hL
        go_wp2_with fail
        go_roundw
        case rel => exact ⟨k + 1, by omega, by go_num, Hth.out, Hset.out, hon.setCell (.inr (by show w.heap.size ≤ g; omega)) _⟩
        case measure => simp [intOf]; omega
      · have hklI : ¬ (k : Int) < (fl : Int) := by omega
        go_wp2_with fail
        go_ret2
        exact ⟨K', KR', M', rfl, ⟨hth.1, hth.2.1, hth.2.2.1, hth.2.2.2.1, fun b hb => (hth.2.2.2.2 b hb).imp id (Or.imp id (fun h => Nat.le_trans hka.size h))⟩, hon⟩
end Go.Proofs.Ytgbcpcbcikadlaa
