/- An act on both disks, whichever; light; like. -/
import Derived.Test.YtgbcpcbcikadlaaAct6
namespace Go.Proofs.Ytgbcpcbcikadlaa
open Go.RowKit
set_option linter.unusedVariables false
attribute [local go_sem ↓] seal_append seal_make_bytes
attribute [local go_sem] opC upC

theorem act_any (w : World) (K : DK) (KR : RK) (M : MD) (hb : Both w K KR M) (kind at_ n : Int) (vB : Value) (full : Bool) (l : List UInt8) (F : Blks) (hF : ∀ b, F b → b < w.heap.size ∧ ¬ K.foot b ∧ ¬ KR.all b) (hB : Bytes F w vB l) (hl : l.length ≤ 200) (hk0 : 0 ≤ kind) (hk9 : kind ≤ 255)
    (hat : -9223372036854775808 ≤ at_ ∧ at_ ≤ 9223372036854775807) (hn : -9223372036854775808 ≤ n ∧ n ≤ 9223372036854775807) (hw : M.writes < 4611686018427387904) :
    Calls Try.prog 23 #[.pointer (some ⟨K.d, 0, none⟩), .pointer (some ⟨KR.d, 0, none⟩), .agg #[.int .u8 kind, .int .i64 at_, .int .i64 n, vB, .bool full]] w (ActPost w K KR M) := by
  have h8 : (kind % 8 = 0 ∨ kind % 8 = 1 ∨ kind % 8 = 2 ∨ kind % 8 = 3) ∨ kind % 8 = 4 ∨ kind % 8 = 5 ∨ kind % 8 = 6 ∨ kind % 8 = 7 := by omega
  rcases h8 with h8 | h8 | h8 | h8 | h8
  · by_cases hc : M.chk at_ ≠ 0 ∨ (fullB full l).length ≠ 64
    · exact act_write_err w K KR M hb kind at_ n vB full l F hF hB hl hk0 hk9 h8 hc
    · obtain ⟨h0, h64⟩ : M.chk at_ = 0 ∧ (fullB full l).length = 64 := by
        refine ⟨Decidable.of_not_not fun h => hc (.inl h), Decidable.of_not_not fun h => hc (.inr h)⟩
      obtain ⟨k, rfl, hk, hdn⟩ := MD.chk_nat h0
      exact act_write_ok w K KR M hb kind k n vB full l F hF hB hl hk0 hk9 h8 hk hdn h64 hw
  · by_cases h0 : M.chk at_ = 0
    · obtain ⟨k, rfl, hk, hdn⟩ := MD.chk_nat h0
      exact act_read_ok w K KR M hb kind k n vB full l F hF hB hl hk0 hk9 h8 hk hdn
    · exact act_read_err w K KR M hb kind at_ n vB full l F hF hB hl hk0 hk9 h8 h0
  · by_cases hc : n < 0 ∨ (fullB full l).length ≠ 64
    · exact act_fail_err w K KR M hb kind at_ n vB full l F hF hB hl hk0 hk9 h8 hc
    · obtain ⟨h0, h64⟩ : 0 ≤ n ∧ (fullB full l).length = 64 := by
        refine ⟨Int.not_lt.1 fun h => hc (.inl h), Decidable.of_not_not fun h => hc (.inr h)⟩
      obtain ⟨k, rfl⟩ := Int.eq_ofNat_of_zero_le h0
      exact act_fail_ok w K KR M hb kind at_ k vB full l F hF hB hl hk0 hk9 h8 (by omega) h64 hw
  · exact act_up w K KR M hb kind at_ n vB full l F hF hB hl hk0 hk9 h8
  · exact act_copy w K KR M hb kind at_ n vB full l F hF hB hl hk0 hk9 h8 hat hw

/-- the length of the bytes of act i -/
def shortAt (w : World) (b off i : Nat) : Prop := ∀ a len cap, w.cell? ⟨b, off + i * 5 + 3, none⟩ = some (.slice a len cap) → len ≤ 200

theorem act_cells {w : World} {b off n : Nat} {L : Array Value} {t : TypeId} {fz : Nat × Nat} (hg : w.heap[b]? = some (.cells L t fz)) (hle : off + n * 5 ≤ L.size) (hE : ∀ i, i < n → IsActIn w ((L.toList.drop (off + i * 5)).take 5)) (i : Nat) (hi : i < n) :
    ∃ (kind at_ m : Int) (a : Option Addr) (cap : Nat) (full : Bool) (l : List UInt8), w.cell? ⟨b, off + i * 5, none⟩ = some (.int .u8 kind) ∧ w.cell? ⟨b, off + i * 5 + 1, none⟩ = some (.int .i64 at_) ∧ w.cell? ⟨b, off + i * 5 + 2, none⟩ = some (.int .i64 m) ∧
      w.cell? ⟨b, off + i * 5 + 3, none⟩ = some (.slice a l.length cap) ∧ w.cell? ⟨b, off + i * 5 + 4, none⟩ = some (.bool full) ∧ Bytes (fun b => b < w.heap.size) w (.slice a l.length cap) l ∧ l.length ≤ cap ∧ cap ≤ maxLen ∧
      (0 ≤ kind ∧ kind ≤ 255) ∧ (-9223372036854775808 ≤ at_ ∧ at_ ≤ 9223372036854775807) ∧ (-9223372036854775808 ≤ m ∧ m ≤ 9223372036854775807) := by
  obtain ⟨kind, at_, m, vB, full, l, he, hB, h1, h2, h3⟩ := hE i hi
  have hB0 := hB
  obtain ⟨a, cap, rfl, hc, hm, -, -⟩ := hB
  have hget : ∀ j u, [Value.int .u8 kind, .int .i64 at_, .int .i64 m, .slice a l.length cap, .bool full][j]? = some u → j < 5 → w.cell? ⟨b, off + i * 5 + j, none⟩ = some u := fun j u hu hj => by
    rw [← he, List.getElem?_take, if_pos hj, List.getElem?_drop] at hu
    rw [cell_of_row w b _ L t fz hg]
    simpa using hu
  exact ⟨kind, at_, m, a, cap, full, l, hget 0 _ rfl (by omega), hget 1 _ rfl (by omega), hget 2 _ rfl (by omega), hget 3 _ rfl (by omega), hget 4 _ rfl (by omega), hB0, hc, hm, h1, h2, h3⟩

def LightPost (w : World) (n b off : Nat) (e : Ending) (w' : World) : Prop := ∃ r : Bool, e = .returned (.bool r) ∧ w = w' ∧ (r = true → n ≤ 200 ∧ ∀ i, i < n → shortAt w b off i)

theorem light_any (w : World) (n cap b off : Nat) (L : Array Value) (t : TypeId) (fz : Nat × Nat) (hn : n ≤ 9223372036854775807) (hg : w.heap[b]? = some (.cells L t fz)) (hle : off + n * 5 ≤ L.size) (hE : ∀ i, i < n → IsActIn w ((L.toList.drop (off + i * 5)).take 5)) :
    Calls Try.prog 21 #[.slice (some ⟨b, off, none⟩) n cap] w (LightPost w n b off) := by
  have hc := act_cells hg hle hE
  have Hc := Lib.hid hc
  clear hc hg hle hE
  go_enter Try.func21, Try.ntmps21
  go_wp2_with fail
  go_loop [3] (fun i => ∃ k : Nat, k ≤ n ∧ i = .int .i64 (k : Int) ∧ ∀ j, j < k → shortAt w b off j) (fun i => n - (intOf i).toNat)
  case atStart => exact ⟨0, by omega, rfl, fun j hj => by omega⟩
  case round =>
    obtain ⟨k, hk, rfl, hsh⟩ := hrel
    have Hsh := Lib.hid hsh; clear hsh
    by_cases hkn : k < n
    · have hkI : (k : Int) < (n : Int) := by omega
      obtain ⟨kind, at_, m, a, cp, full, l, c0, c1, c2, c3, c4, -, hlc, hcm, -⟩ := Hc.out k hkn
      unfold maxLen at hcm
      by_cases h200 : 200 < l.length
      · have hd : decide ((200 : Int) < (l.length : Int)) = true := by simp; omega
        go_wp2_with fail
        go_ret
        exact ⟨false, rfl, rfl, nofun⟩
      · have hd : decide ((200 : Int) < (l.length : Int)) = false := by simp; omega
        have hthis : shortAt w b off k := fun a' len' cap' hh => by rw [c3] at hh; simp at hh; omega
        have Hthis := Lib.hid hthis; clear hthis
        go_wp2_with fail
        go_round
        case rel => exact ⟨k + 1, by omega, by go_num, fun j hj => by
          by_cases hjk : j = k
          · subst hjk; exact Hthis.out
          · exact Hsh.out j (by omega)⟩
        case measure => simp [intOf]; omega
    · have hkI : ¬ (k : Int) < (n : Int) := by omega
      obtain rfl : k = n := by omega
      go_wp2_with fail
      go_ret
      exact ⟨decide ((k : Int) ≤ 200), rfl, rfl, fun h => ⟨by simp at h; omega, Hsh.out⟩⟩

/-- Read of both disks, whatever the index -/
theorem both_read (M : MD) (i : Int) : (M.chk i ≠ 0) ∨ ∃ k : Nat, i = (k : Int) ∧ k < M.S.length ∧ M.down = false := by
  by_cases h : M.chk i = 0
  · exact .inr (MD.chk_nat h)
  · exact .inl h

set_option maxRecDepth 100000 in
set_option maxHeartbeats 4000000 in
theorem like_any (w : World) (K : DK) (KR : RK) (M : MD) (hb : Both w K KR M) (h0 : 0 < M.S.length) :
    Calls Try.prog 24 #[.pointer (some ⟨K.d, 0, none⟩), .pointer (some ⟨KR.d, 0, none⟩)] w fun e w' => e = .returned (.bool true) ∧ Below w.heap.size w w' := by
  obtain ⟨cap, after, tv, hcp, hm, hbk, -⟩ := hb.r.main
  have hlt := hbk.lt
  have hle := hb.r.len
  have qq : ∀ w', Later w.drew w' → w'.cell? ⟨KR.d, 0, none⟩ = some (.slice (some ⟨KR.bs, 0, none⟩) M.S.length cap) ∧ w'.cell? ⟨KR.d, 1, none⟩ = some (.bool M.down) ∧ w'.cell? ⟨KR.d, 5, none⟩ = some (.int .i64 (M.writes : Int)) := fun w' hh => by
    have hw' := hbk.keep (w' := w') (hh.block KR.d hlt)
    exact ⟨by simpa using hw'.cell 0, by simpa using hw'.cell 1, by simpa using hw'.cell 5⟩
  have q0 := fun w' hh => (qq w' hh).1
  have q1 := fun w' hh => (qq w' hh).2.1
  have q5 := fun w' hh => (qq w' hh).2.2
  clear qq hbk
  have hbd : Both w.drew K KR M := hb.kept (Below.refl _ _).drew
  go_enter Try.func24, Try.ntmps24
  go_wp2_with fail
  refine wp_region_can Later [(0, true), (1, true), (2, true), (3, true), (5, true), (6, true), (7, true), (8, true), (9, true), (4, false), (10, true), (11, true), (12, true), (13, true), (15, true), (16, true), (17, true), (18, true), (14, false), (19, true), (20, true), (21, true), (22, true), (24, true), (25, true), (26, true), (27, true), (23, false), (28, true), (29, true)] (by kernel_rfl) (by kernel_rfl) later_refl later_trans ?_
  repeat (first
    | (refine can_yes (v := ?_) rfl (wanted_none rfl) (fun w' hC => ?_) (fun K hK => ?_); rotate_left; (focus (go_simp; first | done | exact rfl)); go_simp; refine hK _ ?_; clear hK K)
    | (refine can_guard rfl (fun A B hA hB => ?_); go_simp; first | (refine hA ⟨?_, fun w' hC => ?_, fun K hK => ?_⟩; rotate_left; (focus (go_simp; first | done | exact rfl)); go_simp; refine hK _ ?_; clear hK K hA hB A B) | (refine hB (fun K hK => ?_); go_simp; refine hK _ ?_; clear hK K hA hB A B))
    | (refine can_guard_go rfl (fun A B hA hB => ?_); go_simp; refine hB (fun K hK => ?_); go_simp; refine hK _ ?_; clear hK K hA hB A B))
  refine can_go rfl rfl (fun KK hK => ?_)
  go_simp
  refine (size_any w.drew K M hbd.d).mono ?_
  rintro e w' ⟨rfl, rfl⟩
  refine ⟨_, rfl, later_refl _, hK _ _ ?_⟩
  clear hK KK
  go_simp
  repeat (first
    | (refine can_yes (v := ?_) rfl (wanted_none rfl) (fun w' hC => ?_) (fun K hK => ?_); rotate_left; (focus (go_simp; first | done | exact rfl)); go_simp; refine hK _ ?_; clear hK K)
    | (refine can_guard rfl (fun A B hA hB => ?_); go_simp; first | (refine hA ⟨?_, fun w' hC => ?_, fun K hK => ?_⟩; rotate_left; (focus (go_simp; first | done | exact rfl)); go_simp; refine hK _ ?_; clear hK K hA hB A B) | (refine hB (fun K hK => ?_); go_simp; refine hK _ ?_; clear hK K hA hB A B))
    | (refine can_guard_go rfl (fun A B hA hB => ?_); go_simp; refine hB (fun K hK => ?_); go_simp; refine hK _ ?_; clear hK K hA hB A B))
  refine can_go rfl rfl (fun KK hK => ?_)
  go_simp
  refine (down_any w.drew K M hbd.d).mono ?_
  rintro e w' ⟨rfl, rfl⟩
  refine ⟨_, rfl, later_refl _, hK _ _ ?_⟩
  clear hK KK
  go_simp
  repeat (first
    | (refine can_yes (v := ?_) rfl (wanted_none rfl) (fun w' hC => ?_) (fun K hK => ?_); rotate_left; (focus (go_simp; first | done | exact rfl)); go_simp; refine hK _ ?_; clear hK K)
    | (refine can_guard rfl (fun A B hA hB => ?_); go_simp; first | (refine hA ⟨?_, fun w' hC => ?_, fun K hK => ?_⟩; rotate_left; (focus (go_simp; first | done | exact rfl)); go_simp; refine hK _ ?_; clear hK K hA hB A B) | (refine hB (fun K hK => ?_); go_simp; refine hK _ ?_; clear hK K hA hB A B))
    | (refine can_guard_go rfl (fun A B hA hB => ?_); go_simp; refine hB (fun K hK => ?_); go_simp; refine hK _ ?_; clear hK K hA hB A B))
  refine can_go rfl rfl (fun KK hK => ?_)
  go_simp
  refine (writes_any w.drew K M hbd.d).mono ?_
  rintro e w' ⟨rfl, rfl⟩
  refine ⟨_, rfl, later_refl _, hK _ _ ?_⟩
  clear hK KK
  go_simp
  repeat (first
    | (refine can_yes (v := ?_) rfl (wanted_none rfl) (fun w' hC => ?_) (fun K hK => ?_); rotate_left; (focus (go_simp; first | done | exact rfl)); go_simp; refine hK _ ?_; clear hK K)
    | (refine can_guard rfl (fun A B hA hB => ?_); go_simp; first | (refine hA ⟨?_, fun w' hC => ?_, fun K hK => ?_⟩; rotate_left; (focus (go_simp; first | done | exact rfl)); go_simp; refine hK _ ?_; clear hK K hA hB A B) | (refine hB (fun K hK => ?_); go_simp; refine hK _ ?_; clear hK K hA hB A B))
    | (refine can_guard_go rfl (fun A B hA hB => ?_); go_simp; refine hB (fun K hK => ?_); go_simp; refine hK _ ?_; clear hK K hA hB A B))
  refine can_nil ?_
  clear q0 q1 q5
  go_wp2_with fail
  refine (copy_any w.drew K M hbd.d).mono ?_
  rintro e w1 ⟨Kc, rfl, hc1, hb1, hf1⟩
  have hbb1 := hbd.kept hb1
  go_wp2_with fail
  refine (refCopy_any w1 KR M hbb1.r h0).mono ?_
  rintro e w2 ⟨Kx, rfl, hx2, hb2, hf2⟩
  have hc2 := hc1.kept hb2
  go_wp2_with fail
  refine (up_any w2 Kc M hc2).mono ?_
  rintro e w3 ⟨rfl, hc3, ho3, hs3⟩
  have hapart : ∀ b, Kc.foot b → ¬ Kx.all b := fun b hf ha => by have := hc1.lt b hf; have := hf2 b ha; omega
  have hx3 := hx2.only ho3 (fun b hb hf => hapart b hf hb)
  go_wp2_with fail
  refine (refUp_any w3 Kx M hx3).mono ?_
  rintro e w4 ⟨rfl, hx4, ho4, hs4⟩
  have hc4 := hc3.only ho4 (fun b hb hf => hapart b hb (RefAt.foot_all hf))
  have hsz : w.heap.size ≤ w1.heap.size := hb1.size
  have hd0 : w.drew.heap.size = w.heap.size := rfl
  have hs2 : w1.heap.size ≤ w2.heap.size := hb2.size
  have hk4 : Below w.heap.size w w4 := ((((Below.refl _ _).drew.trans (hb1.mono (Nat.le_refl _))).trans (hb2.mono hsz)).trans (ho3.below (fun b hf => hf1 b hf) (by have := hb2.size; omega))).trans (ho4.below (fun b hf => by have := hf2 b (RefAt.foot_all hf); omega) (by have := hb2.size; omega))
  obtain ⟨cap, after, tv, hcp, hm, hbk, -⟩ := hb.r.main
  have hcell : ∀ w', Below w.heap.size w w' → w'.cell? ⟨KR.d, 0, none⟩ = some (.slice (some ⟨KR.bs, 0, none⟩) M.S.length cap) := fun w' hh => by simpa using (hbk.keep (hh.block _ hlt)).cell 0
  have Hcell := Lib.hid hcell
  clear hcell hbk hb hbd hc1 hb1 hbb1 hx2 hb2 hc2 hc3 ho3 hx3 ho4
  go_wp2_with fail
  have hnl : (M.S.length : Int) ≤ 65536 := by omega
  go_loopw [7] (fun v wr => ∃ i : Int, -1 ≤ i ∧ i ≤ M.S.length + 1 ∧ v = .int .i64 i ∧ DiskAt wr Kc { M with down := false } ∧ RefAt wr Kx { M with down := false } ∧ Below w.heap.size w wr) (fun v _ => ((M.S.length : Int) + 1 - intOf v).toNat)
  case atStart => exact ⟨-1, by omega, by omega, rfl, hc4, hx4, hk4⟩
  case round =>
    clear hc4 hx4 hk4
    obtain ⟨i, hi0, hi1, rfl, hc, hx, hbw⟩ := hrel
    have c0 := Hcell.out wr hbw
    by_cases hlast : i ≤ M.S.length
    · rcases both_read { M with down := false } i with he | ⟨k, hik, hk, hdn⟩
      · have He := Lib.hid he; clear he
        have s0 := str_nil wr
        go_wp2_with fail
        refine (read_err wr Kc _ i hc He.out).mono ?_
        rintro e w' ⟨rfl, rfl⟩
        go_wp2_with fail
        refine (refRead_err wr Kx _ i hx He.out).mono ?_
        rintro e w' ⟨rfl, rfl⟩
        go_wp2_with fail
        go_roundw
        case rel => exact ⟨i + 1, by omega, by omega, rfl, hc, hx, hbw⟩
        case measure => simp [intOf]; omega
      · have Hik := Lib.hid hik
        have hk' : k < M.S.length := hk
        have h64 : (M.S[k]).length = 64 := hx.s64 _ (List.getElem_mem hk)
        have H64 := Lib.hid h64; clear h64
        clear hik
        go_wp2_with fail
        rw [Hik.out]
        refine (read_ok wr Kc _ k hc hk rfl).mono ?_
        rintro e wb ⟨r1, rfl, hr1, hbb⟩
        rw [← Hik.out]
        have hxb := hx.kept hbb
        have hcb := hc.kept hbb
        go_wp2_with fail
        rw [Hik.out]
        refine (refRead_ok wb Kx _ k hxb hk rfl).mono ?_
        rintro e wc ⟨r2, rfl, hr2, hbc⟩
        rw [← Hik.out]
        have hxc := hxb.kept hbc
        have hcc := hcb.kept hbc
        have s1 := owns_later (l := M.S[k]) hr1 H64.out hbc
        have s2 := owns_later (l := M.S[k]) hr2 H64.out (Below.refl _ wc)
        have hbw' := (hbw.trans (hbb.mono hbw.size)).trans (hbc.mono (Nat.le_trans hbw.size hbb.size))
        clear hr1 hr2
        generalize M.S[k] = sec at *
        go_wp2_with fail
        go_roundw
        case rel => exact ⟨i + 1, by omega, by omega, rfl, hcc, hxc, hbw'⟩
        case measure => simp [intOf]; omega
    · have hlast' : (M.S.length : Int) < i := by omega
      go_wp2_with fail
      go_ret
      exact ⟨rfl, hbw⟩
end Go.Proofs.Ytgbcpcbcikadlaa
