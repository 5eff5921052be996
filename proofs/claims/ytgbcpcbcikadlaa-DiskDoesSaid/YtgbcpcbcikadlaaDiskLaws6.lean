/- The law DiskDoes. No condition. -/
import Derived.Test.YtgbcpcbcikadlaaAct7
namespace Go.Proofs.Ytgbcpcbcikadlaa
open Go.RowKit Go.ChangeShapes Go.WideShapes Go.ChangeAt
set_option linter.unusedVariables false
attribute [local go_sem] opC upC

def IsActs (w : World) (v : Value) : Prop := ∃ n, RowOf 5 (IsActIn w) w v n

theorem open_Acts {H : Type} {enc : TypeId × Value → H} {w : World} {b0 : Nat} {v : Value} {d : DataW H} {p : List MemPlace}
    (hv : Value.okWide Try.prog w .any b0 41 v) (h : DataW.Trod enc Try.prog w 0 (fun _ => true) true 41 v d p) : IsActs w v := by
  obtain ⟨a0, len0, cap0, rfl⟩ := okWide_slice Try.underlying41 hv
  obtain ⟨fuel, hf⟩ := h
  exact read_row (by omega) Try.underlying41 cellsAct (IsActIn w) (fun m cs y hy => act_of_trod hy) hf

theorem light_nil (w : World) (n cap : Nat) (a : Option Addr) (hn : n = 0) :
    Calls Try.prog 21 #[.slice a n cap] w fun e w' => e = .returned (.bool true) ∧ w = w' := by
  subst hn
  go_enter Try.func21, Try.ntmps21
  go_wp2_with fail
  go_loop [3] (fun i => i = .int .i64 0) (fun i => 0)
  case atStart => rfl
  case round =>
    subst hrel
    go_wp2_with fail
    go_ret
    exact ⟨rfl, rfl⟩

/-- what is known of the acts -/
def ActsOk (w : World) (ad : Option Addr) (n cap : Nat) : Prop :=
  n ≤ 200 ∧ (n = 0 ∨ ∃ b off L t fz, ad = some ⟨b, off, none⟩ ∧ b < w.heap.size ∧ w.heap[b]? = some (.cells L t fz) ∧ off + n * 5 ≤ L.size ∧ (∀ i, i < n → IsActIn w ((L.toList.drop (off + i * 5)).take 5)) ∧ ∀ i, i < n → shortAt w b off i)

theorem light_law (w : World) (ad : Option Addr) (n cap : Nat) (hn : n ≤ 9223372036854775807)
    (h : n = 0 ∨ ∃ b off L t fz, ad = some ⟨b, off, none⟩ ∧ b < w.heap.size ∧ w.heap[b]? = some (.cells L t fz) ∧ off + n * 5 ≤ L.size ∧ ∀ i, i < n → IsActIn w ((L.toList.drop (off + i * 5)).take 5)) :
    Calls Try.prog 21 #[.slice ad n cap] w fun e w' => (e = .returned (.bool false) ∧ w = w') ∨ (e = .returned (.bool true) ∧ w = w' ∧ ActsOk w ad n cap) := by
  rcases h with h | ⟨b, off, L, t, fz, rfl, hb, hg, hle, hE⟩
  · exact (light_nil w n cap ad h).mono fun e w' ⟨he, hw⟩ => .inr ⟨he, hw, by omega, .inl h⟩
  · refine (light_any w n cap b off L t fz hn hg hle hE).mono ?_
    rintro e w' ⟨r, rfl, hw, hr⟩
    cases r with
    | false => exact .inl ⟨rfl, hw⟩
    | true => exact .inr ⟨rfl, hw, (hr rfl).1, .inr ⟨b, off, L, t, fz, rfl, hb, hg, hle, hE, (hr rfl).2⟩⟩

def DoRel (w : World) (dr N n : Nat) (i d : Value) (wr : World) : Prop :=
  ∃ (k : Nat) (K : DK) (KR : RK) (M : MD), k ≤ n ∧ i = .int .i64 (k : Int) ∧ d = .pointer (some ⟨K.d, 0, none⟩) ∧ Both wr K KR M ∧ KR.d = dr ∧ M.S.length = N ∧ M.writes ≤ k ∧ (∀ b, K.foot b ∨ KR.all b → w.heap.size ≤ b) ∧ Below w.heap.size w wr

set_option maxRecDepth 100000 in
set_option maxHeartbeats 4000000 in
theorem DiskDoes_walk (a0 : Int) (v1 : Value) (w : World) (w0 : (Lit.int .u8 a0).wf = true) (w1 : IsActs w v1) :
    Calls Try.prog 8 #[.int .u8 a0, v1] w fun e w' => e = .returned (.bool true) ∧ Below w.heap.size w w' := by
  have g0 := bounds_u8 w0
  clear w0
  obtain ⟨len, ad, cap, rfl, hl, hm, hz, hrow⟩ := w1
  have hm' : cap ≤ 9223372036854775807 := by unfold maxLen at hm; omega
  have hll := light_law w ad len cap (by omega) hrow
  have Hll := Lib.hid hll; clear hll
  clear hrow hz
  obtain ⟨N, hN⟩ : ∃ N : Nat, a0 % 40 + 1 = (N : Int) := Int.eq_ofNat_of_zero_le (by omega)
  have hN1 : 1 ≤ (N : Int) := by omega
  have hN2 : (N : Int) ≤ 40 := by omega
  have HN := Lib.hid hN; clear hN
  go_enter Try.func8, Try.ntmps8
  go_wp2_with fail
  refine Hll.out.mono ?_
  rintro e w' (⟨rfl, rfl⟩ | ⟨rfl, rfl, hacts⟩)
  · go_wp2_with fail
    go_ret
    exact ⟨rfl, Below.refl _ _⟩
  have Hacts := Lib.hid hacts
  have hlen := hacts.1
  clear hacts
  go_wp2_with fail
  rw [HN.out]
  refine (new_int w N (by omega) (by omega)).mono ?_
  rintro e w1 ⟨K, rfl, hd1, t1, l1⟩
  have hNN : Int.toNat (N : Int) = N := by omega
  rw [hNN] at hd1
  go_wp2_with fail
  refine (refNew_ok w1 N (by omega) (by omega)).mono ?_
  rintro e w2 ⟨KR, rfl, hr2, t2, l2⟩
  have hd2 := hd1.kept t2
  obtain ⟨dr, hdr⟩ : ∃ dr, KR.d = dr := ⟨_, rfl⟩
  rw [hdr]
  have HD := Lib.hid hdr; clear hdr
  have hap : ∀ b, K.foot b → ¬ KR.all b := fun b hf ha => by have := hd1.lt b hf; have := l2 b ha; omega
  have hbo : Both w2 K KR (MD.fresh N) := ⟨hd2, hr2, hap⟩
  have ht2 : Below w.heap.size w w2 := t1.trans (t2.mono t1.size)
  have hlo : ∀ b, K.foot b ∨ KR.all b → w.heap.size ≤ b := fun b hb => by
    rcases hb with hb | hb
    · exact l1 b hb
    · exact Nat.le_trans t1.size (l2 b hb)
  clear hd1 hr2 hd2 t1 t2 l1 l2 hap
  go_wp2_with fail
  go_loopw [6, 10] (fun d i wr => DoRel w dr N len i d wr) (fun _ i _ => len - (intOf i).toNat)
  case atStart => exact ⟨0, K, KR, _, by omega, rfl, rfl, hbo, HD.out, by simp [MD.fresh], by simp [MD.fresh], hlo, ht2⟩
  case round =>
    clear hbo hlo ht2 HD
    obtain ⟨k, K, KR, M, hk, rfl, rfl, hbo, hdr, hMS, hMw, hlo, hbw⟩ := hrel
    have HMS := Lib.hid hMS; clear hMS
    have HD := Lib.hid hdr; clear hdr
    by_cases hkl : k < len
    · have hklI : (k : Int) < (len : Int) := by omega
      obtain ⟨-, hx⟩ := Hacts.out
      obtain ⟨b, off, L, t, fz, rfl, hblt, hg, hle, hE, hsh⟩ := hx.resolve_left (by omega)
      obtain ⟨kind, at_, m, xa, xc, full, l, c0, c1, c2, c3, c4, hB, hlc, hcm, hkd, hat, hmm⟩ := act_cells hg hle hE k hkl
      have hl200 := hsh k hkl _ _ _ c3
      clear hsh hle hE
      rw [← hbw.cell (p := ⟨b, off + k * 5, none⟩) hblt] at c0
      rw [← hbw.cell (p := ⟨b, off + k * 5 + 1, none⟩) hblt] at c1
      rw [← hbw.cell (p := ⟨b, off + k * 5 + 2, none⟩) hblt] at c2
      rw [← hbw.cell (p := ⟨b, off + k * 5 + 3, none⟩) hblt] at c3
      rw [← hbw.cell (p := ⟨b, off + k * 5 + 4, none⟩) hblt] at c4
      have hB' : Bytes (fun b => b < w.heap.size) wr (.slice xa l.length xc) l := hB.keep fun b hb _ => hbw.block b hb
      have hsz : w.heap.size ≤ wr.heap.size := hbw.size
      go_wp2_with fail
      rw [← HD.out]
      refine (act_any wr K KR M hbo kind at_ m _ full l (fun b => b < w.heap.size) (fun b hb => ⟨by omega, fun hf => by have := hlo b (.inl hf); omega, fun hf => by have := hlo b (.inr hf); omega⟩) hB' hl200 hkd.1 hkd.2 hat hmm (by omega)).mono ?_
      rintro e wa ⟨K', KR', M', rfl, ⟨hbo', hKR', hS', hw', hfoot'⟩, ho⟩
      rw [HD.out]
      clear c0 c1 c2 c3 c4 hB hB'
      have hdr' : KR'.d = dr := hKR'.trans HD.out
      have HD' := Lib.hid hdr'
      have hlo' : ∀ b, K'.foot b ∨ KR'.all b → w.heap.size ≤ b := fun b hb => by
        rcases hfoot' b hb with h | h | h
        · exact hlo b (.inl h)
        · exact hlo b (.inr h)
        · omega
      have hbw' : Below w.heap.size w wa := hbw.trans (ho.below (fun b hb => by
        rcases hb with h | h
        · exact hlo b (.inl h)
        · exact hlo b (.inr (RefAt.foot_all h))) hsz)
      obtain ⟨cap', after', tv', hcp', hm'', hbk, -⟩ := hbo'.r.main
      rw [hdr'] at hbk
      have hlt := hbk.lt
      have q1 : ∀ w', Later wa.drew w' → w'.cell? ⟨dr, 1, none⟩ = some (.bool M'.down) := fun w' hh => by simpa using (hbk.keep (w' := w') (hh.block dr hlt)).cell 1
      have q5 : ∀ w', Later wa.drew w' → w'.cell? ⟨dr, 5, none⟩ = some (.int .i64 (M'.writes : Int)) := fun w' hh => by simpa using (hbk.keep (w' := w') (hh.block dr hlt)).cell 5
      have hbd : Both wa.drew K' KR' M' := hbo'.kept (Below.refl _ _).drew
      have hbwd : Below w.heap.size w wa.drew := hbw'.drew
      have HS' := Lib.hid hS'
      clear hbk hdr' hbo' hbw' hbo hbw ho hS' hKR'
      go_wp2_with fail
      refine wp_region_can Later [(0, true), (1, true), (2, true), (3, true), (5, true), (6, true), (7, true), (8, true), (4, false), (9, true), (10, true), (11, true), (12, true), (14, true), (15, true), (16, true), (17, true), (13, false), (18, true), (19, true)] (by kernel_rfl) (by kernel_rfl) later_refl later_trans ?_
      repeat (first
        | (refine can_yes (v := ?_) rfl (wanted_none rfl) (fun w' hC => ?_) (fun K hK => ?_); rotate_left; (focus (go_simp; first | done | exact rfl)); go_simp; refine hK _ ?_; clear hK K)
        | (refine can_guard rfl (fun A B hA hB => ?_); go_simp; first | (refine hA ⟨?_, fun w' hC => ?_, fun K hK => ?_⟩; rotate_left; (focus (go_simp; first | done | exact rfl)); go_simp; refine hK _ ?_; clear hK K hA hB A B) | (refine hB (fun K hK => ?_); go_simp; refine hK _ ?_; clear hK K hA hB A B))
        | (refine can_guard_go rfl (fun A B hA hB => ?_); go_simp; refine hB (fun K hK => ?_); go_simp; refine hK _ ?_; clear hK K hA hB A B))
      refine can_go rfl rfl (fun KK hK => ?_)
      go_simp
      refine (down_any wa.drew K' M' hbd.d).mono ?_
      rintro e w' ⟨rfl, rfl⟩
      refine ⟨_, rfl, later_refl _, hK _ _ ?_⟩
      clear hK KK
      go_simp
      repeat (first
        | (refine can_yes (v := ?_) rfl (wanted_none rfl) (fun w' hC => ?_) (fun K hK => ?_); rotate_left; (focus (go_simp; first | done | exact rfl)); go_simp; refine hK _ ?_; clear hK K)
        | (refine can_guard rfl (fun A B hA hB => ?_); go_simp; first | (refine hA ⟨?_, fun w' hC => ?_, fun K hK => ?_⟩; rotate_left; (focus (go_simp; first | done | exact rfl)); go_simp; refine hK _ ?_; clear hK K hA hB A B) | (refine hB (fun K hK => ?_); go_simp; refine hK _ ?_; clear hK K hA hB A B))
        | (refine can_guard_go rfl (fun A B hA hB => ?_); go_simp; refine hB (fun K hK => ?_); go_simp; refine hK _ ?_; clear hK K hA hB A B))
      refine can_go rfl rfl (fun KK hK => ?_)
      go_simp
      refine (writes_any wa.drew K' M' hbd.d).mono ?_
      rintro e w' ⟨rfl, rfl⟩
      refine ⟨_, rfl, later_refl _, hK _ _ ?_⟩
      clear hK KK
      go_simp
      repeat (first
        | (refine can_yes (v := ?_) rfl (wanted_none rfl) (fun w' hC => ?_) (fun K hK => ?_); rotate_left; (focus (go_simp; first | done | exact rfl)); go_simp; refine hK _ ?_; clear hK K)
        | (refine can_guard rfl (fun A B hA hB => ?_); go_simp; first | (refine hA ⟨?_, fun w' hC => ?_, fun K hK => ?_⟩; rotate_left; (focus (go_simp; first | done | exact rfl)); go_simp; refine hK _ ?_; clear hK K hA hB A B) | (refine hB (fun K hK => ?_); go_simp; refine hK _ ?_; clear hK K hA hB A B))
        | (refine can_guard_go rfl (fun A B hA hB => ?_); go_simp; refine hB (fun K hK => ?_); go_simp; refine hK _ ?_; clear hK K hA hB A B))
      refine can_nil ?_
      go_wp2_with fail
      go_roundw
      case rel => exact ⟨k + 1, K', KR', M', by omega, by go_num, rfl, hbd, HD'.out, HS'.out.trans HMS.out, by omega, hlo', hbwd⟩
      case measure => simp [intOf]; omega
    · have hklI : ¬ (k : Int) < (len : Int) := by omega
      go_wp2_with fail
      rw [← HD.out]
      refine (like_any wr K KR M hbo (by have := HMS.out; omega)).mono ?_
      rintro e wy ⟨rfl, hby⟩
      rw [HD.out]
      go_wp2_with fail
      refine (disk_works wy).mono ?_
      rintro e wz ⟨rfl, hbz⟩
      go_wp2_with fail
      go_ret
      exact ⟨rfl, (hbw.trans (hby.mono hbw.size)).trans (hbz.mono (Nat.le_trans hbw.size hby.size))⟩
end Go.Proofs.Ytgbcpcbcikadlaa
