/- can, Append. -/
import Derived.Test.YtmimplmeccoahaaDoorJ5
namespace Go.Proofs.YtmimplmeccoahaaDoor
open Go.RowKit
set_option linter.unusedVariables false
set_option maxRecDepth 20000
attribute [local go_sem] opC upC

theorem writeAll_len (ws : List (Nat × List UInt8)) : ∀ M : MD, (writeAll M ws).1.S.length = M.S.length ∧ (writeAll M ws).1.writes ≤ M.writes + ws.length := by
  induction ws with
  | nil => intro M; exact ⟨rfl, Nat.le_refl _⟩
  | cons x ws ih =>
    intro M
    obtain ⟨a, s⟩ := x
    have h1 := wr_len M a s
    unfold writeAll
    split
    · have h2 := ih (M.wr a s).1
      simp only [List.length_cons]
      exact ⟨h2.1.trans h1.1, by omega⟩
    · simp only [List.length_cons]
      exact ⟨h1.1, by omega⟩

def canM (dead : Bool) (n : Nat) (f : Int) : Int := if dead then 341 else if 65536 < n then 2 else if f < (takes n : Int) then 7 else 0

theorem canM_zero {dead : Bool} {n : Nat} {f : Int} (h : canM dead n f = 0) : dead = false ∧ n ≤ 65536 ∧ (takes n : Int) ≤ f := by
  unfold canM at h
  cases dead
  · by_cases h1 : 65536 < n
    · simp [h1] at h
    · by_cases h2 : f < (takes n : Int)
      · simp [h1, h2] at h
      · exact ⟨rfl, by omega, by omega⟩
  · simp at h

theorem can_any (w : World) (jb kd g taken : Nat) (rv : Value) (dead : Bool) (hj : JBlk w jb kd g rv taken dead) (F : Blks) (v : Value) (l : List UInt8) (hv : Bytes F w v l) (f : Nat) (hf : f ≤ 65536) :
    Calls Tryd.prog 45 #[.pointer (some ⟨jb, 0, none⟩), v, .int .i64 (f : Int)] w fun e w' => e = .returned (.int .i64 (canM dead l.length (f : Int))) ∧ w = w' := by
  obtain ⟨a, cap, rfl, hc, hm, -, -⟩ := hv
  have c4 := hj.cell 4
  simp at c4
  cases dead with
  | true =>
    go_enter Tryd.func45, Tryd.ntmps45
    go_wp2_with fail
    go_ret
    exact ⟨by simp [canM], rfl⟩
  | false =>
    rcases Nat.lt_or_ge 65536 l.length with hl | hl
    · have hI : (65536 : Int) < (l.length : Int) := by omega
      have hm : canM false l.length (f : Int) = 2 := by simp [canM, hl]
      rw [hm]
      go_enter Tryd.func45, Tryd.ntmps45
      go_wp2_with fail
      all_goals
        first
        | omega
        | (go_ret; exact ⟨rfl, rfl⟩)
    · have hI : (l.length : Int) ≤ 65536 := by omega
      have ht := takes_any w l.length (by omega)
      have htb : takes l.length ≤ 65536 := by unfold takes; omega
      have hm : canM false l.length (f : Int) = if (f : Int) < (takes l.length : Int) then 7 else 0 := by simp [canM, show ¬ 65536 < l.length by omega]
      rw [hm]
      clear hm
      generalize takes l.length = t at *
      have Ht := Lib.hid ht; clear ht
      go_enter Tryd.func45, Tryd.ntmps45
      go_wp2_with fail
      refine Ht.out.mono ?_
      rintro e w' ⟨rfl, rfl⟩
      go_wp2_with fail
      all_goals
        go_ret
        exact ⟨ret_int (by first | rfl | (split <;> omega)), rfl⟩

/-- the world goes on, all but the dead flag of a journal and its disk stays -/
def LaterJ (F : Blks) (jb : Nat) (w w' : World) : Prop := LaterF F w w' ∧ ∀ i, i < 4 → w'.cell? ⟨jb, i, none⟩ = w.cell? ⟨jb, i, none⟩
theorem laterJ_refl (F : Blks) (jb : Nat) (w : World) : LaterJ F jb w w := ⟨laterF_refl F w, fun _ _ => rfl⟩
theorem laterJ_trans (F : Blks) (jb : Nat) (a b c : World) (h : LaterJ F jb a b) (k : LaterJ F jb b c) : LaterJ F jb a c := ⟨laterF_trans F a b c h.1 k.1, fun i hi => (k.2 i hi).trans (h.2 i hi)⟩
theorem LaterJ.of {F : Blks} {w w' : World} {jb kd g taken : Nat} {rv : Value} {d d' : Bool} (hj : JBlk w jb kd g rv taken d) (hj' : JBlk w' jb kd g rv taken d') (ho : LaterF F w w') : LaterJ F jb w w' := by
  refine ⟨ho, fun i hi => ?_⟩
  have e1 := hj.cell i
  have e2 := hj'.cell i
  rw [e1, e2]
  have : i = 0 ∨ i = 1 ∨ i = 2 ∨ i = 3 := by omega
  rcases this with rfl | rfl | rfl | rfl <;> rfl

theorem appendM_err {M : MD} {J : MJ} {l : List UInt8} (ht : takenL J.L ≤ halfN M.S.length) (h : canM J.dead l.length ((halfN M.S.length - takenL J.L : Nat) : Int) ≠ 0) :
    appendM M J l = (M, J, canM J.dead l.length ((halfN M.S.length - takenL J.L : Nat) : Int)) := by
  unfold canM at *
  unfold appendM
  by_cases h1 : J.dead = true
  · simp [h1]
  · by_cases h2 : 65536 < l.length
    · simp [h1, h2]
    · by_cases h3 : halfN M.S.length - takenL J.L < takes l.length
      · simp only [h1, h2, h3]; simp; omega
      · exfalso
        apply h
        simp only [h1, h2]
        simp; omega

theorem appendM_ok {M : MD} {J : MJ} {l : List UInt8} (ht : takenL J.L ≤ halfN M.S.length) (h : canM J.dead l.length ((halfN M.S.length - takenL J.L : Nat) : Int) = 0) :
    appendM M J l = if (writeAll M (pieceWrites M.S.length J.g J.L.length (takenL J.L) l)).2 = 0 then ((writeAll M (pieceWrites M.S.length J.g J.L.length (takenL J.L) l)).1, { J with L := J.L ++ [l] }, 0) else ((writeAll M (pieceWrites M.S.length J.g J.L.length (takenL J.L) l)).1, { J with dead := true }, (writeAll M (pieceWrites M.S.length J.g J.L.length (takenL J.L) l)).2) := by
  obtain ⟨h1, h2, h3⟩ := canM_zero h
  unfold appendM
  rw [if_neg (by simp [h1]), if_neg (by omega), if_neg (by omega)]

theorem append_any (w : World) (jk : JK) (M : MD) (J : MJ) (h : JAt w jk M J) (F : Blks) (v : Value) (l : List UInt8) (hv : Bytes F w v l) (hF : ∀ b, F b → b < w.heap.size ∧ ¬ jk.all b) (h00 : ¬ jk.all 0) (hq : Quarter w) (hw : M.writes + 65536 < 4611686018427387904) :
    Calls Tryd.prog 16 #[.pointer (some ⟨jk.j, 0, none⟩), v] w fun e w' => e = .returned (.int .i64 (appendM M J l).2.2) ∧
      ∃ jk', jk'.j = jk.j ∧ jk'.K.d = jk.K.d ∧ JAt w' jk' (appendM M J l).1 (appendM M J l).2.1 ∧ (∀ b, jk'.all b → jk.all b ∨ w.heap.size ≤ b) ∧ Only jk.all w w' := by
  obtain ⟨jb, K, O⟩ := jk
  obtain ⟨g, L, dead⟩ := J
  have hja := h
  obtain ⟨hd, ⟨ra, rc, R, hj, hr, hown⟩, ⟨hap, hO⟩, h8, hroom, hgen, hlens⟩ := h
  dsimp only at *
  have hle := hd.le
  have hH : halfN M.S.length ≤ 32768 := by unfold halfN; omega
  have htp := takes_pos l.length
  have hLT := length_le_taken L
  have hfree := free_any w jb K.d g (.slice ra L.length rc) (takenL L) dead K M hj hd rfl (by omega) hroom
  have hjlt := hj.lt
  have Hfree := Lib.hid hfree; clear hfree
  by_cases hc : canM dead l.length ((halfN M.S.length - takenL L : Nat) : Int) = 0
  · have hM := appendM_ok (M := M) (J := ⟨g, L, dead⟩) hroom hc
    obtain ⟨hd0, hl0, hfit⟩ := canM_zero hc
    subst hd0
    dsimp only at hM
    have hlw := writeAll_len (pieceWrites M.S.length g L.length (takenL L) l) M
    generalize hwa : writeAll M (pieceWrites M.S.length g L.length (takenL L) l) = mw at *
    obtain ⟨M', r⟩ := mw
    dsimp only at hM hlw
    have HM := Lib.hid hM; clear hM
    have hfit' : takenL L + takes l.length ≤ halfN M.S.length := by omega
    have hfb : (halfN M.S.length - takenL L : Nat) ≤ 65536 := by omega
    have hLI : (L.length : Int) ≤ 65536 := by omega
    have Hc := Lib.hid hc
    clear hc hfit
    generalize hf : (halfN M.S.length - takenL L : Nat) = f at *
    have htI : takenL L ≤ 65536 := by omega
    go_enter Tryd.func16, Tryd.ntmps16
    go_wp2_with fail
    refine Hfree.out.mono ?_
    rintro e w1 ⟨rfl, n, rfl⟩
    have hj1 : JBlk (w.drewN n) jb K.d g (.slice ra L.length rc) (takenL L) false := hj.keep rfl
    have hv1 : Bytes F (w.drewN n) v l := hv.keep fun _ _ _ => rfl
    have hd1 : DiskAt (w.drewN n) K M := hd.keep fun _ _ => rfl
    have ho1 : Only (jFoot K jb) w (w.drewN n) := (Only.refl _ _).drewN n
    have hq1 : Quarter (w.drewN n) := hq
    have hs1 : (w.drewN n).heap.size = w.heap.size := rfl
    generalize w.drewN n = w1 at *
    go_wp2_with fail
    refine (can_any w1 jb K.d g (takenL L) _ false hj1 F v l hv1 f hfb).mono ?_
    rintro e w' ⟨rfl, rfl⟩
    rw [Hc.out]
    have hst := store_any w1.drew jb K.d g (takenL L) _ K M g L.length (takenL L) v l F (hv1.keep fun _ _ _ => rfl) (fun b hb => ⟨by have := (hF b hb).1; show b < w1.heap.size; omega, fun h => (hF b hb).2 (by rcases h with h | h; exact .inr (.inl h); exact .inl h)⟩) (fun h => h00 (by rcases h with h | h; exact .inr (.inl h); exact .inl h)) (hj1.keep rfl) (hd1.keep fun _ _ => rfl) rfl hap hq1 hgen (by omega) hl0 (by omega) hfit' (by omega)
    rw [hwa] at hst
    have Hst := Lib.hid hst; clear hst
    have q1 : ∀ w', LaterJ (jFoot K jb) jb w1.drew w' → w'.cell? ⟨jb, 1, none⟩ = some (.int .u32 (g : Int)) := fun w' hh => (hh.2 1 (by omega)).trans (by simpa using hj1.drew.cell 1)
    have q2 : ∀ w', LaterJ (jFoot K jb) jb w1.drew w' → w'.cell? ⟨jb, 2, none⟩ = some (.slice ra L.length rc) := fun w' hh => (hh.2 2 (by omega)).trans (by simpa using hj1.drew.cell 2)
    have q3 : ∀ w', LaterJ (jFoot K jb) jb w1.drew w' → w'.cell? ⟨jb, 3, none⟩ = some (.int .i64 (takenL L : Int)) := fun w' hh => (hh.2 3 (by omega)).trans (by simpa using hj1.drew.cell 3)
    have hj1' := hj1.drew
    have Hj1' := Lib.hid hj1'
    go_wp2_with fail
    clear hj1 hv1 hd1 hj1'
    refine wp_region_can (LaterJ (jFoot K jb) jb) [(0, true), (1, true), (2, true), (3, true), (4, true), (5, true), (6, true), (7, true), (8, true), (9, true), (10, true), (11, true), (12, true), (13, true), (14, true), (15, false), (16, true)] (by kernel_rfl) (by kernel_rfl) (laterJ_refl _ _) (laterJ_trans _ _) ?_
    repeat (first
      | (refine can_yes (v := ?_) rfl (wanted_none rfl) (fun w' hC => ?_) (fun K hK => ?_); rotate_left; (focus (go_simp; first | done | exact rfl)); go_simp; refine hK _ ?_; clear hK K)
      | (refine can_guard rfl (fun A B hA hB => ?_); go_simp; first | (refine hA ⟨?_, fun w' hC => ?_, fun K hK => ?_⟩; rotate_left; (focus (go_simp; first | done | exact rfl)); go_simp; refine hK _ ?_; clear hK K hA hB A B) | (refine hB (fun K hK => ?_); go_simp; refine hK _ ?_; clear hK K hA hB A B))
      | (refine can_guard_go rfl (fun A B hA hB => ?_); go_simp; refine hB (fun K hK => ?_); go_simp; refine hK _ ?_; clear hK K hA hB A B))
    refine can_go rfl rfl (fun KK hK => ?_)
    go_simp
    refine Hst.out.mono ?_
    rintro e w3 ⟨rfl, ⟨K', hK', hKf, hd3⟩, hj3, ho3⟩
    refine ⟨_, rfl, LaterJ.of Hj1'.out hj3 ho3, hK _ _ ?_⟩
    clear hK KK q1 q2 q3
    go_simp
    repeat (first
      | (refine can_yes (v := ?_) rfl (wanted_none rfl) (fun w' hC => ?_) (fun K hK => ?_); rotate_left; (focus (go_simp; first | done | exact rfl)); go_simp; refine hK _ ?_; clear hK K)
      | (refine can_guard rfl (fun A B hA hB => ?_); go_simp; first | (refine hA ⟨?_, fun w' hC => ?_, fun K hK => ?_⟩; rotate_left; (focus (go_simp; first | done | exact rfl)); go_simp; refine hK _ ?_; clear hK K hA hB A B) | (refine hB (fun K hK => ?_); go_simp; refine hK _ ?_; clear hK K hA hB A B))
      | (refine can_guard_go rfl (fun A B hA hB => ?_); go_simp; refine hB (fun K hK => ?_); go_simp; refine hK _ ?_; clear hK K hA hB A B))
    refine can_nil ?_
    have ho3a : Only (jFoot K jb) w1 w3 := ⟨ho3.os, ho3.tape, ho3.output, ho3.size, ho3.block⟩
    have ho3' : Only (jFoot K jb) w w3 := ho1.trans ho3a fun i hi => .inl hi
    have hsz := ho3'.size
    have hnf : ∀ b, O b → ¬ jFoot K jb b := fun b hb h => by
      rcases h with h | h
      · exact (hO b hb).2.1 h
      · exact (hO b hb).1 h
    have hr3 := hr.only ho3' fun b hb => hnf b (hown b hb)
    have honly : Only (fun b => b = jb ∨ K.foot b ∨ O b) w w3 := ho3'.mono fun b hb => by
      rcases hb with hb | hb
      · exact .inr (.inl hb)
      · exact .inl hb
    by_cases hr0 : r = 0
    · subst hr0
      have hM := HM.out
      rw [if_pos rfl] at hM
      have hj3' : JBlk w3 jb K.d g (.slice ra L.length rc) (takenL L) false := by simpa using hj3
      have hv3 : Bytes F w3 v l := hv.only ho3' fun b hb h => (hF b hb).2 (by rcases h with h | h; exact .inr (.inl h); exact .inl h)
      have hadd := add_any w3 jb K.d g (takenL L) _ false R L hj3' hr3 (fun b hb => ⟨(hO b (hown b hb)).1, by have := (hO b (hown b hb)).2.2; omega⟩) F v l hv3 hl0 (by omega) htI
      have Hadd := Lib.hid hadd
      have Hd3 := Lib.hid hd3
      have Hon := Lib.hid honly
      clear hadd hd3 hj3 hj3' hr3 hv3 honly ho3'
      go_wp2_with fail
      refine Hadd.out.mono ?_
      rintro e w4 ⟨rfl, ra', rc', R', hj4, hr4, ho4, hown4⟩
      go_wp2_with fail
      go_ret
      rw [hM]
      have hOlt : ∀ b, (Value.slice ra L.length rc).ownBlock = some b ∨ R b → O b := hown
      have hKlt := hd.lt
      refine ⟨rfl, ⟨jb, K', fun b => (Value.slice ra' (L.length + 1) rc').ownBlock = some b ∨ R' b⟩, rfl, hK', ?_, ?_, ?_⟩
      · refine ⟨?_, ⟨ra', rc', R', ?_, ?_, fun b hb => by simpa using hb⟩, ⟨fun hh => hap (hKf _ hh), fun b hb => ?_⟩, by rw [hlw.1]; exact h8, ?_, hgen, ?_⟩
        · exact Hd3.out.only ho4 fun b hb h => by
            rcases h with h | h
            · exact hap (h ▸ hKf b hb)
            · exact (hO b (hown b (.inl h))).2.1 (hKf b hb)
        · rw [takenL_snoc]; rw [hK']; simpa using hj4
        · simpa using hr4
        · obtain ⟨h1, h2⟩ := hown4 b hb
          rcases h1 with h1 | h1
          · exact ⟨(hO b (hown b h1)).1, fun h => (hO b (hown b h1)).2.1 (hKf b h), h2⟩
          · exact ⟨by show b ≠ jb; omega, fun h => by have := hKlt b (hKf b h); omega, h2⟩
        · show takenL (L ++ [l]) ≤ halfN M'.S.length
          rw [takenL_snoc, hlw.1]; exact hfit'
        · intro b hb
          rcases List.mem_append.1 hb with hb | hb
          · exact hlens b hb
          · obtain rfl := List.mem_singleton.1 hb; exact hl0
      · rintro b (hb | hb | hb)
        · exact .inl (.inl hb)
        · exact .inl (.inr (.inl (hKf b hb)))
        · rcases (hown4 b hb).1 with h1 | h1
          · exact .inl (.inr (.inr (hown b h1)))
          · exact .inr (by omega)
      · exact Hon.out.trans ho4 fun i hi => .inl (by
          rcases hi with hi | hi
          · exact .inl hi
          · exact .inr (.inr (hown i (.inl hi))))
    · have hM := HM.out
      rw [if_neg hr0] at hM
      have hrb : (r != 0) = true := bne_iff_ne.2 hr0
      have Hd3 := Lib.hid hd3
      have Hj3 := Lib.hid hj3
      have Hr3 := Lib.hid hr3
      have Hon := Lib.hid honly
      clear hd3 hj3 hr3 honly ho3'
      go_wp2_with fail
      go_ret
      rw [hM]
      refine ⟨rfl, ⟨jb, K', O⟩, rfl, hK', ⟨Hd3.out, ⟨ra, rc, R, ?_, Hr3.out, hown⟩, ⟨fun hh => hap (hKf _ hh), fun b hb => ⟨(hO b hb).1, fun h => (hO b hb).2.1 (hKf b h), by have := (hO b hb).2.2; omega⟩⟩, by rw [hlw.1]; exact h8, by rw [hlw.1]; exact hroom, hgen, hlens⟩, ?_, Hon.out⟩
      · rw [hK']; simpa [hr0] using Hj3.out
      · rintro b (hb | hb | hb)
        · exact .inl (.inl hb)
        · exact .inl (.inr (.inl (hKf b hb)))
        · exact .inl (.inr (.inr hb))
  · have hM := appendM_err (M := M) (J := ⟨g, L, dead⟩) hroom hc
    have hfb : (halfN M.S.length - takenL L : Nat) ≤ 65536 := by omega
    dsimp only at hM
    have HM := Lib.hid hM; clear hM
    generalize hf : (halfN M.S.length - takenL L : Nat) = f at *
    generalize hcm : canM dead l.length (f : Int) = c at *
    have hrb : (c != 0) = true := bne_iff_ne.2 hc
    go_enter Tryd.func16, Tryd.ntmps16
    go_wp2_with fail
    refine Hfree.out.mono ?_
    rintro e w1 ⟨rfl, n, rfl⟩
    go_wp2_with fail
    have hcan := can_any (w.drewN n) jb K.d g (takenL L) _ dead (hj.keep rfl) F v l (hv.keep fun _ _ _ => rfl) f hfb
    rw [hcm] at hcan
    refine hcan.mono ?_
    rintro e w' ⟨rfl, rfl⟩
    clear hcan
    go_wp2_with fail
    go_ret
    rw [HM.out]
    exact ⟨rfl, ⟨jb, K, O⟩, rfl, rfl, hja.keep (fun _ _ => rfl) (Nat.le_refl _), fun b hb => .inl hb, (Only.refl _ _).drewN n⟩
end Go.Proofs.YtmimplmeccoahaaDoor
