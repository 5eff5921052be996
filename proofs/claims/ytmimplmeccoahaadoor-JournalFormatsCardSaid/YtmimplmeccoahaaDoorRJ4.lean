/- The reference journal: the record at a place. -/
import Derived.Test.YtmimplmeccoahaaDoorRJ3
namespace Go.Proofs.YtmimplmeccoahaaDoor
open Go.RowKit
set_option linter.unusedVariables false
set_option maxRecDepth 20000
attribute [local go_sem ↓] seal_append
attribute [local go_sem] opC upC

theorem bytes_mid {F : Blks} {w : World} {b off xc : Nat} {sl : List UInt8} (h : Bytes F w (.slice (some ⟨b, off, none⟩) sl.length xc) sl) (hl : sl.length = 64) : Bytes F w (.slice (some ⟨b, off + 12, none⟩) 48 (xc - 12)) ((sl.drop 12).take 48) := by
  have hl2 : ((sl.drop 12).take 48).length = 48 := by simp; omega
  obtain ⟨a, cap, he, hc, hm, hz, hx⟩ := h
  simp at he
  obtain ⟨rfl, rfl⟩ := he
  obtain ⟨b', off', L, t, fz, e, hF, hg, hle, hr⟩ := hx.resolve_left (by rintro rfl; simp at hl)
  simp at e
  obtain ⟨rfl, rfl⟩ := e
  refine ⟨some ⟨b, off + 12, none⟩, xc - 12, by rw [hl2], by omega, by omega, nofun, .inr ⟨b, off + 12, L, t, fz, rfl, hF, hg, by omega, fun i hi => ?_⟩⟩
  rw [hl2] at hi
  have := hr (12 + i) (by omega)
  rw [Nat.add_assoc, this]
  congr 2
  rw [List.getElem_take, List.getElem_drop]

/-- the sector at a place of a reference disk -/
theorem RefAt.at_place {w : World} {K : RK} {M : MD} (h : RefAt w K M) (g p : Nat) (hp : p < halfN M.S.length) :
    placeN M.S.length g p < M.S.length ∧ ∃ b off xc, w.cell? ⟨K.bs, placeN M.S.length g p, none⟩ = some (.slice (some ⟨b, off, none⟩) (secM M.S g p).length xc) ∧ Bytes K.R w (.slice (some ⟨b, off, none⟩) (secM M.S g p).length xc) (secM M.S g p) ∧ (secM M.S g p).length = 64 ∧ 64 ≤ xc ∧ xc ≤ maxLen := by
  have hpl := placeN_lt M.S.length g p hp
  refine ⟨hpl, ?_⟩
  obtain ⟨x, hx, hbx⟩ := h.sector _ hpl
  have e : secM M.S g p = M.S[placeN M.S.length g p] := by unfold secM; rw [List.getD_eq_getElem?_getD, List.getElem?_eq_getElem hpl]; rfl
  have h64 := h.s64 _ (List.getElem_mem hpl)
  rw [← e] at h64 hbx
  obtain ⟨a, cap, rfl, hc, hm, hz, hxx⟩ := id hbx
  obtain ⟨b, off, L, t, fz, rfl, -⟩ := hxx.resolve_left (by intro h0; rw [h0] at h64; simp at h64)
  exact ⟨b, off, cap, hx, hbx, h64, by omega, hm⟩


set_option maxRecDepth 100000 in
set_option maxHeartbeats 4000000 in
theorem rrecord_any (w : World) (K : RK) (M : MD) (h : RefAt w K M) (h8 : 8 ≤ M.S.length) (g k p : Nat) (hg : g < 4294967296) (hk : k ≤ 65536) (hp : p ≤ 65536) :
    Calls Tryd.prog 79 #[.pointer (some ⟨K.d, 0, none⟩), .int .i64 (g : Int), .int .i64 (k : Int), .int .i64 (p : Int)] w (NextPost w (recordM M.S g k p)) := by
  have hle := h.len
  have hH : halfN M.S.length ≤ 32768 := by unfold halfN; omega
  have hrr : ∀ {w'}, Below w.heap.size w w' → RefAt w' K M := fun hb => h.kept hb
  obtain ⟨cap, hcap, c0, -, -⟩ := h.row
  have hlt := h.lt K.d (.inl rfl)
  have q0' : ∀ w0 : World, Below w.heap.size w w0 → ∀ w', Later w0.drew w' → w'.cell? ⟨K.d, 0, none⟩ = some (.slice (some ⟨K.bs, 0, none⟩) M.S.length cap) := fun w0 hb w' hh => later_cell (by rw [hb.cell (p := ⟨K.d, 0, none⟩) hlt]; exact c0) hh
  have hhalf := rhalf_any w M.S.length (by omega) (by omega)
  obtain ⟨H, hHe⟩ : ∃ H, halfN M.S.length = H := ⟨_, rfl⟩
  rw [hHe] at hH hhalf
  have HHe := Lib.hid hHe; have Q0 := Lib.hid q0'; have Hhalf := Lib.hid hhalf; have Href := Lib.hid h
  clear hHe q0' hhalf
  have hHI : (H : Int) ≤ 32768 := by omega
  have hpI : (p : Int) ≤ 65536 := by omega
  have hkI : (k : Int) ≤ 65536 := by omega
  have hgI : (g : Int) ≤ 4294967295 := by omega
  have hnI : (M.S.length : Int) ≤ 65536 := by omega
  go_enter Tryd.func79, Tryd.ntmps79
  go_wp2_with fail
  refine Hhalf.out.mono ?_
  rintro e w' ⟨rfl, rfl⟩
  by_cases hT : H ≤ p
  · have hTI : (H : Int) ≤ (p : Int) := by omega
    have hr : recordM M.S g k p = none := by unfold recordM; rw [HHe.out, if_pos hT]
    have Hr := Lib.hid hr
    clear hr
    go_wp2_with fail
    go_ret2
    rw [Hr.out]
    exact ⟨rfl, Below.refl _ _⟩
  have hTI : ¬ (H : Int) ≤ (p : Int) := by omega
  obtain ⟨hpl, bs, os, xs, hcs, hbs, h64, hxs, hxm⟩ := h.at_place g p (by rw [HHe.out]; omega)
  have hplace := rplace_any w.drew M.S.length (by omega) (by omega) g p (by omega) (by omega)
  obtain ⟨sl, hsl⟩ : ∃ sl, secM M.S g p = sl := ⟨_, rfl⟩
  rw [hsl] at hcs hbs h64
  have qs : ∀ w', Later w.drew w' → w'.cell? ⟨K.bs, placeN M.S.length g p, none⟩ = some (.slice (some ⟨bs, os, none⟩) sl.length xs) := fun w' hh => later_cell hcs hh
  have hbs1 : Bytes K.R w.drew (.slice (some ⟨bs, os, none⟩) sl.length xs) sl := hbs.keep fun _ _ _ => rfl
  have hread := rread_any w.drew _ _ _ hbs1 8 (by omega) (by omega)
  rw [show ((8 : Nat) : Int) = 8 from rfl] at hread
  obtain ⟨P, hP⟩ : ∃ P, placeN M.S.length g p = P := ⟨_, rfl⟩
  rw [hP] at hplace qs hpl
  have hplI : (P : Int) < (M.S.length : Int) := by omega
  have Hplace := Lib.hid hplace; have Hread := Lib.hid hread; have Hsl := Lib.hid hsl
  clear hplace hread hsl hP hcs hbs hbs1 h64 hxs hxm
  have q0 := Q0.out w (Below.refl _ _)
  go_wp2_with fail
  refine wp_region_can Later [(0, true), (1, true), (2, true), (3, true), (4, true), (5, true), (6, true), (7, true), (8, true), (9, true), (10, true), (11, false), (12, true), (13, true), (14, false), (15, true)] (by kernel_rfl) (by kernel_rfl) later_refl later_trans ?_
  repeat (first
    | (refine can_yes (v := ?_) rfl (wanted_none rfl) (fun w' hC => ?_) (fun K hK => ?_); rotate_left; (focus (go_simp; first | done | exact rfl)); go_simp; refine hK _ ?_; clear hK K)
    | (refine can_guard rfl (fun A B hA hB => ?_); go_simp; first | (refine hA ⟨?_, fun w' hC => ?_, fun K hK => ?_⟩; rotate_left; (focus (go_simp; first | done | exact rfl)); go_simp; refine hK _ ?_; clear hK K hA hB A B) | (refine hB (fun K hK => ?_); go_simp; refine hK _ ?_; clear hK K hA hB A B))
    | (refine can_guard_go rfl (fun A B hA hB => ?_); go_simp; refine hB (fun K hK => ?_); go_simp; refine hK _ ?_; clear hK K hA hB A B))
  refine can_go rfl rfl (fun KK hK => ?_)
  go_simp
  refine Hplace.out.mono ?_
  rintro e w' ⟨rfl, rfl⟩
  refine ⟨_, rfl, later_refl _, hK _ _ ?_⟩
  clear hK KK
  go_simp
  repeat (first
    | (refine can_yes (v := ?_) rfl (wanted_none rfl) (fun w' hC => ?_) (fun K hK => ?_); rotate_left; (focus (go_simp; first | done | exact rfl)); go_simp; refine hK _ ?_; clear hK K)
    | (refine can_guard rfl (fun A B hA hB => ?_); go_simp; first | (refine hA ⟨?_, fun w' hC => ?_, fun K hK => ?_⟩; rotate_left; (focus (go_simp; first | done | exact rfl)); go_simp; refine hK _ ?_; clear hK K hA hB A B) | (refine hB (fun K hK => ?_); go_simp; refine hK _ ?_; clear hK K hA hB A B))
    | (refine can_guard_go rfl (fun A B hA hB => ?_); go_simp; refine hB (fun K hK => ?_); go_simp; refine hK _ ?_; clear hK K hA hB A B))
  refine can_go rfl rfl (fun KK hK => ?_)
  go_simp
  refine Hread.out.mono ?_
  rintro e w3 ⟨rfl, hd3⟩
  have hd3 : Drew w.drew w3 := hd3
  refine ⟨_, rfl, hd3.later, hK _ _ ?_⟩
  clear hK KK
  go_simp
  repeat (first
    | (refine can_yes (v := ?_) rfl (wanted_none rfl) (fun w' hC => ?_) (fun K hK => ?_); rotate_left; (focus (go_simp; first | done | exact rfl)); go_simp; refine hK _ ?_; clear hK K)
    | (refine can_guard rfl (fun A B hA hB => ?_); go_simp; first | (refine hA ⟨?_, fun w' hC => ?_, fun K hK => ?_⟩; rotate_left; (focus (go_simp; first | done | exact rfl)); go_simp; refine hK _ ?_; clear hK K hA hB A B) | (refine hB (fun K hK => ?_); go_simp; refine hK _ ?_; clear hK K hA hB A B))
    | (refine can_guard_go rfl (fun A B hA hB => ?_); go_simp; refine hB (fun K hK => ?_); go_simp; refine hK _ ?_; clear hK K hA hB A B))
  refine can_nil ?_
  have b3 : Below w.heap.size w w3 := (Below.refl _ _).drew.trans hd3.below
  clear q0 qs hd3 Hplace Hread hpl hplI
  have hrec : recordM M.S g k p = if 65536 < read4 sl 8 ∨ H < p + takes (read4 sl 8) then none else
      if piecesOk M.S g k p (read4 sl 8) (takes (read4 sl 8)) then some ((bodyM M.S g p (takes (read4 sl 8))).take (read4 sl 8)) else none := by
    unfold recordM; rw [HHe.out, if_neg hT, Hsl.out]
  have hn32 : read4 sl 8 < 4294967296 := read4_lt _ _
  generalize read4 sl 8 = n at *
  have Hrec := Lib.hid hrec
  clear hrec
  by_cases hn : 65536 < n
  · have hnI : (65536 : Int) < (n : Int) := by omega
    have hnD : decide ((65536 : Int) < (n : Int)) = true := decide_eq_true hnI
    go_wp2_with fail
    go_ret2
    rw [Hrec.out, if_pos (.inl hn)]
    exact ⟨rfl, b3⟩
  have hnI : ¬ (65536 : Int) < (n : Int) := by omega
  have hnD : decide ((65536 : Int) < (n : Int)) = false := decide_eq_false hnI
  have hnI2 : (n : Int) ≤ 65536 := by omega
  have htk := takes_pos n
  have htk2 : takes n ≤ 1366 := by unfold takes; omega
  have htakes := fun w0 => rtakes_any w0 n (by omega)
  obtain ⟨T, hTe⟩ : ∃ T, takes n = T := ⟨_, rfl⟩
  have HT := Lib.hid hTe
  rw [hTe] at htk htk2 htakes
  have Htakes := Lib.hid htakes
  clear hTe htakes
  have hTI2 : (T : Int) ≤ 1366 := by omega
  go_wp2_with fail
  refine (Htakes.out w3).mono ?_
  rintro e w' ⟨rfl, rfl⟩
  by_cases hfit : H < p + T
  · have hfI : (H : Int) < (p : Int) + (T : Int) := by omega
    go_wp2_with fail
    go_ret2
    rw [Hrec.out, HT.out, if_pos (.inr hfit)]
    exact ⟨rfl, b3⟩
  have hfI : ¬ (H : Int) < (p : Int) + (T : Int) := by omega
  have hrec2 : recordM M.S g k p = if piecesOk M.S g k p n T then some ((bodyM M.S g p T).take n) else none := by
    rw [Hrec.out, HT.out, if_neg (by omega)]
  have Hrec2 := Lib.hid hrec2
  clear hrec2
  go_wp2_with fail
  go_loopw [12, 13] (fun v i wr => NextRel w M.S g k p n T v i wr) (fun _ i _ => T - (intOf i).toNat)
  case atStart => exact ⟨0, by omega, rfl, rfl, World.ownsRow_nil _ _ _ _, b3⟩
  case round =>
    obtain ⟨m, hm, rfl, hpo, hown, hbw⟩ := hrel
    go_wp2_with fail
    refine (Htakes.out wr).mono ?_
    rintro e w' ⟨rfl, rfl⟩
    by_cases hmt : m < T
    · have hmI : (m : Int) < (T : Int) := by omega
      have hTT : takes n = max 1 ((n + 47) / 48) := rfl
      have h48 : 48 * m ≤ n := by have := HT.out; omega
      have hw2 := IntWalk.i64_in ((p : Int) + (m : Int)) (by omega)
      obtain ⟨hpl, bx, ox, xc, hcx, hbx, h64, hxc, hxm⟩ := (hrr hbw).at_place g (p + m) (by rw [HHe.out]; omega)
      have hplace := rplace_any wr.drew M.S.length (by omega) (by omega) g (p + m) (by omega) (by omega)
      obtain ⟨sl, hsm⟩ : ∃ sm, secM M.S g (p + m) = sm := ⟨_, rfl⟩
      rw [hsm] at hcx hbx h64
      rw [show ((p + m : Nat) : Int) = (p : Int) + (m : Int) by omega] at hplace
      have hstep : piecesOk M.S g k p n (m + 1) = pieceOk sl g k (n - 48 * m) := by
        simp only [piecesOk, hpo, hsm, Bool.true_and]
      have hbad : pieceOk sl g k (n - 48 * m) = false → recordM M.S g k p = none := fun hb => by
        rw [Hrec2.out, if_neg]
        intro hh
        have := piecesOk_le M.S g k p n (m + 1) (T - (m + 1)) (by rw [show m + 1 + (T - (m + 1)) = T by omega]; exact hh)
        rw [hstep, hb] at this
        cases this
      have hbody : bodyM M.S g p (m + 1) = bodyM M.S g p m ++ (sl.drop 12).take 48 := by
        simp only [bodyM, hsm]
      have qs : ∀ w', Later wr.drew w' → w'.cell? ⟨K.bs, placeN M.S.length g (p + m), none⟩ = some (.slice (some ⟨bx, ox, none⟩) sl.length xc) := fun w' hh => later_cell hcx hh
      obtain ⟨P, hP⟩ : ∃ P, placeN M.S.length g (p + m) = P := ⟨_, rfl⟩
      rw [hP] at hplace qs hpl
      have hplI : (P : Int) < (M.S.length : Int) := by omega
      have Hplace := Lib.hid hplace; have Hstep := Lib.hid hstep; have Hbad := Lib.hid hbad; have Hbody := Lib.hid hbody; have Hown := Lib.hid hown; have Hpo := Lib.hid hpo; have H64 := Lib.hid h64
      have hxcI : (64 : Int) ≤ (xc : Int) := by omega
      have Hbs := Lib.hid hbx
      clear hplace hstep hbad hbody hown hpo hsm hTT hP hcx hbx h64 hxm
      have q0 := Q0.out wr hbw
      go_wp2_with fail
      refine wp_region_can Later [(0, true), (1, true), (2, true), (3, true), (4, true), (5, true), (6, true), (7, true), (8, true), (9, true), (10, true), (11, true), (12, true), (13, false), (14, true), (15, true), (16, true)] (by kernel_rfl) (by kernel_rfl) later_refl later_trans ?_
      repeat (first
        | (refine can_yes (v := ?_) rfl (wanted_none rfl) (fun w' hC => ?_) (fun K hK => ?_); rotate_left; (focus (go_simp; first | done | exact rfl)); go_simp; refine hK _ ?_; clear hK K)
        | (refine can_guard rfl (fun A B hA hB => ?_); go_simp; first | (refine hA ⟨?_, fun w' hC => ?_, fun K hK => ?_⟩; rotate_left; (focus (go_simp; first | done | exact rfl)); go_simp; refine hK _ ?_; clear hK K hA hB A B) | (refine hB (fun K hK => ?_); go_simp; refine hK _ ?_; clear hK K hA hB A B))
        | (refine can_guard_go rfl (fun A B hA hB => ?_); go_simp; refine hB (fun K hK => ?_); go_simp; refine hK _ ?_; clear hK K hA hB A B))
      refine can_go rfl rfl (fun KK hK => ?_)
      go_simp
      refine Hplace.out.mono ?_
      rintro e w' ⟨rfl, rfl⟩
      refine ⟨_, rfl, later_refl _, hK _ _ ?_⟩
      clear hK KK
      go_simp
      repeat (first
        | (refine can_yes (v := ?_) rfl (wanted_none rfl) (fun w' hC => ?_) (fun K hK => ?_); rotate_left; (focus (go_simp; first | done | exact rfl)); go_simp; refine hK _ ?_; clear hK K)
        | (refine can_guard rfl (fun A B hA hB => ?_); go_simp; first | (refine hA ⟨?_, fun w' hC => ?_, fun K hK => ?_⟩; rotate_left; (focus (go_simp; first | done | exact rfl)); go_simp; refine hK _ ?_; clear hK K hA hB A B) | (refine hB (fun K hK => ?_); go_simp; refine hK _ ?_; clear hK K hA hB A B))
        | (refine can_guard_go rfl (fun A B hA hB => ?_); go_simp; refine hB (fun K hK => ?_); go_simp; refine hK _ ?_; clear hK K hA hB A B))
      refine can_nil ?_
      clear q0 qs Hplace hpl hplI hw2
      obtain ⟨w5, hw5⟩ : ∃ w5, w5 = wr.drew := ⟨_, rfl⟩
      have b5 : Below w.heap.size w w5 := by rw [hw5]; exact hbw.drew
      have Hbs : Hid (Bytes K.R w5 (.slice (some ⟨bx, ox, none⟩) sl.length xc) sl) := Lib.hid (by rw [hw5]; exact Hbs.out.keep fun _ _ _ => rfl)
      have Hown5 := Lib.hid (show w5.ownsRow w.heap.size 5 1 _ _ _ from by rw [hw5]; exact owns_kept Hown.out (Below.refl _ _).drew)
      rw [← hw5]
      clear hw5 hbw Hown
      cases hin : intact sl with
      | false =>
        have hb : pieceOk sl g k (n - 48 * m) = false := by simp [pieceOk, hin]
        have hbs := Hbs.out
        go_wp2_with fail
        refine (rintact_any w5 _ _ _ hbs H64.out).mono ?_
        rintro e w6 ⟨rfl, hd6⟩
        have hd6 : Drew w5 w6 := hd6
        have b6 : Below w.heap.size w w6 := b5.trans (hd6.below.mono b5.size)
        have hbs6 : Bytes K.R w6 (.slice (some ⟨bx, ox, none⟩) sl.length xc) sl := hbs.keep fun b _ _ => by rw [hd6.heap]
        rw [hin]
        clear hbs
        clear hbs6
        go_wp2_with fail
        go_ret2
        rw [Hbad.out hb]
        exact ⟨rfl, b6⟩
      | true =>
      by_cases h0g : read4 sl 0 = g
      · have n0 : ((read4 sl 0 : Int) != (g : Int)) = false := by simp [h0g]
        by_cases h4k : read4 sl 4 = k
        · have n4 : ((read4 sl 4 : Int) != (k : Int)) = false := by simp [h4k]
          by_cases h8n : read4 sl 8 = n - 48 * m
          · have n8 : ((read4 sl 8 : Int) != (n : Int) - 48 * (m : Int)) = false := by simp; omega
            have hok : pieceOk sl g k (n - 48 * m) = true := by simp [pieceOk, hin, h0g, h4k, h8n]
            have Hok := Lib.hid hok; have H0 := Lib.hid h0g; have H4 := Lib.hid h4k; have H8 := Lib.hid h8n
            clear hok h0g h4k h8n
            have hbs := Hbs.out
            go_wp2_with fail
            refine (rintact_any w5 _ _ _ hbs H64.out).mono ?_
            rintro e w6 ⟨rfl, hd6⟩
            have hd6 : Drew w5 w6 := hd6
            have b6 : Below w.heap.size w w6 := b5.trans (hd6.below.mono b5.size)
            have hbs6 : Bytes K.R w6 (.slice (some ⟨bx, ox, none⟩) sl.length xc) sl := hbs.keep fun b _ _ => by rw [hd6.heap]
            rw [hin]
            clear hbs
            have hbsq6 := hbs6
            have HRd := Lib.hid (rread_any w6 _ _ _ hbsq6 0 (by rw [H64.out]; omega) (by omega))
            rw [show ((0 : Nat) : Int) = 0 from rfl] at HRd
            clear hbsq6 hbs6
            go_wp2_with fail
            refine HRd.out.mono ?_
            rintro e w7 ⟨rfl, hdn⟩
            have hdn : Drew w6 w7 := hdn
            have hd7 : Drew w5 w7 := hd6.trans hdn
            have b7 : Below w.heap.size w w7 := b5.trans (hd7.below.mono b5.size)
            have hbs7 : Bytes K.R w7 (.slice (some ⟨bx, ox, none⟩) sl.length xc) sl := Hbs.out.keep fun b _ _ => by rw [hd7.heap]
            clear hdn HRd
            have hbsq7 := hbs7
            have HRd := Lib.hid (rread_any w7 _ _ _ hbsq7 4 (by rw [H64.out]; omega) (by omega))
            rw [show ((4 : Nat) : Int) = 4 from rfl] at HRd
            clear hbsq7 hbs7
            go_wp2_with fail
            refine HRd.out.mono ?_
            rintro e w8 ⟨rfl, hdn⟩
            have hdn : Drew w7 w8 := hdn
            have hd8 : Drew w5 w8 := hd7.trans hdn
            have b8 : Below w.heap.size w w8 := b5.trans (hd8.below.mono b5.size)
            have hbs8 : Bytes K.R w8 (.slice (some ⟨bx, ox, none⟩) sl.length xc) sl := Hbs.out.keep fun b _ _ => by rw [hd8.heap]
            clear hdn HRd
            have hbsq8 := hbs8
            have HRd := Lib.hid (rread_any w8 _ _ _ hbsq8 8 (by rw [H64.out]; omega) (by omega))
            rw [show ((8 : Nat) : Int) = 8 from rfl] at HRd
            clear hbsq8 hbs8
            go_wp2_with fail
            refine HRd.out.mono ?_
            rintro e w9 ⟨rfl, hdn⟩
            have hdn : Drew w8 w9 := hdn
            have hd9 : Drew w5 w9 := hd8.trans hdn
            have b9 : Below w.heap.size w w9 := b5.trans (hd9.below.mono b5.size)
            have hbs9 : Bytes K.R w9 (.slice (some ⟨bx, ox, none⟩) sl.length xc) sl := Hbs.out.keep fun b _ _ => by rw [hd9.heap]
            clear hdn HRd
            have hownA := owns_kept Hown5.out hd9.below
            have hlb : (bodyM M.S g p m).length = 48 * m := bodyM_length _ (fun s hs => Href.out.s64 s hs) _ _ _ (fun j hj => placeN_lt _ _ _ (by rw [HHe.out]; omega))
            obtain ⟨vB, wB, hap, hownB, hgB⟩ := run_append_bytes w9 w.heap.size _ _ hownA _ _ _ (bytes_mid hbs9 H64.out) (by rw [hlb]; simp; omega) b9.size
            rw [← Hbody.out] at hownB
            have bB : Below w.heap.size w wB := b9.grown hgB b9.size (fun q hq => by
              rcases hownA.2 with ⟨h, _⟩ | ⟨g', cap', cur, h, hlo, _⟩
              · rw [h] at hq; cases hq
              · rw [h] at hq; simp [Value.ownBlock] at hq; omega)
            have HownB := Lib.hid hownB
            clear hownB hownA hgB hlb hbs9
            go_wp2_with fail
            go_roundw
            case rel => exact ⟨m + 1, by omega, by go_num, by rw [Hstep.out]; exact Hok.out, HownB.out, bB⟩
            case measure => simp [intOf]; omega
          · have n8 : ((read4 sl 8 : Int) != (n : Int) - 48 * (m : Int)) = true := by simp; omega
            have hb : pieceOk sl g k (n - 48 * m) = false := by simp [pieceOk, h8n]
            clear h0g h4k h8n
            have hbs := Hbs.out
            go_wp2_with fail
            refine (rintact_any w5 _ _ _ hbs H64.out).mono ?_
            rintro e w6 ⟨rfl, hd6⟩
            have hd6 : Drew w5 w6 := hd6
            have b6 : Below w.heap.size w w6 := b5.trans (hd6.below.mono b5.size)
            have hbs6 : Bytes K.R w6 (.slice (some ⟨bx, ox, none⟩) sl.length xc) sl := hbs.keep fun b _ _ => by rw [hd6.heap]
            rw [hin]
            clear hbs
            have hbsq6 := hbs6
            have HRd := Lib.hid (rread_any w6 _ _ _ hbsq6 0 (by rw [H64.out]; omega) (by omega))
            rw [show ((0 : Nat) : Int) = 0 from rfl] at HRd
            clear hbsq6 hbs6
            go_wp2_with fail
            refine HRd.out.mono ?_
            rintro e w7 ⟨rfl, hdn⟩
            have hdn : Drew w6 w7 := hdn
            have hd7 : Drew w5 w7 := hd6.trans hdn
            have b7 : Below w.heap.size w w7 := b5.trans (hd7.below.mono b5.size)
            have hbs7 : Bytes K.R w7 (.slice (some ⟨bx, ox, none⟩) sl.length xc) sl := Hbs.out.keep fun b _ _ => by rw [hd7.heap]
            clear hdn HRd
            have hbsq7 := hbs7
            have HRd := Lib.hid (rread_any w7 _ _ _ hbsq7 4 (by rw [H64.out]; omega) (by omega))
            rw [show ((4 : Nat) : Int) = 4 from rfl] at HRd
            clear hbsq7 hbs7
            go_wp2_with fail
            refine HRd.out.mono ?_
            rintro e w8 ⟨rfl, hdn⟩
            have hdn : Drew w7 w8 := hdn
            have hd8 : Drew w5 w8 := hd7.trans hdn
            have b8 : Below w.heap.size w w8 := b5.trans (hd8.below.mono b5.size)
            have hbs8 : Bytes K.R w8 (.slice (some ⟨bx, ox, none⟩) sl.length xc) sl := Hbs.out.keep fun b _ _ => by rw [hd8.heap]
            clear hdn HRd
            have hbsq8 := hbs8
            have HRd := Lib.hid (rread_any w8 _ _ _ hbsq8 8 (by rw [H64.out]; omega) (by omega))
            rw [show ((8 : Nat) : Int) = 8 from rfl] at HRd
            clear hbsq8 hbs8
            go_wp2_with fail
            refine HRd.out.mono ?_
            rintro e w9 ⟨rfl, hdn⟩
            have hdn : Drew w8 w9 := hdn
            have hd9 : Drew w5 w9 := hd8.trans hdn
            have b9 : Below w.heap.size w w9 := b5.trans (hd9.below.mono b5.size)
            have hbs9 : Bytes K.R w9 (.slice (some ⟨bx, ox, none⟩) sl.length xc) sl := Hbs.out.keep fun b _ _ => by rw [hd9.heap]
            clear hdn HRd
            clear hbs9
            go_wp2_with fail
            go_ret2
            rw [Hbad.out hb]
            exact ⟨rfl, b9⟩
        · have n4 : ((read4 sl 4 : Int) != (k : Int)) = true := by simp; omega
          have hb : pieceOk sl g k (n - 48 * m) = false := by simp [pieceOk, h4k]
          clear h0g h4k
          have hbs := Hbs.out
          go_wp2_with fail
          refine (rintact_any w5 _ _ _ hbs H64.out).mono ?_
          rintro e w6 ⟨rfl, hd6⟩
          have hd6 : Drew w5 w6 := hd6
          have b6 : Below w.heap.size w w6 := b5.trans (hd6.below.mono b5.size)
          have hbs6 : Bytes K.R w6 (.slice (some ⟨bx, ox, none⟩) sl.length xc) sl := hbs.keep fun b _ _ => by rw [hd6.heap]
          rw [hin]
          clear hbs
          have hbsq6 := hbs6
          have HRd := Lib.hid (rread_any w6 _ _ _ hbsq6 0 (by rw [H64.out]; omega) (by omega))
          rw [show ((0 : Nat) : Int) = 0 from rfl] at HRd
          clear hbsq6 hbs6
          go_wp2_with fail
          refine HRd.out.mono ?_
          rintro e w7 ⟨rfl, hdn⟩
          have hdn : Drew w6 w7 := hdn
          have hd7 : Drew w5 w7 := hd6.trans hdn
          have b7 : Below w.heap.size w w7 := b5.trans (hd7.below.mono b5.size)
          have hbs7 : Bytes K.R w7 (.slice (some ⟨bx, ox, none⟩) sl.length xc) sl := Hbs.out.keep fun b _ _ => by rw [hd7.heap]
          clear hdn HRd
          have hbsq7 := hbs7
          have HRd := Lib.hid (rread_any w7 _ _ _ hbsq7 4 (by rw [H64.out]; omega) (by omega))
          rw [show ((4 : Nat) : Int) = 4 from rfl] at HRd
          clear hbsq7 hbs7
          go_wp2_with fail
          refine HRd.out.mono ?_
          rintro e w8 ⟨rfl, hdn⟩
          have hdn : Drew w7 w8 := hdn
          have hd8 : Drew w5 w8 := hd7.trans hdn
          have b8 : Below w.heap.size w w8 := b5.trans (hd8.below.mono b5.size)
          have hbs8 : Bytes K.R w8 (.slice (some ⟨bx, ox, none⟩) sl.length xc) sl := Hbs.out.keep fun b _ _ => by rw [hd8.heap]
          clear hdn HRd
          clear hbs8
          go_wp2_with fail
          go_ret2
          rw [Hbad.out hb]
          exact ⟨rfl, b8⟩
      · have n0 : ((read4 sl 0 : Int) != (g : Int)) = true := by simp; omega
        have hb : pieceOk sl g k (n - 48 * m) = false := by simp [pieceOk, h0g]
        clear h0g
        have hbs := Hbs.out
        go_wp2_with fail
        refine (rintact_any w5 _ _ _ hbs H64.out).mono ?_
        rintro e w6 ⟨rfl, hd6⟩
        have hd6 : Drew w5 w6 := hd6
        have b6 : Below w.heap.size w w6 := b5.trans (hd6.below.mono b5.size)
        have hbs6 : Bytes K.R w6 (.slice (some ⟨bx, ox, none⟩) sl.length xc) sl := hbs.keep fun b _ _ => by rw [hd6.heap]
        rw [hin]
        clear hbs
        have hbsq6 := hbs6
        have HRd := Lib.hid (rread_any w6 _ _ _ hbsq6 0 (by rw [H64.out]; omega) (by omega))
        rw [show ((0 : Nat) : Int) = 0 from rfl] at HRd
        clear hbsq6 hbs6
        go_wp2_with fail
        refine HRd.out.mono ?_
        rintro e w7 ⟨rfl, hdn⟩
        have hdn : Drew w6 w7 := hdn
        have hd7 : Drew w5 w7 := hd6.trans hdn
        have b7 : Below w.heap.size w w7 := b5.trans (hd7.below.mono b5.size)
        have hbs7 : Bytes K.R w7 (.slice (some ⟨bx, ox, none⟩) sl.length xc) sl := Hbs.out.keep fun b _ _ => by rw [hd7.heap]
        clear hdn HRd
        clear hbs7
        go_wp2_with fail
        go_ret2
        rw [Hbad.out hb]
        exact ⟨rfl, b7⟩
    · have hmI : ¬ (m : Int) < (T : Int) := by omega
      obtain rfl : m = T := by omega
      have hTT : takes n = max 1 ((n + 47) / 48) := rfl
      have h48 : n ≤ 48 * m := by have := HT.out; omega
      have hlb : (bodyM M.S g p m).length = 48 * m := bodyM_length _ (fun s hs => Href.out.s64 s hs) _ _ _ (fun j hj => placeN_lt _ _ _ (by rw [HHe.out]; omega))
      have hbyt := Bytes.of_owns hown (fun q => w.heap.size ≤ q ∧ q < wr.heap.size) (fun q h1 h2 => ⟨h1, h2⟩)
      have hrr : recordM M.S g k p = some ((bodyM M.S g p m).take n) := by rw [Hrec2.out, if_pos hpo]
      generalize bodyM M.S g p m = bo at *
      obtain ⟨av, cv, rfl, hcv, hmv, -, -⟩ := id hbyt
      have hby2 := hbyt.take n (by omega)
      have hbl : (bo.take n).length ≤ 65536 := by simp; omega
      have Hrr := Lib.hid hrr; have Hby2 := Lib.hid hby2; have Hbl := Lib.hid hbl
      clear hrr hby2 hbl hbyt hown hpo hTT
      rw [hlb] at hcv ⊢
      clear hlb
      have hcvI : (n : Int) ≤ (cv : Int) := by omega
      go_wp2_with fail
      go_ret2
      rw [Hrr.out]
      exact ⟨⟨_, rfl, Hby2.out, Hbl.out⟩, hbw⟩
end Go.Proofs.YtmimplmeccoahaaDoor
