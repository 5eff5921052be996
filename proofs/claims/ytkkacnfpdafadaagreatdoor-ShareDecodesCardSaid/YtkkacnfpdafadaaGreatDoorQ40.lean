/-
  RDecG
-/
import Derived.Test.YtkkacnfpdafadaaGreatDoorQ39
namespace Go.Proofs.YtkkacnfpdafadaaGreatDoor
open Go.RowKit Go.Lib
set_option linter.unusedVariables false
set_option maxRecDepth 20000
attribute [local go_sem ↓] seal_append
attribute [local go_sem] opC upC

theorem fin_map {w W : World} (x y z : Value) {v : Value} {m : RMap} (hm : MapV (fun q => w.heap.size < q) W v m) :
    MapV (fun q => w.heap.size ≤ q) (((W.setCell ⟨w.heap.size, 0, none⟩ x).setCell ⟨w.heap.size, 1, none⟩ y).setCell ⟨w.heap.size, 2, none⟩ z) v m := by
  refine (hm.keep (w' := ((W.setCell ⟨w.heap.size, 0, none⟩ x).setCell ⟨w.heap.size, 1, none⟩ y).setCell ⟨w.heap.size, 2, none⟩ z) fun q hq _ => ?_).mono fun q hq _ => Nat.le_of_lt hq
  have hne : q ≠ w.heap.size := by have hq' : w.heap.size < q := hq; omega
  exact (Below.heap_setCell _ _ _ _ hne).trans ((Below.heap_setCell _ _ _ _ hne).trans (Below.heap_setCell _ _ _ _ hne))
set_option maxRecDepth 100000 in
set_option maxHeartbeats 8000000 in
theorem rdecode_any (w : World) (F : Blks) (av : Option Addr) (cap : Nat) (b : List UInt8) (hB : Bytes F w (.slice av b.length cap) b) (hF : ∀ q, F q → q < w.heap.size) (hl : b.length ≤ 60000) :
    Calls Tryz.prog 74 #[.slice av b.length cap] w (DPost w b) := by
  have HB := Lib.hid (show ∀ w', Below w.heap.size w w' → Bytes F w' (.slice av b.length cap) b ∧ ∀ q, F q → q < w'.heap.size from fun w' hb => ⟨hB.keep (w' := w') fun q hq _ => hb.block q (hF q hq), fun q hq => Nat.lt_of_lt_of_le (hF q hq) hb.size⟩)
  obtain ⟨M, hM⟩ : ∃ M, w.heap.size + 1 + 1 = M := ⟨_, rfl⟩
  obtain ⟨w4, hw4⟩ : ∃ w4, w4 = ((w.alloc (.cells #[.slice none 0 0, .slice none 0 0, .slice none 0 0] 26)).alloc (.cells #[.slice av b.length cap, .int .i64 0, .bool false] 165)).alloc (.cells #[.slice none 0 0, .slice none 0 0, .slice none 0 0] 26) := ⟨_, rfl⟩
  have hD : FDec w M av cap b w4 [] [] [] none 0 none 0 none 0 (some b) := by
    have r1 := ((Blk.new w #[.slice none 0 0, .slice none 0 0, .slice none 0 0] 26).alloc (.cells #[.slice av b.length cap, .int .i64 0, .bool false] 165)).alloc (.cells #[.slice none 0 0, .slice none 0 0, .slice none 0 0] 26)
    have r2 := (Blk.new (w.alloc (.cells #[.slice none 0 0, .slice none 0 0, .slice none 0 0] 26)) #[.slice av b.length cap, .int .i64 0, .bool false] 165).alloc (.cells #[.slice none 0 0, .slice none 0 0, .slice none 0 0] 26)
    have r3 := Blk.new ((w.alloc (.cells #[.slice none 0 0, .slice none 0 0, .slice none 0 0] 26)).alloc (.cells #[.slice av b.length cap, .int .i64 0, .bool false] 165)) #[.slice none 0 0, .slice none 0 0, .slice none 0 0] 26
    simp only [World.size_alloc] at r2 r3
    rw [← hw4] at r1 r2 r3
    rw [hM] at r3
    refine ⟨?_, r1, ⟨0, false, r2, Nat.zero_le _, by simp⟩, r3, by omega, World.ownsRow_nil _ _ _ _, World.ownsRow_nil _ _ _ _, World.ownsRow_nil _ _ _ _⟩
    rw [hw4]
    exact (((Below.refl w.heap.size w).alloc (Nat.le_refl _) _).alloc (by simp) _).alloc (by simp; omega) _
  have HD := Lib.hid hD; have Hw4 := Lib.hid hw4; have Hl := Lib.hid hl
  obtain ⟨n, hn⟩ : ∃ n, b.length = n := ⟨_, rfl⟩
  have hlI : ¬ (60000 : Int) < (n : Int) := by omega
  have Hn := Lib.hid hn; have HM := Lib.hid hM
  clear hB hF hD hw4 hl
  rw [hn]
  rw [hn] at Hw4
  clear hn
  go_enter Tryz.func74, Tryz.ntmps74
  go_wp2_with fail
  rw [← Hw4.out]
  clear hM Hw4
  go_loopw [6] (fun i wr => ∃ k : Nat, k ≤ 8 ∧ i = .int .i64 (k : Int) ∧ ∃ L st az cz, seenL k ([], some b) = (L, st) ∧ L.length = k ∧ FDec w M av cap b wr L [] [] az cz none 0 none 0 st) (fun i _ => 8 - (intOf i).toNat)
  case atStart => exact ⟨0, by omega, rfl, [], some b, none, 0, rfl, rfl, HD.out⟩
  case round =>
    obtain ⟨k, hk, rfl, L, st, az, cz, hsl, hL, hD⟩ := hrel
    by_cases hk8 : k < 8
    · have hkI : (k : Int) < 8 := by omega
      have pm : ∀ w', Only (fun q => q = w.heap.size + 1 ∨ M < q) wr.drew w' → w'.cell? ⟨M, 0, none⟩ = some (.slice az L.length cz) := fun w' hh => Only.cellB hh (hD.map.cell 0) (by have := hD.hM; show ¬ (M = w.heap.size + 1 ∨ M < M); omega)
      have hDd := hD.kept (W' := wr.drew) ((Below.refl wr.heap.size wr).drew)
      have HDd := Lib.hid hDd
      have HR := Lib.hid (fnum_any wr.drew (w.heap.size + 1) F av cap b st hDd.rd (HB.out _ hDd.bel).1 (HB.out _ hDd.bel).2)
      clear hD hDd
      go_wp2_with fail
      refine wp_region_canL (Only (fun q => q = w.heap.size + 1 ∨ M < q)) 7 [(0, true), (1, true), (2, true), (3, false), (4, false), (5, false), (6, true), (7, false)] (by kernel_rfl) (by kernel_rfl) (by kernel_rfl) (Only.refl _) (fun a b c h k => Only.trans h k fun i hi => .inl hi) ?_
      repeat (refine canL_yes (v := ?_) rfl (wanted_none rfl) (fun w' hC => ?_) (fun K hK => ?_); rotate_left; (focus (go_simp; (try simp (disch := omega) only [IntWalk.i64_in]); first | done | exact rfl)); go_simp; (try simp (disch := omega) only [IntWalk.i64_in]); refine hK _ ?_; clear hK K)
      refine canL_go rfl rfl (fun KK hK => ?_)
      go_simp
      refine HR.out.mono ?_
      rintro e w8 ⟨rfl, hR8, ho8⟩
      refine ⟨_, rfl, Only.trans (Only.refl _ _) ho8 (fun i hi => .inl (.inl hi)), hK _ _ ?_⟩
      have hD8 := HDd.out.read ho8 hR8
      clear hK KK HR ho8 hR8 pm HDd
      go_simp
      obtain ⟨x, hx⟩ : ∃ x, (numS st).1 = x := ⟨_, rfl⟩
      rw [hx]
      obtain ⟨i0, t1, t2, t3, t4⟩ := info_parts infoI
      obtain ⟨va, w9, hr, hown, hgr⟩ := run_append_one (P := Tryz.prog) w8 (M + 1) 22 3 Tryz.underlying22 t1 t2 t3 t4 rfl (by decide) (.slice az L.length cz) L.length _ hD8.seen #[.int .i64 x] rfl (by simp [Value.oneCell']) (by unfold maxLen; omega) (by omega) hD8.map.lt
      obtain ⟨a5, c5, rfl⟩ := own_shape hown
      have hDz := hD8.kept (kept_alloc w8 (.cells #[.int .i64 x] 3))
      have hD9 := hDz.sn (x := x) hgr (by simpa using hown)
      have hm9 := hDz.map.grownNe hDz.seen (by decide) hgr
      have k1 : Only (fun q => q = w.heap.size + 1 ∨ M < q) w8 (w8.alloc (.cells #[.int .i64 x] 3)) := (Only.refl _ w8).alloc _
      have k2 : Only (fun q => q = w.heap.size + 1 ∨ M < q) (w8.alloc (.cells #[.int .i64 x] 3)) w9 := ⟨hgr.os, hgr.tape, hgr.output, hgr.size, fun q hq hn => hgr.block q hq fun e => hn (.inr (by have := (hDz.seen.lt q e.symm).1; omega))⟩
      obtain ⟨d0, d1, d2⟩ := cell3 hm9
      have g0 := hm9.free 0
      obtain ⟨w10, hw10⟩ : ∃ w10, w10 = w9.setCell ⟨M, 0, none⟩ (.slice a5 (L.length + 1) c5) := ⟨_, rfl⟩
      rw [← hw10] at hD9
      rw [hL] at hr hw10 d0
      have HD9 := Lib.hid hD9; have Hw10 := Lib.hid hw10; have Hx := Lib.hid hx
      clear hD8 hDz hD9 hw10 hm9 hown hgr t1 t2 t3 t4 hx
      refine canL_go rfl rfl (fun KK hK => ?_)
      go_simp
      first | refine ⟨k1, hK _ _ ?_⟩ | refine hK _ _ ?_
      clear hK KK
      go_simp
      refine canL_go rfl rfl (fun KK hK => ?_)
      go_simp
      first | refine ⟨k2, hK _ _ ?_⟩ | refine hK _ _ ?_
      clear hK KK k1 k2 hr
      go_simp
      repeat (refine canL_yes (v := ?_) rfl (wanted_none rfl) (fun w' hC => ?_) (fun K hK => ?_); rotate_left; (focus (go_simp; (try simp (disch := omega) only [IntWalk.i64_in]); first | done | exact rfl)); go_simp; (try simp (disch := omega) only [IntWalk.i64_in]); refine hK _ ?_; clear hK K)
      refine canL_last rfl rfl rfl (fun KK hK => ?_)
      go_simp
      refine hK _ _ ?_
      clear hK KK
      go_simp
      refine canL_nil ?_
      rw [← Hw10.out]
      clear d0 d1 d2 g0
      go_wp2_with fail
      go_roundw
      case rel => exact ⟨k + 1, by omega, by go_num, L ++ [x], (numS st).2, a5, c5, by rw [seenL_succ, hsl, Hx.out], by simp [hL], HD9.out⟩
      case measure => simp [intOf]; omega
    · have hkI : ¬ (k : Int) < 8 := by omega
      obtain rfl : k = 8 := by omega
      have hd1 : dec1 b = (L, st) := hsl
      have hsz := seenL_sz 8 ([], some b)
      rw [hsl] at hsz
      have Hd1 := Lib.hid hd1; have HL := Lib.hid hL; have HD1 := Lib.hid hD; have Hsz := Lib.hid (show szS st ≤ b.length + 1 from hsz)
      clear hD hsl hk hd1 hL hsz HD
      obtain ⟨⟨n0, s0⟩, hn0⟩ : ∃ p, numS st = p := ⟨_, rfl⟩
      have hnb := numS_bnd st
      have hsz0 := (numS_sz st).1
      rw [hn0] at hnb hsz0
      dsimp only at hnb hsz0
      obtain ⟨n1, rfl⟩ := Int.eq_ofNat_of_zero_le hnb.1
      have Hsz0 := Lib.hid (Nat.le_trans hsz0 Hsz.out)
      have Hdec2 := Lib.hid (show manyL itemS n1 ([], s0) = dec2 b by unfold dec2; rw [Hd1.out]; dsimp only; rw [hn0]; rfl)
      have hn1b : n1 ≤ 1099511627776 := by omega
      have hr0 := fnum_any wr (w.heap.size + 1) F av cap b _ HD1.out.rd (HB.out _ HD1.out.bel).1 (HB.out _ HD1.out.bel).2
      rw [hn0] at hr0
      dsimp only at hr0
      have HR := Lib.hid hr0
      clear hr0
      go_wp2_with fail
      skip
      refine HR.out.mono ?_
      rintro e w5 ⟨rfl, hR8, how5⟩
      have Hw5 := Lib.hid (HD1.out.read how5 hR8)
      clear HR hR8
      clear hnb hsz0 hn0 HD1 how5
      go_wp2_with fail
      go_loopw [8] (fun i wq => ∃ (j : Nat) (its : List RIt) (ai : Option Addr) (ci : Nat) (sq : RdSt), j ≤ n1 ∧ i = .int .i64 (j : Int) ∧ manyL itemS (n1 - j) (its, sq) = dec2 b ∧ (∀ x ∈ its, ItB (b.length + 1) x) ∧ its.length + szS sq ≤ b.length + 1 ∧ FDec w M av cap b wq L its [] az cz ai ci none 0 sq) (fun i _ => n1 - (intOf i).toNat)
      case atStart => exact ⟨0, [], none, 0, s0, by omega, rfl, Hdec2.out, nofun, by simpa using Hsz0.out, Hw5.out⟩
      case round =>
        obtain ⟨j, its, ai, ci, sq, hjn, rfl, hmany, hIB, hsum, hD⟩ := hrel
        obtain ⟨kk, bad, hrd, hkk, hst⟩ := id hD.rd
        obtain ⟨z0, z1, z2⟩ := cell3 hrd
        have Hmany := Lib.hid hmany; have HIB := Lib.hid hIB; have Hsum := Lib.hid hsum; have HDq := Lib.hid hD; have Hst := Lib.hid hst
        clear hmany hIB hsum hD hrd hkk hst
        by_cases hjn1 : j = n1
        · subst hjn1
          have Hd2 := Lib.hid (show dec2 b = (its, sq) by rw [← Hmany.out, Nat.sub_self]; rfl)
          clear Hmany hjn
          go_wp2_with fail
          obtain ⟨⟨n0g, s0g⟩, hn0⟩ : ∃ p, numS sq = p := ⟨_, rfl⟩
          have hnb := numS_bnd sq
          have hsz0 := (numS_sz sq).1
          rw [hn0] at hnb hsz0
          dsimp only at hnb hsz0
          obtain ⟨n2, rfl⟩ := Int.eq_ofNat_of_zero_le hnb.1
          have Hsz1 := Lib.hid (show szS s0g ≤ b.length + 1 by have := Hsum.out; omega)
          have Hdec3 := Lib.hid (show manyL goneS n2 ([], s0g) = dec3 b by unfold dec3; rw [Hd2.out]; dsimp only; rw [hn0]; rfl)
          have hn2b : n2 ≤ 1099511627776 := by omega
          clear z0 z1 z2
          have hr0 := fnum_any wr (w.heap.size + 1) F av cap b _ HDq.out.rd (HB.out _ HDq.out.bel).1 (HB.out _ HDq.out.bel).2
          rw [hn0] at hr0
          dsimp only at hr0
          have HR := Lib.hid hr0
          clear hr0
          go_wp2_with fail
          skip
          refine HR.out.mono ?_
          rintro e y5 ⟨rfl, hR8, hoy5⟩
          have Hy5 := Lib.hid (HDq.out.read hoy5 hR8)
          clear HR hR8
          clear hnb hsz0 hn0 HDq hoy5
          go_wp2_with fail
          go_loopw [10] (fun i wz => ∃ (j : Nat) (gs : List RGo) (ag : Option Addr) (cg : Nat) (sg : RdSt), j ≤ n2 ∧ i = .int .i64 (j : Int) ∧ manyL goneS (n2 - j) (gs, sg) = dec3 b ∧ (∀ x ∈ gs, GoB (b.length + 1) x) ∧ gs.length + szS sg ≤ b.length + 1 ∧ FDec w M av cap b wz L its gs az cz ai ci ag cg sg) (fun i _ => n2 - (intOf i).toNat)
          case atStart => exact ⟨0, [], none, 0, s0g, by omega, rfl, Hdec3.out, nofun, by simpa using Hsz1.out, Hy5.out⟩
          case round =>
            obtain ⟨j, gs, ag, cg, sg, hjn, rfl, hmany, hGB, hsumg, hD⟩ := hrel
            obtain ⟨kk, bad, hrd, hkk, hst⟩ := id hD.rd
            obtain ⟨z0, z1, z2⟩ := cell3 hrd
            have Hmany := Lib.hid hmany; have HGB := Lib.hid hGB; have Hsumg := Lib.hid hsumg; have HDq := Lib.hid hD; have Hst := Lib.hid hst; have Hkk := Lib.hid hkk
            clear hmany hGB hsumg hD hrd hkk hst
            by_cases hjn1 : j = n2
            · subst hjn1
              have Hd3 := Lib.hid (show dec3 b = (gs, sg) by rw [← Hmany.out, Nat.sub_self]; rfl)
              clear Hmany hjn
              cases bad with
              | true =>
                obtain rfl : sg = none := Hst.out
                have Hdr := Lib.hid (show decR b = (.empty, 5) by unfold decR; rw [if_neg]; rw [Hd3.out]; exact fun h => nomatch h.1)
                have pb : ∀ w', Later wr.drew w' → w'.cell? ⟨w.heap.size + 1, 2, none⟩ = some (.bool true) := fun w' hh => laterC z2 hh
                have HDd := Lib.hid (HDq.out.kept (W' := wr.drew) ((Below.refl wr.heap.size wr).drew))
                go_wp2_with fail
                refine wp_region_can Later [(0, true), (1, true), (2, true), (3, true), (4, true), (5, true), (6, true), (7, true), (8, true), (9, true), (10, true), (11, true), (12, true), (13, true), (14, true), (15, false), (16, true), (17, true), (18, true), (19, true), (22, true), (23, true), (20, false), (21, true), (24, true), (25, true)] (by kernel_rfl) (by kernel_rfl) later_refl later_trans ?_
                repeat (first
                  | (refine can_yes (v := ?_) rfl (wanted_none rfl) (fun w' hC => ?_) (fun K hK => ?_); rotate_left; (focus (go_simp; (try simp (disch := omega) only [IntWalk.i64_in]); first | done | exact rfl)); go_simp; (try simp (disch := omega) only [IntWalk.i64_in]); refine hK _ ?_; clear hK K)
                  | (refine can_guard rfl (fun A B hA hB => ?_); go_simp; first | (refine hA ⟨?_, fun w' hC => ?_, fun K hK => ?_⟩; rotate_left; (focus (go_simp; (try simp (disch := omega) only [IntWalk.i64_in]); first | done | exact rfl)); go_simp; (try simp (disch := omega) only [IntWalk.i64_in]); refine hK _ ?_; clear hK K hA hB A B) | (refine hB (fun K hK => ?_); go_simp; (try simp (disch := omega) only [IntWalk.i64_in]); refine hK _ ?_; clear hK K hA hB A B))
                  | (refine can_guard_go rfl (fun A B hA hB => ?_); go_simp; refine hB (fun K hK => ?_); go_simp; (try simp (disch := omega) only [IntWalk.i64_in]); refine hK _ ?_; clear hK K hA hB A B))
                refine can_nil ?_
                clear pb z0 z1 z2 HDq
                obtain ⟨wd, hwd⟩ : ∃ q, q = wr.drew := ⟨_, rfl⟩
                rw [← hwd] at HDd ⊢
                clear hwd
                obtain ⟨wf, hwf, hblk, hbf⟩ := fin3 HDd.out.res HDd.out.bel (Nat.le_refl _) (.slice none 0 0) (.slice none 0 0) (.slice none 0 0)
                obtain ⟨y0, y1, y2⟩ := cell3 HDd.out.res
                have f0 := HDd.out.res.free 0
                have f1 := HDd.out.res.free 1
                have f2 := HDd.out.res.free 2
                have Q := Lib.hid (cell3 hblk)
                have Hbf := Lib.hid hbf; have Hwf := Lib.hid hwf
                clear hwf hblk hbf
                go_wp2_with fail
                rw [← Hwf.out]
                obtain ⟨q0, q1, q2⟩ := Q.out
                exact bodyPost_ret (v := .tuple #[nilV, .int .i64 5]) (by simp [results, Tryz.results74, go_sem, q0, q1, q2, nilV]) rfl ⟨_, by rw [Hdr.out], by rw [Hdr.out]; exact (own_nil _ _).map bnd_empty, Hbf.out⟩
              | false =>
                obtain rfl : sg = some (b.drop kk) := Hst.out
                have pb : ∀ w', Later wr.drew w' → w'.cell? ⟨w.heap.size + 1, 2, none⟩ = some (.bool false) := fun w' hh => laterC z2 hh
                have HDd := Lib.hid (HDq.out.kept (W' := wr.drew) ((Below.refl wr.heap.size wr).drew))
                by_cases hkb : kk = n
                case neg =>
                  have pa : ∀ w', Later wr.drew w' → w'.cell? ⟨w.heap.size + 1, 1, none⟩ = some (.int .i64 (kk : Int)) := fun w' hh => laterC z1 hh
                  have hkbI : ¬ (kk : Int) = (n : Int) := by omega
                  have hkbB : ((kk : Int) == (n : Int)) = false := beq_eq_false_iff_ne.2 hkbI
                  have hkbN : ((kk : Int) != (n : Int)) = true := by simp [hkbI]
                  have Hdr := Lib.hid (show decR b = (.empty, 5) by
                    unfold decR; rw [if_neg]; rw [Hd3.out]
                    intro h
                    have h1 := congrArg List.length (Option.some.inj h.1)
                    have := Hkk.out
                    have := Hn.out
                    simp at h1
                    omega)
                  clear hkb
                  go_wp2_with fail
                  refine wp_region_can Later [(0, true), (1, true), (2, true), (3, true), (4, true), (5, true), (6, true), (7, true), (8, true), (9, true), (10, true), (11, true), (12, true), (13, true), (14, true), (15, false), (16, true), (17, true), (18, true), (19, true), (22, true), (23, true), (20, false), (21, true), (24, true), (25, true)] (by kernel_rfl) (by kernel_rfl) later_refl later_trans ?_
                  repeat (first
                    | (refine can_yes (v := ?_) rfl (wanted_none rfl) (fun w' hC => ?_) (fun K hK => ?_); rotate_left; (focus (go_simp; (try simp (disch := omega) only [IntWalk.i64_in]); first | done | exact rfl)); go_simp; (try simp (disch := omega) only [IntWalk.i64_in]); refine hK _ ?_; clear hK K)
                    | (refine can_guard rfl (fun A B hA hB => ?_); go_simp; first | (refine hA ⟨?_, fun w' hC => ?_, fun K hK => ?_⟩; rotate_left; (focus (go_simp; (try simp (disch := omega) only [IntWalk.i64_in]); first | done | exact rfl)); go_simp; (try simp (disch := omega) only [IntWalk.i64_in]); refine hK _ ?_; clear hK K hA hB A B) | (refine hB (fun K hK => ?_); go_simp; (try simp (disch := omega) only [IntWalk.i64_in]); refine hK _ ?_; clear hK K hA hB A B))
                    | (refine can_guard_go rfl (fun A B hA hB => ?_); go_simp; refine hB (fun K hK => ?_); go_simp; (try simp (disch := omega) only [IntWalk.i64_in]); refine hK _ ?_; clear hK K hA hB A B))
                  refine can_nil ?_
                  clear pb pa z0 z1 z2 HDq hkbI hkbB hkbN
                  obtain ⟨wd, hwd⟩ : ∃ q, q = wr.drew := ⟨_, rfl⟩
                  rw [← hwd] at HDd ⊢
                  clear hwd
                  obtain ⟨wf, hwf, hblk, hbf⟩ := fin3 HDd.out.res HDd.out.bel (Nat.le_refl _) (.slice none 0 0) (.slice none 0 0) (.slice none 0 0)
                  obtain ⟨y0, y1, y2⟩ := cell3 HDd.out.res
                  have f0 := HDd.out.res.free 0
                  have f1 := HDd.out.res.free 1
                  have f2 := HDd.out.res.free 2
                  have Q := Lib.hid (cell3 hblk)
                  have Hbf := Lib.hid hbf; have Hwf := Lib.hid hwf
                  clear hwf hblk hbf
                  go_wp2_with fail
                  rw [← Hwf.out]
                  obtain ⟨q0, q1, q2⟩ := Q.out
                  exact bodyPost_ret (v := .tuple #[nilV, .int .i64 5]) (by simp [results, Tryz.results74, go_sem, q0, q1, q2, nilV]) rfl ⟨_, by rw [Hdr.out], by rw [Hdr.out]; exact (own_nil _ _).map bnd_empty, Hbf.out⟩
                case pos =>
                  have pa : ∀ w', Later wr.drew w' → w'.cell? ⟨w.heap.size + 1, 1, none⟩ = some (.int .i64 (n : Int)) := fun w' hh => by rw [← hkb]; exact laterC z1 hh
                  rw [hkb] at z1
                  have Hdm := Lib.hid (show decM b = ⟨L, its, gs⟩ by unfold decM; rw [Hd1.out, Hd2.out, Hd3.out])
                  have Hd0 := Lib.hid (show (dec3 b).2 = some [] by rw [Hd3.out, hkb, ← Hn.out]; simp)
                  have hbnd : ∀ x ∈ L, 0 ≤ x ∧ x ≤ 1099511627776 := fun x hx => by
                    have := seenL_bnd 8 ([], some b) nofun x
                    have e : seenL 8 ([], some b) = (L, st) := Hd1.out
                    rw [e] at this
                    exact this hx
                  have hmv := HDd.out.mapV hbnd HIB.out HGB.out (by have := Hl.out; omega)
                  rw [← Hdm.out] at hmv
                  have hki : (∀ x ∈ (decM b).items, x.key.length ≤ 1000000000) ∧ (∀ x ∈ (decM b).gone, x.key.length ≤ 1000000000) := by
                    rw [Hdm.out]
                    exact ⟨fun x hx => by have := (HIB.out x hx).1; have := Hl.out; omega, fun x hx => by have := (HGB.out x hx).1; have := Hl.out; omega⟩
                  obtain ⟨ok, hok⟩ : ∃ ok, validR (decM b) = ok := ⟨_, rfl⟩
                  have hV := rvalid2_any wr.drew _ _ (decM b) hmv hki.1 hki.2
                  rw [hok] at hV
                  have hallB : ∀ w', Later wr.drew w' → Below w.heap.size w w' := fun w' hh => HDd.out.bel.trans (hh.mono HDd.out.bel.size)
                  obtain ⟨c0, c1, c2⟩ := cell3 HDq.out.map
                  have pm0 : ∀ w', Later wr.drew w' → w'.cell? ⟨M, 0, none⟩ = _ := fun w' hh => laterC c0 hh
                  have pm1 : ∀ w', Later wr.drew w' → w'.cell? ⟨M, 1, none⟩ = _ := fun w' hh => laterC c1 hh
                  have pm2 : ∀ w', Later wr.drew w' → w'.cell? ⟨M, 2, none⟩ = _ := fun w' hh => laterC c2 hh
                  have ps : ∀ w', Later wr.drew w' → (convert 57 9 (.slice av n cap)).run Tryz.prog w' = .ok (.string ⟨b.toArray⟩) w' := fun w' hh => by
                    have := run_strB (HB.out w' (hallB w' hh)).1
                    rwa [Hn.out] at this
                  have HV := Lib.hid hV; have Hmv := Lib.hid hmv; have Hok := Lib.hid hok; have HallB := Lib.hid hallB
                  clear hkb hbnd hmv hki hok hV hallB c0 c1 c2
                  go_wp2_with fail
                  refine wp_region_can Later [(0, true), (1, true), (2, true), (3, true), (4, true), (5, true), (6, true), (7, true), (8, true), (9, true), (10, true), (11, true), (12, true), (13, true), (14, true), (15, false), (16, true), (17, true), (18, true), (19, true), (22, true), (23, true), (20, false), (21, true), (24, true), (25, true)] (by kernel_rfl) (by kernel_rfl) later_refl later_trans ?_
                  repeat (first
                    | (refine can_yes (v := ?_) rfl (wanted_none rfl) (fun w' hC => ?_) (fun K hK => ?_); rotate_left; (focus (go_simp; (try simp (disch := omega) only [IntWalk.i64_in]); first | done | exact rfl)); go_simp; (try simp (disch := omega) only [IntWalk.i64_in]); refine hK _ ?_; clear hK K)
                    | (refine can_guard rfl (fun A B hA hB => ?_); go_simp; first | (refine hA ⟨?_, fun w' hC => ?_, fun K hK => ?_⟩; rotate_left; (focus (go_simp; (try simp (disch := omega) only [IntWalk.i64_in]); first | done | exact rfl)); go_simp; (try simp (disch := omega) only [IntWalk.i64_in]); refine hK _ ?_; clear hK K hA hB A B) | (refine hB (fun K hK => ?_); go_simp; (try simp (disch := omega) only [IntWalk.i64_in]); refine hK _ ?_; clear hK K hA hB A B))
                    | (refine can_guard_go rfl (fun A B hA hB => ?_); go_simp; refine hB (fun K hK => ?_); go_simp; (try simp (disch := omega) only [IntWalk.i64_in]); refine hK _ ?_; clear hK K hA hB A B))
                  refine can_go rfl rfl (fun KK hK => ?_)
                  go_simp
                  refine HV.out.mono ?_
                  rintro e w8 ⟨rfl, hb8⟩
                  refine ⟨_, rfl, hb8, hK _ _ ?_⟩
                  clear hK KK HV
                  have HD8 := Lib.hid (HDd.out.kept hb8)
                  go_simp
                  cases ok with
                  | false =>
                    have Hdr := Lib.hid (show decR b = (.empty, 5) by unfold decR; rw [if_neg]; rw [Hok.out]; exact fun h => nomatch h.2)
                    repeat (first
                      | (refine can_yes (v := ?_) rfl (wanted_none rfl) (fun w' hC => ?_) (fun K hK => ?_); rotate_left; (focus (go_simp; (try simp (disch := omega) only [IntWalk.i64_in]); first | done | exact rfl)); go_simp; (try simp (disch := omega) only [IntWalk.i64_in]); refine hK _ ?_; clear hK K)
                      | (refine can_guard rfl (fun A B hA hB => ?_); go_simp; first | (refine hA ⟨?_, fun w' hC => ?_, fun K hK => ?_⟩; rotate_left; (focus (go_simp; (try simp (disch := omega) only [IntWalk.i64_in]); first | done | exact rfl)); go_simp; (try simp (disch := omega) only [IntWalk.i64_in]); refine hK _ ?_; clear hK K hA hB A B) | (refine hB (fun K hK => ?_); go_simp; (try simp (disch := omega) only [IntWalk.i64_in]); refine hK _ ?_; clear hK K hA hB A B))
                      | (refine can_guard_go rfl (fun A B hA hB => ?_); go_simp; refine hB (fun K hK => ?_); go_simp; (try simp (disch := omega) only [IntWalk.i64_in]); refine hK _ ?_; clear hK K hA hB A B))
                    refine can_nil ?_
                    clear pb pa pm0 pm1 pm2 ps z0 z1 z2 HDq HDd hb8
                    obtain ⟨wf, hwf, hblk, hbf⟩ := fin3 HD8.out.res HD8.out.bel (Nat.le_refl _) (.slice none 0 0) (.slice none 0 0) (.slice none 0 0)
                    obtain ⟨y0, y1, y2⟩ := cell3 HD8.out.res
                    have f0 := HD8.out.res.free 0
                    have f1 := HD8.out.res.free 1
                    have f2 := HD8.out.res.free 2
                    have Q := Lib.hid (cell3 hblk)
                    have Hbf := Lib.hid hbf; have Hwf := Lib.hid hwf
                    clear hwf hblk hbf
                    go_wp2_with fail
                    rw [← Hwf.out]
                    obtain ⟨q0, q1, q2⟩ := Q.out
                    exact bodyPost_ret (v := .tuple #[nilV, .int .i64 5]) (by simp [results, Tryz.results74, go_sem, q0, q1, q2, nilV]) rfl ⟨_, by rw [Hdr.out], by rw [Hdr.out]; exact (own_nil _ _).map bnd_empty, Hbf.out⟩
                  | true =>
                    have Hdr := Lib.hid (show decR b = (decM b, 0) by unfold decR; rw [if_pos ⟨Hd0.out, Hok.out⟩])
                    replace pm0 : ∀ w', Later w8 w' → _ := fun w' hh => pm0 w' (later_trans _ _ _ hb8 hh)
                    replace pm1 : ∀ w', Later w8 w' → _ := fun w' hh => pm1 w' (later_trans _ _ _ hb8 hh)
                    replace pm2 : ∀ w', Later w8 w' → _ := fun w' hh => pm2 w' (later_trans _ _ _ hb8 hh)
                    replace ps : ∀ w', Later w8 w' → _ := fun w' hh => ps w' (later_trans _ _ _ hb8 hh)
                    clear pb pa
                    have hmv8 := Hmv.out.later hb8 (Nat.le_refl _)
                    have hC := refCode_any w8 _ _ (decM b) hmv8 (codable_of_formed (valid_formed Hok.out) (valid_lens Hok.out).2.1 (valid_lens Hok.out).2.2.1)
                    rw [dec_code Hd0.out] at hC
                    have HC := Lib.hid hC; have Hmv8 := Lib.hid hmv8
                    clear hC hmv8 z0 z1 z2 HDq HDd hb8
                    repeat (first
                      | (refine can_yes (v := ?_) rfl (wanted_none rfl) (fun w' hC => ?_) (fun K hK => ?_); rotate_left; (focus (go_simp; (try simp (disch := omega) only [IntWalk.i64_in]); first | done | exact rfl)); go_simp; (try simp (disch := omega) only [IntWalk.i64_in]); refine hK _ ?_; clear hK K)
                      | (refine can_guard rfl (fun A B hA hB => ?_); go_simp; first | (refine hA ⟨?_, fun w' hC => ?_, fun K hK => ?_⟩; rotate_left; (focus (go_simp; (try simp (disch := omega) only [IntWalk.i64_in]); first | done | exact rfl)); go_simp; (try simp (disch := omega) only [IntWalk.i64_in]); refine hK _ ?_; clear hK K hA hB A B) | (refine hB (fun K hK => ?_); go_simp; (try simp (disch := omega) only [IntWalk.i64_in]); refine hK _ ?_; clear hK K hA hB A B))
                      | (refine can_guard_go rfl (fun A B hA hB => ?_); go_simp; refine hB (fun K hK => ?_); go_simp; (try simp (disch := omega) only [IntWalk.i64_in]); refine hK _ ?_; clear hK K hA hB A B))
                    refine can_go rfl rfl (fun KK hK => ?_)
                    go_simp
                    refine HC.out.mono ?_
                    rintro e w9 ⟨⟨r, rfl, hr⟩, hb9⟩
                    refine ⟨_, rfl, hb9, hK _ _ ?_⟩
                    clear hK KK HC pm0 pm1 pm2 ps
                    have pr : ∀ w', Later w9 w' → (convert 57 9 r).run Tryz.prog w' = .ok (.string ⟨b.toArray⟩) w' := fun w' hh => run_strB (hr.keep (w' := w') fun q _ hlt => hh.block q hlt)
                    have HD9 := Lib.hid (HD8.out.kept hb9)
                    have hmv9 := Hmv8.out.later hb9 (Nat.le_refl _)
                    obtain ⟨wf, hwf, hblk, hbf⟩ := fin3 HD9.out.res HD9.out.bel (Nat.le_refl _) (.slice az L.length cz) (.slice ai its.length ci) (.slice ag gs.length cg)
                    have hmf := fin_map (.slice az L.length cz) (.slice ai its.length ci) (.slice ag gs.length cg) hmv9
                    rw [← hwf] at hmf
                    have Hbf := Lib.hid hbf; have Hwf := Lib.hid hwf; have Hmf := Lib.hid hmf; have Q := Lib.hid (cell3 hblk)
                    clear hwf hblk hbf hmf hmv9 hr hb9 HD8
                    go_simp
                    repeat (first
                      | (refine can_yes (v := ?_) rfl (wanted_none rfl) (fun w' hC => ?_) (fun K hK => ?_); rotate_left; (focus (go_simp; (try simp (disch := omega) only [IntWalk.i64_in]); first | done | exact rfl)); go_simp; (try simp (disch := omega) only [IntWalk.i64_in]); refine hK _ ?_; clear hK K)
                      | (refine can_guard rfl (fun A B hA hB => ?_); go_simp; first | (refine hA ⟨?_, fun w' hC => ?_, fun K hK => ?_⟩; rotate_left; (focus (go_simp; (try simp (disch := omega) only [IntWalk.i64_in]); first | done | exact rfl)); go_simp; (try simp (disch := omega) only [IntWalk.i64_in]); refine hK _ ?_; clear hK K hA hB A B) | (refine hB (fun K hK => ?_); go_simp; (try simp (disch := omega) only [IntWalk.i64_in]); refine hK _ ?_; clear hK K hA hB A B))
                      | (refine can_guard_go rfl (fun A B hA hB => ?_); go_simp; refine hB (fun K hK => ?_); go_simp; (try simp (disch := omega) only [IntWalk.i64_in]); refine hK _ ?_; clear hK K hA hB A B))
                    refine can_nil ?_
                    clear pr
                    obtain ⟨y0, y1, y2⟩ := cell3 HD9.out.res
                    have f0 := HD9.out.res.free 0
                    have f1 := HD9.out.res.free 1
                    have f2 := HD9.out.res.free 2
                    obtain ⟨c0, c1, c2⟩ := cell3 HD9.out.map
                    go_wp2_with fail
                    rw [← Hwf.out]
                    obtain ⟨q0, q1, q2⟩ := Q.out
                    exact bodyPost_ret (v := .tuple #[.agg #[.slice az L.length cz, .slice ai its.length ci, .slice ag gs.length cg], .int .i64 0]) (by simp [results, Tryz.results74, go_sem, q0, q1, q2]) rfl ⟨_, by rw [Hdr.out], by rw [Hdr.out]; exact Hmf.out, Hbf.out⟩
            have hjI : (j : Int) < (n2 : Int) := by omega
            obtain ⟨nr, hnr⟩ : ∃ nr, n2 - j = nr + 1 := ⟨n2 - j - 1, by omega⟩
            cases bad with
            | true =>
              obtain rfl : sg = none := Hst.out
              have Hd3 := Lib.hid (show dec3 b = (gs, none) by rw [← Hmany.out, manyL_none])
              clear Hmany
              have Hdr := Lib.hid (show decR b = (.empty, 5) by unfold decR; rw [if_neg]; rw [Hd3.out]; exact fun h => nomatch h.1)
              have pb : ∀ w', Later wr.drew w' → w'.cell? ⟨w.heap.size + 1, 2, none⟩ = some (.bool true) := fun w' hh => laterC z2 hh
              have HDd := Lib.hid (HDq.out.kept (W' := wr.drew) ((Below.refl wr.heap.size wr).drew))
              go_wp2_with fail
              refine wp_region_can Later [(0, true), (1, true), (2, true), (3, true), (4, true), (5, true), (6, true), (7, true), (8, true), (9, true), (10, true), (11, true), (12, true), (13, true), (14, true), (15, false), (16, true), (17, true), (18, true), (19, true), (22, true), (23, true), (20, false), (21, true), (24, true), (25, true)] (by kernel_rfl) (by kernel_rfl) later_refl later_trans ?_
              repeat (first
                | (refine can_yes (v := ?_) rfl (wanted_none rfl) (fun w' hC => ?_) (fun K hK => ?_); rotate_left; (focus (go_simp; (try simp (disch := omega) only [IntWalk.i64_in]); first | done | exact rfl)); go_simp; (try simp (disch := omega) only [IntWalk.i64_in]); refine hK _ ?_; clear hK K)
                | (refine can_guard rfl (fun A B hA hB => ?_); go_simp; first | (refine hA ⟨?_, fun w' hC => ?_, fun K hK => ?_⟩; rotate_left; (focus (go_simp; (try simp (disch := omega) only [IntWalk.i64_in]); first | done | exact rfl)); go_simp; (try simp (disch := omega) only [IntWalk.i64_in]); refine hK _ ?_; clear hK K hA hB A B) | (refine hB (fun K hK => ?_); go_simp; (try simp (disch := omega) only [IntWalk.i64_in]); refine hK _ ?_; clear hK K hA hB A B))
                | (refine can_guard_go rfl (fun A B hA hB => ?_); go_simp; refine hB (fun K hK => ?_); go_simp; (try simp (disch := omega) only [IntWalk.i64_in]); refine hK _ ?_; clear hK K hA hB A B))
              refine can_nil ?_
              clear pb z0 z1 z2 HDq
              obtain ⟨wd, hwd⟩ : ∃ q, q = wr.drew := ⟨_, rfl⟩
              rw [← hwd] at HDd ⊢
              clear hwd
              obtain ⟨wf, hwf, hblk, hbf⟩ := fin3 HDd.out.res HDd.out.bel (Nat.le_refl _) (.slice none 0 0) (.slice none 0 0) (.slice none 0 0)
              obtain ⟨y0, y1, y2⟩ := cell3 HDd.out.res
              have f0 := HDd.out.res.free 0
              have f1 := HDd.out.res.free 1
              have f2 := HDd.out.res.free 2
              have Q := Lib.hid (cell3 hblk)
              have Hbf := Lib.hid hbf; have Hwf := Lib.hid hwf
              clear hwf hblk hbf
              go_wp2_with fail
              rw [← Hwf.out]
              obtain ⟨q0, q1, q2⟩ := Q.out
              exact bodyPost_ret (v := .tuple #[nilV, .int .i64 5]) (by simp [results, Tryz.results74, go_sem, q0, q1, q2, nilV]) rfl ⟨_, by rw [Hdr.out], by rw [Hdr.out]; exact (own_nil _ _).map bnd_empty, Hbf.out⟩
            | false =>
              obtain ⟨bb, hbb⟩ : ∃ bb, b.drop kk = bb := ⟨_, rfl⟩
              obtain rfl : sg = some bb := by rw [← hbb]; exact Hst.out
              have Hit := Lib.hid (goneS_sz bb)
              have Hstep := Lib.hid (show manyL goneS (n2 - (j + 1)) (gs ++ [(goneS (some bb)).1], (goneS (some bb)).2) = dec3 b by
                rw [← Hmany.out, hnr, manyL_some, show n2 - (j + 1) = nr by omega])
              obtain ⟨⟨t, s1⟩, ht⟩ : ∃ p, textS (some bb) = p := ⟨_, rfl⟩
              obtain ⟨⟨x1, s2⟩, hx1⟩ : ∃ p, numS s1 = p := ⟨_, rfl⟩
              obtain ⟨⟨x2, s3⟩, hx2⟩ : ∃ p, numS s2 = p := ⟨_, rfl⟩
              have hit : goneS (some bb) = (⟨t, x1, x2⟩, s3) := by unfold goneS; rw [ht]; dsimp only; rw [hx1]; dsimp only; rw [hx2]
              rw [hit] at Hit Hstep
              have Ht := Lib.hid ht; have Hx1 := Lib.hid hx1; have Hx2 := Lib.hid hx2
              clear hbb ht hx1 hx2 hit Hst Hmany hnr
              have hr0 := ftext_any wr (w.heap.size + 1) F av cap b _ HDq.out.rd (HB.out _ HDq.out.bel).1 (HB.out _ HDq.out.bel).2
              rw [Ht.out] at hr0
              dsimp only at hr0
              have HR := Lib.hid hr0
              clear hr0
              go_wp2_with fail
              skip
              refine HR.out.mono ?_
              rintro e v5 ⟨rfl, hR8, hov5⟩
              have Hv5 := Lib.hid (HDq.out.read hov5 hR8)
              clear HR hR8
              obtain ⟨v6, hv6⟩ : ∃ v6, v6 = v5.alloc (.cells #[.string ⟨t.toArray⟩, .int .i64 0, .int .i64 0] 94) := ⟨_, rfl⟩
              have hk6 : Below v5.heap.size v5 v6 := by rw [hv6]; exact kept_alloc _ _
              obtain ⟨X, hX⟩ : ∃ X, v5.heap.size = X := ⟨_, rfl⟩
              have Hk6 := Lib.hid (show Blk v6 X [.string ⟨t.toArray⟩, .int .i64 0, .int .i64 0] 94 by rw [hv6, ← hX]; exact Blk.new _ _ _)
              have HMX := Lib.hid (show M < X by rw [← hX]; exact Hv5.out.map.lt)
              have H0 := Lib.hid (show ∀ q, (Value.slice az L.length cz).ownBlock = some q → q ≠ X from fun q hq e => by have := (Hv5.out.seen.lt q hq).2; omega)
              have H1 := Lib.hid (show ∀ q, (Value.slice ai its.length ci).ownBlock = some q → q ≠ X from fun q hq e => by have := (Hv5.out.items.lt q hq).2; omega)
              have H2 := Lib.hid (show ∀ q, (Value.slice ag gs.length cg).ownBlock = some q → q ≠ X from fun q hq e => by have := (Hv5.out.gone.lt q hq).2; omega)
              have Hv6 := Lib.hid (Hv5.out.kept hk6)
              have Hv6e := Lib.hid hv6
              have HXR := Lib.hid (show ¬ X = w.heap.size + 1 by have := HMX.out; have := Hv5.out.hM; omega)
              clear hv6 hk6 z0 z1 z2 hov5 HDq
              have hr0 := fnum_any v6 (w.heap.size + 1) F av cap b _ Hv6.out.rd (HB.out _ Hv6.out.bel).1 (HB.out _ Hv6.out.bel).2
              rw [Hx1.out] at hr0
              dsimp only at hr0
              have HR := Lib.hid hr0
              clear hr0
              go_wp2_with fail
              rw [← Hv6e.out]
              refine HR.out.mono ?_
              rintro e v7 ⟨rfl, hR8, hov7⟩
              have Hv7 := Lib.hid (Hv6.out.read hov7 hR8)
              clear HR hR8
              clear hX
              have kk := Hk6.out.keep (hov7.block _ Hk6.out.lt HXR.out)
              have e1 : v7.cell? ⟨X, 1, none⟩ = some (.int .i64 0) := kk.cell 1
              have f1 := kk.free 1
              obtain ⟨v7s, hnw⟩ : ∃ q, q = v7.setCell ⟨X, 1, none⟩ (.int .i64 x1) := ⟨_, rfl⟩
              have HKv7s := Lib.hid (show Blk v7s X [.string ⟨t.toArray⟩, .int .i64 x1, .int .i64 0] 94 by rw [hnw]; exact kk.set 1 _)
              have Hv7s := Lib.hid (Hv7.out.far HMX.out H0.out H1.out H2.out 1 (.int .i64 x1))
              rw [← hnw] at Hv7s
              have Hv7se := Lib.hid hnw
              clear kk hnw hov7
              have hr0 := fnum_any v7s (w.heap.size + 1) F av cap b _ Hv7s.out.rd (HB.out _ Hv7s.out.bel).1 (HB.out _ Hv7s.out.bel).2
              rw [Hx2.out] at hr0
              dsimp only at hr0
              have HR := Lib.hid hr0
              clear hr0
              go_wp2_with fail
              rw [← Hv7se.out]
              refine HR.out.mono ?_
              rintro e v8 ⟨rfl, hR8, hov8⟩
              have Hv8 := Lib.hid (Hv7s.out.read hov8 hR8)
              clear HR hR8
              clear e1 f1
              have kk := HKv7s.out.keep (hov8.block _ HKv7s.out.lt HXR.out)
              have e2 : v8.cell? ⟨X, 2, none⟩ = some (.int .i64 0) := kk.cell 2
              have f2 := kk.free 2
              obtain ⟨v10, hnw⟩ : ∃ q, q = v8.setCell ⟨X, 2, none⟩ (.int .i64 x2) := ⟨_, rfl⟩
              have HKv10 := Lib.hid (show Blk v10 X [.string ⟨t.toArray⟩, .int .i64 x1, .int .i64 x2] 94 by rw [hnw]; exact kk.set 2 _)
              have Hv10 := Lib.hid (Hv8.out.far HMX.out H0.out H1.out H2.out 2 (.int .i64 x2))
              rw [← hnw] at Hv10
              have Hv10e := Lib.hid hnw
              clear kk hnw hov8
              obtain ⟨i0, t1, t2, t3, t4⟩ := info_parts infoGoR
              obtain ⟨va, v11, hr, hown, hgr⟩ := run_append_one (P := Tryz.prog) v10 (M + 1) 24 94 Tryz.underlying24 t1 t2 t3 t4 rfl (by decide) (.slice ag gs.length cg) gs.length _ Hv10.out.gone #[.string ⟨t.toArray⟩, .int .i64 x1, .int .i64 x2] rfl (by simp [Value.oneCell']) (by have := Hsumg.out; have := Hl.out; unfold maxLen; omega) (by have := Hsumg.out; have := Hl.out; omega) Hv10.out.map.lt
              obtain ⟨a5, c5, rfl⟩ := own_shape hown
              have hDz := Hv10.out.kept (kept_alloc v10 (.cells #[.string ⟨t.toArray⟩, .int .i64 x1, .int .i64 x2] 94))
              have hD11 := hDz.gon (x := ⟨t, x1, x2⟩) hgr hown
              have hm11 := hDz.map.grownNe hDz.gone (by decide) hgr
              have d1 : v11.cell? ⟨M, 2, none⟩ = some (.slice ag gs.length cg) := hm11.cell 2
              have g1 := hm11.free 2
              obtain ⟨v12, hv12⟩ : ∃ v12, v12 = v11.setCell ⟨M, 2, none⟩ (.slice a5 (gs.length + 1) c5) := ⟨_, rfl⟩
              rw [← hv12] at hD11
              have m1 : v10.cell? ⟨M, 2, none⟩ = some (.slice ag gs.length cg) := Hv10.out.map.cell 2
              obtain ⟨k0, k1, k2⟩ := cell3 HKv10.out
              have hzs : v10.heap.size = v8.heap.size := by rw [Hv10e.out]; simp [World.setCell]
              rw [hzs] at hr
              rw [Hv10e.out] at m1 k0 k1 k2 hr
              have HD12 := Lib.hid hD11; have Hv12 := Lib.hid hv12
              clear hown hgr hm11 hD11 hv12 t1 t2 t3 t4 hzs hDz
              go_wp2_with fail
              rw [← Hv12.out]
              go_roundw
              case rel => exact ⟨j + 1, _, a5, c5, s3, by omega, by go_num, Hstep.out, fun x hx => by
                rcases List.mem_append.1 hx with h | h
                · exact HGB.out x h
                · rw [List.mem_singleton.1 h]; exact Hit.out.2.mono (by have := Hsumg.out; omega), by have := Hsumg.out; have := Hit.out.1; rw [List.length_append, List.length_singleton]; omega, HD12.out⟩
              case measure => first | (simp [intOf]; done) | (simp [intOf]; omega)
        have hjI : (j : Int) < (n1 : Int) := by omega
        obtain ⟨nr, hnr⟩ : ∃ nr, n1 - j = nr + 1 := ⟨n1 - j - 1, by omega⟩
        cases bad with
        | true =>
          obtain rfl : sq = none := Hst.out
          have Hd2 := Lib.hid (show dec2 b = (its, none) by rw [← Hmany.out, manyL_none])
          clear Hmany
          go_wp2_with fail
          obtain ⟨⟨n0g, s0g⟩, hn0⟩ : ∃ p, numS (none : RdSt) = p := ⟨_, rfl⟩
          have hnb := numS_bnd (none : RdSt)
          have hsz0 := (numS_sz (none : RdSt)).1
          rw [hn0] at hnb hsz0
          dsimp only at hnb hsz0
          obtain ⟨n2, rfl⟩ := Int.eq_ofNat_of_zero_le hnb.1
          have Hsz1 := Lib.hid (show szS s0g ≤ b.length + 1 by have := Hsum.out; omega)
          have Hdec3 := Lib.hid (show manyL goneS n2 ([], s0g) = dec3 b by unfold dec3; rw [Hd2.out]; dsimp only; rw [hn0]; rfl)
          have hn2b : n2 ≤ 1099511627776 := by omega
          clear z0 z1 z2
          have hr0 := fnum_any wr (w.heap.size + 1) F av cap b _ HDq.out.rd (HB.out _ HDq.out.bel).1 (HB.out _ HDq.out.bel).2
          rw [hn0] at hr0
          dsimp only at hr0
          have HR := Lib.hid hr0
          clear hr0
          go_wp2_with fail
          skip
          refine HR.out.mono ?_
          rintro e y5 ⟨rfl, hR8, hoy5⟩
          have Hy5 := Lib.hid (HDq.out.read hoy5 hR8)
          clear HR hR8
          clear hnb hsz0 hn0 HDq hoy5
          go_wp2_with fail
          go_loopw [10] (fun i wz => ∃ (j : Nat) (gs : List RGo) (ag : Option Addr) (cg : Nat) (sg : RdSt), j ≤ n2 ∧ i = .int .i64 (j : Int) ∧ manyL goneS (n2 - j) (gs, sg) = dec3 b ∧ (∀ x ∈ gs, GoB (b.length + 1) x) ∧ gs.length + szS sg ≤ b.length + 1 ∧ FDec w M av cap b wz L its gs az cz ai ci ag cg sg) (fun i _ => n2 - (intOf i).toNat)
          case atStart => exact ⟨0, [], none, 0, s0g, by omega, rfl, Hdec3.out, nofun, by simpa using Hsz1.out, Hy5.out⟩
          case round =>
            obtain ⟨j, gs, ag, cg, sg, hjn, rfl, hmany, hGB, hsumg, hD⟩ := hrel
            obtain ⟨kk, bad, hrd, hkk, hst⟩ := id hD.rd
            obtain ⟨z0, z1, z2⟩ := cell3 hrd
            have Hmany := Lib.hid hmany; have HGB := Lib.hid hGB; have Hsumg := Lib.hid hsumg; have HDq := Lib.hid hD; have Hst := Lib.hid hst; have Hkk := Lib.hid hkk
            clear hmany hGB hsumg hD hrd hkk hst
            by_cases hjn1 : j = n2
            · subst hjn1
              have Hd3 := Lib.hid (show dec3 b = (gs, sg) by rw [← Hmany.out, Nat.sub_self]; rfl)
              clear Hmany hjn
              cases bad with
              | true =>
                obtain rfl : sg = none := Hst.out
                have Hdr := Lib.hid (show decR b = (.empty, 5) by unfold decR; rw [if_neg]; rw [Hd3.out]; exact fun h => nomatch h.1)
                have pb : ∀ w', Later wr.drew w' → w'.cell? ⟨w.heap.size + 1, 2, none⟩ = some (.bool true) := fun w' hh => laterC z2 hh
                have HDd := Lib.hid (HDq.out.kept (W' := wr.drew) ((Below.refl wr.heap.size wr).drew))
                go_wp2_with fail
                refine wp_region_can Later [(0, true), (1, true), (2, true), (3, true), (4, true), (5, true), (6, true), (7, true), (8, true), (9, true), (10, true), (11, true), (12, true), (13, true), (14, true), (15, false), (16, true), (17, true), (18, true), (19, true), (22, true), (23, true), (20, false), (21, true), (24, true), (25, true)] (by kernel_rfl) (by kernel_rfl) later_refl later_trans ?_
                repeat (first
                  | (refine can_yes (v := ?_) rfl (wanted_none rfl) (fun w' hC => ?_) (fun K hK => ?_); rotate_left; (focus (go_simp; (try simp (disch := omega) only [IntWalk.i64_in]); first | done | exact rfl)); go_simp; (try simp (disch := omega) only [IntWalk.i64_in]); refine hK _ ?_; clear hK K)
                  | (refine can_guard rfl (fun A B hA hB => ?_); go_simp; first | (refine hA ⟨?_, fun w' hC => ?_, fun K hK => ?_⟩; rotate_left; (focus (go_simp; (try simp (disch := omega) only [IntWalk.i64_in]); first | done | exact rfl)); go_simp; (try simp (disch := omega) only [IntWalk.i64_in]); refine hK _ ?_; clear hK K hA hB A B) | (refine hB (fun K hK => ?_); go_simp; (try simp (disch := omega) only [IntWalk.i64_in]); refine hK _ ?_; clear hK K hA hB A B))
                  | (refine can_guard_go rfl (fun A B hA hB => ?_); go_simp; refine hB (fun K hK => ?_); go_simp; (try simp (disch := omega) only [IntWalk.i64_in]); refine hK _ ?_; clear hK K hA hB A B))
                refine can_nil ?_
                clear pb z0 z1 z2 HDq
                obtain ⟨wd, hwd⟩ : ∃ q, q = wr.drew := ⟨_, rfl⟩
                rw [← hwd] at HDd ⊢
                clear hwd
                obtain ⟨wf, hwf, hblk, hbf⟩ := fin3 HDd.out.res HDd.out.bel (Nat.le_refl _) (.slice none 0 0) (.slice none 0 0) (.slice none 0 0)
                obtain ⟨y0, y1, y2⟩ := cell3 HDd.out.res
                have f0 := HDd.out.res.free 0
                have f1 := HDd.out.res.free 1
                have f2 := HDd.out.res.free 2
                have Q := Lib.hid (cell3 hblk)
                have Hbf := Lib.hid hbf; have Hwf := Lib.hid hwf
                clear hwf hblk hbf
                go_wp2_with fail
                rw [← Hwf.out]
                obtain ⟨q0, q1, q2⟩ := Q.out
                exact bodyPost_ret (v := .tuple #[nilV, .int .i64 5]) (by simp [results, Tryz.results74, go_sem, q0, q1, q2, nilV]) rfl ⟨_, by rw [Hdr.out], by rw [Hdr.out]; exact (own_nil _ _).map bnd_empty, Hbf.out⟩
              | false =>
                obtain rfl : sg = some (b.drop kk) := Hst.out
                have pb : ∀ w', Later wr.drew w' → w'.cell? ⟨w.heap.size + 1, 2, none⟩ = some (.bool false) := fun w' hh => laterC z2 hh
                have HDd := Lib.hid (HDq.out.kept (W' := wr.drew) ((Below.refl wr.heap.size wr).drew))
                by_cases hkb : kk = n
                case neg =>
                  have pa : ∀ w', Later wr.drew w' → w'.cell? ⟨w.heap.size + 1, 1, none⟩ = some (.int .i64 (kk : Int)) := fun w' hh => laterC z1 hh
                  have hkbI : ¬ (kk : Int) = (n : Int) := by omega
                  have hkbB : ((kk : Int) == (n : Int)) = false := beq_eq_false_iff_ne.2 hkbI
                  have hkbN : ((kk : Int) != (n : Int)) = true := by simp [hkbI]
                  have Hdr := Lib.hid (show decR b = (.empty, 5) by
                    unfold decR; rw [if_neg]; rw [Hd3.out]
                    intro h
                    have h1 := congrArg List.length (Option.some.inj h.1)
                    have := Hkk.out
                    have := Hn.out
                    simp at h1
                    omega)
                  clear hkb
                  go_wp2_with fail
                  refine wp_region_can Later [(0, true), (1, true), (2, true), (3, true), (4, true), (5, true), (6, true), (7, true), (8, true), (9, true), (10, true), (11, true), (12, true), (13, true), (14, true), (15, false), (16, true), (17, true), (18, true), (19, true), (22, true), (23, true), (20, false), (21, true), (24, true), (25, true)] (by kernel_rfl) (by kernel_rfl) later_refl later_trans ?_
                  repeat (first
                    | (refine can_yes (v := ?_) rfl (wanted_none rfl) (fun w' hC => ?_) (fun K hK => ?_); rotate_left; (focus (go_simp; (try simp (disch := omega) only [IntWalk.i64_in]); first | done | exact rfl)); go_simp; (try simp (disch := omega) only [IntWalk.i64_in]); refine hK _ ?_; clear hK K)
                    | (refine can_guard rfl (fun A B hA hB => ?_); go_simp; first | (refine hA ⟨?_, fun w' hC => ?_, fun K hK => ?_⟩; rotate_left; (focus (go_simp; (try simp (disch := omega) only [IntWalk.i64_in]); first | done | exact rfl)); go_simp; (try simp (disch := omega) only [IntWalk.i64_in]); refine hK _ ?_; clear hK K hA hB A B) | (refine hB (fun K hK => ?_); go_simp; (try simp (disch := omega) only [IntWalk.i64_in]); refine hK _ ?_; clear hK K hA hB A B))
                    | (refine can_guard_go rfl (fun A B hA hB => ?_); go_simp; refine hB (fun K hK => ?_); go_simp; (try simp (disch := omega) only [IntWalk.i64_in]); refine hK _ ?_; clear hK K hA hB A B))
                  refine can_nil ?_
                  clear pb pa z0 z1 z2 HDq hkbI hkbB hkbN
                  obtain ⟨wd, hwd⟩ : ∃ q, q = wr.drew := ⟨_, rfl⟩
                  rw [← hwd] at HDd ⊢
                  clear hwd
                  obtain ⟨wf, hwf, hblk, hbf⟩ := fin3 HDd.out.res HDd.out.bel (Nat.le_refl _) (.slice none 0 0) (.slice none 0 0) (.slice none 0 0)
                  obtain ⟨y0, y1, y2⟩ := cell3 HDd.out.res
                  have f0 := HDd.out.res.free 0
                  have f1 := HDd.out.res.free 1
                  have f2 := HDd.out.res.free 2
                  have Q := Lib.hid (cell3 hblk)
                  have Hbf := Lib.hid hbf; have Hwf := Lib.hid hwf
                  clear hwf hblk hbf
                  go_wp2_with fail
                  rw [← Hwf.out]
                  obtain ⟨q0, q1, q2⟩ := Q.out
                  exact bodyPost_ret (v := .tuple #[nilV, .int .i64 5]) (by simp [results, Tryz.results74, go_sem, q0, q1, q2, nilV]) rfl ⟨_, by rw [Hdr.out], by rw [Hdr.out]; exact (own_nil _ _).map bnd_empty, Hbf.out⟩
                case pos =>
                  have pa : ∀ w', Later wr.drew w' → w'.cell? ⟨w.heap.size + 1, 1, none⟩ = some (.int .i64 (n : Int)) := fun w' hh => by rw [← hkb]; exact laterC z1 hh
                  rw [hkb] at z1
                  have Hdm := Lib.hid (show decM b = ⟨L, its, gs⟩ by unfold decM; rw [Hd1.out, Hd2.out, Hd3.out])
                  have Hd0 := Lib.hid (show (dec3 b).2 = some [] by rw [Hd3.out, hkb, ← Hn.out]; simp)
                  have hbnd : ∀ x ∈ L, 0 ≤ x ∧ x ≤ 1099511627776 := fun x hx => by
                    have := seenL_bnd 8 ([], some b) nofun x
                    have e : seenL 8 ([], some b) = (L, st) := Hd1.out
                    rw [e] at this
                    exact this hx
                  have hmv := HDd.out.mapV hbnd HIB.out HGB.out (by have := Hl.out; omega)
                  rw [← Hdm.out] at hmv
                  have hki : (∀ x ∈ (decM b).items, x.key.length ≤ 1000000000) ∧ (∀ x ∈ (decM b).gone, x.key.length ≤ 1000000000) := by
                    rw [Hdm.out]
                    exact ⟨fun x hx => by have := (HIB.out x hx).1; have := Hl.out; omega, fun x hx => by have := (HGB.out x hx).1; have := Hl.out; omega⟩
                  obtain ⟨ok, hok⟩ : ∃ ok, validR (decM b) = ok := ⟨_, rfl⟩
                  have hV := rvalid2_any wr.drew _ _ (decM b) hmv hki.1 hki.2
                  rw [hok] at hV
                  have hallB : ∀ w', Later wr.drew w' → Below w.heap.size w w' := fun w' hh => HDd.out.bel.trans (hh.mono HDd.out.bel.size)
                  obtain ⟨c0, c1, c2⟩ := cell3 HDq.out.map
                  have pm0 : ∀ w', Later wr.drew w' → w'.cell? ⟨M, 0, none⟩ = _ := fun w' hh => laterC c0 hh
                  have pm1 : ∀ w', Later wr.drew w' → w'.cell? ⟨M, 1, none⟩ = _ := fun w' hh => laterC c1 hh
                  have pm2 : ∀ w', Later wr.drew w' → w'.cell? ⟨M, 2, none⟩ = _ := fun w' hh => laterC c2 hh
                  have ps : ∀ w', Later wr.drew w' → (convert 57 9 (.slice av n cap)).run Tryz.prog w' = .ok (.string ⟨b.toArray⟩) w' := fun w' hh => by
                    have := run_strB (HB.out w' (hallB w' hh)).1
                    rwa [Hn.out] at this
                  have HV := Lib.hid hV; have Hmv := Lib.hid hmv; have Hok := Lib.hid hok; have HallB := Lib.hid hallB
                  clear hkb hbnd hmv hki hok hV hallB c0 c1 c2
                  go_wp2_with fail
                  refine wp_region_can Later [(0, true), (1, true), (2, true), (3, true), (4, true), (5, true), (6, true), (7, true), (8, true), (9, true), (10, true), (11, true), (12, true), (13, true), (14, true), (15, false), (16, true), (17, true), (18, true), (19, true), (22, true), (23, true), (20, false), (21, true), (24, true), (25, true)] (by kernel_rfl) (by kernel_rfl) later_refl later_trans ?_
                  repeat (first
                    | (refine can_yes (v := ?_) rfl (wanted_none rfl) (fun w' hC => ?_) (fun K hK => ?_); rotate_left; (focus (go_simp; (try simp (disch := omega) only [IntWalk.i64_in]); first | done | exact rfl)); go_simp; (try simp (disch := omega) only [IntWalk.i64_in]); refine hK _ ?_; clear hK K)
                    | (refine can_guard rfl (fun A B hA hB => ?_); go_simp; first | (refine hA ⟨?_, fun w' hC => ?_, fun K hK => ?_⟩; rotate_left; (focus (go_simp; (try simp (disch := omega) only [IntWalk.i64_in]); first | done | exact rfl)); go_simp; (try simp (disch := omega) only [IntWalk.i64_in]); refine hK _ ?_; clear hK K hA hB A B) | (refine hB (fun K hK => ?_); go_simp; (try simp (disch := omega) only [IntWalk.i64_in]); refine hK _ ?_; clear hK K hA hB A B))
                    | (refine can_guard_go rfl (fun A B hA hB => ?_); go_simp; refine hB (fun K hK => ?_); go_simp; (try simp (disch := omega) only [IntWalk.i64_in]); refine hK _ ?_; clear hK K hA hB A B))
                  refine can_go rfl rfl (fun KK hK => ?_)
                  go_simp
                  refine HV.out.mono ?_
                  rintro e w8 ⟨rfl, hb8⟩
                  refine ⟨_, rfl, hb8, hK _ _ ?_⟩
                  clear hK KK HV
                  have HD8 := Lib.hid (HDd.out.kept hb8)
                  go_simp
                  cases ok with
                  | false =>
                    have Hdr := Lib.hid (show decR b = (.empty, 5) by unfold decR; rw [if_neg]; rw [Hok.out]; exact fun h => nomatch h.2)
                    repeat (first
                      | (refine can_yes (v := ?_) rfl (wanted_none rfl) (fun w' hC => ?_) (fun K hK => ?_); rotate_left; (focus (go_simp; (try simp (disch := omega) only [IntWalk.i64_in]); first | done | exact rfl)); go_simp; (try simp (disch := omega) only [IntWalk.i64_in]); refine hK _ ?_; clear hK K)
                      | (refine can_guard rfl (fun A B hA hB => ?_); go_simp; first | (refine hA ⟨?_, fun w' hC => ?_, fun K hK => ?_⟩; rotate_left; (focus (go_simp; (try simp (disch := omega) only [IntWalk.i64_in]); first | done | exact rfl)); go_simp; (try simp (disch := omega) only [IntWalk.i64_in]); refine hK _ ?_; clear hK K hA hB A B) | (refine hB (fun K hK => ?_); go_simp; (try simp (disch := omega) only [IntWalk.i64_in]); refine hK _ ?_; clear hK K hA hB A B))
                      | (refine can_guard_go rfl (fun A B hA hB => ?_); go_simp; refine hB (fun K hK => ?_); go_simp; (try simp (disch := omega) only [IntWalk.i64_in]); refine hK _ ?_; clear hK K hA hB A B))
                    refine can_nil ?_
                    clear pb pa pm0 pm1 pm2 ps z0 z1 z2 HDq HDd hb8
                    obtain ⟨wf, hwf, hblk, hbf⟩ := fin3 HD8.out.res HD8.out.bel (Nat.le_refl _) (.slice none 0 0) (.slice none 0 0) (.slice none 0 0)
                    obtain ⟨y0, y1, y2⟩ := cell3 HD8.out.res
                    have f0 := HD8.out.res.free 0
                    have f1 := HD8.out.res.free 1
                    have f2 := HD8.out.res.free 2
                    have Q := Lib.hid (cell3 hblk)
                    have Hbf := Lib.hid hbf; have Hwf := Lib.hid hwf
                    clear hwf hblk hbf
                    go_wp2_with fail
                    rw [← Hwf.out]
                    obtain ⟨q0, q1, q2⟩ := Q.out
                    exact bodyPost_ret (v := .tuple #[nilV, .int .i64 5]) (by simp [results, Tryz.results74, go_sem, q0, q1, q2, nilV]) rfl ⟨_, by rw [Hdr.out], by rw [Hdr.out]; exact (own_nil _ _).map bnd_empty, Hbf.out⟩
                  | true =>
                    have Hdr := Lib.hid (show decR b = (decM b, 0) by unfold decR; rw [if_pos ⟨Hd0.out, Hok.out⟩])
                    replace pm0 : ∀ w', Later w8 w' → _ := fun w' hh => pm0 w' (later_trans _ _ _ hb8 hh)
                    replace pm1 : ∀ w', Later w8 w' → _ := fun w' hh => pm1 w' (later_trans _ _ _ hb8 hh)
                    replace pm2 : ∀ w', Later w8 w' → _ := fun w' hh => pm2 w' (later_trans _ _ _ hb8 hh)
                    replace ps : ∀ w', Later w8 w' → _ := fun w' hh => ps w' (later_trans _ _ _ hb8 hh)
                    clear pb pa
                    have hmv8 := Hmv.out.later hb8 (Nat.le_refl _)
                    have hC := refCode_any w8 _ _ (decM b) hmv8 (codable_of_formed (valid_formed Hok.out) (valid_lens Hok.out).2.1 (valid_lens Hok.out).2.2.1)
                    rw [dec_code Hd0.out] at hC
                    have HC := Lib.hid hC; have Hmv8 := Lib.hid hmv8
                    clear hC hmv8 z0 z1 z2 HDq HDd hb8
                    repeat (first
                      | (refine can_yes (v := ?_) rfl (wanted_none rfl) (fun w' hC => ?_) (fun K hK => ?_); rotate_left; (focus (go_simp; (try simp (disch := omega) only [IntWalk.i64_in]); first | done | exact rfl)); go_simp; (try simp (disch := omega) only [IntWalk.i64_in]); refine hK _ ?_; clear hK K)
                      | (refine can_guard rfl (fun A B hA hB => ?_); go_simp; first | (refine hA ⟨?_, fun w' hC => ?_, fun K hK => ?_⟩; rotate_left; (focus (go_simp; (try simp (disch := omega) only [IntWalk.i64_in]); first | done | exact rfl)); go_simp; (try simp (disch := omega) only [IntWalk.i64_in]); refine hK _ ?_; clear hK K hA hB A B) | (refine hB (fun K hK => ?_); go_simp; (try simp (disch := omega) only [IntWalk.i64_in]); refine hK _ ?_; clear hK K hA hB A B))
                      | (refine can_guard_go rfl (fun A B hA hB => ?_); go_simp; refine hB (fun K hK => ?_); go_simp; (try simp (disch := omega) only [IntWalk.i64_in]); refine hK _ ?_; clear hK K hA hB A B))
                    refine can_go rfl rfl (fun KK hK => ?_)
                    go_simp
                    refine HC.out.mono ?_
                    rintro e w9 ⟨⟨r, rfl, hr⟩, hb9⟩
                    refine ⟨_, rfl, hb9, hK _ _ ?_⟩
                    clear hK KK HC pm0 pm1 pm2 ps
                    have pr : ∀ w', Later w9 w' → (convert 57 9 r).run Tryz.prog w' = .ok (.string ⟨b.toArray⟩) w' := fun w' hh => run_strB (hr.keep (w' := w') fun q _ hlt => hh.block q hlt)
                    have HD9 := Lib.hid (HD8.out.kept hb9)
                    have hmv9 := Hmv8.out.later hb9 (Nat.le_refl _)
                    obtain ⟨wf, hwf, hblk, hbf⟩ := fin3 HD9.out.res HD9.out.bel (Nat.le_refl _) (.slice az L.length cz) (.slice ai its.length ci) (.slice ag gs.length cg)
                    have hmf := fin_map (.slice az L.length cz) (.slice ai its.length ci) (.slice ag gs.length cg) hmv9
                    rw [← hwf] at hmf
                    have Hbf := Lib.hid hbf; have Hwf := Lib.hid hwf; have Hmf := Lib.hid hmf; have Q := Lib.hid (cell3 hblk)
                    clear hwf hblk hbf hmf hmv9 hr hb9 HD8
                    go_simp
                    repeat (first
                      | (refine can_yes (v := ?_) rfl (wanted_none rfl) (fun w' hC => ?_) (fun K hK => ?_); rotate_left; (focus (go_simp; (try simp (disch := omega) only [IntWalk.i64_in]); first | done | exact rfl)); go_simp; (try simp (disch := omega) only [IntWalk.i64_in]); refine hK _ ?_; clear hK K)
                      | (refine can_guard rfl (fun A B hA hB => ?_); go_simp; first | (refine hA ⟨?_, fun w' hC => ?_, fun K hK => ?_⟩; rotate_left; (focus (go_simp; (try simp (disch := omega) only [IntWalk.i64_in]); first | done | exact rfl)); go_simp; (try simp (disch := omega) only [IntWalk.i64_in]); refine hK _ ?_; clear hK K hA hB A B) | (refine hB (fun K hK => ?_); go_simp; (try simp (disch := omega) only [IntWalk.i64_in]); refine hK _ ?_; clear hK K hA hB A B))
                      | (refine can_guard_go rfl (fun A B hA hB => ?_); go_simp; refine hB (fun K hK => ?_); go_simp; (try simp (disch := omega) only [IntWalk.i64_in]); refine hK _ ?_; clear hK K hA hB A B))
                    refine can_nil ?_
                    clear pr
                    obtain ⟨y0, y1, y2⟩ := cell3 HD9.out.res
                    have f0 := HD9.out.res.free 0
                    have f1 := HD9.out.res.free 1
                    have f2 := HD9.out.res.free 2
                    obtain ⟨c0, c1, c2⟩ := cell3 HD9.out.map
                    go_wp2_with fail
                    rw [← Hwf.out]
                    obtain ⟨q0, q1, q2⟩ := Q.out
                    exact bodyPost_ret (v := .tuple #[.agg #[.slice az L.length cz, .slice ai its.length ci, .slice ag gs.length cg], .int .i64 0]) (by simp [results, Tryz.results74, go_sem, q0, q1, q2]) rfl ⟨_, by rw [Hdr.out], by rw [Hdr.out]; exact Hmf.out, Hbf.out⟩
            have hjI : (j : Int) < (n2 : Int) := by omega
            obtain ⟨nr, hnr⟩ : ∃ nr, n2 - j = nr + 1 := ⟨n2 - j - 1, by omega⟩
            cases bad with
            | true =>
              obtain rfl : sg = none := Hst.out
              have Hd3 := Lib.hid (show dec3 b = (gs, none) by rw [← Hmany.out, manyL_none])
              clear Hmany
              have Hdr := Lib.hid (show decR b = (.empty, 5) by unfold decR; rw [if_neg]; rw [Hd3.out]; exact fun h => nomatch h.1)
              have pb : ∀ w', Later wr.drew w' → w'.cell? ⟨w.heap.size + 1, 2, none⟩ = some (.bool true) := fun w' hh => laterC z2 hh
              have HDd := Lib.hid (HDq.out.kept (W' := wr.drew) ((Below.refl wr.heap.size wr).drew))
              go_wp2_with fail
              refine wp_region_can Later [(0, true), (1, true), (2, true), (3, true), (4, true), (5, true), (6, true), (7, true), (8, true), (9, true), (10, true), (11, true), (12, true), (13, true), (14, true), (15, false), (16, true), (17, true), (18, true), (19, true), (22, true), (23, true), (20, false), (21, true), (24, true), (25, true)] (by kernel_rfl) (by kernel_rfl) later_refl later_trans ?_
              repeat (first
                | (refine can_yes (v := ?_) rfl (wanted_none rfl) (fun w' hC => ?_) (fun K hK => ?_); rotate_left; (focus (go_simp; (try simp (disch := omega) only [IntWalk.i64_in]); first | done | exact rfl)); go_simp; (try simp (disch := omega) only [IntWalk.i64_in]); refine hK _ ?_; clear hK K)
                | (refine can_guard rfl (fun A B hA hB => ?_); go_simp; first | (refine hA ⟨?_, fun w' hC => ?_, fun K hK => ?_⟩; rotate_left; (focus (go_simp; (try simp (disch := omega) only [IntWalk.i64_in]); first | done | exact rfl)); go_simp; (try simp (disch := omega) only [IntWalk.i64_in]); refine hK _ ?_; clear hK K hA hB A B) | (refine hB (fun K hK => ?_); go_simp; (try simp (disch := omega) only [IntWalk.i64_in]); refine hK _ ?_; clear hK K hA hB A B))
                | (refine can_guard_go rfl (fun A B hA hB => ?_); go_simp; refine hB (fun K hK => ?_); go_simp; (try simp (disch := omega) only [IntWalk.i64_in]); refine hK _ ?_; clear hK K hA hB A B))
              refine can_nil ?_
              clear pb z0 z1 z2 HDq
              obtain ⟨wd, hwd⟩ : ∃ q, q = wr.drew := ⟨_, rfl⟩
              rw [← hwd] at HDd ⊢
              clear hwd
              obtain ⟨wf, hwf, hblk, hbf⟩ := fin3 HDd.out.res HDd.out.bel (Nat.le_refl _) (.slice none 0 0) (.slice none 0 0) (.slice none 0 0)
              obtain ⟨y0, y1, y2⟩ := cell3 HDd.out.res
              have f0 := HDd.out.res.free 0
              have f1 := HDd.out.res.free 1
              have f2 := HDd.out.res.free 2
              have Q := Lib.hid (cell3 hblk)
              have Hbf := Lib.hid hbf; have Hwf := Lib.hid hwf
              clear hwf hblk hbf
              go_wp2_with fail
              rw [← Hwf.out]
              obtain ⟨q0, q1, q2⟩ := Q.out
              exact bodyPost_ret (v := .tuple #[nilV, .int .i64 5]) (by simp [results, Tryz.results74, go_sem, q0, q1, q2, nilV]) rfl ⟨_, by rw [Hdr.out], by rw [Hdr.out]; exact (own_nil _ _).map bnd_empty, Hbf.out⟩
            | false =>
              obtain ⟨bb, hbb⟩ : ∃ bb, b.drop kk = bb := ⟨_, rfl⟩
              obtain rfl : sg = some bb := by rw [← hbb]; exact Hst.out
              have Hit := Lib.hid (goneS_sz bb)
              have Hstep := Lib.hid (show manyL goneS (n2 - (j + 1)) (gs ++ [(goneS (some bb)).1], (goneS (some bb)).2) = dec3 b by
                rw [← Hmany.out, hnr, manyL_some, show n2 - (j + 1) = nr by omega])
              obtain ⟨⟨t, s1⟩, ht⟩ : ∃ p, textS (some bb) = p := ⟨_, rfl⟩
              obtain ⟨⟨x1, s2⟩, hx1⟩ : ∃ p, numS s1 = p := ⟨_, rfl⟩
              obtain ⟨⟨x2, s3⟩, hx2⟩ : ∃ p, numS s2 = p := ⟨_, rfl⟩
              have hit : goneS (some bb) = (⟨t, x1, x2⟩, s3) := by unfold goneS; rw [ht]; dsimp only; rw [hx1]; dsimp only; rw [hx2]
              rw [hit] at Hit Hstep
              have Ht := Lib.hid ht; have Hx1 := Lib.hid hx1; have Hx2 := Lib.hid hx2
              clear hbb ht hx1 hx2 hit Hst Hmany hnr
              have hr0 := ftext_any wr (w.heap.size + 1) F av cap b _ HDq.out.rd (HB.out _ HDq.out.bel).1 (HB.out _ HDq.out.bel).2
              rw [Ht.out] at hr0
              dsimp only at hr0
              have HR := Lib.hid hr0
              clear hr0
              go_wp2_with fail
              skip
              refine HR.out.mono ?_
              rintro e v5 ⟨rfl, hR8, hov5⟩
              have Hv5 := Lib.hid (HDq.out.read hov5 hR8)
              clear HR hR8
              obtain ⟨v6, hv6⟩ : ∃ v6, v6 = v5.alloc (.cells #[.string ⟨t.toArray⟩, .int .i64 0, .int .i64 0] 94) := ⟨_, rfl⟩
              have hk6 : Below v5.heap.size v5 v6 := by rw [hv6]; exact kept_alloc _ _
              obtain ⟨X, hX⟩ : ∃ X, v5.heap.size = X := ⟨_, rfl⟩
              have Hk6 := Lib.hid (show Blk v6 X [.string ⟨t.toArray⟩, .int .i64 0, .int .i64 0] 94 by rw [hv6, ← hX]; exact Blk.new _ _ _)
              have HMX := Lib.hid (show M < X by rw [← hX]; exact Hv5.out.map.lt)
              have H0 := Lib.hid (show ∀ q, (Value.slice az L.length cz).ownBlock = some q → q ≠ X from fun q hq e => by have := (Hv5.out.seen.lt q hq).2; omega)
              have H1 := Lib.hid (show ∀ q, (Value.slice ai its.length ci).ownBlock = some q → q ≠ X from fun q hq e => by have := (Hv5.out.items.lt q hq).2; omega)
              have H2 := Lib.hid (show ∀ q, (Value.slice ag gs.length cg).ownBlock = some q → q ≠ X from fun q hq e => by have := (Hv5.out.gone.lt q hq).2; omega)
              have Hv6 := Lib.hid (Hv5.out.kept hk6)
              have Hv6e := Lib.hid hv6
              have HXR := Lib.hid (show ¬ X = w.heap.size + 1 by have := HMX.out; have := Hv5.out.hM; omega)
              clear hv6 hk6 z0 z1 z2 hov5 HDq
              have hr0 := fnum_any v6 (w.heap.size + 1) F av cap b _ Hv6.out.rd (HB.out _ Hv6.out.bel).1 (HB.out _ Hv6.out.bel).2
              rw [Hx1.out] at hr0
              dsimp only at hr0
              have HR := Lib.hid hr0
              clear hr0
              go_wp2_with fail
              rw [← Hv6e.out]
              refine HR.out.mono ?_
              rintro e v7 ⟨rfl, hR8, hov7⟩
              have Hv7 := Lib.hid (Hv6.out.read hov7 hR8)
              clear HR hR8
              clear hX
              have kk := Hk6.out.keep (hov7.block _ Hk6.out.lt HXR.out)
              have e1 : v7.cell? ⟨X, 1, none⟩ = some (.int .i64 0) := kk.cell 1
              have f1 := kk.free 1
              obtain ⟨v7s, hnw⟩ : ∃ q, q = v7.setCell ⟨X, 1, none⟩ (.int .i64 x1) := ⟨_, rfl⟩
              have HKv7s := Lib.hid (show Blk v7s X [.string ⟨t.toArray⟩, .int .i64 x1, .int .i64 0] 94 by rw [hnw]; exact kk.set 1 _)
              have Hv7s := Lib.hid (Hv7.out.far HMX.out H0.out H1.out H2.out 1 (.int .i64 x1))
              rw [← hnw] at Hv7s
              have Hv7se := Lib.hid hnw
              clear kk hnw hov7
              have hr0 := fnum_any v7s (w.heap.size + 1) F av cap b _ Hv7s.out.rd (HB.out _ Hv7s.out.bel).1 (HB.out _ Hv7s.out.bel).2
              rw [Hx2.out] at hr0
              dsimp only at hr0
              have HR := Lib.hid hr0
              clear hr0
              go_wp2_with fail
              rw [← Hv7se.out]
              refine HR.out.mono ?_
              rintro e v8 ⟨rfl, hR8, hov8⟩
              have Hv8 := Lib.hid (Hv7s.out.read hov8 hR8)
              clear HR hR8
              clear e1 f1
              have kk := HKv7s.out.keep (hov8.block _ HKv7s.out.lt HXR.out)
              have e2 : v8.cell? ⟨X, 2, none⟩ = some (.int .i64 0) := kk.cell 2
              have f2 := kk.free 2
              obtain ⟨v10, hnw⟩ : ∃ q, q = v8.setCell ⟨X, 2, none⟩ (.int .i64 x2) := ⟨_, rfl⟩
              have HKv10 := Lib.hid (show Blk v10 X [.string ⟨t.toArray⟩, .int .i64 x1, .int .i64 x2] 94 by rw [hnw]; exact kk.set 2 _)
              have Hv10 := Lib.hid (Hv8.out.far HMX.out H0.out H1.out H2.out 2 (.int .i64 x2))
              rw [← hnw] at Hv10
              have Hv10e := Lib.hid hnw
              clear kk hnw hov8
              obtain ⟨i0, t1, t2, t3, t4⟩ := info_parts infoGoR
              obtain ⟨va, v11, hr, hown, hgr⟩ := run_append_one (P := Tryz.prog) v10 (M + 1) 24 94 Tryz.underlying24 t1 t2 t3 t4 rfl (by decide) (.slice ag gs.length cg) gs.length _ Hv10.out.gone #[.string ⟨t.toArray⟩, .int .i64 x1, .int .i64 x2] rfl (by simp [Value.oneCell']) (by have := Hsumg.out; have := Hl.out; unfold maxLen; omega) (by have := Hsumg.out; have := Hl.out; omega) Hv10.out.map.lt
              obtain ⟨a5, c5, rfl⟩ := own_shape hown
              have hDz := Hv10.out.kept (kept_alloc v10 (.cells #[.string ⟨t.toArray⟩, .int .i64 x1, .int .i64 x2] 94))
              have hD11 := hDz.gon (x := ⟨t, x1, x2⟩) hgr hown
              have hm11 := hDz.map.grownNe hDz.gone (by decide) hgr
              have d1 : v11.cell? ⟨M, 2, none⟩ = some (.slice ag gs.length cg) := hm11.cell 2
              have g1 := hm11.free 2
              obtain ⟨v12, hv12⟩ : ∃ v12, v12 = v11.setCell ⟨M, 2, none⟩ (.slice a5 (gs.length + 1) c5) := ⟨_, rfl⟩
              rw [← hv12] at hD11
              have m1 : v10.cell? ⟨M, 2, none⟩ = some (.slice ag gs.length cg) := Hv10.out.map.cell 2
              obtain ⟨k0, k1, k2⟩ := cell3 HKv10.out
              have hzs : v10.heap.size = v8.heap.size := by rw [Hv10e.out]; simp [World.setCell]
              rw [hzs] at hr
              rw [Hv10e.out] at m1 k0 k1 k2 hr
              have HD12 := Lib.hid hD11; have Hv12 := Lib.hid hv12
              clear hown hgr hm11 hD11 hv12 t1 t2 t3 t4 hzs hDz
              go_wp2_with fail
              rw [← Hv12.out]
              go_roundw
              case rel => exact ⟨j + 1, _, a5, c5, s3, by omega, by go_num, Hstep.out, fun x hx => by
                rcases List.mem_append.1 hx with h | h
                · exact HGB.out x h
                · rw [List.mem_singleton.1 h]; exact Hit.out.2.mono (by have := Hsumg.out; omega), by have := Hsumg.out; have := Hit.out.1; rw [List.length_append, List.length_singleton]; omega, HD12.out⟩
              case measure => first | (simp [intOf]; done) | (simp [intOf]; omega)
        | false =>
          obtain ⟨bb, hbb⟩ : ∃ bb, b.drop kk = bb := ⟨_, rfl⟩
          obtain rfl : sq = some bb := by rw [← hbb]; exact Hst.out
          have Hit := Lib.hid (itemS_sz bb)
          have Hstep := Lib.hid (show manyL itemS (n1 - (j + 1)) (its ++ [(itemS (some bb)).1], (itemS (some bb)).2) = dec2 b by
            rw [← Hmany.out, hnr, manyL_some, show n1 - (j + 1) = nr by omega])
          obtain ⟨⟨t, s1⟩, ht⟩ : ∃ p, textS (some bb) = p := ⟨_, rfl⟩
          obtain ⟨⟨x1, s2⟩, hx1⟩ : ∃ p, numS s1 = p := ⟨_, rfl⟩
          obtain ⟨⟨x2, s3⟩, hx2⟩ : ∃ p, numS s2 = p := ⟨_, rfl⟩
          obtain ⟨⟨x3, s4⟩, hx3⟩ : ∃ p, numS s3 = p := ⟨_, rfl⟩
          have hit : itemS (some bb) = (⟨t, x1, x2, x3⟩, s4) := by unfold itemS; rw [ht]; dsimp only; rw [hx1]; dsimp only; rw [hx2]; dsimp only; rw [hx3]
          rw [hit] at Hit Hstep
          have Ht := Lib.hid ht; have Hx1 := Lib.hid hx1; have Hx2 := Lib.hid hx2; have Hx3 := Lib.hid hx3
          clear hbb ht hx1 hx2 hx3 hit Hst Hmany hnr
          have hr0 := ftext_any wr (w.heap.size + 1) F av cap b _ HDq.out.rd (HB.out _ HDq.out.bel).1 (HB.out _ HDq.out.bel).2
          rw [Ht.out] at hr0
          dsimp only at hr0
          have HR := Lib.hid hr0
          clear hr0
          go_wp2_with fail
          skip
          refine HR.out.mono ?_
          rintro e v5 ⟨rfl, hR8, hov5⟩
          have Hv5 := Lib.hid (HDq.out.read hov5 hR8)
          clear HR hR8
          obtain ⟨v6, hv6⟩ : ∃ v6, v6 = v5.alloc (.cells #[.string ⟨t.toArray⟩, .int .i64 0, .int .i64 0, .int .i64 0] 92) := ⟨_, rfl⟩
          have hk6 : Below v5.heap.size v5 v6 := by rw [hv6]; exact kept_alloc _ _
          obtain ⟨X, hX⟩ : ∃ X, v5.heap.size = X := ⟨_, rfl⟩
          have Hk6 := Lib.hid (show Blk v6 X [.string ⟨t.toArray⟩, .int .i64 0, .int .i64 0, .int .i64 0] 92 by rw [hv6, ← hX]; exact Blk.new _ _ _)
          have HMX := Lib.hid (show M < X by rw [← hX]; exact Hv5.out.map.lt)
          have H0 := Lib.hid (show ∀ q, (Value.slice az L.length cz).ownBlock = some q → q ≠ X from fun q hq e => by have := (Hv5.out.seen.lt q hq).2; omega)
          have H1 := Lib.hid (show ∀ q, (Value.slice ai its.length ci).ownBlock = some q → q ≠ X from fun q hq e => by have := (Hv5.out.items.lt q hq).2; omega)
          have H2 := Lib.hid (show ∀ q, (Value.slice none ([] : List RGo).length 0).ownBlock = some q → q ≠ X from nofun)
          have Hv6 := Lib.hid (Hv5.out.kept hk6)
          have Hv6e := Lib.hid hv6
          have HXR := Lib.hid (show ¬ X = w.heap.size + 1 by have := HMX.out; have := Hv5.out.hM; omega)
          clear hv6 hk6 z0 z1 z2 hov5 HDq
          have hr0 := fnum_any v6 (w.heap.size + 1) F av cap b _ Hv6.out.rd (HB.out _ Hv6.out.bel).1 (HB.out _ Hv6.out.bel).2
          rw [Hx1.out] at hr0
          dsimp only at hr0
          have HR := Lib.hid hr0
          clear hr0
          go_wp2_with fail
          rw [← Hv6e.out]
          refine HR.out.mono ?_
          rintro e v7 ⟨rfl, hR8, hov7⟩
          have Hv7 := Lib.hid (Hv6.out.read hov7 hR8)
          clear HR hR8
          clear hX
          have kk := Hk6.out.keep (hov7.block _ Hk6.out.lt HXR.out)
          have e1 : v7.cell? ⟨X, 1, none⟩ = some (.int .i64 0) := kk.cell 1
          have f1 := kk.free 1
          obtain ⟨v7s, hnw⟩ : ∃ q, q = v7.setCell ⟨X, 1, none⟩ (.int .i64 x1) := ⟨_, rfl⟩
          have HKv7s := Lib.hid (show Blk v7s X [.string ⟨t.toArray⟩, .int .i64 x1, .int .i64 0, .int .i64 0] 92 by rw [hnw]; exact kk.set 1 _)
          have Hv7s := Lib.hid (Hv7.out.far HMX.out H0.out H1.out H2.out 1 (.int .i64 x1))
          rw [← hnw] at Hv7s
          have Hv7se := Lib.hid hnw
          clear kk hnw hov7
          have hr0 := fnum_any v7s (w.heap.size + 1) F av cap b _ Hv7s.out.rd (HB.out _ Hv7s.out.bel).1 (HB.out _ Hv7s.out.bel).2
          rw [Hx2.out] at hr0
          dsimp only at hr0
          have HR := Lib.hid hr0
          clear hr0
          go_wp2_with fail
          rw [← Hv7se.out]
          refine HR.out.mono ?_
          rintro e v8 ⟨rfl, hR8, hov8⟩
          have Hv8 := Lib.hid (Hv7s.out.read hov8 hR8)
          clear HR hR8
          clear e1 f1
          have kk := HKv7s.out.keep (hov8.block _ HKv7s.out.lt HXR.out)
          have e2 : v8.cell? ⟨X, 2, none⟩ = some (.int .i64 0) := kk.cell 2
          have f2 := kk.free 2
          obtain ⟨v8s, hnw⟩ : ∃ q, q = v8.setCell ⟨X, 2, none⟩ (.int .i64 x2) := ⟨_, rfl⟩
          have HKv8s := Lib.hid (show Blk v8s X [.string ⟨t.toArray⟩, .int .i64 x1, .int .i64 x2, .int .i64 0] 92 by rw [hnw]; exact kk.set 2 _)
          have Hv8s := Lib.hid (Hv8.out.far HMX.out H0.out H1.out H2.out 2 (.int .i64 x2))
          rw [← hnw] at Hv8s
          have Hv8se := Lib.hid hnw
          clear kk hnw hov8
          have hr0 := fnum_any v8s (w.heap.size + 1) F av cap b _ Hv8s.out.rd (HB.out _ Hv8s.out.bel).1 (HB.out _ Hv8s.out.bel).2
          rw [Hx3.out] at hr0
          dsimp only at hr0
          have HR := Lib.hid hr0
          clear hr0
          go_wp2_with fail
          rw [← Hv8se.out]
          refine HR.out.mono ?_
          rintro e v9 ⟨rfl, hR8, hov9⟩
          have Hv9 := Lib.hid (Hv8s.out.read hov9 hR8)
          clear HR hR8
          clear e2 f2
          have kk := HKv8s.out.keep (hov9.block _ HKv8s.out.lt HXR.out)
          have e3 : v9.cell? ⟨X, 3, none⟩ = some (.int .i64 0) := kk.cell 3
          have f3 := kk.free 3
          obtain ⟨v10, hnw⟩ : ∃ q, q = v9.setCell ⟨X, 3, none⟩ (.int .i64 x3) := ⟨_, rfl⟩
          have HKv10 := Lib.hid (show Blk v10 X [.string ⟨t.toArray⟩, .int .i64 x1, .int .i64 x2, .int .i64 x3] 92 by rw [hnw]; exact kk.set 3 _)
          have Hv10 := Lib.hid (Hv9.out.far HMX.out H0.out H1.out H2.out 3 (.int .i64 x3))
          rw [← hnw] at Hv10
          have Hv10e := Lib.hid hnw
          clear kk hnw hov9
          obtain ⟨i0, t1, t2, t3, t4⟩ := info_parts infoItR
          obtain ⟨va, v11, hr, hown, hgr⟩ := run_append_one (P := Tryz.prog) v10 (M + 1) 23 92 Tryz.underlying23 t1 t2 t3 t4 rfl (by decide) (.slice ai its.length ci) its.length _ Hv10.out.items #[.string ⟨t.toArray⟩, .int .i64 x1, .int .i64 x2, .int .i64 x3] rfl (by simp [Value.oneCell']) (by have := Hsum.out; have := Hl.out; unfold maxLen; omega) (by have := Hsum.out; have := Hl.out; omega) Hv10.out.map.lt
          obtain ⟨a5, c5, rfl⟩ := own_shape hown
          have hDz := Hv10.out.kept (kept_alloc v10 (.cells #[.string ⟨t.toArray⟩, .int .i64 x1, .int .i64 x2, .int .i64 x3] 92))
          have hD11 := hDz.item (x := ⟨t, x1, x2, x3⟩) hgr hown
          have hm11 := hDz.map.grownNe hDz.items (by decide) hgr
          have d1 : v11.cell? ⟨M, 1, none⟩ = some (.slice ai its.length ci) := hm11.cell 1
          have g1 := hm11.free 1
          obtain ⟨v12, hv12⟩ : ∃ v12, v12 = v11.setCell ⟨M, 1, none⟩ (.slice a5 (its.length + 1) c5) := ⟨_, rfl⟩
          rw [← hv12] at hD11
          have m1 : v10.cell? ⟨M, 1, none⟩ = some (.slice ai its.length ci) := Hv10.out.map.cell 1
          obtain ⟨k0, k1, k2, k3⟩ := cell4 HKv10.out
          have hzs : v10.heap.size = v9.heap.size := by rw [Hv10e.out]; simp [World.setCell]
          rw [hzs] at hr
          rw [Hv10e.out] at m1 k0 k1 k2 k3 hr
          have HD12 := Lib.hid hD11; have Hv12 := Lib.hid hv12
          clear hown hgr hm11 hD11 hv12 t1 t2 t3 t4 hzs hDz
          go_wp2_with fail
          rw [← Hv12.out]
          go_roundw
          case rel => exact ⟨j + 1, _, a5, c5, s4, by omega, by go_num, Hstep.out, fun x hx => by
            rcases List.mem_append.1 hx with h | h
            · exact HIB.out x h
            · rw [List.mem_singleton.1 h]; exact Hit.out.2.mono (by have := Hsum.out; omega), by have := Hsum.out; have := Hit.out.1; rw [List.length_append, List.length_singleton]; omega, HD12.out⟩
          case measure => first | (simp [intOf]; done) | (simp [intOf]; omega)
end Go.Proofs.YtkkacnfpdafadaaGreatDoor
