/- The law JournalKeeps. No condition. -/
import Derived.Test.YtmimplmeccoahaaDoorKeepG
namespace Go.Proofs.YtmimplmeccoahaaDoor
open Go.RowKit Go.ChangeShapes Go.WideShapes Go.ChangeAt
set_option linter.unusedVariables false
set_option maxRecDepth 20000
attribute [local go_sem] opC upC

theorem act_any (w : World) (lo N x n g c : Nat) (hL : LifeAtN w lo N x n g c) (hq : Quarter w) (kind an am : Int) (v : Value) (l : List UInt8) (G : Blks) (hB : Bytes G w v l) (hG : ∀ b, G b → b < lo) (hl : l.length ≤ 3000) (hkd : 0 ≤ kind ∧ kind ≤ 255) (han : 0 ≤ an ∧ an ≤ 65535) (hgb : g + 1 < 4294967295) (hcb : c + 65536 < 4611686018427387904) :
    Calls Tryd.prog 25 #[.pointer (some ⟨x, 0, none⟩), .agg #[.int .u8 kind, .int .u16 an, .int .u16 am, v]] w fun e w' => e = .returned (.bool true) ∧ LifeAt w' lo x n (g + 1) (c + 65536) ∧ Only (between lo N) w w' ∧ w.heap.size < w'.heap.size := by
  have h8 : kind % 8 = 0 ∨ kind % 8 = 1 ∨ kind % 8 = 2 ∨ kind % 8 = 3 ∨ kind % 8 = 4 ∨ kind % 8 = 5 ∨ kind % 8 = 6 ∨ kind % 8 = 7 := by omega
  have more : ∀ {e : Ending} {w' : World}, (e = .returned (.bool true) ∧ LifeAt w' lo x n g c ∧ Only (between lo N) w w' ∧ w.heap.size < w'.heap.size) → (e = .returned (.bool true) ∧ LifeAt w' lo x n (g + 1) (c + 65536) ∧ Only (between lo N) w w' ∧ w.heap.size < w'.heap.size) :=
    fun h => ⟨h.1, h.2.1.more (by omega) (by omega), h.2.2⟩
  rcases h8 with h | h | h | h | h | h | h | h
  · exact act_append w lo N x n g c hL hq kind an am v l G hB hG hl (.inl h) hkd hcb
  · exact act_append w lo N x n g c hL hq kind an am v l G hB hG hl (.inr (.inl h)) hkd hcb
  · exact act_append w lo N x n g c hL hq kind an am v l G hB hG hl (.inr (.inr h)) hkd hcb
  · exact act_replace w lo N x n g c hL hq kind an am v l G hB hG hl h hgb hkd hcb
  · exact (act_fail w lo N x n g c hL hq kind an am v l G hB h hkd han).mono fun e w' h => more h
  · exact (act_again w lo N x n g c hL hq kind an am v (.inl h) hkd).mono fun e w' h => more h
  · exact (act_up w lo N x n g c hL hq kind an am v h hkd).mono fun e w' h => more h
  · exact (act_again w lo N x n g c hL hq kind an am v (.inr h) hkd).mono fun e w' h => more h

/-- later worlds: blocks of the life may change until something new is there (the call of act), then nothing changes any more -/
def LaterK (lo N : Nat) (a b : World) : Prop := Only (between lo N) a b ∧ (N + 1 < a.heap.size → N + 1 < b.heap.size ∧ Later a b)
theorem laterK_refl (lo N : Nat) (a : World) : LaterK lo N a a := ⟨Only.refl _ _, fun h => ⟨h, later_refl a⟩⟩
theorem laterK_trans (lo N : Nat) (a b c : World) (h : LaterK lo N a b) (k : LaterK lo N b c) : LaterK lo N a c :=
  ⟨h.1.trans k.1 fun i hi => .inl hi, fun ha => ⟨(k.2 (h.2 ha).1).1, later_trans _ _ _ (h.2 ha).2 (k.2 (h.2 ha).1).2⟩⟩

def KeepRel (w0 : World) (lo lo0 x n len : Nat) (i : Value) (wr : World) : Prop :=
  ∃ k : Nat, k ≤ len ∧ i = .int .i64 (k : Int) ∧ LifeAt wr lo x n k (70000 * (k + 1)) ∧ Below lo0 w0 wr ∧ lo ≤ wr.heap.size

set_option maxRecDepth 100000 in
set_option maxHeartbeats 1500000 in
theorem JournalKeeps_walk (a0 : Int) (v1 : Value) (w : World) (w0 : (Lit.int .u8 a0).wf = true) (w1 : IsActs w v1) (hq : Quarter w) :
    Calls Tryd.prog 7 #[.int .u8 a0, v1] w fun e w' => e = .returned (.bool true) ∧ Below w.heap.size w w' := by
  have g0 := bounds_u8 w0
  clear w0
  have h0 : 0 < w.heap.size := by obtain ⟨t, fz, hh⟩ := hq; exact lt_of_block hh
  have hq' : ∀ {w' : World}, Below w.heap.size w w' → Quarter w' := fun hb => hq.keep (hb.block 0 h0)
  obtain ⟨A, hA⟩ := acts_of w1
  clear w1
  have hlight := light_any w w.heap.size v1 A hA (Nat.le_refl _)
  have HA0 := Lib.hid hA
  obtain ⟨va, vc, rfl, hA9, hx⟩ := hA
  obtain ⟨len, hlen⟩ : ∃ len, A.length = len := ⟨_, rfl⟩
  rw [hlen] at hA9 HA0 hlight ⊢
  have Hlen := Lib.hid hlen
  have Hx := Lib.hid hx
  have Hlight := Lib.hid hlight
  clear hx hlen hlight
  obtain ⟨N, hN⟩ : ∃ N : Nat, 8 + a0 % 40 = (N : Int) := Int.eq_ofNat_of_zero_le (by omega)
  have hN8 : 8 ≤ (N : Int) := by omega
  have hN47 : (N : Int) ≤ 47 := by omega
  have HN := Lib.hid hN
  clear hN
  go_enter Tryd.func7, Tryd.ntmps7
  go_wp2_with fail
  refine Hlight.out.mono ?_
  rintro e wl ⟨r, rfl, hr, hbl⟩
  cases r with
  | false =>
    have W := Lib.hid (works_any wl (hq' hbl))
    go_wp2_with fail
    refine W.out.mono ?_
    rintro e w' ⟨rfl, hb⟩
    go_wp2_with fail
    go_ret
    exact ⟨rfl, kept_trans hbl hb⟩
  | true =>
  obtain ⟨hlen60, hsh⟩ := hr rfl
  clear hr
  have hl60 : len ≤ 60 := by rw [← Hlen.out]; exact hlen60
  have Hsh := Lib.hid hsh
  clear hsh hlen60
  obtain ⟨wx, hwx⟩ : ∃ wx, wx = wl.alloc (.cells #[.pointer none, .pointer none, .slice none 0 0, .slice none 0 0, .bool false] 49) := ⟨_, rfl⟩
  have hbx : Below wl.heap.size wl wx := by rw [hwx]; exact kept_alloc _ _
  have hzx : wx.heap.size = wl.heap.size + 1 := by rw [hwx]; simp
  have hnx : Blk wx wl.heap.size [.pointer none, .pointer none, .slice none 0 0, .slice none 0 0, .bool false] 49 := by rw [hwx]; exact Blk.new _ _ _
  have hbls := hbl.size
  have hbx' : Below w.heap.size w wx := hbl.trans (hbx.mono hbls)
  have F := Lib.hid (fresh_V wx N (by omega) (by omega) (hq' hbx'))
  have Hwx := Lib.hid hwx; have Hnx := Lib.hid hnx; have Hzx := Lib.hid hzx
  clear hwx hnx hzx
  go_wp2_with fail
  rw [HN.out, ← Hwx.out]
  refine F.out.mono ?_
  rintro e w1 ⟨j, d, rfl, hU1, hb1⟩
  have hzx := Hzx.out
  have hn1 : Blk w1 wl.heap.size _ _ := Hnx.out.keep (hb1.block _ (by omega))
  have c0 := hn1.cell 0
  have c1 := hn1.cell 1
  simp at c0 c1
  have f0 := hn1.free 0
  have f1 := hn1.free 1
  have hn2 := (hn1.set 0 (.pointer (some ⟨d, 0, none⟩))).set 1 (.pointer (some ⟨j, 0, none⟩))
  obtain ⟨w2, hw2⟩ : ∃ w2, w2 = (w1.setCell ⟨wl.heap.size, 0, none⟩ (.pointer (some ⟨d, 0, none⟩))).setCell ⟨wl.heap.size, 1, none⟩ (.pointer (some ⟨j, 0, none⟩)) := ⟨_, rfl⟩
  have ho2 : Only (fun b => b = wl.heap.size) w1 w2 := by
    rw [hw2]
    exact (Only.setCell (Only.refl (fun b => b = wl.heap.size) w1) (p := ⟨wl.heap.size, 0, none⟩) (.inl (show wl.heap.size = wl.heap.size from rfl)) _).setCell (p := ⟨wl.heap.size, 1, none⟩) (.inl (show wl.heap.size = wl.heap.size from rfl)) _
  rw [← hw2] at hn2
  have e0 := hn2.cell 0
  have e1 := hn2.cell 1
  simp at e0 e1
  have hL2 : LifeAt w2 wl.heap.size wl.heap.size N 0 70000 := by
    obtain ⟨jk, S, k, h1, h2, h3, h4, h5, h6, h7, h8⟩ := hU1
    subst h1 h2
    have hz1 := hb1.size
    have hz2 := ho2.size
    refine ⟨⟨jk, upM S k, ⟨0, [], false⟩, none_, .slice none 0 0, .slice none 0 0, false⟩, ⟨hn2, h7.only ho2 fun b hb e => ?_, h8, nofun, ⟨none, 0, rfl, .inl rfl⟩, by omega, Nat.le_refl _, fun b hb => ?_, fun b hb => hb.elim, h5⟩, Nat.le_refl _, h6⟩
    · have := h4 b hb; omega
    · have := h4 b hb; exact ⟨by omega, by omega⟩
  have hb2 : Below w.heap.size w w2 := by
    have a : Below w.heap.size w w1 := hbx'.trans (hb1.mono (by omega))
    have := hb1.size
    exact a.trans (ho2.below (fun b e => by rw [e]; exact hbls) (by omega))
  have hlo2 : wl.heap.size ≤ w2.heap.size := by have := hb1.size; have := ho2.size; omega
  have Hw2 := Lib.hid hw2; have HL2 := Lib.hid hL2
  rw [hw2] at e0 e1
  clear F hU1 hn1 hn2 ho2 hw2 hL2 hzx hb1
  go_wp2_with fail
  rw [← Hw2.out]
  go_loopw [42] (fun i wr => KeepRel w wl.heap.size w.heap.size wl.heap.size N len i wr) (fun i _ => len - (intOf i).toNat)
  case atStart => exact ⟨0, by omega, rfl, HL2.out, hb2, hlo2⟩
  case round =>
    clear e0 e1 hb2 hlo2 HL2 Hw2 Hwx Hnx Hzx hbx hbx' c0 c1 f0 f1
    obtain ⟨k, hk, rfl, hL, hbw, hlo⟩ := hrel
    by_cases hkl : k < len
    · have hklI : (k : Int) < (len : Int) := by omega
      have hkA : k < A.length := by rw [Hlen.out]; exact hkl
      obtain ⟨b, off, rfl, hblt, hcc⟩ := Hx.out.resolve_left (by intro e; rw [e] at hkA; simp at hkA)
      obtain ⟨hkd, han, -, x, cc, c0, c1, c2, c3, hB⟩ := hcc k hkA
      have hl3 := Hsh.out A[k] (List.getElem_mem hkA)
      rw [← hbw.cell (p := ⟨b, off + k * 4, none⟩) hblt] at c0
      rw [← hbw.cell (p := ⟨b, off + k * 4 + 1, none⟩) hblt] at c1
      rw [← hbw.cell (p := ⟨b, off + k * 4 + 2, none⟩) hblt] at c2
      rw [← hbw.cell (p := ⟨b, off + k * 4 + 3, none⟩) hblt] at c3
      have hsz := hbw.size
      generalize A[k] = ak at *
      obtain ⟨kind, an, am, l⟩ := ak
      dsimp only at *
      obtain ⟨wa, hwa⟩ : ∃ wa, wa = wr.alloc (.cells #[.int .u8 kind, .int .u16 an, .int .u16 am, .slice x l.length cc] 32) := ⟨_, rfl⟩
      have ka : Below wr.heap.size wr wa := by rw [hwa]; exact kept_alloc _ _
      have za : wa.heap.size = wr.heap.size + 1 := by rw [hwa]; simp
      have na : Blk wa wr.heap.size [.int .u8 kind, .int .u16 an, .int .u16 am, .slice x l.length cc] 32 := by rw [hwa]; exact Blk.new _ _ _
      have hbwa : Below w.heap.size w wa := hbw.trans (ka.mono hsz)
      have hBa : Bytes (fun b => b < w.heap.size) wa.drew (.slice x l.length cc) l := hB.keep fun b hb _ => hbwa.block b hb
      have hq9 : Quarter wa.drew := hq' hbwa.drew
      have hLa : LifeAtN wa.drew wl.heap.size wr.heap.size wl.heap.size N k (70000 * (k + 1)) := (hL.toN.kept ka).kept (Below.refl _ _).drew
      have act := act_any wa.drew wl.heap.size wr.heap.size wl.heap.size N k (70000 * (k + 1)) hLa hq9 kind an am _ l _ hBa (fun b hb => by omega) hl3 hkd han (by omega) (by omega)
      have Act := Lib.hid act
      have lat : ∀ w', LaterK wl.heap.size wr.heap.size wa.drew w' → w'.heap[wr.heap.size]? = wa.heap[wr.heap.size]? := fun w' h => h.1.block _ (show wr.heap.size < wa.heap.size by omega) (by unfold between; omega)
      have s0 : ∀ w', LaterK wl.heap.size wr.heap.size wa.drew w' → w'.cell? ⟨wr.heap.size, 0, none⟩ = some (.int .u8 kind) := fun w' h => (na.keep (lat w' h)).cell 0
      have s1 : ∀ w', LaterK wl.heap.size wr.heap.size wa.drew w' → w'.cell? ⟨wr.heap.size, 1, none⟩ = some (.int .u16 an) := fun w' h => (na.keep (lat w' h)).cell 1
      have s2 : ∀ w', LaterK wl.heap.size wr.heap.size wa.drew w' → w'.cell? ⟨wr.heap.size, 2, none⟩ = some (.int .u16 am) := fun w' h => (na.keep (lat w' h)).cell 2
      have s3 : ∀ w', LaterK wl.heap.size wr.heap.size wa.drew w' → w'.cell? ⟨wr.heap.size, 3, none⟩ = some (.slice x l.length cc) := fun w' h => (na.keep (lat w' h)).cell 3
      have Hwa := Lib.hid hwa; have Hza := Lib.hid za; have Hbwa := Lib.hid hbwa
      clear act lat na za hwa hbwa hBa hLa hB hbw hL hsz hl3
      go_wp2_with fail
      refine wp_region_can (LaterK wl.heap.size wr.heap.size) [(0, true), (1, true), (2, false), (3, true), (4, true), (5, true), (6, true), (7, true), (8, true), (10, true), (11, true), (12, true), (13, true), (9, false), (14, false), (15, true), (16, true)] (by kernel_rfl) (by kernel_rfl) (laterK_refl _ _) (laterK_trans _ _) ?_
      rw [← Hwa.out]
      repeat (first
        | (refine can_yes (v := ?_) rfl (wanted_none rfl) (fun w' hC => ?_) (fun K hK => ?_); rotate_left; (focus (go_simp; first | done | exact rfl)); go_simp; refine hK _ ?_; clear hK K)
        | (refine can_guard rfl (fun A B hA hB => ?_); go_simp; first | (refine hA ⟨?_, fun w' hC => ?_, fun K hK => ?_⟩; rotate_left; (focus (go_simp; first | done | exact rfl)); go_simp; refine hK _ ?_; clear hK K hA hB A B) | (refine hB (fun K hK => ?_); go_simp; refine hK _ ?_; clear hK K hA hB A B))
        | (refine can_guard_go rfl (fun A B hA hB => ?_); go_simp; refine hB (fun K hK => ?_); go_simp; refine hK _ ?_; clear hK K hA hB A B))
      clear s0 s1 s2 s3 c0 c1 c2 c3
      refine can_go rfl rfl (fun KK hK => ?_)
      go_simp
      refine Act.out.mono ?_
      rintro e w3 ⟨rfl, hL3, ho3, hz3⟩
      have hz3' : wr.heap.size + 1 < w3.heap.size := by have := Hza.out; have : wa.heap.size < w3.heap.size := hz3; omega
      refine ⟨_, rfl, ⟨ho3, fun h => absurd h (by have := Hza.out; show ¬ wr.heap.size + 1 < wa.heap.size; omega)⟩, hK _ _ ?_⟩
      clear hK KK
      go_simp
      have hL3' := Lib.hid hL3
      obtain ⟨⟨jk, M, J, F, vm, vy, op⟩, ⟨hblk, hj, hI, hT, hR, hl0, hlx, hall, hfree, hn⟩, hgg, hcw⟩ := hL3
      dsimp only at *
      have hlen3 : J.L.length ≤ 65536 := by
        have h1 : takenL J.L ≤ halfN M.S.length := hj.room
        have h2 := length_le_taken J.L
        have h3 : M.S.length ≤ 65536 := hj.disk.le
        unfold halfN at h1
        omega
      have c1 := hblk.cell 1
      have c2 := hblk.cell 2
      simp at c1 c2
      have t1 : ∀ w', LaterK wl.heap.size wr.heap.size w3 w' → w'.cell? ⟨wl.heap.size, 1, none⟩ = some (.pointer (some ⟨jk.j, 0, none⟩)) := fun w' h => (hblk.keep ((h.2 hz3').2.block _ hblk.lt)).cell 1
      have t2 : ∀ w', LaterK wl.heap.size wr.heap.size w3 w' → w'.cell? ⟨wl.heap.size, 2, none⟩ = some vm := fun w' h => (hblk.keep ((h.2 hz3').2.block _ hblk.lt)).cell 2
      have HRec := Lib.hid (records_J w3 jk M J hj)
      obtain ⟨am', cm', rfl, -⟩ := id hR
      have HR := Lib.hid hR
      have Hlen3 := Lib.hid hlen3
      clear hblk hj hI hT hR hl0 hlx hall hfree hn hgg hcw c1 c2 hlen3 Act hz3
      repeat (first
        | (refine can_yes (v := ?_) rfl (wanted_none rfl) (fun w' hC => ?_) (fun K hK => ?_); rotate_left; (focus (go_simp; first | done | exact rfl)); go_simp; refine hK _ ?_; clear hK K)
        | (refine can_guard rfl (fun A B hA hB => ?_); go_simp; first | (refine hA ⟨?_, fun w' hC => ?_, fun K hK => ?_⟩; rotate_left; (focus (go_simp; first | done | exact rfl)); go_simp; refine hK _ ?_; clear hK K hA hB A B) | (refine hB (fun K hK => ?_); go_simp; refine hK _ ?_; clear hK K hA hB A B))
        | (refine can_guard_go rfl (fun A B hA hB => ?_); go_simp; refine hB (fun K hK => ?_); go_simp; refine hK _ ?_; clear hK K hA hB A B))
      refine can_go rfl rfl (fun KK hK => ?_)
      go_simp
      refine HRec.out.mono ?_
      rintro e w4 ⟨r, R4, rfl, hr4, -, hb4⟩
      refine ⟨_, rfl, ⟨Only.of_below hb4, fun _ => ⟨Nat.lt_of_lt_of_le hz3' hb4.size, hb4⟩⟩, hK _ _ ?_⟩
      clear hK KK
      go_simp
      have heq := equal_any w4 _ _ _ _ _ _ hr4.at (HR.out.keep (w' := w4) (fun b hb hlt => hb4.block b hlt) hb4.size).at (by have := Hlen3.out; omega) (by have := Hlen3.out; omega)
      rw [show decide (J.L = J.L) = true from by simp] at heq
      have Heq := Lib.hid heq
      clear heq hr4 HRec HR
      refine can_go rfl rfl (fun KK hK => ?_)
      go_simp
      refine Heq.out.mono ?_
      rintro e w5 ⟨rfl, m, rfl⟩
      refine ⟨_, rfl, ⟨Only.of_below (Below.drewN' (Below.refl _ _) m), fun h => ⟨h, Below.drewN' (Below.refl _ _) m⟩⟩, hK _ _ ?_⟩
      clear hK KK Heq t1 t2
      go_simp
      repeat (first
        | (refine can_yes (v := ?_) rfl (wanted_none rfl) (fun w' hC => ?_) (fun K hK => ?_); rotate_left; (focus (go_simp; first | done | exact rfl)); go_simp; refine hK _ ?_; clear hK K)
        | (refine can_guard rfl (fun A B hA hB => ?_); go_simp; first | (refine hA ⟨?_, fun w' hC => ?_, fun K hK => ?_⟩; rotate_left; (focus (go_simp; first | done | exact rfl)); go_simp; refine hK _ ?_; clear hK K hA hB A B) | (refine hB (fun K hK => ?_); go_simp; refine hK _ ?_; clear hK K hA hB A B))
        | (refine can_guard_go rfl (fun A B hA hB => ?_); go_simp; refine hB (fun K hK => ?_); go_simp; refine hK _ ?_; clear hK K hA hB A B))
      refine can_nil ?_
      have hb5 : Below w3.heap.size w3 (w4.drewN m) := Below.drewN' hb4 m
      generalize w4.drewN m = w5 at *
      have hbw5 : Below w.heap.size w w5 := by
        have a : Below w.heap.size w w3 := Hbwa.out.drew.trans (ho3.below (fun b hb => by have := hb.1; omega) (show w.heap.size ≤ wa.heap.size from Hbwa.out.size))
        exact kept_trans a hb5
      have hL5 := hL3'.out.kept hb5
      have hlo5 : wl.heap.size ≤ w5.heap.size := by have := hb5.size; omega
      go_wp2_with fail
      go_roundw
      case rel => exact ⟨k + 1, by omega, by go_num, hL5.more (Nat.le_refl _) (by omega), hbw5, hlo5⟩
      case measure => simp [intOf]; omega
    · have hklI : ¬ (k : Int) < (len : Int) := by omega
      have hlt0 : wl.heap.size ≤ wr.heap.size := hlo
      have hag := again_any wr wl.heap.size wr.heap.size wl.heap.size N k (70000 * (k + 1)) hL.toN (hq' hbw)
      have Hag := Lib.hid hag
      have hbwz := hbw.size
      clear hag hL
      go_wp2_with fail
      refine Hag.out.mono ?_
      rintro e w3 ⟨rfl, hL3, ho3⟩
      have hz3 := ho3.size
      have hb3 : Below w.heap.size w w3 := hbw.trans (ho3.below (fun b hb => by have := hb.1; omega) hbwz)
      have Hag3 := Lib.hid (again_any w3 wl.heap.size w3.heap.size wl.heap.size N k (70000 * (k + 1)) hL3.toN (hq' hb3))
      have hb3z := hb3.size
      clear Hag hL3 ho3
      go_wp2_with fail
      refine Hag3.out.mono ?_
      rintro e w4 ⟨rfl, -, ho4⟩
      have hb4 : Below w.heap.size w w4 := hb3.trans (ho4.below (fun b hb => by have := hb.1; omega) hb3z)
      have W := Lib.hid (works_any w4 (hq' hb4))
      clear Hag3 ho4
      go_wp2_with fail
      refine W.out.mono ?_
      rintro e w5 ⟨rfl, hb5⟩
      go_wp2_with fail
      go_ret
      exact ⟨rfl, kept_trans hb4 hb5⟩
end Go.Proofs.YtmimplmeccoahaaDoor
