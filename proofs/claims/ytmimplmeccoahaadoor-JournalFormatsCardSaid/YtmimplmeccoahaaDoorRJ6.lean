/- The reference journal: Open. -/
import Derived.Test.YtmimplmeccoahaaDoorRJ4
import Derived.Test.YtmimplmeccoahaaDoorRefDisk8
import Derived.Test.YtmimplmeccoahaaDoorJL2
namespace Go.Proofs.YtmimplmeccoahaaDoor
open Go.RowKit
set_option linter.unusedVariables false
set_option maxRecDepth 20000
attribute [local go_sem ↓] seal_append
attribute [local go_sem] opC upC

/-- the blocks of a reference journal: itself, its disk, its records -/
structure RJK where
  j : Nat
  K : RK
  O : Blks
def RJK.all (k : RJK) : Blks := fun b => b = k.j ∨ k.K.all b ∨ k.O b

structure RJAt (w : World) (k : RJK) (M : MD) (J : MJ) : Prop where
  ref : RefAt w k.K M
  recs : ∃ ra rc R, RJBlk w k.j k.K.d J.g (.slice ra J.L.length rc) J.dead ∧ RowsIn R w 0 (.slice ra J.L.length rc) J.L ∧ (∀ b, (Value.slice ra J.L.length rc).ownBlock = some b ∨ R b → k.O b)
  apart : ¬ k.K.all k.j ∧ (∀ b, k.O b → b ≠ k.j ∧ ¬ k.K.all b ∧ b < w.heap.size)
  size8 : 8 ≤ M.S.length
  room : takenL J.L ≤ halfN M.S.length
  gen : J.g < 4294967296
  lens : ∀ b ∈ J.L, b.length ≤ 65536

theorem RJAt.keep {w w' : World} {k : RJK} {M : MD} {J : MJ} (h : RJAt w k M J) (hk : ∀ b, k.all b → w'.heap[b]? = w.heap[b]?) (hs : w.heap.size ≤ w'.heap.size) : RJAt w' k M J := by
  obtain ⟨h1, ⟨ra, rc, R, h2, h3, h4⟩, h5, h6, h7, h8, h9⟩ := h
  exact ⟨h1.keep (fun b hb => hk b (.inr (.inl hb))) hs, ⟨ra, rc, R, Blk.keep h2 (hk _ (.inl rfl)), h3.keep fun b hb _ => hk b (.inr (.inr (h4 b hb))), h4⟩, ⟨h5.1, fun b hb => ⟨(h5.2 b hb).1, (h5.2 b hb).2.1, Nat.lt_of_lt_of_le (h5.2 b hb).2.2 hs⟩⟩, h6, h7, h8, h9⟩
theorem RJAt.lt {w : World} {k : RJK} {M : MD} {J : MJ} (h : RJAt w k M J) : ∀ b, k.all b → b < w.heap.size := by
  rintro b (rfl | hb | hb)
  · obtain ⟨ra, rc, R, h2, _⟩ := h.recs; exact Blk.lt h2
  · exact h.ref.lt b hb
  · exact (h.apart.2 b hb).2.2
theorem RJAt.kept {w w' : World} {k : RJK} {M : MD} {J : MJ} (h : RJAt w k M J) (hb : Below w.heap.size w w') : RJAt w' k M J := h.keep (fun b hf => hb.block b (h.lt b hf)) hb.size
theorem RJAt.only {w w' : World} {k : RJK} {M : MD} {J : MJ} {F : Blks} (h : RJAt w k M J) (ho : Only F w w') (hd : ∀ b, k.all b → ¬ F b) : RJAt w' k M J := h.keep (fun b hb => ho.block b (h.lt b hb) (hd b hb)) ho.size

def lenOf (rb : Nat) (wr : World) : Nat := match wr.cell? ⟨rb, 2, none⟩ with
  | some (.slice _ n _) => n
  | _ => 0

def AddRelR (w : World) (rb d g : Nat) (S : List (List UInt8)) (v : Value) (wr : World) : Prop :=
  ∃ (ra : Option Addr) (rc : Nat) (R : Blks) (L : List (List UInt8)), v = v ∧ RJBlk wr rb d g (.slice ra L.length rc) false ∧ RowsIn R wr (rb + 1) (.slice ra L.length rc) L ∧
    (∀ b, R b → rb < b ∧ b < wr.heap.size) ∧ takenL L ≤ halfN S.length ∧ (∀ b ∈ L, b.length ≤ 65536) ∧
    recordsM S g (halfN S.length + 1) 0 0 = L ++ recordsM S g (halfN S.length + 1 - L.length) L.length (takenL L) ∧ Below w.heap.size w wr

def ROpenPost (w : World) (K : RK) (M : MD) (r : MJ ⊕ Int) (e : Ending) (w' : World) : Prop :=
  (match r with
    | .inr c => e = .returned (.tuple #[.pointer none, .int .i64 c])
    | .inl J => ∃ jk, e = .returned (.tuple #[.pointer (some ⟨jk.j, 0, none⟩), .int .i64 0]) ∧ jk.K = K ∧ RJAt w' jk M J ∧ ∀ b, jk.all b → K.all b ∨ w.heap.size ≤ b) ∧ Below w.heap.size w w'

theorem RowsIn.lower {R : Blks} {w : World} {lo lo' : Nat} {v : Value} {S : List (List UInt8)} (h : RowsIn R w lo v S) (hl : lo' ≤ lo) : RowsIn R w lo' v S := by
  obtain ⟨vals, ⟨h1, h2⟩, h3, h4⟩ := h
  refine ⟨vals, ⟨h1, ?_⟩, h3, h4⟩
  rcases h2 with h2 | ⟨g, cap, cur, rfl, hlo, r⟩
  · exact .inl h2
  · exact .inr ⟨g, cap, cur, rfl, by omega, r⟩

theorem ropen_nil (w : World) :
    Calls Tryd.prog 63 #[.pointer none] w fun e w' => e = .returned (.tuple #[.pointer none, .int .i64 9]) ∧ w = w' := by
  go_enter Tryd.func63, Tryd.ntmps63
  go_wp2_with fail
  go_ret2
  exact ⟨rfl, rfl⟩

set_option maxRecDepth 100000 in
set_option maxHeartbeats 2000000 in
theorem ropen_any (w : World) (K : RK) (M : MD) (h : RefAt w K M) :
    Calls Tryd.prog 63 #[.pointer (some ⟨K.d, 0, none⟩)] w (ROpenPost w K M (openM M)) := by
  have hle := h.len
  obtain ⟨cap, hcap, c0, c1, -⟩ := h.row
  by_cases h8 : M.S.length < 8
  · have Hr := Lib.hid (show openM M = .inr 6 by unfold openM; rw [if_pos h8])
    have h8I : (M.S.length : Int) < 8 := by omega
    go_enter Tryd.func63, Tryd.ntmps63
    go_wp2_with fail
    go_ret2
    rw [Hr.out]
    exact ⟨rfl, Below.refl _ _⟩
  have h8I : ¬ (M.S.length : Int) < 8 := by omega
  by_cases hdown : M.down = true
  · have Hr := Lib.hid (show openM M = .inr 341 by unfold openM; rw [if_neg h8, if_pos hdown])
    rw [hdown] at c1
    go_enter Tryd.func63, Tryd.ntmps63
    go_wp2_with fail
    go_ret2
    rw [Hr.out]
    exact ⟨rfl, Below.refl _ _⟩
  have hdn : M.down = false := by simpa using hdown
  have Hr := Lib.hid (show openM M = match genM M.S with | none => .inr 340 | some g => .inl ⟨g, recordsM M.S g (halfN M.S.length + 1) 0 0, false⟩ by unfold openM; rw [if_neg h8, if_neg hdown]; rfl)
  rw [hdn] at c1
  clear hdown
  have HG := Lib.hid (rgen_any w K M h (by omega))
  have hgen := genM_eq M.S
  have hg32 := genS_lt M.S 2
  obtain ⟨st, hst⟩ : ∃ st, genS M.S 2 = st := ⟨_, rfl⟩
  rw [hst] at hgen hg32 HG
  obtain ⟨fd, g⟩ := st
  dsimp only at hgen hg32
  have hKlt := h.lt
  have Href := Lib.hid h
  cases fd with
  | false =>
    have hr := Hr.out
    rw [hgen] at hr
    have Hr2 := Lib.hid hr
    rw [show gv (false, g) = -1 from rfl] at HG
    clear hr hgen hst h
    go_enter Tryd.func63, Tryd.ntmps63
    go_wp2_with fail
    refine HG.out.mono ?_
    rintro e w1 ⟨rfl, hd1⟩
    go_wp2_with fail
    go_ret2
    rw [Hr2.out]
    exact ⟨rfl, hd1.below⟩
  | true =>
    have hr := Hr.out
    rw [hgen] at hr
    have Hr2 := Lib.hid hr
    rw [show gv (true, g) = (g : Int) from rfl] at HG
    clear hr hgen hst h
    go_enter Tryd.func63, Tryd.ntmps63
    go_wp2_with fail
    refine HG.out.mono ?_
    rintro e w1 ⟨rfl, hd1⟩
    have hb1 := hd1.below
    have hgI : ¬ ((g : Nat) : Int) < 0 := by omega
    obtain ⟨rb, hrb⟩ : ∃ rb, rb = w1.heap.size := ⟨_, rfl⟩
    have hj0 : RJBlk (w1.alloc (.cells #[.pointer (some ⟨K.d, 0, none⟩), .int .i64 (g : Int), .slice none 0 0, .bool false] 98)) rb K.d g (.slice none 0 0) false := by
      rw [hrb]
      exact Blk.new w1 #[.pointer (some ⟨K.d, 0, none⟩), .int .i64 (g : Int), .slice none 0 0, .bool false] 98
    have hk0 : Below w.heap.size w (w1.alloc (.cells #[.pointer (some ⟨K.d, 0, none⟩), .int .i64 (g : Int), .slice none 0 0, .bool false] 98)) := Below.alloc hb1 hb1.size _
    have hrl : w.heap.size ≤ rb := by have := hb1.size; omega
    have hrr : ∀ {w'}, Below w.heap.size w w' → RefAt w' K M := fun hb => Href.out.kept hb
    have HRB := Lib.hid hrb
    have hd1z : w1.heap.size = w.heap.size := by rw [hd1.heap]
    have Hd1z := Lib.hid hd1z
    clear c0 c1 hd1 hb1 hd1z
    go_wp2_with fail
    rw [← hrb]
    clear hrb
    go_loopw [28] (fun v wr => AddRelR w rb K.d g M.S v wr) (fun _ wr => halfN M.S.length + 1 - lenOf rb wr)
    case atStart => exact ⟨none, 0, none_, [], rfl, by simpa using hj0, RowsIn.nil _ _, fun b hb => hb.elim, by simp [takenL], by simp, by simp [takenL], hk0⟩
    case round =>
      clear hj0 hk0
      obtain ⟨ra, rc, R, L, -, hj, hrow, hR, htk, hlens, hrec, hbw⟩ := hrel
      have hLT := length_le_taken L
      have hH : halfN M.S.length ≤ 32768 := by unfold halfN; omega
      have hsz := hbw.size
      have hjl := Blk.lt hj
      have ht := rtaken_any wr.drew rb K.d g _ false (show RJBlk wr.drew rb K.d g _ false from hj) R L ((hrow.lower (Nat.zero_le _)).kept (Below.refl _ _).drew) (by omega) (by omega) hlens
      have hre := rrecord_any wr.drew K M ((hrr hbw).kept (Below.refl _ _).drew) (by omega) g L.length (takenL L) hg32 (by omega) (by omega)
      have Ht := Lib.hid ht; have Hre := Lib.hid hre
      have c2 : ∀ w', Later wr.drew w' → w'.cell? ⟨rb, 2, none⟩ = some (.slice ra L.length rc) := fun w' hh => later_cell (by simpa using hj.cell 2) hh
      clear ht hre
      go_wp2_with fail
      refine wp_region_can Later [(0, true), (1, true), (2, true), (3, true), (4, true), (5, true), (6, true), (7, true), (8, false), (9, false), (10, true), (11, true), (12, true), (13, true), (14, true)] (by kernel_rfl) (by kernel_rfl) later_refl later_trans ?_
      repeat (first
        | (refine can_yes (v := ?_) rfl (wanted_none rfl) (fun w' hC => ?_) (fun K hK => ?_); rotate_left; (focus (go_simp; first | done | exact rfl)); go_simp; refine hK _ ?_; clear hK K)
        | (refine can_guard rfl (fun A B hA hB => ?_); go_simp; first | (refine hA ⟨?_, fun w' hC => ?_, fun K hK => ?_⟩; rotate_left; (focus (go_simp; first | done | exact rfl)); go_simp; refine hK _ ?_; clear hK K hA hB A B) | (refine hB (fun K hK => ?_); go_simp; refine hK _ ?_; clear hK K hA hB A B))
        | (refine can_guard_go rfl (fun A B hA hB => ?_); go_simp; refine hB (fun K hK => ?_); go_simp; refine hK _ ?_; clear hK K hA hB A B))
      refine can_go rfl rfl (fun KK hK => ?_)
      go_simp
      refine Ht.out.mono ?_
      rintro e w' ⟨rfl, rfl⟩
      refine ⟨_, rfl, later_refl _, hK _ _ ?_⟩
      clear hK KK
      go_simp
      refine can_go rfl rfl (fun KK hK => ?_)
      go_simp
      refine Hre.out.mono ?_
      rintro e w2 ⟨hm, hb2⟩
      cases hrm : recordM M.S g L.length (takenL L) with
      | none =>
        rw [hrm] at hm
        dsimp only at hm
        subst hm
        refine ⟨_, rfl, hb2, hK _ _ ?_⟩
        clear hK KK c2 Ht Hre
        go_simp
        repeat (first
          | (refine can_yes (v := ?_) rfl (wanted_none rfl) (fun w' hC => ?_) (fun K hK => ?_); rotate_left; (focus (go_simp; first | done | exact rfl)); go_simp; refine hK _ ?_; clear hK K)
          | (refine can_guard rfl (fun A B hA hB => ?_); go_simp; first | (refine hA ⟨?_, fun w' hC => ?_, fun K hK => ?_⟩; rotate_left; (focus (go_simp; first | done | exact rfl)); go_simp; refine hK _ ?_; clear hK K hA hB A B) | (refine hB (fun K hK => ?_); go_simp; refine hK _ ?_; clear hK K hA hB A B))
          | (refine can_guard_go rfl (fun A B hA hB => ?_); go_simp; refine hB (fun K hK => ?_); go_simp; refine hK _ ?_; clear hK K hA hB A B))
        refine can_nil ?_
        have hb2' : Below wr.heap.size wr w2 := (Below.refl _ _).drew.trans hb2
        have hLL : recordsM M.S g (halfN M.S.length + 1) 0 0 = L := by rw [hrec, recordsM_none hrm, List.append_nil]
        have HLL := Lib.hid hLL
        clear hLL hrec hrm
        go_wp2_with fail
        go_ret2
        rw [Hr2.out]
        simp only [if_true]
        rw [HLL.out]
        have hjlt := hKlt
        have hd1z := Hd1z.out
        have hz2 := hb2'.size
        refine ⟨⟨⟨rb, K, fun b => (Value.slice ra L.length rc).ownBlock = some b ∨ R b⟩, rfl, rfl, ⟨hrr (hbw.trans (hb2'.mono hsz)), ⟨ra, rc, R, Blk.keep hj (hb2'.block rb hjl), (hrow.lower (Nat.zero_le _)).kept hb2', fun b hb => hb⟩, ⟨fun h => by have h1 : rb < w.heap.size := hjlt _ h; have := HRB.out; have := hd1z; omega, fun b hb => ?_⟩, by show 8 ≤ M.S.length; omega, htk, hg32, hlens⟩, ?_⟩, hbw.trans (hb2'.mono hsz)⟩
        · have h1 : rb < b ∧ b < wr.heap.size := by
            rcases hb with hb | hb
            · have := hrow.own hb; omega
            · exact hR b hb
          exact ⟨by show b ≠ rb; omega, fun h => by have := hjlt _ h; omega, by show b < w2.heap.size; omega⟩
        · rintro b (hb | hb | hb)
          · exact .inr (by rw [hb]; exact hrl)
          · exact .inl hb
          · right
            rcases hb with hb | hb
            · have := hrow.own hb; omega
            · have := hR b hb; omega
      | some bb =>
        rw [hrm] at hm
        dsimp only at hm
        obtain ⟨v, rfl, hbv, hbl⟩ := hm
        refine ⟨_, rfl, hb2, hK _ _ ?_⟩
        clear hK KK c2 Ht Hre
        go_simp
        repeat (first
          | (refine can_yes (v := ?_) rfl (wanted_none rfl) (fun w' hC => ?_) (fun K hK => ?_); rotate_left; (focus (go_simp; first | done | exact rfl)); go_simp; refine hK _ ?_; clear hK K)
          | (refine can_guard rfl (fun A B hA hB => ?_); go_simp; first | (refine hA ⟨?_, fun w' hC => ?_, fun K hK => ?_⟩; rotate_left; (focus (go_simp; first | done | exact rfl)); go_simp; refine hK _ ?_; clear hK K hA hB A B) | (refine hB (fun K hK => ?_); go_simp; refine hK _ ?_; clear hK K hA hB A B))
          | (refine can_guard_go rfl (fun A B hA hB => ?_); go_simp; refine hB (fun K hK => ?_); go_simp; refine hK _ ?_; clear hK K hA hB A B))
        refine can_nil ?_
        have hb2' : Below wr.heap.size wr w2 := (Below.refl _ _).drew.trans hb2
        obtain ⟨hfit, -⟩ := recordM_some Href.out.s64 hrm
        have hrec2 : recordsM M.S g (halfN M.S.length + 1) 0 0 = (L ++ [bb]) ++ recordsM M.S g (halfN M.S.length + 1 - (L ++ [bb]).length) (L ++ [bb]).length (takenL (L ++ [bb])) := by
          rw [hrec, show halfN M.S.length + 1 - L.length = (halfN M.S.length - L.length) + 1 by omega, recordsM_some hrm, takenL_snoc]
          simp
        have hj2 : RJBlk w2 rb K.d g (.slice ra L.length rc) false := Blk.keep hj (hb2'.block rb hjl)
        have hrow2 := hrow.kept hb2'
        have hbw2 := hbw.trans (hb2'.mono hsz)
        have hz2 := hb2'.size
        have htp := takes_pos bb.length
        have Hl0 : Hid (lenOf rb wr = L.length) := Lib.hid (by unfold lenOf; rw [hj.cell 2]; rfl)
        obtain ⟨xa, xc, w3, hr3, hown3, hk3, hg3, hby3⟩ := run_clone w2.drew _ v bb (hbv.keep fun b _ _ => rfl) (by omega)
        change (AP _ _ #[.slice (some ⟨w2.heap.size, 0, none⟩) 0 0, _]).run _ (w2.alloc _).drew = _ at hr3
        clear hown3
        have hsz3 : w2.heap.size ≤ w3.heap.size := hk3.size
        have hrows3 : RowsIn R w3 (rb + 1) (.slice ra L.length rc) L := (hrow2.kept (w' := w2.drew) (Below.refl _ _).drew).kept hk3
        obtain ⟨a', c', w4, hap, hrows4, hg4⟩ := hrows3.append hby3 (fun b hb => hb.2.2) (by omega) (by omega)
        have hblk3 : Blk w3 rb _ _ := (Blk.keep (w' := w2.drew) hj2 rfl).keep (hk3.block rb (show rb < w2.heap.size by omega))
        have hob : ∀ q, Value.ownBlock (.slice ra L.length rc) = some q → rb + 1 ≤ q ∧ q < wr.heap.size ∧ ¬ R q := fun q hq => hrow.own hq
        have hblk4 : Blk w4 rb [.pointer (some ⟨K.d, 0, none⟩), .int .i64 (g : Int), .slice ra L.length rc, .bool false] 98 := (hblk3.alloc _).keep (hg4.block _ (by have := hblk3.lt; simp; omega) (fun e => by have := hob _ e.symm; omega))
        have k0 : LaterF (fun b => rb < b) w2.drew (w2.alloc (.cells #[] 5)).drew := LaterF.of_below (kept_alloc w2.drew _)
        have k1 : LaterF (fun b => rb < b) (w2.alloc (.cells #[] 5)).drew w3 := ⟨hg3.os, hg3.tape, hg3.output, hg3.size, fun q hq hn => hg3.block q hq (fun e => hn (by simp at e; have : w2.drew.heap.size = w2.heap.size := rfl; omega))⟩
        have k2 : LaterF (fun b => rb < b) w3 (w3.alloc (.cells #[.slice xa bb.length xc] 30)) := LaterF.of_below (kept_alloc _ _)
        have k3 : LaterF (fun b => rb < b) (w3.alloc (.cells #[.slice xa bb.length xc] 30)) w4 := ⟨hg4.os, hg4.tape, hg4.output, hg4.size, fun q hq hn => hg4.block q hq (fun e => hn (by have := hob _ e.symm; omega))⟩
        have hbw4 : Below w.heap.size w w4 := ((hbw2.drew.trans (hk3.mono (show w.heap.size ≤ w2.heap.size by omega))).alloc (by omega) _).grown hg4 (by simp; omega) (fun q hq => by have := hob q hq; omega)
        have c2 := hblk4.cell 2
        have f2 := hblk4.free 2
        simp at c2
        have hblk5 := hblk4.set 2 (.slice a' (L.length + 1) c')
        have hrows5 : RowsIn _ (w4.setCell ⟨rb, 2, none⟩ (.slice a' (L.length + 1) c')) (rb + 1) (.slice a' (L.length + 1) c') (L ++ [bb]) := hrows4.keep fun b hb _ => Below.heap_setCell _ ⟨rb, 2, none⟩ _ b (by
          rcases hb with hb | hb | hb
          · have := (hrows4.own hb).1; show b ≠ rb; omega
          · have := hR b hb; show b ≠ rb; omega
          · have : w2.drew.heap.size = w2.heap.size := rfl; have := hb.1; show b ≠ rb; omega)
        have hbw5 : Below w.heap.size w (w4.setCell ⟨rb, 2, none⟩ (.slice a' (L.length + 1) c')) := hbw4.setCell hrl _
        have q2 : ∀ w', LaterF (fun b => rb < b) w2.drew w' → w'.cell? ⟨rb, 2, none⟩ = some (.slice ra L.length rc) := fun w' hh => by
          simpa using (Blk.keep (w' := w') hj2 (hh.block rb (show rb < w2.heap.size by omega) (by omega))).cell 2
        obtain ⟨va, vc, rfl, -⟩ := id hbv
        have hzz3 : w4.heap.size ≥ w3.heap.size := by have := hg4.size; simp at this; omega
        have Hblk5 := Lib.hid hblk5; have Hrows5 := Lib.hid hrows5; have Hbw5 := Lib.hid hbw5; have Hrec2 := Lib.hid hrec2
        have hn5 : (w4.setCell ⟨rb, 2, none⟩ (.slice a' (L.length + 1) c')).heap.size = w4.heap.size := by simp [World.setCell]
        have Hn5 := Lib.hid hn5
        have Hzz := Lib.hid hzz3
        clear hblk5 hrows5 hbw5 hbw4 hrows4 hblk4 hrows3 hby3 hg4 hg3 hk3 hblk3 hrow hrow2 hbv hrec2 hrec hrm hj hj2 hn5 hzz3
        go_wp2_with fail
        refine wp_region_canL (LaterF (fun b => rb < b)) 12 [(0, true), (1, true), (2, true), (3, true), (4, true), (6, true), (5, false), (7, false), (8, false), (9, false), (10, true), (11, true), (12, false)] (by kernel_rfl) (by kernel_rfl) (by kernel_rfl) (laterF_refl _) (laterF_trans _) ?_
        repeat (first
          | (refine canL_yes (v := ?_) rfl (wanted_none rfl) (fun w' hC => ?_) (fun K hK => ?_); rotate_left; (focus (go_simp; first | done | exact rfl)); go_simp; refine hK _ ?_; clear hK K)
          | (refine canL_guard rfl (fun A B hA hB => ?_); go_simp; first | (refine hA ⟨?_, fun w' hC => ?_, fun K hK => ?_⟩; rotate_left; (focus (go_simp; first | done | exact rfl)); go_simp; refine hK _ ?_; clear hK K hA hB A B) | (refine hB (fun K hK => ?_); go_simp; refine hK _ ?_; clear hK K hA hB A B))
          | (refine canL_guard_go rfl (fun A B hA hB => ?_); go_simp; refine hB (fun K hK => ?_); go_simp; refine hK _ ?_; clear hK K hA hB A B))
        refine canL_go rfl rfl (fun KK hK => ?_)
        go_simp
        refine hK _ _ ?_
        clear hK KK
        go_simp
        refine canL_go rfl rfl (fun KK hK => ?_)
        go_simp
        refine hK _ _ ?_
        clear hK KK
        go_simp
        refine canL_go rfl rfl (fun KK hK => ?_)
        go_simp
        refine hK _ _ ?_
        clear hK KK
        go_simp
        refine canL_go rfl rfl (fun KK hK => ?_)
        go_simp
        refine hK _ _ ?_
        clear hK KK
        go_simp
        repeat (first
          | (refine canL_yes (v := ?_) rfl (wanted_none rfl) (fun w' hC => ?_) (fun K hK => ?_); rotate_left; (focus (go_simp; first | done | exact rfl)); go_simp; refine hK _ ?_; clear hK K)
          | (refine canL_guard rfl (fun A B hA hB => ?_); go_simp; first | (refine hA ⟨?_, fun w' hC => ?_, fun K hK => ?_⟩; rotate_left; (focus (go_simp; first | done | exact rfl)); go_simp; refine hK _ ?_; clear hK K hA hB A B) | (refine hB (fun K hK => ?_); go_simp; refine hK _ ?_; clear hK K hA hB A B))
          | (refine canL_guard_go rfl (fun A B hA hB => ?_); go_simp; refine hB (fun K hK => ?_); go_simp; refine hK _ ?_; clear hK K hA hB A B))
        refine canL_last rfl rfl rfl (fun KK hK => ?_)
        go_simp
        refine hK _ _ ?_
        clear hK KK
        go_simp
        refine canL_nil ?_
        go_wp2_with fail
        go_roundw
        case rel =>
          refine ⟨a', c', _, L ++ [bb], rfl, by simpa [RJBlk] using Hblk5.out, by simpa using Hrows5.out, fun b hb => ?_, by rw [takenL_snoc]; exact hfit, fun b hb => ?_, Hrec2.out, Hbw5.out⟩
          · have h5 := Hn5.out; have hz := Hzz.out
            rcases hb with hb | hb
            · have := hR b hb; omega
            · have : w2.drew.heap.size = w2.heap.size := rfl; have h1 := hb.1; have h2 := hb.2.1; omega
          · rcases List.mem_append.1 hb with hb | hb
            · exact hlens b hb
            · obtain rfl := List.mem_singleton.1 hb; exact hbl
        case measure =>
          have e4 : lenOf rb (w4.setCell ⟨rb, 2, none⟩ (.slice a' (L.length + 1) c')) = L.length + 1 := by unfold lenOf; rw [Hblk5.out.cell 2]; rfl
          rw [e4, Hl0.out]
          omega
end Go.Proofs.YtmimplmeccoahaaDoor
/- The reference journal: Records, Room. -/
namespace Go.Proofs.YtmimplmeccoahaaDoor
open Go.RowKit
set_option linter.unusedVariables false
set_option maxRecDepth 20000
attribute [local go_sem ↓] seal_append
attribute [local go_sem] opC upC

set_option maxHeartbeats 1000000 in
theorem rrecords_any (w : World) (k : RJK) (M : MD) (J : MJ) (h : RJAt w k M J) :
    Calls Tryd.prog 64 #[.pointer (some ⟨k.j, 0, none⟩)] w fun e w' => ∃ r R', e = .returned r ∧ RowsIn R' w' w.heap.size r J.L ∧ Below w.heap.size w w' := by
  obtain ⟨ra, rc, R, hj, hr, -⟩ := h.recs
  have hroom : takenL J.L ≤ halfN M.S.length := h.room
  have hle : M.S.length ≤ 65536 := h.ref.len
  have hLT := length_le_taken J.L
  have hlens := h.lens
  have hL : J.L.length ≤ 65536 := by unfold halfN at hroom; omega
  obtain ⟨L, hLe⟩ : ∃ L, J.L = L := ⟨_, rfl⟩
  rw [hLe] at hj hr hlens hL ⊢
  have c2 := hj.cell 2
  simp at c2
  have hjl := Blk.lt hj
  obtain ⟨len, hlen⟩ : ∃ len, L.length = len := ⟨_, rfl⟩
  rw [hlen] at c2 hL
  have hLI : (len : Int) ≤ 65536 := by omega
  have Hlen := Lib.hid hlen; have Hr := Lib.hid hr
  clear hroom hle hLT hLe hlen hr h
  go_enter Tryd.func64, Tryd.ntmps64
  go_wp2_with fail
  go_loopw [3, 4] (fun v i wr => ∃ m R', m ≤ len ∧ i = .int .i64 (m : Int) ∧ RowsIn R' wr w.heap.size v (L.take m) ∧ Below w.heap.size w wr) (fun _ i _ => len - (intOf i).toNat)
  case atStart => exact ⟨0, none_, by omega, rfl, by simpa using RowsIn.nil w w.heap.size, Below.refl _ _⟩
  case round =>
    obtain ⟨m, R', hm, rfl, hrow, hbw⟩ := hrel
    have c2' : wr.cell? ⟨k.j, 2, none⟩ = some (.slice ra len rc) := by rw [hbw.cell (p := ⟨k.j, 2, none⟩) hjl]; exact c2
    by_cases hml : m < len
    · have hmI : (m : Int) < (len : Int) := by omega
      have hmL : m < L.length := by rw [Hlen.out]; exact hml
      obtain ⟨gg, cap, x, hv, hbx, hcell⟩ := (Hr.out.kept hbw).elem m hmL
      have hll := hlens L[m] (List.getElem_mem hmL)
      have hlk : (L.take m).length = m := by simp; omega
      obtain ⟨a1, c1, rfl, hc1, hm1⟩ := hrow.shape
      rw [hlk] at hc1 hrow ⊢
      have htk : L.take m ++ [L[m]] = L.take (m + 1) := by rw [List.take_succ_eq_append_getElem hmL]
      generalize L[m] = b at *
      rw [Hlen.out] at hv
      simp at hv
      obtain ⟨rfl, rfl⟩ := hv
      have hsz := hbw.size
      obtain ⟨xa, xc, w3, hr3, hown3, hk3, hg3, hby3⟩ := run_clone wr _ x b hbx (by omega)
      have hz3 := hk3.size
      obtain ⟨a', c', w4, hap, hrows4, hg4⟩ := (hrow.kept hk3).append hby3 (fun b hb => hb.2.2) (by omega) (by omega)
      rw [hlk] at hap hrows4
      rw [htk] at hrows4
      have hb4 : Below w.heap.size w w4 := (Below.alloc (hbw.trans (hk3.mono hsz)) (by omega) _).grown hg4 (by simp; omega) (fun q hq => (hrow.own hq).1)
      have hcx : (wr.alloc (.cells #[] 5)).cell? ⟨gg, m, none⟩ = some x := by rw [(kept_alloc wr _).cell (p := ⟨gg, m, none⟩) (cell_lt hcell)]; exact hcell
      have hc2x : (wr.alloc (.cells #[] 5)).cell? ⟨k.j, 2, none⟩ = some (.slice (some ⟨gg, 0, none⟩) len rc) := by rw [(kept_alloc wr _).cell (p := ⟨k.j, 2, none⟩) (cell_lt c2')]; exact c2'
      obtain ⟨ax, cx, rfl, -⟩ := id hbx
      have Hrows := Lib.hid hrows4; have Hb4 := Lib.hid hb4
      clear hrows4 hb4 hrow hbx hown3 hk3 hg3 hby3 hg4 hz3 hlk htk hcell
      go_wp2_with fail
      go_roundw
      case rel => exact ⟨m + 1, _, by omega, by go_num, Hrows.out, Hb4.out⟩
      case measure => simp [intOf]; omega
    · have hmI : ¬ (m : Int) < (len : Int) := by omega
      have e : L.take m = L := List.take_of_length_le (by rw [Hlen.out]; omega)
      rw [e] at hrow
      go_wp2_with fail
      go_ret
      exact ⟨_, rfl, ⟨_, hrow⟩, hbw⟩

theorem rroom_any (w : World) (k : RJK) (M : MD) (J : MJ) (h : RJAt w k M J) :
    Calls Tryd.prog 65 #[.pointer (some ⟨k.j, 0, none⟩)] w fun e w' => e = .returned (.int .i64 (roomV M.S.length J.L)) ∧ w = w' := by
  obtain ⟨ra, rc, R, hj, hr, -⟩ := h.recs
  have hroom : takenL J.L ≤ halfN M.S.length := h.room
  have hle : M.S.length ≤ 65536 := h.ref.len
  have h8 : 8 ≤ M.S.length := h.size8
  have hLT := length_le_taken J.L
  have hH : halfN M.S.length ≤ 32768 := by unfold halfN; omega
  obtain ⟨cap, hcap, d0, d1, -⟩ := h.ref.row
  have HT := Lib.hid (rtaken_any w k.j k.K.d J.g _ J.dead hj R J.L hr (by omega) (by omega) h.lens)
  have HH := Lib.hid (rhalf_any w M.S.length (by omega) (by omega))
  have c0 := hj.cell 0
  simp at c0
  have hv : roomV M.S.length J.L = if halfN M.S.length - takenL J.L < 1 then -1 else min (48 * ((halfN M.S.length - takenL J.L : Nat) : Int)) 65536 := rfl
  rw [hv]
  generalize takenL J.L = t at *
  generalize halfN M.S.length = H at *
  have hnI : (M.S.length : Int) ≤ 65536 := by omega
  have hHI : (H : Int) ≤ 32768 := by omega
  have htI : (t : Int) ≤ (H : Int) := by omega
  clear hj hr hv hLT
  by_cases h1 : H - t < 1
  · have h1I : (H : Int) - (t : Int) < 1 := by omega
    rw [if_pos h1]
    go_enter Tryd.func65, Tryd.ntmps65
    go_wp2_with fail
    refine HH.out.mono ?_
    rintro e w' ⟨rfl, rfl⟩
    go_wp2_with fail
    refine HT.out.mono ?_
    rintro e w' ⟨rfl, rfl⟩
    go_wp2_with fail
    go_ret
    exact ⟨rfl, rfl⟩
  · have h1I : ¬ (H : Int) - (t : Int) < 1 := by omega
    rw [if_neg h1]
    go_enter Tryd.func65, Tryd.ntmps65
    go_wp2_with fail
    refine HH.out.mono ?_
    rintro e w' ⟨rfl, rfl⟩
    go_wp2_with fail
    refine HT.out.mono ?_
    rintro e w' ⟨rfl, rfl⟩
    go_wp2_with fail
    all_goals
      go_ret
      exact ⟨ret_int (by omega), rfl⟩
end Go.Proofs.YtmimplmeccoahaaDoor
