/- Long records. -/
import Derived.Test.YtmimplmeccoahaaDoorKnownA
namespace Go.Proofs.YtmimplmeccoahaaDoor
open Go.RowKit
set_option linter.unusedVariables false
set_option maxRecDepth 20000
attribute [local go_sem ↓] seal_make_bytes

/-- the same, the journal's blocks being others than q -/
def UpQ (w : World) (lo j d n g : Nat) (L : List (List UInt8)) (c q : Nat) : Prop :=
  ∃ (jk : JK) (S : List (List UInt8)) (k : Nat), jk.j = j ∧ jk.K.d = d ∧ 0 < lo ∧ (∀ b, jk.all b → lo ≤ b ∧ b ≠ q) ∧ S.length = n ∧ k ≤ c ∧ JAt w jk (upM S k) ⟨g, L, false⟩ ∧ Inv S g L ∧ q < w.heap.size
theorem UpQ.toV {w : World} {lo j d n g : Nat} {L : List (List UInt8)} {c q : Nat} (h : UpQ w lo j d n g L c q) : UpV w lo j d n g L c := by
  obtain ⟨jk, S, k, h1, h2, h3, h4, h5, h6, h7, h8, h9⟩ := h
  exact ⟨jk, S, k, h1, h2, h3, fun b hb => (h4 b hb).1, h5, h6, h7, h8⟩
theorem UpV.toQ {w w' : World} {lo j d n g : Nat} {L : List (List UInt8)} {c q : Nat} (h : UpV w lo j d n g L c) (hb : Below w.heap.size w w') (hq : w.heap.size ≤ q) (hq' : q < w'.heap.size) : UpQ w' lo j d n g L c q := by
  obtain ⟨jk, S, k, h1, h2, h3, h4, h5, h6, h7, h8⟩ := h
  exact ⟨jk, S, k, h1, h2, h3, fun b hb => ⟨h4 b hb, by have := h7.lt b hb; omega⟩, h5, h6, h7.kept hb, h8, hq'⟩
theorem UpQ.kept {w w' : World} {lo j d n g : Nat} {L : List (List UInt8)} {c q : Nat} (h : UpQ w lo j d n g L c q) (hb : Below w.heap.size w w') : UpQ w' lo j d n g L c q := by
  obtain ⟨jk, S, k, h1, h2, h3, h4, h5, h6, h7, h8, h9⟩ := h
  exact ⟨jk, S, k, h1, h2, h3, h4, h5, h6, h7.kept hb, h8, Nat.lt_of_lt_of_le h9 hb.size⟩
theorem UpQ.q_lt {w : World} {lo j d n g : Nat} {L : List (List UInt8)} {c q : Nat} (h : UpQ w lo j d n g L c q) : q < w.heap.size := h.choose_spec.choose_spec.choose_spec.2.2.2.2.2.2.2.2
/-- what a call of the journal leaves of block q -/
def KeptAt (q : Nat) (w w' : World) : Prop := w'.heap[q]? = w.heap[q]?

theorem append_VX (w0 w : World) (lo j d n g : Nat) (L : List (List UInt8)) (c q : Nat) (h : UpQ w0 lo j d n g L c q) (hb : Below w0.heap.size w0 w) (hq : Quarter w) (F : Blks) (v : Value) (l : List UInt8) (hv : Bytes F w v l) (hF : ∀ b, F b → (b < lo ∨ b = q ∨ w0.heap.size ≤ b) ∧ b < w.heap.size) (hc : c + 70000 < 4611686018427387904) (hl : l.length ≤ 65536) :
    Calls Tryd.prog 16 #[.pointer (some ⟨j, 0, none⟩), v] w fun e w' => e = .returned (.int .i64 (if takenL L + takes l.length ≤ halfN n then 0 else 7)) ∧ UpQ w' lo j d n g (if takenL L + takes l.length ≤ halfN n then L ++ [l] else L) (c + 70000) q ∧ Below lo w w' ∧ KeptAt q w w' := by
  have hlo := h.toV.lo_lt
  obtain ⟨jk, S, k, rfl, rfl, h0, hallq, rfl, hk, hj0, hI, hql⟩ := h
  have hall := fun b hb => (hallq b hb).1
  have hj := hj0.kept hb
  have hroom : takenL L ≤ halfN S.length := hj.room
  have hle : S.length ≤ 65536 := hj.disk.le
  have hH : halfN S.length ≤ 32768 := by unfold halfN; omega
  have hz := hb.size
  refine (append_any w jk _ _ hj F v l hv (fun b hf => ⟨(hF b hf).2, fun hh => ?_⟩) (fun hh => by have := hall 0 hh; omega) hq (by show k + 65536 < _; omega)).mono ?_
  · have := hj0.lt b hh
    have := hall b hh
    have := (hallq b hh).2
    rcases (hF b hf).1 with h | h | h <;> omega
  rintro e w' ⟨rfl, jk', h1, h2, hj', h4, ho⟩
  have hbl : Below lo w w' := ho.below hall (by omega)
  have hall' : ∀ b, jk'.all b → lo ≤ b ∧ b ≠ q := fun b hb => by
    rcases h4 b hb with h | h
    · exact hallq b h
    · exact ⟨by omega, by omega⟩
  have hkq : KeptAt q w w' := ho.block q (by omega) fun h => (hallq q h).2 rfl
  have hqz : q < w'.heap.size := by have := ho.size; omega
  by_cases hf : takenL L + takes l.length ≤ halfN S.length
  · have hM : appendM (upM S k) ⟨g, L, false⟩ l = (upM (setAll S (pieceWrites S.length g L.length (takenL L) l)) (k + (pieceWrites S.length g L.length (takenL L) l).length), ⟨g, L ++ [l], false⟩, 0) := by
      unfold appendM
      rw [if_neg (by simp), if_neg (by omega), if_neg (by show ¬ halfN S.length - takenL L < _; omega)]
      show (if (writeAll (upM S k) (pieceWrites S.length g L.length (takenL L) l)).2 = 0 then ((writeAll (upM S k) (pieceWrites S.length g L.length (takenL L) l)).1, (⟨g, L ++ [l], false⟩ : MJ), (0 : Int)) else ((writeAll (upM S k) (pieceWrites S.length g L.length (takenL L) l)).1, ⟨g, L, true⟩, (writeAll (upM S k) (pieceWrites S.length g L.length (takenL L) l)).2)) = _
      rw [writeAll_up, if_pos rfl]
    rw [hM] at hj'
    rw [hM, if_pos hf, if_pos hf]
    refine ⟨rfl, ⟨jk', _, _, h1, h2, h0, hall', setAll_length _ _, ?_, hj', inv_append_up (k := k) hI hf hl, hqz⟩, hbl, hkq⟩
    have : (pieceWrites S.length g L.length (takenL L) l).length ≤ 32768 := by simp [pieceWrites]; omega
    omega
  · have hM : appendM (upM S k) ⟨g, L, false⟩ l = (upM S k, ⟨g, L, false⟩, 7) := by
      unfold appendM
      rw [if_neg (by simp), if_neg (by omega), if_pos (by show halfN S.length - takenL L < _; omega)]
    rw [hM] at hj'
    rw [hM, if_neg hf, if_neg hf]
    exact ⟨rfl, ⟨jk', S, k, h1, h2, h0, hall', rfl, by omega, hj', hI, hqz⟩, hbl, hkq⟩

theorem replace_VX (w0 w : World) (lo j d n g : Nat) (L : List (List UInt8)) (c q : Nat) (h : UpQ w0 lo j d n g L c q) (hb : Below w0.heap.size w0 w) (hq : Quarter w) (F : Blks) (v : Value) (l : List UInt8) (hv : Bytes F w v l) (hF : ∀ b, F b → (b < lo ∨ b = q ∨ w0.heap.size ≤ b) ∧ b < w.heap.size) (hc : c + 70000 < 4611686018427387904) (hl : l.length ≤ 65536) (hg : g + 1 < 4294967295) (hf0 : takes l.length ≤ halfN n) :
    Calls Tryd.prog 15 #[.pointer (some ⟨j, 0, none⟩), v] w fun e w' => e = .returned (.int .i64 0) ∧ UpQ w' lo j d n (g + 1) [l] (c + 70000) q ∧ Below lo w w' ∧ KeptAt q w w' := by
  have hlo := h.toV.lo_lt
  obtain ⟨jk, S, k, rfl, rfl, h0, hallq, rfl, hk, hj0, hI, hql⟩ := h
  have hall := fun b hb => (hallq b hb).1
  have hj := hj0.kept hb
  have hle : S.length ≤ 65536 := hj.disk.le
  have hH : halfN S.length ≤ 32768 := by unfold halfN; omega
  have hz := hb.size
  refine (replace_any w jk _ _ hj F v l hv (fun b hf => ⟨(hF b hf).2, fun hh => ?_⟩) (fun hh => by have := hall 0 hh; omega) hq (by show k + 65536 < _; omega)).mono ?_
  · have := hj0.lt b hh
    have := hall b hh
    have := (hallq b hh).2
    rcases (hF b hf).1 with h | h | h <;> omega
  rintro e w' ⟨rfl, jk', h1, h2, hj', h4, ho⟩
  have hbl : Below lo w w' := ho.below hall (by omega)
  have hall' : ∀ b, jk'.all b → lo ≤ b ∧ b ≠ q := fun b hb => by
    rcases h4 b hb with h | h
    · exact hallq b h
    · exact ⟨by omega, by omega⟩
  have hkq : KeptAt q w w' := ho.block q (by omega) fun h => (hallq q h).2 rfl
  have hqz : q < w'.heap.size := by have := ho.size; omega
  have hM : replaceM (upM S k) ⟨g, L, false⟩ l = (upM (setAll S (replaceWs S.length g l)) (k + (replaceWs S.length g l).length), ⟨g + 1, [l], false⟩, 0) := by
    unfold replaceM
    rw [if_neg (by simp), if_neg (by omega), if_neg (by show ¬ (halfN S.length < _ ∨ 4294967295 ≤ g); omega)]
    show (if (writeAll (upM S k) (replaceWs S.length g l)).2 = 0 then ((writeAll (upM S k) (replaceWs S.length g l)).1, (⟨g + 1, [l], false⟩ : MJ), (0 : Int)) else ((writeAll (upM S k) (replaceWs S.length g l)).1, ⟨g, L, true⟩, (writeAll (upM S k) (replaceWs S.length g l)).2)) = _
    rw [writeAll_up, if_pos rfl]
  rw [hM] at hj'
  rw [hM]
  refine ⟨rfl, ⟨jk', _, _, h1, h2, h0, hall', setAll_length _ _, ?_, hj', inv_replace_up (k := k) hI hg hf0 hl, hqz⟩, hbl, hkq⟩
  have : (replaceWs S.length g l).length ≤ 32769 := by simp [replaceWs, pieceWrites]; omega
  omega

theorem UpV.toW {w : World} {lo j d n g : Nat} {L : List (List UInt8)} {c : Nat} (h : UpV w lo j d n g L c) : UpW w lo j d n g L c := by
  obtain ⟨jk, S, k, h1, h2, h3, h4, h5, h6, h7, h8⟩ := h
  exact ⟨jk, h1, h2, h3, h4, S, k, h5, h6, h7⟩
theorem room_V (w : World) (lo j d n g : Nat) (L : List (List UInt8)) (c : Nat) (h : UpV w lo j d n g L c) :
    Calls Tryd.prog 17 #[.pointer (some ⟨j, 0, none⟩)] w fun e w' => e = .returned (.int .i64 (roomV n L)) ∧ UpV w' lo j d n g L c ∧ Below w.heap.size w w' :=
  (room_W w lo j d n g L c h.toW).mono fun e w' ⟨h1, _, h3⟩ => ⟨h1, h.kept h3, h3⟩
theorem room_Q (w : World) (lo j d n g : Nat) (L : List (List UInt8)) (c q : Nat) (h : UpQ w lo j d n g L c q) :
    Calls Tryd.prog 17 #[.pointer (some ⟨j, 0, none⟩)] w fun e w' => e = .returned (.int .i64 (roomV n L)) ∧ UpQ w' lo j d n g L c q ∧ Below w.heap.size w w' :=
  (room_W w lo j d n g L c h.toV.toW).mono fun e w' ⟨h1, _, h3⟩ => ⟨h1, h.kept h3, h3⟩
theorem open_V (w : World) (lo j d n g : Nat) (L : List (List UInt8)) (c : Nat) (h : UpV w lo j d n g L c) (hq : Quarter w) :
    Calls Tryd.prog 22 #[.pointer (some ⟨d, 0, none⟩)] w fun e w' => ∃ k M, e = .returned (.tuple #[.pointer (some ⟨k, 0, none⟩), .int .i64 0]) ∧ JX w' lo k d M ⟨g, L, false⟩ ∧ Below w.heap.size w w' := by
  obtain ⟨jk, S, k, rfl, rfl, h3, h4, h5, h6, h7, h8⟩ := h
  have hd : DX w lo jk.K.d (upM S k) := ⟨jk.K, rfl, h3, fun b hb => h4 b (.inr (.inl hb)), h7.disk⟩
  have := open_X w lo jk.K.d (upM S k) hd hq
  rw [Inv.opened (M := upM S k) h8 rfl] at this
  refine this.mono ?_
  rintro e w' ⟨⟨k', rfl, hk⟩, hb⟩
  exact ⟨k', _, rfl, hk, hb⟩

/-- the bytes of the long record -/
def fillL (k n : Nat) : List UInt8 := (List.range n).map fun i => if i < k then UInt8.ofNat (i * 7) else 0
theorem fillL_length (k n : Nat) : (fillL k n).length = n := by simp [fillL]
theorem fillL_zero (n : Nat) : (fillL 0 n).map B = List.replicate n (B 0) := by
  apply List.ext_getElem
  · simp [fillL]
  · intro i h1 h2
    simp [fillL]
theorem fillL_set (k n : Nat) (hk : k < n) : ((fillL k n).map B).set k (B (UInt8.ofNat (k * 7))) = (fillL (k + 1) n).map B := by
  rw [← List.map_set]
  congr 1
  apply List.ext_getElem
  · simp [fillL]
  · intro i h1 h2
    rw [List.getElem_set]
    simp only [fillL, List.getElem_map, List.getElem_range]
    by_cases hik : k = i
    · subst hik
      rw [if_pos rfl, if_pos (by omega)]
    · rw [if_neg hik]
      by_cases h : i < k
      · rw [if_pos h, if_pos (by omega)]
      · rw [if_neg h, if_neg (by omega)]

set_option maxHeartbeats 4000000 in
theorem long_any (w : World) (hq : Quarter w) :
    Calls Tryd.prog 31 #[] w fun e w' => e = .returned (.bool true) ∧ Below w.heap.size w w' := by
  have h0 : 0 < w.heap.size := by obtain ⟨t, fz, hh⟩ := hq; exact lt_of_block hh
  have hq' : ∀ {w' : World}, Below w.heap.size w w' → Quarter w' := fun hb => hq.keep (hb.block 0 h0)
  obtain ⟨N, hN⟩ : ∃ N : Nat, N = 2736 := ⟨_, rfl⟩
  have hfresh := fresh_V w N (by omega) (by omega) hq
  rw [show ((N : Nat) : Int) = 2736 from by omega] at hfresh
  obtain ⟨n, hn⟩ : ∃ n : Nat, n = 65536 := ⟨_, rfl⟩
  have HN := Lib.hid hN; have Hn := Lib.hid hn; have Hf := Lib.hid hfresh
  have hh : halfN N = 1367 := by rw [hN]; decide
  have ht : takes n = 1366 := by rw [hn]; decide
  have HH := Lib.hid hh; have HT := Lib.hid ht
  clear hN hn hfresh hh ht
  go_enter Tryd.func31, Tryd.ntmps31
  go_wp2_with fail
  refine Hf.out.mono ?_
  rintro e w1 ⟨j, d, rfl, hU1, hb1⟩
  go_wp2_with fail
  refine (room_V w1 _ _ _ _ _ _ _ hU1).mono ?_
  rintro e w2 ⟨rfl, hU2, hb2⟩
  have hb2 := kept_trans hb1 hb2
  rw [show roomV N [] = 65536 from by unfold roomV; rw [HH.out]; decide]
  clear hU1 hb1 Hf
  obtain ⟨w3, hmk, hblk, hb3⟩ := run_make_bytes w2 n (by have := Hn.out; omega)
  rw [show ((n : Nat) : Int) = 65536 from by have := Hn.out; omega] at hmk
  have hz3 := hb3.size
  have hb2z := hb2.size
  have hbl0 : Blk w3 w2.heap.size ((fillL 0 n).map B) 5 := by rw [fillL_zero]; exact hblk
  have Hbl0 := Lib.hid hbl0
  clear hblk hbl0
  have hnI : (n : Int) ≤ 65536 := by have := Hn.out; omega
  go_wp2_with fail
  clear hmk
  go_loopw [21] (fun i wr => ∃ k : Nat, k ≤ n ∧ i = .int .i64 (k : Int) ∧ Blk wr w2.heap.size ((fillL k n).map B) 5 ∧ Below w2.heap.size w2 wr) (fun i _ => n - (intOf i).toNat)
  case atStart => exact ⟨0, by omega, rfl, Hbl0.out, hb3⟩
  case round =>
    obtain ⟨k, hk, rfl, hbk, hbw⟩ := hrel
    by_cases hkl : k < n
    · have hklI : (k : Int) < (n : Int) := by omega
      have hnb : (n : Int) = 65536 := by have := Hn.out; omega
      have cc := hbk.cell k
      rw [List.getElem?_eq_getElem (by simp [fillL_length]; exact hkl)] at cc
      have cf := hbk.free k
      have hset := hbk.set k (B (UInt8.ofNat (k * 7)))
      rw [fillL_set k n hkl, B_ofNat] at hset
      have hcast : (((k * 7 : Nat) : Int)) = (k : Int) * 7 := by omega
      rw [hcast] at hset
      have hwr := IntWalk.i64_in ((k : Int) * 7) (by omega)
      have hwu : IntKind.u8.wrap ((k : Int) * 7) = (k : Int) * 7 % 256 := IntKind.wrap_u8 _
      have Hset := Lib.hid hset; have Hnb := Lib.hid hnb
      clear hset hbk hcast hnb
      go_wp2_with fail
      go_roundw
      case rel => exact ⟨k + 1, by omega, by go_num, Hset.out, hbw.setCell (Nat.le_refl _) _⟩
      case measure => simp [intOf]; omega
    · obtain rfl : k = n := by omega
      have hlen : (fillL k k).length = k := fillL_length k k
      have hbw0 : Below w.heap.size w wr := kept_trans hb2 hbw
      have hglt : w2.heap.size < wr.heap.size := hbk.lt
      have hUr := hU2.toQ (q := w2.heap.size) hbw (Nat.le_refl _) hglt
      have hv : Bytes (fun b => b = w2.heap.size) wr (.slice (some ⟨w2.heap.size, 0, none⟩) k k) (fillL k k) := by
        have := bytes_of_blk hbk (by rw [hlen]; unfold maxLen; have := Hn.out; omega) (fun b => b = w2.heap.size) rfl
        rw [hlen] at this
        exact this
      generalize fillL k k = lb at *
      have hl6 : lb.length ≤ 65536 := by rw [hlen, Hn.out]; omega
      have htb : takes lb.length = 1366 := by rw [hlen]; exact HT.out
      have ht0 : takenL [] = 0 := rfl
      have ht1 : takenL ([] ++ [lb]) = 1366 := by rw [takenL_snoc, htb]; rfl
      have ht2 : takenL ([] ++ [lb] ++ [[1]]) = 1367 := by rw [takenL_snoc, ht1]; decide
      have ht3 : takenL [lb] = 1366 := by simp [takenL, htb]
      have Hlen := Lib.hid hlen; have Hl6 := Lib.hid hl6; have Htb := Lib.hid htb; have Ht1 := Lib.hid ht1; have Ht2 := Lib.hid ht2; have Ht3 := Lib.hid ht3; have Hv := Lib.hid hv; have Hhn := HH
      clear hlen hbk hbw hU2 Hbl0 hl6 htb ht0 ht1 ht2 ht3 hv
      go_wp2_with fail
      refine (append_VX wr wr _ _ _ _ _ _ _ _ hUr (Below.refl _ _) (hq' hbw0) _ _ lb Hv.out (fun b e => by rw [e]; exact ⟨.inr (.inl rfl), hglt⟩) (by omega) Hl6.out).mono ?_
      rintro e w4 ⟨rfl, hU4, hb4, hk4⟩
      have hc4 : takenL [] + takes lb.length ≤ halfN N := by rw [Htb.out, HH.out]; decide
      rw [if_pos hc4] at hU4
      rw [if_pos hc4]
      have hb4 := hbw0.trans hb4
      have hv4 : Bytes (fun b => b = w2.heap.size) w4 _ _ := Hv.out.keep fun b e _ => by rw [e]; exact hk4
      have Hv4 := Lib.hid hv4
      clear hUr hc4 hv4 hk4 hbw0
      go_wp2_with fail
      refine (room_Q w4 _ _ _ _ _ _ _ _ hU4).mono ?_
      rintro e w5 ⟨rfl, hU5, hb5⟩
      rw [show roomV N ([] ++ [lb]) = 48 from by unfold roomV; rw [HH.out, Ht1.out]; decide]
      have hv5 := Hv4.out.keep (w' := w5) fun b e hlt => hb5.block b hlt
      have hb5 := kept_trans hb4 hb5
      have Hv5 := Lib.hid hv5
      clear hU4 hb4 hv5 Hv4
      go_wp2_with fail
      have k6 := kept_alloc w5 (.cells #[.int .u8 1] 5)
      have v6 := bytes_const w5 [1] #[.int .u8 1] rfl 1 rfl (by simp) 5 (0, 0)
      refine (append_VX w5 _ _ _ _ _ _ _ _ _ hU5 k6 (hq' (kept_trans hb5 k6)) _ _ _ v6 (fun b e => by rw [e]; exact ⟨.inr (.inr (Nat.le_refl _)), by simp⟩) (by omega) (by simp)).mono ?_
      rintro e w6 ⟨rfl, hU6, hb6, hk6⟩
      have hc6 : takenL ([] ++ [lb]) + takes ([1] : List UInt8).length ≤ halfN N := by rw [Ht1.out, HH.out]; decide
      rw [if_pos hc6] at hU6
      rw [if_pos hc6]
      have hv6 : Bytes (fun b => b = w2.heap.size) w6 _ _ := Hv5.out.keep fun b e hlt => by rw [e] at hlt ⊢; exact (show w6.heap[w2.heap.size]? = _ from hk6).trans (k6.block _ hlt)
      have hb6 := (kept_trans hb5 k6).trans hb6
      have Hv6 := Lib.hid hv6
      clear hU5 hb5 hc6 hv6 k6 v6 hk6 Hv5
      go_wp2_with fail
      refine (room_Q w6 _ _ _ _ _ _ _ _ hU6).mono ?_
      rintro e w7 ⟨rfl, hU7, hb7⟩
      rw [show roomV N ([] ++ [lb] ++ [[1]]) = -1 from by unfold roomV; rw [HH.out, Ht2.out]; decide]
      have hv7 := Hv6.out.keep (w' := w7) fun b e hlt => hb7.block b hlt
      have hb7 := kept_trans hb6 hb7
      have Hv7 := Lib.hid hv7
      clear hU6 hb6 hv7 Hv6
      go_wp2_with fail
      refine (append_VX w7 w7 _ _ _ _ _ _ _ _ hU7 (Below.refl _ _) (hq' hb7) none_ _ _ (bytes_empty none_ w7 none) (fun b e => e.elim) (by omega) (by simp)).mono ?_
      rintro e w8 ⟨rfl, hU8, hb8, hk8⟩
      have hc8 : ¬ takenL ([] ++ [lb] ++ [[1]]) + takes ([] : List UInt8).length ≤ halfN N := by rw [Ht2.out, HH.out]; decide
      rw [if_neg hc8] at hU8
      rw [if_neg hc8]
      have hv8 : Bytes (fun b => b = w2.heap.size) w8 _ _ := Hv7.out.keep fun b e _ => by rw [e]; exact hk8
      have hb8 := hb7.trans hb8
      have Hv8 := Lib.hid hv8
      clear hU7 hb7 hc8 hv8 hk8 Hv7
      go_wp2_with fail
      refine (replace_VX w8 w8 _ _ _ _ _ _ _ w2.heap.size hU8 (Below.refl _ _) (hq' hb8) _ _ lb Hv8.out (fun b e => by rw [e]; exact ⟨.inr (.inl rfl), hU8.q_lt⟩) (by omega) Hl6.out (by omega) (by rw [Htb.out, HH.out]; decide)).mono ?_
      rintro e w9 ⟨rfl, hU9, hb9, hk9⟩
      have hv9 : Bytes (fun b => b = w2.heap.size) w9 _ _ := Hv8.out.keep fun b e _ => by rw [e]; exact hk9
      have hb9 := hb8.trans hb9
      have Hv9 := Lib.hid hv9
      clear hU8 hb8 hv9 hk9 Hv8
      go_wp2_with fail
      refine (append_VX w9 w9 _ _ _ _ _ _ _ _ hU9 (Below.refl _ _) (hq' hb9) none_ _ _ (bytes_empty none_ w9 none) (fun b e => e.elim) (by omega) (by simp)).mono ?_
      rintro e wa ⟨rfl, hUa, hba, hka⟩
      have hca : takenL [lb] + takes ([] : List UInt8).length ≤ halfN N := by rw [Ht3.out, HH.out]; decide
      rw [if_pos hca] at hUa
      rw [if_pos hca]
      have hva : Bytes (fun b => b = w2.heap.size) wa _ _ := Hv9.out.keep fun b e _ => by rw [e]; exact hka
      have hba := hb9.trans hba
      have Hva := Lib.hid hva
      have hga : w2.heap.size < wa.heap.size := hUa.q_lt
      have HO := Lib.hid (open_V wa _ _ _ _ _ _ _ hUa.toV (hq' hba))
      clear hU9 hb9 hca hva hka Hv9 hUa
      go_wp2_with fail
      refine HO.out.mono ?_
      rintro e wb ⟨kk, MM, rfl, hJb, hbb⟩
      have hvb := Hva.out.keep (w' := wb) fun b e hlt => hbb.block b hlt
      have hgb : w2.heap.size < wb.heap.size := by have := hbb.size; omega
      have hbb := kept_trans hba hbb
      have HR := Lib.hid (records_X wb _ _ _ _ _ hJb)
      have Hvb := Lib.hid hvb
      clear hba HO hJb hvb Hva
      go_wp2_with fail
      refine HR.out.mono ?_
      rintro e wc ⟨r, R', rfl, hrc, -, hbc⟩
      have hvc := Hvb.out.keep (w' := wc) fun b e hlt => hbc.block b hlt
      have hgc : w2.heap.size < wc.heap.size := by have := hbc.size; omega
      have hbc := kept_trans hbb hbc
      have ke := kept_alloc wc (.cells #[] 5)
      have kf : Below wc.heap.size wc ((wc.alloc (.cells #[] 5)).alloc (.cells #[.slice (some ⟨w2.heap.size, 0, none⟩) k k, .slice (some ⟨wc.heap.size, 0, none⟩) 0 0] 30)) := ke.alloc (by simp) _
      have ve := hvc.keep (w' := wc.alloc (.cells #[] 5)) (fun b e hlt => ke.block b hlt)
      have rf := rowsAt_two (l1 := []) ve (bytes_empty _ _ (some ⟨wc.heap.size, 0, none⟩)) (fun b e => by rw [e]; simp; omega)
      rw [show (wc.alloc (.cells #[] 5)).heap.size = wc.heap.size + 1 from by simp] at rf
      have heq := equal_any _ _ _ _ _ _ _ (hrc.at.kept kf) rf (by simp) (by simp)
      rw [show decide ([lb] ++ [[]] = [lb, []]) = true from by simp] at heq
      have Heq := Lib.hid heq
      clear hbb HR hrc hvc ve rf heq Hvb
      go_wp2_with fail
      refine Heq.out.mono ?_
      rintro e wd ⟨rfl, m, rfl⟩
      go_wp2_with fail
      go_ret
      exact ⟨rfl, Below.drewN' (kept_trans hbc kf) m⟩
end Go.Proofs.YtmimplmeccoahaaDoor
