/- Calls of a journal on a disk that never fails keep the invariant. -/
import Derived.Test.YtmimplmeccoahaaDoorJInv
import Derived.Test.YtmimplmeccoahaaDoorJA
namespace Go.Proofs.YtmimplmeccoahaaDoor
open Go.RowKit Go.ChangeShapes Go.WideShapes Go.ChangeAt
set_option linter.unusedVariables false
set_option maxRecDepth 20000

/-- a journal on a disk that never fails, and its sectors bear it -/
def UpV (w : World) (lo j d n g : Nat) (L : List (List UInt8)) (c : Nat) : Prop :=
  ∃ (jk : JK) (S : List (List UInt8)) (k : Nat), jk.j = j ∧ jk.K.d = d ∧ 0 < lo ∧ (∀ b, jk.all b → lo ≤ b) ∧ S.length = n ∧ k ≤ c ∧ JAt w jk (upM S k) ⟨g, L, false⟩ ∧ Inv S g L

theorem UpV.kept {w w' : World} {lo j d n g : Nat} {L : List (List UInt8)} {c : Nat} (h : UpV w lo j d n g L c) (hb : Below w.heap.size w w') : UpV w' lo j d n g L c := by
  obtain ⟨jk, S, k, h1, h2, h3, h4, h5, h6, h7, h8⟩ := h
  exact ⟨jk, S, k, h1, h2, h3, h4, h5, h6, h7.kept hb, h8⟩
theorem UpV.lo_lt {w : World} {lo j d n g : Nat} {L : List (List UInt8)} {c : Nat} (h : UpV w lo j d n g L c) : lo < w.heap.size := by
  obtain ⟨jk, S, k, h1, h2, h3, h4, h5, h6, h7, h8⟩ := h
  have a := h7.lt jk.j (.inl rfl)
  have b := h4 jk.j (.inl rfl)
  omega

theorem append_V (w0 w : World) (lo j d n g : Nat) (L : List (List UInt8)) (c : Nat) (h : UpV w0 lo j d n g L c) (hb : Below w0.heap.size w0 w) (hq : Quarter w) (F : Blks) (v : Value) (l : List UInt8) (hv : Bytes F w v l) (hF : ∀ b, F b → (b < lo ∨ w0.heap.size ≤ b) ∧ b < w.heap.size) (hc : c + 70000 < 4611686018427387904) (hl : l.length ≤ 65536) :
    Calls Tryd.prog 16 #[.pointer (some ⟨j, 0, none⟩), v] w fun e w' => (∃ r, e = .returned (.int .i64 r)) ∧ (∃ L', UpV w' lo j d n g L' (c + 70000)) ∧ Below lo w w' := by
  have hlo := h.lo_lt
  obtain ⟨jk, S, k, rfl, rfl, h0, hall, rfl, hk, hj0, hI⟩ := h
  have hj := hj0.kept hb
  have hroom : takenL L ≤ halfN S.length := hj.room
  have hle : S.length ≤ 65536 := hj.disk.le
  have hH : halfN S.length ≤ 32768 := by unfold halfN; omega
  have hz := hb.size
  refine (append_any w jk _ _ hj F v l hv (fun b hf => ⟨(hF b hf).2, fun hh => ?_⟩) (fun hh => by have := hall 0 hh; omega) hq (by show k + 65536 < _; omega)).mono ?_
  · have := hj0.lt b hh
    have := hall b hh
    rcases (hF b hf).1 with h | h <;> omega
  rintro e w' ⟨rfl, jk', h1, h2, hj', h4, ho⟩
  have hbl : Below lo w w' := ho.below hall (by omega)
  have hall' : ∀ b, jk'.all b → lo ≤ b := fun b hb => by
    rcases h4 b hb with h | h
    · exact hall b h
    · omega
  refine ⟨⟨_, rfl⟩, ?_, hbl⟩
  by_cases hf : takenL L + takes l.length ≤ halfN S.length
  · have hM : appendM (upM S k) ⟨g, L, false⟩ l = (upM (setAll S (pieceWrites S.length g L.length (takenL L) l)) (k + (pieceWrites S.length g L.length (takenL L) l).length), ⟨g, L ++ [l], false⟩, 0) := by
      unfold appendM
      rw [if_neg (by simp), if_neg (by omega), if_neg (by show ¬ halfN S.length - takenL L < _; omega)]
      show (if (writeAll (upM S k) (pieceWrites S.length g L.length (takenL L) l)).2 = 0 then ((writeAll (upM S k) (pieceWrites S.length g L.length (takenL L) l)).1, (⟨g, L ++ [l], false⟩ : MJ), (0 : Int)) else ((writeAll (upM S k) (pieceWrites S.length g L.length (takenL L) l)).1, ⟨g, L, true⟩, (writeAll (upM S k) (pieceWrites S.length g L.length (takenL L) l)).2)) = _
      rw [writeAll_up, if_pos rfl]
    rw [hM] at hj'
    refine ⟨L ++ [l], jk', _, _, h1, h2, h0, hall', setAll_length _ _, ?_, hj', inv_append_up (k := k) hI hf hl⟩
    have : (pieceWrites S.length g L.length (takenL L) l).length ≤ 32768 := by simp [pieceWrites]; omega
    omega
  · have hM : appendM (upM S k) ⟨g, L, false⟩ l = (upM S k, ⟨g, L, false⟩, 7) := by
      unfold appendM
      rw [if_neg (by simp), if_neg (by omega), if_pos (by show halfN S.length - takenL L < _; omega)]
    rw [hM] at hj'
    exact ⟨L, jk', S, k, h1, h2, h0, hall', rfl, by omega, hj', hI⟩

theorem replace_V (w0 w : World) (lo j d n g : Nat) (L : List (List UInt8)) (c : Nat) (h : UpV w0 lo j d n g L c) (hb : Below w0.heap.size w0 w) (hq : Quarter w) (F : Blks) (v : Value) (l : List UInt8) (hv : Bytes F w v l) (hF : ∀ b, F b → (b < lo ∨ w0.heap.size ≤ b) ∧ b < w.heap.size) (hc : c + 70000 < 4611686018427387904) (hl : l.length ≤ 65536) (hg : g + 1 < 4294967295) :
    Calls Tryd.prog 15 #[.pointer (some ⟨j, 0, none⟩), v] w fun e w' => (∃ r, e = .returned (.int .i64 r)) ∧ (∃ g' L', g' ≤ g + 1 ∧ UpV w' lo j d n g' L' (c + 70000)) ∧ Below lo w w' := by
  have hlo := h.lo_lt
  obtain ⟨jk, S, k, rfl, rfl, h0, hall, rfl, hk, hj0, hI⟩ := h
  have hj := hj0.kept hb
  have hle : S.length ≤ 65536 := hj.disk.le
  have hH : halfN S.length ≤ 32768 := by unfold halfN; omega
  have hz := hb.size
  refine (replace_any w jk _ _ hj F v l hv (fun b hf => ⟨(hF b hf).2, fun hh => ?_⟩) (fun hh => by have := hall 0 hh; omega) hq (by show k + 65536 < _; omega)).mono ?_
  · have := hj0.lt b hh
    have := hall b hh
    rcases (hF b hf).1 with h | h <;> omega
  rintro e w' ⟨rfl, jk', h1, h2, hj', h4, ho⟩
  have hbl : Below lo w w' := ho.below hall (by omega)
  have hall' : ∀ b, jk'.all b → lo ≤ b := fun b hb => by
    rcases h4 b hb with h | h
    · exact hall b h
    · omega
  refine ⟨⟨_, rfl⟩, ?_, hbl⟩
  by_cases hf : takes l.length ≤ halfN S.length
  · have hM : replaceM (upM S k) ⟨g, L, false⟩ l = (upM (setAll S (replaceWs S.length g l)) (k + (replaceWs S.length g l).length), ⟨g + 1, [l], false⟩, 0) := by
      unfold replaceM
      rw [if_neg (by simp), if_neg (by omega), if_neg (by show ¬ (halfN S.length < _ ∨ 4294967295 ≤ g); omega)]
      show (if (writeAll (upM S k) (replaceWs S.length g l)).2 = 0 then ((writeAll (upM S k) (replaceWs S.length g l)).1, (⟨g + 1, [l], false⟩ : MJ), (0 : Int)) else ((writeAll (upM S k) (replaceWs S.length g l)).1, ⟨g, L, true⟩, (writeAll (upM S k) (replaceWs S.length g l)).2)) = _
      rw [writeAll_up, if_pos rfl]
    rw [hM] at hj'
    refine ⟨g + 1, [l], Nat.le_refl _, jk', _, _, h1, h2, h0, hall', setAll_length _ _, ?_, hj', inv_replace_up (k := k) hI hg hf hl⟩
    have : (replaceWs S.length g l).length ≤ 32769 := by simp [replaceWs, pieceWrites]; omega
    omega
  · have hM : replaceM (upM S k) ⟨g, L, false⟩ l = (upM S k, ⟨g, L, false⟩, 7) := by
      unfold replaceM
      rw [if_neg (by simp), if_neg (by omega), if_pos (by show halfN S.length < _ ∨ 4294967295 ≤ g; omega)]
    rw [hM] at hj'
    exact ⟨g, L, by omega, jk', S, k, h1, h2, h0, hall', rfl, by omega, hj', hI⟩

theorem fresh_V (w : World) (n : Nat) (h8 : 8 ≤ n) (hn : n ≤ 65536) (hq : Quarter w) :
    Calls Tryd.prog 14 #[.int .i64 (n : Int)] w fun e w' => ∃ j d, e = .returned (.tuple #[.pointer (some ⟨d, 0, none⟩), .pointer (some ⟨j, 0, none⟩)]) ∧ UpV w' w.heap.size j d n 0 [] 70000 ∧ Below w.heap.size w w' := by
  have h0 : 0 < w.heap.size := by obtain ⟨t, fz, hh⟩ := hq; exact lt_of_block hh
  have hnew := new_ok w n (by omega) hn
  have Hnew := Lib.hid hnew
  clear hnew
  go_enter Tryd.func14, Tryd.ntmps14
  go_wp2_with fail
  refine Hnew.out.mono ?_
  rintro e w1 ⟨K, rfl, hd, hb1, hK⟩
  have hlen : (MD.fresh n).S.length = n := by simp [MD.fresh]
  have hf := format_any w1 K (MD.fresh n) hd (by omega) (hq.keep (hb1.block 0 h0)) (fun h => by have := hK 0 h; omega) (by show 0 + 65540 < _; omega)
  have hM : formatM (MD.fresh n) = (upM (setAll (List.replicate n (List.replicate 64 0)) (zeroWs n ++ [(0, headB 0)])) (0 + (zeroWs n ++ [(0, headB 0)]).length), 0) := by
    rw [formatM_def, hlen]
    exact writeAll_up _ _ _
  rw [hM] at hf
  have Hf := Lib.hid hf; have Hd := Lib.hid hd; have Hb := Lib.hid hb1
  clear hf hd hM
  go_wp2_with fail
  refine Hf.out.mono ?_
  rintro e w2 ⟨K', hK', hKf, ho, h⟩
  rcases h with ⟨-, jb, rfl, hjb, hj⟩ | ⟨h, -⟩
  · have hb2 : Below w.heap.size w1 w2 := ho.below hK hb1.size
    have hj' := Lib.hid hj
    clear hj
    go_wp2_with fail
    go_ret2
    refine ⟨jb, K'.d, by simp [hK'], ⟨⟨jb, K', none_⟩, _, _, rfl, rfl, h0, ?_, ?_, ?_, hj'.out, inv_fresh n h8 hn⟩, hb1.trans hb2⟩
    · rintro b (hb | hb | hb)
      · have := hb1.size; rw [hb]; show w.heap.size ≤ jb; omega
      · exact hK b (hKf b hb)
      · exact hb.elim
    · rw [setAll_length]; simp
    · simp [zeroWs]; omega
  · exact absurd rfl h
end Go.Proofs.YtmimplmeccoahaaDoor
