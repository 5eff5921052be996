/- Journals on a disk that never fails; fresh. -/
import Derived.Test.YtmimplmeccoahaaDoorJL1
namespace Go.Proofs.YtmimplmeccoahaaDoor
open Go.RowKit
set_option linter.unusedVariables false
set_option maxRecDepth 20000
attribute [local go_sem] opC upC

/-- a disk that is up and bears no fault -/
def upM (S : List (List UInt8)) (k : Nat) : MD := ⟨S, false, none, k⟩
def setAll (S : List (List UInt8)) (ws : List (Nat × List UInt8)) : List (List UInt8) := ws.foldl (fun S p => S.set p.1 p.2) S
theorem setAll_length (ws : List (Nat × List UInt8)) : ∀ S, (setAll S ws).length = S.length := by
  induction ws with
  | nil => intro S; rfl
  | cons x ws ih => intro S; show (setAll (S.set x.1 x.2) ws).length = _; rw [ih]; simp
theorem wr_up (S : List (List UInt8)) (k a : Nat) (s : List UInt8) : (upM S k).wr a s = (upM (S.set a s) (k + 1), 0) := rfl
theorem writeAll_up (ws : List (Nat × List UInt8)) : ∀ S k, writeAll (upM S k) ws = (upM (setAll S ws) (k + ws.length), 0) := by
  induction ws with
  | nil => intro S k; rfl
  | cons x ws ih =>
    intro S k
    obtain ⟨a, s⟩ := x
    show (if ((upM S k).wr a s).2 = 0 then writeAll ((upM S k).wr a s).1 ws else (upM S k).wr a s) = _
    rw [wr_up]
    simp only [if_true]
    rw [ih]
    show (upM (setAll (S.set a s) ws) (k + 1 + ws.length), (0 : Int)) = (upM (setAll (S.set a s) ws) (k + (ws.length + 1)), 0)
    rw [Nat.add_assoc, Nat.add_comm 1]

/-- a journal whose disk is up, with n sectors; its blocks lie from lo on -/
def UpJ (w : World) (lo : Nat) (jk : JK) (n g : Nat) (L : List (List UInt8)) (c : Nat) : Prop :=
  0 < lo ∧ (∀ b, jk.all b → lo ≤ b) ∧ ∃ S k, S.length = n ∧ k ≤ c ∧ JAt w jk (upM S k) ⟨g, L, false⟩

theorem UpJ.lt {w : World} {lo : Nat} {jk : JK} {n g : Nat} {L : List (List UInt8)} {c : Nat} (h : UpJ w lo jk n g L c) : ∀ b, jk.all b → b < w.heap.size := by
  obtain ⟨_, _, S, k, _, _, hj⟩ := h
  exact hj.lt
theorem UpJ.keep {w w' : World} {lo : Nat} {jk : JK} {n g : Nat} {L : List (List UInt8)} {c : Nat} (h : UpJ w lo jk n g L c) (hk : ∀ b, jk.all b → w'.heap[b]? = w.heap[b]?) (hs : w.heap.size ≤ w'.heap.size) : UpJ w' lo jk n g L c := by
  obtain ⟨h1, h2, S, k, h3, h4, hj⟩ := h
  exact ⟨h1, h2, S, k, h3, h4, hj.keep hk hs⟩
theorem UpJ.kept {w w' : World} {lo : Nat} {jk : JK} {n g : Nat} {L : List (List UInt8)} {c : Nat} (h : UpJ w lo jk n g L c) (hb : Below w.heap.size w w') : UpJ w' lo jk n g L c :=
  h.keep (fun b hf => hb.block b (h.lt b hf)) hb.size
theorem UpJ.lo_lt {w : World} {lo : Nat} {jk : JK} {n g : Nat} {L : List (List UInt8)} {c : Nat} (h : UpJ w lo jk n g L c) : lo < w.heap.size := by
  have h1 := h.lt jk.j (.inl rfl)
  have h2 := h.2.1 jk.j (.inl rfl)
  omega
theorem UpJ.more {w : World} {lo : Nat} {jk : JK} {n g : Nat} {L : List (List UInt8)} {c c' : Nat} (h : UpJ w lo jk n g L c) (hc : c ≤ c') : UpJ w lo jk n g L c' := by
  obtain ⟨h1, h2, S, k, h3, h4, hj⟩ := h
  exact ⟨h1, h2, S, k, h3, by omega, hj⟩

theorem append_up (w : World) (lo : Nat) (jk : JK) (n g : Nat) (L : List (List UInt8)) (c : Nat) (h : UpJ w lo jk n g L c) (hq : Quarter w) (F : Blks) (v : Value) (l : List UInt8) (hv : Bytes F w v l) (hF : ∀ b, F b → b < w.heap.size ∧ ¬ jk.all b) (hc : c + 70000 < 4611686018427387904) (hl : l.length ≤ 65536) :
    Calls Tryd.prog 16 #[.pointer (some ⟨jk.j, 0, none⟩), v] w fun e w' => e = .returned (.int .i64 (if takenL L + takes l.length ≤ halfN n then 0 else 7)) ∧
      ∃ jk', jk'.j = jk.j ∧ jk'.K.d = jk.K.d ∧ UpJ w' lo jk' n g (if takenL L + takes l.length ≤ halfN n then L ++ [l] else L) (c + 70000) ∧ Below lo w w' := by
  have hlo := h.lo_lt
  obtain ⟨h0, hall, S, k, rfl, hk, hj⟩ := h
  have hroom := hj.room
  have hle := hj.disk.le
  have hH : halfN S.length ≤ 32768 := by unfold halfN; have : S.length ≤ 65536 := hle; omega
  dsimp only at hroom
  have hroom : takenL L ≤ halfN S.length := hroom
  refine (append_any w jk _ _ hj F v l hv hF (fun hh => by have := hall 0 hh; omega) hq (by show k + 65536 < _; omega)).mono ?_
  rintro e w' ⟨rfl, jk', h1, h2, hj', h4, ho⟩
  have hb : Below lo w w' := ho.below hall (by omega)
  have hall' : ∀ b, jk'.all b → lo ≤ b := fun b hb => by
    rcases h4 b hb with h | h
    · exact hall b h
    · omega
  by_cases hf : takenL L + takes l.length ≤ halfN S.length
  · rw [if_pos hf, if_pos hf]
    have hM : appendM (upM S k) ⟨g, L, false⟩ l = (upM (setAll S (pieceWrites S.length g L.length (takenL L) l)) (k + (pieceWrites S.length g L.length (takenL L) l).length), ⟨g, L ++ [l], false⟩, 0) := by
      unfold appendM
      rw [if_neg (by simp), if_neg (by omega), if_neg (by show ¬ halfN S.length - takenL L < _; omega)]
      show (if (writeAll (upM S k) (pieceWrites S.length g L.length (takenL L) l)).2 = 0 then ((writeAll (upM S k) (pieceWrites S.length g L.length (takenL L) l)).1, (⟨g, L ++ [l], false⟩ : MJ), (0 : Int)) else ((writeAll (upM S k) (pieceWrites S.length g L.length (takenL L) l)).1, ⟨g, L, true⟩, (writeAll (upM S k) (pieceWrites S.length g L.length (takenL L) l)).2)) = _
      rw [writeAll_up, if_pos rfl]
    rw [hM] at hj' ⊢
    refine ⟨rfl, jk', h1, h2, ⟨h0, hall', _, _, setAll_length _ _, ?_, hj'⟩, hb⟩
    have : (pieceWrites S.length g L.length (takenL L) l).length ≤ 32768 := by simp [pieceWrites]; omega
    omega
  · rw [if_neg hf, if_neg hf]
    have hM : appendM (upM S k) ⟨g, L, false⟩ l = (upM S k, ⟨g, L, false⟩, 7) := by
      unfold appendM
      rw [if_neg (by simp), if_neg (by omega), if_pos (by show halfN S.length - takenL L < _; omega)]
    rw [hM] at hj' ⊢
    exact ⟨rfl, jk', h1, h2, ⟨h0, hall', S, k, rfl, by omega, hj'⟩, hb⟩

theorem replace_up (w : World) (lo : Nat) (jk : JK) (n g : Nat) (L : List (List UInt8)) (c : Nat) (h : UpJ w lo jk n g L c) (hq : Quarter w) (F : Blks) (v : Value) (l : List UInt8) (hv : Bytes F w v l) (hF : ∀ b, F b → b < w.heap.size ∧ ¬ jk.all b) (hc : c + 70000 < 4611686018427387904) (hl : l.length ≤ 65536) (hg : g < 4294967295) :
    Calls Tryd.prog 15 #[.pointer (some ⟨jk.j, 0, none⟩), v] w fun e w' => e = .returned (.int .i64 (if takes l.length ≤ halfN n then 0 else 7)) ∧
      ∃ jk', jk'.j = jk.j ∧ jk'.K.d = jk.K.d ∧ UpJ w' lo jk' n (if takes l.length ≤ halfN n then g + 1 else g) (if takes l.length ≤ halfN n then [l] else L) (c + 70000) ∧ Below lo w w' := by
  have hlo := h.lo_lt
  obtain ⟨h0, hall, S, k, rfl, hk, hj⟩ := h
  have hle := hj.disk.le
  have hH : halfN S.length ≤ 32768 := by unfold halfN; have : S.length ≤ 65536 := hle; omega
  refine (replace_any w jk _ _ hj F v l hv hF (fun hh => by have := hall 0 hh; omega) hq (by show k + 65536 < _; omega)).mono ?_
  rintro e w' ⟨rfl, jk', h1, h2, hj', h4, ho⟩
  have hb : Below lo w w' := ho.below hall (by omega)
  have hall' : ∀ b, jk'.all b → lo ≤ b := fun b hb => by
    rcases h4 b hb with h | h
    · exact hall b h
    · omega
  by_cases hf : takes l.length ≤ halfN S.length
  · rw [if_pos hf, if_pos hf, if_pos hf]
    have hM : replaceM (upM S k) ⟨g, L, false⟩ l = (upM (setAll S (replaceWs S.length g l)) (k + (replaceWs S.length g l).length), ⟨g + 1, [l], false⟩, 0) := by
      unfold replaceM
      rw [if_neg (by simp), if_neg (by omega), if_neg (by show ¬ (halfN S.length < _ ∨ 4294967295 ≤ g); omega)]
      show (if (writeAll (upM S k) (replaceWs S.length g l)).2 = 0 then ((writeAll (upM S k) (replaceWs S.length g l)).1, (⟨g + 1, [l], false⟩ : MJ), (0 : Int)) else ((writeAll (upM S k) (replaceWs S.length g l)).1, ⟨g, L, true⟩, (writeAll (upM S k) (replaceWs S.length g l)).2)) = _
      rw [writeAll_up, if_pos rfl]
    rw [hM] at hj' ⊢
    refine ⟨rfl, jk', h1, h2, ⟨h0, hall', _, _, setAll_length _ _, ?_, hj'⟩, hb⟩
    have : (replaceWs S.length g l).length ≤ 32769 := by simp [replaceWs, pieceWrites]; omega
    omega
  · rw [if_neg hf, if_neg hf, if_neg hf]
    have hM : replaceM (upM S k) ⟨g, L, false⟩ l = (upM S k, ⟨g, L, false⟩, 7) := by
      unfold replaceM
      rw [if_neg (by simp), if_neg (by omega), if_pos (by show halfN S.length < _ ∨ 4294967295 ≤ g; omega)]
    rw [hM] at hj' ⊢
    exact ⟨rfl, jk', h1, h2, ⟨h0, hall', S, k, rfl, by omega, hj'⟩, hb⟩

def roomV (n : Nat) (L : List (List UInt8)) : Int := if halfN n - takenL L < 1 then -1 else min (48 * ((halfN n - takenL L : Nat) : Int)) 65536

theorem room_up (w : World) (lo : Nat) (jk : JK) (n g : Nat) (L : List (List UInt8)) (c : Nat) (h : UpJ w lo jk n g L c) :
    Calls Tryd.prog 17 #[.pointer (some ⟨jk.j, 0, none⟩)] w fun e w' => e = .returned (.int .i64 (roomV n L)) ∧ ∃ m, w.drewN m = w' := by
  obtain ⟨h0, hall, S, k, rfl, hk, hj⟩ := h
  have hroom : takenL L ≤ halfN S.length := hj.room
  obtain ⟨ra, rc, R, hjb, hr, hown⟩ := hj.recs
  exact room_any w jk.j jk.K.d g (takenL L) _ false jk.K _ hjb hj.disk rfl (by have : 8 ≤ S.length := hj.size8; show 2 ≤ S.length; omega) hroom

theorem records_up (w : World) (lo : Nat) (jk : JK) (n g : Nat) (L : List (List UInt8)) (c : Nat) (h : UpJ w lo jk n g L c) :
    Calls Tryd.prog 18 #[.pointer (some ⟨jk.j, 0, none⟩)] w fun e w' => ∃ r R', e = .returned r ∧ RowsIn R' w' w.heap.size r L ∧ (∀ b, R' b → w.heap.size ≤ b ∧ b < w'.heap.size) ∧ Below w.heap.size w w' := by
  obtain ⟨h0, hall, S, k, rfl, hk, hj⟩ := h
  have hroom : takenL L ≤ halfN S.length := hj.room
  have hle : S.length ≤ 65536 := hj.disk.le
  have := length_le_taken L
  obtain ⟨ra, rc, R, hjb, hr, hown⟩ := hj.recs
  exact records_any w jk.j jk.K.d g (takenL L) _ false hjb R L hr (by unfold halfN at hroom; omega) hj.lens

theorem dead_up (w : World) (lo : Nat) (jk : JK) (n g : Nat) (L : List (List UInt8)) (c : Nat) (h : UpJ w lo jk n g L c) :
    Calls Tryd.prog 20 #[.pointer (some ⟨jk.j, 0, none⟩)] w fun e w' => e = .returned (.bool false) ∧ w = w' := by
  obtain ⟨h0, hall, S, k, rfl, hk, hj⟩ := h
  obtain ⟨ra, rc, R, hjb, hr, hown⟩ := hj.recs
  exact dead_any w jk.j jk.K.d g (takenL L) _ false hjb

theorem UpJ.taken {w : World} {lo : Nat} {jk : JK} {n g : Nat} {L : List (List UInt8)} {c : Nat} (h : UpJ w lo jk n g L c) : takenL L ≤ halfN n ∧ n ≤ 65536 := by
  obtain ⟨h0, hall, S, k, rfl, hk, hj⟩ := h
  exact ⟨hj.room, hj.disk.le⟩

theorem fresh_any (w : World) (n : Nat) (h8 : 8 ≤ n) (hn : n ≤ 65536) (hq : Quarter w) :
    Calls Tryd.prog 14 #[.int .i64 (n : Int)] w fun e w' => ∃ jk, e = .returned (.tuple #[.pointer (some ⟨jk.K.d, 0, none⟩), .pointer (some ⟨jk.j, 0, none⟩)]) ∧ UpJ w' w.heap.size jk n 0 [] 70000 ∧ Below w.heap.size w w' := by
  have h0 : 0 < w.heap.size := by obtain ⟨t, fz, hh⟩ := hq; exact lt_of_block hh
  have hnew := new_ok w n (by omega) hn
  have Hnew := Lib.hid hnew
  clear hnew
  go_enter Tryd.func14, Tryd.ntmps14
  go_wp2_with fail
  refine Hnew.out.mono ?_
  rintro e w1 ⟨K, rfl, hd, hb1, hK⟩
  have hlen : (MD.fresh n).S.length = n := by simp [MD.fresh]
  have hf := format_any w1 K (MD.fresh n) hd (by omega) (hq.keep (hb1.block 0 h0)) (fun h => by have := hK 0 h; omega) (by show 0 + 65540 < _; omega)
  have hM : formatM (MD.fresh n) = (upM (setAll (List.replicate n (List.replicate 64 0)) (zeroWs n ++ [(0, headB 0)])) (0 + (zeroWs n ++ [(0, headB 0)]).length), 0) := by
    rw [formatM_def, hlen]
    exact writeAll_up _ _ _
  rw [hM] at hf
  have Hf := Lib.hid hf; have Hd := Lib.hid hd; have Hb := Lib.hid hb1
  clear hf hd hM
  go_wp2_with fail
  refine Hf.out.mono ?_
  rintro e w2 ⟨K', hK', hKf, ho, h⟩
  rcases h with ⟨-, jb, rfl, hjb, hj⟩ | ⟨h, -⟩
  · have hb2 : Below w.heap.size w1 w2 := ho.below hK hb1.size
    have hj' := Lib.hid hj
    clear hj
    go_wp2_with fail
    go_ret2
    refine ⟨⟨jb, K', none_⟩, by simp [hK'], ⟨h0, ?_, _, _, ?_, ?_, hj'.out⟩, hb1.trans hb2⟩
    · rintro b (hb | hb | hb)
      · have := hb1.size; rw [hb]; show w.heap.size ≤ jb; omega
      · exact hK b (hKf b hb)
      · exact hb.elim
    · rw [setAll_length]; simp
    · simp [zeroWs]; omega
  · exact absurd rfl h
end Go.Proofs.YtmimplmeccoahaaDoor
