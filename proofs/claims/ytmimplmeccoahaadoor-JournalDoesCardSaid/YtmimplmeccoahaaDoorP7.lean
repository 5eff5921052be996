/- The calls of a pair's two sides. -/
import Derived.Test.YtmimplmeccoahaaDoorRJ9
namespace Go.Proofs.YtmimplmeccoahaaDoor
open Go.RowKit
set_option linter.unusedVariables false
set_option maxRecDepth 20000
attribute [local go_sem] opC upC

/-- the program's side has stepped -/
def StepP (w : World) (p lo : Nat) (k : PK) (M1 M2 : MD) (o1 o2 : Option MJ) (w' : World) : Prop :=
  ∃ F', Pair2 w' p lo { k with F := F' } M1 M2 o1 o2 ∧ (∀ b, F' b → k.F b ∨ w.heap.size ≤ b) ∧ Only k.F w w'
def StepR (w : World) (p lo : Nat) (k : PK) (M1 M2 : MD) (o1 o2 : Option MJ) (w' : World) : Prop :=
  ∃ G', Pair2 w' p lo { k with G := G' } M1 M2 o1 o2 ∧ (∀ b, G' b → k.G b ∨ w.heap.size ≤ b) ∧ Only k.G w w'

theorem Pair2.splitP {w : World} {p lo : Nat} {k : PK} {M1 M2 : MD} {o1 o2 : Option MJ} (h : Pair2 w p lo k M1 M2 o1 o2) : ∃ K : DK, K.d = k.d ∧ (∀ b, K.foot b → k.F b) ∧ DiskAt w K M1 ∧
    ∀ (w' : World) (K' : DK) (M' : MD), DiskAt w' K' M' → K'.d = k.d → (∀ b, K'.foot b → K.foot b ∨ w.heap.size ≤ b) → Only K.foot w w' → M'.S.length = M1.S.length → StepP w p lo k M' M2 o1 o2 w' := by
  obtain ⟨K, h1, h2, h3, h4⟩ := PSide.split h.ps
  refine ⟨K, h1, h2, h3, fun w' K' M' c a b e' hn => ?_⟩
  obtain ⟨F', f1, f2, f3⟩ := h4 w' K' M' c a b e' hn
  obtain ⟨g1, g2⟩ := h.stepP f2 f1 f3
  exact ⟨_, g1, fun b hb => f1 b hb.1, f3⟩
theorem Pair2.splitR {w : World} {p lo : Nat} {k : PK} {M1 M2 : MD} {o1 o2 : Option MJ} (h : Pair2 w p lo k M1 M2 o1 o2) : ∃ K : RK, K.d = k.e ∧ (∀ b, K.all b → k.G b) ∧ RefAt w K M2 ∧
    ∀ (w' : World) (K' : RK) (M' : MD), RefAt w' K' M' → K'.d = k.e → (∀ b, K'.all b → K.all b ∨ w.heap.size ≤ b) → Only K.all w w' → M'.S.length = M2.S.length → StepR w p lo k M1 M' o1 o2 w' := by
  obtain ⟨K, h1, h2, h3, h4⟩ := RSide.split h.rs
  refine ⟨K, h1, h2, h3, fun w' K' M' c a b e' hn => ?_⟩
  obtain ⟨F', f1, f2, f3⟩ := h4 w' K' M' c a b e' hn
  obtain ⟨g1, g2⟩ := h.stepR f2 f1 f3
  exact ⟨_, g1, fun b hb => f1 b hb.1, f3⟩

theorem fail2P (w : World) (p lo : Nat) (k : PK) (M1 M2 : MD) (o1 o2 : Option MJ) (h : Pair2 w p lo k M1 M2 o1 o2) (n : Int) (h0 : 0 ≤ n) (hn : n ≤ 9223372036854775807) (F : Blks) (v : Value) (l : List UInt8) (hv : Bytes F w v l) (hl : l.length = 64) :
    Calls Tryd.prog 27 #[.pointer (some ⟨k.d, 0, none⟩), .int .i64 n, v] w fun r w' => r = .returned (.int .i64 0) ∧ StepP w p lo k { M1 with fault := some (n.toNat, l) } M2 o1 o2 w' := by
  obtain ⟨K, hK0, -, hd, back⟩ := h.splitP
  rw [← hK0]
  refine (fail_int w K M1 hd n h0 hn F v l hv hl).mono ?_
  rintro r w' ⟨rfl, ⟨K', hK', hKf, hd'⟩, ho⟩
  exact ⟨rfl, back w' K' _ hd' (hK'.trans hK0) hKf ho rfl⟩
theorem fail2R (w : World) (p lo : Nat) (k : PK) (M1 M2 : MD) (o1 o2 : Option MJ) (h : Pair2 w p lo k M1 M2 o1 o2) (n : Int) (h0 : 0 ≤ n) (hn : n ≤ 9223372036854775807) (F : Blks) (v : Value) (l : List UInt8) (hv : Bytes F w v l) (hl : l.length = 64) (hF : ∀ b, F b → ¬ k.G b) :
    Calls Tryd.prog 41 #[.pointer (some ⟨k.e, 0, none⟩), .int .i64 n, v] w fun r w' => r = .returned (.int .i64 0) ∧ StepR w p lo k M1 { M2 with fault := some (n.toNat, l) } o1 o2 w' := by
  obtain ⟨K, hK0, hK, hd, back⟩ := h.splitR
  obtain ⟨m, rfl⟩ := Int.eq_ofNat_of_zero_le h0
  rw [← hK0]
  refine (refFail_ok w K M2 hd m (by omega) F v l hv hl (fun b hb e => hF b hb (e ▸ hK _ (.inl rfl)))).mono ?_
  rintro r w' ⟨rfl, ⟨K', hK', hKf, hd'⟩, ho⟩
  exact ⟨rfl, back w' K' _ hd' (hK'.trans hK0) hKf (only_all ho) rfl⟩
theorem wr2P (w : World) (p lo : Nat) (k : PK) (M1 M2 : MD) (o1 o2 : Option MJ) (h : Pair2 w p lo k M1 M2 o1 o2) (i : Nat) (hi : i < M1.S.length) (hw : M1.writes < 4611686018427387904) (F : Blks) (v : Value) (l : List UInt8) (hv : Bytes F w v l) (hl : l.length = 64) (hF : ∀ b, F b → ¬ k.F b) :
    Calls Tryd.prog 33 #[.pointer (some ⟨k.d, 0, none⟩), .int .i64 (i : Int), v] w fun r w' => r = .returned (.int .i64 (M1.wr i l).2) ∧ StepP w p lo k (M1.wr i l).1 M2 o1 o2 w' := by
  obtain ⟨K, hK0, hK, hd, back⟩ := h.splitP
  rw [← hK0]
  refine (wr_any w K M1 hd i hi hw F v l hv hl (fun b hb hx => hF b hb (hK b hx))).mono ?_
  rintro r w' ⟨rfl, ⟨K', hK', hKf, hd'⟩, ho, hz⟩
  exact ⟨rfl, back w' K' _ hd' (hK'.trans hK0) (fun b hb => .inl (hKf b hb)) ho (wr_len _ _ _).1⟩
theorem wr2R (w : World) (p lo : Nat) (k : PK) (M1 M2 : MD) (o1 o2 : Option MJ) (h : Pair2 w p lo k M1 M2 o1 o2) (i : Nat) (hi : i < M2.S.length) (hw : M2.writes < 4611686018427387904) (F : Blks) (v : Value) (l : List UInt8) (hv : Bytes F w v l) (hl : l.length = 64) (hF : ∀ b, F b → ¬ k.G b) :
    Calls Tryd.prog 35 #[.pointer (some ⟨k.e, 0, none⟩), .int .i64 (i : Int), v] w fun r w' => r = .returned (.int .i64 (M2.wr i l).2) ∧ StepR w p lo k M1 (M2.wr i l).1 o1 o2 w' := by
  obtain ⟨K, hK0, hK, hd, back⟩ := h.splitR
  rw [← hK0]
  refine (rwr_any w K M2 hd i hi hw F v l hv hl (fun b hb e => hF b hb (e ▸ hK _ (.inl rfl)))).mono ?_
  rintro r w' ⟨rfl, ⟨K', hK', hKf, hd'⟩, ho⟩
  exact ⟨rfl, back w' K' _ hd' (hK'.trans hK0) hKf (only_all ho) (wr_len _ _ _).1⟩

/-- the journals of a pair step -/
theorem Pair2.journalP {w : World} {p lo : Nat} {k : PK} {M1 M2 : MD} {J : MJ} {o2 : Option MJ} (h : Pair2 w p lo k M1 M2 (some J) o2) : ∃ jk : JK, jk.K.d = k.d ∧ k.jv = .pointer (some ⟨jk.j, 0, none⟩) ∧ (∀ b, jk.all b → k.F b) ∧ JAt w jk M1 J ∧
    ∀ (w' : World) (jk' : JK) (M' : MD) (J' : MJ), jk'.j = jk.j → jk'.K.d = jk.K.d → JAt w' jk' M' J' → (∀ b, jk'.all b → jk.all b ∨ w.heap.size ≤ b) → Only jk.all w w' → StepP w p lo k M' M2 (some J') o2 w' := by
  obtain ⟨jk, h1, h2, h3, h4⟩ := h.ps
  refine ⟨jk, h1, h2, h3, h4, fun w' jk' M' J' e1 e2 hj hall ho => ?_⟩
  have ho' : Only k.F w w' := ho.mono h3
  have hF : ∀ b, jk'.all b → k.F b ∨ w.heap.size ≤ b := fun b hb => (hall b hb).imp (h3 b) id
  obtain ⟨g1, g2⟩ := h.stepP (o1' := some J') (M1' := M') (F' := jk'.all) ⟨jk', by rw [e2, h1], by rw [h2, e1], fun _ h => h, hj⟩ hF ho'
  exact ⟨_, g1, fun b hb => hF b hb.1, ho'⟩
theorem Pair2.journalR {w : World} {p lo : Nat} {k : PK} {M1 M2 : MD} {J : MJ} {o1 : Option MJ} (h : Pair2 w p lo k M1 M2 o1 (some J)) : ∃ jk : RJK, jk.K.d = k.e ∧ k.kv = .pointer (some ⟨jk.j, 0, none⟩) ∧ (∀ b, jk.all b → k.G b) ∧ RJAt w jk M2 J ∧
    ∀ (w' : World) (jk' : RJK) (M' : MD) (J' : MJ), jk'.j = jk.j → jk'.K.d = jk.K.d → RJAt w' jk' M' J' → (∀ b, jk'.all b → jk.all b ∨ w.heap.size ≤ b) → Only jk.all w w' → StepR w p lo k M1 M' o1 (some J') w' := by
  obtain ⟨jk, h1, h2, h3, h4⟩ := h.rs
  refine ⟨jk, h1, h2, h3, h4, fun w' jk' M' J' e1 e2 hj hall ho => ?_⟩
  have ho' : Only k.G w w' := ho.mono h3
  have hF : ∀ b, jk'.all b → k.G b ∨ w.heap.size ≤ b := fun b hb => (hall b hb).imp (h3 b) id
  obtain ⟨g1, g2⟩ := h.stepR (o2' := some J') (M2' := M') (G' := jk'.all) ⟨jk', by rw [e2, h1], by rw [h2, e1], fun _ h => h, hj⟩ hF ho'
  exact ⟨_, g1, fun b hb => hF b hb.1, ho'⟩

theorem app2P (w : World) (p lo : Nat) (k : PK) (M1 M2 : MD) (J : MJ) (o2 : Option MJ) (h : Pair2 w p lo k M1 M2 (some J) o2) (hq : Quarter w) (F : Blks) (v : Value) (l : List UInt8) (hv : Bytes F w v l) (hF : ∀ b, F b → b < w.heap.size ∧ ¬ k.F b) (hw : M1.writes + 65536 < 4611686018427387904) :
    Calls Tryd.prog 16 #[k.jv, v] w fun r w' => r = .returned (.int .i64 (appendM M1 J l).2.2) ∧ StepP w p lo k (appendM M1 J l).1 M2 (some (appendM M1 J l).2.1) o2 w' := by
  obtain ⟨jk, h1, h2, h3, h4, back⟩ := h.journalP
  rw [h2]
  refine (append_any w jk M1 J h4 F v l hv (fun b hb => ⟨(hF b hb).1, fun hx => (hF b hb).2 (h3 b hx)⟩) (fun hx => by have := (h.fF 0 (h3 0 hx)).1; have := h.pos; omega) hq hw).mono ?_
  rintro r w' ⟨rfl, jk', e1, e2, hj, hall, ho⟩
  exact ⟨rfl, back w' jk' _ _ e1 e2 hj hall ho⟩
theorem rep2P (w : World) (p lo : Nat) (k : PK) (M1 M2 : MD) (J : MJ) (o2 : Option MJ) (h : Pair2 w p lo k M1 M2 (some J) o2) (hq : Quarter w) (F : Blks) (v : Value) (l : List UInt8) (hv : Bytes F w v l) (hF : ∀ b, F b → b < w.heap.size ∧ ¬ k.F b) (hw : M1.writes + 65536 < 4611686018427387904) :
    Calls Tryd.prog 15 #[k.jv, v] w fun r w' => r = .returned (.int .i64 (replaceM M1 J l).2.2) ∧ StepP w p lo k (replaceM M1 J l).1 M2 (some (replaceM M1 J l).2.1) o2 w' := by
  obtain ⟨jk, h1, h2, h3, h4, back⟩ := h.journalP
  rw [h2]
  refine (replace_any w jk M1 J h4 F v l hv (fun b hb => ⟨(hF b hb).1, fun hx => (hF b hb).2 (h3 b hx)⟩) (fun hx => by have := (h.fF 0 (h3 0 hx)).1; have := h.pos; omega) hq hw).mono ?_
  rintro r w' ⟨rfl, jk', e1, e2, hj, hall, ho⟩
  exact ⟨rfl, back w' jk' _ _ e1 e2 hj hall ho⟩
theorem app2R (w : World) (p lo : Nat) (k : PK) (M1 M2 : MD) (J : MJ) (o1 : Option MJ) (h : Pair2 w p lo k M1 M2 o1 (some J)) (F : Blks) (v : Value) (l : List UInt8) (hv : Bytes F w v l) (hF : ∀ b, F b → b < w.heap.size ∧ ¬ k.G b) (hl : l.length ≤ 65536) (hw : M2.writes + 65536 < 4611686018427387904) :
    Calls Tryd.prog 70 #[k.kv, v] w fun r w' => r = .returned (.int .i64 (appendM M2 J l).2.2) ∧ StepR w p lo k M1 (appendM M2 J l).1 o1 (some (appendM M2 J l).2.1) w' := by
  obtain ⟨jk, h1, h2, h3, h4, back⟩ := h.journalR
  rw [h2]
  refine (rappend_any w jk M2 J h4 F v l hv (fun b hb => ⟨(hF b hb).1, fun hx => (hF b hb).2 (h3 b hx)⟩) hl hw).mono ?_
  rintro r w' ⟨rfl, jk', e1, e2, hj, hall, ho⟩
  exact ⟨rfl, back w' jk' _ _ e1 e2 hj hall ho⟩
theorem rep2R (w : World) (p lo : Nat) (k : PK) (M1 M2 : MD) (J : MJ) (o1 : Option MJ) (h : Pair2 w p lo k M1 M2 o1 (some J)) (F : Blks) (v : Value) (l : List UInt8) (hv : Bytes F w v l) (hF : ∀ b, F b → b < w.heap.size ∧ ¬ k.G b) (hl : l.length ≤ 65536) (hw : M2.writes + 65536 < 4611686018427387904) :
    Calls Tryd.prog 68 #[k.kv, v] w fun r w' => r = .returned (.int .i64 (replaceM M2 J l).2.2) ∧ StepR w p lo k M1 (replaceM M2 J l).1 o1 (some (replaceM M2 J l).2.1) w' := by
  obtain ⟨jk, h1, h2, h3, h4, back⟩ := h.journalR
  rw [h2]
  refine (rreplace_any w jk M2 J h4 F v l hv (fun b hb => ⟨(hF b hb).1, fun hx => (hF b hb).2 (h3 b hx)⟩) hl hw).mono ?_
  rintro r w' ⟨rfl, jk', e1, e2, hj, hall, ho⟩
  exact ⟨rfl, back w' jk' _ _ e1 e2 hj hall ho⟩

/-- a block of neither side is written -/
theorem Pair2.other {w w' : World} {p lo : Nat} {k : PK} {M1 M2 : MD} {o1 o2 : Option MJ} (h : Pair2 w p lo k M1 M2 o1 o2) {X : Blks} (ho : Only X w w') (hX : ∀ b, X b → b ≠ p ∧ ¬ k.F b ∧ ¬ k.G b) : Pair2 w' p lo k M1 M2 o1 o2 := by
  obtain ⟨h1, h2, h3, h4, h5, h6, h7⟩ := h
  have hz := ho.size
  exact ⟨h1.keep (ho.block _ h1.lt fun hx => (hX p hx).1 rfl), h2.keep (fun b hb hlt => ho.block b hlt fun hx => (hX b hx).2.1 hb) hz, h3.keep (fun b hb hlt => ho.block b hlt fun hx => (hX b hx).2.2 hb) hz, fun b hb' => ⟨(h4 b hb').1, (h4 b hb').2.1, (h4 b hb').2.2.1, Nat.lt_of_lt_of_le (h4 b hb').2.2.2 hz⟩, fun b hb' => ⟨(h5 b hb').1, (h5 b hb').2.1, Nat.lt_of_lt_of_le (h5 b hb').2.2 hz⟩, h6, h7⟩

theorem appendM_size (M : MD) (J : MJ) (l : List UInt8) (hl : l.length ≤ 3000) : (appendM M J l).1.S.length = M.S.length ∧ (appendM M J l).1.writes ≤ M.writes + 65536 := by
  have h := writeAll_len (pieceWrites M.S.length J.g J.L.length (takenL J.L) l) M
  rw [ws_length] at h
  have ht : takes l.length ≤ 65536 := by unfold takes; omega
  unfold appendM
  split
  · exact ⟨rfl, Nat.le_add_right _ _⟩
  · split
    · exact ⟨rfl, Nat.le_add_right _ _⟩
    · split
      · exact ⟨rfl, Nat.le_add_right _ _⟩
      · dsimp only
        split
        · exact ⟨h.1, by have := h.2; dsimp only; omega⟩
        · exact ⟨h.1, by have := h.2; dsimp only; omega⟩
theorem replaceM_size (M : MD) (J : MJ) (l : List UInt8) (hl : l.length ≤ 3000) : (replaceM M J l).1.S.length = M.S.length ∧ (replaceM M J l).1.writes ≤ M.writes + 65536 := by
  have h := writeAll_len (pieceWrites M.S.length (J.g + 1) 0 0 l ++ [((J.g + 1) % 2, headB (J.g + 1))]) M
  rw [List.length_append, ws_length] at h
  have ht : takes l.length ≤ 65535 := by unfold takes; omega
  simp only [List.length_cons, List.length_nil] at h
  unfold replaceM
  split
  · exact ⟨rfl, Nat.le_add_right _ _⟩
  · split
    · exact ⟨rfl, Nat.le_add_right _ _⟩
    · split
      · exact ⟨rfl, Nat.le_add_right _ _⟩
      · dsimp only
        split
        · exact ⟨h.1, by have := h.2; dsimp only; omega⟩
        · exact ⟨h.1, by have := h.2; dsimp only; omega⟩
end Go.Proofs.YtmimplmeccoahaaDoor
/- The acts of a pair that do not write records. -/
namespace Go.Proofs.YtmimplmeccoahaaDoor
open Go.RowKit
set_option linter.unusedVariables false
set_option maxRecDepth 20000
attribute [local go_sem] opC upC
attribute [local go_sem ↓] seal_append

def ActPost (w : World) (p lo n c : Nat) (e : Ending) (w' : World) : Prop :=
  e = .returned (.bool true) ∧ (∃ M' o', PairX w' p lo M' o' ∧ M'.S.length = n ∧ M'.writes ≤ c + 65536) ∧ Below lo w w'

theorem bytes_lt {w : World} {G : Blks} {v : Value} {l : List UInt8} (h : Bytes G w v l) : Bytes (fun b => b < w.heap.size) w v l := by
  obtain ⟨a, cap, rfl, hc, hm, hz, hx⟩ := h
  refine ⟨a, cap, rfl, hc, hm, hz, ?_⟩
  rcases hx with h | ⟨b', off, L, t, fz, h1, h2, h3, h4, h5⟩
  · exact .inl h
  · exact .inr ⟨b', off, L, t, fz, h1, lt_of_block h3, h3, h4, h5⟩



set_option maxRecDepth 100000 in
set_option maxHeartbeats 1500000 in
theorem pact_up (w : World) (p lo n c : Nat) (M : MD) (o : Option MJ) (hP : PairX w p lo M o) (hn : M.S.length = n) (hc : M.writes ≤ c) (hq : Quarter w) (kind an am : Int) (v : Value) (l : List UInt8) (G : Blks) (hB : Bytes G w v l) (hG : ∀ b, G b → b < lo) (hl : l.length ≤ 3000) (hkd : 0 ≤ kind ∧ kind ≤ 255) (hk6 : kind % 8 = 6) :
    Calls Tryd.prog 40 #[.pointer (some ⟨p, 0, none⟩), .agg #[.int .u8 kind, .int .u16 an, .int .u16 am, v]] w (ActPost w p lo n c) := by
  obtain ⟨k, hk⟩ := hP
  have h2 := hk.two
  have HkF := Lib.hid h2.fF; have HkG := Lib.hid h2.fG
  have hlo := h2.size
  have hpos := h2.pos
  have hplo := h2.lo_p
  have hplt := h2.blk.lt
  have hh0 : 0 < w.heap.size := by omega
  obtain ⟨box, hbox⟩ : ∃ box : Obj, box = .cells #[.int .u8 kind, .int .u16 an, .int .u16 am, v] 32 := ⟨_, rfl⟩
  have hb1 : Below w.heap.size w (w.alloc box) := kept_alloc _ _
  have hbb : Blk (w.alloc box) w.heap.size [.int .u8 kind, .int .u16 an, .int .u16 am, v] 32 := by rw [hbox]; exact Blk.new w _ _
  have hz1 : (w.alloc box).heap.size = w.heap.size + 1 := by simp
  have hBl : Bytes (fun b => b < lo) w v l := hB.mono hG
  have hB1 : Bytes (fun b => b < lo) (w.alloc box) v l := hBl.keep fun b hb hlt => hb1.block b hlt
  obtain ⟨xa, xc, w2, hcl, hown2, hk2, hg2, hby2⟩ := run_clone (w.alloc box) _ v l hB1 (by omega)
  have x3' : ((w.alloc box).alloc (.cells #[] 5)).cell? ⟨w.heap.size, 3, none⟩ = some v := by
    have := (hbb.alloc (.cells #[] 5)).cell 3
    simpa using this
  rw [hz1] at hcl
  have hb2 : Below w.heap.size w w2 := hb1.trans (hk2.mono (by omega))
  have hbb2 : Blk w2 w.heap.size _ _ := hbb.keep (hk2.block _ (by omega))
  have y0 : w2.cell? ⟨w.heap.size, 0, none⟩ = some (.int .u8 kind) := by simpa using hbb2.cell 0
  have y1 : w2.cell? ⟨w.heap.size, 1, none⟩ = some (.int .u16 an) := by simpa using hbb2.cell 1
  have y2 : w2.cell? ⟨w.heap.size, 2, none⟩ = some (.int .u16 am) := by simpa using hbb2.cell 2
  have y3 : w2.cell? ⟨w.heap.size, 3, none⟩ = some v := by simpa using hbb2.cell 3
  have hz2 : w.heap.size + 1 ≤ w2.heap.size := by have := hk2.size; omega
  have hp2 := h2.kept hb2
  have hq2 : Quarter w2 := hq.keep (hb2.block 0 hh0)
  have hB2 : Bytes (fun b => b < lo) w2 v l := hBl.keep fun b hb hlt => hb2.block b hlt
  obtain ⟨va, vc, rfl, -⟩ := id hB
  have Hp2 := Lib.hid hp2; have Hq2 := Lib.hid hq2; have HB2 := Lib.hid hB2; have Hb2 := Lib.hid hb2; have Hz2 := Lib.hid hz2; have Hbb2 := Lib.hid hbb2; have Hby2 := Lib.hid hby2; have Hown2 := Lib.hid hown2; have Hlo := Lib.hid hlo
  clear hp2 hq2 hB2 hb2 hz2 hbb2 hby2 hown2 hlo hk2 hg2 hB1 hBl hbb hb1 h2 hk hz1
  have hd3 : (kind % 8 == 3) = false := by simp [hk6]
  have hd4 : (kind % 8 == 4) = false := by simp [hk6]
  have hd5 : (kind % 8 == 5) = false := by simp [hk6]
  have hd6 : (kind % 8 == 6) = true := by simp [hk6]
  have hU2 : PairU w2 p lo k.d k.e M M o o := ⟨k.F, k.G, k.jv, k.kv, Hp2.out⟩
  have HU := Lib.hid (upP w2 p lo _ _ _ _ _ _ hU2)
  have z0 := hU2.cells.1
  subst hbox
  clear hU2
  go_enter Tryd.func40, Tryd.ntmps40
  go_wp2_with fail
  refine HU.out.mono ?_
  rintro e w3 ⟨rfl, hU3, hb3⟩
  have HU3 := Lib.hid (upR w3 p lo _ _ _ _ _ _ hU3)
  have z2 := hU3.cells.2
  have Hb3 := Lib.hid hb3
  clear HU hU3 hb3 z0 y0 y1 y2 y3 hcl x3'
  go_wp2_with fail
  refine HU3.out.mono ?_
  rintro e w4 ⟨rfl, hU4, hb4⟩
  have hb24 : Below lo w w4 := ((Hb2.out.mono (by have := Hlo.out; omega)).trans Hb3.out).trans hb4
  have HU4 := Lib.hid hU4; have Hb24 := Lib.hid hb24
  clear HU3 hU4 hb4 hb24 z2
  go_wp2_with fail
  go_ret
  exact ⟨rfl, ⟨_, _, HU4.out.X, hn, by show M.writes ≤ _; omega⟩, Hb24.out⟩

set_option maxRecDepth 100000 in
set_option maxHeartbeats 1500000 in
theorem pact_again (w : World) (p lo n c : Nat) (M : MD) (o : Option MJ) (hP : PairX w p lo M o) (hn : M.S.length = n) (hc : M.writes ≤ c) (hq : Quarter w) (kind an am : Int) (v : Value) (l : List UInt8) (G : Blks) (hB : Bytes G w v l) (hG : ∀ b, G b → b < lo) (hl : l.length ≤ 3000) (hkd : 0 ≤ kind ∧ kind ≤ 255) (hk5 : kind % 8 = 5) :
    Calls Tryd.prog 40 #[.pointer (some ⟨p, 0, none⟩), .agg #[.int .u8 kind, .int .u16 an, .int .u16 am, v]] w (ActPost w p lo n c) := by
  obtain ⟨k, hk⟩ := hP
  have h2 := hk.two
  have HkF := Lib.hid h2.fF; have HkG := Lib.hid h2.fG
  have hlo := h2.size
  have hpos := h2.pos
  have hplo := h2.lo_p
  have hplt := h2.blk.lt
  have hh0 : 0 < w.heap.size := by omega
  obtain ⟨box, hbox⟩ : ∃ box : Obj, box = .cells #[.int .u8 kind, .int .u16 an, .int .u16 am, v] 32 := ⟨_, rfl⟩
  have hb1 : Below w.heap.size w (w.alloc box) := kept_alloc _ _
  have hbb : Blk (w.alloc box) w.heap.size [.int .u8 kind, .int .u16 an, .int .u16 am, v] 32 := by rw [hbox]; exact Blk.new w _ _
  have hz1 : (w.alloc box).heap.size = w.heap.size + 1 := by simp
  have hBl : Bytes (fun b => b < lo) w v l := hB.mono hG
  have hB1 : Bytes (fun b => b < lo) (w.alloc box) v l := hBl.keep fun b hb hlt => hb1.block b hlt
  obtain ⟨xa, xc, w2, hcl, hown2, hk2, hg2, hby2⟩ := run_clone (w.alloc box) _ v l hB1 (by omega)
  have x3' : ((w.alloc box).alloc (.cells #[] 5)).cell? ⟨w.heap.size, 3, none⟩ = some v := by
    have := (hbb.alloc (.cells #[] 5)).cell 3
    simpa using this
  rw [hz1] at hcl
  have hb2 : Below w.heap.size w w2 := hb1.trans (hk2.mono (by omega))
  have hbb2 : Blk w2 w.heap.size _ _ := hbb.keep (hk2.block _ (by omega))
  have y0 : w2.cell? ⟨w.heap.size, 0, none⟩ = some (.int .u8 kind) := by simpa using hbb2.cell 0
  have y1 : w2.cell? ⟨w.heap.size, 1, none⟩ = some (.int .u16 an) := by simpa using hbb2.cell 1
  have y2 : w2.cell? ⟨w.heap.size, 2, none⟩ = some (.int .u16 am) := by simpa using hbb2.cell 2
  have y3 : w2.cell? ⟨w.heap.size, 3, none⟩ = some v := by simpa using hbb2.cell 3
  have hz2 : w.heap.size + 1 ≤ w2.heap.size := by have := hk2.size; omega
  have hp2 := h2.kept hb2
  have hq2 : Quarter w2 := hq.keep (hb2.block 0 hh0)
  have hB2 : Bytes (fun b => b < lo) w2 v l := hBl.keep fun b hb hlt => hb2.block b hlt
  obtain ⟨va, vc, rfl, -⟩ := id hB
  have Hp2 := Lib.hid hp2; have Hq2 := Lib.hid hq2; have HB2 := Lib.hid hB2; have Hb2 := Lib.hid hb2; have Hz2 := Lib.hid hz2; have Hbb2 := Lib.hid hbb2; have Hby2 := Lib.hid hby2; have Hown2 := Lib.hid hown2; have Hlo := Lib.hid hlo
  clear hp2 hq2 hB2 hb2 hz2 hbb2 hby2 hown2 hlo hk2 hg2 hB1 hBl hbb hb1 h2 hk hz1
  have hd3 : (kind % 8 == 3) = false := by simp [hk5]
  have hd4 : (kind % 8 == 4) = false := by simp [hk5]
  have hd5 : (kind % 8 == 5) = true := by simp [hk5]
  have hU2 : PairU w2 p lo k.d k.e M M o o := ⟨k.F, k.G, k.jv, k.kv, Hp2.out⟩
  have HU := Lib.hid (upP w2 p lo _ _ _ _ _ _ hU2)
  have z0 := hU2.cells.1
  subst hbox
  clear hU2
  go_enter Tryd.func40, Tryd.ntmps40
  go_wp2_with fail
  refine HU.out.mono ?_
  rintro e w3 ⟨rfl, hU3, hb3⟩
  have HU3 := Lib.hid (upR w3 p lo _ _ _ _ _ _ hU3)
  have z2 := hU3.cells.2
  have Hb3 := Lib.hid hb3
  clear HU hU3 hb3 z0 y0 y1 y2 y3 hcl x3'
  go_wp2_with fail
  refine HU3.out.mono ?_
  rintro e w4 ⟨rfl, hU4, hb4⟩
  have hb24 : Below lo w w4 := ((Hb2.out.mono (by have := Hlo.out; omega)).trans Hb3.out).trans hb4
  have HO := Lib.hid (popen_any w4 p lo _ _ hU4.X (hq.keep (hb24.block 0 hpos)))
  have Hb24 := Lib.hid hb24
  clear HU3 hU4 hb4 hb24 z2
  go_wp2_with fail
  refine HO.out.mono ?_
  rintro e w5 ⟨rfl, hX5, hb5⟩
  have HX5 := Lib.hid hX5
  clear HO hX5
  go_wp2_with fail
  go_ret
  exact ⟨rfl, ⟨_, _, HX5.out, hn, by show M.writes ≤ _; omega⟩, Hb24.out.trans hb5⟩

theorem laterX_cell {F : Blks} {w w' : World} (h : LaterF F w w') {b : Nat} (hb : b < w.heap.size) (hf : ¬ F b) (i : Nat) {v : Value} (hv : w.cell? ⟨b, i, none⟩ = some v) : w'.cell? ⟨b, i, none⟩ = some v := by
  have := h.block b hb hf
  unfold World.cell? at *
  rw [show (⟨b, i, none⟩ : Addr).block = b from rfl, this]
  exact hv

/-- all blocks but two -/
def allBut (p q : Nat) : Blks := fun b => b ≠ p ∧ b ≠ q
theorem not_allBut_l (p q : Nat) : ¬ allBut p q p := fun h => h.1 rfl
theorem not_allBut_r (p q : Nat) : ¬ allBut p q q := fun h => h.2 rfl


set_option maxRecDepth 100000 in
set_option maxHeartbeats 1500000 in
theorem pact_fail (w : World) (p lo n c : Nat) (M : MD) (o : Option MJ) (hP : PairX w p lo M o) (hn : M.S.length = n) (hc : M.writes ≤ c) (hq : Quarter w) (kind an am : Int) (v : Value) (l : List UInt8) (G : Blks) (hB : Bytes G w v l) (hG : ∀ b, G b → b < lo) (hl : l.length ≤ 3000) (hkd : 0 ≤ kind ∧ kind ≤ 255) (han : 0 ≤ an ∧ an ≤ 65535) (hk4 : kind % 8 = 4) :
    Calls Tryd.prog 40 #[.pointer (some ⟨p, 0, none⟩), .agg #[.int .u8 kind, .int .u16 an, .int .u16 am, v]] w (ActPost w p lo n c) := by
  obtain ⟨k, hk⟩ := hP
  have h2 := hk.two
  have HkF := Lib.hid h2.fF; have HkG := Lib.hid h2.fG
  have hlo := h2.size
  have hpos := h2.pos
  have hplo := h2.lo_p
  have hplt := h2.blk.lt
  have hh0 : 0 < w.heap.size := by omega
  obtain ⟨box, hbox⟩ : ∃ box : Obj, box = .cells #[.int .u8 kind, .int .u16 an, .int .u16 am, v] 32 := ⟨_, rfl⟩
  have hb1 : Below w.heap.size w (w.alloc box) := kept_alloc _ _
  have hbb : Blk (w.alloc box) w.heap.size [.int .u8 kind, .int .u16 an, .int .u16 am, v] 32 := by rw [hbox]; exact Blk.new w _ _
  have hz1 : (w.alloc box).heap.size = w.heap.size + 1 := by simp
  have hBl : Bytes (fun b => b < lo) w v l := hB.mono hG
  have hB1 : Bytes (fun b => b < lo) (w.alloc box) v l := hBl.keep fun b hb hlt => hb1.block b hlt
  obtain ⟨xa, xc, w2, hcl, hown2, hk2, hg2, hby2⟩ := run_clone (w.alloc box) _ v l hB1 (by omega)
  have x3' : ((w.alloc box).alloc (.cells #[] 5)).cell? ⟨w.heap.size, 3, none⟩ = some v := by
    have := (hbb.alloc (.cells #[] 5)).cell 3
    simpa using this
  rw [hz1] at hcl
  have hb2 : Below w.heap.size w w2 := hb1.trans (hk2.mono (by omega))
  have hbb2 : Blk w2 w.heap.size _ _ := hbb.keep (hk2.block _ (by omega))
  have y0 : w2.cell? ⟨w.heap.size, 0, none⟩ = some (.int .u8 kind) := by simpa using hbb2.cell 0
  have y1 : w2.cell? ⟨w.heap.size, 1, none⟩ = some (.int .u16 an) := by simpa using hbb2.cell 1
  have y2 : w2.cell? ⟨w.heap.size, 2, none⟩ = some (.int .u16 am) := by simpa using hbb2.cell 2
  have y3 : w2.cell? ⟨w.heap.size, 3, none⟩ = some v := by simpa using hbb2.cell 3
  have hz2 : w.heap.size + 1 ≤ w2.heap.size := by have := hk2.size; omega
  have hp2 := h2.kept hb2
  have hq2 : Quarter w2 := hq.keep (hb2.block 0 hh0)
  have hB2 : Bytes (fun b => b < lo) w2 v l := hBl.keep fun b hb hlt => hb2.block b hlt
  obtain ⟨va, vc, rfl, -⟩ := id hB
  have Hp2 := Lib.hid hp2; have Hq2 := Lib.hid hq2; have HB2 := Lib.hid hB2; have Hb2 := Lib.hid hb2; have Hz2 := Lib.hid hz2; have Hbb2 := Lib.hid hbb2; have Hby2 := Lib.hid hby2; have Hown2 := Lib.hid hown2; have Hlo := Lib.hid hlo
  clear hp2 hq2 hB2 hb2 hz2 hbb2 hby2 hown2 hlo hk2 hg2 hB1 hBl hbb hb1 h2 hk hz1
  have hd3 : (kind % 8 == 3) = false := by simp [hk4]
  have hd4 : (kind % 8 == 4) = true := by simp [hk4]
  have hp2b := Hp2.out.blk
  have hpz : p < w2.heap.size := hp2b.lt
  have hbz : w.heap.size < w2.heap.size := by have := Hz2.out; omega
  have z0 : ∀ w', LaterF (allBut p w.heap.size) w2.drew w' → w'.cell? ⟨p, 0, none⟩ = some (.pointer (some ⟨k.d, 0, none⟩)) := fun w' hh => laterX_cell hh hpz (not_allBut_l _ _) 0 (show w2.cell? _ = _ by simpa using hp2b.cell 0)
  have z1 : ∀ w', LaterF (allBut p w.heap.size) w2.drew w' → w'.cell? ⟨p, 1, none⟩ = some k.jv := fun w' hh => laterX_cell hh hpz (not_allBut_l _ _) 1 (show w2.cell? _ = _ by simpa using hp2b.cell 1)
  have z2 : ∀ w', LaterF (allBut p w.heap.size) w2.drew w' → w'.cell? ⟨p, 2, none⟩ = some (.pointer (some ⟨k.e, 0, none⟩)) := fun w' hh => laterX_cell hh hpz (not_allBut_l _ _) 2 (show w2.cell? _ = _ by simpa using hp2b.cell 2)
  have z3 : ∀ w', LaterF (allBut p w.heap.size) w2.drew w' → w'.cell? ⟨p, 3, none⟩ = some k.kv := fun w' hh => laterX_cell hh hpz (not_allBut_l _ _) 3 (show w2.cell? _ = _ by simpa using hp2b.cell 3)
  have s1 : ∀ w', LaterF (allBut p w.heap.size) w2.drew w' → w'.cell? ⟨w.heap.size, 1, none⟩ = some (.int .u16 an) := fun w' hh => laterX_cell hh hbz (not_allBut_r _ _) 1 y1
  have s2 : ∀ w', LaterF (allBut p w.heap.size) w2.drew w' → w'.cell? ⟨w.heap.size, 2, none⟩ = some (.int .u16 am) := fun w' hh => laterX_cell hh hbz (not_allBut_r _ _) 2 y2
  have s3 : ∀ w', LaterF (allBut p w.heap.size) w2.drew w' → w'.cell? ⟨w.heap.size, 3, none⟩ = some (.slice va l.length vc) := fun w' hh => laterX_cell hh hbz (not_allBut_r _ _) 3 y3
  clear hp2b
  have HS1 := Lib.hid (sector35_any w2.drew _ _ l (HB2.out.keep (w' := w2.drew) fun b _ _ => rfl))
  subst hbox
  clear y1 y2
  go_enter Tryd.func40, Tryd.ntmps40
  go_wp2_with fail
  refine wp_region_can (LaterF (allBut p w.heap.size)) [(0, true), (1, true), (2, true), (3, true), (4, true), (5, true), (6, true), (7, true), (8, true), (9, true), (12, true), (13, true), (14, true), (15, true), (16, true), (17, true), (18, true), (19, true), (20, true), (21, true), (10, false), (11, false), (22, false), (23, false), (24, true), (25, true)] (by kernel_rfl) (by kernel_rfl) (laterF_refl _) (laterF_trans _) ?_
  clear hcl x3' y0 y3
  repeat (first
    | (refine can_yes (v := ?_) rfl (wanted_none rfl) (fun w' hC => ?_) (fun K hK => ?_); rotate_left; (focus (go_simp; (try simp (disch := omega) only [IntWalk.i64_in]); (try simp (disch := omega) only [IntWalk.u32_in]); (try simp (disch := omega) only [IntWalk.u8_in]); (try simp (disch := omega) only [IntWalk.i64_quo]); (try simp (disch := omega) only [IntWalk.rem_in]); first | done | exact rfl)); go_simp; (try simp (disch := omega) only [IntWalk.i64_in]); (try simp (disch := omega) only [IntWalk.u32_in]); (try simp (disch := omega) only [IntWalk.u8_in]); (try simp (disch := omega) only [IntWalk.i64_quo]); (try simp (disch := omega) only [IntWalk.rem_in]); refine hK _ ?_; clear hK K)
    | (refine can_guard rfl (fun A B hA hB => ?_); go_simp; first | (refine hA ⟨?_, fun w' hC => ?_, fun K hK => ?_⟩; rotate_left; (focus (go_simp; (try simp (disch := omega) only [IntWalk.i64_in]); (try simp (disch := omega) only [IntWalk.u32_in]); (try simp (disch := omega) only [IntWalk.u8_in]); (try simp (disch := omega) only [IntWalk.i64_quo]); (try simp (disch := omega) only [IntWalk.rem_in]); first | done | exact rfl)); go_simp; (try simp (disch := omega) only [IntWalk.i64_in]); (try simp (disch := omega) only [IntWalk.u32_in]); (try simp (disch := omega) only [IntWalk.u8_in]); (try simp (disch := omega) only [IntWalk.i64_quo]); (try simp (disch := omega) only [IntWalk.rem_in]); refine hK _ ?_; clear hK K hA hB A B) | (refine hB (fun K hK => ?_); go_simp; (try simp (disch := omega) only [IntWalk.i64_in]); (try simp (disch := omega) only [IntWalk.u32_in]); (try simp (disch := omega) only [IntWalk.u8_in]); (try simp (disch := omega) only [IntWalk.i64_quo]); (try simp (disch := omega) only [IntWalk.rem_in]); refine hK _ ?_; clear hK K hA hB A B))
    | (refine can_guard_go rfl (fun A B hA hB => ?_); go_simp; refine hB (fun K hK => ?_); go_simp; (try simp (disch := omega) only [IntWalk.i64_in]); (try simp (disch := omega) only [IntWalk.u32_in]); (try simp (disch := omega) only [IntWalk.u8_in]); (try simp (disch := omega) only [IntWalk.i64_quo]); (try simp (disch := omega) only [IntWalk.rem_in]); refine hK _ ?_; clear hK K hA hB A B))
  refine can_go rfl rfl (fun KK hK => ?_)
  go_simp
  refine HS1.out.mono ?_
  rintro e w3 ⟨rfl, hq3, hb3⟩
  refine ⟨_, rfl, LaterF.of_below hb3, hK _ _ ?_⟩
  clear hK KK
  go_simp
  have hb3' : Below w2.heap.size w2 w3 := ⟨hb3.os, hb3.tape, hb3.output, hb3.size, hb3.block⟩
  have H64 := Lib.hid (sec64_length l)
  have HF := Lib.hid (fail2P w3 p lo k M M o o (Hp2.out.kept hb3') (an % 50) (by omega) (by omega) (fun b => b = w2.heap.size) _ (sec64 l) (blk_bytes64 hq3 H64.out _ rfl) H64.out)
  have Hb3 := Lib.hid hb3'
  clear HS1 hq3 hb3 hb3'
  repeat (first
    | (refine can_yes (v := ?_) rfl (wanted_none rfl) (fun w' hC => ?_) (fun K hK => ?_); rotate_left; (focus (go_simp; (try simp (disch := omega) only [IntWalk.i64_in]); (try simp (disch := omega) only [IntWalk.u32_in]); (try simp (disch := omega) only [IntWalk.u8_in]); (try simp (disch := omega) only [IntWalk.i64_quo]); (try simp (disch := omega) only [IntWalk.rem_in]); first | done | exact rfl)); go_simp; (try simp (disch := omega) only [IntWalk.i64_in]); (try simp (disch := omega) only [IntWalk.u32_in]); (try simp (disch := omega) only [IntWalk.u8_in]); (try simp (disch := omega) only [IntWalk.i64_quo]); (try simp (disch := omega) only [IntWalk.rem_in]); refine hK _ ?_; clear hK K)
    | (refine can_guard rfl (fun A B hA hB => ?_); go_simp; first | (refine hA ⟨?_, fun w' hC => ?_, fun K hK => ?_⟩; rotate_left; (focus (go_simp; (try simp (disch := omega) only [IntWalk.i64_in]); (try simp (disch := omega) only [IntWalk.u32_in]); (try simp (disch := omega) only [IntWalk.u8_in]); (try simp (disch := omega) only [IntWalk.i64_quo]); (try simp (disch := omega) only [IntWalk.rem_in]); first | done | exact rfl)); go_simp; (try simp (disch := omega) only [IntWalk.i64_in]); (try simp (disch := omega) only [IntWalk.u32_in]); (try simp (disch := omega) only [IntWalk.u8_in]); (try simp (disch := omega) only [IntWalk.i64_quo]); (try simp (disch := omega) only [IntWalk.rem_in]); refine hK _ ?_; clear hK K hA hB A B) | (refine hB (fun K hK => ?_); go_simp; (try simp (disch := omega) only [IntWalk.i64_in]); (try simp (disch := omega) only [IntWalk.u32_in]); (try simp (disch := omega) only [IntWalk.u8_in]); (try simp (disch := omega) only [IntWalk.i64_quo]); (try simp (disch := omega) only [IntWalk.rem_in]); refine hK _ ?_; clear hK K hA hB A B))
    | (refine can_guard_go rfl (fun A B hA hB => ?_); go_simp; refine hB (fun K hK => ?_); go_simp; (try simp (disch := omega) only [IntWalk.i64_in]); (try simp (disch := omega) only [IntWalk.u32_in]); (try simp (disch := omega) only [IntWalk.u8_in]); (try simp (disch := omega) only [IntWalk.i64_quo]); (try simp (disch := omega) only [IntWalk.rem_in]); refine hK _ ?_; clear hK K hA hB A B))
  refine can_go rfl rfl (fun KK hK => ?_)
  go_simp
  refine HF.out.mono ?_
  rintro e w4 ⟨rfl, F', hp4, hF4, ho4⟩
  refine ⟨_, rfl, ho4.mono (fun b hb => ⟨(HkF.out b hb).2.1, by have := (HkF.out b hb).2.2.2; omega⟩), hK _ _ ?_⟩
  clear hK KK
  go_simp
  have hz3 := Hb3.out.size
  have hbw4 : Below lo w w4 := ((Hb2.out.mono (by have := Hlo.out; omega)).trans (Hb3.out.mono (by have := Hlo.out; omega))).trans (ho4.below (fun b hb => (HkF.out b hb).1) (by have := Hlo.out; omega))
  have hB4 : Bytes (fun b => b < lo) w4 (.slice va l.length vc) l := (hB.mono hG).keep fun b hb _ => hbw4.block b hb
  have HS2 := Lib.hid (sector35_any w4 _ _ l hB4)
  have Hp4 := Lib.hid hp4; have Hbw4 := Lib.hid hbw4
  clear HF hp4 hF4 ho4 hz3 hbw4 hB4
  repeat (first
    | (refine can_yes (v := ?_) rfl (wanted_none rfl) (fun w' hC => ?_) (fun K hK => ?_); rotate_left; (focus (go_simp; (try simp (disch := omega) only [IntWalk.i64_in]); (try simp (disch := omega) only [IntWalk.u32_in]); (try simp (disch := omega) only [IntWalk.u8_in]); (try simp (disch := omega) only [IntWalk.i64_quo]); (try simp (disch := omega) only [IntWalk.rem_in]); first | done | exact rfl)); go_simp; (try simp (disch := omega) only [IntWalk.i64_in]); (try simp (disch := omega) only [IntWalk.u32_in]); (try simp (disch := omega) only [IntWalk.u8_in]); (try simp (disch := omega) only [IntWalk.i64_quo]); (try simp (disch := omega) only [IntWalk.rem_in]); refine hK _ ?_; clear hK K)
    | (refine can_guard rfl (fun A B hA hB => ?_); go_simp; first | (refine hA ⟨?_, fun w' hC => ?_, fun K hK => ?_⟩; rotate_left; (focus (go_simp; (try simp (disch := omega) only [IntWalk.i64_in]); (try simp (disch := omega) only [IntWalk.u32_in]); (try simp (disch := omega) only [IntWalk.u8_in]); (try simp (disch := omega) only [IntWalk.i64_quo]); (try simp (disch := omega) only [IntWalk.rem_in]); first | done | exact rfl)); go_simp; (try simp (disch := omega) only [IntWalk.i64_in]); (try simp (disch := omega) only [IntWalk.u32_in]); (try simp (disch := omega) only [IntWalk.u8_in]); (try simp (disch := omega) only [IntWalk.i64_quo]); (try simp (disch := omega) only [IntWalk.rem_in]); refine hK _ ?_; clear hK K hA hB A B) | (refine hB (fun K hK => ?_); go_simp; (try simp (disch := omega) only [IntWalk.i64_in]); (try simp (disch := omega) only [IntWalk.u32_in]); (try simp (disch := omega) only [IntWalk.u8_in]); (try simp (disch := omega) only [IntWalk.i64_quo]); (try simp (disch := omega) only [IntWalk.rem_in]); refine hK _ ?_; clear hK K hA hB A B))
    | (refine can_guard_go rfl (fun A B hA hB => ?_); go_simp; refine hB (fun K hK => ?_); go_simp; (try simp (disch := omega) only [IntWalk.i64_in]); (try simp (disch := omega) only [IntWalk.u32_in]); (try simp (disch := omega) only [IntWalk.u8_in]); (try simp (disch := omega) only [IntWalk.i64_quo]); (try simp (disch := omega) only [IntWalk.rem_in]); refine hK _ ?_; clear hK K hA hB A B))
  refine can_go rfl rfl (fun KK hK => ?_)
  go_simp
  refine HS2.out.mono ?_
  rintro e w5 ⟨rfl, hq5, hb5⟩
  refine ⟨_, rfl, LaterF.of_below hb5, hK _ _ ?_⟩
  clear hK KK
  go_simp
  have HF := Lib.hid (fail2R w5 p lo _ _ M o o (Hp4.out.kept hb5) (an % 50) (by omega) (by omega) (fun b => b = w4.heap.size) _ (sec64 l) (blk_bytes64 hq5 H64.out _ rfl) H64.out (fun b hb hx => by
    have := (Hp4.out.fG b hx).2.2
    omega))
  have Hb5 := Lib.hid (Hbw4.out.trans (hb5.mono (by have := Hp4.out.size; omega)))
  clear HS2 hq5 hb5
  repeat (first
    | (refine can_yes (v := ?_) rfl (wanted_none rfl) (fun w' hC => ?_) (fun K hK => ?_); rotate_left; (focus (go_simp; (try simp (disch := omega) only [IntWalk.i64_in]); (try simp (disch := omega) only [IntWalk.u32_in]); (try simp (disch := omega) only [IntWalk.u8_in]); (try simp (disch := omega) only [IntWalk.i64_quo]); (try simp (disch := omega) only [IntWalk.rem_in]); first | done | exact rfl)); go_simp; (try simp (disch := omega) only [IntWalk.i64_in]); (try simp (disch := omega) only [IntWalk.u32_in]); (try simp (disch := omega) only [IntWalk.u8_in]); (try simp (disch := omega) only [IntWalk.i64_quo]); (try simp (disch := omega) only [IntWalk.rem_in]); refine hK _ ?_; clear hK K)
    | (refine can_guard rfl (fun A B hA hB => ?_); go_simp; first | (refine hA ⟨?_, fun w' hC => ?_, fun K hK => ?_⟩; rotate_left; (focus (go_simp; (try simp (disch := omega) only [IntWalk.i64_in]); (try simp (disch := omega) only [IntWalk.u32_in]); (try simp (disch := omega) only [IntWalk.u8_in]); (try simp (disch := omega) only [IntWalk.i64_quo]); (try simp (disch := omega) only [IntWalk.rem_in]); first | done | exact rfl)); go_simp; (try simp (disch := omega) only [IntWalk.i64_in]); (try simp (disch := omega) only [IntWalk.u32_in]); (try simp (disch := omega) only [IntWalk.u8_in]); (try simp (disch := omega) only [IntWalk.i64_quo]); (try simp (disch := omega) only [IntWalk.rem_in]); refine hK _ ?_; clear hK K hA hB A B) | (refine hB (fun K hK => ?_); go_simp; (try simp (disch := omega) only [IntWalk.i64_in]); (try simp (disch := omega) only [IntWalk.u32_in]); (try simp (disch := omega) only [IntWalk.u8_in]); (try simp (disch := omega) only [IntWalk.i64_quo]); (try simp (disch := omega) only [IntWalk.rem_in]); refine hK _ ?_; clear hK K hA hB A B))
    | (refine can_guard_go rfl (fun A B hA hB => ?_); go_simp; refine hB (fun K hK => ?_); go_simp; (try simp (disch := omega) only [IntWalk.i64_in]); (try simp (disch := omega) only [IntWalk.u32_in]); (try simp (disch := omega) only [IntWalk.u8_in]); (try simp (disch := omega) only [IntWalk.i64_quo]); (try simp (disch := omega) only [IntWalk.rem_in]); refine hK _ ?_; clear hK K hA hB A B))
  refine can_go rfl rfl (fun KK hK => ?_)
  go_simp
  refine HF.out.mono ?_
  rintro e w6 ⟨rfl, G', hp6, hG6, ho6⟩
  refine ⟨_, rfl, ho6.mono (fun b hb => ⟨(HkG.out b hb).2.1, by have := (HkG.out b hb).2.2; omega⟩), hK _ _ ?_⟩
  clear hK KK z0 z1 z2 z3 s1 s2 s3
  go_simp
  repeat (first
    | (refine can_yes (v := ?_) rfl (wanted_none rfl) (fun w' hC => ?_) (fun K hK => ?_); rotate_left; (focus (go_simp; (try simp (disch := omega) only [IntWalk.i64_in]); (try simp (disch := omega) only [IntWalk.u32_in]); (try simp (disch := omega) only [IntWalk.u8_in]); (try simp (disch := omega) only [IntWalk.i64_quo]); (try simp (disch := omega) only [IntWalk.rem_in]); first | done | exact rfl)); go_simp; (try simp (disch := omega) only [IntWalk.i64_in]); (try simp (disch := omega) only [IntWalk.u32_in]); (try simp (disch := omega) only [IntWalk.u8_in]); (try simp (disch := omega) only [IntWalk.i64_quo]); (try simp (disch := omega) only [IntWalk.rem_in]); refine hK _ ?_; clear hK K)
    | (refine can_guard rfl (fun A B hA hB => ?_); go_simp; first | (refine hA ⟨?_, fun w' hC => ?_, fun K hK => ?_⟩; rotate_left; (focus (go_simp; (try simp (disch := omega) only [IntWalk.i64_in]); (try simp (disch := omega) only [IntWalk.u32_in]); (try simp (disch := omega) only [IntWalk.u8_in]); (try simp (disch := omega) only [IntWalk.i64_quo]); (try simp (disch := omega) only [IntWalk.rem_in]); first | done | exact rfl)); go_simp; (try simp (disch := omega) only [IntWalk.i64_in]); (try simp (disch := omega) only [IntWalk.u32_in]); (try simp (disch := omega) only [IntWalk.u8_in]); (try simp (disch := omega) only [IntWalk.i64_quo]); (try simp (disch := omega) only [IntWalk.rem_in]); refine hK _ ?_; clear hK K hA hB A B) | (refine hB (fun K hK => ?_); go_simp; (try simp (disch := omega) only [IntWalk.i64_in]); (try simp (disch := omega) only [IntWalk.u32_in]); (try simp (disch := omega) only [IntWalk.u8_in]); (try simp (disch := omega) only [IntWalk.i64_quo]); (try simp (disch := omega) only [IntWalk.rem_in]); refine hK _ ?_; clear hK K hA hB A B))
    | (refine can_guard_go rfl (fun A B hA hB => ?_); go_simp; refine hB (fun K hK => ?_); go_simp; (try simp (disch := omega) only [IntWalk.i64_in]); (try simp (disch := omega) only [IntWalk.u32_in]); (try simp (disch := omega) only [IntWalk.u8_in]); (try simp (disch := omega) only [IntWalk.i64_quo]); (try simp (disch := omega) only [IntWalk.rem_in]); refine hK _ ?_; clear hK K hA hB A B))
  refine can_nil ?_
  have hbw6 : Below lo w w6 := Hb5.out.trans (ho6.below (fun b hb => (HkG.out b hb).1) (by have := Hlo.out; have := Hb5.out.size; omega))
  have Hp6 := Lib.hid hp6; have Hbw6 := Lib.hid hbw6
  clear HF hp6 hG6 ho6 hbw6
  go_wp2_with fail
  go_ret
  exact ⟨rfl, ⟨_, _, ⟨_, Hp6.out.one⟩, hn, by show M.writes ≤ _; omega⟩, Hbw6.out⟩
end Go.Proofs.YtmimplmeccoahaaDoor
