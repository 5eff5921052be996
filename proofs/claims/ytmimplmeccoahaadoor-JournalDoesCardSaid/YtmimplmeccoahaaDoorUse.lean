/- The contracts of a disk as the laws meet them: integers as they come, slices in new memory. -/
import Derived.Test.YtmimplmeccoahaaDoorMk
import Derived.Test.YtmimplmeccoahaaDoorRegion
namespace Go.Proofs.YtmimplmeccoahaaDoor
open Go.RowKit
set_option linter.unusedVariables false
set_option maxRecDepth 20000

theorem DiskAt.kept {w w' : World} {K : DK} {M : MD} (h : DiskAt w K M) (hb : Below w.heap.size w w') : DiskAt w' K M :=
  h.keep fun b hf => hb.block b (h.lt b hf)

theorem new_int (w : World) (n : Int) (h1 : 1 ≤ n) (h2 : n ≤ 65536) :
    Calls Tryd.prog 23 #[.int .i64 n] w fun e w' => ∃ K : DK, e = .returned (.tuple #[.pointer (some ⟨K.d, 0, none⟩), .int .i64 0]) ∧ DiskAt w' K (MD.fresh n.toNat) ∧ Below w.heap.size w w' ∧ (∀ b, K.foot b → w.heap.size ≤ b) := by
  obtain ⟨m, rfl⟩ := Int.eq_ofNat_of_zero_le (show 0 ≤ n by omega)
  exact new_ok w m (by omega) (by omega)

theorem read_int (w : World) (K : DK) (M : MD) (i : Int) (h : DiskAt w K M) (h0 : 0 ≤ i) (hi : i < M.S.length) (hdn : M.down = false) :
    Calls Tryd.prog 60 #[.pointer (some ⟨K.d, 0, none⟩), .int .i64 i] w fun e w' => ∃ r, e = .returned (.tuple #[r, .int .i64 0]) ∧
      w'.ownsRow w.heap.size 5 1 r 64 ((M.S[i.toNat]'(by omega)).map B) ∧ Below w.heap.size w w' := by
  obtain ⟨m, rfl⟩ := Int.eq_ofNat_of_zero_le h0
  exact read_ok w K M m h (by omega) hdn

theorem write_int (w : World) (K : DK) (M : MD) (h : DiskAt w K M) (i : Int) (h0 : 0 ≤ i) (hi : i < M.S.length) (hdn : M.down = false) (hw : M.writes < 4611686018427387904) (F : Blks) (v : Value) (l : List UInt8) (hv : Bytes F w v l) (hl : l.length = 64)
    (hF : ∀ b, F b → ¬ K.foot b) :
    Calls Tryd.prog 33 #[.pointer (some ⟨K.d, 0, none⟩), .int .i64 i, v] w fun e w' => e = .returned (.int .i64 (M.write i.toNat l).2) ∧
      (∃ K', K'.d = K.d ∧ (∀ b, K'.foot b → K.foot b) ∧ DiskAt w' K' (M.write i.toNat l).1) ∧ Only K.foot w w' ∧ w'.heap.size = w.heap.size := by
  obtain ⟨m, rfl⟩ := Int.eq_ofNat_of_zero_le h0
  exact write_ok w K M h m (by omega) hdn hw F v l hv hl hF

theorem fail_int (w : World) (K : DK) (M : MD) (h : DiskAt w K M) (n : Int) (h0 : 0 ≤ n) (hn : n ≤ 9223372036854775807) (F : Blks) (v : Value) (l : List UInt8) (hv : Bytes F w v l) (hl : l.length = 64) :
    Calls Tryd.prog 27 #[.pointer (some ⟨K.d, 0, none⟩), .int .i64 n, v] w fun e w' => e = .returned (.int .i64 0) ∧
      (∃ K', K'.d = K.d ∧ (∀ b, K'.foot b → K.foot b ∨ w.heap.size ≤ b) ∧ DiskAt w' K' { M with fault := some (n.toNat, l) }) ∧ Only K.foot w w' := by
  obtain ⟨m, rfl⟩ := Int.eq_ofNat_of_zero_le h0
  refine (fail_ok w K M h m (by omega) F v l hv hl).mono ?_
  rintro e w' ⟨rfl, hd, ho⟩
  refine ⟨rfl, ⟨⟨K.d, K.bs, w.heap.size⟩, rfl, ?_, hd⟩, ho⟩
  rintro b (rfl | rfl | rfl)
  · exact .inl (.inl rfl)
  · exact .inl (.inr (.inl rfl))
  · exact .inr (Nat.le_refl _)

/-- a write of a sector that is filled with one byte -/
theorem write_sector (w : World) (K : DK) (M : MD) (h : DiskAt w K M) (i : Int) (h0 : 0 ≤ i) (hi : i < M.S.length) (hdn : M.down = false) (hw : M.writes < 4611686018427387904) (g : Nat) (c : UInt8) (t : TypeId) (hb : Blk w g (List.replicate 64 (B c)) t) (hF : ¬ K.foot g) :
    Calls Tryd.prog 33 #[.pointer (some ⟨K.d, 0, none⟩), .int .i64 i, .slice (some ⟨g, 0, none⟩) 64 64] w fun e w' => e = .returned (.int .i64 (M.write i.toNat (List.replicate 64 c)).2) ∧
      (∃ K', K'.d = K.d ∧ (∀ b, K'.foot b → K.foot b) ∧ DiskAt w' K' (M.write i.toNat (List.replicate 64 c)).1) ∧ Only K.foot w w' ∧ w'.heap.size = w.heap.size :=
  write_int w K M h i h0 hi hdn hw (fun b => b = g) _ _ (bytes_of_sector hb _ rfl) (by simp) (fun b e => by rw [e]; exact hF)

/-- what Read returned, as a string -/
theorem ownsRow_cells {w : World} {base : Nat} {e : TypeId} {r : Value} {l : List UInt8} (h : w.ownsRow base e 1 r l.length (l.map B)) (hl : 0 < l.length) :
    ∃ g cap, r = .slice (some ⟨g, 0, none⟩) l.length cap ∧ base ≤ g ∧ l.length ≤ cap ∧ ∃ L, Blk w g L e ∧ L.take l.length = l.map B ∧ L.length = cap := by
  obtain ⟨h1, h2⟩ := h
  rcases h2 with ⟨_, h2⟩ | ⟨g, cap, cur, rfl, hb, hg, hc, hm, hs, ht⟩
  · omega
  · exact ⟨g, cap, rfl, hb, hc, cur.toList, by unfold Blk; simpa using hg, by simpa using ht, by simpa using hs⟩

/-- string(b) -/
theorem run_str {F : Blks} {w : World} {v : Value} {l : List UInt8} (h : Bytes F w v l) : (convert 30 9 v).run Tryd.prog w = .ok (.string ⟨l.toArray⟩) w := by
  obtain ⟨a, cap, rfl, hc, hm, hz, hx⟩ := h
  cases a with
  | none =>
    have hl : l = [] := by
      rcases hx with h | ⟨b, off, L, t, fz, h, _⟩
      · exact h
      · cases h
    subst hl
    rw [run_convert_bytes_string w 30 9 5 none _ cap Tryd.underlying30 Tryd.underlying5 Tryd.underlying9]
    rfl
  | some ad =>
    refine run_convert_bytes_back w 30 9 5 ad cap l Tryd.underlying30 Tryd.underlying5 Tryd.underlying9 (fun j hj => ?_)
    rcases hx with rfl | ⟨b, off, L, t, fz, hb, hF, hg, hL, hr⟩
    · simp at hj
    · simp at hb
      subst hb
      rw [Addr.add_lit, cell_of_row w b (off + j) L t fz hg]
      exact hr j hj

/-! the same with the disk's address by itself -/
theorem read_d (w : World) (d : Nat) (K : DK) (hK : K.d = d) (M : MD) (i : Int) (h : DiskAt w K M) (h0 : 0 ≤ i) (hi : i < M.S.length) (hdn : M.down = false) :
    Calls Tryd.prog 60 #[.pointer (some ⟨d, 0, none⟩), .int .i64 i] w fun e w' => ∃ r, e = .returned (.tuple #[r, .int .i64 0]) ∧
      w'.ownsRow w.heap.size 5 1 r 64 ((M.S[i.toNat]'(by omega)).map B) ∧ Below w.heap.size w w' := by
  subst hK; exact read_int w K M i h h0 hi hdn
theorem readErr_d (w : World) (d : Nat) (K : DK) (hK : K.d = d) (M : MD) (i : Int) (h : DiskAt w K M) (hc : M.chk i ≠ 0) :
    Calls Tryd.prog 60 #[.pointer (some ⟨d, 0, none⟩), .int .i64 i] w fun e w' => e = .returned (.tuple #[.slice none 0 0, .int .i64 (M.chk i)]) ∧ w = w' := by
  subst hK; exact read_err w K M i h hc
theorem writeErr_d (w : World) (d : Nat) (K : DK) (hK : K.d = d) (M : MD) (i : Int) (v : Value) (h : DiskAt w K M) (hc : M.chk i ≠ 0) :
    Calls Tryd.prog 33 #[.pointer (some ⟨d, 0, none⟩), .int .i64 i, v] w fun e w' => e = .returned (.int .i64 (M.chk i)) ∧ w = w' := by
  subst hK; exact write_chk w K M i v h hc
theorem writeLen_d (w : World) (d : Nat) (K : DK) (hK : K.d = d) (M : MD) (i : Int) (a : Option Addr) (len cap : Nat) (hlen : len ≤ 9223372036854775807) (h : DiskAt w K M) (hc : M.chk i = 0) (hl : len ≠ 64) :
    Calls Tryd.prog 33 #[.pointer (some ⟨d, 0, none⟩), .int .i64 i, .slice a len cap] w fun e w' => e = .returned (.int .i64 1) ∧ w = w' := by
  subst hK; exact write_len w K M i a len cap hlen h hc hl
theorem write_d (w : World) (d : Nat) (K : DK) (hK : K.d = d) (M : MD) (h : DiskAt w K M) (i : Int) (h0 : 0 ≤ i) (hi : i < M.S.length) (hdn : M.down = false) (hw : M.writes < 4611686018427387904) (F : Blks) (v : Value) (l : List UInt8) (hv : Bytes F w v l) (hl : l.length = 64)
    (hF : ∀ b, F b → ¬ K.foot b) :
    Calls Tryd.prog 33 #[.pointer (some ⟨d, 0, none⟩), .int .i64 i, v] w fun e w' => e = .returned (.int .i64 (M.write i.toNat l).2) ∧
      (∃ K', K'.d = d ∧ (∀ b, K'.foot b → K.foot b) ∧ DiskAt w' K' (M.write i.toNat l).1) ∧ Only K.foot w w' ∧ w'.heap.size = w.heap.size := by
  subst hK; exact write_int w K M h i h0 hi hdn hw F v l hv hl hF
theorem writeSector_d (w : World) (d : Nat) (K : DK) (hK : K.d = d) (M : MD) (h : DiskAt w K M) (i : Int) (h0 : 0 ≤ i) (hi : i < M.S.length) (hdn : M.down = false) (hw : M.writes < 4611686018427387904) (g : Nat) (c : UInt8) (t : TypeId) (hb : Blk w g (List.replicate 64 (B c)) t) (hF : ¬ K.foot g) :
    Calls Tryd.prog 33 #[.pointer (some ⟨d, 0, none⟩), .int .i64 i, .slice (some ⟨g, 0, none⟩) 64 64] w fun e w' => e = .returned (.int .i64 (M.write i.toNat (List.replicate 64 c)).2) ∧
      (∃ K', K'.d = d ∧ (∀ b, K'.foot b → K.foot b) ∧ DiskAt w' K' (M.write i.toNat (List.replicate 64 c)).1) ∧ Only K.foot w w' ∧ w'.heap.size = w.heap.size := by
  subst hK; exact write_sector w K M h i h0 hi hdn hw g c t hb hF
theorem fail_d (w : World) (d : Nat) (K : DK) (hK : K.d = d) (M : MD) (h : DiskAt w K M) (n : Int) (h0 : 0 ≤ n) (hn : n ≤ 9223372036854775807) (F : Blks) (v : Value) (l : List UInt8) (hv : Bytes F w v l) (hl : l.length = 64) :
    Calls Tryd.prog 27 #[.pointer (some ⟨d, 0, none⟩), .int .i64 n, v] w fun e w' => e = .returned (.int .i64 0) ∧
      (∃ K', K'.d = d ∧ (∀ b, K'.foot b → K.foot b ∨ w.heap.size ≤ b) ∧ DiskAt w' K' { M with fault := some (n.toNat, l) }) ∧ Only K.foot w w' := by
  subst hK; exact fail_int w K M h n h0 hn F v l hv hl
theorem failSector_d (w : World) (d : Nat) (K : DK) (hK : K.d = d) (M : MD) (h : DiskAt w K M) (n : Int) (h0 : 0 ≤ n) (hn : n ≤ 9223372036854775807) (g : Nat) (c : UInt8) (t : TypeId) (hb : Blk w g (List.replicate 64 (B c)) t) :
    Calls Tryd.prog 27 #[.pointer (some ⟨d, 0, none⟩), .int .i64 n, .slice (some ⟨g, 0, none⟩) 64 64] w fun e w' => e = .returned (.int .i64 0) ∧
      (∃ K', K'.d = d ∧ (∀ b, K'.foot b → K.foot b ∨ w.heap.size ≤ b) ∧ DiskAt w' K' { M with fault := some (n.toNat, List.replicate 64 c) }) ∧ Only K.foot w w' :=
  fail_d w d K hK M h n h0 hn (fun b => b = g) _ _ (bytes_of_sector hb _ rfl) (by simp)
theorem up_d (w : World) (d : Nat) (K : DK) (hK : K.d = d) (M : MD) (h : DiskAt w K M) :
    Calls Tryd.prog 29 #[.pointer (some ⟨d, 0, none⟩)] w fun e w' => e = .returned (.tuple #[]) ∧ DiskAt w' K { M with down := false } ∧ Only K.foot w w' ∧ w'.heap.size = w.heap.size := by
  subst hK; exact up_any w K M h
theorem down_d (w : World) (d : Nat) (K : DK) (hK : K.d = d) (M : MD) (h : DiskAt w K M) :
    Calls Tryd.prog 54 #[.pointer (some ⟨d, 0, none⟩)] w fun e w' => e = .returned (.bool M.down) ∧ w = w' := by
  subst hK; exact down_any w K M h
theorem size_d (w : World) (d : Nat) (K : DK) (hK : K.d = d) (M : MD) (h : DiskAt w K M) :
    Calls Tryd.prog 53 #[.pointer (some ⟨d, 0, none⟩)] w fun e w' => e = .returned (.int .i64 (M.S.length : Int)) ∧ w = w' := by
  subst hK; exact size_any w K M h
theorem writes_d (w : World) (d : Nat) (K : DK) (hK : K.d = d) (M : MD) (h : DiskAt w K M) :
    Calls Tryd.prog 24 #[.pointer (some ⟨d, 0, none⟩)] w fun e w' => e = .returned (.int .i64 (M.writes : Int)) ∧ w = w' := by
  subst hK; exact writes_any w K M h
theorem copy_d (w : World) (d : Nat) (K : DK) (hK : K.d = d) (M : MD) (h : DiskAt w K M) :
    Calls Tryd.prog 66 #[.pointer (some ⟨d, 0, none⟩)] w fun e w' => ∃ K' : DK, e = .returned (.pointer (some ⟨K'.d, 0, none⟩)) ∧ DiskAt w' K' M ∧ Below w.heap.size w w' ∧ (∀ b, K'.foot b → w.heap.size ≤ b) := by
  subst hK; exact copy_any w K M h
theorem owns_later {w w' : World} {base : Nat} {r : Value} {l : List UInt8} (h : w.ownsRow base 5 1 r 64 (l.map B)) (hl : l.length = 64) (hb : Below w.heap.size w w') :
    (convert 30 9 r).run Tryd.prog w' = .ok (.string ⟨l.toArray⟩) w' := by
  have h1 : Bytes (fun b => b < w.heap.size) w r l := Bytes.of_owns (by rw [hl]; exact h) _ (fun k _ hk => hk)
  exact run_str (h1.keep fun b hb' _ => hb.block b hb')
theorem sector_later {w w' : World} {g : Nat} {c : UInt8} (h : Blk w g (List.replicate 64 (B c)) 5) (hb : Below w.heap.size w w') :
    (convert 30 9 (.slice (some ⟨g, 0, none⟩) 64 64)).run Tryd.prog w' = .ok (.string ⟨(List.replicate 64 c).toArray⟩) w' :=
  run_str ((bytes_of_sector h (fun b => b < w.heap.size) h.lt).keep fun b hb' _ => hb.block b hb')

/-- the same where blocks of F may have changed -/
theorem owns_laterF {F : Blks} {w w' : World} {base : Nat} {r : Value} {l : List UInt8} (h : w.ownsRow base 5 1 r 64 (l.map B)) (hl : l.length = 64) (hb : LaterF F w w') (hF : ∀ b, F b → base ≤ b → False) :
    (convert 30 9 r).run Tryd.prog w' = .ok (.string ⟨l.toArray⟩) w' := by
  have h1 : Bytes (fun b => b < w.heap.size ∧ base ≤ b) w r l := Bytes.of_owns (by rw [hl]; exact h) _ (fun k hk1 hk => ⟨hk, hk1⟩)
  exact run_str (h1.keep fun b hb' _ => hb.block b hb'.1 (fun hf => hF b hf hb'.2))
theorem sector_laterF {F : Blks} {w w' : World} {g : Nat} {c : UInt8} (h : Blk w g (List.replicate 64 (B c)) 5) (hb : LaterF F w w') (hF : ¬ F g) :
    (convert 30 9 (.slice (some ⟨g, 0, none⟩) 64 64)).run Tryd.prog w' = .ok (.string ⟨(List.replicate 64 c).toArray⟩) w' :=
  run_str ((bytes_of_sector h (fun b => b = g) rfl).keep fun b hb' hlt => hb.block b hlt (by rw [hb']; exact hF))

end Go.Proofs.YtmimplmeccoahaaDoor
