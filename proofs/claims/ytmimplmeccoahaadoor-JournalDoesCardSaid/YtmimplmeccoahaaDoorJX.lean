/- A journal over any disk, its blocks not named. -/
import Derived.Test.YtmimplmeccoahaaDoorJ11
import Derived.Test.YtmimplmeccoahaaDoorJL3
namespace Go.Proofs.YtmimplmeccoahaaDoor
open Go.RowKit
set_option linter.unusedVariables false
set_option maxRecDepth 20000

/-- the disk under a journal changes, its sectors' number stays -/
theorem JAt.onDisk {w w' : World} {jk : JK} {M M' : MD} {J : MJ} (h : JAt w jk M J) {K' : DK} (hd : DiskAt w' K' M') (hK : K'.d = jk.K.d) (hf : ∀ b, K'.foot b → jk.K.foot b ∨ w.heap.size ≤ b) (ho : Only jk.K.foot w w') (hn : M'.S.length = M.S.length) :
    JAt w' ⟨jk.j, K', jk.O⟩ M' J := by
  have hlt := h.lt
  obtain ⟨h1, ⟨ra, rc, R, h2, h3, h4⟩, h5, h6, h7, h8, h9⟩ := h
  have hO : ∀ b, jk.O b → w'.heap[b]? = w.heap[b]? := fun b hb => ho.block b (h5.2 b hb).2.2 (h5.2 b hb).2.1
  refine ⟨hd, ⟨ra, rc, R, ?_, h3.keep fun b hb _ => hO b (h4 b hb), h4⟩, ⟨fun hx => ?_, fun b hb => ⟨(h5.2 b hb).1, fun hx => ?_, Nat.lt_of_lt_of_le (h5.2 b hb).2.2 ho.size⟩⟩, by rw [hn]; exact h6, by rw [hn]; exact h7, h8, h9⟩
  · rw [show (⟨jk.j, K', jk.O⟩ : JK).K.d = jk.K.d from hK]
    exact Blk.keep h2 (ho.block _ (hlt _ (.inl rfl)) h5.1)
  · have := hlt jk.j (.inl rfl)
    rcases hf _ hx with h | h
    · exact h5.1 h
    · exact absurd h (by show ¬ w.heap.size ≤ jk.j; omega)
  · have := (h5.2 b hb).2.2
    rcases hf _ hx with h | h
    · exact (h5.2 b hb).2.1 h
    · omega

theorem records_J (w : World) (jk : JK) (M : MD) (J : MJ) (hj : JAt w jk M J) :
    Calls Tryd.prog 18 #[.pointer (some ⟨jk.j, 0, none⟩)] w fun e w' => ∃ r R', e = .returned r ∧ RowsIn R' w' w.heap.size r J.L ∧ (∀ b, R' b → w.heap.size ≤ b ∧ b < w'.heap.size) ∧ Below w.heap.size w w' := by
  have hroom : takenL J.L ≤ halfN M.S.length := hj.room
  have hle : M.S.length ≤ 65536 := hj.disk.le
  have := length_le_taken J.L
  obtain ⟨ra, rc, R, hjb, hr, hown⟩ := hj.recs
  exact records_any w jk.j jk.K.d J.g (takenL J.L) _ J.dead hjb R J.L hr (by unfold halfN at hroom; omega) hj.lens
theorem dead_J (w : World) (jk : JK) (M : MD) (J : MJ) (hj : JAt w jk M J) :
    Calls Tryd.prog 20 #[.pointer (some ⟨jk.j, 0, none⟩)] w fun e w' => e = .returned (.bool J.dead) ∧ w = w' := by
  obtain ⟨ra, rc, R, hjb, hr, hown⟩ := hj.recs
  exact dead_any w jk.j jk.K.d J.g (takenL J.L) _ J.dead hjb

/-- a disk in blocks from lo on -/
def DX (w : World) (lo d : Nat) (M : MD) : Prop := ∃ K : DK, K.d = d ∧ 0 < lo ∧ (∀ b, K.foot b → lo ≤ b) ∧ DiskAt w K M
/-- a journal and its disk in blocks from lo on -/
def JX (w : World) (lo j d : Nat) (M : MD) (J : MJ) : Prop := ∃ jk : JK, jk.j = j ∧ jk.K.d = d ∧ 0 < lo ∧ (∀ b, jk.all b → lo ≤ b) ∧ JAt w jk M J

theorem DX.kept {w w' : World} {lo d : Nat} {M : MD} (h : DX w lo d M) (hb : Below w.heap.size w w') : DX w' lo d M := by
  obtain ⟨K, h1, h2, h3, h4⟩ := h
  exact ⟨K, h1, h2, h3, h4.kept hb⟩
theorem JX.kept {w w' : World} {lo j d : Nat} {M : MD} {J : MJ} (h : JX w lo j d M J) (hb : Below w.heap.size w w') : JX w' lo j d M J := by
  obtain ⟨jk, h1, h2, h3, h4, h5⟩ := h
  exact ⟨jk, h1, h2, h3, h4, h5.kept hb⟩
theorem JX.disk {w : World} {lo j d : Nat} {M : MD} {J : MJ} (h : JX w lo j d M J) : DX w lo d M := by
  obtain ⟨jk, h1, h2, h3, h4, h5⟩ := h
  exact ⟨jk.K, h2, h3, fun b hb => h4 b (.inr (.inl hb)), h5.disk⟩
theorem DX.lo_lt {w : World} {lo d : Nat} {M : MD} (h : DX w lo d M) : lo < w.heap.size := by
  obtain ⟨K, h1, h2, h3, h4⟩ := h
  have a := h4.lt K.d (.inl rfl)
  have b := h3 K.d (.inl rfl)
  omega
theorem DX.pos {w : World} {lo d : Nat} {M : MD} (h : DX w lo d M) : 0 < lo := h.choose_spec.2.1
theorem DX.le {w : World} {lo d : Nat} {M : MD} (h : DX w lo d M) : M.S.length ≤ 65536 := by
  obtain ⟨K, h1, h2, h3, h4⟩ := h
  exact h4.le
theorem JX.lens {w : World} {lo j d : Nat} {M : MD} {J : MJ} (h : JX w lo j d M J) : J.L.length ≤ 65536 ∧ 8 ≤ M.S.length ∧ takenL J.L ≤ halfN M.S.length := by
  obtain ⟨jk, h1, h2, h3, h4, h5⟩ := h
  have a : takenL J.L ≤ halfN M.S.length := h5.room
  have b := length_le_taken J.L
  have c : M.S.length ≤ 65536 := h5.disk.le
  refine ⟨?_, h5.size8, a⟩
  unfold halfN at a
  omega

theorem append_X (w0 w : World) (lo j d : Nat) (M : MD) (J : MJ) (h : JX w0 lo j d M J) (hb : Below w0.heap.size w0 w) (hq : Quarter w) (F : Blks) (v : Value) (l : List UInt8) (hv : Bytes F w v l) (hF : ∀ b, F b → (b < lo ∨ w0.heap.size ≤ b) ∧ b < w.heap.size) (hc : M.writes + 65536 < 4611686018427387904) :
    Calls Tryd.prog 16 #[.pointer (some ⟨j, 0, none⟩), v] w fun e w' => e = .returned (.int .i64 (appendM M J l).2.2) ∧ JX w' lo j d (appendM M J l).1 (appendM M J l).2.1 ∧ Below lo w w' := by
  have hlo := h.disk.lo_lt
  obtain ⟨jk, rfl, rfl, h0, hall, hj0⟩ := h
  have hz := hb.size
  refine (append_any w jk M J (hj0.kept hb) F v l hv (fun b hf => ⟨(hF b hf).2, fun hh => ?_⟩) (fun hh => by have := hall 0 hh; omega) hq hc).mono ?_
  · have := hj0.lt b hh
    have := hall b hh
    rcases (hF b hf).1 with h | h <;> omega
  · rintro e w' ⟨rfl, jk', h1, h2, hj', h4, ho⟩
    refine ⟨rfl, ⟨jk', h1, h2, h0, fun b hb' => ?_, hj'⟩, ho.below hall (by omega)⟩
    rcases h4 b hb' with h | h
    · exact hall b h
    · omega
theorem replace_X (w0 w : World) (lo j d : Nat) (M : MD) (J : MJ) (h : JX w0 lo j d M J) (hb : Below w0.heap.size w0 w) (hq : Quarter w) (F : Blks) (v : Value) (l : List UInt8) (hv : Bytes F w v l) (hF : ∀ b, F b → (b < lo ∨ w0.heap.size ≤ b) ∧ b < w.heap.size) (hc : M.writes + 65536 < 4611686018427387904) :
    Calls Tryd.prog 15 #[.pointer (some ⟨j, 0, none⟩), v] w fun e w' => e = .returned (.int .i64 (replaceM M J l).2.2) ∧ JX w' lo j d (replaceM M J l).1 (replaceM M J l).2.1 ∧ Below lo w w' := by
  have hlo := h.disk.lo_lt
  obtain ⟨jk, rfl, rfl, h0, hall, hj0⟩ := h
  have hz := hb.size
  refine (replace_any w jk M J (hj0.kept hb) F v l hv (fun b hf => ⟨(hF b hf).2, fun hh => ?_⟩) (fun hh => by have := hall 0 hh; omega) hq hc).mono ?_
  · have := hj0.lt b hh
    have := hall b hh
    rcases (hF b hf).1 with h | h <;> omega
  · rintro e w' ⟨rfl, jk', h1, h2, hj', h4, ho⟩
    refine ⟨rfl, ⟨jk', h1, h2, h0, fun b hb' => ?_, hj'⟩, ho.below hall (by omega)⟩
    rcases h4 b hb' with h | h
    · exact hall b h
    · omega
theorem records_X (w : World) (lo j d : Nat) (M : MD) (J : MJ) (h : JX w lo j d M J) :
    Calls Tryd.prog 18 #[.pointer (some ⟨j, 0, none⟩)] w fun e w' => ∃ r R', e = .returned r ∧ RowsIn R' w' w.heap.size r J.L ∧ (∀ b, R' b → w.heap.size ≤ b ∧ b < w'.heap.size) ∧ Below w.heap.size w w' := by
  obtain ⟨jk, rfl, rfl, h0, hall, hj0⟩ := h
  exact records_J w jk M J hj0
theorem dead_X (w : World) (lo j d : Nat) (M : MD) (J : MJ) (h : JX w lo j d M J) :
    Calls Tryd.prog 20 #[.pointer (some ⟨j, 0, none⟩)] w fun e w' => e = .returned (.bool J.dead) ∧ w = w' := by
  obtain ⟨jk, rfl, rfl, h0, hall, hj0⟩ := h
  exact dead_J w jk M J hj0
theorem room_X (w : World) (lo j d : Nat) (M : MD) (J : MJ) (h : JX w lo j d M J) :
    Calls Tryd.prog 17 #[.pointer (some ⟨j, 0, none⟩)] w fun e w' => e = .returned (.int .i64 (roomV M.S.length J.L)) ∧ ∃ m, w.drewN m = w' := by
  obtain ⟨jk, rfl, rfl, h0, hall, hj⟩ := h
  have hroom : takenL J.L ≤ halfN M.S.length := hj.room
  obtain ⟨ra, rc, R, hjb, hr, hown⟩ := hj.recs
  exact room_any w jk.j jk.K.d J.g (takenL J.L) _ J.dead jk.K _ hjb hj.disk rfl (by have : 8 ≤ M.S.length := hj.size8; omega) hroom

theorem open_X (w : World) (lo d : Nat) (M : MD) (h : DX w lo d M) (hq : Quarter w) :
    Calls Tryd.prog 22 #[.pointer (some ⟨d, 0, none⟩)] w fun e w' => (match openM M with
      | .inr c => e = .returned (.tuple #[.pointer none, .int .i64 c])
      | .inl J => ∃ j, e = .returned (.tuple #[.pointer (some ⟨j, 0, none⟩), .int .i64 0]) ∧ JX w' lo j d M J) ∧ Below w.heap.size w w' := by
  have hlo := h.lo_lt
  obtain ⟨K, rfl, h0, hall, hd⟩ := h
  refine (open_any w K M hd hq).mono ?_
  rintro e w' ⟨h1, hb⟩
  refine ⟨?_, hb⟩
  cases ho : openM M with
  | inr c => rw [ho] at h1; exact h1
  | inl J =>
    rw [ho] at h1
    obtain ⟨jk, rfl, hK, hj, ha⟩ := h1
    refine ⟨jk.j, rfl, jk, rfl, by rw [hK], h0, fun b hb' => ?_, hj⟩
    rcases ha b hb' with h | h
    · exact hall b h
    · omega

theorem up_X (w : World) (lo d : Nat) (M : MD) (h : DX w lo d M) :
    Calls Tryd.prog 29 #[.pointer (some ⟨d, 0, none⟩)] w fun e w' => e = .returned (.tuple #[]) ∧ DX w' lo d { M with down := false } ∧ Below lo w w' := by
  have hlo := h.lo_lt
  obtain ⟨K, rfl, h0, hall, hd⟩ := h
  refine (up_any w K M hd).mono ?_
  rintro e w' ⟨rfl, hd', ho, hz⟩
  exact ⟨rfl, ⟨K, rfl, h0, hall, hd'⟩, ho.below hall (by omega)⟩
theorem up_JX (w : World) (lo j d : Nat) (M : MD) (J : MJ) (h : JX w lo j d M J) :
    Calls Tryd.prog 29 #[.pointer (some ⟨d, 0, none⟩)] w fun e w' => e = .returned (.tuple #[]) ∧ JX w' lo j d { M with down := false } J ∧ Below lo w w' := by
  have hlo := h.disk.lo_lt
  obtain ⟨jk, rfl, rfl, h0, hall, hj⟩ := h
  refine (up_any w jk.K M hj.disk).mono ?_
  rintro e w' ⟨rfl, hd', ho, hz⟩
  exact ⟨rfl, ⟨⟨jk.j, jk.K, jk.O⟩, rfl, rfl, h0, hall, hj.onDisk hd' rfl (fun b hb => .inl hb) ho rfl⟩, ho.below (fun b hb => hall b (.inr (.inl hb))) (by omega)⟩
theorem fail_DX (w : World) (lo d : Nat) (M : MD) (h : DX w lo d M) (n : Int) (h0' : 0 ≤ n) (hn : n ≤ 9223372036854775807) (F : Blks) (v : Value) (l : List UInt8) (hv : Bytes F w v l) (hl : l.length = 64) :
    Calls Tryd.prog 27 #[.pointer (some ⟨d, 0, none⟩), .int .i64 n, v] w fun e w' => e = .returned (.int .i64 0) ∧ DX w' lo d { M with fault := some (n.toNat, l) } ∧ Below lo w w' := by
  have hlo := h.lo_lt
  obtain ⟨K, rfl, h0, hall, hd⟩ := h
  refine (fail_int w K M hd n h0' hn F v l hv hl).mono ?_
  rintro e w' ⟨rfl, ⟨K', hK', hKf, hd'⟩, ho⟩
  refine ⟨rfl, ⟨K', hK', h0, fun b hb => ?_, hd'⟩, ho.below hall (by omega)⟩
  rcases hKf b hb with h | h
  · exact hall b h
  · omega
theorem fail_JX (w : World) (lo j d : Nat) (M : MD) (J : MJ) (h : JX w lo j d M J) (n : Int) (h0' : 0 ≤ n) (hn : n ≤ 9223372036854775807) (F : Blks) (v : Value) (l : List UInt8) (hv : Bytes F w v l) (hl : l.length = 64) :
    Calls Tryd.prog 27 #[.pointer (some ⟨d, 0, none⟩), .int .i64 n, v] w fun e w' => e = .returned (.int .i64 0) ∧ JX w' lo j d { M with fault := some (n.toNat, l) } J ∧ Below lo w w' := by
  have hlo := h.disk.lo_lt
  obtain ⟨jk, rfl, rfl, h0, hall, hj⟩ := h
  refine (fail_int w jk.K M hj.disk n h0' hn F v l hv hl).mono ?_
  rintro e w' ⟨rfl, ⟨K', hK', hKf, hd'⟩, ho⟩
  refine ⟨rfl, ⟨⟨jk.j, K', jk.O⟩, rfl, hK', h0, fun b hb => ?_, hj.onDisk hd' hK' hKf ho rfl⟩, ho.below (fun b hb => hall b (.inr (.inl hb))) (by omega)⟩
  rcases hb with hb | hb | hb
  · exact hall b (.inl hb)
  · rcases hKf b hb with h | h
    · exact hall b (.inr (.inl h))
    · omega
  · exact hall b (.inr (.inr hb))

theorem fresh_X (w : World) (n : Nat) (h8 : 8 ≤ n) (hn : n ≤ 65536) (hq : Quarter w) :
    Calls Tryd.prog 14 #[.int .i64 (n : Int)] w fun e w' => ∃ j d, e = .returned (.tuple #[.pointer (some ⟨d, 0, none⟩), .pointer (some ⟨j, 0, none⟩)]) ∧ JX w' w.heap.size j d (formatM (MD.fresh n)).1 ⟨0, [], false⟩ ∧ Below w.heap.size w w' := by
  have h0 : 0 < w.heap.size := by obtain ⟨t, fz, hh⟩ := hq; exact lt_of_block hh
  have hnew := new_ok w n (by omega) hn
  have Hnew := Lib.hid hnew
  clear hnew
  go_enter Tryd.func14, Tryd.ntmps14
  go_wp2_with fail
  refine Hnew.out.mono ?_
  rintro e w1 ⟨K, rfl, hd, hb1, hK⟩
  have hlen : (MD.fresh n).S.length = n := by simp [MD.fresh]
  have hf := format_any w1 K (MD.fresh n) hd (by omega) (hq.keep (hb1.block 0 h0)) (fun h => by have := hK 0 h; omega) (by show 0 + 65540 < _; omega)
  have hM : (formatM (MD.fresh n)).2 = 0 := by
    rw [formatM_def]
    have := writeAll_up (zeroWs (MD.fresh n).S.length ++ [(0, headB 0)]) (MD.fresh n).S 0
    show (writeAll (upM (MD.fresh n).S 0) _).2 = 0
    rw [this]
  rw [hM] at hf
  have Hf := Lib.hid hf; have Hd := Lib.hid hd; have Hb := Lib.hid hb1
  clear hf hd hM
  go_wp2_with fail
  refine Hf.out.mono ?_
  rintro e w2 ⟨K', hK', hKf, ho, h⟩
  rcases h with ⟨-, jb, rfl, hjb, hj⟩ | ⟨h, -⟩
  · have hb2 : Below w.heap.size w1 w2 := ho.below hK hb1.size
    have hj' := Lib.hid hj
    clear hj
    go_wp2_with fail
    go_ret2
    refine ⟨jb, K'.d, by simp [hK'], ⟨⟨jb, K', none_⟩, rfl, rfl, h0, ?_, hj'.out⟩, hb1.trans hb2⟩
    rintro b (hb | hb | hb)
    · have := hb1.size; rw [hb]; show w.heap.size ≤ jb; omega
    · exact hK b (hKf b hb)
    · exact hb.elim
  · exact absurd rfl h
end Go.Proofs.YtmimplmeccoahaaDoor
