/- The reference disk: Write whole, Fail. -/
import Derived.Test.YtgbcpcbcikadlaaRefDisk5
namespace Go.Proofs.Ytgbcpcbcikadlaa
open Go.RowKit
set_option linter.unusedVariables false
attribute [local go_sem ↓] seal_append
attribute [local go_sem] opC upC

/-- a reference disk somewhere above a block, which may have new bytes -/
def RefIn (w : World) (base d : Nat) (M : MD) : Prop := ∃ K : RK, K.d = d ∧ (∀ b, K.all b → base ≤ b) ∧ RefAt w K M

theorem RefAt.foot_all {K : RK} {b : Nat} (h : K.foot b) : K.all b := by
  rcases h with h | h
  · exact .inl h
  · exact .inr (.inl h)

theorem RK.grow_all {K : RK} {lo hi b : Nat} (h : (K.grow lo hi).all b) : K.all b ∨ (lo ≤ b ∧ b < hi) := by
  rcases h with h | h | h | h
  · exact .inl (.inl h)
  · exact .inl (.inr (.inl h))
  · exact .inl (.inr (.inr h))
  · exact .inr h

/-- Write of 64 bytes to a sector that is there, the power being on -/
theorem refWrite_ok (w : World) (K : RK) (M : MD) (h : RefAt w K M) (i : Nat) (hi : i < M.S.length) (hdn : M.down = false) (hw : M.writes < 4611686018427387904) (F : Blks) (v : Value) (l : List UInt8) (hv : Bytes F w v l) (hl : l.length = 64) (hF : ∀ b, F b → b ≠ K.d) :
    Calls Try.prog 29 #[.pointer (some ⟨K.d, 0, none⟩), .int .i64 (i : Int), v] w fun e w' => e = .returned (.int .i64 (M.write i l).2) ∧
      (∃ K', K'.d = K.d ∧ (∀ b, K'.all b → K.all b ∨ w.heap.size ≤ b) ∧ RefAt w' K' (M.write i l).1) ∧ Only K.foot w w' := by
  cases hft : M.fault with
  | none =>
    refine (refWrite_none w K M h hft i hi hdn hw F v l hv hl).mono ?_
    rintro e w' ⟨rfl, hd, ho⟩
    have e1 : M.write i l = ({ M with S := M.S.set i l, writes := M.writes + 1 }, 0) := by simp [MD.write, hft]
    rw [e1]
    exact ⟨rfl, ⟨K.grow w.heap.size w'.heap.size, rfl, fun b hb => (RK.grow_all hb).imp id (·.1), hd⟩, ho⟩
  | some p =>
    obtain ⟨n, t⟩ := p
    cases n with
    | zero =>
      obtain ⟨a, cap, rfl, -⟩ := hv
      rw [hl]
      refine (refWrite_zero w K M h t hft i hi hdn a cap).mono ?_
      rintro e w' ⟨rfl, hd, ho, hs⟩
      have e1 : M.write i l = ({ M with S := M.S.set i t, fault := none, down := true }, 341) := by simp [MD.write, hft]
      rw [e1]
      exact ⟨rfl, ⟨K, rfl, fun _ hb => .inl hb, hd⟩, ho⟩
    | succ n =>
      refine (refWrite_succ w K M h n t hft i hi hdn hw F v l hv hl hF).mono ?_
      rintro e w' ⟨rfl, hd, ho⟩
      have e1 : M.write i l = ({ M with S := M.S.set i l, fault := some (n, t), writes := M.writes + 1 }, 0) := by simp [MD.write, hft]
      rw [e1]
      exact ⟨rfl, ⟨K.grow w.heap.size w'.heap.size, rfl, fun b hb => (RK.grow_all hb).imp id (·.1), hd⟩, ho⟩

theorem refFail_err (w : World) (d : Nat) (n : Int) (a : Option Addr) (len cap : Nat) (hlen : len ≤ 9223372036854775807) (hc : n < 0 ∨ len ≠ 64) :
    Calls Try.prog 31 #[.pointer (some ⟨d, 0, none⟩), .int .i64 n, .slice a len cap] w fun e w' => e = .returned (.int .i64 (if n < 0 then 6 else 1)) ∧ w = w' := by
  by_cases hn : n < 0
  · go_enter Try.func31, Try.ntmps31
    go_wp2_with fail
    go_ret
    exact ⟨rfl, rfl⟩
  · have hc' : len ≠ 64 := by omega
    have hb : ((len : Int) != 64) = true := bne_iff_ne.2 (by omega)
    have hb2 : (len != 64) = true := bne_iff_ne.2 (by omega)
    go_enter Try.func31, Try.ntmps31
    go_wp2_with fail
    go_ret
    exact ⟨rfl, rfl⟩

theorem refFail_ok (w : World) (K : RK) (M : MD) (h : RefAt w K M) (n : Nat) (hn : n ≤ 9223372036854775807) (F : Blks) (v : Value) (l : List UInt8) (hv : Bytes F w v l) (hl : l.length = 64) (hF : ∀ b, F b → b ≠ K.d) :
    Calls Try.prog 31 #[.pointer (some ⟨K.d, 0, none⟩), .int .i64 (n : Int), v] w fun e w' => e = .returned (.int .i64 0) ∧
      (∃ K', K'.d = K.d ∧ (∀ b, K'.all b → K.all b ∨ w.heap.size ≤ b) ∧ RefAt w' K' { M with fault := some (n, l) }) ∧ Only K.foot w w' := by
  obtain ⟨h1, h2, h3, ⟨cap, after, tv, hc, hm, hb, ⟨L, hL, hLl, hs⟩, ⟨ct, hct, hcl, hf⟩, ha⟩, h5, h6⟩ := h
  have hv0 := hv
  obtain ⟨a, capv, rfl, hcv, hmv, -, -⟩ := hv
  have hlt := hb.lt
  have hltb := hL.lt
  have c2 := hb.cell 2
  have f2 := hb.free 2
  have hb2 := hb.set 2 (.bool true)
  have c3 := hb2.cell 3
  have f3 := hb2.free 3
  have hb3 := hb2.set 3 (.int .i64 (n : Int))
  have hL3 := (hL.set_other (a := ⟨K.d, 2, none⟩) (.bool true) (Ne.symm h1)).set_other (a := ⟨K.d, 3, none⟩) (.int .i64 (n : Int)) (Ne.symm h1)
  simp at c2 c3
  have hF0 : Bytes F ((w.setCell ⟨K.d, 2, none⟩ (.bool true)).setCell ⟨K.d, 3, none⟩ (.int .i64 (n : Int))) (.slice a l.length capv) l := hv0.keep fun b hb _ => by
    rw [Below.heap_setCell _ ⟨K.d, 3, none⟩ _ b (hF b hb), Below.heap_setCell _ ⟨K.d, 2, none⟩ _ b (hF b hb)]
  have ho3 : Only K.foot w ((w.setCell ⟨K.d, 2, none⟩ (.bool true)).setCell ⟨K.d, 3, none⟩ (.int .i64 (n : Int))) := ((Only.refl _ _).setCell (.inl (.inl rfl)) _).setCell (.inl (.inl rfl)) _
  have hs3 : ((w.setCell ⟨K.d, 2, none⟩ (.bool true)).setCell ⟨K.d, 3, none⟩ (.int .i64 (n : Int))).heap.size = w.heap.size := by simp [World.setCell]
  generalize hw3 : (w.setCell ⟨K.d, 2, none⟩ (.bool true)).setCell ⟨K.d, 3, none⟩ (.int .i64 (n : Int)) = w3 at *
  have Hw3 := Lib.hid hw3; clear hw3
  obtain ⟨v', w4, hr, hown, hgb⟩ := run_append_bytes (w3.alloc (.cells #[] 5)) w3.heap.size (.slice (some ⟨w3.heap.size, 0, none⟩) 0 0) []
    ⟨rfl, .inr ⟨w3.heap.size, 0, #[], rfl, Nat.le_refl _, by unfold World.alloc; simp, Nat.le_refl _, by unfold maxLen; omega, rfl, rfl⟩⟩ F (.slice a l.length capv) l (hF0.keep fun b _ hb => Below.heap_alloc _ _ _ hb) (by simp; omega) (by simp)
  rw [List.nil_append] at hown
  obtain ⟨g, cp, rfl, -⟩ := ownsRow_cells hown (by omega)
  have hby : Bytes (fun b => w3.heap.size ≤ b ∧ b < w4.heap.size) w4 (.slice (some ⟨g, 0, none⟩) l.length cp) l := Bytes.of_owns hown _ (fun k h1 h2 => ⟨h1, h2⟩)
  have hk4 : Below w3.heap.size w3 w4 := (kept_alloc _ _).grown hgb (by simp) (fun k hk => by simp [Value.ownBlock] at hk; omega)
  have hb4 := hb3.keep (hk4.block K.d (by omega))
  have hL4 := hL3.keep (hk4.block K.bs (by omega))
  have c4 := hb4.cell 4
  have f4 := hb4.free 4
  simp at c4
  have ho4 : Only K.foot w w4 := ho3.trans (Only.of_below hk4) (fun _ hi => .inl hi)
  have hb5 := hb4.set 4 (.slice (some ⟨g, 0, none⟩) l.length cp)
  have hL5 := hL4.set_other (a := ⟨K.d, 4, none⟩) (.slice (some ⟨g, 0, none⟩) l.length cp) (Ne.symm h1)
  have ho5 : Only K.foot w (w4.setCell ⟨K.d, 4, none⟩ (.slice (some ⟨g, 0, none⟩) l.length cp)) := ho4.setCell (.inl (.inl rfl)) _
  have hby5 : Bytes (fun b => w3.heap.size ≤ b ∧ b < w4.heap.size) (w4.setCell ⟨K.d, 4, none⟩ (.slice (some ⟨g, 0, none⟩) l.length cp)) (.slice (some ⟨g, 0, none⟩) l.length cp) l := hby.keep fun b hb' _ => Below.heap_setCell _ ⟨K.d, 4, none⟩ _ b (by simp; omega)
  have hs5 : (w4.setCell ⟨K.d, 4, none⟩ (.slice (some ⟨g, 0, none⟩) l.length cp)).heap.size = w4.heap.size := by simp [World.setCell]
  have hres : RefAt (w4.setCell ⟨K.d, 4, none⟩ (.slice (some ⟨g, 0, none⟩) l.length cp)) (K.grow w.heap.size w4.heap.size) { M with fault := some (n, l) } := by
    have hRR : ∀ b, K.R b → b < w.heap.size → (w4.setCell ⟨K.d, 4, none⟩ (.slice (some ⟨g, 0, none⟩) l.length cp)).heap[b]? = w.heap[b]? := fun b hR hlt' => ho5.block b hlt' (by have := h2 b hR; rintro (e | e) <;> simp_all)
    refine ⟨h1, ?_, h3, ⟨cap, (n : Int), (.slice (some ⟨g, 0, none⟩) l.length cp), hc, hm, by simpa [RK.grow] using hb5, ⟨L, hL5, hLl, fun i hi => ?_⟩, ⟨l, hby5.mono fun b hb => .inr ⟨by omega, hb.2⟩, by omega, fun k t hh => ?_⟩, by omega⟩, h5, fun k t hh => ?_⟩
    · rintro b (hR | ⟨hR, hR2⟩)
      · exact ⟨(h2 b hR).1, (h2 b hR).2.1, by have := (h2 b hR).2.2; have := hk4.size; omega⟩
      · exact ⟨fun e => by simp [RK.grow] at e; omega, fun e => by simp [RK.grow] at e; omega, by omega⟩
    · obtain ⟨v, hv, hbv⟩ := hs i hi
      exact ⟨v, hv, (hbv.keep hRR).mono fun b hR => .inl hR⟩
    · simp at hh
      obtain ⟨rfl, rfl⟩ := hh
      exact ⟨rfl, rfl⟩
    · simp at hh
      obtain ⟨rfl, rfl⟩ := hh
      exact ⟨hl, hn⟩
  have Hres := Lib.hid hres; have Ho5 := Lib.hid ho5
  clear hres ho5 hby5 hb5 hL5 ho4 hL4 hb4 hk4 hby hown hgb hF0 ho3 hs hct h5 h6 hf h2 hL3 hb3 hb2 hL hb
  rw [hs3] at hr
  rw [← Hw3.out] at hr
  generalize hl2 : l.length = ln at *
  obtain rfl : ln = 64 := hl
  have HL := Lib.hid hl2; clear hl2
  have Hs3 := Lib.hid hs3; have Hs5 := Lib.hid hs5; clear hs3 hs5
  go_enter Try.func31, Try.ntmps31
  go_wp2_with fail
  go_ret
  exact ⟨rfl, ⟨K.grow w.heap.size w4.heap.size, rfl, fun b hb => (RK.grow_all hb).imp id (·.1), Hres.out⟩, Ho5.out⟩
end Go.Proofs.Ytgbcpcbcikadlaa
