/- An act on both disks: what it leaves; the bytes that are counted up at its end. -/
import Derived.Test.YtgbcpcbcikadlaaRefDisk8
import Derived.Test.YtgbcpcbcikadlaaActDisk
namespace Go.Proofs.Ytgbcpcbcikadlaa
open Go.RowKit
set_option linter.unusedVariables false

/-- both disks, in the same state, apart -/
structure Both (w : World) (K : DK) (KR : RK) (M : MD) : Prop where
  d : DiskAt w K M
  r : RefAt w KR M
  apart : ∀ b, K.foot b → ¬ KR.all b

theorem Both.keep {w w' : World} {K : DK} {KR : RK} {M : MD} (h : Both w K KR M) (hk : ∀ b, K.foot b ∨ KR.all b → w'.heap[b]? = w.heap[b]?) (hs : w.heap.size ≤ w'.heap.size) : Both w' K KR M :=
  ⟨h.d.keep fun b hb => hk b (.inl hb), h.r.keep (fun b hb => hk b (.inr hb)) hs, h.apart⟩
theorem Both.kept {w w' : World} {K : DK} {KR : RK} {M : MD} (h : Both w K KR M) (hb : Below w.heap.size w w') : Both w' K KR M :=
  h.keep (fun b hf => hb.block b (hf.elim (h.d.lt b) (h.r.lt b))) hb.size
theorem Both.set {w : World} {K : DK} {KR : RK} {M : MD} (h : Both w K KR M) (a : Addr) (u : Value) (hn : ∀ b, K.foot b ∨ KR.all b → b ≠ a.block) : Both (w.setCell a u) K KR M :=
  h.keep (fun b hf => Below.heap_setCell w a u b (hn b hf)) (by simp [World.setCell])

/-- the blocks that an act may change -/
def actFoot (K : DK) (KR : RK) : Blks := fun b => K.foot b ∨ KR.foot b

/-- the two disks after an act that began with so many blocks, lo of them before the act's own bytes were made, hi after -/
def Then (lo hi : Nat) (K : DK) (KR : RK) (M : MD) (w' : World) (K' : DK) (KR' : RK) (M' : MD) : Prop :=
  Both w' K' KR' M' ∧ KR'.d = KR.d ∧ M'.S.length = M.S.length ∧ M'.writes ≤ M.writes + 1 ∧ (∀ b, K'.foot b ∨ KR'.all b → K.foot b ∨ KR.all b ∨ hi ≤ b)

theorem Then.lt {lo hi : Nat} {K : DK} {KR : RK} {M : MD} {w w' : World} {K' : DK} {KR' : RK} {M' : MD} (h : Then lo hi K KR M w' K' KR' M') (h0 : Both w K KR M) (hlo : w.heap.size ≤ lo) (g : Nat) (h1 : lo ≤ g) (h2 : g < hi) : ∀ b, K'.foot b ∨ KR'.all b → b ≠ g := by
  rintro b hb rfl
  rcases h.2.2.2.2 b hb with hx | hx | hx
  · have := h0.d.lt b hx; omega
  · have := h0.r.lt b hx; omega
  · omega

/-- the rest of a row of bytes of the call's own, from index k on -/
def RowRest (lo hi : Nat) (r : Value) (n k : Nat) (wr : World) : Prop :=
  n ≤ k ∨ ∃ g cap L, r = .slice (some ⟨g, 0, none⟩) n cap ∧ lo ≤ g ∧ g < hi ∧ Blk wr g L 5 ∧ ∀ j, k ≤ j → j < n → ∃ c : UInt8, L[j]? = some (B c)

theorem RowRest.of_owns {w : World} {lo : Nat} {r : Value} {l : List UInt8} (h : w.ownsRow lo 5 1 r l.length (l.map B)) : RowRest lo w.heap.size r l.length 0 w := by
  rcases h.2 with ⟨rfl, h0⟩ | ⟨g, cap, cur, rfl, hlo, hb, hc, hm, hs, ht⟩
  · exact .inl (by omega)
  · refine .inr ⟨g, cap, cur.toList, rfl, hlo, lt_of_block hb, by unfold Blk; simpa using hb, fun j _ hj => ⟨l[j], ?_⟩⟩
    have : (cur.toList.take (l.length * 1))[j]? = (l.map B)[j]? := by rw [ht]
    rw [List.getElem?_take, if_pos (by omega)] at this
    simpa [List.getElem?_eq_getElem hj] using this
theorem RowRest.keep {lo hi : Nat} {r : Value} {n k : Nat} {w w' : World} (h : RowRest lo hi r n k w) (hk : ∀ b, lo ≤ b → b < hi → w'.heap[b]? = w.heap[b]?) : RowRest lo hi r n k w' := by
  rcases h with h | ⟨g, cap, L, rfl, h1, h2, h3, h4⟩
  · exact .inl h
  · exact .inr ⟨g, cap, L, rfl, h1, h2, h3.keep (hk g h1 h2), h4⟩

/-- a slice of the call's own has a length -/
theorem owns_is {w : World} {lo : Nat} {r : Value} {l : List UInt8} (h : w.ownsRow lo 5 1 r l.length (l.map B)) : ∃ a cap, r = .slice a l.length cap ∧ l.length ≤ cap ∧ cap ≤ maxLen := by
  rcases h.2 with ⟨rfl, h0⟩ | ⟨g, cap, cur, rfl, hlo, hb, hc, hm, hs, ht⟩
  · exact ⟨none, 0, by rw [h0], by omega, by unfold maxLen; omega⟩
  · exact ⟨_, cap, rfl, hc, hm⟩

theorem fullB_le (full : Bool) (l : List UInt8) (h : l.length ≤ 200) : (fullB full l).length ≤ 200 := by
  cases full
  · simpa [fullB] using h
  · simp [fullB]; omega
theorem fullB_full (l : List UInt8) : (fullB true l).length = 64 := by simp [fullB]; omega

/-- what an act leaves -/
def ActPost (w : World) (K : DK) (KR : RK) (M : MD) (e : Ending) (w' : World) : Prop :=
  ∃ (K' : DK) (KR' : RK) (M' : MD), e = .returned (.tuple #[.pointer (some ⟨K'.d, 0, none⟩), .bool true]) ∧ Then w.heap.size w.heap.size K KR M w' K' KR' M' ∧ Only (actFoot K KR) w w'
end Go.Proofs.Ytgbcpcbcikadlaa
