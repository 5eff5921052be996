/- The functions of the package disk, by contracts: a disk in memory reads as its sectors, its power, its fault and its count of writes. -/
import Derived.Test.YtmimplmeccoahaaDoorChecked
import Derived.Test.YtmimplmeccoahaaDoorMem
import Derived.StillTailTactics
namespace Go.Proofs.YtmimplmeccoahaaDoor
open Go.RowKit
set_option linter.unusedVariables false
set_option maxRecDepth 20000

/-- what a disk is: its sectors, whether its power is off, the fault that is armed (after how many writes, the torn bytes), how many writes were done -/
structure MD where
  S : List (List UInt8)
  down : Bool
  fault : Option (Nat × List UInt8)
  writes : Nat

/-- the blocks of a disk: itself, its sectors, its fault -/
structure DK where
  d : Nat
  bs : Nat
  bf : Nat

def DK.foot (K : DK) : Blks := fun k => k = K.d ∨ k = K.bs ∨ k = K.bf

def Sectors (L : List Value) (S : List (List UInt8)) : Prop :=
  S.length * 64 ≤ L.length ∧ (∀ i (h : i < S.length), (L.drop (i * 64)).take 64 = S[i].map B) ∧ ∀ s ∈ S, s.length = 64

structure DiskAt (w : World) (K : DK) (M : MD) : Prop where
  pos : 0 < M.S.length
  le : M.S.length ≤ 65536
  main : ∃ cap, M.S.length ≤ cap ∧ cap ≤ maxLen ∧ Blk w K.d [.slice (some ⟨K.bs, 0, none⟩) M.S.length cap, .bool M.down, .pointer (M.fault.map fun _ => ⟨K.bf, 0, none⟩), .int .i64 (M.writes : Int)] 86
  secs : ∃ L, Blk w K.bs L 87 ∧ Sectors L M.S
  none_ : M.fault = none → K.bf = K.d
  some_ : ∀ k t, M.fault = some (k, t) → t.length = 64 ∧ k ≤ 9223372036854775807 ∧ Blk w K.bf (.int .i64 (k : Int) :: t.map B) 89

theorem DiskAt.keep {w w' : World} {K : DK} {M : MD} (h : DiskAt w K M) (hk : ∀ b, K.foot b → w'.heap[b]? = w.heap[b]?) : DiskAt w' K M := by
  obtain ⟨h1, h2, ⟨cap, hc, hcm, h3⟩, ⟨L, h4, h5⟩, h6, h7⟩ := h
  exact ⟨h1, h2, ⟨cap, hc, hcm, h3.keep (hk _ (.inl rfl))⟩, ⟨L, h4.keep (hk _ (.inr (.inl rfl))), h5⟩, h6, fun k t ht => ⟨(h7 k t ht).1, (h7 k t ht).2.1, (h7 k t ht).2.2.keep (hk _ (.inr (.inr rfl)))⟩⟩
theorem DiskAt.lt {w : World} {K : DK} {M : MD} (h : DiskAt w K M) : ∀ b, K.foot b → b < w.heap.size := by
  obtain ⟨h1, h2, ⟨cap, hc, hcm, h3⟩, ⟨L, h4, h5⟩, h6, h7⟩ := h
  rintro b (rfl | rfl | rfl)
  · exact h3.lt
  · exact h4.lt
  · cases hf : M.fault with
    | none => rw [h6 hf]; exact h3.lt
    | some p => exact (h7 p.1 p.2 (by rw [hf])).2.2.lt
theorem DiskAt.only {w w' : World} {K : DK} {M : MD} {F : Blks} (h : DiskAt w K M) (ho : Only F w w') (hd : ∀ b, K.foot b → ¬ F b) : DiskAt w' K M :=
  h.keep fun b hb => ho.block b (h.lt b hb) (hd b hb)

/-- why a sector can't be used -/
def MD.chk (M : MD) (i : Int) : Int := if M.down then 341 else if 0 ≤ i ∧ i < M.S.length then 0 else 6

theorem check_any (w : World) (K : DK) (M : MD) (i : Int) (h : DiskAt w K M) :
    Calls Tryd.prog 62 #[.pointer (some ⟨K.d, 0, none⟩), .int .i64 i] w fun e w' => e = .returned (.int .i64 (M.chk i)) ∧ w = w' := by
  obtain ⟨h1, h2, ⟨cap, hc, hcm, h3⟩, _, _, _⟩ := h
  have c0 := h3.cell 0
  have c1 := h3.cell 1
  simp at c0 c1
  have hn : M.S.length ≤ 9223372036854775807 := by omega
  unfold MD.chk
  generalize M.down = dn at *
  generalize M.S.length = n at *
  cases dn
  · by_cases hi : i < 0
    · go_enter Tryd.func62, Tryd.ntmps62
      go_wp2_with fail
      go_ret
      exact ⟨ret_int (by simp <;> omega), rfl⟩
    · by_cases hi2 : (n : Int) ≤ i
      all_goals
        go_enter Tryd.func62, Tryd.ntmps62
        go_wp2_with fail
        go_ret
        exact ⟨ret_int (by simp <;> omega), rfl⟩
  · go_enter Tryd.func62, Tryd.ntmps62
    go_wp2_with fail
    go_ret
    exact ⟨ret_int (by simp), rfl⟩

theorem check_nil (w : World) (i : Int) :
    Calls Tryd.prog 62 #[.pointer none, .int .i64 i] w fun e w' => e = .returned (.int .i64 9) ∧ w = w' := by
  go_enter Tryd.func62, Tryd.ntmps62
  go_wp2_with fail
  go_ret
  exact ⟨rfl, rfl⟩
end Go.Proofs.YtmimplmeccoahaaDoor
