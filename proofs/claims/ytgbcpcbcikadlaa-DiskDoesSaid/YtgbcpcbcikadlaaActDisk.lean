/- The acts of the laws on disks: how they are read, and their bytes. -/
import Derived.Test.YtgbcpcbcikadlaaDiskLaws4
namespace Go.Proofs.Ytgbcpcbcikadlaa
open Go.RowKit Go.ChangeShapes Go.WideShapes Go.ChangeAt
set_option linter.unusedVariables false
attribute [local go_sem ↓] seal_append

/-- the bytes of an act: as they are, or cut or filled up to 64 -/
def fullB (full : Bool) (l : List UInt8) : List UInt8 := if full then (l ++ List.replicate (64 - l.length) 0).take 64 else l

theorem owned_cut {w : World} {base : Nat} {e : TypeId} {g n cap : Nat} {xs : List UInt8} (h : w.ownsRow base e 1 (.slice (some ⟨g, 0, none⟩) n cap) n (xs.map B)) (m : Nat) (hm : m ≤ n) :
    w.ownsRow base e 1 (.slice (some ⟨g, 0, none⟩) m cap) m ((xs.take m).map B) := by
  obtain ⟨h1, h2⟩ := h
  rcases h2 with ⟨h2, _⟩ | ⟨g', cap', cur, hv, hb, hg, hc, hcm, hs, ht⟩
  · cases h2
  · simp at hv
    obtain ⟨rfl, rfl⟩ := hv
    have hl : xs.length = n := by simpa using h1
    refine ⟨by simp; omega, .inr ⟨g, cap, cur, rfl, hb, hg, by omega, hcm, hs, ?_⟩⟩
    rw [List.map_take, ← ht, List.take_take]
    simp only [Nat.mul_one]
    rw [Nat.min_eq_left hm]

/-- the length in a slot -/
def sliceLen : Value → Nat | .slice _ n _ => n | _ => 0

def ActRel (w : World) (full : Bool) (l : List UInt8) (v : Value) (wr : World) : Prop :=
  ∃ k : Nat, (full = false → k = 0) ∧ k ≤ 64 - l.length ∧ wr.ownsRow (w.heap.size + 1) 5 1 v (l ++ List.replicate k 0).length ((l ++ List.replicate k 0).map B) ∧ Below w.heap.size w wr

theorem owns_mono {w : World} {base base' : Nat} {e : TypeId} {size : Nat} {v : Value} {n : Nat} {xs : List Value} (h : w.ownsRow base e size v n xs) (hb : base' ≤ base) : w.ownsRow base' e size v n xs := by
  obtain ⟨h1, h2⟩ := h
  refine ⟨h1, ?_⟩
  rcases h2 with h2 | ⟨g, cap, cur, hv, hg, r⟩
  · exact .inl h2
  · exact .inr ⟨g, cap, cur, hv, Nat.le_trans hb hg, r⟩

theorem actBytes_any (w : World) (F : Blks) (kind at_ n : Int) (vB : Value) (full : Bool) (l : List UInt8) (hB : Bytes F w vB l) (hl : l.length ≤ 200) :
    Calls Try.prog 25 #[.agg #[.int .u8 kind, .int .i64 at_, .int .i64 n, vB, .bool full]] w fun e w' => ∃ r, e = .returned r ∧ w'.ownsRow w.heap.size 5 1 r (fullB full l).length ((fullB full l).map B) ∧ Below w.heap.size w w' := by
  have hab : ∀ o, (w.alloc o).heap.size = w.heap.size + 1 := fun o => by simp
  obtain ⟨w1, hw1⟩ : ∃ w1, w1 = w.alloc (.cells #[.int .u8 kind, .int .i64 at_, .int .i64 n, vB, .bool full] 49) := ⟨_, rfl⟩
  have hnew := Blk.new w #[.int .u8 kind, .int .i64 at_, .int .i64 n, vB, .bool full] 49
  have hk1 : Below w.heap.size w w1 := by rw [hw1]; exact kept_alloc _ _
  rw [← hw1] at hnew
  have hs1 : w1.heap.size = w.heap.size + 1 := by rw [hw1]; simp
  -- behind the empty literal
  have hnew2 := hnew.alloc (.cells #[] 5)
  have hk2 := hk1.alloc (by omega) (.cells #[] 5)
  have hB2 : Bytes F (w1.alloc (.cells #[] 5)) vB l := hB.keep fun b _ hb => (Below.heap_alloc _ _ _ (by omega)).trans (hk1.block b hb)
  obtain ⟨v', w2, hr, hown, hgb⟩ := run_append_bytes (w1.alloc (.cells #[] 5)) (w.heap.size + 1) (.slice (some ⟨w1.heap.size, 0, none⟩) 0 0) []
    ⟨rfl, .inr ⟨w1.heap.size, 0, #[], rfl, by omega, by unfold World.alloc; simp, Nat.le_refl _, by unfold maxLen; omega, rfl, rfl⟩⟩ F vB l hB2 (by simp; omega) (by simp; omega)
  have hnew3 : Blk w2 w.heap.size _ _ := hnew2.keep (hgb.block w.heap.size (by simp; omega) (by simp [Value.ownBlock]; omega))
  have hk3 : Below w.heap.size w w2 := hk2.grown hgb (by simp; omega) (fun k hk => by simp [Value.ownBlock] at hk; omega)
  rw [List.nil_append] at hown
  rw [hs1] at hr
  have c1 := hnew.cell 3
  simp at c1
  rw [hw1] at hr
  have Hw1 := Lib.hid hw1; clear hw1
  have Hs1 := Lib.hid hs1
  clear hgb hs1
  have HF := Lib.hid (show fullB full l = if full then (l ++ List.replicate (64 - l.length) 0).take 64 else l from rfl)
  go_enter Try.func25, Try.ntmps25
  go_wp2_with fail
  go_loopw [3] (fun v wr => ActRel w full l v wr ∧ Blk wr w.heap.size [.int .u8 kind, .int .i64 at_, .int .i64 n, vB, .bool full] 49) (fun v _ => 64 - (sliceLen v))
  case atStart => exact ⟨⟨0, fun _ => rfl, by omega, by simpa using hown, hk3⟩, by simpa using hnew3⟩
  case round =>
    obtain ⟨⟨k, hk0, hk, hown, hbw⟩, hblk⟩ := hrel
    clear hr hnew hnew2 hnew3 hk1 hk2 hk3 hB2 c1
    have c4 := hblk.cell 4
    simp at c4
    have hlen : (l ++ List.replicate k (0 : UInt8)).length = l.length + k := by simp
    have hsl : u3 = u3 ∧ sliceLen u3 = l.length + k ∧ ∃ a cap, u3 = .slice a (l.length + k) cap := by
      refine ⟨rfl, ?_⟩
      rcases hown.2 with ⟨h, h2⟩ | ⟨g, cap, cur, h, _⟩
      · rw [hlen] at h2
        subst h
        exact ⟨by simp [sliceLen]; omega, none, 0, by rw [h2]⟩
      · rw [hlen] at h
        subst h
        exact ⟨rfl, _, _, rfl⟩
    obtain ⟨_, hs1, a, cap, rfl⟩ := hsl
    clear hs1 hlen
    cases full with
    | false =>
      have hk0' := hk0 rfl
      subst hk0'
      go_wp2_with fail
      go_ret
      exact ⟨_, rfl, by simpa [fullB] using owns_mono hown (by omega), hbw⟩
    | true =>
      by_cases hlt : l.length + k < 64
      · have hd : decide (((l.length : Int) + (k : Int)) < 64) = true := by simp; omega
        obtain ⟨v2, w3, hr3, hown3, hg3⟩ := run_append_bytes (wr.alloc (.cells #[.int .u8 0] 5)) (w.heap.size + 1) (.slice a (l.length + k) cap) (l ++ List.replicate k 0) (hown.alloc _) (fun b => b = wr.heap.size) (.slice (some ⟨wr.heap.size, 0, none⟩) 1 1) [0]
          (bytes_of_blk (l := [0]) (t := 5) (Blk.new wr _ _) (by unfold maxLen; simp) _ rfl) (by simp; omega) (by have := hblk.lt; simp; omega)
        go_wp2_with fail
        have hrep : (l ++ List.replicate k (0 : UInt8)) ++ [0] = l ++ List.replicate (k + 1) 0 := by rw [List.replicate_succ', List.append_assoc]
        rw [hrep] at hown3
        have hlen2 : (l ++ List.replicate (k + 1) (0 : UInt8)).length = l.length + k + 1 := by simp; omega
        have hsv : sliceLen v2 = l.length + k + 1 := by
          rcases hown3.2 with ⟨h, h2⟩ | ⟨g, cap, cur, h, _⟩
          · rw [hlen2] at h2; omega
          · rw [hlen2] at h; rw [h]; rfl
        have hob : ∀ q, Value.ownBlock (.slice a (l.length + k) cap) = some q → w.heap.size + 1 ≤ q := fun q hq => (hown.lt q hq).1
        refine ⟨⟨⟨k + 1, nofun, by omega, hown3, (hbw.alloc hbw.size _).grown hg3 (by simp; have := hbw.size; omega) (fun q hq => by have := hob q hq; omega)⟩, ?_⟩, ?_⟩
        · exact (hblk.alloc _).keep (hg3.block _ (by simp; have := hblk.lt; omega) (fun hq => by have := hob _ hq.symm; omega))
        · rw [hsv]; simp only [sliceLen]; omega
      · have hd : decide (((l.length : Int) + (k : Int)) < 64) = false := by simp; omega
        have hge : 64 ≤ l.length + k := by omega
        obtain ⟨g, rfl, hcap⟩ : ∃ g, a = some ⟨g, 0, none⟩ ∧ l.length + k ≤ cap := by
          rcases hown.2 with ⟨h, h2⟩ | ⟨g, cap', cur, h, _, _, hc, _⟩
          · rw [List.length_append, List.length_replicate] at h2; omega
          · simp at h hc
            obtain ⟨rfl, _, rfl⟩ := h
            exact ⟨g, rfl, hc⟩
        have hcI : (64 : Int) ≤ (cap : Int) := by omega
        have hfin : (l ++ List.replicate k (0 : UInt8)).take 64 = fullB true l := by
          simp only [fullB, if_true]
          by_cases h64 : l.length ≤ 64
          · rw [show 64 - l.length = k from by omega]
          · rw [List.take_append_of_le_length (by omega), List.take_append_of_le_length (by omega)]
        have hown' : wr.ownsRow (w.heap.size + 1) 5 1 (.slice (some ⟨g, 0, none⟩) (l.length + k) cap) (l.length + k) ((l ++ List.replicate k 0).map B) := by simpa using hown
        have hcut := owned_cut hown' 64 hge
        rw [hfin] at hcut
        have hl64 : (fullB true l).length = 64 := by rw [← hfin]; simp; omega
        have Hcut := Lib.hid hcut; have Hl64 := Lib.hid hl64
        clear hcut hl64 hown' hfin hown
        go_wp2_with fail
        go_ret
        exact ⟨_, rfl, by rw [Hl64.out]; exact owns_mono Hcut.out (by omega), hbw⟩
end Go.Proofs.Ytgbcpcbcikadlaa
