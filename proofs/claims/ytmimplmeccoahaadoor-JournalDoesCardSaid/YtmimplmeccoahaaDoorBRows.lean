/- Slices of slices of bytes that the call owns: what an append to one leaves. -/
import Derived.Test.YtmimplmeccoahaaDoorClone
import Derived.Test.YtmimplmeccoahaaDoorUse
namespace Go.Proofs.YtmimplmeccoahaaDoor
open Go.RowKit
set_option linter.unusedVariables false
set_option maxRecDepth 20000

theorem infoBs : (Tryd.prog.info? 30).map (fun i => (i.zero, i.size, i.bytes)) = some (some (.slice none 0 0), 1, 24) := by kernel_rfl

/-- v is a slice of its own block (from lo on, or nil), its elements are the slices of bytes S, whose bytes lie in blocks of R -/
def RowsIn (R : Blks) (w : World) (lo : Nat) (v : Value) (S : List (List UInt8)) : Prop :=
  ∃ vals, w.ownsRow lo 30 1 v S.length vals ∧ (∀ i (h : i < S.length), ∃ x, vals[i]? = some x ∧ Bytes R w x S[i]) ∧ (∀ b, R b → ∃ L fz, w.heap[b]? = some (.cells L 5 fz))

theorem RowsIn.nil (w : World) (lo : Nat) : RowsIn none_ w lo (.slice none 0 0) [] :=
  ⟨[], World.ownsRow_nil _ _ _ _, fun i h => by simp at h, fun b h => h.elim⟩

theorem RowsIn.shape {R : Blks} {w : World} {lo : Nat} {v : Value} {S : List (List UInt8)} (h : RowsIn R w lo v S) : ∃ a cap, v = .slice a S.length cap ∧ S.length ≤ cap ∧ cap ≤ maxLen := by
  obtain ⟨vals, hown, -⟩ := h
  rcases hown.2 with ⟨rfl, h0⟩ | ⟨g, cap, cur, rfl, _, _, hc, hm, _⟩
  · exact ⟨none, 0, by rw [h0], by omega, by unfold maxLen; omega⟩
  · exact ⟨_, cap, rfl, hc, hm⟩

/-- the row's own block -/
theorem RowsIn.own {R : Blks} {w : World} {lo : Nat} {v : Value} {S : List (List UInt8)} (h : RowsIn R w lo v S) {g : Nat} (hg : v.ownBlock = some g) : lo ≤ g ∧ g < w.heap.size ∧ ¬ R g := by
  obtain ⟨vals, hown, -, hR⟩ := h
  rcases hown.2 with ⟨rfl, h0⟩ | ⟨g', cap, cur, rfl, hlo, hb, hc, hm, _⟩
  · cases hg
  · simp [Value.ownBlock] at hg
    subst hg
    refine ⟨hlo, lt_of_block hb, fun hx => ?_⟩
    obtain ⟨L, fz, hL⟩ := hR g' hx
    rw [hb] at hL
    simp at hL

theorem owns_keep {w w' : World} {lo : Nat} {e : TypeId} {size n : Nat} {v : Value} {xs : List Value} (h : w.ownsRow lo e size v n xs) (hk : ∀ g, v.ownBlock = some g → w'.heap[g]? = w.heap[g]?) : w'.ownsRow lo e size v n xs := by
  obtain ⟨h1, h2⟩ := h
  refine ⟨h1, ?_⟩
  rcases h2 with h2 | ⟨g, cap, cur, rfl, hlo, hb, r⟩
  · exact .inl h2
  · exact .inr ⟨g, cap, cur, rfl, hlo, (hk g rfl).trans hb, r⟩

theorem RowsIn.keep {R : Blks} {w w' : World} {lo : Nat} {v : Value} {S : List (List UInt8)} (h : RowsIn R w lo v S) (hk : ∀ b, v.ownBlock = some b ∨ R b → b < w.heap.size → w'.heap[b]? = w.heap[b]?) : RowsIn R w' lo v S := by
  have hown0 := fun g hg => (h.own (g := g) hg).2.1
  obtain ⟨vals, hown, hv, hR⟩ := h
  refine ⟨vals, owns_keep hown fun g hg => hk g (.inl hg) (hown0 g hg), fun i hi => ?_, fun b hb => ?_⟩
  · obtain ⟨x, hx, hbx⟩ := hv i hi
    exact ⟨x, hx, hbx.keep fun b hb hlt => hk b (.inr hb) hlt⟩
  · obtain ⟨L, fz, hL⟩ := hR b hb
    exact ⟨L, fz, (hk b (.inr hb) (lt_of_block hL)).trans hL⟩
theorem RowsIn.kept {R : Blks} {w w' : World} {lo : Nat} {v : Value} {S : List (List UInt8)} (h : RowsIn R w lo v S) (hb : Below w.heap.size w w') : RowsIn R w' lo v S :=
  h.keep fun b _ hlt => hb.block b hlt
theorem RowsIn.only {R F : Blks} {w w' : World} {lo : Nat} {v : Value} {S : List (List UInt8)} (h : RowsIn R w lo v S) (ho : Only F w w') (hd : ∀ b, v.ownBlock = some b ∨ R b → ¬ F b) : RowsIn R w' lo v S :=
  h.keep fun b hb hlt => ho.block b hlt (hd b hb)

/-- append(v, x) -/
theorem RowsIn.append {R Rx : Blks} {w : World} {lo : Nat} {v x : Value} {S : List (List UInt8)} {l : List UInt8} (h : RowsIn R w lo v S) (hx : Bytes Rx w x l) (hRx : ∀ b, Rx b → ∃ L fz, w.heap[b]? = some (.cells L 5 fz))
    (hlen : S.length < 1000000000) (hlo : lo ≤ w.heap.size) :
    ∃ a cap w', (AP #[37, 37] 37 #[v, .slice (some ⟨w.heap.size, 0, none⟩) 1 1]).run Tryd.prog (w.alloc (.cells #[x] 30)) = .ok (.slice a (S.length + 1) cap) w' ∧
      RowsIn (fun b => R b ∨ Rx b) w' lo (.slice a (S.length + 1) cap) (S ++ [l]) ∧ (w.alloc (.cells #[x] 30)).grownBy w' v.ownBlock := by
  obtain ⟨i0, hi, hz0, hz1, hz2⟩ := info_parts infoBs
  have hown0 := fun g hg => h.own (g := g) hg
  obtain ⟨vals, hown, hv, hR⟩ := h
  have hx1 : x.oneCell' = true := by obtain ⟨a, cap, rfl, -⟩ := hx; rfl
  obtain ⟨v', w', hr, h1, h2, h3⟩ := run_append_own (P := Tryd.prog) (w.alloc (.cells #[x] 30)) lo 37 37 30 i0 _ 1 24 Tryd.underlying37 hi hz0 hz1 hz2 rfl (by decide) v S.length vals (hown.alloc _)
    ⟨w.heap.size, 0, none⟩ 1 1 [x] (by simp) (fun j u hj => by
      have hn := Blk.new w #[x] 30
      rw [Addr.add_lit, hn.cell]
      simpa using hj) (by simpa using hx1) (by unfold maxLen; omega) (by omega) (by simp; omega)
  have hsh : ∃ a cap, v' = .slice a (S.length + 1) cap := by
    rcases h1.2 with ⟨_, h0⟩ | ⟨g, cap, cur, rfl, _⟩
    · omega
    · exact ⟨_, cap, rfl⟩
  obtain ⟨a, cap, rfl⟩ := hsh
  have hkeep : ∀ b, b < w.heap.size → (∀ g, v.ownBlock = some g → b ≠ g) → w'.heap[b]? = w.heap[b]? := fun b hb hg => by
    rw [h2.block b (by simp; omega) (fun e => hg b e.symm rfl), Below.heap_alloc _ _ _ hb]
  have hng : ∀ b, (∃ L fz, w.heap[b]? = some (.cells L 5 fz)) → ∀ g, v.ownBlock = some g → b ≠ g := by
    rintro b ⟨L, fz, hL⟩ g hg rfl
    rcases hown.2 with ⟨rfl, _⟩ | ⟨g', cap', cur, rfl, _, hb, _⟩
    · cases hg
    · simp [Value.ownBlock] at hg
      subst hg
      rw [hb] at hL
      simp at hL
  refine ⟨a, cap, w', hr, ⟨vals ++ [x], by simpa using h1, fun i hi => ?_, fun b hb => ?_⟩, h2⟩
  · have hlv : vals.length = S.length := by simpa using hown.1
    by_cases hlt : i < S.length
    · obtain ⟨y, hy, hby⟩ := hv i hlt
      refine ⟨y, by rw [List.getElem?_append_left (by omega)]; exact hy, ?_⟩
      rw [List.getElem_append_left hlt]
      exact (hby.keep fun b hb hbl => hkeep b hbl (hng b (hR b hb))).mono fun b hb => .inl hb
    · simp at hi
      obtain rfl : i = S.length := by omega
      refine ⟨x, by rw [List.getElem?_append_right (by omega), hlv]; simp, ?_⟩
      simp only [List.getElem_concat_length]
      exact (hx.keep fun b hb hbl => hkeep b hbl (hng b (hRx b hb))).mono fun b hb => .inr hb
  · have : ∃ L fz, w.heap[b]? = some (.cells L 5 fz) := hb.elim (hR b) (hRx b)
    obtain ⟨L, fz, hL⟩ := this
    exact ⟨L, fz, (hkeep b (lt_of_block hL) (hng b ⟨L, fz, hL⟩)).trans hL⟩

/-- where the row lies behind an append: where it lay, or in a new block -/
theorem RowsIn.appended {R : Blks} {w : World} {lo : Nat} {v x : Value} {S : List (List UInt8)} (h : RowsIn R w lo v S) (hx1 : x.oneCell' = true) (hlen : S.length < 1000000000) {v' : Value} {w' : World}
    (hap : (AP #[37, 37] 37 #[v, .slice (some ⟨w.heap.size, 0, none⟩) 1 1]).run Tryd.prog (w.alloc (.cells #[x] 30)) = .ok v' w') : ∀ b, v'.ownBlock = some b → v.ownBlock = some b ∨ w.heap.size ≤ b := by
  obtain ⟨i0, hi, hz0, hz1, hz2⟩ := info_parts infoBs
  obtain ⟨vals, hown, -, -⟩ := h
  have hnews : ∀ j u, [x][j]? = some u → (w.alloc (.cells #[x] 30)).cell? ((⟨w.heap.size, 0, none⟩ : Addr).add j) = some u := fun j u hj => by
    have hn := Blk.new w #[x] 30
    rw [Addr.add_lit, hn.cell]
    simpa using hj
  rcases hown.2 with ⟨rfl, h0⟩ | ⟨g, cap, cur, rfl, hlo, hb, hc, hm, hs, ht⟩
  · have hr := run_append_nil (P := Tryd.prog) (w.alloc (.cells #[x] 30)) 37 37 30 i0 _ Tryd.underlying37 hi hz0 ⟨w.heap.size, 0, none⟩ 1 1 [x] (by rw [hz1]; rfl) hnews (by omega) (by omega) (by rw [hz2]; omega)
    change _ = _ at hap
    unfold AP at hap
    rw [hr] at hap
    simp only [Result.ok.injEq] at hap
    obtain ⟨rfl, -⟩ := hap
    intro b hb
    simp [Value.ownBlock] at hb
    right; omega
  · have hb' : (w.alloc (.cells #[x] 30)).heap[g]? = some (.cells cur 30 (0, 0)) := (Below.heap_alloc _ _ _ (lt_of_block hb)).trans hb
    by_cases hroom : S.length + 1 ≤ cap
    · have hr := run_append_room (P := Tryd.prog) (w.alloc (.cells #[x] 30)) 37 37 30 i0 Tryd.underlying37 hi g S.length cap cur hb' ⟨w.heap.size, 0, none⟩ 1 1 [x] (by rw [hz1]; rfl) hnews (by simpa using hx1) hroom (by rw [hz1, hs]; simp; omega)
      unfold AP at hap
      rw [hr] at hap
      simp only [Result.ok.injEq] at hap
      obtain ⟨rfl, -⟩ := hap
      intro b hb
      left
      exact hb
    · have holds : ∀ j u, vals[j]? = some u → (w.alloc (.cells #[x] 30)).cell? ((⟨g, 0, none⟩ : Addr).add j) = some u := (hown.alloc _).cells (g := g) rfl
      have hr := run_append_grow (P := Tryd.prog) (w.alloc (.cells #[x] 30)) 37 37 30 i0 _ Tryd.underlying37 hi hz0 ⟨g, 0, none⟩ S.length cap vals (by rw [hz1]; exact hown.1) holds ⟨w.heap.size, 0, none⟩ 1 1 [x] (by rw [hz1]; rfl) hnews (by omega) (by omega) (by rw [hz2]; exact growslice_fits (by omega) (by omega))
      unfold AP at hap
      rw [hr] at hap
      simp only [Result.ok.injEq] at hap
      obtain ⟨rfl, -⟩ := hap
      intro b hb
      simp [Value.ownBlock] at hb
      right; omega
end Go.Proofs.YtmimplmeccoahaaDoor
