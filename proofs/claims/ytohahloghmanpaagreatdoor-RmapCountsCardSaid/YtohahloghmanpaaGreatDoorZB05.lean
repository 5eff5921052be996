/-
  Mem
-/
import Derived.Test.YtohahloghmanpaaGreatDoorZB04
import Derived.Laws.CopyOwn
namespace Go.Proofs.YtohahloghmanpaaGreatDoor
open Go.RowKit
set_option linter.unusedVariables false
set_option maxRecDepth 20000

abbrev Blks := Nat → Prop

structure Only (F : Blks) (w w' : World) : Prop where
  os : w'.os = w.os
  tape : w'.tape = w.tape
  output : w'.output = w.output
  size : w.heap.size ≤ w'.heap.size
  block : ∀ k, k < w.heap.size → ¬ F k → w'.heap[k]? = w.heap[k]?

theorem Only.refl (F : Blks) (w : World) : Only F w w := ⟨rfl, rfl, rfl, Nat.le_refl _, fun _ _ _ => rfl⟩
theorem Only.trans {F G : Blks} {a b c : World} (h : Only F a b) (k : Only G b c) (hg : ∀ i, G i → F i ∨ a.heap.size ≤ i) : Only F a c :=
  ⟨k.os.trans h.os, k.tape.trans h.tape, k.output.trans h.output, Nat.le_trans h.size k.size, fun i hi hf =>
    (k.block i (Nat.lt_of_lt_of_le hi h.size) (fun hgi => (hg i hgi).elim hf (fun hle => absurd hi (Nat.not_lt.2 hle)))).trans (h.block i hi hf)⟩
theorem Only.mono {F G : Blks} {a b : World} (h : Only F a b) (hg : ∀ i, F i → G i) : Only G a b :=
  ⟨h.os, h.tape, h.output, h.size, fun i hi hf => h.block i hi (fun hx => hf (hg i hx))⟩
theorem Only.of_below {F : Blks} {w w' : World} (h : Below w.heap.size w w') : Only F w w' := ⟨h.os, h.tape, h.output, h.size, fun i hi _ => h.block i hi⟩
theorem Only.below {F : Blks} {w w' : World} {B : Nat} (h : Only F w w') (hF : ∀ i, F i → B ≤ i) (hB : B ≤ w.heap.size) : Below B w w' :=
  ⟨h.os, h.tape, h.output, h.size, fun i hi => h.block i (by omega) (fun hf => by have := hF i hf; omega)⟩
abbrev none_ : Blks := fun _ => False
theorem Only.kept {w w' : World} (h : Only none_ w w') : Below w.heap.size w w' := h.below (fun _ hf => hf.elim) (Nat.le_refl _)
theorem Only.drewN {F : Blks} {a w : World} (h : Only F a w) (n : Nat) : Only F a (w.drewN n) := ⟨h.os, h.tape, h.output, h.size, h.block⟩
theorem Only.drew {F : Blks} {a w : World} (h : Only F a w) : Only F a w.drew := ⟨h.os, h.tape, h.output, h.size, h.block⟩
theorem Only.alloc {F : Blks} {a w : World} (h : Only F a w) (o : Obj) : Only F a (w.alloc o) :=
  ⟨h.os, h.tape, h.output, Nat.le_trans h.size (by simp), fun i hi hf => (Below.heap_alloc w o i (Nat.lt_of_lt_of_le hi h.size)).trans (h.block i hi hf)⟩
theorem Only.setCell {F : Blks} {a w : World} (h : Only F a w) {p : Addr} (hp : F p.block ∨ a.heap.size ≤ p.block) (u : Value) : Only F a (w.setCell p u) :=
  ⟨h.os, h.tape, h.output, by simpa [World.setCell] using h.size, fun i hi hf => (Below.heap_setCell w p u i (by
    rintro rfl
    rcases hp with hp | hp
    · exact hf hp
    · omega)).trans (h.block i hi hf)⟩
theorem Only.setRow {F : Blks} {a w : World} (h : Only F a w) {g : Nat} (hp : F g ∨ a.heap.size ≤ g) (cs : Array Value) : Only F a (w.setRow g cs) :=
  ⟨h.os, h.tape, h.output, by simpa [World.setRow] using h.size, fun i hi hf => (setRow_other w g i cs (by
    rintro rfl
    rcases hp with hp | hp
    · exact hf hp
    · omega)).trans (h.block i hi hf)⟩

def Blk (w : World) (b : Nat) (L : List Value) (t : TypeId) : Prop := w.heap[b]? = some (.cells L.toArray t (0, 0))

theorem Blk.lt {w : World} {b : Nat} {L : List Value} {t : TypeId} (h : Blk w b L t) : b < w.heap.size := lt_of_block h
theorem Blk.cell {w : World} {b : Nat} {L : List Value} {t : TypeId} (h : Blk w b L t) (i : Nat) : w.cell? ⟨b, i, none⟩ = L[i]? := by
  rw [cell_of_row w b i _ t (0, 0) h]; simp
theorem Blk.free {w : World} {b : Nat} {L : List Value} {t : TypeId} (h : Blk w b L t) (i : Nat) : w.frozen? ⟨b, i, none⟩ = false := frozen_of_row w b i _ t h
theorem Blk.keep {w w' : World} {b : Nat} {L : List Value} {t : TypeId} (h : Blk w b L t) (he : w'.heap[b]? = w.heap[b]?) : Blk w' b L t := he.trans h
theorem Blk.only {F : Blks} {w w' : World} {b : Nat} {L : List Value} {t : TypeId} (h : Blk w b L t) (ho : Only F w w') (hf : ¬ F b) : Blk w' b L t := h.keep (ho.block b h.lt hf)
theorem Blk.alloc {w : World} {b : Nat} {L : List Value} {t : TypeId} (h : Blk w b L t) (o : Obj) : Blk (w.alloc o) b L t := h.keep (Below.heap_alloc w o b h.lt)
theorem Blk.new (w : World) (cs : Array Value) (t : TypeId) : Blk (w.alloc (.cells cs t)) w.heap.size cs.toList t := by
  unfold Blk World.alloc; simp
theorem Blk.set {w : World} {b : Nat} {L : List Value} {t : TypeId} (h : Blk w b L t) (i : Nat) (u : Value) : Blk (w.setCell ⟨b, i, none⟩ u) b (L.set i u) t := by
  unfold Blk; rw [heap_setCell_same w b i _ t u h]; simp
theorem Blk.set_other {w : World} {b : Nat} {L : List Value} {t : TypeId} (h : Blk w b L t) {a : Addr} (u : Value) (hne : b ≠ a.block) : Blk (w.setCell a u) b L t :=
  h.keep (Below.heap_setCell _ _ _ _ hne)
theorem Blk.row {w : World} {b : Nat} {L : List Value} {t : TypeId} (h : Blk w b L t) (M : List Value) : Blk (w.setRow b M.toArray) b M t := setRow_heap w b _ _ t _ h
theorem Blk.inj {w : World} {b : Nat} {L M : List Value} {t u : TypeId} (h : Blk w b L t) (k : Blk w b M u) : L = M ∧ t = u := by
  unfold Blk at h k
  rw [h] at k
  simp at k
  exact k
theorem Blk.drewN {w : World} {b : Nat} {L : List Value} {t : TypeId} (h : Blk w b L t) (n : Nat) : Blk (w.drewN n) b L t := h
theorem Blk.drew {w : World} {b : Nat} {L : List Value} {t : TypeId} (h : Blk w b L t) : Blk w.drew b L t := h

def B (b : UInt8) : Value := .int .u8 (b.toNat : Int)

def AP (ts : Array TypeId) (t : TypeId) (args : Array Value) : Sem Value := Builtin.append_ ts t args
theorem seal_append (ts : Array TypeId) (t : TypeId) (args : Array Value) : Builtin.append_ ts t args = AP ts t args := rfl
def MK (t : TypeId) (l c : Value) : Sem Value := Instr.makeSlice t l c
theorem seal_make (t : TypeId) (l c : Value) : Instr.makeSlice t l c = MK t l c := rfl

section
variable {P : Program}

end

theorem oneCell_B (l : List UInt8) : ∀ v ∈ l.map B, v.oneCell' = true := by
  intro v hv
  obtain ⟨b, _, rfl⟩ := List.mem_map.1 hv
  rfl

def Bytes (F : Blks) (w : World) (v : Value) (l : List UInt8) : Prop :=
  ∃ a cap, v = .slice a l.length cap ∧ l.length ≤ cap ∧ cap ≤ maxLen ∧ (a = none → cap = 0) ∧
    (l = [] ∨ ∃ b off L t fz, a = some ⟨b, off, none⟩ ∧ F b ∧ w.heap[b]? = some (.cells L t fz) ∧ off + l.length ≤ L.size ∧ ∀ i (h : i < l.length), L[off + i]? = some (B l[i]))

theorem Bytes.keep {F : Blks} {w w' : World} {v : Value} {l : List UInt8} (h : Bytes F w v l) (hk : ∀ b, F b → b < w.heap.size → w'.heap[b]? = w.heap[b]?) : Bytes F w' v l := by
  obtain ⟨a, cap, rfl, hc, hm, hz, h⟩ := h
  refine ⟨a, cap, rfl, hc, hm, hz, ?_⟩
  rcases h with h | ⟨b, off, L, t, fz, rfl, hF, hb, hl, hr⟩
  · exact .inl h
  · exact .inr ⟨b, off, L, t, fz, rfl, hF, (hk b hF (lt_of_block hb)).trans hb, hl, hr⟩
theorem Bytes.only {F G : Blks} {w w' : World} {v : Value} {l : List UInt8} (h : Bytes F w v l) (ho : Only G w w') (hd : ∀ b, F b → ¬ G b) : Bytes F w' v l :=
  h.keep fun b hb hlt => ho.block b hlt (hd b hb)
theorem Bytes.mono {F G : Blks} {w : World} {v : Value} {l : List UInt8} (h : Bytes F w v l) (hg : ∀ b, F b → G b) : Bytes G w v l := by
  obtain ⟨a, cap, rfl, hc, hm, hz, h⟩ := h
  refine ⟨a, cap, rfl, hc, hm, hz, ?_⟩
  rcases h with h | ⟨b, off, L, t, fz, rfl, hF, hb, hl, hr⟩
  · exact .inl h
  · exact .inr ⟨b, off, L, t, fz, rfl, hg b hF, hb, hl, hr⟩
theorem Bytes.cells {F : Blks} {w : World} {a : Option Addr} {n cap : Nat} {l : List UInt8} (h : Bytes F w (.slice a n cap) l) : n = l.length ∧ l.length ≤ cap ∧ cap ≤ maxLen ∧
    (l = [] ∨ ∃ b off, a = some ⟨b, off, none⟩ ∧ F b ∧ b < w.heap.size ∧ ∀ i (h : i < l.length), w.cell? ⟨b, off + i, none⟩ = some (B l[i])) := by
  obtain ⟨a', cap', hv, hc, hm, hz, h⟩ := h
  simp at hv
  obtain ⟨rfl, rfl, rfl⟩ := hv
  refine ⟨rfl, hc, hm, ?_⟩
  rcases h with h | ⟨b, off, L, t, fz, rfl, hF, hb, hl, hr⟩
  · exact .inl h
  · refine .inr ⟨b, off, rfl, hF, lt_of_block hb, fun i hi => ?_⟩
    rw [cell_of_row w b (off + i) L t fz hb]
    exact hr i hi

theorem Bytes.of_owns {w : World} {base : Nat} {e : TypeId} {v : Value} {l : List UInt8} (h : w.ownsRow base e 1 v l.length (l.map B)) (F : Blks) (hF : ∀ k, base ≤ k → k < w.heap.size → F k) : Bytes F w v l := by
  obtain ⟨h1, h2⟩ := h
  rcases h2 with ⟨rfl, h2⟩ | ⟨g, cap, cur, rfl, hb, hg, hc, hm, hs, ht⟩
  · have hl := List.length_eq_zero_iff.1 h2
    exact ⟨none, 0, by rw [h2], by omega, by unfold maxLen; omega, fun _ => rfl, .inl hl⟩
  · refine ⟨_, cap, rfl, hc, hm, nofun, .inr ⟨g, 0, cur, e, (0, 0), rfl, hF g hb (lt_of_block hg), hg, by omega, fun i hi => ?_⟩⟩
    have : (cur.toList.take (l.length * 1))[i]? = (l.map B)[i]? := by rw [ht]
    rw [List.getElem?_take, if_pos (by omega)] at this
    simpa [List.getElem?_eq_getElem hi] using this
end Go.Proofs.YtohahloghmanpaaGreatDoor
