/- The iterator over the pieces of a record. -/
import Derived.Test.YtmimplmeccoahaaDoorJ2
import Derived.Test.YtmimplmeccoahaaDoorRange
import Derived.RangeFuncNested
import Derived.RangeFuncBound
import Derived.RangeFuncLeaves
import Derived.Shelf.Abstract
import Derived.OwnWalkIn
import Derived.TacticsInMore
import Derived.LoopNIn
import Derived.LoopIn
namespace Go.Proofs.YtmimplmeccoahaaDoor
open Go.RowKit Go.Shelf
set_option linter.unusedVariables false
set_option maxRecDepth 20000
attribute [local go_sem ↓] seal_copy seal_build_sector
attribute [local go_sem] opC upC Oper.semAt_some

/-- what a round is handed: its number and the block of its sector -/
abbrev pieceArgs (x : Nat × Nat) : Array Value := #[.int .i64 (x.1 : Int), .pointer (some ⟨x.2, 0, none⟩)]

/-- what holds where yield is called -/
def PieceG (n0 g k : Nat) (l : List UInt8) (pre : List (Nat × Nat)) (x : Nat × Nat) (W : World) : Prop :=
  x.1 = pre.length ∧ x.1 < takes l.length ∧ SecAt W x.2 (pieceB g k l x.1) ∧ n0 ≤ x.2

/-- what the iterator needs -/
structure PieceIn (W : World) (F : Blks) (bb gb ob g k : Nat) (v : Value) (l : List UInt8) : Prop where
  bcell : W.cell? ⟨bb, 0, none⟩ = some v
  gcell : W.cell? ⟨gb, 0, none⟩ = some (.int .u32 (g : Int))
  ocell : W.cell? ⟨ob, 0, none⟩ = some (.int .u32 (k : Int))
  bytes : Bytes F W v l
  quarter : Quarter W

theorem cell_lt {w : World} {a : Addr} {v : Value} (h : w.cell? a = some v) : a.block < w.heap.size := World.block_lt_of_cell? w a h

theorem PieceIn.only {W W' : World} {F G : Blks} {bb gb ob g k : Nat} {v : Value} {l : List UInt8} (h : PieceIn W F bb gb ob g k v l) (ho : Only G W W') (hd : ∀ b, b = bb ∨ b = gb ∨ b = ob ∨ b = 0 ∨ F b → ¬ G b) : PieceIn W' F bb gb ob g k v l := by
  obtain ⟨h1, h2, h3, h4, h5⟩ := h
  have l1 := cell_lt h1
  have l2 := cell_lt h2
  have l3 := cell_lt h3
  refine ⟨?_, ?_, ?_, h4.only ho fun b hb => hd b (.inr (.inr (.inr (.inr hb)))), h5.keep (ho.block 0 (by omega) (hd 0 (.inr (.inr (.inr (.inl rfl))))))⟩
  · rw [World.cell?_of_block (w := W) (a := ⟨bb, 0, none⟩) (ho.block bb l1 (hd bb (.inl rfl)))]; exact h1
  · rw [World.cell?_of_block (w := W) (a := ⟨gb, 0, none⟩) (ho.block gb l2 (hd gb (.inr (.inl rfl))))]; exact h2
  · rw [World.cell?_of_block (w := W) (a := ⟨ob, 0, none⟩) (ho.block ob l3 (hd ob (.inr (.inr (.inl rfl)))))]; exact h3
/-- blocks below n0 that are not of F stay -/
structure KeepsB (n0 : Nat) (F : Blks) (A C : World) : Prop where
  size : A.heap.size ≤ C.heap.size
  block : ∀ k, k < n0 → ¬ F k → C.heap[k]? = A.heap[k]?
theorem KeepsB.trans {n0 : Nat} {F : Blks} {A C D : World} (h : KeepsB n0 F A C) (k : KeepsB n0 F C D) : KeepsB n0 F A D := ⟨Nat.le_trans h.size k.size, fun b hb hf => (k.block b hb hf).trans (h.block b hb hf)⟩
theorem KeepsB.put {n0 : Nat} {F : Blks} (W : World) (l : Nat) (o : Obj) (hl : n0 ≤ l) : KeepsB n0 F W (W.putObj l o) := ⟨by simp, fun k hk _ => World.putObj_heap_other (by omega)⟩
theorem KeepsB.of_only {n0 : Nat} {F : Blks} {A C : World} (h : Only F A C) (hn : n0 ≤ A.heap.size) : KeepsB n0 F A C := ⟨h.size, fun k hk hf => h.block k (by omega) hf⟩

theorem PieceIn.keepsB {W W' : World} {n0 : Nat} {F G : Blks} {bb gb ob g k : Nat} {v : Value} {l : List UInt8} (h : PieceIn W F bb gb ob g k v l) (ho : KeepsB n0 G W W') (hd : ∀ b, b = bb ∨ b = gb ∨ b = ob ∨ b = 0 ∨ F b → b < n0 ∧ ¬ G b) : PieceIn W' F bb gb ob g k v l := by
  obtain ⟨h1, h2, h3, h4, h5⟩ := h
  have hh : ∀ b, b = bb ∨ b = gb ∨ b = ob ∨ b = 0 ∨ F b → W'.heap[b]? = W.heap[b]? := fun b hb => ho.block b (hd b hb).1 (hd b hb).2
  refine ⟨?_, ?_, ?_, h4.keep fun b hb _ => hh b (.inr (.inr (.inr (.inr hb)))), h5.keep (hh 0 (.inr (.inr (.inr (.inl rfl)))))⟩
  · rw [World.cell?_of_block (w := W) (a := ⟨bb, 0, none⟩) (hh bb (.inl rfl))]; exact h1
  · rw [World.cell?_of_block (w := W) (a := ⟨gb, 0, none⟩) (hh gb (.inr (.inl rfl)))]; exact h2
  · rw [World.cell?_of_block (w := W) (a := ⟨ob, 0, none⟩) (hh ob (.inr (.inr (.inl rfl))))]; exact h3
theorem PieceIn.later {W W' : World} {F : Blks} {bb gb ob g k : Nat} {v : Value} {l : List UInt8} (h : PieceIn W F bb gb ob g k v l) (hb : Below W.heap.size W W') : PieceIn W' F bb gb ob g k v l :=
  h.only (Only.of_below (F := none_) hb) (fun _ _ h => h)

theorem grownBy_of_below {w w' : World} (h : Below w.heap.size w w') : w.grownBy w' none := ⟨h.os, h.tape, h.output, h.size, fun k hk _ => h.block k hk⟩

theorem putL_at {p q x : List UInt8} {a : Nat} (ha : a = p.length) (n : Nat) (hx : x.length = n) (y : List UInt8) (hy : y.length = n) : putL (p ++ x ++ q) a y = p ++ y ++ q := by
  subst ha
  subst hx
  unfold putL
  rw [hy, show p.length + x.length = (p ++ x).length from by simp, List.drop_left, List.append_assoc p x q, List.take_left]

/-- the steps to a piece -/
theorem piece_eq (g k : Nat) (l : List UInt8) (i : Nat) : sealed ((putL (putL (putL (putL zero64 0 (num4 g)) 4 (num4 k)) 8 (num4 (l.length - 48 * i))) 12 ((l.drop (48 * i)).take (Nat.min (l.drop (48 * i)).length 48))).take 60) = pieceB g k l i := by
  unfold pieceB
  congr 1
  have hz : zero64 = [] ++ num4 0 ++ (num4 0 ++ num4 0 ++ List.replicate 48 0 ++ num4 0) := by decide
  have e1 : putL zero64 0 (num4 g) = num4 g ++ num4 0 ++ (num4 0 ++ List.replicate 48 0 ++ num4 0) := by
    rw [hz]
    have := putL_at (p := []) (x := num4 0) (q := num4 0 ++ num4 0 ++ List.replicate 48 0 ++ num4 0) (a := 0) rfl 4 rfl (num4 g) rfl
    rw [this]
    simp
  have e2 : putL (putL zero64 0 (num4 g)) 4 (num4 k) = num4 g ++ num4 k ++ num4 0 ++ (List.replicate 48 0 ++ num4 0) := by
    rw [e1]
    have := putL_at (p := num4 g) (x := num4 0) (q := num4 0 ++ List.replicate 48 0 ++ num4 0) (a := 4) rfl 4 rfl (num4 k) rfl
    rw [this]
    simp
  have e3 : putL (putL (putL zero64 0 (num4 g)) 4 (num4 k)) 8 (num4 (l.length - 48 * i)) = num4 g ++ num4 k ++ num4 (l.length - 48 * i) ++ List.replicate 48 0 ++ num4 0 := by
    rw [e2]
    have := putL_at (p := num4 g ++ num4 k) (x := num4 0) (q := List.replicate 48 0 ++ num4 0) (a := 8) rfl 4 rfl (num4 (l.length - 48 * i)) rfl
    rw [this]
    simp
  rw [e3]
  generalize hb : l.drop (48 * i) = b
  have ht : b.take (Nat.min b.length 48) = b.take 48 := by
    rw [List.take_eq_take_iff]
    have : Nat.min b.length 48 = min b.length 48 := rfl
    omega
  rw [ht]
  have hpl : (num4 g ++ num4 k ++ num4 (l.length - 48 * i)).length = 12 := rfl
  have hxl : (b.take 48).length = min 48 b.length := List.length_take
  have hrep : List.replicate 48 (0 : UInt8) = List.replicate (b.take 48).length 0 ++ List.replicate (48 - b.length) 0 := by
    rw [List.replicate_append_replicate]
    congr 1
    omega
  rw [hrep]
  have e4 := putL_at (p := num4 g ++ num4 k ++ num4 (l.length - 48 * i)) (q := List.replicate (48 - b.length) 0 ++ num4 0) (x := List.replicate (b.take 48).length 0) (a := 12) hpl.symm _ (by simp) (b.take 48) rfl
  simp only [List.append_assoc] at e4 ⊢
  rw [e4]
  have hfin : (num4 g ++ (num4 k ++ (num4 (l.length - 48 * i) ++ (b.take 48 ++ List.replicate (48 - b.length) 0)))).length = 60 := by
    simp only [List.length_append, num4_length, hxl, List.length_replicate]
    omega
  have : num4 g ++ (num4 k ++ (num4 (l.length - 48 * i) ++ (b.take 48 ++ (List.replicate (48 - b.length) 0 ++ num4 0)))) = (num4 g ++ (num4 k ++ (num4 (l.length - 48 * i) ++ (b.take 48 ++ List.replicate (48 - b.length) 0)))) ++ num4 0 := by simp
  rw [this, ← hfin, List.take_left]
  rfl

theorem Bytes.drop {F : Blks} {w : World} {a : Option Addr} {cap : Nat} {l : List UInt8} (h : Bytes F w (.slice a l.length cap) l) (k : Nat) (hk : k ≤ l.length) :
    Bytes F w (.slice (if cap = k then a else a.map fun x => x.add k) (l.length - k) (cap - k)) (l.drop k) := by
  obtain ⟨a', cap', hv, hc, hm, hz, hx⟩ := h
  simp at hv
  obtain ⟨rfl, rfl⟩ := hv
  refine ⟨_, cap - k, by rw [List.length_drop], by rw [List.length_drop]; omega, by omega, fun hn => ?_, ?_⟩
  · split at hn
    · have := hz hn; omega
    · rw [Option.map_eq_none_iff] at hn; have := hz hn; omega
  · by_cases hk2 : k = l.length
    · left; rw [hk2, List.drop_length]
    · right
      rcases hx with rfl | ⟨b, off, L, t, fz, rfl, hF, hg, hle, hr⟩
      · simp at hk hk2; omega
      · rw [if_neg (by omega)]
        refine ⟨b, off + k, L, t, fz, by simp [Addr.add], hF, hg, by rw [List.length_drop]; omega, fun i hi => ?_⟩
        rw [List.length_drop] at hi
        have := hr (k + i) (by omega)
        rw [Nat.add_assoc, this]
        simp

set_option maxHeartbeats 2000000 in
theorem pieces_seq (w : World) (F G : Blks) (bb gb ob g k : Nat) (v : Value) (l : List UInt8) (h : PieceIn w F bb gb ob g k v l) (hd : ∀ b, b = bb ∨ b = gb ∨ b = ob ∨ b = 0 ∨ F b → b < w.heap.size ∧ ¬ G b) (hl : l.length ≤ 65536) (hg : g < 4294967296) (hk : k < 4294967296) :
    SeqG Tryd.prog 87 #[.pointer (some ⟨bb, 0, none⟩), .pointer (some ⟨gb, 0, none⟩), .pointer (some ⟨ob, 0, none⟩)] pieceArgs (KeepsB w.heap.size G) (PieceG w.heap.size g k l) (fun xs => xs.length = takes l.length) (fun _ => True) w := by
  intro lo J Jx W hW hJ hJx hY h0
  have hin : PieceIn W F bb gb ob g k v l := h.later hW
  have hws := hW.size
  obtain ⟨a, cap, rfl, hc, hm, -, -⟩ := h.bytes
  have htk := takes_any
  refine callsIn_of_wp Tryd.func87 rfl trivial ?_ rfl
  simp only [Tryd.ntmps87, List.size_toArray, List.length_cons, List.length_nil, Nat.reduceAdd, Nat.reduceSub, Array.replicate_succ, Array.replicate_zero, List.push_toArray, List.append_toArray, List.nil_append, List.cons_append]
  have cb := hin.bcell
  have cg := hin.gcell
  have co := hin.ocell
  gi_wp2_with fail
  refine ⟨trivial, callsIn_wide.2 ((takes_any W l.length (by omega)).mono ?_)⟩
  rintro e w' ⟨rfl, rfl⟩
  have htp := takes_pos l.length
  have htb : takes l.length ≤ 65536 := by unfold takes; omega
  clear cb cg co
  gi_wp2_with fail
  gi_loopw [10] (fun i wr => ∃ (m : Nat) (pre : List (Nat × Nat)), m ≤ takes l.length ∧ i = .int .i64 (m : Int) ∧ pre.length = m ∧ J pre wr ∧ PieceIn wr F bb gb ob g k (.slice a l.length cap) l ∧ W.heap.size ≤ wr.heap.size) (fun i _ => takes l.length - (intOf i).toNat)
  case atStart => exact ⟨0, [], by omega, rfl, rfl, h0, hin, Nat.le_refl _⟩
  case round =>
    obtain ⟨m, pre, hm1, rfl, hpl, hJr, hinr, hsz⟩ := hrel
    by_cases hlt : m < takes l.length
    · have hltI : (m : Int) < (takes l.length : Int) := by omega
      have h48 : 48 * m ≤ l.length := by unfold takes at hlt; omega
      have hbd := run_BD_sector wr
      obtain ⟨w1, hw1⟩ : ∃ w1, w1 = wr.alloc (.cells (zero64.map B).toArray 78) := ⟨_, rfl⟩
      have hs1 : SecAt w1 wr.heap.size zero64 := by rw [hw1]; exact SecAt.new _ _ zero64_length
      have hk1 : Below wr.heap.size wr w1 := by rw [hw1]; exact kept_alloc _ _
      have hz1 : w1.heap.size = wr.heap.size + 1 := by rw [hw1]; simp
      have hin1 := hinr.later hk1
      have Hw1 := Lib.hid hw1; clear hw1
      have cg := hinr.gcell
      have lg := cell_lt cg
      dsimp only at lg
      gi_wp2_with fail
      rw [← Hw1.out]
      refine ⟨trivial, callsIn_wide.2 ((put_any w1 wr.heap.size _ hs1 0 g (by omega) hg).mono ?_)⟩
      rintro e w2 ⟨rfl, hs2, ho2, hz2⟩
      clear cg lg
      have hk2 := below_only hk1 ho2 (fun b e => by rw [e]; exact Nat.le_refl _) (by omega)
      have hin2 := hinr.later hk2
      have co := hin2.ocell
      gi_wp2_with fail
      refine ⟨trivial, callsIn_wide.2 ((put_any w2 wr.heap.size _ hs2 4 k (by omega) hk).mono ?_)⟩
      rintro e w3 ⟨rfl, hs3, ho3, hz3⟩
      clear co
      have hk3 := below_only hk2 ho3 (fun b e => by rw [e]; exact Nat.le_refl _) (by omega)
      have hin3 := hinr.later hk3
      have cb := hin3.bcell
      have hrI : ((l.length - 48 * m : Nat) : Int) = (l.length : Int) - 48 * (m : Int) := by omega
      have hput := put_any w3 wr.heap.size _ hs3 8 (l.length - 48 * m) (by omega) (by omega)
      rw [hrI] at hput
      have Hput := Lib.hid hput; clear hput
      have h48I : 48 * (m : Int) ≤ (l.length : Int) := by omega
      have hlI : (l.length : Int) ≤ 65536 := by omega
      clear hrI
      gi_wp2_with fail
      refine ⟨trivial, callsIn_wide.2 ((Hput.out).mono ?_)⟩
      rintro e w4 ⟨rfl, hs4, ho4, hz4⟩
      clear cb
      have hk4 := below_only hk3 ho4 (fun b e => by rw [e]; exact Nat.le_refl _) (by omega)
      have hin4 := hinr.later hk4
      gi_wp2_with fail
      refine wpIn_wide.2 ?_
      have cb : ∀ w', Later w4.drew w' → w'.cell? ⟨bb, 0, none⟩ = some (.slice a l.length cap) := fun w' hh => ((hin4.later (W' := w4.drew) (Below.refl _ _).drew).later hh).bcell
      have hT : ((48 : Int) * (m : Int)).toNat = 48 * m := by omega
      obtain ⟨w5, hcp, hs5, ho5, hz5⟩ := run_copy_sec (w := w4.drew) ⟨hs4.1.drew, hs4.2⟩ 12 48 52 ((hin4.bytes.keep (w' := w4.drew) fun b _ _ => rfl).drop (48 * m) h48) _ rfl (by have : Nat.min (l.drop (48 * m)).length 48 ≤ 48 := Nat.min_le_right _ _; omega)
      have hk5 : Below wr.heap.size wr w5 := hk4.drew.trans (ho5.below (fun b e => by rw [e]; exact Nat.le_refl _) (show wr.heap.size ≤ w4.heap.size by omega))
      have hz5 : w5.heap.size = w4.heap.size := hz5
      generalize hnn : Nat.min (l.drop (48 * m)).length 48 = nn at *
      have Hnn := Lib.hid hnn; clear hnn
      refine wp_region_canL Later 7 [(0, true), (1, true), (2, true), (3, true), (4, true), (5, true), (6, true), (7, false)] (by kernel_rfl) (by kernel_rfl) (by kernel_rfl) later_refl later_trans ?_
      repeat (first
        | (refine canL_yes (v := ?_) rfl (wanted_none rfl) (fun w' hC => ?_) (fun K hK => ?_); rotate_left; (focus (go_simp; (try simp (disch := omega) only [IntWalk.i64_in]); (try simp (disch := omega) only [IntWalk.u32_in]); (try simp (disch := omega) only [IntWalk.u8_in]); (try simp (disch := omega) only [IntWalk.i64_quo]); (try simp (disch := omega) only [IntWalk.rem_in]); first | done | exact rfl)); go_simp; (try simp (disch := omega) only [IntWalk.i64_in]); (try simp (disch := omega) only [IntWalk.u32_in]); (try simp (disch := omega) only [IntWalk.u8_in]); (try simp (disch := omega) only [IntWalk.i64_quo]); (try simp (disch := omega) only [IntWalk.rem_in]); refine hK _ ?_; clear hK K)
        | (refine canL_guard rfl (fun A B hA hB => ?_); go_simp; first | (refine hA ⟨?_, fun w' hC => ?_, fun K hK => ?_⟩; rotate_left; (focus (go_simp; (try simp (disch := omega) only [IntWalk.i64_in]); (try simp (disch := omega) only [IntWalk.u32_in]); (try simp (disch := omega) only [IntWalk.u8_in]); (try simp (disch := omega) only [IntWalk.i64_quo]); (try simp (disch := omega) only [IntWalk.rem_in]); first | done | exact rfl)); go_simp; (try simp (disch := omega) only [IntWalk.i64_in]); (try simp (disch := omega) only [IntWalk.u32_in]); (try simp (disch := omega) only [IntWalk.u8_in]); (try simp (disch := omega) only [IntWalk.i64_quo]); (try simp (disch := omega) only [IntWalk.rem_in]); refine hK _ ?_; clear hK K hA hB A B) | (refine hB (fun K hK => ?_); go_simp; (try simp (disch := omega) only [IntWalk.i64_in]); (try simp (disch := omega) only [IntWalk.u32_in]); (try simp (disch := omega) only [IntWalk.u8_in]); (try simp (disch := omega) only [IntWalk.i64_quo]); (try simp (disch := omega) only [IntWalk.rem_in]); refine hK _ ?_; clear hK K hA hB A B))
        | (refine canL_guard_go rfl (fun A B hA hB => ?_); go_simp; refine hB (fun K hK => ?_); go_simp; (try simp (disch := omega) only [IntWalk.i64_in]); (try simp (disch := omega) only [IntWalk.u32_in]); (try simp (disch := omega) only [IntWalk.u8_in]); (try simp (disch := omega) only [IntWalk.i64_quo]); (try simp (disch := omega) only [IntWalk.rem_in]); refine hK _ ?_; clear hK K hA hB A B))
      generalize (if cap = 48 * m then a else a.map fun x => x.add (48 * m)) = aa at *
      refine canL_last rfl rfl rfl (fun KK hK => ?_)
      go_simp
      refine hK _ _ ?_
      clear hK KK
      go_simp
      refine canL_nil ?_
      have hin5 := hinr.later hk5
      clear cb hcp hT
      gi_wp2_with fail
      refine ⟨trivial, callsIn_wide.2 ((seal_any w5 hin5.quarter wr.heap.size _ hs5).mono ?_)⟩
      rintro e w6 ⟨rfl, hs6, ho6, hz6⟩
      have hk6 := below_only hk5 ho6 (fun b e => by rw [e]; exact Nat.le_refl _) (by omega)
      rw [← Hnn.out, piece_eq] at hs6
      obtain ⟨fn, tmps, assign, body, hy, hR⟩ := hY pre (m, wr.heap.size) w6 (hJ _ _ _ none hJr (grownBy_of_below hk6) (fun r e => by cases e)) ⟨hpl.symm, hlt, hs6, by show w.heap.size ≤ wr.heap.size; omega⟩
      dsimp only [pieceArgs] at hy
      have HR := Lib.hid hR; clear hR
      gi_wp2_with fail
      refine HR.out.mono ?_
      rintro e W3 (⟨rfl, hJ3, hk3'⟩ | ⟨rfl, hJx3⟩)
      · have hs3 : w6.heap.size ≤ W3.heap.size := hk3'.size
        have hin3' := (hinr.later hk6).keepsB hk3' hd
        have hz6 : wr.heap.size ≤ w6.heap.size := hk6.size
        clear hin5 hin4 hin3 hin2 hin1 hk3' hJr hinr
        gi_wp2_with fail
        go_roundw
        case rel => exact ⟨m + 1, pre ++ [(m, wr.heap.size)], by omega, by go_num, by simp [hpl], hJ3, hin3', by omega⟩
        case measure => simp [intOf]; omega
      · gi_wp2_with fail
        refine bodyPost_ret (results_none rfl _ _ _) rfl ?_
        exact ⟨⟨_, rfl⟩, .inr ⟨_, trivial, hJx3⟩⟩
    · have hltI : ¬ (m : Int) < (takes l.length : Int) := by omega
      gi_wp2_with fail
      go_end0
      exact ⟨⟨_, rfl⟩, .inl ⟨pre, by show pre.length = takes l.length; omega, hJr⟩⟩
end Go.Proofs.YtmimplmeccoahaaDoor
