/- Records in plain blocks, which their owner may write; append to a journal on a disk that never fails. -/
import Derived.Test.YtmimplmeccoahaaDoorOwnA
import Derived.Test.YtmimplmeccoahaaDoorJInv
namespace Go.Proofs.YtmimplmeccoahaaDoor
open Go.RowKit
set_option linter.unusedVariables false
set_option maxRecDepth 20000
attribute [local go_sem ↓] seal_append
attribute [local go_sem] opC upC

/-- x is a slice of n bytes in a block of N that may be written -/
def Plain (N : Blks) (w : World) (x : Value) (n : Nat) : Prop :=
  ∃ a cap, x = .slice a n cap ∧ (n = 0 ∨ ∃ b off L, a = some ⟨b, off, none⟩ ∧ N b ∧ Blk w b L 5 ∧ ∀ j, j < n → ∃ c : UInt8, L[off + j]? = some (B c))
theorem Plain.keep {N : Blks} {w w' : World} {x : Value} {n : Nat} (h : Plain N w x n) (hk : ∀ b, N b → b < w.heap.size → w'.heap[b]? = w.heap[b]?) : Plain N w' x n := by
  obtain ⟨a, cap, rfl, h⟩ := h
  refine ⟨a, cap, rfl, h.imp id ?_⟩
  rintro ⟨b, off, L, rfl, hN, hb, hc⟩
  exact ⟨b, off, L, rfl, hN, hb.keep (hk b hN hb.lt), hc⟩
/-- a byte is written into some plain block -/
theorem Plain.set {N : Blks} {w : World} {x : Value} {n : Nat} (h : Plain N w x n) (b i : Nat) (c : UInt8) : Plain N (w.setCell ⟨b, i, none⟩ (B c)) x n := by
  obtain ⟨a, cap, rfl, h⟩ := h
  refine ⟨a, cap, rfl, h.imp id ?_⟩
  rintro ⟨b', off, L, rfl, hN, hb, hc⟩
  by_cases he : b' = b
  · subst he
    refine ⟨b', off, _, rfl, hN, hb.set i (B c), fun j hj => ?_⟩
    obtain ⟨d, hd⟩ := hc j hj
    by_cases hij : i = off + j
    · subst hij
      exact ⟨c, by rw [List.getElem?_set_self (List.getElem?_eq_some_iff.1 hd).1]⟩
    · exact ⟨d, by rw [List.getElem?_set_ne hij]; exact hd⟩
  · exact ⟨b', off, L, rfl, hN, hb.set_other (B c) he, hc⟩
theorem Plain.of_owns {w : World} {lo : Nat} {v : Value} {l : List UInt8} (h : w.ownsRow lo 5 1 v l.length (l.map B)) : Plain (fun b => lo ≤ b ∧ b < w.heap.size) w v l.length := by
  rcases h.2 with ⟨rfl, h0⟩ | ⟨g, cap, cur, rfl, hb, hg, hc, hm, hs, ht⟩
  · exact ⟨none, 0, by rw [h0], .inl h0⟩
  · refine ⟨_, cap, rfl, .inr ⟨g, 0, cur.toList, rfl, ⟨hb, lt_of_block hg⟩, by unfold Blk; simpa using hg, fun j hj => ⟨l[j], ?_⟩⟩⟩
    have : (cur.toList.take (l.length * 1))[j]? = (l.map B)[j]? := by rw [ht]
    rw [List.getElem?_take, if_pos (by omega)] at this
    simpa [List.getElem?_eq_getElem hj] using this
theorem Plain.less {N : Blks} {w : World} {a : Option Addr} {cap n : Nat} (h : Plain N w (.slice a n cap) n) (m : Nat) (hm : m ≤ n) : Plain N w (.slice a m cap) m := by
  obtain ⟨a', cap', he, h⟩ := h
  simp at he
  obtain ⟨rfl, rfl⟩ := he
  refine ⟨a, cap, rfl, ?_⟩
  rcases h with h | ⟨b, off, L, rfl, hN, hb, hc⟩
  · exact .inl (by omega)
  · exact .inr ⟨b, off, L, rfl, hN, hb, fun j hj => hc j (by omega)⟩
/-- the byte that is counted up -/
theorem Plain.at {N : Blks} {w : World} {a : Option Addr} {cap n : Nat} (h : Plain N w (.slice a n cap) n) (k : Nat) (hk : k < n) :
    ∃ b off, a = some ⟨b, off, none⟩ ∧ N b ∧ b < w.heap.size ∧ ∃ c : UInt8, w.cell? ⟨b, off + k, none⟩ = some (.int .u8 (c.toNat : Int)) ∧ w.frozen? ⟨b, off + k, none⟩ = false := by
  obtain ⟨a', cap', he, h⟩ := h
  simp at he
  obtain ⟨rfl, rfl⟩ := he
  rcases h with h | ⟨b, off, L, rfl, hN, hb, hc⟩
  · omega
  · obtain ⟨c, hcc⟩ := hc k hk
    exact ⟨b, off, rfl, hN, hb.lt, c, by rw [hb.cell, hcc]; rfl, hb.free _⟩
theorem u8_next (c : UInt8) : B (UInt8.ofNat (c.toNat + 1)) = .int .u8 (IntKind.u8.wrap ((c.toNat : Int) + 1)) := by
  rw [B_ofNat]
  congr 1

/-- a row of such slices -/
def GotRow (Z : Nat) (w : World) (v : Value) (ns : List Nat) : Prop :=
  ∃ a cap, v = .slice a ns.length cap ∧ (ns = [] ∨ ∃ g, a = some ⟨g, 0, none⟩ ∧ Z ≤ g ∧ g < w.heap.size ∧ ∀ i (h : i < ns.length), ∃ x, w.cell? ⟨g, i, none⟩ = some x ∧ Plain (fun b => Z ≤ b ∧ b ≠ g) w x ns[i])
theorem RowsIn.got {R : Blks} {w : World} {lo : Nat} {v : Value} {S : List (List UInt8)} (h : RowsIn R w lo v S) (hp : ∀ b, R b → lo ≤ b ∧ ∃ L, Blk w b L 5) : GotRow lo w v (S.map List.length) := by
  obtain ⟨a, cap, rfl, -, -⟩ := id h.shape
  refine ⟨a, cap, by simp, ?_⟩
  cases S with
  | nil => exact .inl rfl
  | cons s S =>
    right
    obtain ⟨g, cap', x', hv, hb, hc⟩ := h.elem 0 (by simp)
    simp at hv
    obtain ⟨rfl, rfl⟩ := hv
    have hog := h.own (g := g) rfl
    refine ⟨g, rfl, hog.1, hog.2.1, fun i hi => ?_⟩
    have hi' : i < (s :: S).length := by simpa using hi
    obtain ⟨g2, cap2, x2, hv2, hb2, hc2⟩ := h.elem i hi'
    simp at hv2
    obtain ⟨rfl, -⟩ := hv2
    refine ⟨x2, hc2, ?_⟩
    rw [List.getElem_map]
    obtain ⟨a2, c2, rfl, -, -, -, h2⟩ := hb2
    refine ⟨a2, c2, rfl, ?_⟩
    rcases h2 with h2 | ⟨b, off, L, t, fz, rfl, hR, hg, hle, hr⟩
    · exact .inl (by rw [h2]; rfl)
    · right
      obtain ⟨hlo, L0, hL0⟩ := hp b hR
      have e : w.heap[b]? = some (.cells L0.toArray 5 (0, 0)) := hL0
      rw [hg] at e
      simp at e
      obtain ⟨rfl, rfl, rfl⟩ := e
      refine ⟨b, off, L0, rfl, ⟨hlo, fun e => hog.2.2 (by rw [← e]; exact hR)⟩, hL0, fun j hj => ⟨(s :: S)[i][j], ?_⟩⟩
      have := hr j hj
      simpa using this
theorem GotRow.set {Z : Nat} {w : World} {v : Value} {ns : List Nat} (h : GotRow Z w v ns) (b i : Nat) (c : UInt8) (hb : ∀ a cap, v = .slice a ns.length cap → ∀ g, a = some ⟨g, 0, none⟩ → b ≠ g) : GotRow Z (w.setCell ⟨b, i, none⟩ (B c)) v ns := by
  obtain ⟨a, cap, rfl, h⟩ := h
  refine ⟨a, cap, rfl, h.imp id ?_⟩
  rintro ⟨g, rfl, h1, h2, h3⟩
  have hne := hb _ _ rfl g rfl
  refine ⟨g, rfl, h1, by simpa [World.setCell] using h2, fun k hk => ?_⟩
  obtain ⟨x, hx, hp⟩ := h3 k hk
  refine ⟨x, ?_, hp.set b i c⟩
  have : (w.setCell ⟨b, i, none⟩ (B c)).heap[g]? = w.heap[g]? := Below.heap_setCell _ _ _ _ (fun e => hne e.symm)
  unfold World.cell? at *
  rw [show (⟨g, k, none⟩ : Addr).block = g from rfl, this]
  exact hx

theorem owns_bytesP {w : World} {lo : Nat} {v : Value} {l : List UInt8} (h : w.ownsRow lo 5 1 v l.length (l.map B)) : Bytes (fun b => lo ≤ b ∧ b < w.heap.size ∧ ∃ L, Blk w b L 5) w v l := by
  rcases h.2 with ⟨rfl, h0⟩ | ⟨g, cap, cur, rfl, hb, hg, hc, hm, hs, ht⟩
  · exact ⟨none, 0, by rw [h0], by omega, by unfold maxLen; omega, fun _ => rfl, .inl (List.length_eq_zero_iff.1 h0)⟩
  · refine ⟨_, cap, rfl, hc, hm, nofun, .inr ⟨g, 0, cur, 5, (0, 0), rfl, ⟨hb, lt_of_block hg, cur.toList, by unfold Blk; simpa using hg⟩, hg, by omega, fun i hi => ?_⟩⟩
    have : (cur.toList.take (l.length * 1))[i]? = (l.map B)[i]? := by rw [ht]
    rw [List.getElem?_take, if_pos (by omega)] at this
    simpa [List.getElem?_eq_getElem hi] using this

set_option maxHeartbeats 1000000 in
theorem records_plain (w : World) (jb kd g taken : Nat) (rv : Value) (dead : Bool) (hj : JBlk w jb kd g rv taken dead) (R : Blks) (L : List (List UInt8)) (hr : RowsIn R w 0 rv L) (hL : L.length ≤ 65536) (hlens : ∀ b ∈ L, b.length ≤ 65536) :
    Calls Tryd.prog 18 #[.pointer (some ⟨jb, 0, none⟩)] w fun e w' => ∃ r R', e = .returned r ∧ RowsIn R' w' w.heap.size r L ∧ (∀ b, R' b → w.heap.size ≤ b ∧ ∃ C, Blk w' b C 5) ∧ Below w.heap.size w w' := by
  have c2 := hj.cell 2
  simp at c2
  obtain ⟨aR, cR, rfl, hcR, hmR⟩ := hr.shape
  have hLI : (L.length : Int) ≤ 65536 := by omega
  go_enter Tryd.func18, Tryd.ntmps18
  go_wp2_with fail
  go_loopw [3, 13] (fun v i wr => ∃ k R', k ≤ L.length ∧ i = .int .i64 (k : Int) ∧ RowsIn R' wr w.heap.size v (L.take k) ∧ (∀ b, R' b → w.heap.size ≤ b ∧ ∃ C, Blk wr b C 5) ∧ Below w.heap.size w wr) (fun _ i _ => L.length - (intOf i).toNat)
  case atStart => exact ⟨0, none_, by omega, rfl, by simpa using RowsIn.nil w w.heap.size, fun b hb => hb.elim, Below.refl _ _⟩
  case round =>
    obtain ⟨k, R', hk, rfl, hrow, hR', hbw⟩ := hrel
    by_cases hkl : k < L.length
    · have hklI : (k : Int) < (L.length : Int) := by omega
      have hrw := hr.kept hbw
      obtain ⟨gg, cap, x, hv, hbx, hcell⟩ := hrw.elem k hkl
      simp at hv
      obtain ⟨rfl, rfl⟩ := hv
      have hlk : (L.take k).length = k := by simp; omega
      obtain ⟨a1, c1, rfl, hc1, hm1⟩ := hrow.shape
      rw [hlk] at hc1 hrow
      have hll := hlens L[k] (List.getElem_mem hkl)
      rw [hlk]
      go_wp2_with fail
      refine (clone_any wr R x L[k] hbx (by omega)).mono ?_
      rintro e w1 ⟨r, rfl, hr1, hb1⟩
      have hby := owns_bytesP hr1
      obtain ⟨a2, c2', rfl, -, -⟩ : ∃ a cap, r = .slice a L[k].length cap ∧ L[k].length ≤ cap ∧ cap ≤ maxLen := by
        obtain ⟨a, cap, h, h1, h2, -⟩ := hby
        exact ⟨a, cap, h, h1, h2⟩
      have hrow1 := hrow.kept hb1
      obtain ⟨a', c', w2, hap, hrows2, hg2⟩ := hrow1.append hby (fun b hb => by obtain ⟨-, -, C, hC⟩ := hb; exact ⟨_, _, hC⟩) (by simp; omega) (by have := hb1.size; have := hbw.size; omega)
      have hP2 : ∀ b, (R' b ∨ (wr.heap.size ≤ b ∧ b < w1.heap.size ∧ ∃ C, Blk w1 b C 5)) → w.heap.size ≤ b ∧ ∃ C, Blk w2 b C 5 := by
        have keep2 : ∀ b C, b < w1.heap.size → Blk w1 b C 5 → Blk w2 b C 5 := fun b C hlt hC => by
          refine hC.keep ?_
          rw [hg2.block b (by simp; omega) (fun e => ?_), Below.heap_alloc _ _ _ hlt]
          obtain ⟨vals, hown, -, -⟩ := hrow1
          rcases hown.2 with ⟨he, h0⟩ | ⟨g', cap', cur, he, _, hg', _⟩
          · rw [he] at e; cases e
          · rw [he] at e
            simp [Value.ownBlock] at e
            subst e
            unfold Blk at hC
            rw [hg'] at hC
            simp at hC
        rintro b (h | ⟨h1, h2, C, hC⟩)
        · obtain ⟨h1, C, hC⟩ := hR' b h
          exact ⟨h1, C, keep2 b C (by have := hC.lt; have := hb1.size; omega) (hC.keep (hb1.block b hC.lt))⟩
        · exact ⟨by have := hbw.size; omega, C, keep2 b C h2 hC⟩
      rw [hlk] at hap hrows2
      have hb2 : Below w.heap.size w w2 := (Below.alloc (hbw.trans (hb1.mono hbw.size)) (by have := hb1.size; have := hbw.size; omega) _).grown hg2 (by have := hb1.size; have := hbw.size; simp; omega) (fun q hq => ((hrow1.own hq).1))
      have htk : L.take k ++ [L[k]] = L.take (k + 1) := by rw [List.take_succ_eq_append_getElem hkl]
      rw [htk] at hrows2
      have Hrows2 := Lib.hid hrows2; have Hb2 := Lib.hid hb2; have HP2 := Lib.hid hP2
      have hbs := hbw.size
      have hb1s := hb1.size
      clear hrows2 hb2 hrow1 hrow hrw hby hr1 hg2 hcell hbx hP2 hR'
      go_wp2_with fail
      go_roundw
      case rel => exact ⟨k + 1, _, by omega, by go_num, Hrows2.out, HP2.out, Hb2.out⟩
      case measure => simp [intOf]; omega
    · have hklI : ¬ (k : Int) < (L.length : Int) := by omega
      have hkl' : k = L.length := by omega
      subst hkl'
      rw [List.take_length] at hrow
      go_wp2_with fail
      go_ret
      exact ⟨_, rfl, R', hrow, hR', hbw⟩

theorem append_UJ (w : World) (jk : JK) (S : List (List UInt8)) (k g : Nat) (L : List (List UInt8)) (hj : JAt w jk (upM S k) ⟨g, L, false⟩) (hq : Quarter w) (F : Blks) (v : Value) (l : List UInt8) (hv : Bytes F w v l) (hF : ∀ b, F b → b < w.heap.size ∧ ¬ jk.all b) (h00 : ¬ jk.all 0) (hc : k + 70000 < 4611686018427387904) (hl : l.length ≤ 65536) (hf : takenL L + takes l.length ≤ halfN S.length) :
    Calls Tryd.prog 16 #[.pointer (some ⟨jk.j, 0, none⟩), v] w fun e w' => e = .returned (.int .i64 0) ∧
      ∃ jk' S' k', jk'.j = jk.j ∧ S'.length = S.length ∧ k' ≤ k + 70000 ∧ JAt w' jk' (upM S' k') ⟨g, L ++ [l], false⟩ ∧ (∀ b, jk'.all b → jk.all b ∨ w.heap.size ≤ b) ∧ Only jk.all w w' := by
  have hle : S.length ≤ 65536 := hj.disk.le
  have hH : halfN S.length ≤ 32768 := by unfold halfN; omega
  refine (append_any w jk _ _ hj F v l hv hF h00 hq (by show k + 65536 < _; omega)).mono ?_
  rintro e w' ⟨rfl, jk', h1, h2, hj', h4, ho⟩
  have hM : appendM (upM S k) ⟨g, L, false⟩ l = (upM (setAll S (pieceWrites S.length g L.length (takenL L) l)) (k + (pieceWrites S.length g L.length (takenL L) l).length), ⟨g, L ++ [l], false⟩, 0) := by
    unfold appendM
    rw [if_neg (by simp), if_neg (by omega), if_neg (by show ¬ halfN S.length - takenL L < _; omega)]
    show (if (writeAll (upM S k) (pieceWrites S.length g L.length (takenL L) l)).2 = 0 then ((writeAll (upM S k) (pieceWrites S.length g L.length (takenL L) l)).1, (⟨g, L ++ [l], false⟩ : MJ), (0 : Int)) else ((writeAll (upM S k) (pieceWrites S.length g L.length (takenL L) l)).1, ⟨g, L, true⟩, (writeAll (upM S k) (pieceWrites S.length g L.length (takenL L) l)).2)) = _
    rw [writeAll_up, if_pos rfl]
  rw [hM] at hj'
  rw [hM]
  refine ⟨rfl, jk', _, _, h1, setAll_length _ _, ?_, hj', h4, ho⟩
  have : (pieceWrites S.length g L.length (takenL L) l).length ≤ 32768 := by simp [pieceWrites]; omega
  omega

theorem takenL_le (L : List (List UInt8)) (h : ∀ l ∈ L, l.length ≤ 100) : takenL L ≤ 3 * L.length := by
  induction L with
  | nil => simp [takenL]
  | cons x L ih =>
    have h1 := ih fun l hl => h l (by simp [hl])
    have h2 := h x (by simp)
    have h3 : takenL (x :: L) = takes x.length + takenL L := by simp [takenL]
    rw [h3, List.length_cons]
    unfold takes
    omega
end Go.Proofs.YtmimplmeccoahaaDoor
