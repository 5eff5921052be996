/-
  SDec SNext
-/
import Derived.Test.YtkkacnfpdafadaaGreatDoorR03
import Derived.Test.YtkkacnfpdafadaaGreatDoorR26
import Derived.Test.YtkkacnfpdafadaaGreatDoorR25
namespace Go.Proofs.YtkkacnfpdafadaaGreatDoor
set_option linter.unusedVariables false
set_option maxRecDepth 20000

def sdecN (b : List UInt8) : List Int × RdSt := seenL 9 ([], some b)
def sdecM (b r : List UInt8) : SMsg := ⟨(sdecN b).1.headD 0, (sdecN b).1.tail, (decR r).1⟩
def sdecR (b : List UInt8) : SMsg × Int := match (sdecN b).2 with
  | none => (.empty, 5)
  | some r => if (decR r).2 = 0 ∧ svalid (sdecM b r) = true then (sdecM b r, 0) else (.empty, 5)
theorem svalid_dev {x : SMsg} (h : svalid x = true) : 0 ≤ x.frm ∧ x.frm < 8 := by
  unfold svalid devOk at h
  simp only [Bool.and_eq_true, decide_eq_true_eq] at h
  exact h.1.1.1
theorem svalid_knows {x : SMsg} (h : svalid x = true) : Knows x.seen := by
  unfold svalid at h
  simp only [Bool.and_eq_true] at h
  exact (knows_iff _).1 h.1.1.2
theorem svalid_tell {x : SMsg} (h : svalid x = true) : validR x.tell = true := by
  unfold svalid at h
  simp only [Bool.and_eq_true] at h
  exact h.1.2
theorem codeS_cons (x : SMsg) : codeS x = (x.frm :: x.seen).flatMap (fun n => uvar n.toNat) ++ codeR x.tell := by
  unfold codeS
  simp
theorem sdec_of {x : SMsg} (h : svalid x = true) : sdecR (codeS x) = (x, 0) := by
  have hd := svalid_dev h
  have hk := svalid_knows h
  have e : sdecN (codeS x) = (x.frm :: x.seen, some (codeR x.tell)) := by
    unfold sdecN
    rw [codeS_cons]
    have := seenL_of (x.frm :: x.seen) [] (codeR x.tell) fun n hn => by
      rcases List.mem_cons.1 hn with rfl | hn
      · omega
      · exact hk.num n hn
    rw [List.length_cons, hk.len, List.nil_append] at this
    exact this
  have em : sdecM (codeS x) (codeR x.tell) = x := by
    unfold sdecM
    rw [e, decR_of (svalid_tell h)]
    rfl
  unfold sdecR
  rw [e]
  show (if (decR (codeR x.tell)).2 = 0 ∧ svalid (sdecM (codeS x) (codeR x.tell)) = true then (sdecM (codeS x) (codeR x.tell), 0) else (.empty, 5)) = _
  rw [em, if_pos ⟨by rw [decR_of (svalid_tell h)], h⟩]
theorem sdec_ok {b : List UInt8} (h : (sdecR b).2 = 0) : svalid (sdecR b).1 = true ∧ codeS (sdecR b).1 = b := by
  obtain ⟨⟨L, st⟩, hn⟩ : ∃ p, sdecN b = p := ⟨_, rfl⟩
  cases st with
  | none =>
    unfold sdecR at h
    rw [hn] at h
    exact absurd h (show ¬ ((5 : Int) = 0) by decide)
  | some r =>
    unfold sdecR at h ⊢
    rw [hn] at h ⊢
    dsimp only at h ⊢
    split at h
    · rename_i hc
      rw [if_pos hc]
      refine ⟨hc.2, ?_⟩
      obtain ⟨k, h1, h2, h3⟩ := seenL_some 9 [] (some b) L r hn
      rw [List.nil_append] at h1
      subst h1
      show codeS (sdecM b r) = b
      rw [codeS_cons]
      have e : (sdecM b r).frm :: (sdecM b r).seen = L := by
        unfold sdecM
        rw [hn]
        cases L with
        | nil => exact absurd h2 (by simp)
        | cons a t => rfl
      rw [e]
      show _ ++ codeR (decR r).1 = b
      rw [(decR_ok hc.1).2]
      exact (Option.some.inj h3).symm
    · exact absurd h (show ¬ ((5 : Int) = 0) by decide)
theorem sdec_or (b : List UInt8) : (sdecR b).2 = 0 ∨ sdecR b = (.empty, 5) := by
  unfold sdecR
  split
  · exact .inr rfl
  · split
    · exact .inl rfl
    · exact .inr rfl
end Go.Proofs.YtkkacnfpdafadaaGreatDoor

namespace Go.Proofs.YtkkacnfpdafadaaGreatDoor
open Go.RowKit Go.Lib
set_option linter.unusedVariables false
set_option maxRecDepth 20000
attribute [local go_sem] opC upC

set_option maxRecDepth 100000 in
set_option maxHeartbeats 2000000 in
theorem snext_core (w : World) (R : Nat) (av : Option Addr) (cap bl : Nat) (n nx : Nat) (ok okU : Bool) (hb : Blk w R [.slice av bl cap, .bool ok] 127) (hbl : bl ≤ cap) (hcap : cap ≤ 9223372036854775807) (hn : n < 18446744073709551616) (hnx : nx ≤ bl)
    (hU : RdC w 103 av cap bl 0 (.int .u64 (n : Int)) nx okU) :
    Calls Tryz.prog 70 #[.pointer (some ⟨R, 0, none⟩)] w fun e w' =>
      e = .returned (.int .i64 (if ok = true ∧ okU = true ∧ n ≤ 1099511627776 then (n : Int) else 0)) ∧
      Blk w' R (if ok = true ∧ okU = true ∧ n ≤ 1099511627776 then [.slice (if cap = nx then av else av.map fun x => x.add nx) (bl - nx) (cap - nx), .bool true] else [.slice av bl cap, .bool false]) 127 ∧ Only (fun q => q = R) w w' := by
  unfold RdC at hU
  have HU := Lib.hid hU
  clear hU
  cases ok with
  | false =>
    rw [if_neg (by simp), if_neg (by simp)]
    have c0 := hb.cell 0
    have c1 := hb.cell 1
    simp only [List.getElem?_cons_zero, List.getElem?_cons_succ] at c0 c1
    have Hb := Lib.hid hb
    clear hb
    go_enter Tryz.func70, Tryz.ntmps70
    go_wp2_with fail
    refine (HU.out _ (Below.refl w.heap.size w)).mono ?_
    rintro e w1 ⟨rfl, hb1⟩
    have hw1 : Below w.heap.size w w1 := hb1
    have hb2 := Hb.out.keep (hw1.block _ Hb.out.lt)
    have Ho1 := Lib.hid (show Only (fun q => q = R) w w1 from Only.of_below hw1)
    clear c0 c1
    have c0 := hb2.cell 0
    have c1 := hb2.cell 1
    simp only [List.getElem?_cons_zero, List.getElem?_cons_succ] at c0 c1
    have f0 := hb2.free 0
    have f1 := hb2.free 1
    have Hb2 := Lib.hid hb2
    clear HU hb1 hw1 hb2 Hb
    go_wp2_with fail
    go_ret
    exact ⟨rfl, Hb2.out.set 1 _, Ho1.out.setCell (.inl rfl) _⟩
  | true =>
    cases okU with
    | false =>
      rw [if_neg (by simp), if_neg (by simp)]
      have c0 := hb.cell 0
      have c1 := hb.cell 1
      simp only [List.getElem?_cons_zero, List.getElem?_cons_succ] at c0 c1
      have Hb := Lib.hid hb
      clear hb
      go_enter Tryz.func70, Tryz.ntmps70
      go_wp2_with fail
      refine (HU.out _ (Below.refl w.heap.size w)).mono ?_
      rintro e w1 ⟨rfl, hb1⟩
      have hw1 : Below w.heap.size w w1 := hb1
      have hb2 := Hb.out.keep (hw1.block _ Hb.out.lt)
      have Ho1 := Lib.hid (show Only (fun q => q = R) w w1 from Only.of_below hw1)
      clear c0 c1
      have c0 := hb2.cell 0
      have c1 := hb2.cell 1
      simp only [List.getElem?_cons_zero, List.getElem?_cons_succ] at c0 c1
      have f0 := hb2.free 0
      have f1 := hb2.free 1
      have Hb2 := Lib.hid hb2
      clear HU hb1 hw1 hb2 Hb
      go_wp2_with fail
      go_ret
      exact ⟨rfl, Hb2.out.set 1 _, Ho1.out.setCell (.inl rfl) _⟩
    | true =>
      by_cases hm : n ≤ 1099511627776
      · rw [if_pos ⟨rfl, rfl, hm⟩, if_pos ⟨rfl, rfl, hm⟩]
        have hI : decide ((n : Int) ≤ 1099511627776) = true := decide_eq_true (by omega)
        have c0 := hb.cell 0
        have c1 := hb.cell 1
        simp only [List.getElem?_cons_zero, List.getElem?_cons_succ] at c0 c1
        have Hb := Lib.hid hb
        clear hb
        go_enter Tryz.func70, Tryz.ntmps70
        go_wp2_with fail
        refine (HU.out _ (Below.refl w.heap.size w)).mono ?_
        rintro e w1 ⟨rfl, hb1⟩
        have hw1 : Below w.heap.size w w1 := hb1
        have hb2 := Hb.out.keep (hw1.block _ Hb.out.lt)
        have Ho1 := Lib.hid (show Only (fun q => q = R) w w1 from Only.of_below hw1)
        clear c0 c1
        have c0 := hb2.cell 0
        have c1 := hb2.cell 1
        simp only [List.getElem?_cons_zero, List.getElem?_cons_succ] at c0 c1
        have f0 := hb2.free 0
        have f1 := hb2.free 1
        have Hb2 := Lib.hid hb2
        clear HU hb1 hw1 hb2 Hb
        go_wp2_with fail
        all_goals go_ret
        all_goals exact ⟨rfl, by simpa using (Hb2.out.set 1 _).set 0 _, (Ho1.out.setCell (.inl rfl) _).setCell (.inl rfl) _⟩
      · rw [if_neg (by omega), if_neg (by omega)]
        have hI : decide ((n : Int) ≤ 1099511627776) = false := decide_eq_false (by omega)
        have c0 := hb.cell 0
        have c1 := hb.cell 1
        simp only [List.getElem?_cons_zero, List.getElem?_cons_succ] at c0 c1
        have Hb := Lib.hid hb
        clear hb
        go_enter Tryz.func70, Tryz.ntmps70
        go_wp2_with fail
        refine (HU.out _ (Below.refl w.heap.size w)).mono ?_
        rintro e w1 ⟨rfl, hb1⟩
        have hw1 : Below w.heap.size w w1 := hb1
        have hb2 := Hb.out.keep (hw1.block _ Hb.out.lt)
        have Ho1 := Lib.hid (show Only (fun q => q = R) w w1 from Only.of_below hw1)
        clear c0 c1
        have c0 := hb2.cell 0
        have c1 := hb2.cell 1
        simp only [List.getElem?_cons_zero, List.getElem?_cons_succ] at c0 c1
        have f0 := hb2.free 0
        have f1 := hb2.free 1
        have Hb2 := Lib.hid hb2
        clear HU hb1 hw1 hb2 Hb
        go_wp2_with fail
        go_ret
        exact ⟨rfl, Hb2.out.set 1 _, Ho1.out.setCell (.inl rfl) _⟩
def SRdAt (W : World) (R : Nat) (F : Blks) (bl : Nat) (st : RdSt) : Prop :=
  ∃ (ok : Bool) (r : List UInt8) (av : Option Addr) (cap : Nat), Blk W R [.slice av r.length cap, .bool ok] 127 ∧ Bytes F W (.slice av r.length cap) r ∧ r.length ≤ bl ∧ st = if ok then some r else none
theorem SRdAt.blk {W : World} {R : Nat} {F : Blks} {bl : Nat} {st : RdSt} (h : SRdAt W R F bl st) : ∃ L, Blk W R L 127 := by
  obtain ⟨ok, r, av, cap, h1, -⟩ := h
  exact ⟨_, h1⟩
theorem SRdAt.keep {W W' : World} {R : Nat} {F : Blks} {bl : Nat} {st : RdSt} (h : SRdAt W R F bl st) (hb : Below W.heap.size W W') : SRdAt W' R F bl st := by
  obtain ⟨ok, r, av, cap, h1, h2, h3, h4⟩ := h
  exact ⟨ok, r, av, cap, h1.keep (hb.block _ h1.lt), h2.keep fun q _ hlt => hb.block q hlt, h3, h4⟩
theorem Bytes.drop {F : Blks} {w : World} {a : Option Addr} {cap : Nat} {l : List UInt8} (h : Bytes F w (.slice a l.length cap) l) (k : Nat) (hk : k ≤ l.length) :
    Bytes F w (.slice (if cap = k then a else a.map fun x => x.add k) (l.length - k) (cap - k)) (l.drop k) := by
  obtain ⟨a', cap', hv, hc, hm, hz, hx⟩ := h
  simp at hv
  obtain ⟨rfl, rfl⟩ := hv
  refine ⟨_, cap - k, by rw [List.length_drop], by rw [List.length_drop]; omega, by omega, fun hn => ?_, ?_⟩
  · split at hn
    · have := hz hn; omega
    · rw [Option.map_eq_none_iff] at hn; have := hz hn; omega
  · by_cases hk2 : k = l.length
    · left; rw [hk2, List.drop_length]
    · right
      rcases hx with rfl | ⟨b, off, L, t, fz, rfl, hF, hg, hle, hr⟩
      · simp at hk hk2; omega
      · rw [if_neg (by omega)]
        refine ⟨b, off + k, L, t, fz, by simp [Addr.add], hF, hg, by rw [List.length_drop]; omega, fun i hi => ?_⟩
        rw [List.length_drop] at hi
        have := hr (k + i) (by omega)
        rw [Nat.add_assoc, this]
        simp
theorem snext_any (w : World) (R : Nat) (F : Blks) (bl : Nat) (st : RdSt) (hR : SRdAt w R F bl st) (hF : ∀ q, F q → q < w.heap.size ∧ q ≠ R) :
    Calls Tryz.prog 70 #[.pointer (some ⟨R, 0, none⟩)] w fun e w' => e = .returned (.int .i64 (numS st).1) ∧ SRdAt w' R F bl (numS st).2 ∧ Only (fun q => q = R) w w' := by
  obtain ⟨ok, r, av, cap, hb, hB, hbl, rfl⟩ := hR
  obtain ⟨-, hc1, hc2, -⟩ := hB.cells
  have hcap : cap ≤ 9223372036854775807 := by unfold maxLen at hc2; omega
  have hU : ∀ W, Below w.heap.size w W → Calls Tryz.prog 103 #[.slice av r.length cap, .int .i64 ((0 : Nat) : Int)] W fun e w' => e = .returned (uintV r 0) ∧ Below W.heap.size W w' := fun W hW => uint_any W F av cap r 0 (hB.keep (w' := W) fun q hq hlt => hW.block q hlt) (fun q hq => Nat.lt_of_lt_of_le (hF q hq).1 hW.size) (Nat.zero_le _)
  unfold uintV at hU
  have kept : ∀ {w' : World}, Only (fun q => q = R) w w' → Bytes F w' (.slice av r.length cap) r := fun ho => hB.keep fun q hq hlt => ho.block q hlt (hF q hq).2
  cases ho : rdF (r.drop 0) 9 with
  | none =>
    rw [ho] at hU
    refine (snext_core w R av cap r.length 0 0 ok false hb hc1 hcap (by omega) (by omega) hU).mono ?_
    rintro e w' ⟨he, h1, h2⟩
    rw [if_neg (by simp)] at he h1
    have hn : numS (if ok then some r else none) = (0, none) := by
      cases ok
      · rfl
      · show numS (some r) = _
        unfold numS; dsimp only; rw [show r = r.drop 0 from rfl, ho]
    rw [hn]
    exact ⟨he, ⟨false, r, av, cap, h1, kept h2, hbl, rfl⟩, h2⟩
  | some p =>
    obtain ⟨n, q⟩ := p
    rw [ho] at hU
    obtain ⟨h1, h2⟩ := rdF_drop ho
    have hl := rd_len ho
    have h1' : q.length ≤ r.length := h1
    have h2' : q = r.drop (r.length - q.length) := h2
    refine (snext_core w R av cap r.length n (r.length - q.length) ok true hb hc1 hcap hl.2.2 (by omega) hU).mono ?_
    rintro e w' ⟨he, h3, h4⟩
    cases ok with
    | false =>
      rw [if_neg (by simp)] at he h3
      exact ⟨he, ⟨false, r, av, cap, h3, kept h4, hbl, rfl⟩, h4⟩
    | true =>
      have hn : numS (some r) = if n ≤ 1099511627776 then ((n : Int), some q) else (0, none) := by
        unfold numS; dsimp only; rw [show r = r.drop 0 from rfl, ho]
      show e = .returned (.int .i64 (numS (some r)).1) ∧ SRdAt w' R F bl (numS (some r)).2 ∧ Only (fun q => q = R) w w'
      rw [hn]
      by_cases hm : n ≤ 1099511627776
      · rw [if_pos ⟨rfl, rfl, hm⟩] at he h3
        rw [if_pos hm]
        have hd := (kept h4).drop (r.length - q.length) (by omega)
        rw [← h2'] at hd
        rw [show r.length - (r.length - q.length) = q.length by omega] at hd h3
        exact ⟨he, ⟨true, q, _, _, h3, hd, by omega, rfl⟩, h4⟩
      · rw [if_neg (by omega)] at he h3
        rw [if_neg hm]
        exact ⟨he, ⟨false, r, av, cap, h3, kept h4, hbl, rfl⟩, h4⟩
end Go.Proofs.YtkkacnfpdafadaaGreatDoor
