/- coding.PutUint, PutText: the code of a number is appended in new memory. -/
import Derived.Test.YtbjkkmabafaogaaGreatDoorRMath3
import Derived.Test.YtbjkkmabafaogaaGreatDoorRMem
import Derived.Test.YtbjkkmabafaogaaGreatDoorClone
import Derived.ArgAppend
import Derived.Lib.AppendStr
import Derived.Laws.BitsAllLaws
import Derived.Laws.Shifts
import Derived.Deep.LoopGhost
namespace Go.Proofs.YtbjkkmabafaogaaGreatDoor
open Go.RowKit
set_option linter.unusedVariables false
set_option maxRecDepth 20000
attribute [local go_sem ↓] seal_append

theorem own_base {W : World} {base base' : Nat} {e : TypeId} {size : Nat} {v : Value} {k : Nat} {xs : List Value} (h : W.ownsRow base e size v k xs) (hb : base' ≤ base) : W.ownsRow base' e size v k xs := by
  refine ⟨h.1, ?_⟩
  rcases h.2 with hn | ⟨g, cap, cur, hv, hbg, rest⟩
  · exact .inl hn
  · exact .inr ⟨g, cap, cur, hv, Nat.le_trans hb hbg, rest⟩

theorem own_shape {w : World} {base : Nat} {e : TypeId} {k n : Nat} {v : Value} {xs : List Value} (h : w.ownsRow base e k v n xs) : ∃ a cap, v = .slice a n cap := by
  rcases h.2 with ⟨rfl, h0⟩ | ⟨g, cap, cur, rfl, _⟩
  · exact ⟨none, 0, by rw [h0]⟩
  · exact ⟨_, _, rfl⟩
/-- bytes in memory of the call's own, to which may be appended: with room of its own, or without room -/
def Apt (w : World) (base : Nat) (v : Value) (l : List UInt8) : Prop :=
  w.ownsRow base 5 1 v l.length (l.map B) ∨ ∃ g L t fz, v = .slice (some ⟨g, 0, none⟩) l.length l.length ∧ base ≤ g ∧ w.heap[g]? = some (.cells L t fz) ∧ l.length ≤ L.size ∧ ∀ i, i < l.length → L[i]? = (l.map B)[i]?
theorem Apt.clip {w : World} {base : Nat} {g : Nat} {n cap : Nat} {l : List UInt8} (h : w.ownsRow base 5 1 (.slice (some ⟨g, 0, none⟩) n cap) l.length (l.map B)) : Apt w base (.slice (some ⟨g, 0, none⟩) n n) l := by
  rcases h.2 with ⟨h, _⟩ | ⟨g', cap', cur, hv, hb, hg, hc, hm, hs, ht⟩
  · cases h
  · simp at hv
    obtain ⟨rfl, rfl, rfl⟩ := hv
    refine .inr ⟨g, cur, _, _, rfl, hb, hg, by omega, fun i hi => ?_⟩
    have : (cur.toList.take (l.length * 1))[i]? = (l.map B)[i]? := by rw [ht]
    rw [List.getElem?_take, if_pos (by omega)] at this
    simpa using this
theorem run_apt_one (W : World) (base : Nat) (v : Value) (l : List UInt8) (h : Apt W base v l) (c : UInt8) (hl : l.length + 1 ≤ 140737488355328) (hbase : base ≤ W.heap.size) :
    ∃ v' w', (AP #[48, 48] 48 #[v, .slice (some ⟨W.heap.size, 0, none⟩) 1 1]).run Tryz.prog (W.alloc (.cells #[B c] 5)) = .ok v' w' ∧ w'.ownsRow base 5 1 v' (l ++ [c]).length ((l ++ [c]).map B) ∧ Below base W w' := by
  obtain ⟨i0, hi, hz0, hz1, hz2⟩ := info_parts infoU8
  have hlen : (l ++ [c]).length = l.length + 1 := by simp
  have hmap : (l ++ [c]).map B = l.map B ++ [B c] := by simp
  rw [hlen, hmap]
  rcases h with h | ⟨g, L, t, fz, rfl, hb, hg, hL, hc⟩
  · obtain ⟨v', w', hr, h1, h2⟩ := run_append_one (P := Tryz.prog) W base 48 5 Tryz.underlying48 hi hz0 hz1 hz2 rfl (by decide) v _ _ h #[B c] rfl (by simp [Value.oneCell', B]) (by unfold maxLen; omega) (by omega) hbase
    exact ⟨v', w', hr, h1, ((kept_alloc _ _).mono hbase).trans (Below.grownOwn (h.alloc _) h2 (by simp; omega) (Nat.le_refl _))⟩
  · have hg2 : (W.alloc (.cells #[B c] 5)).heap[g]? = some (.cells L t fz) := (Below.heap_alloc W _ g (lt_of_block hg)).trans hg
    obtain ⟨v', w', hr, h1, h2⟩ := run_append_arg_grows (P := Tryz.prog) (W.alloc (.cells #[B c] 5)) 48 48 5 i0 _ 1 1 Tryz.underlying48 hi hz0 hz1 hz2 rfl (by decide) ⟨g, 0, none⟩ l.length l.length (l.map B) (by simp)
      (fun j u hj => by
        have hjl : j < l.length := by have := (List.getElem?_eq_some_iff.1 hj).1; simpa using this
        rw [Addr.add_lit, cell_of_row _ g (0 + j) L t fz hg2, Nat.zero_add, hc j hjl, hj])
      ⟨W.heap.size, 0, none⟩ 1 1 [B c] rfl
      (fun j u hj => by
        have h0 : j = 0 := by have := (List.getElem?_eq_some_iff.1 hj).1; simp at this; omega
        subst h0
        simp at hj
        rw [Addr.add_lit]
        have h2 := (Blk.new W #[B c] 5).cell 0
        rw [← hj]; exact h2)
      (by omega) (by unfold maxLen; omega) (by omega)
    exact ⟨v', w', hr, own_base h1 (by simp; omega), ((kept_alloc _ _).mono hbase).trans ((Below.refl base _).grown h2 (by simp; omega) (fun q hq => by cases hq))⟩
theorem Apt.kept {w w' : World} {base : Nat} {v : Value} {l : List UInt8} (h : Apt w base v l) (hb : Below w.heap.size w w') : Apt w' base v l := by
  rcases h with h | ⟨g, L, t, fz, hv, hg, hL, rest⟩
  · exact .inl (own_below h hb)
  · exact .inr ⟨g, L, t, fz, hv, hg, (hb.block g (lt_of_block hL)).trans hL, rest⟩
theorem Apt.shape {w : World} {base : Nat} {v : Value} {l : List UInt8} (h : Apt w base v l) : ∃ a cap, v = .slice a l.length cap := by
  rcases h with h | ⟨g, L, t, fz, hv, _⟩
  · rcases h.2 with ⟨rfl, h0⟩ | ⟨g, cap, cur, rfl, _⟩
    · exact ⟨none, 0, by rw [h0]⟩
    · exact ⟨_, _, rfl⟩
  · exact ⟨_, _, hv⟩

theorem or128 (n : Nat) (h : n < 256) : n ||| 128 = n % 128 + 128 := by
  have : ∀ a : Fin 256, a.val ||| 128 = a.val % 128 + 128 := by decide
  exact this ⟨n, h⟩
theorem clip_any (w : World) (base : Nat) (v : Value) (l : List UInt8) (h : w.ownsRow base 5 1 v l.length (l.map B)) :
    Calls Tryz.prog 122 #[v] w fun e w' => (∃ r, e = .returned r ∧ Apt w base r l) ∧ w' = w := by
  rcases h.2 with ⟨rfl, h0⟩ | ⟨g, cap, cur, rfl, hb, hg, hc, hm, hs, ht⟩
  · have Ha := Lib.hid (show Apt w base (.slice none 0 0) l from .inl h)
    clear h h0
    go_enter Tryz.func122, Tryz.ntmps122
    go_wp2_with fail
    go_ret
    exact ⟨⟨_, rfl, Ha.out⟩, rfl⟩
  · have Ha := Lib.hid (Apt.clip h)
    obtain ⟨n, hn⟩ : ∃ n, l.length = n := ⟨_, rfl⟩
    have Hn := Lib.hid hn
    rw [hn] at hc ⊢
    have Ha2 := Lib.hid (show Apt w base (.slice (some ⟨g, 0, none⟩) n n) l by rw [← Hn.out]; exact Ha.out)
    clear h hg hs ht hn Ha
    unfold maxLen at hm
    go_enter Tryz.func122, Tryz.ntmps122
    go_wp2_with fail
    go_ret
    exact ⟨⟨_, rfl, Ha2.out⟩, rfl⟩

set_option maxRecDepth 100000 in
set_option maxHeartbeats 1500000 in
theorem putUint_any (w : World) (F : Blks) (v : Value) (l : List UInt8) (hv : Bytes F w v l) (n : Nat) (hn : n < 18446744073709551616) (hl : l.length ≤ 1000000000000) :
    Calls Tryz.prog 91 #[v, .int .u64 (n : Int)] w fun e w' => (∃ r, e = .returned r ∧ w'.ownsRow w.heap.size 5 1 r (l ++ uvar n).length ((l ++ uvar n).map B)) ∧ Below w.heap.size w w' := by
  have HC := Lib.hid (clone_any w F v l hv (by omega))
  obtain ⟨a, cap, rfl, -⟩ := hv
  go_enter Tryz.func91, Tryz.ntmps91
  go_wp2_with fail
  refine HC.out.mono ?_
  rintro e w1 ⟨r1, rfl, ho1, hb1⟩
  have HCl := Lib.hid (clip_any w1 w.heap.size r1 l ho1)
  have Hb1 := Lib.hid hb1
  clear HC ho1 hb1
  go_wp2_with fail
  refine HCl.out.mono ?_
  rintro e w2 ⟨⟨r2, rfl, ha2⟩, rfl⟩
  obtain ⟨a2, c2, rfl⟩ := ha2.shape
  have Ha2 := Lib.hid ha2
  clear HCl ha2
  go_wp2_with fail
  go_loopg [0, 1] n (fun k s0 s1 wr => ∃ (m : Nat) (pre : List UInt8), s1 = .int .u64 (m : Int) ∧ m ≤ n ∧ m ≤ k ∧ Apt wr w.heap.size s0 (l ++ pre) ∧ pre.length ≤ 10 ∧ pre ++ uvar m = uvar n ∧ Below w.heap.size w wr)
  case atStart => exact ⟨n, [], rfl, Nat.le_refl _, Nat.le_refl _, by simpa using Ha2.out, by simp, rfl, Hb1.out⟩
  case round =>
    obtain ⟨m, pre, rfl, hmn, hmk, ha, hp, hu, hb⟩ := hrel
    have hul := uvar_len n
    obtain ⟨ar, cr, rfl⟩ := ha.shape
    obtain ⟨N, hN⟩ : ∃ N, (l ++ pre).length = N := ⟨_, rfl⟩
    rw [hN] at ha ⊢
    have HN := Lib.hid hN
    clear hN
    have Hu := Lib.hid hu; have Hb := Lib.hid hb
    clear hu hb
    by_cases hge : 128 ≤ m
    · have hgI : (128 : Int) ≤ (m : Int) := by omega
      obtain ⟨c8, hc8⟩ : ∃ c8, c8 = m % 256 := ⟨_, rfl⟩
      obtain ⟨d8, hd8⟩ : ∃ d8, d8 = m % 128 + 128 := ⟨_, rfl⟩
      obtain ⟨q, hq⟩ : ∃ q, q = m / 128 := ⟨_, rfl⟩
      have hw8 : IntKind.u8.wrap (m : Int) = (c8 : Int) := by rw [hc8]; simp [IntKind.wrap, IntKind.bits, IntKind.signed]
      have hor : bits .or .u8 (c8 : Int) 128 = (d8 : Int) := by
        have h1 := u8_or_nat c8 128 (by omega) (by omega)
        rw [or128 c8 (by omega)] at h1
        rw [show (d8 : Nat) = c8 % 128 + 128 by omega]
        exact h1
      have hsh : (m : Int) / 128 = (q : Int) := by omega
      have hby : (UInt8.ofNat d8).toNat = d8 := by
        rw [UInt8.toNat_ofNat']; omega
      obtain ⟨v', w', hr, ho, hb2⟩ := run_apt_one wr w.heap.size _ _ ha (UInt8.ofNat d8) (by rw [HN.out, ← HN.out, List.length_append]; omega) Hb.out.size
      unfold B at hr
      rw [hby] at hr
      obtain ⟨av, cv, rfl⟩ := (show Apt w' w.heap.size v' ((l ++ pre) ++ [UInt8.ofNat d8]) from .inl ho).shape
      obtain ⟨N1, hN1⟩ : ∃ N1, ((l ++ pre) ++ [UInt8.ofNat d8]).length = N1 := ⟨_, rfl⟩
      rw [hN1] at hr
      have Ho := Lib.hid (show w'.ownsRow w.heap.size 5 1 (.slice av N1 cv) ((l ++ pre) ++ [UInt8.ofNat d8]).length (((l ++ pre) ++ [UInt8.ofNat d8]).map B) by rw [← hN1]; exact ho); have Hb2 := Lib.hid hb2; have HN1 := Lib.hid hN1
      have Hd8 := Lib.hid hd8; have Hq := Lib.hid hq
      clear ho hN1 hb2 hc8 hd8 hq hby ha
      go_wp2_with fail
      go_roundg q
      case measure => have := Hq.out; omega
      case rel =>
        refine ⟨q, pre ++ [UInt8.ofNat d8], rfl, by have := Hq.out; omega, Nat.le_refl _, .inl (by rw [← List.append_assoc]; exact Ho.out), ?_, ?_, Hb.out.trans Hb2.out⟩
        · have h1 := congrArg List.length Hu.out
          have h2 := uvar_pos q
          rw [uvar_step m (by omega) (by omega), ← Hq.out] at h1
          simp at h1 ⊢
          omega
        · have h1 := Hu.out
          rw [uvar_step m (by omega) (by omega), ← Hq.out, ← Hd8.out] at h1
          simpa [List.append_assoc] using h1
    · have hgI : ¬ (128 : Int) ≤ (m : Int) := by omega
      have hw8 : IntKind.u8.wrap (m : Int) = (m : Int) := IntWalk.u8_in _ (by omega)
      have hby : (UInt8.ofNat m).toNat = m := by
        rw [UInt8.toNat_ofNat']; omega
      obtain ⟨v', w', hr, ho, hb2⟩ := run_apt_one wr w.heap.size _ _ ha (UInt8.ofNat m) (by rw [HN.out, ← HN.out, List.length_append]; omega) Hb.out.size
      unfold B at hr
      rw [hby] at hr
      obtain ⟨av, cv, rfl⟩ := (show Apt w' w.heap.size v' ((l ++ pre) ++ [UInt8.ofNat m]) from .inl ho).shape
      obtain ⟨N1, hN1⟩ : ∃ N1, ((l ++ pre) ++ [UInt8.ofNat m]).length = N1 := ⟨_, rfl⟩
      rw [hN1] at hr
      have Ho := Lib.hid (show w'.ownsRow w.heap.size 5 1 (.slice av N1 cv) ((l ++ pre) ++ [UInt8.ofNat m]).length (((l ++ pre) ++ [UInt8.ofNat m]).map B) by rw [← hN1]; exact ho); have Hb2 := Lib.hid hb2; have HN1 := Lib.hid hN1
      clear ho hN1 hb2 hby ha
      go_wp2_with fail
      go_ret
      refine ⟨⟨_, rfl, ?_⟩, Hb.out.trans Hb2.out⟩
      have h1 := Hu.out
      rw [uvar_small m (by omega)] at h1
      have h2 := Ho.out
      rw [List.append_assoc, h1] at h2
      simpa using h2
end Go.Proofs.YtbjkkmabafaogaaGreatDoor
