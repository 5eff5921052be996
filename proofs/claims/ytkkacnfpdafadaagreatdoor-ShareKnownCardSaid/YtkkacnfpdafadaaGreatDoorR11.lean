/-
  Str RCod
-/
import Derived.Test.YtkkacnfpdafadaaGreatDoorChecked
import Derived.Test.YtkkacnfpdafadaaGreatDoorR04
import Derived.WalkSpells
import Derived.Test.YtkkacnfpdafadaaGreatDoorR03
import Derived.Test.YtkkacnfpdafadaaGreatDoorR07
import Derived.Test.YtkkacnfpdafadaaGreatDoorR09
import Derived.Test.YtkkacnfpdafadaaGreatDoorR10
import Derived.Laws.BitsAllLaws
import Derived.Laws.Shifts
import Derived.Defers
import Derived.Recover
import Derived.WalkLawsBesides
namespace Go.Proofs.YtkkacnfpdafadaaGreatDoor
open Go.RowKit
set_option linter.unusedVariables false
set_option maxRecDepth 20000

theorem run_strB {F : Blks} {w : World} {v : Value} {l : List UInt8} (h : Bytes F w v l) : (convert 57 9 v).run Tryz.prog w = .ok (.string ⟨l.toArray⟩) w := by
  obtain ⟨a, cap, rfl, hc, hm, hz, hx⟩ := h
  cases a with
  | none =>
    have hl : l = [] := by
      rcases hx with h | ⟨b, off, L, t, fz, h, _⟩
      · exact h
      · cases h
    subst hl
    rw [run_convert_bytes_string w 57 9 5 none _ cap Tryz.underlying57 Tryz.underlying5 Tryz.underlying9]
    rfl
  | some ad =>
    refine run_convert_bytes_back w 57 9 5 ad cap l Tryz.underlying57 Tryz.underlying5 Tryz.underlying9 (fun j hj => ?_)
    rcases hx with rfl | ⟨b, off, L, t, fz, hb, hF, hg, hL, hr⟩
    · simp at hj
    · simp at hb
      subst hb
      rw [Addr.add_lit, cell_of_row w b (off + j) L t fz hg]
      exact hr j hj

end Go.Proofs.YtkkacnfpdafadaaGreatDoor

namespace Go.Proofs.YtkkacnfpdafadaaGreatDoor
open Go.RowKit
set_option linter.unusedVariables false
set_option maxRecDepth 20000
attribute [local go_sem] opC upC

def failP : List PanicEntry := [{ v := .iface 194 (.agg #[]), recovered := false }]
def CNum (w : World) (R : Nat) (sl : Value) (bl : Nat) (o : Option (Nat × List UInt8)) (e : Ending) (w' : World) : Prop :=
  (match o with
    | some (n, r) => e = .returned (.int .u64 (n : Int)) ∧ ∃ at' : Nat, at' + r.length = bl ∧ Blk w' R [sl, .int .i64 (at' : Int)] 196
    | none => e = .panicked failP) ∧ Only (fun q => q = R) w w'
theorem pow128 (f : Nat) (hf : f ≤ 9) : 2 ^ (7 * (9 - f)) = 128 ^ (9 - f) := by rw [Nat.pow_mul]
theorem drop_cons (b : List UInt8) (k : Nat) (h : k < b.length) : b.drop k = b[k] :: b.drop (k + 1) := List.drop_eq_getElem_cons h

theorem shl_fit (q sh : Nat) (hq : q < 128) (hs : sh ≤ 63) (h1 : sh = 63 → q ≤ 1) (h2 : sh = 63 ∨ sh ≤ 56) : IntKind.u64.wrap ((q : Int) * 2 ^ min sh 64) = ((q * 2 ^ sh : Nat) : Int) ∧ q * 2 ^ sh < 18446744073709551616 := by
  have hb : q * 2 ^ sh < 18446744073709551616 := by
    rcases h2 with rfl | h2
    · have := h1 rfl
      have h3 : (2 : Nat) ^ 63 = 9223372036854775808 := by decide
      rw [h3]; omega
    · have h3 : (2 : Nat) ^ sh ≤ 2 ^ 56 := Nat.pow_le_pow_right (by omega) h2
      have h4 : (2 : Nat) ^ 56 = 72057594037927936 := by decide
      have h5 : q * 2 ^ sh ≤ 127 * 2 ^ 56 := Nat.mul_le_mul (by omega) h3
      omega
  refine ⟨?_, hb⟩
  have e : (q : Int) * 2 ^ min sh 64 = ((q * 2 ^ sh : Nat) : Int) := by
    rw [show min sh 64 = sh by omega]
    push_cast
    rfl
  rw [e]
  exact IntWalk.u64_in _ (by omega)

set_option maxRecDepth 100000 in
set_option maxHeartbeats 2000000 in
theorem cnum_any (w : World) (R : Nat) (F : Blks) (av : Option Addr) (cap : Nat) (b : List UInt8) (k0 : Nat) (hR : Blk w R [.slice av b.length cap, .int .i64 (k0 : Int)] 196) (hB : Bytes F w (.slice av b.length cap) b) (hF : ∀ q, F q → q ≠ R) (hk : k0 ≤ b.length) :
    Calls Tryz.prog 128 #[.pointer (some ⟨R, 0, none⟩)] w (CNum w R (.slice av b.length cap) b.length (rdF (b.drop k0) 9)) := by
  obtain ⟨o, ho⟩ : ∃ o, rdF (b.drop k0) 9 = o := ⟨_, rfl⟩
  rw [ho]
  have Ho := Lib.hid ho
  have hbl : b.length ≤ 9223372036854775807 := by obtain ⟨-, h1, h2, -⟩ := hB.cells; unfold maxLen at h2; omega
  have HB := Lib.hid (show ∀ W, Only (fun q => q = R) w W → Bytes F W (.slice av b.length cap) b from fun W hW => hB.only hW fun q hq e => hF q hq e)
  obtain ⟨n, hn⟩ : ∃ n, b.length = n := ⟨_, rfl⟩
  rw [hn] at hR hbl hk ⊢
  have Hn := Lib.hid hn
  have HRr := Lib.hid hR
  clear hB hn ho hR
  go_enter Tryz.func128, Tryz.ntmps128
  go_wp2_with fail
  go_loopw [3, 4] (fun sv ss wr => ∃ (f k v : Nat), f ≤ 9 ∧ k ≤ n ∧ ss = .int .i64 ((7 * (9 - f) : Nat) : Int) ∧ sv = .int .u64 (v : Int) ∧ v < 128 ^ (9 - f) ∧ Blk wr R [.slice av n cap, .int .i64 (k : Int)] 196 ∧ rdF (b.drop k0) 9 = (rdF (b.drop k) f).map (fun p => (v + 128 ^ (9 - f) * p.1, p.2)) ∧ Only (fun q => q = R) w wr) (fun _ ss _ => 64 - (intOf ss).toNat)
  case atStart => exact ⟨9, k0, 0, by omega, hk, rfl, rfl, by simp, HRr.out, by cases rdF (b.drop k0) 9 <;> simp, Only.refl _ _⟩
  case round =>
    obtain ⟨f, k, v, hf, hkn0, rfl, rfl, hv, hb, hrd, ho⟩ := hrel
    have Hrd := Lib.hid hrd; have Hv := Lib.hid hv; have Hbk := Lib.hid hb; have HOn := Lib.hid ho
    obtain ⟨sh, hsh⟩ : ∃ sh, 7 * (9 - f) = sh := ⟨_, rfl⟩
    rw [hsh]
    have Hsh := Lib.hid hsh
    obtain ⟨c0, c1⟩ : wr.cell? ⟨R, 0, none⟩ = some (.slice av n cap) ∧ wr.cell? ⟨R, 1, none⟩ = some (.int .i64 (k : Int)) := ⟨by simpa using hb.cell 0, by simpa using hb.cell 1⟩
    have fr1 := hb.free 1
    have d0 : ∀ w', Later wr.drew w' → w'.cell? _ = _ := fun w' hh => laterC c0 hh
    have d1 : ∀ w', Later wr.drew w' → w'.cell? _ = _ := fun w' hh => laterC c1 hh
    clear hrd hv hb ho hsh
    by_cases hkn : k < n
    · have hkI : ¬ (n : Int) ≤ (k : Int) := by omega
      have hkI2 : (k : Int) < (n : Int) := by omega
      have hkl : k < b.length := by rw [Hn.out]; exact hkn
      obtain ⟨-, -, -, hbc⟩ := (HB.out wr HOn.out).cells
      obtain ⟨bb, ob, rfl, hFb, hblt, hcc⟩ := hbc.resolve_left (by intro e; rw [e] at hkl; simp at hkl)
      obtain ⟨c, hc⟩ : ∃ c, b[k] = c := ⟨_, rfl⟩
      have c2 := hcc k hkl
      rw [hc] at c2
      unfold B at c2
      have d2 : ∀ w', Later wr.drew w' → w'.cell? _ = _ := fun w' hh => laterC c2 hh
      have hdr := drop_cons b k hkl
      rw [hc] at hdr
      obtain ⟨m, hm⟩ : ∃ m, c.toNat = m := ⟨_, rfl⟩
      have hm256 : m < 256 := by have := c.toNat_lt; omega
      rw [hm] at d2 c2
      have Hdr := Lib.hid hdr; have Hm := Lib.hid hm
      clear hcc hc hdr hm hbc
      go_wp2_with fail
      refine wp_region_can Later [(0, true), (1, true), (2, true), (3, true), (4, true), (5, true), (6, true), (7, true), (8, true), (9, true)] (by kernel_rfl) (by kernel_rfl) later_refl later_trans ?_
      repeat (refine can_yes (v := ?_) rfl (wanted_none rfl) (fun w' hC => ?_) (fun K hK => ?_); rotate_left; (focus (go_simp; (try simp (disch := omega) only [IntWalk.i64_in]); first | done | exact rfl)); go_simp; (try simp (disch := omega) only [IntWalk.i64_in]); refine hK _ ?_; clear hK K)
      refine can_nil ?_
      clear d0 d1 d2
      obtain ⟨w8, hw8⟩ : ∃ w8, w8 = wr.drew := ⟨_, rfl⟩
      have d0 : ∀ w', Later w8.drew w' → w'.cell? _ = _ := fun w' hh => laterC (w := w8) (by rw [hw8]; exact c0) hh
      have d1 : ∀ w', Later w8.drew w' → w'.cell? _ = _ := fun w' hh => laterC (w := w8) (by rw [hw8]; exact c1) hh
      have d2 : ∀ w', Later w8.drew w' → w'.cell? _ = _ := fun w' hh => laterC (w := w8) (by rw [hw8]; exact c2) hh
      rw [← hw8]
      have HO8 := Lib.hid (show Only (fun q => q = R) w w8 by rw [hw8]; exact ⟨HOn.out.os, HOn.out.tape, HOn.out.output, HOn.out.size, HOn.out.block⟩)
      have Hb8 := Lib.hid (show Blk w8 R [.slice (some ⟨bb, ob, none⟩) n cap, .int .i64 (k : Int)] 196 by rw [hw8]; exact Hbk.out.keep rfl)
      clear hw8 c0 c1 c2 fr1
      go_wp2_with fail
      refine wp_region_can Later [(0, true), (1, true), (2, true), (3, true), (4, true), (5, true), (6, true), (7, true), (8, true), (9, true), (10, true)] (by kernel_rfl) (by kernel_rfl) later_refl later_trans ?_
      repeat (refine can_yes (v := ?_) rfl (wanted_none rfl) (fun w' hC => ?_) (fun K hK => ?_); rotate_left; (focus (go_simp; (try simp (disch := omega) only [IntWalk.i64_in]); first | done | exact rfl)); go_simp; (try simp (disch := omega) only [IntWalk.i64_in]); refine hK _ ?_; clear hK K)
      refine can_nil ?_
      clear d0 d1 d2
      obtain ⟨w9, hw9⟩ : ∃ w9, w9 = w8.drew := ⟨_, rfl⟩
      rw [← hw9]
      have HO9 := Lib.hid (show Only (fun q => q = R) w w9 by rw [hw9]; exact ⟨HO8.out.os, HO8.out.tape, HO8.out.output, HO8.out.size, HO8.out.block⟩)
      have hb9 : Blk w9 R [.slice (some ⟨bb, ob, none⟩) n cap, .int .i64 (k : Int)] 196 := by rw [hw9]; exact Hb8.out.keep rfl
      obtain ⟨c0, c1⟩ : w9.cell? ⟨R, 0, none⟩ = some (.slice (some ⟨bb, ob, none⟩) n cap) ∧ w9.cell? ⟨R, 1, none⟩ = some (.int .i64 (k : Int)) := ⟨by simpa using hb9.cell 0, by simpa using hb9.cell 1⟩
      have fr1 := hb9.free 1
      have Hb9 := Lib.hid hb9
      have hshv : sh = 7 * (9 - f) := Hsh.out.symm
      clear hw9 hb9
      by_cases hA : (f = 0 ∧ 1 < m) ∨ (f < 9 ∧ m = 0)
      · obtain rfl : o = none := by
          rw [← Ho.out, Hrd.out, Hdr.out, rdF_bad (by rw [Hm.out]; exact hA)]; rfl
        rcases hA with ⟨hA1, hA2⟩ | ⟨hA1, hA2⟩
        · have e1 : ((sh : Int) == 63) = true := by simp; omega
          have e1' : (sh : Int) = 63 := by omega
          have e2 : (1 : Int) < (m : Int) := by omega
          go_wp2_with fail
          exact ⟨rfl, rfl, HO9.out⟩
        · have e2 : ¬ (1 : Int) < (m : Int) := by omega
          have e3 : (0 : Int) < (sh : Int) := by omega
          have e4 : ((m : Int) == 0) = true := by simp; omega
          have e4' : (m : Int) = 0 := by omega
          by_cases e0 : sh = 63
          · have e1 : ((sh : Int) == 63) = true := by simp; omega
            have e1' : (sh : Int) = 63 := by omega
            go_wp2_with fail
            exact ⟨rfl, rfl, HO9.out⟩
          · have e1 : ((sh : Int) == 63) = false := by simp; omega
            have e1' : ¬ (sh : Int) = 63 := by omega
            go_wp2_with fail
            exact ⟨rfl, rfl, HO9.out⟩
      · have hA1 : f = 0 → m ≤ 1 := fun h => by omega
        have hA2 : f < 9 → m ≠ 0 := fun h h0 => hA (.inr ⟨h, h0⟩)
        obtain ⟨q, hq⟩ : ∃ q, m % 128 = q := ⟨_, rfl⟩
        have hband : bits .and .u8 (m : Int) 127 = (q : Int) := by
          rw [← hq, ← nat_mask7]
          exact u8_and_nat m 127 hm256 (by omega)
        have Hq := Lib.hid hq
        clear hq
        have hw0 : IntKind.u64.wrap (q : Int) = (q : Int) := IntWalk.u64_in _ (by have := Hq.out; omega)
        obtain ⟨nv, hnv⟩ : ∃ nv, v + q * 2 ^ sh = nv := ⟨_, rfl⟩
        have hq63 : sh = 63 → q ≤ 1 := fun h => by have := hA1 (by omega); have := Hq.out; omega
        have hv2 : v < 2 ^ sh := by have := Hv.out; rw [← pow128 f hf, Hsh.out] at this; exact this
        obtain ⟨hsl, hsb⟩ := shl_fit q sh (by have := Hq.out; omega) (by omega) (fun h => hq63 h) (by omega)
        have hor : bits .or .u64 (v : Int) (IntKind.u64.wrap ((q : Int) * 2 ^ min sh 64)) = (nv : Int) := by
          rw [hsl, ← hnv]
          have h1 : v < 18446744073709551616 := Nat.lt_of_lt_of_le hv2 (Nat.le_trans (Nat.pow_le_pow_right (by omega) (show sh ≤ 63 by omega)) (by decide))
          rw [u64_or_nat v (q * 2 ^ sh) h1 hsb, Nat.or_comm, nat_join sh (q * 2 ^ sh) v (by simp) hv2, Nat.add_comm]
        have hor2 : bits .or .u64 (v : Int) (IntKind.u64.wrap ((q : Int) * 2 ^ sh)) = (nv : Int) := by
          have h := hor
          rw [show min sh 64 = sh by omega] at h
          exact h
        have HNv := Lib.hid hnv
        clear hnv hsl hsb hv2
        obtain ⟨w10, hw10⟩ : ∃ w10, w10 = w9.setCell ⟨R, 1, none⟩ (.int .i64 ((k : Int) + 1)) := ⟨_, rfl⟩
        have Hb10 := Lib.hid (show Blk w10 R [.slice (some ⟨bb, ob, none⟩) n cap, .int .i64 (((k + 1 : Nat)) : Int)] 196 by rw [hw10]; exact Hb9.out.set 1 _)
        have HO10 := Lib.hid (show Only (fun q => q = R) w w10 by rw [hw10]; exact HO9.out.setCell (.inl rfl) _)
        have Hw10 := Lib.hid hw10
        clear hw10
        by_cases h128 : m < 128
        · have h128I : (m : Int) < 128 := by omega
          have Hfin := Lib.hid (show o = some (nv, b.drop (k + 1)) by
            rw [← Ho.out, Hrd.out, Hdr.out, rdF_end (by rw [Hm.out]; exact hA) (by rw [Hm.out]; exact h128), Hm.out, Option.map_some]
            congr 2
            rw [← HNv.out, ← Hsh.out, pow128 f hf, ← Hq.out, Nat.mod_eq_of_lt h128, Nat.mul_comm])
          by_cases e0 : sh = 63
          · have e1 : ((sh : Int) == 63) = true := by simp; omega
            have e2 : ¬ (1 : Int) < (m : Int) := by have := hA1 (by omega); omega
            have e3I : (0 : Int) < (sh : Int) := by omega
            have e4 : ((m : Int) == 0) = false := by have := hA2 (by omega); simp; omega
            have e4' : ¬ (m : Int) = 0 := by have := hA2 (by omega); omega
            clear hshv hA hA1 hA2 e0 hq63
            go_wp2_with fail
            rw [← Hw10.out]
            go_ret
            rw [Hfin.out]
            exact ⟨⟨rfl, k + 1, by simp [Hn.out]; omega, Hb10.out⟩, HO10.out⟩
          · have e1 : ((sh : Int) == 63) = false := by simp; omega
            have e1' : ¬ (sh : Int) = 63 := by omega
            by_cases e3 : 0 < sh
            · have e3I : (0 : Int) < (sh : Int) := by omega
              have e4 : ((m : Int) == 0) = false := by have := hA2 (by omega); simp; omega
              have e4' : ¬ (m : Int) = 0 := by have := hA2 (by omega); omega
              clear hshv hA hA1 hA2 e0 hq63
              go_wp2_with fail
              rw [← Hw10.out]
              go_ret
              rw [Hfin.out]
              exact ⟨⟨rfl, k + 1, by simp [Hn.out]; omega, Hb10.out⟩, HO10.out⟩
            · have e3I : ¬ (0 : Int) < (sh : Int) := by omega
              clear hshv hA hA1 hA2 e0 hq63
              go_wp2_with fail
              rw [← Hw10.out]
              go_ret
              rw [Hfin.out]
              exact ⟨⟨rfl, k + 1, by simp [Hn.out]; omega, Hb10.out⟩, HO10.out⟩
        · have h128I : ¬ (m : Int) < 128 := by omega
          have hf0 : f ≠ 0 := fun h => by have := hA1 h; omega
          have e1 : ((sh : Int) == 63) = false := by simp; omega
          have e1' : ¬ (sh : Int) = 63 := by omega
          have e4 : ((m : Int) == 0) = false := by simp; omega
          have e4' : ¬ (m : Int) = 0 := by omega
          have hsh7 : ((7 * (9 - (f - 1)) : Nat) : Int) = (sh : Int) + 7 := by omega
          have Hrel := Lib.hid (show nv < 128 ^ (9 - (f - 1)) ∧ rdF (b.drop k0) 9 = (rdF (b.drop (k + 1)) (f - 1)).map (fun p => (nv + 128 ^ (9 - (f - 1)) * p.1, p.2)) from by
            have hp : (128 : Nat) ^ (9 - (f - 1)) = 128 ^ (9 - f) * 128 := by rw [← Nat.pow_succ]; congr 1; omega
            have h2 := pow128 f hf
            rw [Hsh.out] at h2
            have h3 := Hv.out
            have h4 := HNv.out
            have h5 := Hq.out
            rw [h2] at h4
            constructor
            · rw [hp, ← h4]
              have : q * 128 ^ (9 - f) ≤ 127 * 128 ^ (9 - f) := Nat.mul_le_mul_right _ (by omega)
              omega
            · rw [Hrd.out, Hdr.out, rdF_go (by rw [Hm.out]; exact hA) (by rw [Hm.out]; exact h128), Option.map_map, Hm.out, h5]
              congr 1
              funext p
              simp only [Function.comp]
              rw [hp, ← h4, Nat.mul_add, Nat.mul_assoc, Nat.mul_comm q]
              congr 1
              omega)
          have Hsh7 := Lib.hid hsh7
          have hsh56 : sh ≤ 56 := by omega
          clear hsh7 hA hA1 hA2 hq63
          by_cases e3 : 0 < sh
          · have e3I : (0 : Int) < (sh : Int) := by omega
            clear hshv
            go_wp2_with fail
            rw [← Hw10.out]
            go_roundw
            case rel => exact ⟨f - 1, k + 1, nv, by omega, by omega, by rw [Hsh7.out], rfl, Hrel.out.1, Hb10.out, Hrel.out.2, HO10.out⟩
            case measure => simp [intOf]; omega
          · have e3I : ¬ (0 : Int) < (sh : Int) := by omega
            clear hshv
            go_wp2_with fail
            rw [← Hw10.out]
            go_roundw
            case rel => exact ⟨f - 1, k + 1, nv, by omega, by omega, by rw [Hsh7.out], rfl, Hrel.out.1, Hb10.out, Hrel.out.2, HO10.out⟩
            case measure => simp [intOf]; omega
    · have hkI : (n : Int) ≤ (k : Int) := by omega
      go_wp2_with fail
      refine wp_region_can Later [(0, true), (1, true), (2, true), (3, true), (4, true), (5, true), (6, true), (7, true), (8, true), (9, true)] (by kernel_rfl) (by kernel_rfl) later_refl later_trans ?_
      repeat (refine can_yes (v := ?_) rfl (wanted_none rfl) (fun w' hC => ?_) (fun K hK => ?_); rotate_left; (focus (go_simp; (try simp (disch := omega) only [IntWalk.i64_in]); first | done | exact rfl)); go_simp; (try simp (disch := omega) only [IntWalk.i64_in]); refine hK _ ?_; clear hK K)
      refine can_nil ?_
      obtain rfl : o = none := by
        rw [← Ho.out, Hrd.out, List.drop_eq_nil_of_le (by rw [Hn.out]; omega), rdF_nil]; rfl
      have HO9 := Lib.hid (show Only (fun q => q = R) w wr.drew from ⟨HOn.out.os, HOn.out.tape, HOn.out.output, HOn.out.size, HOn.out.block⟩)
      go_wp2_with fail
      exact ⟨rfl, rfl, HO9.out⟩
end Go.Proofs.YtkkacnfpdafadaaGreatDoor
