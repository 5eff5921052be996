/-
  RRef1 RRef2 RRef4 SRef1 SRef2 RItem RRef5
-/
import Derived.Test.YtkkacnfpdafadaaGreatDoorQ38
import Derived.Test.YtkkacnfpdafadaaGreatDoorQ21
import Derived.Test.YtkkacnfpdafadaaGreatDoorQ27
namespace Go.Proofs.YtkkacnfpdafadaaGreatDoor
open Go.RowKit
set_option linter.unusedVariables false
set_option maxRecDepth 20000
attribute [local go_sem ↓] seal_append
attribute [local go_sem] opC upC

end Go.Proofs.YtkkacnfpdafadaaGreatDoor

namespace Go.Proofs.YtkkacnfpdafadaaGreatDoor
open Go.RowKit
set_option linter.unusedVariables false
set_option maxRecDepth 20000
attribute [local go_sem ↓] seal_append
attribute [local go_sem] opC upC

end Go.Proofs.YtkkacnfpdafadaaGreatDoor

namespace Go.Proofs.YtkkacnfpdafadaaGreatDoor
open Go.RowKit
set_option linter.unusedVariables false
set_option maxRecDepth 20000
attribute [local go_sem ↓] seal_append

structure RefIn (w : World) (base : Nat) (s1 s2 s3 : Value) (m : RMap) : Prop where
  seen : w.ownsRow base 3 1 s1 m.seen.length (m.seen.map eI)
  items : w.ownsRow base 92 4 s2 m.items.length (m.items.flatMap encIt)
  gone : w.ownsRow base 94 3 s3 m.gone.length (m.gone.flatMap encGo)
theorem RefIn.map {w : World} {base : Nat} {s1 s2 s3 : Value} {m : RMap} (h : RefIn w base s1 s2 s3 m) (hb : Bnd m) : MapIn (fun b => base ≤ b) w s1 s2 s3 m :=
  ⟨(Rows.of_owns h.seen).mono (fun b h _ => h.1), (Rows.of_owns h.items).mono (fun b h _ => h.1), (Rows.of_owns h.gone).mono (fun b h _ => h.1), hb.seenB, hb.itemsB, hb.goneB⟩
theorem RefIn.below {w w' : World} {base : Nat} {s1 s2 s3 : Value} {m : RMap} (h : RefIn w base s1 s2 s3 m) (hb : Below w.heap.size w w') : RefIn w' base s1 s2 s3 m :=
  ⟨own_below h.seen hb, own_below h.items hb, own_below h.gone hb⟩
theorem RefIn.mono {w : World} {base base' : Nat} {s1 s2 s3 : Value} {m : RMap} (h : RefIn w base s1 s2 s3 m) (hb : base' ≤ base) : RefIn w base' s1 s2 s3 m :=
  ⟨own_base h.seen hb, own_base h.items hb, own_base h.gone hb⟩
theorem RefIn.setCell {w : World} {base b i : Nat} {s1 s2 s3 : Value} {m : RMap} {L : List Value} (h : RefIn w base s1 s2 s3 m) (hb : Blk w b L 26) (u : Value) : RefIn (w.setCell ⟨b, i, none⟩ u) base s1 s2 s3 m :=
  ⟨own_setCell h.seen hb (by decide) u, own_setCell h.items hb (by decide) u, own_setCell h.gone hb (by decide) u⟩

end Go.Proofs.YtkkacnfpdafadaaGreatDoor
/- The reference: Use. -/
namespace Go.Proofs.YtkkacnfpdafadaaGreatDoor
open Go.RowKit
set_option linter.unusedVariables false
set_option maxRecDepth 20000
attribute [local go_sem ↓] seal_append
attribute [local go_sem] opC upC

end Go.Proofs.YtkkacnfpdafadaaGreatDoor

namespace Go.Proofs.YtkkacnfpdafadaaGreatDoor
open Go.RowKit
set_option linter.unusedVariables false
set_option maxRecDepth 20000
attribute [local go_sem ↓] seal_append
attribute [local go_sem] opC upC

set_option maxHeartbeats 1500000 in
theorem rknow_any (w : World) (F : Blks) (v : Value) (l : List Int) (hv : Rows F w 1 v l.length (l.map eI)) :
    Calls Tryz.prog 46 #[v] w fun e w' => e = .returned (.bool (knowsR l)) ∧ w' = w := by
  obtain ⟨n, hn⟩ : ∃ n, l.length = n := ⟨_, rfl⟩
  obtain ⟨a, cap, rfl, -⟩ := hv.shape
  have hl := hv.len
  unfold maxLen at hl
  have Hv := Lib.hid hv
  rw [hn] at hl ⊢
  have Hn := Lib.hid hn
  clear hv hn
  go_enter Tryz.func46, Tryz.ntmps46
  go_wp2_with fail
  go_loop [3] (fun i => ∃ k : Nat, k ≤ n ∧ i = .int .i64 (k : Int) ∧ ∀ j (hj : j < l.length), j < k → seenOk l[j] = true) (fun i => n - (intOf i).toNat)
  case atStart => exact ⟨0, by omega, rfl, fun j _ hj => by omega⟩
  case round =>
    obtain ⟨k, hk, rfl, hall⟩ := hrel
    have Hall := Lib.hid hall
    clear hall
    by_cases hkn : k < n
    · have hkI : (k : Int) < (n : Int) := by omega
      have hkl : k < l.length := by rw [Hn.out]; exact hkn
      obtain ⟨b, off, rfl, -, -, hc⟩ := int_cell Hv.out (by omega)
      have e0 := hc k hkl
      obtain ⟨x, hx⟩ : ∃ x, l[k] = x := ⟨_, rfl⟩
      rw [hx] at e0
      have Hx := Lib.hid hx
      clear hc hx
      by_cases h0 : x < 0
      · have d0 : decide (x < 0) = true := by simpa using h0
        have Hr := Lib.hid (show knowsR l = false by
          unfold knowsR
          rw [List.all_eq_false.2 ⟨x, by rw [← Hx.out]; exact List.getElem_mem _, by unfold seenOk; simp; omega⟩, Bool.and_false])
        go_wp2_with fail
        go_ret
        exact ⟨by rw [Hr.out]; first | done | rfl, rfl⟩
      have d0 : decide (x < 0) = false := by simpa using h0
      by_cases h1 : x > 1099511627776
      · have d1 : decide (x > 1099511627776) = true := by simpa using h1
        have Hr := Lib.hid (show knowsR l = false by
          unfold knowsR
          rw [List.all_eq_false.2 ⟨x, by rw [← Hx.out]; exact List.getElem_mem _, by unfold seenOk; simp; omega⟩, Bool.and_false])
        go_wp2_with fail
        go_ret
        exact ⟨by rw [Hr.out]; first | done | rfl, rfl⟩
      · have d1 : decide (x > 1099511627776) = false := by simpa using h1
        have Hr := Lib.hid (show seenOk x = true by unfold seenOk; simp; omega)
        go_wp2_with fail
        go_round
        case rel => exact ⟨k + 1, by omega, by go_num, fun j hj hjk => by
          rcases Nat.lt_succ_iff_lt_or_eq.1 hjk with h | h
          · exact Hall.out j hj h
          · subst h; rw [Hx.out]; exact Hr.out⟩
        case measure => simp [intOf]; omega
    · have hkI : ¬ (k : Int) < (n : Int) := by omega
      have hall : l.all seenOk = true := by
        rw [List.all_eq_true]
        intro x hx
        obtain ⟨j, hj, rfl⟩ := List.mem_iff_getElem.1 hx
        exact Hall.out j hj (by rw [Hn.out] at hj; omega)
      by_cases h8 : n = 8
      · have Hr := Lib.hid (show knowsR l = true by unfold knowsR; rw [hall, Hn.out, h8]; rfl)
        have hI : (n : Int) = 8 := by omega
        have hB : ((n : Int) == 8) = true := by simpa using hI
        clear hall
        go_wp2_with fail
        go_ret
        exact ⟨by rw [Hr.out]; first | done | rfl | simp, rfl⟩
      · have Hr := Lib.hid (show knowsR l = false by unfold knowsR; rw [Hn.out]; simp [h8])
        have hI : ¬ (n : Int) = 8 := by omega
        have hB : ((n : Int) == 8) = false := by simpa using hI
        clear hall
        go_wp2_with fail
        go_ret
        exact ⟨by rw [Hr.out]; first | done | rfl | simp, rfl⟩
structure RSt (w2 W : World) (O : Nat) (s1 s2 s3 : Value) (m : RMap) (kp : List RIt) : Prop where
  box : Blk W O [s1, s2, s3] 26
  seen : W.ownsRow w2.heap.size 3 1 s1 m.seen.length (m.seen.map eI)
  items : W.ownsRow (O + 1) 92 4 s2 kp.length (kp.flatMap encIt)
  gone : W.ownsRow w2.heap.size 94 3 s3 m.gone.length (m.gone.flatMap encGo)
  bel : Below w2.heap.size w2 W
  low : w2.heap.size ≤ O
theorem RSt.below {w2 W W' : World} {O : Nat} {s1 s2 s3 : Value} {m : RMap} {kp : List RIt} (h : RSt w2 W O s1 s2 s3 m kp) (hb : Below W.heap.size W W') : RSt w2 W' O s1 s2 s3 m kp :=
  ⟨h.box.keep (hb.block _ h.box.lt), own_below h.seen hb, own_below h.items hb, own_below h.gone hb, h.bel.trans (hb.mono h.bel.size), h.low⟩
end Go.Proofs.YtkkacnfpdafadaaGreatDoor

namespace Go.Proofs.YtkkacnfpdafadaaGreatDoor
open Go.RowKit
set_option linter.unusedVariables false
set_option maxRecDepth 20000
attribute [local go_sem ↓] seal_append
attribute [local go_sem] opC upC

end Go.Proofs.YtkkacnfpdafadaaGreatDoor

namespace Go.Proofs.YtkkacnfpdafadaaGreatDoor
open Go.RowKit
set_option linter.unusedVariables false
set_option maxRecDepth 20000

end Go.Proofs.YtkkacnfpdafadaaGreatDoor

namespace Go.Proofs.YtkkacnfpdafadaaGreatDoor
open Go.RowKit
set_option linter.unusedVariables false
set_option maxRecDepth 20000
attribute [local go_sem ↓] seal_append
attribute [local go_sem] opC upC

end Go.Proofs.YtkkacnfpdafadaaGreatDoor
