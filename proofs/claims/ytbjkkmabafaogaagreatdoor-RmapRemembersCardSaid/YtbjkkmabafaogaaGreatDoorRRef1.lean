/- The reference: allowed, put, bury. -/
import Derived.Test.YtbjkkmabafaogaaGreatDoorRRefF
import Derived.Test.YtbjkkmabafaogaaGreatDoorRUse
namespace Go.Proofs.YtbjkkmabafaogaaGreatDoor
open Go.RowKit
set_option linter.unusedVariables false
set_option maxRecDepth 20000
attribute [local go_sem ↓] seal_append
attribute [local go_sem] opC upC

set_option maxRecDepth 100000 in
set_option maxHeartbeats 3000000 in
theorem rallowed_any (w : World) (F : Blks) (v : Value) (d : Int) (l : List RKey) (hv : Rows F w 1 v l.length (l.map eS)) (hl : l.length ≤ 1000000) (hk : ∀ k ∈ l, k.length ≤ 1000000000) :
    Calls Tryz.prog 60 #[.int .i64 d, v] w fun e w' => e = .returned (.bool (allowedR d l)) ∧ Below w.heap.size w w' := by
  obtain ⟨ok, hok⟩ : ∃ ok, allowedR d l = ok := ⟨_, rfl⟩
  rw [hok]
  obtain ⟨n, hn⟩ : ∃ n, l.length = n := ⟨_, rfl⟩
  obtain ⟨a, cap, rfl, -⟩ := hv.shape
  have Hv := Lib.hid hv
  rw [hn] at hl ⊢
  have Hok := Lib.hid hok; have Hn := Lib.hid hn; have Hk := Lib.hid hk
  have H0 := Lib.hid (show Below w.heap.size w w from Below.refl _ _)
  clear hok hn hv hk
  go_enter Tryz.func60, Tryz.ntmps60
  by_cases hd0 : d < 0
  ·
    obtain rfl : ok = false := by
      rw [← Hok.out]
      cases hv : allowedR d l with
      | false => rfl
      | true =>
        have ha := (allowed_iff d l).1 hv
        exact (absurd ha.lo (by omega))
    go_wp2_with fail
    go_ret
    exact ⟨rfl, H0.out⟩
  by_cases hd8 : d ≥ 8
  ·
    obtain rfl : ok = false := by
      rw [← Hok.out]
      cases hv : allowedR d l with
      | false => rfl
      | true =>
        have ha := (allowed_iff d l).1 hv
        exact (absurd ha.hi (by omega))
    go_wp2_with fail
    go_ret
    exact ⟨rfl, H0.out⟩
  go_wp2_with fail
  go_loopw [5] (fun i wr => ∃ k : Nat, k ≤ n ∧ i = .int .i64 (k : Int) ∧ Below w.heap.size w wr ∧ (∀ j (hj : j < l.length), j < k → keyOk l[j] = true) ∧ ∀ i j (hi : i < l.length) (hj : j < l.length), i < j → j < k → l[i] ≠ l[j]) (fun i _ => n - (intOf i).toNat)
  case atStart => exact ⟨0, by omega, rfl, H0.out, fun j _ hj => by omega, fun i j _ _ _ hj => by omega⟩
  case round =>
    obtain ⟨k, hkn0, rfl, hbw, hall, hnd⟩ := hrel
    have Hbw := Lib.hid hbw; have Hall := Lib.hid hall; have Hnd := Lib.hid hnd
    clear hbw hall hnd
    by_cases hkn : k < n
    · have hkI : (k : Int) < (n : Int) := by omega
      have hkl : k < l.length := by rw [Hn.out]; exact hkn
      go_wp2_with fail
      go_loopw [6] (fun i wq => ∃ j : Nat, j ≤ k ∧ i = .int .i64 (j : Int) ∧ Below w.heap.size w wq ∧ ∀ i (hi : i < l.length), i < j → l[i] ≠ l[k]) (fun i _ => k - (intOf i).toNat)
      case atStart => exact ⟨0, by omega, rfl, Hbw.out, fun i _ hi => by omega⟩
      case round =>
        rename World => wq
        obtain ⟨j, hjk, rfl, hbq, hne⟩ := hrel
        have Hbq := Lib.hid hbq; have Hne := Lib.hid hne
        clear hbq hne
        have hm := Hv.out.keep (w' := wq) fun b _ hlt => Hbq.out.block b hlt
        obtain ⟨b, off, rfl, -, -, hc⟩ := str_cell hm (by omega)
        have e0 := hc k hkl
        obtain ⟨x, hx⟩ : ∃ x, l[k] = x := ⟨_, rfl⟩
        rw [hx] at e0
        have Hx := Lib.hid hx
        by_cases hjn : j < k
        · have hjI : (j : Int) < (k : Int) := by omega
          have hjn' : (j : Int) < (n : Int) := by omega
          have hjl : j < l.length := by omega
          have g0 := hc j hjl
          obtain ⟨y, hy⟩ : ∃ y, l[j] = y := ⟨_, rfl⟩
          rw [hy] at g0
          have Hy := Lib.hid hy
          clear hc hm hx hy
          by_cases he : y = x
          · have he' : (y == x) = true := by simpa using he
            obtain rfl : ok = false := by
              rw [← Hok.out]
              cases hv : allowedR d l with
              | false => rfl
              | true =>
                have ha := (allowed_iff d l).1 hv
                exact (absurd (List.nodup_iff_pairwise_ne.1 ha.nodup) (fun hp => (List.pairwise_iff_getElem.1 hp j k hjl hkl hjn) (by rw [Hx.out, Hy.out]; exact he)))
            clear he
            go_wp2_with fail
            go_quiet (fail)
            go_wp2_with fail
            go_ret
            exact ⟨rfl, kept_drewN Hbq.out _⟩
          · have he' : (y == x) = false := by simpa using he
            have He := Lib.hid he
            clear he
            go_wp2_with fail
            go_quiet (fail)
            go_wp2_with fail
            go_roundw
            case rel => exact ⟨j + 1, by omega, by go_num, kept_drewN Hbq.out _, fun i hi hij => by
              rcases Nat.lt_succ_iff_lt_or_eq.1 hij with h | h
              · exact Hne.out i hi h
              · subst h; rw [Hx.out, Hy.out]; exact He.out⟩
            case measure => simp [intOf]; omega
        · have hjI : ¬ (j : Int) < (k : Int) := by omega
          have hjk' : j = k := by omega
          have Hne' := Lib.hid (show ∀ i (hi : i < l.length), i < k → l[i] ≠ l[k] by have := Hne.out; rw [hjk'] at this; exact this)
          have V := Lib.hid (rkeyValid_any wq x (Hk.out x (by rw [← hx]; exact List.getElem_mem hkl)))
          obtain ⟨kk, hkk⟩ : ∃ kk, keyOk x = kk := ⟨_, rfl⟩
          rw [hkk] at V
          have Hkk := Lib.hid hkk
          clear hc hm hx hjk' hkk
          go_wp2_with fail
          refine V.out.mono ?_
          rintro e w1 ⟨rfl, hb1⟩
          have Hb1 := Lib.hid (Hbq.out.trans (hb1.mono Hbq.out.size))
          clear V hb1
          cases kk with
          | false =>
            obtain rfl : ok = false := by
              rw [← Hok.out]
              cases hv : allowedR d l with
              | false => rfl
              | true =>
                have ha := (allowed_iff d l).1 hv
                exact (absurd (ha.keys x (by rw [← Hx.out]; exact List.getElem_mem hkl)) (by rw [Hkk.out]; exact Bool.false_ne_true))
            go_wp2_with fail
            go_ret
            exact ⟨rfl, Hb1.out⟩
          | true =>
            go_wp2_with fail
            go_roundw
            case rel => exact ⟨k + 1, by omega, by go_num, Hb1.out, fun j hj hjk => by
              rcases Nat.lt_succ_iff_lt_or_eq.1 hjk with h | h
              · exact Hall.out j hj h
              · subst h; rw [Hx.out]; exact Hkk.out, fun i j hi hj hij hjk => by
              rcases Nat.lt_succ_iff_lt_or_eq.1 hjk with h | h
              · exact Hnd.out i j hi hj hij h
              · subst h; exact Hne'.out i hi hij⟩
            case measure => simp [intOf]; omega
    · have hkI : ¬ (k : Int) < (n : Int) := by omega
      obtain rfl : ok = true := by
        rw [← Hok.out, allowed_iff]
        refine ⟨by omega, by omega, ?_, fun x hx => ?_⟩
        · rw [List.nodup_iff_pairwise_ne, List.pairwise_iff_getElem]
          intro i j hi hj hij
          exact Hnd.out i j hi hj hij (by rw [Hn.out] at hj; omega)
        · obtain ⟨j, hj, rfl⟩ := List.mem_iff_getElem.1 hx
          exact Hall.out j hj (by rw [Hn.out] at hj; omega)
      go_wp2_with fail
      go_ret
      exact ⟨rfl, Hbw.out⟩
end Go.Proofs.YtbjkkmabafaogaaGreatDoor
