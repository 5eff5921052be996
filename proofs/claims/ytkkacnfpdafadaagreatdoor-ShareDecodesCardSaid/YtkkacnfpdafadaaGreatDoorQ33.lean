/-
  RRdR
-/
import Derived.Test.YtkkacnfpdafadaaGreatDoorQ31
import Derived.Test.YtkkacnfpdafadaaGreatDoorQ12
import Derived.Test.YtkkacnfpdafadaaGreatDoorQ32
namespace Go.Proofs.YtkkacnfpdafadaaGreatDoor
open Go.RowKit Go.Lib
set_option linter.unusedVariables false
set_option maxRecDepth 20000
attribute [local go_sem ↓] seal_append
attribute [local go_sem] opC upC

theorem byte_cell {F : Blks} {w : World} {a : Option Addr} {n cap : Nat} {l : List UInt8} (h : Bytes F w (.slice a n cap) l) (h0 : 0 < l.length) :
    ∃ b off, a = some ⟨b, off, none⟩ ∧ F b ∧ b < w.heap.size ∧ ∀ i (h : i < l.length), w.cell? ⟨b, off + i, none⟩ = some (B l[i]) := by
  obtain ⟨-, -, -, h4⟩ := h.cells
  rcases h4 with h4 | h4
  · rw [h4] at h0; simp at h0
  · exact h4
def begB (b : List UInt8) (k0 : Nat) (c : List UInt8) : Bool := decide ((b.drop k0).take c.length = c)
theorem beg_step {b c : List UInt8} {k0 j : Nat} (hj : j < c.length) (hk : k0 + j < b.length) (hp : (b.drop k0).take j = c.take j) : (b.drop k0).take (j + 1) = c.take (j + 1) ↔ b[k0 + j] = c[j] := by
  have hj' : j < (b.drop k0).length := by simp; omega
  rw [List.take_succ_eq_append_getElem hj', hp, List.take_succ_eq_append_getElem hj, List.getElem_drop]
  exact ⟨fun h => (List.cons.inj (List.append_cancel_left h)).1, fun h => by rw [h]⟩
set_option maxRecDepth 100000 in
set_option maxHeartbeats 2000000 in
theorem begins_any (w : World) (F G : Blks) (av cv : Option Addr) (cap cc : Nat) (b c : List UInt8) (k0 : Nat) (hB : Bytes F w (.slice av b.length cap) b) (hC : Bytes G w (.slice cv c.length cc) c) (hk : k0 ≤ b.length) :
    Calls Tryz.prog 106 #[.slice av b.length cap, .int .i64 (k0 : Int), .slice cv c.length cc] w fun e w' => e = .returned (.bool (begB b k0 c)) ∧ Below w.heap.size w w' := by
  have hbl : b.length ≤ 9223372036854775807 := by obtain ⟨-, h1, h2, -⟩ := hB.cells; unfold maxLen at h2; omega
  have hcl : c.length ≤ 9223372036854775807 := by obtain ⟨-, h1, h2, -⟩ := hC.cells; unfold maxLen at h2; omega
  have HB := Lib.hid (show ∀ W, Below w.heap.size w W → Bytes (fun q => q < w.heap.size) W (.slice av b.length cap) b from fun W hW => by
    obtain ⟨a, cp, e, h1, h2, h3, h4⟩ := hB
    refine ⟨a, cp, e, h1, h2, h3, h4.imp id fun ⟨bb, off, L, t, fz, e1, _, e2, rest⟩ => ⟨bb, off, L, t, fz, e1, lt_of_block e2, (hW.block _ (lt_of_block e2)).trans e2, rest⟩⟩)
  have HC := Lib.hid (show ∀ W, Below w.heap.size w W → Bytes (fun q => q < w.heap.size) W (.slice cv c.length cc) c from fun W hW => by
    obtain ⟨a, cp, e, h1, h2, h3, h4⟩ := hC
    refine ⟨a, cp, e, h1, h2, h3, h4.imp id fun ⟨bb, off, L, t, fz, e1, _, e2, rest⟩ => ⟨bb, off, L, t, fz, e1, lt_of_block e2, (hW.block _ (lt_of_block e2)).trans e2, rest⟩⟩)
  obtain ⟨n, hn⟩ : ∃ n, b.length = n := ⟨_, rfl⟩
  obtain ⟨m, hm⟩ : ∃ m, c.length = m := ⟨_, rfl⟩
  have Hn := Lib.hid hn; have Hm := Lib.hid hm
  rw [hn] at hbl hk
  rw [hm] at hcl
  rw [hn, hm]
  have k0I : ¬ (k0 : Int) < 0 := by omega
  have knI : ¬ (n : Int) < (k0 : Int) := by omega
  have hw : IntKind.i64.wrap ((n : Int) - (k0 : Int)) = (n : Int) - (k0 : Int) := IntWalk.i64_in _ (by omega)
  by_cases hlen : n - k0 < m
  · have hl1 : (n : Int) - (k0 : Int) < (m : Int) := by omega
    have Hf := Lib.hid (show begB b k0 c = false by
      unfold begB
      apply decide_eq_false
      intro h
      have := congrArg List.length h
      have e1 := Hn.out; have e2 := Hm.out
      simp at this
      omega)
    clear hB hC hn hm
    go_enter Tryz.func106, Tryz.ntmps106
    go_wp2_with fail
    go_ret
    exact ⟨by rw [Hf.out]; rfl, Below.refl _ _⟩
  have hl1 : ¬ (n : Int) - (k0 : Int) < (m : Int) := by omega
  clear hB hC hn hm
  go_enter Tryz.func106, Tryz.ntmps106
  go_wp2_with fail
  go_loopw [7] (fun i wr => ∃ j : Nat, j ≤ m ∧ i = .int .i64 (j : Int) ∧ (b.drop k0).take j = c.take j ∧ Below w.heap.size w wr) (fun i _ => m - (intOf i).toNat)
  case atStart => exact ⟨0, by omega, rfl, rfl, Below.refl _ _⟩
  case round =>
    obtain ⟨j, hj, rfl, hp, hbw⟩ := hrel
    by_cases hjm : j < m
    · have hjI : (j : Int) < (m : Int) := by omega
      obtain ⟨bb, ob, rfl, -, -, hcb⟩ := byte_cell (HB.out wr hbw) (by have := Hn.out; omega)
      obtain ⟨bc, oc, rfl, -, -, hcc⟩ := byte_cell (HC.out wr hbw) (by have := Hm.out; omega)
      have e1 := hcb (k0 + j) (by have := Hn.out; omega)
      have e2 := hcc j (by have := Hm.out; omega)
      have hst := beg_step (b := b) (c := c) (k0 := k0) (j := j) (by have := Hm.out; omega) (by have := Hn.out; omega) hp
      obtain ⟨x, hx⟩ : ∃ x, b[k0 + j]'(by have := Hn.out; omega) = x := ⟨_, rfl⟩
      obtain ⟨y, hy⟩ : ∃ y, c[j]'(by have := Hm.out; omega) = y := ⟨_, rfl⟩
      rw [hx] at e1 hst
      rw [hy] at e2 hst
      unfold B at e1 e2
      have e1' : ∀ w', Later wr.drew w' → w'.cell? _ = _ := fun w' hh => laterC e1 hh
      have e2' : ∀ w', Later wr.drew w' → w'.cell? _ = _ := fun w' hh => laterC e2 hh
      have Hst := Lib.hid hst; have Hbw := Lib.hid hbw; have Hp := Lib.hid hp
      have hwk : IntKind.i64.wrap ((k0 : Int) + (j : Int)) = (k0 : Int) + (j : Int) := IntWalk.i64_in _ (by omega)
      have htn : ((k0 : Int) + (j : Int)).toNat = k0 + j := by omega
      have hb1 : ¬ (k0 : Int) + (j : Int) < 0 := by omega
      have hb2 : (k0 : Int) + (j : Int) < (n : Int) := by omega
      clear hcb hcc hx hy hst hbw hp e1 e2
      go_wp2_with fail
      refine wp_region_can Later [(0, true), (1, true), (2, true), (3, true), (4, true), (5, true), (6, true), (7, true), (8, true), (9, true), (10, true)] (by kernel_rfl) (by kernel_rfl) later_refl later_trans ?_
      repeat (refine can_yes (v := ?_) rfl (wanted_none rfl) (fun w' hC => ?_) (fun K hK => ?_); rotate_left; (focus (go_simp; (try simp (disch := omega) only [IntWalk.i64_in]); first | done | exact rfl)); go_simp; (try simp (disch := omega) only [IntWalk.i64_in]); refine hK _ ?_; clear hK K)
      refine can_nil ?_
      clear e1' e2' HB HC
      by_cases hxy : x = y
      · have hnxt := Hst.out.2 hxy
        have hx1 : ((x.toNat : Int) != (y.toNat : Int)) = false := by rw [hxy]; simp
        have Hnxt := Lib.hid hnxt
        have HB8 := Lib.hid Hbw.out.drew
        clear hnxt hxy
        go_wp2_with fail
        go_roundw
        case rel => exact ⟨j + 1, by omega, by go_num, Hnxt.out, HB8.out⟩
        case measure => simp [intOf]; omega
      · have hne : ¬ (x.toNat : Int) = (y.toNat : Int) := fun h => hxy (UInt8.toNat_inj.1 (by omega))
        have hx1 : ((x.toNat : Int) != (y.toNat : Int)) = true := by simp; omega
        have Hf := Lib.hid (show begB b k0 c = false by
          unfold begB
          apply decide_eq_false
          intro h
          refine hxy (Hst.out.1 ?_)
          have h2 := congrArg (List.take (j + 1)) h
          rw [List.take_take, show min (j + 1) c.length = j + 1 by have := Hm.out; omega] at h2
          exact h2)
        clear hxy
        go_wp2_with fail
        go_ret
        exact ⟨by rw [Hf.out]; rfl, Hbw.out.drew⟩
    · have hjI : ¬ (j : Int) < (m : Int) := by omega
      have Hf := Lib.hid (show begB b k0 c = true by
        unfold begB
        apply decide_eq_true
        have e : j = c.length := by have := Hm.out; omega
        rw [e, List.take_length] at hp
        exact hp)
      have Hbw := Lib.hid hbw
      clear hp hbw HB HC
      go_wp2_with fail
      go_ret
      exact ⟨by rw [Hf.out]; rfl, Hbw.out⟩
theorem wrap64u (n : Nat) : IntKind.u64.wrap (n : Int) = ((n % 18446744073709551616 : Nat) : Int) := by
  simp [IntKind.wrap, IntKind.bits, IntKind.signed]
set_option maxRecDepth 100000 in
set_option maxHeartbeats 4000000 in
theorem refRead_any (w : World) (F : Blks) (av : Option Addr) (cap : Nat) (b : List UInt8) (k0 : Nat) (hB : Bytes F w (.slice av b.length cap) b) (hk : k0 ≤ b.length) :
    Calls Tryz.prog 73 #[.slice av b.length cap, .int .i64 (k0 : Int)] w fun e w' => e = .returned (uintV b k0) ∧ Below w.heap.size w w' := by
  have hbl : b.length ≤ 9223372036854775807 := by obtain ⟨-, h1, h2, -⟩ := hB.cells; unfold maxLen at h2; omega
  have HB := Lib.hid (show ∀ W, Below w.heap.size w W → Bytes (fun q => q < w.heap.size) W (.slice av b.length cap) b from fun W hW => by
    obtain ⟨a, cp, e, h1, h2, h3, h4⟩ := hB
    refine ⟨a, cp, e, h1, h2, h3, h4.imp id fun ⟨bb, off, L, t, fz, e1, _, e2, rest⟩ => ⟨bb, off, L, t, fz, e1, lt_of_block e2, (hW.block _ (lt_of_block e2)).trans e2, rest⟩⟩)
  obtain ⟨n, hn⟩ : ∃ n, b.length = n := ⟨_, rfl⟩
  have Hn := Lib.hid hn
  obtain ⟨D, hD⟩ : ∃ D, b.drop k0 = D := ⟨_, rfl⟩
  have HD := Lib.hid hD
  have hDl : D.length = n - k0 := by rw [← hD, List.length_drop, hn]
  have HDl := Lib.hid hDl
  obtain ⟨U, hU⟩ : ∃ U, uintV b k0 = U := ⟨_, rfl⟩
  have HU := Lib.hid (show uintVo n (rdF D 9) = U by rw [← hU, ← hD, ← hn]; rfl)
  rw [hU]
  have Hnone := Lib.hid (show rdF D 9 = none → U = .tuple #[.int .u64 0, .int .i64 0, .bool false] from fun h => by rw [← HU.out, h]; rfl)
  rw [hn] at hbl hk
  rw [hn]
  have k0I : ¬ (k0 : Int) < 0 := by omega
  have k0J : (0 : Int) ≤ (k0 : Int) := by omega
  have hw : IntKind.i64.wrap ((n : Int) - (k0 : Int)) = (n : Int) - (k0 : Int) := IntWalk.i64_in _ (by omega)
  clear hB hn hD hDl hU
  go_enter Tryz.func73, Tryz.ntmps73
  go_wp2_with fail
  go_loopw [7, 8, 9] (fun v o i wr => ∃ j : Nat, j ≤ 10 ∧ j ≤ n - k0 ∧ v = .int .u64 ((digs (D.take j) % 18446744073709551616 : Nat) : Int) ∧ o = .int .u64 ((128 ^ j % 18446744073709551616 : Nat) : Int) ∧ i = .int .i64 (j : Int) ∧ (∀ x (hx : x < D.length), x < j → ¬ D[x].toNat < 128) ∧ Below w.heap.size w wr) (fun _ _ i _ => 10 - (intOf i).toNat)
  case atStart => exact ⟨0, by omega, by omega, rfl, rfl, rfl, fun x hx h => absurd h (by omega), Below.refl _ _⟩
  case round =>
    obtain ⟨j, hj, hjn, rfl, rfl, rfl, hbig, hbw⟩ := hrel
    have Hbig := Lib.hid hbig; have Hbw := Lib.hid hbw
    obtain ⟨v, hv⟩ : ∃ v, digs (D.take j) % 18446744073709551616 = v := ⟨_, rfl⟩
    obtain ⟨o, ho⟩ : ∃ o, 128 ^ j % 18446744073709551616 = o := ⟨_, rfl⟩
    have Hv := Lib.hid hv; have Ho := Lib.hid ho
    rw [hv, ho]
    clear hbig hbw hv ho
    by_cases hj10 : j = 10
    · have hjI : ¬ (j : Int) < 10 := by omega
      have hu := Hnone.out (rd_none fun i hi h => Hbig.out i hi (by omega))
      have Hu := Lib.hid hu
      clear hu
      go_wp2_with fail
      go_ret3
      exact ⟨by rw [Hu.out]; rfl, Hbw.out⟩
    have hjI : (j : Int) < 10 := by omega
    by_cases hjD : j < n - k0
    case neg =>
      have hu := Hnone.out (rd_none fun i hi h => Hbig.out i hi (by have := HDl.out; omega))
      have Hu := Lib.hid hu
      clear hu
      by_cases hkn : k0 < n
      · have hknI : (k0 : Int) < (n : Int) := by omega
        have hjd : ¬ (j : Int) < (n : Int) - (k0 : Int) := by omega
        go_wp2_with fail
        go_ret3
        exact ⟨by rw [Hu.out]; rfl, Hbw.out⟩
      · have hknI : ¬ (k0 : Int) < (n : Int) := by omega
        go_wp2_with fail
        go_ret3
        exact ⟨by rw [Hu.out]; rfl, Hbw.out⟩
    case pos =>
      have hknI : (k0 : Int) < (n : Int) := by omega
      have hjd : (j : Int) < (n : Int) - (k0 : Int) := by omega
      obtain ⟨bb, ob, rfl, -, -, hcb⟩ := byte_cell (HB.out wr Hbw.out) (by have := Hn.out; omega)
      have e1 := hcb (k0 + j) (by have := Hn.out; omega)
      obtain ⟨x, hx⟩ : ∃ x, b[k0 + j]'(by have := Hn.out; omega) = x := ⟨_, rfl⟩
      rw [hx] at e1
      unfold B at e1
      have hjl : j < D.length := by have := HDl.out; omega
      have HDx := Lib.hid (show D[j] = x by
        have h := HD.out
        subst h
        rw [List.getElem_drop]; exact hx)
      obtain ⟨y, hy⟩ : ∃ y, x.toNat = y := ⟨_, rfl⟩
      rw [hy] at e1
      have Hy := Lib.hid hy
      obtain ⟨q, hq⟩ : ∃ q, y % 128 = q := ⟨_, rfl⟩
      have Hq := Lib.hid hq
      have hwk : IntKind.i64.wrap ((k0 : Int) + (j : Int)) = (k0 : Int) + (j : Int) := IntWalk.i64_in _ (by omega)
      have htn : ((k0 : Int) + (j : Int)).toNat = k0 + j := by omega
      have hb1 : ¬ (k0 : Int) + (j : Int) < 0 := by omega
      have hb2 : (k0 : Int) + (j : Int) < (n : Int) := by omega
      have hrem : (y : Int).tmod 128 = (q : Int) := by rw [Int.tmod_eq_emod_of_nonneg (by omega)]; omega
      have hy8 : y < 256 := by rw [← hy]; exact x.toNat_lt
      obtain ⟨p, hp⟩ : ∃ p, o * q % 18446744073709551616 = p := ⟨_, rfl⟩
      obtain ⟨v', hv'⟩ : ∃ v', (v + p) % 18446744073709551616 = v' := ⟨_, rfl⟩
      obtain ⟨o', ho'⟩ : ∃ o', o * 128 % 18446744073709551616 = o' := ⟨_, rfl⟩
      have hmul : IntKind.u64.wrap ((o : Int) * (q : Int)) = (p : Int) := by rw [← hp, ← wrap64u]; simp
      have hadd : IntKind.u64.wrap ((v : Int) + (p : Int)) = (v' : Int) := by rw [← hv', ← wrap64u]; simp
      have hone : IntKind.u64.wrap ((o : Int) * 128) = (o' : Int) := by rw [← ho', ← wrap64u]; simp
      have hq0 : IntKind.u64.wrap (q : Int) = (q : Int) := IntWalk.u64_in _ (by omega)
      have Hv' := Lib.hid (show digs (D.take (j + 1)) % 18446744073709551616 = v' by
        rw [digs_take D j hjl, HDx.out, hy, hq, ← hv', ← hp, ← Hv.out, ← Ho.out]
        simp [Nat.add_mod, Nat.mul_mod])
      have Ho' := Lib.hid (show 128 ^ (j + 1) % 18446744073709551616 = o' by
        rw [← ho', ← Ho.out, Nat.pow_succ]
        simp [Nat.mul_mod])
      clear hcb hx hy hq hp hv' ho'
      by_cases hend : y < 128
      · have hendI : (y : Int) < 128 := by omega
        obtain ⟨c, hc⟩ : ∃ c, uvar v' = c := ⟨_, rfl⟩
        have hv64 : v' < 18446744073709551616 := by rw [← Hv'.out]; exact Nat.mod_lt _ (by omega)
        have Hrd := Lib.hid (show rdF D 9 = if D.take (j + 1) = c then some (v', D.drop (j + 1)) else none by
          rw [rd_at hjl (by omega) Hbig.out (by rw [HDx.out, Hy.out]; exact hend), Hv'.out, hc])
        have HUi := Lib.hid (refUint_any wr v' hv64)
        rw [hc] at HUi
        have hcl : c.length ≤ 10 := by rw [← hc]; exact uvar_len _
        clear hc hend
        go_wp2_with fail
        refine HUi.out.mono ?_
        rintro e w5 ⟨⟨r, rfl, hown⟩, hb5⟩
        obtain ⟨cv, cc, rfl⟩ := own_shape hown
        have hCb : Bytes (fun q => wr.heap.size ≤ q) w5 (.slice cv c.length cc) c := Bytes.of_owns hown _ fun q hq _ => hq
        have Hb5 := Lib.hid (Hbw.out.trans (hb5.mono Hbw.out.size))
        have hBg := begins_any w5 _ _ (some ⟨bb, ob, none⟩) cv cap cc b c k0 (HB.out _ Hb5.out) hCb (by have := Hn.out; omega)
        rw [Hn.out] at hBg
        obtain ⟨m, hm⟩ : ∃ m, c.length = m := ⟨_, rfl⟩
        obtain ⟨bg, hbg⟩ : ∃ bg, begB b k0 c = bg := ⟨_, rfl⟩
        rw [hbg, hm] at hBg
        have hbgd : bg = decide (D.take m = c) := by rw [← hbg, ← HD.out, ← hm]; rfl
        have HBg := Lib.hid hBg; have Hm := Lib.hid hm; have Hbgd := Lib.hid hbgd
        rw [hm] at hcl ⊢
        clear HUi e1 hown hCb hb5 hBg hbgd hbg hm
        have hj1 : IntKind.i64.wrap ((j : Int) + 1) = (j : Int) + 1 := IntWalk.i64_in _ (by omega)
        by_cases hmj : m = j + 1
        · subst hmj
          go_wp2_with fail
          refine HBg.out.mono ?_
          rintro e w6 ⟨rfl, hb6⟩
          have Hb6 := Lib.hid (Hb5.out.trans (hb6.mono Hb5.out.size))
          clear HBg hb6
          cases bg with
          | true =>
            have hkk : IntKind.i64.wrap ((k0 : Int) + ((j : Int) + 1)) = (k0 : Int) + ((j : Int) + 1) := IntWalk.i64_in _ (by omega)
            have ht : D.take (j + 1) = c := of_decide_eq_true Hbgd.out.symm
            have Hfin := Lib.hid (show U = .tuple #[.int .u64 (v' : Int), .int .i64 ((k0 : Int) + ((j : Int) + 1)), .bool true] by
              rw [← HU.out, Hrd.out, if_pos ht]
              show Value.tuple #[.int .u64 (v' : Int), .int .i64 ((n - (D.drop (j + 1)).length : Nat) : Int), .bool true] = _
              rw [List.length_drop, HDl.out, show n - (n - k0 - (j + 1)) = k0 + (j + 1) by omega]
              simp)
            clear ht
            go_wp2_with fail
            go_ret3
            exact ⟨by rw [Hfin.out]; rfl, Hb6.out⟩
          | false =>
            have ht : ¬ D.take (j + 1) = c := of_decide_eq_false Hbgd.out.symm
            have Hfin := Lib.hid (Hnone.out (by rw [Hrd.out, if_neg ht]))
            clear ht
            go_wp2_with fail
            go_ret3
            exact ⟨by rw [Hfin.out]; rfl, Hb6.out⟩
        · have hmjI : ¬ (m : Int) = (j : Int) + 1 := by omega
          have hmjB : ((m : Int) == (j : Int) + 1) = false := beq_eq_false_iff_ne.2 hmjI
          have Hfin := Lib.hid (Hnone.out (by
            rw [Hrd.out, if_neg]
            intro h
            have := congrArg List.length h
            rw [List.length_take, Hm.out] at this
            omega))
          go_wp2_with fail
          go_ret3
          exact ⟨by rw [Hfin.out]; rfl, Hb5.out⟩
      · have hendI : ¬ (y : Int) < 128 := by omega
        go_wp2_with fail
        go_roundw
        case rel => exact ⟨j + 1, by omega, by omega, by rw [Hv'.out], by rw [Ho'.out], by go_num, fun z hz hlt => by
          by_cases hzj : z < j
          · exact Hbig.out z hz hzj
          · have : z = j := by omega
            subst this
            rw [HDx.out, Hy.out]; exact hend, Hbw.out⟩
        case measure => simp [intOf]; omega
set_option maxRecDepth 100000 in
set_option maxHeartbeats 2000000 in
theorem refReadT_any (w : World) (F : Blks) (av : Option Addr) (cap : Nat) (b : List UInt8) (k0 : Nat) (hB : Bytes F w (.slice av b.length cap) b) (hk : k0 ≤ b.length) :
    Calls Tryz.prog 130 #[.slice av b.length cap, .int .i64 (k0 : Int)] w fun e w' => e = .returned (textV b k0) ∧ Below w.heap.size w w' := by
  have hbl : b.length ≤ 9223372036854775807 := by obtain ⟨-, h1, h2, -⟩ := hB.cells; unfold maxLen at h2; omega
  have HB := Lib.hid (show ∀ W, Below w.heap.size w W → Bytes (fun q => q < w.heap.size) W (.slice av b.length cap) b from fun W hW => by
    obtain ⟨a, cp, e, h1, h2, h3, h4⟩ := hB
    refine ⟨a, cp, e, h1, h2, h3, h4.imp id fun ⟨bb, off, L, t, fz, e1, _, e2, rest⟩ => ⟨bb, off, L, t, fz, e1, lt_of_block e2, (hW.block _ (lt_of_block e2)).trans e2, rest⟩⟩)
  have hRU := refRead_any w F av cap b k0 hB hk
  obtain ⟨n, hn⟩ : ∃ n, b.length = n := ⟨_, rfl⟩
  obtain ⟨o, ho⟩ : ∃ o, rdF (b.drop k0) 9 = o := ⟨_, rfl⟩
  obtain ⟨U, hU⟩ : ∃ U, textV b k0 = U := ⟨_, rfl⟩
  have huv : uintV b k0 = uintVo n o := by unfold uintV; rw [ho, hn]
  have Hn := Lib.hid hn; have HU := Lib.hid hU; have Ho := Lib.hid ho
  rw [huv, hn] at hRU
  rw [hU, hn]
  rw [hn] at hbl hk
  clear huv hU
  cases o with
  | none =>
    have Hfin := Lib.hid (show U = .tuple #[.string ⟨#[]⟩, .int .i64 0, .bool false] by
      rw [← HU.out]; unfold textV rdT; rw [Ho.out]; rfl)
    have HR := Lib.hid hRU
    clear hRU hB ho hn
    unfold uintVo at HR
    dsimp only at HR
    go_enter Tryz.func130, Tryz.ntmps130
    go_wp2_with fail
    refine HR.out.mono ?_
    rintro e w1 ⟨rfl, hb1⟩
    clear HR
    go_wp2_with fail
    go_ret3
    exact ⟨by rw [Hfin.out]; rfl, hb1⟩
  | some p =>
    obtain ⟨m, r⟩ := p
    have hdl := rd_len ho
    have hdr : r.length ≤ (b.drop k0).length ∧ r = (b.drop k0).drop ((b.drop k0).length - r.length) := by
      have h1 := (rd_iff.1 ho).2
      have hl := congrArg List.length h1
      rw [List.length_append] at hl
      refine ⟨by omega, ?_⟩
      conv => rhs; rw [h1]
      simp
    obtain ⟨rl, hrl⟩ : ∃ rl, r.length = rl := ⟨_, rfl⟩
    rw [hrl, List.length_drop, hn] at hdl hdr
    obtain ⟨k1, hk1⟩ : ∃ k1, n - rl = k1 := ⟨_, rfl⟩
    have Hr1 := Lib.hid (show r = b.drop k1 by
      rw [hdr.2, List.drop_drop]
      congr 1
      omega)
    have hm64 := hdl.2.2
    have hrn : rl ≤ n := by omega
    have hk1n : (k1 : Int) = (n : Int) - (rl : Int) := by omega
    have hUv : uintVo n (some (m, r)) = .tuple #[.int .u64 (m : Int), .int .i64 (k1 : Int), .bool true] := by
      show Value.tuple #[.int .u64 (m : Int), .int .i64 ((n - r.length : Nat) : Int), .bool true] = _
      rw [hrl, hk1]
    rw [hUv] at hRU
    have HR := Lib.hid hRU; have Hrl := Lib.hid hrl
    have hb0 : 0 < b.length := by omega
    obtain ⟨bb, ob, rfl, -⟩ := byte_cell hB hb0
    obtain ⟨-, hcap1, hcapm, -⟩ := hB.cells
    unfold maxLen at hcapm
    rw [hn] at hcap1
    have hsub3 : IntKind.i64.wrap ((n : Int) - (k1 : Int)) = (rl : Int) := by
      rw [show (n : Int) - (k1 : Int) = (rl : Int) by omega]
      exact IntWalk.i64_in _ (by omega)
    have hsub2 : IntKind.u64.wrap (rl : Int) = (rl : Int) := IntWalk.u64_in _ (by omega)
    clear hRU hB ho hn hdl hdr hrl hUv hb0
    by_cases hmr : m ≤ rl
    · have hmI : ¬ (rl : Int) < (m : Int) := by omega
      have hm63 : IntKind.i64.wrap (m : Int) = (m : Int) := IntWalk.i64_in _ (by omega)
      have hsum : IntKind.i64.wrap ((k1 : Int) + (m : Int)) = (k1 : Int) + (m : Int) := IntWalk.i64_in _ (by omega)
      have Hfin := Lib.hid (show U = .tuple #[.string ⟨(r.take m).toArray⟩, .int .i64 ((k1 : Int) + (m : Int)), .bool true] by
        rw [← HU.out]; unfold textV rdT; rw [Ho.out]; dsimp only
        rw [if_pos (by rw [Hrl.out]; exact hmr)]
        show Value.tuple #[.string ⟨(r.take m).toArray⟩, .int .i64 ((b.length - (r.drop m).length : Nat) : Int), .bool true] = _
        rw [Hn.out, List.length_drop, Hrl.out, show n - (rl - m) = k1 + m by omega]
        simp)
      have hcut := fun W hW => (HB.out W hW).cutI k1 m (by rw [Hn.out]; omega)
      obtain ⟨ad, had⟩ : ∃ ad : Option Addr, (if cap = k1 then some ⟨bb, ob, none⟩ else some ⟨bb, ob + k1, none⟩) = ad := ⟨_, rfl⟩
      rw [had] at hcut
      have Hcut := Lib.hid hcut
      have hb1' : (k1 : Int) ≤ (k1 : Int) + (m : Int) := by omega
      have hb2' : (k1 : Int) + (m : Int) ≤ (cap : Int) := by omega
      have htn : ((k1 : Int) + (m : Int)).toNat - k1 = m := by omega
      clear hcut
      go_enter Tryz.func130, Tryz.ntmps130
      go_wp2_with fail
      refine HR.out.mono ?_
      rintro e w1 ⟨rfl, hb1⟩
      have d2 := run_strB (Hcut.out w1 hb1)
      rw [← Hr1.out] at d2
      clear HR
      go_wp2_with fail
      go_ret3
      exact ⟨by rw [Hfin.out, hk1n]; rfl, hb1⟩
    · have hmI : (rl : Int) < (m : Int) := by omega
      have Hfin := Lib.hid (show U = .tuple #[.string ⟨#[]⟩, .int .i64 0, .bool false] by
        rw [← HU.out]; unfold textV rdT; rw [Ho.out]; dsimp only
        rw [if_neg (by rw [Hrl.out]; exact hmr)]; rfl)
      go_enter Tryz.func130, Tryz.ntmps130
      go_wp2_with fail
      refine HR.out.mono ?_
      rintro e w1 ⟨rfl, hb1⟩
      clear HR
      go_wp2_with fail
      go_ret3
      exact ⟨by rw [Hfin.out]; rfl, hb1⟩
end Go.Proofs.YtkkacnfpdafadaaGreatDoor
