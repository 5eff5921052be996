/-
  SSame
-/
import Derived.Test.YtkkacnfpdafadaaGreatDoorR30
import Derived.Test.YtkkacnfpdafadaaGreatDoorR10
namespace Go.Proofs.YtkkacnfpdafadaaGreatDoor
open Go.RowKit
set_option linter.unusedVariables false
set_option maxRecDepth 20000
attribute [local go_sem] opC upC

def SamePostS (w : World) (a b : SMsg) (e : Ending) (w' : World) : Prop := ∃ r, e = .returned (.bool r) ∧ (r = true ↔ a = b) ∧ Below w.heap.size w w'
theorem same_noS {a b : SMsg} (h : a ≠ b) : (false = true ↔ a = b) := ⟨nofun, fun e => absurd e h⟩
set_option maxRecDepth 100000 in
set_option maxHeartbeats 3000000 in
theorem sameS_any (w : World) (F G : Blks) (va vb : Value) (a b : SMsg) (ha : MsgV F w va a) (hb : MsgV G w vb b) :
    Calls Tryz.prog 19 #[va, vb] w (SamePostS w a b) := by
  replace ha := ha.mono (G := fun q => q < w.heap.size) fun q _ hlt => hlt
  replace hb := hb.mono (G := fun q => q < w.heap.size) fun q _ hlt => hlt
  obtain ⟨sva, s1a, s2a, s3a, rfl, ha⟩ := ha
  obtain ⟨a0a, p0a, rfl, -⟩ := ha.seen.shape
  obtain ⟨a1a, p1a, rfl, -⟩ := ha.tell.seen.shape
  obtain ⟨a2a, p2a, rfl, -⟩ := ha.tell.items.shape
  obtain ⟨a3a, p3a, rfl, -⟩ := ha.tell.gone.shape
  obtain ⟨wxa, hwxa⟩ : ∃ qq, qq = w.alloc (.cells #[.int .i64 a.frm, .slice a0a a.seen.length p0a, .slice a1a a.tell.seen.length p1a, .slice a2a a.tell.items.length p2a, .slice a3a a.tell.gone.length p3a] 43) := ⟨_, rfl⟩
  have hbxa : Below w.heap.size w wxa := by rw [hwxa]; exact kept_alloc _ _
  have hzxa : wxa.heap.size = w.heap.size + 1 := by rw [hwxa]; simp
  have hxa := ha.keep (w' := wxa) fun b _ hlt => hbxa.block b hlt
  have hnxa : Blk wxa w.heap.size [.int .i64 a.frm, .slice a0a a.seen.length p0a, .slice a1a a.tell.seen.length p1a, .slice a2a a.tell.items.length p2a, .slice a3a a.tell.gone.length p3a] 43 := by rw [hwxa]; exact Blk.new _ _ _
  have Hxa := Lib.hid hxa
  have Hwxa := Lib.hid hwxa; have Hbxa := Lib.hid hbxa; have Hzxa := Lib.hid hzxa
  have Hnxa := Lib.hid hnxa
  clear hxa hwxa hbxa hnxa hzxa ha
  replace hb : MsgV (fun q => q < w.heap.size) wxa vb b := hb.keep (w' := wxa) fun q _ hlt => Hbxa.out.block q hlt
  obtain ⟨svb, s1b, s2b, s3b, rfl, hb⟩ := hb
  obtain ⟨a0b, p0b, rfl, -⟩ := hb.seen.shape
  obtain ⟨a1b, p1b, rfl, -⟩ := hb.tell.seen.shape
  obtain ⟨a2b, p2b, rfl, -⟩ := hb.tell.items.shape
  obtain ⟨a3b, p3b, rfl, -⟩ := hb.tell.gone.shape
  obtain ⟨wxb, hwxb⟩ : ∃ qq, qq = wxa.alloc (.cells #[.int .i64 b.frm, .slice a0b b.seen.length p0b, .slice a1b b.tell.seen.length p1b, .slice a2b b.tell.items.length p2b, .slice a3b b.tell.gone.length p3b] 43) := ⟨_, rfl⟩
  have hbxb : Below wxa.heap.size wxa wxb := by rw [hwxb]; exact kept_alloc _ _
  have hzxb : wxb.heap.size = wxa.heap.size + 1 := by rw [hwxb]; simp
  have hxb := hb.keep (w' := wxb) fun b _ hlt => hbxb.block b hlt
  have hnxb : Blk wxb wxa.heap.size [.int .i64 b.frm, .slice a0b b.seen.length p0b, .slice a1b b.tell.seen.length p1b, .slice a2b b.tell.items.length p2b, .slice a3b b.tell.gone.length p3b] 43 := by rw [hwxb]; exact Blk.new _ _ _
  have Hxb := Lib.hid hxb
  have Hwxb := Lib.hid hwxb; have Hbxb := Lib.hid hbxb; have Hzxb := Lib.hid hzxb
  have Hnxb := Lib.hid hnxb
  clear hxb hwxb hbxb hnxb hzxb hb
  have HR := Lib.hid (show ∀ W, Below wxb.heap.size wxb W → Below w.heap.size w W ∧ Blk W w.heap.size [.int .i64 a.frm, .slice a0a a.seen.length p0a, .slice a1a a.tell.seen.length p1a, .slice a2a a.tell.items.length p2a, .slice a3a a.tell.gone.length p3a] 43 ∧ Blk W wxa.heap.size [.int .i64 b.frm, .slice a0b b.seen.length p0b, .slice a1b b.tell.seen.length p1b, .slice a2b b.tell.items.length p2b, .slice a3b b.tell.gone.length p3b] 43 ∧ MsgIn (fun q => q < w.heap.size) W (.slice a0a a.seen.length p0a) (.slice a1a a.tell.seen.length p1a) (.slice a2a a.tell.items.length p2a) (.slice a3a a.tell.gone.length p3a) a ∧ MsgIn (fun q => q < w.heap.size) W (.slice a0b b.seen.length p0b) (.slice a1b b.tell.seen.length p1b) (.slice a2b b.tell.items.length p2b) (.slice a3b b.tell.gone.length p3b) b from fun W hW => by
    have hz := Hzxa.out
    have hz2 := Hzxb.out
    have hab : Below wxa.heap.size wxa W := Hbxb.out.trans (hW.mono (by omega))
    have hw : Below w.heap.size w W := Hbxa.out.trans (hab.mono (by omega))
    exact ⟨hw, Hnxa.out.keep (hab.block _ Hnxa.out.lt), Hnxb.out.keep (hW.block _ Hnxb.out.lt), Hxa.out.keep (w' := W) fun q hq hlt => hab.block q hlt, Hxb.out.keep (w' := W) fun q hq hlt => hW.block q hlt⟩)
  obtain ⟨hB0, ka, kb, ma, mb⟩ := HR.out wxb (Below.refl _ _)
  obtain ⟨c0, c1, c2, c3, c4⟩ := cell5 ka
  obtain ⟨d0, d1, d2, d3, d4⟩ := cell5 kb
  have HS := Lib.hid (same_any0 wxb _ _ (.agg #[.slice a1a a.tell.seen.length p1a, .slice a2a a.tell.items.length p2a, .slice a3a a.tell.gone.length p3a]) (.agg #[.slice a1b b.tell.seen.length p1b, .slice a2b b.tell.items.length p2b, .slice a3b b.tell.gone.length p3b]) a.tell b.tell ⟨_, _, _, rfl, ma.tell⟩ ⟨_, _, _, rfl, mb.tell⟩)
  have hla := ma.seen.len
  have hlb := mb.seen.len
  unfold maxLen at hla hlb
  obtain ⟨fa, hfa⟩ : ∃ x, a.frm = x := ⟨_, rfl⟩
  obtain ⟨fb, hfb⟩ : ∃ x, b.frm = x := ⟨_, rfl⟩
  obtain ⟨na, hna⟩ : ∃ x, a.seen.length = x := ⟨_, rfl⟩
  obtain ⟨nb, hnb⟩ : ∃ x, b.seen.length = x := ⟨_, rfl⟩
  have Hwa := Hwxa
  have Hwb := Hwxb
  rw [hfa] at c0 Hwa HR
  rw [hfb] at d0 Hwb HR
  rw [hna] at c1 Hwa HR hla
  rw [hnb] at d1 Hwb HR hlb
  rw [hfa, hfb, hna, hnb]
  have hz := Hzxa.out
  have Hfa := Lib.hid hfa; have Hfb := Lib.hid hfb; have Hna := Lib.hid hna; have Hnb := Lib.hid hnb; have HB0 := Lib.hid hB0
  rw [hz] at d0 d1 d2 d3 d4
  clear ka kb ma mb hfa hfb hna hnb hB0 hz
  go_enter Tryz.func19, Tryz.ntmps19
  by_cases h1 : fa = fb
  case neg =>
    have g1 : (fa != fb) = true := by simp [h1]
    have Hne := Lib.hid (show a ≠ b from fun e => h1 (by rw [← Hfa.out, ← Hfb.out, e]))
    go_wp2_with fail
    go_ret
    exact ⟨false, rfl, same_noS Hne.out, by rw [← Hwa.out, ← Hwb.out]; exact HB0.out⟩
  subst h1
  by_cases h2 : na = nb
  case neg =>
    have h2I : ¬ (na : Int) = (nb : Int) := by omega
    have g2 : ((na : Int) != (nb : Int)) = true := by simp; omega
    have Hne := Lib.hid (show a ≠ b from fun e => h2 (by rw [← Hna.out, ← Hnb.out, e]))
    go_wp2_with fail
    go_ret
    exact ⟨false, rfl, same_noS Hne.out, by rw [← Hwa.out, ← Hwb.out]; exact HB0.out⟩
  subst h2
  have Hff := Lib.hid (show a.frm = b.frm by rw [Hfa.out, Hfb.out])
  go_wp2_with fail
  rw [← Hwa.out, ← Hwb.out]
  refine HS.out.mono ?_
  rintro e w2 ⟨r, rfl, hr, hb2⟩
  have Hr := Lib.hid hr; have Hb2 := Lib.hid hb2
  clear HS hr hb2 c0 c1 c2 c3 c4 d0 d1 d2 d3 d4
  cases r with
  | false =>
    have Hne := Lib.hid (show a ≠ b from fun e => by have := Hr.out.2 (by rw [e]); cases this)
    have Hb := Lib.hid (HR.out w2 Hb2.out).1
    go_wp2_with fail
    go_ret
    exact ⟨false, rfl, same_noS Hne.out, Hb.out⟩
  | true =>
    go_wp2_with fail
    go_loopw [5] (fun i wr => ∃ k : Nat, k ≤ na ∧ i = .int .i64 (k : Int) ∧ Below wxb.heap.size wxb wr ∧ ∀ j, j < k → a.seen[j]? = b.seen[j]?) (fun i _ => na - (intOf i).toNat)
    case atStart => exact ⟨0, by omega, rfl, Hb2.out, fun j hj => by omega⟩
    case round =>
      obtain ⟨k, hk, rfl, hbw, hall⟩ := hrel
      have Hall := Lib.hid hall; have Hbw := Lib.hid hbw
      clear hall hbw
      obtain ⟨hB, ka, kb, ma, mb⟩ := HR.out wr Hbw.out
      obtain ⟨-, c1, -⟩ := cell5 ka
      obtain ⟨-, d1, -⟩ := cell5 kb
      rw [Hzxa.out] at d1
      by_cases hkn : k < na
      · have hkI : (k : Int) < (na : Int) := by omega
        have hka : k < a.seen.length := by rw [Hna.out]; exact hkn
        have hkb : k < b.seen.length := by rw [Hnb.out]; exact hkn
        have ras := ma.seen
        have rbs := mb.seen
        rw [← Hna.out] at ras
        obtain ⟨ba, offa, rfl, -, -, hca⟩ := int_cell ras (by omega)
        rw [show na = b.seen.length from Hnb.out.symm] at rbs
        obtain ⟨bb, offb, rfl, -, -, hcb⟩ := int_cell rbs (by omega)
        have ea := hca k hka
        have eb := hcb k hkb
        obtain ⟨qa, hqa⟩ : ∃ q, a.seen[k] = q := ⟨_, rfl⟩
        obtain ⟨qb, hqb⟩ : ∃ q, b.seen[k] = q := ⟨_, rfl⟩
        rw [hqa] at ea
        rw [hqb] at eb
        have Hqa := Lib.hid hqa; have Hqb := Lib.hid hqb; have HB := Lib.hid hB
        clear hca hcb hqa hqb ras rbs ka kb ma mb hB
        by_cases he : qa = qb
        · have d1' : (qa != qb) = false := by simp [he]
          go_wp2_with fail
          go_quiet (fail)
          go_wp2_with fail
          go_roundw
          case rel => exact ⟨k + 1, by omega, by go_num, kept_drewN Hbw.out _, fun j hj => by
            rcases Nat.lt_succ_iff_lt_or_eq.1 hj with h | h
            · exact Hall.out j h
            · subst h; rw [List.getElem?_eq_getElem hka, List.getElem?_eq_getElem hkb, Hqa.out, Hqb.out, he]⟩
          case measure => simp [intOf]; omega
        · have d1' : (qa != qb) = true := by simp [he]
          have Hne := Lib.hid (show a ≠ b from fun e => he (by subst e; rw [← Hqa.out, ← Hqb.out]))
          go_wp2_with fail
          go_quiet (fail)
          go_wp2_with fail
          go_ret
          exact ⟨false, rfl, same_noS Hne.out, kept_drewN HB.out _⟩
      · have hkI : ¬ (k : Int) < (na : Int) := by omega
        have He := Lib.hid (show a = b by
          have e1 : a.seen = b.seen := List.ext_getElem? fun j => by
            by_cases hj : j < k
            · exact Hall.out j hj
            · rw [List.getElem?_eq_none (by rw [Hna.out]; omega), List.getElem?_eq_none (by rw [Hnb.out]; omega)]
          have e2 := Hff.out
          have e3 : a.tell = b.tell := by have := Hr.out; simpa using this
          cases a; cases b
          simp_all)
        have HB := Lib.hid hB
        clear ka kb ma mb hB
        go_wp2_with fail
        go_ret
        exact ⟨true, rfl, ⟨fun _ => He.out, fun _ => rfl⟩, HB.out⟩
end Go.Proofs.YtkkacnfpdafadaaGreatDoor
