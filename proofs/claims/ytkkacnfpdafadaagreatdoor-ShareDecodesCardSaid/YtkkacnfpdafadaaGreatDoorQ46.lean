/-
  SSame RHas SHas SSend
-/
import Derived.Test.YtkkacnfpdafadaaGreatDoorQ27
import Derived.Test.YtkkacnfpdafadaaGreatDoorQ09
import Derived.Test.YtkkacnfpdafadaaGreatDoorQ21
import Derived.Test.YtkkacnfpdafadaaGreatDoorQ29
namespace Go.Proofs.YtkkacnfpdafadaaGreatDoor
open Go.RowKit
set_option linter.unusedVariables false
set_option maxRecDepth 20000
attribute [local go_sem] opC upC

def SamePostS (w : World) (a b : SMsg) (e : Ending) (w' : World) : Prop := ∃ r, e = .returned (.bool r) ∧ (r = true ↔ a = b) ∧ Below w.heap.size w w'
theorem same_noS {a b : SMsg} (h : a ≠ b) : (false = true ↔ a = b) := ⟨nofun, fun e => absurd e h⟩
set_option maxRecDepth 100000 in
set_option maxHeartbeats 3000000 in
theorem sameS_any (w : World) (F G : Blks) (va vb : Value) (a b : SMsg) (ha : MsgV F w va a) (hb : MsgV G w vb b) :
    Calls Tryz.prog 19 #[va, vb] w (SamePostS w a b) := by
  replace ha := ha.mono (G := fun q => q < w.heap.size) fun q _ hlt => hlt
  replace hb := hb.mono (G := fun q => q < w.heap.size) fun q _ hlt => hlt
  obtain ⟨sva, s1a, s2a, s3a, rfl, ha⟩ := ha
  obtain ⟨a0a, p0a, rfl, -⟩ := ha.seen.shape
  obtain ⟨a1a, p1a, rfl, -⟩ := ha.tell.seen.shape
  obtain ⟨a2a, p2a, rfl, -⟩ := ha.tell.items.shape
  obtain ⟨a3a, p3a, rfl, -⟩ := ha.tell.gone.shape
  obtain ⟨wxa, hwxa⟩ : ∃ qq, qq = w.alloc (.cells #[.int .i64 a.frm, .slice a0a a.seen.length p0a, .slice a1a a.tell.seen.length p1a, .slice a2a a.tell.items.length p2a, .slice a3a a.tell.gone.length p3a] 43) := ⟨_, rfl⟩
  have hbxa : Below w.heap.size w wxa := by rw [hwxa]; exact kept_alloc _ _
  have hzxa : wxa.heap.size = w.heap.size + 1 := by rw [hwxa]; simp
  have hxa := ha.keep (w' := wxa) fun b _ hlt => hbxa.block b hlt
  have hnxa : Blk wxa w.heap.size [.int .i64 a.frm, .slice a0a a.seen.length p0a, .slice a1a a.tell.seen.length p1a, .slice a2a a.tell.items.length p2a, .slice a3a a.tell.gone.length p3a] 43 := by rw [hwxa]; exact Blk.new _ _ _
  have Hxa := Lib.hid hxa
  have Hwxa := Lib.hid hwxa; have Hbxa := Lib.hid hbxa; have Hzxa := Lib.hid hzxa
  have Hnxa := Lib.hid hnxa
  clear hxa hwxa hbxa hnxa hzxa ha
  replace hb : MsgV (fun q => q < w.heap.size) wxa vb b := hb.keep (w' := wxa) fun q _ hlt => Hbxa.out.block q hlt
  obtain ⟨svb, s1b, s2b, s3b, rfl, hb⟩ := hb
  obtain ⟨a0b, p0b, rfl, -⟩ := hb.seen.shape
  obtain ⟨a1b, p1b, rfl, -⟩ := hb.tell.seen.shape
  obtain ⟨a2b, p2b, rfl, -⟩ := hb.tell.items.shape
  obtain ⟨a3b, p3b, rfl, -⟩ := hb.tell.gone.shape
  obtain ⟨wxb, hwxb⟩ : ∃ qq, qq = wxa.alloc (.cells #[.int .i64 b.frm, .slice a0b b.seen.length p0b, .slice a1b b.tell.seen.length p1b, .slice a2b b.tell.items.length p2b, .slice a3b b.tell.gone.length p3b] 43) := ⟨_, rfl⟩
  have hbxb : Below wxa.heap.size wxa wxb := by rw [hwxb]; exact kept_alloc _ _
  have hzxb : wxb.heap.size = wxa.heap.size + 1 := by rw [hwxb]; simp
  have hxb := hb.keep (w' := wxb) fun b _ hlt => hbxb.block b hlt
  have hnxb : Blk wxb wxa.heap.size [.int .i64 b.frm, .slice a0b b.seen.length p0b, .slice a1b b.tell.seen.length p1b, .slice a2b b.tell.items.length p2b, .slice a3b b.tell.gone.length p3b] 43 := by rw [hwxb]; exact Blk.new _ _ _
  have Hxb := Lib.hid hxb
  have Hwxb := Lib.hid hwxb; have Hbxb := Lib.hid hbxb; have Hzxb := Lib.hid hzxb
  have Hnxb := Lib.hid hnxb
  clear hxb hwxb hbxb hnxb hzxb hb
  have HR := Lib.hid (show ∀ W, Below wxb.heap.size wxb W → Below w.heap.size w W ∧ Blk W w.heap.size [.int .i64 a.frm, .slice a0a a.seen.length p0a, .slice a1a a.tell.seen.length p1a, .slice a2a a.tell.items.length p2a, .slice a3a a.tell.gone.length p3a] 43 ∧ Blk W wxa.heap.size [.int .i64 b.frm, .slice a0b b.seen.length p0b, .slice a1b b.tell.seen.length p1b, .slice a2b b.tell.items.length p2b, .slice a3b b.tell.gone.length p3b] 43 ∧ MsgIn (fun q => q < w.heap.size) W (.slice a0a a.seen.length p0a) (.slice a1a a.tell.seen.length p1a) (.slice a2a a.tell.items.length p2a) (.slice a3a a.tell.gone.length p3a) a ∧ MsgIn (fun q => q < w.heap.size) W (.slice a0b b.seen.length p0b) (.slice a1b b.tell.seen.length p1b) (.slice a2b b.tell.items.length p2b) (.slice a3b b.tell.gone.length p3b) b from fun W hW => by
    have hz := Hzxa.out
    have hz2 := Hzxb.out
    have hab : Below wxa.heap.size wxa W := Hbxb.out.trans (hW.mono (by omega))
    have hw : Below w.heap.size w W := Hbxa.out.trans (hab.mono (by omega))
    exact ⟨hw, Hnxa.out.keep (hab.block _ Hnxa.out.lt), Hnxb.out.keep (hW.block _ Hnxb.out.lt), Hxa.out.keep (w' := W) fun q hq hlt => hab.block q hlt, Hxb.out.keep (w' := W) fun q hq hlt => hW.block q hlt⟩)
  obtain ⟨hB0, ka, kb, ma, mb⟩ := HR.out wxb (Below.refl _ _)
  obtain ⟨c0, c1, c2, c3, c4⟩ := cell5 ka
  obtain ⟨d0, d1, d2, d3, d4⟩ := cell5 kb
  have HS := Lib.hid (same_any0 wxb _ _ (.agg #[.slice a1a a.tell.seen.length p1a, .slice a2a a.tell.items.length p2a, .slice a3a a.tell.gone.length p3a]) (.agg #[.slice a1b b.tell.seen.length p1b, .slice a2b b.tell.items.length p2b, .slice a3b b.tell.gone.length p3b]) a.tell b.tell ⟨_, _, _, rfl, ma.tell⟩ ⟨_, _, _, rfl, mb.tell⟩)
  have hla := ma.seen.len
  have hlb := mb.seen.len
  unfold maxLen at hla hlb
  obtain ⟨fa, hfa⟩ : ∃ x, a.frm = x := ⟨_, rfl⟩
  obtain ⟨fb, hfb⟩ : ∃ x, b.frm = x := ⟨_, rfl⟩
  obtain ⟨na, hna⟩ : ∃ x, a.seen.length = x := ⟨_, rfl⟩
  obtain ⟨nb, hnb⟩ : ∃ x, b.seen.length = x := ⟨_, rfl⟩
  have Hwa := Hwxa
  have Hwb := Hwxb
  rw [hfa] at c0 Hwa HR
  rw [hfb] at d0 Hwb HR
  rw [hna] at c1 Hwa HR hla
  rw [hnb] at d1 Hwb HR hlb
  rw [hfa, hfb, hna, hnb]
  have hz := Hzxa.out
  have Hfa := Lib.hid hfa; have Hfb := Lib.hid hfb; have Hna := Lib.hid hna; have Hnb := Lib.hid hnb; have HB0 := Lib.hid hB0
  rw [hz] at d0 d1 d2 d3 d4
  clear ka kb ma mb hfa hfb hna hnb hB0 hz
  go_enter Tryz.func19, Tryz.ntmps19
  by_cases h1 : fa = fb
  case neg =>
    have g1 : (fa != fb) = true := by simp [h1]
    have Hne := Lib.hid (show a ≠ b from fun e => h1 (by rw [← Hfa.out, ← Hfb.out, e]))
    go_wp2_with fail
    go_ret
    exact ⟨false, rfl, same_noS Hne.out, by rw [← Hwa.out, ← Hwb.out]; exact HB0.out⟩
  subst h1
  by_cases h2 : na = nb
  case neg =>
    have h2I : ¬ (na : Int) = (nb : Int) := by omega
    have g2 : ((na : Int) != (nb : Int)) = true := by simp; omega
    have Hne := Lib.hid (show a ≠ b from fun e => h2 (by rw [← Hna.out, ← Hnb.out, e]))
    go_wp2_with fail
    go_ret
    exact ⟨false, rfl, same_noS Hne.out, by rw [← Hwa.out, ← Hwb.out]; exact HB0.out⟩
  subst h2
  have Hff := Lib.hid (show a.frm = b.frm by rw [Hfa.out, Hfb.out])
  go_wp2_with fail
  rw [← Hwa.out, ← Hwb.out]
  refine HS.out.mono ?_
  rintro e w2 ⟨r, rfl, hr, hb2⟩
  have Hr := Lib.hid hr; have Hb2 := Lib.hid hb2
  clear HS hr hb2 c0 c1 c2 c3 c4 d0 d1 d2 d3 d4
  cases r with
  | false =>
    have Hne := Lib.hid (show a ≠ b from fun e => by have := Hr.out.2 (by rw [e]); cases this)
    have Hb := Lib.hid (HR.out w2 Hb2.out).1
    go_wp2_with fail
    go_ret
    exact ⟨false, rfl, same_noS Hne.out, Hb.out⟩
  | true =>
    go_wp2_with fail
    go_loopw [5] (fun i wr => ∃ k : Nat, k ≤ na ∧ i = .int .i64 (k : Int) ∧ Below wxb.heap.size wxb wr ∧ ∀ j, j < k → a.seen[j]? = b.seen[j]?) (fun i _ => na - (intOf i).toNat)
    case atStart => exact ⟨0, by omega, rfl, Hb2.out, fun j hj => by omega⟩
    case round =>
      obtain ⟨k, hk, rfl, hbw, hall⟩ := hrel
      have Hall := Lib.hid hall; have Hbw := Lib.hid hbw
      clear hall hbw
      obtain ⟨hB, ka, kb, ma, mb⟩ := HR.out wr Hbw.out
      obtain ⟨-, c1, -⟩ := cell5 ka
      obtain ⟨-, d1, -⟩ := cell5 kb
      rw [Hzxa.out] at d1
      by_cases hkn : k < na
      · have hkI : (k : Int) < (na : Int) := by omega
        have hka : k < a.seen.length := by rw [Hna.out]; exact hkn
        have hkb : k < b.seen.length := by rw [Hnb.out]; exact hkn
        have ras := ma.seen
        have rbs := mb.seen
        rw [← Hna.out] at ras
        obtain ⟨ba, offa, rfl, -, -, hca⟩ := int_cell ras (by omega)
        rw [show na = b.seen.length from Hnb.out.symm] at rbs
        obtain ⟨bb, offb, rfl, -, -, hcb⟩ := int_cell rbs (by omega)
        have ea := hca k hka
        have eb := hcb k hkb
        obtain ⟨qa, hqa⟩ : ∃ q, a.seen[k] = q := ⟨_, rfl⟩
        obtain ⟨qb, hqb⟩ : ∃ q, b.seen[k] = q := ⟨_, rfl⟩
        rw [hqa] at ea
        rw [hqb] at eb
        have Hqa := Lib.hid hqa; have Hqb := Lib.hid hqb; have HB := Lib.hid hB
        clear hca hcb hqa hqb ras rbs ka kb ma mb hB
        by_cases he : qa = qb
        · have d1' : (qa != qb) = false := by simp [he]
          go_wp2_with fail
          go_quiet (fail)
          go_wp2_with fail
          go_roundw
          case rel => exact ⟨k + 1, by omega, by go_num, kept_drewN Hbw.out _, fun j hj => by
            rcases Nat.lt_succ_iff_lt_or_eq.1 hj with h | h
            · exact Hall.out j h
            · subst h; rw [List.getElem?_eq_getElem hka, List.getElem?_eq_getElem hkb, Hqa.out, Hqb.out, he]⟩
          case measure => simp [intOf]; omega
        · have d1' : (qa != qb) = true := by simp [he]
          have Hne := Lib.hid (show a ≠ b from fun e => he (by subst e; rw [← Hqa.out, ← Hqb.out]))
          go_wp2_with fail
          go_quiet (fail)
          go_wp2_with fail
          go_ret
          exact ⟨false, rfl, same_noS Hne.out, kept_drewN HB.out _⟩
      · have hkI : ¬ (k : Int) < (na : Int) := by omega
        have He := Lib.hid (show a = b by
          have e1 : a.seen = b.seen := List.ext_getElem? fun j => by
            by_cases hj : j < k
            · exact Hall.out j hj
            · rw [List.getElem?_eq_none (by rw [Hna.out]; omega), List.getElem?_eq_none (by rw [Hnb.out]; omega)]
          have e2 := Hff.out
          have e3 : a.tell = b.tell := by have := Hr.out; simpa using this
          cases a; cases b
          simp_all)
        have HB := Lib.hid hB
        clear ka kb ma mb hB
        go_wp2_with fail
        go_ret
        exact ⟨true, rfl, ⟨fun _ => He.out, fun _ => rfl⟩, HB.out⟩
end Go.Proofs.YtkkacnfpdafadaaGreatDoor

namespace Go.Proofs.YtkkacnfpdafadaaGreatDoor
open Go.RowKit Go.Lib
set_option linter.unusedVariables false
set_option maxRecDepth 20000

/-! maps of the program in variables -/
def MB (W : World) (O : Nat) (m : RMap) : Prop := ∃ s1 e1 s2 e2 s3 e3, Blk W O [.slice s1 m.seen.length e1, .slice s2 m.items.length e2, .slice s3 m.gone.length e3] 31 ∧ MapIn (fun q => q < W.heap.size) W (.slice s1 m.seen.length e1) (.slice s2 m.items.length e2) (.slice s3 m.gone.length e3) m
theorem MB.keep {W W' : World} {O : Nat} {m : RMap} (h : MB W O m) (hb : Below W.heap.size W W') : MB W' O m := by
  obtain ⟨s1, e1, s2, e2, s3, e3, h1, h2⟩ := h
  exact ⟨s1, e1, s2, e2, s3, e3, h1.keep (hb.block _ h1.lt), (h2.keep (w' := W') fun q hq _ => hb.block q hq).mono fun q hq _ => Nat.lt_of_lt_of_le hq hb.size⟩
def Has (L : List (Nat × RMap)) (W : World) : Prop := ∀ p ∈ L, MB W p.1 p.2
theorem Has.keep {L : List (Nat × RMap)} {W W' : World} (h : Has L W) (hb : Below W.heap.size W W') : Has L W' := fun p hp => (h p hp).keep hb
theorem Has.cons {L : List (Nat × RMap)} {W : World} (h : Has L W) {O : Nat} {m : RMap} (hm : MB W O m) : Has ((O, m) :: L) W := fun p hp => by
  rcases List.mem_cons.1 hp with rfl | hp
  · exact hm
  · exact h p hp
theorem Has.get {L : List (Nat × RMap)} {W : World} (h : Has L W) (O : Nat) (m : RMap) (hp : (O, m) ∈ L) : MB W O m := h _ hp
theorem Has.nil (W : World) : Has [] W := nofun

end Go.Proofs.YtkkacnfpdafadaaGreatDoor

namespace Go.Proofs.YtkkacnfpdafadaaGreatDoor
open Go.RowKit Go.Lib
set_option linter.unusedVariables false
set_option maxRecDepth 20000

def MBS (W : World) (O : Nat) (x : SMsg) : Prop := ∃ s0 e0 s1 e1 s2 e2 s3 e3, Blk W O [.int .i64 x.frm, .slice s0 x.seen.length e0, .slice s1 x.tell.seen.length e1, .slice s2 x.tell.items.length e2, .slice s3 x.tell.gone.length e3] 39 ∧
  MsgIn (fun q => q < W.heap.size) W (.slice s0 x.seen.length e0) (.slice s1 x.tell.seen.length e1) (.slice s2 x.tell.items.length e2) (.slice s3 x.tell.gone.length e3) x
theorem MBS.keep {W W' : World} {O : Nat} {x : SMsg} (h : MBS W O x) (hb : Below W.heap.size W W') : MBS W' O x := by
  obtain ⟨s0, e0, s1, e1, s2, e2, s3, e3, h1, h2⟩ := h
  exact ⟨s0, e0, s1, e1, s2, e2, s3, e3, h1.keep (hb.block _ h1.lt), (h2.keep (w' := W') fun q hq _ => hb.block q hq).mono fun q hq _ => Nat.lt_of_lt_of_le hq hb.size⟩
def HasS (L : List (Nat × SMsg)) (W : World) : Prop := ∀ p ∈ L, MBS W p.1 p.2
theorem HasS.keep {L : List (Nat × SMsg)} {W W' : World} (h : HasS L W) (hb : Below W.heap.size W W') : HasS L W' := fun p hp => (h p hp).keep hb
theorem HasS.cons {L : List (Nat × SMsg)} {W : World} (h : HasS L W) {O : Nat} {m : SMsg} (hm : MBS W O m) : HasS ((O, m) :: L) W := fun p hp => by
  rcases List.mem_cons.1 hp with rfl | hp
  · exact hm
  · exact h p hp
theorem HasS.get {L : List (Nat × SMsg)} {W : World} (h : HasS L W) (O : Nat) (m : SMsg) (hp : (O, m) ∈ L) : MBS W O m := h _ hp
theorem HasS.nil (W : World) : HasS [] W := nofun
def NonePost (w : World) (e : Ending) (w' : World) : Prop := ∃ v, e = .returned v ∧ v = .slice (some ⟨w.heap.size, 0, none⟩) 8 8 ∧ Blk w' w.heap.size ((List.replicate 8 (0 : Int)).map eI) 3 ∧ Below w.heap.size w w'
section
attribute [local go_sem ↓] seal_make
set_option maxHeartbeats 1000000 in
theorem none_any (w : World) : Calls Tryz.prog 36 #[] w (NonePost w) := by
  obtain ⟨i0, q1, q2, q3, q4⟩ := info_parts infoI
  obtain ⟨w2, hr, hown, hgb⟩ := run_make_full (P := Tryz.prog) w w.heap.size 22 3 i0 _ 1 Tryz.underlying22 q1 q2 q3 .i64 .i64 8 (by rw [q4]; omega) (by unfold maxLen; omega) (by omega)
  have hr' : (MK 22 (.int .i64 8) (.int .i64 8)).run Tryz.prog w = .ok (.slice (some ⟨w.heap.size, 0, none⟩) 8 8) w2 := hr
  rw [made8] at hown
  have hS : Blk w2 w.heap.size ((List.replicate 8 (0 : Int)).map eI) 3 := by
    rcases hown.2 with ⟨h0, -⟩ | ⟨g, cap, cur, hv, hb, hg, hc, hm, hs, ht⟩
    · simp at h0
    · simp at hv
      obtain ⟨rfl, rfl⟩ := hv
      unfold Blk
      rw [hg]
      have hl : cur.toList.length = 8 := by simpa using hs
      rw [List.take_of_length_le (by omega)] at ht
      have : cur = ((List.replicate 8 (0 : Int)).map eI).toArray := by
        apply Array.toList_inj.1
        rw [ht]
      rw [this]
  have hb2 : Below w.heap.size w w2 := (Below.refl w.heap.size w).grown hgb (by omega) (by simp)
  have HS := Lib.hid hS; have Hb2 := Lib.hid hb2
  clear hr hown hgb hS hb2 q1 q2 q3 q4
  go_enter Tryz.func36, Tryz.ntmps36
  go_wp2_with fail
  go_ret
  exact ⟨_, rfl, rfl, HS.out, Hb2.out⟩
end
end Go.Proofs.YtkkacnfpdafadaaGreatDoor

namespace Go.Proofs.YtkkacnfpdafadaaGreatDoor
open Go.RowKit Go.Sort
set_option linter.unusedVariables false
set_option maxRecDepth 20000
attribute [local go_sem] opC upC

theorem since_cases (m : RMap) (s : List Int) : (sinceR m s = (sinceF m s, 0) ∧ validR m = true ∧ Knows s) ∨ sinceR m s = (.empty, 5) := by
  unfold sinceR
  by_cases h : (validR m && knowsR s) = true
  · rw [if_pos h]
    simp only [Bool.and_eq_true] at h
    exact .inl ⟨rfl, h.1, (knows_iff s).1 h.2⟩
  · rw [if_neg h]; exact .inr rfl
set_option maxRecDepth 100000 in
set_option maxHeartbeats 4000000 in
theorem send_any (w : World) (hT : Tabs w) (h3 : 3 ≤ w.heap.size) (F G : Blks) (d : Int) (v : Value) (m : RMap) (h : MapV F w v m) (hki : ∀ x ∈ m.items, x.key.length ≤ 1000000) (hkg : ∀ x ∈ m.gone, x.key.length ≤ 1000000) (sv : Value) (s : List Int) (hs : Rows G w 1 sv s.length (s.map eI)) :
    Calls Tryz.prog 16 #[.int .i64 d, v, sv] w (MPost w (sendR d m s)) := by
  replace h := h.mono (G := fun q => q < w.heap.size) fun q _ hlt => hlt
  replace hs := hs.mono (G := fun q => q < w.heap.size) fun q _ hlt => hlt
  obtain ⟨s1, s2, s3, rfl, h⟩ := h
  obtain ⟨a1, p1, rfl, -⟩ := h.seen.shape
  obtain ⟨a2, p2, rfl, -⟩ := h.items.shape
  obtain ⟨a3, p3, rfl, -⟩ := h.gone.shape
  obtain ⟨wx, hwx⟩ : ∃ wx, wx = w.alloc (.cells #[.slice a1 m.seen.length p1, .slice a2 m.items.length p2, .slice a3 m.gone.length p3] 31) := ⟨_, rfl⟩
  have hbx : Below w.heap.size w wx := by rw [hwx]; exact kept_alloc _ _
  have hzx : wx.heap.size = w.heap.size + 1 := by rw [hwx]; simp
  have hx := h.keep (w' := wx) fun b _ hlt => hbx.block b hlt
  have hnx : Blk wx w.heap.size [.slice a1 m.seen.length p1, .slice a2 m.items.length p2, .slice a3 m.gone.length p3] 31 := by rw [hwx]; exact Blk.new _ _ _
  have Hx := Lib.hid hx
  have Hwx := Lib.hid hwx; have Hbx := Lib.hid hbx; have Hzx := Lib.hid hzx
  have Hnx := Lib.hid hnx
  clear hx hwx hbx hnx hzx h
  obtain ⟨al, cl, rfl, -⟩ := hs.shape
  obtain ⟨w2, hw2⟩ : ∃ w2, w2 = wx.alloc (.cells #[.int .i64 0, .slice none 0 0, .slice none 0 0, .slice none 0 0, .slice none 0 0] 39) := ⟨_, rfl⟩
  have hz2 : w2.heap.size = w.heap.size + 2 := by rw [hw2]; simp [Hzx.out]
  have hb2 : Below w.heap.size w w2 := by rw [hw2]; exact Hbx.out.alloc Hbx.out.size _
  have km : Blk w2 w.heap.size [.slice a1 m.seen.length p1, .slice a2 m.items.length p2, .slice a3 m.gone.length p3] 31 := by rw [hw2]; exact Hnx.out.alloc _
  have k2 : Blk w2 (w.heap.size + 1) [.int .i64 0, .slice none 0 0, .slice none 0 0, .slice none 0 0, .slice none 0 0] 39 := by
    have := Blk.new wx #[.int .i64 0, .slice none 0 0, .slice none 0 0, .slice none 0 0, .slice none 0 0] 39
    rw [← hw2, Hzx.out] at this
    exact this
  have hMx := Hx.out
  have HR := Lib.hid (show ∀ W, Below w2.heap.size w2 W → Below w.heap.size w W ∧ Blk W (w.heap.size + 1) [.int .i64 0, .slice none 0 0, .slice none 0 0, .slice none 0 0, .slice none 0 0] 39 ∧ Rows (fun q => q < w.heap.size) W 1 (.slice al s.length cl) s.length (s.map eI) from fun W hW => by
    have hB : Below w.heap.size w W := hb2.trans (hW.mono (by omega))
    exact ⟨hB, k2.keep (hW.block _ k2.lt), hs.keep (w' := W) fun q hq _ => hB.block q hq⟩)
  have HS := Lib.hid (since_any w2 (tabs_below hT h3 hb2) (Nat.le_trans h3 hb2.size) _ _ (.agg #[.slice a1 m.seen.length p1, .slice a2 m.items.length p2, .slice a3 m.gone.length p3]) m ⟨_, _, _, rfl, hMx.keep (w' := w2) fun q hq _ => (hb2.block q hq).trans (Hbx.out.block q hq).symm⟩ hki hkg (.slice al s.length cl) s (HR.out w2 (Below.refl _ _)).2.2)
  have Hw2 := Lib.hid hw2
  have Hz2 := Lib.hid hz2
  obtain ⟨c0, c1, c2⟩ := cell3 km
  obtain ⟨dk, hdk⟩ : ∃ dk, devOk d = dk := ⟨_, rfl⟩
  have HI := Lib.hid (isDev_any w2 d)
  rw [hdk] at HI
  have Hdk := Lib.hid hdk
  have hk2 := k2
  clear hw2 hz2 hb2 km k2 hT hs hki hkg hdk hMx
  go_enter Tryz.func16, Tryz.ntmps16
  go_wp2_with fail
  rw [← Hwx.out, ← Hw2.out]
  refine HI.out.mono ?_
  rintro e w3 ⟨rfl, rfl⟩
  clear HI
  cases dk with
  | false =>
    have Hu := Lib.hid (show sendR d m s = (.empty, 1) by unfold sendR; rw [Hdk.out]; rfl)
    have hbel := (HR.out w2 (Below.refl _ _)).1
    clear c0 c1 c2
    obtain ⟨wf, hwf, hblk, hbf⟩ := fin5 hk2 hbel (by omega) (.int .i64 0) (.slice none 0 0) (.slice none 0 0) (.slice none 0 0) (.slice none 0 0)
    obtain ⟨y0, y1, y2, y3, y4⟩ := cell5 hk2
    have z0 := hk2.free 0
    have z1 := hk2.free 1
    have z2 := hk2.free 2
    have z3 := hk2.free 3
    have z4 := hk2.free 4
    have Q := Lib.hid (cell5 hblk)
    have Hbf := Lib.hid hbf; have Hwf := Lib.hid hwf
    clear hwf hblk hbf
    go_wp2_with fail
    rw [← Hwf.out]
    obtain ⟨q0, q1, q2, q3, q4⟩ := Q.out
    exact bodyPost_ret (v := .tuple #[nilM, .int .i64 1]) (by simp [results, Tryz.results16, go_sem, q0, q1, q2, q3, q4, nilM]) rfl ⟨⟨_, by rw [Hu.out], by rw [Hu.out]; exact ownM_nil _ _, by rw [Hu.out]; exact bndS_empty⟩, Hbf.out⟩
  | true =>
    have hdd : 0 ≤ d ∧ d < 8 := by have := Hdk.out; unfold devOk at this; simpa using this
    have Hdd := Lib.hid hdd
    rcases since_cases m s with ⟨hsr, hvm, hkn⟩ | hsr
    · have Hu := Lib.hid (show sendR d m s = (⟨d, s, sinceF m s⟩, 0) by unfold sendR; rw [Hdk.out, hsr]; rfl)
      rw [hsr] at HS
      have Hkn := Lib.hid hkn
      clear hsr hvm hkn hdd hk2
      go_wp2_with fail
      refine HS.out.mono ?_
      rintro e w3 ⟨⟨r, rfl, ⟨t1, t2, t3, rfl, ho⟩, hbd⟩, hb3⟩
      obtain ⟨b1, e1, rfl⟩ := own_shape ho.seen
      obtain ⟨b2, e2, rfl⟩ := own_shape ho.items
      obtain ⟨b3, e3, rfl⟩ := own_shape ho.gone
      dsimp only at ho hbd
      obtain ⟨w4, hw4⟩ : ∃ q, q = w3.alloc (.cells #[.slice b1 (sinceF m s).seen.length e1, .slice b2 (sinceF m s).items.length e2, .slice b3 (sinceF m s).gone.length e3] 31) := ⟨_, rfl⟩
      have hk4 : Below w3.heap.size w3 w4 := by rw [hw4]; exact kept_alloc _ _
      have kt : Blk w4 w3.heap.size [.slice b1 (sinceF m s).seen.length e1, .slice b2 (sinceF m s).items.length e2, .slice b3 (sinceF m s).gone.length e3] 31 := by rw [hw4]; exact Blk.new _ _ _
      have ho4 := ho.below hk4
      have hL4 : Below w2.heap.size w2 w4 := hb3.trans (hk4.mono hb3.size)
      have p0 : ∀ W, Later w4.drew W → W.cell? _ = _ := fun W hh => laterC (cell3 kt).1 hh
      have p1' : ∀ W, Later w4.drew W → W.cell? _ = _ := fun W hh => laterC (cell3 kt).2.1 hh
      have p2' : ∀ W, Later w4.drew W → W.cell? _ = _ := fun W hh => laterC (cell3 kt).2.2 hh
      have HC := Lib.hid (cloneI_any w4.drew _ (.slice al s.length cl) s ((HR.out w4 hL4).2.2.keep (w' := w4.drew) fun _ _ _ => rfl) (by have := Hkn.out.len; omega))
      have HL4 := Lib.hid hL4; have Ho4 := Lib.hid ho4; have Hbd := Lib.hid hbd; have Hw4 := Lib.hid hw4
      clear hk4 kt ho4 hL4 hw4 ho hbd hb3 HS c0 c1 c2
      go_wp2_with fail
      rw [← Hw4.out]
      refine wp_region_canL Later 5 [(0, true), (1, true), (3, true), (2, false), (4, true), (5, false), (6, true)] (by kernel_rfl) (by kernel_rfl) (by kernel_rfl) later_refl later_trans ?_
      repeat (refine canL_yes (v := ?_) rfl (wanted_none rfl) (fun w' hC => ?_) (fun K hK => ?_); rotate_left; (focus (go_simp; first | done | exact rfl)); go_simp; refine hK _ ?_; clear hK K)
      refine canL_go rfl rfl (fun KK hK => ?_)
      go_simp
      refine HC.out.mono ?_
      rintro e w5 ⟨r5, rfl, ho5, hb5⟩
      obtain ⟨b5, d5, rfl⟩ := own_shape ho5
      refine ⟨_, rfl, hb5, hK _ _ ?_⟩
      clear hK KK HC
      go_simp
      have hL5 : Below w2.heap.size w2 w5 := HL4.out.drew.trans (hb5.mono HL4.out.size)
      obtain ⟨hbel, kr, -⟩ := HR.out w5 hL5
      have hs2 : w.heap.size ≤ w2.heap.size := by have := Hz2.out; omega
      have hs4 : w2.heap.size ≤ w4.heap.size := HL4.out.size
      have hom : OwnMsg w5 w.heap.size (.slice b5 s.length d5) (.slice b1 (sinceF m s).seen.length e1) (.slice b2 (sinceF m s).items.length e2) (.slice b3 (sinceF m s).gone.length e3) ⟨d, s, sinceF m s⟩ := ⟨own_base ho5 (Nat.le_trans hs2 hs4), (Ho4.out.below ((Below.refl w4.heap.size w4).drew.trans hb5)).mono hs2⟩
      obtain ⟨wf, hwf, hblk, hbf⟩ := fin5 kr hbel (by omega) (.int .i64 d) (.slice b5 s.length d5) (.slice b1 (sinceF m s).seen.length e1) (.slice b2 (sinceF m s).items.length e2) (.slice b3 (sinceF m s).gone.length e3)
      obtain ⟨y0, y1, y2, y3, y4⟩ := cell5 kr
      have z0 := kr.free 0
      have z1 := kr.free 1
      have z2 := kr.free 2
      have z3 := kr.free 3
      have z4 := kr.free 4
      have Q := Lib.hid (cell5 hblk)
      have Hof := Lib.hid (hom.fin kr (by decide) (by decide) (by decide) hwf)
      have Hbf := Lib.hid hbf; have Hwf := Lib.hid hwf
      clear hwf hblk hbf kr hbel hom hb5 hL5 ho5 hs2 hs4
      repeat (refine canL_yes (v := ?_) rfl (wanted_none rfl) (fun w' hC => ?_) (fun K hK => ?_); rotate_left; (focus (go_simp; first | done | exact rfl)); go_simp; refine hK _ ?_; clear hK K)
      clear p0 p1' p2'
      refine canL_last rfl rfl rfl (fun KK hK => ?_)
      go_simp
      rw [← Hwf.out]
      refine hK _ _ ?_
      clear hK KK y0 y1 y2 y3 y4 z0 z1 z2 z3 z4
      go_simp
      repeat (refine canL_yes (v := ?_) rfl (wanted_none rfl) (fun w' hC => ?_) (fun K hK => ?_); rotate_left; (focus (go_simp; first | done | exact rfl)); go_simp; refine hK _ ?_; clear hK K)
      refine canL_nil ?_
      go_wp2_with fail
      obtain ⟨q0, q1, q2, q3, q4⟩ := Q.out
      exact bodyPost_ret (v := .tuple #[.agg #[.int .i64 d, .slice b5 s.length d5, .slice b1 (sinceF m s).seen.length e1, .slice b2 (sinceF m s).items.length e2, .slice b3 (sinceF m s).gone.length e3], .int .i64 0]) (by simp [results, Tryz.results16, go_sem, q0, q1, q2, q3, q4]) rfl
        ⟨⟨_, by rw [Hu.out], by rw [Hu.out]; exact ⟨_, _, _, _, rfl, Hof.out⟩, by rw [Hu.out]; exact ⟨by have := Hdd.out; unfold i64ok; dsimp only; omega, fun n hn => by have := Hkn.out.num n hn; unfold i64ok; omega, Hbd.out⟩⟩, Hbf.out⟩
    · have Hu := Lib.hid (show sendR d m s = (.empty, 5) by unfold sendR; rw [Hdk.out, hsr]; rfl)
      rw [hsr] at HS
      clear hsr hdd hk2
      go_wp2_with fail
      refine HS.out.mono ?_
      rintro e w3 ⟨⟨r, rfl, ⟨t1, t2, t3, rfl, ho⟩, hbd⟩, hb3⟩
      obtain ⟨w4, hw4⟩ : ∃ q, q = w3.alloc (.cells #[t1, t2, t3] 31) := ⟨_, rfl⟩
      obtain ⟨b1, e1, rfl⟩ := own_shape ho.seen
      obtain ⟨b2, e2, rfl⟩ := own_shape ho.items
      obtain ⟨b3, e3, rfl⟩ := own_shape ho.gone
      have hL4 : Below w2.heap.size w2 w4 := by rw [hw4]; exact hb3.alloc hb3.size _
      obtain ⟨hbel, kr, -⟩ := HR.out w4 hL4
      have Hw4 := Lib.hid hw4
      obtain ⟨wf, hwf, hblk, hbf⟩ := fin5 kr hbel (by omega) (.int .i64 0) (.slice none 0 0) (.slice none 0 0) (.slice none 0 0) (.slice none 0 0)
      obtain ⟨y0, y1, y2, y3, y4⟩ := cell5 kr
      have z0 := kr.free 0
      have z1 := kr.free 1
      have z2 := kr.free 2
      have z3 := kr.free 3
      have z4 := kr.free 4
      have Q := Lib.hid (cell5 hblk)
      rw [hw4] at hwf y0 y1 y2 y3 y4 z0 z1 z2 z3 z4
      have Hbf := Lib.hid hbf; have Hwf := Lib.hid hwf
      clear hwf hblk hbf hL4 ho hbd hb3 HS c0 c1 c2 kr hbel hw4
      go_wp2_with fail
      rw [← Hwf.out]
      obtain ⟨q0, q1, q2, q3, q4⟩ := Q.out
      exact bodyPost_ret (v := .tuple #[nilM, .int .i64 5]) (by simp [results, Tryz.results16, go_sem, q0, q1, q2, q3, q4, nilM]) rfl ⟨⟨_, by rw [Hu.out], by rw [Hu.out]; exact ownM_nil _ _, by rw [Hu.out]; exact bndS_empty⟩, Hbf.out⟩
end Go.Proofs.YtkkacnfpdafadaaGreatDoor
