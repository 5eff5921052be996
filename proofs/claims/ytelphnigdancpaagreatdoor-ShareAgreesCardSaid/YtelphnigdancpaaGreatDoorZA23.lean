/-
  RHas SHas SKnow ShelfB
-/
import Derived.Test.YtelphnigdancpaaGreatDoorZA22
import Derived.Test.YtelphnigdancpaaGreatDoorZA12
import Derived.Test.YtelphnigdancpaaGreatDoorZA20
import Derived.Test.YtelphnigdancpaaGreatDoorZA03
import Derived.Shelf.Small.Bits
import Derived.Shelf.Small.Wraps
import Derived.Shelf.Strconv.Itoa0
import Derived.Shelf.Strings.Search1
import Derived.Shelf.Strings.Search2
import Derived.Shelf.Strings.Cut
import Derived.Shelf.LaysM
import Derived.Shelf.Strings.Shaped
import Derived.Shelf.Sort.Plain
import Derived.Shelf.GgClosure.StringsIndexFunc
import Derived.Ground.GgwProg
import Derived.Shelf.GgClosure.StringsIndexFuncTop
import Derived.Shelf.GgClosure.StringsRunes
import Derived.Shelf.Strings.FuncGrows
import Derived.Shelf.Slices.CompactS
import Derived.Shelf.Slices.In.SortNone
import Derived.Shelf.Spec.SearchS
import Derived.Ground.Names2Prog
import Derived.Test.YtelphnigdancpaaGreatDoorProg
namespace Go.Proofs.YtelphnigdancpaaGreatDoor
open Go.RowKit Go.Lib
set_option linter.unusedVariables false
set_option maxRecDepth 20000

def KeysM (m : RMap) : Prop := (∀ x ∈ m.items, x.key.length ≤ 1000000) ∧ ∀ x ∈ m.gone, x.key.length ≤ 1000000
theorem valid_keys {m : RMap} (h : validR m = true) : KeysM m := by
  obtain ⟨-, h2, h3⟩ := valid_nums h
  exact ⟨fun x hx => by have := (h2 x hx).1; omega, fun x hx => by have := (h3 x hx).1; omega⟩
/-! maps of the program in variables -/
def MB (W : World) (O : Nat) (m : RMap) : Prop := ∃ s1 e1 s2 e2 s3 e3, Blk W O [.slice s1 m.seen.length e1, .slice s2 m.items.length e2, .slice s3 m.gone.length e3] 31 ∧ MapIn (fun q => q < W.heap.size) W (.slice s1 m.seen.length e1) (.slice s2 m.items.length e2) (.slice s3 m.gone.length e3) m
theorem MB.keep {W W' : World} {O : Nat} {m : RMap} (h : MB W O m) (hb : Below W.heap.size W W') : MB W' O m := by
  obtain ⟨s1, e1, s2, e2, s3, e3, h1, h2⟩ := h
  exact ⟨s1, e1, s2, e2, s3, e3, h1.keep (hb.block _ h1.lt), (h2.keep (w' := W') fun q hq _ => hb.block q hq).mono fun q hq _ => Nat.lt_of_lt_of_le hq hb.size⟩
def Has (L : List (Nat × RMap)) (W : World) : Prop := ∀ p ∈ L, MB W p.1 p.2
theorem Has.keep {L : List (Nat × RMap)} {W W' : World} (h : Has L W) (hb : Below W.heap.size W W') : Has L W' := fun p hp => (h p hp).keep hb
theorem Has.cons {L : List (Nat × RMap)} {W : World} (h : Has L W) {O : Nat} {m : RMap} (hm : MB W O m) : Has ((O, m) :: L) W := fun p hp => by
  rcases List.mem_cons.1 hp with rfl | hp
  · exact hm
  · exact h p hp
theorem Has.get {L : List (Nat × RMap)} {W : World} (h : Has L W) (O : Nat) (m : RMap) (hp : (O, m) ∈ L) : MB W O m := h _ hp
theorem Has.nil (W : World) : Has [] W := nofun

end Go.Proofs.YtelphnigdancpaaGreatDoor

namespace Go.Proofs.YtelphnigdancpaaGreatDoor
open Go.RowKit Go.Lib
set_option linter.unusedVariables false
set_option maxRecDepth 20000

def MBS (W : World) (O : Nat) (x : SMsg) : Prop := ∃ s0 e0 s1 e1 s2 e2 s3 e3, Blk W O [.int .i64 x.frm, .slice s0 x.seen.length e0, .slice s1 x.tell.seen.length e1, .slice s2 x.tell.items.length e2, .slice s3 x.tell.gone.length e3] 39 ∧
  MsgIn (fun q => q < W.heap.size) W (.slice s0 x.seen.length e0) (.slice s1 x.tell.seen.length e1) (.slice s2 x.tell.items.length e2) (.slice s3 x.tell.gone.length e3) x
theorem MBS.keep {W W' : World} {O : Nat} {x : SMsg} (h : MBS W O x) (hb : Below W.heap.size W W') : MBS W' O x := by
  obtain ⟨s0, e0, s1, e1, s2, e2, s3, e3, h1, h2⟩ := h
  exact ⟨s0, e0, s1, e1, s2, e2, s3, e3, h1.keep (hb.block _ h1.lt), (h2.keep (w' := W') fun q hq _ => hb.block q hq).mono fun q hq _ => Nat.lt_of_lt_of_le hq hb.size⟩
def HasS (L : List (Nat × SMsg)) (W : World) : Prop := ∀ p ∈ L, MBS W p.1 p.2
theorem HasS.keep {L : List (Nat × SMsg)} {W W' : World} (h : HasS L W) (hb : Below W.heap.size W W') : HasS L W' := fun p hp => (h p hp).keep hb
theorem HasS.cons {L : List (Nat × SMsg)} {W : World} (h : HasS L W) {O : Nat} {m : SMsg} (hm : MBS W O m) : HasS ((O, m) :: L) W := fun p hp => by
  rcases List.mem_cons.1 hp with rfl | hp
  · exact hm
  · exact h p hp
theorem HasS.get {L : List (Nat × SMsg)} {W : World} (h : HasS L W) (O : Nat) (m : SMsg) (hp : (O, m) ∈ L) : MBS W O m := h _ hp
theorem HasS.nil (W : World) : HasS [] W := nofun
def NonePost (w : World) (e : Ending) (w' : World) : Prop := ∃ v, e = .returned v ∧ v = .slice (some ⟨w.heap.size, 0, none⟩) 8 8 ∧ Blk w' w.heap.size ((List.replicate 8 (0 : Int)).map eI) 3 ∧ Below w.heap.size w w'
section
attribute [local go_sem ↓] seal_make
set_option maxHeartbeats 1000000 in
theorem none_any (w : World) : Calls Tryz.prog 36 #[] w (NonePost w) := by
  obtain ⟨i0, q1, q2, q3, q4⟩ := info_parts infoI
  obtain ⟨w2, hr, hown, hgb⟩ := run_make_full (P := Tryz.prog) w w.heap.size 22 3 i0 _ 1 Tryz.underlying22 q1 q2 q3 .i64 .i64 8 (by rw [q4]; omega) (by unfold maxLen; omega) (by omega)
  have hr' : (MK 22 (.int .i64 8) (.int .i64 8)).run Tryz.prog w = .ok (.slice (some ⟨w.heap.size, 0, none⟩) 8 8) w2 := hr
  rw [made8] at hown
  have hS : Blk w2 w.heap.size ((List.replicate 8 (0 : Int)).map eI) 3 := by
    rcases hown.2 with ⟨h0, -⟩ | ⟨g, cap, cur, hv, hb, hg, hc, hm, hs, ht⟩
    · simp at h0
    · simp at hv
      obtain ⟨rfl, rfl⟩ := hv
      unfold Blk
      rw [hg]
      have hl : cur.toList.length = 8 := by simpa using hs
      rw [List.take_of_length_le (by omega)] at ht
      have : cur = ((List.replicate 8 (0 : Int)).map eI).toArray := by
        apply Array.toList_inj.1
        rw [ht]
      rw [this]
  have hb2 : Below w.heap.size w w2 := (Below.refl w.heap.size w).grown hgb (by omega) (by simp)
  have HS := Lib.hid hS; have Hb2 := Lib.hid hb2
  clear hr hown hgb hS hb2 q1 q2 q3 q4
  go_enter Tryz.func36, Tryz.ntmps36
  go_wp2_with fail
  go_ret
  exact ⟨_, rfl, rfl, HS.out, Hb2.out⟩
end
end Go.Proofs.YtelphnigdancpaaGreatDoor

namespace Go.Proofs.YtelphnigdancpaaGreatDoor
open Go.RowKit Go.Sort
set_option linter.unusedVariables false
set_option maxRecDepth 20000
attribute [local go_sem ↓] seal_append
attribute [local go_sem] opC upC

set_option maxHeartbeats 1000000 in
theorem know1_any (w : World) (n : Int) :
    Calls Tryz.prog 83 #[.int .i64 n] w fun e w' => e = .returned (.bool (!seenOk n)) ∧ Below w.heap.size w w' := by
  by_cases h0 : n < 0
  · have Hr := Lib.hid (show seenOk n = false by unfold seenOk; simp; omega)
    have d0 : decide (n < 0) = true := by simpa using h0
    go_enter Tryz.func83, Tryz.ntmps83
    go_wp2_with fail
    go_ret
    exact ⟨by rw [Hr.out]; rfl, Below.refl _ _⟩
  have d0 : decide (n < 0) = false := by simpa using h0
  by_cases h1 : n > 1099511627776
  · have Hr := Lib.hid (show seenOk n = false by unfold seenOk; simp; omega)
    have d1 : decide (n > 1099511627776) = true := by simpa using h1
    have h1' : (1099511627776 : Int) < n := h1
    go_enter Tryz.func83, Tryz.ntmps83
    go_wp2_with fail
    go_ret
    exact ⟨by rw [Hr.out]; rfl, Below.refl _ _⟩
  · have Hr := Lib.hid (show seenOk n = true by unfold seenOk; simp; omega)
    have d1 : decide (n > 1099511627776) = false := by simpa using h1
    have h1' : ¬ (1099511627776 : Int) < n := h1
    go_enter Tryz.func83, Tryz.ntmps83
    go_wp2_with fail
    go_ret
    exact ⟨by rw [Hr.out]; rfl, Below.refl _ _⟩
set_option maxHeartbeats 2000000 in
theorem indexKnow_any (w : World) (F : Blks) (v : Value) (l : List Int) (hv : Rows F w 1 v l.length (l.map eI)) (hl : l.length ≤ 1000000) :
    Calls Tryz.prog 119 #[v, .func (.func 83) #[] #[]] w fun e w' => (∃ i : Int, e = .returned (.int .i64 i) ∧ (0 ≤ i ↔ l.all seenOk = false) ∧ -1 ≤ i) ∧ Below w.heap.size w w' := by
  obtain ⟨n, hn⟩ : ∃ n, l.length = n := ⟨_, rfl⟩
  obtain ⟨a, cap, rfl, -⟩ := hv.shape
  have Hv := Lib.hid hv
  rw [hn] at hl ⊢
  have Hn := Lib.hid hn
  have H0 := Lib.hid (show Below w.heap.size w w from Below.refl _ _)
  clear hv hn
  go_enter Tryz.func119, Tryz.ntmps119
  go_wp2_with fail
  go_loopw [8] (fun i wr => ∃ k : Nat, k ≤ n ∧ i = .int .i64 (k : Int) ∧ Below w.heap.size w wr ∧ ∀ j (hj : j < l.length), j < k → seenOk l[j] = true) (fun i _ => n - (intOf i).toNat)
  case atStart => exact ⟨0, by omega, rfl, H0.out, fun j _ hj => by omega⟩
  case round =>
    obtain ⟨k, hk, rfl, hbw, hall⟩ := hrel
    have Hbw := Lib.hid hbw; have Hall := Lib.hid hall
    clear hbw hall
    by_cases hkn : k < n
    · have hkI : (k : Int) < (n : Int) := by omega
      have hkl : k < l.length := by rw [Hn.out]; exact hkn
      have hm := Hv.out.keep (w' := wr) fun b _ hlt => Hbw.out.block b hlt
      obtain ⟨b, off, rfl, -, -, hc⟩ := int_cell hm (by omega)
      have e0 := hc k hkl
      obtain ⟨x, hx⟩ : ∃ x, l[k] = x := ⟨_, rfl⟩
      rw [hx] at e0
      have V := Lib.hid (know1_any wr x)
      have Hx := Lib.hid hx
      obtain ⟨kk, hkk⟩ : ∃ kk, seenOk x = kk := ⟨_, rfl⟩
      rw [hkk] at V
      have Hkk := Lib.hid hkk
      clear hc hx hm hkk
      go_wp2_with fail
      refine V.out.mono ?_
      rintro e w1 ⟨rfl, hb1⟩
      have Hb1 := Lib.hid (Hbw.out.trans (hb1.mono Hbw.out.size))
      clear V hb1 e0
      cases kk with
      | true =>
        go_wp2_with fail
        go_roundw
        case rel => exact ⟨k + 1, by omega, by go_num, Hb1.out, fun j hj hjk => by
          rcases Nat.lt_succ_iff_lt_or_eq.1 hjk with h | h
          · exact Hall.out j hj h
          · subst h; rw [Hx.out]; exact Hkk.out⟩
        case measure => simp [intOf]; omega
      | false =>
        go_wp2_with fail
        go_ret
        refine ⟨⟨_, rfl, ⟨fun _ => ?_, fun _ => by omega⟩, by omega⟩, Hb1.out⟩
        rw [List.all_eq_false]
        exact ⟨l[k], List.getElem_mem hkl, by rw [Hx.out, Hkk.out]; simp⟩
    · have hkI : ¬ (k : Int) < (n : Int) := by omega
      have hall : l.all seenOk = true := by
        rw [List.all_eq_true]
        intro x hx
        obtain ⟨j, hj, rfl⟩ := List.mem_iff_getElem.1 hx
        exact Hall.out j hj (by rw [Hn.out] at hj; omega)
      have Hal := Lib.hid hall
      clear hall
      go_wp2_with fail
      go_ret
      exact ⟨⟨-1, rfl, ⟨fun h => by omega, fun h => by
        first
          | (rw [Hal.out] at h; cases h)
          | (obtain ⟨x, hx, hkx⟩ := h; have hz := List.all_eq_true.1 Hal.out x hx; simp [hkx] at hz)⟩, by omega⟩, Hbw.out⟩
set_option maxHeartbeats 1000000 in
theorem containsKnow_any (w : World) (F : Blks) (v : Value) (l : List Int) (hv : Rows F w 1 v l.length (l.map eI)) (hl : l.length ≤ 1000000) :
    Calls Tryz.prog 82 #[v, .func (.func 83) #[] #[]] w fun e w' => e = .returned (.bool (!l.all seenOk)) ∧ Below w.heap.size w w' := by
  have HI := Lib.hid (indexKnow_any w F v l hv hl)
  obtain ⟨a, cap, rfl, -⟩ := hv.shape
  obtain ⟨r, hr⟩ : ∃ r, l.all seenOk = r := ⟨_, rfl⟩
  rw [hr]
  obtain ⟨n, hn⟩ : ∃ n, l.length = n := ⟨_, rfl⟩
  rw [hn] at HI ⊢
  have Hr := Lib.hid hr
  clear hv hr hn
  go_enter Tryz.func82, Tryz.ntmps82
  go_wp2_with fail
  refine HI.out.mono ?_
  rintro e w1 ⟨⟨i, rfl, hi, -⟩, hb1⟩
  rw [Hr.out] at hi
  clear HI
  cases r with
  | true =>
    have hI : ¬ 0 ≤ i := fun h => by have := hi.1 h; cases this
    clear hi
    go_wp2_with fail
    go_ret
    exact ⟨ret_bool (by simpa using hI), hb1⟩
  | false =>
    have hI : 0 ≤ i := hi.2 rfl
    clear hi
    go_wp2_with fail
    go_ret
    exact ⟨ret_bool (by simp), hb1⟩
set_option maxHeartbeats 1000000 in
theorem knows_any (w : World) (F : Blks) (v : Value) (l : List Int) (hv : Rows F w 1 v l.length (l.map eI)) :
    Calls Tryz.prog 39 #[v] w fun e w' => e = .returned (.bool (knowsR l)) ∧ Below w.heap.size w w' := by
  obtain ⟨n, hn⟩ : ∃ n, l.length = n := ⟨_, rfl⟩
  have hv0 := hv
  obtain ⟨a, cap, rfl, -⟩ := hv.shape
  by_cases h8 : n = 8
  · subst h8
    have HC := Lib.hid (containsKnow_any w F _ l hv (by omega))
    obtain ⟨r, hr⟩ : ∃ r, l.all seenOk = r := ⟨_, rfl⟩
    have Hk := Lib.hid (show knowsR l = r by unfold knowsR; rw [hr, hn]; simp)
    rw [hr, hn] at HC
    rw [hn]
    clear hv hv0 hr hn
    go_enter Tryz.func39, Tryz.ntmps39
    go_wp2_with fail
    refine HC.out.mono ?_
    rintro e w1 ⟨rfl, hb1⟩
    clear HC
    cases r <;>
    · go_wp2_with fail
      go_ret
      exact ⟨by rw [Hk.out]; rfl, hb1⟩
  · have Hk := Lib.hid (show knowsR l = false by unfold knowsR; rw [hn]; simp [h8])
    have hI : ¬ (n : Int) = 8 := by omega
    have hI2 : ((n : Int) == 8) = false := by simpa using hI
    rw [hn]
    clear hv hv0 hn
    go_enter Tryz.func39, Tryz.ntmps39
    go_wp2_with fail
    go_ret
    exact ⟨by rw [Hk.out]; rfl, Below.refl _ _⟩
set_option maxHeartbeats 1000000 in
theorem isDev_any (w : World) (d : Int) :
    Calls Tryz.prog 48 #[.int .i64 d] w fun e w' => e = .returned (.bool (devOk d)) ∧ w = w' := by
  by_cases h0 : d < 0
  · have Hr := Lib.hid (show devOk d = false by unfold devOk; simp; omega)
    have h0' : ¬ d ≥ 0 := by omega
    have h0'' : ¬ 0 ≤ d := by omega
    go_enter Tryz.func48, Tryz.ntmps48
    go_wp2_with fail
    go_ret
    exact ⟨by rw [Hr.out]; first | done | rfl, rfl⟩
  have h0' : d ≥ 0 := by omega
  have h0'' : 0 ≤ d := by omega
  by_cases h8 : d < 8
  · have Hr := Lib.hid (show devOk d = true by unfold devOk; simp; omega)
    go_enter Tryz.func48, Tryz.ntmps48
    go_wp2_with fail
    go_ret
    exact ⟨by rw [Hr.out]; first | done | rfl, rfl⟩
  · have Hr := Lib.hid (show devOk d = false by unfold devOk; simp; omega)
    go_enter Tryz.func48, Tryz.ntmps48
    go_wp2_with fail
    go_ret
    exact ⟨by rw [Hr.out]; first | done | rfl, rfl⟩
end Go.Proofs.YtelphnigdancpaaGreatDoor

namespace Go.Proofs
open Go.Shelf
def Tryz.laysBSearch_ren : Go.Shelf.Ren := ⟨fun | 26 => 102 | 33 => 125 | 34 => 126 | 38 => 140 | n => n, fun | 24 => 89 | 9 => 9 | 3 => 3 | 4 => 4 | 40 => 151 | 0 => 0 | n => n, fun | n => n⟩
theorem Tryz.laysBSearch : Go.Proofs.Lays2.n26 Tryz.prog Tryz.laysBSearch_ren := {
  mixed := by kernel_rfl
  f26 := Tryz.func102.trans (congrArg some (by kernel_rfl))
  f33 := Tryz.func125.trans (congrArg some (by kernel_rfl))
  f34 := Tryz.func126.trans (congrArg some (by kernel_rfl))
  f38 := Tryz.func140.trans (congrArg some (by kernel_rfl))
  t0 := Tryz.underlying0
  a0 := Tryz.isAgg0
  z0 := Tryz.sizeOf0
  v0 := Tryz.zeroValue0
  t3 := Tryz.underlying3
  a3 := Tryz.isAgg3
  z3 := Tryz.sizeOf3
  v3 := Tryz.zeroValue3
  t4 := Tryz.underlying4
  a4 := Tryz.isAgg4
  z4 := Tryz.sizeOf4
  v4 := Tryz.zeroValue4
  t9 := Tryz.underlying9
  a9 := Tryz.isAgg9
  z9 := Tryz.sizeOf9
  v9 := Tryz.zeroValue9
  t24 := Tryz.underlying89
  a24 := Tryz.isAgg89
  z24 := Tryz.sizeOf89
  v24 := Tryz.zeroValue89
  t40 := Tryz.underlying151
  a40 := Tryz.isAgg151
  z40 := Tryz.sizeOf151
  v40 := Tryz.zeroValue151 }
end Go.Proofs
