/-
  Keys
-/
import Derived.Test.YtohahloghmanpaaGreatDoorChecked
import Derived.Test.YtohahloghmanpaaGreatDoorZB13
import Derived.Test.YtohahloghmanpaaGreatDoorZB05
import Derived.Test.YtohahloghmanpaaGreatDoorZB01
import Derived.WalkSpells
namespace Go.Proofs.YtohahloghmanpaaGreatDoor
open Go.RowKit Go.Lib
set_option linter.unusedVariables false
set_option maxRecDepth 20000

/-! zeros among the bytes -/
theorem index_cut : ∀ r : List UInt8, ((0 : UInt8) ∈ r → ∃ i : Nat, i < r.length ∧ Lib.indexByte r 0 = (i : Int) ∧ cutA r = r.take i ∧ cutB r = r.drop (i + 1)) ∧ ((0 : UInt8) ∉ r → Lib.indexByte r 0 = -1)
  | [] => ⟨(fun h => by cases h), fun _ => rfl⟩
  | c :: r => by
    obtain ⟨i1, i2⟩ := index_cut r
    by_cases hc : c = 0
    · subst hc
      refine ⟨fun _ => ⟨0, by simp, by simp [Lib.indexByte], by simp [cutA], by simp [cutB]⟩, fun h => absurd List.mem_cons_self h⟩
    · have hb : (c == 0) = false := by simpa using hc
      have hne : (c != 0) = true := by simpa using hc
      refine ⟨fun h => ?_, fun h => ?_⟩
      · have hr : (0 : UInt8) ∈ r := by
          rcases List.mem_cons.1 h with h | h
          · exact absurd h.symm hc
          · exact h
        obtain ⟨i, hi, h1, h2, h3⟩ := i1 hr
        refine ⟨i + 1, by simp; omega, ?_, ?_, ?_⟩
        · simp [Lib.indexByte, hb, h1]
        · unfold cutA at *; rw [List.takeWhile_cons]; simp [hne, h2]
        · unfold cutB at *; rw [List.dropWhile_cons]; simp [hne, h3]
      · have hr : (0 : UInt8) ∉ r := fun hm => h (List.mem_cons_of_mem _ hm)
        simp [Lib.indexByte, hb, i2 hr]
theorem decodeN_zero (n b0 b1 b2 b3 : Nat) (h0 : b0 < 256) : ((Lib.decodeN n b0 b1 b2 b3).1 = 0 ↔ b0 = 0) ∧ 1 ≤ (Lib.decodeN n b0 b1 b2 b3).2 ∧ (Lib.decodeN n b0 b1 b2 b3).2 ≤ 4 ∧ (2 ≤ (Lib.decodeN n b0 b1 b2 b3).2 → 1 < n ∧ b1 ≠ 0) ∧ (3 ≤ (Lib.decodeN n b0 b1 b2 b3).2 → 2 < n ∧ b2 ≠ 0) ∧ (4 ≤ (Lib.decodeN n b0 b1 b2 b3).2 → 3 < n ∧ b3 ≠ 0) := by
  unfold Lib.decodeN
  repeat' split
  all_goals (refine ⟨⟨fun h => ?_, fun h => ?_⟩, ?_, ?_, fun h => ?_, fun h => ?_, fun h => ?_⟩ <;> dsimp only at * <;> omega)
theorem idx_zero (s : ByteArray) : ∀ (f pos : Nat), s.size ≤ pos + f → (0 ≤ Lib.idxFuncFrom (fun r => decide (r = 0)) true s f pos ↔ ∃ j, pos ≤ j ∧ s.data.toList[j]? = some 0)
  | 0, pos, h => by
    simp only [Lib.idxFuncFrom]
    constructor
    · intro h; omega
    · rintro ⟨j, hj, hs⟩
      have := (List.getElem?_eq_some_iff.1 hs).1
      have hz : s.data.toList.length = s.size := Lib.size_eq s ▸ rfl
      omega
  | f + 1, pos, h => by
    have hz : s.data.toList.length = s.size := Lib.size_eq s ▸ rfl
    unfold Lib.idxFuncFrom
    by_cases hp : pos < s.size
    · rw [if_pos hp, Lib.decode_N]
      have hg : ∀ i, s.data.toList.getD i 0 = (s.data.toList[i]?).getD 0 := fun i => by rw [List.getD_eq_getElem?_getD]
      obtain ⟨e1, e2, e3, e4, e5, e6⟩ := decodeN_zero (s.data.toList.length - pos) (s.data.toList.getD pos 0).toNat (s.data.toList.getD (pos + 1) 0).toNat (s.data.toList.getD (pos + 2) 0).toNat (s.data.toList.getD (pos + 3) 0).toNat (UInt8.toNat_lt _)
      generalize hD : Lib.decodeN _ _ _ _ _ = D at *
      have hpl : pos < s.data.toList.length := by omega
      have h0 : s.data.toList.getD pos 0 = s.data.toList[pos] := by rw [hg, List.getElem?_eq_getElem hpl]; rfl
      by_cases hr : D.1 = 0
      · have hb := e1.1 hr
        rw [if_pos (by simp [hr])]
        refine ⟨fun _ => ⟨pos, Nat.le_refl _, ?_⟩, fun _ => by omega⟩
        rw [List.getElem?_eq_getElem hpl, ← h0]
        exact congrArg some (UInt8.toNat_inj.1 (by simpa using hb))
      · rw [if_neg (by simp [hr]), idx_zero s f (pos + D.2) (by omega)]
        constructor
        · rintro ⟨j, hj, hs⟩
          exact ⟨j, by omega, hs⟩
        · rintro ⟨j, hj, hs⟩
          refine ⟨j, ?_, hs⟩
          refine Classical.byContradiction fun hlt => ?_
          have hjD : s.data.toList.getD j 0 = 0 := by rw [hg, hs]; rfl
          have hc : j = pos ∨ j = pos + 1 ∨ j = pos + 2 ∨ j = pos + 3 := by omega
          rcases hc with rfl | rfl | rfl | rfl
          · exact hr (e1.2 (by rw [hjD]; rfl))
          · exact (e4 (by omega)).2 (by rw [hjD]; rfl)
          · exact (e5 (by omega)).2 (by rw [hjD]; rfl)
          · exact (e6 (by omega)).2 (by rw [hjD]; rfl)
    · rw [if_neg hp]
      constructor
      · intro h; omega
      · rintro ⟨j, hj, hs⟩
        have := (List.getElem?_eq_some_iff.1 hs).1
        omega
theorem idx_zero_mem (l : List UInt8) : decide (0 ≤ Lib.idxFunc (fun r => decide (r = 0)) true ⟨l.toArray⟩) = decide ((0 : UInt8) ∈ l) := by
  refine decide_eq_decide.2 ?_
  unfold Lib.idxFunc
  rw [idx_zero _ _ _ (by omega)]
  show (∃ j, 0 ≤ j ∧ l[j]? = some 0) ↔ _
  rw [List.mem_iff_getElem?]
  exact ⟨fun ⟨j, _, h⟩ => ⟨j, h⟩, fun ⟨j, h⟩ => ⟨j, Nat.zero_le _, h⟩⟩

def Tabs (w : World) : Prop := Lib.Utf8Tabs (Tryz.laysValid_ren.g 3) (Tryz.laysValid_ren.g 4) w
theorem Tabs.keep {w w' : World} (h : Tabs w) (hk : ∀ a : Addr, a.block < 3 → w'.cell? a = w.cell? a) : Tabs w' :=
  ⟨fun c hc => (hk _ (show Tryz.laysValid_ren.g 3 < 3 from by decide)).trans (h.1 c hc), fun i hi => ⟨(hk _ (show Tryz.laysValid_ren.g 4 < 3 from by decide)).trans (h.2 i hi).1, (hk _ (show Tryz.laysValid_ren.g 4 < 3 from by decide)).trans (h.2 i hi).2⟩⟩

theorem utfValid_any (w : World) (hT : Tabs w) (l : List UInt8) (hl : l.length ≤ 9223372036854775807) :
    Calls Tryz.prog 113 #[.string ⟨l.toArray⟩] w fun e w' => e = .returned (.bool (Lib.validD l)) ∧ Below w.heap.size w w' := by
  have cV := Any.utf8_ValidString Tryz.laysValid ⟨l.toArray⟩ w (by show l.toArray.size ≤ _; simpa using hl) hT
  have CV := Lib.hid (show Calls Tryz.prog 125 #[.string ⟨l.toArray⟩] w (fun e w' => e = .returned (.bool (Lib.validD l)) ∧ Below w.heap.size w w') from cV)
  clear cV
  go_enter Tryz.func113, Tryz.ntmps113
  go_wp2_with fail
  refine CV.out.mono ?_
  rintro e w' ⟨rfl, hb⟩
  go_wp2_with fail
  go_ret
  exact ⟨rfl, hb⟩

theorem bytes_cut (l : List UInt8) (a b : Nat) : (⟨l.toArray⟩ : ByteArray).extract a b = ⟨((l.drop a).take (b - a)).toArray⟩ := by
  have h : ∀ s : ByteArray, ∀ x : List UInt8, s.data.toList = x → s = ⟨x.toArray⟩ := fun s x h => by
    subst h
    obtain ⟨⟨y⟩⟩ := s
    rfl
  refine h _ _ ?_
  rw [ByteArray.data_extract]
  simp
theorem bytes_to (l : List UInt8) (b : Nat) : (⟨l.toArray⟩ : ByteArray).extract 0 b = ⟨(l.take b).toArray⟩ := by rw [bytes_cut]; simp
theorem bytes_from (l : List UInt8) (a : Nat) : (⟨l.toArray⟩ : ByteArray).extract a l.length = ⟨(l.drop a).toArray⟩ := by
  rw [bytes_cut, List.take_of_length_le (by simp)]
def CutPost (w : World) (l : List UInt8) (e : Ending) (w' : World) : Prop := ∃ n, e = .returned (.tuple #[.string ⟨(cutA l).toArray⟩, .string ⟨(cutB l).toArray⟩, .bool (decide ((0 : UInt8) ∈ l))]) ∧ w.drewN n = w'
set_option maxHeartbeats 1000000 in
theorem scut_any (w : World) (l : List UInt8) (hl : l.length ≤ 9223372036854775807) :
    Calls Tryz.prog 100 #[.string ⟨l.toArray⟩, .string ⟨#[0]⟩] w (CutPost w l) := by
  have cI := Tryz.stringslite_Index_one ⟨l.toArray⟩ 0 w
  obtain ⟨i1, i2⟩ := index_cut l
  have CI := Lib.hid (show Calls Tryz.prog 112 #[.string ⟨l.toArray⟩, .string ⟨#[0]⟩] w (fun e w' => e = .returned (.int .i64 (Lib.indexByte l 0)) ∧ w' = w) from cI)
  clear cI
  by_cases h0 : (0 : UInt8) ∈ l
  · obtain ⟨i, hi, h1, h2, h3⟩ := i1 h0
    rw [h1] at CI
    have HA := Lib.hid h2; have HB := Lib.hid h3; have H0 := Lib.hid h0
    clear h2 h3 h1 i1 i2 h0
    go_enter Tryz.func100, Tryz.ntmps100
    go_wp2_with fail
    refine CI.out.mono ?_
    rintro e w' ⟨rfl, rfl⟩
    go_wp2_with fail
    have hiI : (i : Int) < l.length := by omega
    have hs1 : IntKind.i64.wrap ((i : Int) + 1) = (i : Int) + 1 := IntWalk.i64_in _ (by omega)
    have hs2 : ((i : Int) + 1).toNat = i + 1 := by omega
    go_quiet (fail)
    clear hs1 hs2
    go_wp2_with fail
    go_ret3
    exact ⟨_, by rw [HA.out, HB.out, decide_eq_true H0.out, ← bytes_to, ← bytes_from]; rfl, rfl⟩
  · have h1 := i2 h0
    rw [h1] at CI
    obtain ⟨hA, hB⟩ := cut_none l h0
    have HA := Lib.hid hA; have HB := Lib.hid hB; have H0 := Lib.hid h0
    clear h1 i1 i2 h0 hA hB
    go_enter Tryz.func100, Tryz.ntmps100
    go_wp2_with fail
    refine CI.out.mono ?_
    rintro e w' ⟨rfl, rfl⟩
    go_wp2_with fail
    go_ret3
    exact ⟨0, by rw [HA.out, HB.out, decide_eq_false H0.out]; rfl, rfl⟩

theorem cut_any (w : World) (l : List UInt8) (hl : l.length ≤ 9223372036854775807) :
    Calls Tryz.prog 94 #[.string ⟨l.toArray⟩, .string ⟨#[0]⟩] w (CutPost w l) := by
  have C := Lib.hid (scut_any w l hl)
  go_enter Tryz.func94, Tryz.ntmps94
  go_wp2_with fail
  refine C.out.mono ?_
  rintro e w' ⟨n, rfl, hw⟩
  have Hw := Lib.hid hw
  clear hw
  go_wp2_with fail
  go_ret3
  exact ⟨n, rfl, Hw.out⟩

theorem isZero_pred (w : World) : PredAt Tryz.prog 115 #[] encR (fun r => decide (r = 0)) w := fun W r _ => by
  have hr := Lib.hid (show ((r : Int) == 0) = decide (r = 0) by by_cases h : r = 0 <;> simp [h])
  unfold FnGives
  go_enter Tryz.func115, Tryz.ntmps115
  go_wp2_with fail
  go_ret
  exact ⟨ret_bool hr.out, 0, rfl⟩
theorem enters_isZero (args : Array Value) (w : World) : (callFunc 115 args).run Tryz.prog w = .ok (.enter 115 args) w := rfl

theorem contains_zero (w : World) (l : List UInt8) :
    Calls Tryz.prog 114 #[.string ⟨l.toArray⟩, .func (.func 115) #[] #[]] w fun e w' => e = .returned (.bool (decide ((0 : UInt8) ∈ l))) ∧ Below w.heap.size w w' := by
  have h := Tryz.strings_ContainsFunc 115 #[] enters_isZero _ ⟨l.toArray⟩ w (isZero_pred w)
  rw [idx_zero_mem] at h
  exact h
set_option maxHeartbeats 1000000 in
theorem isPart_any (w : World) (hT : Tabs w) (l : List UInt8) (hl : l.length ≤ 9223372036854775807) :
    Calls Tryz.prog 101 #[.string ⟨l.toArray⟩] w fun e w' => e = .returned (.bool (partOk l)) ∧ Below w.heap.size w w' := by
  have V := Lib.hid (utfValid_any w hT l hl)
  obtain ⟨ok, hok⟩ : ∃ ok, partOk l = ok := ⟨_, rfl⟩
  rw [hok]
  by_cases h0 : l = []
  · subst h0
    obtain rfl : ok = false := by rw [← hok]; exact part_nil
    clear V hok
    go_enter Tryz.func101, Tryz.ntmps101
    go_wp2_with fail
    go_ret
    exact ⟨rfl, Below.refl _ _⟩
  · have g0 : (!l.isEmpty) = true := by simpa using h0
    cases hv : Lib.validD l with
    | false =>
      obtain rfl : ok = false := by rw [← hok]; simp [partOk, hv]
      rw [hv] at V
      clear hv hok
      go_enter Tryz.func101, Tryz.ntmps101
      go_wp2_with fail
      refine V.out.mono ?_
      rintro e w1 ⟨rfl, hb⟩
      clear V
      go_wp2_with fail
      go_ret
      exact ⟨rfl, hb⟩
    | true =>
      rw [hv] at V
      have hok' : ok = !decide ((0 : UInt8) ∈ l) := by rw [← hok]; simp [partOk, hv, h0]
      obtain ⟨z, hz⟩ : ∃ z, decide ((0 : UInt8) ∈ l) = z := ⟨_, rfl⟩
      rw [hz] at hok'
      subst hok'
      have Hz := Lib.hid hz
      clear hv hok hz
      go_enter Tryz.func101, Tryz.ntmps101
      go_wp2_with fail
      refine V.out.mono ?_
      rintro e w1 ⟨rfl, hb⟩
      have C := Lib.hid (contains_zero w1 l)
      rw [Hz.out] at C
      clear V
      go_wp2_with fail
      refine C.out.mono ?_
      rintro e w2 ⟨rfl, hb2⟩
      clear C
      go_wp2_with fail
      go_ret
      exact ⟨rfl, kept_trans hb hb2⟩

def MakePost (ok : Bool) (w : World) (e : Ending) (w' : World) : Prop := ∃ s : ByteArray, e = .returned (.tuple #[.string s, .bool ok]) ∧ Below w.heap.size w w'
theorem tabs_below {w w' : World} (h : Tabs w) (h3 : 3 ≤ w.heap.size) (hb : Below w.heap.size w w') : Tabs w' := h.keep fun a ha => hb.cell (p := a) (by omega)
set_option maxRecDepth 100000 in
set_option maxHeartbeats 1000000 in
theorem make_any (w : World) (hT : Tabs w) (h3 : 3 ≤ w.heap.size) (kind : Int) (hk : -1000 ≤ kind ∧ kind ≤ 1000) (a b : List UInt8) (ha : a.length ≤ 4611686018427387903) (hb : b.length ≤ 4611686018427387903) :
    Calls Tryz.prog 95 #[.int .i64 kind, .string ⟨a.toArray⟩, .string ⟨b.toArray⟩] w (MakePost (makeOk kind a b) w) := by
  have PA := Lib.hid (isPart_any w hT a (by omega))
  obtain ⟨ok, hok⟩ : ∃ ok, makeOk kind a b = ok := ⟨_, rfl⟩
  rw [hok]
  by_cases hkk : kind = 1 ∨ kind = 2
  · obtain ⟨pa, hpa⟩ : ∃ pa, partOk a = pa := ⟨_, rfl⟩
    rw [hpa] at PA
    cases pa with
    | false =>
      obtain rfl : ok = false := by rw [← hok]; simp [makeOk, hpa]
      clear hok hpa
      rcases hkk with rfl | rfl
      all_goals
        go_enter Tryz.func95, Tryz.ntmps95
        go_wp2_with fail
        refine PA.out.mono ?_
        rintro e w1 ⟨rfl, hb1⟩
        go_wp2_with fail
        go_ret2
        exact ⟨_, rfl, hb1⟩
    | true =>
      obtain ⟨pb, hpb⟩ : ∃ pb, partOk b = pb := ⟨_, rfl⟩
      have hl : ok = (pb && decide (a.length + b.length ≤ 398)) := by rw [← hok]; simp [makeOk, hpa, hpb, hkk]
      clear hok hpa
      have Hpb := Lib.hid hpb
      clear hpb
      have HkI : 48 + kind = 49 ∨ 48 + kind = 50 := by omega
      cases pb with
      | false =>
        obtain rfl : ok = false := by simpa using hl
        clear hl
        rcases hkk with rfl | rfl
        all_goals
          go_enter Tryz.func95, Tryz.ntmps95
          go_wp2_with fail
          refine PA.out.mono ?_
          rintro e w1 ⟨rfl, hb1⟩
          have PB := Lib.hid (isPart_any w1 (tabs_below hT h3 hb1) b (by omega))
          rw [Hpb.out] at PB
          clear PA
          go_wp2_with fail
          refine PB.out.mono ?_
          rintro e w2 ⟨rfl, hb2⟩
          clear PB
          go_wp2_with fail
          go_ret2
          exact ⟨_, rfl, kept_trans hb1 hb2⟩
      | true =>
        by_cases hlen : a.length + b.length ≤ 398
        · obtain rfl : ok = true := by simpa [hlen] using hl
          have hE1 : Utf8.encode 49 = ⟨#[49]⟩ := by rfl
          have hE2 : Utf8.encode 50 = ⟨#[50]⟩ := by rfl
          have hl1 : 1 + a.length ≤ 1000 := by omega
          have hl2 : 1 + a.length + 1 + b.length ≤ 1000 := by omega
          have hlD : decide ((a.length : Int) + (b.length : Int) > 398) = false := by simp; omega
          clear hl
          rcases hkk with rfl | rfl
          all_goals
            go_enter Tryz.func95, Tryz.ntmps95
            go_wp2_with fail
            refine PA.out.mono ?_
            rintro e w1 ⟨rfl, hb1⟩
            have PB := Lib.hid (isPart_any w1 (tabs_below hT h3 hb1) b (by omega))
            rw [Hpb.out] at PB
            clear PA
            go_wp2_with fail
            refine PB.out.mono ?_
            rintro e w2 ⟨rfl, hb2⟩
            clear PB
            go_wp2_with fail
            go_ret2
            exact ⟨_, rfl, kept_trans hb1 hb2⟩
        · obtain rfl : ok = false := by simpa [hlen] using hl
          have hlD : decide ((a.length : Int) + (b.length : Int) > 398) = true := by simp; omega
          have hlI : ¬ ((a.length : Int) + (b.length : Int) ≤ 398) := by omega
          clear hl
          rcases hkk with rfl | rfl
          all_goals
            go_enter Tryz.func95, Tryz.ntmps95
            go_wp2_with fail
            refine PA.out.mono ?_
            rintro e w1 ⟨rfl, hb1⟩
            have PB := Lib.hid (isPart_any w1 (tabs_below hT h3 hb1) b (by omega))
            rw [Hpb.out] at PB
            clear PA
            go_wp2_with fail
            refine PB.out.mono ?_
            rintro e w2 ⟨rfl, hb2⟩
            clear PB
            go_wp2_with fail
            go_ret2
            exact ⟨_, rfl, kept_trans hb1 hb2⟩
  · obtain rfl : ok = false := by rw [← hok]; simp [makeOk, hkk]
    have k1 : (kind != 1) = true := by simp; omega
    have k2 : (kind != 2) = true := by simp; omega
    clear hok PA
    go_enter Tryz.func95, Tryz.ntmps95
    go_wp2_with fail
    go_ret2
    exact ⟨_, rfl, Below.refl _ _⟩

def ParsePost (ok : Bool) (w : World) (e : Ending) (w' : World) : Prop := ∃ (k : Int) (a b : ByteArray), e = .returned (.tuple #[.int .i64 k, .string a, .string b, .bool ok]) ∧ Below w.heap.size w w'
theorem cut_len (r : List UInt8) : (cutA r).length ≤ r.length ∧ (cutB r).length ≤ r.length := by
  constructor
  · exact (List.takeWhile_sublist _).length_le
  · unfold cutB
    exact Nat.le_trans (by simp) (List.dropWhile_sublist (fun x => x != 0)).length_le
set_option maxRecDepth 100000 in
set_option maxHeartbeats 1000000 in
theorem parse_any (w : World) (hT : Tabs w) (h3 : 3 ≤ w.heap.size) (l : List UInt8) (hl : l.length ≤ 4611686018427387903) :
    Calls Tryz.prog 77 #[.string ⟨l.toArray⟩] w (ParsePost (keyOk l) w) := by
  cases l with
  | nil =>
    go_enter Tryz.func77, Tryz.ntmps77
    go_wp2_with fail
    refine bodyPost_ret (v := .tuple #[.int .i64 0, .string ⟨#[]⟩, .string ⟨#[]⟩, .bool false]) (by simp [results, Tryz.results77, go_sem]) rfl ⟨_, _, _, rfl, Below.refl _ _⟩
  | cons c r =>
    obtain ⟨ok, hok⟩ : ∃ ok, keyOk (c :: r) = ok := ⟨_, rfl⟩
    rw [hok]
    have hrl : r.length ≤ 4611686018427387903 := by simp at hl; omega
    have C := Lib.hid (cut_any w r (by omega))
    have hc := UInt8.toNat_lt c
    have hok' : makeOk ((c.toNat : Int) - 48) (cutA r) (cutB r) = ok := hok
    have Hok := Lib.hid hok'
    obtain ⟨q1, q2⟩ := cut_len r
    obtain ⟨ca, hca⟩ : ∃ ca, cutA r = ca := ⟨_, rfl⟩
    obtain ⟨cb, hcb⟩ : ∃ cb, cutB r = cb := ⟨_, rfl⟩
    rw [hca] at q1
    rw [hcb] at q2
    have Hca := Lib.hid hca; have Hcb := Lib.hid hcb
    clear hok hok' hca hcb
    go_enter Tryz.func77, Tryz.ntmps77
    go_wp2_with fail
    have e1 : (⟨(c :: r).toArray⟩ : ByteArray).extract 1 (r.length + 1) = ⟨r.toArray⟩ := bytes_from (c :: r) 1
    have e2 : ∀ h : 0 < (⟨(c :: r).toArray⟩ : ByteArray).size, (⟨(c :: r).toArray⟩ : ByteArray)[0]'h = c := fun _ => rfl
    have e3 : wrap64 (c.toNat : Int) = c.toNat := IntWalk.wrap64_in _ (by omega)
    have e4 : wrap64 ((c.toNat : Int) - 48) = (c.toNat : Int) - 48 := IntWalk.wrap64_in _ (by omega)
    simp only [e1, e2, e3, e4]
    clear e1 e2 e3 e4
    refine C.out.mono ?_
    rintro e w1 ⟨n, rfl, rfl⟩
    rw [Hca.out, Hcb.out]
    have M := Lib.hid (make_any (w.drewN n) (hT.keep fun a _ => rfl) h3 ((c.toNat : Int) - 48) (by omega) ca cb (by omega) (by omega))
    rw [← Hca.out, ← Hcb.out, Hok.out, Hca.out, Hcb.out] at M
    obtain ⟨z, hz⟩ : ∃ z, decide ((0 : UInt8) ∈ r) = z := ⟨_, rfl⟩
    rw [hz]
    clear C hz
    go_wp2_with fail
    refine M.out.mono ?_
    rintro e w2 ⟨s, rfl, hb⟩
    have hb2 : Below w.heap.size w w2 := (kept_drewN (Below.refl _ _) n).trans hb
    have Hb2 := Lib.hid hb2
    clear M hb hb2
    cases ok with
    | false =>
      go_wp2_with fail
      exact bodyPost_ret (v := .tuple #[.int .i64 0, .string ⟨#[]⟩, .string ⟨#[]⟩, .bool false]) (by simp [results, Tryz.results77, go_sem]) rfl ⟨_, _, _, rfl, Hb2.out⟩
    | true =>
      go_wp2_with fail
      exact bodyPost_ret (v := .tuple #[.int .i64 ((c.toNat : Int) - 48), .string ⟨ca.toArray⟩, .string ⟨cb.toArray⟩, .bool true]) (by simp [results, Tryz.results77, go_sem]) rfl ⟨_, _, _, rfl, Hb2.out⟩

theorem valid_any (w : World) (hT : Tabs w) (h3 : 3 ≤ w.heap.size) (l : List UInt8) (hl : l.length ≤ 4611686018427387903) :
    Calls Tryz.prog 43 #[.string ⟨l.toArray⟩] w fun e w' => e = .returned (.bool (keyOk l)) ∧ Below w.heap.size w w' := by
  have P := Lib.hid (parse_any w hT h3 l hl)
  obtain ⟨ok, hok⟩ : ∃ ok, keyOk l = ok := ⟨_, rfl⟩
  rw [hok] at P ⊢
  clear hok
  go_enter Tryz.func43, Tryz.ntmps43
  go_wp2_with fail
  refine P.out.mono ?_
  rintro e w1 ⟨k, a, b, rfl, hb⟩
  clear P
  go_wp2_with fail
  go_ret
  exact ⟨rfl, hb⟩
end Go.Proofs.YtohahloghmanpaaGreatDoor
