/-
  Ref30
-/
import Derived.Test.YtohahloghmanpaaGreatDoorZB15
import Derived.Test.YtohahloghmanpaaGreatDoorZB06
import Derived.Test.YtohahloghmanpaaGreatDoorZB16
import Derived.Test.YtohahloghmanpaaGreatDoorZB17
import Derived.Lib.MapLaws
namespace Go.Proofs.YtohahloghmanpaaGreatDoor
open Go.RowKit Go.Lib
set_option linter.unusedVariables false
set_option maxRecDepth 20000
attribute [local go_sem ↓] seal_append
attribute [local go_sem] opC upC

theorem infoRune : (Tryz.prog.info? 21).map (fun i => (i.zero, i.size, i.bytes)) = some (some (.int .i32 0), 1, 4) := by kernel_rfl
def RunesPost (ok : Bool) (w : World) (e : Ending) (w' : World) : Prop := ∃ v, e = .returned (.tuple #[v, .bool ok]) ∧ Below w.heap.size w w'
def RunesRel (w : World) (l : List UInt8) (ok : Bool) (v i : Value) (wr : World) : Prop :=
  ∃ (pos n f : Nat) (xs : List Value), pos ≤ l.length ∧ n ≤ pos ∧ i = .int .i64 (pos : Int) ∧ l.length - pos ≤ f ∧ rValid f (l.drop pos) = ok ∧ wr.ownsRow w.heap.size 21 1 v n xs ∧ Below w.heap.size w wr
theorem rNext_le (l : List UInt8) (hl : l ≠ []) : (rNext l).2 ≤ l.length := by
  by_cases h : (rNext l).2 = 0
  · omega
  · rw [rNext_eq l h]
    exact Lib.decodeL_le l hl
theorem rNext_bound (l : List UInt8) (h : (rNext l).2 ≠ 0) : (rNext l).1 ≤ 1114111 := by
  rw [rNext_eq l h]
  exact Lib.decodeL_rune l
set_option maxRecDepth 100000 in
set_option maxHeartbeats 1500000 in
theorem runes_any (w : World) (l : List UInt8) (hl : l.length ≤ 1000000000) :
    Calls Tryz.prog 133 #[.string ⟨l.toArray⟩] w (RunesPost (Lib.validD l) w) := by
  obtain ⟨ok, hok⟩ : ∃ ok, Lib.validD l = ok := ⟨_, rfl⟩
  rw [hok]
  have Hs := Lib.hid (show RunesRel w l ok (.slice none 0 0) (.int .i64 0) w from ⟨0, 0, l.length, [], by omega, by omega, rfl, by omega, by rw [rValid_go, List.drop_zero]; exact hok, World.ownsRow_nil _ _ _ _, Below.refl _ _⟩)
  clear hok
  go_enter Tryz.func133, Tryz.ntmps133
  go_wp2_with fail
  go_loopw [4, 5] (fun v i wr => RunesRel w l ok v i wr) (fun _ i _ => l.length - (intOf i).toNat)
  case atStart => exact Hs.out
  case round =>
    obtain ⟨pos, n, f, xs, hp, hn, rfl, hf, hv, hown, hbw⟩ := hrel
    have Hv := Lib.hid hv; have Hown := Lib.hid hown; have Hbw := Lib.hid hbw
    clear hv hown hbw
    by_cases hpl : pos < l.length
    · have hpI : (pos : Int) < (l.length : Int) := by omega
      have N := Lib.hid (rnext_any wr l pos hpl (by omega))
      obtain ⟨r, hr⟩ : ∃ r, rNext (l.drop pos) = r := ⟨_, rfl⟩
      have hrb := rNext_bound (l.drop pos)
      have hrl := rNext_le (l.drop pos) (by intro e; have := congrArg List.length e; simp at this; omega)
      rw [hr] at N hrb hrl
      rw [List.length_drop] at hrl
      obtain ⟨c, m⟩ := r
      dsimp only at hrb hrl
      have Hr := Lib.hid hr
      clear hr
      go_wp2_with fail
      refine N.out.mono ?_
      rintro e w1 ⟨rfl, hb1⟩
      dsimp only
      clear N
      have hbw1 := Hbw.out.trans (hb1.mono Hbw.out.size)
      by_cases hm : m = 0
      · have Hok := Lib.hid (show ok = false by
          rw [← Hv.out]
          have hf0 : f = (f - 1) + 1 := by omega
          rw [hf0]
          unfold rValid
          rw [if_neg (by intro e; have := congrArg List.length e; simp at this; omega), if_pos (by rw [Hr.out]; exact hm)])
        subst hm
        go_wp2_with fail
        go_ret2
        exact ⟨_, by rw [Hok.out]; rfl, hbw1⟩
      · have hm1 : ((m : Int) == 0) = false := by simp; exact hm
        have hrb' := hrb hm
        obtain ⟨i0, q1, q2, q3, q4⟩ := info_parts infoRune
        have how := own_below Hown.out hb1
        obtain ⟨v', w5, hr5, hown5, hg5⟩ := run_append_one (P := Tryz.prog) w1 w.heap.size 162 21 Tryz.underlying162 q1 q2 q3 q4 rfl (by decide) _ n _ how #[.int .i32 (c : Int)] rfl (by simp [Value.oneCell']) (by unfold maxLen; omega) (by omega) hbw1.size
        have hb5 : Below w.heap.size w w5 := (hbw1.alloc hbw1.size _).trans (Below.grownOwn (how.alloc _) hg5 (by have := hbw1.size; simp; omega) (Nat.le_refl _))
        have Hb5 := Lib.hid hb5; have Hown5 := Lib.hid hown5
        clear hb1 hbw1 how hown5 hg5 hb5 hrb q1 q2 q3 q4
        go_wp2_with fail
        go_roundw
        case rel =>
          refine ⟨pos + m, n + 1, f - 1, _, by omega, by omega, by go_num, by omega, ?_, Hown5.out, Hb5.out⟩
          rw [← Hv.out]
          have hf0 : f = (f - 1) + 1 := by omega
          conv => rhs; rw [hf0]; unfold rValid
          rw [if_neg (by intro e; have := congrArg List.length e; simp at this; omega), if_neg (by rw [Hr.out]; exact hm), Hr.out, List.drop_drop]
        case measure => simp [intOf]; omega
    · have hpI : ¬ (pos : Int) < (l.length : Int) := by omega
      have Hok := Lib.hid (show ok = true by
        rw [← Hv.out, List.drop_of_length_le (by omega)]
        cases f <;> simp [rValid])
      go_wp2_with fail
      go_ret2
      exact ⟨_, by rw [Hok.out]; rfl, Hbw.out⟩

theorem rvalid_any (w : World) (l : List UInt8) (hl : l.length ≤ 1000000000) :
    Calls Tryz.prog 127 #[.string ⟨l.toArray⟩] w fun e w' => e = .returned (.bool (Lib.validD l)) ∧ Below w.heap.size w w' := by
  have R := Lib.hid (runes_any w l hl)
  obtain ⟨ok, hok⟩ : ∃ ok, Lib.validD l = ok := ⟨_, rfl⟩
  rw [hok] at R ⊢
  clear hok
  go_enter Tryz.func127, Tryz.ntmps127
  go_wp2_with fail
  refine R.out.mono ?_
  rintro e w1 ⟨v, rfl, hb⟩
  clear R
  go_wp2_with fail
  go_ret
  exact ⟨rfl, hb⟩

set_option maxHeartbeats 1000000 in
theorem rpart_any (w : World) (l : List UInt8) (hl : l.length ≤ 1000000000) :
    Calls Tryz.prog 116 #[.string ⟨l.toArray⟩] w fun e w' => e = .returned (.bool (partOk l)) ∧ Below w.heap.size w w' := by
  have V := Lib.hid (rvalid_any w l hl)
  obtain ⟨ok, hok⟩ : ∃ ok, partOk l = ok := ⟨_, rfl⟩
  rw [hok]
  have Hok := Lib.hid hok
  clear hok
  go_enter Tryz.func116, Tryz.ntmps116
  go_wp2_with fail
  go_loop [3] (fun i => ∃ k : Nat, k ≤ l.length ∧ i = .int .i64 (k : Int) ∧ ∀ j, j < k → l[j]? ≠ some 0) (fun i => l.length - (intOf i).toNat)
  case atStart => exact ⟨0, by omega, rfl, fun j hj => by omega⟩
  case round =>
    obtain ⟨k, hk, rfl, hall⟩ := hrel
    have Hall := Lib.hid hall
    clear hall
    by_cases hkl : k < l.length
    · have hkI : (k : Int) < (l.length : Int) := by omega
      obtain ⟨c, hc⟩ : ∃ c, l[k] = c := ⟨_, rfl⟩
      have hbr : ∀ h : k < (⟨l.toArray⟩ : ByteArray).size, ((⟨l.toArray⟩ : ByteArray)[k]'h) = c := fun h => hc
      have Hc := Lib.hid (show l[k]? = some c by rw [List.getElem?_eq_getElem hkl, hc])
      clear hc
      by_cases h0 : c = 0
      · subst h0
        have Hf := Lib.hid (show ok = false by rw [← Hok.out]; exact part_zero l (List.mem_of_getElem? Hc.out))
        go_wp2_with fail
        go_ret
        exact ⟨by rw [Hf.out]; rfl, Below.refl _ _⟩
      · have hcz : ((c.toNat : Int) == 0) = false := by
          simp
          intro e
          exact h0 (UInt8.toNat_inj.1 (by simpa using e))
        go_wp2_with fail
        go_round
        case rel => exact ⟨k + 1, by omega, by go_num, fun j hj => by
          rcases Nat.lt_succ_iff_lt_or_eq.1 hj with h | h
          · exact Hall.out j h
          · subst h; rw [Hc.out]; simpa using h0⟩
        case measure => simp [intOf]; omega
    · have hkI : ¬ (k : Int) < (l.length : Int) := by omega
      have hz : (0 : UInt8) ∉ l := fun hm => by
        obtain ⟨j, hj, he⟩ := List.getElem_of_mem hm
        exact Hall.out j (by omega) (by rw [List.getElem?_eq_getElem hj, he])
      by_cases hn : l = []
      · subst hn
        have Hf := Lib.hid (show ok = false by rw [← Hok.out]; exact part_nil)
        clear hz V
        go_wp2_with fail
        go_ret
        exact ⟨by rw [Hf.out]; rfl, Below.refl _ _⟩
      · have g0 : (!l.isEmpty) = true := by simpa using hn
        have Hf := Lib.hid (show ok = Lib.validD l by rw [← Hok.out]; simp [partOk, hz, hn])
        clear hz
        go_wp2_with fail
        refine V.out.mono ?_
        rintro e w1 ⟨rfl, hb⟩
        rw [← Hf.out]
        clear V
        go_wp2_with fail
        go_ret
        exact ⟨rfl, hb⟩

theorem rzero_any (w : World) :
    Calls Tryz.prog 117 #[] w fun e w' => e = .returned (.string ⟨#[0]⟩) ∧ w' = w.alloc (.cells #[.int .u8 0] 5) := by
  have hc := run_str1 w 0
  rw [show B 0 = .int .u8 0 from rfl] at hc
  go_enter Tryz.func117, Tryz.ntmps117
  go_wp2_with fail
  go_ret
  exact ⟨rfl, rfl⟩

def treeMake : Tree := .steady 0 (.steady 1 (.steady 2 (.steady 5 (.steady 9 (.both 3 7 (.steady 4 (.steady 6 (.move 7 (.steady 8 (.steady 10 (.steady 11 (.steady 12 .done))))))) (.move 3 (.steady 4 (.steady 6 (.steady 8 (.steady 10 (.steady 11 (.steady 12 .done))))))))))))
theorem later_str1 {w w' : World} {c : UInt8} (h : Later (w.alloc (.cells #[B c] 5)) w') : (convert 72 9 (.slice (some ⟨w.heap.size, 0, none⟩) 1 1)).run Tryz.prog w' = .ok (.string ⟨#[c]⟩) w' :=
  run_strB (F := fun _ => True) (l := [c]) ⟨_, 1, rfl, by simp, by unfold maxLen; omega, nofun, .inr ⟨w.heap.size, 0, #[B c], 5, (0, 0), rfl, trivial, by rw [h.block w.heap.size (by simp)]; unfold World.alloc; simp, by simp, fun i hi => by simp at hi; subst hi; rfl⟩⟩
theorem bytes_app (x y : List UInt8) : (⟨x.toArray⟩ : ByteArray) ++ ⟨y.toArray⟩ = ⟨(x ++ y).toArray⟩ := by
  apply ByteArray.ext
  simp
theorem made_eq (c : UInt8) (a b : List UInt8) : (((⟨#[c]⟩ : ByteArray) ++ ⟨a.toArray⟩) ++ ⟨#[0]⟩) ++ ⟨b.toArray⟩ = ⟨(c :: (a ++ 0 :: b)).toArray⟩ := by
  rw [show (⟨#[c]⟩ : ByteArray) = ⟨[c].toArray⟩ from rfl, show (⟨#[0]⟩ : ByteArray) = ⟨[(0 : UInt8)].toArray⟩ from rfl, bytes_app, bytes_app, bytes_app]
  simp
def RMakePost (kind : Int) (a b : List UInt8) (w : World) (e : Ending) (w' : World) : Prop :=
  ∃ s : ByteArray, e = .returned (.tuple #[.string s, .bool (makeOk kind a b)]) ∧ (makeOk kind a b = true → s = ⟨(UInt8.ofNat (48 + kind).toNat :: (a ++ 0 :: b)).toArray⟩) ∧ Below w.heap.size w w'
set_option maxRecDepth 100000 in
set_option maxHeartbeats 1000000 in
theorem rmake_any (w : World) (kind : Int) (hk : -1000 ≤ kind ∧ kind ≤ 1000) (a b : List UInt8) (ha : a.length ≤ 1000000000) (hb : b.length ≤ 1000000000) :
    Calls Tryz.prog 102 #[.int .i64 kind, .string ⟨a.toArray⟩, .string ⟨b.toArray⟩] w (RMakePost kind a b w) := by
  have PA := Lib.hid (rpart_any w a ha)
  unfold RMakePost
  obtain ⟨ok, hok⟩ : ∃ ok, makeOk kind a b = ok := ⟨_, rfl⟩
  rw [hok]
  by_cases hkk : kind = 1 ∨ kind = 2
  · obtain ⟨pa, hpa⟩ : ∃ pa, partOk a = pa := ⟨_, rfl⟩
    rw [hpa] at PA
    cases pa with
    | false =>
      obtain rfl : ok = false := by rw [← hok]; simp [makeOk, hpa]
      clear hok hpa
      rcases hkk with rfl | rfl
      all_goals
        go_enter Tryz.func102, Tryz.ntmps102
        go_wp2_with fail
        refine PA.out.mono ?_
        rintro e w1 ⟨rfl, hb1⟩
        go_wp2_with fail
        go_ret2
        exact ⟨_, rfl, nofun, hb1⟩
    | true =>
      obtain ⟨pb, hpb⟩ : ∃ pb, partOk b = pb := ⟨_, rfl⟩
      have hl : ok = (pb && decide (a.length + b.length ≤ 398)) := by rw [← hok]; simp [makeOk, hpa, hpb, hkk]
      clear hok hpa
      have Hpb := Lib.hid hpb
      clear hpb
      cases pb with
      | false =>
        obtain rfl : ok = false := by simpa using hl
        clear hl
        rcases hkk with rfl | rfl
        all_goals
          go_enter Tryz.func102, Tryz.ntmps102
          go_wp2_with fail
          refine PA.out.mono ?_
          rintro e w1 ⟨rfl, hb1⟩
          have PB := Lib.hid (rpart_any w1 b hb)
          rw [Hpb.out] at PB
          clear PA
          go_wp2_with fail
          refine PB.out.mono ?_
          rintro e w2 ⟨rfl, hb2⟩
          clear PB
          go_wp2_with fail
          go_ret2
          exact ⟨_, rfl, nofun, kept_trans hb1 hb2⟩
      | true =>
        by_cases hlen : a.length + b.length ≤ 398
        · obtain rfl : ok = true := by simpa [hlen] using hl
          have hl0 : decide ((a.length : Int) + (b.length : Int) + 2 > 400) = false := by simp; omega
          have hl1 : 1 + a.length ≤ 1000 := by omega
          have hl2 : 1 + a.length + 1 + b.length ≤ 1000 := by omega
          clear hl
          rcases hkk with rfl | rfl
          · go_enter Tryz.func102, Tryz.ntmps102
            go_wp2_with fail
            refine PA.out.mono ?_
            rintro e w1 ⟨rfl, hb1⟩
            have PB := Lib.hid (rpart_any w1 b hb)
            rw [Hpb.out] at PB
            clear PA
            go_wp2_with fail
            refine PB.out.mono ?_
            rintro e w2 ⟨rfl, hb2⟩
            clear PB
            go_wp2_with fail
            refine wp_region_tree Later treeMake 13 (by kernel_rfl) (by kernel_rfl) later_refl later_trans _ (fun _ _ h => h) ?_
            unfold treeMake
            have n1 : ¬ 9223372036854775807 < 1 + a.length := by omega
            have n2 : ¬ 9223372036854775807 < 1 + a.length + 1 := by omega
            have n3 : ¬ 9223372036854775807 < 1 + a.length + 1 + b.length := by omega
            have hw1 : IntKind.i64.wrap 49 = 49 := by decide
            have hw2 : IntKind.u8.wrap 49 = 49 := by decide
            refine canT_yes (v := ?_) rfl (wanted_none rfl) (fun w' hC => ?_) (fun K hK => ?_); rotate_left; (focus (go_simp; first | done | exact rfl)); go_simp; refine hK _ ?_; clear hK K
            refine canT_yes (v := ?_) rfl (wanted_none rfl) (fun w' hC => ?_) (fun K hK => ?_); rotate_left; (focus (go_simp; first | done | exact rfl)); go_simp; refine hK _ ?_; clear hK K
            refine canT_yes (v := ?_) rfl (wanted_none rfl) (fun w' hC => ?_) (fun K hK => ?_); rotate_left; (focus (go_simp; first | done | exact rfl)); go_simp; refine hK _ ?_; clear hK K
            refine canT_yes (v := ?_) rfl (wanted_none rfl) (fun w' hC => ?_) (fun K hK => ?_); rotate_left; (focus (go_simp; first | done | exact rfl)); go_simp; refine hK _ ?_; clear hK K
            refine canT_yes (v := ?_) rfl (wanted_none rfl) (fun w' hC => ?_) (fun K hK => ?_); rotate_left; (focus (go_simp; first | done | exact rfl)); go_simp; refine hK _ ?_; clear hK K
            have hzw : w.heap.size ≤ w2.heap.size := (kept_trans hb1 hb2).size
            refine canT_both rfl rfl rfl rfl (fun KK hK => ?_) (fun KK hK => ?_)
            · go_simp
              have ka : Later w2.drew (w2.alloc (.cells #[.int .u8 49] 5)).drew := kept_alloc w2.drew _
              have hcv : ∀ w', Later (w2.alloc (.cells #[.int .u8 49] 5)).drew w' → (convert 72 9 (.slice (some ⟨w2.heap.size, 0, none⟩) 1 1)).run Tryz.prog w' = .ok (.string ⟨#[49]⟩) w' := fun w' h => later_str1 (w := w2.drew) (c := 49) h
              obtain ⟨wa, hwa⟩ : ∃ wa, wa = (w2.alloc (.cells #[.int .u8 49] 5)).drew := ⟨_, rfl⟩
              rw [← hwa] at ka hcv ⊢
              refine ⟨ka, hK _ _ ?_⟩
              clear hK KK hwa
              go_simp
              refine canT_yes (v := ?_) rfl (wanted_none rfl) (fun w' hC => ?_) (fun K hK => ?_); rotate_left; (focus (go_simp; first | done | exact rfl)); go_simp; refine hK _ ?_; clear hK K
              refine canT_yes (v := ?_) rfl (wanted_none rfl) (fun w' hC => ?_) (fun K hK => ?_); rotate_left; (focus (go_simp; first | done | exact rfl)); go_simp; refine hK _ ?_; clear hK K
              refine canT_go rfl rfl (fun KK hK => ?_)
              go_simp
              refine (rzero_any _).mono ?_
              rintro e w' ⟨rfl, rfl⟩
              refine ⟨_, rfl, kept_alloc _ _, hK _ _ ?_⟩
              clear hK KK hcv
              go_simp
              refine canT_yes (v := ?_) rfl (wanted_none rfl) (fun w' hC => ?_) (fun K hK => ?_); rotate_left; (focus (go_simp; first | done | exact rfl)); go_simp; refine hK _ ?_; clear hK K
              refine canT_yes (v := ?_) rfl (wanted_none rfl) (fun w' hC => ?_) (fun K hK => ?_); rotate_left; (focus (go_simp; first | done | exact rfl)); go_simp; refine hK _ ?_; clear hK K
              refine canT_yes (v := ?_) rfl (wanted_none rfl) (fun w' hC => ?_) (fun K hK => ?_); rotate_left; (focus (go_simp; first | done | exact rfl)); go_simp; refine hK _ ?_; clear hK K
              refine canT_yes (v := ?_) rfl (wanted_none rfl) (fun w' hC => ?_) (fun K hK => ?_); rotate_left; (focus (go_simp; first | done | exact rfl)); go_simp; refine hK _ ?_; clear hK K
              refine canT_nil ?_
              go_wp2_with fail
              go_ret2
              exact ⟨_, rfl, fun _ => made_eq 49 a b, (((kept_trans hb1 hb2).drew.trans (RowKit.Below.mono ka hzw)).alloc (Nat.le_trans hzw ka.size) _)⟩
            · go_simp
              obtain ⟨wz, hwz⟩ : ∃ wz, wz = w2.drew.alloc (.cells #[.int .u8 0] 5) := ⟨_, rfl⟩
              have kz : Later w2.drew wz := by rw [hwz]; exact kept_alloc _ _
              refine (rzero_any _).mono ?_
              rintro e w' ⟨rfl, rfl⟩
              rw [← hwz]
              refine ⟨_, rfl, kz, hK _ _ ?_⟩
              clear hK KK hwz
              go_simp
              refine canT_go rfl rfl (fun KK hK => ?_)
              go_simp
              have ka : Later wz (wz.alloc (.cells #[.int .u8 49] 5)) := kept_alloc wz _
              have hcv : ∀ w', Later (wz.alloc (.cells #[.int .u8 49] 5)) w' → (convert 72 9 (.slice (some ⟨wz.heap.size, 0, none⟩) 1 1)).run Tryz.prog w' = .ok (.string ⟨#[49]⟩) w' := fun w' h => later_str1 (w := wz) (c := 49) h
              obtain ⟨wa, hwa⟩ : ∃ wa, wa = wz.alloc (.cells #[.int .u8 49] 5) := ⟨_, rfl⟩
              rw [← hwa] at ka hcv ⊢
              refine ⟨ka, hK _ _ ?_⟩
              clear hK KK hwa
              go_simp
              refine canT_yes (v := ?_) rfl (wanted_none rfl) (fun w' hC => ?_) (fun K hK => ?_); rotate_left; (focus (go_simp; first | done | exact rfl)); go_simp; refine hK _ ?_; clear hK K
              refine canT_yes (v := ?_) rfl (wanted_none rfl) (fun w' hC => ?_) (fun K hK => ?_); rotate_left; (focus (go_simp; first | done | exact rfl)); go_simp; refine hK _ ?_; clear hK K
              refine canT_yes (v := ?_) rfl (wanted_none rfl) (fun w' hC => ?_) (fun K hK => ?_); rotate_left; (focus (go_simp; first | done | exact rfl)); go_simp; refine hK _ ?_; clear hK K
              refine canT_yes (v := ?_) rfl (wanted_none rfl) (fun w' hC => ?_) (fun K hK => ?_); rotate_left; (focus (go_simp; first | done | exact rfl)); go_simp; refine hK _ ?_; clear hK K
              refine canT_yes (v := ?_) rfl (wanted_none rfl) (fun w' hC => ?_) (fun K hK => ?_); rotate_left; (focus (go_simp; first | done | exact rfl)); go_simp; refine hK _ ?_; clear hK K
              refine canT_yes (v := ?_) rfl (wanted_none rfl) (fun w' hC => ?_) (fun K hK => ?_); rotate_left; (focus (go_simp; first | done | exact rfl)); go_simp; refine hK _ ?_; clear hK K
              refine canT_nil ?_
              go_wp2_with fail
              go_ret2
              exact ⟨_, rfl, fun _ => made_eq 49 a b, ((kept_trans hb1 hb2).drew.trans (RowKit.Below.mono kz hzw)).trans (RowKit.Below.mono ka (Nat.le_trans hzw kz.size))⟩
          · go_enter Tryz.func102, Tryz.ntmps102
            go_wp2_with fail
            refine PA.out.mono ?_
            rintro e w1 ⟨rfl, hb1⟩
            have PB := Lib.hid (rpart_any w1 b hb)
            rw [Hpb.out] at PB
            clear PA
            go_wp2_with fail
            refine PB.out.mono ?_
            rintro e w2 ⟨rfl, hb2⟩
            clear PB
            go_wp2_with fail
            refine wp_region_tree Later treeMake 13 (by kernel_rfl) (by kernel_rfl) later_refl later_trans _ (fun _ _ h => h) ?_
            unfold treeMake
            have n1 : ¬ 9223372036854775807 < 1 + a.length := by omega
            have n2 : ¬ 9223372036854775807 < 1 + a.length + 1 := by omega
            have n3 : ¬ 9223372036854775807 < 1 + a.length + 1 + b.length := by omega
            have hw1 : IntKind.i64.wrap 50 = 50 := by decide
            have hw2 : IntKind.u8.wrap 50 = 50 := by decide
            refine canT_yes (v := ?_) rfl (wanted_none rfl) (fun w' hC => ?_) (fun K hK => ?_); rotate_left; (focus (go_simp; first | done | exact rfl)); go_simp; refine hK _ ?_; clear hK K
            refine canT_yes (v := ?_) rfl (wanted_none rfl) (fun w' hC => ?_) (fun K hK => ?_); rotate_left; (focus (go_simp; first | done | exact rfl)); go_simp; refine hK _ ?_; clear hK K
            refine canT_yes (v := ?_) rfl (wanted_none rfl) (fun w' hC => ?_) (fun K hK => ?_); rotate_left; (focus (go_simp; first | done | exact rfl)); go_simp; refine hK _ ?_; clear hK K
            refine canT_yes (v := ?_) rfl (wanted_none rfl) (fun w' hC => ?_) (fun K hK => ?_); rotate_left; (focus (go_simp; first | done | exact rfl)); go_simp; refine hK _ ?_; clear hK K
            refine canT_yes (v := ?_) rfl (wanted_none rfl) (fun w' hC => ?_) (fun K hK => ?_); rotate_left; (focus (go_simp; first | done | exact rfl)); go_simp; refine hK _ ?_; clear hK K
            have hzw : w.heap.size ≤ w2.heap.size := (kept_trans hb1 hb2).size
            refine canT_both rfl rfl rfl rfl (fun KK hK => ?_) (fun KK hK => ?_)
            · go_simp
              have ka : Later w2.drew (w2.alloc (.cells #[.int .u8 50] 5)).drew := kept_alloc w2.drew _
              have hcv : ∀ w', Later (w2.alloc (.cells #[.int .u8 50] 5)).drew w' → (convert 72 9 (.slice (some ⟨w2.heap.size, 0, none⟩) 1 1)).run Tryz.prog w' = .ok (.string ⟨#[50]⟩) w' := fun w' h => later_str1 (w := w2.drew) (c := 50) h
              obtain ⟨wa, hwa⟩ : ∃ wa, wa = (w2.alloc (.cells #[.int .u8 50] 5)).drew := ⟨_, rfl⟩
              rw [← hwa] at ka hcv ⊢
              refine ⟨ka, hK _ _ ?_⟩
              clear hK KK hwa
              go_simp
              refine canT_yes (v := ?_) rfl (wanted_none rfl) (fun w' hC => ?_) (fun K hK => ?_); rotate_left; (focus (go_simp; first | done | exact rfl)); go_simp; refine hK _ ?_; clear hK K
              refine canT_yes (v := ?_) rfl (wanted_none rfl) (fun w' hC => ?_) (fun K hK => ?_); rotate_left; (focus (go_simp; first | done | exact rfl)); go_simp; refine hK _ ?_; clear hK K
              refine canT_go rfl rfl (fun KK hK => ?_)
              go_simp
              refine (rzero_any _).mono ?_
              rintro e w' ⟨rfl, rfl⟩
              refine ⟨_, rfl, kept_alloc _ _, hK _ _ ?_⟩
              clear hK KK hcv
              go_simp
              refine canT_yes (v := ?_) rfl (wanted_none rfl) (fun w' hC => ?_) (fun K hK => ?_); rotate_left; (focus (go_simp; first | done | exact rfl)); go_simp; refine hK _ ?_; clear hK K
              refine canT_yes (v := ?_) rfl (wanted_none rfl) (fun w' hC => ?_) (fun K hK => ?_); rotate_left; (focus (go_simp; first | done | exact rfl)); go_simp; refine hK _ ?_; clear hK K
              refine canT_yes (v := ?_) rfl (wanted_none rfl) (fun w' hC => ?_) (fun K hK => ?_); rotate_left; (focus (go_simp; first | done | exact rfl)); go_simp; refine hK _ ?_; clear hK K
              refine canT_yes (v := ?_) rfl (wanted_none rfl) (fun w' hC => ?_) (fun K hK => ?_); rotate_left; (focus (go_simp; first | done | exact rfl)); go_simp; refine hK _ ?_; clear hK K
              refine canT_nil ?_
              go_wp2_with fail
              go_ret2
              exact ⟨_, rfl, fun _ => made_eq 50 a b, (((kept_trans hb1 hb2).drew.trans (RowKit.Below.mono ka hzw)).alloc (Nat.le_trans hzw ka.size) _)⟩
            · go_simp
              obtain ⟨wz, hwz⟩ : ∃ wz, wz = w2.drew.alloc (.cells #[.int .u8 0] 5) := ⟨_, rfl⟩
              have kz : Later w2.drew wz := by rw [hwz]; exact kept_alloc _ _
              refine (rzero_any _).mono ?_
              rintro e w' ⟨rfl, rfl⟩
              rw [← hwz]
              refine ⟨_, rfl, kz, hK _ _ ?_⟩
              clear hK KK hwz
              go_simp
              refine canT_go rfl rfl (fun KK hK => ?_)
              go_simp
              have ka : Later wz (wz.alloc (.cells #[.int .u8 50] 5)) := kept_alloc wz _
              have hcv : ∀ w', Later (wz.alloc (.cells #[.int .u8 50] 5)) w' → (convert 72 9 (.slice (some ⟨wz.heap.size, 0, none⟩) 1 1)).run Tryz.prog w' = .ok (.string ⟨#[50]⟩) w' := fun w' h => later_str1 (w := wz) (c := 50) h
              obtain ⟨wa, hwa⟩ : ∃ wa, wa = wz.alloc (.cells #[.int .u8 50] 5) := ⟨_, rfl⟩
              rw [← hwa] at ka hcv ⊢
              refine ⟨ka, hK _ _ ?_⟩
              clear hK KK hwa
              go_simp
              refine canT_yes (v := ?_) rfl (wanted_none rfl) (fun w' hC => ?_) (fun K hK => ?_); rotate_left; (focus (go_simp; first | done | exact rfl)); go_simp; refine hK _ ?_; clear hK K
              refine canT_yes (v := ?_) rfl (wanted_none rfl) (fun w' hC => ?_) (fun K hK => ?_); rotate_left; (focus (go_simp; first | done | exact rfl)); go_simp; refine hK _ ?_; clear hK K
              refine canT_yes (v := ?_) rfl (wanted_none rfl) (fun w' hC => ?_) (fun K hK => ?_); rotate_left; (focus (go_simp; first | done | exact rfl)); go_simp; refine hK _ ?_; clear hK K
              refine canT_yes (v := ?_) rfl (wanted_none rfl) (fun w' hC => ?_) (fun K hK => ?_); rotate_left; (focus (go_simp; first | done | exact rfl)); go_simp; refine hK _ ?_; clear hK K
              refine canT_yes (v := ?_) rfl (wanted_none rfl) (fun w' hC => ?_) (fun K hK => ?_); rotate_left; (focus (go_simp; first | done | exact rfl)); go_simp; refine hK _ ?_; clear hK K
              refine canT_yes (v := ?_) rfl (wanted_none rfl) (fun w' hC => ?_) (fun K hK => ?_); rotate_left; (focus (go_simp; first | done | exact rfl)); go_simp; refine hK _ ?_; clear hK K
              refine canT_nil ?_
              go_wp2_with fail
              go_ret2
              exact ⟨_, rfl, fun _ => made_eq 50 a b, ((kept_trans hb1 hb2).drew.trans (RowKit.Below.mono kz hzw)).trans (RowKit.Below.mono ka (Nat.le_trans hzw kz.size))⟩
        · obtain rfl : ok = false := by simpa [hlen] using hl
          have hlD : decide ((a.length : Int) + (b.length : Int) + 2 > 400) = true := by simp; omega
          clear hl
          rcases hkk with rfl | rfl
          all_goals
            go_enter Tryz.func102, Tryz.ntmps102
            go_wp2_with fail
            refine PA.out.mono ?_
            rintro e w1 ⟨rfl, hb1⟩
            have PB := Lib.hid (rpart_any w1 b hb)
            rw [Hpb.out] at PB
            clear PA
            go_wp2_with fail
            refine PB.out.mono ?_
            rintro e w2 ⟨rfl, hb2⟩
            clear PB
            go_wp2_with fail
            go_ret2
            exact ⟨_, rfl, nofun, kept_trans hb1 hb2⟩
  · obtain rfl : ok = false := by rw [← hok]; simp [makeOk, hkk]
    have k1 : (kind != 1) = true := by simp; omega
    have k2 : (kind != 2) = true := by simp; omega
    clear hok PA
    go_enter Tryz.func102, Tryz.ntmps102
    go_wp2_with fail
    go_ret2
    exact ⟨_, rfl, nofun, Below.refl _ _⟩

theorem key_parts (c : UInt8) (r : List UInt8) (i : Nat) (h : r[i]? = some 0) : (UInt8.ofNat (48 + ((c.toNat : Int) - 48)).toNat :: (r.take i ++ 0 :: r.drop (i + 1))) = c :: r := by
  have hi := (List.getElem?_eq_some_iff.1 h).1
  have h0 := (List.getElem?_eq_some_iff.1 h).2
  rw [show (48 + ((c.toNat : Int) - 48)).toNat = c.toNat by omega, UInt8.ofNat_toNat, ← h0, ← List.drop_eq_getElem_cons hi, List.take_append_drop]
def RParseRel (c : UInt8) (r : List UInt8) (w : World) (i : Value) (wr : World) : Prop :=
  ∃ k : Nat, k ≤ r.length ∧ i = .int .i64 ((k : Int) + 1) ∧ (∀ j, j < k → ¬ (r[j]? = some 0 ∧ makeOk ((c.toNat : Int) - 48) (r.take j) (r.drop (j + 1)) = true)) ∧ Below w.heap.size w wr
set_option maxRecDepth 100000 in
set_option maxHeartbeats 1500000 in
theorem rparse_any (w : World) (l : List UInt8) (hl : l.length ≤ 1000000000) :
    Calls Tryz.prog 97 #[.string ⟨l.toArray⟩] w (ParsePost (keyOk l) w) := by
  cases l with
  | nil =>
    go_enter Tryz.func97, Tryz.ntmps97
    go_wp2_with fail
    go_loop [6] (fun i => i = .int .i64 1) (fun i => 1)
    case atStart => rfl
    case round =>
      subst hrel
      go_wp2_with fail
      exact bodyPost_ret (v := .tuple #[.int .i64 0, .string ⟨#[]⟩, .string ⟨#[]⟩, .bool false]) (by simp [results, Tryz.results97, go_sem]) rfl ⟨_, _, _, rfl, Below.refl _ _⟩
  | cons c r =>
    obtain ⟨ok, hok⟩ : ∃ ok, keyOk (c :: r) = ok := ⟨_, rfl⟩
    rw [hok]
    have hrl : r.length < 1000000000 := by simp at hl; omega
    have hc := UInt8.toNat_lt c
    have Hok := Lib.hid hok
    have Hs := Lib.hid (show RParseRel c r w (.int .i64 1) w from ⟨0, by omega, rfl, fun j hj => by omega, Below.refl _ _⟩)
    clear hok hl
    go_enter Tryz.func97, Tryz.ntmps97
    go_wp2_with fail
    go_loopw [6] (fun i wr => RParseRel c r w i wr) (fun i _ => r.length + 1 - (intOf i).toNat)
    case atStart => exact Hs.out
    case round =>
      obtain ⟨k, hk, rfl, hall, hbw⟩ := hrel
      have Hall := Lib.hid hall; have Hbw := Lib.hid hbw
      clear hall hbw Hs
      by_cases hkl : k < r.length
      · have hkI : (k : Int) + 1 < (r.length : Int) + 1 := by omega
        have hkI' : (k : Int) < (r.length : Int) := by omega
        have hs1 : IntKind.i64.wrap ((k : Int) + 1 + 1) = (k : Int) + 1 + 1 := IntWalk.i64_in _ (by omega)
        have hs2 : ((k : Int) + 1 + 1).toNat = k + 1 + 1 := by omega
        have hs3 : ((k : Int) + 1).toNat = k + 1 := by omega
        have hs4 : (1 : Int) ≤ (k : Int) + 1 := by omega
        go_wp2_with fail
        go_quiet (fail)
        clear hs1 hs2 hs3 hs4
        have e1 : (⟨(c :: r).toArray⟩ : ByteArray).extract 1 (k + 1) = ⟨(r.take k).toArray⟩ := by rw [bytes_cut]; simp
        have e2 : (⟨(c :: r).toArray⟩ : ByteArray).extract (k + 1 + 1) (r.length + 1) = ⟨(r.drop (k + 1)).toArray⟩ := bytes_from (c :: r) (k + 1 + 1)
        have e3 : ∀ h : 0 < (⟨(c :: r).toArray⟩ : ByteArray).size, (⟨(c :: r).toArray⟩ : ByteArray)[0]'h = c := fun _ => rfl
        have e4 : wrap64 (c.toNat : Int) = c.toNat := IntWalk.wrap64_in _ (by omega)
        have e5 : wrap64 ((c.toNat : Int) - 48) = (c.toNat : Int) - 48 := IntWalk.wrap64_in _ (by omega)
        simp only [e1, e2, e3, e4, e5]
        clear e1 e2 e3 e4 e5
        obtain ⟨d, hd⟩ : ∃ d, r[k] = d := ⟨_, rfl⟩
        have hbr : ∀ h : k + 1 < (⟨(c :: r).toArray⟩ : ByteArray).size, ((⟨(c :: r).toArray⟩ : ByteArray)[k + 1]'h) = d := fun h => hd
        have Hd := Lib.hid (show r[k]? = some d by rw [List.getElem?_eq_getElem hkl, hd])
        clear hd
        obtain ⟨wq, hwq⟩ : ∃ wq, wq = wr.drewN nq := ⟨_, rfl⟩
        have Hbq := Lib.hid (show Below w.heap.size w wq by rw [hwq]; exact kept_drewN Hbw.out _)
        rw [← hwq]
        clear hwq
        obtain ⟨ra, hra⟩ : ∃ ra, r.take k = ra := ⟨_, rfl⟩
        obtain ⟨rb, hrb⟩ : ∃ rb, r.drop (k + 1) = rb := ⟨_, rfl⟩
        have hral : ra.length ≤ 1000000000 := by rw [← hra]; simp; omega
        have hrbl : rb.length ≤ 1000000000 := by rw [← hrb]; simp; omega
        rw [hra, hrb]
        have Hra := Lib.hid hra; have Hrb := Lib.hid hrb
        clear hra hrb
        by_cases h0 : d = 0
        · subst h0
          have hkp := key_parts c r k Hd.out
          rw [Hra.out, Hrb.out] at hkp
          have M := Lib.hid (rmake_any wq ((c.toNat : Int) - 48) (by omega) ra rb hral hrbl)
          obtain ⟨mk, hmk⟩ : ∃ mk, makeOk ((c.toNat : Int) - 48) ra rb = mk := ⟨_, rfl⟩
          unfold RMakePost at M
          rw [hmk, hkp] at M
          have Hmk := Lib.hid hmk
          clear hmk hkp
          go_wp2_with fail
          refine M.out.mono ?_
          rintro e w2 ⟨s, rfl, hs, hb2⟩
          have Hb2 := Lib.hid (Hbq.out.trans (hb2.mono Hbq.out.size))
          clear M hb2
          cases mk with
          | true =>
            obtain rfl := hs rfl
            have Hokt := Lib.hid (show ok = true by
              rw [← Hok.out]
              exact (keyOk_iff c r).2 ⟨k, hkl, Hd.out, by rw [Hra.out, Hrb.out]; exact Hmk.out⟩)
            go_wp2_with fail
            rw [Hokt.out]
            exact bodyPost_ret (v := .tuple #[.int .i64 ((c.toNat : Int) - 48), .string ⟨ra.toArray⟩, .string ⟨rb.toArray⟩, .bool true]) (by simp [results, Tryz.results97, go_sem]) rfl ⟨_, _, _, rfl, Hb2.out⟩
          | false =>
            clear hs
            go_wp2_with fail
            go_roundw
            case rel => exact ⟨k + 1, by omega, by go_num, fun j hj => by
              rcases Nat.lt_succ_iff_lt_or_eq.1 hj with h | h
              · exact Hall.out j h
              · subst h; rintro ⟨-, h⟩; rw [Hra.out, Hrb.out, Hmk.out] at h; exact absurd h (by decide), Hb2.out⟩
            case measure => simp [intOf]; omega
        · have hcz : ((d.toNat : Int) != 0) = true := by
            simp
            intro e
            exact h0 (UInt8.toNat_inj.1 (by simpa using e))
          go_wp2_with fail
          go_roundw
          case rel => exact ⟨k + 1, by omega, by go_num, fun j hj => by
            rcases Nat.lt_succ_iff_lt_or_eq.1 hj with h | h
            · exact Hall.out j h
            · subst h; rintro ⟨h, -⟩; rw [Hd.out] at h; exact h0 (by simpa using h), Hbq.out⟩
          case measure => simp [intOf]; omega
      · have hkI : ¬ (k : Int) + 1 < (r.length : Int) + 1 := by omega
        have hkI' : ¬ (k : Int) < (r.length : Int) := by omega
        have Hokf := Lib.hid (show ok = false by
          rw [← Hok.out]
          refine Bool.eq_false_iff.2 fun h => ?_
          obtain ⟨j, hj, h1, h2⟩ := (keyOk_iff c r).1 h
          exact Hall.out j (by omega) ⟨h1, h2⟩)
        go_wp2_with fail
        rw [Hokf.out]
        exact bodyPost_ret (v := .tuple #[.int .i64 0, .string ⟨#[]⟩, .string ⟨#[]⟩, .bool false]) (by simp [results, Tryz.results97, go_sem]) rfl ⟨_, _, _, rfl, Hbw.out⟩

theorem rkeyValid_any (w : World) (l : List UInt8) (hl : l.length ≤ 1000000000) :
    Calls Tryz.prog 85 #[.string ⟨l.toArray⟩] w fun e w' => e = .returned (.bool (keyOk l)) ∧ Below w.heap.size w w' := by
  have P := Lib.hid (rparse_any w l hl)
  obtain ⟨ok, hok⟩ : ∃ ok, keyOk l = ok := ⟨_, rfl⟩
  rw [hok] at P ⊢
  clear hok
  go_enter Tryz.func85, Tryz.ntmps85
  go_wp2_with fail
  refine P.out.mono ?_
  rintro e w1 ⟨k, a, b, rfl, hb⟩
  clear P
  go_wp2_with fail
  go_ret
  exact ⟨rfl, hb⟩
end Go.Proofs.YtohahloghmanpaaGreatDoor
