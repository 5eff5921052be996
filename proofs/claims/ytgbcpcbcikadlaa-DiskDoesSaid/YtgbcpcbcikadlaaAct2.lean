/- An act on both disks: Up; Write that is refused. -/
import Derived.Test.YtgbcpcbcikadlaaAct1
import Derived.Test.YtgbcpcbcikadlaaRegion2
namespace Go.Proofs.Ytgbcpcbcikadlaa
open Go.RowKit
set_option linter.unusedVariables false
attribute [local go_sem ↓] seal_append seal_make_bytes
attribute [local go_sem] opC upC



set_option maxRecDepth 100000 in
set_option maxHeartbeats 2000000 in
theorem act_up (w : World) (K : DK) (KR : RK) (M : MD) (hb : Both w K KR M) (kind at_ n : Int) (vB : Value) (full : Bool) (l : List UInt8) (F : Blks) (hF : ∀ b, F b → b < w.heap.size ∧ ¬ K.foot b ∧ ¬ KR.all b) (hB : Bytes F w vB l) (hl : l.length ≤ 200) (hk0 : 0 ≤ kind) (hk9 : kind ≤ 255) (hkind : kind % 8 = 6) :
    Calls Try.prog 23 #[.pointer (some ⟨K.d, 0, none⟩), .pointer (some ⟨KR.d, 0, none⟩), .agg #[.int .u8 kind, .int .i64 at_, .int .i64 n, vB, .bool full]] w (ActPost w K KR M) := by
  obtain ⟨w1, hw1⟩ : ∃ w1, w1 = w.alloc (.cells #[.int .u8 kind, .int .i64 at_, .int .i64 n, vB, .bool full] 49) := ⟨_, rfl⟩
  have hk1 : Below w.heap.size w w1 := by rw [hw1]; exact kept_alloc _ _
  have hblk1 : Blk w1 w.heap.size [.int .u8 kind, .int .i64 at_, .int .i64 n, vB, .bool full] 49 := by rw [hw1]; exact Blk.new _ _ _
  have hs1 : w1.heap.size = w.heap.size + 1 := by rw [hw1]; simp
  have hB1 : Bytes F w1 vB l := hB.keep fun b hb _ => hk1.block b (hF b hb).1
  have Hw1 := Lib.hid hw1; clear hw1
  have Hs1 := Lib.hid hs1; clear hs1
  have hb1 := hb.kept hk1
  go_enter Try.func23, Try.ntmps23
  go_wp2_with fail
  rw [← Hw1.out]
  refine (actBytes_any w1 F kind at_ n _ full l hB1 hl).mono ?_
  rintro e wa ⟨r1, rfl, hr1, hba⟩
  have hblk := hblk1.keep (hba.block _ hblk1.lt)
  have hb2 := hb1.kept hba
  have hka := hk1.trans (hba.mono hk1.size)
  have hsa : w.heap.size + 1 ≤ wa.heap.size := by have := hba.size; have := Hs1.out; omega
  have hlen := fullB_le full l hl
  have hrest := RowRest.of_owns hr1
  rw [Hs1.out] at hrest hr1
  have hB2 : Bytes F wa vB l := hB1.keep fun b hb _ => hba.block b (by have := Hs1.out; have := (hF b hb).1; omega)
  obtain ⟨ra, rc, rfl, hrc, hrm⟩ := owns_is hr1
  have hrB : Bytes (fun b => w.heap.size + 1 ≤ b ∧ b < wa.heap.size) wa (.slice ra (fullB full l).length rc) (fullB full l) := Bytes.of_owns hr1 _ (fun k h1 h2 => ⟨h1, h2⟩)
  clear hba hblk1 hB1 hr1 hb1 hk1
  have c0 := hblk.cell 0
  have c1 := hblk.cell 1
  have c2 := hblk.cell 2
  have c3 := hblk.cell 3
  have c4 := hblk.cell 4
  simp at c0 c1 c2 c3 c4
  go_wp2_with fail
  refine (up_any wa K M hb2.d).mono ?_
  rintro e wb ⟨rfl, hd3, ho3, hs3⟩
  have hr3 := hb2.r.only ho3 (fun b hb hf => hb2.apart b hf hb)
  go_wp2_with fail
  refine (refUp_any wb KR M hr3).mono ?_
  rintro e wc ⟨rfl, hr4, ho4, hs4⟩
  have hd4 := hd3.only ho4 (fun b hb hf => hb2.apart b hb (RefAt.foot_all hf))
  have honly : Only (actFoot K KR) w wc := ((Only.of_below hka).trans ho3 (fun i hi => .inl (.inl hi))).trans ho4 (fun i hi => .inl (.inr hi))
  have hthen : ∃ K' KR' M', K'.d = K.d ∧ Then (w.heap.size + 1) wa.heap.size K KR M wc K' KR' M' := ⟨K, KR, { M with down := false }, rfl, ⟨hd4, hr4, hb.apart⟩, rfl, rfl, by show M.writes ≤ _; omega, fun b hb => hb.imp id .inl⟩
  replace hrest : RowRest (w.heap.size + 1) wa.heap.size (.slice ra (fullB full l).length rc) (fullB full l).length 0 wc := (hrest.keep fun b h1 h2 => ho3.block b h2 (fun hf => by have := hb.d.lt b hf; omega)).keep fun b h1 h2 => ho4.block b (by omega) (fun hf => by have := hb.r.lt b (RefAt.foot_all hf); omega)
  clear hr4 ho4 hd4 hr3 ho3 hd3 hb2 hblk c0 c1 c2 c3 c4 hB2 hrB
  obtain ⟨K', KR', M', hK', hthen⟩ := hthen
  generalize (fullB full l).length = fl at *
  rw [← hK']
  have HK' := Lib.hid hK'; clear hK'
  go_wp2_with fail
  go_loopw [16] (fun i wr => ∃ k : Nat, k ≤ fl ∧ i = .int .i64 (k : Int) ∧ Then (w.heap.size + 1) wa.heap.size K KR M wr K' KR' M' ∧ RowRest (w.heap.size + 1) wa.heap.size (.slice ra fl rc) fl k wr ∧ Only (actFoot K KR) w wr) (fun i _ => fl - (intOf i).toNat)
  case atStart => exact ⟨0, by omega, rfl, hthen, hrest, honly⟩
  case round =>
    obtain ⟨k, hk, rfl, hth, hre, hon⟩ := hrel
    by_cases hkl : k < fl
    · have hklI : (k : Int) < (fl : Int) := by omega
      obtain ⟨g, cap, L, hv, hg1, hg2, hL, hLc⟩ := hre.resolve_left (by omega)
      simp at hv
      obtain ⟨rfl, rfl⟩ := hv
      obtain ⟨c, hc⟩ := hLc k (Nat.le_refl _) hkl
      have cc := hL.cell k
      have cf := hL.free k
      rw [hc] at cc
      unfold B at cc
      have hset : RowRest (w.heap.size + 1) wa.heap.size (.slice (some ⟨g, 0, none⟩) fl rc) fl (k + 1) (wr.setCell ⟨g, k, none⟩ (.int .u8 (IntKind.u8.wrap ((c.toNat : Int) + 1)))) :=
        .inr ⟨g, rc, _, rfl, hg1, hg2, hL.set k _, fun j hj hjl => by rw [List.getElem?_set_ne (by omega)]; exact hLc j (by omega) hjl⟩
      have hth2 : Then (w.heap.size + 1) wa.heap.size K KR M (wr.setCell ⟨g, k, none⟩ (.int .u8 (IntKind.u8.wrap ((c.toNat : Int) + 1)))) K' KR' M' := ⟨hth.1.set _ _ (hth.lt hb (by omega) g hg1 hg2), hth.2⟩
      have Hset := Lib.hid hset; have Hth := Lib.hid hth2
      clear hset hth2 hre hth hLc hc hL
      go_wp2_with fail
      go_roundw
      case rel => exact ⟨k + 1, by omega, by go_num, Hth.out, Hset.out, hon.setCell (.inr (by show w.heap.size ≤ g; omega)) _⟩
      case measure => simp [intOf]; omega
    · have hklI : ¬ (k : Int) < (fl : Int) := by omega
      go_wp2_with fail
      go_ret2
      exact ⟨K', KR', M', rfl, ⟨hth.1, hth.2.1, hth.2.2.1, hth.2.2.2.1, fun b hb => (hth.2.2.2.2 b hb).imp id (Or.imp id (fun h => Nat.le_trans hka.size h))⟩, hon⟩
end Go.Proofs.Ytgbcpcbcikadlaa
