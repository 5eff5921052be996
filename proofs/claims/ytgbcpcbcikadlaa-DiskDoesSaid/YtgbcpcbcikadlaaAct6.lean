/- An act on both disks: Read, Copy. -/
import Derived.Test.YtgbcpcbcikadlaaAct5
namespace Go.Proofs.Ytgbcpcbcikadlaa
open Go.RowKit
set_option linter.unusedVariables false
attribute [local go_sem ↓] seal_append seal_make_bytes
attribute [local go_sem] opC upC



theorem str_nil (w : World) : (convert 28 9 (.slice none 0 0)).run Try.prog w = .ok (.string ⟨([] : List UInt8).toArray⟩) w :=
  run_str (F := none_) (l := []) ⟨none, 0, rfl, by simp, by unfold maxLen; omega, fun _ => rfl, .inl rfl⟩


set_option maxRecDepth 100000 in
set_option maxHeartbeats 4000000 in
theorem act_read_err (w : World) (K : DK) (KR : RK) (M : MD) (hb : Both w K KR M) (kind at_ n : Int) (vB : Value) (full : Bool) (l : List UInt8) (F : Blks) (hF : ∀ b, F b → b < w.heap.size ∧ ¬ K.foot b ∧ ¬ KR.all b) (hB : Bytes F w vB l) (hl : l.length ≤ 200) (hk0 : 0 ≤ kind) (hk9 : kind ≤ 255) (hkind : kind % 8 = 4) (hc : M.chk at_ ≠ 0) :
    Calls Try.prog 23 #[.pointer (some ⟨K.d, 0, none⟩), .pointer (some ⟨KR.d, 0, none⟩), .agg #[.int .u8 kind, .int .i64 at_, .int .i64 n, vB, .bool full]] w (ActPost w K KR M) := by
  have Hc := Lib.hid hc; clear hc
  obtain ⟨w1, hw1⟩ : ∃ w1, w1 = w.alloc (.cells #[.int .u8 kind, .int .i64 at_, .int .i64 n, vB, .bool full] 49) := ⟨_, rfl⟩
  have hk1 : Below w.heap.size w w1 := by rw [hw1]; exact kept_alloc _ _
  have hblk1 : Blk w1 w.heap.size [.int .u8 kind, .int .i64 at_, .int .i64 n, vB, .bool full] 49 := by rw [hw1]; exact Blk.new _ _ _
  have hs1 : w1.heap.size = w.heap.size + 1 := by rw [hw1]; simp
  have hB1 : Bytes F w1 vB l := hB.keep fun b hb _ => hk1.block b (hF b hb).1
  have Hw1 := Lib.hid hw1; clear hw1
  have Hs1 := Lib.hid hs1; clear hs1
  have hb1 := hb.kept hk1
  go_enter Try.func23, Try.ntmps23
  go_wp2_with fail
  rw [← Hw1.out]
  refine (actBytes_any w1 F kind at_ n _ full l hB1 hl).mono ?_
  rintro e wa ⟨r1, rfl, hr1, hba⟩
  have hblk := hblk1.keep (hba.block _ hblk1.lt)
  have hb2 := hb1.kept hba
  have hka := hk1.trans (hba.mono hk1.size)
  have hsa : w.heap.size + 1 ≤ wa.heap.size := by have := hba.size; have := Hs1.out; omega
  have hlen := fullB_le full l hl
  have hrest := RowRest.of_owns hr1
  rw [Hs1.out] at hrest hr1
  have hB2 : Bytes F wa vB l := hB1.keep fun b hb _ => hba.block b (by have := Hs1.out; have := (hF b hb).1; omega)
  obtain ⟨ra, rc, rfl, hrc, hrm⟩ := owns_is hr1
  have hrB : Bytes (fun b => w.heap.size + 1 ≤ b ∧ b < wa.heap.size) wa (.slice ra (fullB full l).length rc) (fullB full l) := Bytes.of_owns hr1 _ (fun k h1 h2 => ⟨h1, h2⟩)
  clear hba hblk1 hB1 hr1 hb1 hk1
  have c0 := hblk.cell 0
  have c1 := hblk.cell 1
  have c2 := hblk.cell 2
  have c3 := hblk.cell 3
  have c4 := hblk.cell 4
  simp at c0 c1 c2 c3 c4
  go_wp2_with fail
  refine (read_err wa K M at_ hb2.d Hc.out).mono ?_
  rintro e w' ⟨rfl, rfl⟩
  go_wp2_with fail
  refine (refRead_err wa KR M at_ hb2.r Hc.out).mono ?_
  rintro e w' ⟨rfl, rfl⟩
  have s0 := str_nil wa
  go_wp2_with fail
  go_loopw [14] (fun i wr => i = .int .i64 0 ∧ wa = wr) (fun i _ => 0)
  case atStart => exact ⟨rfl, rfl⟩
  case round =>
    obtain ⟨rfl, rfl⟩ := hrel
    have honly : Only (actFoot K KR) w wa := Only.of_below hka
    have hthen : Then (w.heap.size + 1) wa.heap.size K KR M wa K KR M := ⟨hb2, rfl, rfl, by omega, fun b hb => hb.imp id .inl⟩
    go_wp2_with fail
    clear hblk c0 c1 c2 c3 c4 hB2 hrB
    obtain ⟨K', KR', M', hK', hthen⟩ : ∃ K' KR' M', K'.d = K.d ∧ Then (w.heap.size + 1) wa.heap.size K KR M wa K' KR' M' := ⟨K, KR, M, rfl, hthen⟩
    generalize (fullB full l).length = fl at *
    rw [← hK']
    have HK' := Lib.hid hK'; clear hK'
    go_wp2_with fail
    go_loopw [16] (fun i wr => ∃ k : Nat, k ≤ fl ∧ i = .int .i64 (k : Int) ∧ Then (w.heap.size + 1) wa.heap.size K KR M wr K' KR' M' ∧ RowRest (w.heap.size + 1) wa.heap.size (.slice ra fl rc) fl k wr ∧ Only (actFoot K KR) w wr) (fun i _ => fl - (intOf i).toNat)
    case atStart => exact ⟨0, by omega, rfl, hthen, hrest, honly⟩
    case round =>
      obtain ⟨k, hk, rfl, hth, hre, hon⟩ := hrel
      by_cases hkl : k < fl
      · have hklI : (k : Int) < (fl : Int) := by omega
        obtain ⟨g, cap, L, hv, hg1, hg2, hL, hLc⟩ := hre.resolve_left (by omega)
        simp at hv
        obtain ⟨rfl, rfl⟩ := hv
        obtain ⟨c, hc⟩ := hLc k (Nat.le_refl _) hkl
        have cc := hL.cell k
        have cf := hL.free k
        rw [hc] at cc
        unfold B at cc
        have hset : RowRest (w.heap.size + 1) wa.heap.size (.slice (some ⟨g, 0, none⟩) fl rc) fl (k + 1) (wr.setCell ⟨g, k, none⟩ (.int .u8 (IntKind.u8.wrap ((c.toNat : Int) + 1)))) :=
          .inr ⟨g, rc, _, rfl, hg1, hg2, hL.set k _, fun j hj hjl => by rw [List.getElem?_set_ne (by omega)]; exact hLc j (by omega) hjl⟩
        have hth2 : Then (w.heap.size + 1) wa.heap.size K KR M (wr.setCell ⟨g, k, none⟩ (.int .u8 (IntKind.u8.wrap ((c.toNat : Int) + 1)))) K' KR' M' := ⟨hth.1.set _ _ (hth.lt hb (by omega) g hg1 hg2), hth.2⟩
        have Hset := Lib.hid hset; have Hth := Lib.hid hth2
        clear hset hth2 hre hth hLc hc hL
        go_wp2_with fail
        go_roundw
        case rel => exact ⟨k + 1, by omega, by go_num, Hth.out, Hset.out, hon.setCell (.inr (by show w.heap.size ≤ g; omega)) _⟩
        case measure => simp [intOf]; omega
      · have hklI : ¬ (k : Int) < (fl : Int) := by omega
        go_wp2_with fail
        go_ret2
        exact ⟨K', KR', M', rfl, ⟨hth.1, hth.2.1, hth.2.2.1, hth.2.2.2.1, fun b hb => (hth.2.2.2.2 b hb).imp id (Or.imp id (fun h => Nat.le_trans hka.size h))⟩, hon⟩

set_option maxRecDepth 100000 in
set_option maxHeartbeats 4000000 in
theorem act_read_ok (w : World) (K : DK) (KR : RK) (M : MD) (hb : Both w K KR M) (kind : Int) (atn : Nat) (n : Int) (vB : Value) (full : Bool) (l : List UInt8) (F : Blks) (hF : ∀ b, F b → b < w.heap.size ∧ ¬ K.foot b ∧ ¬ KR.all b) (hB : Bytes F w vB l) (hl : l.length ≤ 200) (hk0 : 0 ≤ kind) (hk9 : kind ≤ 255) (hkind : kind % 8 = 4) (hat : atn < M.S.length) (hdn : M.down = false) :
    Calls Try.prog 23 #[.pointer (some ⟨K.d, 0, none⟩), .pointer (some ⟨KR.d, 0, none⟩), .agg #[.int .u8 kind, .int .i64 (atn : Int), .int .i64 n, vB, .bool full]] w (ActPost w K KR M) := by
  obtain ⟨at_, hat'⟩ : ∃ x : Int, x = (atn : Int) := ⟨_, rfl⟩
  rw [← hat']
  have HA := Lib.hid hat'; clear hat'
  have Hdn := Lib.hid hdn; clear hdn
  have h64 : (M.S[atn]).length = 64 := hb.r.s64 _ (List.getElem_mem hat)
  have H64 := Lib.hid h64; clear h64
  obtain ⟨w1, hw1⟩ : ∃ w1, w1 = w.alloc (.cells #[.int .u8 kind, .int .i64 at_, .int .i64 n, vB, .bool full] 49) := ⟨_, rfl⟩
  have hk1 : Below w.heap.size w w1 := by rw [hw1]; exact kept_alloc _ _
  have hblk1 : Blk w1 w.heap.size [.int .u8 kind, .int .i64 at_, .int .i64 n, vB, .bool full] 49 := by rw [hw1]; exact Blk.new _ _ _
  have hs1 : w1.heap.size = w.heap.size + 1 := by rw [hw1]; simp
  have hB1 : Bytes F w1 vB l := hB.keep fun b hb _ => hk1.block b (hF b hb).1
  have Hw1 := Lib.hid hw1; clear hw1
  have Hs1 := Lib.hid hs1; clear hs1
  have hb1 := hb.kept hk1
  go_enter Try.func23, Try.ntmps23
  go_wp2_with fail
  rw [← Hw1.out]
  refine (actBytes_any w1 F kind at_ n _ full l hB1 hl).mono ?_
  rintro e wa ⟨r1, rfl, hr1, hba⟩
  have hblk := hblk1.keep (hba.block _ hblk1.lt)
  have hb2 := hb1.kept hba
  have hka := hk1.trans (hba.mono hk1.size)
  have hsa : w.heap.size + 1 ≤ wa.heap.size := by have := hba.size; have := Hs1.out; omega
  have hlen := fullB_le full l hl
  have hrest := RowRest.of_owns hr1
  rw [Hs1.out] at hrest hr1
  have hB2 : Bytes F wa vB l := hB1.keep fun b hb _ => hba.block b (by have := Hs1.out; have := (hF b hb).1; omega)
  obtain ⟨ra, rc, rfl, hrc, hrm⟩ := owns_is hr1
  have hrB : Bytes (fun b => w.heap.size + 1 ≤ b ∧ b < wa.heap.size) wa (.slice ra (fullB full l).length rc) (fullB full l) := Bytes.of_owns hr1 _ (fun k h1 h2 => ⟨h1, h2⟩)
  clear hba hblk1 hB1 hr1 hb1 hk1
  have c0 := hblk.cell 0
  have c1 := hblk.cell 1
  have c2 := hblk.cell 2
  have c3 := hblk.cell 3
  have c4 := hblk.cell 4
  simp at c0 c1 c2 c3 c4
  go_wp2_with fail
  rw [HA.out]
  refine (read_ok wa K M atn hb2.d hat Hdn.out).mono ?_
  rintro e wb ⟨r1, rfl, hr1, hbb⟩
  have hb3 := hb2.kept hbb
  clear c0 c1 c2 c3 c4
  have c1 : wb.cell? ⟨w.heap.size, 1, none⟩ = some (.int .i64 at_) := by simpa using (hblk.keep (hbb.block _ hblk.lt)).cell 1
  go_wp2_with fail
  rw [HA.out]
  refine (refRead_ok wb KR M atn hb3.r hat Hdn.out).mono ?_
  rintro e wc ⟨r2, rfl, hr2, hbc⟩
  have hb4 := hb3.kept hbc
  have hr1' := hr1
  have hr2' := hr2
  rw [← H64.out] at hr1' hr2'
  have hrest1 : RowRest wa.heap.size wb.heap.size r1 (M.S[atn]).length 0 wc := (RowRest.of_owns hr1').keep fun b h1 h2 => hbc.block b h2
  obtain ⟨a1, p1, rfl, hp1, hm1⟩ := owns_is hr1'
  obtain ⟨a2, p2, rfl, hp2, hm2⟩ := owns_is hr2'
  have s1 := owns_later hr1 H64.out hbc
  have s2 := owns_later hr2 H64.out (Below.refl _ wc)
  rw [H64.out] at s1 s2 hrest1 hp1 hp2
  clear hr1 hr2 hr1' hr2' c1
  generalize M.S[atn] = sec at *
  rw [H64.out]
  have hbd : Below w.heap.size w wc := (hka.trans (hbb.mono hka.size)).trans (hbc.mono (Nat.le_trans hka.size hbb.size))
  have hrestc : RowRest (w.heap.size + 1) wa.heap.size (.slice ra (fullB full l).length rc) (fullB full l).length 0 wc := (hrest.keep fun b h1 h2 => hbb.block b h2).keep fun b h1 h2 => hbc.block b (by have := hbb.size; omega)
  have hsz1 : wa.heap.size ≤ wb.heap.size := hbb.size
  have hsz2 : wb.heap.size ≤ wc.heap.size := hbc.size
  clear hrest
  go_wp2_with fail
  clear s1 s2
  go_loopw [14] (fun i wr => ∃ k : Nat, k ≤ 64 ∧ i = .int .i64 (k : Int) ∧ Both wr K KR M ∧ RowRest wa.heap.size wb.heap.size (.slice a1 64 p1) 64 k wr ∧ RowRest (w.heap.size + 1) wa.heap.size (.slice ra (fullB full l).length rc) (fullB full l).length 0 wr ∧ Below w.heap.size w wr) (fun i _ => 64 - (intOf i).toNat)
  case atStart => exact ⟨0, by omega, rfl, hb4, hrest1, hrestc, hbd⟩
  case round =>
    clear hb4 hrest1 hrestc hbd
    obtain ⟨k, hk, rfl, hbr, hre1, hrest, hbw⟩ := hrel
    by_cases hkl : k < 64
    · have hklI : (k : Int) < 64 := by omega
      obtain ⟨g, cap, L, hv, hg1, hg2, hL, hLc⟩ := hre1.resolve_left (by omega)
      simp at hv
      obtain ⟨rfl, rfl⟩ := hv
      obtain ⟨c, hc⟩ := hLc k (Nat.le_refl _) hkl
      have cc := hL.cell k
      have cf := hL.free k
      rw [hc] at cc
      unfold B at cc
      have hset : RowRest wa.heap.size wb.heap.size (.slice (some ⟨g, 0, none⟩) 64 p1) 64 (k + 1) (wr.setCell ⟨g, k, none⟩ (.int .u8 (IntKind.u8.wrap ((c.toNat : Int) + 1)))) :=
        .inr ⟨g, p1, _, rfl, hg1, hg2, hL.set k _, fun j hj hjl => by rw [List.getElem?_set_ne (by omega)]; exact hLc j (by omega) hjl⟩
      have hrest2 : RowRest (w.heap.size + 1) wa.heap.size (.slice ra (fullB full l).length rc) (fullB full l).length 0 (wr.setCell ⟨g, k, none⟩ (.int .u8 (IntKind.u8.wrap ((c.toNat : Int) + 1)))) := hrest.keep fun b h1 h2 => Below.heap_setCell _ _ _ _ (by show b ≠ g; omega)
      have hbr2 : Both (wr.setCell ⟨g, k, none⟩ (.int .u8 (IntKind.u8.wrap ((c.toNat : Int) + 1)))) K KR M := hbr.set _ _ (fun b hbx => by
        have h1 := hb.d.lt; have h2 := hb.r.lt
        rcases hbx with h | h
        · have := h1 b h; show b ≠ g; omega
        · have := h2 b h; show b ≠ g; omega)
      have Hset := Lib.hid hset; have Hbr := Lib.hid hbr2; have Hrest := Lib.hid hrest2
      clear hset hbr2 hre1 hbr hLc hc hL hrest2 hrest
      go_wp2_with fail
      go_roundw
      case rel => exact ⟨k + 1, by omega, by go_num, Hbr.out, Hset.out, Hrest.out, hbw.setCell (by show w.heap.size ≤ g; omega) _⟩
      case measure => simp [intOf]; omega
    · have hklI : ¬ (k : Int) < 64 := by omega
      have honly : Only (actFoot K KR) w wr := Only.of_below hbw
      have hthen : Then (w.heap.size + 1) wa.heap.size K KR M wr K KR M := ⟨hbr, rfl, rfl, by omega, fun b hb => hb.imp id .inl⟩
      clear hre1 hbr hb2 hb3
      go_wp2_with fail
      clear hblk hB2 hrB
      obtain ⟨wo, hwo⟩ : ∃ wo : World, wo = wr := ⟨_, rfl⟩
      rw [← hwo] at hrest honly hthen ⊢
      clear hbw hwo
      obtain ⟨K', KR', M', hK', hthen⟩ : ∃ K' KR' M', K'.d = K.d ∧ Then (w.heap.size + 1) wa.heap.size K KR M wo K' KR' M' := ⟨K, KR, M, rfl, hthen⟩
      generalize (fullB full l).length = fl at *
      rw [← hK']
      have HK' := Lib.hid hK'; clear hK'
      go_wp2_with fail
      go_loopw [16] (fun i wr => ∃ k : Nat, k ≤ fl ∧ i = .int .i64 (k : Int) ∧ Then (w.heap.size + 1) wa.heap.size K KR M wr K' KR' M' ∧ RowRest (w.heap.size + 1) wa.heap.size (.slice ra fl rc) fl k wr ∧ Only (actFoot K KR) w wr) (fun i _ => fl - (intOf i).toNat)
      case atStart => exact ⟨0, by omega, rfl, hthen, hrest, honly⟩
      case round =>
        obtain ⟨k, hk, rfl, hth, hre, hon⟩ := hrel
        by_cases hkl : k < fl
        · have hklI : (k : Int) < (fl : Int) := by omega
          obtain ⟨g, cap, L, hv, hg1, hg2, hL, hLc⟩ := hre.resolve_left (by omega)
          simp at hv
          obtain ⟨rfl, rfl⟩ := hv
          obtain ⟨c, hc⟩ := hLc k (Nat.le_refl _) hkl
          have cc := hL.cell k
          have cf := hL.free k
          rw [hc] at cc
          unfold B at cc
          have hset : RowRest (w.heap.size + 1) wa.heap.size (.slice (some ⟨g, 0, none⟩) fl rc) fl (k + 1) (wr.setCell ⟨g, k, none⟩ (.int .u8 (IntKind.u8.wrap ((c.toNat : Int) + 1)))) :=
            .inr ⟨g, rc, _, rfl, hg1, hg2, hL.set k _, fun j hj hjl => by rw [List.getElem?_set_ne (by omega)]; exact hLc j (by omega) hjl⟩
          have hth2 : Then (w.heap.size + 1) wa.heap.size K KR M (wr.setCell ⟨g, k, none⟩ (.int .u8 (IntKind.u8.wrap ((c.toNat : Int) + 1)))) K' KR' M' := ⟨hth.1.set _ _ (hth.lt hb (by omega) g hg1 hg2), hth.2⟩
          have Hset := Lib.hid hset; have Hth := Lib.hid hth2
          clear hset hth2 hre hth hLc hc hL
          go_wp2_with fail
          go_roundw
          case rel => exact ⟨k + 1, by omega, by go_num, Hth.out, Hset.out, hon.setCell (.inr (by show w.heap.size ≤ g; omega)) _⟩
          case measure => simp [intOf]; omega
        · have hklI : ¬ (k : Int) < (fl : Int) := by omega
          go_wp2_with fail
          go_ret2
          exact ⟨K', KR', M', rfl, ⟨hth.1, hth.2.1, hth.2.2.1, hth.2.2.2.1, fun b hb => (hth.2.2.2.2 b hb).imp id (Or.imp id (fun h => Nat.le_trans hka.size h))⟩, hon⟩

set_option maxRecDepth 100000 in
set_option maxHeartbeats 4000000 in
theorem act_copy (w : World) (K : DK) (KR : RK) (M : MD) (hb : Both w K KR M) (kind at_ n : Int) (vB : Value) (full : Bool) (l : List UInt8) (F : Blks) (hF : ∀ b, F b → b < w.heap.size ∧ ¬ K.foot b ∧ ¬ KR.all b) (hB : Bytes F w vB l) (hl : l.length ≤ 200) (hk0 : 0 ≤ kind) (hk9 : kind ≤ 255) (hkind : kind % 8 = 7) (hat : -9223372036854775808 ≤ at_ ∧ at_ ≤ 9223372036854775807) (hw : M.writes < 4611686018427387904) :
    Calls Try.prog 23 #[.pointer (some ⟨K.d, 0, none⟩), .pointer (some ⟨KR.d, 0, none⟩), .agg #[.int .u8 kind, .int .i64 at_, .int .i64 n, vB, .bool full]] w (ActPost w K KR M) := by
  have hwr : ∃ er : Int, ∀ (W : World) (g : Nat), DiskAt W K { M with down := false } → Blk W g (List.replicate 64 (B 77)) 5 → ¬ K.foot g → Calls Try.prog 13 #[.pointer (some ⟨K.d, 0, none⟩), .int .i64 at_, .slice (some ⟨g, 0, none⟩) 64 64] W fun e w' => e = .returned (.int .i64 er) ∧ Only K.foot W w' := by
    by_cases h0 : ({ M with down := false } : MD).chk at_ = 0
    · obtain ⟨h1, h2, h3⟩ := MD.chk_ok h0
      exact ⟨_, fun W g hd hg hn => (write_sector W K _ hd at_ h2 h3 h1 hw g 77 _ hg hn).mono fun e w' ⟨he, _, ho, _⟩ => ⟨he, ho⟩⟩
    · exact ⟨_, fun W g hd hg hn => (write_chk W K _ at_ _ hd h0).mono fun e w' ⟨he, hw⟩ => ⟨he, by subst hw; exact Only.refl _ _⟩⟩
  obtain ⟨er, hwr⟩ := hwr
  have Hwr := Lib.hid hwr; clear hwr
  obtain ⟨w1, hw1⟩ : ∃ w1, w1 = w.alloc (.cells #[.int .u8 kind, .int .i64 at_, .int .i64 n, vB, .bool full] 49) := ⟨_, rfl⟩
  have hk1 : Below w.heap.size w w1 := by rw [hw1]; exact kept_alloc _ _
  have hblk1 : Blk w1 w.heap.size [.int .u8 kind, .int .i64 at_, .int .i64 n, vB, .bool full] 49 := by rw [hw1]; exact Blk.new _ _ _
  have hs1 : w1.heap.size = w.heap.size + 1 := by rw [hw1]; simp
  have hB1 : Bytes F w1 vB l := hB.keep fun b hb _ => hk1.block b (hF b hb).1
  have Hw1 := Lib.hid hw1; clear hw1
  have Hs1 := Lib.hid hs1; clear hs1
  have hb1 := hb.kept hk1
  go_enter Try.func23, Try.ntmps23
  go_wp2_with fail
  rw [← Hw1.out]
  refine (actBytes_any w1 F kind at_ n _ full l hB1 hl).mono ?_
  rintro e wa ⟨r1, rfl, hr1, hba⟩
  have hblk := hblk1.keep (hba.block _ hblk1.lt)
  have hb2 := hb1.kept hba
  have hka := hk1.trans (hba.mono hk1.size)
  have hsa : w.heap.size + 1 ≤ wa.heap.size := by have := hba.size; have := Hs1.out; omega
  have hlen := fullB_le full l hl
  have hrest := RowRest.of_owns hr1
  rw [Hs1.out] at hrest hr1
  have hB2 : Bytes F wa vB l := hB1.keep fun b hb _ => hba.block b (by have := Hs1.out; have := (hF b hb).1; omega)
  obtain ⟨ra, rc, rfl, hrc, hrm⟩ := owns_is hr1
  have hrB : Bytes (fun b => w.heap.size + 1 ≤ b ∧ b < wa.heap.size) wa (.slice ra (fullB full l).length rc) (fullB full l) := Bytes.of_owns hr1 _ (fun k h1 h2 => ⟨h1, h2⟩)
  clear hba hblk1 hB1 hr1 hb1 hk1
  have c0 := hblk.cell 0
  have c1 := hblk.cell 1
  have c2 := hblk.cell 2
  have c3 := hblk.cell 3
  have c4 := hblk.cell 4
  simp at c0 c1 c2 c3 c4
  go_wp2_with fail
  refine (copy_any wa K M hb2.d).mono ?_
  rintro e wb ⟨K', rfl, hd3, hbb, hfoot⟩
  have hb3 := hb2.kept hbb
  go_wp2_with fail
  refine (up_any wb K M hb3.d).mono ?_
  rintro e wc ⟨rfl, hd4, ho4, hs4⟩
  have hlt1 := hb.d.lt
  have hlt2 := hb.r.lt
  have hr4 := hb3.r.only ho4 (fun b hb hf => hb3.apart b hf hb)
  have hdn4 := hd3.only ho4 (fun b hb hf => by have := hfoot b hb; have := hlt1 b hf; omega)
  clear c0 c1 c2 c3 c4
  have q1 : ∀ w', LaterF K.foot wc.drew w' → w'.cell? ⟨w.heap.size, 1, none⟩ = some (.int .i64 at_) := fun w' hh => by
    have hx : wc.heap[w.heap.size]? = wa.heap[w.heap.size]? := (ho4.block _ (by have := hbb.size; omega) (fun hf => by have := hlt1 _ hf; omega)).trans (hbb.block _ (by omega))
    simpa using ((hblk.keep hx).keep (w' := w') (hh.block w.heap.size (show w.heap.size < wc.heap.size by have := hbb.size; omega) (fun hf => by have := hlt1 _ hf; omega))).cell 1
  go_wp2_with fail
  refine wp_region_can (LaterF K.foot) [(0, true), (1, true), (2, true), (3, false), (4, false)] (by kernel_rfl) (by kernel_rfl) (laterF_refl _) (laterF_trans _) ?_
  repeat (first
    | (refine can_yes (v := ?_) rfl (wanted_none rfl) (fun w' hC => ?_) (fun K hK => ?_); rotate_left; (focus (go_simp; first | done | exact rfl)); go_simp; refine hK _ ?_; clear hK K)
    | (refine can_guard rfl (fun A B hA hB => ?_); go_simp; first | (refine hA ⟨?_, fun w' hC => ?_, fun K hK => ?_⟩; rotate_left; (focus (go_simp; first | done | exact rfl)); go_simp; refine hK _ ?_; clear hK K hA hB A B) | (refine hB (fun K hK => ?_); go_simp; refine hK _ ?_; clear hK K hA hB A B))
    | (refine can_guard_go rfl (fun A B hA hB => ?_); go_simp; refine hB (fun K hK => ?_); go_simp; refine hK _ ?_; clear hK K hA hB A B))
  refine can_go rfl rfl (fun KK hK => ?_)
  go_simp
  refine (sector_int wc.drew 77 (by omega) (by omega)).mono ?_
  rintro e wd ⟨g, rfl, hg, hsd, hbd⟩
  refine ⟨_, rfl, LaterF.of_below hbd, hK _ _ ?_⟩
  clear hK KK
  have hbd : Below wc.heap.size wc wd := (Below.refl _ _).drew.trans hbd
  have hd5 := hd4.kept hbd
  have hr5 := hr4.kept hbd
  have hdn5 := hdn4.kept hbd
  have hg : wc.heap.size ≤ g := hg
  have hsz1 : wa.heap.size ≤ wb.heap.size := hbb.size
  have hsz2 : wc.heap.size ≤ wd.heap.size := hbd.size
  go_simp
  repeat (first
    | (refine can_yes (v := ?_) rfl (wanted_none rfl) (fun w' hC => ?_) (fun K hK => ?_); rotate_left; (focus (go_simp; first | done | exact rfl)); go_simp; refine hK _ ?_; clear hK K)
    | (refine can_guard rfl (fun A B hA hB => ?_); go_simp; first | (refine hA ⟨?_, fun w' hC => ?_, fun K hK => ?_⟩; rotate_left; (focus (go_simp; first | done | exact rfl)); go_simp; refine hK _ ?_; clear hK K hA hB A B) | (refine hB (fun K hK => ?_); go_simp; refine hK _ ?_; clear hK K hA hB A B))
    | (refine can_guard_go rfl (fun A B hA hB => ?_); go_simp; refine hB (fun K hK => ?_); go_simp; refine hK _ ?_; clear hK K hA hB A B))
  refine can_go rfl rfl (fun KK hK => ?_)
  go_simp
  refine (Hwr.out wd g hd5 hsd (fun hf => by have := hlt1 g hf; omega)).mono ?_
  rintro e we ⟨rfl, ho6⟩
  refine ⟨_, rfl, ho6, hK _ _ ?_⟩
  clear hK KK
  go_simp
  repeat (first
    | (refine can_yes (v := ?_) rfl (wanted_none rfl) (fun w' hC => ?_) (fun K hK => ?_); rotate_left; (focus (go_simp; first | done | exact rfl)); go_simp; refine hK _ ?_; clear hK K)
    | (refine can_guard rfl (fun A B hA hB => ?_); go_simp; first | (refine hA ⟨?_, fun w' hC => ?_, fun K hK => ?_⟩; rotate_left; (focus (go_simp; first | done | exact rfl)); go_simp; refine hK _ ?_; clear hK K hA hB A B) | (refine hB (fun K hK => ?_); go_simp; refine hK _ ?_; clear hK K hA hB A B))
    | (refine can_guard_go rfl (fun A B hA hB => ?_); go_simp; refine hB (fun K hK => ?_); go_simp; refine hK _ ?_; clear hK K hA hB A B))
  refine can_nil ?_
  have hr6 := hr5.only ho6 (fun b hb hf => hb2.apart b hf hb)
  have hdn6 := hdn5.only ho6 (fun b hb hf => by have := hfoot b hb; have := hlt1 b hf; omega)
  have hab : Only K.foot wa wb := Only.of_below hbb
  have hall : Only K.foot wa we := ((hab.trans ho4 (fun i hi => .inl hi)).trans (Only.of_below (F := K.foot) hbd) (fun i hi => .inl hi)).trans ho6 (fun i hi => .inl hi)
  have honly : Only (actFoot K KR) w we := (Only.of_below hka).trans hall (fun i hi => .inl (.inl hi))
  have hthen : Then (w.heap.size + 1) wa.heap.size K KR M we K' KR M := ⟨⟨hdn6, hr6, fun b hf ha => by have := hfoot b hf; have := hlt2 b ha; omega⟩, rfl, rfl, by omega, fun b hb => by
    rcases hb with hb | hb
    · exact .inr (.inr (hfoot b hb))
    · exact .inr (.inl hb)⟩
  replace hrest : RowRest (w.heap.size + 1) wa.heap.size (.slice ra (fullB full l).length rc) (fullB full l).length 0 we := hrest.keep fun b h1 h2 => hall.block b h2 (fun hf => by have := hlt1 b hf; omega)
  clear hdn6 hr6 ho6 hd5 hr5 hdn5 hsd hbd hdn4 hr4 hd4 ho4 hb3 hd3 hbb hfoot hab hall q1 hblk hB2 hrB hb2
  obtain ⟨KR', M', hthen⟩ : ∃ KR' M', Then (w.heap.size + 1) wa.heap.size K KR M we K' KR' M' := ⟨KR, M, hthen⟩
  generalize (fullB full l).length = fl at *
  go_wp2_with fail
  go_loopw [16] (fun i wr => ∃ k : Nat, k ≤ fl ∧ i = .int .i64 (k : Int) ∧ Then (w.heap.size + 1) wa.heap.size K KR M wr K' KR' M' ∧ RowRest (w.heap.size + 1) wa.heap.size (.slice ra fl rc) fl k wr ∧ Only (actFoot K KR) w wr) (fun i _ => fl - (intOf i).toNat)
  case atStart => exact ⟨0, by omega, rfl, hthen, hrest, honly⟩
  case round =>
    obtain ⟨k, hk, rfl, hth, hre, hon⟩ := hrel
    by_cases hkl : k < fl
    · have hklI : (k : Int) < (fl : Int) := by omega
      obtain ⟨g, cap, L, hv, hg1, hg2, hL, hLc⟩ := hre.resolve_left (by omega)
      simp at hv
      obtain ⟨rfl, rfl⟩ := hv
      obtain ⟨c, hc⟩ := hLc k (Nat.le_refl _) hkl
      have cc := hL.cell k
      have cf := hL.free k
      rw [hc] at cc
      unfold B at cc
      have hset : RowRest (w.heap.size + 1) wa.heap.size (.slice (some ⟨g, 0, none⟩) fl rc) fl (k + 1) (wr.setCell ⟨g, k, none⟩ (.int .u8 (IntKind.u8.wrap ((c.toNat : Int) + 1)))) :=
        .inr ⟨g, rc, _, rfl, hg1, hg2, hL.set k _, fun j hj hjl => by rw [List.getElem?_set_ne (by omega)]; exact hLc j (by omega) hjl⟩
      have hth2 : Then (w.heap.size + 1) wa.heap.size K KR M (wr.setCell ⟨g, k, none⟩ (.int .u8 (IntKind.u8.wrap ((c.toNat : Int) + 1)))) K' KR' M' := ⟨hth.1.set _ _ (hth.lt hb (by omega) g hg1 hg2), hth.2⟩
      have Hset := Lib.hid hset; have Hth := Lib.hid hth2
      clear hset hth2 hre hth hLc hc hL
      go_wp2_with fail
      go_roundw
      case rel => exact ⟨k + 1, by omega, by go_num, Hth.out, Hset.out, hon.setCell (.inr (by show w.heap.size ≤ g; omega)) _⟩
      case measure => simp [intOf]; omega
    · have hklI : ¬ (k : Int) < (fl : Int) := by omega
      go_wp2_with fail
      go_ret2
      exact ⟨K', KR', M', rfl, ⟨hth.1, hth.2.1, hth.2.2.1, hth.2.2.2.1, fun b hb => (hth.2.2.2.2 b hb).imp id (Or.imp id (fun h => Nat.le_trans hka.size h))⟩, hon⟩
end Go.Proofs.Ytgbcpcbcikadlaa
