/- The law DiskFails. No condition. -/
import Derived.Test.YtgbcpcbcikadlaaDiskLaws2
import Derived.Test.YtgbcpcbcikadlaaRead
namespace Go.Proofs.Ytgbcpcbcikadlaa
open Go.RowKit Go.ChangeShapes Go.WideShapes Go.ChangeAt
set_option linter.unusedVariables false
attribute [local go_sem] opC upC
attribute [local go_sem ↓] seal_make_bytes

/-- the cells of a Put -/
def IsPut (cs : List Value) : Prop := ∃ a c : Int, cs = [.int .u8 a, .int .u8 c] ∧ (0 ≤ a ∧ a ≤ 255) ∧ (0 ≤ c ∧ c ≤ 255)
def IsPuts (w : World) (v : Value) : Prop := ∃ n, RowOf 2 IsPut w v n

theorem cellsPut : Try.prog.cellsOf 31 = 2 := by kernel_rfl
theorem cellsU8 : Try.prog.cellsOf 5 = 1 := by kernel_rfl

theorem open_Puts {H : Type} {enc : TypeId × Value → H} {w : World} {b0 : Nat} {v : Value} {d : DataW H} {p : List MemPlace}
    (hv : Value.okWide Try.prog w .any b0 22 v) (h : DataW.Trod enc Try.prog w 0 (fun _ => true) true 22 v d p) : IsPuts w v := by
  obtain ⟨a0, len0, cap0, rfl⟩ := okWide_slice Try.underlying22 hv
  obtain ⟨fuel, hf⟩ := h
  refine read_row (by omega) Try.underlying22 cellsPut IsPut (fun m cs y hy => ?_) hf
  obtain ⟨xs, n, _, _, hlen, hxl, hg⟩ := DataW.trod_struct Try.underlying31 hy
  have g0 := hg 0 _ rfl
  have g1 := hg 1 _ rfl
  rw [cellsPut] at hlen
  match cs, hlen, xs, hxl with
  | [c0, c1], _, [x0, x1], _ =>
    simp [cellsU8] at g0 g1
    obtain ⟨z0, e0, _, wz0⟩ := DataW.trod_int Try.underlying5 g0
    obtain ⟨z1, e1, _, wz1⟩ := DataW.trod_int Try.underlying5 g1
    simp at e0 e1
    subst e0 e1
    exact ⟨z0, z1, rfl, bounds_u8 wz0, bounds_u8 wz1⟩

theorem put_cells {w : World} {b off n : Nat} {L : Array Value} {t : TypeId} {fz : Nat × Nat} (hg : w.heap[b]? = some (.cells L t fz)) (hle : off + n * 2 ≤ L.size) (hE : ∀ i, i < n → IsPut ((L.toList.drop (off + i * 2)).take 2)) (i : Nat) (hi : i < n) :
    ∃ a c : Int, w.cell? ⟨b, off + i * 2, none⟩ = some (.int .u8 a) ∧ w.cell? ⟨b, off + i * 2 + 1, none⟩ = some (.int .u8 c) ∧ (0 ≤ a ∧ a ≤ 255) ∧ (0 ≤ c ∧ c ≤ 255) := by
  obtain ⟨a, c, he, ha, hc⟩ := hE i hi
  refine ⟨a, c, ?_, ?_, ha, hc⟩
  · rw [cell_of_row w b _ L t fz hg]
    have : ((L.toList.drop (off + i * 2)).take 2)[0]? = some (.int .u8 a) := by rw [he]; rfl
    rw [List.getElem?_take, if_pos (by omega), List.getElem?_drop] at this
    simpa using this
  · rw [cell_of_row w b _ L t fz hg]
    have : ((L.toList.drop (off + i * 2)).take 2)[1]? = some (.int .u8 c) := by rw [he]; rfl
    rw [List.getElem?_take, if_pos (by omega), List.getElem?_drop] at this
    simpa [Nat.add_assoc] using this

/-- the disk after k writes -/
def faM (want : List UInt8) (aft k : Nat) (torn : UInt8) : MD :=
  if k ≤ aft then ⟨want.map z64, false, some (aft - k, z64 torn), k⟩ else ⟨want.map z64, true, none, aft⟩

theorem faM_len (want : List UInt8) (aft k : Nat) (t : UInt8) : (faM want aft k t).S.length = want.length := by unfold faM; split <;> simp
theorem faM_up (want : List UInt8) (aft k : Nat) (t : UInt8) (h : k ≤ aft) : (faM want aft k t).down = false := by unfold faM; rw [if_pos h]
theorem faM_down (want : List UInt8) (aft k : Nat) (t : UInt8) (h : aft < k) : (faM want aft k t).down = true := by unfold faM; rw [if_neg (by omega)]
theorem faM_chk (want : List UInt8) (aft k : Nat) (t : UInt8) (i : Int) (h : aft < k) : (faM want aft k t).chk i = 341 := by unfold MD.chk; rw [faM_down want aft k t h, if_pos rfl]

def FailRel (w : World) (d gw N len aft : Nat) (torn : UInt8) (i : Value) (wr : World) : Prop :=
  ∃ (k : Nat) (want : List UInt8) (K : DK), k ≤ len ∧ i = .int .i64 (k : Int) ∧ want.length = N ∧ K.d = d ∧ (∀ b, K.foot b → w.heap.size ≤ b ∧ b ≠ gw) ∧ DiskAt wr K (faM want aft k torn) ∧ Blk wr gw (want.map B) 5 ∧ Below w.heap.size w wr

theorem byteOf (n : Int) (h0 : 0 ≤ n) (h1 : n ≤ 255) : Value.int .u8 n = B (UInt8.ofNat n.toNat) := by
  unfold B
  congr 1
  simp only [UInt8.toNat_ofNat']
  omega

theorem map_set_B (l : List UInt8) (i : Nat) (c : UInt8) : (l.map B).set i (B c) = (l.set i c).map B := by rw [List.map_set]

set_option maxRecDepth 100000 in
set_option maxHeartbeats 8000000 in
theorem DiskFails_walk (a0 : Int) (v1 : Value) (a2 a3 : Int) (w : World) (w0 : (Lit.int .u8 a0).wf = true) (w1 : IsPuts w v1) (w2 : (Lit.int .u8 a2).wf = true) (w3 : (Lit.int .u8 a3).wf = true) :
    Calls Try.prog 3 #[.int .u8 a0, v1, .int .u8 a2, .int .u8 a3] w fun e w' => e = .returned (.bool true) ∧ Below w.heap.size w w' := by
  have g0 := bounds_u8 w0
  have g2 := bounds_u8 w2
  have g3 := bounds_u8 w3
  clear w0 w2 w3
  obtain ⟨len, ad, cap, rfl, hl, hm, hz, hrow⟩ := w1
  have hm' : cap ≤ 9223372036854775807 := by unfold maxLen at hm; omega
  obtain ⟨aft, rfl⟩ := Int.eq_ofNat_of_zero_le g2.1
  by_cases h200 : 200 < len
  · have hd : decide ((200 : Int) < (len : Int)) = true := by simp; omega
    go_enter Try.func3, Try.ntmps3
    go_wp2_with fail
    go_ret
    exact ⟨rfl, Below.refl _ _⟩
  · have h200' : len ≤ 200 := by omega
    obtain ⟨N, hN⟩ : ∃ N : Nat, a0 % 16 + 1 = (N : Int) := Int.eq_ofNat_of_zero_le (by omega)
    have hN1 : 1 ≤ (N : Int) := by omega
    have hN2 : (N : Int) ≤ 16 := by omega
    have HN := Lib.hid hN; clear hN
    have Hrow := Lib.hid hrow; clear hrow hz
    go_enter Try.func3, Try.ntmps3
    go_wp2_with fail
    rw [HN.out]
    refine (new_int w N (by omega) (by omega)).mono ?_
    rintro e w1 ⟨K, rfl, hd1, t1, l1⟩
    obtain ⟨d, hd⟩ : ∃ d, K.d = d := ⟨_, rfl⟩
    rw [hd]
    have HK := Lib.hid hd; clear hd
    go_wp2_with fail
    refine (sector_int w1 a3 (by omega) (by omega)).mono ?_
    rintro e w2 ⟨g2', rfl, hg2, hs2, hb2⟩
    have hd2 := hd1.kept hb2
    have t2 := t1.trans (hb2.mono t1.size)
    go_wp2_with fail
    refine (failSector_d w2 d K HK.out _ hd2 aft (by omega) (by omega) g2' _ _ hs2).mono ?_
    rintro e w3 ⟨rfl, ⟨K3, hK3, hf3, hd3⟩, ho3⟩
    have HK3 := Lib.hid hK3; clear hK3
    have t3 := t2.trans (ho3.below l1 t2.size)
    have l3 : ∀ b, K3.foot b → w.heap.size ≤ b := fun b h => (hf3 b h).elim (l1 b) (fun h => Nat.le_trans t2.size h)
    obtain ⟨w4, hmk, hs4, hb4⟩ := run_make_bytes w3 N (by omega)
    have hd4 := hd3.kept hb4
    have t4 := t3.trans (hb4.mono t3.size)
    have h3lt := hd3.lt
    obtain ⟨gw, hgw⟩ : ∃ gw, w3.heap.size = gw := ⟨_, rfl⟩
    rw [hgw] at hmk hs4
    have Hgw := Lib.hid hgw
    have hgwl : w.heap.size ≤ gw := by rw [← hgw]; exact t3.size
    clear hgw
    go_wp2_with fail
    go_loopw [13] (fun i wr => FailRel w d gw N len aft (UInt8.ofNat a3.toNat) i wr) (fun i _ => len - (intOf i).toNat)
    case atStart =>
      refine ⟨0, List.replicate N 0, K3, by omega, rfl, by simp, HK3.out, fun b h => ⟨l3 b h, fun he => ?_⟩, ?_, by simpa using hs4, t4⟩
      · have := h3lt b h; have := Hgw.out; omega
      · have : faM (List.replicate N 0) aft 0 (UInt8.ofNat a3.toNat) = { MD.fresh N with fault := some (aft, z64 (UInt8.ofNat a3.toNat)) } := by
          unfold faM
          rw [if_pos (by omega)]
          simp [MD.fresh, z64]
        rw [this]
        exact hd4
    case round =>
      obtain ⟨k, want, K, hk, rfl, hwl, hK, hfoot, hdr, hwant, hbw⟩ := hrel
      have HK := Lib.hid hK; clear hK
      by_cases hkl : k < len
      · obtain ⟨b, off, L, t, fz, rfl, hblt, hg, hle, hE0⟩ := Hrow.out.resolve_left (by omega)
        have hE := put_cells hg hle hE0
        clear hE0 hle
        have h3 : k < aft ∨ (k ≤ aft ∧ aft ≤ k) ∨ aft < k := by omega
        rcases h3 with hc | hc | hc
        · have hb := hE k hkl
          obtain ⟨pa, pc, ca, cc, hpa, hpc⟩ := hb
          rw [← hbw.cell (p := ⟨b, off + k * 2, none⟩) hblt] at ca
          rw [← hbw.cell (p := ⟨b, off + k * 2 + 1, none⟩) hblt] at cc
          obtain ⟨at_, hat⟩ : ∃ q : Nat, pa % (N : Int) = (q : Int) := Int.eq_ofNat_of_zero_le (Int.emod_nonneg _ (by omega))
          have hatN : at_ < N := by have := Int.emod_lt_of_pos pa (show (0 : Int) < (N : Int) by omega); omega
          have hatZ : 0 ≤ pa % (N : Int) ∧ pa % (N : Int) < (N : Int) := by omega
          have HA := Lib.hid hat; clear hat
          have hklI : (k : Int) < (len : Int) := by omega
          have hd1 : decide ((k : Int) < (aft : Int)) = true := by simpa using hc
          have hd2 : decide ((aft : Int) ≤ (k : Int)) = false := by simp; omega
          have hd1n : decide (k < aft) = true := by simpa using hc
          have hd2n : decide (aft ≤ k) = false := by simp; omega
          go_wp2_with fail
          rw [HA.out]
          refine (sector_int wr pc (by omega) (by omega)).mono ?_
          rintro e wa ⟨ga, rfl, hga, hsa, hba⟩
          have hda := hdr.kept hba
          have hwa := hwant.keep (hba.block gw hwant.lt)
          have ta := hbw.trans (hba.mono hbw.size)
          go_wp2_with fail
          have e1 : faM want aft k (UInt8.ofNat a3.toNat) = ⟨want.map z64, false, some ((aft - (k + 1)) + 1, z64 (UInt8.ofNat a3.toNat)), k⟩ := by unfold faM; rw [if_pos (by omega), show aft - (k + 1) + 1 = aft - k from by omega]
          rw [e1] at hda; clear e1
          refine (writeSector_d wa d K HK.out _ hda at_ (by omega) (by simp; omega) rfl (by simp; omega) ga _ _ hsa (fun hx => by have := hdr.lt _ hx; omega)).mono ?_
          rintro e wb ⟨rfl, ⟨Kb, hKb, hfb, hdb⟩, hob, hzb⟩
          have e2 : ((⟨want.map z64, false, some ((aft - (k + 1)) + 1, z64 (UInt8.ofNat a3.toNat)), k⟩ : MD).write (Int.toNat (at_ : Int)) (List.replicate 64 (UInt8.ofNat pc.toNat))) = (faM (want.set at_ (UInt8.ofNat pc.toNat)) aft (k + 1) (UInt8.ofNat a3.toNat), 0) := by unfold faM; rw [if_pos (by omega), List.map_set]; rfl
          rw [e2] at hdb ⊢; clear e2
          have HKb := Lib.hid hKb; clear hKb
          have hwb := hwa.only hob (fun hf => (hfoot gw hf).2 rfl)
          have tb := ta.trans (hob.below (fun b h => (hfoot b h).1) ta.size)
          have lb : ∀ b, Kb.foot b → w.heap.size ≤ b ∧ b ≠ gw := fun b h => hfoot b (hfb b h)
          have cc' : wb.cell? ⟨b, off + k * 2 + 1, none⟩ = some (.int .u8 pc) := by rw [tb.cell (p := ⟨b, off + k * 2 + 1, none⟩) hblt, ← hbw.cell (p := ⟨b, off + k * 2 + 1, none⟩) hblt]; exact cc
          have cw := hwb.cell at_
          have fw := hwb.free at_
          rw [List.getElem?_eq_getElem (by simp; omega)] at cw
          have hws := hwb.set at_ (.int .u8 pc)
          have hds := hdb.only (F := fun b => b = gw) (Only.setCell (F := fun b => b = gw) (Only.refl _ wb) (p := ⟨gw, at_, none⟩) (.inl rfl) (.int .u8 pc)) (fun b hb he => (lb b hb).2 he)
          have ts := tb.setCell (p := ⟨gw, at_, none⟩) hgwl (.int .u8 pc)
          rw [byteOf pc (by omega) (by omega), map_set_B, ← byteOf pc (by omega) (by omega)] at hws
          go_wp2_with fail
          refine (down_d _ d Kb HKb.out _ hds).mono ?_
          rintro e w' ⟨rfl, rfl⟩
          rw [faM_up _ _ _ _ (by omega)]
          go_wp2_with fail
          refine (read_d _ d Kb HKb.out _ at_ hds (by omega) (by rw [faM_len]; simp; omega) (faM_up _ _ _ _ (by omega))).mono ?_
          rintro e wd ⟨r, rfl, hr, hbd⟩
          have hdd := hds.kept hbd
          have hwd := hws.keep (hbd.block gw hws.lt)
          have td := ts.trans (hbd.mono ts.size)
          go_wp2_with fail
          go_roundw
          case rel => exact ⟨k + 1, (want.set at_ (UInt8.ofNat pc.toNat)), Kb, by omega, by go_num, by simpa using hwl, HKb.out, lb, hdd, hwd, td⟩
          case measure => simp [intOf]; omega
        · have hb := hE k hkl
          obtain ⟨pa, pc, ca, cc, hpa, hpc⟩ := hb
          rw [← hbw.cell (p := ⟨b, off + k * 2, none⟩) hblt] at ca
          rw [← hbw.cell (p := ⟨b, off + k * 2 + 1, none⟩) hblt] at cc
          obtain ⟨at_, hat⟩ : ∃ q : Nat, pa % (N : Int) = (q : Int) := Int.eq_ofNat_of_zero_le (Int.emod_nonneg _ (by omega))
          have hatN : at_ < N := by have := Int.emod_lt_of_pos pa (show (0 : Int) < (N : Int) by omega); omega
          have hatZ : 0 ≤ pa % (N : Int) ∧ pa % (N : Int) < (N : Int) := by omega
          have HA := Lib.hid hat; clear hat
          have hklI : (k : Int) < (len : Int) := by omega
          have hd1 : decide ((k : Int) < (aft : Int)) = false := by simp; omega
          have hd2 : decide ((aft : Int) ≤ (k : Int)) = true := by simp; omega
          have hd1n : decide (k < aft) = false := by simp; omega
          have hd2n : decide (aft ≤ k) = true := by simp; omega
          have he1 : (k == aft) = true := by simp; omega
          have he2 : ((k : Int) == (aft : Int)) = true := by simp; omega
          go_wp2_with fail
          rw [HA.out]
          refine (sector_int wr pc (by omega) (by omega)).mono ?_
          rintro e wa ⟨ga, rfl, hga, hsa, hba⟩
          have hda := hdr.kept hba
          have hwa := hwant.keep (hba.block gw hwant.lt)
          have ta := hbw.trans (hba.mono hbw.size)
          go_wp2_with fail
          have e1 : faM want aft k (UInt8.ofNat a3.toNat) = ⟨want.map z64, false, some (0, z64 (UInt8.ofNat a3.toNat)), aft⟩ := by unfold faM; rw [if_pos (by omega), show aft - k = 0 from by omega, show k = aft from by omega]
          rw [e1] at hda; clear e1
          refine (writeSector_d wa d K HK.out _ hda at_ (by omega) (by simp; omega) rfl (by simp; omega) ga _ _ hsa (fun hx => by have := hdr.lt _ hx; omega)).mono ?_
          rintro e wb ⟨rfl, ⟨Kb, hKb, hfb, hdb⟩, hob, hzb⟩
          have e2 : ((⟨want.map z64, false, some (0, z64 (UInt8.ofNat a3.toNat)), aft⟩ : MD).write (Int.toNat (at_ : Int)) (List.replicate 64 (UInt8.ofNat pc.toNat))) = (faM (want.set at_ (UInt8.ofNat a3.toNat)) aft (k + 1) (UInt8.ofNat a3.toNat), 341) := by unfold faM; rw [if_neg (by omega), List.map_set]; rfl
          rw [e2] at hdb ⊢; clear e2
          have HKb := Lib.hid hKb; clear hKb
          have hwb := hwa.only hob (fun hf => (hfoot gw hf).2 rfl)
          have tb := ta.trans (hob.below (fun b h => (hfoot b h).1) ta.size)
          have lb : ∀ b, Kb.foot b → w.heap.size ≤ b ∧ b ≠ gw := fun b h => hfoot b (hfb b h)
          have cc' : wb.cell? ⟨b, off + k * 2 + 1, none⟩ = some (.int .u8 pc) := by rw [tb.cell (p := ⟨b, off + k * 2 + 1, none⟩) hblt, ← hbw.cell (p := ⟨b, off + k * 2 + 1, none⟩) hblt]; exact cc
          have cw := hwb.cell at_
          have fw := hwb.free at_
          rw [List.getElem?_eq_getElem (by simp; omega)] at cw
          have hws := hwb.set at_ (.int .u8 a3)
          have hds := hdb.only (F := fun b => b = gw) (Only.setCell (F := fun b => b = gw) (Only.refl _ wb) (p := ⟨gw, at_, none⟩) (.inl rfl) (.int .u8 a3)) (fun b hb he => (lb b hb).2 he)
          have ts := tb.setCell (p := ⟨gw, at_, none⟩) hgwl (.int .u8 a3)
          rw [byteOf a3 (by omega) (by omega), map_set_B, ← byteOf a3 (by omega) (by omega)] at hws
          go_wp2_with fail
          refine (down_d _ d Kb HKb.out _ hds).mono ?_
          rintro e w' ⟨rfl, rfl⟩
          rw [faM_down _ _ _ _ (by omega)]
          go_wp2_with fail
          refine (readErr_d _ d Kb HKb.out _ at_ hds (by rw [faM_chk _ _ _ _ _ (by omega)]; decide)).mono ?_
          rintro e w' ⟨rfl, rfl⟩
          rw [faM_chk _ _ _ _ _ (by omega)]
          have hdd := hds; have hwd := hws; have td := ts
          go_wp2_with fail
          go_roundw
          case rel => exact ⟨k + 1, (want.set at_ (UInt8.ofNat a3.toNat)), Kb, by omega, by go_num, by simpa using hwl, HKb.out, lb, hdd, hwd, td⟩
          case measure => simp [intOf]; omega
        · have hb := hE k hkl
          obtain ⟨pa, pc, ca, cc, hpa, hpc⟩ := hb
          rw [← hbw.cell (p := ⟨b, off + k * 2, none⟩) hblt] at ca
          rw [← hbw.cell (p := ⟨b, off + k * 2 + 1, none⟩) hblt] at cc
          obtain ⟨at_, hat⟩ : ∃ q : Nat, pa % (N : Int) = (q : Int) := Int.eq_ofNat_of_zero_le (Int.emod_nonneg _ (by omega))
          have hatN : at_ < N := by have := Int.emod_lt_of_pos pa (show (0 : Int) < (N : Int) by omega); omega
          have hatZ : 0 ≤ pa % (N : Int) ∧ pa % (N : Int) < (N : Int) := by omega
          have HA := Lib.hid hat; clear hat
          have hklI : (k : Int) < (len : Int) := by omega
          have hd1 : decide ((k : Int) < (aft : Int)) = false := by simp; omega
          have hd2 : decide ((aft : Int) ≤ (k : Int)) = true := by simp; omega
          have hd1n : decide (k < aft) = false := by simp; omega
          have hd2n : decide (aft ≤ k) = true := by simp; omega
          have he1 : (k == aft) = false := by simp; omega
          have he2 : ((k : Int) == (aft : Int)) = false := by simp; omega
          go_wp2_with fail
          rw [HA.out]
          refine (sector_int wr pc (by omega) (by omega)).mono ?_
          rintro e wa ⟨ga, rfl, hga, hsa, hba⟩
          have hda := hdr.kept hba
          have hwa := hwant.keep (hba.block gw hwant.lt)
          have ta := hbw.trans (hba.mono hbw.size)
          go_wp2_with fail
          have e1 : faM want aft k (UInt8.ofNat a3.toNat) = faM want aft (k + 1) (UInt8.ofNat a3.toNat) := by unfold faM; rw [if_neg (by omega), if_neg (by omega)]
          rw [e1] at hda; clear e1
          have e2 : (faM want aft (k + 1) (UInt8.ofNat a3.toNat)).chk (at_ : Int) = 341 := by
            have e3 : faM want aft (k + 1) (UInt8.ofNat a3.toNat) = ⟨want.map z64, true, none, aft⟩ := by unfold faM; rw [if_neg (by omega)]
            rw [e3]; rfl
          refine (writeErr_d wa d K HK.out _ at_ _ hda (by rw [e2]; decide)).mono ?_
          rintro e wb ⟨rfl, hwb⟩
          have hob : Only K.foot wa wb := by rw [← hwb]; exact Only.refl _ _
          have hdb : DiskAt wb K (faM want aft (k + 1) (UInt8.ofNat a3.toNat)) := by rw [← hwb]; exact hda
          have hKb : K.d = d := HK.out
          have hfb : ∀ b, K.foot b → K.foot b := fun _ h => h
          clear hwb
          rw [e2]; clear e2
          have HKb := Lib.hid hKb; clear hKb
          have hwb := hwa.only hob (fun hf => (hfoot gw hf).2 rfl)
          have tb := ta.trans (hob.below (fun b h => (hfoot b h).1) ta.size)
          have lb : ∀ b, K.foot b → w.heap.size ≤ b ∧ b ≠ gw := fun b h => hfoot b (hfb b h)
          have cc' : wb.cell? ⟨b, off + k * 2 + 1, none⟩ = some (.int .u8 pc) := by rw [tb.cell (p := ⟨b, off + k * 2 + 1, none⟩) hblt, ← hbw.cell (p := ⟨b, off + k * 2 + 1, none⟩) hblt]; exact cc
          have cw := hwb.cell at_
          have fw := hwb.free at_
          rw [List.getElem?_eq_getElem (by simp; omega)] at cw
          have hws := hwb; have hds := hdb; have ts := tb
          go_wp2_with fail
          refine (down_d _ d K HKb.out _ hds).mono ?_
          rintro e w' ⟨rfl, rfl⟩
          rw [faM_down _ _ _ _ (by omega)]
          go_wp2_with fail
          refine (readErr_d _ d K HKb.out _ at_ hds (by rw [faM_chk _ _ _ _ _ (by omega)]; decide)).mono ?_
          rintro e w' ⟨rfl, rfl⟩
          rw [faM_chk _ _ _ _ _ (by omega)]
          have hdd := hds; have hwd := hws; have td := ts
          go_wp2_with fail
          go_roundw
          case rel => exact ⟨k + 1, want, K, by omega, by go_num, by simpa using hwl, HKb.out, lb, hdd, hwd, td⟩
          case measure => simp [intOf]; omega
      · obtain rfl : k = len := by omega
        have h3 : k < aft ∨ (k ≤ aft ∧ aft ≤ k) ∨ aft < k := by omega
        rcases h3 with hc | hc | hc
        · have hd1 : (k != aft) = true := by simp; omega
          have hd1i : ((k : Int) != (aft : Int)) = true := by simp; omega
          have eM : ({ faM want aft k (UInt8.ofNat a3.toNat) with down := false } : MD) = ⟨want.map z64, false, (some ((aft - k - 1) + 1, z64 (UInt8.ofNat a3.toNat))), k⟩ := by
            unfold faM; rw [if_pos (by omega), show aft - k = aft - k - 1 + 1 from by omega]; rfl
          have eW : (((faM want aft k (UInt8.ofNat a3.toNat)).writes : Nat) : Int) = (k : Int) := by unfold faM; rw [if_pos (by omega)]
          have EM := Lib.hid eM; clear eM
          have EW := Lib.hid eW; clear eW
          go_wp2_with fail
          refine (writes_d _ d K HK.out _ hdr).mono ?_
          rintro e w' ⟨rfl, rfl⟩
          rw [EW.out]
          go_wp2_with fail
          refine (up_d _ d K HK.out _ hdr).mono ?_
          rintro e wu ⟨rfl, hdu, hou, hzu⟩
          rw [EM.out] at hdu
          have hwu := hwant.only hou (fun hf => (hfoot gw hf).2 rfl)
          have tu := hbw.trans (hou.below (fun b h => (hfoot b h).1) hbw.size)
          have HW := Lib.hid hwl; clear hwl
          clear hdr hwant hbw
          go_wp2_with fail
          go_loopw [18] (fun i wr => ∃ j : Nat, j ≤ N ∧ i = .int .i64 (j : Int) ∧ DiskAt wr K ⟨want.map z64, false, (some ((aft - k - 1) + 1, z64 (UInt8.ofNat a3.toNat))), k⟩ ∧ Blk wr gw (want.map B) 5 ∧ Below w.heap.size w wr) (fun i _ => N - (intOf i).toNat)
          case atStart => exact ⟨0, by omega, rfl, hdu, hwu, tu⟩
          case round =>
            clear hdu hwu tu hou hzu
            obtain ⟨j, hj, rfl, hdj, hwj, tj⟩ := hrel
            by_cases hjN : j < N
            · have hjw : j < want.length := by rw [HW.out]; exact hjN
              have hjI : (j : Int) < (N : Int) := by omega
              go_wp2_with fail
              refine (read_d _ d K HK.out _ j hdj (by omega) (by simp; omega) rfl).mono ?_
              rintro e wd ⟨r, rfl, hr, hbd⟩
              have hr : wd.ownsRow wr.heap.size 5 1 r 64 ((z64 (want[j])).map B) := by simpa using hr
              have hdd := hdj.kept hbd
              have hwd := hwj.keep (hbd.block gw hwj.lt)
              have td := tj.trans (hbd.mono tj.size)
              have hbee : Below wd.heap.size wd wd.drew := (Below.refl _ _).drew
              have q1 : ∀ w', Later wd.drew w' → (convert 28 9 r).run Try.prog w' = .ok (.string ⟨(z64 (want[j])).toArray⟩) w' := fun w' hb => owns_later (l := z64 (want[j])) hr (by simp [z64]) (kept_trans hbee hb)
              have q2 : ∀ w', Later wd.drew w' → w'.cell? ⟨gw, j, none⟩ = some (B (want[j])) := fun w' hb => by
                rw [(kept_trans hbee hb).cell (p := ⟨gw, j, none⟩) hwd.lt, hwd.cell j]; simp [hjw]
              have Hr := Lib.hid hr; clear hr
              generalize hx : want[j] = x at *
              have Hx := Lib.hid hx; clear hx
              go_wp2_with fail
              refine wp_region_can Later [(0, true), (1, true), (2, true), (3, true), (4, true), (5, true), (6, true), (7, true), (8, true), (9, false), (10, true), (11, true), (12, true)] (by kernel_rfl) (by kernel_rfl) later_refl later_trans ?_
              repeat (first
                | (refine can_yes (v := ?_) rfl (wanted_none rfl) (fun w' hC => ?_) (fun K hK => ?_); rotate_left; (focus (go_simp; first | done | exact rfl)); go_simp; refine hK _ ?_; clear hK K)
                | (refine can_guard rfl (fun A B hA hB => ?_); go_simp; first | (refine hA ⟨?_, fun w' hC => ?_, fun K hK => ?_⟩; rotate_left; (focus (go_simp; first | done | exact rfl)); go_simp; refine hK _ ?_; clear hK K hA hB A B) | (refine hB (fun K hK => ?_); go_simp; refine hK _ ?_; clear hK K hA hB A B))
                | (refine can_guard_go rfl (fun A B hA hB => ?_); go_simp; refine hB (fun K hK => ?_); go_simp; refine hK _ ?_; clear hK K hA hB A B))
              refine can_go rfl rfl (fun K hK => ?_)
              go_simp
              refine (sector_any _ x).mono ?_
              rintro e wx ⟨gx, rfl, hgx, hsx, hbx⟩
              refine ⟨_, rfl, hbx, hK _ _ ?_⟩
              clear hK q1 q2
              have qx : ∀ w', Later wx w' → (convert 28 9 (.slice (some ⟨gx, 0, none⟩) 64 64)).run Try.prog w' = .ok (.string ⟨(z64 x).toArray⟩) w' := fun w' hb => sector_later hsx hb
              go_simp
              repeat (first
                | (refine can_yes (v := ?_) rfl (wanted_none rfl) (fun w' hC => ?_) (fun K hK => ?_); rotate_left; (focus (go_simp; first | done | exact rfl)); go_simp; refine hK _ ?_; clear hK K)
                | (refine can_guard rfl (fun A B hA hB => ?_); go_simp; first | (refine hA ⟨?_, fun w' hC => ?_, fun K hK => ?_⟩; rotate_left; (focus (go_simp; first | done | exact rfl)); go_simp; refine hK _ ?_; clear hK K hA hB A B) | (refine hB (fun K hK => ?_); go_simp; refine hK _ ?_; clear hK K hA hB A B))
                | (refine can_guard_go rfl (fun A B hA hB => ?_); go_simp; refine hB (fun K hK => ?_); go_simp; refine hK _ ?_; clear hK K hA hB A B))
              refine can_nil ?_
              go_wp2_with fail
              go_roundw
              case rel => exact ⟨j + 1, by omega, by go_num, hdd.kept (kept_trans hbee hbx), hwd.keep ((kept_trans hbee hbx).block gw hwd.lt), td.trans ((kept_trans hbee hbx).mono td.size)⟩
              case measure => simp [intOf]; omega
            · go_wp2_with fail
              refine (sector_int _ 1 (by omega) (by omega)).mono ?_
              rintro e wx ⟨gx, rfl, hgx, hsx, hbx⟩
              have hdx := hdj.kept hbx
              have tx := tj.trans (hbx.mono tj.size)
              go_wp2_with fail
              refine (writeSector_d _ d K HK.out _ hdx 0 (by omega) (by have := HW.out; simp; omega) rfl (by simp; omega) gx _ _ hsx (fun hx => by have := hdj.lt _ hx; omega)).mono ?_
              rintro e wy ⟨rfl, ⟨Ky, hKy, hfy, hdy⟩, hoy, hzy⟩
              have ty := tx.trans (hoy.below (fun b h => (hfoot b h).1) tx.size)
              have hv : ((⟨want.map z64, false, (some ((aft - k - 1) + 1, z64 (UInt8.ofNat a3.toNat))), k⟩ : MD).write (Int.toNat 0) (List.replicate 64 (UInt8.ofNat (Int.toNat 1)))).2 = 0 := rfl
              rw [hv]; clear hv
              go_wp2_with fail
              refine (disk_works wy).mono ?_
              rintro e wz ⟨rfl, hbz⟩
              go_wp2_with fail
              go_ret
              exact ⟨rfl, ty.trans (hbz.mono ty.size)⟩
        · have hd1 : (k != aft) = false := by simp; omega
          have hd1i : ((k : Int) != (aft : Int)) = false := by simp; omega
          have eM : ({ faM want aft k (UInt8.ofNat a3.toNat) with down := false } : MD) = ⟨want.map z64, false, (some (0, z64 (UInt8.ofNat a3.toNat))), k⟩ := by
            unfold faM; rw [if_pos (by omega), show aft - k = 0 from by omega]
          have eW : (((faM want aft k (UInt8.ofNat a3.toNat)).writes : Nat) : Int) = (k : Int) := by unfold faM; rw [if_pos (by omega)]
          have EM := Lib.hid eM; clear eM
          have EW := Lib.hid eW; clear eW
          go_wp2_with fail
          refine (writes_d _ d K HK.out _ hdr).mono ?_
          rintro e w' ⟨rfl, rfl⟩
          rw [EW.out]
          go_wp2_with fail
          refine (up_d _ d K HK.out _ hdr).mono ?_
          rintro e wu ⟨rfl, hdu, hou, hzu⟩
          rw [EM.out] at hdu
          have hwu := hwant.only hou (fun hf => (hfoot gw hf).2 rfl)
          have tu := hbw.trans (hou.below (fun b h => (hfoot b h).1) hbw.size)
          have HW := Lib.hid hwl; clear hwl
          clear hdr hwant hbw
          go_wp2_with fail
          go_loopw [18] (fun i wr => ∃ j : Nat, j ≤ N ∧ i = .int .i64 (j : Int) ∧ DiskAt wr K ⟨want.map z64, false, (some (0, z64 (UInt8.ofNat a3.toNat))), k⟩ ∧ Blk wr gw (want.map B) 5 ∧ Below w.heap.size w wr) (fun i _ => N - (intOf i).toNat)
          case atStart => exact ⟨0, by omega, rfl, hdu, hwu, tu⟩
          case round =>
            clear hdu hwu tu hou hzu
            obtain ⟨j, hj, rfl, hdj, hwj, tj⟩ := hrel
            by_cases hjN : j < N
            · have hjw : j < want.length := by rw [HW.out]; exact hjN
              have hjI : (j : Int) < (N : Int) := by omega
              go_wp2_with fail
              refine (read_d _ d K HK.out _ j hdj (by omega) (by simp; omega) rfl).mono ?_
              rintro e wd ⟨r, rfl, hr, hbd⟩
              have hr : wd.ownsRow wr.heap.size 5 1 r 64 ((z64 (want[j])).map B) := by simpa using hr
              have hdd := hdj.kept hbd
              have hwd := hwj.keep (hbd.block gw hwj.lt)
              have td := tj.trans (hbd.mono tj.size)
              have hbee : Below wd.heap.size wd wd.drew := (Below.refl _ _).drew
              have q1 : ∀ w', Later wd.drew w' → (convert 28 9 r).run Try.prog w' = .ok (.string ⟨(z64 (want[j])).toArray⟩) w' := fun w' hb => owns_later (l := z64 (want[j])) hr (by simp [z64]) (kept_trans hbee hb)
              have q2 : ∀ w', Later wd.drew w' → w'.cell? ⟨gw, j, none⟩ = some (B (want[j])) := fun w' hb => by
                rw [(kept_trans hbee hb).cell (p := ⟨gw, j, none⟩) hwd.lt, hwd.cell j]; simp [hjw]
              have Hr := Lib.hid hr; clear hr
              generalize hx : want[j] = x at *
              have Hx := Lib.hid hx; clear hx
              go_wp2_with fail
              refine wp_region_can Later [(0, true), (1, true), (2, true), (3, true), (4, true), (5, true), (6, true), (7, true), (8, true), (9, false), (10, true), (11, true), (12, true)] (by kernel_rfl) (by kernel_rfl) later_refl later_trans ?_
              repeat (first
                | (refine can_yes (v := ?_) rfl (wanted_none rfl) (fun w' hC => ?_) (fun K hK => ?_); rotate_left; (focus (go_simp; first | done | exact rfl)); go_simp; refine hK _ ?_; clear hK K)
                | (refine can_guard rfl (fun A B hA hB => ?_); go_simp; first | (refine hA ⟨?_, fun w' hC => ?_, fun K hK => ?_⟩; rotate_left; (focus (go_simp; first | done | exact rfl)); go_simp; refine hK _ ?_; clear hK K hA hB A B) | (refine hB (fun K hK => ?_); go_simp; refine hK _ ?_; clear hK K hA hB A B))
                | (refine can_guard_go rfl (fun A B hA hB => ?_); go_simp; refine hB (fun K hK => ?_); go_simp; refine hK _ ?_; clear hK K hA hB A B))
              refine can_go rfl rfl (fun K hK => ?_)
              go_simp
              refine (sector_any _ x).mono ?_
              rintro e wx ⟨gx, rfl, hgx, hsx, hbx⟩
              refine ⟨_, rfl, hbx, hK _ _ ?_⟩
              clear hK q1 q2
              have qx : ∀ w', Later wx w' → (convert 28 9 (.slice (some ⟨gx, 0, none⟩) 64 64)).run Try.prog w' = .ok (.string ⟨(z64 x).toArray⟩) w' := fun w' hb => sector_later hsx hb
              go_simp
              repeat (first
                | (refine can_yes (v := ?_) rfl (wanted_none rfl) (fun w' hC => ?_) (fun K hK => ?_); rotate_left; (focus (go_simp; first | done | exact rfl)); go_simp; refine hK _ ?_; clear hK K)
                | (refine can_guard rfl (fun A B hA hB => ?_); go_simp; first | (refine hA ⟨?_, fun w' hC => ?_, fun K hK => ?_⟩; rotate_left; (focus (go_simp; first | done | exact rfl)); go_simp; refine hK _ ?_; clear hK K hA hB A B) | (refine hB (fun K hK => ?_); go_simp; refine hK _ ?_; clear hK K hA hB A B))
                | (refine can_guard_go rfl (fun A B hA hB => ?_); go_simp; refine hB (fun K hK => ?_); go_simp; refine hK _ ?_; clear hK K hA hB A B))
              refine can_nil ?_
              go_wp2_with fail
              go_roundw
              case rel => exact ⟨j + 1, by omega, by go_num, hdd.kept (kept_trans hbee hbx), hwd.keep ((kept_trans hbee hbx).block gw hwd.lt), td.trans ((kept_trans hbee hbx).mono td.size)⟩
              case measure => simp [intOf]; omega
            · go_wp2_with fail
              refine (sector_int _ 1 (by omega) (by omega)).mono ?_
              rintro e wx ⟨gx, rfl, hgx, hsx, hbx⟩
              have hdx := hdj.kept hbx
              have tx := tj.trans (hbx.mono tj.size)
              go_wp2_with fail
              refine (writeSector_d _ d K HK.out _ hdx 0 (by omega) (by have := HW.out; simp; omega) rfl (by simp; omega) gx _ _ hsx (fun hx => by have := hdj.lt _ hx; omega)).mono ?_
              rintro e wy ⟨rfl, ⟨Ky, hKy, hfy, hdy⟩, hoy, hzy⟩
              have ty := tx.trans (hoy.below (fun b h => (hfoot b h).1) tx.size)
              have hv : ((⟨want.map z64, false, (some (0, z64 (UInt8.ofNat a3.toNat))), k⟩ : MD).write (Int.toNat 0) (List.replicate 64 (UInt8.ofNat (Int.toNat 1)))).2 = 341 := rfl
              rw [hv]; clear hv
              go_wp2_with fail
              refine (disk_works wy).mono ?_
              rintro e wz ⟨rfl, hbz⟩
              go_wp2_with fail
              go_ret
              exact ⟨rfl, ty.trans (hbz.mono ty.size)⟩
        · have hd1 : (k != aft) = true := by simp; omega
          have hd1i : ((k : Int) != (aft : Int)) = true := by simp; omega
          have eM : ({ faM want aft k (UInt8.ofNat a3.toNat) with down := false } : MD) = ⟨want.map z64, false, none, aft⟩ := by
            unfold faM; rw [if_neg (by omega)]
          have eW : (((faM want aft k (UInt8.ofNat a3.toNat)).writes : Nat) : Int) = (aft : Int) := by unfold faM; rw [if_neg (by omega)]
          have EM := Lib.hid eM; clear eM
          have EW := Lib.hid eW; clear eW
          go_wp2_with fail
          refine (writes_d _ d K HK.out _ hdr).mono ?_
          rintro e w' ⟨rfl, rfl⟩
          rw [EW.out]
          go_wp2_with fail
          refine (up_d _ d K HK.out _ hdr).mono ?_
          rintro e wu ⟨rfl, hdu, hou, hzu⟩
          rw [EM.out] at hdu
          have hwu := hwant.only hou (fun hf => (hfoot gw hf).2 rfl)
          have tu := hbw.trans (hou.below (fun b h => (hfoot b h).1) hbw.size)
          have HW := Lib.hid hwl; clear hwl
          clear hdr hwant hbw
          go_wp2_with fail
          go_loopw [18] (fun i wr => ∃ j : Nat, j ≤ N ∧ i = .int .i64 (j : Int) ∧ DiskAt wr K ⟨want.map z64, false, none, aft⟩ ∧ Blk wr gw (want.map B) 5 ∧ Below w.heap.size w wr) (fun i _ => N - (intOf i).toNat)
          case atStart => exact ⟨0, by omega, rfl, hdu, hwu, tu⟩
          case round =>
            clear hdu hwu tu hou hzu
            obtain ⟨j, hj, rfl, hdj, hwj, tj⟩ := hrel
            by_cases hjN : j < N
            · have hjw : j < want.length := by rw [HW.out]; exact hjN
              have hjI : (j : Int) < (N : Int) := by omega
              go_wp2_with fail
              refine (read_d _ d K HK.out _ j hdj (by omega) (by simp; omega) rfl).mono ?_
              rintro e wd ⟨r, rfl, hr, hbd⟩
              have hr : wd.ownsRow wr.heap.size 5 1 r 64 ((z64 (want[j])).map B) := by simpa using hr
              have hdd := hdj.kept hbd
              have hwd := hwj.keep (hbd.block gw hwj.lt)
              have td := tj.trans (hbd.mono tj.size)
              have hbee : Below wd.heap.size wd wd.drew := (Below.refl _ _).drew
              have q1 : ∀ w', Later wd.drew w' → (convert 28 9 r).run Try.prog w' = .ok (.string ⟨(z64 (want[j])).toArray⟩) w' := fun w' hb => owns_later (l := z64 (want[j])) hr (by simp [z64]) (kept_trans hbee hb)
              have q2 : ∀ w', Later wd.drew w' → w'.cell? ⟨gw, j, none⟩ = some (B (want[j])) := fun w' hb => by
                rw [(kept_trans hbee hb).cell (p := ⟨gw, j, none⟩) hwd.lt, hwd.cell j]; simp [hjw]
              have Hr := Lib.hid hr; clear hr
              generalize hx : want[j] = x at *
              have Hx := Lib.hid hx; clear hx
              go_wp2_with fail
              refine wp_region_can Later [(0, true), (1, true), (2, true), (3, true), (4, true), (5, true), (6, true), (7, true), (8, true), (9, false), (10, true), (11, true), (12, true)] (by kernel_rfl) (by kernel_rfl) later_refl later_trans ?_
              repeat (first
                | (refine can_yes (v := ?_) rfl (wanted_none rfl) (fun w' hC => ?_) (fun K hK => ?_); rotate_left; (focus (go_simp; first | done | exact rfl)); go_simp; refine hK _ ?_; clear hK K)
                | (refine can_guard rfl (fun A B hA hB => ?_); go_simp; first | (refine hA ⟨?_, fun w' hC => ?_, fun K hK => ?_⟩; rotate_left; (focus (go_simp; first | done | exact rfl)); go_simp; refine hK _ ?_; clear hK K hA hB A B) | (refine hB (fun K hK => ?_); go_simp; refine hK _ ?_; clear hK K hA hB A B))
                | (refine can_guard_go rfl (fun A B hA hB => ?_); go_simp; refine hB (fun K hK => ?_); go_simp; refine hK _ ?_; clear hK K hA hB A B))
              refine can_go rfl rfl (fun K hK => ?_)
              go_simp
              refine (sector_any _ x).mono ?_
              rintro e wx ⟨gx, rfl, hgx, hsx, hbx⟩
              refine ⟨_, rfl, hbx, hK _ _ ?_⟩
              clear hK q1 q2
              have qx : ∀ w', Later wx w' → (convert 28 9 (.slice (some ⟨gx, 0, none⟩) 64 64)).run Try.prog w' = .ok (.string ⟨(z64 x).toArray⟩) w' := fun w' hb => sector_later hsx hb
              go_simp
              repeat (first
                | (refine can_yes (v := ?_) rfl (wanted_none rfl) (fun w' hC => ?_) (fun K hK => ?_); rotate_left; (focus (go_simp; first | done | exact rfl)); go_simp; refine hK _ ?_; clear hK K)
                | (refine can_guard rfl (fun A B hA hB => ?_); go_simp; first | (refine hA ⟨?_, fun w' hC => ?_, fun K hK => ?_⟩; rotate_left; (focus (go_simp; first | done | exact rfl)); go_simp; refine hK _ ?_; clear hK K hA hB A B) | (refine hB (fun K hK => ?_); go_simp; refine hK _ ?_; clear hK K hA hB A B))
                | (refine can_guard_go rfl (fun A B hA hB => ?_); go_simp; refine hB (fun K hK => ?_); go_simp; refine hK _ ?_; clear hK K hA hB A B))
              refine can_nil ?_
              go_wp2_with fail
              go_roundw
              case rel => exact ⟨j + 1, by omega, by go_num, hdd.kept (kept_trans hbee hbx), hwd.keep ((kept_trans hbee hbx).block gw hwd.lt), td.trans ((kept_trans hbee hbx).mono td.size)⟩
              case measure => simp [intOf]; omega
            · go_wp2_with fail
              refine (sector_int _ 1 (by omega) (by omega)).mono ?_
              rintro e wx ⟨gx, rfl, hgx, hsx, hbx⟩
              have hdx := hdj.kept hbx
              have tx := tj.trans (hbx.mono tj.size)
              go_wp2_with fail
              refine (writeSector_d _ d K HK.out _ hdx 0 (by omega) (by have := HW.out; simp; omega) rfl (by simp; omega) gx _ _ hsx (fun hx => by have := hdj.lt _ hx; omega)).mono ?_
              rintro e wy ⟨rfl, ⟨Ky, hKy, hfy, hdy⟩, hoy, hzy⟩
              have ty := tx.trans (hoy.below (fun b h => (hfoot b h).1) tx.size)
              have hv : ((⟨want.map z64, false, none, aft⟩ : MD).write (Int.toNat 0) (List.replicate 64 (UInt8.ofNat (Int.toNat 1)))).2 = 0 := rfl
              rw [hv]; clear hv
              go_wp2_with fail
              refine (disk_works wy).mono ?_
              rintro e wz ⟨rfl, hbz⟩
              go_wp2_with fail
              go_ret
              exact ⟨rfl, ty.trans (hbz.mono ty.size)⟩
end Go.Proofs.Ytgbcpcbcikadlaa
