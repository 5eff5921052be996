/- The law RmapFull. -/
import Derived.Test.YtbjkkmabafaogaaGreatDoorRWorks
import Derived.Test.YtbjkkmabafaogaaGreatDoorRRef4
import Derived.Test.YtbjkkmabafaogaaGreatDoorRArg
import Derived.Test.YtbjkkmabafaogaaGreatDoorRSpoil
import Derived.Test.YtbjkkmabafaogaaGreatDoorStr
namespace Go.Proofs.YtbjkkmabafaogaaGreatDoor
open Go.RowKit Go.Lib
set_option linter.unusedVariables false
set_option maxRecDepth 20000
attribute [local go_sem ↓] seal_append seal_make

theorem bounds16 {z : Int} (w : (Lit.int .u16 z).wf = true) : 0 ≤ z ∧ z ≤ 65535 := by
  simp [Lit.wf, IntKind.min, IntKind.max, IntKind.signed, IntKind.bits] at w
  omega
theorem madeCells_one (v : Value) (n : Nat) : madeCells (Array.replicate 1 v) n = Array.replicate n v := by
  apply Array.ext
  · simp [madeCells]
  · intro i h1 h2
    simp only [madeCells, Array.getElem_map, Array.getElem_range, Array.size_replicate, Array.getElem_replicate]
    rw [getElem!_pos (Array.replicate 1 v) (i % 1) (by simpa using Nat.mod_lt i (show 0 < 1 by decide))]
    simp
theorem full_make (w : World) (n : Nat) (h : n ≤ 1000) :
    ∃ w', (MK 48 (.int .u16 (n : Int)) (.int .u16 (n : Int))).run Tryz.prog w = .ok (.slice (some ⟨w.heap.size, 0, none⟩) n n) w' ∧ Blk w' w.heap.size (List.replicate n (B 0)) 5 ∧ Below w.heap.size w w' := by
  obtain ⟨i0, hi, hz0, hz1, hz2⟩ := info_parts infoU8
  obtain ⟨w2, hr, hown, hgb⟩ := run_make_full (P := Tryz.prog) w w.heap.size 48 5 i0 _ 1 Tryz.underlying48 hi hz0 hz1 .u16 .u16 n (by rw [hz2]; omega) (by unfold maxLen; omega) (Nat.le_refl _)
  refine ⟨w2, hr, ?_, (Below.refl _ _).grown hgb (Nat.le_refl _) (by simp)⟩
  obtain ⟨g, cap, cur, hv, hg1, hg2, hg3, hg4, hg5, hg6⟩ := hown.2.resolve_left (by rintro ⟨h, _⟩; cases h)
  simp at hv
  obtain ⟨rfl, rfl⟩ := hv
  have hcur : cur.toList = List.replicate n (B 0) := by
    rw [List.take_of_length_le (by simp; omega)] at hg6
    rw [hg6]
    have : (Value.int .u8 0).cells = Array.replicate 1 (.int .u8 0) := rfl
    rw [this, madeCells_one]
    simp only [Array.toList_replicate, Nat.mul_one]
    rfl
  unfold Blk
  rw [← hcur]
  simpa using hg2
theorem set_repF (n k : Nat) (a b : Value) (h : k < n) : (List.replicate k a ++ List.replicate (n - k) b).set k a = List.replicate (k + 1) a ++ List.replicate (n - (k + 1)) b := by
  rw [List.set_append_right _ _ (by simp)]
  simp only [List.length_replicate, Nat.sub_self]
  obtain ⟨m, hm⟩ : ∃ m, n - k = m + 1 := ⟨n - k - 1, by omega⟩
  rw [hm, List.replicate_succ, List.set_cons_zero, show n - (k + 1) = m from by omega, List.replicate_succ' (n := k)]
  simp
def fullKey (n i : Nat) : RKey := [50, UInt8.ofNat (97 + i / 16), UInt8.ofNat (97 + i % 16), 0, 121] ++ List.replicate n 120

set_option maxRecDepth 100000 in
set_option maxHeartbeats 4000000 in
theorem RmapFull_walk (many size : Int) (w : World) (w0 : (Lit.int .u8 many).wf = true) (w1 : (Lit.int .u16 size).wf = true) (hq : Tabs w ∧ 3 ≤ w.heap.size) :
    Calls Tryz.prog 5 #[.int .u8 many, .int .u16 size] w fun e w' => e = .returned (.bool true) ∧ Below w.heap.size w w' := by
  have HTb := Lib.hid (show ∀ w', Below w.heap.size w w' → Tabs w' ∧ 3 ≤ w'.heap.size from fun w' hb => ⟨tabs_below hq.1 hq.2 hb, Nat.le_trans hq.2 hb.size⟩)
  obtain ⟨g0, g1⟩ := bounds_u8 w0
  obtain ⟨g2, g3⟩ := bounds16 w1
  obtain ⟨mn, rfl⟩ := Int.eq_ofNat_of_zero_le g0
  obtain ⟨n, hn⟩ := Int.eq_ofNat_of_zero_le (show 0 ≤ size % 395 by omega)
  have hn' : size.tmod 395 = (n : Int) := by rw [Int.tmod_eq_emod_of_nonneg g2]; exact hn
  have hn395 : n < 395 := by omega
  have hwr : IntKind.u16.wrap (n : Int) = (n : Int) := IntWalk.u16_in _ (by omega)
  obtain ⟨w2, hr, hblk, hb2⟩ := full_make w n (by omega)
  have HL := Lib.hid hblk; have Hb2 := Lib.hid hb2
  clear hq w0 w1 hblk hb2
  go_enter Tryz.func5, Tryz.ntmps5
  go_wp2_with fail
  clear hr hwr
  have HK1 := Lib.hid (show (∃ k : Nat, k ≤ n ∧ Value.int .i64 0 = .int .i64 (k : Int) ∧ Blk w2 w.heap.size (List.replicate k (B 120) ++ List.replicate (n - k) (B 0)) 5 ∧ Below w.heap.size w w2) from ⟨0, by omega, rfl, by simpa using HL.out, Hb2.out⟩)
  go_loopw [7] (fun i wr => ∃ k : Nat, k ≤ n ∧ i = .int .i64 (k : Int) ∧ Blk wr w.heap.size (List.replicate k (B 120) ++ List.replicate (n - k) (B 0)) 5 ∧ Below w.heap.size w wr) (fun i _ => n - (intOf i).toNat)
  case atStart => exact HK1.out
  case round =>
    obtain ⟨k, hk, rfl, hL, hb⟩ := hrel
    by_cases hkn : k < n
    · have hkI : (k : Int) < (n : Int) := by omega
      have e0 := hL.cell k
      rw [List.getElem?_append_right (by simp)] at e0
      simp at e0
      rw [List.getElem?_replicate, if_pos (by omega)] at e0
      have f0 := hL.free k
      have HL2 := Lib.hid (show Blk (wr.setCell ⟨w.heap.size, k, none⟩ (.int .u8 120)) w.heap.size (List.replicate (k + 1) (B 120) ++ List.replicate (n - (k + 1)) (B 0)) 5 by
        have := hL.set k (B 120)
        rw [set_repF n k _ _ hkn] at this
        exact this)
      have Hb := Lib.hid (hb.setCell (p := ⟨w.heap.size, k, none⟩) (Nat.le_refl _) (.int .u8 120))
      clear hL hb
      go_wp2_with fail
      go_roundw
      case rel => exact ⟨k + 1, by omega, by go_num, HL2.out, Hb.out⟩
      case measure => simp [intOf]; omega
    · have hkI : ¬ (k : Int) < (n : Int) := by omega
      obtain rfl : k = n := by omega
      have HLn := Lib.hid (show Blk wr w.heap.size (List.replicate k (B 120)) 5 by simpa using hL)
      have Hb := Lib.hid hb
      rename World => wl
      clear hL hb
      go_wp2_with fail
      have H0 := Lib.hid (show ∃ j : Nat, j ≤ mn ∧ Value.int .i64 0 = .int .i64 (j : Int) ∧ Below wl.heap.size wl wl ∧ wl.ownsRow wl.heap.size 9 1 (.slice none 0 0) j ((List.range j).map fun i => eS (fullKey k i)) from ⟨0, by omega, rfl, Below.refl _ _, World.ownsRow_nil _ _ _ _⟩)
      go_loopw [8, 5] (fun i s wr => ∃ j : Nat, j ≤ mn ∧ i = .int .i64 (j : Int) ∧ Below wl.heap.size wl wr ∧ wr.ownsRow wl.heap.size 9 1 s j ((List.range j).map fun i => eS (fullKey k i))) (fun i _ _ => mn - (intOf i).toNat)
      case atStart => exact H0.out
      case round =>
        rename World => wr
        obtain ⟨j, hj, rfl, hbw, hown⟩ := hrel
        obtain ⟨a5, c5, rfl⟩ := own_shape hown
        have Hbw := Lib.hid hbw; have Hown := Lib.hid hown
        clear hbw hown H0 HK1
        by_cases hjn : j < mn
        · have hjI : (j : Int) < (mn : Int) := by omega
          obtain ⟨wa, hwa⟩ : ∃ wa, wa = wr.alloc (.cells #[.int .u8 (97 + (j : Int) / 16), .int .u8 (97 + (j : Int) % 16)] 5) := ⟨_, rfl⟩
          have hj1 : j / 16 ≤ 15 := by omega
          have hj2 : j % 16 ≤ 15 := by omega
          have hB1 : B (UInt8.ofNat (97 + j / 16)) = .int .u8 (97 + (j : Int) / 16) := by
            unfold B
            congr 1
            simp only [UInt8.toNat_ofNat']
            omega
          have hB2 : B (UInt8.ofNat (97 + j % 16)) = .int .u8 (97 + (j : Int) % 16) := by
            unfold B
            congr 1
            simp only [UInt8.toNat_ofNat']
            omega
          obtain ⟨ky, hky⟩ : ∃ ky, fullKey k j = ky := ⟨_, rfl⟩
          have hkl : ky.length = k + 5 := by rw [← hky]; simp [fullKey]
          unfold fullKey at hky
          have Hky := Lib.hid (show fullKey k j = ky from hky)
          generalize UInt8.ofNat (97 + j / 16) = d1 at hB1 hky
          generalize UInt8.ofNat (97 + j % 16) = d2 at hB2 hky
          have hba : Below wl.heap.size wl wa := by rw [hwa]; exact Hbw.out.alloc Hbw.out.size _
          have h41 := run_strB (F := fun _ => True) (w := wa) (v := .slice (some ⟨wr.heap.size, 0, none⟩) 2 2) (l := [d1, d2]) ⟨_, 2, rfl, by simp, by unfold maxLen; omega, nofun, .inr ⟨wr.heap.size, 0, #[.int .u8 (97 + (j : Int) / 16), .int .u8 (97 + (j : Int) % 16)], 5, (0, 0), rfl, trivial, by rw [hwa]; unfold World.alloc; simp, by simp, fun i hi => by
            rcases (show i = 0 ∨ i = 1 by simp at hi; omega) with rfl | rfl
            · show some (Value.int .u8 _) = some (B d1); rw [hB1]
            · show some (Value.int .u8 _) = some (B d2); rw [hB2]⟩⟩
          have hlb : Bytes (fun _ => True) wa (.slice (some ⟨w.heap.size, 0, none⟩) k k) (List.replicate k 120) := by
            have hL' := HLn.out.keep (hba.block _ HLn.out.lt)
            refine ⟨some ⟨w.heap.size, 0, none⟩, k, by simp, by simp, by unfold maxLen; omega, nofun, .inr ⟨w.heap.size, 0, _, _, (0, 0), rfl, trivial, hL', by simp, fun i hi => ?_⟩⟩
            simp at hi
            simp [hi]
          have h46 := run_strB hlb
          clear hlb hB1 hB2
          have Hba := Lib.hid hba
          rw [hwa] at h41 h46
          go_wp2_with fail
          have hs : ((⟨#[50]⟩ : ByteArray) ++ ⟨#[d1, d2]⟩ ++ ⟨#[0]⟩ ++ ⟨#[121]⟩ ++ ⟨Array.replicate k 120⟩) = ⟨ky.toArray⟩ := by
            rw [← hky]
            apply ByteArray.ext
            simp [ByteArray.data_append]
          rw [hs, ← hwa]
          clear h41 h46
          obtain ⟨i0, t1, t2, t3, t4⟩ := info_parts infoS
          have hza : wa.heap.size = wr.heap.size + 1 := by rw [hwa]; simp
          have hba2 : Below wr.heap.size wr wa := by rw [hwa]; exact kept_alloc _ _
          obtain ⟨v5, w5, hr5, hown5, hg5⟩ := run_append_one (P := Tryz.prog) wa wl.heap.size 39 9 Tryz.underlying39 t1 t2 t3 t4 rfl (by decide) (.slice a5 j c5) j _ (own_below Hown.out hba2) #[.string ⟨ky.toArray⟩] rfl (by simp [Value.oneCell']) (by unfold maxLen; omega) (by omega) Hba.out.size
          obtain ⟨a6, c6, rfl⟩ := own_shape hown5
          have hb5 : Below wl.heap.size wl w5 := Hba.out.trans (((Below.refl wl.heap.size wa).alloc Hba.out.size _).trans (Below.grownOwn (own_below (own_below Hown.out hba2) (kept_alloc _ _)) hg5 (by have := Hba.out.size; simp; omega) (Nat.le_refl _)))
          have Hown5 := Lib.hid (show w5.ownsRow wl.heap.size 9 1 (.slice a6 (j + 1) c6) (j + 1) ((List.range (j + 1)).map fun i => eS (fullKey k i)) by
            rw [List.range_succ, List.map_append]
            simp only [List.map_cons, List.map_nil, Hky.out]
            exact hown5)
          have Hb5 := Lib.hid hb5
          rw [hza] at hr5
          clear hown5 hg5 hb5 t1 t2 t3 t4 hba2 hs hba hky hwa
          go_simp
          go_wp2_with fail
          go_roundw
          case rel => exact ⟨j + 1, by omega, by go_num, Hb5.out, Hown5.out⟩
          case measure => simp [intOf]; omega
        · have hjI : ¬ (j : Int) < (mn : Int) := by omega
          obtain rfl : j = mn := by omega
          obtain ⟨L, hL⟩ : ∃ L : List RKey, (List.range j).map (fullKey k) = L := ⟨_, rfl⟩
          have hLl : L.length = j := by rw [← hL]; simp
          have hLk : ∀ x ∈ L, x.length ≤ 1000 := by
            rw [← hL]
            intro x hx
            obtain ⟨i, -, rfl⟩ := List.mem_map.1 hx
            simp [fullKey]
            omega
          have hrow : Rows (fun b => wl.heap.size ≤ b) wr 1 (.slice a5 j c5) L.length (L.map eS) := by
            have := (Rows.of_owns Hown.out).mono (G := fun b => wl.heap.size ≤ b) fun b h _ => h.1
            rw [hLl, ← hL, List.map_map]
            exact this
          have HLk := Lib.hid hLk; have HLl := Lib.hid hLl; have Hrow := Lib.hid hrow
          have HN := Lib.hid (pnew_any wr)
          have Hbr := Lib.hid (show Below w.heap.size w wr from Hb.out.trans (Hbw.out.mono Hb.out.size))
          clear hL hLl hLk hrow Hown Hbw
          go_wp2_with fail
          refine HN.out.mono ?_
          rintro e w6 ⟨v6, rfl, hm6, hb6⟩
          have hb6' : Below w.heap.size w w6 := Hbr.out.trans (hb6.mono Hbr.out.size)
          have hU := puse_any w6 (HTb.out _ hb6').1 (HTb.out _ hb6').2 _ v6 .new hm6 nofun nofun (by decide) (by decide) 3 _ (.slice a5 j c5) L (Hrow.out.keep (w' := w6) fun b _ hlt => hb6.block b hlt) (by rw [HLl.out]; omega) (fun x hx => by have := HLk.out x hx; omega)
          generalize hmr : useR .new 3 L = mr at hU
          have Hsm := Lib.hid (show SmallM mr.1 by rw [← hmr]; exact useR_small _ _ _)
          have HU := Lib.hid hU; have Hmr := Lib.hid hmr; have Hb6 := Lib.hid hb6'; have Hrow6 := Lib.hid (Hrow.out.keep (w' := w6) fun b _ hlt => hb6.block b hlt)
          obtain ⟨s1, s2, s3, rfl, -⟩ := hm6
          clear hU hmr hb6' hb6 HN
          go_wp2_with fail
          refine HU.out.mono ?_
          rintro e w7 ⟨⟨r1, rfl, ho, hbd⟩, hb7⟩
          have ha := ho.map hbd
          have Hb7 := Lib.hid (show Below w.heap.size w w7 from Hb6.out.trans (hb7.mono Hb6.out.size))
          have Hrow7 := Lib.hid (Hrow6.out.keep (w' := w7) fun b _ hlt => hb7.block b hlt)
          clear HU ho hbd hb7
          obtain ⟨s1a, s2a, s3a, rfl, ha⟩ := ha
          obtain ⟨a1a, p1a, rfl, -⟩ := ha.seen.shape
          obtain ⟨a2a, p2a, rfl, -⟩ := ha.items.shape
          obtain ⟨a3a, p3a, rfl, -⟩ := ha.gone.shape
          obtain ⟨wxa, hwxa⟩ : ∃ wx, wx = w7.alloc (.cells #[.slice a1a mr.1.seen.length p1a, .slice a2a mr.1.items.length p2a, .slice a3a mr.1.gone.length p3a] 31) := ⟨_, rfl⟩
          have hbxa : Below w7.heap.size w7 wxa := by rw [hwxa]; exact kept_alloc _ _
          have hzxa : wxa.heap.size = w7.heap.size + 1 := by rw [hwxa]; simp
          have hxa := ha.keep (w' := wxa) fun b _ hlt => hbxa.block b hlt
          have hnxa : Blk wxa w7.heap.size [.slice a1a mr.1.seen.length p1a, .slice a2a mr.1.items.length p2a, .slice a3a mr.1.gone.length p3a] 31 := by rw [hwxa]; exact Blk.new _ _ _
          have Hxa := Lib.hid hxa
          have Hwxa := Lib.hid hwxa; have Hbxa := Lib.hid hbxa; have Hzxa := Lib.hid hzxa
          have Hnxa := Lib.hid hnxa
          clear hxa hwxa hbxa hnxa hzxa ha
          have HN := Lib.hid (rnew_any wxa)
          have Hbxa' := Lib.hid (show Below w.heap.size w wxa from Hb7.out.trans (Hbxa.out.mono Hb7.out.size))
          go_wp2_with fail
          rw [← Hwxa.out]
          refine HN.out.mono ?_
          rintro e w8 ⟨v8, rfl, hm8, hb8⟩
          have hU := ruse_any w8 _ v8 .new hm8 nofun nofun 3 _ (.slice a5 j c5) L ((Hrow7.out.keep (w' := wxa) fun b _ hlt => Hbxa.out.block b hlt).keep (w' := w8) fun b _ hlt => hb8.block b hlt) (by rw [HLl.out]; omega) (fun x hx => by have := HLk.out x hx; omega)
          rw [Hmr.out] at hU
          have HU := Lib.hid hU
          have Hb8 := Lib.hid (show Below w.heap.size w w8 from Hbxa'.out.trans (hb8.mono Hbxa'.out.size))
          have Hxa8 := Lib.hid (Hxa.out.keep (w' := w8) fun b _ hlt => hb8.block b hlt)
          have Hnxa8 := Lib.hid (Hnxa.out.keep (hb8.block _ Hnxa.out.lt))
          obtain ⟨t1, t2, t3, rfl, -⟩ := hm8
          clear hU hb8 HN
          go_wp2_with fail
          refine HU.out.mono ?_
          rintro e w9 ⟨r2, rfl, hb, hb9⟩
          have Hb9 := Lib.hid (show Below w.heap.size w w9 from Hb8.out.trans (hb9.mono Hb8.out.size))
          have Hxa9 := Lib.hid (Hxa8.out.keep (w' := w9) fun b _ hlt => hb9.block b hlt)
          have Hnxa9 := Lib.hid (Hnxa8.out.keep (hb9.block _ Hnxa8.out.lt))
          clear HU hb9
          obtain ⟨s1b, s2b, s3b, rfl, hb⟩ := hb
          obtain ⟨a1b, p1b, rfl, -⟩ := hb.seen.shape
          obtain ⟨a2b, p2b, rfl, -⟩ := hb.items.shape
          obtain ⟨a3b, p3b, rfl, -⟩ := hb.gone.shape
          obtain ⟨wxb, hwxb⟩ : ∃ wx, wx = w9.alloc (.cells #[.slice a1b mr.1.seen.length p1b, .slice a2b mr.1.items.length p2b, .slice a3b mr.1.gone.length p3b] 26) := ⟨_, rfl⟩
          have hbxb : Below w9.heap.size w9 wxb := by rw [hwxb]; exact kept_alloc _ _
          have hzxb : wxb.heap.size = w9.heap.size + 1 := by rw [hwxb]; simp
          have hxb := hb.keep (w' := wxb) fun b _ hlt => hbxb.block b hlt
          have hnxb : Blk wxb w9.heap.size [.slice a1b mr.1.seen.length p1b, .slice a2b mr.1.items.length p2b, .slice a3b mr.1.gone.length p3b] 26 := by rw [hwxb]; exact Blk.new _ _ _
          have Hxb := Lib.hid hxb
          have Hwxb := Lib.hid hwxb; have Hbxb := Lib.hid hbxb; have Hzxb := Lib.hid hzxb
          have Hnxb := Lib.hid hnxb
          clear hxb hwxb hbxb hnxb hzxb hb
          have hSa := Hxa9.out.keep (w' := wxb) fun b _ hlt => Hbxb.out.block b hlt
          have HS := Lib.hid (same_any wxb _ _ _ _ mr.1 mr.1 ⟨_, _, _, rfl, hSa⟩ ⟨_, _, _, rfl, Hxb.out⟩ Hsm.out.1 Hsm.out.2.1 Hsm.out.2.2)
          have Hbxb' := Lib.hid (show Below w.heap.size w wxb from Hb9.out.trans (Hbxb.out.mono Hb9.out.size))
          obtain ⟨c0, c1, c2⟩ := cell3 (Hnxa9.out.keep (Hbxb.out.block _ Hnxa9.out.lt))
          obtain ⟨d0, d1, d2⟩ := cell3 Hnxb.out
          generalize mr.2 = er
          clear hSa
          rw [Hwxb.out] at c0 c1 c2 d0 d1 d2
          go_wp2_with fail
          rw [← Hwxb.out]
          refine HS.out.mono ?_
          rintro e w10 ⟨r, rfl, hr, hb10⟩
          obtain rfl : r = true := hr.2 rfl
          have Hb10 := Lib.hid (show Below w.heap.size w w10 from Hbxb'.out.trans (hb10.mono Hbxb'.out.size))
          have HW := Lib.hid (works_any w10 (HTb.out _ Hb10.out).1 (HTb.out _ Hb10.out).2)
          clear HS hr hb10 c0 c1 c2 d0 d1 d2
          go_wp2_with fail
          refine HW.out.mono ?_
          rintro e w11 ⟨rfl, hb11⟩
          clear HW
          go_wp2_with fail
          go_ret
          exact ⟨rfl, Hb10.out.trans (hb11.mono Hb10.out.size)⟩
end Go.Proofs.YtbjkkmabafaogaaGreatDoor
