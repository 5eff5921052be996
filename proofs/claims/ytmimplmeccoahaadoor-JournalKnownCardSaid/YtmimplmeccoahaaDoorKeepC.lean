/- The sectors of package henkanlaw35: sector, recognizable. -/
import Derived.Test.YtmimplmeccoahaaDoorJTorn
import Derived.Test.YtmimplmeccoahaaDoorJV
import Derived.Test.YtmimplmeccoahaaDoorTree
import Derived.Test.YtmimplmeccoahaaDoorJX
namespace Go.Proofs.YtmimplmeccoahaaDoor
open Go.RowKit
set_option linter.unusedVariables false
set_option maxRecDepth 20000
attribute [local go_sem ↓] seal_copy seal_make_bytes

/-- copy into the first bytes of a row of bytes -/
theorem run_copy_blk {w : World} {g : Nat} {l : List UInt8} {t : TypeId} (hb : Blk w g (l.map B) t) (dLen dCap : Nat) {F : Blks} {v : Value} {x : List UInt8} (hv : Bytes F w v x) (n : Nat) (hn : n = Nat.min x.length dLen) (hfit : n ≤ l.length) :
    ∃ w', (CP #[30, 30] 3 #[.slice (some ⟨g, 0, none⟩) dLen dCap, v]).run Tryd.prog w = .ok (.int .i64 (n : Int)) w' ∧ Blk w' g ((putL l 0 (x.take n)).map B) t ∧ Only (fun b => b = g) w w' ∧ w'.heap.size = w.heap.size := by
  obtain ⟨a, cap, rfl, hc, hm, hz, hx⟩ := hv
  have hxl : (x.take n).length = n := by rw [List.length_take, hn]; exact Nat.min_eq_left (Nat.min_le_left _ _)
  by_cases h0 : n = 0
  · subst h0
    refine ⟨w, run_copy_none w 30 30 3 5 (some ⟨g, 0, none⟩) a dLen dCap _ cap Tryd.underlying30 sizeU8 hn.symm, ?_, Only.refl _ _, rfl⟩
    simpa [putL] using hb
  · rcases hx with rfl | ⟨b, o, L, t', fz, rfl, hF, hg, hle, hr⟩
    · simp at hn; omega
    · have hrun := run_copy_row (P := Tryd.prog) w 30 30 3 5 g 0 dLen dCap ⟨b, o, none⟩ x.length cap (l.map B).toArray t ((x.take n).map B) Tryd.underlying30 sizeU8 hb (by rw [List.length_map, hxl, hn])
        (fun j u hj => by
          have hjn : j < n := by have := (List.getElem?_eq_some_iff.1 hj).1; rw [List.length_map, hxl] at this; exact this
          have hjx : j < x.length := by rw [hn] at hjn; exact Nat.lt_of_lt_of_le hjn (Nat.min_le_left _ _)
          rw [Addr.add_lit, cell_of_row w b (o + j) L t' fz hg, hr j hjx]
          rw [List.getElem?_map, List.getElem?_take, if_pos hjn, List.getElem?_eq_getElem hjx] at hj
          exact hj) (by rw [List.length_map, hxl]; simp; omega) (oneCell_B _)
      simp only [List.length_map, hxl] at hrun
      refine ⟨_, hrun, ?_, Only.setRow (F := fun b => b = g) (Only.refl _ w) (.inl rfl) _, by simp⟩
      have := hb.row ((l.map B).take 0 ++ (x.take n).map B ++ (l.map B).drop (0 + n))
      unfold putL
      rw [hxl]
      simpa [List.map_append, List.map_take, List.map_drop] using this

/-- 64 bytes: b, cut, or filled up with zeros -/
def sec64 (b : List UInt8) : List UInt8 := putL zero64 0 (b.take (Nat.min b.length 64))
theorem sec64_length (b : List UInt8) : (sec64 b).length = 64 := by
  unfold sec64
  have h1 : Nat.min b.length 64 ≤ 64 := Nat.min_le_right _ _
  rw [putL_length _ _ _ (by rw [zero64_length, List.length_take]; omega), zero64_length]

theorem sector35_any (w : World) (F : Blks) (v : Value) (b : List UInt8) (hv : Bytes F w v b) :
    Calls Tryd.prog 34 #[v] w fun e w' => e = .returned (.slice (some ⟨w.heap.size, 0, none⟩) 64 64) ∧ Blk w' w.heap.size ((sec64 b).map B) 5 ∧ Below w.heap.size w w' := by
  obtain ⟨w1, hmk, hb1, hk1⟩ := run_make_bytes w 64 (by omega)
  rw [show ((64 : Nat) : Int) = 64 from rfl] at hmk
  have hv1 : Bytes (fun b => b < w.heap.size) w1 v b := by
    have h0 : Bytes (fun b => b < w.heap.size) w v b := by
      obtain ⟨a, cap, rfl, hc, hm, hz, hx⟩ := hv
      refine ⟨a, cap, rfl, hc, hm, hz, ?_⟩
      rcases hx with h | ⟨b', off, L, t, fz, h1, h2, h3, h4, h5⟩
      · exact .inl h
      · exact .inr ⟨b', off, L, t, fz, h1, lt_of_block h3, h3, h4, h5⟩
    exact h0.keep fun b hb _ => hk1.block b hb
  have hb1' : Blk w1 w.heap.size (zero64.map B) 5 := by simpa [zero64] using hb1
  have hmin : Nat.min b.length 64 ≤ 64 := Nat.min_le_right _ _
  obtain ⟨w2, hcp, hb2, ho2, hz2⟩ := run_copy_blk hb1' 64 64 hv1 (Nat.min b.length 64) rfl (by rw [zero64_length]; exact hmin)
  obtain ⟨a, cap, rfl, -, -⟩ := hv
  have hz1 := hk1.size
  have hlt := hb1.lt
  have hk2 : Below w.heap.size w w2 := hk1.trans (ho2.below (fun b e => by rw [e]; exact Nat.le_refl _) hz1)
  have hb2' : Blk w2 w.heap.size ((sec64 b).map B) 5 := hb2
  generalize sec64 b = s at *
  have Hb2 := Lib.hid hb2'; have Hk2 := Lib.hid hk2
  generalize hnn : Nat.min b.length 64 = nn at *
  clear hb2 hb2' ho2 hz2 hb1 hb1' hv1 hmin hnn hk2 hk1 hz1 hlt
  go_enter Tryd.func34, Tryd.ntmps34
  go_wp2_with fail
  go_ret
  exact ⟨rfl, Hb2.out, Hk2.out⟩

theorem blk_bytes60 {w : World} {g : Nat} {s : List UInt8} {t : TypeId} (hb : Blk w g (s.map B) t) (hl : s.length = 64) : Bytes (fun b => b = g) w (.slice (some ⟨g, 0, none⟩) 60 64) (s.take 60) := by
  have h60 : (s.take 60).length = 60 := by simp; omega
  refine ⟨some ⟨g, 0, none⟩, 64, by rw [h60], by omega, by unfold maxLen; omega, nofun, .inr ⟨g, 0, (s.map B).toArray, _, _, rfl, rfl, hb, by simp; omega, fun i hi => ?_⟩⟩
  simp at hi
  simp [List.getElem?_eq_getElem (show i < s.length by omega)]
theorem blk_bytes64 {w : World} {g : Nat} {s : List UInt8} {t : TypeId} (hb : Blk w g (s.map B) t) (hl : s.length = 64) (F : Blks) (hF : F g) : Bytes F w (.slice (some ⟨g, 0, none⟩) 64 64) s := by
  have := bytes_of_blk hb (by rw [hl]; unfold maxLen; omega) F hF
  rw [hl] at this
  exact this

/-- four bytes compared one by one -/
theorem bytes4 (x : List UInt8) (hx : x.length = 64) (c : Nat) (hc : c < 4294967296) :
    (read4 x 60 = c ↔ ((x.getD 60 0).toNat : Int) = (c : Int) % 256 ∧ ((x.getD 61 0).toNat : Int) = (c : Int) / 256 % 256 ∧ ((x.getD 62 0).toNat : Int) = (c : Int) / 65536 % 256 ∧ ((x.getD 63 0).toNat : Int) = (c : Int) / 16777216 % 256) := by
  unfold read4
  have h0 := (x.getD 60 0).toNat_lt
  have h1 := (x.getD (60 + 1) 0).toNat_lt
  have h2 := (x.getD (60 + 2) 0).toNat_lt
  have h3 := (x.getD (60 + 3) 0).toNat_lt
  have e1 : x.getD 61 0 = x.getD (60 + 1) 0 := rfl
  have e2 : x.getD 62 0 = x.getD (60 + 2) 0 := rfl
  have e3 : x.getD 63 0 = x.getD (60 + 3) 0 := rfl
  rw [e1, e2, e3]
  generalize x.getD 60 0 = a at *
  generalize x.getD (60 + 1) 0 = b at *
  generalize x.getD (60 + 2) 0 = d at *
  generalize x.getD (60 + 3) 0 = f at *
  omega

theorem torn_set (s : List UInt8) (hl : s.length = 64) (h : intact s = true) : intact (s.set 63 (UInt8.ofNat ((s.getD 63 0).toNat + 1))) = false := by
  unfold intact at *
  rw [beq_iff_eq] at h
  rw [beq_eq_false_iff_ne]
  have e : (s.set 63 (UInt8.ofNat ((s.getD 63 0).toNat + 1))).take 60 = s.take 60 := by rw [List.take_set_of_le (by omega)]
  rw [e, ← h]
  have hg : ∀ i, i ≠ 63 → (s.set 63 (UInt8.ofNat ((s.getD 63 0).toNat + 1))).getD i 0 = s.getD i 0 := fun i hi => by
    rw [List.getD_eq_getElem?_getD, List.getElem?_set_ne (by omega), ← List.getD_eq_getElem?_getD]
  have h63 : (s.set 63 (UInt8.ofNat ((s.getD 63 0).toNat + 1))).getD (60 + 3) 0 = UInt8.ofNat ((s.getD 63 0).toNat + 1) := by
    rw [List.getD_eq_getElem?_getD, List.getElem?_set_self (by omega)]; rfl
  unfold read4
  rw [hg 60 (by omega), hg (60 + 1) (by omega), hg (60 + 2) (by omega), h63]
  have h3 := (s.getD 63 0).toNat_lt
  have e3 : s.getD (60 + 3) 0 = s.getD 63 0 := rfl
  rw [e3, UInt8.toNat_ofNat']
  generalize (s.getD 60 0).toNat = a
  generalize (s.getD (60 + 1) 0).toNat = b
  generalize (s.getD (60 + 2) 0).toNat = c
  generalize (s.getD 63 0).toNat = d at *
  omega

theorem Blk.byte {w : World} {g : Nat} {s : List UInt8} {t : TypeId} (hb : Blk w g (s.map B) t) (i : Nat) (hi : i < s.length) : w.cell? ⟨g, i, none⟩ = some (.int .u8 ((s.getD i 0).toNat : Int)) := by
  rw [hb.cell i, List.getElem?_map, List.getElem?_eq_getElem hi, List.getD_eq_getElem?_getD, List.getElem?_eq_getElem hi]
  rfl
end Go.Proofs.YtmimplmeccoahaaDoor
/- recognizable: 64 bytes that are no intact sector. -/
namespace Go.Proofs.YtmimplmeccoahaaDoor
open Go.RowKit
set_option linter.unusedVariables false
set_option maxRecDepth 20000


theorem recognizable_any (w : World) (hq : Quarter w) (F : Blks) (v : Value) (b : List UInt8) (hv : Bytes F w v b) :
    Calls Tryd.prog 59 #[v] w fun e w' => ∃ s : List UInt8, e = .returned (.slice (some ⟨w.heap.size, 0, none⟩) 64 64) ∧ s.length = 64 ∧ intact s = false ∧ Blk w' w.heap.size (s.map B) 5 ∧ Below w.heap.size w w' := by
  have h0 : 0 < w.heap.size := by obtain ⟨t, fz, hh⟩ := hq; exact lt_of_block hh
  have hq' : ∀ {w' : World}, Below w.heap.size w w' → Quarter w' := fun hb => hq.keep (hb.block 0 h0)
  have HS := Lib.hid (sector35_any w F v b hv)
  obtain ⟨a, cap, rfl, -⟩ := hv
  go_enter Tryd.func59, Tryd.ntmps59
  go_wp2_with fail
  refine HS.out.mono ?_
  rintro e w1 ⟨rfl, hb1, hk1⟩
  have hs : (sec64 b).length = 64 := sec64_length b
  generalize sec64 b = s at *
  have hc := crcSum_any w1 (hq' hk1) _ _ _ (blk_bytes60 hb1 hs)
  have hclt := crc_lt (s.take 60)
  obtain ⟨c, hC⟩ : ∃ c, crc (s.take 60) = c := ⟨_, rfl⟩
  rw [hC] at hc hclt
  have HC := Lib.hid hC; have HCR := Lib.hid hc
  clear hC hc HS
  have x0 := hb1.byte 60 (by omega)
  have x1 := hb1.byte 61 (by omega)
  have x2 := hb1.byte 62 (by omega)
  have x3 := hb1.byte 63 (by omega)
  have f3 := hb1.free 63
  obtain ⟨s0, hs0⟩ : ∃ z : Int, ((s.getD 60 0).toNat : Int) = z := ⟨_, rfl⟩
  obtain ⟨s1, hs1⟩ : ∃ z : Int, ((s.getD 61 0).toNat : Int) = z := ⟨_, rfl⟩
  obtain ⟨s2, hs2⟩ : ∃ z : Int, ((s.getD 62 0).toNat : Int) = z := ⟨_, rfl⟩
  obtain ⟨s3, hs3⟩ : ∃ z : Int, ((s.getD 63 0).toNat : Int) = z := ⟨_, rfl⟩
  have H0 := Lib.hid hs0; have H1 := Lib.hid hs1; have H2 := Lib.hid hs2; have H3 := Lib.hid hs3
  rw [hs0] at x0; rw [hs1] at x1; rw [hs2] at x2; rw [hs3] at x3
  clear hs0 hs1 hs2 hs3
  go_wp2_with fail
  refine HCR.out.mono ?_
  rintro e w' ⟨rfl, rfl⟩
  have hs := hs
  have Hs := Lib.hid hs; have HCL := Lib.hid hclt
  clear hclt hs
  by_cases q0 : s0 = (c : Int) % 256
  · have e0 : (s0 == (c : Int) % 256) = true := by simp [q0]
    by_cases q1 : s1 = (c : Int) / 256 % 256
    · have e1 : (s1 == (c : Int) / 256 % 256) = true := by simp [q1]
      by_cases q2 : s2 = (c : Int) / 65536 % 256
      · have e2 : (s2 == (c : Int) / 65536 % 256) = true := by simp [q2]
        by_cases q3 : s3 = (c : Int) / 16777216 % 256
        · have e3 : (s3 == (c : Int) / 16777216 % 256) = true := by simp [q3]
          have Q0 := Lib.hid q0; have Q1 := Lib.hid q1; have Q2 := Lib.hid q2; have Q3 := Lib.hid q3
          have hi : intact s = true := by
            unfold intact
            rw [beq_iff_eq]
            have hclt := HCL.out
            refine (bytes4 s Hs.out (crc (s.take 60)) (crc_lt _)).2 ?_
            rw [H0.out, H1.out, H2.out, H3.out, HC.out]
            refine ⟨q0, q1, q2, ?_⟩
            omega
          have hb2 := hb1.set 63 (.int .u8 ((s3 + 1) % 256))
          have hset : (s.map B).set 63 (.int .u8 ((s3 + 1) % 256)) = (s.set 63 (UInt8.ofNat ((s.getD 63 0).toNat + 1))).map B := by
            rw [List.map_set, B_ofNat, ← H3.out]
            rfl
          rw [hset] at hb2
          have Hb2 := Lib.hid hb2; have Hi := Lib.hid (torn_set s Hs.out hi)
          have hk2 : Below w.heap.size w (w1.setCell ⟨w.heap.size, 63, none⟩ (.int .u8 ((s3 + 1) % 256))) := hk1.setCell (Nat.le_refl _) _
          have Hk2 := Lib.hid hk2
          clear q0 q1 q2 q3 hb2 hset hi hk2 hk1 hb1
          go_wp2_with fail
          go_ret
          exact ⟨_, rfl, by rw [List.length_set]; exact Hs.out, Hi.out, Hb2.out, Hk2.out⟩
        · have e3 : (s3 == (c : Int) / 16777216 % 256) = false := by simp [q3]
          have Q0 := Lib.hid q0; have Q1 := Lib.hid q1; have Q2 := Lib.hid q2; have Q3 := Lib.hid q3
          clear q0 q1 q2 q3
          have hni : intact s = false := by
            unfold intact
            rw [beq_eq_false_iff_ne]
            intro e
            have h := (bytes4 s Hs.out (crc (s.take 60)) (crc_lt _)).1 e
            rw [H0.out, H1.out, H2.out, H3.out, HC.out] at h
            have hclt := HCL.out
            have hq := Q3.out
            omega
          have Hni := Lib.hid hni
          clear hni
          go_wp2_with fail
          go_ret
          exact ⟨s, rfl, Hs.out, Hni.out, hb1, hk1⟩
      · have e2 : (s2 == (c : Int) / 65536 % 256) = false := by simp [q2]
        have Q0 := Lib.hid q0; have Q1 := Lib.hid q1; have Q3 := Lib.hid q2
        clear q0 q1 q2
        have hni : intact s = false := by
          unfold intact
          rw [beq_eq_false_iff_ne]
          intro e
          have h := (bytes4 s Hs.out (crc (s.take 60)) (crc_lt _)).1 e
          rw [H0.out, H1.out, H2.out, H3.out, HC.out] at h
          have hclt := HCL.out
          have hq := Q3.out
          omega
        have Hni := Lib.hid hni
        clear hni
        go_wp2_with fail
        go_ret
        exact ⟨s, rfl, Hs.out, Hni.out, hb1, hk1⟩
    · have e1 : (s1 == (c : Int) / 256 % 256) = false := by simp [q1]
      have Q0 := Lib.hid q0; have Q3 := Lib.hid q1
      clear q0 q1
      have hni : intact s = false := by
        unfold intact
        rw [beq_eq_false_iff_ne]
        intro e
        have h := (bytes4 s Hs.out (crc (s.take 60)) (crc_lt _)).1 e
        rw [H0.out, H1.out, H2.out, H3.out, HC.out] at h
        have hclt := HCL.out
        have hq := Q3.out
        omega
      have Hni := Lib.hid hni
      clear hni
      go_wp2_with fail
      go_ret
      exact ⟨s, rfl, Hs.out, Hni.out, hb1, hk1⟩
  · have e0 : (s0 == (c : Int) % 256) = false := by simp [q0]
    have Q3 := Lib.hid q0
    clear q0
    have hni : intact s = false := by
      unfold intact
      rw [beq_eq_false_iff_ne]
      intro e
      have h := (bytes4 s Hs.out (crc (s.take 60)) (crc_lt _)).1 e
      rw [H0.out, H1.out, H2.out, H3.out, HC.out] at h
      have hclt := HCL.out
      have hq := Q3.out
      omega
    have Hni := Lib.hid hni
    clear hni
    go_wp2_with fail
    go_ret
    exact ⟨s, rfl, Hs.out, Hni.out, hb1, hk1⟩
end Go.Proofs.YtmimplmeccoahaaDoor
/- The life of a journal: what its block holds; again. -/
namespace Go.Proofs.YtmimplmeccoahaaDoor
open Go.RowKit
set_option linter.unusedVariables false
set_option maxRecDepth 20000
attribute [local go_sem] opC upC

/-- a slice of slices of bytes that is read; all its blocks are of F -/
def RowsF (F : Blks) (w : World) (v : Value) (S : List (List UInt8)) : Prop :=
  ∃ a cap, v = .slice a S.length cap ∧ (S = [] ∨ ∃ g, a = some ⟨g, 0, none⟩ ∧ F g ∧ g < w.heap.size ∧ ∀ i (h : i < S.length), ∃ x, w.cell? ⟨g, i, none⟩ = some x ∧ Bytes F w x S[i])

theorem RowsF.at {F : Blks} {w : World} {v : Value} {S : List (List UInt8)} (h : RowsF F w v S) : RowsAt F w v S := by
  obtain ⟨a, cap, rfl, h⟩ := h
  refine ⟨a, cap, rfl, h.imp id ?_⟩
  rintro ⟨g, h1, h2, h3, h4⟩
  exact ⟨g, h1, h3, h4⟩
theorem RowsF.keep {F : Blks} {w w' : World} {v : Value} {S : List (List UInt8)} (h : RowsF F w v S) (hk : ∀ b, F b → b < w.heap.size → w'.heap[b]? = w.heap[b]?) (hs : w.heap.size ≤ w'.heap.size) : RowsF F w' v S := by
  obtain ⟨a, cap, rfl, h⟩ := h
  refine ⟨a, cap, rfl, h.imp id ?_⟩
  rintro ⟨g, h1, h2, h3, h4⟩
  refine ⟨g, h1, h2, by omega, fun i hi => ?_⟩
  obtain ⟨x, hx, hb⟩ := h4 i hi
  refine ⟨x, ?_, hb.keep fun b hb hlt => hk b hb hlt⟩
  unfold World.cell? at *
  rw [show (⟨g, i, none⟩ : Addr).block = g from rfl, hk g h2 h3]
  exact hx
theorem RowsF.mono {F G : Blks} {w : World} {v : Value} {S : List (List UInt8)} (h : RowsF F w v S) (hF : ∀ b, F b → G b) : RowsF G w v S := by
  obtain ⟨a, cap, rfl, h⟩ := h
  refine ⟨a, cap, rfl, h.imp id ?_⟩
  rintro ⟨g, h1, h2, h3, h4⟩
  refine ⟨g, h1, hF _ h2, h3, fun i hi => ?_⟩
  obtain ⟨x, hx, hb⟩ := h4 i hi
  exact ⟨x, hx, hb.mono hF⟩
theorem RowsIn.toF {R : Blks} {w : World} {lo : Nat} {v : Value} {S : List (List UInt8)} (h : RowsIn R w lo v S) : RowsF (fun b => v.ownBlock = some b ∨ R b) w v S := by
  obtain ⟨a, cap, rfl, -, -⟩ := id h.shape
  refine ⟨a, cap, rfl, ?_⟩
  cases S with
  | nil => exact .inl rfl
  | cons x S =>
    right
    obtain ⟨g, cap', x', hv, hb, hc⟩ := h.elem 0 (by simp)
    simp at hv
    obtain ⟨rfl, rfl⟩ := hv
    refine ⟨g, rfl, .inl rfl, cell_lt hc, fun i hi => ?_⟩
    obtain ⟨g2, cap2, x2, hv2, hb2, hc2⟩ := h.elem i hi
    simp at hv2
    obtain ⟨rfl, -⟩ := hv2
    exact ⟨x2, hc2, hb2.mono fun b hb => .inr hb⟩

/-- a life's parts -/
structure LK where
  jk : JK
  M : MD
  J : MJ
  F : Blks
  vm : Value
  vy : Value
  op : Bool

/-- a life in block x -/
structure LifeOf (w : World) (lo x n : Nat) (k : LK) : Prop where
  blk : Blk w x [.pointer (some ⟨k.jk.K.d, 0, none⟩), .pointer (some ⟨k.jk.j, 0, none⟩), k.vm, k.vy, .bool k.op] 49
  jat : JAt w k.jk k.M k.J
  inv : Inv k.M.S k.J.g k.J.L
  torn : TornM k.M
  rows : RowsF k.F w k.vm k.J.L
  pos : 0 < lo
  lo_x : lo ≤ x
  all : ∀ b, k.jk.all b → lo ≤ b ∧ b ≠ x
  free : ∀ b, k.F b → b < w.heap.size ∧ b ≠ x ∧ ¬ k.jk.all b
  len : k.M.S.length = n

def LifeAt (w : World) (lo x n g c : Nat) : Prop := ∃ k, LifeOf w lo x n k ∧ k.J.g ≤ g ∧ k.M.writes ≤ c

theorem LifeOf.kept {w w' : World} {lo x n : Nat} {k : LK} (h : LifeOf w lo x n k) (hb : Below w.heap.size w w') : LifeOf w' lo x n k := by
  obtain ⟨h1, h2, h3, h4, h5, h6, h7, h8, h9, h10⟩ := h
  exact ⟨h1.keep (hb.block _ h1.lt), h2.kept hb, h3, h4, h5.keep (fun b hf hlt => hb.block b hlt) hb.size, h6, h7, h8, fun b hf => ⟨Nat.lt_of_lt_of_le (h9 b hf).1 hb.size, (h9 b hf).2⟩, h10⟩
theorem LifeAt.kept {w w' : World} {lo x n g c : Nat} (h : LifeAt w lo x n g c) (hb : Below w.heap.size w w') : LifeAt w' lo x n g c := by
  obtain ⟨k, h1, h2, h3⟩ := h
  exact ⟨k, h1.kept hb, h2, h3⟩
theorem LifeAt.more {w : World} {lo x n g c g' c' : Nat} (h : LifeAt w lo x n g c) (hg : g ≤ g') (hc : c ≤ c') : LifeAt w lo x n g' c' := by
  obtain ⟨k, h1, h2, h3⟩ := h
  exact ⟨k, h1, by omega, by omega⟩

/-- the same, all its blocks that may change lying below N -/
def LifeAtN (w : World) (lo N x n g c : Nat) : Prop := ∃ k, LifeOf w lo x n k ∧ k.J.g ≤ g ∧ k.M.writes ≤ c ∧ x < N ∧ ∀ b, k.jk.all b → b < N
theorem LifeAtN.kept {w w' : World} {lo N x n g c : Nat} (h : LifeAtN w lo N x n g c) (hb : Below w.heap.size w w') : LifeAtN w' lo N x n g c := by
  obtain ⟨k, h1, h2, h3, h4⟩ := h
  exact ⟨k, h1.kept hb, h2, h3, h4⟩
theorem LifeAt.toN {w : World} {lo x n g c : Nat} (h : LifeAt w lo x n g c) : LifeAtN w lo w.heap.size x n g c := by
  obtain ⟨k, h1, h2, h3⟩ := h
  exact ⟨k, h1, h2, h3, h1.blk.lt, fun b hb => h1.jat.lt b hb⟩
/-- the blocks of a life that may change -/
abbrev between (lo N : Nat) : Blks := fun b => lo ≤ b ∧ b < N

set_option maxRecDepth 100000 in
theorem again_any (w : World) (lo N x n g c : Nat) (hL : LifeAtN w lo N x n g c) (hq : Quarter w) :
    Calls Tryd.prog 26 #[.pointer (some ⟨x, 0, none⟩)] w fun e w' => e = .returned (.bool true) ∧ LifeAt w' lo x n g c ∧ Only (between lo N) w w' := by
  obtain ⟨⟨jk, M, J, F, vm, vy, op⟩, ⟨hblk, hj, hI, hT, hR, h0, hlx, hall, hfree, hn⟩, hg, hcw, hxN, hallN⟩ := hL
  dsimp only at *
  have c0 := hblk.cell 0
  have c1 := hblk.cell 1
  have c2 := hblk.cell 2
  have c4 := hblk.cell 4
  simp at c0 c1 c2 c4
  have hlen : J.L.length ≤ 65536 := by
    have h1 : takenL J.L ≤ halfN M.S.length := hj.room
    have h2 := length_le_taken J.L
    have h3 : M.S.length ≤ 65536 := hj.disk.le
    unfold halfN at h1
    omega
  have hq' : ∀ {w' : World}, Below lo w w' → Quarter w' := fun hb => hq.keep (hb.block 0 h0)
  have hxlt := hblk.lt
  have hup := up_any w jk.K M hj.disk
  have Hup := Lib.hid hup
  have Hblk := Lib.hid hblk; have Hj := Lib.hid hj; have HR := Lib.hid hR; have Hfree := Lib.hid hfree; have Hall := Lib.hid hall
  have hkx : ¬ jk.K.foot x := fun hf => (hall x (.inr (.inl hf))).2 rfl
  obtain ⟨a, cap, rfl, -⟩ := id hR
  clear hup hblk hj hR hfree hall
  go_enter Tryd.func26, Tryd.ntmps26
  go_wp2_with fail
  refine Hup.out.mono ?_
  rintro e w1 ⟨rfl, hd1, ho1, hz1⟩
  have hb1 : Below lo w w1 := ho1.below (fun b hf => (Hall.out b (.inr (.inl hf))).1) (by omega)
  have hblk1 := Hblk.out.only ho1 hkx
  have hR1 := HR.out.keep (w' := w1) (fun b hf hlt => ho1.block b hlt fun hk => (Hfree.out b hf).2.2 (.inr (.inl hk))) (by omega)
  have hop := open_any w1 jk.K { M with down := false } hd1 (hq' hb1)
  rw [Inv.opened (M := { M with down := false }) hI rfl] at hop
  have c0 := hblk1.cell 0
  simp at c0
  have Hop := Lib.hid hop; have HR1 := Lib.hid hR1; have Hblk1 := Lib.hid hblk1
  clear hop hd1 hR1 hblk1 Hup HR
  go_wp2_with fail
  refine Hop.out.mono ?_
  rintro e w2 ⟨⟨jk2, rfl, hK2, hj2, hall2⟩, hb2⟩
  have hb2' : Below lo w w2 := hb1.trans (hb2.mono (by omega))
  have hblk2 : Blk w2 x _ _ := Hblk1.out.keep (hb2.block _ (by rw [hz1]; exact hxlt))
  have hR2 := HR1.out.keep (w' := w2) (fun b hf hlt => hb2.block b hlt) hb2.size
  have c2 := hblk2.cell 2
  have c0 := hblk2.cell 0
  simp at c2 c0
  have HRec := Lib.hid (records_J w2 jk2 _ _ hj2)
  have Hj2 := Lib.hid hj2; have HR2 := Lib.hid hR2; have Hblk2 := Lib.hid hblk2
  clear hj2 hR2 hblk2 Hop HR1 Hblk1
  go_wp2_with fail
  refine HRec.out.mono ?_
  rintro e w3 ⟨r, R3, rfl, hr3, hR3, hb3⟩
  have hz2 := hb2'.size
  have hb3' : Below lo w w3 := hb2'.trans (hb3.mono (by omega))
  have hblk3 : Blk w3 x _ _ := Hblk2.out.keep (hb3.block _ Hblk2.out.lt)
  have hRf3 := HR2.out.keep (w' := w3) (fun b hf hlt => hb3.block b hlt) hb3.size
  have c2 := hblk3.cell 2
  simp at c2
  have heq := equal_any w3 _ _ _ _ _ _ hr3.at hRf3.at (by omega) (by omega)
  rw [show decide (J.L = J.L) = true from by simp] at heq
  obtain ⟨a3, c3, rfl, -, -⟩ := id hr3.shape
  have Heq := Lib.hid heq; have Hr3 := Lib.hid hr3; have Hblk3 := Lib.hid hblk3
  clear heq hr3 hblk3 hRf3 HRec HR2
  dsimp only at *
  go_wp2_with fail
  refine Heq.out.mono ?_
  rintro e w4 ⟨rfl, m, rfl⟩
  have hblk4 : Blk (w3.drewN m) x _ _ := Hblk3.out.drewN m
  have c1 := hblk4.cell 1
  have c2 := hblk4.cell 2
  have c4 := hblk4.cell 4
  simp at c1 c2 c4
  have f1 := hblk4.free 1
  have f2 := hblk4.free 2
  have f4 := hblk4.free 4
  clear Heq
  go_wp2_with fail
  go_ret
  have hb5 : Blk ((((w3.drewN m).setCell ⟨x, 1, none⟩ (.pointer (some ⟨jk2.j, 0, none⟩))).setCell ⟨x, 2, none⟩ (.slice a3 J.L.length c3)).setCell ⟨x, 4, none⟩ (.bool false)) x
      [.pointer (some ⟨jk.K.d, 0, none⟩), .pointer (some ⟨jk2.j, 0, none⟩), .slice a3 J.L.length c3, vy, .bool false] 49 := ((hblk4.set 1 _).set 2 _).set 4 _
  have ho5 : Only (fun b => b = x) w3 ((((w3.drewN m).setCell ⟨x, 1, none⟩ (.pointer (some ⟨jk2.j, 0, none⟩))).setCell ⟨x, 2, none⟩ (.slice a3 J.L.length c3)).setCell ⟨x, 4, none⟩ (.bool false)) :=
    (((Only.drewN (Only.refl (fun b => b = x) w3) m).setCell (p := ⟨x, 1, none⟩) (.inl (show x = x from rfl)) _).setCell (p := ⟨x, 2, none⟩) (.inl (show x = x from rfl)) _).setCell (p := ⟨x, 4, none⟩) (.inl (show x = x from rfl)) _
  generalize ((((w3.drewN m).setCell ⟨x, 1, none⟩ (.pointer (some ⟨jk2.j, 0, none⟩))).setCell ⟨x, 2, none⟩ (.slice a3 J.L.length c3)).setCell ⟨x, 4, none⟩ (.bool false)) = w5 at *
  have hz3 := hb3.size
  have hz5 := ho5.size
  have hz2 := hb2.size
  have h2x : ∀ b, jk2.all b → lo ≤ b ∧ b ≠ x ∧ b < w2.heap.size := fun b hb => by
    have hlt := Hj2.out.lt b hb
    rcases hall2 b hb with h | h
    · exact ⟨(Hall.out b (.inr (.inl h))).1, (Hall.out b (.inr (.inl h))).2, hlt⟩
    · exact ⟨by omega, by omega, hlt⟩
  have hown : ∀ b, (Value.slice a3 J.L.length c3).ownBlock = some b → w2.heap.size ≤ b ∧ b < w3.heap.size := fun b hb => by
    have := Hr3.out.own hb
    exact ⟨this.1, this.2.1⟩
  have hF3 : ∀ b, ((Value.slice a3 J.L.length c3).ownBlock = some b ∨ R3 b) → w2.heap.size ≤ b ∧ b < w3.heap.size := fun b hb => hb.elim (hown b) (hR3 b)
  refine ⟨rfl, ⟨⟨jk2, { M with down := false }, ⟨J.g, J.L, false⟩, fun b => (Value.slice a3 J.L.length c3).ownBlock = some b ∨ R3 b, .slice a3 J.L.length c3, vy, false⟩, ⟨?_, ?_, hI, hT, ?_, h0, hlx, fun b hb => ⟨(h2x b hb).1, (h2x b hb).2.1⟩, fun b hb => ?_, hn⟩, hg, hcw⟩, ?_⟩
  · have e : jk2.K.d = jk.K.d := by rw [hK2]
    show Blk w5 x [.pointer (some ⟨jk2.K.d, 0, none⟩), _, _, _, _] _
    rw [e]
    exact hb5
  · exact ((Hj2.out.kept hb3).only ho5 fun b hb e => (h2x b hb).2.1 e)
  · exact Hr3.out.toF.keep (fun b hb hlt => ho5.block b hlt (fun e => by have := hF3 b hb; omega)) hz5
  · have := hF3 b hb
    exact ⟨Nat.lt_of_lt_of_le this.2 hz5, by show b ≠ x; omega, fun h => by have := (h2x b h).2.2; omega⟩
  · have p1 : Only (between lo N) w w1 := ho1.mono fun b hb => ⟨(Hall.out b (.inr (.inl hb))).1, hallN b (.inr (.inl hb))⟩
    have p3 : Only (between lo N) w w3 := (p1.trans (Only.of_below (F := between lo N) hb2) (fun i hi => .inl hi)).trans (Only.of_below (F := between lo N) hb3) (fun i hi => .inl hi)
    exact p3.trans ho5 fun i hi => .inl (by subst hi; exact ⟨hlx, hxN⟩)
end Go.Proofs.YtmimplmeccoahaaDoor
