/- The sectors of package henkanlaw35: sector. -/
import Derived.Test.YtmimplmeccoahaaDoorJX
namespace Go.Proofs.YtmimplmeccoahaaDoor
open Go.RowKit
set_option linter.unusedVariables false
set_option maxRecDepth 20000
attribute [local go_sem ↓] seal_copy seal_make_bytes

/-- copy into the first bytes of a row of bytes -/
theorem run_copy_blk {w : World} {g : Nat} {l : List UInt8} {t : TypeId} (hb : Blk w g (l.map B) t) (dLen dCap : Nat) {F : Blks} {v : Value} {x : List UInt8} (hv : Bytes F w v x) (n : Nat) (hn : n = Nat.min x.length dLen) (hfit : n ≤ l.length) :
    ∃ w', (CP #[30, 30] 3 #[.slice (some ⟨g, 0, none⟩) dLen dCap, v]).run Tryd.prog w = .ok (.int .i64 (n : Int)) w' ∧ Blk w' g ((putL l 0 (x.take n)).map B) t ∧ Only (fun b => b = g) w w' ∧ w'.heap.size = w.heap.size := by
  obtain ⟨a, cap, rfl, hc, hm, hz, hx⟩ := hv
  have hxl : (x.take n).length = n := by rw [List.length_take, hn]; exact Nat.min_eq_left (Nat.min_le_left _ _)
  by_cases h0 : n = 0
  · subst h0
    refine ⟨w, run_copy_none w 30 30 3 5 (some ⟨g, 0, none⟩) a dLen dCap _ cap Tryd.underlying30 sizeU8 hn.symm, ?_, Only.refl _ _, rfl⟩
    simpa [putL] using hb
  · rcases hx with rfl | ⟨b, o, L, t', fz, rfl, hF, hg, hle, hr⟩
    · simp at hn; omega
    · have hrun := run_copy_row (P := Tryd.prog) w 30 30 3 5 g 0 dLen dCap ⟨b, o, none⟩ x.length cap (l.map B).toArray t ((x.take n).map B) Tryd.underlying30 sizeU8 hb (by rw [List.length_map, hxl, hn])
        (fun j u hj => by
          have hjn : j < n := by have := (List.getElem?_eq_some_iff.1 hj).1; rw [List.length_map, hxl] at this; exact this
          have hjx : j < x.length := by rw [hn] at hjn; exact Nat.lt_of_lt_of_le hjn (Nat.min_le_left _ _)
          rw [Addr.add_lit, cell_of_row w b (o + j) L t' fz hg, hr j hjx]
          rw [List.getElem?_map, List.getElem?_take, if_pos hjn, List.getElem?_eq_getElem hjx] at hj
          exact hj) (by rw [List.length_map, hxl]; simp; omega) (oneCell_B _)
      simp only [List.length_map, hxl] at hrun
      refine ⟨_, hrun, ?_, Only.setRow (F := fun b => b = g) (Only.refl _ w) (.inl rfl) _, by simp⟩
      have := hb.row ((l.map B).take 0 ++ (x.take n).map B ++ (l.map B).drop (0 + n))
      unfold putL
      rw [hxl]
      simpa [List.map_append, List.map_take, List.map_drop] using this

/-- 64 bytes: b, cut, or filled up with zeros -/
def sec64 (b : List UInt8) : List UInt8 := putL zero64 0 (b.take (Nat.min b.length 64))
theorem sec64_length (b : List UInt8) : (sec64 b).length = 64 := by
  unfold sec64
  have h1 : Nat.min b.length 64 ≤ 64 := Nat.min_le_right _ _
  rw [putL_length _ _ _ (by rw [zero64_length, List.length_take]; omega), zero64_length]

theorem sector35_any (w : World) (F : Blks) (v : Value) (b : List UInt8) (hv : Bytes F w v b) :
    Calls Tryd.prog 34 #[v] w fun e w' => e = .returned (.slice (some ⟨w.heap.size, 0, none⟩) 64 64) ∧ Blk w' w.heap.size ((sec64 b).map B) 5 ∧ Below w.heap.size w w' := by
  obtain ⟨w1, hmk, hb1, hk1⟩ := run_make_bytes w 64 (by omega)
  rw [show ((64 : Nat) : Int) = 64 from rfl] at hmk
  have hv1 : Bytes (fun b => b < w.heap.size) w1 v b := by
    have h0 : Bytes (fun b => b < w.heap.size) w v b := by
      obtain ⟨a, cap, rfl, hc, hm, hz, hx⟩ := hv
      refine ⟨a, cap, rfl, hc, hm, hz, ?_⟩
      rcases hx with h | ⟨b', off, L, t, fz, h1, h2, h3, h4, h5⟩
      · exact .inl h
      · exact .inr ⟨b', off, L, t, fz, h1, lt_of_block h3, h3, h4, h5⟩
    exact h0.keep fun b hb _ => hk1.block b hb
  have hb1' : Blk w1 w.heap.size (zero64.map B) 5 := by simpa [zero64] using hb1
  have hmin : Nat.min b.length 64 ≤ 64 := Nat.min_le_right _ _
  obtain ⟨w2, hcp, hb2, ho2, hz2⟩ := run_copy_blk hb1' 64 64 hv1 (Nat.min b.length 64) rfl (by rw [zero64_length]; exact hmin)
  obtain ⟨a, cap, rfl, -, -⟩ := hv
  have hz1 := hk1.size
  have hlt := hb1.lt
  have hk2 : Below w.heap.size w w2 := hk1.trans (ho2.below (fun b e => by rw [e]; exact Nat.le_refl _) hz1)
  have hb2' : Blk w2 w.heap.size ((sec64 b).map B) 5 := hb2
  generalize sec64 b = s at *
  have Hb2 := Lib.hid hb2'; have Hk2 := Lib.hid hk2
  generalize hnn : Nat.min b.length 64 = nn at *
  clear hb2 hb2' ho2 hz2 hb1 hb1' hv1 hmin hnn hk2 hk1 hz1 hlt
  go_enter Tryd.func34, Tryd.ntmps34
  go_wp2_with fail
  go_ret
  exact ⟨rfl, Hb2.out, Hk2.out⟩

theorem blk_bytes60 {w : World} {g : Nat} {s : List UInt8} {t : TypeId} (hb : Blk w g (s.map B) t) (hl : s.length = 64) : Bytes (fun b => b = g) w (.slice (some ⟨g, 0, none⟩) 60 64) (s.take 60) := by
  have h60 : (s.take 60).length = 60 := by simp; omega
  refine ⟨some ⟨g, 0, none⟩, 64, by rw [h60], by omega, by unfold maxLen; omega, nofun, .inr ⟨g, 0, (s.map B).toArray, _, _, rfl, rfl, hb, by simp; omega, fun i hi => ?_⟩⟩
  simp at hi
  simp [List.getElem?_eq_getElem (show i < s.length by omega)]
theorem blk_bytes64 {w : World} {g : Nat} {s : List UInt8} {t : TypeId} (hb : Blk w g (s.map B) t) (hl : s.length = 64) (F : Blks) (hF : F g) : Bytes F w (.slice (some ⟨g, 0, none⟩) 64 64) s := by
  have := bytes_of_blk hb (by rw [hl]; unfold maxLen; omega) F hF
  rw [hl] at this
  exact this

/-- four bytes compared one by one -/
theorem bytes4 (x : List UInt8) (hx : x.length = 64) (c : Nat) (hc : c < 4294967296) :
    (read4 x 60 = c ↔ ((x.getD 60 0).toNat : Int) = (c : Int) % 256 ∧ ((x.getD 61 0).toNat : Int) = (c : Int) / 256 % 256 ∧ ((x.getD 62 0).toNat : Int) = (c : Int) / 65536 % 256 ∧ ((x.getD 63 0).toNat : Int) = (c : Int) / 16777216 % 256) := by
  unfold read4
  have h0 := (x.getD 60 0).toNat_lt
  have h1 := (x.getD (60 + 1) 0).toNat_lt
  have h2 := (x.getD (60 + 2) 0).toNat_lt
  have h3 := (x.getD (60 + 3) 0).toNat_lt
  have e1 : x.getD 61 0 = x.getD (60 + 1) 0 := rfl
  have e2 : x.getD 62 0 = x.getD (60 + 2) 0 := rfl
  have e3 : x.getD 63 0 = x.getD (60 + 3) 0 := rfl
  rw [e1, e2, e3]
  generalize x.getD 60 0 = a at *
  generalize x.getD (60 + 1) 0 = b at *
  generalize x.getD (60 + 2) 0 = d at *
  generalize x.getD (60 + 3) 0 = f at *
  omega

theorem Blk.byte {w : World} {g : Nat} {s : List UInt8} {t : TypeId} (hb : Blk w g (s.map B) t) (i : Nat) (hi : i < s.length) : w.cell? ⟨g, i, none⟩ = some (.int .u8 ((s.getD i 0).toNat : Int)) := by
  rw [hb.cell i, List.getElem?_map, List.getElem?_eq_getElem hi, List.getD_eq_getElem?_getD, List.getElem?_eq_getElem hi]
  rfl
end Go.Proofs.YtmimplmeccoahaaDoor
