/-
  RForg
-/
import Derived.Test.YtelphnigdancpaaGreatDoorZA22
import Derived.Test.YtelphnigdancpaaGreatDoorZA23
namespace Go.Proofs.YtelphnigdancpaaGreatDoor
open Go.RowKit
set_option linter.unusedVariables false
set_option maxRecDepth 20000
attribute [local go_sem ↓] seal_append

theorem cut_sorted (key : RKey) : ∀ l : List RKey, (l.Pairwise fun a b => a < b) → ∃ k0, k0 ≤ l.length ∧ (∀ t (h : t < l.length), t < k0 → l[t] < key) ∧ ∀ t (h : t < l.length), k0 ≤ t → ¬ l[t] < key
  | [], _ => ⟨0, Nat.le_refl _, fun t h => by simp at h, fun t h => by simp at h⟩
  | x :: l, hp => by
    obtain ⟨hx, hl⟩ := List.pairwise_cons.1 hp
    by_cases h : x < key
    · obtain ⟨k0, h0, h1, h2⟩ := cut_sorted key l hl
      refine ⟨k0 + 1, by simp; omega, fun t ht hk => ?_, fun t ht hk => ?_⟩
      · cases t with
        | zero => exact h
        | succ t => exact h1 t (by simpa using ht) (by omega)
      · cases t with
        | zero => omega
        | succ t => exact h2 t (by simpa using ht) (by omega)
    · refine ⟨0, Nat.zero_le _, fun t ht hk => by omega, fun t ht _ => ?_⟩
      cases t with
      | zero => exact h
      | succ t => exact fun hh => h (List.lt_trans (hx _ (List.getElem_mem (by simpa using ht))) hh)

theorem bsearchS_any (w : World) (F : Blks) (v : Value) (l : List RKey) (key : RKey) (hv : Rows F w 1 v l.length (l.map eS)) (hl : l.length ≤ 1000000) (hs : l.Pairwise fun a b => a < b) :
    Calls Tryz.prog 102 #[v, .string ⟨key.toArray⟩] w fun e w' => (∃ i : Nat, e = .returned (.tuple #[.int .i64 i, .bool (decide (key ∈ l))])) ∧ ∃ q, w' = w.drewN q := by
  obtain ⟨a, cap, rfl, -⟩ := hv.shape
  by_cases h0 : l.length = 0
  · obtain rfl := List.length_eq_zero_iff.1 h0
    refine (Any2.slices_BinarySearch_string_empty Tryz.laysBSearch a cap ⟨key.toArray⟩ w).mono ?_
    rintro e w' ⟨rfl, rfl⟩
    exact ⟨⟨0, by simp⟩, 0, rfl⟩
  · obtain ⟨b, off, rfl, -, -, hc⟩ := str_cell hv (by omega)
    obtain ⟨k0, hk0, h1, h2⟩ := cut_sorted key l hs
    have hless : ∀ t, Op.bytesLess ((⟨(l.getD t key).toArray⟩ : ByteArray)).toList ((⟨key.toArray⟩ : ByteArray)).toList = decide (l.getD t key < key) := fun t => by
      rw [Go.Proofs.bytesLess_eq]
      simp
    have hg := Lib.bsGo_spec (fun t => Op.bytesLess ((⟨(l.getD t key).toArray⟩ : ByteArray)).toList ((⟨key.toArray⟩ : ByteArray)).toList) k0 (fun t ht => by
        rw [hless, List.getD_eq_getElem?_getD, List.getElem?_eq_getElem (by omega)]
        simpa using h1 t (by omega) ht) (fun t ht => by
        rw [hless, List.getD_eq_getElem?_getD]
        by_cases hlt : t < l.length
        · rw [List.getElem?_eq_getElem hlt]
          simpa using h2 t hlt ht
        · rw [List.getElem?_eq_none (by omega)]
          simp [List.lt_irrefl]) l.length 0 l.length (by omega) (Nat.zero_le _) hk0
    refine (Any2.slices_BinarySearch_string Tryz.laysBSearch b off l.length cap (fun t => ⟨(l.getD t key).toArray⟩) ⟨key.toArray⟩ w (by omega) (fun j hj => by
      rw [hc j hj, List.getD_eq_getElem?_getD, List.getElem?_eq_getElem hj]; rfl)).mono ?_
    rintro e w' ⟨rfl, q, rfl⟩
    rw [hg]
    refine ⟨⟨k0, ?_⟩, q, rfl⟩
    have hd : decide (k0 < l.length ∧ (⟨(l.getD k0 key).toArray⟩ : ByteArray) = ⟨key.toArray⟩) = decide (key ∈ l) := by
      rw [Bool.eq_iff_iff, decide_eq_true_iff, decide_eq_true_iff]
      constructor
      · rintro ⟨hlt, he⟩
        rw [List.getD_eq_getElem?_getD, List.getElem?_eq_getElem hlt] at he
        simp at he
        rw [← he]
        exact List.getElem_mem hlt
      · intro hm
        obtain ⟨t, ht, rfl⟩ := List.mem_iff_getElem.1 hm
        have : t = k0 := by
          rcases Nat.lt_trichotomy t k0 with h | h | h
          · exact absurd (h1 t ht h) (List.lt_irrefl _)
          · exact h
          · exact absurd (List.pairwise_iff_getElem.1 hs k0 t (by omega) ht h) (h2 k0 (by omega) (Nat.le_refl _))
        subst this
        refine ⟨ht, ?_⟩
        rw [List.getD_eq_getElem?_getD, List.getElem?_eq_getElem ht]
        rfl
    rw [hd]

structure KeepG (B : Nat) (w w' : World) : Prop where
  bel : Below B w w'
  blk : ∀ b L t, Blk w b L t → t ≠ 95 → t ≠ 29 → Blk w' b L t
theorem KeepG.own {B : Nat} {w w' : World} (h : KeepG B w w') {base : Nat} {e : TypeId} {k n : Nat} {v : Value} {xs : List Value} (ho : w.ownsRow base e k v n xs) (h1 : e ≠ 95) (h2 : e ≠ 29) : w'.ownsRow base e k v n xs := by
  refine ⟨ho.1, ?_⟩
  rcases ho.2 with h0 | ⟨g, cap, cur, hv, hb, hg, hr⟩
  · exact .inl h0
  · refine .inr ⟨g, cap, cur, hv, hb, ?_, hr⟩
    have := h.blk g cur.toList e hg h1 h2
    unfold Blk at this
    simpa using this
theorem KeepG.trans {B : Nat} {a b c : World} (h : KeepG B a b) (k : KeepG B b c) : KeepG B a c := ⟨h.bel.trans k.bel, fun x L t hx h1 h2 => k.blk x L t (h.blk x L t hx h1 h2) h1 h2⟩

structure GoneSt (B bl bg : Nat) (w : World) (l : List RKey) (gs : List RGo) : Prop where
  var : ∃ sv, Blk w bl [sv] 89 ∧ w.ownsRow 0 9 1 sv l.length (l.map eS)
  gone : ∃ gv, Blk w bg [gv] 29 ∧ w.ownsRow B 95 3 gv gs.length (gs.flatMap encGo)

set_option maxRecDepth 100000 in
set_option maxHeartbeats 1500000 in
theorem forgetC_any (w : World) (B bl bg : Nat) (l : List RKey) (gs : List RGo) (x : RIt) (h : GoneSt B bl bg w l gs) (hl : l.length ≤ 1000000) (hs : l.Pairwise fun a b => a < b) (hg : gs.length ≤ 1000000) (hB : B ≤ w.heap.size) (hbg : B ≤ bg) :
    Calls Tryz.prog 101 #[itV x, .pointer (some ⟨bl, 0, none⟩), .pointer (some ⟨bg, 0, none⟩)] w fun e w' => e = .returned (.bool (decide (x.key ∈ l))) ∧ GoneSt B bl bg w' l (if x.key ∈ l then gs ++ [goneOf x] else gs) ∧ KeepG B w w' := by
  obtain ⟨⟨sv, hk1, ho1⟩, ⟨gv, hk2, ho2⟩⟩ := h
  obtain ⟨sa, sc, rfl⟩ := own_shape ho1
  obtain ⟨ga, gc, rfl⟩ := own_shape ho2
  obtain ⟨w1, hw1⟩ : ∃ w1, w1 = w.alloc (.cells #[.string ⟨x.key.toArray⟩, .int .i64 x.dev, .int .i64 x.seq, .int .i64 x.val] 50) := ⟨_, rfl⟩
  have hb1 : Below w.heap.size w w1 := by rw [hw1]; exact kept_alloc _ _
  have kx : Blk w1 w.heap.size [.string ⟨x.key.toArray⟩, .int .i64 x.dev, .int .i64 x.seq, .int .i64 x.val] 50 := by rw [hw1]; exact Blk.new _ _ _
  have HS := Lib.hid (bsearchS_any w1 _ (.slice sa l.length sc) l x.key (Rows.of_owns (own_below ho1 hb1)) hl hs)
  have c0 : w1.cell? ⟨bl, 0, none⟩ = some (.slice sa l.length sc) := by simpa using (hk1.keep (hb1.block _ hk1.lt)).cell 0
  obtain ⟨x0, x1, x2, x3⟩ := cell4 kx
  have Hw1 := Lib.hid hw1; have Hb1 := Lib.hid hb1; have Hk1 := Lib.hid hk1; have Ho1 := Lib.hid ho1; have Hk2 := Lib.hid hk2; have Ho2 := Lib.hid ho2; have Kx := Lib.hid kx
  rw [hw1] at c0 x0 x1 x2 x3
  clear hw1 hb1 hk1 ho1 hk2 ho2 kx
  unfold itV
  go_enter Tryz.func101, Tryz.ntmps101
  go_wp2_with fail
  rw [← Hw1.out]
  refine HS.out.mono ?_
  rintro e w2 ⟨⟨i, rfl⟩, q, rfl⟩
  obtain ⟨w2, hw2⟩ : ∃ w2, w2 = w1.drewN q := ⟨_, rfl⟩
  rw [← hw2]
  have hb2 : Below w.heap.size w w2 := by rw [hw2]; exact kept_drewN Hb1.out _
  have kx2 : Blk w2 w.heap.size [.string ⟨x.key.toArray⟩, .int .i64 x.dev, .int .i64 x.seq, .int .i64 x.val] 50 := by rw [hw2]; exact Kx.out.drewN _
  have hz2 : w.heap.size < w2.heap.size := kx2.lt
  have Hb2 := Lib.hid hb2; have Kx2 := Lib.hid kx2
  clear hw2 HS c0 x0 x1 x2 x3
  by_cases hm : x.key ∈ l
  · have hd : decide (x.key ∈ l) = true := decide_eq_true hm
    rw [hd]
    obtain ⟨x0, x1, x2, x3⟩ := cell4 kx2
    have ho2 := own_below Ho2.out hb2
    have kg2 := Hk2.out.keep (hb2.block _ Hk2.out.lt)
    have g0 : w2.cell? ⟨bg, 0, none⟩ = some (.slice ga gs.length gc) := by simpa using kg2.cell 0
    obtain ⟨i0, t1, t2, t3, t4⟩ := info_parts infoGoP
    have hB2 : B ≤ w2.heap.size := Nat.le_trans hB hb2.size
    obtain ⟨v5, w5, hr5, hown5, hg5⟩ := run_append_one (P := Tryz.prog) w2 B 29 95 Tryz.underlying29 t1 t2 t3 t4 rfl (by decide) (.slice ga gs.length gc) gs.length _ ho2 #[.string ⟨x.key.toArray⟩, .int .i64 x.dev, .int .i64 x.seq] rfl (by simp [Value.oneCell']) (by unfold maxLen; omega) (by omega) hB2
    obtain ⟨a5, c5, rfl⟩ := own_shape hown5
    have hoA := own_below ho2 (kept_alloc w2 (.cells #[.string ⟨x.key.toArray⟩, .int .i64 x.dev, .int .i64 x.seq] 95))
    have kg5 := (kg2.alloc (.cells #[.string ⟨x.key.toArray⟩, .int .i64 x.dev, .int .i64 x.seq] 95)).grownNe hoA (by decide) hg5
    have g5 : w5.cell? ⟨bg, 0, none⟩ = some (.slice ga gs.length gc) := by simpa using kg5.cell 0
    have f5 := kg5.free 0
    obtain ⟨w6, hw6⟩ : ∃ w6, w6 = w5.setCell ⟨bg, 0, none⟩ (.slice a5 (gs.length + 1) c5) := ⟨_, rfl⟩
    have hb5 : Below B w w5 := (hb2.mono hB).trans (((Below.refl B w2).alloc hB2 _).trans (Below.grownOwn hoA hg5 (by simp; omega) (Nat.le_refl _)))
    have HK := Lib.hid (show KeepG B w w6 from ⟨by rw [hw6]; exact hb5.setCell hbg _, fun b L t hb ht1 ht2 => by
      have hb' := ((hb.keep (hb2.block b hb.lt)).alloc (.cells #[.string ⟨x.key.toArray⟩, .int .i64 x.dev, .int .i64 x.seq] 95)).grownNe hoA (Ne.symm ht1) hg5
      rw [hw6]
      exact hb'.set_other _ (hb'.ne kg5 ht2)⟩)
    have Hst := Lib.hid (show GoneSt B bl bg w6 l (gs ++ [goneOf x]) from ⟨⟨_, HK.out.blk _ _ _ Hk1.out (by decide) (by decide), HK.out.own Ho1.out (by decide) (by decide)⟩, ⟨.slice a5 (gs.length + 1) c5, by rw [hw6]; exact kg5.set 0 _, by
      rw [hw6, List.length_append, flat_snoc]
      exact own_setCell hown5 kg5 (by decide) _⟩⟩)
    have Hw6 := Lib.hid hw6
    clear hd ho2 kg2 hown5 hg5 hoA kg5 hb5 hw6 hb2 kx2 t1 t2 t3 t4
    go_wp2_with fail
    rw [← Hw6.out]
    go_ret
    exact ⟨rfl, Hst.out, HK.out⟩
  · have hd : decide (x.key ∈ l) = false := decide_eq_false hm
    rw [hd]
    clear hd hb2 kx2
    go_wp2_with fail
    go_ret
    exact ⟨rfl, ⟨⟨_, Hk1.out.keep (Hb2.out.block _ Hk1.out.lt), own_below Ho1.out Hb2.out⟩, ⟨_, Hk2.out.keep (Hb2.out.block _ Hk2.out.lt), own_below Ho2.out Hb2.out⟩⟩, Hb2.out.mono hB, fun b L t hb _ _ => hb.keep (Hb2.out.block b hb.lt)⟩
end Go.Proofs.YtelphnigdancpaaGreatDoor
