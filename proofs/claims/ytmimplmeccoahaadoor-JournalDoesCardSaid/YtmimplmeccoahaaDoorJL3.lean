/- The first examples of the chapter: works. -/
import Derived.Test.YtmimplmeccoahaaDoorJL2
import Derived.Test.YtmimplmeccoahaaDoorMk
import Derived.Lib.SlBytesConst
namespace Go.Proofs.YtmimplmeccoahaaDoor
open Go.RowKit
set_option linter.unusedVariables false
set_option maxRecDepth 20000
attribute [local go_sem ↓] seal_make_bytes

theorem run_conv_const (w : World) (C : Array Value) (n c : Nat) : (convert 30 30 (.slice (some ⟨w.heap.size, 0, none⟩) n c)).run Tryd.prog (w.alloc (.cells C 5)) = .ok (.slice (some ⟨w.heap.size, 0, none⟩) n c) (w.alloc (.cells C 5 (C.size, C.size + 1))) :=
  Lib.run_convert_bytes_const w _ _ C n c Tryd.underlying30 Tryd.underlying5
attribute [local go_sem] run_conv_const
theorem bytes_const (w : World) (l : List UInt8) (C : Array Value) (hC : C = (l.map B).toArray) (n : Nat) (hn : n = l.length) (hl : l.length ≤ 1000) (t : TypeId) (fz : Nat × Nat) : Bytes (fun b => b = w.heap.size) (w.alloc (.cells C t fz)) (.slice (some ⟨w.heap.size, 0, none⟩) n n) l := by
  subst hC hn
  refine ⟨_, _, rfl, Nat.le_refl _, by unfold maxLen; omega, nofun, ?_⟩
  exact .inr ⟨w.heap.size, 0, (l.map B).toArray, t, fz, rfl, rfl, by unfold World.alloc; simp, by simp, fun i hi => by simp [List.getElem?_eq_getElem hi]⟩
theorem Below.drewN' {B0 : Nat} {a w : World} (h : Below B0 a w) (n : Nat) : Below B0 a (w.drewN n) := ⟨h.os, h.tape, h.output, h.size, h.block⟩

theorem rowsAt_two {R : Blks} {w : World} {x0 x1 : Value} {l0 l1 : List UInt8} (h0 : Bytes R w x0 l0) (h1 : Bytes R w x1 l1) (hR : ∀ b, R b → b < w.heap.size) :
    RowsAt R (w.alloc (.cells #[x0, x1] 30)) (.slice (some ⟨w.heap.size, 0, none⟩) 2 2) [l0, l1] := by
  have hk : ∀ b, R b → b < w.heap.size → (w.alloc (.cells #[x0, x1] 30)).heap[b]? = w.heap[b]? := fun b _ hlt => (kept_alloc w _).block b hlt
  refine ⟨_, 2, rfl, .inr ⟨w.heap.size, rfl, by simp, fun i hi => ?_⟩⟩
  have hb := Blk.new w #[x0, x1] 30
  have : i = 0 ∨ i = 1 := by simp at hi; omega
  rcases this with rfl | rfl
  · exact ⟨x0, by simp [hb.cell 0], h0.keep hk⟩
  · exact ⟨x1, by simp [hb.cell 1], h1.keep hk⟩
theorem rowsAt_one {R : Blks} {w : World} {x0 : Value} {l0 : List UInt8} (h0 : Bytes R w x0 l0) (hR : ∀ b, R b → b < w.heap.size) :
    RowsAt R (w.alloc (.cells #[x0] 30)) (.slice (some ⟨w.heap.size, 0, none⟩) 1 1) [l0] := by
  have hk : ∀ b, R b → b < w.heap.size → (w.alloc (.cells #[x0] 30)).heap[b]? = w.heap[b]? := fun b _ hlt => (kept_alloc w _).block b hlt
  refine ⟨_, 1, rfl, .inr ⟨w.heap.size, rfl, by simp, fun i hi => ?_⟩⟩
  have hb := Blk.new w #[x0] 30
  have : i = 0 := by simp at hi; omega
  subst this
  exact ⟨x0, by simp [hb.cell 0], h0.keep hk⟩
theorem bytes_empty (F : Blks) (w : World) (a : Option Addr) : Bytes F w (.slice a 0 0) [] := ⟨a, 0, rfl, Nat.le_refl _, by unfold maxLen; omega, fun _ => rfl, .inl rfl⟩
theorem RowsAt.kept {R : Blks} {w w' : World} {v : Value} {S : List (List UInt8)} (h : RowsAt R w v S) (hb : Below w.heap.size w w') : RowsAt R w' v S := by
  obtain ⟨a, cap, rfl, h⟩ := h
  refine ⟨a, cap, rfl, ?_⟩
  rcases h with h | ⟨g, rfl, hg, h⟩
  · exact .inl h
  · refine .inr ⟨g, rfl, Nat.lt_of_lt_of_le hg hb.size, fun i hi => ?_⟩
    obtain ⟨x, hx, hbx⟩ := h i hi
    refine ⟨x, ?_, hbx.keep fun b _ hlt => hb.block b hlt⟩
    unfold World.cell? at *
    rw [show w'.heap[(⟨g, i, none⟩ : Addr).block]? = w.heap[(⟨g, i, none⟩ : Addr).block]? from hb.block g hg]
    exact hx

/-- the same, its blocks not named -/
def UpW (w : World) (lo j d n g : Nat) (L : List (List UInt8)) (c : Nat) : Prop := ∃ jk : JK, jk.j = j ∧ jk.K.d = d ∧ UpJ w lo jk n g L c
theorem UpW.kept {w w' : World} {lo j d n g : Nat} {L : List (List UInt8)} {c : Nat} (h : UpW w lo j d n g L c) (hb : Below w.heap.size w w') : UpW w' lo j d n g L c := by
  obtain ⟨jk, h1, h2, h⟩ := h
  exact ⟨jk, h1, h2, h.kept hb⟩

theorem append_W (w0 w : World) (lo j d n g : Nat) (L : List (List UInt8)) (c : Nat) (h : UpW w0 lo j d n g L c) (hb : Below w0.heap.size w0 w) (hq : Quarter w) (F : Blks) (v : Value) (l : List UInt8) (hv : Bytes F w v l) (hF : ∀ b, F b → (b < lo ∨ w0.heap.size ≤ b) ∧ b < w.heap.size) (hc : c + 70000 < 4611686018427387904) (hl : l.length ≤ 65536) :
    Calls Tryd.prog 16 #[.pointer (some ⟨j, 0, none⟩), v] w fun e w' => e = .returned (.int .i64 (if takenL L + takes l.length ≤ halfN n then 0 else 7)) ∧
      UpW w' lo j d n g (if takenL L + takes l.length ≤ halfN n then L ++ [l] else L) (c + 70000) ∧ Below lo w w' := by
  obtain ⟨jk, rfl, rfl, h⟩ := h
  refine (append_up w lo jk n g L c (h.kept hb) hq F v l hv (fun b hf => ⟨(hF b hf).2, fun hh => ?_⟩) hc hl).mono ?_
  · have := h.lt b hh
    have := h.2.1 b hh
    rcases (hF b hf).1 with h | h <;> omega
  · rintro e w' ⟨rfl, jk', h1, h2, h3, h4⟩
    exact ⟨rfl, ⟨jk', h1, h2, h3⟩, h4⟩
theorem replace_W (w0 w : World) (lo j d n g : Nat) (L : List (List UInt8)) (c : Nat) (h : UpW w0 lo j d n g L c) (hb : Below w0.heap.size w0 w) (hq : Quarter w) (F : Blks) (v : Value) (l : List UInt8) (hv : Bytes F w v l) (hF : ∀ b, F b → (b < lo ∨ w0.heap.size ≤ b) ∧ b < w.heap.size) (hc : c + 70000 < 4611686018427387904) (hl : l.length ≤ 65536) (hg : g < 4294967295) :
    Calls Tryd.prog 15 #[.pointer (some ⟨j, 0, none⟩), v] w fun e w' => e = .returned (.int .i64 (if takes l.length ≤ halfN n then 0 else 7)) ∧
      UpW w' lo j d n (if takes l.length ≤ halfN n then g + 1 else g) (if takes l.length ≤ halfN n then [l] else L) (c + 70000) ∧ Below lo w w' := by
  obtain ⟨jk, rfl, rfl, h⟩ := h
  refine (replace_up w lo jk n g L c (h.kept hb) hq F v l hv (fun b hf => ⟨(hF b hf).2, fun hh => ?_⟩) hc hl hg).mono ?_
  · have := h.lt b hh
    have := h.2.1 b hh
    rcases (hF b hf).1 with h | h <;> omega
  · rintro e w' ⟨rfl, jk', h1, h2, h3, h4⟩
    exact ⟨rfl, ⟨jk', h1, h2, h3⟩, h4⟩
theorem room_W (w : World) (lo j d n g : Nat) (L : List (List UInt8)) (c : Nat) (h : UpW w lo j d n g L c) :
    Calls Tryd.prog 17 #[.pointer (some ⟨j, 0, none⟩)] w fun e w' => e = .returned (.int .i64 (roomV n L)) ∧ UpW w' lo j d n g L c ∧ Below w.heap.size w w' := by
  obtain ⟨jk, rfl, rfl, h⟩ := h
  refine (room_up w lo jk n g L c h).mono ?_
  rintro e w' ⟨rfl, m, rfl⟩
  exact ⟨rfl, ⟨jk, rfl, rfl, h.keep (fun _ _ => rfl) (Nat.le_refl _)⟩, Below.drewN' (Below.refl _ _) m⟩
theorem records_W (w : World) (lo j d n g : Nat) (L : List (List UInt8)) (c : Nat) (h : UpW w lo j d n g L c) :
    Calls Tryd.prog 18 #[.pointer (some ⟨j, 0, none⟩)] w fun e w' => ∃ r R', e = .returned r ∧ RowsIn R' w' w.heap.size r L ∧ (∀ b, R' b → w.heap.size ≤ b ∧ b < w'.heap.size) ∧ UpW w' lo j d n g L c ∧ Below w.heap.size w w' := by
  obtain ⟨jk, rfl, rfl, h⟩ := h
  refine (records_up w lo jk n g L c h).mono ?_
  rintro e w' ⟨r, R', rfl, h1, h2, h3⟩
  exact ⟨r, R', rfl, h1, h2, ⟨jk, rfl, rfl, h.kept h3⟩, h3⟩
theorem dead_W (w : World) (lo j d n g : Nat) (L : List (List UInt8)) (c : Nat) (h : UpW w lo j d n g L c) :
    Calls Tryd.prog 20 #[.pointer (some ⟨j, 0, none⟩)] w fun e w' => e = .returned (.bool false) ∧ w = w' := by
  obtain ⟨jk, rfl, rfl, h⟩ := h
  exact dead_up w lo jk n g L c h
theorem UpW.taken {w : World} {lo j d n g : Nat} {L : List (List UInt8)} {c : Nat} (h : UpW w lo j d n g L c) : takenL L ≤ halfN n ∧ n ≤ 65536 := by
  obtain ⟨jk, _, _, h⟩ := h
  exact h.taken
theorem UpW.lo_lt {w : World} {lo j d n g : Nat} {L : List (List UInt8)} {c : Nat} (h : UpW w lo j d n g L c) : lo < w.heap.size := by
  obtain ⟨jk, _, _, h⟩ := h
  exact h.lo_lt
theorem fresh_W (w : World) (n : Nat) (h8 : 8 ≤ n) (hn : n ≤ 65536) (hq : Quarter w) :
    Calls Tryd.prog 14 #[.int .i64 (n : Int)] w fun e w' => ∃ j d, e = .returned (.tuple #[.pointer (some ⟨d, 0, none⟩), .pointer (some ⟨j, 0, none⟩)]) ∧ UpW w' w.heap.size j d n 0 [] 70000 ∧ Below w.heap.size w w' := by
  refine (fresh_any w n h8 hn hq).mono ?_
  rintro e w' ⟨jk, rfl, h, hb⟩
  exact ⟨jk.j, jk.K.d, rfl, ⟨jk, rfl, rfl, h⟩, hb⟩

set_option maxHeartbeats 4000000 in
theorem works_any (w : World) (hq : Quarter w) :
    Calls Tryd.prog 13 #[] w fun e w' => e = .returned (.bool true) ∧ Below w.heap.size w w' := by
  have h0 : 0 < w.heap.size := by obtain ⟨t, fz, hh⟩ := hq; exact lt_of_block hh
  have hq' : ∀ {w' : World}, Below w.heap.size w w' → Quarter w' := fun hb => hq.keep (hb.block 0 h0)
  have hfresh := fresh_W w 8 (by omega) (by omega) hq
  rw [show ((8 : Nat) : Int) = 8 from rfl] at hfresh
  go_enter Tryd.func13, Tryd.ntmps13
  go_wp2_with fail
  refine hfresh.mono ?_
  rintro e w1 ⟨j, d, rfl, hU1, hb1⟩
  clear hfresh
  go_wp2_with fail
  refine (room_W w1 _ _ _ _ _ _ _ hU1).mono ?_
  rintro e w2 ⟨rfl, hU2, hb2⟩
  have hb2 := kept_trans hb1 hb2
  clear hU1 hb1
  rw [show roomV 8 [] = 144 from by decide]
  go_wp2_with fail
  have k3 := kept_alloc w2 (.cells #[.int .u8 97, .int .u8 98] 5 (2, 3))
  have v3 := bytes_const w2 [97, 98] #[.int .u8 97, .int .u8 98] rfl 2 rfl (by simp) 5 (2, 3)
  refine (append_W w2 _ _ _ _ _ _ _ _ hU2 k3 (hq' (kept_trans hb2 k3)) _ _ _ v3 (fun b e => by rw [e]; simp) (by omega) (by simp)).mono ?_
  rintro e w4 ⟨rfl, hU4, hb4⟩
  have hb4 : Below w.heap.size w w4 := (kept_trans hb2 k3).trans hb4
  rw [show (if takenL [] + takes ([97, 98] : List UInt8).length ≤ halfN 8 then (0 : Int) else 7) = 0 from by decide]
  rw [if_pos (by decide)] at hU4
  clear hU2 hb2 k3 v3
  go_wp2_with fail
  refine (append_W w4 w4 _ _ _ _ _ _ _ hU4 (Below.refl _ _) (hq' hb4) none_ _ _ (bytes_empty none_ w4 none) (fun b e => e.elim) (by omega) (by simp)).mono ?_
  rintro e w5 ⟨rfl, hU5, hb5⟩
  have hb5 : Below w.heap.size w w5 := hb4.trans hb5
  rw [show (if takenL ([] ++ [[97, 98]]) + takes ([] : List UInt8).length ≤ halfN 8 then (0 : Int) else 7) = 0 from by decide]
  rw [if_pos (by decide)] at hU5
  clear hU4 hb4
  go_wp2_with fail
  refine (records_W w5 _ _ _ _ _ _ _ hU5).mono ?_
  rintro e w6 ⟨r, R6, rfl, hr6, hR6, hU6, hb6⟩
  have hb6 := kept_trans hb5 hb6
  clear hU5 hb5
  go_wp2_with fail
  have k7 : Below w6.heap.size w6 (((w6.alloc (.cells #[.int .u8 97, .int .u8 98] 5 (2, 3))).alloc (.cells #[] 5)).alloc (.cells #[.slice (some ⟨w6.heap.size, 0, none⟩) 2 2, .slice (some ⟨w6.heap.size + 1, 0, none⟩) 0 0] 30)) :=
    ((kept_alloc w6 _).alloc (by simp) _).alloc (by simp; omega) _
  have v7 := (bytes_const w6 [97, 98] #[.int .u8 97, .int .u8 98] rfl 2 rfl (by simp) 5 (2, 3)).keep (w' := (w6.alloc (.cells #[.int .u8 97, .int .u8 98] 5 (2, 3))).alloc (.cells #[] 5)) (fun b _ hlt => (kept_alloc _ _).block b hlt)
  have r7 := rowsAt_two (l0 := [97, 98]) (l1 := []) v7 (bytes_empty _ _ (some ⟨w6.heap.size + 1, 0, none⟩)) (fun b e => by rw [e]; simp; omega)
  rw [show ((w6.alloc (.cells #[.int .u8 97, .int .u8 98] 5 (2, 3))).alloc (.cells #[] 5)).heap.size = w6.heap.size + 1 + 1 from by simp] at r7
  refine (equal_any _ _ _ _ _ _ _ (hr6.at.kept k7) r7 (by simp) (by simp)).mono ?_
  rintro e w8 ⟨rfl, m, hw8⟩
  have k8 : Below w6.heap.size w6 w8 := by rw [← hw8]; exact Below.drewN' k7 m
  have hU8 := hU6.kept k8
  have hb8 := kept_trans hb6 k8
  rw [show decide (([] : List (List UInt8)) ++ [[97, 98]] ++ [[]] = [[97, 98], []]) = true from by decide]
  clear hw8 k7 v7 r7 hr6 hR6 hU6 hb6 k8
  go_wp2_with fail
  refine (room_W w8 _ _ _ _ _ _ _ hU8).mono ?_
  rintro e w9 ⟨rfl, hU9, hb9⟩
  have hb9 := kept_trans hb8 hb9
  clear hU8 hb8
  rw [show roomV 8 ([] ++ [[97, 98]] ++ [[]]) = 48 from by decide]
  obtain ⟨w10, hmk, hblk, hb10⟩ := run_make_bytes w9 49 (by omega)
  rw [show ((49 : Nat) : Int) = 49 from rfl] at hmk
  go_wp2_with fail
  have v10 : Bytes (fun b => b = w9.heap.size) w10 (.slice (some ⟨w9.heap.size, 0, none⟩) 49 49) (List.replicate 49 0) := bytes_of_blk (l := List.replicate 49 0) (t := 5) (by simpa using hblk) (by unfold maxLen; simp) _ rfl
  refine (append_W w9 w10 _ _ _ _ _ _ _ hU9 hb10 (hq' (kept_trans hb9 hb10)) _ _ _ v10 (fun b e => by rw [e]; exact ⟨.inr (Nat.le_refl _), hblk.lt⟩) (by omega) (by simp)).mono ?_
  rintro e w11 ⟨rfl, hU11, hb11⟩
  have hb11 : Below w.heap.size w w11 := (kept_trans hb9 hb10).trans hb11
  rw [show (if takenL ([] ++ [[97, 98]] ++ [[]]) + takes (List.replicate 49 (0 : UInt8)).length ≤ halfN 8 then (0 : Int) else 7) = 7 from by decide]
  rw [if_neg (by decide)] at hU11
  clear hU9 hb9 hmk hblk v10
  obtain ⟨w12, hmk, hblk, hb12⟩ := run_make_bytes w11 145 (by omega)
  rw [show ((145 : Nat) : Int) = 145 from rfl] at hmk
  go_wp2_with fail
  have v12 : Bytes (fun b => b = w11.heap.size) w12 (.slice (some ⟨w11.heap.size, 0, none⟩) 145 145) (List.replicate 145 0) := bytes_of_blk (l := List.replicate 145 0) (t := 5) (by simpa using hblk) (by unfold maxLen; simp) _ rfl
  refine (replace_W w11 w12 _ _ _ _ _ _ _ hU11 hb12 (hq' (kept_trans hb11 hb12)) _ _ _ v12 (fun b e => by rw [e]; exact ⟨.inr (Nat.le_refl _), hblk.lt⟩) (by omega) (by simp) (by omega)).mono ?_
  rintro e w13 ⟨rfl, hU13, hb13⟩
  have hb13 : Below w.heap.size w w13 := (kept_trans hb11 hb12).trans hb13
  rw [show (if takes (List.replicate 145 (0 : UInt8)).length ≤ halfN 8 then (0 : Int) else 7) = 7 from by decide]
  rw [if_neg (by decide), if_neg (by decide)] at hU13
  clear hU11 hb11 hmk hblk v12
  go_wp2_with fail
  have k14 := kept_alloc w13 (.cells #[.int .u8 120] 5 (1, 2))
  have v14 := bytes_const w13 [120] #[.int .u8 120] rfl 1 rfl (by simp) 5 (1, 2)
  refine (replace_W w13 _ _ _ _ _ _ _ _ hU13 k14 (hq' (kept_trans hb13 k14)) _ _ _ v14 (fun b e => by rw [e]; simp) (by omega) (by simp) (by omega)).mono ?_
  rintro e w14 ⟨rfl, hU14, hb14⟩
  have hb14 : Below w.heap.size w w14 := (kept_trans hb13 k14).trans hb14
  rw [show (if takes ([120] : List UInt8).length ≤ halfN 8 then (0 : Int) else 7) = 0 from by decide]
  rw [if_pos (by decide), if_pos (by decide)] at hU14
  clear hU13 hb13 k14 v14
  go_wp2_with fail
  refine (records_W w14 _ _ _ _ _ _ _ hU14).mono ?_
  rintro e w15 ⟨r2, R15, rfl, hr15, hR15, hU15, hb15⟩
  have hb15 := kept_trans hb14 hb15
  clear hU14 hb14
  go_wp2_with fail
  have k16 : Below w15.heap.size w15 ((w15.alloc (.cells #[.int .u8 120] 5 (1, 2))).alloc (.cells #[.slice (some ⟨w15.heap.size, 0, none⟩) 1 1] 30)) :=
    (kept_alloc w15 _).alloc (by simp) _
  have v16 := bytes_const w15 [120] #[.int .u8 120] rfl 1 rfl (by simp) 5 (1, 2)
  have r16 := rowsAt_one (l0 := [120]) v16 (fun b e => by rw [e]; simp)
  rw [show (w15.alloc (.cells #[.int .u8 120] 5 (1, 2))).heap.size = w15.heap.size + 1 from by simp] at r16
  refine (equal_any _ _ _ _ _ _ _ (hr15.at.kept k16) r16 (by simp) (by simp)).mono ?_
  rintro e w17 ⟨rfl, m2, hw17⟩
  have k17 : Below w15.heap.size w15 w17 := by rw [← hw17]; exact Below.drewN' k16 m2
  have hU17 := hU15.kept k17
  have hb17 := kept_trans hb15 k17
  rw [show decide (([[120]] : List (List UInt8)) = [[120]]) = true from by decide]
  clear hw17 k16 v16 r16 hr15 hR15 hU15 hb15 k17
  go_wp2_with fail
  refine (room_W w17 _ _ _ _ _ _ _ hU17).mono ?_
  rintro e w18 ⟨rfl, hU18, hb18⟩
  have hb18 := kept_trans hb17 hb18
  rw [show roomV 8 [[120]] = 96 from by decide]
  clear hU17 hb17
  go_wp2_with fail
  refine (dead_W w18 _ _ _ _ _ _ _ hU18).mono ?_
  rintro e w' ⟨rfl, rfl⟩
  go_wp2_with fail
  go_ret
  exact ⟨rfl, hb18⟩
end Go.Proofs.YtmimplmeccoahaaDoor
