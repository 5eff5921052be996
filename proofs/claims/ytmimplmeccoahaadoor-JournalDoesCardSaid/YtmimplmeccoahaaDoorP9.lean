/- The acts of a pair that write records. -/
import Derived.Test.YtmimplmeccoahaaDoorP7
namespace Go.Proofs.YtmimplmeccoahaaDoor
open Go.RowKit
set_option linter.unusedVariables false
set_option maxRecDepth 20000
attribute [local go_sem] opC upC
attribute [local go_sem ↓] seal_append

/-- x is a slice of n bytes in a block of N that may be written -/
def Plain (N : Blks) (w : World) (x : Value) (n : Nat) : Prop :=
  ∃ a cap, x = .slice a n cap ∧ (n = 0 ∨ ∃ b off L, a = some ⟨b, off, none⟩ ∧ N b ∧ Blk w b L 5 ∧ ∀ j, j < n → ∃ c : UInt8, L[off + j]? = some (B c))
theorem Plain.keep {N : Blks} {w w' : World} {x : Value} {n : Nat} (h : Plain N w x n) (hk : ∀ b, N b → b < w.heap.size → w'.heap[b]? = w.heap[b]?) : Plain N w' x n := by
  obtain ⟨a, cap, rfl, h⟩ := h
  refine ⟨a, cap, rfl, h.imp id ?_⟩
  rintro ⟨b, off, L, rfl, hN, hb, hc⟩
  exact ⟨b, off, L, rfl, hN, hb.keep (hk b hN hb.lt), hc⟩
/-- a byte is written into some plain block -/
theorem Plain.set {N : Blks} {w : World} {x : Value} {n : Nat} (h : Plain N w x n) (b i : Nat) (c : UInt8) : Plain N (w.setCell ⟨b, i, none⟩ (B c)) x n := by
  obtain ⟨a, cap, rfl, h⟩ := h
  refine ⟨a, cap, rfl, h.imp id ?_⟩
  rintro ⟨b', off, L, rfl, hN, hb, hc⟩
  by_cases he : b' = b
  · subst he
    refine ⟨b', off, _, rfl, hN, hb.set i (B c), fun j hj => ?_⟩
    obtain ⟨d, hd⟩ := hc j hj
    by_cases hij : i = off + j
    · subst hij
      exact ⟨c, by rw [List.getElem?_set_self (List.getElem?_eq_some_iff.1 hd).1]⟩
    · exact ⟨d, by rw [List.getElem?_set_ne hij]; exact hd⟩
  · exact ⟨b', off, L, rfl, hN, hb.set_other (B c) he, hc⟩
theorem Plain.of_owns {w : World} {lo : Nat} {v : Value} {l : List UInt8} (h : w.ownsRow lo 5 1 v l.length (l.map B)) : Plain (fun b => lo ≤ b ∧ b < w.heap.size) w v l.length := by
  rcases h.2 with ⟨rfl, h0⟩ | ⟨g, cap, cur, rfl, hb, hg, hc, hm, hs, ht⟩
  · exact ⟨none, 0, by rw [h0], .inl h0⟩
  · refine ⟨_, cap, rfl, .inr ⟨g, 0, cur.toList, rfl, ⟨hb, lt_of_block hg⟩, by unfold Blk; simpa using hg, fun j hj => ⟨l[j], ?_⟩⟩⟩
    have : (cur.toList.take (l.length * 1))[j]? = (l.map B)[j]? := by rw [ht]
    rw [List.getElem?_take, if_pos (by omega)] at this
    simpa [List.getElem?_eq_getElem hj] using this
theorem Plain.less {N : Blks} {w : World} {a : Option Addr} {cap n : Nat} (h : Plain N w (.slice a n cap) n) (m : Nat) (hm : m ≤ n) : Plain N w (.slice a m cap) m := by
  obtain ⟨a', cap', he, h⟩ := h
  simp at he
  obtain ⟨rfl, rfl⟩ := he
  refine ⟨a, cap, rfl, ?_⟩
  rcases h with h | ⟨b, off, L, rfl, hN, hb, hc⟩
  · exact .inl (by omega)
  · exact .inr ⟨b, off, L, rfl, hN, hb, fun j hj => hc j (by omega)⟩
/-- the byte that is counted up -/
theorem Plain.at {N : Blks} {w : World} {a : Option Addr} {cap n : Nat} (h : Plain N w (.slice a n cap) n) (k : Nat) (hk : k < n) :
    ∃ b off, a = some ⟨b, off, none⟩ ∧ N b ∧ b < w.heap.size ∧ ∃ c : UInt8, w.cell? ⟨b, off + k, none⟩ = some (.int .u8 (c.toNat : Int)) ∧ w.frozen? ⟨b, off + k, none⟩ = false := by
  obtain ⟨a', cap', he, h⟩ := h
  simp at he
  obtain ⟨rfl, rfl⟩ := he
  rcases h with h | ⟨b, off, L, rfl, hN, hb, hc⟩
  · omega
  · obtain ⟨c, hcc⟩ := hc k hk
    exact ⟨b, off, rfl, hN, hb.lt, c, by rw [hb.cell, hcc]; rfl, hb.free _⟩
theorem u8_next (c : UInt8) : B (UInt8.ofNat (c.toNat + 1)) = .int .u8 (IntKind.u8.wrap ((c.toNat : Int) + 1)) := by
  rw [B_ofNat]
  congr 1



set_option maxRecDepth 100000 in
set_option maxHeartbeats 1500000 in
theorem pact_replace (w : World) (p lo n c : Nat) (M : MD) (o : Option MJ) (hP : PairX w p lo M o) (hn : M.S.length = n) (hc : M.writes ≤ c) (hcw : c + 65536 < 4611686018427387904) (hq : Quarter w) (kind an am : Int) (v : Value) (l : List UInt8) (G : Blks) (hB : Bytes G w v l) (hG : ∀ b, G b → b < lo) (hl : l.length ≤ 3000) (hkd : 0 ≤ kind ∧ kind ≤ 255) (hk3 : kind % 8 = 3) :
    Calls Tryd.prog 40 #[.pointer (some ⟨p, 0, none⟩), .agg #[.int .u8 kind, .int .u16 an, .int .u16 am, v]] w (ActPost w p lo n c) := by
  obtain ⟨k, hk⟩ := hP
  have h2 := hk.two
  have HkF := Lib.hid h2.fF; have HkG := Lib.hid h2.fG
  have hlo := h2.size
  have hpos := h2.pos
  have hplo := h2.lo_p
  have hplt := h2.blk.lt
  have hh0 : 0 < w.heap.size := by omega
  obtain ⟨box, hbox⟩ : ∃ box : Obj, box = .cells #[.int .u8 kind, .int .u16 an, .int .u16 am, v] 32 := ⟨_, rfl⟩
  have hb1 : Below w.heap.size w (w.alloc box) := kept_alloc _ _
  have hbb : Blk (w.alloc box) w.heap.size [.int .u8 kind, .int .u16 an, .int .u16 am, v] 32 := by rw [hbox]; exact Blk.new w _ _
  have hz1 : (w.alloc box).heap.size = w.heap.size + 1 := by simp
  have hBl : Bytes (fun b => b < lo) w v l := hB.mono hG
  have hB1 : Bytes (fun b => b < lo) (w.alloc box) v l := hBl.keep fun b hb hlt => hb1.block b hlt
  obtain ⟨xa, xc, w2, hcl, hown2, hk2, hg2, hby2⟩ := run_clone (w.alloc box) _ v l hB1 (by omega)
  have x3' : ((w.alloc box).alloc (.cells #[] 5)).cell? ⟨w.heap.size, 3, none⟩ = some v := by
    have := (hbb.alloc (.cells #[] 5)).cell 3
    simpa using this
  rw [hz1] at hcl
  have hb2 : Below w.heap.size w w2 := hb1.trans (hk2.mono (by omega))
  have hbb2 : Blk w2 w.heap.size _ _ := hbb.keep (hk2.block _ (by omega))
  have y0 : w2.cell? ⟨w.heap.size, 0, none⟩ = some (.int .u8 kind) := by simpa using hbb2.cell 0
  have y1 : w2.cell? ⟨w.heap.size, 1, none⟩ = some (.int .u16 an) := by simpa using hbb2.cell 1
  have y2 : w2.cell? ⟨w.heap.size, 2, none⟩ = some (.int .u16 am) := by simpa using hbb2.cell 2
  have y3 : w2.cell? ⟨w.heap.size, 3, none⟩ = some v := by simpa using hbb2.cell 3
  have hz2 : w.heap.size + 1 ≤ w2.heap.size := by have := hk2.size; omega
  have hp2 := h2.kept hb2
  have hq2 : Quarter w2 := hq.keep (hb2.block 0 hh0)
  have hB2 : Bytes (fun b => b < lo) w2 v l := hBl.keep fun b hb hlt => hb2.block b hlt
  obtain ⟨va, vc, rfl, -⟩ := id hB
  have Hp2 := Lib.hid hp2; have Hq2 := Lib.hid hq2; have HB2 := Lib.hid hB2; have Hb2 := Lib.hid hb2; have Hz2 := Lib.hid hz2; have Hbb2 := Lib.hid hbb2; have Hby2 := Lib.hid hby2; have Hown2 := Lib.hid hown2; have Hlo := Lib.hid hlo
  clear hp2 hq2 hB2 hb2 hz2 hbb2 hby2 hown2 hlo hk2 hg2 hB1 hBl hbb hb1 h2 hk hz1
  have hd3 : (kind % 8 == 3) = true := by simp [hk3]
  subst hbox
  cases o with
  | none =>
    have hjv : k.jv = .pointer none := Hp2.out.ps.1
    have hkv : k.kv = .pointer none := Hp2.out.rs.1
    have z1 : w2.cell? ⟨p, 1, none⟩ = some (.pointer none) := by rw [← hjv]; simpa using Hp2.out.blk.cell 1
    have z3 : w2.cell? ⟨p, 3, none⟩ = some (.pointer none) := by rw [← hkv]; simpa using Hp2.out.blk.cell 3
    have HR := Lib.hid (replace_nil w2 (.slice xa l.length xc))
    go_enter Tryd.func40, Tryd.ntmps40
    go_wp2_with fail
    refine HR.out.mono ?_
    rintro e w' ⟨rfl, rfl⟩
    go_wp2_with fail
    go_ret
    exact ⟨rfl, ⟨_, _, ⟨_, Hp2.out.one⟩, hn, by omega⟩, Hb2.out.mono (by have := Hlo.out; omega)⟩
  | some J =>
    obtain ⟨rk, -, hkv, -, -⟩ := Hp2.out.rs
    obtain ⟨jk, -, hjv, -, -⟩ := Hp2.out.ps
    have hsz := replaceM_size M J l hl
    have HRP := rep2P w2.drew p lo k M M J (some J) (Hp2.out.kept (Below.refl _ _).drew) Hq2.out _ (.slice xa l.length xc) l (Hby2.out.keep (w' := w2.drew) fun b _ _ => rfl) (fun b hb => ⟨hb.2.1, fun hx => by have := (HkF.out b hx).2.2.2; have h1 := hb.1; simp at h1; omega⟩) (by omega)
    have z3' : w2.cell? ⟨p, 3, none⟩ = some (.pointer (some ⟨rk.j, 0, none⟩)) := by rw [← hkv]; simpa using Hp2.out.blk.cell 3
    generalize hMM : replaceM M J l = RM at *
    obtain ⟨M', J', r⟩ := RM
    dsimp only at HRP hsz
    have hp2b := Hp2.out.blk
    have hpz : p < w2.heap.size := hp2b.lt
    have hbz : w.heap.size < w2.heap.size := by have := Hz2.out; omega
    have z0 : ∀ w', LaterF (allBut p w.heap.size) w2.drew w' → w'.cell? ⟨p, 0, none⟩ = some (.pointer (some ⟨k.d, 0, none⟩)) := fun w' hh => laterX_cell hh hpz (not_allBut_l _ _) 0 (show w2.cell? _ = _ by simpa using hp2b.cell 0)
    have z1 : ∀ w', LaterF (allBut p w.heap.size) w2.drew w' → w'.cell? ⟨p, 1, none⟩ = some k.jv := fun w' hh => laterX_cell hh hpz (not_allBut_l _ _) 1 (show w2.cell? _ = _ by simpa using hp2b.cell 1)
    have z2 : ∀ w', LaterF (allBut p w.heap.size) w2.drew w' → w'.cell? ⟨p, 2, none⟩ = some (.pointer (some ⟨k.e, 0, none⟩)) := fun w' hh => laterX_cell hh hpz (not_allBut_l _ _) 2 (show w2.cell? _ = _ by simpa using hp2b.cell 2)
    have z3 : ∀ w', LaterF (allBut p w.heap.size) w2.drew w' → w'.cell? ⟨p, 3, none⟩ = some k.kv := fun w' hh => laterX_cell hh hpz (not_allBut_l _ _) 3 (show w2.cell? _ = _ by simpa using hp2b.cell 3)
    have s1 : ∀ w', LaterF (allBut p w.heap.size) w2.drew w' → w'.cell? ⟨w.heap.size, 1, none⟩ = some (.int .u16 an) := fun w' hh => laterX_cell hh hbz (not_allBut_r _ _) 1 y1
    have s2 : ∀ w', LaterF (allBut p w.heap.size) w2.drew w' → w'.cell? ⟨w.heap.size, 2, none⟩ = some (.int .u16 am) := fun w' hh => laterX_cell hh hbz (not_allBut_r _ _) 2 y2
    have s3 : ∀ w', LaterF (allBut p w.heap.size) w2.drew w' → w'.cell? ⟨w.heap.size, 3, none⟩ = some (.slice va l.length vc) := fun w' hh => laterX_cell hh hbz (not_allBut_r _ _) 3 y3
    clear hp2b
    rw [hjv] at z1 HRP
    rw [hkv] at z3
    have HRP := Lib.hid HRP; have HMM := Lib.hid hMM
    clear hMM y1 y2
    go_enter Tryd.func40, Tryd.ntmps40
    go_wp2_with fail
    refine wp_region_can (LaterF (allBut p w.heap.size)) [(0, true), (1, true), (2, true), (3, true), (4, true), (6, true), (7, true), (8, true), (9, true), (10, true), (11, true), (5, false), (12, false), (13, true), (14, true)] (by kernel_rfl) (by kernel_rfl) (laterF_refl _) (laterF_trans _) ?_
    clear hcl x3' y0 y3 z3'
    repeat (first
      | (refine can_yes (v := ?_) rfl (wanted_none rfl) (fun w' hC => ?_) (fun K hK => ?_); rotate_left; (focus (go_simp; first | done | exact rfl)); go_simp; refine hK _ ?_; clear hK K)
      | (refine can_guard rfl (fun A B hA hB => ?_); go_simp; first | (refine hA ⟨?_, fun w' hC => ?_, fun K hK => ?_⟩; rotate_left; (focus (go_simp; first | done | exact rfl)); go_simp; refine hK _ ?_; clear hK K hA hB A B) | (refine hB (fun K hK => ?_); go_simp; refine hK _ ?_; clear hK K hA hB A B))
      | (refine can_guard_go rfl (fun A B hA hB => ?_); go_simp; refine hB (fun K hK => ?_); go_simp; refine hK _ ?_; clear hK K hA hB A B))
    refine can_go rfl rfl (fun KK hK => ?_)
    go_simp
    refine HRP.out.mono ?_
    rintro e w4 ⟨rfl, F', hp4, hF4, ho4⟩
    refine ⟨_, rfl, ho4.mono (fun b hb => ⟨(HkF.out b hb).2.1, by have := (HkF.out b hb).2.2.2; omega⟩), hK _ _ ?_⟩
    clear hK KK
    go_simp
    have ho4' : Only k.F w2 w4 := ⟨ho4.os, ho4.tape, ho4.output, ho4.size, ho4.block⟩
    have hbw4 : Below lo w w4 := (Hb2.out.mono (by have := Hlo.out; omega)).trans (ho4'.below (fun b hb => (HkF.out b hb).1) (by have := Hlo.out; omega))
    have hB4 : Bytes (fun b => b < lo) w4 (.slice va l.length vc) l := (hB.mono hG).keep fun b hb _ => hbw4.block b hb
    have HRR := rep2R w4 p lo _ M' M J _ hp4 _ (.slice va l.length vc) l hB4 (fun b hb => ⟨by have := hp4.size; omega, fun hx => by have := (HkG.out b hx).1; omega⟩) (by omega) (by omega)
    rw [HMM.out] at HRR
    dsimp only at HRR
    rw [hkv] at HRR
    have HRR := Lib.hid HRR; have Hbw4 := Lib.hid hbw4
    clear HRP hp4 hF4 ho4 ho4' hbw4 hB4
    repeat (first
      | (refine can_yes (v := ?_) rfl (wanted_none rfl) (fun w' hC => ?_) (fun K hK => ?_); rotate_left; (focus (go_simp; first | done | exact rfl)); go_simp; refine hK _ ?_; clear hK K)
      | (refine can_guard rfl (fun A B hA hB => ?_); go_simp; first | (refine hA ⟨?_, fun w' hC => ?_, fun K hK => ?_⟩; rotate_left; (focus (go_simp; first | done | exact rfl)); go_simp; refine hK _ ?_; clear hK K hA hB A B) | (refine hB (fun K hK => ?_); go_simp; refine hK _ ?_; clear hK K hA hB A B))
      | (refine can_guard_go rfl (fun A B hA hB => ?_); go_simp; refine hB (fun K hK => ?_); go_simp; refine hK _ ?_; clear hK K hA hB A B))
    refine can_go rfl rfl (fun KK hK => ?_)
    go_simp
    refine HRR.out.mono ?_
    rintro e w6 ⟨rfl, G', hp6, hG6, ho6⟩
    refine ⟨_, rfl, ho6.mono (fun b hb => ⟨(HkG.out b hb).2.1, by have := (HkG.out b hb).2.2; omega⟩), hK _ _ ?_⟩
    clear hK KK z0 z1 z2 z3 s1 s2 s3
    go_simp
    repeat (first
      | (refine can_yes (v := ?_) rfl (wanted_none rfl) (fun w' hC => ?_) (fun K hK => ?_); rotate_left; (focus (go_simp; first | done | exact rfl)); go_simp; refine hK _ ?_; clear hK K)
      | (refine can_guard rfl (fun A B hA hB => ?_); go_simp; first | (refine hA ⟨?_, fun w' hC => ?_, fun K hK => ?_⟩; rotate_left; (focus (go_simp; first | done | exact rfl)); go_simp; refine hK _ ?_; clear hK K hA hB A B) | (refine hB (fun K hK => ?_); go_simp; refine hK _ ?_; clear hK K hA hB A B))
      | (refine can_guard_go rfl (fun A B hA hB => ?_); go_simp; refine hB (fun K hK => ?_); go_simp; refine hK _ ?_; clear hK K hA hB A B))
    refine can_nil ?_
    have hbw6 : Below lo w w6 := Hbw4.out.trans (ho6.below (fun b hb => (HkG.out b hb).1) (by have := Hlo.out; have := Hbw4.out.size; omega))
    have Hp6 := Lib.hid hp6; have Hbw6 := Lib.hid hbw6
    clear HRR hp6 hG6 ho6 hbw6
    go_wp2_with fail
    go_ret
    exact ⟨rfl, ⟨M', some J', ⟨_, Hp6.out.one⟩, by rw [hsz.1]; exact hn, by omega⟩, Hbw6.out⟩

set_option maxRecDepth 100000 in
set_option maxHeartbeats 1500000 in
theorem pact_append (w : World) (p lo n c : Nat) (M : MD) (o : Option MJ) (hP : PairX w p lo M o) (hn : M.S.length = n) (hc : M.writes ≤ c) (hcw : c + 65536 < 4611686018427387904) (hq : Quarter w) (kind an am : Int) (v : Value) (l : List UInt8) (G : Blks) (hB : Bytes G w v l) (hG : ∀ b, G b → b < lo) (hl : l.length ≤ 3000) (hkd : 0 ≤ kind ∧ kind ≤ 255) (hk0 : kind % 8 = 0 ∨ kind % 8 = 1 ∨ kind % 8 = 2) :
    Calls Tryd.prog 40 #[.pointer (some ⟨p, 0, none⟩), .agg #[.int .u8 kind, .int .u16 an, .int .u16 am, v]] w (ActPost w p lo n c) := by
  obtain ⟨k, hk⟩ := hP
  have h2 := hk.two
  have HkF := Lib.hid h2.fF; have HkG := Lib.hid h2.fG
  have hlo := h2.size
  have hpos := h2.pos
  have hplo := h2.lo_p
  have hplt := h2.blk.lt
  have hh0 : 0 < w.heap.size := by omega
  obtain ⟨box, hbox⟩ : ∃ box : Obj, box = .cells #[.int .u8 kind, .int .u16 an, .int .u16 am, v] 32 := ⟨_, rfl⟩
  have hb1 : Below w.heap.size w (w.alloc box) := kept_alloc _ _
  have hbb : Blk (w.alloc box) w.heap.size [.int .u8 kind, .int .u16 an, .int .u16 am, v] 32 := by rw [hbox]; exact Blk.new w _ _
  have hz1 : (w.alloc box).heap.size = w.heap.size + 1 := by simp
  have hBl : Bytes (fun b => b < lo) w v l := hB.mono hG
  have hB1 : Bytes (fun b => b < lo) (w.alloc box) v l := hBl.keep fun b hb hlt => hb1.block b hlt
  obtain ⟨xa, xc, w2, hcl, hown2, hk2, hg2, hby2⟩ := run_clone (w.alloc box) _ v l hB1 (by omega)
  have x3' : ((w.alloc box).alloc (.cells #[] 5)).cell? ⟨w.heap.size, 3, none⟩ = some v := by
    have := (hbb.alloc (.cells #[] 5)).cell 3
    simpa using this
  rw [hz1] at hcl
  have hb2 : Below w.heap.size w w2 := hb1.trans (hk2.mono (by omega))
  have hbb2 : Blk w2 w.heap.size _ _ := hbb.keep (hk2.block _ (by omega))
  have y0 : w2.cell? ⟨w.heap.size, 0, none⟩ = some (.int .u8 kind) := by simpa using hbb2.cell 0
  have y1 : w2.cell? ⟨w.heap.size, 1, none⟩ = some (.int .u16 an) := by simpa using hbb2.cell 1
  have y2 : w2.cell? ⟨w.heap.size, 2, none⟩ = some (.int .u16 am) := by simpa using hbb2.cell 2
  have y3 : w2.cell? ⟨w.heap.size, 3, none⟩ = some v := by simpa using hbb2.cell 3
  have hz2 : w.heap.size + 1 ≤ w2.heap.size := by have := hk2.size; omega
  have hp2 := h2.kept hb2
  have hq2 : Quarter w2 := hq.keep (hb2.block 0 hh0)
  have hB2 : Bytes (fun b => b < lo) w2 v l := hBl.keep fun b hb hlt => hb2.block b hlt
  obtain ⟨va, vc, rfl, -⟩ := id hB
  have Hp2 := Lib.hid hp2; have Hq2 := Lib.hid hq2; have HB2 := Lib.hid hB2; have Hb2 := Lib.hid hb2; have Hz2 := Lib.hid hz2; have Hbb2 := Lib.hid hbb2; have Hby2 := Lib.hid hby2; have Hown2 := Lib.hid hown2; have Hlo := Lib.hid hlo
  clear hp2 hq2 hB2 hb2 hz2 hbb2 hby2 hown2 hlo hk2 hg2 hB1 hBl hbb hb1 h2 hk hz1
  have hd3 : (kind % 8 == 3) = false := by rcases hk0 with h | h | h <;> simp [h]
  have hd4 : (kind % 8 == 4) = false := by rcases hk0 with h | h | h <;> simp [h]
  have hd5 : (kind % 8 == 5) = false := by rcases hk0 with h | h | h <;> simp [h]
  have hd6 : (kind % 8 == 6) = false := by rcases hk0 with h | h | h <;> simp [h]
  have hd7 : (kind % 8 == 7) = false := by rcases hk0 with h | h | h <;> simp [h]
  subst hbox
  cases o with
  | none =>
    have hjv : k.jv = .pointer none := Hp2.out.ps.1
    have hkv : k.kv = .pointer none := Hp2.out.rs.1
    have z1 : w2.cell? ⟨p, 1, none⟩ = some (.pointer none) := by rw [← hjv]; simpa using Hp2.out.blk.cell 1
    have z3 : w2.cell? ⟨p, 3, none⟩ = some (.pointer none) := by rw [← hkv]; simpa using Hp2.out.blk.cell 3
    have HR := Lib.hid (append_nil w2 (.slice xa l.length xc))
    go_enter Tryd.func40, Tryd.ntmps40
    go_wp2_with fail
    refine HR.out.mono ?_
    rintro e w' ⟨rfl, rfl⟩
    go_wp2_with fail
    go_ret
    exact ⟨rfl, ⟨_, _, ⟨_, Hp2.out.one⟩, hn, by omega⟩, Hb2.out.mono (by have := Hlo.out; omega)⟩
  | some J =>
    obtain ⟨rk, -, hkv, -, -⟩ := Hp2.out.rs
    obtain ⟨jk, -, hjv, -, -⟩ := Hp2.out.ps
    have hsz := appendM_size M J l hl
    have HRP := app2P w2 p lo k M M J (some J) Hp2.out Hq2.out _ (.slice xa l.length xc) l Hby2.out (fun b hb => ⟨hb.2.1, fun hx => by have := (HkF.out b hx).2.2.2; have h1 := hb.1; simp at h1; omega⟩) (by omega)
    have z1 : w2.cell? ⟨p, 1, none⟩ = some (.pointer (some ⟨jk.j, 0, none⟩)) := by rw [← hjv]; simpa using Hp2.out.blk.cell 1
    have z3 : w2.cell? ⟨p, 3, none⟩ = some (.pointer (some ⟨rk.j, 0, none⟩)) := by rw [← hkv]; simpa using Hp2.out.blk.cell 3
    have hpl2 := Plain.of_owns Hown2.out
    rw [show (w.alloc (.cells #[.int .u8 kind, .int .u16 an, .int .u16 am, .slice va l.length vc] 32)).heap.size = w.heap.size + 1 by simp] at hpl2
    generalize hMM : appendM M J l = RM at *
    obtain ⟨M', J', r⟩ := RM
    dsimp only at HRP hsz
    rw [hjv] at HRP
    obtain ⟨N, hN⟩ : ∃ N, N = l.length := ⟨_, rfl⟩
    rw [← hN] at HRP hpl2 hcl
    have hN3 : (N : Int) ≤ 3000 := by omega
    have HRP := Lib.hid HRP; have HMM := Lib.hid hMM; have Hpl2 := Lib.hid hpl2; have HN := Lib.hid hN
    clear hMM y1 y2 hpl2
    rw [← hN] at y3 x3'
    clear hN
    go_enter Tryd.func40, Tryd.ntmps40
    rw [← HN.out]
    go_wp2_with fail
    refine HRP.out.mono ?_
    rintro e w4 ⟨rfl, F', hp4, hF4, ho4⟩
    have hp0 : Plain (fun b => w.heap.size + 1 ≤ b ∧ b < w2.heap.size) w4 (.slice xa N xc) N := Hpl2.out.keep fun b hb hlt => ho4.block b hlt fun h => by have := (HkF.out b h).2.2.2; omega
    have Hp0 := Lib.hid hp0; have Hp4 := Lib.hid hp4; have Ho4 := Lib.hid ho4; have HF4 := Lib.hid hF4
    have Y3 := Lib.hid y3
    clear hp0 hp4 ho4 hF4 HRP hcl x3' z1 y0 y3
    go_wp2_with fail
    go_loopw [133] (fun i wr => ∃ m : Nat, m ≤ N ∧ i = .int .i64 (m : Int) ∧ Plain (fun b => w.heap.size + 1 ≤ b ∧ b < w2.heap.size) wr (.slice xa N xc) N ∧ Only (fun b => w.heap.size + 1 ≤ b ∧ b < w2.heap.size) w4 wr) (fun i _ => N - (intOf i).toNat)
    case atStart => exact ⟨0, by omega, rfl, Hp0.out, Only.refl _ _⟩
    case round =>
      obtain ⟨m, hm, rfl, hpm, hom⟩ := hrel
      by_cases hmn : m < N
      · have hmnI : (m : Int) < (N : Int) := by omega
        obtain ⟨bb, ob, rfl, hNb, hbl, cc, hcell, hfz⟩ := hpm.at m hmn
        have hset := hpm.set bb (ob + m) (UInt8.ofNat (cc.toNat + 1))
        have hon := hom.setCell (p := ⟨bb, ob + m, none⟩) (.inl hNb) (B (UInt8.ofNat (cc.toNat + 1)))
        rw [u8_next] at hset hon
        have Hset := Lib.hid hset; have Hon := Lib.hid hon
        clear hset hon hpm hom hNb
        go_wp2_with fail
        go_roundw
        case rel => exact ⟨m + 1, by omega, by go_num, Hset.out, Hon.out⟩
        case measure => simp [intOf]; omega
      · have hmnI : ¬ (m : Int) < (N : Int) := by omega
        have hz2 := Hz2.out
        have hlo := Hlo.out
        have ho4 := Ho4.out
        have hz4 := ho4.size
        have hpr : Pair2 wr p lo _ M' M (some J') (some J) := Hp4.out.other hom fun b hb => ⟨by omega, fun hx => by
          rcases HF4.out b hx with h | h
          · have := (HkF.out b h).2.2.2; omega
          · omega, fun hx => by have := (HkG.out b hx).2.2; omega⟩
        have hpz : p < wr.heap.size := hpr.blk.lt
        have hbz : w.heap.size < wr.heap.size := by have := hom.size; omega
        have zz3 : ∀ w', LaterF (allBut p w.heap.size) wr.drew w' → w'.cell? ⟨p, 3, none⟩ = some (.pointer (some ⟨rk.j, 0, none⟩)) := fun w' hh => laterX_cell hh hpz (not_allBut_l _ _) 3 (show wr.cell? _ = _ by rw [← hkv]; simpa using hpr.blk.cell 3)
        have s3 : ∀ w', LaterF (allBut p w.heap.size) wr.drew w' → w'.cell? ⟨w.heap.size, 3, none⟩ = some (.slice va N vc) := fun w' hh => laterX_cell hh hbz (not_allBut_r _ _) 3 (show wr.cell? _ = _ by
          have e : wr.heap[w.heap.size]? = w2.heap[w.heap.size]? := (hom.block _ (by omega) (fun h => by omega)).trans (ho4.block _ (by omega) (fun h => by have := (HkF.out _ h).2.2.2; omega))
          have := Y3.out
          unfold World.cell? at *
          rw [show (⟨w.heap.size, 3, none⟩ : Addr).block = w.heap.size from rfl, e]
          exact this)
        have zz3' : wr.cell? ⟨p, 3, none⟩ = some (.pointer (some ⟨rk.j, 0, none⟩)) := by rw [← hkv]; simpa using hpr.blk.cell 3
        have hbwr : Below lo w wr := ((Hb2.out.mono (by omega)).trans (ho4.below (fun b hb => (HkF.out b hb).1) (by omega))).trans (hom.below (fun b hb => by omega) (by omega))
        have hBr : Bytes (fun b => b < lo) wr.drew (.slice va l.length vc) l := (hB.mono hG).keep fun b hb _ => hbwr.block b hb
        have HRR := app2R wr.drew p lo _ M' M J _ (hpr.kept (Below.refl _ _).drew) _ (.slice va l.length vc) l hBr (fun b hb => ⟨by have := hpr.size; show b < wr.heap.size; omega, fun hx => by have := (HkG.out b hx).1; omega⟩) (by omega) (by omega)
        rw [HMM.out] at HRR
        dsimp only at HRR
        rw [hkv, ← HN.out] at HRR
        have HRR := Lib.hid HRR; have Hbwr := Lib.hid hbwr
        clear hpm Hp0 hom hpr hbwr hBr ho4 z3
        go_wp2_with fail
        refine wp_region_can (LaterF (allBut p w.heap.size)) [(0, true), (1, true), (2, true), (3, true), (4, true), (5, true), (6, true), (7, false), (8, true), (9, true)] (by kernel_rfl) (by kernel_rfl) (laterF_refl _) (laterF_trans _) ?_
        repeat (first
          | (refine can_yes (v := ?_) rfl (wanted_none rfl) (fun w' hC => ?_) (fun K hK => ?_); rotate_left; (focus (go_simp; first | done | exact rfl)); go_simp; refine hK _ ?_; clear hK K)
          | (refine can_guard rfl (fun A B hA hB => ?_); go_simp; first | (refine hA ⟨?_, fun w' hC => ?_, fun K hK => ?_⟩; rotate_left; (focus (go_simp; first | done | exact rfl)); go_simp; refine hK _ ?_; clear hK K hA hB A B) | (refine hB (fun K hK => ?_); go_simp; refine hK _ ?_; clear hK K hA hB A B))
          | (refine can_guard_go rfl (fun A B hA hB => ?_); go_simp; refine hB (fun K hK => ?_); go_simp; refine hK _ ?_; clear hK K hA hB A B))
        refine can_go rfl rfl (fun KK hK => ?_)
        go_simp
        refine HRR.out.mono ?_
        rintro e w6 ⟨rfl, G', hp6, hG6, ho6⟩
        refine ⟨_, rfl, ho6.mono (fun b hb => ⟨(HkG.out b hb).2.1, by have := (HkG.out b hb).2.2; omega⟩), hK _ _ ?_⟩
        clear hK KK zz3 s3
        go_simp
        repeat (first
          | (refine can_yes (v := ?_) rfl (wanted_none rfl) (fun w' hC => ?_) (fun K hK => ?_); rotate_left; (focus (go_simp; first | done | exact rfl)); go_simp; refine hK _ ?_; clear hK K)
          | (refine can_guard rfl (fun A B hA hB => ?_); go_simp; first | (refine hA ⟨?_, fun w' hC => ?_, fun K hK => ?_⟩; rotate_left; (focus (go_simp; first | done | exact rfl)); go_simp; refine hK _ ?_; clear hK K hA hB A B) | (refine hB (fun K hK => ?_); go_simp; refine hK _ ?_; clear hK K hA hB A B))
          | (refine can_guard_go rfl (fun A B hA hB => ?_); go_simp; refine hB (fun K hK => ?_); go_simp; refine hK _ ?_; clear hK K hA hB A B))
        refine can_nil ?_
        have hbw6 : Below lo w w6 := (Hbwr.out.drew).trans (ho6.below (fun b hb => (HkG.out b hb).1) (by have := Hbwr.out.size; show lo ≤ wr.heap.size; omega))
        have Hp6 := Lib.hid hp6; have Hbw6 := Lib.hid hbw6
        clear HRR hp6 hG6 ho6 hbw6
        go_wp2_with fail
        go_ret
        exact ⟨rfl, ⟨M', some J', ⟨_, Hp6.out.one⟩, by rw [hsz.1]; exact hn, by omega⟩, Hbw6.out⟩
end Go.Proofs.YtmimplmeccoahaaDoor
