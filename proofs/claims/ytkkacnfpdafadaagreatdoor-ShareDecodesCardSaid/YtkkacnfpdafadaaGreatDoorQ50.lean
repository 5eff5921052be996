/-
  Read RArg SLawD
-/
import Derived.Test.YtkkacnfpdafadaaGreatDoorQ04
import Derived.OpenShut
import Derived.Deep.Slices
import Derived.ChangeSame
import Derived.Test.YtkkacnfpdafadaaGreatDoorChecked
import Derived.Test.YtkkacnfpdafadaaGreatDoorQ05
import Derived.Deep.Strs
import Derived.Lib.SmallJoins
import Derived.Test.YtkkacnfpdafadaaGreatDoorRows
import Derived.Test.YtkkacnfpdafadaaGreatDoorQ14
import Derived.ChangeVars
import Derived.JoinedOf
import Derived.RowKit
import Derived.Lib.LaidIn
import Derived.Lib.LaidU8T
import Derived.Test.YtkkacnfpdafadaaGreatDoorQ44
import Derived.Test.YtkkacnfpdafadaaGreatDoorQ45
import Derived.Test.YtkkacnfpdafadaaGreatDoorQ46
import Derived.Test.YtkkacnfpdafadaaGreatDoorQ49
namespace Go.Proofs.YtkkacnfpdafadaaGreatDoor
open Go.RowKit Go.ChangeShapes Go.WideShapes Go.Deep
set_option linter.unusedVariables false
set_option maxRecDepth 20000

theorem cell_block {w : World} {a : Addr} {v : Value} (h : w.cell? a = some v) : a.spot = none ∧ ∃ L t fz, w.heap[a.block]? = some (.cells L t fz) ∧ L[a.off]? = some v := by
  unfold World.cell? at h
  split at h
  · rename_i c e f hb
    by_cases hs : a.spot.isSome = true
    · simp [hs] at h
    · refine ⟨by simpa using hs, c, e, f, hb, ?_⟩
      simpa [hs] using h
  · cases h

def RowOf (k : Nat) (E : List Value → Prop) (w : World) (v : Value) (n : Nat) : Prop :=
  ∃ a cap, v = .slice a n cap ∧ n ≤ cap ∧ cap ≤ maxLen ∧ (a = none → cap = 0) ∧
    (n = 0 ∨ ∃ b off L t fz, a = some ⟨b, off, none⟩ ∧ b < w.heap.size ∧ w.heap[b]? = some (.cells L t fz) ∧ off + n * k ≤ L.size ∧ ∀ i, i < n → E ((L.toList.drop (off + i * k)).take k))

section
variable {H : Type} {enc : TypeId × Value → H} {P : Program} {w : World} {base : Nat} {held : Bool}

theorem read_row {t e : TypeId} {fuel k : Nat} {v : Value} {x : DataW H × List MemPlace} (hk : 0 < k) (ht : P.underlying t = some (.slice e)) (hC : P.cellsOf e = k) (E : List Value → Prop)
    (hE : ∀ (m : Nat) (cs : List Value) (y : DataW H × List MemPlace), DataW.trod enc P w base (fun _ => true) held m e cs = some y → E cs)
    (h : DataW.trod enc P w base (fun _ => true) held fuel t [v] = some x) : ∃ n, RowOf k E w v n := by
  rcases open_slice ht h with ⟨h0, _⟩ | ⟨a, len, cap, m, n, D, Pl, hcs, hb, hl, hm, hmm, hx, hi⟩
  · simp at h0
    subst h0
    exact ⟨0, none, 0, rfl, Nat.le_refl _, by unfold maxLen; omega, fun _ => rfl, .inl rfl⟩
  · simp at hcs
    subst hcs
    simp only [if_true] at hmm
    subst hmm
    refine ⟨len, some a, m, rfl, hl, hm, nofun, ?_⟩
    by_cases h0 : len = 0
    · exact .inl h0
    · right
      rw [hC] at hi
      obtain ⟨cs0, hc0, _⟩ := hi 0 (by omega)
      obtain ⟨_, hl0, ha0⟩ := World.cells?_some hc0
      have h00 := ha0 0 hk
      rw [List.getElem?_eq_getElem (by omega)] at h00
      simp only [Nat.zero_mul] at h00
      have hadd : (a.add 0).add 0 = a := by simp [Addr.add]
      rw [hadd] at h00
      obtain ⟨hs, L, t', fz, hbk, _⟩ := cell_block h00
      have haa : a = ⟨a.block, a.off, none⟩ := by cases a; simp_all
      have hcell : ∀ i j, i < len → j < k → ∀ cs', w.cells? base (a.add (i * k)) k = some cs' → L[a.off + i * k + j]? = cs'[j]? := by
        intro i j hi' hj cs' hcs'
        obtain ⟨_, hlc, hac⟩ := World.cells?_some hcs'
        have hh := hac j hj
        rw [add_add, haa, Addr.add_lit, cell_of_row w a.block _ L t' fz hbk] at hh
        rw [Nat.add_assoc]
        exact hh
      refine ⟨a.block, a.off, L, t', fz, by rw [← haa], lt_of_block hbk, hbk, ?_, fun i hil => ?_⟩
      · obtain ⟨cs1, hc1, _⟩ := hi (len - 1) (by omega)
        obtain ⟨_, hl1, _⟩ := World.cells?_some hc1
        have := hcell (len - 1) (k - 1) (by omega) (by omega) cs1 hc1
        rw [List.getElem?_eq_getElem (by omega)] at this
        have := (Array.getElem?_eq_some_iff.1 this).1
        have e1 : len * k = (len - 1) * k + k := by
          obtain ⟨q, rfl⟩ : ∃ q, len = q + 1 := ⟨len - 1, by omega⟩
          simp [Nat.add_mul]
        omega
      · obtain ⟨cs1, hc1, ht1⟩ := hi i (by omega)
        obtain ⟨_, hl1, _⟩ := World.cells?_some hc1
        have e : (L.toList.drop (a.off + i * k)).take k = cs1 := by
          apply List.ext_getElem?
          intro j
          rw [List.getElem?_take]
          by_cases hj : j < k
          · rw [if_pos hj, List.getElem?_drop, ← hcell i j hil hj cs1 hc1]
            simp
          · rw [if_neg hj, List.getElem?_eq_none (by omega)]
        rw [e]
        exact hE _ _ _ ht1

def IsU8 (cs : List Value) : Prop := ∃ n : Int, cs = [.int .u8 n] ∧ 0 ≤ n ∧ n ≤ 255

theorem bytes_of_row {w : World} {v : Value} {n : Nat} (h : RowOf 1 IsU8 w v n) : ∃ l : List UInt8, l.length = n ∧ Bytes (fun b => b < w.heap.size) w v l := by
  obtain ⟨a, cap, rfl, h1, h2, h3, h4⟩ := h
  rcases h4 with rfl | ⟨b, off, L, t, fz, rfl, hb, hg, hle, hE⟩
  · exact ⟨[], rfl, a, cap, rfl, h1, h2, h3, .inl rfl⟩
  · have hval : ∀ i, i < n → ∃ c : UInt8, L[off + i]? = some (B c) := by
      intro i hi
      obtain ⟨z, hz, z0, z1⟩ := hE i hi
      refine ⟨UInt8.ofNat z.toNat, ?_⟩
      have : ((L.toList.drop (off + i * 1)).take 1)[0]? = some (.int .u8 z) := by rw [hz]; rfl
      rw [List.getElem?_take, if_pos (by omega), List.getElem?_drop] at this
      have e : B (UInt8.ofNat z.toNat) = .int .u8 z := by
        unfold B
        congr 1
        simp only [UInt8.toNat_ofNat']
        omega
      rw [e]
      simpa using this
    let f : Nat → UInt8 := fun i => if h : i < n then Classical.choose (hval i h) else 0
    have hf : ∀ i, (h : i < n) → L[off + i]? = some (B (f i)) := fun i h => by
      simp only [f, dif_pos h]
      exact Classical.choose_spec (hval i h)
    refine ⟨(List.range n).map f, by simp, some ⟨b, off, none⟩, cap, by simp, by simpa using h1, h2, nofun, .inr ⟨b, off, L, t, fz, rfl, hb, hg, by simp; omega, fun i hi => ?_⟩⟩
    simp at hi
    simpa using hf i hi

theorem read_bytes {t e : TypeId} {fuel : Nat} {v : Value} {x : DataW H × List MemPlace} (ht : P.underlying t = some (.slice e)) (he : P.underlying e = some (.int .u8)) (hC : P.cellsOf e = 1)
    (h : DataW.trod enc P w base (fun _ => true) held fuel t [v] = some x) : ∃ l : List UInt8, Bytes (fun b => b < w.heap.size) w v l := by
  obtain ⟨n, hn⟩ := read_row (by omega) ht hC IsU8 (fun m cs y hy => by
    obtain ⟨z, rfl, _, wz⟩ := DataW.trod_int he hy
    exact ⟨z, rfl, bounds_u8 wz⟩) h
  obtain ⟨l, _, hl⟩ := bytes_of_row hn
  exact ⟨l, hl⟩
end

theorem RowOf.keep {k : Nat} {E : List Value → Prop} {w w' : World} {v : Value} {n : Nat} (h : RowOf k E w v n) (hb : Below w.heap.size w w') : RowOf k E w' v n := by
  obtain ⟨a, cap, rfl, h1, h2, h3, h4⟩ := h
  refine ⟨a, cap, rfl, h1, h2, h3, ?_⟩
  rcases h4 with h4 | ⟨b, off, L, t, fz, rfl, hlt, hg, hle, hE⟩
  · exact .inl h4
  · exact .inr ⟨b, off, L, t, fz, rfl, Nat.lt_of_lt_of_le hlt hb.size, (hb.block b hlt).trans hg, hle, hE⟩
end Go.Proofs.YtkkacnfpdafadaaGreatDoor

namespace Go.Proofs.YtkkacnfpdafadaaGreatDoor
open Go.RowKit Go.ChangeShapes Go.WideShapes Go.ChangeAt Go.Deep
set_option linter.unusedVariables false
set_option maxRecDepth 20000

section
variable {H : Type} {enc : TypeId × Value → H} {w : World} {base : Nat} {held : Bool}
end

theorem open_Bytes {H : Type} {enc : TypeId × Value → H} {w : World} {b0 : Nat} {v : Value} {d : DataW H} {p : List MemPlace}
    (hv : Value.okWide Tryz.prog w .any b0 57 v) (h : DataW.Trod enc Tryz.prog w 0 (fun _ => true) true 57 v d p) : ∃ l : List UInt8, Bytes (fun b => b < w.heap.size) w v l := by
  obtain ⟨a0, len0, cap0, rfl⟩ := okWide_slice Tryz.underlying57 hv
  obtain ⟨fuel, hf⟩ := h
  exact read_bytes Tryz.underlying57 Tryz.underlying5 (by kernel_rfl) hf
end Go.Proofs.YtkkacnfpdafadaaGreatDoor
/- What the premise on the laid tables says, and a world that fits it. -/
namespace Go.Proofs.YtkkacnfpdafadaaGreatDoor
open Go.ChangeShapes Go.WideShapes Go.RowKit Go.Lib
set_option linter.unusedVariables false
set_option maxRecDepth 20000

abbrev laidQ : List (String × DataW Unit) := [("unicode/utf8.acceptRanges", Rows.laid_unicode_utf8_acceptRanges), ("unicode/utf8.first", Rows.laid_unicode_utf8_first)]
theorem accept_eq : Rows.laid_unicode_utf8_acceptRanges (H := Unit) = Lib.acceptData := by kernel_rfl
theorem first_eq : Rows.laid_unicode_utf8_first = Lib.firstData := by kernel_rfl

theorem tabs_of_laid {W : World} (h : laidMet Tryz.prog laidQ W) : Tabs W ∧ 3 ≤ W.heap.size := by
  have h3 := Lib.laidMet.reads h (.tail _ (.head _))
  have h4 := Lib.laidMet.reads h (.head _)
  rw [first_eq] at h3
  rw [accept_eq] at h4
  have hT : Tabs W := utf8Tabs_of_readsT (U8Types.of196 Tryz.laysValid) ⟨by kernel_rfl, by kernel_rfl, by kernel_rfl, by kernel_rfl, by kernel_rfl, by kernel_rfl, by kernel_rfl⟩ h3 h4
  refine ⟨hT, ?_⟩
  have hc := (hT.2 0 (by decide)).1
  have h2 : Tryz.laysValid_ren.g 4 = 2 := by decide
  rw [h2] at hc
  have hz : W.heap[2]? ≠ none := fun hn => by simp [World.cell?, hn] at hc
  have := Array.getElem?_eq_none_iff (xs := W.heap) (i := 2)
  by_cases hs : W.heap.size ≤ 2
  · exact absurd (this.2 hs) hz
  · omega

noncomputable def laidWorld (os : Os) : World :=
  let w0 := World.holding Tryz.prog os ⟨#[], #[], []⟩
  let put (h : Array Obj) (g : Nat) (cs : Array Value) : Array Obj := h.modify g fun
    | .cells _ t frozen => .cells cs t frozen
    | o => o
  let h1 := put w0.heap (Tryz.laysValid_ren.g 3) (Lib.firstTab.map fun z => Value.int .u8 z).toArray
  let h2 := put h1 (Tryz.laysValid_ren.g 4) ((List.range 16).flatMap fun i => [Value.int .u8 (Lib.accLo i), Value.int .u8 (Lib.accHi i)]).toArray
  { w0 with heap := h2 }
theorem laidWorld_met (os : Os) (args : Array Value) : laidMet Tryz.prog laidQ ((laidWorld os).forCall (fun _ _ => 0) ⟨#[], args, []⟩).memory :=
  (LaidIn.of_run (l := laidQ) [Tryz.laysValid_ren.g 4, Tryz.laysValid_ren.g 3] 8 (by kernel_rfl) (by kernel_rfl) (by kernel_rfl) (by kernel_rfl)).met
end Go.Proofs.YtkkacnfpdafadaaGreatDoor

namespace Go.Proofs.YtkkacnfpdafadaaGreatDoor
open Go.RowKit Go.Lib
set_option linter.unusedVariables false
set_option maxRecDepth 20000
attribute [local go_sem ↓] seal_append
attribute [local go_sem] opC upC

theorem smallS_valid {x : SMsg} (h : svalid x = true) : SmallS x := by
  have h1 := small_valid2 (svalid_tell h)
  have h2 := (svalid_knows h).len
  exact ⟨by omega, by omega, by omega, by omega⟩
theorem smallS_empty : SmallS .empty := ⟨by decide, by decide, by decide, by decide⟩
theorem sdec_small (b : List UInt8) : SmallS (sdecR b).1 := by
  rcases sdec_or b with h | h
  · exact smallS_valid (sdec_ok h).1
  · rw [h]; exact smallS_empty
set_option maxRecDepth 100000 in
set_option maxHeartbeats 4000000 in
theorem ShareDecodes_walk (bv : Value) (w : World) (hbv : IsBytes w bv) (hq : Tabs w ∧ 3 ≤ w.heap.size) :
    Calls Tryz.prog 9 #[bv] w fun e w' => e = .returned (.bool true) ∧ Below w.heap.size w w' := by
  obtain ⟨bs, hbs⟩ := hbv
  obtain ⟨ab, cb, rfl, -⟩ := id hbs
  have HTb := Lib.hid (show ∀ w', Below w.heap.size w w' → Tabs w' ∧ 3 ≤ w'.heap.size from fun w' hb => ⟨tabs_below hq.1 hq.2 hb, Nat.le_trans hq.2 hb.size⟩)
  have HBs := Lib.hid (show ∀ w', Below w.heap.size w w' → Bytes (fun q => q < w.heap.size) w' (.slice ab bs.length cb) bs from fun w' hb => hbs.keep (w' := w') fun q hq _ => hb.block q hq)
  clear hq hbs
  obtain ⟨nb, hnb⟩ : ∃ nb, bs.length = nb := ⟨_, rfl⟩
  by_cases hn3 : 3000 < nb
  · have hnI : (3000 : Int) < (nb : Int) := by omega
    rw [hnb]
    go_enter Tryz.func9, Tryz.ntmps9
    go_wp2_with fail
    go_ret
    exact ⟨rfl, Below.refl _ _⟩
  have hnI : ¬ (3000 : Int) < (nb : Int) := by omega
  have Hbs3 := Lib.hid (show bs.length ≤ 3000 by omega)
  have hk1 := kept_alloc w (.cells #[] 5)
  obtain ⟨v', w3, hr, hown, hgb⟩ := run_append_bytes (w.alloc (.cells #[] 5)) w.heap.size (.slice (some ⟨w.heap.size, 0, none⟩) 0 0) []
    ⟨rfl, .inr ⟨w.heap.size, 0, #[], rfl, Nat.le_refl _, by unfold World.alloc; simp, Nat.le_refl _, by unfold maxLen; omega, rfl, rfl⟩⟩ _ _ bs (HBs.out _ hk1) (by simp; omega) (by simp)
  have hb3 : Below w.heap.size w w3 := hk1.grown hgb (by simp) (fun k hk => by simp [Value.ownBlock] at hk; omega)
  rw [List.nil_append] at hown
  have hin := Bytes.of_owns hown (fun q => q < w3.heap.size) (fun k _ h => h)
  obtain ⟨ai, ci, rfl⟩ := own_shape hown
  rw [hnb] at hr
  have HDc := Lib.hid (sdecode_any w3 (HTb.out _ hb3).1 (HTb.out _ hb3).2 _ ai ci bs hin (by have := Hbs3.out; omega))
  obtain ⟨D, hD⟩ : ∃ D, sdecR bs = D := ⟨_, rfl⟩
  unfold SDPost at HDc
  rw [hD, hnb] at HDc
  have HDe := Lib.hid hD; have Hnb := Lib.hid hnb; have HW3 := Lib.hid hb3
  have Hin := Lib.hid (show ∀ W, Below w3.heap.size w3 W → Bytes (fun q => q < w3.heap.size) W (.slice ai bs.length ci) bs from fun W hb => hin.keep (w' := W) fun q hq _ => hb.block q hq)
  rw [hnb]
  clear hk1 hown hgb hb3 hin hD hnb
  go_enter Tryz.func9, Tryz.ntmps9
  go_wp2_with fail
  refine HDc.out.mono ?_
  rintro e wm20 ⟨r, rfl, hmv, hbm⟩
  obtain ⟨t0, t1, t2, t3, rfl, hmi⟩ := hmv
  dsimp only at hmi ⊢
  obtain ⟨n020, m020, rfl, -⟩ := hmi.seen.shape
  obtain ⟨n120, m120, rfl, -⟩ := hmi.tell.seen.shape
  obtain ⟨n220, m220, rfl, -⟩ := hmi.tell.items.shape
  obtain ⟨n320, m320, rfl, -⟩ := hmi.tell.gone.shape
  obtain ⟨w20, hw20⟩ : ∃ q, q = wm20.alloc (.cells #[.int .i64 D.1.frm, .slice n020 D.1.seen.length m020, .slice n120 D.1.tell.seen.length m120, .slice n220 D.1.tell.items.length m220, .slice n320 D.1.tell.gone.length m320] 39) := ⟨_, rfl⟩
  have hk20 : Below wm20.heap.size wm20 w20 := by rw [hw20]; exact kept_alloc _ _
  have hbw : Below w3.heap.size w3 w20 := hbm.trans (hk20.mono hbm.size)
  have Hb20 := Lib.hid (show Blk w20 wm20.heap.size [.int .i64 D.1.frm, .slice n020 D.1.seen.length m020, .slice n120 D.1.tell.seen.length m120, .slice n220 D.1.tell.items.length m220, .slice n320 D.1.tell.gone.length m320] 39 by rw [hw20]; exact Blk.new _ _ _)
  have Hm20 := Lib.hid ((hmi.keep (w' := w20) fun q _ hlt => hk20.block q hlt).mono (G := fun q => q < w20.heap.size) fun q _ hlt => hlt)
  have HW20 := Lib.hid (show Below w.heap.size w w20 from HW3.out.trans (hbw.mono HW3.out.size))
  have HB20 := Lib.hid hbw
  have Hw20 := Lib.hid hw20
  clear hk20 hbw hmi hbm hw20
  have HDr := Lib.hid (rsdecode_any w20 _ ab cb bs (HBs.out _ HW20.out) (by have := Hbs3.out; omega))
  unfold SDPost at HDr
  rw [HDe.out, Hnb.out] at HDr
  clear HDc hr
  go_wp2_with fail
  rw [← Hw20.out]
  refine HDr.out.mono ?_
  rintro e wm21 ⟨r, rfl, hmv, hbm⟩
  obtain ⟨t0, t1, t2, t3, rfl, hmi⟩ := hmv
  dsimp only at hmi ⊢
  obtain ⟨n021, m021, rfl, -⟩ := hmi.seen.shape
  obtain ⟨n121, m121, rfl, -⟩ := hmi.tell.seen.shape
  obtain ⟨n221, m221, rfl, -⟩ := hmi.tell.items.shape
  obtain ⟨n321, m321, rfl, -⟩ := hmi.tell.gone.shape
  obtain ⟨w21, hw21⟩ : ∃ q, q = wm21.alloc (.cells #[.int .i64 D.1.frm, .slice n021 D.1.seen.length m021, .slice n121 D.1.tell.seen.length m121, .slice n221 D.1.tell.items.length m221, .slice n321 D.1.tell.gone.length m321] 43) := ⟨_, rfl⟩
  have hk21 : Below wm21.heap.size wm21 w21 := by rw [hw21]; exact kept_alloc _ _
  have hbw : Below w20.heap.size w20 w21 := hbm.trans (hk21.mono hbm.size)
  have Hb21 := Lib.hid (show Blk w21 wm21.heap.size [.int .i64 D.1.frm, .slice n021 D.1.seen.length m021, .slice n121 D.1.tell.seen.length m121, .slice n221 D.1.tell.items.length m221, .slice n321 D.1.tell.gone.length m321] 43 by rw [hw21]; exact Blk.new _ _ _)
  have Hm21 := Lib.hid ((hmi.keep (w' := w21) fun q _ hlt => hk21.block q hlt).mono (G := fun q => q < w21.heap.size) fun q _ hlt => hlt)
  have HW21 := Lib.hid (show Below w.heap.size w w21 from HW20.out.trans (hbw.mono HW20.out.size))
  have HB21 := Lib.hid hbw
  have Hw21 := Lib.hid hw21
  clear hk21 hbw hmi hbm hw21
  clear HDr
  have Hsz := Lib.hid (show SmallS D.1 by rw [← HDe.out]; exact sdec_small _)
  obtain ⟨c0, c1, c2, c3, c4⟩ := cell5 (Hb20.out.keep (HB21.out.block _ Hb20.out.lt))
  obtain ⟨d0, d1, d2, d3, d4⟩ := cell5 Hb21.out
  have Hc := Lib.hid (And.intro c0 (And.intro c1 (And.intro c2 (And.intro c3 c4))))
  have Hd := Lib.hid (And.intro d0 (And.intro d1 (And.intro d2 (And.intro d3 d4))))
  clear c0 c1 c2 c3 c4 d0 d1 d2 d3 d4
  have Hp := Lib.hid (show ∀ a u, w21.cell? a = some u → ∀ w', Later w21.drew w' → w'.cell? a = some u from fun a u h w' hh => laterC h hh)
  have pc0 := Hp.out _ _ Hc.out.1
  have pc1 := Hp.out _ _ Hc.out.2.1
  have pc2 := Hp.out _ _ Hc.out.2.2.1
  have pc3 := Hp.out _ _ Hc.out.2.2.2.1
  have pc4 := Hp.out _ _ Hc.out.2.2.2.2
  have pd0 := Hp.out _ _ Hd.out.1
  have pd1 := Hp.out _ _ Hd.out.2.1
  have pd2 := Hp.out _ _ Hd.out.2.2.1
  have pd3 := Hp.out _ _ Hd.out.2.2.2.1
  have pd4 := Hp.out _ _ Hd.out.2.2.2.2
  have HZ := Lib.hid (show ∀ w', Later w21.drew w' → (convert 57 9 (.slice ai nb ci)).run Tryz.prog w' = .ok (.string ⟨bs.toArray⟩) w' ∧ (convert 57 9 (.slice ab nb cb)).run Tryz.prog w' = .ok (.string ⟨bs.toArray⟩) w' from fun w' hh => by
    have h0 : Below w21.heap.size w21 w' := (Below.refl w21.heap.size w21).drew.trans hh
    have h1 := run_strB (Hin.out w' (HB20.out.trans ((HB21.out.trans (h0.mono HB21.out.size)).mono HB20.out.size)))
    have h2 := run_strB (HBs.out w' (HW21.out.trans (h0.mono HW21.out.size)))
    rw [Hnb.out] at h1 h2
    exact ⟨h1, h2⟩)
  have hbd := (Below.refl w21.heap.size w21).drew
  go_wp2_with fail
  rw [← Hw21.out]
  refine wp_region_can Later [(0, true), (1, true), (2, true), (3, true), (4, true), (6, true), (5, false), (7, false), (8, true), (9, true), (10, true), (11, true), (12, true), (13, true), (14, true), (15, true), (16, true), (17, false), (18, true), (19, true)] (by kernel_rfl) (by kernel_rfl) later_refl later_trans ?_
  repeat (first
    | (refine can_yes (v := ?_) rfl (wanted_none rfl) (fun w' hC => ?_) (fun K hK => ?_); rotate_left; (focus (go_simp; first | done | exact rfl)); go_simp; refine hK _ ?_; clear hK K)
    | (refine can_guard rfl (fun A B hA hB => ?_); go_simp; first | (refine hA ⟨?_, fun w' hC => ?_, fun K hK => ?_⟩; rotate_left; (focus (go_simp; first | done | exact rfl)); go_simp; refine hK _ ?_; clear hK K hA hB A B) | (refine hB (fun K hK => ?_); go_simp; refine hK _ ?_; clear hK K hA hB A B))
    | (refine can_guard_go rfl (fun A B hA hB => ?_); go_simp; refine hB (fun K hK => ?_); go_simp; refine hK _ ?_; clear hK K hA hB A B))
  clear pc0 pc1 pc2 pc3 pc4 pd0 pd1 pd2 pd3 pd4
  refine can_go rfl rfl (fun KK hK => ?_)
  go_simp
  refine (got_any w21.drew _ (.agg #[.int .i64 D.1.frm, .slice n020 D.1.seen.length m020, .slice n120 D.1.tell.seen.length m120, .slice n220 D.1.tell.items.length m220, .slice n320 D.1.tell.gone.length m320]) D.1 ⟨_, _, _, _, rfl, (Hm20.out.keep (w' := w21.drew) fun q hq _ => HB21.out.block q hq)⟩ Hsz.out).mono ?_
  rintro e w15 ⟨v15, rfl, hv15, hb15⟩
  have hbr15 := hbd.trans hb15
  refine ⟨_, rfl, hb15, hK _ _ ?_⟩
  clear hK KK
  go_simp
  refine can_go rfl rfl (fun KK hK => ?_)
  go_simp
  refine (sameS_any w15 _ _ v15 (.agg #[.int .i64 D.1.frm, .slice n021 D.1.seen.length m021, .slice n121 D.1.tell.seen.length m121, .slice n221 D.1.tell.items.length m221, .slice n321 D.1.tell.gone.length m321]) D.1 D.1 hv15 ⟨_, _, _, _, rfl, Hm21.out.keep (w' := w15) fun q hq _ => hbr15.block q hq⟩).mono ?_
  rintro e w16 ⟨r, rfl, hr, hb16⟩
  obtain rfl : r = true := hr.2 rfl
  have hbr16 := hbr15.trans (hb16.mono hbr15.size)
  have pz1 : ∀ w', Later w16 w' → _ := fun w' hh => (HZ.out w' (hb15.trans ((hb16.mono hb15.size).trans (RowKit.Below.mono hh hbr16.size)))).1
  have pz2 : ∀ w', Later w16 w' → _ := fun w' hh => (HZ.out w' (hb15.trans ((hb16.mono hb15.size).trans (RowKit.Below.mono hh hbr16.size)))).2
  refine ⟨_, rfl, hb16, hK _ _ ?_⟩
  clear hK KK hr hv15
  go_simp
  repeat (first
    | (refine can_yes (v := ?_) rfl (wanted_none rfl) (fun w' hC => ?_) (fun K hK => ?_); rotate_left; (focus (go_simp; first | done | exact rfl)); go_simp; refine hK _ ?_; clear hK K)
    | (refine can_guard rfl (fun A B hA hB => ?_); go_simp; first | (refine hA ⟨?_, fun w' hC => ?_, fun K hK => ?_⟩; rotate_left; (focus (go_simp; first | done | exact rfl)); go_simp; refine hK _ ?_; clear hK K hA hB A B) | (refine hB (fun K hK => ?_); go_simp; refine hK _ ?_; clear hK K hA hB A B))
    | (refine can_guard_go rfl (fun A B hA hB => ?_); go_simp; refine hB (fun K hK => ?_); go_simp; refine hK _ ?_; clear hK K hA hB A B))
  have hB16 := HW21.out.trans (hbr16.mono HW21.out.size)
  refine can_go rfl rfl (fun KK hK => ?_)
  go_simp
  refine (works_any w16 (HTb.out _ hB16).1 (HTb.out _ hB16).2).mono ?_
  rintro e w17 ⟨rfl, hb17⟩
  refine ⟨_, rfl, hb17, hK _ _ ?_⟩
  clear hK KK
  go_simp
  repeat (first
    | (refine can_yes (v := ?_) rfl (wanted_none rfl) (fun w' hC => ?_) (fun K hK => ?_); rotate_left; (focus (go_simp; first | done | exact rfl)); go_simp; refine hK _ ?_; clear hK K)
    | (refine can_guard rfl (fun A B hA hB => ?_); go_simp; first | (refine hA ⟨?_, fun w' hC => ?_, fun K hK => ?_⟩; rotate_left; (focus (go_simp; first | done | exact rfl)); go_simp; refine hK _ ?_; clear hK K hA hB A B) | (refine hB (fun K hK => ?_); go_simp; refine hK _ ?_; clear hK K hA hB A B))
    | (refine can_guard_go rfl (fun A B hA hB => ?_); go_simp; refine hB (fun K hK => ?_); go_simp; refine hK _ ?_; clear hK K hA hB A B))
  refine can_nil ?_
  go_wp2_with fail
  go_ret
  exact ⟨rfl, hB16.trans (hb17.mono hB16.size)⟩
end Go.Proofs.YtkkacnfpdafadaaGreatDoor
