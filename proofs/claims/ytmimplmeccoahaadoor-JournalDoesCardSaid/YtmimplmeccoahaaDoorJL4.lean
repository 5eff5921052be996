/- The law JournalLimits. No condition. -/
import Derived.Test.YtmimplmeccoahaaDoorJL3
import Derived.Test.YtmimplmeccoahaaDoorRead
namespace Go.Proofs.YtmimplmeccoahaaDoor
open Go.RowKit Go.ChangeShapes Go.WideShapes Go.ChangeAt
set_option linter.unusedVariables false
set_option maxRecDepth 20000
attribute [local go_sem] opC upC

theorem cellsU8j : Tryd.prog.cellsOf 5 = 1 := by kernel_rfl
def IsBs (w : World) (v : Value) : Prop := ∃ l, Bytes (fun b => b < w.heap.size) w v l
theorem open_Bs {H : Type} {enc : TypeId × Value → H} {w : World} {b0 : Nat} {v : Value} {d : DataW H} {p : List MemPlace}
    (hv : Value.okWide Tryd.prog w .any b0 30 v) (h : DataW.Trod enc Tryd.prog w 0 (fun _ => true) true 30 v d p) : IsBs w v := by
  obtain ⟨a0, len0, cap0, rfl⟩ := okWide_slice Tryd.underlying30 hv
  obtain ⟨fuel, hf⟩ := h
  exact read_bytes Tryd.underlying30 Tryd.underlying5 cellsU8j hf

theorem open_nil (w : World) :
    Calls Tryd.prog 22 #[.pointer none] w fun e w' => e = .returned (.tuple #[.pointer none, .int .i64 9]) ∧ w = w' := by
  have hc := Lib.hid (jcheck_nil w)
  go_enter Tryd.func22, Tryd.ntmps22
  go_wp2_with fail
  refine hc.out.mono ?_
  rintro e w' ⟨rfl, rfl⟩
  go_wp2_with fail
  go_ret2
  exact ⟨rfl, rfl⟩

theorem open_small (w : World) (K : DK) (M : MD) (hd : DiskAt w K M) (h8 : M.S.length < 8) :
    Calls Tryd.prog 22 #[.pointer (some ⟨K.d, 0, none⟩)] w fun e w' => e = .returned (.tuple #[.pointer none, .int .i64 6]) ∧ w = w' := by
  have hc := jcheck_any w K M hd
  rw [if_pos h8] at hc
  have hc := Lib.hid hc
  go_enter Tryd.func22, Tryd.ntmps22
  go_wp2_with fail
  refine hc.out.mono ?_
  rintro e w' ⟨rfl, rfl⟩
  go_wp2_with fail
  go_ret2
  exact ⟨rfl, rfl⟩

set_option maxHeartbeats 4000000 in
theorem JournalLimits_walk (v0 : Value) (w : World) (w0 : IsBs w v0) (hq : Quarter w) :
    Calls Tryd.prog 5 #[v0] w fun e w' => e = .returned (.bool true) ∧ Below w.heap.size w w' := by
  obtain ⟨l, hl⟩ := w0
  obtain ⟨a, cap, rfl, hc, hm, -, -⟩ := hl
  have h0 : 0 < w.heap.size := by obtain ⟨t, fz, hh⟩ := hq; exact lt_of_block hh
  have hm' : cap ≤ 9223372036854775807 := by unfold maxLen at hm; omega
  rcases Nat.lt_or_ge 1000 l.length with hlen | hlen
  · have hI : (1000 : Int) < (l.length : Int) := by omega
    go_enter Tryd.func5, Tryd.ntmps5
    go_wp2_with fail
    all_goals first
      | omega
      | (refine (works_any w hq).mono ?_
         rintro e w' ⟨rfl, hb⟩
         go_wp2_with fail
         go_ret
         exact ⟨rfl, hb⟩)
  · have hI : ¬ (1000 : Int) < (l.length : Int) := by omega
    have hI2 : (l.length : Int) ≤ 1000 := by omega
    generalize l.length = n at *
    have h7 := new_ok w 7 (by omega) (by omega)
    rw [show ((7 : Nat) : Int) = 7 from rfl] at h7
    have H7 := Lib.hid h7
    clear h7
    have A1 := Lib.hid (append_nil w (.slice a n cap))
    have A2 := Lib.hid (replace_nil w (.slice a n cap))
    have A3 := Lib.hid (records_nil w)
    have A4 := Lib.hid (room_nil w)
    have A5 := Lib.hid (dead_nil w)
    have A6 := Lib.hid (format_nil w)
    have A7 := Lib.hid (open_nil w)
    go_enter Tryd.func5, Tryd.ntmps5
    go_wp2_with fail
    refine A1.out.mono ?_
    rintro e w' ⟨rfl, rfl⟩
    go_wp2_with fail
    refine A2.out.mono ?_
    rintro e w' ⟨rfl, rfl⟩
    go_wp2_with fail
    refine A3.out.mono ?_
    rintro e w' ⟨rfl, rfl⟩
    go_wp2_with fail
    refine A4.out.mono ?_
    rintro e w' ⟨rfl, rfl⟩
    go_wp2_with fail
    refine A5.out.mono ?_
    rintro e w' ⟨rfl, rfl⟩
    go_wp2_with fail
    refine A6.out.mono ?_
    rintro e w' ⟨rfl, rfl⟩
    go_wp2_with fail
    refine A7.out.mono ?_
    rintro e w' ⟨rfl, rfl⟩
    go_wp2_with fail
    refine H7.out.mono ?_
    rintro e w1 ⟨K, rfl, hd, hb1, hK⟩
    have hlen : (MD.fresh 7).S.length < 8 := by simp [MD.fresh]
    have B1 := Lib.hid (format_small w1 K _ hd hlen)
    have B2 := Lib.hid (open_small w1 K _ hd hlen)
    have B3 := Lib.hid (works_any w1 (hq.keep (hb1.block 0 h0)))
    have hb1 := Lib.hid hb1
    clear hd hlen hK
    go_wp2_with fail
    refine B1.out.mono ?_
    rintro e w' ⟨rfl, rfl⟩
    go_wp2_with fail
    refine B2.out.mono ?_
    rintro e w' ⟨rfl, rfl⟩
    go_wp2_with fail
    refine B3.out.mono ?_
    rintro e w2 ⟨rfl, hb2⟩
    go_wp2_with fail
    go_ret
    exact ⟨rfl, kept_trans hb1.out hb2⟩
end Go.Proofs.YtmimplmeccoahaaDoor
