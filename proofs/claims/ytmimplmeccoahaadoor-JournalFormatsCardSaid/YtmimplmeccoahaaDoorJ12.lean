/- Open. -/
import Derived.Test.YtmimplmeccoahaaDoorJ11
namespace Go.Proofs.YtmimplmeccoahaaDoor
open Go.RowKit
set_option linter.unusedVariables false
set_option maxRecDepth 20000
attribute [local go_sem] opC upC

def genStep (S : List (List UInt8)) (st : Bool × Nat) (i : Nat) : Bool × Nat :=
  if isHead (S.getD i []) i && (!st.1 || decide (st.2 < read4 (S.getD i []) 4)) then (true, read4 (S.getD i []) 4) else st
def genS (S : List (List UInt8)) : Nat → Bool × Nat
  | 0 => (false, 0)
  | m + 1 => genStep S (genS S m) m
theorem gen_aux (x y : Bool) (p q : Nat) : (if y && (!x || decide (p < q)) then some q else if x then some p else none) =
    (if (if y && (!(if x && (!false || decide (0 < p)) then (true, p) else (false, 0)).1 || decide ((if x && (!false || decide (0 < p)) then (true, p) else (false, 0)).2 < q)) then (true, q) else (if x && (!false || decide (0 < p)) then (true, p) else (false, 0))).1 then
      some (if y && (!(if x && (!false || decide (0 < p)) then (true, p) else (false, 0)).1 || decide ((if x && (!false || decide (0 < p)) then (true, p) else (false, 0)).2 < q)) then (true, q) else (if x && (!false || decide (0 < p)) then (true, p) else (false, 0))).2 else none) := by
  cases x <;> cases y <;> by_cases h : p < q <;> simp [h]
theorem genM_eq (S : List (List UInt8)) : genM S = if (genS S 2).1 then some (genS S 2).2 else none := gen_aux _ _ _ _
theorem genS_lt (S : List (List UInt8)) : ∀ m, (genS S m).2 < 4294967296
  | 0 => by simp [genS]
  | m + 1 => by
    simp only [genS, genStep]
    split
    · exact read4_lt _ _
    · exact genS_lt S m

theorem recordM_some {S : List (List UInt8)} {g k p : Nat} {b : List UInt8} (hS : ∀ s ∈ S, s.length = 64) (h : recordM S g k p = some b) : p + takes b.length ≤ halfN S.length ∧ b.length ≤ 65536 := by
  unfold recordM at h
  split at h
  · cases h
  · rename_i hp
    dsimp only at h
    generalize hn : read4 (secM S g p) 8 = n at h
    split at h
    · cases h
    · rename_i hx
      split at h
      · rename_i hpo
        have hT : takes n = max 1 ((n + 47) / 48) := rfl
        have hlb := bodyM_length S hS g p (takes n) (fun j hj => placeN_lt _ _ _ (by omega))
        have he := Option.some.inj h
        have hl : b.length = n := by rw [← he]; simp; omega
        rw [hl]
        omega
      · cases h

theorem recordsM_none {S : List (List UInt8)} {g k p : Nat} (h : recordM S g k p = none) (f : Nat) : recordsM S g f k p = [] := by
  cases f with
  | zero => rfl
  | succ f => simp [recordsM, h]
theorem recordsM_some {S : List (List UInt8)} {g k p : Nat} {b : List UInt8} (h : recordM S g k p = some b) (f : Nat) : recordsM S g (f + 1) k p = b :: recordsM S g f (k + 1) (p + takes b.length) := by
  simp [recordsM, h]

def GenRel (w : World) (jb kd : Nat) (S : List (List UInt8)) (f i : Value) (wr : World) : Prop :=
  ∃ m : Nat, m ≤ 2 ∧ i = .int .i64 (m : Int) ∧ f = .bool (genS S m).1 ∧ JBlk wr jb kd (genS S m).2 (.slice none 0 0) 0 false ∧ Below w.heap.size w wr
def AddRel (w : World) (jb kd g : Nat) (S : List (List UInt8)) (v : Value) (wr : World) : Prop :=
  ∃ (ra : Option Addr) (rc : Nat) (R : Blks) (L : List (List UInt8)), v = v ∧ JBlk wr jb kd g (.slice ra L.length rc) (takenL L) false ∧ RowsIn R wr 0 (.slice ra L.length rc) L ∧
    (∀ b, (Value.slice ra L.length rc).ownBlock = some b ∨ R b → w.heap.size ≤ b ∧ b ≠ jb ∧ b < wr.heap.size) ∧ takenL L ≤ halfN S.length ∧ (∀ b ∈ L, b.length ≤ 65536) ∧
    recordsM S g (halfN S.length + 1) 0 0 = L ++ recordsM S g (halfN S.length + 1 - L.length) L.length (takenL L) ∧ Below w.heap.size w wr
def takenOf (jb : Nat) (wr : World) : Nat := (intOf ((wr.cell? ⟨jb, 3, none⟩).getD (.int .i64 0))).toNat

def OpenPost (w : World) (K : DK) (M : MD) (r : MJ ⊕ Int) (e : Ending) (w' : World) : Prop :=
  (match r with
    | .inr c => e = .returned (.tuple #[.pointer none, .int .i64 c])
    | .inl J => ∃ jk, e = .returned (.tuple #[.pointer (some ⟨jk.j, 0, none⟩), .int .i64 0]) ∧ jk.K = K ∧ JAt w' jk M J ∧ ∀ b, jk.all b → K.foot b ∨ w.heap.size ≤ b) ∧ Below w.heap.size w w'



set_option maxRecDepth 100000 in
set_option maxHeartbeats 1200000 in
theorem open_any (w : World) (K : DK) (M : MD) (hd : DiskAt w K M) (hq : Quarter w) :
    Calls Tryd.prog 22 #[.pointer (some ⟨K.d, 0, none⟩)] w (OpenPost w K M (openM M)) := by
  have hc := jcheck_any w K M hd
  have h0 : 0 < w.heap.size := by obtain ⟨t, fz, hh⟩ := hq; exact lt_of_block hh
  have hle := hd.le
  have hdn := down_any w K M hd
  have Hc := Lib.hid hc; have Hdn := Lib.hid hdn
  clear hc hdn
  by_cases h8 : M.S.length < 8
  · have Hr := Lib.hid (show openM M = .inr 6 by unfold openM; rw [if_pos h8])
    have Hc2 := Hc.out
    rw [if_pos h8] at Hc2
    go_enter Tryd.func22, Tryd.ntmps22
    go_wp2_with fail
    refine Hc2.mono ?_
    rintro e w' ⟨rfl, rfl⟩
    clear Hc2
    go_wp2_with fail
    go_ret2
    rw [Hr.out]
    exact ⟨rfl, Below.refl _ _⟩
  have Hc2 := Hc.out
  rw [if_neg h8] at Hc2
  have Hc3 := Lib.hid Hc2
  clear Hc2 Hc
  by_cases hdown : M.down = true
  · have Hr := Lib.hid (show openM M = .inr 341 by unfold openM; rw [if_neg h8, if_pos hdown])
    go_enter Tryd.func22, Tryd.ntmps22
    go_wp2_with fail
    refine Hc3.out.mono ?_
    rintro e w' ⟨rfl, rfl⟩
    go_wp2_with fail
    refine Hdn.out.mono ?_
    rintro e w' ⟨rfl, rfl⟩
    rw [hdown]
    go_wp2_with fail
    go_ret2
    rw [Hr.out]
    exact ⟨rfl, Below.refl _ _⟩
  have hdn : M.down = false := by simpa using hdown
  have Hr := Lib.hid (show openM M = match genM M.S with | none => .inr 340 | some g => .inl ⟨g, recordsM M.S g (halfN M.S.length + 1) 0 0, false⟩ by unfold openM; rw [if_neg h8, if_neg hdown]; rfl)
  clear hdown
  go_enter Tryd.func22, Tryd.ntmps22
  go_wp2_with fail
  refine Hc3.out.mono ?_
  rintro e w' ⟨rfl, rfl⟩
  go_wp2_with fail
  refine Hdn.out.mono ?_
  rintro e w' ⟨rfl, rfl⟩
  rw [hdn]
  go_wp2_with fail
  obtain ⟨jb, hjb⟩ : ∃ jb, jb = w.heap.size := ⟨_, rfl⟩
  have hj0 : JBlk (w.alloc (.cells #[.pointer (some ⟨K.d, 0, none⟩), .int .u32 0, .slice none 0 0, .int .i64 0, .bool false] 69)) jb K.d 0 (.slice none 0 0) 0 false := by
    rw [hjb]
    exact Blk.new w #[.pointer (some ⟨K.d, 0, none⟩), .int .u32 0, .slice none 0 0, .int .i64 0, .bool false] 69
  have hk0 := kept_alloc w (.cells #[.pointer (some ⟨K.d, 0, none⟩), .int .u32 0, .slice none 0 0, .int .i64 0, .bool false] 69)
  have hqq : ∀ {w'}, Below w.heap.size w w' → Quarter w' := fun hb => hq.keep (hb.block 0 h0)
  have hdd : ∀ {w'}, Below w.heap.size w w' → DiskAt w' K M := fun hb => hd.kept hb
  have hjl : w.heap.size ≤ jb := by omega
  have hs0 : (w.alloc (.cells #[.pointer (some ⟨K.d, 0, none⟩), .int .u32 0, .slice none 0 0, .int .i64 0, .bool false] 69)).heap.size = w.heap.size + 1 := by simp
  rw [← hjb]
  have HJB := Lib.hid hjb
  clear hjb
  go_loopw [6, 22] (fun f i wr => GenRel w jb K.d M.S f i wr) (fun _ i _ => 2 - (intOf i).toNat)
  case atStart => exact ⟨0, by omega, rfl, rfl, hj0, hk0⟩
  case round =>
    obtain ⟨m, hm, rfl, rfl, hj, hbw⟩ := hrel
    clear hj0 hk0
    by_cases hml : m < 2
    · have hmI : (m : Int) < 2 := by omega
      have hread := jread_any wr jb K.d _ _ _ _ K M hj (hdd hbw) rfl m (by omega) hdn
      obtain ⟨sl, hsl⟩ : ∃ sl, M.S.getD m [] = sl := ⟨_, rfl⟩
      rw [hsl] at hread
      have hstep : genS M.S (m + 1) = if isHead sl m && (!(genS M.S m).1 || decide ((genS M.S m).2 < read4 sl 4)) then (true, read4 sl 4) else genS M.S m := by
        simp only [genS, genStep, hsl]
      have hg32 := genS_lt M.S m
      obtain ⟨st, hst⟩ : ∃ st, genS M.S m = st := ⟨_, rfl⟩
      rw [hst] at hstep hj hg32 ⊢
      have Hread := Lib.hid hread; have Hstep := Lib.hid hstep
      have h4 := read4_lt sl 4
      clear hread hstep hst hsl
      obtain ⟨fd, gg⟩ := st
      dsimp only at hg32
      cases hin : intact sl with
      | false =>
        have hs : genS M.S (m + 1) = (fd, gg) := by rw [Hstep.out, if_neg (by simp [isHead, hin])]
        go_wp2_with fail
        refine Hread.out.mono ?_
        rintro e w2 ⟨sb, rfl, hsb, hsec, hb2⟩
        go_wp2_with fail
        refine (get_any w2 sb sl hsec 4 (by omega)).mono ?_
        rintro e w' ⟨rfl, rfl⟩
        go_wp2_with fail
        refine (intact_any w2 (hqq (hbw.trans (hb2.mono hbw.size))) sb sl hsec).mono ?_
        rintro e w3 ⟨rfl, q, hw3⟩
        have hb3 : Below wr.heap.size wr w3 := by rw [← hw3]; exact ⟨hb2.os, hb2.tape, hb2.output, hb2.size, hb2.block⟩
        have hsec3 : SecAt w3 sb sl := by rw [← hw3]; exact hsec
        have hbw3 : Below w.heap.size w w3 := hbw.trans (hb3.mono hbw.size)
        have hj3 : JBlk w3 jb K.d gg (.slice none 0 0) 0 false := Blk.keep hj (hb3.block jb (Blk.lt hj))
        have hconv := run_str (Bytes.take (a := some ⟨sb, 0, none⟩) (cap := 64) (l := sl) (by have := hsec3.bytes; rw [hsec3.2]; exact this) 4 (by rw [hsec3.2]; omega))
        clear hw3 hb2 hsec hb3
        rw [hin]
        have Hs := Lib.hid hs; have Hj3 := Lib.hid hj3; have Hb3 := Lib.hid hbw3
        have c1 := hj3.cell 1
        simp at c1
        clear hs hj3 hbw3 hsec3 hbw hj
        go_wp2_with fail
        go_roundw
        case rel => exact ⟨m + 1, by omega, by go_num, by rw [Hs.out], by rw [Hs.out]; exact Hj3.out, Hb3.out⟩
        case measure => simp [intOf]; omega
      | true =>
        by_cases hmg : sl.take 4 = [72, 78, 75, 74]
        · by_cases hpar : (read4 sl 4 : Int) % 2 = (m : Int)
          · have hparN : read4 sl 4 % 2 = m := by omega
            have hhead : isHead sl m = true := by simp [isHead, hin, hmg, hparN, magicB]
            cases fd with
            | false =>
              have hs : genS M.S (m + 1) = (true, read4 sl 4) := by rw [Hstep.out, if_pos (by simp [hhead])]
              clear hhead hparN
              go_wp2_with fail
              refine Hread.out.mono ?_
              rintro e w2 ⟨sb, rfl, hsb, hsec, hb2⟩
              go_wp2_with fail
              refine (get_any w2 sb sl hsec 4 (by omega)).mono ?_
              rintro e w' ⟨rfl, rfl⟩
              go_wp2_with fail
              refine (intact_any w2 (hqq (hbw.trans (hb2.mono hbw.size))) sb sl hsec).mono ?_
              rintro e w3 ⟨rfl, q, hw3⟩
              have hb3 : Below wr.heap.size wr w3 := by rw [← hw3]; exact ⟨hb2.os, hb2.tape, hb2.output, hb2.size, hb2.block⟩
              have hsec3 : SecAt w3 sb sl := by rw [← hw3]; exact hsec
              have hbw3 : Below w.heap.size w w3 := hbw.trans (hb3.mono hbw.size)
              have hj3 : JBlk w3 jb K.d gg (.slice none 0 0) 0 false := Blk.keep hj (hb3.block jb (Blk.lt hj))
              have hconv := run_str (Bytes.take (a := some ⟨sb, 0, none⟩) (cap := 64) (l := sl) (by have := hsec3.bytes; rw [hsec3.2]; exact this) 4 (by rw [hsec3.2]; omega))
              clear hw3 hb2 hsec hb3
              rw [hin]
              have Hs := Lib.hid hs
              have c1 := hj3.cell 1
              have f1 := hj3.free 1
              simp at c1
              have hj4 : JBlk (w3.setCell ⟨jb, 1, none⟩ (.int .u32 (read4 sl 4 : Int))) jb K.d (read4 sl 4) (.slice none 0 0) 0 false := by
                have := hj3.set 1 (.int .u32 (read4 sl 4 : Int))
                simpa [JBlk] using this
              have hb4 : Below w.heap.size w (w3.setCell ⟨jb, 1, none⟩ (.int .u32 (read4 sl 4 : Int))) := hbw3.setCell hjl _
              have Hj4 := Lib.hid hj4; have Hb4 := Lib.hid hb4
              clear hs hj3 hbw3 hsec3 hbw hj hj4 hb4
              go_wp2_with fail
              go_roundw
              case rel => exact ⟨m + 1, by omega, by go_num, by rw [Hs.out], by rw [Hs.out]; exact Hj4.out, Hb4.out⟩
              case measure => simp [intOf]; omega
            | true =>
              by_cases hgt : (gg : Int) < (read4 sl 4 : Int)
              · have hs : genS M.S (m + 1) = (true, read4 sl 4) := by rw [Hstep.out, if_pos (by simp [hhead]; omega)]
                clear hhead hparN
                go_wp2_with fail
                refine Hread.out.mono ?_
                rintro e w2 ⟨sb, rfl, hsb, hsec, hb2⟩
                go_wp2_with fail
                refine (get_any w2 sb sl hsec 4 (by omega)).mono ?_
                rintro e w' ⟨rfl, rfl⟩
                go_wp2_with fail
                refine (intact_any w2 (hqq (hbw.trans (hb2.mono hbw.size))) sb sl hsec).mono ?_
                rintro e w3 ⟨rfl, q, hw3⟩
                have hb3 : Below wr.heap.size wr w3 := by rw [← hw3]; exact ⟨hb2.os, hb2.tape, hb2.output, hb2.size, hb2.block⟩
                have hsec3 : SecAt w3 sb sl := by rw [← hw3]; exact hsec
                have hbw3 : Below w.heap.size w w3 := hbw.trans (hb3.mono hbw.size)
                have hj3 : JBlk w3 jb K.d gg (.slice none 0 0) 0 false := Blk.keep hj (hb3.block jb (Blk.lt hj))
                have hconv := run_str (Bytes.take (a := some ⟨sb, 0, none⟩) (cap := 64) (l := sl) (by have := hsec3.bytes; rw [hsec3.2]; exact this) 4 (by rw [hsec3.2]; omega))
                clear hw3 hb2 hsec hb3
                rw [hin]
                have Hs := Lib.hid hs
                have c1 := hj3.cell 1
                have f1 := hj3.free 1
                simp at c1
                have hj4 : JBlk (w3.setCell ⟨jb, 1, none⟩ (.int .u32 (read4 sl 4 : Int))) jb K.d (read4 sl 4) (.slice none 0 0) 0 false := by
                  have := hj3.set 1 (.int .u32 (read4 sl 4 : Int))
                  simpa [JBlk] using this
                have hb4 : Below w.heap.size w (w3.setCell ⟨jb, 1, none⟩ (.int .u32 (read4 sl 4 : Int))) := hbw3.setCell hjl _
                have Hj4 := Lib.hid hj4; have Hb4 := Lib.hid hb4
                clear hs hj3 hbw3 hsec3 hbw hj hj4 hb4
                go_wp2_with fail
                go_roundw
                case rel => exact ⟨m + 1, by omega, by go_num, by rw [Hs.out], by rw [Hs.out]; exact Hj4.out, Hb4.out⟩
                case measure => simp [intOf]; omega
              · have hs : genS M.S (m + 1) = (true, gg) := by rw [Hstep.out, if_neg (by simp; omega)]
                clear hhead hparN
                go_wp2_with fail
                refine Hread.out.mono ?_
                rintro e w2 ⟨sb, rfl, hsb, hsec, hb2⟩
                go_wp2_with fail
                refine (get_any w2 sb sl hsec 4 (by omega)).mono ?_
                rintro e w' ⟨rfl, rfl⟩
                go_wp2_with fail
                refine (intact_any w2 (hqq (hbw.trans (hb2.mono hbw.size))) sb sl hsec).mono ?_
                rintro e w3 ⟨rfl, q, hw3⟩
                have hb3 : Below wr.heap.size wr w3 := by rw [← hw3]; exact ⟨hb2.os, hb2.tape, hb2.output, hb2.size, hb2.block⟩
                have hsec3 : SecAt w3 sb sl := by rw [← hw3]; exact hsec
                have hbw3 : Below w.heap.size w w3 := hbw.trans (hb3.mono hbw.size)
                have hj3 : JBlk w3 jb K.d gg (.slice none 0 0) 0 false := Blk.keep hj (hb3.block jb (Blk.lt hj))
                have hconv := run_str (Bytes.take (a := some ⟨sb, 0, none⟩) (cap := 64) (l := sl) (by have := hsec3.bytes; rw [hsec3.2]; exact this) 4 (by rw [hsec3.2]; omega))
                clear hw3 hb2 hsec hb3
                rw [hin]
                have Hs := Lib.hid hs; have Hj3 := Lib.hid hj3; have Hb3 := Lib.hid hbw3
                have c1 := hj3.cell 1
                simp at c1
                clear hs hj3 hbw3 hsec3 hbw hj
                go_wp2_with fail
                go_roundw
                case rel => exact ⟨m + 1, by omega, by go_num, by rw [Hs.out], by rw [Hs.out]; exact Hj3.out, Hb3.out⟩
                case measure => simp [intOf]; omega
          · have hs : genS M.S (m + 1) = (fd, gg) := by rw [Hstep.out, if_neg (by simp [isHead]; omega)]
            go_wp2_with fail
            refine Hread.out.mono ?_
            rintro e w2 ⟨sb, rfl, hsb, hsec, hb2⟩
            go_wp2_with fail
            refine (get_any w2 sb sl hsec 4 (by omega)).mono ?_
            rintro e w' ⟨rfl, rfl⟩
            go_wp2_with fail
            refine (intact_any w2 (hqq (hbw.trans (hb2.mono hbw.size))) sb sl hsec).mono ?_
            rintro e w3 ⟨rfl, q, hw3⟩
            have hb3 : Below wr.heap.size wr w3 := by rw [← hw3]; exact ⟨hb2.os, hb2.tape, hb2.output, hb2.size, hb2.block⟩
            have hsec3 : SecAt w3 sb sl := by rw [← hw3]; exact hsec
            have hbw3 : Below w.heap.size w w3 := hbw.trans (hb3.mono hbw.size)
            have hj3 : JBlk w3 jb K.d gg (.slice none 0 0) 0 false := Blk.keep hj (hb3.block jb (Blk.lt hj))
            have hconv := run_str (Bytes.take (a := some ⟨sb, 0, none⟩) (cap := 64) (l := sl) (by have := hsec3.bytes; rw [hsec3.2]; exact this) 4 (by rw [hsec3.2]; omega))
            clear hw3 hb2 hsec hb3
            rw [hin]
            have Hs := Lib.hid hs; have Hj3 := Lib.hid hj3; have Hb3 := Lib.hid hbw3
            have c1 := hj3.cell 1
            simp at c1
            clear hs hj3 hbw3 hsec3 hbw hj
            go_wp2_with fail
            go_roundw
            case rel => exact ⟨m + 1, by omega, by go_num, by rw [Hs.out], by rw [Hs.out]; exact Hj3.out, Hb3.out⟩
            case measure => simp [intOf]; omega
        · have hs : genS M.S (m + 1) = (fd, gg) := by rw [Hstep.out, if_neg (by simp [isHead, magicB, hmg])]
          go_wp2_with fail
          refine Hread.out.mono ?_
          rintro e w2 ⟨sb, rfl, hsb, hsec, hb2⟩
          go_wp2_with fail
          refine (get_any w2 sb sl hsec 4 (by omega)).mono ?_
          rintro e w' ⟨rfl, rfl⟩
          go_wp2_with fail
          refine (intact_any w2 (hqq (hbw.trans (hb2.mono hbw.size))) sb sl hsec).mono ?_
          rintro e w3 ⟨rfl, q, hw3⟩
          have hb3 : Below wr.heap.size wr w3 := by rw [← hw3]; exact ⟨hb2.os, hb2.tape, hb2.output, hb2.size, hb2.block⟩
          have hsec3 : SecAt w3 sb sl := by rw [← hw3]; exact hsec
          have hbw3 : Below w.heap.size w w3 := hbw.trans (hb3.mono hbw.size)
          have hj3 : JBlk w3 jb K.d gg (.slice none 0 0) 0 false := Blk.keep hj (hb3.block jb (Blk.lt hj))
          have hconv := run_str (Bytes.take (a := some ⟨sb, 0, none⟩) (cap := 64) (l := sl) (by have := hsec3.bytes; rw [hsec3.2]; exact this) 4 (by rw [hsec3.2]; omega))
          clear hw3 hb2 hsec hb3
          rw [hin]
          have Hs := Lib.hid hs; have Hj3 := Lib.hid hj3; have Hb3 := Lib.hid hbw3
          have c1 := hj3.cell 1
          simp at c1
          clear hs hj3 hbw3 hsec3 hbw hj
          go_wp2_with fail
          go_roundw
          case rel => exact ⟨m + 1, by omega, by go_num, by rw [Hs.out], by rw [Hs.out]; exact Hj3.out, Hb3.out⟩
          case measure => simp [intOf]; omega
    · have hmI : ¬ (m : Int) < 2 := by omega
      obtain rfl : m = 2 := by omega
      have hgen := genM_eq M.S
      have hg32 := genS_lt M.S 2
      obtain ⟨st, hst⟩ : ∃ st, genS M.S 2 = st := ⟨_, rfl⟩
      rw [hst] at hj hgen hg32 ⊢
      obtain ⟨fd, g⟩ := st
      dsimp only at hj hgen hg32 ⊢
      cases fd with
      | false =>
        have hr := Hr.out
        rw [hgen] at hr
        have Hr2 := Lib.hid hr
        clear hr hgen hst
        go_wp2_with fail
        go_ret2
        rw [Hr2.out]
        exact ⟨rfl, hbw⟩
      | true =>
        have hr := Hr.out
        rw [hgen] at hr
        have Hr2 := Lib.hid hr
        clear hr hgen hst
        have hS : ∀ s ∈ M.S, s.length = 64 := by obtain ⟨L, -, hL⟩ := hd.secs; exact hL.2.2
        go_wp2_with fail
        go_loopw [10] (fun v wr => AddRel w jb K.d g M.S v wr) (fun _ wr => halfN M.S.length + 1 - takenOf jb wr)
        case atStart => exact ⟨none, 0, none_, [], rfl, by simpa [takenL] using hj, RowsIn.nil _ 0, fun b hb => by rcases hb with hb | hb; exact absurd hb (by simp [Value.ownBlock]); exact hb.elim, by simp [takenL], by simp, by simp [takenL], hbw⟩
        case round =>
          clear hj hbw
          obtain ⟨ra, rc, R, L, -, hj, hr, hown, htk, hlens, hrec, hbw⟩ := hrel
          have hLT := length_le_taken L
          have hH : halfN M.S.length ≤ 32768 := by unfold halfN; omega
          have hsz := hbw.size
          have hnext := next_any _ jb K.d g (takenL L) L.length ra rc false K M hj (hdd hbw) rfl (hqq hbw) hdn (by omega) hg32 (by omega) (by omega) (by omega)
          have Hnext := Lib.hid hnext
          clear hnext
          go_wp2_with fail
          refine Hnext.out.mono ?_
          rintro e w2 ⟨hm, hb2⟩
          cases hrm : recordM M.S g L.length (takenL L) with
          | none =>
            rw [hrm] at hm
            dsimp only at hm
            subst hm
            have hLL : recordsM M.S g (halfN M.S.length + 1) 0 0 = L := by rw [hrec, recordsM_none hrm, List.append_nil]
            have HLL := Lib.hid hLL
            clear hLL hrec hrm
            go_wp2_with fail
            go_ret2
            rw [Hr2.out]
            simp only [if_true]
            rw [HLL.out]
            refine ⟨⟨⟨jb, K, fun b => (Value.slice ra L.length rc).ownBlock = some b ∨ R b⟩, rfl, rfl, ⟨hdd (hbw.trans (hb2.mono hsz)), ⟨ra, rc, R, Blk.keep hj (hb2.block jb (Blk.lt hj)), hr.kept hb2, fun b hb => hb⟩, ⟨fun h => by have h1 := hd.lt _ h; have := HJB.out; dsimp only at h1; omega, fun b hb => ⟨(hown b hb).2.1, fun h => by have h1 := hd.lt _ h; have := (hown b hb).1; omega, by have := (hown b hb).2.2; have := hb2.size; omega⟩⟩, by show 8 ≤ M.S.length; omega, htk, hg32, hlens⟩, ?_⟩, hbw.trans (hb2.mono hsz)⟩
            rintro b (hb | hb | hb)
            · exact .inr (by rw [hb]; exact hjl)
            · exact .inl hb
            · exact .inr (hown b hb).1
          | some bb =>
            rw [hrm] at hm
            dsimp only at hm
            obtain ⟨v, rfl, hbv, hbl⟩ := hm
            obtain ⟨hfit, -⟩ := recordM_some hS hrm
            have hrec2 : recordsM M.S g (halfN M.S.length + 1) 0 0 = (L ++ [bb]) ++ recordsM M.S g (halfN M.S.length + 1 - (L ++ [bb]).length) (L ++ [bb]).length (takenL (L ++ [bb])) := by
              rw [hrec, show halfN M.S.length + 1 - L.length = (halfN M.S.length - L.length) + 1 by omega, recordsM_some hrm, takenL_snoc]
              simp
            have hj2 : JBlk w2 jb K.d g (.slice ra L.length rc) (takenL L) false := Blk.keep hj (hb2.block jb (Blk.lt hj))
            have hbw2 := hbw.trans (hb2.mono hsz)
            have hadd := add_any w2 jb K.d g (takenL L) _ false R L hj2 (hr.kept hb2) (fun b hb => ⟨(hown b hb).2.1, by have := (hown b hb).2.2; have := hb2.size; omega⟩) _ v bb hbv hbl (by omega) (by omega)
            have Hadd := Lib.hid hadd; have Hrec2 := Lib.hid hrec2
            have ht0 := hj.cell 3
            have hjz := Blk.lt hj
            have hz2 := hb2.size
            simp at ht0
            have Ht0 := Lib.hid ht0
            have htp := takes_pos bb.length
            clear hadd hrec2 hrec hrm hj2 hbv hr ht0
            go_wp2_with fail
            refine Hadd.out.mono ?_
            rintro e w4 ⟨rfl, ra', rc', R', hj4, hr4, ho4, hown4⟩
            have hbw4 : Below w.heap.size w w4 := hbw2.trans (ho4.below (fun b hb => by
              rcases hb with hb | hb
              · rw [hb]; exact hjl
              · exact (hown b (.inl hb)).1) hbw2.size)
            have ht4 := hj4.cell 3
            simp at ht4
            have Hj4 := Lib.hid hj4; have Hr4 := Lib.hid hr4; have Hb4 := Lib.hid hbw4; have Ht4 := Lib.hid ht4
            clear hj4 hr4 hbw4 ht4 ho4
            go_wp2_with fail
            go_roundw
            case rel =>
              refine ⟨ra', rc', R', L ++ [bb], rfl, by rw [takenL_snoc]; simpa using Hj4.out, by simpa using Hr4.out, fun b hb => ?_, by rw [takenL_snoc]; exact hfit, fun b hb => ?_, Hrec2.out, Hb4.out⟩
              · obtain ⟨h1, h2⟩ := hown4 b (by simpa using hb)
                rcases h1 with h1 | h1
                · exact ⟨(hown b h1).1, (hown b h1).2.1, h2⟩
                · exact ⟨by omega, by omega, h2⟩
              · rcases List.mem_append.1 hb with hb | hb
                · exact hlens b hb
                · obtain rfl := List.mem_singleton.1 hb; exact hbl
            case measure =>
              have e4 : takenOf jb w4 = takenL L + takes bb.length := by unfold takenOf; rw [Ht4.out]; simp [intOf]; omega
              have e0 : takenOf jb wr = takenL L := by unfold takenOf; rw [Ht0.out]; simp [intOf]
              rw [e4, e0]
              omega
end Go.Proofs.YtmimplmeccoahaaDoor
