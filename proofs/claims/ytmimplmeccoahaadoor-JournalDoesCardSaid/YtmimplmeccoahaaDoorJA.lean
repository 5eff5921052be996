/- The acts of henkanlaw35: arguments, light. -/
import Derived.Test.YtmimplmeccoahaaDoorJL4
namespace Go.Proofs.YtmimplmeccoahaaDoor
open Go.RowKit Go.ChangeShapes Go.WideShapes Go.ChangeAt
set_option linter.unusedVariables false
set_option maxRecDepth 20000
attribute [local go_sem] opC upC

/-- the cells of an act, in a world -/
def IsActIn (w : World) (cs : List Value) : Prop :=
  ∃ (kind n m : Int) (vB : Value) (l : List UInt8), cs = [.int .u8 kind, .int .u16 n, .int .u16 m, vB] ∧ Bytes (fun b => b < w.heap.size) w vB l ∧
    (0 ≤ kind ∧ kind ≤ 255) ∧ (0 ≤ n ∧ n ≤ 65535) ∧ (0 ≤ m ∧ m ≤ 65535)

theorem cellsAct : Tryd.prog.cellsOf 32 = 4 := by kernel_rfl
theorem cellsU16 : Tryd.prog.cellsOf 23 = 1 := by kernel_rfl
theorem cellsBs : Tryd.prog.cellsOf 30 = 1 := by kernel_rfl
theorem bounds_u16 {z : Int} (w : (Lit.int .u16 z).wf = true) : 0 ≤ z ∧ z ≤ 65535 := by
  simp [Lit.wf] at w
  have h1 : (IntKind.u16.min : Int) = 0 := by decide
  have h2 : (IntKind.u16.max : Int) = 65535 := by decide
  exact ⟨h1 ▸ w.1, h2 ▸ w.2⟩

theorem act_of_trod {H : Type} {enc : TypeId × Value → H} {w : World} {base m : Nat} {held : Bool} {cs : List Value} {y : DataW H × List MemPlace}
    (hy : DataW.trod enc Tryd.prog w base (fun _ => true) held m 32 cs = some y) : IsActIn w cs := by
  obtain ⟨xs, n, _, _, hlen, hxl, hg⟩ := DataW.trod_struct Tryd.underlying32 hy
  have g0 := hg 0 _ rfl
  have g1 := hg 1 _ rfl
  have g2 := hg 2 _ rfl
  have g3 := hg 3 _ rfl
  rw [cellsAct] at hlen
  match cs, hlen, xs, hxl with
  | [c0, c1, c2, c3], _, [x0, x1, x2, x3], _ =>
    simp [cellsU8j, cellsU16, cellsBs] at g0 g1 g2 g3
    obtain ⟨z0, e0, _, wz0⟩ := DataW.trod_int Tryd.underlying5 g0
    obtain ⟨z1, e1, _, wz1⟩ := DataW.trod_int Tryd.underlying23 g1
    obtain ⟨z2, e2, _, wz2⟩ := DataW.trod_int Tryd.underlying23 g2
    obtain ⟨l, hl⟩ := read_bytes Tryd.underlying30 Tryd.underlying5 cellsU8j g3
    simp at e0 e1 e2
    subst e0 e1 e2
    exact ⟨z0, z1, z2, c3, l, rfl, hl, bounds_u8 wz0, bounds_u16 wz1, bounds_u16 wz2⟩

def IsActs (w : World) (v : Value) : Prop := ∃ n, RowOf 4 (IsActIn w) w v n
theorem open_Acts {H : Type} {enc : TypeId × Value → H} {w : World} {b0 : Nat} {v : Value} {d : DataW H} {p : List MemPlace}
    (hv : Value.okWide Tryd.prog w .any b0 22 v) (h : DataW.Trod enc Tryd.prog w 0 (fun _ => true) true 22 v d p) : IsActs w v := by
  obtain ⟨a0, len0, cap0, rfl⟩ := okWide_slice Tryd.underlying22 hv
  obtain ⟨fuel, hf⟩ := h
  exact read_row (by omega) Tryd.underlying22 cellsAct (IsActIn w) (fun m cs y hy => act_of_trod hy) hf

/-- the acts that came in, as data -/
structure MAct where
  kind : Int
  n : Int
  m : Int
  b : List UInt8
/-- v is a slice of acts, their bytes in blocks below lo; its own block too -/
def ActsAt (w : World) (lo : Nat) (v : Value) (A : List MAct) : Prop :=
  ∃ a cap, v = .slice a A.length cap ∧ A.length ≤ 9223372036854775807 ∧ (A = [] ∨ ∃ b off, a = some ⟨b, off, none⟩ ∧ b < lo ∧ ∀ i (h : i < A.length), (0 ≤ A[i].kind ∧ A[i].kind ≤ 255) ∧ (0 ≤ A[i].n ∧ A[i].n ≤ 65535) ∧ (0 ≤ A[i].m ∧ A[i].m ≤ 65535) ∧
    ∃ x c, w.cell? ⟨b, off + i * 4, none⟩ = some (.int .u8 A[i].kind) ∧ w.cell? ⟨b, off + i * 4 + 1, none⟩ = some (.int .u16 A[i].n) ∧ w.cell? ⟨b, off + i * 4 + 2, none⟩ = some (.int .u16 A[i].m) ∧ w.cell? ⟨b, off + i * 4 + 3, none⟩ = some (.slice x A[i].b.length c) ∧ Bytes (fun b => b < lo) w (.slice x A[i].b.length c) A[i].b)

theorem acts_of {w : World} {v : Value} (h : IsActs w v) : ∃ A, ActsAt w w.heap.size v A := by
  obtain ⟨n, a, cap, rfl, h1, h2, h3, h4⟩ := h
  have hn9 : n ≤ 9223372036854775807 := by unfold maxLen at h2; omega
  rcases h4 with rfl | ⟨b, off, L, t, fz, rfl, hb, hg, hle, hE⟩
  · exact ⟨[], a, cap, rfl, by simp, .inl rfl⟩
  · have hex : ∀ i, i < n → ∃ A : MAct, (0 ≤ A.kind ∧ A.kind ≤ 255) ∧ (0 ≤ A.n ∧ A.n ≤ 65535) ∧ (0 ≤ A.m ∧ A.m ≤ 65535) ∧
        ∃ x c, w.cell? ⟨b, off + i * 4, none⟩ = some (.int .u8 A.kind) ∧ w.cell? ⟨b, off + i * 4 + 1, none⟩ = some (.int .u16 A.n) ∧ w.cell? ⟨b, off + i * 4 + 2, none⟩ = some (.int .u16 A.m) ∧ w.cell? ⟨b, off + i * 4 + 3, none⟩ = some (.slice x A.b.length c) ∧ Bytes (fun b => b < w.heap.size) w (.slice x A.b.length c) A.b := by
      intro i hi
      obtain ⟨kind, n', m, vB, l, he, hB, k1, k2, k3⟩ := hE i hi
      have hB0 := hB
      obtain ⟨x, c, rfl, hc, hm, -, -⟩ := hB
      have hget : ∀ j u, [Value.int .u8 kind, .int .u16 n', .int .u16 m, .slice x l.length c][j]? = some u → j < 4 → w.cell? ⟨b, off + i * 4 + j, none⟩ = some u := fun j u hu hj => by
        rw [← he, List.getElem?_take, if_pos hj, List.getElem?_drop] at hu
        rw [cell_of_row w b _ L t fz hg]
        simpa using hu
      exact ⟨⟨kind, n', m, l⟩, k1, k2, k3, x, c, hget 0 _ rfl (by omega), hget 1 _ rfl (by omega), hget 2 _ rfl (by omega), hget 3 _ rfl (by omega), hB0⟩
    let f : Nat → MAct := fun i => if h : i < n then Classical.choose (hex i h) else ⟨0, 0, 0, []⟩
    have hf : ∀ i, (h : i < n) → _ := fun i h => Classical.choose_spec (hex i h)
    have hfe : ∀ i, (h : i < n) → f i = Classical.choose (hex i h) := fun i h => by simp only [f, dif_pos h]
    refine ⟨(List.range n).map f, some ⟨b, off, none⟩, cap, by simp, by simpa using hn9, .inr ⟨b, off, rfl, hb, fun i hi => ?_⟩⟩
    have hi' : i < n := by simpa using hi
    have e : ((List.range n).map f)[i] = Classical.choose (hex i hi') := by simp [hfe i hi']
    rw [e]
    exact hf i hi'

theorem ActsAt.kept {w w' : World} {lo : Nat} {v : Value} {A : List MAct} (h : ActsAt w lo v A) (hb : Below lo w w') : ActsAt w' lo v A := by
  obtain ⟨a, cap, rfl, h9, h⟩ := h
  refine ⟨a, cap, rfl, h9, ?_⟩
  rcases h with h | ⟨b, off, rfl, hlt, h⟩
  · exact .inl h
  · refine .inr ⟨b, off, rfl, hlt, fun i hi => ?_⟩
    obtain ⟨h1, h2, h3, x, c, c0, c1, c2, c3, hB⟩ := h i hi
    have hc : ∀ j, w'.cell? ⟨b, j, none⟩ = w.cell? ⟨b, j, none⟩ := fun j => hb.cell (p := ⟨b, j, none⟩) hlt
    exact ⟨h1, h2, h3, x, c, by rw [hc]; exact c0, by rw [hc]; exact c1, by rw [hc]; exact c2, by rw [hc]; exact c3, hB.keep fun b hb' _ => hb.block b hb'⟩

def lightM (A : List MAct) : Prop := A.length ≤ 60 ∧ ∀ a ∈ A, a.b.length ≤ 3000

def LightPost (w : World) (lo : Nat) (A : List MAct) (e : Ending) (w' : World) : Prop := ∃ r : Bool, e = .returned (.bool r) ∧ (r = true → lightM A) ∧ Below lo w w'
theorem light_any (w : World) (lo : Nat) (v : Value) (A : List MAct) (h : ActsAt w lo v A) (hlo : lo ≤ w.heap.size) :
    Calls Tryd.prog 12 #[v] w (LightPost w lo A) := by
  obtain ⟨a, cap, rfl, h9, hx⟩ := h
  obtain ⟨n, hn⟩ : ∃ n, A.length = n := ⟨_, rfl⟩
  rw [hn] at h9 ⊢
  have Hx := Lib.hid hx; have Hn := Lib.hid hn
  clear hx hn
  go_enter Tryd.func12, Tryd.ntmps12
  go_wp2_with fail
  go_loopw [7] (fun i wr => ∃ k : Nat, k ≤ n ∧ i = .int .i64 (k : Int) ∧ (∀ j (h : j < A.length), j < k → A[j].b.length ≤ 3000) ∧ Below lo w wr) (fun i _ => n - (intOf i).toNat)
  case atStart => exact ⟨0, by omega, rfl, fun j h hj => by omega, Below.refl _ _⟩
  case round =>
    obtain ⟨k, hk, rfl, hsh, hbw⟩ := hrel
    have Hsh := Lib.hid hsh; clear hsh
    by_cases hkn : k < n
    · have hkI : (k : Int) < (n : Int) := by omega
      have hkA : k < A.length := by rw [Hn.out]; exact hkn
      obtain ⟨b, off, rfl, hblt, hc⟩ := Hx.out.resolve_left (by intro e; rw [e] at hkA; simp at hkA)
      obtain ⟨-, -, -, x, c, c0, c1, c2, c3, hB⟩ := hc k hkA
      rw [← hbw.cell (p := ⟨b, off + k * 4, none⟩) hblt] at c0
      rw [← hbw.cell (p := ⟨b, off + k * 4 + 1, none⟩) hblt] at c1
      rw [← hbw.cell (p := ⟨b, off + k * 4 + 2, none⟩) hblt] at c2
      rw [← hbw.cell (p := ⟨b, off + k * 4 + 3, none⟩) hblt] at c3
      obtain ⟨q, hq⟩ : ∃ q, A[k].b.length = q := ⟨_, rfl⟩
      rw [hq] at c3
      have hsz := hbw.size
      have hb' : Below lo w (wr.alloc (.cells #[.int .u8 A[k].kind, .int .u16 A[k].n, .int .u16 A[k].m, .slice x q c] 32)) := hbw.alloc (by omega) _
      have Hb := Lib.hid hb'
      clear hb'
      by_cases h3 : 3000 < q
      · have hd : decide ((3000 : Int) < (q : Int)) = true := by simp; omega
        go_wp2_with fail
        go_ret
        exact ⟨false, rfl, nofun, Hb.out⟩
      · have hd : decide ((3000 : Int) < (q : Int)) = false := by simp; omega
        go_wp2_with fail
        go_round
        case rel => exact ⟨k + 1, by omega, by go_num, fun j hj hjk => by
          by_cases e : j = k
          · subst e; omega
          · exact Hsh.out j hj (by omega), Hb.out⟩
        case measure => simp [intOf]; omega
    · have hkI : ¬ (k : Int) < (n : Int) := by omega
      obtain rfl : k = n := by omega
      go_wp2_with fail
      go_ret
      refine ⟨decide ((k : Int) ≤ 60), rfl, fun h => ⟨by have := Hn.out; simp at h; omega, fun a ha => ?_⟩, hbw⟩
      obtain ⟨i, hi, rfl⟩ := List.getElem_of_mem ha
      exact Hsh.out i hi (by rw [← Hn.out]; exact hi)
end Go.Proofs.YtmimplmeccoahaaDoor
