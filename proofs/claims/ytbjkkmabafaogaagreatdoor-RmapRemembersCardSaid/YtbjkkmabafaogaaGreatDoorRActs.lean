/- The acts of henkanlaw33 as arguments; key, named. -/
import Derived.Test.YtbjkkmabafaogaaGreatDoorRMB
namespace Go.Proofs.YtbjkkmabafaogaaGreatDoor
open Go.RowKit Go.ChangeShapes Go.WideShapes Go.ChangeAt
set_option linter.unusedVariables false
set_option maxRecDepth 20000
attribute [local go_sem ↓] seal_append
attribute [local go_sem] opC upC

/-! arguments -/
def IsActIn (w : World) (cs : List Value) : Prop :=
  ∃ (kind dev frm : Int) (vB : Value) (l : List UInt8), cs = [.int .u8 kind, .int .u8 dev, .int .u8 frm, vB] ∧ Bytes (fun b => b < w.heap.size) w vB l ∧
    (0 ≤ kind ∧ kind ≤ 255) ∧ (0 ≤ dev ∧ dev ≤ 255) ∧ (0 ≤ frm ∧ frm ≤ 255)
theorem cellsAct : Tryz.prog.cellsOf 116 = 4 := by kernel_rfl
theorem cellsU8r : Tryz.prog.cellsOf 5 = 1 := by kernel_rfl
theorem cellsBsr : Tryz.prog.cellsOf 48 = 1 := by kernel_rfl
theorem act_of_trod {H : Type} {enc : TypeId × Value → H} {w : World} {base m : Nat} {held : Bool} {cs : List Value} {y : DataW H × List MemPlace}
    (hy : DataW.trod enc Tryz.prog w base (fun _ => true) held m 116 cs = some y) : IsActIn w cs := by
  obtain ⟨xs, n, _, _, hlen, hxl, hg⟩ := DataW.trod_struct Tryz.underlying116 hy
  have g0 := hg 0 _ rfl
  have g1 := hg 1 _ rfl
  have g2 := hg 2 _ rfl
  have g3 := hg 3 _ rfl
  rw [cellsAct] at hlen
  match cs, hlen, xs, hxl with
  | [c0, c1, c2, c3], _, [x0, x1, x2, x3], _ =>
    simp [cellsU8r, cellsBsr] at g0 g1 g2 g3
    obtain ⟨z0, e0, _, wz0⟩ := DataW.trod_int Tryz.underlying5 g0
    obtain ⟨z1, e1, _, wz1⟩ := DataW.trod_int Tryz.underlying5 g1
    obtain ⟨z2, e2, _, wz2⟩ := DataW.trod_int Tryz.underlying5 g2
    obtain ⟨l, hl⟩ := read_bytes Tryz.underlying48 Tryz.underlying5 cellsU8r g3
    simp at e0 e1 e2
    subst e0 e1 e2
    exact ⟨z0, z1, z2, c3, l, rfl, hl, bounds_u8 wz0, bounds_u8 wz1, bounds_u8 wz2⟩
def IsActs (w : World) (v : Value) : Prop := ∃ n, RowOf 4 (IsActIn w) w v n
theorem open_Acts {H : Type} {enc : TypeId × Value → H} {w : World} {b0 : Nat} {v : Value} {d : DataW H} {p : List MemPlace}
    (hv : Value.okWide Tryz.prog w .any b0 58 v) (h : DataW.Trod enc Tryz.prog w 0 (fun _ => true) true 58 v d p) : IsActs w v := by
  obtain ⟨a0, len0, cap0, rfl⟩ := okWide_slice Tryz.underlying58 hv
  obtain ⟨fuel, hf⟩ := h
  exact read_row (by omega) Tryz.underlying58 cellsAct (IsActIn w) (fun m cs y hy => act_of_trod hy) hf

structure RAct where
  kind : Int
  dev : Int
  frm : Int
  keys : List UInt8
def ActsAt (w : World) (lo : Nat) (v : Value) (A : List RAct) : Prop :=
  ∃ a cap, v = .slice a A.length cap ∧ A.length ≤ 9223372036854775807 ∧ (A = [] ∨ ∃ b off, a = some ⟨b, off, none⟩ ∧ b < lo ∧ ∀ i (h : i < A.length), (0 ≤ A[i].kind ∧ A[i].kind ≤ 255) ∧ (0 ≤ A[i].dev ∧ A[i].dev ≤ 255) ∧ (0 ≤ A[i].frm ∧ A[i].frm ≤ 255) ∧
    ∃ x c, w.cell? ⟨b, off + i * 4, none⟩ = some (.int .u8 A[i].kind) ∧ w.cell? ⟨b, off + i * 4 + 1, none⟩ = some (.int .u8 A[i].dev) ∧ w.cell? ⟨b, off + i * 4 + 2, none⟩ = some (.int .u8 A[i].frm) ∧ w.cell? ⟨b, off + i * 4 + 3, none⟩ = some (.slice x A[i].keys.length c) ∧ Bytes (fun b => b < lo) w (.slice x A[i].keys.length c) A[i].keys)
theorem acts_of {w : World} {v : Value} (h : IsActs w v) : ∃ A, ActsAt w w.heap.size v A := by
  obtain ⟨n, a, cap, rfl, h1, h2, h3, h4⟩ := h
  have hn9 : n ≤ 9223372036854775807 := by unfold maxLen at h2; omega
  rcases h4 with rfl | ⟨b, off, L, t, fz, rfl, hb, hg, hle, hE⟩
  · exact ⟨[], a, cap, rfl, by simp, .inl rfl⟩
  · have hex : ∀ i, i < n → ∃ A : RAct, (0 ≤ A.kind ∧ A.kind ≤ 255) ∧ (0 ≤ A.dev ∧ A.dev ≤ 255) ∧ (0 ≤ A.frm ∧ A.frm ≤ 255) ∧
        ∃ x c, w.cell? ⟨b, off + i * 4, none⟩ = some (.int .u8 A.kind) ∧ w.cell? ⟨b, off + i * 4 + 1, none⟩ = some (.int .u8 A.dev) ∧ w.cell? ⟨b, off + i * 4 + 2, none⟩ = some (.int .u8 A.frm) ∧ w.cell? ⟨b, off + i * 4 + 3, none⟩ = some (.slice x A.keys.length c) ∧ Bytes (fun b => b < w.heap.size) w (.slice x A.keys.length c) A.keys := by
      intro i hi
      obtain ⟨kind, dev, frm, vB, l, he, hB, k1, k2, k3⟩ := hE i hi
      have hB0 := hB
      obtain ⟨x, c, rfl, hc, hm, -, -⟩ := hB
      have hget : ∀ j u, [Value.int .u8 kind, .int .u8 dev, .int .u8 frm, .slice x l.length c][j]? = some u → j < 4 → w.cell? ⟨b, off + i * 4 + j, none⟩ = some u := fun j u hu hj => by
        rw [← he, List.getElem?_take, if_pos hj, List.getElem?_drop] at hu
        rw [cell_of_row w b _ L t fz hg]
        simpa using hu
      exact ⟨⟨kind, dev, frm, l⟩, k1, k2, k3, x, c, hget 0 _ rfl (by omega), hget 1 _ rfl (by omega), hget 2 _ rfl (by omega), hget 3 _ rfl (by omega), hB0⟩
    let f : Nat → RAct := fun i => if h : i < n then Classical.choose (hex i h) else ⟨0, 0, 0, []⟩
    have hf : ∀ i, (h : i < n) → _ := fun i h => Classical.choose_spec (hex i h)
    have hfe : ∀ i, (h : i < n) → f i = Classical.choose (hex i h) := fun i h => by simp only [f, dif_pos h]
    refine ⟨(List.range n).map f, some ⟨b, off, none⟩, cap, by simp, by simpa using hn9, .inr ⟨b, off, rfl, hb, fun i hi => ?_⟩⟩
    have hi' : i < n := by simpa using hi
    have e : ((List.range n).map f)[i] = Classical.choose (hex i hi') := by simp [hfe i hi']
    rw [e]
    exact hf i hi'
theorem ActsAt.kept {w w' : World} {lo : Nat} {v : Value} {A : List RAct} (h : ActsAt w lo v A) (hb : Below lo w w') : ActsAt w' lo v A := by
  obtain ⟨a, cap, rfl, h9, h⟩ := h
  refine ⟨a, cap, rfl, h9, ?_⟩
  rcases h with h | ⟨b, off, rfl, hlt, h⟩
  · exact .inl h
  · refine .inr ⟨b, off, rfl, hlt, fun i hi => ?_⟩
    obtain ⟨h1, h2, h3, x, c, c0, c1, c2, c3, hB⟩ := h i hi
    have hc : ∀ j, w'.cell? ⟨b, j, none⟩ = w.cell? ⟨b, j, none⟩ := fun j => hb.cell (p := ⟨b, j, none⟩) hlt
    exact ⟨h1, h2, h3, x, c, by rw [hc]; exact c0, by rw [hc]; exact c1, by rw [hc]; exact c2, by rw [hc]; exact c3, hB.keep fun b hb' _ => hb.block b hb'⟩

/-! the five keys -/
def keyN (n : Nat) : RKey := [49, 97, 0, UInt8.ofNat (98 + n % 5)]
def K5 : List RKey := [[49, 97, 0, 98], [49, 97, 0, 99], [49, 97, 0, 100], [49, 97, 0, 101], [49, 97, 0, 102]]
theorem mod5 (n : Nat) : n % 5 = 0 ∨ n % 5 = 1 ∨ n % 5 = 2 ∨ n % 5 = 3 ∨ n % 5 = 4 := by omega
theorem keyN_mem (n : Nat) : keyN n ∈ K5 := by
  unfold keyN K5
  rcases mod5 n with h | h | h | h | h <;> rw [h] <;> decide
theorem K5_ok : ∀ k ∈ K5, keyOk k = true := by
  have h : K5.all keyOk = true := by decide +kernel
  exact List.all_eq_true.1 h
theorem keyN_ok (n : Nat) : keyOk (keyN n) = true := K5_ok _ (keyN_mem n)
theorem keyN_len (n : Nat) : (keyN n).length = 4 := rfl
def addN (acc : List RKey) (c : UInt8) : List RKey := if keyN c.toNat ∈ acc then acc else acc ++ [keyN c.toNat]
def namedK (l : List UInt8) (k : Nat) : List RKey := (l.take k).foldl addN []
def namedN (l : List UInt8) : List RKey := namedK l 10
theorem namedK_succ (l : List UInt8) (k : Nat) (h : k < l.length) : namedK l (k + 1) = addN (namedK l k) l[k] := by
  unfold namedK
  rw [List.take_succ_eq_append_getElem h, List.foldl_append]
  rfl
theorem namedK_end (l : List UInt8) (k : Nat) (h : k = l.length ∨ k = 10) (hk : k ≤ 10) : namedK l k = namedN l := by
  rcases h with rfl | rfl
  · unfold namedN namedK
    rw [List.take_length, List.take_of_length_le hk]
  · rfl
theorem addN_len (acc : List RKey) (c : UInt8) : (addN acc c).length ≤ acc.length + 1 := by unfold addN; split <;> simp
theorem addN_good {acc : List RKey} {c : UInt8} (h : acc.Nodup ∧ ∀ k ∈ acc, k ∈ K5) : (addN acc c).Nodup ∧ ∀ k ∈ addN acc c, k ∈ K5 := by
  unfold addN
  split
  · exact h
  · rename_i hn
    refine ⟨List.nodup_append.2 ⟨h.1, by simp, fun a ha b hb => by rw [List.mem_singleton.1 hb]; exact fun e => hn (e ▸ ha)⟩, fun k hk => ?_⟩
    rcases List.mem_append.1 hk with hk | hk
    · exact h.2 k hk
    · rw [List.mem_singleton.1 hk]; exact keyN_mem _
theorem named_good (l : List UInt8) : (namedN l).Nodup ∧ ∀ k ∈ namedN l, k ∈ K5 := by
  unfold namedN namedK
  have : ∀ (l : List UInt8) (acc : List RKey), (acc.Nodup ∧ ∀ k ∈ acc, k ∈ K5) → (l.foldl addN acc).Nodup ∧ ∀ k ∈ l.foldl addN acc, k ∈ K5 := by
    intro l
    induction l with
    | nil => exact fun acc h => h
    | cons c l ih => exact fun acc h => ih _ (addN_good h)
  exact this _ _ ⟨by simp, nofun⟩
theorem K5_keys {k : RKey} (h : k ∈ K5) : k.length ≤ 400 := keyOk_len (K5_ok k h)
theorem named_len (l : List UInt8) : (namedN l).length ≤ 5 := length_le_of_subset _ K5 (named_good l).1 (named_good l).2
theorem named_allowed {d : Int} (h0 : 0 ≤ d) (h8 : d < 8) (l : List UInt8) : Allowed d (namedN l) := ⟨h0, h8, (named_good l).1, fun k hk => K5_ok k ((named_good l).2 k hk)⟩
theorem mem_take_succ5 (l : List RKey) (y : RKey) (j : Nat) (h : j < l.length) : decide (y ∈ l.take (j + 1)) = (decide (y ∈ l.take j) || (l[j] == y)) := by
  rw [List.take_succ_eq_append_getElem h, Bool.eq_iff_iff]
  simp only [List.mem_append, List.mem_singleton, decide_eq_true_eq, Bool.or_eq_true, beq_iff_eq]
  exact ⟨fun hh => hh.imp id Eq.symm, fun hh => hh.imp id Eq.symm⟩

set_option maxHeartbeats 1000000 in
theorem key_any (w : World) (n : Nat) (hn : n ≤ 255) :
    Calls Tryz.prog 38 #[.int .u8 (n : Int)] w fun e w' => e = .returned (.string ⟨(keyN n).toArray⟩) ∧ w = w' := by
  rcases mod5 n with h | h | h | h | h
  ·
    have hm : (n : Int).tmod 5 = 0 := by rw [Int.tmod_eq_emod_of_nonneg (by omega)]; omega
    have hk : keyN n = [49, 97, 0, 98] := by unfold keyN; rw [h]; rfl
    rw [hk]
    clear hk h
    go_enter Tryz.func38, Tryz.ntmps38
    go_wp2_with fail
    go_ret
    exact ⟨rfl, rfl⟩
  ·
    have hm : (n : Int).tmod 5 = 1 := by rw [Int.tmod_eq_emod_of_nonneg (by omega)]; omega
    have hk : keyN n = [49, 97, 0, 99] := by unfold keyN; rw [h]; rfl
    rw [hk]
    clear hk h
    go_enter Tryz.func38, Tryz.ntmps38
    go_wp2_with fail
    go_ret
    exact ⟨rfl, rfl⟩
  ·
    have hm : (n : Int).tmod 5 = 2 := by rw [Int.tmod_eq_emod_of_nonneg (by omega)]; omega
    have hk : keyN n = [49, 97, 0, 100] := by unfold keyN; rw [h]; rfl
    rw [hk]
    clear hk h
    go_enter Tryz.func38, Tryz.ntmps38
    go_wp2_with fail
    go_ret
    exact ⟨rfl, rfl⟩
  ·
    have hm : (n : Int).tmod 5 = 3 := by rw [Int.tmod_eq_emod_of_nonneg (by omega)]; omega
    have hk : keyN n = [49, 97, 0, 101] := by unfold keyN; rw [h]; rfl
    rw [hk]
    clear hk h
    go_enter Tryz.func38, Tryz.ntmps38
    go_wp2_with fail
    go_ret
    exact ⟨rfl, rfl⟩
  ·
    have hm : (n : Int).tmod 5 = 4 := by rw [Int.tmod_eq_emod_of_nonneg (by omega)]; omega
    have hk : keyN n = [49, 97, 0, 102] := by unfold keyN; rw [h]; rfl
    rw [hk]
    clear hk h
    go_enter Tryz.func38, Tryz.ntmps38
    go_wp2_with fail
    go_ret
    exact ⟨rfl, rfl⟩
end Go.Proofs.YtbjkkmabafaogaaGreatDoor
