/- A slice of slices of bytes as an argument; records in plain blocks; append to a journal on a disk that never fails. -/
import Derived.Test.YtmimplmeccoahaaDoorJL4
import Derived.Test.YtmimplmeccoahaaDoorJX
import Derived.SizedLaws
namespace Go.Proofs.YtmimplmeccoahaaDoor
open Go.RowKit Go.ChangeShapes Go.WideShapes Go.ChangeAt Go.Deep
set_option linter.unusedVariables false
set_option maxRecDepth 20000
attribute [local go_sem ↓] seal_append
attribute [local go_sem] opC upC

section
variable {H : Type} {enc : TypeId × Value → H} {P : Program} {w : World} {base : Nat} {held : Bool}

/-- as read_row; each element's data is among the slice's -/
theorem read_rowM {t e : TypeId} {fuel k : Nat} {v : Value} {x : DataW H × List MemPlace} (hk : 0 < k) (ht : P.underlying t = some (.slice e)) (hC : P.cellsOf e = k) (E : List Value → Prop)
    (hE : ∀ (m : Nat) (cs : List Value) (y : DataW H × List MemPlace) (el sp : List (DataW H)), x.1 = .slice el sp → y.1 ∈ el → DataW.trod enc P w base (fun _ => true) held m e cs = some y → E cs)
    (h : DataW.trod enc P w base (fun _ => true) held fuel t [v] = some x) : ∃ n, RowOf k E w v n := by
  rcases open_slice ht h with ⟨h0, _⟩ | ⟨a, len, cap, m, n, D, Pl, hcs, hb, hl, hm, hmm, hx, hi⟩
  · simp at h0
    subst h0
    exact ⟨0, none, 0, rfl, Nat.le_refl _, by unfold maxLen; omega, fun _ => rfl, .inl rfl⟩
  · simp at hcs
    subst hcs
    simp only [if_true] at hmm
    subst hmm
    refine ⟨len, some a, m, rfl, hl, hm, nofun, ?_⟩
    by_cases h0 : len = 0
    · exact .inl h0
    · right
      rw [hC] at hi
      obtain ⟨cs0, hc0, _⟩ := hi 0 (by omega)
      obtain ⟨_, hl0, ha0⟩ := World.cells?_some hc0
      have h00 := ha0 0 hk
      rw [List.getElem?_eq_getElem (by omega)] at h00
      simp only [Nat.zero_mul] at h00
      have hadd : (a.add 0).add 0 = a := by simp [Addr.add]
      rw [hadd] at h00
      obtain ⟨hs, L, t', fz, hbk, _⟩ := cell_block h00
      have haa : a = ⟨a.block, a.off, none⟩ := by cases a; simp_all
      have hcell : ∀ i j, i < len → j < k → ∀ cs', w.cells? base (a.add (i * k)) k = some cs' → L[a.off + i * k + j]? = cs'[j]? := by
        intro i j hi' hj cs' hcs'
        obtain ⟨_, hlc, hac⟩ := World.cells?_some hcs'
        have hh := hac j hj
        rw [add_add, haa, Addr.add_lit, cell_of_row w a.block _ L t' fz hbk] at hh
        rw [Nat.add_assoc]
        exact hh
      refine ⟨a.block, a.off, L, t', fz, by rw [← haa], lt_of_block hbk, hbk, ?_, fun i hil => ?_⟩
      · obtain ⟨cs1, hc1, _⟩ := hi (len - 1) (by omega)
        obtain ⟨_, hl1, _⟩ := World.cells?_some hc1
        have := hcell (len - 1) (k - 1) (by omega) (by omega) cs1 hc1
        rw [List.getElem?_eq_getElem (by omega)] at this
        have := (Array.getElem?_eq_some_iff.1 this).1
        have e1 : len * k = (len - 1) * k + k := by
          obtain ⟨q, rfl⟩ : ∃ q, len = q + 1 := ⟨len - 1, by omega⟩
          simp [Nat.add_mul]
        omega
      · obtain ⟨cs1, hc1, ht1⟩ := hi i (by omega)
        obtain ⟨_, hl1, _⟩ := World.cells?_some hc1
        have e : (L.toList.drop (a.off + i * k)).take k = cs1 := by
          apply List.ext_getElem?
          intro j
          rw [List.getElem?_take]
          by_cases hj : j < k
          · rw [if_pos hj, List.getElem?_drop, ← hcell i j hil hj cs1 hc1]
            simp
          · rw [if_neg hj, List.getElem?_eq_none (by omega)]
        rw [e]
        exact hE _ _ (D i, Pl i) _ _ (by rw [hx]) (List.mem_map.2 ⟨i, List.mem_range.2 hil, rfl⟩) ht1
end

theorem weightsAll_mem' {H : Type} {P : Program} {e : TypeId} : ∀ {l : List (DataW H)} {d : DataW H}, d ∈ l → ∀ n ∈ d.weights P e, n ∈ DataW.weightsAll P e l
  | d' :: r, d, hd, n, hn => by
    simp only [DataW.weightsAll, List.mem_append]
    rcases List.mem_cons.1 hd with rfl | h
    · exact Or.inl hn
    · exact Or.inr (weightsAll_mem' h n hn)
theorem sized_in {H : Type} {P : Program} {ts : List TypeId} {ds : List (DataW H)} (h : (DataW.weightsEach P ts ds).all (· ≤ reachBytes) = true) {j : Nat} {t e q : TypeId} {elems spare e' sp' : List (DataW H)}
    (ht : ts[j]? = some t) (hd : ds[j]? = some (.slice elems spare)) (hu : P.underlying t = some (.slice e)) (hu2 : P.underlying e = some (.slice q)) (hx : DataW.slice e' sp' ∈ elems) : (e'.length + sp'.length) * P.bytesOf q ≤ reachBytes := by
  refine of_decide_eq_true (List.all_eq_true.1 h _ (DataW.weights_mem_each ht hd _ ?_))
  simp only [DataW.weights, hu, List.mem_cons, List.mem_append]
  exact Or.inr (Or.inl (weightsAll_mem' hx _ (by simp [DataW.weights, hu2])))

theorem bytesU8 : Tryd.prog.bytesOf 5 = 1 := by kernel_rfl
theorem cellsBs2 : Tryd.prog.cellsOf 30 = 1 := by kernel_rfl

/-- v is a slice of slices of bytes that take no more than memory -/
def IsBss (w : World) (v : Value) : Prop :=
  ∃ n, RowOf 1 (fun cs => ∃ vB l, cs = [vB] ∧ Bytes (fun b => b < w.heap.size) w vB l ∧ l.length ≤ 140737488351232) w v n
theorem open_Bss {H : Type} {enc : TypeId × Value → H} {w : World} {b0 : Nat} {v : Value} {d : DataW H} {p : List MemPlace} {ts : List TypeId} {ds : List (DataW H)}
    (hv : Value.okWide Tryd.prog w .any b0 37 v) (h : DataW.Trod enc Tryd.prog w 0 (fun _ => true) true 37 v d p) (hsz : (DataW.weightsEach Tryd.prog (37 :: ts) (d :: ds)).all (· ≤ reachBytes) = true) : IsBss w v := by
  obtain ⟨a0, len0, cap0, rfl⟩ := okWide_slice Tryd.underlying37 hv
  obtain ⟨fuel, hf⟩ := h
  refine read_rowM (by omega) Tryd.underlying37 cellsBs2 _ (fun m cs y el sp hx hy hcs => ?_) hf
  have hx : d = .slice el sp := hx
  rcases open_slice Tryd.underlying30 hcs with ⟨h0, _⟩ | ⟨a, len, cap, m', n, D, Pl, rfl, hb, hl, hm, hmm, hx2, hi⟩
  · subst h0
    exact ⟨_, [], rfl, ⟨none, 0, rfl, Nat.le_refl _, by unfold maxLen; omega, fun _ => rfl, .inl rfl⟩, by simp⟩
  · obtain ⟨n1, h1⟩ := read_row (by omega) Tryd.underlying30 cellsU8j IsU8 (fun m cs y hy => by
      obtain ⟨z, rfl, _, wz⟩ := DataW.trod_int Tryd.underlying5 hy
      exact ⟨z, rfl, bounds_u8 wz⟩) hcs
    obtain ⟨l, hll, hlb⟩ := bytes_of_row h1
    refine ⟨_, l, rfl, hlb, ?_⟩
    obtain ⟨a', cap', he, -⟩ := hlb
    simp at he
    rw [hx2] at hy
    have := sized_in (j := 0) hsz rfl (by rw [hx]; rfl) Tryd.underlying37 Tryd.underlying30 hy
    rw [bytesU8] at this
    simp at this
    have h47 : reachBytes = 140737488351232 := rfl
    omega

/-- the slices that came in, as data -/
def BssAt (w : World) (lo : Nat) (v : Value) (A : List (List UInt8)) : Prop :=
  ∃ a cap, v = .slice a A.length cap ∧ A.length ≤ 9223372036854775807 ∧ (A = [] ∨ ∃ b off, a = some ⟨b, off, none⟩ ∧ b < lo ∧ ∀ i (h : i < A.length), ∃ x c, w.cell? ⟨b, off + i, none⟩ = some (.slice x A[i].length c) ∧ Bytes (fun b => b < lo) w (.slice x A[i].length c) A[i] ∧ A[i].length ≤ 140737488351232)

theorem bss_of {w : World} {v : Value} (h : IsBss w v) : ∃ A, BssAt w w.heap.size v A := by
  obtain ⟨n, a, cap, rfl, h1, h2, h3, h4⟩ := h
  have hm : (maxLen : Nat) ≤ 9223372036854775807 := by decide
  rcases h4 with rfl | ⟨b, off, L, t, fz, rfl, hb, hg, hle, hE⟩
  · exact ⟨[], a, cap, rfl, by simp, .inl rfl⟩
  · have hval : ∀ i, i < n → ∃ q : List UInt8, ∃ x c, w.cell? ⟨b, off + i, none⟩ = some (.slice x q.length c) ∧ Bytes (fun b => b < w.heap.size) w (.slice x q.length c) q ∧ q.length ≤ 140737488351232 := by
      intro i hi
      obtain ⟨vB, q, hcs, hB, hq⟩ := hE i hi
      have hv : L[off + i]? = some vB := by
        have : ((L.toList.drop (off + i * 1)).take 1)[0]? = some vB := by rw [hcs]; rfl
        rw [List.getElem?_take, if_pos (by omega), List.getElem?_drop] at this
        simpa using this
      obtain ⟨x, c, rfl, hr⟩ := id hB
      exact ⟨q, x, c, by rw [cell_of_row w b _ L t fz hg]; exact hv, hB, hq⟩
    let f : Nat → List UInt8 := fun i => if h : i < n then Classical.choose (hval i h) else []
    have hf : ∀ i, (h : i < n) → ∃ x c, w.cell? ⟨b, off + i, none⟩ = some (.slice x (f i).length c) ∧ Bytes (fun b => b < w.heap.size) w (.slice x (f i).length c) (f i) ∧ (f i).length ≤ 140737488351232 := fun i h => by
      simp only [f, dif_pos h]
      exact Classical.choose_spec (hval i h)
    refine ⟨(List.range n).map f, some ⟨b, off, none⟩, cap, by simp, by simp; omega, .inr ⟨b, off, rfl, hb, fun i hi => ?_⟩⟩
    simp at hi
    simpa using hf i hi
end Go.Proofs.YtmimplmeccoahaaDoor
