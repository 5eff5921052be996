/- The plain mathematics of maps: codes, valid maps, events, merging. No program. -/
import Derived.Test.YtbjkkmabafaogaaGreatDoorRMath
import Derived.Test.YtbjkkmabafaogaaGreatDoorKMath
import Derived.Test.YtbjkkmabafaogaaGreatDoorDecayMath
namespace Go.Proofs.YtbjkkmabafaogaaGreatDoor
set_option linter.unusedVariables false
set_option maxRecDepth 20000

/-! codes -/
def uvarF : Nat → Nat → List UInt8
  | 0, _ => []
  | f + 1, n => if n < 128 then [UInt8.ofNat n] else UInt8.ofNat (n % 128 + 128) :: uvarF f (n / 128)
/-- the code of a number below 2^64 -/
def uvar (n : Nat) : List UInt8 := uvarF 10 n
theorem uvarF_mono (f : Nat) : ∀ (g n : Nat), n < 128 ^ f → n < 128 ^ g → 0 < f → 0 < g → uvarF f n = uvarF g n := by
  induction f with
  | zero => intro g n _ _ h _; omega
  | succ f ih =>
    intro g n h h' _ hg
    cases g with
    | zero => omega
    | succ g =>
      unfold uvarF
      by_cases hn : n < 128
      · rw [if_pos hn, if_pos hn]
      · rw [if_neg hn, if_neg hn]
        have hf : 0 < f := by
          rcases Nat.eq_zero_or_pos f with rfl | h0
          · simp at h; omega
          · exact h0
        have hg : 0 < g := by
          rcases Nat.eq_zero_or_pos g with rfl | h0
          · simp at h'; omega
          · exact h0
        rw [ih g (n / 128) (by rw [Nat.div_lt_iff_lt_mul (by omega)]; rwa [Nat.pow_succ] at h) (by rw [Nat.div_lt_iff_lt_mul (by omega)]; rwa [Nat.pow_succ] at h') hf hg]
theorem uvar_small (n : Nat) (h : n < 128) : uvar n = [UInt8.ofNat n] := by unfold uvar uvarF; rw [if_pos h]
theorem uvar_step (n : Nat) (h : ¬ n < 128) (h64 : n < 18446744073709551616) : uvar n = UInt8.ofNat (n % 128 + 128) :: uvar (n / 128) := by
  unfold uvar
  rw [show (10 : Nat) = 9 + 1 from rfl, uvarF, if_neg h]
  congr 1
  exact uvarF_mono 9 10 _ (by omega) (by omega) (by omega) (by omega)
theorem uvarF_len (f : Nat) : ∀ n, (uvarF f n).length ≤ f := by
  induction f with
  | zero => intro n; simp [uvarF]
  | succ f ih =>
    intro n
    unfold uvarF
    split
    · simp
    · simpa using ih _
theorem uvar_len (n : Nat) : (uvar n).length ≤ 10 := uvarF_len 10 n
theorem uvar_pos (n : Nat) : 0 < (uvar n).length := by
  unfold uvar uvarF
  split <;> simp

def codeText (k : RKey) : List UInt8 := uvar k.length ++ k
def codeIt (x : RIt) : List UInt8 := codeText x.key ++ (uvar x.dev.toNat ++ (uvar x.seq.toNat ++ uvar x.val.toNat))
def codeGo (x : RGo) : List UInt8 := codeText x.key ++ (uvar x.dev.toNat ++ uvar x.seq.toNat)
def codeR (m : RMap) : List UInt8 :=
  m.seen.flatMap (fun n => uvar n.toNat) ++ (uvar m.items.length ++ (m.items.flatMap codeIt ++ (uvar m.gone.length ++ m.gone.flatMap codeGo)))

/-! valid maps -/
def knownR (m : RMap) (p : RPl) (seq : Int) : Bool := keyOk p.1 && decide (0 ≤ p.2 ∧ p.2 < m.seen.length ∧ 1 ≤ seq ∧ seq ≤ m.seen.getD p.2.toNat 0)
def goneOk (m : RMap) (g : RGo) : Bool := knownR m g.pl g.seq
def itemOk (m : RMap) (x : RIt) : Bool := knownR m x.pl x.seq && decide (1 ≤ x.val ∧ x.val ≤ 16777216 ∧ m.buried x.pl < x.seq)
def seenOk (n : Int) : Bool := decide (0 ≤ n ∧ n ≤ 1099511627776)
def formedR (m : RMap) : Bool :=
  decide (m.seen.length = 8) && m.seen.all seenOk && decide (Asc RIt.pl m.items) && decide (Asc RGo.pl m.gone) && m.gone.all (goneOk m) && m.items.all (itemOk m)
def validR (m : RMap) : Bool := formedR m && decide (m.items.length ≤ 4096) && decide (m.gone.length ≤ 4096) && decide ((codeR m).length ≤ 60000)

/-! events -/
def allowedR (d : Int) (l : List RKey) : Bool := decide (0 ≤ d ∧ d < 8) && decide l.Nodup && l.all keyOk
def fullR (m : RMap) : RMap × Int := if validR m then (m, 0) else (.empty, 7)
def sortK (l : List RKey) : List RKey := l.mergeSort fun x y => decide (x ≤ y)
def seenUp (m : RMap) (d : Int) : List Int := m.seen.set d.toNat (m.seen.getD d.toNat 0 + 1)
def nowR (m : RMap) (d : Int) : Int := m.seen.getD d.toNat 0 + 1
def decUse (v n : Int) : Int := DM.aft n.toNat (DM.bnd v) + 65536
def decAft (v n : Int) : Int := DM.aft n.toNat (DM.bnd v)
def usedIt (d now : Int) (k : RKey) : RIt := ⟨k, d, now, 65536⟩
def useBetter (now : Int) (old x : RIt) : RIt := { x with val := decUse old.val (now - old.seq) }
def useM (m : RMap) (d : Int) (l : List RKey) : RMap := ⟨seenUp m d, mergeL RIt.pl (useBetter (nowR m d)) m.items ((sortK l).map (usedIt d (nowR m d))), m.gone⟩
def useR (m : RMap) (d : Int) (l : List RKey) : RMap × Int := if validR m then (if allowedR d l then fullR (useM m d l) else (.empty, 1)) else (.empty, 5)
def goneOf (x : RIt) : RGo := ⟨x.key, x.dev, x.seq⟩
def forgetM (m : RMap) (d : Int) (l : List RKey) : RMap :=
  ⟨seenUp m d, m.items.filter (fun x => decide (x.key ∉ l)), mergeL RGo.pl deeperR m.gone ((m.items.filter fun x => decide (x.key ∈ l)).map goneOf)⟩
def forgetR (m : RMap) (d : Int) (l : List RKey) : RMap × Int := if validR m then (if allowedR d l then fullR (forgetM m d l) else (.empty, 1)) else (.empty, 5)
def mergeM (a b : RMap) : RMap :=
  let g := mergeL RGo.pl deeperR a.gone b.gone
  let out : RMap := ⟨List.zipWith max a.seen b.seen, [], g⟩
  { out with items := (mergeL RIt.pl laterR a.items b.items).filter fun x => decide (out.buried x.pl < x.seq) }
def mergeR (a b : RMap) : RMap × Int := if validR a && validR b then fullR (mergeM a b) else (.empty, 5)

/-! values -/
def valIt (m : RMap) (x : RIt) : Int := decAft x.val (m.seen.getD x.dev.toNat 0 - x.seq)
def valueM (m : RMap) (k : RKey) : Int := ((m.items.filter fun x => decide (x.key = k)).map (valIt m)).sum
def valueR (m : RMap) (k : RKey) : Int := if validR m then valueM m k else 0

/-! the reference's events -/
def refItem (m : RMap) (d : Int) (k : RKey) : RIt :=
  match look RIt.pl m.items (k, d) with
  | some o => ⟨k, d, nowR m d, decUse o.val (nowR m d - o.seq)⟩
  | none => ⟨k, d, nowR m d, 65536⟩
def refUseM (m : RMap) (d : Int) (l : List RKey) : RMap := ⟨seenUp m d, (l.map (refItem m d)).foldl (putL RIt.pl) m.items, m.gone⟩
def refForgetM (m : RMap) (d : Int) (l : List RKey) : RMap :=
  ⟨seenUp m d, m.items.filter (fun x => decide (x.key ∉ l)), ((m.items.filter fun x => decide (x.key ∈ l)).map goneOf).foldl (putL RGo.pl) m.gone⟩
def refMergeM (a b : RMap) : RMap :=
  let g := (b.gone.filter fun g => decide (a.buried g.pl < g.seq)).foldl (putL RGo.pl) a.gone
  let out : RMap := ⟨List.zipWith max a.seen b.seen, [], g⟩
  let all := (b.items.filter fun x => match look RIt.pl a.items x.pl with | some y => decide (y.seq < x.seq ∨ (x.seq = y.seq ∧ y.val < x.val)) | none => true).foldl (putL RIt.pl) a.items
  { out with items := all.filter fun x => decide (out.buried x.pl < x.seq) }

/-! what a valid map is -/
structure Formed (m : RMap) : Prop where
  len : m.seen.length = 8
  seen : ∀ n ∈ m.seen, 0 ≤ n ∧ n ≤ 1099511627776
  items : Asc RIt.pl m.items
  gone : Asc RGo.pl m.gone
  gknown : ∀ g ∈ m.gone, knownR m g.pl g.seq = true
  iknown : ∀ x ∈ m.items, knownR m x.pl x.seq = true
  val : ∀ x ∈ m.items, 1 ≤ x.val ∧ x.val ≤ 16777216
  above : ∀ x ∈ m.items, m.buried x.pl < x.seq
theorem formed_iff (m : RMap) : formedR m = true ↔ Formed m := by
  unfold formedR
  simp only [Bool.and_eq_true, decide_eq_true_eq, List.all_eq_true, goneOk, itemOk, seenOk]
  constructor
  · rintro ⟨⟨⟨⟨⟨h1, h2⟩, h3⟩, h4⟩, h5⟩, h6⟩
    exact ⟨h1, h2, h3, h4, h5, fun x hx => (h6 x hx).1, fun x hx => ⟨(h6 x hx).2.1, (h6 x hx).2.2.1⟩, fun x hx => (h6 x hx).2.2.2⟩
  · rintro ⟨h1, h2, h3, h4, h5, h6, h7, h8⟩
    exact ⟨⟨⟨⟨⟨h1, h2⟩, h3⟩, h4⟩, h5⟩, fun x hx => ⟨h6 x hx, (h7 x hx).1, (h7 x hx).2, h8 x hx⟩⟩
theorem valid_formed {m : RMap} (h : validR m = true) : Formed m := by
  unfold validR at h
  simp only [Bool.and_eq_true] at h
  exact (formed_iff m).1 h.1.1.1
theorem known_seq {m : RMap} {p : RPl} {s : Int} (h : knownR m p s = true) : 0 ≤ p.2 ∧ p.2 < m.seen.length ∧ 1 ≤ s ∧ s ≤ m.seen.getD p.2.toNat 0 := by
  unfold knownR at h
  simp only [Bool.and_eq_true, decide_eq_true_eq] at h
  exact h.2
theorem known_key {m : RMap} {p : RPl} {s : Int} (h : knownR m p s = true) : keyOk p.1 = true := by
  unfold knownR at h
  simp only [Bool.and_eq_true] at h
  exact h.1

/-! the reference's events are the program's -/
theorem sortK_perm (l : List RKey) : (sortK l).Perm l := List.mergeSort_perm _ _
theorem sortK_sorted (l : List RKey) : (sortK l).Pairwise fun a b => a ≤ b := by
  have := List.pairwise_mergeSort (le := fun x y : RKey => decide (x ≤ y)) (fun a b c h1 h2 => by
    simp only [decide_eq_true_eq] at *
    exact List.le_trans h1 h2) (fun a b => by
    rcases List.le_total a b with h | h <;> simp [h]) l
  exact this.imp fun h => by simpa using h
theorem sortK_strict (l : List RKey) (h : l.Nodup) : (sortK l).Pairwise fun a b => a < b := by
  have h1 := sortK_sorted l
  have h2 : (sortK l).Nodup := (sortK_perm l).nodup_iff.2 h
  have := List.Pairwise.and h1 h2
  exact this.imp fun {a b} ⟨h1, h2⟩ => Classical.byContradiction fun hn => h2 (List.le_antisymm h1 (List.not_lt.1 hn))
theorem asc_used (d now : Int) (l : List RKey) (h : l.Nodup) : Asc RIt.pl ((sortK l).map (usedIt d now)) := by
  unfold Asc
  rw [List.pairwise_map]
  exact (sortK_strict l h).imp fun h => .inl h
theorem look_map_key {f : RKey → RIt} {d : Int} (hf : ∀ k, (f k).pl = (k, d)) (l : List RKey) (p : RPl) : look RIt.pl (l.map f) p = if p.2 = d ∧ p.1 ∈ l then some (f p.1) else none := by
  induction l with
  | nil => simp [look]
  | cons k l ih =>
    rw [List.map_cons, look_cons, ih, hf]
    obtain ⟨q, e⟩ := p
    by_cases h : (k, d) = (q, e)
    · obtain ⟨rfl, rfl⟩ := Prod.mk.inj h
      simp
    · rw [if_neg h]
      by_cases h2 : e = d ∧ q ∈ l
      · rw [if_pos h2, if_pos ⟨h2.1, List.mem_cons_of_mem _ h2.2⟩]
      · rw [if_neg h2, if_neg]
        rintro ⟨h3, h4⟩
        rcases List.mem_cons.1 h4 with h5 | h5
        · exact h (Prod.ext h5.symm h3.symm)
        · exact h2 ⟨h3, h5⟩
theorem refUse_eq (m : RMap) (d : Int) (l : List RKey) (h : Asc RIt.pl m.items) (hl : l.Nodup) : refUseM m d l = useM m d l := by
  unfold refUseM useM
  congr 1
  have hpl : ∀ k, (refItem m d k).pl = (k, d) := fun k => by unfold refItem; split <;> rfl
  have hpl2 : ∀ k, (usedIt d (nowR m d) k).pl = (k, d) := fun k => rfl
  have hb : ∀ x y : RIt, x.pl = y.pl → (useBetter (nowR m d) x y).pl = x.pl := fun x y e => e.symm
  refine asc_ext (asc_puts _ _ h) (asc_merge hb h (asc_used d _ l hl)) fun p => ?_
  rw [look_puts _ _ h ?_, look_merge hb h (asc_used d _ l hl), look_map_key hpl, look_map_key hpl2]
  · have hmem : p.1 ∈ sortK l ↔ p.1 ∈ l := (sortK_perm l).mem_iff
    by_cases hp : p.2 = d ∧ p.1 ∈ l
    · rw [if_pos hp, if_pos ⟨hp.1, hmem.2 hp.2⟩]
      unfold refItem
      have e : p = (p.1, d) := Prod.ext rfl hp.1
      rw [← e]
      cases look RIt.pl m.items p with
      | none => rfl
      | some o => rfl
    · rw [if_neg hp, if_neg (fun h => hp ⟨h.1, hmem.1 h.2⟩)]
      cases look RIt.pl m.items p <;> rfl
  · rw [List.pairwise_map]
    exact hl.imp fun {a b} hne e => hne (by rw [hpl, hpl] at e; exact (Prod.mk.inj e).1)

theorem asc_goneOf {l : List RIt} (h : Asc RIt.pl l) : Asc RGo.pl (l.map goneOf) := by
  unfold Asc
  rw [List.pairwise_map]
  exact h
theorem look_goneOf (l : List RIt) (p : RPl) : look RGo.pl (l.map goneOf) p = (look RIt.pl l p).map goneOf := by
  induction l with
  | nil => rfl
  | cons x l ih =>
    rw [List.map_cons, look_cons, look_cons, ih]
    show (if x.pl = p then _ else _) = _
    by_cases e : x.pl = p <;> simp [e]
theorem refForget_eq (m : RMap) (d : Int) (l : List RKey) (h : Formed m) : refForgetM m d l = forgetM m d l := by
  unfold refForgetM forgetM
  congr 1
  have hf := asc_filter h.items (fun x => decide (x.key ∈ l))
  have hg := asc_goneOf hf
  refine asc_ext (asc_puts _ _ h.gone) (asc_merge deeperR_pl h.gone hg) fun p => ?_
  rw [look_puts _ _ h.gone ?_, look_merge deeperR_pl h.gone hg, look_goneOf, look_filter h.items]
  · cases hi : look RIt.pl m.items p with
    | none => cases look RGo.pl m.gone p <;> rfl
    | some x =>
      by_cases hx : x.key ∈ l
      · simp only [Option.filter, decide_eq_true hx, if_true, Option.map_some]
        cases hgp : look RGo.pl m.gone p with
        | none => rfl
        | some g =>
          have h1 := h.above x (look_mem hi)
          have e := look_pl hi
          unfold RMap.buried at h1
          rw [e, hgp] at h1
          show some (goneOf x) = some (deeperR g (goneOf x))
          unfold deeperR
          rw [if_pos (show g.seq < (goneOf x).seq from h1)]
      · simp only [Option.filter, decide_eq_false hx]
        cases look RGo.pl m.gone p <;> rfl
  · exact (List.Pairwise.imp (fun h => plt_ne h) hg)

theorem zip_max_len (a b : List Int) (h : a.length = b.length) : (List.zipWith max a b).length = a.length := by simp [h]
theorem look_gone_pos {m : RMap} (h : Formed m) {p : RPl} {g : RGo} (hg : look RGo.pl m.gone p = some g) : 1 ≤ g.seq := (known_seq (h.gknown g (look_mem hg))).2.2.1
theorem refMerge_eq (a b : RMap) (ha : Formed a) (hb : Formed b) : refMergeM a b = mergeM a b := by
  have hg : (b.gone.filter fun g => decide (a.buried g.pl < g.seq)).foldl (putL RGo.pl) a.gone = mergeL RGo.pl deeperR a.gone b.gone := by
    refine asc_ext (asc_puts _ _ ha.gone) (asc_merge deeperR_pl ha.gone hb.gone) fun p => ?_
    rw [look_puts _ _ ha.gone (List.Pairwise.imp (fun h => plt_ne h) (asc_filter hb.gone _)), look_merge deeperR_pl ha.gone hb.gone, look_filter hb.gone]
    cases h1 : look RGo.pl b.gone p with
    | none => cases look RGo.pl a.gone p <;> rfl
    | some g =>
      have e := look_pl h1
      have hp := look_gone_pos hb h1
      cases h2 : look RGo.pl a.gone p with
      | none =>
        have hbur : a.buried g.pl < g.seq := by unfold RMap.buried; rw [e, h2]; exact hp
        simp [Option.filter, hbur, both]
      | some q =>
        by_cases hlt : q.seq < g.seq
        · have hbur : a.buried g.pl < g.seq := by unfold RMap.buried; rw [e, h2]; exact hlt
          simp [Option.filter, hbur, both, deeperR, hlt]
        · have hbur : ¬ a.buried g.pl < g.seq := by unfold RMap.buried; rw [e, h2]; exact hlt
          simp [Option.filter, hbur, both, deeperR, hlt]
  have hi : (b.items.filter fun x => match look RIt.pl a.items x.pl with | some y => decide (y.seq < x.seq ∨ (x.seq = y.seq ∧ y.val < x.val)) | none => true).foldl (putL RIt.pl) a.items = mergeL RIt.pl laterR a.items b.items := by
    refine asc_ext (asc_puts _ _ ha.items) (asc_merge laterR_pl ha.items hb.items) fun p => ?_
    rw [look_puts _ _ ha.items (List.Pairwise.imp (fun h => plt_ne h) (asc_filter hb.items _)), look_merge laterR_pl ha.items hb.items, look_filter hb.items]
    cases h1 : look RIt.pl b.items p with
    | none => cases look RIt.pl a.items p <;> rfl
    | some x =>
      have e := look_pl h1
      cases h2 : look RIt.pl a.items p with
      | none => simp [Option.filter, e, h2, both]
      | some y =>
        by_cases hlt : y.seq < x.seq ∨ (x.seq = y.seq ∧ y.val < x.val)
        · have hlt' : y.seq < x.seq ∨ (y.seq = x.seq ∧ y.val < x.val) := by omega
          simp [Option.filter, e, h2, both, laterR, hlt, hlt']
        · have hlt' : ¬ (y.seq < x.seq ∨ (y.seq = x.seq ∧ y.val < x.val)) := by omega
          simp [Option.filter, e, h2, both, laterR, hlt, hlt']
  unfold refMergeM mergeM
  dsimp only
  rw [hg, hi]
end Go.Proofs.YtbjkkmabafaogaaGreatDoor
