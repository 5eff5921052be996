/-
  RRef6
-/
import Derived.Test.YtkkacnfpdafadaaGreatDoorP44
import Derived.Test.YtkkacnfpdafadaaGreatDoorP25
namespace Go.Proofs.YtkkacnfpdafadaaGreatDoor
open Go.RowKit
set_option linter.unusedVariables false
set_option maxRecDepth 20000
attribute [local go_sem ↓] seal_append
attribute [local go_sem] opC upC

theorem own_grownLt {w w' : World} {S base' : Nat} {e e' : TypeId} {k k' n n' : Nat} {v v' : Value} {xs xs' : List Value} (h : w.ownsRow base' e' k' v' n' xs') (hv : ∀ q, v'.ownBlock = some q → q < S) (ho : w.ownsRow S e k v n xs) (hg : w.grownBy w' v.ownBlock) : w'.ownsRow base' e' k' v' n' xs' := by
  refine h.kept hg ?_
  cases hb : v'.ownBlock with
  | none => exact .inl rfl
  | some b =>
    refine .inr fun he => ?_
    have h1 := (ho.lt b he.symm).1
    have h2 := hv b hb
    omega
theorem mem_put {α : Type} {pl : α → RPl} {l : List α} {x y : α} (h : y ∈ putL pl l x) : y = x ∨ y ∈ l := by
  unfold putL at h
  rw [List.mem_append, List.mem_cons] at h
  rcases h with h | h | h
  · exact .inr (List.takeWhile_sublist _ |>.subset h)
  · exact .inl h
  · exact .inr (List.dropWhile_sublist _ |>.subset (List.mem_filter.1 h).1)
theorem mem_puts {α : Type} {pl : α → RPl} : ∀ (xs l : List α) {y : α}, y ∈ xs.foldl (putL pl) l → y ∈ xs ∨ y ∈ l
  | [], l, y, h => .inr h
  | x :: xs, l, y, h => by
    rcases mem_puts xs _ h with h | h
    · exact .inl (List.mem_cons_of_mem _ h)
    · rcases mem_put h with rfl | h
      · exact .inl List.mem_cons_self
      · exact .inr h
def goneUp (a : RMap) (l : List RGo) : List RGo := (l.filter fun g => decide (a.buried g.pl < g.seq)).foldl (putL RGo.pl) a.gone
def itNew (a : RMap) (x : RIt) : Bool := match look RIt.pl a.items x.pl with | some y => decide (y.seq < x.seq ∨ (x.seq = y.seq ∧ y.val < x.val)) | none => true
def itUp (a : RMap) (l : List RIt) : List RIt := (l.filter (itNew a)).foldl (putL RIt.pl) a.items
theorem goneUp_yes {a : RMap} {l : List RGo} {k : Nat} (h : k < l.length) (hd : a.buried l[k].pl < l[k].seq) : goneUp a (l.take (k + 1)) = putL RGo.pl (goneUp a (l.take k)) l[k] := by
  unfold goneUp
  rw [take_filter _ l k h, if_pos (by simpa using hd), List.foldl_append]
  rfl
theorem goneUp_no {a : RMap} {l : List RGo} {k : Nat} (h : k < l.length) (hd : ¬ a.buried l[k].pl < l[k].seq) : goneUp a (l.take (k + 1)) = goneUp a (l.take k) := by
  unfold goneUp
  rw [take_filter _ l k h, if_neg (by simpa using hd), List.append_nil]
theorem itUp_yes {a : RMap} {l : List RIt} {k : Nat} (h : k < l.length) (hd : itNew a l[k] = true) : itUp a (l.take (k + 1)) = putL RIt.pl (itUp a (l.take k)) l[k] := by
  unfold itUp
  rw [take_filter _ l k h, if_pos hd, List.foldl_append]
  rfl
theorem itUp_no {a : RMap} {l : List RIt} {k : Nat} (h : k < l.length) (hd : itNew a l[k] = false) : itUp a (l.take (k + 1)) = itUp a (l.take k) := by
  unfold itUp
  rw [take_filter _ l k h, if_neg (by rw [hd]; exact Bool.false_ne_true), List.append_nil]
theorem itUp_mem {a : RMap} {l : List RIt} {x : RIt} (h : x ∈ itUp a l) : x ∈ l ∨ x ∈ a.items := (mem_puts _ _ h).imp (fun h => (List.mem_filter.1 h).1) id
theorem goneUp_mem {a : RMap} {l : List RGo} {x : RGo} (h : x ∈ goneUp a l) : x ∈ l ∨ x ∈ a.gone := (mem_puts _ _ h).imp (fun h => (List.mem_filter.1 h).1) id

def keepP (zs : List Int) (cur : List RGo) (x : RIt) : Bool := decide ((⟨zs, [], cur⟩ : RMap).buried x.pl < x.seq)
structure FSt (w2 wr : World) (S ob : Nat) (s1 si s3 al : Value) (zs : List Int) (cur : List RGo) (cu3 kp : List RIt) : Prop where
  blk : Blk wr ob [s1, si, s3] 26
  seen : wr.ownsRow w2.heap.size 3 1 s1 zs.length (zs.map eI)
  gone : wr.ownsRow w2.heap.size 94 3 s3 cur.length (cur.flatMap encGo)
  all : wr.ownsRow w2.heap.size 92 4 al cu3.length (cu3.flatMap encIt)
  new : wr.ownsRow S 92 4 si kp.length (kp.flatMap encIt)
  bel : Below w2.heap.size w2 wr
  sle : w2.heap.size ≤ S
  sle2 : S ≤ wr.heap.size
theorem FSt.below {w2 wr w' : World} {S ob : Nat} {s1 si s3 al : Value} {zs : List Int} {cur : List RGo} {cu3 kp : List RIt} (h : FSt w2 wr S ob s1 si s3 al zs cur cu3 kp) (hb : Below wr.heap.size wr w') : FSt w2 w' S ob s1 si s3 al zs cur cu3 kp :=
  ⟨h.blk.keep (hb.block _ h.blk.lt), own_below h.seen hb, own_below h.gone hb, own_below h.all hb, own_below h.new hb, h.bel.trans (hb.mono h.bel.size), h.sle, Nat.le_trans h.sle2 hb.size⟩

set_option maxRecDepth 100000 in
set_option maxHeartbeats 8000000 in
theorem rmerge_any (w : World) (F G : Blks) (va vb : Value) (a b : RMap) (ha : MapV F w va a) (hb : MapV G w vb b) (hai : ∀ x ∈ a.items, x.key.length ≤ 1000000000) (hag : ∀ x ∈ a.gone, x.key.length ≤ 1000000000) (hbi : ∀ x ∈ b.items, x.key.length ≤ 1000000000) (hbg : ∀ x ∈ b.gone, x.key.length ≤ 1000000000) :
    Calls Tryz.prog 52 #[va, vb] w (RPost w (mergeR a b)) := by
  replace ha := ha.mono (G := fun q => q < w.heap.size) fun q _ hlt => hlt
  replace hb := hb.mono (G := fun q => q < w.heap.size) fun q _ hlt => hlt
  obtain ⟨s1a, s2a, s3a, rfl, ha⟩ := ha
  obtain ⟨a1a, p1a, rfl, -⟩ := ha.seen.shape
  obtain ⟨a2a, p2a, rfl, -⟩ := ha.items.shape
  obtain ⟨a3a, p3a, rfl, -⟩ := ha.gone.shape
  obtain ⟨wxa, hwxa⟩ : ∃ wx, wx = w.alloc (.cells #[.slice a1a a.seen.length p1a, .slice a2a a.items.length p2a, .slice a3a a.gone.length p3a] 26) := ⟨_, rfl⟩
  have hbxa : Below w.heap.size w wxa := by rw [hwxa]; exact kept_alloc _ _
  have hzxa : wxa.heap.size = w.heap.size + 1 := by rw [hwxa]; simp
  have hxa := ha.keep (w' := wxa) fun b _ hlt => hbxa.block b hlt
  have hnxa : Blk wxa w.heap.size [.slice a1a a.seen.length p1a, .slice a2a a.items.length p2a, .slice a3a a.gone.length p3a] 26 := by rw [hwxa]; exact Blk.new _ _ _
  have Hxa := Lib.hid hxa
  have Hwxa := Lib.hid hwxa; have Hbxa := Lib.hid hbxa; have Hzxa := Lib.hid hzxa
  have Hnxa := Lib.hid hnxa
  clear hxa hwxa hbxa hnxa hzxa ha
  replace hb : MapV (fun q => q < w.heap.size) wxa vb b := hb.keep (w' := wxa) fun q _ hlt => Hbxa.out.block q hlt
  obtain ⟨s1b, s2b, s3b, rfl, hb⟩ := hb
  obtain ⟨a1b, p1b, rfl, -⟩ := hb.seen.shape
  obtain ⟨a2b, p2b, rfl, -⟩ := hb.items.shape
  obtain ⟨a3b, p3b, rfl, -⟩ := hb.gone.shape
  obtain ⟨wxb, hwxb⟩ : ∃ wx, wx = wxa.alloc (.cells #[.slice a1b b.seen.length p1b, .slice a2b b.items.length p2b, .slice a3b b.gone.length p3b] 26) := ⟨_, rfl⟩
  have hbxb : Below wxa.heap.size wxa wxb := by rw [hwxb]; exact kept_alloc _ _
  have hzxb : wxb.heap.size = wxa.heap.size + 1 := by rw [hwxb]; simp
  have hxb := hb.keep (w' := wxb) fun b _ hlt => hbxb.block b hlt
  have hnxb : Blk wxb wxa.heap.size [.slice a1b b.seen.length p1b, .slice a2b b.items.length p2b, .slice a3b b.gone.length p3b] 26 := by rw [hwxb]; exact Blk.new _ _ _
  have Hxb := Lib.hid hxb
  have Hwxb := Lib.hid hwxb; have Hbxb := Lib.hid hbxb; have Hzxb := Lib.hid hzxb
  have Hnxb := Lib.hid hnxb
  clear hxb hwxb hbxb hnxb hzxb hb
  obtain ⟨w2, hw2⟩ : ∃ w2, w2 = wxb.alloc (.cells #[.slice none 0 0, .slice none 0 0, .slice none 0 0] 26) := ⟨_, rfl⟩
  have hzb : wxb.heap.size = w.heap.size + 2 := by rw [Hzxb.out, Hzxa.out]
  have hz2 : w2.heap.size = w.heap.size + 3 := by rw [hw2]; simp [hzb]
  have hbb : Below w.heap.size w wxb := Hbxa.out.trans (Hbxb.out.mono Hbxa.out.size)
  have hb2 : Below w.heap.size w w2 := by rw [hw2]; exact hbb.alloc hbb.size _
  have ka : Blk w2 w.heap.size [.slice a1a a.seen.length p1a, .slice a2a a.items.length p2a, .slice a3a a.gone.length p3a] 26 := by rw [hw2]; exact (Hnxa.out.keep (Hbxb.out.block _ Hnxa.out.lt)).alloc _
  have kb : Blk w2 (w.heap.size + 1) [.slice a1b b.seen.length p1b, .slice a2b b.items.length p2b, .slice a3b b.gone.length p3b] 26 := by
    have := Hnxb.out
    rw [Hzxa.out] at this
    rw [hw2]; exact this.alloc _
  have kr : Blk w2 (w.heap.size + 1 + 1) [.slice none 0 0, .slice none 0 0, .slice none 0 0] 26 := by
    have := Blk.new wxb #[.slice none 0 0, .slice none 0 0, .slice none 0 0] 26
    rw [← hw2, hzb] at this
    exact this
  have hMa := Hxa.out
  have hMb := Hxb.out
  have HR := Lib.hid (show ∀ W, Below w2.heap.size w2 W → Below w.heap.size w W ∧ Blk W w.heap.size [.slice a1a a.seen.length p1a, .slice a2a a.items.length p2a, .slice a3a a.gone.length p3a] 26 ∧ Blk W (w.heap.size + 1) [.slice a1b b.seen.length p1b, .slice a2b b.items.length p2b, .slice a3b b.gone.length p3b] 26 ∧ Blk W (w.heap.size + 1 + 1) [.slice none 0 0, .slice none 0 0, .slice none 0 0] 26 ∧ MapIn (fun q => q < w.heap.size) W (.slice a1a a.seen.length p1a) (.slice a2a a.items.length p2a) (.slice a3a a.gone.length p3a) a ∧ MapIn (fun q => q < w.heap.size) W (.slice a1b b.seen.length p1b) (.slice a2b b.items.length p2b) (.slice a3b b.gone.length p3b) b from fun W hW => by
    have hB : Below w.heap.size w W := hb2.trans (hW.mono (by omega))
    exact ⟨hB, ka.keep (hW.block _ ka.lt), kb.keep (hW.block _ kb.lt), kr.keep (hW.block _ kr.lt), hMa.keep (w' := W) fun q hq _ => (hB.block q hq).trans (Hbxa.out.block q hq).symm, hMb.keep (w' := W) fun q hq _ => (hB.block q hq).trans (hbb.block q hq).symm⟩)
  have HCa := Lib.hid (rvalid2_any w2 _ (.agg #[.slice a1a a.seen.length p1a, .slice a2a a.items.length p2a, .slice a3a a.gone.length p3a]) a ⟨_, _, _, rfl, (HR.out w2 (Below.refl _ _)).2.2.2.2.1⟩ hai hag)
  have Hw2 := Lib.hid hw2; have Hz2 := Lib.hid hz2
  obtain ⟨c0, c1, c2⟩ := cell3 ka
  obtain ⟨va', hva⟩ : ∃ va', validR a = va' := ⟨_, rfl⟩
  rw [hva] at HCa
  have Hva := Lib.hid hva
  clear hw2 hzb hz2 hbb hb2 ka kb kr hMa hMb hva
  go_enter Tryz.func52, Tryz.ntmps52
  go_wp2_with fail
  rw [← Hwxa.out, ← Hwxb.out, ← Hw2.out]
  refine HCa.out.mono ?_
  rintro e w3 ⟨rfl, hb3⟩
  clear HCa c0 c1 c2
  cases va' with
  | false =>
    have Hu := Lib.hid (show mergeR a b = (.empty, 5) by unfold mergeR; rw [Hva.out]; rfl)
    have kr := (HR.out w3 hb3).2.2.2.1
    have hbel := (HR.out w3 hb3).1
    clear hb3
    obtain ⟨wf, hwf, hblk, hbf⟩ := fin3 kr hbel (by omega) (.slice none 0 0) (.slice none 0 0) (.slice none 0 0)
    obtain ⟨y0, y1, y2⟩ := cell3 kr
    have z0 := kr.free 0
    have z1 := kr.free 1
    have z2 := kr.free 2
    have Q := Lib.hid (cell3 hblk)
    have Hbf := Lib.hid hbf; have Hwf := Lib.hid hwf
    clear hwf hblk hbf
    go_wp2_with fail
    rw [← Hwf.out]
    obtain ⟨q0, q1, q2⟩ := Q.out
    exact bodyPost_ret (v := .tuple #[.agg #[.slice none 0 0, .slice none 0 0, .slice none 0 0], .int .i64 5]) (by simp [results, Tryz.results52, go_sem, q0, q1, q2]) rfl ⟨_, by rw [Hu.out], by rw [Hu.out]; exact mapV_empty _ _, Hbf.out⟩
  | true =>
    have HCb := Lib.hid (rvalid2_any w3 _ (.agg #[.slice a1b b.seen.length p1b, .slice a2b b.items.length p2b, .slice a3b b.gone.length p3b]) b ⟨_, _, _, rfl, (HR.out w3 hb3).2.2.2.2.2⟩ hbi hbg)
    obtain ⟨vb', hvb⟩ : ∃ vb', validR b = vb' := ⟨_, rfl⟩
    rw [hvb] at HCb
    have Hvb := Lib.hid hvb
    obtain ⟨d0, d1, d2⟩ := cell3 (HR.out w3 hb3).2.2.1
    have Hb3 := Lib.hid hb3
    clear hvb hb3
    go_wp2_with fail
    refine HCb.out.mono ?_
    rintro e w4 ⟨rfl, hb4⟩
    have hL4 : Below w2.heap.size w2 w4 := Hb3.out.trans (hb4.mono Hb3.out.size)
    clear HCb d0 d1 d2 hb4
    cases vb' with
    | false =>
      have Hu := Lib.hid (show mergeR a b = (.empty, 5) by unfold mergeR; rw [Hva.out, Hvb.out]; rfl)
      have kr := (HR.out w4 hL4).2.2.2.1
      have hbel := (HR.out w4 hL4).1
      clear hL4
      obtain ⟨wf, hwf, hblk, hbf⟩ := fin3 kr hbel (by omega) (.slice none 0 0) (.slice none 0 0) (.slice none 0 0)
      obtain ⟨y0, y1, y2⟩ := cell3 kr
      have z0 := kr.free 0
      have z1 := kr.free 1
      have z2 := kr.free 2
      have Q := Lib.hid (cell3 hblk)
      have Hbf := Lib.hid hbf; have Hwf := Lib.hid hwf
      clear hwf hblk hbf
      go_wp2_with fail
      rw [← Hwf.out]
      obtain ⟨q0, q1, q2⟩ := Q.out
      exact bodyPost_ret (v := .tuple #[.agg #[.slice none 0 0, .slice none 0 0, .slice none 0 0], .int .i64 5]) (by simp [results, Tryz.results52, go_sem, q0, q1, q2]) rfl ⟨_, by rw [Hu.out], by rw [Hu.out]; exact mapV_empty _ _, Hbf.out⟩
    | true =>
      have fa := valid_formed Hva.out
      have fb := valid_formed Hvb.out
      have hsa := small_valid2 Hva.out
      have hsb := small_valid2 Hvb.out
      have HCp := Lib.hid (rcopy_any w4 _ (.agg #[.slice a1a a.seen.length p1a, .slice a2a a.items.length p2a, .slice a3a a.gone.length p3a]) a ⟨_, _, _, rfl, (HR.out w4 hL4).2.2.2.2.1⟩ (by omega) (by omega) (by omega))
      obtain ⟨c0, c1, c2⟩ := cell3 (HR.out w4 hL4).2.1
      have HL4 := Lib.hid hL4
      have Hsa := Lib.hid hsa; have Hsb := Lib.hid hsb; have Hfa := Lib.hid fa; have Hfb := Lib.hid fb
      clear hL4 hsa hsb fa fb
      go_wp2_with fail
      refine HCp.out.mono ?_
      rintro e w5 ⟨⟨s1, s2, s3, rfl, ho⟩, hb5⟩
      have hL5 : Below w2.heap.size w2 w5 := HL4.out.trans (hb5.mono HL4.out.size)
      obtain ⟨b1, e1, hs1⟩ := own_shape ho.seen
      obtain ⟨b2, e2, rfl⟩ := own_shape ho.items
      obtain ⟨b3, e3, rfl⟩ := own_shape ho.gone
      subst hs1
      obtain ⟨g, rfl⟩ : ∃ g, b1 = some ⟨g, 0, none⟩ := by
        rcases ho.seen.2 with ⟨_, h0⟩ | ⟨g, cap, cur, hv, _⟩
        · have := Hsa.out.1; omega
        · simp at hv; exact ⟨g, hv.1⟩
      obtain ⟨w6, hw6⟩ : ∃ w6, w6 = w5.alloc (.cells #[.slice (some ⟨g, 0, none⟩) a.seen.length e1, .slice b2 a.items.length e2, .slice b3 a.gone.length e3] 26) := ⟨_, rfl⟩
      have hb6 : Below w5.heap.size w5 w6 := by rw [hw6]; exact kept_alloc _ _
      have ho6 := ho.below hb6
      have kO : Blk w6 w5.heap.size [.slice (some ⟨g, 0, none⟩) a.seen.length e1, .slice b2 a.items.length e2, .slice b3 a.gone.length e3] 26 := by rw [hw6]; exact Blk.new _ _ _
      have hL6 : Below w2.heap.size w2 w6 := hL5.trans (hb6.mono hL5.size)
      obtain ⟨hg1, hg2⟩ : w4.heap.size ≤ g ∧ g < w5.heap.size := by
        rcases ho.seen.2 with ⟨hh, _⟩ | ⟨g', cap, cur, hv, hb, hg, _⟩
        · simp at hh
        · simp at hv; obtain ⟨rfl, -⟩ := hv; exact ⟨hb, lt_of_block hg⟩
      have hle : a.seen.length = b.seen.length := by have := Hsa.out.1; have := Hsb.out.1; omega
      have hbs : b.seen.length ≤ 1000 := by have := Hsb.out.1; omega
      have H6 := Lib.hid (show Blk w6 w5.heap.size [.slice (some ⟨g, 0, none⟩) a.seen.length e1, .slice b2 a.items.length e2, .slice b3 a.gone.length e3] 26 ∧ RefIn w6 w2.heap.size (.slice (some ⟨g, 0, none⟩) a.seen.length e1) (.slice b2 a.items.length e2) (.slice b3 a.gone.length e3) ⟨seenTo a.seen b.seen 0, a.items, a.gone⟩ ∧ Below w2.heap.size w2 w6 from ⟨kO, by rw [seenTo_zero]; exact ho6.mono HL4.out.size, hL6⟩)
      have Hw6 := Lib.hid hw6; have Hg := Lib.hid (And.intro (Nat.le_trans HL4.out.size hg1) hg2); have Hle := Lib.hid hle
      have H5s := Lib.hid (show w2.heap.size ≤ w5.heap.size from hL5.size)
      clear HCp hb5 hL5 hb6 ho6 kO hL6 hw6 ho c0 c1 c2 hg1 hg2 hle
      go_wp2_with fail
      rw [← Hw6.out]
      go_loopw [7] (fun i wr => ∃ k : Nat, k ≤ b.seen.length ∧ i = .int .i64 (k : Int) ∧ Blk wr w5.heap.size [.slice (some ⟨g, 0, none⟩) a.seen.length e1, .slice b2 a.items.length e2, .slice b3 a.gone.length e3] 26 ∧ RefIn wr w2.heap.size (.slice (some ⟨g, 0, none⟩) a.seen.length e1) (.slice b2 a.items.length e2) (.slice b3 a.gone.length e3) ⟨seenTo a.seen b.seen k, a.items, a.gone⟩ ∧ Below w2.heap.size w2 wr) (fun i _ => b.seen.length - (intOf i).toNat)
      case atStart => exact ⟨0, by omega, rfl, H6.out⟩
      case round =>
        obtain ⟨k, hk, rfl, kO, ho, hL⟩ := hrel
        have kbr := (HR.out wr hL).2.2.1
        obtain ⟨d0, d1, d2⟩ := cell3 kbr
        by_cases hkn : k < b.seen.length
        · have hkI : (k : Int) < (b.seen.length : Int) := by omega
          have hka : k < a.seen.length := by have := Hle.out; omega
          have hkaI : (k : Int) < (a.seen.length : Int) := by omega
          obtain ⟨bb, ob, rfl, -, -, hc⟩ := (HR.out wr hL).2.2.2.2.2.seen.cells (by omega)
          obtain ⟨x, hx⟩ : ∃ x, a.seen[k] = x := ⟨_, rfl⟩
          obtain ⟨y, hy⟩ : ∃ y, b.seen[k] = y := ⟨_, rfl⟩
          have e0 := hc k (.int .i64 y) (by simp [hkn, hy])
          try simp only [Nat.mul_one] at e0
          have hod := ho.below (Below.refl wr.heap.size wr).drew
          have hsd := hod.seen
          have hlen : (seenTo a.seen b.seen k).length = a.seen.length := seenTo_len _ _ k Hle.out (by omega)
          dsimp only at hsd
          rw [hlen] at hsd
          have eg : wr.drew.cell? ⟨g, k, none⟩ = some (.int .i64 x) := by
            rw [hsd.cellAt k (by simp; omega)]
            simp [seenTo_get a.seen b.seen k Hle.out hka, hx]
          have fg := hsd.frozenAt k
          obtain ⟨hst, hgr⟩ := hsd.stored k (.int .i64 (max x y))
          have po : ∀ w', Later wr.drew w' → w'.cell? ⟨w5.heap.size, 0, none⟩ = some (.slice (some ⟨g, 0, none⟩) a.seen.length e1) := fun w' hh => laterC (cell3 kO).1 hh
          have pg : ∀ w', Later wr.drew w' → w'.cell? ⟨g, k, none⟩ = some (.int .i64 x) := fun w' hh => laterC (w := wr) eg hh
          have pb : ∀ w', Later wr.drew w' → w'.cell? ⟨w.heap.size + 1, 0, none⟩ = some (.slice (some ⟨bb, ob, none⟩) b.seen.length p1b) := fun w' hh => laterC d0 hh
          have pe : ∀ w', Later wr.drew w' → w'.cell? ⟨bb, ob + k, none⟩ = some (.int .i64 y) := fun w' hh => laterC e0 hh
          obtain ⟨w8, hw8⟩ : ∃ w8, w8 = wr.drew.setCell ⟨g, k, none⟩ (.int .i64 (max x y)) := ⟨_, rfl⟩
          rw [← hw8] at hst hgr
          have Hst := Lib.hid (show Blk w8 w5.heap.size [.slice (some ⟨g, 0, none⟩) a.seen.length e1, .slice b2 a.items.length e2, .slice b3 a.gone.length e3] 26 ∧ RefIn w8 w2.heap.size (.slice (some ⟨g, 0, none⟩) a.seen.length e1) (.slice b2 a.items.length e2) (.slice b3 a.gone.length e3) ⟨seenTo a.seen b.seen (k + 1), a.items, a.gone⟩ ∧ Below w2.heap.size w2 w8 from by
            refine ⟨by rw [hw8]; exact (kO.drew).set_other _ (by show w5.heap.size ≠ g; have := Hg.out.2; omega), ⟨?_, own_grownNe hod.items hsd (by decide) hgr, own_grownNe hod.gone hsd (by decide) hgr⟩, by rw [hw8]; exact hL.drew.setCell (by have := Hg.out.1; show w2.heap.size ≤ g; omega) _⟩
            have h1 := seenTo_succ a.seen b.seen k Hle.out hka
            show w8.ownsRow w2.heap.size 3 1 _ (seenTo a.seen b.seen (k + 1)).length ((seenTo a.seen b.seen (k + 1)).map eI)
            rw [seenTo_len _ _ (k + 1) Hle.out (by omega), h1, List.map_set, hx, hy]
            exact hst)
          have Hw8 := Lib.hid hw8
          clear hc hx hy hod hsd hlen hst hgr hw8 kO ho kbr
          go_wp2_with fail
          refine wp_region_canL Later 15 [(0, true), (1, true), (2, true), (3, true), (4, true), (5, true), (6, true), (7, true), (8, true), (9, true), (10, true), (11, true), (12, true), (13, true), (14, true), (15, false)] (by kernel_rfl) (by kernel_rfl) (by kernel_rfl) later_refl later_trans ?_
          repeat (refine canL_yes (v := ?_) rfl (wanted_none rfl) (fun w' hC => ?_) (fun K hK => ?_); rotate_left; (focus (go_simp; first | done | exact rfl)); go_simp; refine hK _ ?_; clear hK K)
          refine canL_last rfl rfl rfl (fun KK hK => ?_)
          go_simp
          rw [show (wr.setCell ⟨g, k, none⟩ (.int .i64 (max x y))).drew = w8 from Hw8.out.symm]
          refine hK _ _ ?_
          clear hK KK po pg eg fg pb pe d0 d1 d2 e0
          go_simp
          refine canL_nil ?_
          go_wp2_with fail
          go_roundw
          case rel => exact ⟨k + 1, by omega, by go_num, Hst.out⟩
          case measure => simp [intOf]; omega
        · have hkI : ¬ (k : Int) < (b.seen.length : Int) := by omega
          have hke : k = a.seen.length := by have := Hle.out; omega
          have hse : seenTo a.seen b.seen k = List.zipWith max a.seen b.seen := by rw [hke]; exact seenTo_all _ _ Hle.out
          obtain ⟨zs, hzs⟩ : ∃ zs, List.zipWith max a.seen b.seen = zs := ⟨_, rfl⟩
          have hzl : zs.length = a.seen.length := by rw [← hzs]; have := Hle.out; simp; omega
          rw [hse, hzs] at ho
          have HL6 := Lib.hid hL; have HO6 := Lib.hid ho; have KO6 := Lib.hid kO; have Hzl := Lib.hid hzl; have Hzs := Lib.hid hzs
          clear hse hke hzs hzl ho kO H6 hL kbr hbs
          have hgb : b.gone.length ≤ 4096 := Hsb.out.2.2
          have hib : b.items.length ≤ 4096 := Hsb.out.2.1
          go_wp2_with fail
          clear d0 d1 d2
          go_loopw [8] (fun i wr => ∃ k : Nat, k ≤ b.gone.length ∧ i = .int .i64 (k : Int) ∧ Below w2.heap.size w2 wr ∧ ∃ sg, Blk wr w5.heap.size [.slice (some ⟨g, 0, none⟩) a.seen.length e1, .slice b2 a.items.length e2, sg] 26 ∧ RefIn wr w2.heap.size (.slice (some ⟨g, 0, none⟩) a.seen.length e1) (.slice b2 a.items.length e2) sg ⟨zs, a.items, goneUp a (b.gone.take k)⟩ ∧ (goneUp a (b.gone.take k)).length ≤ 4096 + k) (fun i _ => b.gone.length - (intOf i).toNat)
          case atStart => exact ⟨0, by omega, rfl, HL6.out, _, KO6.out, HO6.out, by have := Hsa.out.2.2; exact this⟩
          case round =>
            obtain ⟨k, hkn0, rfl, hbw, sg, hOb, hin, hlen⟩ := hrel
            generalize hcur : goneUp a (b.gone.take k) = cur at hin hlen
            obtain ⟨ag, cg, rfl⟩ := own_shape hin.gone
            dsimp only at hOb hin hlen ⊢
            have Hcur := Lib.hid hcur; have Hbw := Lib.hid hbw; have HOb := Lib.hid hOb; have Hin := Lib.hid hin; have Hlen := Lib.hid hlen
            clear hcur hbw hOb hin hlen
            obtain ⟨-, kA, kB, -, hMm, hMb⟩ := HR.out wr Hbw.out
            obtain ⟨d0, d1, d2⟩ := cell3 kB
            by_cases hkn : k < b.gone.length
            · have hkI : (k : Int) < (b.gone.length : Int) := by omega
              obtain ⟨bi, oi, rfl, -, -, hic⟩ := go_cell hMb.gone (by omega)
              obtain ⟨x0, x1, x2⟩ := hic k hkn
              obtain ⟨gx, hgx⟩ : ∃ gx, b.gone[k] = gx := ⟨_, rfl⟩
              rw [hgx] at x0 x1 x2
              have Hgx := Lib.hid hgx
              obtain ⟨wX, hwX⟩ : ∃ wX, wX = wr.alloc (.cells #[.string ⟨gx.key.toArray⟩, .int .i64 gx.dev, .int .i64 gx.seq] 94) := ⟨_, rfl⟩
              have HwX := Lib.hid hwX
              have hbX : Below wr.heap.size wr wX := by rw [hwX]; exact kept_alloc _ _
              have kX : Blk wX wr.heap.size [.string ⟨gx.key.toArray⟩, .int .i64 gx.dev, .int .i64 gx.seq] 94 := by rw [hwX]; exact Blk.new _ _ _
              have HbX := Lib.hid hbX; have KX := Lib.hid kX
              obtain ⟨bur, hbur⟩ : ∃ bur, a.buried (gx.key, gx.dev) = bur := ⟨_, rfl⟩
              have HF := Lib.hid (show ∀ W, Below wX.heap.size wX W → Below wr.heap.size wr W ∧ Blk W w.heap.size [.slice a1a a.seen.length p1a, .slice a2a a.items.length p2a, .slice a3a a.gone.length p3a] 26 ∧ Blk W wr.heap.size [.string ⟨gx.key.toArray⟩, .int .i64 gx.dev, .int .i64 gx.seq] 94 ∧ Calls Tryz.prog 89 #[.agg #[.slice a1a a.seen.length p1a, .slice a2a a.items.length p2a, .slice a3a a.gone.length p3a], .string ⟨gx.key.toArray⟩, .int .i64 gx.dev] W (fun e w' => e = .returned (.int .i64 bur) ∧ Below W.heap.size W w') from fun W hb => by
                have h1 := HbX.out.trans (hb.mono HbX.out.size)
                obtain ⟨-, kA', -, -, hM', -⟩ := HR.out W (Hbw.out.trans (h1.mono Hbw.out.size))
                refine ⟨h1, kA', KX.out.keep (hb.block _ KX.out.lt), ?_⟩
                rw [← hbur]
                exact gone_any W _ _ a ⟨_, _, _, rfl, hM'⟩ gx.key gx.dev)
              have Hbur := Lib.hid hbur
              clear hic hgx hwX hbX kX kA kB hMm hMb hbur
              go_wp2_with fail
              rw [← HwX.out]
              clear x0 x1 x2 d0 d1 d2
              have hall : ∀ w', Later wX.drew w' → Below wX.heap.size wX w' := fun w' hh => (Below.refl wX.heap.size wX).drew.trans hh
              have px0 : ∀ w', Later wX.drew w' → w'.cell? ⟨wr.heap.size, 0, none⟩ = some (.string ⟨gx.key.toArray⟩) := fun w' hh => (cell3 (HF.out w' (hall w' hh)).2.2.1).1
              have px1 : ∀ w', Later wX.drew w' → w'.cell? ⟨wr.heap.size, 1, none⟩ = some (.int .i64 gx.dev) := fun w' hh => (cell3 (HF.out w' (hall w' hh)).2.2.1).2.1
              have px2 : ∀ w', Later wX.drew w' → w'.cell? ⟨wr.heap.size, 2, none⟩ = some (.int .i64 gx.seq) := fun w' hh => (cell3 (HF.out w' (hall w' hh)).2.2.1).2.2
              have pa0 : ∀ w', Later wX.drew w' → w'.cell? ⟨w.heap.size, 0, none⟩ = some (.slice a1a a.seen.length p1a) := fun w' hh => (cell3 (HF.out w' (hall w' hh)).2.1).1
              have pa1 : ∀ w', Later wX.drew w' → w'.cell? ⟨w.heap.size, 1, none⟩ = some (.slice a2a a.items.length p2a) := fun w' hh => (cell3 (HF.out w' (hall w' hh)).2.1).2.1
              have pa2 : ∀ w', Later wX.drew w' → w'.cell? ⟨w.heap.size, 2, none⟩ = some (.slice a3a a.gone.length p3a) := fun w' hh => (cell3 (HF.out w' (hall w' hh)).2.1).2.2
              refine wp_region_can Later [(0, true), (1, true), (2, true), (3, true), (4, true), (5, true), (6, true), (7, false), (8, true)] (by kernel_rfl) (by kernel_rfl) later_refl later_trans ?_
              repeat (refine can_yes (v := ?_) rfl (wanted_none rfl) (fun w' hC => ?_) (fun K hK => ?_); rotate_left; (focus (go_simp; (try simp (disch := omega) only [IntWalk.i64_in]); first | done | exact rfl)); go_simp; (try simp (disch := omega) only [IntWalk.i64_in]); refine hK _ ?_; clear hK K)
              refine can_go rfl rfl (fun KK hK => ?_)
              go_simp
              refine (HF.out _ (Below.refl wX.heap.size wX).drew).2.2.2.mono ?_
              rintro e w8 ⟨rfl, hb8⟩
              refine ⟨_, rfl, hb8, hK _ _ ?_⟩
              have hw8 : Below wX.heap.size wX w8 := (Below.refl wX.heap.size wX).drew.trans hb8
              clear hK KK px0 px1 px2 pa0 pa1 pa2 hall hb8
              go_simp
              obtain ⟨hwr8, -, kX8, -⟩ := HF.out w8 hw8
              have kO8 := HOb.out.keep (hwr8.block _ HOb.out.lt)
              have hin8 := Hin.out.below hwr8
              have hL8 : Below w2.heap.size w2 w8 := Hbw.out.trans (hwr8.mono Hbw.out.size)
              obtain ⟨o0, o1, o2⟩ := cell3 kO8
              obtain ⟨x0, x1, x2⟩ := cell3 kX8
              have KO8 := Lib.hid kO8; have Hin8 := Lib.hid hin8; have HL8 := Lib.hid hL8
              clear hw8 hwr8 kX8 kO8 hin8 hL8
              by_cases hlt : bur < gx.seq
              · have hst := goneUp_yes (a := a) (l := b.gone) hkn (by rw [Hgx.out]; show a.buried (gx.key, gx.dev) < _; rw [Hbur.out]; exact hlt)
                rw [Hcur.out, Hgx.out] at hst
                repeat (refine can_yes (v := ?_) rfl (wanted_none rfl) (fun w' hC => ?_) (fun K hK => ?_); rotate_left; (focus (go_simp; (try simp (disch := omega) only [IntWalk.i64_in]); first | done | exact rfl)); go_simp; (try simp (disch := omega) only [IntWalk.i64_in]); refine hK _ ?_; clear hK K)
                refine can_nil ?_
                have hP := rbury_any w8 _ (.slice ag cur.length cg) cur gx (Rows.of_owns Hin8.out.gone) (by have := Hlen.out; have := Hsb.out.2.2; omega)
                have hpn := put_len RGo.pl cur gx
                generalize hnr : putL RGo.pl cur gx = nxt at hP hpn hst
                unfold goV at hP
                have HP := Lib.hid hP; have Hpn := Lib.hid hpn; have Hst := Lib.hid hst
                clear hP hnr hpn hst
                go_wp2_with fail
                refine HP.out.mono ?_
                rintro e w9 ⟨⟨r, rfl, ho9⟩, hb9⟩
                obtain ⟨a9, c9, rfl⟩ := own_shape ho9
                have kO9 := KO8.out.keep (hb9.block _ KO8.out.lt)
                clear o0 o1 o2 x0 x1 x2
                obtain ⟨o0, o1, o2⟩ := cell3 kO9
                have fo1 := kO9.free 2
                obtain ⟨w10, hw10⟩ : ∃ w10, w10 = w9.setCell ⟨w5.heap.size, 2, none⟩ (.slice a9 nxt.length c9) := ⟨_, rfl⟩
                have hL9 : Below w2.heap.size w2 w9 := HL8.out.trans (hb9.mono HL8.out.size)
                have HL10 := Lib.hid (show Below w2.heap.size w2 w10 by rw [hw10]; exact hL9.setCell (by show w2.heap.size ≤ w5.heap.size; exact H5s.out) _)
                have KO10 := Lib.hid (show Blk w10 w5.heap.size [.slice (some ⟨g, 0, none⟩) a.seen.length e1, .slice b2 a.items.length e2, .slice a9 nxt.length c9] 26 by rw [hw10]; exact kO9.set 2 _)
                have Hin10 := Lib.hid (show RefIn w10 w2.heap.size (.slice (some ⟨g, 0, none⟩) a.seen.length e1) (.slice b2 a.items.length e2) (.slice a9 nxt.length c9) ⟨zs, a.items, goneUp a (b.gone.take (k + 1))⟩ by
                  rw [Hst.out]
                  have hq9 := Hin8.out.below hb9
                  rw [hw10]
                  exact ⟨own_setCell hq9.seen kO9 (by decide) _, own_setCell hq9.items kO9 (by decide) _, own_setCell (own_base ho9 HL8.out.size) kO9 (by decide) _⟩)
                have Hlen10 := Lib.hid (show (goneUp a (b.gone.take (k + 1))).length ≤ 4096 + (k + 1) by
                  rw [Hst.out]
                  have := Hpn.out; have := Hlen.out
                  omega)
                have Hw10 := Lib.hid hw10
                clear hw10 hL9 ho9 hb9 kO9 HP
                go_wp2_with fail
                rw [← Hw10.out]
                clear o0 o1 o2 fo1
                go_roundw
                case rel => exact ⟨k + 1, by omega, by go_num, HL10.out, _, KO10.out, Hin10.out, Hlen10.out⟩
                case measure => simp [intOf]; omega
              · have hst := goneUp_no (a := a) (l := b.gone) hkn (by rw [Hgx.out]; show ¬ a.buried (gx.key, gx.dev) < _; rw [Hbur.out]; exact hlt)
                rw [Hcur.out] at hst
                have Hst := Lib.hid hst
                clear hst
                repeat (refine can_yes (v := ?_) rfl (wanted_none rfl) (fun w' hC => ?_) (fun K hK => ?_); rotate_left; (focus (go_simp; (try simp (disch := omega) only [IntWalk.i64_in]); first | done | exact rfl)); go_simp; (try simp (disch := omega) only [IntWalk.i64_in]); refine hK _ ?_; clear hK K)
                refine can_nil ?_
                have Hin10 := Lib.hid (show RefIn w8 w2.heap.size (.slice (some ⟨g, 0, none⟩) a.seen.length e1) (.slice b2 a.items.length e2) (.slice ag cur.length cg) ⟨zs, a.items, goneUp a (b.gone.take (k + 1))⟩ by rw [Hst.out]; exact Hin8.out)
                have Hlen10 := Lib.hid (show (goneUp a (b.gone.take (k + 1))).length ≤ 4096 + (k + 1) by rw [Hst.out]; have := Hlen.out; omega)
                clear o0 o1 o2 x0 x1 x2
                go_wp2_with fail
                go_roundw
                case rel => exact ⟨k + 1, by omega, by go_num, HL8.out, _, KO8.out, Hin10.out, Hlen10.out⟩
                case measure => simp [intOf]; omega
            · have hkI : ¬ (k : Int) < (b.gone.length : Int) := by omega
              have hcg : goneUp a b.gone = cur := by
                have := Hcur.out
                rw [show k = b.gone.length by omega, List.take_length] at this
                exact this
              have hlc : cur.length ≤ 8192 := by have := Hlen.out; have := Hsb.out.2.2; omega
              have HG := Lib.hid hcg; have Hlc := Lib.hid hlc
              clear hcg hlc Hcur Hlen kA kB hMm hMb
              go_wp2_with fail
              clear d0 d1 d2
              go_loopw [10] (fun i wr => ∃ k : Nat, k ≤ b.items.length ∧ i = .int .i64 (k : Int) ∧ Below w2.heap.size w2 wr ∧ ∃ si, Blk wr w5.heap.size [.slice (some ⟨g, 0, none⟩) a.seen.length e1, si, .slice ag cur.length cg] 26 ∧ RefIn wr w2.heap.size (.slice (some ⟨g, 0, none⟩) a.seen.length e1) si (.slice ag cur.length cg) ⟨zs, itUp a (b.items.take k), cur⟩ ∧ (itUp a (b.items.take k)).length ≤ 4096 + k) (fun i _ => b.items.length - (intOf i).toNat)
              case atStart => exact ⟨0, by omega, rfl, Hbw.out, _, HOb.out, Hin.out, by have := Hsa.out.2.1; exact this⟩
              case round =>
                clear Hbw HOb Hin
                obtain ⟨k3, hkn3, rfl, hbw, si, hOb, hin, hlen⟩ := hrel
                generalize hcu3 : itUp a (b.items.take k3) = cu3 at hin hlen
                obtain ⟨ai, ci, rfl⟩ := own_shape hin.items
                dsimp only at hOb hin hlen ⊢
                have Hcu3 := Lib.hid hcu3; have Hbw := Lib.hid hbw; have HOb := Lib.hid hOb; have Hin := Lib.hid hin; have Hlen := Lib.hid hlen
                clear hcu3 hbw hOb hin hlen
                obtain ⟨-, kA, kB, -, hMm, hMb⟩ := HR.out wr Hbw.out
                obtain ⟨d0, d1, d2⟩ := cell3 kB
                by_cases hkn : k3 < b.items.length
                · have hkI3 : (k3 : Int) < (b.items.length : Int) := by omega
                  obtain ⟨bi, oi, rfl, -, -, hic⟩ := it_cell hMb.items (by omega)
                  obtain ⟨x0, x1, x2, x3⟩ := hic k3 hkn
                  obtain ⟨it, hit⟩ : ∃ it, b.items[k3] = it := ⟨_, rfl⟩
                  rw [hit] at x0 x1 x2 x3
                  have Hit := Lib.hid hit
                  obtain ⟨wX, hwX⟩ : ∃ wX, wX = wr.alloc (.cells #[.string ⟨it.key.toArray⟩, .int .i64 it.dev, .int .i64 it.seq, .int .i64 it.val] 92) := ⟨_, rfl⟩
                  have HwX := Lib.hid hwX
                  have hbX : Below wr.heap.size wr wX := by rw [hwX]; exact kept_alloc _ _
                  have kX : Blk wX wr.heap.size [.string ⟨it.key.toArray⟩, .int .i64 it.dev, .int .i64 it.seq, .int .i64 it.val] 92 := by rw [hwX]; exact Blk.new _ _ _
                  have HbX := Lib.hid hbX; have KX := Lib.hid kX
                  have kAX := kA.keep (hbX.block _ kA.lt)
                  obtain ⟨c0, c1, c2⟩ := cell3 kAX
                  rw [hwX] at c0 c1 c2
                  obtain ⟨y0, y1, y2, y3⟩ := cell4 kX
                  rw [hwX] at y0 y1 y2 y3
                  obtain ⟨-, -, -, -, hMX, -⟩ := HR.out wX (Hbw.out.trans (hbX.mono Hbw.out.size))
                  have HI := Lib.hid (item_any wX _ _ a ⟨_, _, _, rfl, hMX⟩ it.key it.dev)
                  obtain ⟨o, ho⟩ : ∃ o, look RIt.pl a.items (it.key, it.dev) = o := ⟨_, rfl⟩
                  rw [ho] at HI
                  have Ho := Lib.hid (show look RIt.pl a.items it.pl = o from ho)
                  clear hic hit hwX hbX kX kA kB hMm hMb kAX hMX ho
                  go_wp2_with fail
                  rw [← HwX.out]
                  clear x0 x1 x2 x3 d0 d1 d2 c0 c1 c2 y0 y1 y2 y3
                  cases o with
                  | none =>
                    have hnew : itNew a b.items[k3] = true := by rw [Hit.out]; unfold itNew; rw [Ho.out]
                    refine (show Calls Tryz.prog _ _ wX (fun e w' => e = .returned (.tuple #[.agg #[.string ⟨#[]⟩, .int .i64 0, .int .i64 0, .int .i64 0], .bool false]) ∧ Below wX.heap.size wX w') from HI.out).mono ?_
                    rintro e w8 ⟨rfl, hb8⟩
                    have hbr8 : Below wr.heap.size wr w8 := HbX.out.trans (hb8.mono HbX.out.size)
                    obtain ⟨wY, hwY⟩ : ∃ wY, wY = w8.alloc (.cells #[.string ⟨#[]⟩, .int .i64 0, .int .i64 0, .int .i64 0] 92) := ⟨_, rfl⟩
                    have hbrY : Below wr.heap.size wr wY := by rw [hwY]; exact hbr8.alloc hbr8.size _
                    have kY : Blk wY w8.heap.size [.string ⟨#[]⟩, .int .i64 0, .int .i64 0, .int .i64 0] 92 := by rw [hwY]; exact Blk.new _ _ _
                    have kXY : Blk wY wr.heap.size [.string ⟨it.key.toArray⟩, .int .i64 it.dev, .int .i64 it.seq, .int .i64 it.val] 92 := by rw [hwY]; exact (KX.out.keep (hb8.block _ KX.out.lt)).alloc _
                    have kOY := HOb.out.keep (hbrY.block _ HOb.out.lt)
                    have hLY : Below w2.heap.size w2 wY := Hbw.out.trans (hbrY.mono Hbw.out.size)
                    have hinY := Hin.out.below hbrY
                    obtain ⟨y0, y1, y2, y3⟩ := cell4 kY
                    obtain ⟨x0, x1, x2, x3⟩ := cell4 kXY
                    obtain ⟨o0, o1, o2⟩ := cell3 kOY
                    rw [hwY] at y0 y1 y2 y3 x0 x1 x2 x3 o0 o1 o2
                    have HwY := Lib.hid hwY; have KOY := Lib.hid kOY; have HLY := Lib.hid hLY; have HinY := Lib.hid hinY
                    clear hbr8 hb8 hwY hbrY kY kXY kOY hLY hinY HI
                    have hst := itUp_yes (a := a) (l := b.items) hkn hnew
                    rw [Hcu3.out, Hit.out] at hst
                    have hP := rput_any wY _ (.slice ai cu3.length ci) cu3 it (Rows.of_owns HinY.out.items) (by have := Hlen.out; have := Hsb.out.2.1; omega)
                    have hpn := put_len RIt.pl cu3 it
                    generalize hnr : putL RIt.pl cu3 it = nxt at hP hpn hst
                    unfold itV at hP
                    have HP := Lib.hid hP; have Hpn := Lib.hid hpn; have Hst := Lib.hid hst
                    clear hP hnr hpn hst hnew
                    go_wp2_with fail
                    rw [← HwY.out]
                    refine HP.out.mono ?_
                    rintro e w9 ⟨⟨r, rfl, ho9⟩, hb9⟩
                    obtain ⟨a9, c9, rfl⟩ := own_shape ho9
                    have kO9 := KOY.out.keep (hb9.block _ KOY.out.lt)
                    clear o0 o1 o2 x0 x1 x2 x3 y0 y1 y2 y3
                    obtain ⟨o0, o1, o2⟩ := cell3 kO9
                    have fo1 := kO9.free 1
                    obtain ⟨w10, hw10⟩ : ∃ w10, w10 = w9.setCell ⟨w5.heap.size, 1, none⟩ (.slice a9 nxt.length c9) := ⟨_, rfl⟩
                    have hL9 : Below w2.heap.size w2 w9 := HLY.out.trans (hb9.mono HLY.out.size)
                    have HL10 := Lib.hid (show Below w2.heap.size w2 w10 by rw [hw10]; exact hL9.setCell (by show w2.heap.size ≤ w5.heap.size; exact H5s.out) _)
                    have KO10 := Lib.hid (show Blk w10 w5.heap.size [.slice (some ⟨g, 0, none⟩) a.seen.length e1, .slice a9 nxt.length c9, .slice ag cur.length cg] 26 by rw [hw10]; exact kO9.set 1 _)
                    have Hin10 := Lib.hid (show RefIn w10 w2.heap.size (.slice (some ⟨g, 0, none⟩) a.seen.length e1) (.slice a9 nxt.length c9) (.slice ag cur.length cg) ⟨zs, itUp a (b.items.take (k3 + 1)), cur⟩ by
                      rw [Hst.out]
                      have hq9 := HinY.out.below hb9
                      rw [hw10]
                      exact ⟨own_setCell hq9.seen kO9 (by decide) _, own_setCell (own_base ho9 HLY.out.size) kO9 (by decide) _, own_setCell hq9.gone kO9 (by decide) _⟩)
                    have Hlen10 := Lib.hid (show (itUp a (b.items.take (k3 + 1))).length ≤ 4096 + (k3 + 1) by
                      rw [Hst.out]
                      have := Hpn.out; have := Hlen.out
                      omega)
                    have Hw10 := Lib.hid hw10
                    clear hw10 hL9 ho9 hb9 kO9 HP
                    go_wp2_with fail
                    rw [← Hw10.out]
                    clear o0 o1 o2 fo1
                    go_roundw
                    case rel => exact ⟨k3 + 1, by omega, by go_num, HL10.out, _, KO10.out, Hin10.out, Hlen10.out⟩
                    case measure => simp [intOf]; omega
                  | some y =>
                    refine (show Calls Tryz.prog _ _ wX (fun e w' => e = .returned (.tuple #[.agg #[.string ⟨y.key.toArray⟩, .int .i64 y.dev, .int .i64 y.seq, .int .i64 y.val], .bool true]) ∧ Below wX.heap.size wX w') from HI.out).mono ?_
                    rintro e w8 ⟨rfl, hb8⟩
                    have hbr8 : Below wr.heap.size wr w8 := HbX.out.trans (hb8.mono HbX.out.size)
                    obtain ⟨wY, hwY⟩ : ∃ wY, wY = w8.alloc (.cells #[.string ⟨y.key.toArray⟩, .int .i64 y.dev, .int .i64 y.seq, .int .i64 y.val] 92) := ⟨_, rfl⟩
                    have hbrY : Below wr.heap.size wr wY := by rw [hwY]; exact hbr8.alloc hbr8.size _
                    have kY : Blk wY w8.heap.size [.string ⟨y.key.toArray⟩, .int .i64 y.dev, .int .i64 y.seq, .int .i64 y.val] 92 := by rw [hwY]; exact Blk.new _ _ _
                    have kXY : Blk wY wr.heap.size [.string ⟨it.key.toArray⟩, .int .i64 it.dev, .int .i64 it.seq, .int .i64 it.val] 92 := by rw [hwY]; exact (KX.out.keep (hb8.block _ KX.out.lt)).alloc _
                    have kOY := HOb.out.keep (hbrY.block _ HOb.out.lt)
                    have hLY : Below w2.heap.size w2 wY := Hbw.out.trans (hbrY.mono Hbw.out.size)
                    have hinY := Hin.out.below hbrY
                    obtain ⟨y0, y1, y2, y3⟩ := cell4 kY
                    obtain ⟨x0, x1, x2, x3⟩ := cell4 kXY
                    obtain ⟨o0, o1, o2⟩ := cell3 kOY
                    rw [hwY] at y0 y1 y2 y3 x0 x1 x2 x3 o0 o1 o2
                    have HwY := Lib.hid hwY; have KOY := Lib.hid kOY; have HLY := Lib.hid hLY; have HinY := Lib.hid hinY
                    clear hbr8 hb8 hwY hbrY kY kXY kOY hLY hinY HI
                    have HN := Lib.hid (show itNew a b.items[k3] = decide (y.seq < it.seq ∨ (it.seq = y.seq ∧ y.val < it.val)) by rw [Hit.out]; unfold itNew; rw [Ho.out])
                    by_cases g1 : y.seq < it.seq
                    · have hnew : itNew a b.items[k3] = true := by rw [HN.out]; exact decide_eq_true (.inl g1)
                      have hst := itUp_yes (a := a) (l := b.items) hkn hnew
                      rw [Hcu3.out, Hit.out] at hst
                      have hP := rput_any wY _ (.slice ai cu3.length ci) cu3 it (Rows.of_owns HinY.out.items) (by have := Hlen.out; have := Hsb.out.2.1; omega)
                      have hpn := put_len RIt.pl cu3 it
                      generalize hnr : putL RIt.pl cu3 it = nxt at hP hpn hst
                      unfold itV at hP
                      have HP := Lib.hid hP; have Hpn := Lib.hid hpn; have Hst := Lib.hid hst
                      clear hP hnr hpn hst hnew
                      go_wp2_with fail
                      rw [← HwY.out]
                      refine HP.out.mono ?_
                      rintro e w9 ⟨⟨r, rfl, ho9⟩, hb9⟩
                      obtain ⟨a9, c9, rfl⟩ := own_shape ho9
                      have kO9 := KOY.out.keep (hb9.block _ KOY.out.lt)
                      clear o0 o1 o2 x0 x1 x2 x3 y0 y1 y2 y3
                      obtain ⟨o0, o1, o2⟩ := cell3 kO9
                      have fo1 := kO9.free 1
                      obtain ⟨w10, hw10⟩ : ∃ w10, w10 = w9.setCell ⟨w5.heap.size, 1, none⟩ (.slice a9 nxt.length c9) := ⟨_, rfl⟩
                      have hL9 : Below w2.heap.size w2 w9 := HLY.out.trans (hb9.mono HLY.out.size)
                      have HL10 := Lib.hid (show Below w2.heap.size w2 w10 by rw [hw10]; exact hL9.setCell (by show w2.heap.size ≤ w5.heap.size; exact H5s.out) _)
                      have KO10 := Lib.hid (show Blk w10 w5.heap.size [.slice (some ⟨g, 0, none⟩) a.seen.length e1, .slice a9 nxt.length c9, .slice ag cur.length cg] 26 by rw [hw10]; exact kO9.set 1 _)
                      have Hin10 := Lib.hid (show RefIn w10 w2.heap.size (.slice (some ⟨g, 0, none⟩) a.seen.length e1) (.slice a9 nxt.length c9) (.slice ag cur.length cg) ⟨zs, itUp a (b.items.take (k3 + 1)), cur⟩ by
                        rw [Hst.out]
                        have hq9 := HinY.out.below hb9
                        rw [hw10]
                        exact ⟨own_setCell hq9.seen kO9 (by decide) _, own_setCell (own_base ho9 HLY.out.size) kO9 (by decide) _, own_setCell hq9.gone kO9 (by decide) _⟩)
                      have Hlen10 := Lib.hid (show (itUp a (b.items.take (k3 + 1))).length ≤ 4096 + (k3 + 1) by
                        rw [Hst.out]
                        have := Hpn.out; have := Hlen.out
                        omega)
                      have Hw10 := Lib.hid hw10
                      clear hw10 hL9 ho9 hb9 kO9 HP
                      go_wp2_with fail
                      rw [← Hw10.out]
                      clear o0 o1 o2 fo1
                      go_roundw
                      case rel => exact ⟨k3 + 1, by omega, by go_num, HL10.out, _, KO10.out, Hin10.out, Hlen10.out⟩
                      case measure => simp [intOf]; omega
                    · by_cases g2 : it.seq = y.seq
                      · by_cases g3 : y.val < it.val
                        · have hnew : itNew a b.items[k3] = true := by rw [HN.out]; exact decide_eq_true (.inr ⟨g2, g3⟩)
                          have g2' : (it.seq == y.seq) = true := by simpa using g2
                          clear g2
                          have hst := itUp_yes (a := a) (l := b.items) hkn hnew
                          rw [Hcu3.out, Hit.out] at hst
                          have hP := rput_any wY _ (.slice ai cu3.length ci) cu3 it (Rows.of_owns HinY.out.items) (by have := Hlen.out; have := Hsb.out.2.1; omega)
                          have hpn := put_len RIt.pl cu3 it
                          generalize hnr : putL RIt.pl cu3 it = nxt at hP hpn hst
                          unfold itV at hP
                          have HP := Lib.hid hP; have Hpn := Lib.hid hpn; have Hst := Lib.hid hst
                          clear hP hnr hpn hst hnew
                          go_wp2_with fail
                          rw [← HwY.out]
                          refine HP.out.mono ?_
                          rintro e w9 ⟨⟨r, rfl, ho9⟩, hb9⟩
                          obtain ⟨a9, c9, rfl⟩ := own_shape ho9
                          have kO9 := KOY.out.keep (hb9.block _ KOY.out.lt)
                          clear o0 o1 o2 x0 x1 x2 x3 y0 y1 y2 y3
                          obtain ⟨o0, o1, o2⟩ := cell3 kO9
                          have fo1 := kO9.free 1
                          obtain ⟨w10, hw10⟩ : ∃ w10, w10 = w9.setCell ⟨w5.heap.size, 1, none⟩ (.slice a9 nxt.length c9) := ⟨_, rfl⟩
                          have hL9 : Below w2.heap.size w2 w9 := HLY.out.trans (hb9.mono HLY.out.size)
                          have HL10 := Lib.hid (show Below w2.heap.size w2 w10 by rw [hw10]; exact hL9.setCell (by show w2.heap.size ≤ w5.heap.size; exact H5s.out) _)
                          have KO10 := Lib.hid (show Blk w10 w5.heap.size [.slice (some ⟨g, 0, none⟩) a.seen.length e1, .slice a9 nxt.length c9, .slice ag cur.length cg] 26 by rw [hw10]; exact kO9.set 1 _)
                          have Hin10 := Lib.hid (show RefIn w10 w2.heap.size (.slice (some ⟨g, 0, none⟩) a.seen.length e1) (.slice a9 nxt.length c9) (.slice ag cur.length cg) ⟨zs, itUp a (b.items.take (k3 + 1)), cur⟩ by
                            rw [Hst.out]
                            have hq9 := HinY.out.below hb9
                            rw [hw10]
                            exact ⟨own_setCell hq9.seen kO9 (by decide) _, own_setCell (own_base ho9 HLY.out.size) kO9 (by decide) _, own_setCell hq9.gone kO9 (by decide) _⟩)
                          have Hlen10 := Lib.hid (show (itUp a (b.items.take (k3 + 1))).length ≤ 4096 + (k3 + 1) by
                            rw [Hst.out]
                            have := Hpn.out; have := Hlen.out
                            omega)
                          have Hw10 := Lib.hid hw10
                          clear hw10 hL9 ho9 hb9 kO9 HP
                          go_wp2_with fail
                          rw [← Hw10.out]
                          clear o0 o1 o2 fo1
                          go_roundw
                          case rel => exact ⟨k3 + 1, by omega, by go_num, HL10.out, _, KO10.out, Hin10.out, Hlen10.out⟩
                          case measure => simp [intOf]; omega
                        · have hnew : itNew a b.items[k3] = false := by rw [HN.out]; exact decide_eq_false fun h => h.elim g1 fun h => g3 h.2
                          have g2' : (it.seq == y.seq) = true := by simpa using g2
                          clear g2
                          have hst := itUp_no (a := a) (l := b.items) hkn hnew
                          rw [Hcu3.out] at hst
                          have Hin10 := Lib.hid (show RefIn wY w2.heap.size (.slice (some ⟨g, 0, none⟩) a.seen.length e1) (.slice ai cu3.length ci) (.slice ag cur.length cg) ⟨zs, itUp a (b.items.take (k3 + 1)), cur⟩ by rw [hst]; exact HinY.out)
                          have Hlen10 := Lib.hid (show (itUp a (b.items.take (k3 + 1))).length ≤ 4096 + (k3 + 1) by rw [hst]; have := Hlen.out; omega)
                          clear hst hnew
                          go_wp2_with fail
                          rw [← HwY.out]
                          clear o0 o1 o2 x0 x1 x2 x3 y0 y1 y2 y3
                          go_roundw
                          case rel => exact ⟨k3 + 1, by omega, by go_num, HLY.out, _, KOY.out, Hin10.out, Hlen10.out⟩
                          case measure => simp [intOf]; omega
                      · have hnew : itNew a b.items[k3] = false := by rw [HN.out]; exact decide_eq_false fun h => h.elim g1 fun h => g2 h.1
                        have g2' : (it.seq == y.seq) = false := by simpa using g2
                        clear g2
                        have hst := itUp_no (a := a) (l := b.items) hkn hnew
                        rw [Hcu3.out] at hst
                        have Hin10 := Lib.hid (show RefIn wY w2.heap.size (.slice (some ⟨g, 0, none⟩) a.seen.length e1) (.slice ai cu3.length ci) (.slice ag cur.length cg) ⟨zs, itUp a (b.items.take (k3 + 1)), cur⟩ by rw [hst]; exact HinY.out)
                        have Hlen10 := Lib.hid (show (itUp a (b.items.take (k3 + 1))).length ≤ 4096 + (k3 + 1) by rw [hst]; have := Hlen.out; omega)
                        clear hst hnew
                        go_wp2_with fail
                        rw [← HwY.out]
                        clear o0 o1 o2 x0 x1 x2 x3 y0 y1 y2 y3
                        go_roundw
                        case rel => exact ⟨k3 + 1, by omega, by go_num, HLY.out, _, KOY.out, Hin10.out, Hlen10.out⟩
                        case measure => simp [intOf]; omega
                · have hkI3 : ¬ (k3 : Int) < (b.items.length : Int) := by omega
                  have hal : itUp a b.items = cu3 := by
                    have := Hcu3.out
                    rw [show k3 = b.items.length by omega, List.take_length] at this
                    exact this
                  have hl3 : cu3.length ≤ 8192 := by have := Hlen.out; have := Hsb.out.2.1; omega
                  obtain ⟨o0, o1, o2⟩ := cell3 HOb.out
                  have fo1 := HOb.out.free 1
                  obtain ⟨wS, hwS⟩ : ∃ wS, wS = wr.setCell ⟨w5.heap.size, 1, none⟩ (.slice none 0 0) := ⟨_, rfl⟩
                  have kOS : Blk wS w5.heap.size [.slice (some ⟨g, 0, none⟩) a.seen.length e1, .slice none 0 0, .slice ag cur.length cg] 26 := by rw [hwS]; exact HOb.out.set 1 _
                  have hLS : Below w2.heap.size w2 wS := by rw [hwS]; exact Hbw.out.setCell (by show w2.heap.size ≤ w5.heap.size; exact H5s.out) _
                  have hsS := own_setCell (i := 1) Hin.out.seen HOb.out (by decide) (.slice none 0 0)
                  have haS := own_setCell (i := 1) Hin.out.items HOb.out (by decide) (.slice none 0 0)
                  have hgS := own_setCell (i := 1) Hin.out.gone HOb.out (by decide) (.slice none 0 0)
                  dsimp only at hsS haS hgS
                  rw [← hwS] at hsS haS hgS
                  have HvB := Lib.hid (fun q hq => (haS.lt q hq).2)
                  have HS := Lib.hid (show FSt w2 wS wS.heap.size w5.heap.size (.slice (some ⟨g, 0, none⟩) a.seen.length e1) (.slice none 0 0) (.slice ag cur.length cg) (.slice ai cu3.length ci) zs cur cu3 [] from ⟨kOS, hsS, hgS, haS, World.ownsRow_nil _ _ _ _, hLS, hLS.size, Nat.le_refl _⟩)
                  have HB := Lib.hid (show ∀ l : List RIt, (∀ x ∈ l, x ∈ cu3) → Bnd ⟨zs, l, cur⟩ from fun l hl => ⟨by
                    have := (bnd_formed (merge_formed a b Hfa.out Hfb.out)).seenB
                    rw [← Hzs.out]; exact this, fun x hx => by
                    have := hl x hx
                    rw [← hal] at this
                    exact (itUp_mem this).elim ((bnd_formed Hfb.out).itemsB x) ((bnd_formed Hfa.out).itemsB x), fun x hx => by
                    dsimp only at hx
                    rw [← HG.out] at hx
                    exact (goneUp_mem hx).elim ((bnd_formed Hfb.out).goneB x) ((bnd_formed Hfa.out).goneB x)⟩)
                  have Hal := Lib.hid hal; have Hl3 := Lib.hid hl3; have HwS := Lib.hid hwS
                  have HobS := Lib.hid (show w5.heap.size < wS.heap.size from kOS.lt)
                  clear hal hl3 hwS kOS hLS hsS haS hgS kA kB hMm hMb Hcu3 Hlen
                  go_wp2_with fail
                  rw [← HwS.out]
                  clear d0 d1 d2 o0 o1 o2 fo1
                  go_loopw [15] (fun i wr => ∃ (k : Nat) (si : Value), k ≤ cu3.length ∧ i = .int .i64 (k : Int) ∧ FSt w2 wr wS.heap.size w5.heap.size (.slice (some ⟨g, 0, none⟩) a.seen.length e1) si (.slice ag cur.length cg) (.slice ai cu3.length ci) zs cur cu3 ((cu3.take k).filter (keepP zs cur))) (fun i _ => cu3.length - (intOf i).toNat)
                  case atStart => exact ⟨0, _, by omega, rfl, HS.out⟩
                  case round =>
                    clear HS Hbw HOb Hin
                    obtain ⟨k4, si, hk4, rfl, st⟩ := hrel
                    have hc3 : cu3.length ≤ 8192 := Hl3.out
                    obtain ⟨a4, c4, rfl⟩ := own_shape st.new
                    generalize hkp : (cu3.take k4).filter (keepP zs cur) = kp at st
                    have hkl : kp.length ≤ k4 := by
                      rw [← hkp]
                      exact Nat.le_trans (List.length_filter_le _ _) (by simp; omega)
                    have hkc : ∀ x ∈ kp, x ∈ cu3 := fun x hx => by
                      rw [← hkp] at hx
                      exact List.mem_of_mem_take (List.mem_filter.1 hx).1
                    have Hkp := Lib.hid hkp; have Hkl := Lib.hid hkl; have St := Lib.hid st; have Hkc := Lib.hid hkc
                    clear hkp hkl st hkc
                    by_cases hkn : k4 < cu3.length
                    · have hkI4 : (k4 : Int) < (cu3.length : Int) := by omega
                      obtain ⟨ga, rfl⟩ : ∃ ga, ai = some ⟨ga, 0, none⟩ := by
                        rcases St.out.all.2 with ⟨hh, _⟩ | ⟨g', cap, cur', hv, hb, hg, _⟩
                        · simp at hh; omega
                        · simp at hv; exact ⟨g', hv.1⟩
                      have hga : ga < wS.heap.size := HvB.out ga (by simp [Value.ownBlock])
                      obtain ⟨b', o', hbb, -, hgl, hic⟩ := it_cell (Rows.of_owns St.out.all) (by omega)
                      simp at hbb
                      obtain ⟨rfl, rfl⟩ := hbb
                      obtain ⟨x0, x1, x2, x3⟩ := hic k4 hkn
                      obtain ⟨it, hit⟩ : ∃ it, cu3[k4] = it := ⟨_, rfl⟩
                      rw [hit] at x0 x1 x2 x3
                      simp only [Nat.zero_add] at x0 x1 x2 x3
                      obtain ⟨bur, hbur⟩ : ∃ bur, (⟨zs, [], cur⟩ : RMap).buried (it.key, it.dev) = bur := ⟨_, rfl⟩
                      have HF := Lib.hid (show ∀ W, Below wr.heap.size wr W → FSt w2 W wS.heap.size w5.heap.size (.slice (some ⟨g, 0, none⟩) a.seen.length e1) (.slice a4 kp.length c4) (.slice ag cur.length cg) (.slice (some ⟨ga, 0, none⟩) cu3.length ci) zs cur cu3 kp ∧ Calls Tryz.prog 89 #[.agg #[.slice (some ⟨g, 0, none⟩) a.seen.length e1, .slice a4 kp.length c4, .slice ag cur.length cg], .string ⟨it.key.toArray⟩, .int .i64 it.dev] W (fun e w' => e = .returned (.int .i64 bur) ∧ Below W.heap.size W w') from fun W hb => by
                        have h1 := St.out.below hb
                        refine ⟨h1, ?_⟩
                        rw [← hbur]
                        exact gone_any W _ _ ⟨zs, kp, cur⟩ ⟨_, _, _, rfl, (RefIn.mk h1.seen (own_base h1.new h1.sle) h1.gone : RefIn W w2.heap.size _ _ _ ⟨zs, kp, cur⟩).map (HB.out kp Hkc.out)⟩ it.key it.dev)
                      have hf := take_filter (keepP zs cur) cu3 k4 hkn
                      rw [Hkp.out, hit] at hf
                      have hkb : keepP zs cur it = decide (bur < it.seq) := by rw [← hbur]; rfl
                      rw [hkb] at hf
                      have px0 : ∀ w', Later wr.drew w' → w'.cell? _ = _ := fun w' hh => laterC x0 hh
                      have px1 : ∀ w', Later wr.drew w' → w'.cell? _ = _ := fun w' hh => laterC x1 hh
                      have px2 : ∀ w', Later wr.drew w' → w'.cell? _ = _ := fun w' hh => laterC x2 hh
                      obtain ⟨c0, c1, c2⟩ := cell3 St.out.blk
                      have po0 : ∀ w', Later wr.drew w' → w'.cell? _ = _ := fun w' hh => laterC c0 hh
                      have po1 : ∀ w', Later wr.drew w' → w'.cell? _ = _ := fun w' hh => laterC c1 hh
                      have po2 : ∀ w', Later wr.drew w' → w'.cell? _ = _ := fun w' hh => laterC c2 hh
                      have Hf := Lib.hid hf
                      clear hic hit hbur hf hkb c0 c1 c2
                      go_wp2_with fail
                      refine wp_region_can Later [(0, true), (1, true), (2, true), (3, true), (4, true), (5, true), (6, true), (7, true), (8, true), (9, true), (10, true), (11, true), (12, true), (13, true), (14, true), (15, true), (16, false), (17, true)] (by kernel_rfl) (by kernel_rfl) later_refl later_trans ?_
                      repeat (refine can_yes (v := ?_) rfl (wanted_none rfl) (fun w' hC => ?_) (fun K hK => ?_); rotate_left; (focus (go_simp; (try simp (disch := omega) only [IntWalk.i64_in]); first | done | exact rfl)); go_simp; (try simp (disch := omega) only [IntWalk.i64_in]); refine hK _ ?_; clear hK K)
                      refine can_go rfl rfl (fun KK hK => ?_)
                      go_simp
                      refine (HF.out _ (Below.refl wr.heap.size wr).drew).2.mono ?_
                      rintro e w8 ⟨rfl, hb8⟩
                      refine ⟨_, rfl, hb8, hK _ _ ?_⟩
                      have hw8 : Below wr.heap.size wr w8 := (Below.refl wr.heap.size wr).drew.trans hb8
                      clear hK KK px0 px1 px2 po0 po1 po2 hb8
                      go_simp
                      have hst8 := (HF.out w8 hw8).1
                      have hx8 : ∀ q u, wr.cell? ⟨ga, q, none⟩ = some u → w8.cell? ⟨ga, q, none⟩ = some u := fun q u h => by
                        have hb := hw8.block ga hgl
                        unfold World.cell? at *
                        rw [hb]; exact h
                      have z0 := hx8 _ _ x0
                      have z1 := hx8 _ _ x1
                      have z2 := hx8 _ _ x2
                      have z3 := hx8 _ _ x3
                      have Hst8 := Lib.hid hst8
                      clear hst8 hx8 hw8 x0 x1 x2 x3 HF
                      by_cases hlt : bur < it.seq
                      · have hd : decide (bur < it.seq) = true := decide_eq_true hlt
                        have hst := Hf.out
                        rw [if_pos hd] at hst
                        clear hd
                        repeat (refine can_yes (v := ?_) rfl (wanted_none rfl) (fun w' hC => ?_) (fun K hK => ?_); rotate_left; (focus (go_simp; (try simp (disch := omega) only [IntWalk.i64_in]); first | done | exact rfl)); go_simp; (try simp (disch := omega) only [IntWalk.i64_in]); refine hK _ ?_; clear hK K)
                        refine can_nil ?_
                        have hS8 := Hst8.out.sle2
                        obtain ⟨i0, t1, t2, t3, t4⟩ := info_parts infoItR
                        have hO3 : w8.drew.ownsRow wS.heap.size 92 4 (.slice a4 kp.length c4) kp.length (kp.flatMap encIt) := Hst8.out.new
                        obtain ⟨v5, w9, hr5, hown5, hg5⟩ := run_append_one (P := Tryz.prog) w8.drew wS.heap.size 23 92 Tryz.underlying23 t1 t2 t3 t4 rfl (by decide) (.slice a4 kp.length c4) kp.length _ hO3 #[.string ⟨it.key.toArray⟩, .int .i64 it.dev, .int .i64 it.seq, .int .i64 it.val] rfl (by simp [Value.oneCell']) (by have := Hkl.out; have := Hl3.out; unfold maxLen; omega) (by have := Hkl.out; have := Hl3.out; omega) hS8
                        obtain ⟨a9, c9, rfl⟩ := own_shape hown5
                        have k1 : LaterF (fun q => wS.heap.size ≤ q) w8.drew (w8.drew.alloc (.cells #[.string ⟨it.key.toArray⟩, .int .i64 it.dev, .int .i64 it.seq, .int .i64 it.val] 92)) := LaterF.of_below (kept_alloc _ _)
                        have hoA := own_below hO3 (kept_alloc w8.drew (.cells #[.string ⟨it.key.toArray⟩, .int .i64 it.dev, .int .i64 it.seq, .int .i64 it.val] 92))
                        have k2 : LaterF (fun q => wS.heap.size ≤ q) (w8.drew.alloc (.cells #[.string ⟨it.key.toArray⟩, .int .i64 it.dev, .int .i64 it.seq, .int .i64 it.val] 92)) w9 := ⟨hg5.os, hg5.tape, hg5.output, hg5.size, fun q hq hn => hg5.block q hq (fun e => hn (hoA.lt q e.symm).1)⟩
                        have stA := Hst8.out.below (w' := w8.drew.alloc (.cells #[.string ⟨it.key.toArray⟩, .int .i64 it.dev, .int .i64 it.seq, .int .i64 it.val] 92)) (((Below.refl w8.heap.size w8).drew).trans (kept_alloc w8.drew _))
                        have kO9 := stA.blk.grownNe hoA (by decide) hg5
                        have hb9 : Below wS.heap.size w8 w9 := ((Below.refl wS.heap.size w8).drew.trans ((kept_alloc w8.drew _).mono hS8)).trans (Below.grownOwn hoA hg5 (Nat.le_trans hS8 (kept_alloc w8.drew _).size) (Nat.le_refl _))
                        have hL9 : Below w2.heap.size w2 w9 := Hst8.out.bel.trans (hb9.mono Hst8.out.sle)
                        obtain ⟨w10, hw10⟩ : ∃ w10, w10 = w9.setCell ⟨w5.heap.size, 1, none⟩ (.slice a9 (kp.length + 1) c9) := ⟨_, rfl⟩
                        have hst10 : FSt w2 w10 wS.heap.size w5.heap.size (.slice (some ⟨g, 0, none⟩) a.seen.length e1) (.slice a9 (kp.length + 1) c9) (.slice ag cur.length cg) (.slice (some ⟨ga, 0, none⟩) cu3.length ci) zs cur cu3 ((cu3.take (k4 + 1)).filter (keepP zs cur)) := by
                          rw [hst, hw10]
                          refine ⟨kO9.set 1 _, own_setCell (own_grownNe stA.seen hoA (by decide) hg5) kO9 (by decide) _, own_setCell (own_grownNe stA.gone hoA (by decide) hg5) kO9 (by decide) _, own_setCell (own_grownLt stA.all HvB.out hoA hg5) kO9 (by decide) _, ?_, hL9.setCell (by show w2.heap.size ≤ w5.heap.size; exact H5s.out) _, Hst8.out.sle, by simpa [World.setCell] using Nat.le_trans hS8 hb9.size⟩
                          rw [List.length_append, flat_snoc]
                          exact own_setCell hown5 kO9 (by decide) _
                        have pz : ∀ q u, w8.cell? ⟨ga, q, none⟩ = some u → ∀ w', LaterF (fun q => wS.heap.size ≤ q) w8.drew w' → w'.cell? ⟨ga, q, none⟩ = some u := fun q u h w' hh => by
                          have hb : w'.heap[ga]? = w8.heap[ga]? := hh.block ga (by show ga < w8.heap.size; omega) (by show ¬ wS.heap.size ≤ ga; omega)
                          unfold World.cell? at *
                          rw [hb]; exact h
                        have px0 := pz _ _ z0
                        have px1 := pz _ _ z1
                        have px2 := pz _ _ z2
                        have px3 := pz _ _ z3
                        have po1 : ∀ w', LaterF (fun q => wS.heap.size ≤ q) w8.drew w' → w'.cell? ⟨w5.heap.size, 1, none⟩ = some (.slice a4 kp.length c4) := fun w' hh => by
                          have hoS := HobS.out
                          have hb : w'.heap[w5.heap.size]? = w8.heap[w5.heap.size]? := hh.block w5.heap.size (by show w5.heap.size < w8.heap.size; omega) (by show ¬ wS.heap.size ≤ w5.heap.size; omega)
                          exact (cell3 (Hst8.out.blk.keep hb)).2.1
                        obtain ⟨wz, hwz⟩ : ∃ wz, wz = w8.drew.alloc (.cells #[.string ⟨it.key.toArray⟩, .int .i64 it.dev, .int .i64 it.seq, .int .i64 it.val] 92) := ⟨_, rfl⟩
                        rw [← hwz] at hr5 k1 k2
                        have hr5' : (AP #[23, 23] 23 #[.slice a4 kp.length c4, .slice (some ⟨w8.heap.size, 0, none⟩) 1 1]).run Tryz.prog wz = .ok (.slice a9 (kp.length + 1) c9) w9 := hr5
                        obtain ⟨o0, o1, o2⟩ := cell3 kO9
                        have fo1 := kO9.free 1
                        have Hwz := Lib.hid hwz; have Hw10 := Lib.hid hw10; have Hst10 := Lib.hid hst10
                        clear hst hS8 t1 t2 t3 t4 hO3 hown5 hg5 hoA stA kO9 hb9 hL9 hw10 hst10 pz hwz hr5 z0 z1 z2 z3 hlt Hst8
                        go_wp2_with fail
                        refine wp_region_canL (LaterF (fun q => wS.heap.size ≤ q)) 9 [(0, true), (1, true), (2, true), (3, true), (4, true), (5, true), (6, false), (7, false), (8, true), (9, false)] (by kernel_rfl) (by kernel_rfl) (by kernel_rfl) (laterF_refl _) (laterF_trans _) ?_
                        repeat (refine canL_yes (v := ?_) rfl (wanted_none rfl) (fun w' hC => ?_) (fun K hK => ?_); rotate_left; (focus (go_simp; (try simp (disch := omega) only [IntWalk.i64_in]); first | done | exact rfl)); go_simp; (try simp (disch := omega) only [IntWalk.i64_in]); refine hK _ ?_; clear hK K)
                        refine canL_go rfl rfl (fun KK hK => ?_)
                        go_simp
                        rw [show (w8.alloc (.cells #[.string ⟨it.key.toArray⟩, .int .i64 it.dev, .int .i64 it.seq, .int .i64 it.val] 92)).drew = wz from Hwz.out.symm]
                        first | refine ⟨k1, hK _ _ ?_⟩ | refine hK _ _ ?_
                        clear hK KK
                        go_simp
                        refine canL_go rfl rfl (fun KK hK => ?_)
                        go_simp
                        first | refine ⟨k2, hK _ _ ?_⟩ | refine hK _ _ ?_
                        clear hK KK px0 px1 px2 px3 po1 k1 k2 hr5'
                        go_simp
                        repeat (refine canL_yes (v := ?_) rfl (wanted_none rfl) (fun w' hC => ?_) (fun K hK => ?_); rotate_left; (focus (go_simp; (try simp (disch := omega) only [IntWalk.i64_in]); first | done | exact rfl)); go_simp; (try simp (disch := omega) only [IntWalk.i64_in]); refine hK _ ?_; clear hK K)
                        refine canL_last rfl rfl rfl (fun KK hK => ?_)
                        go_simp
                        refine hK _ _ ?_
                        clear hK KK
                        go_simp
                        refine canL_nil ?_
                        rw [← Hw10.out]
                        clear o0 o1 o2 fo1
                        go_wp2_with fail
                        go_roundw
                        case rel => exact ⟨k4 + 1, _, by omega, by go_num, Hst10.out⟩
                        case measure => simp [intOf]; omega
                      · have hd : ¬ decide (bur < it.seq) = true := by simpa using hlt
                        have hst := Hf.out
                        rw [if_neg hd, List.append_nil] at hst
                        have Hst10 := Lib.hid (show FSt w2 w8 wS.heap.size w5.heap.size (.slice (some ⟨g, 0, none⟩) a.seen.length e1) (.slice a4 kp.length c4) (.slice ag cur.length cg) (.slice (some ⟨ga, 0, none⟩) cu3.length ci) zs cur cu3 ((cu3.take (k4 + 1)).filter (keepP zs cur)) by rw [hst]; exact Hst8.out)
                        clear hd hst z0 z1 z2 z3
                        repeat (refine can_yes (v := ?_) rfl (wanted_none rfl) (fun w' hC => ?_) (fun K hK => ?_); rotate_left; (focus (go_simp; (try simp (disch := omega) only [IntWalk.i64_in]); first | done | exact rfl)); go_simp; (try simp (disch := omega) only [IntWalk.i64_in]); refine hK _ ?_; clear hK K)
                        refine can_nil ?_
                        go_wp2_with fail
                        go_roundw
                        case rel => exact ⟨k4 + 1, _, by omega, by go_num, Hst10.out⟩
                        case measure => simp [intOf]; omega
                    · have hkI4 : ¬ (k4 : Int) < (cu3.length : Int) := by omega
                      have hM : mergeM a b = ⟨zs, kp, cur⟩ := by
                        rw [← refMerge_eq a b Hfa.out Hfb.out, ← Hkp.out, show k4 = cu3.length by omega, List.take_length, ← HG.out, ← Hal.out, ← Hzs.out]
                        rfl
                      have hbn := HB.out kp Hkc.out
                      have hri : RefIn wr w2.heap.size (.slice (some ⟨g, 0, none⟩) a.seen.length e1) (.slice a4 kp.length c4) (.slice ag cur.length cg) ⟨zs, kp, cur⟩ := ⟨St.out.seen, own_base St.out.new St.out.sle, St.out.gone⟩
                      rw [← hM] at hbn hri
                      have hfo := merge_formed a b Hfa.out Hfb.out
                      have hLm := rfull_any wr _ (.agg #[.slice (some ⟨g, 0, none⟩) a.seen.length e1, .slice a4 kp.length c4, .slice ag cur.length cg]) (mergeM a b) ⟨_, _, _, rfl, hri.map hbn⟩ (fun x hx => by have := keyOk_len (known_key (hfo.iknown x hx)); have h : x.pl.1 = x.key := rfl; rw [h] at this; omega) (fun x hx => by have := keyOk_len (known_key (hfo.gknown x hx)); have h : x.pl.1 = x.key := rfl; rw [h] at this; omega)
                      obtain ⟨ok, hok⟩ : ∃ ok, validR (mergeM a b) = ok := ⟨_, rfl⟩
                      rw [hok] at hLm
                      have hu : mergeR a b = if ok = true then (mergeM a b, 0) else (.empty, 7) := by
                        unfold mergeR fullR
                        rw [Hva.out, Hvb.out, hok]
                        cases ok <;> rfl
                      obtain ⟨o0, o1, o2⟩ := cell3 St.out.blk
                      have HLm := Lib.hid hLm; have Hu := Lib.hid hu; have Hbnd := Lib.hid hbn; have Hin2 := Lib.hid hri; have Hbel := Lib.hid St.out.bel
                      clear hLm hu hM hbn hri hfo hok
                      go_wp2_with fail
                      refine HLm.out.mono ?_
                      rintro e w8 ⟨rfl, hb8⟩
                      have hL8 : Below w2.heap.size w2 w8 := Hbel.out.trans (hb8.mono Hbel.out.size)
                      have kr := (HR.out w8 hL8).2.2.2.1
                      have hbel := (HR.out w8 hL8).1
                      have Hin8 := Lib.hid (Hin2.out.below hb8)
                      clear HLm hb8 hL8 o0 o1 o2
                      cases ok with
                      | false =>
                        have Hu0 := Lib.hid (show mergeR a b = (.empty, 7) from Hu.out.trans (if_neg Bool.false_ne_true))
                        obtain ⟨wf, hwf, hblk, hbf⟩ := fin3 kr hbel (by omega) (.slice none 0 0) (.slice none 0 0) (.slice none 0 0)
                        obtain ⟨y0, y1, y2⟩ := cell3 kr
                        have z0 := kr.free 0
                        have z1 := kr.free 1
                        have z2 := kr.free 2
                        have Q := Lib.hid (cell3 hblk)
                        have Hbf := Lib.hid hbf; have Hwf := Lib.hid hwf
                        clear hwf hblk hbf
                        go_wp2_with fail
                        rw [← Hwf.out]
                        obtain ⟨q0, q1, q2⟩ := Q.out
                        exact bodyPost_ret (v := .tuple #[.agg #[.slice none 0 0, .slice none 0 0, .slice none 0 0], .int .i64 7]) (by simp [results, Tryz.results52, go_sem, q0, q1, q2]) rfl ⟨_, by rw [Hu0.out], by rw [Hu0.out]; exact mapV_empty _ _, Hbf.out⟩
                      | true =>
                        have Hu0 := Lib.hid (show mergeR a b = (mergeM a b, 0) from Hu.out.trans (if_pos rfl))
                        obtain ⟨wf, hwf, hblk, hbf⟩ := fin3 kr hbel (by omega) (.slice (some ⟨g, 0, none⟩) a.seen.length e1) (.slice a4 kp.length c4) (.slice ag cur.length cg)
                        obtain ⟨y0, y1, y2⟩ := cell3 kr
                        have z0 := kr.free 0
                        have z1 := kr.free 1
                        have z2 := kr.free 2
                        have Q := Lib.hid (cell3 hblk)
                        have Hof := Lib.hid (show RefIn wf w2.heap.size (.slice (some ⟨g, 0, none⟩) a.seen.length e1) (.slice a4 kp.length c4) (.slice ag cur.length cg) (mergeM a b) by
                          rw [hwf]
                          exact ((Hin8.out.setCell kr _).setCell (kr.set 0 _) _).setCell ((kr.set 0 _).set 1 _) _)
                        have Hbf := Lib.hid hbf; have Hwf := Lib.hid hwf
                        clear hwf hblk hbf
                        go_wp2_with fail
                        rw [← Hwf.out]
                        obtain ⟨q0, q1, q2⟩ := Q.out
                        exact bodyPost_ret (v := .tuple #[.agg #[.slice (some ⟨g, 0, none⟩) a.seen.length e1, .slice a4 kp.length c4, .slice ag cur.length cg], .int .i64 0]) (by simp [results, Tryz.results52, go_sem, q0, q1, q2]) rfl ⟨_, by rw [Hu0.out], by rw [Hu0.out]; exact ⟨_, _, _, rfl, (Hof.out.map Hbnd.out).mono fun q hq _ => by have := Hz2.out; omega⟩, Hbf.out⟩
end Go.Proofs.YtkkacnfpdafadaaGreatDoor
