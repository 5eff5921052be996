/- next: the next record of a generation. -/
import Derived.Test.YtmimplmeccoahaaDoorJ10
import Derived.Test.YtmimplmeccoahaaDoorJL1
namespace Go.Proofs.YtmimplmeccoahaaDoor
open Go.RowKit
set_option linter.unusedVariables false
set_option maxRecDepth 20000
attribute [local go_sem ↓] seal_append
attribute [local go_sem] opC upC

theorem SecAt.bytes12 {w : World} {sb : Nat} {l : List UInt8} (h : SecAt w sb l) : Bytes (fun b => b = sb) w (.slice (some ⟨sb, 12, none⟩) 48 52) ((l.drop 12).take 48) := by
  obtain ⟨hb, hl⟩ := h
  have hlen : ((l.drop 12).take 48).length = 48 := by simp; omega
  refine ⟨some ⟨sb, 12, none⟩, 52, by rw [hlen], by omega, by unfold maxLen; omega, nofun, .inr ⟨sb, 12, (l.map B).toArray, 78, (0, 0), rfl, rfl, hb, by simp; omega, fun i hi => ?_⟩⟩
  rw [hlen] at hi
  simp [List.getElem?_eq_getElem (show 12 + i < l.length by omega)]

def NextPost (w : World) (r : Option (List UInt8)) (e : Ending) (w' : World) : Prop :=
  (match r with
    | none => e = .returned (.tuple #[.slice none 0 0, .bool false])
    | some b => ∃ v, e = .returned (.tuple #[v, .bool true]) ∧ Bytes (fun q => w.heap.size ≤ q ∧ q < w'.heap.size) w' v b ∧ b.length ≤ 65536) ∧ Below w.heap.size w w'

theorem owns_kept {w w' : World} {lo : Nat} {e : TypeId} {size n : Nat} {v : Value} {xs : List Value} (h : w.ownsRow lo e size v n xs) (hb : Below w.heap.size w w') : w'.ownsRow lo e size v n xs := by
  refine owns_keep h fun g hg => hb.block g ?_
  rcases h.2 with ⟨rfl, _⟩ | ⟨g', cap, cur, rfl, _, hb', _⟩
  · cases hg
  · simp [Value.ownBlock] at hg
    subst hg
    exact lt_of_block hb'

theorem Bytes.take {F : Blks} {w : World} {a : Option Addr} {cap : Nat} {l : List UInt8} (h : Bytes F w (.slice a l.length cap) l) (n : Nat) (hn : n ≤ l.length) : Bytes F w (.slice a n cap) (l.take n) := by
  obtain ⟨a', cap', he, hc, hm, hz, hx⟩ := h
  simp at he
  obtain ⟨rfl, rfl⟩ := he
  have hl : (l.take n).length = n := by simp; omega
  refine ⟨a, cap, by rw [hl], by omega, hm, hz, ?_⟩
  rcases hx with rfl | ⟨b, off, L, t, fz, rfl, hF, hg, hle, hr⟩
  · exact .inl (by simp)
  · refine .inr ⟨b, off, L, t, fz, rfl, hF, hg, by omega, fun i hi => ?_⟩
    rw [hl] at hi
    rw [List.getElem_take]
    exact hr i (by omega)

def NextRel (w : World) (S : List (List UInt8)) (g k p n T : Nat) (v i : Value) (wr : World) : Prop :=
  ∃ m : Nat, m ≤ T ∧ i = .int .i64 (m : Int) ∧ piecesOk S g k p n m = true ∧ wr.ownsRow w.heap.size 5 1 v (bodyM S g p m).length ((bodyM S g p m).map B) ∧ Below w.heap.size w wr


set_option maxHeartbeats 4000000 in
theorem next_any (w : World) (jb kd g taken k : Nat) (ra : Option Addr) (rc : Nat) (dead : Bool) (K : DK) (M : MD) (hj : JBlk w jb kd g (.slice ra k rc) taken dead) (hd : DiskAt w K M) (hK : K.d = kd) (hq : Quarter w) (hdn : M.down = false) (h8 : 8 ≤ M.S.length) (hg : g < 4294967296) (hk : k ≤ 65536) (ht : taken ≤ 65536) (h0 : 0 < w.heap.size) :
    Calls Tryd.prog 58 #[.pointer (some ⟨jb, 0, none⟩)] w (NextPost w (recordM M.S g k taken)) := by
  have hle := hd.le
  have hH : halfN M.S.length ≤ 32768 := by unfold halfN; omega
  have hjlt := Blk.lt hj
  obtain ⟨H, hHe⟩ : ∃ H, halfN M.S.length = H := ⟨_, rfl⟩
  have hqq : ∀ {w'}, Below w.heap.size w w' → Quarter w' := fun hb => hq.keep (hb.block 0 h0)
  have hjj : ∀ {w'}, Below w.heap.size w w' → JBlk w' jb kd g (.slice ra k rc) taken dead := fun hb => Blk.keep hj (hb.block jb hjlt)
  have hdd : ∀ {w'}, Below w.heap.size w w' → DiskAt w' K M := fun hb => hd.kept hb
  have q1' : ∀ w0 : World, Below w.heap.size w w0 → ∀ w', Later w0.drew w' → w'.cell? ⟨jb, 1, none⟩ = some (.int .u32 (g : Int)) := fun w0 hb w' hh => later_cell (by simpa using (hjj hb).cell 1) hh
  have q2' : ∀ w0 : World, Below w.heap.size w w0 → ∀ w', Later w0.drew w' → w'.cell? ⟨jb, 2, none⟩ = some (.slice ra k rc) := fun w0 hb w' hh => later_cell (by simpa using (hjj hb).cell 2) hh
  have q3' : ∀ w0 : World, Below w.heap.size w w0 → ∀ w', Later w0.drew w' → w'.cell? ⟨jb, 3, none⟩ = some (.int .i64 (taken : Int)) := fun w0 hb w' hh => later_cell (by simpa using (hjj hb).cell 3) hh
  have HHe := Lib.hid hHe
  rw [hHe] at hH
  have b0 : Below w.heap.size w w.drew := (Below.refl _ _).drew
  have Hhalf : ∀ w0, Below w.heap.size w w0 → RowKit.Hid (Calls Tryd.prog 44 #[.pointer (some ⟨jb, 0, none⟩)] w0 fun e w' => e = .returned (.int .i64 (H : Int)) ∧ w0 = w') := fun w0 hb => by
    have := half_any w0 jb kd g _ taken dead K M (hjj hb) (hdd hb) hK (by omega)
    rw [hHe] at this
    exact Lib.hid this
  have Hj := Lib.hid hj; have Hd := Lib.hid hd
  have Q1 := Lib.hid q1'; have Q2 := Lib.hid q2'; have Q3 := Lib.hid q3'
  clear hHe hj hd q1' q2' q3'
  have hHI : (H : Int) ≤ 32768 := by omega
  have htI : (taken : Int) ≤ 65536 := by omega
  have hkI : (k : Int) ≤ 65536 := by omega
  go_enter Tryd.func58, Tryd.ntmps58
  go_wp2_with fail
  have q3 := Q3.out w (Below.refl _ _)
  refine wp_region_can Later [(0, true), (1, true), (2, true), (3, true), (4, true), (5, false), (6, true)] (by kernel_rfl) (by kernel_rfl) later_refl later_trans ?_
  repeat (first
    | (refine can_yes (v := ?_) rfl (wanted_none rfl) (fun w' hC => ?_) (fun K hK => ?_); rotate_left; (focus (go_simp; first | done | exact rfl)); go_simp; refine hK _ ?_; clear hK K)
    | (refine can_guard rfl (fun A B hA hB => ?_); go_simp; first | (refine hA ⟨?_, fun w' hC => ?_, fun K hK => ?_⟩; rotate_left; (focus (go_simp; first | done | exact rfl)); go_simp; refine hK _ ?_; clear hK K hA hB A B) | (refine hB (fun K hK => ?_); go_simp; refine hK _ ?_; clear hK K hA hB A B))
    | (refine can_guard_go rfl (fun A B hA hB => ?_); go_simp; refine hB (fun K hK => ?_); go_simp; refine hK _ ?_; clear hK K hA hB A B))
  refine can_go rfl rfl (fun KK hK => ?_)
  go_simp
  refine (Hhalf w.drew b0).out.mono ?_
  rintro e w' ⟨rfl, rfl⟩
  refine ⟨_, rfl, later_refl _, hK _ _ ?_⟩
  clear hK KK
  go_simp
  repeat (first
    | (refine can_yes (v := ?_) rfl (wanted_none rfl) (fun w' hC => ?_) (fun K hK => ?_); rotate_left; (focus (go_simp; first | done | exact rfl)); go_simp; refine hK _ ?_; clear hK K)
    | (refine can_guard rfl (fun A B hA hB => ?_); go_simp; first | (refine hA ⟨?_, fun w' hC => ?_, fun K hK => ?_⟩; rotate_left; (focus (go_simp; first | done | exact rfl)); go_simp; refine hK _ ?_; clear hK K hA hB A B) | (refine hB (fun K hK => ?_); go_simp; refine hK _ ?_; clear hK K hA hB A B))
    | (refine can_guard_go rfl (fun A B hA hB => ?_); go_simp; refine hB (fun K hK => ?_); go_simp; refine hK _ ?_; clear hK K hA hB A B))
  refine can_nil ?_
  clear q3
  by_cases hT : H ≤ taken
  · have hTI : (H : Int) ≤ (taken : Int) := by omega
    have hr : recordM M.S g k taken = none := by unfold recordM; rw [HHe.out, if_pos hT]
    have Hr := Lib.hid hr
    clear hr
    go_wp2_with fail
    go_ret2
    rw [Hr.out]
    exact ⟨rfl, b0⟩
  · have hTI : ¬ (H : Int) ≤ (taken : Int) := by omega
    have hpl : placeN M.S.length g taken < M.S.length := placeN_lt _ _ _ (by rw [HHe.out]; omega)
    obtain ⟨wA, hwA⟩ : ∃ wA, wA = w.drew := ⟨_, rfl⟩
    rw [← hwA] at b0 ⊢
    clear hwA
    have bA : Below w.heap.size w wA.drew := b0.drew
    have hplace := place_any wA.drew jb kd g _ taken dead K M (hjj bA) (hdd bA) hK (by omega) g taken ht
    have hread := jread_any wA.drew jb kd g taken _ dead K M (hjj bA) (hdd bA) hK _ hpl hdn
    obtain ⟨sl, hsl⟩ : ∃ sl, secM M.S g taken = sl := ⟨_, rfl⟩
    rw [show M.S.getD (placeN M.S.length g taken) [] = sl from hsl] at hread
    have Hplace := Lib.hid hplace; have Hread := Lib.hid hread; have Hsl := Lib.hid hsl
    clear hplace hread hsl hpl
    go_wp2_with fail
    have q1 := Q1.out wA b0
    have q3 := Q3.out wA b0
    refine wp_region_can Later [(0, true), (1, true), (2, true), (3, true), (4, true), (5, true), (6, true), (7, true), (8, true), (9, true), (10, false), (11, false), (12, false), (13, true)] (by kernel_rfl) (by kernel_rfl) later_refl later_trans ?_
    repeat (first
      | (refine can_yes (v := ?_) rfl (wanted_none rfl) (fun w' hC => ?_) (fun K hK => ?_); rotate_left; (focus (go_simp; first | done | exact rfl)); go_simp; refine hK _ ?_; clear hK K)
      | (refine can_guard rfl (fun A B hA hB => ?_); go_simp; first | (refine hA ⟨?_, fun w' hC => ?_, fun K hK => ?_⟩; rotate_left; (focus (go_simp; first | done | exact rfl)); go_simp; refine hK _ ?_; clear hK K hA hB A B) | (refine hB (fun K hK => ?_); go_simp; refine hK _ ?_; clear hK K hA hB A B))
      | (refine can_guard_go rfl (fun A B hA hB => ?_); go_simp; refine hB (fun K hK => ?_); go_simp; refine hK _ ?_; clear hK K hA hB A B))
    refine can_go rfl rfl (fun KK hK => ?_)
    go_simp
    refine Hplace.out.mono ?_
    rintro e w' ⟨rfl, rfl⟩
    refine ⟨_, rfl, later_refl _, hK _ _ ?_⟩
    clear hK KK
    go_simp
    repeat (first
      | (refine can_yes (v := ?_) rfl (wanted_none rfl) (fun w' hC => ?_) (fun K hK => ?_); rotate_left; (focus (go_simp; first | done | exact rfl)); go_simp; refine hK _ ?_; clear hK K)
      | (refine can_guard rfl (fun A B hA hB => ?_); go_simp; first | (refine hA ⟨?_, fun w' hC => ?_, fun K hK => ?_⟩; rotate_left; (focus (go_simp; first | done | exact rfl)); go_simp; refine hK _ ?_; clear hK K hA hB A B) | (refine hB (fun K hK => ?_); go_simp; refine hK _ ?_; clear hK K hA hB A B))
      | (refine can_guard_go rfl (fun A B hA hB => ?_); go_simp; refine hB (fun K hK => ?_); go_simp; refine hK _ ?_; clear hK K hA hB A B))
    refine can_go rfl rfl (fun KK hK => ?_)
    go_simp
    refine Hread.out.mono ?_
    rintro e w3 ⟨sb, rfl, hsb, hsec, hb3⟩
    refine ⟨_, rfl, hb3, hK _ _ ?_⟩
    clear hK KK
    go_simp
    repeat (first
      | (refine can_yes (v := ?_) rfl (wanted_none rfl) (fun w' hC => ?_) (fun K hK => ?_); rotate_left; (focus (go_simp; first | done | exact rfl)); go_simp; refine hK _ ?_; clear hK K)
      | (refine can_guard rfl (fun A B hA hB => ?_); go_simp; first | (refine hA ⟨?_, fun w' hC => ?_, fun K hK => ?_⟩; rotate_left; (focus (go_simp; first | done | exact rfl)); go_simp; refine hK _ ?_; clear hK K hA hB A B) | (refine hB (fun K hK => ?_); go_simp; refine hK _ ?_; clear hK K hA hB A B))
      | (refine can_guard_go rfl (fun A B hA hB => ?_); go_simp; refine hB (fun K hK => ?_); go_simp; refine hK _ ?_; clear hK K hA hB A B))
    refine can_go rfl rfl (fun KK hK => ?_)
    go_simp
    refine (get_any w3 sb _ hsec 8 (by omega)).mono ?_
    rintro e w' ⟨rfl, rfl⟩
    refine ⟨_, rfl, later_refl _, hK _ _ ?_⟩
    clear hK KK
    go_simp
    repeat (first
      | (refine can_yes (v := ?_) rfl (wanted_none rfl) (fun w' hC => ?_) (fun K hK => ?_); rotate_left; (focus (go_simp; first | done | exact rfl)); go_simp; refine hK _ ?_; clear hK K)
      | (refine can_guard rfl (fun A B hA hB => ?_); go_simp; first | (refine hA ⟨?_, fun w' hC => ?_, fun K hK => ?_⟩; rotate_left; (focus (go_simp; first | done | exact rfl)); go_simp; refine hK _ ?_; clear hK K hA hB A B) | (refine hB (fun K hK => ?_); go_simp; refine hK _ ?_; clear hK K hA hB A B))
      | (refine can_guard_go rfl (fun A B hA hB => ?_); go_simp; refine hB (fun K hK => ?_); go_simp; refine hK _ ?_; clear hK K hA hB A B))
    refine can_nil ?_
    clear q1 q3
    have b3 : Below w.heap.size w w3 := bA.trans (hb3.mono bA.size)
    have hrec : recordM M.S g k taken = if 65536 < read4 sl 8 ∨ H < taken + takes (read4 sl 8) then none else
        if piecesOk M.S g k taken (read4 sl 8) (takes (read4 sl 8)) then some ((bodyM M.S g taken (takes (read4 sl 8))).take (read4 sl 8)) else none := by
      unfold recordM; rw [HHe.out, if_neg hT, Hsl.out]
    have hn32 : read4 sl 8 < 4294967296 := read4_lt _ _
    generalize read4 sl 8 = n at *
    have Hrec := Lib.hid hrec
    clear hrec hsec hb3 hsb
    by_cases hn : 65536 < n
    · have hnI : (65536 : Int) < (n : Int) := by omega
      have hnD : decide ((65536 : Int) < (n : Int)) = true := decide_eq_true hnI
      go_wp2_with fail
      refine wp_region_can Later [(0, true), (1, true), (2, true), (3, true), (4, true), (5, true), (6, true), (7, true), (8, true), (11, true), (9, false), (10, true), (12, false), (13, true), (14, true)] (by kernel_rfl) (by kernel_rfl) later_refl later_trans ?_
      repeat (first
        | (refine can_yes (v := ?_) rfl (wanted_none rfl) (fun w' hC => ?_) (fun K hK => ?_); rotate_left; (focus (go_simp; first | done | exact rfl)); go_simp; refine hK _ ?_; clear hK K)
        | (refine can_guard rfl (fun A B hA hB => ?_); go_simp; first | (refine hA ⟨?_, fun w' hC => ?_, fun K hK => ?_⟩; rotate_left; (focus (go_simp; first | done | exact rfl)); go_simp; refine hK _ ?_; clear hK K hA hB A B) | (refine hB (fun K hK => ?_); go_simp; refine hK _ ?_; clear hK K hA hB A B))
        | (refine can_guard_go rfl (fun A B hA hB => ?_); go_simp; refine hB (fun K hK => ?_); go_simp; refine hK _ ?_; clear hK K hA hB A B))
      refine can_nil ?_
      go_wp2_with fail
      go_ret2
      rw [Hrec.out, if_pos (.inl hn)]
      exact ⟨rfl, b3.drew⟩
    · have hnI : ¬ (65536 : Int) < (n : Int) := by omega
      have hnD : decide ((65536 : Int) < (n : Int)) = false := decide_eq_false hnI
      have hnI2 : (n : Int) ≤ 65536 := by omega
      have hw1 := IntWalk.i64_in (n : Int) (by omega)
      have htk := takes_pos n
      have htk2 : takes n ≤ 1366 := by unfold takes; omega
      have htakes := fun w0 => takes_any w0 n (by omega)
      obtain ⟨T, hTe⟩ : ∃ T, takes n = T := ⟨_, rfl⟩
      have HT := Lib.hid hTe
      rw [hTe] at htk htk2 htakes
      have Htakes := Lib.hid htakes
      clear hTe htakes
      have hw2 := IntWalk.i64_in ((taken : Int) + (T : Int)) (by omega)
      have b3' : Below w.heap.size w w3.drew := b3.drew
      go_wp2_with fail
      have q3 := Q3.out w3 b3
      refine wp_region_can Later [(0, true), (1, true), (2, true), (3, true), (4, true), (5, true), (6, true), (7, true), (8, true), (11, true), (9, false), (10, true), (12, false), (13, true), (14, true)] (by kernel_rfl) (by kernel_rfl) later_refl later_trans ?_
      repeat (first
        | (refine can_yes (v := ?_) rfl (wanted_none rfl) (fun w' hC => ?_) (fun K hK => ?_); rotate_left; (focus (go_simp; first | done | exact rfl)); go_simp; refine hK _ ?_; clear hK K)
        | (refine can_guard rfl (fun A B hA hB => ?_); go_simp; first | (refine hA ⟨?_, fun w' hC => ?_, fun K hK => ?_⟩; rotate_left; (focus (go_simp; first | done | exact rfl)); go_simp; refine hK _ ?_; clear hK K hA hB A B) | (refine hB (fun K hK => ?_); go_simp; refine hK _ ?_; clear hK K hA hB A B))
        | (refine can_guard_go rfl (fun A B hA hB => ?_); go_simp; refine hB (fun K hK => ?_); go_simp; refine hK _ ?_; clear hK K hA hB A B))
      refine can_go rfl rfl (fun KK hK => ?_)
      go_simp
      refine (Htakes.out w3.drew).mono ?_
      rintro e w' ⟨rfl, rfl⟩
      refine ⟨_, rfl, later_refl _, hK _ _ ?_⟩
      clear hK KK
      go_simp
      repeat (first
        | (refine can_yes (v := ?_) rfl (wanted_none rfl) (fun w' hC => ?_) (fun K hK => ?_); rotate_left; (focus (go_simp; first | done | exact rfl)); go_simp; refine hK _ ?_; clear hK K)
        | (refine can_guard rfl (fun A B hA hB => ?_); go_simp; first | (refine hA ⟨?_, fun w' hC => ?_, fun K hK => ?_⟩; rotate_left; (focus (go_simp; first | done | exact rfl)); go_simp; refine hK _ ?_; clear hK K hA hB A B) | (refine hB (fun K hK => ?_); go_simp; refine hK _ ?_; clear hK K hA hB A B))
        | (refine can_guard_go rfl (fun A B hA hB => ?_); go_simp; refine hB (fun K hK => ?_); go_simp; refine hK _ ?_; clear hK K hA hB A B))
      refine can_go rfl rfl (fun KK hK => ?_)
      go_simp
      refine (Hhalf w3.drew b3').out.mono ?_
      rintro e w' ⟨rfl, rfl⟩
      refine ⟨_, rfl, later_refl _, hK _ _ ?_⟩
      clear hK KK
      go_simp
      repeat (first
        | (refine can_yes (v := ?_) rfl (wanted_none rfl) (fun w' hC => ?_) (fun K hK => ?_); rotate_left; (focus (go_simp; first | done | exact rfl)); go_simp; refine hK _ ?_; clear hK K)
        | (refine can_guard rfl (fun A B hA hB => ?_); go_simp; first | (refine hA ⟨?_, fun w' hC => ?_, fun K hK => ?_⟩; rotate_left; (focus (go_simp; first | done | exact rfl)); go_simp; refine hK _ ?_; clear hK K hA hB A B) | (refine hB (fun K hK => ?_); go_simp; refine hK _ ?_; clear hK K hA hB A B))
        | (refine can_guard_go rfl (fun A B hA hB => ?_); go_simp; refine hB (fun K hK => ?_); go_simp; refine hK _ ?_; clear hK K hA hB A B))
      refine can_nil ?_
      clear q3
      by_cases hfit : H < taken + T
      · have hfI : (H : Int) < (taken : Int) + (T : Int) := by omega
        go_wp2_with fail
        go_ret2
        rw [Hrec.out, HT.out, if_pos (.inr hfit)]
        exact ⟨rfl, b3'⟩
      · have hfI : ¬ (H : Int) < (taken : Int) + (T : Int) := by omega
        have hrec2 : recordM M.S g k taken = if piecesOk M.S g k taken n T then some ((bodyM M.S g taken T).take n) else none := by
          rw [Hrec.out, HT.out, if_neg (by omega)]
        have Hrec2 := Lib.hid hrec2
        clear hrec2
        obtain ⟨wB, hwB⟩ : ∃ wB, wB = w3.drew := ⟨_, rfl⟩
        rw [← hwB] at b3' ⊢
        clear hwB hw2
        go_wp2_with fail
        refine (Htakes.out wB).mono ?_
        rintro e w' ⟨rfl, rfl⟩
        go_wp2_with fail
        go_loopw [5, 46] (fun v i wr => NextRel w M.S g k taken n T v i wr) (fun _ i _ => T - (intOf i).toNat)
        case atStart => exact ⟨0, by omega, rfl, rfl, World.ownsRow_nil _ _ _ _, b3'⟩
        case round =>
          obtain ⟨m, hm, rfl, hpo, hown, hbw⟩ := hrel
          by_cases hmt : m < T
          · have hmI : (m : Int) < (T : Int) := by omega
            have hTT : takes n = max 1 ((n + 47) / 48) := rfl
            have h48 : 48 * m ≤ n := by have := HT.out; omega
            have hw2 := IntWalk.i64_in ((taken : Int) + (m : Int)) (by omega)
            have hw3 := IntWalk.i64_in (48 * (m : Int)) (by omega)
            have hw4 := IntWalk.u32_in (48 * (m : Int)) (by omega)
            have hw5 := IntWalk.u32_in ((n : Int) - 48 * (m : Int)) (by omega)
            have hw6 := IntWalk.u32_in (k : Int) (by omega)
            have hpl : placeN M.S.length g (taken + m) < M.S.length := placeN_lt _ _ _ (by rw [HHe.out]; omega)
            have bW : Below w.heap.size w wr.drew := hbw.drew
            have hplace := place_any wr.drew jb kd g _ taken dead K M (hjj bW) (hdd bW) hK (by omega) g (taken + m) (by omega)
            have hread := jread_any wr.drew jb kd g taken _ dead K M (hjj bW) (hdd bW) hK _ hpl hdn
            obtain ⟨sm, hsm⟩ : ∃ sm, secM M.S g (taken + m) = sm := ⟨_, rfl⟩
            rw [show M.S.getD (placeN M.S.length g (taken + m)) [] = sm from hsm] at hread
            rw [show ((taken + m : Nat) : Int) = (taken : Int) + (m : Int) by omega] at hplace
            have hstep : piecesOk M.S g k taken n (m + 1) = pieceOk sm g k (n - 48 * m) := by
              simp only [piecesOk, hpo, hsm, Bool.true_and]
            have hbad : pieceOk sm g k (n - 48 * m) = false → recordM M.S g k taken = none := fun hb => by
              rw [Hrec2.out, if_neg]
              intro hh
              have := piecesOk_le M.S g k taken n (m + 1) (T - (m + 1)) (by rw [show m + 1 + (T - (m + 1)) = T by omega]; exact hh)
              rw [hstep, hb] at this
              cases this
            have hbody : bodyM M.S g taken (m + 1) = bodyM M.S g taken m ++ (sm.drop 12).take 48 := by
              simp only [bodyM, hsm]
            have Hplace := Lib.hid hplace; have Hread := Lib.hid hread; have Hstep := Lib.hid hstep; have Hbad := Lib.hid hbad; have Hbody := Lib.hid hbody; have Hown := Lib.hid hown; have Hpo := Lib.hid hpo
            clear hplace hread hstep hbad hbody hown hpo hsm hpl hTT
            go_wp2_with fail
            have q1 := Q1.out wr hbw
            have q3 := Q3.out wr hbw
            refine wp_region_can Later [(0, true), (1, true), (2, true), (3, true), (4, true), (5, true), (6, true), (7, true), (8, true), (9, true), (10, true), (11, true), (12, false), (13, false), (14, true)] (by kernel_rfl) (by kernel_rfl) later_refl later_trans ?_
            repeat (first
              | (refine can_yes (v := ?_) rfl (wanted_none rfl) (fun w' hC => ?_) (fun K hK => ?_); rotate_left; (focus (go_simp; first | done | exact rfl)); go_simp; refine hK _ ?_; clear hK K)
              | (refine can_guard rfl (fun A B hA hB => ?_); go_simp; first | (refine hA ⟨?_, fun w' hC => ?_, fun K hK => ?_⟩; rotate_left; (focus (go_simp; first | done | exact rfl)); go_simp; refine hK _ ?_; clear hK K hA hB A B) | (refine hB (fun K hK => ?_); go_simp; refine hK _ ?_; clear hK K hA hB A B))
              | (refine can_guard_go rfl (fun A B hA hB => ?_); go_simp; refine hB (fun K hK => ?_); go_simp; refine hK _ ?_; clear hK K hA hB A B))
            refine can_go rfl rfl (fun KK hK => ?_)
            go_simp
            refine Hplace.out.mono ?_
            rintro e w' ⟨rfl, rfl⟩
            refine ⟨_, rfl, later_refl _, hK _ _ ?_⟩
            clear hK KK
            go_simp
            repeat (first
              | (refine can_yes (v := ?_) rfl (wanted_none rfl) (fun w' hC => ?_) (fun K hK => ?_); rotate_left; (focus (go_simp; first | done | exact rfl)); go_simp; refine hK _ ?_; clear hK K)
              | (refine can_guard rfl (fun A B hA hB => ?_); go_simp; first | (refine hA ⟨?_, fun w' hC => ?_, fun K hK => ?_⟩; rotate_left; (focus (go_simp; first | done | exact rfl)); go_simp; refine hK _ ?_; clear hK K hA hB A B) | (refine hB (fun K hK => ?_); go_simp; refine hK _ ?_; clear hK K hA hB A B))
              | (refine can_guard_go rfl (fun A B hA hB => ?_); go_simp; refine hB (fun K hK => ?_); go_simp; refine hK _ ?_; clear hK K hA hB A B))
            refine can_go rfl rfl (fun KK hK => ?_)
            go_simp
            refine Hread.out.mono ?_
            rintro e w5 ⟨sb, rfl, hsb, hsec, hb5⟩
            refine ⟨_, rfl, hb5, hK _ _ ?_⟩
            clear hK KK
            go_simp
            repeat (first
              | (refine can_yes (v := ?_) rfl (wanted_none rfl) (fun w' hC => ?_) (fun K hK => ?_); rotate_left; (focus (go_simp; first | done | exact rfl)); go_simp; refine hK _ ?_; clear hK K)
              | (refine can_guard rfl (fun A B hA hB => ?_); go_simp; first | (refine hA ⟨?_, fun w' hC => ?_, fun K hK => ?_⟩; rotate_left; (focus (go_simp; first | done | exact rfl)); go_simp; refine hK _ ?_; clear hK K hA hB A B) | (refine hB (fun K hK => ?_); go_simp; refine hK _ ?_; clear hK K hA hB A B))
              | (refine can_guard_go rfl (fun A B hA hB => ?_); go_simp; refine hB (fun K hK => ?_); go_simp; refine hK _ ?_; clear hK K hA hB A B))
            refine can_nil ?_
            clear q1 q3
            have b5 : Below w.heap.size w w5 := bW.trans (hb5.mono bW.size)
            have hown5 := owns_kept (owns_kept Hown.out (Below.refl _ _).drew) hb5
            have Hown5 := Lib.hid hown5
            have hsec5 := Lib.hid hsec
            clear hown5 hsec hb5 bW hw2
            obtain ⟨sl, rfl⟩ : ∃ sl, sl = sm := ⟨_, rfl⟩
            cases hin : intact sl with
            | false =>
              have hb : pieceOk sl g k (n - 48 * m) = false := by simp [pieceOk, hin]
              go_wp2_with fail
              have q1 := Q1.out w5 b5
              have q2 := Q2.out w5 b5
              refine wp_region_can Later [(0, true), (1, false), (2, true), (3, true), (4, true), (6, true), (7, true), (8, true), (9, true), (5, false), (10, true), (11, true), (12, true), (13, true), (15, true), (16, true), (17, true), (18, true), (19, true), (20, true), (14, false), (21, true), (22, true), (23, true), (24, true), (26, true), (27, true), (28, true), (29, true), (30, true), (25, false), (31, true), (32, true)] (by kernel_rfl) (by kernel_rfl) later_refl later_trans ?_
              repeat (first
                | (refine can_yes (v := ?_) rfl (wanted_none rfl) (fun w' hC => ?_) (fun K hK => ?_); rotate_left; (focus (go_simp; first | done | exact rfl)); go_simp; refine hK _ ?_; clear hK K)
                | (refine can_guard rfl (fun A B hA hB => ?_); go_simp; first | (refine hA ⟨?_, fun w' hC => ?_, fun K hK => ?_⟩; rotate_left; (focus (go_simp; first | done | exact rfl)); go_simp; refine hK _ ?_; clear hK K hA hB A B) | (refine hB (fun K hK => ?_); go_simp; refine hK _ ?_; clear hK K hA hB A B))
                | (refine can_guard_go rfl (fun A B hA hB => ?_); go_simp; refine hB (fun K hK => ?_); go_simp; refine hK _ ?_; clear hK K hA hB A B))
              refine can_go rfl rfl (fun KK hK => ?_)
              go_simp
              refine (intact_any w5.drew (hqq b5.drew) sb sl hsec5.out).mono ?_
              rintro e w6 ⟨rfl, q, hw6⟩
              have l6 : Later w5.drew w6 := by rw [← hw6]; exact ⟨rfl, rfl, rfl, Nat.le_refl _, fun _ _ => rfl⟩
              have hsec6 : SecAt w6 sb sl := by rw [← hw6]; exact hsec5.out
              have b6 : Below w.heap.size w w6 := b5.drew.trans (l6.mono b5.size)
              clear hw6
              refine ⟨_, rfl, l6, hK _ _ ?_⟩
              clear hK KK q1 q2
              have q1 : ∀ w', Later w6 w' → w'.cell? ⟨jb, 1, none⟩ = some (.int .u32 (g : Int)) := fun w' hh => Q1.out w5 b5 w' (later_trans _ _ _ l6 hh)
              have q2 : ∀ w', Later w6 w' → w'.cell? ⟨jb, 2, none⟩ = some (.slice ra k rc) := fun w' hh => Q2.out w5 b5 w' (later_trans _ _ _ l6 hh)
              rw [hin]
              go_simp
              repeat (first
                | (refine can_yes (v := ?_) rfl (wanted_none rfl) (fun w' hC => ?_) (fun K hK => ?_); rotate_left; (focus (go_simp; first | done | exact rfl)); go_simp; refine hK _ ?_; clear hK K)
                | (refine can_guard rfl (fun A B hA hB => ?_); go_simp; first | (refine hA ⟨?_, fun w' hC => ?_, fun K hK => ?_⟩; rotate_left; (focus (go_simp; first | done | exact rfl)); go_simp; refine hK _ ?_; clear hK K hA hB A B) | (refine hB (fun K hK => ?_); go_simp; refine hK _ ?_; clear hK K hA hB A B))
                | (refine can_guard_go rfl (fun A B hA hB => ?_); go_simp; refine hB (fun K hK => ?_); go_simp; refine hK _ ?_; clear hK K hA hB A B))
              refine can_nil ?_
              clear q1 q2
              go_wp2_with fail
              go_ret2
              rw [Hbad.out hb]
              exact ⟨rfl, b6⟩
            | true =>
            by_cases h0g : read4 sl 0 = g
            · have n0 : ((read4 sl 0 : Int) != (g : Int)) = false := by simp [h0g]
              by_cases h4k : read4 sl 4 = k
              · have n4 : ((read4 sl 4 : Int) != (k : Int)) = false := by simp [h4k]
                by_cases h8n : read4 sl 8 = n - 48 * m
                · have n8 : ((read4 sl 8 : Int) != (n : Int) - 48 * (m : Int)) = false := by simp; omega
                  have hok : pieceOk sl g k (n - 48 * m) = true := by simp [pieceOk, hin, h0g, h4k, h8n]
                  have Hok := Lib.hid hok; have H0 := Lib.hid h0g; have H4 := Lib.hid h4k; have H8 := Lib.hid h8n
                  clear hok h0g h4k h8n
                  go_wp2_with fail
                  have q1 := Q1.out w5 b5
                  have q2 := Q2.out w5 b5
                  refine wp_region_can Later [(0, true), (1, false), (2, true), (3, true), (4, true), (6, true), (7, true), (8, true), (9, true), (5, false), (10, true), (11, true), (12, true), (13, true), (15, true), (16, true), (17, true), (18, true), (19, true), (20, true), (14, false), (21, true), (22, true), (23, true), (24, true), (26, true), (27, true), (28, true), (29, true), (30, true), (25, false), (31, true), (32, true)] (by kernel_rfl) (by kernel_rfl) later_refl later_trans ?_
                  repeat (first
                    | (refine can_yes (v := ?_) rfl (wanted_none rfl) (fun w' hC => ?_) (fun K hK => ?_); rotate_left; (focus (go_simp; first | done | exact rfl)); go_simp; refine hK _ ?_; clear hK K)
                    | (refine can_guard rfl (fun A B hA hB => ?_); go_simp; first | (refine hA ⟨?_, fun w' hC => ?_, fun K hK => ?_⟩; rotate_left; (focus (go_simp; first | done | exact rfl)); go_simp; refine hK _ ?_; clear hK K hA hB A B) | (refine hB (fun K hK => ?_); go_simp; refine hK _ ?_; clear hK K hA hB A B))
                    | (refine can_guard_go rfl (fun A B hA hB => ?_); go_simp; refine hB (fun K hK => ?_); go_simp; refine hK _ ?_; clear hK K hA hB A B))
                  refine can_go rfl rfl (fun KK hK => ?_)
                  go_simp
                  refine (intact_any w5.drew (hqq b5.drew) sb sl hsec5.out).mono ?_
                  rintro e w6 ⟨rfl, q, hw6⟩
                  have l6 : Later w5.drew w6 := by rw [← hw6]; exact ⟨rfl, rfl, rfl, Nat.le_refl _, fun _ _ => rfl⟩
                  have hsec6 : SecAt w6 sb sl := by rw [← hw6]; exact hsec5.out
                  have b6 : Below w.heap.size w w6 := b5.drew.trans (l6.mono b5.size)
                  clear hw6
                  refine ⟨_, rfl, l6, hK _ _ ?_⟩
                  clear hK KK q1 q2
                  have q1 : ∀ w', Later w6 w' → w'.cell? ⟨jb, 1, none⟩ = some (.int .u32 (g : Int)) := fun w' hh => Q1.out w5 b5 w' (later_trans _ _ _ l6 hh)
                  have q2 : ∀ w', Later w6 w' → w'.cell? ⟨jb, 2, none⟩ = some (.slice ra k rc) := fun w' hh => Q2.out w5 b5 w' (later_trans _ _ _ l6 hh)
                  rw [hin]
                  go_simp
                  repeat (first
                    | (refine can_yes (v := ?_) rfl (wanted_none rfl) (fun w' hC => ?_) (fun K hK => ?_); rotate_left; (focus (go_simp; first | done | exact rfl)); go_simp; refine hK _ ?_; clear hK K)
                    | (refine can_guard rfl (fun A B hA hB => ?_); go_simp; first | (refine hA ⟨?_, fun w' hC => ?_, fun K hK => ?_⟩; rotate_left; (focus (go_simp; first | done | exact rfl)); go_simp; refine hK _ ?_; clear hK K hA hB A B) | (refine hB (fun K hK => ?_); go_simp; refine hK _ ?_; clear hK K hA hB A B))
                    | (refine can_guard_go rfl (fun A B hA hB => ?_); go_simp; refine hB (fun K hK => ?_); go_simp; refine hK _ ?_; clear hK K hA hB A B))
                  refine can_go rfl rfl (fun KK hK => ?_)
                  go_simp
                  refine (get_any w6 sb sl hsec6 0 (by omega)).mono ?_
                  rintro e w' ⟨rfl, rfl⟩
                  refine ⟨_, rfl, later_refl _, hK _ _ ?_⟩
                  clear hK KK
                  go_simp
                  repeat (first
                    | (refine can_yes (v := ?_) rfl (wanted_none rfl) (fun w' hC => ?_) (fun K hK => ?_); rotate_left; (focus (go_simp; first | done | exact rfl)); go_simp; refine hK _ ?_; clear hK K)
                    | (refine can_guard rfl (fun A B hA hB => ?_); go_simp; first | (refine hA ⟨?_, fun w' hC => ?_, fun K hK => ?_⟩; rotate_left; (focus (go_simp; first | done | exact rfl)); go_simp; refine hK _ ?_; clear hK K hA hB A B) | (refine hB (fun K hK => ?_); go_simp; refine hK _ ?_; clear hK K hA hB A B))
                    | (refine can_guard_go rfl (fun A B hA hB => ?_); go_simp; refine hB (fun K hK => ?_); go_simp; refine hK _ ?_; clear hK K hA hB A B))
                  refine can_go rfl rfl (fun KK hK => ?_)
                  go_simp
                  refine (get_any w6 sb sl hsec6 4 (by omega)).mono ?_
                  rintro e w' ⟨rfl, rfl⟩
                  refine ⟨_, rfl, later_refl _, hK _ _ ?_⟩
                  clear hK KK
                  go_simp
                  repeat (first
                    | (refine can_yes (v := ?_) rfl (wanted_none rfl) (fun w' hC => ?_) (fun K hK => ?_); rotate_left; (focus (go_simp; first | done | exact rfl)); go_simp; refine hK _ ?_; clear hK K)
                    | (refine can_guard rfl (fun A B hA hB => ?_); go_simp; first | (refine hA ⟨?_, fun w' hC => ?_, fun K hK => ?_⟩; rotate_left; (focus (go_simp; first | done | exact rfl)); go_simp; refine hK _ ?_; clear hK K hA hB A B) | (refine hB (fun K hK => ?_); go_simp; refine hK _ ?_; clear hK K hA hB A B))
                    | (refine can_guard_go rfl (fun A B hA hB => ?_); go_simp; refine hB (fun K hK => ?_); go_simp; refine hK _ ?_; clear hK K hA hB A B))
                  refine can_go rfl rfl (fun KK hK => ?_)
                  go_simp
                  refine (get_any w6 sb sl hsec6 8 (by omega)).mono ?_
                  rintro e w' ⟨rfl, rfl⟩
                  refine ⟨_, rfl, later_refl _, hK _ _ ?_⟩
                  clear hK KK
                  go_simp
                  repeat (first
                    | (refine can_yes (v := ?_) rfl (wanted_none rfl) (fun w' hC => ?_) (fun K hK => ?_); rotate_left; (focus (go_simp; first | done | exact rfl)); go_simp; refine hK _ ?_; clear hK K)
                    | (refine can_guard rfl (fun A B hA hB => ?_); go_simp; first | (refine hA ⟨?_, fun w' hC => ?_, fun K hK => ?_⟩; rotate_left; (focus (go_simp; first | done | exact rfl)); go_simp; refine hK _ ?_; clear hK K hA hB A B) | (refine hB (fun K hK => ?_); go_simp; refine hK _ ?_; clear hK K hA hB A B))
                    | (refine can_guard_go rfl (fun A B hA hB => ?_); go_simp; refine hB (fun K hK => ?_); go_simp; refine hK _ ?_; clear hK K hA hB A B))
                  refine can_nil ?_
                  clear q1 q2
                  have hown6 := owns_kept (owns_kept Hown5.out (Below.refl _ _).drew) l6
                  have hlb : (bodyM M.S g taken m).length = 48 * m := bodyM_length _ (fun s hs => by obtain ⟨L, -, hL⟩ := Hd.out.secs; exact hL.2.2 s hs) _ _ _ (fun j hj => placeN_lt _ _ _ (by rw [HHe.out]; omega))
                  obtain ⟨v7, w7, hap, hown7, hg7⟩ := run_append_bytes w6 w.heap.size _ _ hown6 _ _ _ hsec6.bytes12 (by rw [hlb]; simp; omega) b6.size
                  rw [← Hbody.out] at hown7
                  have b7 : Below w.heap.size w w7 := b6.grown hg7 b6.size (fun q hq => by
                    rcases hown6.2 with ⟨h, _⟩ | ⟨g', cap', cur, h, hlo, _⟩
                    · rw [h] at hq; cases hq
                    · rw [h] at hq; simp [Value.ownBlock] at hq; omega)
                  have Hown7 := Lib.hid hown7
                  clear hown7 hown6 hg7 hlb hsec6
                  go_wp2_with fail
                  go_roundw
                  case rel => exact ⟨m + 1, by omega, by go_num, by rw [Hstep.out]; exact Hok.out, Hown7.out, b7⟩
                  case measure => simp [intOf]; omega
                · have n8 : ((read4 sl 8 : Int) != (n : Int) - 48 * (m : Int)) = true := by simp; omega
                  have hb : pieceOk sl g k (n - 48 * m) = false := by simp [pieceOk, h8n]
                  clear h0g h4k h8n
                  go_wp2_with fail
                  have q1 := Q1.out w5 b5
                  have q2 := Q2.out w5 b5
                  refine wp_region_can Later [(0, true), (1, false), (2, true), (3, true), (4, true), (6, true), (7, true), (8, true), (9, true), (5, false), (10, true), (11, true), (12, true), (13, true), (15, true), (16, true), (17, true), (18, true), (19, true), (20, true), (14, false), (21, true), (22, true), (23, true), (24, true), (26, true), (27, true), (28, true), (29, true), (30, true), (25, false), (31, true), (32, true)] (by kernel_rfl) (by kernel_rfl) later_refl later_trans ?_
                  repeat (first
                    | (refine can_yes (v := ?_) rfl (wanted_none rfl) (fun w' hC => ?_) (fun K hK => ?_); rotate_left; (focus (go_simp; first | done | exact rfl)); go_simp; refine hK _ ?_; clear hK K)
                    | (refine can_guard rfl (fun A B hA hB => ?_); go_simp; first | (refine hA ⟨?_, fun w' hC => ?_, fun K hK => ?_⟩; rotate_left; (focus (go_simp; first | done | exact rfl)); go_simp; refine hK _ ?_; clear hK K hA hB A B) | (refine hB (fun K hK => ?_); go_simp; refine hK _ ?_; clear hK K hA hB A B))
                    | (refine can_guard_go rfl (fun A B hA hB => ?_); go_simp; refine hB (fun K hK => ?_); go_simp; refine hK _ ?_; clear hK K hA hB A B))
                  refine can_go rfl rfl (fun KK hK => ?_)
                  go_simp
                  refine (intact_any w5.drew (hqq b5.drew) sb sl hsec5.out).mono ?_
                  rintro e w6 ⟨rfl, q, hw6⟩
                  have l6 : Later w5.drew w6 := by rw [← hw6]; exact ⟨rfl, rfl, rfl, Nat.le_refl _, fun _ _ => rfl⟩
                  have hsec6 : SecAt w6 sb sl := by rw [← hw6]; exact hsec5.out
                  have b6 : Below w.heap.size w w6 := b5.drew.trans (l6.mono b5.size)
                  clear hw6
                  refine ⟨_, rfl, l6, hK _ _ ?_⟩
                  clear hK KK q1 q2
                  have q1 : ∀ w', Later w6 w' → w'.cell? ⟨jb, 1, none⟩ = some (.int .u32 (g : Int)) := fun w' hh => Q1.out w5 b5 w' (later_trans _ _ _ l6 hh)
                  have q2 : ∀ w', Later w6 w' → w'.cell? ⟨jb, 2, none⟩ = some (.slice ra k rc) := fun w' hh => Q2.out w5 b5 w' (later_trans _ _ _ l6 hh)
                  rw [hin]
                  go_simp
                  repeat (first
                    | (refine can_yes (v := ?_) rfl (wanted_none rfl) (fun w' hC => ?_) (fun K hK => ?_); rotate_left; (focus (go_simp; first | done | exact rfl)); go_simp; refine hK _ ?_; clear hK K)
                    | (refine can_guard rfl (fun A B hA hB => ?_); go_simp; first | (refine hA ⟨?_, fun w' hC => ?_, fun K hK => ?_⟩; rotate_left; (focus (go_simp; first | done | exact rfl)); go_simp; refine hK _ ?_; clear hK K hA hB A B) | (refine hB (fun K hK => ?_); go_simp; refine hK _ ?_; clear hK K hA hB A B))
                    | (refine can_guard_go rfl (fun A B hA hB => ?_); go_simp; refine hB (fun K hK => ?_); go_simp; refine hK _ ?_; clear hK K hA hB A B))
                  refine can_go rfl rfl (fun KK hK => ?_)
                  go_simp
                  refine (get_any w6 sb sl hsec6 0 (by omega)).mono ?_
                  rintro e w' ⟨rfl, rfl⟩
                  refine ⟨_, rfl, later_refl _, hK _ _ ?_⟩
                  clear hK KK
                  go_simp
                  repeat (first
                    | (refine can_yes (v := ?_) rfl (wanted_none rfl) (fun w' hC => ?_) (fun K hK => ?_); rotate_left; (focus (go_simp; first | done | exact rfl)); go_simp; refine hK _ ?_; clear hK K)
                    | (refine can_guard rfl (fun A B hA hB => ?_); go_simp; first | (refine hA ⟨?_, fun w' hC => ?_, fun K hK => ?_⟩; rotate_left; (focus (go_simp; first | done | exact rfl)); go_simp; refine hK _ ?_; clear hK K hA hB A B) | (refine hB (fun K hK => ?_); go_simp; refine hK _ ?_; clear hK K hA hB A B))
                    | (refine can_guard_go rfl (fun A B hA hB => ?_); go_simp; refine hB (fun K hK => ?_); go_simp; refine hK _ ?_; clear hK K hA hB A B))
                  refine can_go rfl rfl (fun KK hK => ?_)
                  go_simp
                  refine (get_any w6 sb sl hsec6 4 (by omega)).mono ?_
                  rintro e w' ⟨rfl, rfl⟩
                  refine ⟨_, rfl, later_refl _, hK _ _ ?_⟩
                  clear hK KK
                  go_simp
                  repeat (first
                    | (refine can_yes (v := ?_) rfl (wanted_none rfl) (fun w' hC => ?_) (fun K hK => ?_); rotate_left; (focus (go_simp; first | done | exact rfl)); go_simp; refine hK _ ?_; clear hK K)
                    | (refine can_guard rfl (fun A B hA hB => ?_); go_simp; first | (refine hA ⟨?_, fun w' hC => ?_, fun K hK => ?_⟩; rotate_left; (focus (go_simp; first | done | exact rfl)); go_simp; refine hK _ ?_; clear hK K hA hB A B) | (refine hB (fun K hK => ?_); go_simp; refine hK _ ?_; clear hK K hA hB A B))
                    | (refine can_guard_go rfl (fun A B hA hB => ?_); go_simp; refine hB (fun K hK => ?_); go_simp; refine hK _ ?_; clear hK K hA hB A B))
                  refine can_go rfl rfl (fun KK hK => ?_)
                  go_simp
                  refine (get_any w6 sb sl hsec6 8 (by omega)).mono ?_
                  rintro e w' ⟨rfl, rfl⟩
                  refine ⟨_, rfl, later_refl _, hK _ _ ?_⟩
                  clear hK KK
                  go_simp
                  repeat (first
                    | (refine can_yes (v := ?_) rfl (wanted_none rfl) (fun w' hC => ?_) (fun K hK => ?_); rotate_left; (focus (go_simp; first | done | exact rfl)); go_simp; refine hK _ ?_; clear hK K)
                    | (refine can_guard rfl (fun A B hA hB => ?_); go_simp; first | (refine hA ⟨?_, fun w' hC => ?_, fun K hK => ?_⟩; rotate_left; (focus (go_simp; first | done | exact rfl)); go_simp; refine hK _ ?_; clear hK K hA hB A B) | (refine hB (fun K hK => ?_); go_simp; refine hK _ ?_; clear hK K hA hB A B))
                    | (refine can_guard_go rfl (fun A B hA hB => ?_); go_simp; refine hB (fun K hK => ?_); go_simp; refine hK _ ?_; clear hK K hA hB A B))
                  refine can_nil ?_
                  clear q1 q2
                  go_wp2_with fail
                  go_ret2
                  rw [Hbad.out hb]
                  exact ⟨rfl, b6⟩
              · have n4 : ((read4 sl 4 : Int) != (k : Int)) = true := by simp; omega
                have hb : pieceOk sl g k (n - 48 * m) = false := by simp [pieceOk, h4k]
                clear h0g h4k
                go_wp2_with fail
                have q1 := Q1.out w5 b5
                have q2 := Q2.out w5 b5
                refine wp_region_can Later [(0, true), (1, false), (2, true), (3, true), (4, true), (6, true), (7, true), (8, true), (9, true), (5, false), (10, true), (11, true), (12, true), (13, true), (15, true), (16, true), (17, true), (18, true), (19, true), (20, true), (14, false), (21, true), (22, true), (23, true), (24, true), (26, true), (27, true), (28, true), (29, true), (30, true), (25, false), (31, true), (32, true)] (by kernel_rfl) (by kernel_rfl) later_refl later_trans ?_
                repeat (first
                  | (refine can_yes (v := ?_) rfl (wanted_none rfl) (fun w' hC => ?_) (fun K hK => ?_); rotate_left; (focus (go_simp; first | done | exact rfl)); go_simp; refine hK _ ?_; clear hK K)
                  | (refine can_guard rfl (fun A B hA hB => ?_); go_simp; first | (refine hA ⟨?_, fun w' hC => ?_, fun K hK => ?_⟩; rotate_left; (focus (go_simp; first | done | exact rfl)); go_simp; refine hK _ ?_; clear hK K hA hB A B) | (refine hB (fun K hK => ?_); go_simp; refine hK _ ?_; clear hK K hA hB A B))
                  | (refine can_guard_go rfl (fun A B hA hB => ?_); go_simp; refine hB (fun K hK => ?_); go_simp; refine hK _ ?_; clear hK K hA hB A B))
                refine can_go rfl rfl (fun KK hK => ?_)
                go_simp
                refine (intact_any w5.drew (hqq b5.drew) sb sl hsec5.out).mono ?_
                rintro e w6 ⟨rfl, q, hw6⟩
                have l6 : Later w5.drew w6 := by rw [← hw6]; exact ⟨rfl, rfl, rfl, Nat.le_refl _, fun _ _ => rfl⟩
                have hsec6 : SecAt w6 sb sl := by rw [← hw6]; exact hsec5.out
                have b6 : Below w.heap.size w w6 := b5.drew.trans (l6.mono b5.size)
                clear hw6
                refine ⟨_, rfl, l6, hK _ _ ?_⟩
                clear hK KK q1 q2
                have q1 : ∀ w', Later w6 w' → w'.cell? ⟨jb, 1, none⟩ = some (.int .u32 (g : Int)) := fun w' hh => Q1.out w5 b5 w' (later_trans _ _ _ l6 hh)
                have q2 : ∀ w', Later w6 w' → w'.cell? ⟨jb, 2, none⟩ = some (.slice ra k rc) := fun w' hh => Q2.out w5 b5 w' (later_trans _ _ _ l6 hh)
                rw [hin]
                go_simp
                repeat (first
                  | (refine can_yes (v := ?_) rfl (wanted_none rfl) (fun w' hC => ?_) (fun K hK => ?_); rotate_left; (focus (go_simp; first | done | exact rfl)); go_simp; refine hK _ ?_; clear hK K)
                  | (refine can_guard rfl (fun A B hA hB => ?_); go_simp; first | (refine hA ⟨?_, fun w' hC => ?_, fun K hK => ?_⟩; rotate_left; (focus (go_simp; first | done | exact rfl)); go_simp; refine hK _ ?_; clear hK K hA hB A B) | (refine hB (fun K hK => ?_); go_simp; refine hK _ ?_; clear hK K hA hB A B))
                  | (refine can_guard_go rfl (fun A B hA hB => ?_); go_simp; refine hB (fun K hK => ?_); go_simp; refine hK _ ?_; clear hK K hA hB A B))
                refine can_go rfl rfl (fun KK hK => ?_)
                go_simp
                refine (get_any w6 sb sl hsec6 0 (by omega)).mono ?_
                rintro e w' ⟨rfl, rfl⟩
                refine ⟨_, rfl, later_refl _, hK _ _ ?_⟩
                clear hK KK
                go_simp
                repeat (first
                  | (refine can_yes (v := ?_) rfl (wanted_none rfl) (fun w' hC => ?_) (fun K hK => ?_); rotate_left; (focus (go_simp; first | done | exact rfl)); go_simp; refine hK _ ?_; clear hK K)
                  | (refine can_guard rfl (fun A B hA hB => ?_); go_simp; first | (refine hA ⟨?_, fun w' hC => ?_, fun K hK => ?_⟩; rotate_left; (focus (go_simp; first | done | exact rfl)); go_simp; refine hK _ ?_; clear hK K hA hB A B) | (refine hB (fun K hK => ?_); go_simp; refine hK _ ?_; clear hK K hA hB A B))
                  | (refine can_guard_go rfl (fun A B hA hB => ?_); go_simp; refine hB (fun K hK => ?_); go_simp; refine hK _ ?_; clear hK K hA hB A B))
                refine can_go rfl rfl (fun KK hK => ?_)
                go_simp
                refine (get_any w6 sb sl hsec6 4 (by omega)).mono ?_
                rintro e w' ⟨rfl, rfl⟩
                refine ⟨_, rfl, later_refl _, hK _ _ ?_⟩
                clear hK KK
                go_simp
                repeat (first
                  | (refine can_yes (v := ?_) rfl (wanted_none rfl) (fun w' hC => ?_) (fun K hK => ?_); rotate_left; (focus (go_simp; first | done | exact rfl)); go_simp; refine hK _ ?_; clear hK K)
                  | (refine can_guard rfl (fun A B hA hB => ?_); go_simp; first | (refine hA ⟨?_, fun w' hC => ?_, fun K hK => ?_⟩; rotate_left; (focus (go_simp; first | done | exact rfl)); go_simp; refine hK _ ?_; clear hK K hA hB A B) | (refine hB (fun K hK => ?_); go_simp; refine hK _ ?_; clear hK K hA hB A B))
                  | (refine can_guard_go rfl (fun A B hA hB => ?_); go_simp; refine hB (fun K hK => ?_); go_simp; refine hK _ ?_; clear hK K hA hB A B))
                refine can_nil ?_
                clear q1 q2
                go_wp2_with fail
                go_ret2
                rw [Hbad.out hb]
                exact ⟨rfl, b6⟩
            · have n0 : ((read4 sl 0 : Int) != (g : Int)) = true := by simp; omega
              have hb : pieceOk sl g k (n - 48 * m) = false := by simp [pieceOk, h0g]
              clear h0g
              go_wp2_with fail
              have q1 := Q1.out w5 b5
              have q2 := Q2.out w5 b5
              refine wp_region_can Later [(0, true), (1, false), (2, true), (3, true), (4, true), (6, true), (7, true), (8, true), (9, true), (5, false), (10, true), (11, true), (12, true), (13, true), (15, true), (16, true), (17, true), (18, true), (19, true), (20, true), (14, false), (21, true), (22, true), (23, true), (24, true), (26, true), (27, true), (28, true), (29, true), (30, true), (25, false), (31, true), (32, true)] (by kernel_rfl) (by kernel_rfl) later_refl later_trans ?_
              repeat (first
                | (refine can_yes (v := ?_) rfl (wanted_none rfl) (fun w' hC => ?_) (fun K hK => ?_); rotate_left; (focus (go_simp; first | done | exact rfl)); go_simp; refine hK _ ?_; clear hK K)
                | (refine can_guard rfl (fun A B hA hB => ?_); go_simp; first | (refine hA ⟨?_, fun w' hC => ?_, fun K hK => ?_⟩; rotate_left; (focus (go_simp; first | done | exact rfl)); go_simp; refine hK _ ?_; clear hK K hA hB A B) | (refine hB (fun K hK => ?_); go_simp; refine hK _ ?_; clear hK K hA hB A B))
                | (refine can_guard_go rfl (fun A B hA hB => ?_); go_simp; refine hB (fun K hK => ?_); go_simp; refine hK _ ?_; clear hK K hA hB A B))
              refine can_go rfl rfl (fun KK hK => ?_)
              go_simp
              refine (intact_any w5.drew (hqq b5.drew) sb sl hsec5.out).mono ?_
              rintro e w6 ⟨rfl, q, hw6⟩
              have l6 : Later w5.drew w6 := by rw [← hw6]; exact ⟨rfl, rfl, rfl, Nat.le_refl _, fun _ _ => rfl⟩
              have hsec6 : SecAt w6 sb sl := by rw [← hw6]; exact hsec5.out
              have b6 : Below w.heap.size w w6 := b5.drew.trans (l6.mono b5.size)
              clear hw6
              refine ⟨_, rfl, l6, hK _ _ ?_⟩
              clear hK KK q1 q2
              have q1 : ∀ w', Later w6 w' → w'.cell? ⟨jb, 1, none⟩ = some (.int .u32 (g : Int)) := fun w' hh => Q1.out w5 b5 w' (later_trans _ _ _ l6 hh)
              have q2 : ∀ w', Later w6 w' → w'.cell? ⟨jb, 2, none⟩ = some (.slice ra k rc) := fun w' hh => Q2.out w5 b5 w' (later_trans _ _ _ l6 hh)
              rw [hin]
              go_simp
              repeat (first
                | (refine can_yes (v := ?_) rfl (wanted_none rfl) (fun w' hC => ?_) (fun K hK => ?_); rotate_left; (focus (go_simp; first | done | exact rfl)); go_simp; refine hK _ ?_; clear hK K)
                | (refine can_guard rfl (fun A B hA hB => ?_); go_simp; first | (refine hA ⟨?_, fun w' hC => ?_, fun K hK => ?_⟩; rotate_left; (focus (go_simp; first | done | exact rfl)); go_simp; refine hK _ ?_; clear hK K hA hB A B) | (refine hB (fun K hK => ?_); go_simp; refine hK _ ?_; clear hK K hA hB A B))
                | (refine can_guard_go rfl (fun A B hA hB => ?_); go_simp; refine hB (fun K hK => ?_); go_simp; refine hK _ ?_; clear hK K hA hB A B))
              refine can_go rfl rfl (fun KK hK => ?_)
              go_simp
              refine (get_any w6 sb sl hsec6 0 (by omega)).mono ?_
              rintro e w' ⟨rfl, rfl⟩
              refine ⟨_, rfl, later_refl _, hK _ _ ?_⟩
              clear hK KK
              go_simp
              repeat (first
                | (refine can_yes (v := ?_) rfl (wanted_none rfl) (fun w' hC => ?_) (fun K hK => ?_); rotate_left; (focus (go_simp; first | done | exact rfl)); go_simp; refine hK _ ?_; clear hK K)
                | (refine can_guard rfl (fun A B hA hB => ?_); go_simp; first | (refine hA ⟨?_, fun w' hC => ?_, fun K hK => ?_⟩; rotate_left; (focus (go_simp; first | done | exact rfl)); go_simp; refine hK _ ?_; clear hK K hA hB A B) | (refine hB (fun K hK => ?_); go_simp; refine hK _ ?_; clear hK K hA hB A B))
                | (refine can_guard_go rfl (fun A B hA hB => ?_); go_simp; refine hB (fun K hK => ?_); go_simp; refine hK _ ?_; clear hK K hA hB A B))
              refine can_nil ?_
              clear q1 q2
              go_wp2_with fail
              go_ret2
              rw [Hbad.out hb]
              exact ⟨rfl, b6⟩
          · have hmI : ¬ (m : Int) < (T : Int) := by omega
            obtain rfl : m = T := by omega
            have hTT : takes n = max 1 ((n + 47) / 48) := rfl
            have h48 : n ≤ 48 * m := by have := HT.out; omega
            have hlb : (bodyM M.S g taken m).length = 48 * m := bodyM_length _ (fun s hs => by obtain ⟨L, -, hL⟩ := Hd.out.secs; exact hL.2.2 s hs) _ _ _ (fun j hj => placeN_lt _ _ _ (by rw [HHe.out]; omega))
            have hbyt := Bytes.of_owns hown (fun q => w.heap.size ≤ q ∧ q < wr.heap.size) (fun q h1 h2 => ⟨h1, h2⟩)
            have hrr : recordM M.S g k taken = some ((bodyM M.S g taken m).take n) := by rw [Hrec2.out, if_pos hpo]
            generalize bodyM M.S g taken m = bo at *
            obtain ⟨av, cv, rfl, hcv, hmv, -, -⟩ := id hbyt
            have hby2 := hbyt.take n (by omega)
            have hbl : (bo.take n).length ≤ 65536 := by simp; omega
            have Hrr := Lib.hid hrr; have Hby2 := Lib.hid hby2; have Hbl := Lib.hid hbl
            clear hrr hby2 hbl hbyt hown hpo hTT
            rw [hlb] at hcv ⊢
            clear hlb
            have hcvI : (n : Int) ≤ (cv : Int) := by omega
            go_wp2_with fail
            go_ret2
            rw [Hrr.out]
            exact ⟨⟨_, rfl, Hby2.out, Hbl.out⟩, hbw⟩
end Go.Proofs.YtmimplmeccoahaaDoor
