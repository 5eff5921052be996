/- The reference journal: pieces. -/
import Derived.Test.YtmimplmeccoahaaDoorP6
namespace Go.Proofs.YtmimplmeccoahaaDoor
open Go.RowKit
set_option linter.unusedVariables false
set_option maxRecDepth 20000
attribute [local go_sem] opC upC
attribute [local go_sem ↓] seal_append

theorem pad48_at (l : List UInt8) (n q : Nat) (hq : q < 48) : (pad48 (l.drop (48 * n))).take (q + 1) = (pad48 (l.drop (48 * n))).take q ++ [l.getD (48 * n + q) 0] := by
  have hlen := pad48_length (l.drop (48 * n))
  rw [List.take_succ_eq_append_getElem (by omega)]
  congr 2
  have : (pad48 (l.drop (48 * n)))[q]? = some (l.getD (48 * n + q) 0) := by
    unfold pad48
    by_cases h : 48 * n + q < l.length
    · rw [List.getElem?_append_left (by simp; omega), List.getElem?_take, if_pos hq, List.getElem?_drop, List.getD_eq_getElem?_getD, List.getElem?_eq_getElem h]
      rfl
    · rw [List.getElem?_append_right (by simp; omega), List.getElem?_replicate, if_pos (by simp; omega), List.getD_eq_getElem?_getD, List.getElem?_eq_none (by omega)]
      rfl
  rw [List.getElem?_eq_getElem (by omega)] at this
  exact Option.some.inj this

theorem owned_slice {w : World} {base : Nat} {v : Value} {n : Nat} {xs : List Value} (h : w.ownsRow base 5 1 v n xs) : ∃ a c, v = .slice a n c := by
  rcases h.2 with ⟨rfl, h0⟩ | ⟨g, cap, cur, rfl, _⟩
  · exact ⟨none, 0, by rw [h0]⟩
  · exact ⟨_, cap, rfl⟩
theorem owned_block {w : World} {base : Nat} {e : TypeId} {v : Value} {n : Nat} {xs : List Value} (h : w.ownsRow base e 1 v n xs) {q : Nat} (hq : v.ownBlock = some q) : base ≤ q := by
  rcases h.2 with ⟨rfl, h0⟩ | ⟨g, cap, cur, rfl, hlo, _⟩
  · cases hq
  · simp [Value.ownBlock] at hq; omega

/-- a byte is appended -/
theorem append_byte (W w0 : World) (H : Nat) (a : Option Addr) (n c : Nat) (xs : List UInt8) (hn : xs.length = n) (hown : W.ownsRow H 5 1 (.slice a n c) n (xs.map B)) (hb : Below H w0 W) (hH : H ≤ W.heap.size) (u : UInt8) (z : Value) (hz : z = B u) (hlen : n ≤ 1000) :
    ∃ a' c' w', (AP #[30, 30] 30 #[.slice a n c, .slice (some ⟨W.heap.size, 0, none⟩) 1 1]).run Tryd.prog (W.alloc (.cells #[z] 5)) = .ok (.slice a' (n + 1) c') w' ∧ w'.ownsRow H 5 1 (.slice a' (n + 1) c') (n + 1) ((xs ++ [u]).map B) ∧ Below H w0 w' := by
  subst hn hz
  have hby : Bytes (fun b => b = W.heap.size) (W.alloc (.cells #[B u] 5)) (.slice (some ⟨W.heap.size, 0, none⟩) 1 1) [u] := bytes_of_blk (l := [u]) (Blk.new W #[B u] 5) (by unfold maxLen; simp) _ rfl
  obtain ⟨v', w', hr, ho, hg⟩ := run_append_bytes (W.alloc (.cells #[B u] 5)) H _ xs (hown.alloc _) _ _ [u] hby (by simp; omega) (by simp; omega)
  rw [show (xs ++ [u]).length = xs.length + 1 from by simp] at ho
  obtain ⟨a', c', rfl⟩ := owned_slice ho
  exact ⟨a', c', w', hr, ho, (Below.alloc hb hH _).grown hg (by simp; omega) (fun q hq => owned_block hown hq)⟩

def PieceRel (w : World) (g k : Nat) (l : List UInt8) (out i : Value) (wr : World) : Prop :=
  ∃ (n : Nat) (a : Option Addr) (c : Nat) (R : Blks) (S : List (List UInt8)), n ≤ takes l.length ∧ i = .int .i64 (n : Int) ∧ out = .slice a n c ∧ S = (List.range n).map (pieceB g k l) ∧ S.length = n ∧ RowsIn R wr w.heap.size (.slice a n c) S ∧ (∀ b, R b → w.heap.size ≤ b ∧ b < wr.heap.size) ∧ Below w.heap.size w wr

def ByteRel (wo : World) (X rest : List UInt8) (n : Nat) (s m : Value) (wr : World) : Prop :=
  ∃ (j q : Nat) (a : Option Addr) (c : Nat) (xs : List UInt8), j = 48 * n + q ∧ q ≤ 48 ∧ m = .int .i64 (j : Int) ∧ s = .slice a (12 + q) c ∧ xs = X ++ rest.take q ∧ xs.length = 12 + q ∧ wr.ownsRow wo.heap.size 5 1 (.slice a (12 + q) c) (12 + q) (xs.map B) ∧ Below wo.heap.size wo wr

set_option maxRecDepth 100000 in
set_option maxHeartbeats 4000000 in
theorem rpieces_any (w : World) (g k : Nat) (v : Value) (l : List UInt8) (F : Blks) (hv : Bytes F w v l) (hg : g ≤ 4294967295) (hk : k ≤ 4294967295) (hl : l.length ≤ 65536) :
    Calls Tryd.prog 91 #[.int .i64 (g : Int), .int .i64 (k : Int), v] w fun e w' => ∃ r R, e = .returned r ∧ RowsIn R w' w.heap.size r ((List.range (takes l.length)).map (pieceB g k l)) ∧ (∀ b, R b → w.heap.size ≤ b ∧ b < w'.heap.size) ∧ Below w.heap.size w w' := by
  obtain ⟨a, cap, rfl, -, -, -, hx⟩ := hv
  have Hx := Lib.hid hx
  obtain ⟨len, hlen⟩ : ∃ len, l.length = len := ⟨_, rfl⟩
  have Hlen := Lib.hid hlen
  have hlI : (len : Int) ≤ 65536 := by omega
  rw [hlen] at hl ⊢
  have htk : takes len ≤ 1366 := by unfold takes; omega
  have Htk : Hid (∀ n, n < takes len → 48 * n ≤ len) := Lib.hid fun n hn => by unfold takes at hn; omega
  clear hx hlen
  obtain ⟨T, hT⟩ : ∃ T, takes len = T := ⟨_, rfl⟩
  have HT := Lib.hid hT
  have Htakes : ∀ w' : World, Hid (Calls Tryd.prog 83 #[.int .i64 (len : Int)] w' fun e w'' => e = .returned (.int .i64 (T : Int)) ∧ w' = w'') := fun w' => Lib.hid (by rw [← hT]; exact rtakes_any w' len (by omega))
  rw [hT] at htk ⊢ Htk
  clear hT
  go_enter Tryd.func91, Tryd.ntmps91
  go_wp2_with fail
  go_loopw [7, 8] (fun out i wr => PieceRel w g k l out i wr) (fun _ i _ => T - (intOf i).toNat)
  case atStart => exact ⟨0, none, 0, none_, [], by omega, rfl, rfl, rfl, rfl, RowsIn.nil _ _, fun b h => h.elim, Below.refl _ _⟩
  case round =>
    rename World => wo
    obtain ⟨n, oa, oc, R, S, hnT, rfl, rfl, hS, hSn, hrow, hR, hbo⟩ := hrel
    rw [Hlen.out, HT.out] at hnT
    go_wp2_with fail
    refine (Htakes wo).out.mono ?_
    rintro e w' ⟨rfl, rfl⟩
    by_cases hn : n < T
    · have hnI : (n : Int) < (T : Int) := by omega
      have hn2 : (n : Int) ≤ 1366 := by omega
      have h48 := Htk.out n hn
      have h48I : 48 * (n : Int) ≤ (len : Int) := by omega
      have hcast : (len : Int) - 48 * (n : Int) = ((len - 48 * n : Nat) : Int) := by omega
      obtain ⟨X, hX⟩ : ∃ X, X = num4 g ++ num4 k ++ num4 (len - 48 * n) := ⟨_, rfl⟩
      obtain ⟨rest, hrest⟩ : ∃ rest, rest = pad48 (l.drop (48 * n)) := ⟨_, rfl⟩
      have hX12 : X.length = 12 := by rw [hX]; simp [num4_length]
      have hpiece : sealed (X ++ rest) = pieceB g k l n := by rw [hX, hrest]; unfold pieceB; rw [Hlen.out]
      have hr48 : rest.length = 48 := by rw [hrest]; exact pad48_length _
      have Hat : Hid (∀ q, q < 48 → rest.take (q + 1) = rest.take q ++ [l.getD (48 * n + q) 0]) := Lib.hid fun q hq => by rw [hrest]; exact pad48_at l n q hq
      have Hn1 := Lib.hid (rnumber_any wo g hg)
      have Hrow := Lib.hid hrow; have HS := Lib.hid hS; have HSn := Lib.hid hSn; have HX12 := Lib.hid hX12; have Hpiece := Lib.hid hpiece; have Hr48 := Lib.hid hr48; have HX := Lib.hid hX; have Hcast := Lib.hid hcast
      clear hrow hS hSn hX12 hpiece hr48 hX hrest hcast
      go_wp2_with fail
      refine Hn1.out.mono ?_
      rintro e w1 ⟨rfl, hb1, hk1⟩
      have Hn2 := Lib.hid (rnumber_any w1 k hk)
      have Hb1 := Lib.hid hb1; have Hk1 := Lib.hid hk1
      clear Hn1 hb1 hk1
      go_wp2_with fail
      refine Hn2.out.mono ?_
      rintro e w2 ⟨rfl, hb2, hk2⟩
      have hz1 := Hk1.out.size
      have hlt1 := Hb1.out.lt
      have hz2 := hk2.size
      obtain ⟨v3, w3, hap3, hown3, hg3⟩ := run_append_full w2 wo.heap.size wo.heap.size (num4 g) (fun j u hj => by
        have := (Hb1.out.keep (hk2.block _ hlt1)).cell j
        rw [this]; exact hj) _ _ _ (num4_bytes hb2 (fun b => b = w1.heap.size) rfl) (by rw [num4_length]; omega) (by simp [num4_length]) (by omega)
      rw [show (num4 g ++ num4 k).length = 8 from by simp [num4_length]] at hown3
      obtain ⟨a3, c3, rfl⟩ := owned_slice hown3
      have hb3 : Below wo.heap.size wo w3 := (Hk1.out.trans (hk2.mono hz1)).grown hg3 (by omega) (fun q hq => by cases hq)
      have hn4 := rnumber_any w3 (len - 48 * n) (by omega)
      rw [← Hcast.out] at hn4
      have Hn4 := Lib.hid hn4; have Hown3 := Lib.hid hown3; have Hb3 := Lib.hid hb3
      rw [show (num4 g).length = 4 from rfl] at hap3
      clear Hn2 hb2 hk2 hg3 hn4 hown3 hb3 Hb1 Hk1 hz1 hlt1 hz2
      go_wp2_with fail
      refine Hn4.out.mono ?_
      rintro e w4 ⟨rfl, hb4, hk4⟩
      have hz4 := hk4.size
      have hz3 := Hb3.out.size
      have hown4 := owns_kept Hown3.out hk4
      obtain ⟨v5, w5, hap5, hown5, hg5⟩ := run_append_bytes w4 wo.heap.size _ (num4 g ++ num4 k) (by rw [show (num4 g ++ num4 k).length = 8 from by simp [num4_length]]; exact hown4) _ _ (num4 (len - 48 * n)) (num4_bytes hb4 (fun b => b = w3.heap.size) rfl) (by simp [num4_length]) (by omega)
      have hb5 : Below wo.heap.size wo w5 := (Hb3.out.trans (hk4.mono hz3)).grown hg5 (by omega) (fun q hq => owned_block hown4 hq)
      rw [← HX.out, HX12.out] at hown5
      obtain ⟨a5, c5, rfl⟩ := owned_slice hown5
      have h0 : ByteRel wo X rest n (.slice a5 12 c5) (.int .i64 (48 * (n : Int))) w5 := ⟨48 * n, 0, a5, c5, X, rfl, by omega, by simp, rfl, by simp, HX12.out, hown5, hb5⟩
      have H0 := Lib.hid h0
      clear Hn4 Hown3 hap3 hb4 hk4 hz4 hz3 hown4 hown5 hg5 hb5 h0
      go_wp2_with fail
      go_loopw [9, 10] (fun s m wr => ByteRel wo X rest n s m wr) (fun _ m _ => 48 * n + 48 - (intOf m).toNat)
      case atStart => exact H0.out
      case round =>
        obtain ⟨j, q, sa, sc, xs, hj, hq, rfl, rfl, hxs, hxl, hown, hbw⟩ := hrel
        have hjI : (j : Int) ≤ 66000 := by omega
        have hjE : (j : Int) = 48 * (n : Int) + (q : Int) := by omega
        by_cases hq48 : q < 48
        · have hjl : (j : Int) < 48 * (n : Int) + 48 := by omega
          have hat := Hat.out q hq48
          rw [← hj] at hat
          have hHw := hbw.size
          obtain ⟨u, hu⟩ : ∃ u, u = l.getD j 0 := ⟨_, rfl⟩
          rw [← hu] at hat
          by_cases hjlen : j < len
          · have hjI2 : (j : Int) < (len : Int) := by omega
            obtain ⟨b, off, L, t, fz, rfl, hF, hgL, hle, hr⟩ := Hx.out.resolve_left (by intro e; have := Hlen.out; rw [e] at this; simp at this; omega)
            have hcell : wr.cell? ⟨b, off + j, none⟩ = some (.int .u8 (u.toNat : Int)) := by
              rw [hbw.cell (p := ⟨b, off + j, none⟩) (by have := lt_of_block hgL; have := hbo.size; show b < wo.heap.size; omega), hbo.cell (p := ⟨b, off + j, none⟩) (lt_of_block hgL), cell_of_row w b (off + j) L t fz hgL, hr j (by rw [Hlen.out]; exact hjlen), hu, List.getD_eq_getElem?_getD, List.getElem?_eq_getElem (by rw [Hlen.out]; exact hjlen)]
              rfl
            obtain ⟨a', c', w6, hap, hown6, hb6⟩ := append_byte wr wo wo.heap.size sa (12 + q) sc xs hxl hown hbw hHw u (.int .u8 (u.toNat : Int)) rfl (by omega)
            have hrel' : ByteRel wo X rest n (.slice a' (12 + q + 1) c') (.int .i64 ((j : Int) + 1)) w6 := ⟨j + 1, q + 1, a', c', xs ++ [u], by omega, by omega, by simp, rfl, by rw [hat, hxs, List.append_assoc], by simp [hxl]; omega, hown6, hb6⟩
            have Hrel := Lib.hid hrel'; have Hjq := Lib.hid hj
            clear hown hxl hxs hbw hrel' hown6 hb6 hat hr hle hj hjE hu
            go_wp2_with fail
            go_roundw
            case rel => exact Hrel.out
            case measure => simp [intOf]; have := Hjq.out; omega
          · have hjI2 : ¬ (j : Int) < (len : Int) := by omega
            have hu0 : u = 0 := by rw [hu, List.getD_eq_getElem?_getD, List.getElem?_eq_none (by rw [Hlen.out]; omega)]; rfl
            obtain ⟨a', c', w6, hap, hown6, hb6⟩ := append_byte wr wo wo.heap.size sa (12 + q) sc xs hxl hown hbw hHw u (.int .u8 0) (by rw [hu0]; rfl) (by omega)
            have hrel' : ByteRel wo X rest n (.slice a' (12 + q + 1) c') (.int .i64 ((j : Int) + 1)) w6 := ⟨j + 1, q + 1, a', c', xs ++ [u], by omega, by omega, by simp, rfl, by rw [hat, hxs, List.append_assoc], by simp [hxl]; omega, hown6, hb6⟩
            have Hrel := Lib.hid hrel'; have Hjq := Lib.hid hj
            clear hown hxl hxs hbw hrel' hown6 hb6 hat hj hjE hu hu0
            go_wp2_with fail
            go_roundw
            case rel => exact Hrel.out
            case measure => simp [intOf]; have := Hjq.out; omega
        · have hjl : ¬ (j : Int) < 48 * (n : Int) + 48 := by omega
          have hq : q = 48 := by omega
          subst hq
          rw [show rest.take 48 = rest from List.take_of_length_le (by rw [Hr48.out]; omega)] at hxs
          have hby : Bytes (fun b => wo.heap.size ≤ b) wr (.slice sa 60 sc) xs := Bytes.of_owns (by rw [hxl]; exact hown) _ (fun b hb _ => hb)
          have Hs := Lib.hid (rsealed_any wr _ _ xs hby hxl)
          have hseal : sealed xs = pieceB g k l n := by rw [hxs]; exact Hpiece.out
          have Hseal := Lib.hid hseal; have Hbw := Lib.hid hbw
          clear hown hxl hxs hbw hby hseal hj hjE H0
          go_wp2_with fail
          refine Hs.out.mono ?_
          rintro e w7 ⟨r, rfl, hown7, hb7⟩
          rw [Hseal.out] at hown7
          obtain ⟨a7, c7, rfl⟩ := owned_slice hown7
          have hz := Hbw.out.size
          have hz7 := hb7.size
          have hzo := hbo.size
          have hbw7 := Hbw.out.trans (hb7.mono hz)
          have hpl := pieceB_length g k l n
          have hby7 := owns_bytes (l := pieceB g k l n) (by rw [hpl]; exact hown7)
          have hap8 := (Hrow.out.kept hbw7).append hby7 (fun b hb => hb.2.2) (by rw [HSn.out]; omega) (by omega)
          rw [HSn.out] at hap8
          obtain ⟨a8, c8, w8, hr8, hrows8, hg8⟩ := hap8
          have hz8 := hg8.size
          simp only [World.size_alloc] at hz8
          have hb8 : Below w.heap.size w w8 := (Below.alloc (hbo.trans (hbw7.mono hzo)) (by omega) _).grown hg8 (by simp; omega) (fun q hq => (Hrow.out.own hq).1)
          have hrel' : PieceRel w g k l (.slice a8 (n + 1) c8) (.int .i64 ((n : Int) + 1)) w8 := ⟨n + 1, a8, c8, _, S ++ [pieceB g k l n], by rw [Hlen.out, HT.out]; omega, by simp, rfl, by rw [HS.out, List.range_succ, List.map_append]; rfl, by simp [HSn.out], hrows8, fun b hb => by
            rcases hb with hb | hb
            · have := hR b hb; omega
            · have h1 := hb.1; have h2 := hb.2.1; omega, hb8⟩
          have Hrel := Lib.hid hrel'
          clear Hs hown7 hb7 hz hz7 hzo hbw7 hpl hby7 hrows8 hg8 hz8 hb8 hrel'
          go_wp2_with fail
          go_roundw
          case rel => exact Hrel.out
          case measure => simp [intOf]; omega
    · have hnI : ¬ (n : Int) < (T : Int) := by omega
      have hnT2 : n = T := by omega
      have Hrow := Lib.hid hrow; have HS := Lib.hid hS
      clear hrow hS hSn
      go_wp2_with fail
      go_ret
      refine ⟨_, R, rfl, ?_, hR, hbo⟩
      have := Hrow.out
      rw [HS.out, hnT2] at this
      exact this
end Go.Proofs.YtmimplmeccoahaaDoor
/- The reference journal: write. -/
namespace Go.Proofs.YtmimplmeccoahaaDoor
open Go.RowKit
set_option linter.unusedVariables false
set_option maxRecDepth 20000
attribute [local go_sem] opC upC
attribute [local go_sem ↓] seal_append

def WriteRel (w w2 : World) (K : RK) (M : MD) (T rb g0 : Nat) (rv : Value) (ws : List (Nat × List UInt8)) (i : Value) (wr : World) : Prop :=
  ∃ (n : Nat) (K' : RK) (M' : MD), n ≤ T ∧ i = .int .i64 (n : Int) ∧ K'.d = K.d ∧ (∀ b, K'.all b → K.all b ∨ w2.heap.size ≤ b) ∧ RefAt wr K' M' ∧ writeAll M (ws.take n) = (M', 0) ∧ RJBlk wr rb K.d g0 rv false ∧
    (∀ b, b < w2.heap.size → ¬ K.all b → wr.heap[b]? = w2.heap[b]?) ∧ Only K.all w wr ∧ w2.heap.size ≤ wr.heap.size ∧ M'.S.length = M.S.length ∧ M'.writes ≤ M.writes + n

set_option maxRecDepth 100000 in
set_option maxHeartbeats 4000000 in
theorem rwrite_any (w : World) (rb g0 : Nat) (rv : Value) (K : RK) (M : MD) (hd : RefAt w K M) (hj : RJBlk w rb K.d g0 rv false) (hjK : ¬ K.all rb) (g k p : Nat) (v : Value) (l : List UInt8) (F : Blks) (hv : Bytes F w v l)
    (hg : g ≤ 4294967295) (hk : k ≤ 65536) (hl : l.length ≤ 65536) (h2 : 2 ≤ M.S.length) (hp : p + takes l.length ≤ halfN M.S.length) (hw : M.writes + takes l.length < 4611686018427387904) :
    Calls Tryd.prog 84 #[.pointer (some ⟨rb, 0, none⟩), .int .i64 (g : Int), .int .i64 (k : Int), .int .i64 (p : Int), v] w fun e w' =>
      e = .returned (.int .i64 (writeAll M (pieceWrites M.S.length g k p l)).2) ∧ (∃ K', K'.d = K.d ∧ (∀ b, K'.all b → K.all b ∨ w.heap.size ≤ b) ∧ RefAt w' K' (writeAll M (pieceWrites M.S.length g k p l)).1) ∧
      RJBlk w' rb K.d g0 rv (!decide ((writeAll M (pieceWrites M.S.length g k p l)).2 = 0)) ∧ Only (fun b => K.all b ∨ b = rb) w w' := by
  obtain ⟨ws, hws⟩ : ∃ ws, ws = pieceWrites M.S.length g k p l := ⟨_, rfl⟩
  have hwl : ws.length = takes l.length := by rw [hws, ws_length]
  have Hwst : Hid (∀ n, n < takes l.length → ws.take (n + 1) = ws.take n ++ [(placeN M.S.length g (p + n), pieceB g k l n)]) := Lib.hid fun n hn => by rw [hws]; exact ws_take _ _ _ _ _ _ hn
  rw [← hws]
  have Hpc := Lib.hid (rpieces_any w g k v l F hv hg (by omega) hl)
  have hle := hd.len
  have htk : takes l.length ≤ 1366 := by unfold takes; omega
  have hhalf : halfN M.S.length ≤ 32768 := by unfold halfN; omega
  obtain ⟨N, hN⟩ : ∃ N, M.S.length = N := ⟨_, rfl⟩
  obtain ⟨T, hT⟩ : ∃ T, takes l.length = T := ⟨_, rfl⟩
  have hKlt := hd.lt
  have hrb := Blk.lt hj
  obtain ⟨la, lcap, rfl, -⟩ := id hv
  rw [hN] at hle hp hhalf h2
  rw [hT] at htk hwl Hpc hp hw Hwst
  have Hj := Lib.hid hj; have Hd := Lib.hid hd; have HN := Lib.hid hN; have Hwl := Lib.hid hwl
  rw [hN] at Hwst
  clear hws hv hj hd hN hT hwl
  go_enter Tryd.func84, Tryd.ntmps84
  go_wp2_with fail
  refine Hpc.out.mono ?_
  rintro e w2 ⟨r, R, rfl, hrow, hR, hb2⟩
  obtain ⟨S, hS⟩ : ∃ S, S = (List.range T).map (pieceB g k l) := ⟨_, rfl⟩
  rw [← hS] at hrow
  obtain ⟨ra, rc, rfl, -, -⟩ := hrow.shape
  have hSl : S.length = T := by rw [hS]; simp
  rw [hSl] at hrow ⊢
  have h0 : WriteRel w w2 K M T rb g0 rv ws (.int .i64 0) w2 := ⟨0, K, M, by omega, rfl, rfl, fun b hb => .inl hb, Hd.out.kept hb2, rfl, Blk.keep Hj.out (hb2.block _ hrb), fun b _ _ => rfl, Only.of_below hb2, Nat.le_refl _, rfl, by omega⟩
  have H0 := Lib.hid h0; have Hrow := Lib.hid hrow; have HS := Lib.hid hS; have HSl := Lib.hid hSl; have Hb2 := Lib.hid hb2
  clear h0 hrow hS hSl Hpc hb2
  go_wp2_with fail
  go_loopw [12] (fun i wr => WriteRel w w2 K M T rb g0 rv ws i wr) (fun i _ => T - (intOf i).toNat)
  case atStart => exact H0.out
  case round =>
    obtain ⟨n, K', M', hnT, rfl, hKd, hKf, hdW, hwa, hjW, hold, honly, hszW, hlen, hwr⟩ := hrel
    by_cases hn : n < T
    · have hnI : (n : Int) < (T : Int) := by omega
      have hz2 := Hb2.out.size
      obtain ⟨cap', hcap', c0, -⟩ := hdW.row
      rw [hKd, hlen, HN.out] at c0
      have c0' : wr.drew.cell? ⟨K.d, 0, none⟩ = some (.slice (some ⟨K'.bs, 0, none⟩) N cap') := c0
      have hrbF : ¬ K'.foot rb := fun h => by rcases hKf _ (RefAt.foot_all h) with h | h; exact hjK h; omega
      have q1 : ∀ w', LaterF K'.foot wr.drew w' → w'.cell? ⟨rb, 0, none⟩ = some (.pointer (some ⟨K.d, 0, none⟩)) := fun w' hh => by simpa using (Blk.keep (w' := w') hjW (hh.block _ (Blk.lt hjW) hrbF)).cell 0
      have hrowk : RowsIn R wr w.heap.size (.slice ra T rc) S := Hrow.out.keep fun b hb hlt => by
        have hb' : w.heap.size ≤ b ∧ b < w2.heap.size := by
          rcases hb with hb | hb
          · have := Hrow.out.own hb; omega
          · exact hR b hb
        exact hold b hb'.2 fun h => by have := hKlt b h; omega
      obtain ⟨vals, hown, hvals, -⟩ := hrowk
      obtain ⟨x, hx, hxb⟩ := hvals n (by rw [HSl.out]; exact hn)
      have hSn : S[n]'(by rw [HSl.out]; exact hn) = pieceB g k l n := by simp [HS.out]
      rw [hSn] at hxb
      have hl64 := pieceB_length g k l n
      rw [HSl.out] at hown
      rcases hown.2 with ⟨-, h⟩ | ⟨gq, cap, cur, heq, hlo, hcur, hnc, -⟩
      · omega
      injection heq with e1 e2 e3
      subst e1 e3
      have hcell := hown.cells (g := gq) rfl n x (by simpa using hx)
      have hgq : gq < w2.heap.size := by have := Hrow.out.own (g := gq) rfl; omega
      have hgF : ¬ K'.foot gq := fun h => by
        rcases hKf _ (RefAt.foot_all h) with h | h
        · have := hKlt _ h; omega
        · omega
      obtain ⟨xa, xc, rfl, -⟩ := id hxb
      rw [hl64] at hxb hcell
      rw [Addr.add_lit, Nat.zero_add] at hcell
      have q2 : ∀ w', LaterF K'.foot wr.drew w' → w'.cell? ⟨gq, n, none⟩ = some (.slice xa 64 xc) := fun w' hh => by
        have e : w'.heap[gq]? = wr.heap[gq]? := hh.block gq (lt_of_block hcur) hgF
        rw [← hcell]
        unfold World.cell?
        rw [show (⟨gq, n, none⟩ : Addr).block = gq from rfl, e]
      have hpI : ((p + n : Nat) : Int) = (p : Int) + (n : Int) := by omega
      have hplace := rplace_any wr.drew N h2 hle g (p + n) hg (by omega)
      have hat : placeN N g (p + n) < M'.S.length := by
        rw [hlen, HN.out]
        unfold placeN halfN at *
        rcases (show g % 2 = 0 ∨ g % 2 = 1 by omega) with h | h <;> rw [h] <;> omega
      have hwrc := rwr_any wr.drew K' M' (hdW.kept (Below.refl _ _).drew) (placeN N g (p + n)) hat (by omega) R _ (pieceB g k l n) (hxb.keep fun b _ _ => rfl) hl64 (fun b hb e => by
        have h1 := hR b hb
        have h2 := hKlt K.d (.inl rfl)
        rw [e, hKd] at h1
        omega)
      rw [hKd] at hwrc
      have hsn := writeAll_snoc M (ws.take n) (placeN N g (p + n)) (pieceB g k l n) (by rw [hwa])
      have hst := Hwst.out n hn
      rw [← hst, hwa] at hsn
      have hwlen := wr_len M' (placeN N g (p + n)) (pieceB g k l n)
      generalize placeN N g (p + n) = at_ at *
      rw [hpI] at hplace
      have hw8 := IntWalk.i64_in ((p : Int) + (n : Int)) (by omega)
      generalize M'.wr at_ (pieceB g k l n) = mq at *
      obtain ⟨M2, rr⟩ := mq
      dsimp only at hwrc hwlen
      have Hplace := Lib.hid hplace; have Hwrc := Lib.hid hwrc; have Hsn := Lib.hid hsn; have HjW := Lib.hid hjW; have Hwlen := Lib.hid hwlen; have Hlen := Lib.hid hlen
      clear hplace hwrc hsn hst hwa hpI hjW hxb hcell hcur hvals hown hx hSn hl64 c0 hwlen hat H0 hlen
      go_wp2_with fail
      refine wp_region_can (LaterF K'.foot) [(0, true), (1, true), (2, true), (3, true), (4, true), (5, true), (6, true), (7, true), (8, true), (9, true), (12, true), (13, true), (14, true), (15, true), (17, true), (18, true), (19, true), (20, true), (10, false), (11, true), (16, false), (21, false), (22, true)] (by kernel_rfl) (by kernel_rfl) (laterF_refl _) (laterF_trans _) ?_
      repeat (first
        | (refine can_yes (v := ?_) rfl (wanted_none rfl) (fun w' hC => ?_) (fun K hK => ?_); rotate_left; (focus (go_simp; first | done | exact rfl)); go_simp; refine hK _ ?_; clear hK K)
        | (refine can_guard rfl (fun A B hA hB => ?_); go_simp; first | (refine hA ⟨?_, fun w' hC => ?_, fun K hK => ?_⟩; rotate_left; (focus (go_simp; first | done | exact rfl)); go_simp; refine hK _ ?_; clear hK K hA hB A B) | (refine hB (fun K hK => ?_); go_simp; refine hK _ ?_; clear hK K hA hB A B))
        | (refine can_guard_go rfl (fun A B hA hB => ?_); go_simp; refine hB (fun K hK => ?_); go_simp; refine hK _ ?_; clear hK K hA hB A B))
      refine can_go rfl rfl (fun KK hK => ?_)
      go_simp
      refine ⟨laterF_refl _ _, hK _ _ ?_⟩
      clear hK KK
      go_simp
      repeat (first
        | (refine can_yes (v := ?_) rfl (wanted_none rfl) (fun w' hC => ?_) (fun K hK => ?_); rotate_left; (focus (go_simp; first | done | exact rfl)); go_simp; refine hK _ ?_; clear hK K)
        | (refine can_guard rfl (fun A B hA hB => ?_); go_simp; first | (refine hA ⟨?_, fun w' hC => ?_, fun K hK => ?_⟩; rotate_left; (focus (go_simp; first | done | exact rfl)); go_simp; refine hK _ ?_; clear hK K hA hB A B) | (refine hB (fun K hK => ?_); go_simp; refine hK _ ?_; clear hK K hA hB A B))
        | (refine can_guard_go rfl (fun A B hA hB => ?_); go_simp; refine hB (fun K hK => ?_); go_simp; refine hK _ ?_; clear hK K hA hB A B))
      refine can_go rfl rfl (fun KK hK => ?_)
      go_simp
      refine Hplace.out.mono ?_
      rintro e w' ⟨rfl, rfl⟩
      refine ⟨_, rfl, laterF_refl _ _, hK _ _ ?_⟩
      clear hK KK
      go_simp
      refine can_go rfl rfl (fun KK hK => ?_)
      go_simp
      refine Hwrc.out.mono ?_
      rintro e w3 ⟨rfl, ⟨K2, hK2, hKf2, hd2⟩, ho2⟩
      refine ⟨_, rfl, ho2, hK _ _ ?_⟩
      clear hK KK q1 q2
      go_simp
      repeat (first
        | (refine can_yes (v := ?_) rfl (wanted_none rfl) (fun w' hC => ?_) (fun K hK => ?_); rotate_left; (focus (go_simp; first | done | exact rfl)); go_simp; refine hK _ ?_; clear hK K)
        | (refine can_guard rfl (fun A B hA hB => ?_); go_simp; first | (refine hA ⟨?_, fun w' hC => ?_, fun K hK => ?_⟩; rotate_left; (focus (go_simp; first | done | exact rfl)); go_simp; refine hK _ ?_; clear hK K hA hB A B) | (refine hB (fun K hK => ?_); go_simp; refine hK _ ?_; clear hK K hA hB A B))
        | (refine can_guard_go rfl (fun A B hA hB => ?_); go_simp; refine hB (fun K hK => ?_); go_simp; refine hK _ ?_; clear hK K hA hB A B))
      refine can_nil ?_
      have ho2' : Only K'.foot wr w3 := ⟨ho2.os, ho2.tape, ho2.output, ho2.size, ho2.block⟩
      have hsz3 : wr.heap.size ≤ w3.heap.size := ho2'.size
      have hKf2' : ∀ b, K2.all b → K.all b ∨ w2.heap.size ≤ b := fun b hb => by
        rcases hKf2 b hb with h | h
        · exact hKf b h
        · exact .inr (by have h : wr.heap.size ≤ b := h; omega)
      have hon3 : Only K.all w w3 := honly.trans ho2' fun i hi => (hKf i (RefAt.foot_all hi)).imp id (fun h => by omega)
      have hold3 : ∀ b, b < w2.heap.size → ¬ K.all b → w3.heap[b]? = w2.heap[b]? := fun b h1 h2 => by
        rw [ho2'.block b (by omega) (fun h => by rcases hKf b (RefAt.foot_all h) with h | h; exact h2 h; omega), hold b h1 h2]
      have hj3 : RJBlk w3 rb K.d g0 rv false := Blk.keep HjW.out (ho2'.block rb (Blk.lt HjW.out) hrbF)
      by_cases hr : rr = 0
      · subst hr
        have hrel' : WriteRel w w2 K M T rb g0 rv ws (.int .i64 ((n : Int) + 1)) w3 := ⟨n + 1, K2, M2, by omega, by simp, hK2, hKf2', hd2, Hsn.out, hj3, hold3, hon3, by omega, by have := Hwlen.out; have := Hlen.out; omega, by have := Hwlen.out; omega⟩
        have Hrel := Lib.hid hrel'
        clear hrel' hd2 hKf2' hon3 hold3 hj3 ho2 ho2' hold honly hdW
        go_wp2_with fail
        go_roundw
        case rel => exact Hrel.out
        case measure => simp [intOf]; omega
      · have hrb : (rr != 0) = true := bne_iff_ne.2 hr
        have hfail := writeAll_fail M M2 rr ws (n + 1) Hsn.out hr
        have f3 := Blk.free hj3 3
        have c3 : w3.cell? ⟨rb, 3, none⟩ = some (.bool false) := by simpa using Blk.cell hj3 3
        have hj4 : RJBlk (w3.setCell ⟨rb, 3, none⟩ (.bool true)) rb K.d g0 rv true := Blk.set hj3 3 (.bool true)
        have hd4 : RefAt (w3.setCell ⟨rb, 3, none⟩ (.bool true)) K2 M2 := hd2.keep (fun b hb => Below.heap_setCell _ ⟨rb, 3, none⟩ _ b (fun e => by
          have e : b = rb := e
          rw [e] at hb
          rcases hKf2' rb hb with h | h
          · exact hjK h
          · omega)) (by simp [World.setCell])
        have hon4 : Only (fun b => K.all b ∨ b = rb) w (w3.setCell ⟨rb, 3, none⟩ (.bool true)) := (hon3.mono fun b hb => .inl hb).setCell (p := ⟨rb, 3, none⟩) (.inl (.inr rfl)) _
        have Hfail := Lib.hid hfail; have Hj4 := Lib.hid hj4; have Hd4 := Lib.hid hd4; have Hon4 := Lib.hid hon4
        clear hfail hj4 hd4 hon4 hd2 hon3 hold3 hj3 ho2 ho2' hold honly hdW
        go_wp2_with fail
        go_ret
        rw [Hfail.out]
        refine ⟨rfl, ⟨K2, hK2, fun b hb => (hKf2' b hb).imp id (fun h => by omega), Hd4.out⟩, ?_, Hon4.out⟩
        have e1 : (!decide (rr = 0)) = true := by simp [hr]
        dsimp only
        rw [e1]
        exact Hj4.out
    · have hnI : ¬ (n : Int) < (T : Int) := by omega
      have hnT2 : n = T := by omega
      subst hnT2
      rw [List.take_of_length_le (by rw [Hwl.out]; omega)] at hwa
      have Hwa := Lib.hid hwa; have HdW := Lib.hid hdW; have HjW := Lib.hid hjW; have Hon := Lib.hid honly
      clear hwa hdW hjW honly hold
      go_wp2_with fail
      go_ret
      rw [Hwa.out]
      have hz2 := Hb2.out.size
      exact ⟨rfl, ⟨K', hKd, fun b hb => (hKf b hb).imp id (fun h => by omega), HdW.out⟩, HjW.out, Hon.out.mono fun b hb => .inl hb⟩
end Go.Proofs.YtmimplmeccoahaaDoor
/- The reference journal: Append. -/
namespace Go.Proofs.YtmimplmeccoahaaDoor
open Go.RowKit
set_option linter.unusedVariables false
set_option maxRecDepth 20000
attribute [local go_sem] opC upC
attribute [local go_sem ↓] seal_append

/-- blocks of F may change, the first cells of block rb stay -/
def LaterR (F : Blks) (rb : Nat) (w w' : World) : Prop := LaterF F w w' ∧ ∀ i, i < 3 → w'.cell? ⟨rb, i, none⟩ = w.cell? ⟨rb, i, none⟩
theorem laterR_refl (F : Blks) (rb : Nat) (w : World) : LaterR F rb w w := ⟨laterF_refl _ _, fun _ _ => rfl⟩
theorem laterR_trans (F : Blks) (rb : Nat) (a b c : World) (h : LaterR F rb a b) (k : LaterR F rb b c) : LaterR F rb a c := ⟨laterF_trans _ _ _ _ h.1 k.1, fun i hi => (k.2 i hi).trans (h.2 i hi)⟩

/-- what a journal becomes when its record's pieces are written -/
theorem RJAt.wrote {w w' : World} {rb g : Nat} {K K' : RK} {O : Blks} {L : List (List UInt8)} {M M' : MD} (h : RJAt w ⟨rb, K, O⟩ M ⟨g, L, false⟩) (hd : RefAt w' K' M') (hK : K'.d = K.d) (hKf : ∀ b, K'.all b → K.all b ∨ w.heap.size ≤ b) (dead : Bool)
    (hj : ∀ rv, RJBlk w rb K.d g rv false → RJBlk w' rb K.d g rv dead) (ho : Only (fun b => K.all b ∨ b = rb) w w') (hn : M'.S.length = M.S.length) : RJAt w' ⟨rb, K', O⟩ M' ⟨g, L, dead⟩ := by
  have hlt := h.lt
  obtain ⟨h1, ⟨ra, rc, R, h2, h3, h4⟩, h5, h6, h7, h8, h9⟩ := h
  dsimp only at *
  have hO : ∀ b, O b → w'.heap[b]? = w.heap[b]? := fun b hb => ho.block b (h5.2 b hb).2.2 (fun hx => by rcases hx with hx | hx; exact (h5.2 b hb).2.1 hx; exact (h5.2 b hb).1 hx)
  refine ⟨hd, ⟨ra, rc, R, ?_, h3.keep fun b hb _ => hO b (h4 b hb), h4⟩, ⟨fun hx => ?_, fun b hb => ⟨(h5.2 b hb).1, fun hx => ?_, Nat.lt_of_lt_of_le (h5.2 b hb).2.2 ho.size⟩⟩, by rw [hn]; exact h6, by rw [hn]; exact h7, h8, h9⟩
  · dsimp only
    rw [hK]
    exact hj _ h2
  · have := hlt rb (.inl rfl)
    rcases hKf _ hx with h | h
    · exact h5.1 h
    · exact absurd h (by show ¬ w.heap.size ≤ rb; omega)
  · have := (h5.2 b hb).2.2
    rcases hKf _ hx with h | h
    · exact (h5.2 b hb).2.1 h
    · omega

def RAppPost (w : World) (jk : RJK) (M : MD) (a : MD × MJ × Int) (e : Ending) (w' : World) : Prop :=
  e = .returned (.int .i64 a.2.2) ∧ ∃ jk' : RJK, jk'.j = jk.j ∧ jk'.K.d = jk.K.d ∧ RJAt w' jk' a.1 a.2.1 ∧ (∀ b, jk'.all b → jk.all b ∨ w.heap.size ≤ b) ∧ Only jk.all w w'


set_option maxRecDepth 100000 in
set_option maxHeartbeats 4000000 in
theorem rappend_any (w : World) (jk : RJK) (M : MD) (J : MJ) (h : RJAt w jk M J) (F : Blks) (v : Value) (l : List UInt8) (hv : Bytes F w v l) (hF : ∀ b, F b → b < w.heap.size ∧ ¬ jk.all b) (hl : l.length ≤ 65536) (hw : M.writes + 65536 < 4611686018427387904) :
    Calls Tryd.prog 70 #[.pointer (some ⟨jk.j, 0, none⟩), v] w (RAppPost w jk M (appendM M J l)) := by
  obtain ⟨rb, K, O⟩ := jk
  obtain ⟨g, L, dead⟩ := J
  have hja := h
  obtain ⟨hd, ⟨ra, rc, R, hj, hr, hown⟩, ⟨hap, hO⟩, h8, hroom, hgen, hlens⟩ := h
  dsimp only at *
  obtain ⟨va, vc, rfl, -⟩ := id hv
  have hle := hd.len
  have hLT := length_le_taken L
  have hhalf : halfN M.S.length ≤ 32768 := by unfold halfN; omega
  have htk : takes l.length ≤ 1366 := by unfold takes; omega
  have hlI : ¬ (65536 : Int) < (l.length : Int) := by omega
  have c3 : w.cell? ⟨rb, 3, none⟩ = some (.bool dead) := by simpa using Blk.cell hj 3
  have Hja := Lib.hid hja
  cases dead with
  | true =>
    have hM : appendM M ⟨g, L, true⟩ l = (M, ⟨g, L, true⟩, 341) := by unfold appendM; rfl
    rw [hM]
    clear hja hd hj hr hM
    go_enter Tryd.func70, Tryd.ntmps70
    go_wp2_with fail
    go_ret
    exact ⟨rfl, ⟨rb, K, O⟩, rfl, rfl, Hja.out, fun b hb => .inl hb, Only.refl _ _⟩
  | false =>
    obtain ⟨cap, hcap, c0, -⟩ := hd.row
    have hrb := Blk.lt hj
    have a0 : ∀ w', Later w.drew w' → w'.cell? ⟨rb, 0, none⟩ = some (.pointer (some ⟨K.d, 0, none⟩)) := fun w' hh => later_cell (by simpa using Blk.cell hj 0) hh
    have b0 : ∀ w', Later w.drew w' → w'.cell? ⟨K.d, 0, none⟩ = some (.slice (some ⟨K.bs, 0, none⟩) M.S.length cap) := fun w' hh => later_cell c0 hh
    have Ht := Lib.hid (rtaken_any w.drew rb K.d g _ false (show RJBlk w.drew rb K.d g _ false from hj) R L (hr.kept (Below.refl _ _).drew) (by omega) (by omega) hlens)
    have Htk := Lib.hid (rtakes_any w.drew l.length (by omega))
    have Hh := Lib.hid (rhalf_any w.drew M.S.length (by omega) hle)
    have hw8 := IntWalk.i64_in ((takenL L : Int) + (takes l.length : Int)) (by omega)
    have Hd := Lib.hid hd; have Hj := Lib.hid hj; have Hr := Lib.hid hr
    have hM0 : appendM M ⟨g, L, false⟩ l = if halfN M.S.length - takenL L < takes l.length then (M, ⟨g, L, false⟩, 7) else
        if (writeAll M (pieceWrites M.S.length g L.length (takenL L) l)).2 = 0 then ((writeAll M (pieceWrites M.S.length g L.length (takenL L) l)).1, ⟨g, L ++ [l], false⟩, 0) else ((writeAll M (pieceWrites M.S.length g L.length (takenL L) l)).1, ⟨g, L, true⟩, (writeAll M (pieceWrites M.S.length g L.length (takenL L) l)).2) := by
      unfold appendM
      simp only [Bool.false_eq_true, if_false]
      rw [if_neg (by omega)]
    have htp := takes_pos l.length
    clear hja hd hj hr c0
    by_cases hfull : halfN M.S.length - takenL L < takes l.length
    · rw [if_pos hfull] at hM0
      rw [hM0]
      have hI : (halfN M.S.length : Int) < (takenL L : Int) + (takes l.length : Int) := by omega
      clear hM0
      go_enter Tryd.func70, Tryd.ntmps70
      go_wp2_with fail
      refine wp_region_can Later [(0, true), (2, true), (3, true), (6, true), (7, true), (8, true), (9, true), (10, true), (11, true), (12, true), (13, true), (1, false), (4, false), (5, true), (14, false), (15, true)] (by kernel_rfl) (by kernel_rfl) later_refl later_trans ?_
      repeat (first
        | (refine can_yes (v := ?_) rfl (wanted_none rfl) (fun w' hC => ?_) (fun K hK => ?_); rotate_left; (focus (go_simp; first | done | exact rfl)); go_simp; refine hK _ ?_; clear hK K)
        | (refine can_guard rfl (fun A B hA hB => ?_); go_simp; first | (refine hA ⟨?_, fun w' hC => ?_, fun K hK => ?_⟩; rotate_left; (focus (go_simp; first | done | exact rfl)); go_simp; refine hK _ ?_; clear hK K hA hB A B) | (refine hB (fun K hK => ?_); go_simp; refine hK _ ?_; clear hK K hA hB A B))
        | (refine can_guard_go rfl (fun A B hA hB => ?_); go_simp; refine hB (fun K hK => ?_); go_simp; refine hK _ ?_; clear hK K hA hB A B))
      refine can_go rfl rfl (fun KK hK => ?_)
      go_simp
      refine Ht.out.mono ?_
      rintro e w' ⟨rfl, rfl⟩
      refine ⟨_, rfl, later_refl _, hK _ _ ?_⟩
      clear hK KK
      go_simp
      refine can_go rfl rfl (fun KK hK => ?_)
      go_simp
      refine Htk.out.mono ?_
      rintro e w' ⟨rfl, rfl⟩
      refine ⟨_, rfl, later_refl _, hK _ _ ?_⟩
      clear hK KK
      go_simp
      repeat (first
        | (refine can_yes (v := ?_) rfl (wanted_none rfl) (fun w' hC => ?_) (fun K hK => ?_); rotate_left; (focus (go_simp; first | done | exact rfl)); go_simp; refine hK _ ?_; clear hK K)
        | (refine can_guard rfl (fun A B hA hB => ?_); go_simp; first | (refine hA ⟨?_, fun w' hC => ?_, fun K hK => ?_⟩; rotate_left; (focus (go_simp; first | done | exact rfl)); go_simp; refine hK _ ?_; clear hK K hA hB A B) | (refine hB (fun K hK => ?_); go_simp; refine hK _ ?_; clear hK K hA hB A B))
        | (refine can_guard_go rfl (fun A B hA hB => ?_); go_simp; refine hB (fun K hK => ?_); go_simp; refine hK _ ?_; clear hK K hA hB A B))
      refine can_go rfl rfl (fun KK hK => ?_)
      go_simp
      refine Hh.out.mono ?_
      rintro e w' ⟨rfl, rfl⟩
      refine ⟨_, rfl, later_refl _, hK _ _ ?_⟩
      clear hK KK
      go_simp
      repeat (first
        | (refine can_yes (v := ?_) rfl (wanted_none rfl) (fun w' hC => ?_) (fun K hK => ?_); rotate_left; (focus (go_simp; first | done | exact rfl)); go_simp; refine hK _ ?_; clear hK K)
        | (refine can_guard rfl (fun A B hA hB => ?_); go_simp; first | (refine hA ⟨?_, fun w' hC => ?_, fun K hK => ?_⟩; rotate_left; (focus (go_simp; first | done | exact rfl)); go_simp; refine hK _ ?_; clear hK K hA hB A B) | (refine hB (fun K hK => ?_); go_simp; refine hK _ ?_; clear hK K hA hB A B))
        | (refine can_guard_go rfl (fun A B hA hB => ?_); go_simp; refine hB (fun K hK => ?_); go_simp; refine hK _ ?_; clear hK K hA hB A B))
      refine can_nil ?_
      go_wp2_with fail
      go_ret
      exact ⟨rfl, ⟨rb, K, O⟩, rfl, rfl, Hja.out.kept (Below.refl _ _).drew, fun b hb => .inl hb, Only.of_below (Below.refl _ _).drew⟩
    · rw [if_neg hfull] at hM0
      have hI : ¬ (halfN M.S.length : Int) < (takenL L : Int) + (takes l.length : Int) := by omega
      have hwl := writeAll_len (pieceWrites M.S.length g L.length (takenL L) l) M
      have hwt := rwrite_any w.drew.drew rb g _ K M (Hd.out.kept (Below.refl _ _).drew.drew) (show RJBlk w.drew.drew rb K.d g _ false from Hj.out) hap g L.length (takenL L) (.slice va l.length vc) l F (hv.keep (w' := w.drew.drew) fun b _ _ => rfl) (by omega) (by omega) hl (by omega) (by omega) (by omega)
      generalize writeAll M (pieceWrites M.S.length g L.length (takenL L) l) = mw at *
      obtain ⟨M', r⟩ := mw
      dsimp only at hM0 hwl hwt
      have HM0 := Lib.hid hM0; have Hwt := Lib.hid hwt; have Hwl := Lib.hid hwl; have Hv := Lib.hid hv
      have Ht2 := Lib.hid (rtaken_any w.drew.drew rb K.d g _ false (show RJBlk w.drew.drew rb K.d g _ false from Hj.out) R L (Hr.out.kept (Below.refl _ _).drew.drew) (by omega) (by omega) hlens)
      have d0 : ∀ w', LaterR (fun b => K.all b ∨ b = rb) rb w.drew.drew w' → w'.cell? ⟨rb, 1, none⟩ = some (.int .i64 (g : Int)) := fun w' hh => by
        rw [hh.2 1 (by omega)]; simpa using Blk.cell Hj.out 1
      have d2 : ∀ w', LaterR (fun b => K.all b ∨ b = rb) rb w.drew.drew w' → w'.cell? ⟨rb, 2, none⟩ = some (.slice ra L.length rc) := fun w' hh => by
        rw [hh.2 2 (by omega)]; simpa using Blk.cell Hj.out 2
      clear hM0 hwt hwl hv
      go_enter Tryd.func70, Tryd.ntmps70
      go_wp2_with fail
      refine wp_region_can Later [(0, true), (2, true), (3, true), (6, true), (7, true), (8, true), (9, true), (10, true), (11, true), (12, true), (13, true), (1, false), (4, false), (5, true), (14, false), (15, true)] (by kernel_rfl) (by kernel_rfl) later_refl later_trans ?_
      repeat (first
        | (refine can_yes (v := ?_) rfl (wanted_none rfl) (fun w' hC => ?_) (fun K hK => ?_); rotate_left; (focus (go_simp; first | done | exact rfl)); go_simp; refine hK _ ?_; clear hK K)
        | (refine can_guard rfl (fun A B hA hB => ?_); go_simp; first | (refine hA ⟨?_, fun w' hC => ?_, fun K hK => ?_⟩; rotate_left; (focus (go_simp; first | done | exact rfl)); go_simp; refine hK _ ?_; clear hK K hA hB A B) | (refine hB (fun K hK => ?_); go_simp; refine hK _ ?_; clear hK K hA hB A B))
        | (refine can_guard_go rfl (fun A B hA hB => ?_); go_simp; refine hB (fun K hK => ?_); go_simp; refine hK _ ?_; clear hK K hA hB A B))
      refine can_go rfl rfl (fun KK hK => ?_)
      go_simp
      refine Ht.out.mono ?_
      rintro e w' ⟨rfl, rfl⟩
      refine ⟨_, rfl, later_refl _, hK _ _ ?_⟩
      clear hK KK
      go_simp
      refine can_go rfl rfl (fun KK hK => ?_)
      go_simp
      refine Htk.out.mono ?_
      rintro e w' ⟨rfl, rfl⟩
      refine ⟨_, rfl, later_refl _, hK _ _ ?_⟩
      clear hK KK
      go_simp
      repeat (first
        | (refine can_yes (v := ?_) rfl (wanted_none rfl) (fun w' hC => ?_) (fun K hK => ?_); rotate_left; (focus (go_simp; first | done | exact rfl)); go_simp; refine hK _ ?_; clear hK K)
        | (refine can_guard rfl (fun A B hA hB => ?_); go_simp; first | (refine hA ⟨?_, fun w' hC => ?_, fun K hK => ?_⟩; rotate_left; (focus (go_simp; first | done | exact rfl)); go_simp; refine hK _ ?_; clear hK K hA hB A B) | (refine hB (fun K hK => ?_); go_simp; refine hK _ ?_; clear hK K hA hB A B))
        | (refine can_guard_go rfl (fun A B hA hB => ?_); go_simp; refine hB (fun K hK => ?_); go_simp; refine hK _ ?_; clear hK K hA hB A B))
      refine can_go rfl rfl (fun KK hK => ?_)
      go_simp
      refine Hh.out.mono ?_
      rintro e w' ⟨rfl, rfl⟩
      refine ⟨_, rfl, later_refl _, hK _ _ ?_⟩
      clear hK KK
      go_simp
      repeat (first
        | (refine can_yes (v := ?_) rfl (wanted_none rfl) (fun w' hC => ?_) (fun K hK => ?_); rotate_left; (focus (go_simp; first | done | exact rfl)); go_simp; refine hK _ ?_; clear hK K)
        | (refine can_guard rfl (fun A B hA hB => ?_); go_simp; first | (refine hA ⟨?_, fun w' hC => ?_, fun K hK => ?_⟩; rotate_left; (focus (go_simp; first | done | exact rfl)); go_simp; refine hK _ ?_; clear hK K hA hB A B) | (refine hB (fun K hK => ?_); go_simp; refine hK _ ?_; clear hK K hA hB A B))
        | (refine can_guard_go rfl (fun A B hA hB => ?_); go_simp; refine hB (fun K hK => ?_); go_simp; refine hK _ ?_; clear hK K hA hB A B))
      refine can_nil ?_
      clear a0 b0 Ht Htk Hh
      go_wp2_with fail
      refine wp_region_can (LaterR (fun b => K.all b ∨ b = rb) rb) [(0, true), (1, true), (2, true), (3, true), (4, true), (5, true), (6, true), (7, true), (8, true), (9, true), (10, true), (12, true), (11, false), (13, false), (14, true)] (by kernel_rfl) (by kernel_rfl) (laterR_refl _ _) (laterR_trans _ _) ?_
      repeat (first
        | (refine can_yes (v := ?_) rfl (wanted_none rfl) (fun w' hC => ?_) (fun K hK => ?_); rotate_left; (focus (go_simp; first | done | exact rfl)); go_simp; refine hK _ ?_; clear hK K)
        | (refine can_guard rfl (fun A B hA hB => ?_); go_simp; first | (refine hA ⟨?_, fun w' hC => ?_, fun K hK => ?_⟩; rotate_left; (focus (go_simp; first | done | exact rfl)); go_simp; refine hK _ ?_; clear hK K hA hB A B) | (refine hB (fun K hK => ?_); go_simp; refine hK _ ?_; clear hK K hA hB A B))
        | (refine can_guard_go rfl (fun A B hA hB => ?_); go_simp; refine hB (fun K hK => ?_); go_simp; refine hK _ ?_; clear hK K hA hB A B))
      refine can_go rfl rfl (fun KK hK => ?_)
      go_simp
      refine Ht2.out.mono ?_
      rintro e w' ⟨rfl, rfl⟩
      refine ⟨_, rfl, laterR_refl _ _ _, hK _ _ ?_⟩
      clear hK KK
      go_simp
      refine can_go rfl rfl (fun KK hK => ?_)
      go_simp
      refine Hwt.out.mono ?_
      rintro e w2 ⟨rfl, ⟨K2, hK2, hKf2, hd2⟩, hj2, ho2⟩
      have hcells : ∀ i, i < 3 → w2.cell? ⟨rb, i, none⟩ = w.drew.drew.cell? ⟨rb, i, none⟩ := fun i hi => by
        have e1 := Blk.cell hj2 i
        have e2 : w.drew.drew.cell? ⟨rb, i, none⟩ = _ := Blk.cell Hj.out i
        rw [e1, e2]
        have : i = 0 ∨ i = 1 ∨ i = 2 := by omega
        rcases this with rfl | rfl | rfl <;> rfl
      refine ⟨_, rfl, ⟨ho2, hcells⟩, hK _ _ ?_⟩
      clear hK KK d0 d2 hcells
      go_simp
      repeat (first
        | (refine can_yes (v := ?_) rfl (wanted_none rfl) (fun w' hC => ?_) (fun K hK => ?_); rotate_left; (focus (go_simp; first | done | exact rfl)); go_simp; refine hK _ ?_; clear hK K)
        | (refine can_guard rfl (fun A B hA hB => ?_); go_simp; first | (refine hA ⟨?_, fun w' hC => ?_, fun K hK => ?_⟩; rotate_left; (focus (go_simp; first | done | exact rfl)); go_simp; refine hK _ ?_; clear hK K hA hB A B) | (refine hB (fun K hK => ?_); go_simp; refine hK _ ?_; clear hK K hA hB A B))
        | (refine can_guard_go rfl (fun A B hA hB => ?_); go_simp; refine hB (fun K hK => ?_); go_simp; refine hK _ ?_; clear hK K hA hB A B))
      refine can_nil ?_
      have ho2' : Only (fun b => K.all b ∨ b = rb) w w2 := ⟨ho2.os, ho2.tape, ho2.output, ho2.size, ho2.block⟩
      have hKf2' : ∀ b, K2.all b → K.all b ∨ w.heap.size ≤ b := hKf2
      have hjat := fun dead' (hh : RJBlk w2 rb K.d g (.slice ra L.length rc) dead') => hh
      by_cases hr0 : r = 0
      · subst hr0
        have hM := HM0.out
        simp only [if_true] at hM
        have HM := Lib.hid hM
        have hj2' : RJBlk w2 rb K.d g (.slice ra L.length rc) false := hj2
        have hroww2 : RowsIn R w2 0 (.slice ra L.length rc) L := Hr.out.keep fun b hb hlt => ho2'.block b hlt fun hx => by
          have h1 := hO b (hown b hb)
          rcases hx with hx | hx
          · exact h1.2.1 hx
          · exact h1.1 hx
        have hbv2 : Bytes F w2 (.slice va l.length vc) l := Hv.out.keep fun b hb hlt => ho2'.block b hlt fun hx => (hF b hb).2 (by
          rcases hx with hx | hx
          · exact .inr (.inl hx)
          · exact .inl hx)
        have hj2 := hj2'
        have hrow2 := hroww2
        have hz2w : w.heap.size ≤ w2.heap.size := ho2'.size
        obtain ⟨xa, xc, w3, hr3, hown3, hk3, hg3, hby3⟩ := run_clone w2.drew _ (.slice va l.length vc) l ((hbv2.keep fun b _ _ => rfl) : Bytes _ w2.drew (.slice va l.length vc) l) (by omega)
        change (AP _ _ #[.slice (some ⟨w2.heap.size, 0, none⟩) 0 0, _]).run _ (w2.alloc _).drew = _ at hr3
        clear hown3
        have hsz3 : w2.heap.size ≤ w3.heap.size := hk3.size
        have hrows3 : RowsIn R w3 0 (.slice ra L.length rc) L := (hrow2.kept (w' := w2.drew) (Below.refl _ _).drew).kept hk3
        obtain ⟨a', c', w4, hapd, hrows4, hg4⟩ := hrows3.append hby3 (fun b hb => hb.2.2) (by omega) (by omega)
        have happ := hrows3.appended rfl (by omega) hapd
        have hblk3 : Blk w3 rb _ _ := (Blk.keep (w' := w2.drew) hj2 rfl).keep (hk3.block rb (Blk.lt hj2))
        have hob : ∀ q, Value.ownBlock (.slice ra L.length rc) = some q → q ≠ rb ∧ q < w2.heap.size := fun q hq => ⟨(hO q (hown q (.inl hq))).1, (hrow2.own hq).2.1⟩
        have hblk4 : Blk w4 rb _ 98 := (hblk3.alloc _).keep (hg4.block _ (by have := hblk3.lt; simp; omega) (fun e => (hob _ e.symm).1 rfl))
        have k0 : LaterF (fun b => b ≠ rb) w2.drew (w2.alloc (.cells #[] 5)).drew := LaterF.of_below (kept_alloc w2.drew _)
        have k1 : LaterF (fun b => b ≠ rb) (w2.alloc (.cells #[] 5)).drew w3 := ⟨hg3.os, hg3.tape, hg3.output, hg3.size, fun q hq hn => hg3.block q hq (fun e => hn (fun e2 => by have := Blk.lt hj2; simp at e; have : w2.drew.heap.size = w2.heap.size := rfl; omega))⟩
        have k2 : LaterF (fun b => b ≠ rb) w3 (w3.alloc (.cells #[.slice xa l.length xc] 30)) := LaterF.of_below (kept_alloc _ _)
        have k3 : LaterF (fun b => b ≠ rb) (w3.alloc (.cells #[.slice xa l.length xc] 30)) w4 := ⟨hg4.os, hg4.tape, hg4.output, hg4.size, fun q hq hn => hg4.block q hq (fun e => hn (fun e2 => (hob _ e.symm).1 e2))⟩
        have ho4 : Only (fun b => b = rb ∨ (Value.slice ra L.length rc).ownBlock = some b) w2 w4 := by
          have h0 : Only (fun b => b = rb ∨ (Value.slice ra L.length rc).ownBlock = some b) w2.drew (w3.alloc (.cells #[.slice xa l.length xc] 30)) := ((Only.of_below (F := fun b => b = rb ∨ (Value.slice ra L.length rc).ownBlock = some b) (w := w2.drew) hk3).alloc _)
          have h1 : Only (fun b => b = rb ∨ (Value.slice ra L.length rc).ownBlock = some b) w2 (w3.alloc (.cells #[.slice xa l.length xc] 30)) := ⟨h0.os, h0.tape, h0.output, h0.size, h0.block⟩
          exact ⟨hg4.os.trans h1.os, hg4.tape.trans h1.tape, hg4.output.trans h1.output, Nat.le_trans h1.size hg4.size, fun q hq hn => (hg4.block q (Nat.lt_of_lt_of_le hq h1.size) (fun e => hn (.inr e.symm))).trans (h1.block q hq hn)⟩
        have c2 := hblk4.cell 2
        have f2 := hblk4.free 2
        simp at c2
        have hblk5 := hblk4.set 2 (.slice a' (L.length + 1) c')
        have hrows5 : RowsIn _ (w4.setCell ⟨rb, 2, none⟩ (.slice a' (L.length + 1) c')) 0 (.slice a' (L.length + 1) c') (L ++ [l]) := hrows4.keep fun b hb _ => Below.heap_setCell _ ⟨rb, 2, none⟩ _ b (by
          have hlt := Blk.lt hj2
          have hz : w2.drew.heap.size = w2.heap.size := rfl
          rcases hb with hb | hb | hb
          · rcases happ b hb with h | h
            · exact (hob b h).1
            · show b ≠ rb; omega
          · exact (hO b (hown b (.inr hb))).1
          · have := hb.1; show b ≠ rb; omega)
        have ho5 : Only (fun b => b = rb ∨ (Value.slice ra L.length rc).ownBlock = some b) w2 (w4.setCell ⟨rb, 2, none⟩ (.slice a' (L.length + 1) c')) := ho4.setCell (p := ⟨rb, 2, none⟩) (.inl (.inl rfl)) _
        have q2 : ∀ w', LaterF (fun b => b ≠ rb) w2.drew w' → w'.cell? ⟨rb, 2, none⟩ = some (.slice ra L.length rc) := fun w' hh => by
          simpa using (Blk.keep (w' := w') hj2 (hh.block rb (Blk.lt hj2) (fun h => h rfl))).cell 2
        have hzz : w3.heap.size ≤ (w4.setCell ⟨rb, 2, none⟩ (.slice a' (L.length + 1) c')).heap.size := by have := hg4.size; simp at this; simp [World.setCell]; omega
        have Hblk5 := Lib.hid hblk5; have Hrows5 := Lib.hid hrows5; have Ho5 := Lib.hid ho5; have Happ := Lib.hid happ; have Hzz := Lib.hid hzz; have Hsz3 := Lib.hid hsz3; have Hob := Lib.hid hob
        clear hblk5 hrows5 ho5 ho4 hrows4 hblk4 hrows3 hby3 hg4 hg3 hk3 hblk3 hrow2 hj2 happ hzz hsz3 hob
        have Hd2 := Lib.hid hd2; have Ho2' := Lib.hid ho2'; have HK2 := Lib.hid hK2
        clear hd2 ho2' hj2' hbv2 hjat hM hj2 hroww2 hK2
        go_wp2_with fail
        refine wp_region_canL (LaterF (fun b => b ≠ rb)) 12 [(0, true), (1, true), (2, true), (3, true), (4, true), (6, true), (5, false), (7, false), (8, false), (9, false), (10, true), (11, true), (12, false)] (by kernel_rfl) (by kernel_rfl) (by kernel_rfl) (laterF_refl _) (laterF_trans _) ?_
        repeat (first
          | (refine canL_yes (v := ?_) rfl (wanted_none rfl) (fun w' hC => ?_) (fun K hK => ?_); rotate_left; (focus (go_simp; first | done | exact rfl)); go_simp; refine hK _ ?_; clear hK K)
          | (refine canL_guard rfl (fun A B hA hB => ?_); go_simp; first | (refine hA ⟨?_, fun w' hC => ?_, fun K hK => ?_⟩; rotate_left; (focus (go_simp; first | done | exact rfl)); go_simp; refine hK _ ?_; clear hK K hA hB A B) | (refine hB (fun K hK => ?_); go_simp; refine hK _ ?_; clear hK K hA hB A B))
          | (refine canL_guard_go rfl (fun A B hA hB => ?_); go_simp; refine hB (fun K hK => ?_); go_simp; refine hK _ ?_; clear hK K hA hB A B))
        refine canL_go rfl rfl (fun KK hK => ?_)
        go_simp
        refine hK _ _ ?_
        clear hK KK
        go_simp
        refine canL_go rfl rfl (fun KK hK => ?_)
        go_simp
        refine hK _ _ ?_
        clear hK KK
        go_simp
        refine canL_go rfl rfl (fun KK hK => ?_)
        go_simp
        refine hK _ _ ?_
        clear hK KK
        go_simp
        refine canL_go rfl rfl (fun KK hK => ?_)
        go_simp
        refine hK _ _ ?_
        clear hK KK
        go_simp
        repeat (first
          | (refine canL_yes (v := ?_) rfl (wanted_none rfl) (fun w' hC => ?_) (fun K hK => ?_); rotate_left; (focus (go_simp; first | done | exact rfl)); go_simp; refine hK _ ?_; clear hK K)
          | (refine canL_guard rfl (fun A B hA hB => ?_); go_simp; first | (refine hA ⟨?_, fun w' hC => ?_, fun K hK => ?_⟩; rotate_left; (focus (go_simp; first | done | exact rfl)); go_simp; refine hK _ ?_; clear hK K hA hB A B) | (refine hB (fun K hK => ?_); go_simp; refine hK _ ?_; clear hK K hA hB A B))
          | (refine canL_guard_go rfl (fun A B hA hB => ?_); go_simp; refine hB (fun K hK => ?_); go_simp; refine hK _ ?_; clear hK K hA hB A B))
        refine canL_last rfl rfl rfl (fun KK hK => ?_)
        go_simp
        refine hK _ _ ?_
        clear hK KK
        go_simp
        refine canL_nil ?_
        go_wp2_with fail
        go_ret
        rw [HM.out]
        have hsz3 := Hsz3.out
        have hz2 : w.heap.size ≤ w2.heap.size := Ho2'.out.size
        have hz5 := Ho5.out.size
        have hdlt := Hd2.out.lt
        have hzz := Hzz.out
        have hKrb : ¬ K2.all rb := fun h => by
          rcases hKf2' _ h with h | h
          · exact hap h
          · omega
        have hKO : ∀ b, O b → ¬ K2.all b := fun b hb h => by
          rcases hKf2' _ h with h | h
          · exact (hO b hb).2.1 h
          · have := (hO b hb).2.2; omega
        refine ⟨rfl, ⟨rb, K2, fun b => (Value.slice a' (L.length + 1) c').ownBlock = some b ∨ _⟩, rfl, HK2.out, ⟨Hd2.out.only Ho5.out fun b hb hx => ?_, ⟨a', c', _, ?_, by simpa using Hrows5.out, fun b hb => by simpa using hb⟩, ⟨hKrb, fun b hb => ?_⟩, ?_, ?_, hgen, ?_⟩, fun b hb => ?_, ?_⟩
        · rcases hx with hx | hx
          · exact hKrb (hx ▸ hb)
          · exact hKO b (hown b (.inl hx)) hb
        · have := Hblk5.out
          rw [← HK2.out] at this
          simpa [RJBlk] using this
        · rcases hb with hb | hb | hb
          · have h1 := (Hrows5.out.own hb).2.1
            rcases Happ.out b hb with h | h
            · exact ⟨(hO b (hown b (.inl h))).1, hKO b (hown b (.inl h)), h1⟩
            · exact ⟨by show b ≠ rb; omega, fun hx => by have := hdlt b hx; omega, h1⟩
          · have h1 := hO b (hown b (.inr hb))
            exact ⟨h1.1, hKO b (hown b (.inr hb)), by have := h1.2.2; omega⟩
          · have h1 : w2.heap.size ≤ b := hb.1
            have h2 := hb.2.1
            exact ⟨by show b ≠ rb; omega, fun hx => by have := hdlt b hx; omega, by omega⟩
        · rw [Hwl.out.1]; exact h8
        · show takenL (L ++ [l]) ≤ halfN M'.S.length
          rw [Hwl.out.1, takenL_snoc]; omega
        · intro b hb
          rcases List.mem_append.1 hb with hb | hb
          · exact hlens b hb
          · rw [List.mem_singleton.1 hb]; exact hl
        · rcases hb with hb | hb | hb
          · exact .inl (.inl hb)
          · rcases hKf2' b hb with h | h
            · exact .inl (.inr (.inl h))
            · exact .inr h
          · rcases hb with hb | hb | hb
            · rcases Happ.out b hb with h | h
              · exact .inl (.inr (.inr (hown b (.inl h))))
              · exact .inr (by omega)
            · exact .inl (.inr (.inr (hown b (.inr hb))))
            · exact .inr (by have h1 : w2.heap.size ≤ b := hb.1; omega)
        · refine (Ho2'.out.mono fun b hb => ?_).trans Ho5.out fun b hb => ?_
          · rcases hb with hb | hb
            · exact .inr (.inl hb)
            · exact .inl hb
          · rcases hb with hb | hb
            · exact .inl (.inl hb)
            · exact .inl (.inr (.inr (hown b (.inl hb))))
      · have hrb2 : (r == 0) = false := beq_eq_false_iff_ne.2 hr0
        have hM := HM0.out
        rw [if_neg hr0] at hM
        have hw : RJAt w2 ⟨rb, K2, O⟩ M' ⟨g, L, true⟩ := Hja.out.wrote hd2 hK2 hKf2' true (fun rv hrv => by
          have e := (Blk.cell hrv 2).symm.trans (Blk.cell Hj.out 2)
          simp at e
          rw [e]
          have := hj2
          rw [show (!decide (r = 0)) = true from by simp [hr0]] at this
          exact this) ho2' Hwl.out.1
        have HM := Lib.hid hM; have Hw := Lib.hid hw; have Ho2' := Lib.hid ho2'; have HK2 := Lib.hid hK2
        clear hM hw ho2' hj2 hd2 hjat hK2
        go_wp2_with fail
        go_ret
        rw [HM.out]
        refine ⟨rfl, ⟨rb, K2, O⟩, rfl, HK2.out, Hw.out, fun b hb => ?_, Ho2'.out.mono fun b hb => ?_⟩
        · rcases hb with hb | hb | hb
          · exact .inl (.inl hb)
          · rcases hKf2' b hb with h | h
            · exact .inl (.inr (.inl h))
            · exact .inr h
          · exact .inl (.inr (.inr hb))
        · rcases hb with hb | hb
          · exact .inr (.inl hb)
          · exact .inl hb
end Go.Proofs.YtmimplmeccoahaaDoor
/- The reference journal: Replace. -/
namespace Go.Proofs.YtmimplmeccoahaaDoor
open Go.RowKit
set_option linter.unusedVariables false
set_option maxRecDepth 20000
attribute [local go_sem] opC upC
attribute [local go_sem ↓] seal_append

theorem rows_one {W : World} {Rx : Blks} {x : Value} {l : List UInt8} (hb : Bytes Rx W x l) (hRx : ∀ b, Rx b → ∃ L fz, W.heap[b]? = some (.cells L 5 fz)) :
    RowsIn Rx (W.alloc (.cells #[x] 30)) 0 (.slice (some ⟨W.heap.size, 0, none⟩) 1 1) [l] := by
  have hk := kept_alloc W (.cells #[x] 30)
  refine ⟨[x], ⟨rfl, .inr ⟨W.heap.size, 1, #[x], rfl, Nat.zero_le _, Blk.new W #[x] 30, Nat.le_refl _, by unfold maxLen; omega, rfl, rfl⟩⟩, fun i hi => ?_, fun b hx => ?_⟩
  · have : i = 0 := by simp at hi; exact hi
    subst this
    exact ⟨x, rfl, hb.keep fun b _ hlt => hk.block b hlt⟩
  · obtain ⟨L, fz, h⟩ := hRx b hx
    exact ⟨L, fz, (hk.block b (lt_of_block h)).trans h⟩


set_option maxRecDepth 100000 in
set_option maxHeartbeats 4000000 in
theorem rreplace_any (w : World) (jk : RJK) (M : MD) (J : MJ) (h : RJAt w jk M J) (F : Blks) (v : Value) (l : List UInt8) (hv : Bytes F w v l) (hF : ∀ b, F b → b < w.heap.size ∧ ¬ jk.all b) (hl : l.length ≤ 65536) (hw : M.writes + 65536 < 4611686018427387904) :
    Calls Tryd.prog 68 #[.pointer (some ⟨jk.j, 0, none⟩), v] w (RAppPost w jk M (replaceM M J l)) := by
  obtain ⟨rb, K, O⟩ := jk
  obtain ⟨g, L, dead⟩ := J
  have hja := h
  obtain ⟨hd, ⟨ra, rc, R, hj, hr, hown⟩, ⟨hap, hO⟩, h8, hroom, hgen, hlens⟩ := h
  dsimp only at *
  obtain ⟨va, vc, rfl, -⟩ := id hv
  have hle := hd.len
  have hhalf : halfN M.S.length ≤ 32768 := by unfold halfN; omega
  have htk : takes l.length ≤ 1366 := by unfold takes; omega
  have hlI : ¬ (65536 : Int) < (l.length : Int) := by omega
  have c3 : w.cell? ⟨rb, 3, none⟩ = some (.bool dead) := by simpa using Blk.cell hj 3
  have Hja := Lib.hid hja
  cases dead with
  | true =>
    have hM : replaceM M ⟨g, L, true⟩ l = (M, ⟨g, L, true⟩, 341) := by unfold replaceM; rfl
    rw [hM]
    clear hja hd hj hr hM
    go_enter Tryd.func68, Tryd.ntmps68
    go_wp2_with fail
    go_ret
    exact ⟨rfl, ⟨rb, K, O⟩, rfl, rfl, Hja.out, fun b hb => .inl hb, Only.refl _ _⟩
  | false =>
    obtain ⟨cap, hcap, c0, -⟩ := hd.row
    have hrb := Blk.lt hj
    have a0 : ∀ w', Later w.drew w' → w'.cell? ⟨rb, 0, none⟩ = some (.pointer (some ⟨K.d, 0, none⟩)) := fun w' hh => later_cell (by simpa using Blk.cell hj 0) hh
    have a1 : ∀ w', Later w.drew w' → w'.cell? ⟨rb, 1, none⟩ = some (.int .i64 (g : Int)) := fun w' hh => later_cell (by simpa using Blk.cell hj 1) hh
    have b0 : ∀ w', Later w.drew w' → w'.cell? ⟨K.d, 0, none⟩ = some (.slice (some ⟨K.bs, 0, none⟩) M.S.length cap) := fun w' hh => later_cell c0 hh
    have Htk := Lib.hid (rtakes_any w.drew l.length (by omega))
    have Hh := Lib.hid (rhalf_any w.drew M.S.length (by omega) hle)
    have Hd := Lib.hid hd; have Hj := Lib.hid hj; have Hr := Lib.hid hr
    have hM0 : replaceM M ⟨g, L, false⟩ l = if halfN M.S.length < takes l.length ∨ 4294967295 ≤ g then (M, ⟨g, L, false⟩, 7) else
        if (writeAll M (pieceWrites M.S.length (g + 1) 0 0 l ++ [((g + 1) % 2, headB (g + 1))])).2 = 0 then ((writeAll M (pieceWrites M.S.length (g + 1) 0 0 l ++ [((g + 1) % 2, headB (g + 1))])).1, ⟨g + 1, [l], false⟩, 0) else ((writeAll M (pieceWrites M.S.length (g + 1) 0 0 l ++ [((g + 1) % 2, headB (g + 1))])).1, ⟨g, L, true⟩, (writeAll M (pieceWrites M.S.length (g + 1) 0 0 l ++ [((g + 1) % 2, headB (g + 1))])).2) := by
      unfold replaceM
      simp only [Bool.false_eq_true, if_false]
      rw [if_neg (by omega)]
    have htp := takes_pos l.length
    clear hja hd hj hr c0
    by_cases hfull : halfN M.S.length < takes l.length
    · rw [if_pos (.inl hfull)] at hM0
      rw [hM0]
      have hI : (halfN M.S.length : Int) < (takes l.length : Int) := by omega
      clear hM0
      go_enter Tryd.func68, Tryd.ntmps68
      go_wp2_with fail
      refine wp_region_can Later [(0, true), (1, true), (3, true), (4, true), (5, true), (6, true), (7, true), (8, true), (9, true), (10, true), (2, false), (11, false), (12, true), (13, true), (14, true), (15, true), (16, true), (17, true), (18, true), (19, true)] (by kernel_rfl) (by kernel_rfl) later_refl later_trans ?_
      repeat (first
        | (refine can_yes (v := ?_) rfl (wanted_none rfl) (fun w' hC => ?_) (fun K hK => ?_); rotate_left; (focus (go_simp; first | done | exact rfl)); go_simp; refine hK _ ?_; clear hK K)
        | (refine can_guard rfl (fun A B hA hB => ?_); go_simp; first | (refine hA ⟨?_, fun w' hC => ?_, fun K hK => ?_⟩; rotate_left; (focus (go_simp; first | done | exact rfl)); go_simp; refine hK _ ?_; clear hK K hA hB A B) | (refine hB (fun K hK => ?_); go_simp; refine hK _ ?_; clear hK K hA hB A B))
        | (refine can_guard_go rfl (fun A B hA hB => ?_); go_simp; refine hB (fun K hK => ?_); go_simp; refine hK _ ?_; clear hK K hA hB A B))
      refine can_go rfl rfl (fun KK hK => ?_)
      go_simp
      refine Htk.out.mono ?_
      rintro e w' ⟨rfl, rfl⟩
      refine ⟨_, rfl, later_refl _, hK _ _ ?_⟩
      clear hK KK
      go_simp
      repeat (first
        | (refine can_yes (v := ?_) rfl (wanted_none rfl) (fun w' hC => ?_) (fun K hK => ?_); rotate_left; (focus (go_simp; first | done | exact rfl)); go_simp; refine hK _ ?_; clear hK K)
        | (refine can_guard rfl (fun A B hA hB => ?_); go_simp; first | (refine hA ⟨?_, fun w' hC => ?_, fun K hK => ?_⟩; rotate_left; (focus (go_simp; first | done | exact rfl)); go_simp; refine hK _ ?_; clear hK K hA hB A B) | (refine hB (fun K hK => ?_); go_simp; refine hK _ ?_; clear hK K hA hB A B))
        | (refine can_guard_go rfl (fun A B hA hB => ?_); go_simp; refine hB (fun K hK => ?_); go_simp; refine hK _ ?_; clear hK K hA hB A B))
      refine can_go rfl rfl (fun KK hK => ?_)
      go_simp
      refine Hh.out.mono ?_
      rintro e w' ⟨rfl, rfl⟩
      refine ⟨_, rfl, later_refl _, hK _ _ ?_⟩
      clear hK KK
      go_simp
      repeat (first
        | (refine can_yes (v := ?_) rfl (wanted_none rfl) (fun w' hC => ?_) (fun K hK => ?_); rotate_left; (focus (go_simp; first | done | exact rfl)); go_simp; refine hK _ ?_; clear hK K)
        | (refine can_guard rfl (fun A B hA hB => ?_); go_simp; first | (refine hA ⟨?_, fun w' hC => ?_, fun K hK => ?_⟩; rotate_left; (focus (go_simp; first | done | exact rfl)); go_simp; refine hK _ ?_; clear hK K hA hB A B) | (refine hB (fun K hK => ?_); go_simp; refine hK _ ?_; clear hK K hA hB A B))
        | (refine can_guard_go rfl (fun A B hA hB => ?_); go_simp; refine hB (fun K hK => ?_); go_simp; refine hK _ ?_; clear hK K hA hB A B))
      refine can_nil ?_
      go_wp2_with fail
      go_ret
      exact ⟨rfl, ⟨rb, K, O⟩, rfl, rfl, Hja.out.kept (Below.refl _ _).drew, fun b hb => .inl hb, Only.of_below (Below.refl _ _).drew⟩
    by_cases hgm : 4294967295 ≤ g
    · rw [if_pos (.inr hgm)] at hM0
      rw [hM0]
      have hI : ¬ (halfN M.S.length : Int) < (takes l.length : Int) := by omega
      have hI2 : (4294967295 : Int) ≤ (g : Int) := by omega
      clear hM0
      go_enter Tryd.func68, Tryd.ntmps68
      go_wp2_with fail
      refine wp_region_can Later [(0, true), (1, true), (3, true), (4, true), (5, true), (6, true), (7, true), (8, true), (9, true), (10, true), (2, false), (11, false), (12, true), (13, true), (14, true), (15, true), (16, true), (17, true), (18, true), (19, true)] (by kernel_rfl) (by kernel_rfl) later_refl later_trans ?_
      repeat (first
        | (refine can_yes (v := ?_) rfl (wanted_none rfl) (fun w' hC => ?_) (fun K hK => ?_); rotate_left; (focus (go_simp; first | done | exact rfl)); go_simp; refine hK _ ?_; clear hK K)
        | (refine can_guard rfl (fun A B hA hB => ?_); go_simp; first | (refine hA ⟨?_, fun w' hC => ?_, fun K hK => ?_⟩; rotate_left; (focus (go_simp; first | done | exact rfl)); go_simp; refine hK _ ?_; clear hK K hA hB A B) | (refine hB (fun K hK => ?_); go_simp; refine hK _ ?_; clear hK K hA hB A B))
        | (refine can_guard_go rfl (fun A B hA hB => ?_); go_simp; refine hB (fun K hK => ?_); go_simp; refine hK _ ?_; clear hK K hA hB A B))
      refine can_go rfl rfl (fun KK hK => ?_)
      go_simp
      refine Htk.out.mono ?_
      rintro e w' ⟨rfl, rfl⟩
      refine ⟨_, rfl, later_refl _, hK _ _ ?_⟩
      clear hK KK
      go_simp
      repeat (first
        | (refine can_yes (v := ?_) rfl (wanted_none rfl) (fun w' hC => ?_) (fun K hK => ?_); rotate_left; (focus (go_simp; first | done | exact rfl)); go_simp; refine hK _ ?_; clear hK K)
        | (refine can_guard rfl (fun A B hA hB => ?_); go_simp; first | (refine hA ⟨?_, fun w' hC => ?_, fun K hK => ?_⟩; rotate_left; (focus (go_simp; first | done | exact rfl)); go_simp; refine hK _ ?_; clear hK K hA hB A B) | (refine hB (fun K hK => ?_); go_simp; refine hK _ ?_; clear hK K hA hB A B))
        | (refine can_guard_go rfl (fun A B hA hB => ?_); go_simp; refine hB (fun K hK => ?_); go_simp; refine hK _ ?_; clear hK K hA hB A B))
      refine can_go rfl rfl (fun KK hK => ?_)
      go_simp
      refine Hh.out.mono ?_
      rintro e w' ⟨rfl, rfl⟩
      refine ⟨_, rfl, later_refl _, hK _ _ ?_⟩
      clear hK KK
      go_simp
      repeat (first
        | (refine can_yes (v := ?_) rfl (wanted_none rfl) (fun w' hC => ?_) (fun K hK => ?_); rotate_left; (focus (go_simp; first | done | exact rfl)); go_simp; refine hK _ ?_; clear hK K)
        | (refine can_guard rfl (fun A B hA hB => ?_); go_simp; first | (refine hA ⟨?_, fun w' hC => ?_, fun K hK => ?_⟩; rotate_left; (focus (go_simp; first | done | exact rfl)); go_simp; refine hK _ ?_; clear hK K hA hB A B) | (refine hB (fun K hK => ?_); go_simp; refine hK _ ?_; clear hK K hA hB A B))
        | (refine can_guard_go rfl (fun A B hA hB => ?_); go_simp; refine hB (fun K hK => ?_); go_simp; refine hK _ ?_; clear hK K hA hB A B))
      refine can_nil ?_
      go_wp2_with fail
      go_ret
      exact ⟨rfl, ⟨rb, K, O⟩, rfl, rfl, Hja.out.kept (Below.refl _ _).drew, fun b hb => .inl hb, Only.of_below (Below.refl _ _).drew⟩
    rw [if_neg (by omega)] at hM0
    have hI : ¬ (halfN M.S.length : Int) < (takes l.length : Int) := by omega
    have hI2 : ¬ (4294967295 : Int) ≤ (g : Int) := by omega
    have hwl := writeAll_len (pieceWrites M.S.length (g + 1) 0 0 l) M
    have hwl2 := writeAll_len (pieceWrites M.S.length (g + 1) 0 0 l ++ [((g + 1) % 2, headB (g + 1))]) M
    have hpl : (pieceWrites M.S.length (g + 1) 0 0 l).length ≤ 32768 := by rw [ws_length]; omega
    have hapw := writeAll_append M (pieceWrites M.S.length (g + 1) 0 0 l) [((g + 1) % 2, headB (g + 1))]
    have hwt := rwrite_any w.drew rb g _ K M (Hd.out.kept (Below.refl _ _).drew) (show RJBlk w.drew rb K.d g _ false from Hj.out) hap (g + 1) 0 0 (.slice va l.length vc) l F (hv.keep (w' := w.drew) fun b _ _ => rfl) (by omega) (by omega) hl (by omega) (by omega) (by omega)
    generalize writeAll M (pieceWrites M.S.length (g + 1) 0 0 l ++ [((g + 1) % 2, headB (g + 1))]) = mf at *
    generalize writeAll M (pieceWrites M.S.length (g + 1) 0 0 l) = mw at *
    obtain ⟨M', r⟩ := mw
    dsimp only at hM0 hwl hwt hapw
    rw [show ((g + 1 : Nat) : Int) = (g : Int) + 1 from by omega, show ((0 : Nat) : Int) = 0 from rfl] at hwt
    have HM0 := Lib.hid hM0; have Hwt := Lib.hid hwt; have Hwl := Lib.hid hwl; have Hv := Lib.hid hv; have Hapw := Lib.hid hapw; have Hwl2 := Lib.hid hwl2
    have c1 : w.drew.cell? ⟨rb, 1, none⟩ = some (.int .i64 (g : Int)) := by simpa using Blk.cell Hj.out 1
    have hg1 := IntWalk.i64_in ((g : Int) + 1) (by omega)
    have Hgm := Lib.hid hgm; have Hgen := Lib.hid hgen
    have hdec : decide ((4294967295 : Int) ≤ (g : Int)) = false := by simpa using hI2
    have Hw0 := Lib.hid hw
    clear hM0 hwt hwl hv hapw hwl2 hgm hgen hI2 hw
    go_enter Tryd.func68, Tryd.ntmps68
    go_wp2_with fail
    refine wp_region_can Later [(0, true), (1, true), (3, true), (4, true), (5, true), (6, true), (7, true), (8, true), (9, true), (10, true), (2, false), (11, false), (12, true), (13, true), (14, true), (15, true), (16, true), (17, true), (18, true), (19, true)] (by kernel_rfl) (by kernel_rfl) later_refl later_trans ?_
    repeat (first
      | (refine can_yes (v := ?_) rfl (wanted_none rfl) (fun w' hC => ?_) (fun K hK => ?_); rotate_left; (focus (go_simp; first | done | exact rfl)); go_simp; refine hK _ ?_; clear hK K)
      | (refine can_guard rfl (fun A B hA hB => ?_); go_simp; first | (refine hA ⟨?_, fun w' hC => ?_, fun K hK => ?_⟩; rotate_left; (focus (go_simp; first | done | exact rfl)); go_simp; refine hK _ ?_; clear hK K hA hB A B) | (refine hB (fun K hK => ?_); go_simp; refine hK _ ?_; clear hK K hA hB A B))
      | (refine can_guard_go rfl (fun A B hA hB => ?_); go_simp; refine hB (fun K hK => ?_); go_simp; refine hK _ ?_; clear hK K hA hB A B))
    refine can_go rfl rfl (fun KK hK => ?_)
    go_simp
    refine Htk.out.mono ?_
    rintro e w' ⟨rfl, rfl⟩
    refine ⟨_, rfl, later_refl _, hK _ _ ?_⟩
    clear hK KK
    go_simp
    repeat (first
      | (refine can_yes (v := ?_) rfl (wanted_none rfl) (fun w' hC => ?_) (fun K hK => ?_); rotate_left; (focus (go_simp; first | done | exact rfl)); go_simp; refine hK _ ?_; clear hK K)
      | (refine can_guard rfl (fun A B hA hB => ?_); go_simp; first | (refine hA ⟨?_, fun w' hC => ?_, fun K hK => ?_⟩; rotate_left; (focus (go_simp; first | done | exact rfl)); go_simp; refine hK _ ?_; clear hK K hA hB A B) | (refine hB (fun K hK => ?_); go_simp; refine hK _ ?_; clear hK K hA hB A B))
      | (refine can_guard_go rfl (fun A B hA hB => ?_); go_simp; refine hB (fun K hK => ?_); go_simp; refine hK _ ?_; clear hK K hA hB A B))
    refine can_go rfl rfl (fun KK hK => ?_)
    go_simp
    refine Hh.out.mono ?_
    rintro e w' ⟨rfl, rfl⟩
    refine ⟨_, rfl, later_refl _, hK _ _ ?_⟩
    clear hK KK
    go_simp
    repeat (first
      | (refine can_yes (v := ?_) rfl (wanted_none rfl) (fun w' hC => ?_) (fun K hK => ?_); rotate_left; (focus (go_simp; first | done | exact rfl)); go_simp; refine hK _ ?_; clear hK K)
      | (refine can_guard rfl (fun A B hA hB => ?_); go_simp; first | (refine hA ⟨?_, fun w' hC => ?_, fun K hK => ?_⟩; rotate_left; (focus (go_simp; first | done | exact rfl)); go_simp; refine hK _ ?_; clear hK K hA hB A B) | (refine hB (fun K hK => ?_); go_simp; refine hK _ ?_; clear hK K hA hB A B))
      | (refine can_guard_go rfl (fun A B hA hB => ?_); go_simp; refine hB (fun K hK => ?_); go_simp; refine hK _ ?_; clear hK K hA hB A B))
    refine can_nil ?_
    clear a0 a1 b0 Htk Hh
    go_wp2_with fail
    refine Hwt.out.mono ?_
    rintro e w2 ⟨rfl, ⟨K2, hK2, hKf2, hd2⟩, hj2, ho2⟩
    have ho2' : Only (fun b => K.all b ∨ b = rb) w w2 := ⟨ho2.os, ho2.tape, ho2.output, ho2.size, ho2.block⟩
    have hKf2' : ∀ b, K2.all b → K.all b ∨ w.heap.size ≤ b := hKf2
    by_cases hr0 : r = 0
    · subst hr0
      have hmf := Hapw.out
      rw [if_pos rfl] at hmf
      have hone : writeAll M' [((g + 1) % 2, headB (g + 1))] = M'.wr ((g + 1) % 2) (headB (g + 1)) := writeAll_snoc M' [] _ _ rfl
      rw [hone] at hmf
      subst hmf
      have hj2' : RJBlk w2 rb K.d g (.slice ra L.length rc) false := hj2
      have hKrb : ¬ K2.all rb := fun h => by
        rcases hKf2' _ h with h | h
        · exact hap h
        · omega
      have q0 : ∀ w', LaterF K2.foot w2.drew w' → w'.cell? ⟨rb, 0, none⟩ = some (.pointer (some ⟨K.d, 0, none⟩)) := fun w' hh => by
        simpa using (Blk.keep (w' := w') hj2' (hh.block _ (Blk.lt hj2') fun h => hKrb (RefAt.foot_all h))).cell 0
      have q1 : ∀ w', LaterF K2.foot w2.drew w' → w'.cell? ⟨rb, 1, none⟩ = some (.int .i64 (g : Int)) := fun w' hh => by
        simpa using (Blk.keep (w' := w') hj2' (hh.block _ (Blk.lt hj2') fun h => hKrb (RefAt.foot_all h))).cell 1
      have hhead := rhead_any w2.drew (g + 1) (by have := Hgm.out; omega)
      rw [show ((g + 1 : Nat) : Int) = (g : Int) + 1 from by omega] at hhead
      have hrem := IntWalk.rem_in ((g : Int) + 1) 2 (by have := Hgm.out; omega)
      have Hhead := Lib.hid hhead; have Hd2 := Lib.hid hd2; have Hj2 := Lib.hid hj2'; have Ho2' := Lib.hid ho2'; have HK2 := Lib.hid hK2
      clear hhead hd2 hj2 hj2' ho2' hone hK2 ho2 c1
      go_wp2_with fail
      refine wp_region_can (LaterF K2.foot) [(0, true), (1, true), (2, true), (3, true), (4, true), (5, true), (6, true), (7, true), (8, true), (9, true), (10, true), (11, true), (12, true), (13, true), (14, true), (15, false), (16, false), (17, true)] (by kernel_rfl) (by kernel_rfl) (laterF_refl _) (laterF_trans _) ?_
      repeat (first
        | (refine can_yes (v := ?_) rfl (wanted_none rfl) (fun w' hC => ?_) (fun K hK => ?_); rotate_left; (focus (go_simp; (try simp (disch := omega) only [IntWalk.i64_in]); (try simp (disch := omega) only [IntWalk.u32_in]); (try simp (disch := omega) only [IntWalk.u8_in]); (try simp (disch := omega) only [IntWalk.i64_quo]); (try simp (disch := omega) only [IntWalk.rem_in]); first | done | exact rfl)); go_simp; (try simp (disch := omega) only [IntWalk.i64_in]); (try simp (disch := omega) only [IntWalk.u32_in]); (try simp (disch := omega) only [IntWalk.u8_in]); (try simp (disch := omega) only [IntWalk.i64_quo]); (try simp (disch := omega) only [IntWalk.rem_in]); refine hK _ ?_; clear hK K)
        | (refine can_guard rfl (fun A B hA hB => ?_); go_simp; first | (refine hA ⟨?_, fun w' hC => ?_, fun K hK => ?_⟩; rotate_left; (focus (go_simp; (try simp (disch := omega) only [IntWalk.i64_in]); (try simp (disch := omega) only [IntWalk.u32_in]); (try simp (disch := omega) only [IntWalk.u8_in]); (try simp (disch := omega) only [IntWalk.i64_quo]); (try simp (disch := omega) only [IntWalk.rem_in]); first | done | exact rfl)); go_simp; (try simp (disch := omega) only [IntWalk.i64_in]); (try simp (disch := omega) only [IntWalk.u32_in]); (try simp (disch := omega) only [IntWalk.u8_in]); (try simp (disch := omega) only [IntWalk.i64_quo]); (try simp (disch := omega) only [IntWalk.rem_in]); refine hK _ ?_; clear hK K hA hB A B) | (refine hB (fun K hK => ?_); go_simp; (try simp (disch := omega) only [IntWalk.i64_in]); (try simp (disch := omega) only [IntWalk.u32_in]); (try simp (disch := omega) only [IntWalk.u8_in]); (try simp (disch := omega) only [IntWalk.i64_quo]); (try simp (disch := omega) only [IntWalk.rem_in]); refine hK _ ?_; clear hK K hA hB A B))
        | (refine can_guard_go rfl (fun A B hA hB => ?_); go_simp; refine hB (fun K hK => ?_); go_simp; (try simp (disch := omega) only [IntWalk.i64_in]); (try simp (disch := omega) only [IntWalk.u32_in]); (try simp (disch := omega) only [IntWalk.u8_in]); (try simp (disch := omega) only [IntWalk.i64_quo]); (try simp (disch := omega) only [IntWalk.rem_in]); refine hK _ ?_; clear hK K hA hB A B))
      refine can_go rfl rfl (fun KK hK => ?_)
      go_simp
      refine Hhead.out.mono ?_
      rintro e w4 ⟨r4, rfl, hown4, hb4⟩
      refine ⟨_, rfl, LaterF.of_below hb4, hK _ _ ?_⟩
      clear hK KK q0 q1 Hhead
      go_simp
      have hb4' : Below w2.heap.size w2 w4 := ⟨hb4.os, hb4.tape, hb4.output, hb4.size, hb4.block⟩
      have hl64 := headB_length (g + 1)
      have hby4 := Bytes.of_owns (l := headB (g + 1)) (by rw [hl64]; exact hown4) (fun b => w2.heap.size ≤ b) (fun k hk _ => hk)
      have hwr := rwr_any w4 K2 M' (Hd2.out.kept hb4') ((g + 1) % 2) (by have := Hwl.out.1; omega) (by have := Hwl.out.2; have := Hw0.out; omega) _ _ _ hby4 hl64 (fun b hb e => by have := Hd2.out.lt _ (.inl rfl); rw [e] at hb; omega)
      rw [HK2.out, show (((g + 1) % 2 : Nat) : Int) = ((g : Int) + 1) % 2 from by omega] at hwr
      generalize M'.wr ((g + 1) % 2) (headB (g + 1)) = mq at *
      obtain ⟨M5, r5⟩ := mq
      dsimp only at hwr
      have Hwr := Lib.hid hwr; have Hb4 := Lib.hid hb4'
      clear hwr hby4 hown4 hl64 hb4 hb4'
      repeat (first
        | (refine can_yes (v := ?_) rfl (wanted_none rfl) (fun w' hC => ?_) (fun K hK => ?_); rotate_left; (focus (go_simp; (try simp (disch := omega) only [IntWalk.i64_in]); (try simp (disch := omega) only [IntWalk.u32_in]); (try simp (disch := omega) only [IntWalk.u8_in]); (try simp (disch := omega) only [IntWalk.i64_quo]); (try simp (disch := omega) only [IntWalk.rem_in]); first | done | exact rfl)); go_simp; (try simp (disch := omega) only [IntWalk.i64_in]); (try simp (disch := omega) only [IntWalk.u32_in]); (try simp (disch := omega) only [IntWalk.u8_in]); (try simp (disch := omega) only [IntWalk.i64_quo]); (try simp (disch := omega) only [IntWalk.rem_in]); refine hK _ ?_; clear hK K)
        | (refine can_guard rfl (fun A B hA hB => ?_); go_simp; first | (refine hA ⟨?_, fun w' hC => ?_, fun K hK => ?_⟩; rotate_left; (focus (go_simp; (try simp (disch := omega) only [IntWalk.i64_in]); (try simp (disch := omega) only [IntWalk.u32_in]); (try simp (disch := omega) only [IntWalk.u8_in]); (try simp (disch := omega) only [IntWalk.i64_quo]); (try simp (disch := omega) only [IntWalk.rem_in]); first | done | exact rfl)); go_simp; (try simp (disch := omega) only [IntWalk.i64_in]); (try simp (disch := omega) only [IntWalk.u32_in]); (try simp (disch := omega) only [IntWalk.u8_in]); (try simp (disch := omega) only [IntWalk.i64_quo]); (try simp (disch := omega) only [IntWalk.rem_in]); refine hK _ ?_; clear hK K hA hB A B) | (refine hB (fun K hK => ?_); go_simp; (try simp (disch := omega) only [IntWalk.i64_in]); (try simp (disch := omega) only [IntWalk.u32_in]); (try simp (disch := omega) only [IntWalk.u8_in]); (try simp (disch := omega) only [IntWalk.i64_quo]); (try simp (disch := omega) only [IntWalk.rem_in]); refine hK _ ?_; clear hK K hA hB A B))
        | (refine can_guard_go rfl (fun A B hA hB => ?_); go_simp; refine hB (fun K hK => ?_); go_simp; (try simp (disch := omega) only [IntWalk.i64_in]); (try simp (disch := omega) only [IntWalk.u32_in]); (try simp (disch := omega) only [IntWalk.u8_in]); (try simp (disch := omega) only [IntWalk.i64_quo]); (try simp (disch := omega) only [IntWalk.rem_in]); refine hK _ ?_; clear hK K hA hB A B))
      refine can_go rfl rfl (fun KK hK => ?_)
      go_simp
      refine Hwr.out.mono ?_
      rintro e w5 ⟨rfl, ⟨K5, hK5, hKf5, hd5⟩, ho5⟩
      refine ⟨_, rfl, ho5, hK _ _ ?_⟩
      clear hK KK
      go_simp
      repeat (first
        | (refine can_yes (v := ?_) rfl (wanted_none rfl) (fun w' hC => ?_) (fun K hK => ?_); rotate_left; (focus (go_simp; first | done | exact rfl)); go_simp; refine hK _ ?_; clear hK K)
        | (refine can_guard rfl (fun A B hA hB => ?_); go_simp; first | (refine hA ⟨?_, fun w' hC => ?_, fun K hK => ?_⟩; rotate_left; (focus (go_simp; first | done | exact rfl)); go_simp; refine hK _ ?_; clear hK K hA hB A B) | (refine hB (fun K hK => ?_); go_simp; refine hK _ ?_; clear hK K hA hB A B))
        | (refine can_guard_go rfl (fun A B hA hB => ?_); go_simp; refine hB (fun K hK => ?_); go_simp; refine hK _ ?_; clear hK K hA hB A B))
      refine can_nil ?_
      have hz4 : w2.heap.size ≤ w4.heap.size := Hb4.out.size
      have hz2 : w.heap.size ≤ w2.heap.size := Ho2'.out.size
      have ho5' : Only (fun b => K.all b ∨ b = rb) w w5 := (Ho2'.out.trans (Only.of_below (F := none_) Hb4.out) fun i hi => hi.elim).trans ho5 fun i hi => by
        rcases hKf2' i (RefAt.foot_all hi) with h | h
        · exact .inl (.inl h)
        · exact .inr h
      have hKf5' : ∀ b, K5.all b → K.all b ∨ w.heap.size ≤ b := fun b hb => by
        rcases hKf5 b hb with h | h
        · exact hKf2' b h
        · exact .inr (by omega)
      have hj5 : RJBlk w5 rb K.d g (.slice ra L.length rc) false := Blk.keep (Blk.keep Hj2.out (Hb4.out.block rb (Blk.lt Hj2.out))) (ho5.block rb (by have := Blk.lt Hj2.out; show rb < w4.heap.size; omega) fun h => hKrb (RefAt.foot_all h))
      have hKrb5 : ¬ K5.all rb := fun h => by
        rcases hKf5' _ h with h | h
        · exact hap h
        · omega
      by_cases hr5 : r5 = 0
      · subst hr5
        have hM := HM0.out
        dsimp only at hM
        rw [if_pos rfl] at hM
        have c1 : w5.cell? ⟨rb, 1, none⟩ = some (.int .i64 (g : Int)) := by simpa using Blk.cell hj5 1
        have f1 := Blk.free hj5 1
        have hj6 : RJBlk (w5.setCell ⟨rb, 1, none⟩ (.int .i64 ((g : Int) + 1))) rb K.d (g + 1) (.slice ra L.length rc) false := by
          have := Blk.set hj5 1 (.int .i64 ((g : Int) + 1))
          simpa [RJBlk] using this
        have ho6 : Only (fun b => b = rb) w5 (w5.setCell ⟨rb, 1, none⟩ (.int .i64 ((g : Int) + 1))) := Only.setCell (Only.refl (fun b => b = rb) w5) (p := ⟨rb, 1, none⟩) (.inl (show rb = rb from rfl)) _
        have hd6 := hd5.only ho6 fun b hb e => hKrb5 (e ▸ hb)
        have ho6' : Only (fun b => K.all b ∨ b = rb) w _ := ho5'.trans ho6 fun i hi => .inl (.inr hi)
        have hv6 := Hv.out.only ho6' fun b hb h => (hF b hb).2 (by
          rcases h with h | h
          · exact .inr (.inl h)
          · exact .inl h)
        obtain ⟨xa, xc, w7, hr7, -, hk7, -, hby7⟩ := run_clone _ _ (.slice va l.length vc) l hv6 (by omega)
        have hs6 : (w5.setCell ⟨rb, 1, none⟩ (.int .i64 ((g : Int) + 1))).heap.size = w5.heap.size := by simp [World.setCell]
        rw [hs6] at hr7
        have hz7 : w5.heap.size ≤ w7.heap.size := by have := hk7.size; rw [hs6] at this; exact this
        have hj7 : RJBlk w7 rb K.d (g + 1) (.slice ra L.length rc) false := Blk.keep hj6 (hk7.block rb (Blk.lt hj6))
        have hz5 : w.heap.size ≤ w5.heap.size := ho5'.size
        have c2 : w7.cell? ⟨rb, 2, none⟩ = some (.slice ra L.length rc) := by simpa using Blk.cell hj7 2
        have f2 := Blk.free hj7 2
        have hj8 : RJBlk (w7.setCell ⟨rb, 2, none⟩ (.slice (some ⟨w7.heap.size, 0, none⟩) 1 1)) rb K.d (g + 1) (.slice (some ⟨w7.heap.size, 0, none⟩) 1 1) false := by
          have := Blk.set hj7 2 (.slice (some ⟨w7.heap.size, 0, none⟩) 1 1)
          simpa [RJBlk] using this
        have hrl7 := Blk.lt hj7
        have ho8 : Only (fun b => b = rb) w7 (w7.setCell ⟨rb, 2, none⟩ (.slice (some ⟨w7.heap.size, 0, none⟩) 1 1)) := Only.setCell (Only.refl (fun b => b = rb) w7) (p := ⟨rb, 2, none⟩) (.inl (show rb = rb from rfl)) _
        have hs8 : (w7.setCell ⟨rb, 2, none⟩ (.slice (some ⟨w7.heap.size, 0, none⟩) 1 1)).heap.size = w7.heap.size := by simp [World.setCell]
        have hby8 := hby7.only ho8 (fun b hb e => by
          have h1 := hb.1
          rw [hs6] at h1
          rw [e] at h1
          have := Blk.lt hj5
          omega)
        have hrows9 := rows_one hby8 (fun b hb => by
          obtain ⟨L', fz, hL'⟩ := hb.2.2
          exact ⟨L', fz, (ho8.block b (lt_of_block hL') (fun e => by
            have h1 := hb.1
            rw [hs6] at h1
            rw [e] at h1
            have := Blk.lt hj5
            omega)).trans hL'⟩)
        rw [hs8] at hrows9
        have hd9 : RefAt ((w7.setCell ⟨rb, 2, none⟩ (.slice (some ⟨w7.heap.size, 0, none⟩) 1 1)).alloc (.cells #[.slice xa l.length xc] 30)) K5 M5 := ((hd6.kept hk7).only ho8 fun b hb e => hKrb5 (e ▸ hb)).kept (kept_alloc _ _)
        have hj9 : RJBlk ((w7.setCell ⟨rb, 2, none⟩ (.slice (some ⟨w7.heap.size, 0, none⟩) 1 1)).alloc (.cells #[.slice xa l.length xc] 30)) rb K.d (g + 1) (.slice (some ⟨w7.heap.size, 0, none⟩) 1 1) false := Blk.alloc hj8 _
        have ho9 : Only (fun b => K.all b ∨ b = rb) w ((w7.setCell ⟨rb, 2, none⟩ (.slice (some ⟨w7.heap.size, 0, none⟩) 1 1)).alloc (.cells #[.slice xa l.length xc] 30)) := ((ho6'.trans (Only.of_below (F := none_) hk7) fun i hi => hi.elim).trans ho8 fun i hi => .inl (.inr hi)).alloc _
        have hdl5 := hd5.lt
        have HM := Lib.hid hM; have Hrows9 := Lib.hid hrows9; have Hd9 := Lib.hid hd9; have Hj9 := Lib.hid hj9; have Ho9 := Lib.hid ho9; have HK5 := Lib.hid hK5
        have Hs6 := Lib.hid hs6; have Hs8 := Lib.hid hs8; have Hrl5 := Lib.hid (Blk.lt hj5)
        clear hM hrows9 hd9 hj9 ho9 hK5 hs6 hs8 hby8 ho8 hj8 hj7 hk7 hby7 hv6 ho6' hd6 ho6 hj6 hj5 ho5' hd5 ho5
        go_wp2_with fail
        go_ret
        rw [HM.out]
        have hs6 := Hs6.out; have hs8 := Hs8.out; have hrl5 := Hrl5.out
        have hz9 : ((w7.setCell ⟨rb, 2, none⟩ (.slice (some ⟨w7.heap.size, 0, none⟩) 1 1)).alloc (.cells #[.slice xa l.length xc] 30)).heap.size = w7.heap.size + 1 := by simp
        refine ⟨rfl, ⟨rb, K5, fun b => (Value.slice (some ⟨w7.heap.size, 0, none⟩) 1 1).ownBlock = some b ∨ _⟩, rfl, HK5.out, ⟨Hd9.out, ⟨some ⟨w7.heap.size, 0, none⟩, 1, _, ?_, Hrows9.out, fun b hb => hb⟩, ⟨hKrb5, fun b hb => ?_⟩, ?_, ?_, ?_, ?_⟩, fun b hb => ?_, Ho9.out.mono fun b hb => ?_⟩
        · have := Hj9.out
          rw [← HK5.out] at this
          exact this
        · rcases hb with hb | hb
          · simp [Value.ownBlock] at hb
            subst hb
            exact ⟨by show w7.heap.size ≠ rb; omega, fun hx => by have := hdl5 _ hx; omega, by rw [hz9]; omega⟩
          · have h1 := hb.1
            have h2 := hb.2.1
            rw [hs6] at h1
            exact ⟨by show b ≠ rb; omega, fun hx => by have := hdl5 b hx; omega, by rw [hz9]; omega⟩
        · rw [show M5.S.length = M.S.length from Hwl2.out.1]; exact h8
        · show takenL [l] ≤ halfN M5.S.length
          rw [show M5.S.length = M.S.length from Hwl2.out.1]
          simp [takenL]
          omega
        · show g + 1 < 4294967296
          have := Hgm.out; omega
        · intro b hb
          rw [List.mem_singleton.1 hb]; exact hl
        · rcases hb with hb | hb | hb
          · exact .inl (.inl hb)
          · rcases hKf5' b hb with h | h
            · exact .inl (.inr (.inl h))
            · exact .inr h
          · rcases hb with hb | hb
            · simp [Value.ownBlock] at hb
              exact .inr (by omega)
            · have h1 := hb.1
              rw [hs6] at h1
              exact .inr (by omega)
        · rcases hb with hb | hb
          · exact .inr (.inl hb)
          · exact .inl hb
      · have hrb5 : (r5 != 0) = true := bne_iff_ne.2 hr5
        have f3 := Blk.free hj5 3
        have c3' : w5.cell? ⟨rb, 3, none⟩ = some (.bool false) := by simpa using Blk.cell hj5 3
        have ho6 : Only (fun b => b = rb) w5 (w5.setCell ⟨rb, 3, none⟩ (.bool true)) := Only.setCell (Only.refl (fun b => b = rb) w5) (p := ⟨rb, 3, none⟩) (.inl (show rb = rb from rfl)) _
        have hj6 : RJBlk (w5.setCell ⟨rb, 3, none⟩ (.bool true)) rb K.d g (.slice ra L.length rc) true := Blk.set hj5 3 (.bool true)
        have hw : RJAt (w5.setCell ⟨rb, 3, none⟩ (.bool true)) ⟨rb, K5, O⟩ M5 ⟨g, L, true⟩ := Hja.out.wrote (hd5.only ho6 fun b hb e => hKrb5 (e ▸ hb)) hK5 hKf5' true (fun rv hrv => by
          have e := (Blk.cell hrv 2).symm.trans (Blk.cell Hj.out 2)
          simp at e
          rw [e]
          exact hj6) (ho5'.trans ho6 fun i hi => .inl (.inr hi)) (by have := Hwl2.out.1; exact this)
        have hM := HM0.out
        dsimp only at hM
        rw [if_neg hr5] at hM
        have HM := Lib.hid hM; have Hw := Lib.hid hw; have Ho6 := Lib.hid (ho5'.trans ho6 fun i hi => .inl (.inr hi)); have HK5 := Lib.hid hK5
        clear hM hw ho5' hj5 hd5 hK5 ho6 hj6 ho5
        go_wp2_with fail
        go_ret
        rw [HM.out]
        refine ⟨rfl, ⟨rb, K5, O⟩, rfl, HK5.out, Hw.out, fun b hb => ?_, Ho6.out.mono fun b hb => ?_⟩
        · rcases hb with hb | hb | hb
          · exact .inl (.inl hb)
          · rcases hKf5' b hb with h | h
            · exact .inl (.inr (.inl h))
            · exact .inr h
          · exact .inl (.inr (.inr hb))
        · rcases hb with hb | hb
          · exact .inr (.inl hb)
          · exact .inl hb
    · have hrb2 : (r != 0) = true := bne_iff_ne.2 hr0
      have hM := HM0.out
      have hmf := Hapw.out
      rw [if_neg hr0] at hmf
      rw [hmf] at hM
      dsimp only at hM
      rw [if_neg hr0] at hM
      have hw : RJAt w2 ⟨rb, K2, O⟩ M' ⟨g, L, true⟩ := Hja.out.wrote hd2 hK2 hKf2' true (fun rv hrv => by
        have e := (Blk.cell hrv 2).symm.trans (Blk.cell Hj.out 2)
        simp at e
        rw [e]
        have := hj2
        rw [show (!decide (r = 0)) = true from by simp [hr0]] at this
        exact this) ho2' Hwl.out.1
      have HM := Lib.hid hM; have Hw := Lib.hid hw; have Ho2' := Lib.hid ho2'; have HK2 := Lib.hid hK2
      clear hM hw ho2' hj2 hd2 hK2 hmf
      go_wp2_with fail
      go_ret
      rw [HM.out]
      refine ⟨rfl, ⟨rb, K2, O⟩, rfl, HK2.out, Hw.out, fun b hb => ?_, Ho2'.out.mono fun b hb => ?_⟩
      · rcases hb with hb | hb | hb
        · exact .inl (.inl hb)
        · rcases hKf2' b hb with h | h
          · exact .inl (.inr (.inl h))
          · exact .inr h
        · exact .inl (.inr (.inr hb))
      · rcases hb with hb | hb
        · exact .inr (.inl hb)
        · exact .inl hb
end Go.Proofs.YtmimplmeccoahaaDoor
