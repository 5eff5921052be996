/- The plain mathematics of a journal: check sums, sectors, records. No program. -/
import Derived.Test.YtmimplmeccoahaaDoorDisk5
namespace Go.Proofs.YtmimplmeccoahaaDoor
open Go.RowKit
set_option linter.unusedVariables false
set_option maxRecDepth 20000

/-! check sums -/
def quarterT : List (BitVec 32) := [0x00000000#32, 0x1DB71064#32, 0x3B6E20C8#32, 0x26D930AC#32, 0x76DC4190#32, 0x6B6B51F4#32, 0x4DB26158#32, 0x5005713C#32,
  0xEDB88320#32, 0xF00F9344#32, 0xD6D6A3E8#32, 0xCB61B38C#32, 0x9B64C2B0#32, 0x86D3D2D4#32, 0xA00AE278#32, 0xBDBDF21C#32]
def nib (r : BitVec 32) : BitVec 32 := (r >>> 4) ^^^ quarterT.getD (r &&& 15#32).toNat 0#32
def crcB (r : BitVec 32) (c : UInt8) : BitVec 32 := nib (nib (r ^^^ BitVec.ofNat 32 c.toNat))
def crcF (r : BitVec 32) (l : List UInt8) : BitVec 32 := l.foldl crcB r
def crc (l : List UInt8) : Nat := (~~~ (crcF (~~~ 0#32) l)).toNat
theorem crc_lt (l : List UInt8) : crc l < 4294967296 := BitVec.isLt _

/-! numbers of four bytes, the lowest first -/
def num4 (n : Nat) : List UInt8 := [UInt8.ofNat n, UInt8.ofNat (n / 256), UInt8.ofNat (n / 65536), UInt8.ofNat (n / 16777216)]
def read4 (b : List UInt8) (at_ : Nat) : Nat := (b.getD at_ 0).toNat + 256 * (b.getD (at_ + 1) 0).toNat + 65536 * (b.getD (at_ + 2) 0).toNat + 16777216 * (b.getD (at_ + 3) 0).toNat

theorem num4_length (n : Nat) : (num4 n).length = 4 := rfl
theorem read4_lt (b : List UInt8) (a : Nat) : read4 b a < 4294967296 := by
  unfold read4
  have h1 := (b.getD a 0).toNat_lt
  have h2 := (b.getD (a + 1) 0).toNat_lt
  have h3 := (b.getD (a + 2) 0).toNat_lt
  have h4 := (b.getD (a + 3) 0).toNat_lt
  omega
theorem read4_num4 (p : List UInt8) (n : Nat) (q : List UInt8) (hn : n < 4294967296) (a : Nat) (ha : a = p.length) : read4 (p ++ num4 n ++ q) a = n := by
  subst ha
  have e : ∀ i, i < 4 → (p ++ num4 n ++ q).getD (p.length + i) 0 = (num4 n).getD i 0 := fun i hi => by
    rw [List.getD_eq_getElem?_getD, List.append_assoc, List.getElem?_append_right (by omega), Nat.add_sub_cancel_left, List.getElem?_append_left (by rw [num4_length]; exact hi), ← List.getD_eq_getElem?_getD]
  unfold read4
  rw [show p.length = p.length + 0 from rfl, e 0 (by omega), Nat.add_zero, e 1 (by omega), e 2 (by omega), e 3 (by omega)]
  simp [num4]
  omega
theorem num4_of (x0 x1 x2 x3 : UInt8) : num4 (x0.toNat + 256 * x1.toNat + 65536 * x2.toNat + 16777216 * x3.toNat) = [x0, x1, x2, x3] := by
  have h0 := x0.toNat_lt
  have h1 := x1.toNat_lt
  have h2 := x2.toNat_lt
  have h3 := x3.toNat_lt
  have g : ∀ (x : UInt8) (n : Nat), n % 256 = x.toNat → UInt8.ofNat n = x := fun x n hn => by
    apply UInt8.toNat_inj.1
    simp only [UInt8.toNat_ofNat']
    exact hn
  unfold num4
  rw [g x0 _ (by omega), g x1 _ (by omega), g x2 _ (by omega), g x3 _ (by omega)]
theorem num4_read4 (b : List UInt8) (a : Nat) (h : a + 4 ≤ b.length) : num4 (read4 b a) = (b.drop a).take 4 := by
  have hd : ∀ i, (hi : i < b.length) → b.getD i 0 = b[i] := fun i hi => by rw [List.getD_eq_getElem?_getD, List.getElem?_eq_getElem hi]; rfl
  unfold read4
  rw [num4_of]
  apply List.ext_getElem
  · simp; omega
  · intro i h1 h2
    simp only [List.length_cons, List.length_nil] at h1
    have : i = 0 ∨ i = 1 ∨ i = 2 ∨ i = 3 := by omega
    rw [List.getElem_take, List.getElem_drop]
    rcases this with rfl | rfl | rfl | rfl
    · exact hd a (by omega)
    · exact hd (a + 1) (by omega)
    · exact hd (a + 2) (by omega)
    · exact hd (a + 3) (by omega)

/-! sectors -/
def sealed (b : List UInt8) : List UInt8 := b ++ num4 (crc b)
def intact (s : List UInt8) : Bool := read4 s 60 == crc (s.take 60)
def magicB : List UInt8 := [72, 78, 75, 74]
def headB (g : Nat) : List UInt8 := sealed (magicB ++ num4 g ++ List.replicate 52 0)
def pad48 (b : List UInt8) : List UInt8 := b.take 48 ++ List.replicate (48 - b.length) 0
def pieceB (g k : Nat) (b : List UInt8) (i : Nat) : List UInt8 := sealed (num4 g ++ num4 k ++ num4 (b.length - 48 * i) ++ pad48 (b.drop (48 * i)))
def takes (n : Nat) : Nat := max 1 ((n + 47) / 48)
def halfN (n : Nat) : Nat := (n - 2) / 2
def placeN (n g p : Nat) : Nat := 2 + g % 2 * halfN n + p

theorem pad48_length (b : List UInt8) : (pad48 b).length = 48 := by simp [pad48]; omega
theorem headB_length (g : Nat) : (headB g).length = 64 := by simp [headB, sealed, num4, magicB]
theorem pieceB_length (g k : Nat) (b : List UInt8) (i : Nat) : (pieceB g k b i).length = 64 := by simp [pieceB, sealed, num4, pad48_length]
theorem takes_pos (n : Nat) : 0 < takes n := by unfold takes; omega

/-! the disk, written whole: with the check whether the power is on -/
def MD.wr (M : MD) (at_ : Nat) (s : List UInt8) : MD × Int := if M.down then (M, 341) else M.write at_ s
def writeAll (M : MD) : List (Nat × List UInt8) → MD × Int
  | [] => (M, 0)
  | (a, s) :: r => if (M.wr a s).2 = 0 then writeAll (M.wr a s).1 r else M.wr a s

/-! a journal -/
structure MJ where
  g : Nat
  L : List (List UInt8)
  dead : Bool

def takenL (L : List (List UInt8)) : Nat := (L.map fun b => takes b.length).sum
def pieceWrites (n g k p : Nat) (b : List UInt8) : List (Nat × List UInt8) := (List.range (takes b.length)).map fun i => (placeN n g (p + i), pieceB g k b i)

def appendM (M : MD) (J : MJ) (b : List UInt8) : MD × MJ × Int :=
  if J.dead then (M, J, 341) else if 65536 < b.length then (M, J, 2) else if halfN M.S.length - takenL J.L < takes b.length then (M, J, 7) else
    let r := writeAll M (pieceWrites M.S.length J.g J.L.length (takenL J.L) b)
    if r.2 = 0 then (r.1, { J with L := J.L ++ [b] }, 0) else (r.1, { J with dead := true }, r.2)

def replaceM (M : MD) (J : MJ) (b : List UInt8) : MD × MJ × Int :=
  if J.dead then (M, J, 341) else if 65536 < b.length then (M, J, 2) else if halfN M.S.length < takes b.length ∨ 4294967295 ≤ J.g then (M, J, 7) else
    let r := writeAll M (pieceWrites M.S.length (J.g + 1) 0 0 b ++ [((J.g + 1) % 2, headB (J.g + 1))])
    if r.2 = 0 then (r.1, { g := J.g + 1, L := [b], dead := false }, 0) else (r.1, { J with dead := true }, r.2)

def roomM (M : MD) (J : MJ) : Int := if halfN M.S.length - takenL J.L < 1 then -1 else min (48 * ((halfN M.S.length - takenL J.L : Nat) : Int)) 65536

def formatM (M : MD) : MD × Int := writeAll M ((List.range M.S.length).map (fun i => (i, List.replicate 64 0)) ++ [(0, headB 0)])

def isHead (s : List UInt8) (i : Nat) : Bool := intact s && (s.take 4 == magicB) && (read4 s 4 % 2 == i)
def genM (S : List (List UInt8)) : Option Nat :=
  let a := S.getD 0 []
  let b := S.getD 1 []
  if isHead b 1 && (!isHead a 0 || decide (read4 a 4 < read4 b 4)) then some (read4 b 4) else if isHead a 0 then some (read4 a 4) else none

/-- sector p of the half of a generation -/
def secM (S : List (List UInt8)) (g p : Nat) : List UInt8 := S.getD (placeN S.length g p) []
def pieceOk (s : List UInt8) (g k n : Nat) : Bool := intact s && read4 s 0 == g && read4 s 4 == k && read4 s 8 == n
def piecesOk (S : List (List UInt8)) (g k p n : Nat) : Nat → Bool
  | 0 => true
  | i + 1 => piecesOk S g k p n i && pieceOk (secM S g (p + i)) g k (n - 48 * i)
def bodyM (S : List (List UInt8)) (g p : Nat) : Nat → List UInt8
  | 0 => []
  | i + 1 => bodyM S g p i ++ ((secM S g (p + i)).drop 12).take 48
def recordM (S : List (List UInt8)) (g k p : Nat) : Option (List UInt8) :=
  if halfN S.length ≤ p then none else
    let n := read4 (secM S g p) 8
    if 65536 < n ∨ halfN S.length < p + takes n then none else
      if piecesOk S g k p n (takes n) then some ((bodyM S g p (takes n)).take n) else none
/-- the records of a generation, from one on -/
def recordsM (S : List (List UInt8)) (g : Nat) : Nat → Nat → Nat → List (List UInt8)
  | 0, _, _ => []
  | f + 1, k, p => match recordM S g k p with
    | none => []
    | some b => b :: recordsM S g f (k + 1) (p + takes b.length)

/-- Open: an error, or the journal -/
def openM (M : MD) : MJ ⊕ Int :=
  if M.S.length < 8 then .inr 6 else if M.down then .inr 341 else match genM M.S with
    | none => .inr 340
    | some g => .inl ⟨g, recordsM M.S g (halfN M.S.length + 1) 0 0, false⟩
end Go.Proofs.YtmimplmeccoahaaDoor
