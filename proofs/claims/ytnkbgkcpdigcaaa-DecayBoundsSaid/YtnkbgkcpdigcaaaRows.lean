/-
  No cell of these rows narrows 'for every input' (looked for: loops, veiled, ifaces, maps, wideKeys, modest, calm, conditions, laid).
  DERIVED. THE GIVEN ROWS OF THIS SEAT. 8 by the template 'for every input the law returns true; each argument reads behind the call as it read before'; 0 by the template 'total and deterministic' (their statements: YtnkbgkcpdigcaaaTotals.lean).
  GIVEN WITH THE SEED: the statements are not yours to turn. If you find one false, say at which input.
  Laid BY PROGRAM, IN A SANDBOX (cutbox-rows.mjs): the forced cells as the released guide's own fill.sh prints them over the translation dd2aedf3e67bfa3b… (all of the seat's roots in one cut). By AI agents, Wed Nov 11 2026. No macro, syntax, notation, axiom, sorry.
-/
import Derived.Test.YtnkbgkcpdigcaaaChecked
import GoSem.Claim
import GoSem.ClaimJoined
import GoSem.ClaimMapViews
import Derived.JoinedTies
import Derived.KernelRfl
namespace Go.Proofs.Ytnkbgkcpdigcaaa
/- THE CELL 'sum', in the pinned program and in every row, IS THE sha256 OF THE DUMP (.gsa) THAT YtnkbgkcpdigcaaaProg.lean LOADS. Nothing in Lean hashes anything: it is a label: what it is worth is what the hold of that sum in a sandbox is worth. -/
noncomputable def Try.pinned : Pinned := { name := "ytnkbgkcpdigcaaa", sum := "dd2aedf3e67bfa3b25881e014e21a45025b89cb8f2f0dde30497e94bcb373137", checked := Try.checked }
namespace Rows
def none {H : Type} : Left H := { results := [], args := [] }

/-- 'henkanlaw29.DecayCalls': WHATEVER THE INPUT: true; the input reads as it did. -/
def decayCallsSpec : ChangeSpec := { name := "decayCalls", fn := fun _ => fun
  | [d1, d2] => { results := [.lit (.bool true)], args := [d1, d2] }
  | _ => none }
def decayCallsRow : OpenClaim := { program := "ytnkbgkcpdigcaaa", sum := "dd2aedf3e67bfa3b25881e014e21a45025b89cb8f2f0dde30497e94bcb373137", func := "henkan/henkanlaw29.DecayCalls", spec := "decayCalls", unfollowed := true, recurses := true, apart := false }
def DecayCallsSaid : Prop := decayCallsRow.holds Try.pinned (OpenSpec.ofChange decayCallsSpec)

/-- ITS FALSE NEIGHBOUR: 'it returns false'. Refute it at one input. -/
def decayCallsWrong : ChangeSpec := { name := "decayCalls", fn := fun _ => fun
  | [d1, d2] => { results := [.lit (.bool false)], args := [d1, d2] }
  | _ => none }
def DecayCallsWrongFalsely : Prop := decayCallsRow.holds Try.pinned (OpenSpec.ofChange decayCallsWrong)

/-- 'henkanlaw29.DecayLives': WHATEVER THE INPUT: true; the input reads as it did. -/
def decayLivesSpec : ChangeSpec := { name := "decayLives", fn := fun _ => fun
  | [d] => { results := [.lit (.bool true)], args := [d] }
  | _ => none }
def decayLivesRow : OpenClaim := { program := "ytnkbgkcpdigcaaa", sum := "dd2aedf3e67bfa3b25881e014e21a45025b89cb8f2f0dde30497e94bcb373137", func := "henkan/henkanlaw29.DecayLives", spec := "decayLives", unfollowed := true, recurses := true, apart := false }
def DecayLivesSaid : Prop := decayLivesRow.holds Try.pinned (OpenSpec.ofChange decayLivesSpec)

/-- ITS FALSE NEIGHBOUR: 'it returns false'. Refute it at one input. -/
def decayLivesWrong : ChangeSpec := { name := "decayLives", fn := fun _ => fun
  | [d] => { results := [.lit (.bool false)], args := [d] }
  | _ => none }
def DecayLivesWrongFalsely : Prop := decayLivesRow.holds Try.pinned (OpenSpec.ofChange decayLivesWrong)

/-- 'henkanlaw29.DecayAddsUp': WHATEVER THE INPUT: true; the input reads as it did. -/
def decayAddsUpSpec : ChangeSpec := { name := "decayAddsUp", fn := fun _ => fun
  | [d1, d2, d3] => { results := [.lit (.bool true)], args := [d1, d2, d3] }
  | _ => none }
def decayAddsUpRow : OpenClaim := { program := "ytnkbgkcpdigcaaa", sum := "dd2aedf3e67bfa3b25881e014e21a45025b89cb8f2f0dde30497e94bcb373137", func := "henkan/henkanlaw29.DecayAddsUp", spec := "decayAddsUp", unfollowed := true, recurses := true, apart := false }
def DecayAddsUpSaid : Prop := decayAddsUpRow.holds Try.pinned (OpenSpec.ofChange decayAddsUpSpec)

/-- ITS FALSE NEIGHBOUR: 'it returns false'. Refute it at one input. -/
def decayAddsUpWrong : ChangeSpec := { name := "decayAddsUp", fn := fun _ => fun
  | [d1, d2, d3] => { results := [.lit (.bool false)], args := [d1, d2, d3] }
  | _ => none }
def DecayAddsUpWrongFalsely : Prop := decayAddsUpRow.holds Try.pinned (OpenSpec.ofChange decayAddsUpWrong)

/-- 'henkanlaw29.DecayOrders': WHATEVER THE INPUT: true; the input reads as it did. -/
def decayOrdersSpec : ChangeSpec := { name := "decayOrders", fn := fun _ => fun
  | [d] => { results := [.lit (.bool true)], args := [d] }
  | _ => none }
def decayOrdersRow : OpenClaim := { program := "ytnkbgkcpdigcaaa", sum := "dd2aedf3e67bfa3b25881e014e21a45025b89cb8f2f0dde30497e94bcb373137", func := "henkan/henkanlaw29.DecayOrders", spec := "decayOrders", unfollowed := true, recurses := true, apart := false }
def DecayOrdersSaid : Prop := decayOrdersRow.holds Try.pinned (OpenSpec.ofChange decayOrdersSpec)

/-- ITS FALSE NEIGHBOUR: 'it returns false'. Refute it at one input. -/
def decayOrdersWrong : ChangeSpec := { name := "decayOrders", fn := fun _ => fun
  | [d] => { results := [.lit (.bool false)], args := [d] }
  | _ => none }
def DecayOrdersWrongFalsely : Prop := decayOrdersRow.holds Try.pinned (OpenSpec.ofChange decayOrdersWrong)

/-- 'henkanlaw29.DecayBounds': WHATEVER THE INPUT: true; the input reads as it did. -/
def decayBoundsSpec : ChangeSpec := { name := "decayBounds", fn := fun _ => fun
  | [d] => { results := [.lit (.bool true)], args := [d] }
  | _ => none }
def decayBoundsRow : OpenClaim := { program := "ytnkbgkcpdigcaaa", sum := "dd2aedf3e67bfa3b25881e014e21a45025b89cb8f2f0dde30497e94bcb373137", func := "henkan/henkanlaw29.DecayBounds", spec := "decayBounds", unfollowed := true, recurses := true, apart := false }
def DecayBoundsSaid : Prop := decayBoundsRow.holds Try.pinned (OpenSpec.ofChange decayBoundsSpec)

/-- ITS FALSE NEIGHBOUR: 'it returns false'. Refute it at one input. -/
def decayBoundsWrong : ChangeSpec := { name := "decayBounds", fn := fun _ => fun
  | [d] => { results := [.lit (.bool false)], args := [d] }
  | _ => none }
def DecayBoundsWrongFalsely : Prop := decayBoundsRow.holds Try.pinned (OpenSpec.ofChange decayBoundsWrong)

/-- 'henkanlaw29.DecaySums': WHATEVER THE INPUT: true; the input reads as it did. -/
def decaySumsSpec : ChangeSpec := { name := "decaySums", fn := fun _ => fun
  | [d1, d2] => { results := [.lit (.bool true)], args := [d1, d2] }
  | _ => none }
def decaySumsRow : OpenClaim := { program := "ytnkbgkcpdigcaaa", sum := "dd2aedf3e67bfa3b25881e014e21a45025b89cb8f2f0dde30497e94bcb373137", func := "henkan/henkanlaw29.DecaySums", spec := "decaySums", unfollowed := true, recurses := true, apart := false }
def DecaySumsSaid : Prop := decaySumsRow.holds Try.pinned (OpenSpec.ofChange decaySumsSpec)

/-- ITS FALSE NEIGHBOUR: 'it returns false'. Refute it at one input. -/
def decaySumsWrong : ChangeSpec := { name := "decaySums", fn := fun _ => fun
  | [d1, d2] => { results := [.lit (.bool false)], args := [d1, d2] }
  | _ => none }
def DecaySumsWrongFalsely : Prop := decaySumsRow.holds Try.pinned (OpenSpec.ofChange decaySumsWrong)

/-- 'henkanlaw29.DecayEnds': WHATEVER THE INPUT: true; the input reads as it did. -/
def decayEndsSpec : ChangeSpec := { name := "decayEnds", fn := fun _ => fun
  | [d1, d2] => { results := [.lit (.bool true)], args := [d1, d2] }
  | _ => none }
def decayEndsRow : OpenClaim := { program := "ytnkbgkcpdigcaaa", sum := "dd2aedf3e67bfa3b25881e014e21a45025b89cb8f2f0dde30497e94bcb373137", func := "henkan/henkanlaw29.DecayEnds", spec := "decayEnds", unfollowed := true, recurses := true, apart := false }
def DecayEndsSaid : Prop := decayEndsRow.holds Try.pinned (OpenSpec.ofChange decayEndsSpec)

/-- ITS FALSE NEIGHBOUR: 'it returns false'. Refute it at one input. -/
def decayEndsWrong : ChangeSpec := { name := "decayEnds", fn := fun _ => fun
  | [d1, d2] => { results := [.lit (.bool false)], args := [d1, d2] }
  | _ => none }
def DecayEndsWrongFalsely : Prop := decayEndsRow.holds Try.pinned (OpenSpec.ofChange decayEndsWrong)

/-- 'henkanlaw29.DecayKnown': WHATEVER THE INPUT: true; the input reads as it did. -/
def decayKnownSpec : ChangeSpec := { name := "decayKnown", fn := fun _ => fun
  | [] => { results := [.lit (.bool true)], args := [] }
  | _ => none }
def decayKnownRow : OpenClaim := { program := "ytnkbgkcpdigcaaa", sum := "dd2aedf3e67bfa3b25881e014e21a45025b89cb8f2f0dde30497e94bcb373137", func := "henkan/henkanlaw29.DecayKnown", spec := "decayKnown", unfollowed := true, recurses := true, apart := false }
def DecayKnownSaid : Prop := decayKnownRow.holds Try.pinned (OpenSpec.ofChange decayKnownSpec)

/-- ITS FALSE NEIGHBOUR: 'it returns false'. Refute it at one input. -/
def decayKnownWrong : ChangeSpec := { name := "decayKnown", fn := fun _ => fun
  | [] => { results := [.lit (.bool false)], args := [] }
  | _ => none }
def DecayKnownWrongFalsely : Prop := decayKnownRow.holds Try.pinned (OpenSpec.ofChange decayKnownWrong)

/- THE SECOND FORM. 'bulk': how many values and letters a reading holds, each counted each time it is reached (what is shared counts as often as it is met; a slice's spare places count too). A statement '..UptoSaid' is the law's where the arguments, and the package variables that the reading takes, are together of bulk at most 1048576: NARROWER than '..Said'. Prove '..Said' where nothing that the law and all that it calls make is longer than what came in: it says more and counts as full. Else prove '..UptoSaid'. A law counts once. -/
mutual
def uptoBulk {H : Type} : DataW H → Nat
  | .lit (.string bytes) => bytes.length + 1
  | .lit _ => 1
  | .nil => 1
  | .ptr d => uptoBulk d + 1
  | .slice elems spare => uptoBulkAll elems + uptoBulkAll spare + 1
  | .agg parts => uptoBulkAll parts + 1
  | .iface _ d => uptoBulk d + 1
  | .map entries => uptoBulkEntries entries + 1
  | .held _ => 1
def uptoBulkAll {H : Type} : List (DataW H) → Nat
  | [] => 0
  | d :: r => uptoBulk d + uptoBulkAll r
def uptoBulkEntries {H : Type} : List (Lit × DataW H) → Nat
  | [] => 0
  | x :: r => uptoBulkEntry x + uptoBulkEntries r
def uptoBulkEntry {H : Type} : Lit × DataW H → Nat
  | (.string bytes, d) => bytes.length + uptoBulk d + 1
  | (_, d) => uptoBulk d + 1
 end
def uptoSmall : (H : Type) → List (DataW H) → Bool := fun _ ds => decide (uptoBulkAll ds ≤ 1048576)
def OpenSpec.upto (s : _root_.Go.ChangeSpec) : _root_.Go.OpenSpec := { _root_.Go.OpenSpec.ofChange s with cond := some uptoSmall }

/-- 'henkanlaw29.DecayCalls', WHERE WHAT IT READS IS OF BULK AT MOST 1048576: true; the input reads as it did. -/
def decayCallsUptoRow : OpenClaim := { program := "ytnkbgkcpdigcaaa", sum := "dd2aedf3e67bfa3b25881e014e21a45025b89cb8f2f0dde30497e94bcb373137", func := "henkan/henkanlaw29.DecayCalls", spec := "decayCalls", unfollowed := true, recurses := true, apart := false, narrowed := true }
def DecayCallsUptoSaid : Prop := decayCallsUptoRow.holds Try.pinned (OpenSpec.upto decayCallsSpec)

/-- 'henkanlaw29.DecayLives', WHERE WHAT IT READS IS OF BULK AT MOST 1048576: true; the input reads as it did. -/
def decayLivesUptoRow : OpenClaim := { program := "ytnkbgkcpdigcaaa", sum := "dd2aedf3e67bfa3b25881e014e21a45025b89cb8f2f0dde30497e94bcb373137", func := "henkan/henkanlaw29.DecayLives", spec := "decayLives", unfollowed := true, recurses := true, apart := false, narrowed := true }
def DecayLivesUptoSaid : Prop := decayLivesUptoRow.holds Try.pinned (OpenSpec.upto decayLivesSpec)

/-- 'henkanlaw29.DecayAddsUp', WHERE WHAT IT READS IS OF BULK AT MOST 1048576: true; the input reads as it did. -/
def decayAddsUpUptoRow : OpenClaim := { program := "ytnkbgkcpdigcaaa", sum := "dd2aedf3e67bfa3b25881e014e21a45025b89cb8f2f0dde30497e94bcb373137", func := "henkan/henkanlaw29.DecayAddsUp", spec := "decayAddsUp", unfollowed := true, recurses := true, apart := false, narrowed := true }
def DecayAddsUpUptoSaid : Prop := decayAddsUpUptoRow.holds Try.pinned (OpenSpec.upto decayAddsUpSpec)

/-- 'henkanlaw29.DecayOrders', WHERE WHAT IT READS IS OF BULK AT MOST 1048576: true; the input reads as it did. -/
def decayOrdersUptoRow : OpenClaim := { program := "ytnkbgkcpdigcaaa", sum := "dd2aedf3e67bfa3b25881e014e21a45025b89cb8f2f0dde30497e94bcb373137", func := "henkan/henkanlaw29.DecayOrders", spec := "decayOrders", unfollowed := true, recurses := true, apart := false, narrowed := true }
def DecayOrdersUptoSaid : Prop := decayOrdersUptoRow.holds Try.pinned (OpenSpec.upto decayOrdersSpec)

/-- 'henkanlaw29.DecayBounds', WHERE WHAT IT READS IS OF BULK AT MOST 1048576: true; the input reads as it did. -/
def decayBoundsUptoRow : OpenClaim := { program := "ytnkbgkcpdigcaaa", sum := "dd2aedf3e67bfa3b25881e014e21a45025b89cb8f2f0dde30497e94bcb373137", func := "henkan/henkanlaw29.DecayBounds", spec := "decayBounds", unfollowed := true, recurses := true, apart := false, narrowed := true }
def DecayBoundsUptoSaid : Prop := decayBoundsUptoRow.holds Try.pinned (OpenSpec.upto decayBoundsSpec)

/-- 'henkanlaw29.DecaySums', WHERE WHAT IT READS IS OF BULK AT MOST 1048576: true; the input reads as it did. -/
def decaySumsUptoRow : OpenClaim := { program := "ytnkbgkcpdigcaaa", sum := "dd2aedf3e67bfa3b25881e014e21a45025b89cb8f2f0dde30497e94bcb373137", func := "henkan/henkanlaw29.DecaySums", spec := "decaySums", unfollowed := true, recurses := true, apart := false, narrowed := true }
def DecaySumsUptoSaid : Prop := decaySumsUptoRow.holds Try.pinned (OpenSpec.upto decaySumsSpec)

/-- 'henkanlaw29.DecayEnds', WHERE WHAT IT READS IS OF BULK AT MOST 1048576: true; the input reads as it did. -/
def decayEndsUptoRow : OpenClaim := { program := "ytnkbgkcpdigcaaa", sum := "dd2aedf3e67bfa3b25881e014e21a45025b89cb8f2f0dde30497e94bcb373137", func := "henkan/henkanlaw29.DecayEnds", spec := "decayEnds", unfollowed := true, recurses := true, apart := false, narrowed := true }
def DecayEndsUptoSaid : Prop := decayEndsUptoRow.holds Try.pinned (OpenSpec.upto decayEndsSpec)

/-- 'henkanlaw29.DecayKnown', WHERE WHAT IT READS IS OF BULK AT MOST 1048576: true; the input reads as it did. -/
def decayKnownUptoRow : OpenClaim := { program := "ytnkbgkcpdigcaaa", sum := "dd2aedf3e67bfa3b25881e014e21a45025b89cb8f2f0dde30497e94bcb373137", func := "henkan/henkanlaw29.DecayKnown", spec := "decayKnown", unfollowed := true, recurses := true, apart := false, narrowed := true }
def DecayKnownUptoSaid : Prop := decayKnownUptoRow.holds Try.pinned (OpenSpec.upto decayKnownSpec)

end Rows
end Go.Proofs.Ytnkbgkcpdigcaaa
