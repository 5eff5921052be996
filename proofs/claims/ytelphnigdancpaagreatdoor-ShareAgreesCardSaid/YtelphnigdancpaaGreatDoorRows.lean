/-
  NARROWER THAN 'FOR EVERY INPUT', by the rows' own cells (each row's printed sentence says how): ShareSince: laid · ShareReceives: laid · ShareEncodes: laid · ShareSuffices: laid · ShareAgrees: laid · ShareAgain: laid · ShareDecodes: laid · ShareReturns: laid · ShareKnown: laid.
  DERIVED. THE GIVEN ROWS OF THIS SEAT. 9 by the template 'for every input the law returns true; each argument reads behind the call as it read before'; 0 by the template 'total and deterministic' (their statements: YtelphnigdancpaaGreatDoorTotals.lean).
  GIVEN WITH THE SEED: the statements are not yours to turn. If you find one false, say at which input.
  Laid BY PROGRAM, IN A SANDBOX (cutbox-rows.mjs): the forced cells as the released guide's own fill.sh prints them over the translation cac61bbbdc9b5762… (all of the seat's roots in one cut). By AI agents, Wed Nov 11 2026. No macro, syntax, notation, axiom, sorry.
-/
import Derived.Test.YtelphnigdancpaaGreatDoorChecked
import GoSem.PinnedTables
import GoSem.Claim
import GoSem.ClaimJoined
import GoSem.ClaimMapViews
import Derived.JoinedTies
import Derived.KernelRfl
namespace Go.Proofs.YtelphnigdancpaaGreatDoor
/- THE CELL 'sum', in the pinned program and in every row, IS THE sha256 OF THE DUMP (.gsa) THAT YtelphnigdancpaaGreatDoorProg.lean LOADS. Nothing in Lean hashes anything: it is a label: what it is worth is what the hold of that sum in a sandbox is worth. -/
noncomputable def Tryz.pinned : Pinned := { name := "ytelphnigdancpaagreatdoor", sum := "cac61bbbdc9b576244fcdf497cd010c1eaf6c4c20519a6bb9d5eb8f02744eace", checked := Tryz.checked }
namespace Rows
def none {H : Type} : Left H := { results := [], args := [] }

/- WHAT THE LISTED PACKAGE-LEVEL VARIABLES READ AS WHEN THE CALL BEGINS. Each datum BY PROGRAM (the guide's laid-datum.mjs) off the statement by which the dump's own 'gosem.cut.vars' lays the variable. In a bare row this is a premise. The card (YtelphnigdancpaaGreatDoorCards.lean) ties it to the program's text. -/
def laid_unicode_utf8_acceptRanges {H : Type} : DataW H := .agg [.agg [.lit (.int .u8 128), .lit (.int .u8 191)], .agg [.lit (.int .u8 160), .lit (.int .u8 191)], .agg [.lit (.int .u8 128), .lit (.int .u8 159)], .agg [.lit (.int .u8 144), .lit (.int .u8 191)], .agg [.lit (.int .u8 128), .lit (.int .u8 143)], .agg [.lit (.int .u8 0), .lit (.int .u8 0)], .agg [.lit (.int .u8 0), .lit (.int .u8 0)], .agg [.lit (.int .u8 0), .lit (.int .u8 0)], .agg [.lit (.int .u8 0), .lit (.int .u8 0)], .agg [.lit (.int .u8 0), .lit (.int .u8 0)], .agg [.lit (.int .u8 0), .lit (.int .u8 0)], .agg [.lit (.int .u8 0), .lit (.int .u8 0)], .agg [.lit (.int .u8 0), .lit (.int .u8 0)], .agg [.lit (.int .u8 0), .lit (.int .u8 0)], .agg [.lit (.int .u8 0), .lit (.int .u8 0)], .agg [.lit (.int .u8 0), .lit (.int .u8 0)]]
/-- One of Go's own tables, pinned by name: the form's constant. -/
def laid_unicode_utf8_first : DataW Unit := Go.Pinned.utf8First

/-- 'henkanlaw37.ShareSince': WHATEVER THE INPUT: true; the input reads as it did. -/
def shareSinceSpec : ChangeSpec := { name := "shareSince", fn := fun _ => fun
  | [d1, d2, d3] => { results := [.lit (.bool true)], args := [d1, d2, d3] }
  | _ => none }
def shareSinceRow : OpenClaim := { program := "ytelphnigdancpaagreatdoor", sum := "cac61bbbdc9b576244fcdf497cd010c1eaf6c4c20519a6bb9d5eb8f02744eace", func := "henkan/henkanlaw37.ShareSince", spec := "shareSince", inPlace := ["internal/bytealg.IndexByteString", "internal/bytealg.IndexString"], unfollowed := true, recurses := true, named := ["internal/bytealg.MaxLen", "unicode/utf8.first", "unicode/utf8.acceptRanges"], apart := false, laid := [("unicode/utf8.acceptRanges", laid_unicode_utf8_acceptRanges), ("unicode/utf8.first", laid_unicode_utf8_first)] }
def ShareSinceSaid : Prop := shareSinceRow.holds Tryz.pinned (OpenSpec.ofChange shareSinceSpec)

/-- ITS FALSE NEIGHBOUR: 'it returns false'. Refute it at one input. -/
def shareSinceWrong : ChangeSpec := { name := "shareSince", fn := fun _ => fun
  | [d1, d2, d3] => { results := [.lit (.bool false)], args := [d1, d2, d3] }
  | _ => none }
def ShareSinceWrongFalsely : Prop := shareSinceRow.holds Tryz.pinned (OpenSpec.ofChange shareSinceWrong)

/-- 'henkanlaw37.ShareReceives': WHATEVER THE INPUT: true; the input reads as it did. -/
def shareReceivesSpec : ChangeSpec := { name := "shareReceives", fn := fun _ => fun
  | [d1, d2] => { results := [.lit (.bool true)], args := [d1, d2] }
  | _ => none }
def shareReceivesRow : OpenClaim := { program := "ytelphnigdancpaagreatdoor", sum := "cac61bbbdc9b576244fcdf497cd010c1eaf6c4c20519a6bb9d5eb8f02744eace", func := "henkan/henkanlaw37.ShareReceives", spec := "shareReceives", inPlace := ["internal/bytealg.IndexByteString", "internal/bytealg.IndexString"], unfollowed := true, recurses := true, named := ["internal/bytealg.MaxLen", "unicode/utf8.first", "unicode/utf8.acceptRanges"], apart := false, laid := [("unicode/utf8.acceptRanges", laid_unicode_utf8_acceptRanges), ("unicode/utf8.first", laid_unicode_utf8_first)] }
def ShareReceivesSaid : Prop := shareReceivesRow.holds Tryz.pinned (OpenSpec.ofChange shareReceivesSpec)

/-- ITS FALSE NEIGHBOUR: 'it returns false'. Refute it at one input. -/
def shareReceivesWrong : ChangeSpec := { name := "shareReceives", fn := fun _ => fun
  | [d1, d2] => { results := [.lit (.bool false)], args := [d1, d2] }
  | _ => none }
def ShareReceivesWrongFalsely : Prop := shareReceivesRow.holds Tryz.pinned (OpenSpec.ofChange shareReceivesWrong)

/-- 'henkanlaw37.ShareEncodes': WHATEVER THE INPUT: true; the input reads as it did. -/
def shareEncodesSpec : ChangeSpec := { name := "shareEncodes", fn := fun _ => fun
  | [d] => { results := [.lit (.bool true)], args := [d] }
  | _ => none }
def shareEncodesRow : OpenClaim := { program := "ytelphnigdancpaagreatdoor", sum := "cac61bbbdc9b576244fcdf497cd010c1eaf6c4c20519a6bb9d5eb8f02744eace", func := "henkan/henkanlaw37.ShareEncodes", spec := "shareEncodes", inPlace := ["internal/bytealg.IndexByteString", "internal/bytealg.IndexString"], unfollowed := true, recurses := true, named := ["internal/bytealg.MaxLen", "unicode/utf8.first", "unicode/utf8.acceptRanges"], apart := false, laid := [("unicode/utf8.acceptRanges", laid_unicode_utf8_acceptRanges), ("unicode/utf8.first", laid_unicode_utf8_first)] }
def ShareEncodesSaid : Prop := shareEncodesRow.holds Tryz.pinned (OpenSpec.ofChange shareEncodesSpec)

/-- ITS FALSE NEIGHBOUR: 'it returns false'. Refute it at one input. -/
def shareEncodesWrong : ChangeSpec := { name := "shareEncodes", fn := fun _ => fun
  | [d] => { results := [.lit (.bool false)], args := [d] }
  | _ => none }
def ShareEncodesWrongFalsely : Prop := shareEncodesRow.holds Tryz.pinned (OpenSpec.ofChange shareEncodesWrong)

/-- 'henkanlaw37.ShareSuffices': WHATEVER THE INPUT: true; the input reads as it did. -/
def shareSufficesSpec : ChangeSpec := { name := "shareSuffices", fn := fun _ => fun
  | [d1, d2, d3] => { results := [.lit (.bool true)], args := [d1, d2, d3] }
  | _ => none }
def shareSufficesRow : OpenClaim := { program := "ytelphnigdancpaagreatdoor", sum := "cac61bbbdc9b576244fcdf497cd010c1eaf6c4c20519a6bb9d5eb8f02744eace", func := "henkan/henkanlaw37.ShareSuffices", spec := "shareSuffices", inPlace := ["internal/bytealg.IndexByteString", "internal/bytealg.IndexString"], unfollowed := true, recurses := true, named := ["internal/bytealg.MaxLen", "unicode/utf8.first", "unicode/utf8.acceptRanges"], apart := false, laid := [("unicode/utf8.acceptRanges", laid_unicode_utf8_acceptRanges), ("unicode/utf8.first", laid_unicode_utf8_first)] }
def ShareSufficesSaid : Prop := shareSufficesRow.holds Tryz.pinned (OpenSpec.ofChange shareSufficesSpec)

/-- ITS FALSE NEIGHBOUR: 'it returns false'. Refute it at one input. -/
def shareSufficesWrong : ChangeSpec := { name := "shareSuffices", fn := fun _ => fun
  | [d1, d2, d3] => { results := [.lit (.bool false)], args := [d1, d2, d3] }
  | _ => none }
def ShareSufficesWrongFalsely : Prop := shareSufficesRow.holds Tryz.pinned (OpenSpec.ofChange shareSufficesWrong)

/-- 'henkanlaw37.ShareAgrees': WHATEVER THE INPUT: true; the input reads as it did. -/
def shareAgreesSpec : ChangeSpec := { name := "shareAgrees", fn := fun _ => fun
  | [d] => { results := [.lit (.bool true)], args := [d] }
  | _ => none }
def shareAgreesRow : OpenClaim := { program := "ytelphnigdancpaagreatdoor", sum := "cac61bbbdc9b576244fcdf497cd010c1eaf6c4c20519a6bb9d5eb8f02744eace", func := "henkan/henkanlaw37.ShareAgrees", spec := "shareAgrees", inPlace := ["internal/bytealg.IndexByteString", "internal/bytealg.IndexString"], unfollowed := true, recurses := true, named := ["internal/bytealg.MaxLen", "unicode/utf8.first", "unicode/utf8.acceptRanges"], apart := false, laid := [("unicode/utf8.acceptRanges", laid_unicode_utf8_acceptRanges), ("unicode/utf8.first", laid_unicode_utf8_first)] }
def ShareAgreesSaid : Prop := shareAgreesRow.holds Tryz.pinned (OpenSpec.ofChange shareAgreesSpec)

/-- ITS FALSE NEIGHBOUR: 'it returns false'. Refute it at one input. -/
def shareAgreesWrong : ChangeSpec := { name := "shareAgrees", fn := fun _ => fun
  | [d] => { results := [.lit (.bool false)], args := [d] }
  | _ => none }
def ShareAgreesWrongFalsely : Prop := shareAgreesRow.holds Tryz.pinned (OpenSpec.ofChange shareAgreesWrong)

/-- 'henkanlaw37.ShareAgain': WHATEVER THE INPUT: true; the input reads as it did. -/
def shareAgainSpec : ChangeSpec := { name := "shareAgain", fn := fun _ => fun
  | [d1, d2, d3, d4] => { results := [.lit (.bool true)], args := [d1, d2, d3, d4] }
  | _ => none }
def shareAgainRow : OpenClaim := { program := "ytelphnigdancpaagreatdoor", sum := "cac61bbbdc9b576244fcdf497cd010c1eaf6c4c20519a6bb9d5eb8f02744eace", func := "henkan/henkanlaw37.ShareAgain", spec := "shareAgain", inPlace := ["internal/bytealg.IndexByteString", "internal/bytealg.IndexString"], unfollowed := true, recurses := true, named := ["internal/bytealg.MaxLen", "unicode/utf8.first", "unicode/utf8.acceptRanges"], apart := false, laid := [("unicode/utf8.acceptRanges", laid_unicode_utf8_acceptRanges), ("unicode/utf8.first", laid_unicode_utf8_first)] }
def ShareAgainSaid : Prop := shareAgainRow.holds Tryz.pinned (OpenSpec.ofChange shareAgainSpec)

/-- ITS FALSE NEIGHBOUR: 'it returns false'. Refute it at one input. -/
def shareAgainWrong : ChangeSpec := { name := "shareAgain", fn := fun _ => fun
  | [d1, d2, d3, d4] => { results := [.lit (.bool false)], args := [d1, d2, d3, d4] }
  | _ => none }
def ShareAgainWrongFalsely : Prop := shareAgainRow.holds Tryz.pinned (OpenSpec.ofChange shareAgainWrong)

/-- 'henkanlaw37.ShareDecodes': WHATEVER THE INPUT: true; the input reads as it did. -/
def shareDecodesSpec : ChangeSpec := { name := "shareDecodes", fn := fun _ => fun
  | [d] => { results := [.lit (.bool true)], args := [d] }
  | _ => none }
def shareDecodesRow : OpenClaim := { program := "ytelphnigdancpaagreatdoor", sum := "cac61bbbdc9b576244fcdf497cd010c1eaf6c4c20519a6bb9d5eb8f02744eace", func := "henkan/henkanlaw37.ShareDecodes", spec := "shareDecodes", inPlace := ["internal/bytealg.IndexByteString", "internal/bytealg.IndexString"], unfollowed := true, recurses := true, named := ["internal/bytealg.MaxLen", "unicode/utf8.first", "unicode/utf8.acceptRanges"], apart := false, laid := [("unicode/utf8.acceptRanges", laid_unicode_utf8_acceptRanges), ("unicode/utf8.first", laid_unicode_utf8_first)] }
def ShareDecodesSaid : Prop := shareDecodesRow.holds Tryz.pinned (OpenSpec.ofChange shareDecodesSpec)

/-- ITS FALSE NEIGHBOUR: 'it returns false'. Refute it at one input. -/
def shareDecodesWrong : ChangeSpec := { name := "shareDecodes", fn := fun _ => fun
  | [d] => { results := [.lit (.bool false)], args := [d] }
  | _ => none }
def ShareDecodesWrongFalsely : Prop := shareDecodesRow.holds Tryz.pinned (OpenSpec.ofChange shareDecodesWrong)

/-- 'henkanlaw37.ShareReturns': WHATEVER THE INPUT: true; the input reads as it did. -/
def shareReturnsSpec : ChangeSpec := { name := "shareReturns", fn := fun _ => fun
  | [d1, d2] => { results := [.lit (.bool true)], args := [d1, d2] }
  | _ => none }
def shareReturnsRow : OpenClaim := { program := "ytelphnigdancpaagreatdoor", sum := "cac61bbbdc9b576244fcdf497cd010c1eaf6c4c20519a6bb9d5eb8f02744eace", func := "henkan/henkanlaw37.ShareReturns", spec := "shareReturns", inPlace := ["internal/bytealg.IndexByteString", "internal/bytealg.IndexString"], unfollowed := true, recurses := true, named := ["internal/bytealg.MaxLen", "unicode/utf8.first", "unicode/utf8.acceptRanges"], apart := false, laid := [("unicode/utf8.acceptRanges", laid_unicode_utf8_acceptRanges), ("unicode/utf8.first", laid_unicode_utf8_first)] }
def ShareReturnsSaid : Prop := shareReturnsRow.holds Tryz.pinned (OpenSpec.ofChange shareReturnsSpec)

/-- ITS FALSE NEIGHBOUR: 'it returns false'. Refute it at one input. -/
def shareReturnsWrong : ChangeSpec := { name := "shareReturns", fn := fun _ => fun
  | [d1, d2] => { results := [.lit (.bool false)], args := [d1, d2] }
  | _ => none }
def ShareReturnsWrongFalsely : Prop := shareReturnsRow.holds Tryz.pinned (OpenSpec.ofChange shareReturnsWrong)

/-- 'henkanlaw37.ShareKnown': WHATEVER THE INPUT: true; the input reads as it did. -/
def shareKnownSpec : ChangeSpec := { name := "shareKnown", fn := fun _ => fun
  | [] => { results := [.lit (.bool true)], args := [] }
  | _ => none }
def shareKnownRow : OpenClaim := { program := "ytelphnigdancpaagreatdoor", sum := "cac61bbbdc9b576244fcdf497cd010c1eaf6c4c20519a6bb9d5eb8f02744eace", func := "henkan/henkanlaw37.ShareKnown", spec := "shareKnown", inPlace := ["internal/bytealg.IndexByteString", "internal/bytealg.IndexString"], unfollowed := true, recurses := true, named := ["internal/bytealg.MaxLen", "unicode/utf8.first", "unicode/utf8.acceptRanges"], apart := false, laid := [("unicode/utf8.acceptRanges", laid_unicode_utf8_acceptRanges), ("unicode/utf8.first", laid_unicode_utf8_first)] }
def ShareKnownSaid : Prop := shareKnownRow.holds Tryz.pinned (OpenSpec.ofChange shareKnownSpec)

/-- ITS FALSE NEIGHBOUR: 'it returns false'. Refute it at one input. -/
def shareKnownWrong : ChangeSpec := { name := "shareKnown", fn := fun _ => fun
  | [] => { results := [.lit (.bool false)], args := [] }
  | _ => none }
def ShareKnownWrongFalsely : Prop := shareKnownRow.holds Tryz.pinned (OpenSpec.ofChange shareKnownWrong)

/- THE SECOND FORM. 'bulk': how many values and letters a reading holds, each counted each time it is reached (what is shared counts as often as it is met; a slice's spare places count too). A statement '..UptoSaid' is the law's where the arguments, and the package variables that the reading takes, are together of bulk at most 1048576: NARROWER than '..Said'. Prove '..Said' where nothing that the law and all that it calls make is longer than what came in: it says more and counts as full. Else prove '..UptoSaid'. A law counts once. -/
mutual
def uptoBulk {H : Type} : DataW H → Nat
  | .lit (.string bytes) => bytes.length + 1
  | .lit _ => 1
  | .nil => 1
  | .ptr d => uptoBulk d + 1
  | .slice elems spare => uptoBulkAll elems + uptoBulkAll spare + 1
  | .agg parts => uptoBulkAll parts + 1
  | .iface _ d => uptoBulk d + 1
  | .map entries => uptoBulkEntries entries + 1
  | .held _ => 1
def uptoBulkAll {H : Type} : List (DataW H) → Nat
  | [] => 0
  | d :: r => uptoBulk d + uptoBulkAll r
def uptoBulkEntries {H : Type} : List (Lit × DataW H) → Nat
  | [] => 0
  | x :: r => uptoBulkEntry x + uptoBulkEntries r
def uptoBulkEntry {H : Type} : Lit × DataW H → Nat
  | (.string bytes, d) => bytes.length + uptoBulk d + 1
  | (_, d) => uptoBulk d + 1
 end
def uptoSmall : (H : Type) → List (DataW H) → Bool := fun _ ds => decide (uptoBulkAll ds ≤ 1048576)
def OpenSpec.upto (s : _root_.Go.ChangeSpec) : _root_.Go.OpenSpec := { _root_.Go.OpenSpec.ofChange s with cond := some uptoSmall }

/-- 'henkanlaw37.ShareSince', WHERE WHAT IT READS IS OF BULK AT MOST 1048576: true; the input reads as it did. -/
def shareSinceUptoRow : OpenClaim := { program := "ytelphnigdancpaagreatdoor", sum := "cac61bbbdc9b576244fcdf497cd010c1eaf6c4c20519a6bb9d5eb8f02744eace", func := "henkan/henkanlaw37.ShareSince", spec := "shareSince", inPlace := ["internal/bytealg.IndexByteString", "internal/bytealg.IndexString"], unfollowed := true, recurses := true, named := ["internal/bytealg.MaxLen", "unicode/utf8.first", "unicode/utf8.acceptRanges"], apart := false, laid := [("unicode/utf8.acceptRanges", laid_unicode_utf8_acceptRanges), ("unicode/utf8.first", laid_unicode_utf8_first)], narrowed := true }
def ShareSinceUptoSaid : Prop := shareSinceUptoRow.holds Tryz.pinned (OpenSpec.upto shareSinceSpec)

/-- 'henkanlaw37.ShareReceives', WHERE WHAT IT READS IS OF BULK AT MOST 1048576: true; the input reads as it did. -/
def shareReceivesUptoRow : OpenClaim := { program := "ytelphnigdancpaagreatdoor", sum := "cac61bbbdc9b576244fcdf497cd010c1eaf6c4c20519a6bb9d5eb8f02744eace", func := "henkan/henkanlaw37.ShareReceives", spec := "shareReceives", inPlace := ["internal/bytealg.IndexByteString", "internal/bytealg.IndexString"], unfollowed := true, recurses := true, named := ["internal/bytealg.MaxLen", "unicode/utf8.first", "unicode/utf8.acceptRanges"], apart := false, laid := [("unicode/utf8.acceptRanges", laid_unicode_utf8_acceptRanges), ("unicode/utf8.first", laid_unicode_utf8_first)], narrowed := true }
def ShareReceivesUptoSaid : Prop := shareReceivesUptoRow.holds Tryz.pinned (OpenSpec.upto shareReceivesSpec)

/-- 'henkanlaw37.ShareEncodes', WHERE WHAT IT READS IS OF BULK AT MOST 1048576: true; the input reads as it did. -/
def shareEncodesUptoRow : OpenClaim := { program := "ytelphnigdancpaagreatdoor", sum := "cac61bbbdc9b576244fcdf497cd010c1eaf6c4c20519a6bb9d5eb8f02744eace", func := "henkan/henkanlaw37.ShareEncodes", spec := "shareEncodes", inPlace := ["internal/bytealg.IndexByteString", "internal/bytealg.IndexString"], unfollowed := true, recurses := true, named := ["internal/bytealg.MaxLen", "unicode/utf8.first", "unicode/utf8.acceptRanges"], apart := false, laid := [("unicode/utf8.acceptRanges", laid_unicode_utf8_acceptRanges), ("unicode/utf8.first", laid_unicode_utf8_first)], narrowed := true }
def ShareEncodesUptoSaid : Prop := shareEncodesUptoRow.holds Tryz.pinned (OpenSpec.upto shareEncodesSpec)

/-- 'henkanlaw37.ShareSuffices', WHERE WHAT IT READS IS OF BULK AT MOST 1048576: true; the input reads as it did. -/
def shareSufficesUptoRow : OpenClaim := { program := "ytelphnigdancpaagreatdoor", sum := "cac61bbbdc9b576244fcdf497cd010c1eaf6c4c20519a6bb9d5eb8f02744eace", func := "henkan/henkanlaw37.ShareSuffices", spec := "shareSuffices", inPlace := ["internal/bytealg.IndexByteString", "internal/bytealg.IndexString"], unfollowed := true, recurses := true, named := ["internal/bytealg.MaxLen", "unicode/utf8.first", "unicode/utf8.acceptRanges"], apart := false, laid := [("unicode/utf8.acceptRanges", laid_unicode_utf8_acceptRanges), ("unicode/utf8.first", laid_unicode_utf8_first)], narrowed := true }
def ShareSufficesUptoSaid : Prop := shareSufficesUptoRow.holds Tryz.pinned (OpenSpec.upto shareSufficesSpec)

/-- 'henkanlaw37.ShareAgrees', WHERE WHAT IT READS IS OF BULK AT MOST 1048576: true; the input reads as it did. -/
def shareAgreesUptoRow : OpenClaim := { program := "ytelphnigdancpaagreatdoor", sum := "cac61bbbdc9b576244fcdf497cd010c1eaf6c4c20519a6bb9d5eb8f02744eace", func := "henkan/henkanlaw37.ShareAgrees", spec := "shareAgrees", inPlace := ["internal/bytealg.IndexByteString", "internal/bytealg.IndexString"], unfollowed := true, recurses := true, named := ["internal/bytealg.MaxLen", "unicode/utf8.first", "unicode/utf8.acceptRanges"], apart := false, laid := [("unicode/utf8.acceptRanges", laid_unicode_utf8_acceptRanges), ("unicode/utf8.first", laid_unicode_utf8_first)], narrowed := true }
def ShareAgreesUptoSaid : Prop := shareAgreesUptoRow.holds Tryz.pinned (OpenSpec.upto shareAgreesSpec)

/-- 'henkanlaw37.ShareAgain', WHERE WHAT IT READS IS OF BULK AT MOST 1048576: true; the input reads as it did. -/
def shareAgainUptoRow : OpenClaim := { program := "ytelphnigdancpaagreatdoor", sum := "cac61bbbdc9b576244fcdf497cd010c1eaf6c4c20519a6bb9d5eb8f02744eace", func := "henkan/henkanlaw37.ShareAgain", spec := "shareAgain", inPlace := ["internal/bytealg.IndexByteString", "internal/bytealg.IndexString"], unfollowed := true, recurses := true, named := ["internal/bytealg.MaxLen", "unicode/utf8.first", "unicode/utf8.acceptRanges"], apart := false, laid := [("unicode/utf8.acceptRanges", laid_unicode_utf8_acceptRanges), ("unicode/utf8.first", laid_unicode_utf8_first)], narrowed := true }
def ShareAgainUptoSaid : Prop := shareAgainUptoRow.holds Tryz.pinned (OpenSpec.upto shareAgainSpec)

/-- 'henkanlaw37.ShareDecodes', WHERE WHAT IT READS IS OF BULK AT MOST 1048576: true; the input reads as it did. -/
def shareDecodesUptoRow : OpenClaim := { program := "ytelphnigdancpaagreatdoor", sum := "cac61bbbdc9b576244fcdf497cd010c1eaf6c4c20519a6bb9d5eb8f02744eace", func := "henkan/henkanlaw37.ShareDecodes", spec := "shareDecodes", inPlace := ["internal/bytealg.IndexByteString", "internal/bytealg.IndexString"], unfollowed := true, recurses := true, named := ["internal/bytealg.MaxLen", "unicode/utf8.first", "unicode/utf8.acceptRanges"], apart := false, laid := [("unicode/utf8.acceptRanges", laid_unicode_utf8_acceptRanges), ("unicode/utf8.first", laid_unicode_utf8_first)], narrowed := true }
def ShareDecodesUptoSaid : Prop := shareDecodesUptoRow.holds Tryz.pinned (OpenSpec.upto shareDecodesSpec)

/-- 'henkanlaw37.ShareReturns', WHERE WHAT IT READS IS OF BULK AT MOST 1048576: true; the input reads as it did. -/
def shareReturnsUptoRow : OpenClaim := { program := "ytelphnigdancpaagreatdoor", sum := "cac61bbbdc9b576244fcdf497cd010c1eaf6c4c20519a6bb9d5eb8f02744eace", func := "henkan/henkanlaw37.ShareReturns", spec := "shareReturns", inPlace := ["internal/bytealg.IndexByteString", "internal/bytealg.IndexString"], unfollowed := true, recurses := true, named := ["internal/bytealg.MaxLen", "unicode/utf8.first", "unicode/utf8.acceptRanges"], apart := false, laid := [("unicode/utf8.acceptRanges", laid_unicode_utf8_acceptRanges), ("unicode/utf8.first", laid_unicode_utf8_first)], narrowed := true }
def ShareReturnsUptoSaid : Prop := shareReturnsUptoRow.holds Tryz.pinned (OpenSpec.upto shareReturnsSpec)

/-- 'henkanlaw37.ShareKnown', WHERE WHAT IT READS IS OF BULK AT MOST 1048576: true; the input reads as it did. -/
def shareKnownUptoRow : OpenClaim := { program := "ytelphnigdancpaagreatdoor", sum := "cac61bbbdc9b576244fcdf497cd010c1eaf6c4c20519a6bb9d5eb8f02744eace", func := "henkan/henkanlaw37.ShareKnown", spec := "shareKnown", inPlace := ["internal/bytealg.IndexByteString", "internal/bytealg.IndexString"], unfollowed := true, recurses := true, named := ["internal/bytealg.MaxLen", "unicode/utf8.first", "unicode/utf8.acceptRanges"], apart := false, laid := [("unicode/utf8.acceptRanges", laid_unicode_utf8_acceptRanges), ("unicode/utf8.first", laid_unicode_utf8_first)], narrowed := true }
def ShareKnownUptoSaid : Prop := shareKnownUptoRow.holds Tryz.pinned (OpenSpec.upto shareKnownSpec)

end Rows
end Go.Proofs.YtelphnigdancpaaGreatDoor
