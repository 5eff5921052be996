/-
  NARROWER THAN 'FOR EVERY INPUT', by the rows' own cells (each row's printed sentence says how): RmapChecks: laid · RmapUses: laid · RmapFull: laid · RmapEncodes: laid · RmapMerges: laid · RmapJoins: laid · RmapForgets: laid · RmapAgrees: laid · RmapGrows: laid · RmapRemembers: laid · RmapDecodes: laid · RmapReturns: laid · RmapKnown: laid · RmapCounts: laid.
  DERIVED. THE GIVEN ROWS OF THIS SEAT. 14 by the template 'for every input the law returns true; each argument reads behind the call as it read before'; 0 by the template 'total and deterministic' (their statements: YtbjkkmabafaogaaGreatDoorTotals.lean).
  GIVEN WITH THE SEED: the statements are not yours to turn. If you find one false, say at which input.
  Laid BY PROGRAM, IN A SANDBOX (cutbox-rows.mjs): the forced cells as the released guide's own fill.sh prints them over the translation 75be5629db57782d… (all of the seat's roots in one cut). By AI agents, Wed Nov 11 2026. No macro, syntax, notation, axiom, sorry.
-/
import Derived.Test.YtbjkkmabafaogaaGreatDoorChecked
import GoSem.PinnedTables
import GoSem.Claim
import GoSem.ClaimJoined
import GoSem.ClaimMapViews
import Derived.JoinedTies
import Derived.KernelRfl
namespace Go.Proofs.YtbjkkmabafaogaaGreatDoor
/- THE CELL 'sum', in the pinned program and in every row, IS THE sha256 OF THE DUMP (.gsa) THAT YtbjkkmabafaogaaGreatDoorProg.lean LOADS. Nothing in Lean hashes anything: it is a label: what it is worth is what the hold of that sum in a sandbox is worth. -/
noncomputable def Tryz.pinned : Pinned := { name := "ytbjkkmabafaogaagreatdoor", sum := "75be5629db57782d9dbb52dbd07c5c51f3fbe99d0eb139dd3ce4b21f087ab92e", checked := Tryz.checked }
namespace Rows
def none {H : Type} : Left H := { results := [], args := [] }

/- WHAT THE LISTED PACKAGE-LEVEL VARIABLES READ AS WHEN THE CALL BEGINS. Each datum BY PROGRAM (the guide's laid-datum.mjs) off the statement by which the dump's own 'gosem.cut.vars' lays the variable. In a bare row this is a premise. The card (YtbjkkmabafaogaaGreatDoorCards.lean) ties it to the program's text. -/
def laid_unicode_utf8_acceptRanges {H : Type} : DataW H := .agg [.agg [.lit (.int .u8 128), .lit (.int .u8 191)], .agg [.lit (.int .u8 160), .lit (.int .u8 191)], .agg [.lit (.int .u8 128), .lit (.int .u8 159)], .agg [.lit (.int .u8 144), .lit (.int .u8 191)], .agg [.lit (.int .u8 128), .lit (.int .u8 143)], .agg [.lit (.int .u8 0), .lit (.int .u8 0)], .agg [.lit (.int .u8 0), .lit (.int .u8 0)], .agg [.lit (.int .u8 0), .lit (.int .u8 0)], .agg [.lit (.int .u8 0), .lit (.int .u8 0)], .agg [.lit (.int .u8 0), .lit (.int .u8 0)], .agg [.lit (.int .u8 0), .lit (.int .u8 0)], .agg [.lit (.int .u8 0), .lit (.int .u8 0)], .agg [.lit (.int .u8 0), .lit (.int .u8 0)], .agg [.lit (.int .u8 0), .lit (.int .u8 0)], .agg [.lit (.int .u8 0), .lit (.int .u8 0)], .agg [.lit (.int .u8 0), .lit (.int .u8 0)]]
/-- One of Go's own tables, pinned by name: the form's constant. -/
def laid_unicode_utf8_first : DataW Unit := Go.Pinned.utf8First

/-- 'henkanlaw33.RmapChecks': WHATEVER THE INPUT: true; the input reads as it did. -/
def rmapChecksSpec : ChangeSpec := { name := "rmapChecks", fn := fun _ => fun
  | [d] => { results := [.lit (.bool true)], args := [d] }
  | _ => none }
def rmapChecksRow : OpenClaim := { program := "ytbjkkmabafaogaagreatdoor", sum := "75be5629db57782d9dbb52dbd07c5c51f3fbe99d0eb139dd3ce4b21f087ab92e", func := "henkan/henkanlaw33.RmapChecks", spec := "rmapChecks", inPlace := ["internal/bytealg.IndexByteString", "internal/bytealg.IndexString"], unfollowed := true, recurses := true, named := ["internal/bytealg.MaxLen", "unicode/utf8.first", "unicode/utf8.acceptRanges"], apart := false, laid := [("unicode/utf8.acceptRanges", laid_unicode_utf8_acceptRanges), ("unicode/utf8.first", laid_unicode_utf8_first)] }
def RmapChecksSaid : Prop := rmapChecksRow.holds Tryz.pinned (OpenSpec.ofChange rmapChecksSpec)

/-- ITS FALSE NEIGHBOUR: 'it returns false'. Refute it at one input. -/
def rmapChecksWrong : ChangeSpec := { name := "rmapChecks", fn := fun _ => fun
  | [d] => { results := [.lit (.bool false)], args := [d] }
  | _ => none }
def RmapChecksWrongFalsely : Prop := rmapChecksRow.holds Tryz.pinned (OpenSpec.ofChange rmapChecksWrong)

/-- 'henkanlaw33.RmapUses': WHATEVER THE INPUT: true; the input reads as it did. -/
def rmapUsesSpec : ChangeSpec := { name := "rmapUses", fn := fun _ => fun
  | [d1, d2, d3] => { results := [.lit (.bool true)], args := [d1, d2, d3] }
  | _ => none }
def rmapUsesRow : OpenClaim := { program := "ytbjkkmabafaogaagreatdoor", sum := "75be5629db57782d9dbb52dbd07c5c51f3fbe99d0eb139dd3ce4b21f087ab92e", func := "henkan/henkanlaw33.RmapUses", spec := "rmapUses", inPlace := ["internal/bytealg.IndexByteString", "internal/bytealg.IndexString"], unfollowed := true, recurses := true, named := ["internal/bytealg.MaxLen", "unicode/utf8.first", "unicode/utf8.acceptRanges"], apart := false, laid := [("unicode/utf8.acceptRanges", laid_unicode_utf8_acceptRanges), ("unicode/utf8.first", laid_unicode_utf8_first)] }
def RmapUsesSaid : Prop := rmapUsesRow.holds Tryz.pinned (OpenSpec.ofChange rmapUsesSpec)

/-- ITS FALSE NEIGHBOUR: 'it returns false'. Refute it at one input. -/
def rmapUsesWrong : ChangeSpec := { name := "rmapUses", fn := fun _ => fun
  | [d1, d2, d3] => { results := [.lit (.bool false)], args := [d1, d2, d3] }
  | _ => none }
def RmapUsesWrongFalsely : Prop := rmapUsesRow.holds Tryz.pinned (OpenSpec.ofChange rmapUsesWrong)

/-- 'henkanlaw33.RmapFull': WHATEVER THE INPUT: true; the input reads as it did. -/
def rmapFullSpec : ChangeSpec := { name := "rmapFull", fn := fun _ => fun
  | [d1, d2] => { results := [.lit (.bool true)], args := [d1, d2] }
  | _ => none }
def rmapFullRow : OpenClaim := { program := "ytbjkkmabafaogaagreatdoor", sum := "75be5629db57782d9dbb52dbd07c5c51f3fbe99d0eb139dd3ce4b21f087ab92e", func := "henkan/henkanlaw33.RmapFull", spec := "rmapFull", inPlace := ["internal/bytealg.IndexByteString", "internal/bytealg.IndexString"], unfollowed := true, recurses := true, named := ["internal/bytealg.MaxLen", "unicode/utf8.first", "unicode/utf8.acceptRanges"], apart := false, laid := [("unicode/utf8.acceptRanges", laid_unicode_utf8_acceptRanges), ("unicode/utf8.first", laid_unicode_utf8_first)] }
def RmapFullSaid : Prop := rmapFullRow.holds Tryz.pinned (OpenSpec.ofChange rmapFullSpec)

/-- ITS FALSE NEIGHBOUR: 'it returns false'. Refute it at one input. -/
def rmapFullWrong : ChangeSpec := { name := "rmapFull", fn := fun _ => fun
  | [d1, d2] => { results := [.lit (.bool false)], args := [d1, d2] }
  | _ => none }
def RmapFullWrongFalsely : Prop := rmapFullRow.holds Tryz.pinned (OpenSpec.ofChange rmapFullWrong)

/-- 'henkanlaw33.RmapEncodes': WHATEVER THE INPUT: true; the input reads as it did. -/
def rmapEncodesSpec : ChangeSpec := { name := "rmapEncodes", fn := fun _ => fun
  | [d] => { results := [.lit (.bool true)], args := [d] }
  | _ => none }
def rmapEncodesRow : OpenClaim := { program := "ytbjkkmabafaogaagreatdoor", sum := "75be5629db57782d9dbb52dbd07c5c51f3fbe99d0eb139dd3ce4b21f087ab92e", func := "henkan/henkanlaw33.RmapEncodes", spec := "rmapEncodes", inPlace := ["internal/bytealg.IndexByteString", "internal/bytealg.IndexString"], unfollowed := true, recurses := true, named := ["internal/bytealg.MaxLen", "unicode/utf8.first", "unicode/utf8.acceptRanges"], apart := false, laid := [("unicode/utf8.acceptRanges", laid_unicode_utf8_acceptRanges), ("unicode/utf8.first", laid_unicode_utf8_first)] }
def RmapEncodesSaid : Prop := rmapEncodesRow.holds Tryz.pinned (OpenSpec.ofChange rmapEncodesSpec)

/-- ITS FALSE NEIGHBOUR: 'it returns false'. Refute it at one input. -/
def rmapEncodesWrong : ChangeSpec := { name := "rmapEncodes", fn := fun _ => fun
  | [d] => { results := [.lit (.bool false)], args := [d] }
  | _ => none }
def RmapEncodesWrongFalsely : Prop := rmapEncodesRow.holds Tryz.pinned (OpenSpec.ofChange rmapEncodesWrong)

/-- 'henkanlaw33.RmapMerges': WHATEVER THE INPUT: true; the input reads as it did. -/
def rmapMergesSpec : ChangeSpec := { name := "rmapMerges", fn := fun _ => fun
  | [d1, d2] => { results := [.lit (.bool true)], args := [d1, d2] }
  | _ => none }
def rmapMergesRow : OpenClaim := { program := "ytbjkkmabafaogaagreatdoor", sum := "75be5629db57782d9dbb52dbd07c5c51f3fbe99d0eb139dd3ce4b21f087ab92e", func := "henkan/henkanlaw33.RmapMerges", spec := "rmapMerges", inPlace := ["internal/bytealg.IndexByteString", "internal/bytealg.IndexString"], unfollowed := true, recurses := true, named := ["internal/bytealg.MaxLen", "unicode/utf8.first", "unicode/utf8.acceptRanges"], apart := false, laid := [("unicode/utf8.acceptRanges", laid_unicode_utf8_acceptRanges), ("unicode/utf8.first", laid_unicode_utf8_first)] }
def RmapMergesSaid : Prop := rmapMergesRow.holds Tryz.pinned (OpenSpec.ofChange rmapMergesSpec)

/-- ITS FALSE NEIGHBOUR: 'it returns false'. Refute it at one input. -/
def rmapMergesWrong : ChangeSpec := { name := "rmapMerges", fn := fun _ => fun
  | [d1, d2] => { results := [.lit (.bool false)], args := [d1, d2] }
  | _ => none }
def RmapMergesWrongFalsely : Prop := rmapMergesRow.holds Tryz.pinned (OpenSpec.ofChange rmapMergesWrong)

/-- 'henkanlaw33.RmapJoins': WHATEVER THE INPUT: true; the input reads as it did. -/
def rmapJoinsSpec : ChangeSpec := { name := "rmapJoins", fn := fun _ => fun
  | [d1, d2, d3] => { results := [.lit (.bool true)], args := [d1, d2, d3] }
  | _ => none }
def rmapJoinsRow : OpenClaim := { program := "ytbjkkmabafaogaagreatdoor", sum := "75be5629db57782d9dbb52dbd07c5c51f3fbe99d0eb139dd3ce4b21f087ab92e", func := "henkan/henkanlaw33.RmapJoins", spec := "rmapJoins", inPlace := ["internal/bytealg.IndexByteString", "internal/bytealg.IndexString"], unfollowed := true, recurses := true, named := ["internal/bytealg.MaxLen", "unicode/utf8.first", "unicode/utf8.acceptRanges"], apart := false, laid := [("unicode/utf8.acceptRanges", laid_unicode_utf8_acceptRanges), ("unicode/utf8.first", laid_unicode_utf8_first)] }
def RmapJoinsSaid : Prop := rmapJoinsRow.holds Tryz.pinned (OpenSpec.ofChange rmapJoinsSpec)

/-- ITS FALSE NEIGHBOUR: 'it returns false'. Refute it at one input. -/
def rmapJoinsWrong : ChangeSpec := { name := "rmapJoins", fn := fun _ => fun
  | [d1, d2, d3] => { results := [.lit (.bool false)], args := [d1, d2, d3] }
  | _ => none }
def RmapJoinsWrongFalsely : Prop := rmapJoinsRow.holds Tryz.pinned (OpenSpec.ofChange rmapJoinsWrong)

/-- 'henkanlaw33.RmapForgets': WHATEVER THE INPUT: true; the input reads as it did. -/
def rmapForgetsSpec : ChangeSpec := { name := "rmapForgets", fn := fun _ => fun
  | [d1, d2, d3] => { results := [.lit (.bool true)], args := [d1, d2, d3] }
  | _ => none }
def rmapForgetsRow : OpenClaim := { program := "ytbjkkmabafaogaagreatdoor", sum := "75be5629db57782d9dbb52dbd07c5c51f3fbe99d0eb139dd3ce4b21f087ab92e", func := "henkan/henkanlaw33.RmapForgets", spec := "rmapForgets", inPlace := ["internal/bytealg.IndexByteString", "internal/bytealg.IndexString"], unfollowed := true, recurses := true, named := ["internal/bytealg.MaxLen", "unicode/utf8.first", "unicode/utf8.acceptRanges"], apart := false, laid := [("unicode/utf8.acceptRanges", laid_unicode_utf8_acceptRanges), ("unicode/utf8.first", laid_unicode_utf8_first)] }
def RmapForgetsSaid : Prop := rmapForgetsRow.holds Tryz.pinned (OpenSpec.ofChange rmapForgetsSpec)

/-- ITS FALSE NEIGHBOUR: 'it returns false'. Refute it at one input. -/
def rmapForgetsWrong : ChangeSpec := { name := "rmapForgets", fn := fun _ => fun
  | [d1, d2, d3] => { results := [.lit (.bool false)], args := [d1, d2, d3] }
  | _ => none }
def RmapForgetsWrongFalsely : Prop := rmapForgetsRow.holds Tryz.pinned (OpenSpec.ofChange rmapForgetsWrong)

/-- 'henkanlaw33.RmapAgrees': WHATEVER THE INPUT: true; the input reads as it did. -/
def rmapAgreesSpec : ChangeSpec := { name := "rmapAgrees", fn := fun _ => fun
  | [d] => { results := [.lit (.bool true)], args := [d] }
  | _ => none }
def rmapAgreesRow : OpenClaim := { program := "ytbjkkmabafaogaagreatdoor", sum := "75be5629db57782d9dbb52dbd07c5c51f3fbe99d0eb139dd3ce4b21f087ab92e", func := "henkan/henkanlaw33.RmapAgrees", spec := "rmapAgrees", inPlace := ["internal/bytealg.IndexByteString", "internal/bytealg.IndexString"], unfollowed := true, recurses := true, named := ["internal/bytealg.MaxLen", "unicode/utf8.first", "unicode/utf8.acceptRanges"], apart := false, laid := [("unicode/utf8.acceptRanges", laid_unicode_utf8_acceptRanges), ("unicode/utf8.first", laid_unicode_utf8_first)] }
def RmapAgreesSaid : Prop := rmapAgreesRow.holds Tryz.pinned (OpenSpec.ofChange rmapAgreesSpec)

/-- ITS FALSE NEIGHBOUR: 'it returns false'. Refute it at one input. -/
def rmapAgreesWrong : ChangeSpec := { name := "rmapAgrees", fn := fun _ => fun
  | [d] => { results := [.lit (.bool false)], args := [d] }
  | _ => none }
def RmapAgreesWrongFalsely : Prop := rmapAgreesRow.holds Tryz.pinned (OpenSpec.ofChange rmapAgreesWrong)

/-- 'henkanlaw33.RmapGrows': WHATEVER THE INPUT: true; the input reads as it did. -/
def rmapGrowsSpec : ChangeSpec := { name := "rmapGrows", fn := fun _ => fun
  | [d1, d2, d3] => { results := [.lit (.bool true)], args := [d1, d2, d3] }
  | _ => none }
def rmapGrowsRow : OpenClaim := { program := "ytbjkkmabafaogaagreatdoor", sum := "75be5629db57782d9dbb52dbd07c5c51f3fbe99d0eb139dd3ce4b21f087ab92e", func := "henkan/henkanlaw33.RmapGrows", spec := "rmapGrows", inPlace := ["internal/bytealg.IndexByteString", "internal/bytealg.IndexString"], unfollowed := true, recurses := true, named := ["internal/bytealg.MaxLen", "unicode/utf8.first", "unicode/utf8.acceptRanges"], apart := false, laid := [("unicode/utf8.acceptRanges", laid_unicode_utf8_acceptRanges), ("unicode/utf8.first", laid_unicode_utf8_first)] }
def RmapGrowsSaid : Prop := rmapGrowsRow.holds Tryz.pinned (OpenSpec.ofChange rmapGrowsSpec)

/-- ITS FALSE NEIGHBOUR: 'it returns false'. Refute it at one input. -/
def rmapGrowsWrong : ChangeSpec := { name := "rmapGrows", fn := fun _ => fun
  | [d1, d2, d3] => { results := [.lit (.bool false)], args := [d1, d2, d3] }
  | _ => none }
def RmapGrowsWrongFalsely : Prop := rmapGrowsRow.holds Tryz.pinned (OpenSpec.ofChange rmapGrowsWrong)

/-- 'henkanlaw33.RmapRemembers': WHATEVER THE INPUT: true; the input reads as it did. -/
def rmapRemembersSpec : ChangeSpec := { name := "rmapRemembers", fn := fun _ => fun
  | [d1, d2, d3, d4] => { results := [.lit (.bool true)], args := [d1, d2, d3, d4] }
  | _ => none }
def rmapRemembersRow : OpenClaim := { program := "ytbjkkmabafaogaagreatdoor", sum := "75be5629db57782d9dbb52dbd07c5c51f3fbe99d0eb139dd3ce4b21f087ab92e", func := "henkan/henkanlaw33.RmapRemembers", spec := "rmapRemembers", inPlace := ["internal/bytealg.IndexByteString", "internal/bytealg.IndexString"], unfollowed := true, recurses := true, named := ["internal/bytealg.MaxLen", "unicode/utf8.first", "unicode/utf8.acceptRanges"], apart := false, laid := [("unicode/utf8.acceptRanges", laid_unicode_utf8_acceptRanges), ("unicode/utf8.first", laid_unicode_utf8_first)] }
def RmapRemembersSaid : Prop := rmapRemembersRow.holds Tryz.pinned (OpenSpec.ofChange rmapRemembersSpec)

/-- ITS FALSE NEIGHBOUR: 'it returns false'. Refute it at one input. -/
def rmapRemembersWrong : ChangeSpec := { name := "rmapRemembers", fn := fun _ => fun
  | [d1, d2, d3, d4] => { results := [.lit (.bool false)], args := [d1, d2, d3, d4] }
  | _ => none }
def RmapRemembersWrongFalsely : Prop := rmapRemembersRow.holds Tryz.pinned (OpenSpec.ofChange rmapRemembersWrong)

/-- 'henkanlaw33.RmapDecodes': WHATEVER THE INPUT: true; the input reads as it did. -/
def rmapDecodesSpec : ChangeSpec := { name := "rmapDecodes", fn := fun _ => fun
  | [d] => { results := [.lit (.bool true)], args := [d] }
  | _ => none }
def rmapDecodesRow : OpenClaim := { program := "ytbjkkmabafaogaagreatdoor", sum := "75be5629db57782d9dbb52dbd07c5c51f3fbe99d0eb139dd3ce4b21f087ab92e", func := "henkan/henkanlaw33.RmapDecodes", spec := "rmapDecodes", inPlace := ["internal/bytealg.IndexByteString", "internal/bytealg.IndexString"], unfollowed := true, recurses := true, named := ["internal/bytealg.MaxLen", "unicode/utf8.first", "unicode/utf8.acceptRanges"], apart := false, laid := [("unicode/utf8.acceptRanges", laid_unicode_utf8_acceptRanges), ("unicode/utf8.first", laid_unicode_utf8_first)] }
def RmapDecodesSaid : Prop := rmapDecodesRow.holds Tryz.pinned (OpenSpec.ofChange rmapDecodesSpec)

/-- ITS FALSE NEIGHBOUR: 'it returns false'. Refute it at one input. -/
def rmapDecodesWrong : ChangeSpec := { name := "rmapDecodes", fn := fun _ => fun
  | [d] => { results := [.lit (.bool false)], args := [d] }
  | _ => none }
def RmapDecodesWrongFalsely : Prop := rmapDecodesRow.holds Tryz.pinned (OpenSpec.ofChange rmapDecodesWrong)

/-- 'henkanlaw33.RmapReturns': WHATEVER THE INPUT: true; the input reads as it did. -/
def rmapReturnsSpec : ChangeSpec := { name := "rmapReturns", fn := fun _ => fun
  | [d1, d2] => { results := [.lit (.bool true)], args := [d1, d2] }
  | _ => none }
def rmapReturnsRow : OpenClaim := { program := "ytbjkkmabafaogaagreatdoor", sum := "75be5629db57782d9dbb52dbd07c5c51f3fbe99d0eb139dd3ce4b21f087ab92e", func := "henkan/henkanlaw33.RmapReturns", spec := "rmapReturns", inPlace := ["internal/bytealg.IndexByteString", "internal/bytealg.IndexString"], unfollowed := true, recurses := true, named := ["internal/bytealg.MaxLen", "unicode/utf8.first", "unicode/utf8.acceptRanges"], apart := false, laid := [("unicode/utf8.acceptRanges", laid_unicode_utf8_acceptRanges), ("unicode/utf8.first", laid_unicode_utf8_first)] }
def RmapReturnsSaid : Prop := rmapReturnsRow.holds Tryz.pinned (OpenSpec.ofChange rmapReturnsSpec)

/-- ITS FALSE NEIGHBOUR: 'it returns false'. Refute it at one input. -/
def rmapReturnsWrong : ChangeSpec := { name := "rmapReturns", fn := fun _ => fun
  | [d1, d2] => { results := [.lit (.bool false)], args := [d1, d2] }
  | _ => none }
def RmapReturnsWrongFalsely : Prop := rmapReturnsRow.holds Tryz.pinned (OpenSpec.ofChange rmapReturnsWrong)

/-- 'henkanlaw33.RmapKnown': WHATEVER THE INPUT: true; the input reads as it did. -/
def rmapKnownSpec : ChangeSpec := { name := "rmapKnown", fn := fun _ => fun
  | [] => { results := [.lit (.bool true)], args := [] }
  | _ => none }
def rmapKnownRow : OpenClaim := { program := "ytbjkkmabafaogaagreatdoor", sum := "75be5629db57782d9dbb52dbd07c5c51f3fbe99d0eb139dd3ce4b21f087ab92e", func := "henkan/henkanlaw33.RmapKnown", spec := "rmapKnown", inPlace := ["internal/bytealg.IndexByteString", "internal/bytealg.IndexString"], unfollowed := true, recurses := true, named := ["internal/bytealg.MaxLen", "unicode/utf8.first", "unicode/utf8.acceptRanges"], apart := false, laid := [("unicode/utf8.acceptRanges", laid_unicode_utf8_acceptRanges), ("unicode/utf8.first", laid_unicode_utf8_first)] }
def RmapKnownSaid : Prop := rmapKnownRow.holds Tryz.pinned (OpenSpec.ofChange rmapKnownSpec)

/-- ITS FALSE NEIGHBOUR: 'it returns false'. Refute it at one input. -/
def rmapKnownWrong : ChangeSpec := { name := "rmapKnown", fn := fun _ => fun
  | [] => { results := [.lit (.bool false)], args := [] }
  | _ => none }
def RmapKnownWrongFalsely : Prop := rmapKnownRow.holds Tryz.pinned (OpenSpec.ofChange rmapKnownWrong)

/-- 'henkanlaw33.RmapCounts': WHATEVER THE INPUT: true; the input reads as it did. -/
def rmapCountsSpec : ChangeSpec := { name := "rmapCounts", fn := fun _ => fun
  | [d1, d2] => { results := [.lit (.bool true)], args := [d1, d2] }
  | _ => none }
def rmapCountsRow : OpenClaim := { program := "ytbjkkmabafaogaagreatdoor", sum := "75be5629db57782d9dbb52dbd07c5c51f3fbe99d0eb139dd3ce4b21f087ab92e", func := "henkan/henkanlaw33.RmapCounts", spec := "rmapCounts", inPlace := ["internal/bytealg.IndexByteString", "internal/bytealg.IndexString"], unfollowed := true, recurses := true, named := ["internal/bytealg.MaxLen", "unicode/utf8.first", "unicode/utf8.acceptRanges"], apart := false, laid := [("unicode/utf8.acceptRanges", laid_unicode_utf8_acceptRanges), ("unicode/utf8.first", laid_unicode_utf8_first)] }
def RmapCountsSaid : Prop := rmapCountsRow.holds Tryz.pinned (OpenSpec.ofChange rmapCountsSpec)

/-- ITS FALSE NEIGHBOUR: 'it returns false'. Refute it at one input. -/
def rmapCountsWrong : ChangeSpec := { name := "rmapCounts", fn := fun _ => fun
  | [d1, d2] => { results := [.lit (.bool false)], args := [d1, d2] }
  | _ => none }
def RmapCountsWrongFalsely : Prop := rmapCountsRow.holds Tryz.pinned (OpenSpec.ofChange rmapCountsWrong)

/- THE SECOND FORM. 'bulk': how many values and letters a reading holds, each counted each time it is reached (what is shared counts as often as it is met; a slice's spare places count too). A statement '..UptoSaid' is the law's where the arguments, and the package variables that the reading takes, are together of bulk at most 1048576: NARROWER than '..Said'. Prove '..Said' where nothing that the law and all that it calls make is longer than what came in: it says more and counts as full. Else prove '..UptoSaid'. A law counts once. -/
mutual
def uptoBulk {H : Type} : DataW H → Nat
  | .lit (.string bytes) => bytes.length + 1
  | .lit _ => 1
  | .nil => 1
  | .ptr d => uptoBulk d + 1
  | .slice elems spare => uptoBulkAll elems + uptoBulkAll spare + 1
  | .agg parts => uptoBulkAll parts + 1
  | .iface _ d => uptoBulk d + 1
  | .map entries => uptoBulkEntries entries + 1
  | .held _ => 1
def uptoBulkAll {H : Type} : List (DataW H) → Nat
  | [] => 0
  | d :: r => uptoBulk d + uptoBulkAll r
def uptoBulkEntries {H : Type} : List (Lit × DataW H) → Nat
  | [] => 0
  | x :: r => uptoBulkEntry x + uptoBulkEntries r
def uptoBulkEntry {H : Type} : Lit × DataW H → Nat
  | (.string bytes, d) => bytes.length + uptoBulk d + 1
  | (_, d) => uptoBulk d + 1
 end
def uptoSmall : (H : Type) → List (DataW H) → Bool := fun _ ds => decide (uptoBulkAll ds ≤ 1048576)
def OpenSpec.upto (s : _root_.Go.ChangeSpec) : _root_.Go.OpenSpec := { _root_.Go.OpenSpec.ofChange s with cond := some uptoSmall }

/-- 'henkanlaw33.RmapChecks', WHERE WHAT IT READS IS OF BULK AT MOST 1048576: true; the input reads as it did. -/
def rmapChecksUptoRow : OpenClaim := { program := "ytbjkkmabafaogaagreatdoor", sum := "75be5629db57782d9dbb52dbd07c5c51f3fbe99d0eb139dd3ce4b21f087ab92e", func := "henkan/henkanlaw33.RmapChecks", spec := "rmapChecks", inPlace := ["internal/bytealg.IndexByteString", "internal/bytealg.IndexString"], unfollowed := true, recurses := true, named := ["internal/bytealg.MaxLen", "unicode/utf8.first", "unicode/utf8.acceptRanges"], apart := false, laid := [("unicode/utf8.acceptRanges", laid_unicode_utf8_acceptRanges), ("unicode/utf8.first", laid_unicode_utf8_first)], narrowed := true }
def RmapChecksUptoSaid : Prop := rmapChecksUptoRow.holds Tryz.pinned (OpenSpec.upto rmapChecksSpec)

/-- 'henkanlaw33.RmapUses', WHERE WHAT IT READS IS OF BULK AT MOST 1048576: true; the input reads as it did. -/
def rmapUsesUptoRow : OpenClaim := { program := "ytbjkkmabafaogaagreatdoor", sum := "75be5629db57782d9dbb52dbd07c5c51f3fbe99d0eb139dd3ce4b21f087ab92e", func := "henkan/henkanlaw33.RmapUses", spec := "rmapUses", inPlace := ["internal/bytealg.IndexByteString", "internal/bytealg.IndexString"], unfollowed := true, recurses := true, named := ["internal/bytealg.MaxLen", "unicode/utf8.first", "unicode/utf8.acceptRanges"], apart := false, laid := [("unicode/utf8.acceptRanges", laid_unicode_utf8_acceptRanges), ("unicode/utf8.first", laid_unicode_utf8_first)], narrowed := true }
def RmapUsesUptoSaid : Prop := rmapUsesUptoRow.holds Tryz.pinned (OpenSpec.upto rmapUsesSpec)

/-- 'henkanlaw33.RmapFull', WHERE WHAT IT READS IS OF BULK AT MOST 1048576: true; the input reads as it did. -/
def rmapFullUptoRow : OpenClaim := { program := "ytbjkkmabafaogaagreatdoor", sum := "75be5629db57782d9dbb52dbd07c5c51f3fbe99d0eb139dd3ce4b21f087ab92e", func := "henkan/henkanlaw33.RmapFull", spec := "rmapFull", inPlace := ["internal/bytealg.IndexByteString", "internal/bytealg.IndexString"], unfollowed := true, recurses := true, named := ["internal/bytealg.MaxLen", "unicode/utf8.first", "unicode/utf8.acceptRanges"], apart := false, laid := [("unicode/utf8.acceptRanges", laid_unicode_utf8_acceptRanges), ("unicode/utf8.first", laid_unicode_utf8_first)], narrowed := true }
def RmapFullUptoSaid : Prop := rmapFullUptoRow.holds Tryz.pinned (OpenSpec.upto rmapFullSpec)

/-- 'henkanlaw33.RmapEncodes', WHERE WHAT IT READS IS OF BULK AT MOST 1048576: true; the input reads as it did. -/
def rmapEncodesUptoRow : OpenClaim := { program := "ytbjkkmabafaogaagreatdoor", sum := "75be5629db57782d9dbb52dbd07c5c51f3fbe99d0eb139dd3ce4b21f087ab92e", func := "henkan/henkanlaw33.RmapEncodes", spec := "rmapEncodes", inPlace := ["internal/bytealg.IndexByteString", "internal/bytealg.IndexString"], unfollowed := true, recurses := true, named := ["internal/bytealg.MaxLen", "unicode/utf8.first", "unicode/utf8.acceptRanges"], apart := false, laid := [("unicode/utf8.acceptRanges", laid_unicode_utf8_acceptRanges), ("unicode/utf8.first", laid_unicode_utf8_first)], narrowed := true }
def RmapEncodesUptoSaid : Prop := rmapEncodesUptoRow.holds Tryz.pinned (OpenSpec.upto rmapEncodesSpec)

/-- 'henkanlaw33.RmapMerges', WHERE WHAT IT READS IS OF BULK AT MOST 1048576: true; the input reads as it did. -/
def rmapMergesUptoRow : OpenClaim := { program := "ytbjkkmabafaogaagreatdoor", sum := "75be5629db57782d9dbb52dbd07c5c51f3fbe99d0eb139dd3ce4b21f087ab92e", func := "henkan/henkanlaw33.RmapMerges", spec := "rmapMerges", inPlace := ["internal/bytealg.IndexByteString", "internal/bytealg.IndexString"], unfollowed := true, recurses := true, named := ["internal/bytealg.MaxLen", "unicode/utf8.first", "unicode/utf8.acceptRanges"], apart := false, laid := [("unicode/utf8.acceptRanges", laid_unicode_utf8_acceptRanges), ("unicode/utf8.first", laid_unicode_utf8_first)], narrowed := true }
def RmapMergesUptoSaid : Prop := rmapMergesUptoRow.holds Tryz.pinned (OpenSpec.upto rmapMergesSpec)

/-- 'henkanlaw33.RmapJoins', WHERE WHAT IT READS IS OF BULK AT MOST 1048576: true; the input reads as it did. -/
def rmapJoinsUptoRow : OpenClaim := { program := "ytbjkkmabafaogaagreatdoor", sum := "75be5629db57782d9dbb52dbd07c5c51f3fbe99d0eb139dd3ce4b21f087ab92e", func := "henkan/henkanlaw33.RmapJoins", spec := "rmapJoins", inPlace := ["internal/bytealg.IndexByteString", "internal/bytealg.IndexString"], unfollowed := true, recurses := true, named := ["internal/bytealg.MaxLen", "unicode/utf8.first", "unicode/utf8.acceptRanges"], apart := false, laid := [("unicode/utf8.acceptRanges", laid_unicode_utf8_acceptRanges), ("unicode/utf8.first", laid_unicode_utf8_first)], narrowed := true }
def RmapJoinsUptoSaid : Prop := rmapJoinsUptoRow.holds Tryz.pinned (OpenSpec.upto rmapJoinsSpec)

/-- 'henkanlaw33.RmapForgets', WHERE WHAT IT READS IS OF BULK AT MOST 1048576: true; the input reads as it did. -/
def rmapForgetsUptoRow : OpenClaim := { program := "ytbjkkmabafaogaagreatdoor", sum := "75be5629db57782d9dbb52dbd07c5c51f3fbe99d0eb139dd3ce4b21f087ab92e", func := "henkan/henkanlaw33.RmapForgets", spec := "rmapForgets", inPlace := ["internal/bytealg.IndexByteString", "internal/bytealg.IndexString"], unfollowed := true, recurses := true, named := ["internal/bytealg.MaxLen", "unicode/utf8.first", "unicode/utf8.acceptRanges"], apart := false, laid := [("unicode/utf8.acceptRanges", laid_unicode_utf8_acceptRanges), ("unicode/utf8.first", laid_unicode_utf8_first)], narrowed := true }
def RmapForgetsUptoSaid : Prop := rmapForgetsUptoRow.holds Tryz.pinned (OpenSpec.upto rmapForgetsSpec)

/-- 'henkanlaw33.RmapAgrees', WHERE WHAT IT READS IS OF BULK AT MOST 1048576: true; the input reads as it did. -/
def rmapAgreesUptoRow : OpenClaim := { program := "ytbjkkmabafaogaagreatdoor", sum := "75be5629db57782d9dbb52dbd07c5c51f3fbe99d0eb139dd3ce4b21f087ab92e", func := "henkan/henkanlaw33.RmapAgrees", spec := "rmapAgrees", inPlace := ["internal/bytealg.IndexByteString", "internal/bytealg.IndexString"], unfollowed := true, recurses := true, named := ["internal/bytealg.MaxLen", "unicode/utf8.first", "unicode/utf8.acceptRanges"], apart := false, laid := [("unicode/utf8.acceptRanges", laid_unicode_utf8_acceptRanges), ("unicode/utf8.first", laid_unicode_utf8_first)], narrowed := true }
def RmapAgreesUptoSaid : Prop := rmapAgreesUptoRow.holds Tryz.pinned (OpenSpec.upto rmapAgreesSpec)

/-- 'henkanlaw33.RmapGrows', WHERE WHAT IT READS IS OF BULK AT MOST 1048576: true; the input reads as it did. -/
def rmapGrowsUptoRow : OpenClaim := { program := "ytbjkkmabafaogaagreatdoor", sum := "75be5629db57782d9dbb52dbd07c5c51f3fbe99d0eb139dd3ce4b21f087ab92e", func := "henkan/henkanlaw33.RmapGrows", spec := "rmapGrows", inPlace := ["internal/bytealg.IndexByteString", "internal/bytealg.IndexString"], unfollowed := true, recurses := true, named := ["internal/bytealg.MaxLen", "unicode/utf8.first", "unicode/utf8.acceptRanges"], apart := false, laid := [("unicode/utf8.acceptRanges", laid_unicode_utf8_acceptRanges), ("unicode/utf8.first", laid_unicode_utf8_first)], narrowed := true }
def RmapGrowsUptoSaid : Prop := rmapGrowsUptoRow.holds Tryz.pinned (OpenSpec.upto rmapGrowsSpec)

/-- 'henkanlaw33.RmapRemembers', WHERE WHAT IT READS IS OF BULK AT MOST 1048576: true; the input reads as it did. -/
def rmapRemembersUptoRow : OpenClaim := { program := "ytbjkkmabafaogaagreatdoor", sum := "75be5629db57782d9dbb52dbd07c5c51f3fbe99d0eb139dd3ce4b21f087ab92e", func := "henkan/henkanlaw33.RmapRemembers", spec := "rmapRemembers", inPlace := ["internal/bytealg.IndexByteString", "internal/bytealg.IndexString"], unfollowed := true, recurses := true, named := ["internal/bytealg.MaxLen", "unicode/utf8.first", "unicode/utf8.acceptRanges"], apart := false, laid := [("unicode/utf8.acceptRanges", laid_unicode_utf8_acceptRanges), ("unicode/utf8.first", laid_unicode_utf8_first)], narrowed := true }
def RmapRemembersUptoSaid : Prop := rmapRemembersUptoRow.holds Tryz.pinned (OpenSpec.upto rmapRemembersSpec)

/-- 'henkanlaw33.RmapDecodes', WHERE WHAT IT READS IS OF BULK AT MOST 1048576: true; the input reads as it did. -/
def rmapDecodesUptoRow : OpenClaim := { program := "ytbjkkmabafaogaagreatdoor", sum := "75be5629db57782d9dbb52dbd07c5c51f3fbe99d0eb139dd3ce4b21f087ab92e", func := "henkan/henkanlaw33.RmapDecodes", spec := "rmapDecodes", inPlace := ["internal/bytealg.IndexByteString", "internal/bytealg.IndexString"], unfollowed := true, recurses := true, named := ["internal/bytealg.MaxLen", "unicode/utf8.first", "unicode/utf8.acceptRanges"], apart := false, laid := [("unicode/utf8.acceptRanges", laid_unicode_utf8_acceptRanges), ("unicode/utf8.first", laid_unicode_utf8_first)], narrowed := true }
def RmapDecodesUptoSaid : Prop := rmapDecodesUptoRow.holds Tryz.pinned (OpenSpec.upto rmapDecodesSpec)

/-- 'henkanlaw33.RmapReturns', WHERE WHAT IT READS IS OF BULK AT MOST 1048576: true; the input reads as it did. -/
def rmapReturnsUptoRow : OpenClaim := { program := "ytbjkkmabafaogaagreatdoor", sum := "75be5629db57782d9dbb52dbd07c5c51f3fbe99d0eb139dd3ce4b21f087ab92e", func := "henkan/henkanlaw33.RmapReturns", spec := "rmapReturns", inPlace := ["internal/bytealg.IndexByteString", "internal/bytealg.IndexString"], unfollowed := true, recurses := true, named := ["internal/bytealg.MaxLen", "unicode/utf8.first", "unicode/utf8.acceptRanges"], apart := false, laid := [("unicode/utf8.acceptRanges", laid_unicode_utf8_acceptRanges), ("unicode/utf8.first", laid_unicode_utf8_first)], narrowed := true }
def RmapReturnsUptoSaid : Prop := rmapReturnsUptoRow.holds Tryz.pinned (OpenSpec.upto rmapReturnsSpec)

/-- 'henkanlaw33.RmapKnown', WHERE WHAT IT READS IS OF BULK AT MOST 1048576: true; the input reads as it did. -/
def rmapKnownUptoRow : OpenClaim := { program := "ytbjkkmabafaogaagreatdoor", sum := "75be5629db57782d9dbb52dbd07c5c51f3fbe99d0eb139dd3ce4b21f087ab92e", func := "henkan/henkanlaw33.RmapKnown", spec := "rmapKnown", inPlace := ["internal/bytealg.IndexByteString", "internal/bytealg.IndexString"], unfollowed := true, recurses := true, named := ["internal/bytealg.MaxLen", "unicode/utf8.first", "unicode/utf8.acceptRanges"], apart := false, laid := [("unicode/utf8.acceptRanges", laid_unicode_utf8_acceptRanges), ("unicode/utf8.first", laid_unicode_utf8_first)], narrowed := true }
def RmapKnownUptoSaid : Prop := rmapKnownUptoRow.holds Tryz.pinned (OpenSpec.upto rmapKnownSpec)

/-- 'henkanlaw33.RmapCounts', WHERE WHAT IT READS IS OF BULK AT MOST 1048576: true; the input reads as it did. -/
def rmapCountsUptoRow : OpenClaim := { program := "ytbjkkmabafaogaagreatdoor", sum := "75be5629db57782d9dbb52dbd07c5c51f3fbe99d0eb139dd3ce4b21f087ab92e", func := "henkan/henkanlaw33.RmapCounts", spec := "rmapCounts", inPlace := ["internal/bytealg.IndexByteString", "internal/bytealg.IndexString"], unfollowed := true, recurses := true, named := ["internal/bytealg.MaxLen", "unicode/utf8.first", "unicode/utf8.acceptRanges"], apart := false, laid := [("unicode/utf8.acceptRanges", laid_unicode_utf8_acceptRanges), ("unicode/utf8.first", laid_unicode_utf8_first)], narrowed := true }
def RmapCountsUptoSaid : Prop := rmapCountsUptoRow.holds Tryz.pinned (OpenSpec.upto rmapCountsSpec)

end Rows
end Go.Proofs.YtbjkkmabafaogaaGreatDoor
