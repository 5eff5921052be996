/-
  NARROWER THAN 'FOR EVERY INPUT', by the rows' own cells (each row's printed sentence says how): JournalRoom: laid · JournalOwn: laid · JournalLimits: laid · JournalAgain: laid · JournalKeeps: laid · JournalKnown: laid · JournalOpens: laid · JournalDoes: laid · JournalFormats: laid.
  DERIVED. THE GIVEN ROWS OF THIS SEAT. 9 by the template 'for every input the law returns true; each argument reads behind the call as it read before'; 0 by the template 'total and deterministic' (their statements: YtmimplmeccoahaaDoorTotals.lean).
  GIVEN WITH THE SEED: the statements are not yours to turn. If you find one false, say at which input.
  Laid BY PROGRAM, IN A SANDBOX (cutbox-rows.mjs): the forced cells as the released guide's own fill.sh prints them over the translation 1a1d33436e8be69b… (all of the seat's roots in one cut). By AI agents, Wed Nov 11 2026. No macro, syntax, notation, axiom, sorry.
-/
import Derived.Test.YtmimplmeccoahaaDoorChecked
import GoSem.Claim
import GoSem.ClaimJoined
import GoSem.ClaimMapViews
import Derived.JoinedTies
import Derived.KernelRfl
namespace Go.Proofs.YtmimplmeccoahaaDoor
/- THE CELL 'sum', in the pinned program and in every row, IS THE sha256 OF THE DUMP (.gsa) THAT YtmimplmeccoahaaDoorProg.lean LOADS. Nothing in Lean hashes anything: it is a label: what it is worth is what the hold of that sum in a sandbox is worth. -/
noncomputable def Tryd.pinned : Pinned := { name := "ytmimplmeccoahaadoor", sum := "1a1d33436e8be69b87b67ad4d2b3660d417fcbc8ffb3a00f347549e625982765", checked := Tryd.checked }
namespace Rows
def none {H : Type} : Left H := { results := [], args := [] }

/- WHAT THE LISTED PACKAGE-LEVEL VARIABLES READ AS WHEN THE CALL BEGINS. Each datum BY PROGRAM (the guide's laid-datum.mjs) off the statement by which the dump's own 'gosem.cut.vars' lays the variable. In a bare row this is a premise. The card (YtmimplmeccoahaaDoorCards.lean) ties it to the program's text. -/
def laid_henkan_crc_quarter {H : Type} : DataW H := .agg [.lit (.int .u32 0), .lit (.int .u32 498536548), .lit (.int .u32 997073096), .lit (.int .u32 651767980), .lit (.int .u32 1994146192), .lit (.int .u32 1802195444), .lit (.int .u32 1303535960), .lit (.int .u32 1342533948), .lit (.int .u32 3988292384), .lit (.int .u32 4027552580), .lit (.int .u32 3604390888), .lit (.int .u32 3412177804), .lit (.int .u32 2607071920), .lit (.int .u32 2262029012), .lit (.int .u32 2685067896), .lit (.int .u32 3183342108)]

/-- 'henkanlaw35.JournalRoom': WHATEVER THE INPUT: true; the input reads as it did. -/
def journalRoomSpec : ChangeSpec := { name := "journalRoom", fn := fun _ => fun
  | [d1, d2, d3] => { results := [.lit (.bool true)], args := [d1, d2, d3] }
  | _ => none }
def journalRoomRow : OpenClaim := { program := "ytmimplmeccoahaadoor", sum := "1a1d33436e8be69b87b67ad4d2b3660d417fcbc8ffb3a00f347549e625982765", func := "henkan/henkanlaw35.JournalRoom", spec := "journalRoom", unfollowed := true, recurses := true, named := ["henkan/crc.quarter"], apart := false, laid := [("henkan/crc.quarter", laid_henkan_crc_quarter)] }
def JournalRoomSaid : Prop := journalRoomRow.holds Tryd.pinned (OpenSpec.ofChange journalRoomSpec)

/-- ITS FALSE NEIGHBOUR: 'it returns false'. Refute it at one input. -/
def journalRoomWrong : ChangeSpec := { name := "journalRoom", fn := fun _ => fun
  | [d1, d2, d3] => { results := [.lit (.bool false)], args := [d1, d2, d3] }
  | _ => none }
def JournalRoomWrongFalsely : Prop := journalRoomRow.holds Tryd.pinned (OpenSpec.ofChange journalRoomWrong)

/-- 'henkanlaw35.JournalOwn': WHATEVER THE INPUT: true; the input reads as it did. -/
def journalOwnSpec : ChangeSpec := { name := "journalOwn", fn := fun _ => fun
  | [d] => { results := [.lit (.bool true)], args := [d] }
  | _ => none }
def journalOwnRow : OpenClaim := { program := "ytmimplmeccoahaadoor", sum := "1a1d33436e8be69b87b67ad4d2b3660d417fcbc8ffb3a00f347549e625982765", func := "henkan/henkanlaw35.JournalOwn", spec := "journalOwn", unfollowed := true, recurses := true, named := ["henkan/crc.quarter"], apart := false, laid := [("henkan/crc.quarter", laid_henkan_crc_quarter)] }
def JournalOwnSaid : Prop := journalOwnRow.holds Tryd.pinned (OpenSpec.ofChange journalOwnSpec)

/-- ITS FALSE NEIGHBOUR: 'it returns false'. Refute it at one input. -/
def journalOwnWrong : ChangeSpec := { name := "journalOwn", fn := fun _ => fun
  | [d] => { results := [.lit (.bool false)], args := [d] }
  | _ => none }
def JournalOwnWrongFalsely : Prop := journalOwnRow.holds Tryd.pinned (OpenSpec.ofChange journalOwnWrong)

/-- 'henkanlaw35.JournalLimits': WHATEVER THE INPUT: true; the input reads as it did. -/
def journalLimitsSpec : ChangeSpec := { name := "journalLimits", fn := fun _ => fun
  | [d] => { results := [.lit (.bool true)], args := [d] }
  | _ => none }
def journalLimitsRow : OpenClaim := { program := "ytmimplmeccoahaadoor", sum := "1a1d33436e8be69b87b67ad4d2b3660d417fcbc8ffb3a00f347549e625982765", func := "henkan/henkanlaw35.JournalLimits", spec := "journalLimits", unfollowed := true, recurses := true, named := ["henkan/crc.quarter"], apart := false, laid := [("henkan/crc.quarter", laid_henkan_crc_quarter)] }
def JournalLimitsSaid : Prop := journalLimitsRow.holds Tryd.pinned (OpenSpec.ofChange journalLimitsSpec)

/-- ITS FALSE NEIGHBOUR: 'it returns false'. Refute it at one input. -/
def journalLimitsWrong : ChangeSpec := { name := "journalLimits", fn := fun _ => fun
  | [d] => { results := [.lit (.bool false)], args := [d] }
  | _ => none }
def JournalLimitsWrongFalsely : Prop := journalLimitsRow.holds Tryd.pinned (OpenSpec.ofChange journalLimitsWrong)

/-- 'henkanlaw35.JournalAgain': WHATEVER THE INPUT: true; the input reads as it did. -/
def journalAgainSpec : ChangeSpec := { name := "journalAgain", fn := fun _ => fun
  | [d1, d2] => { results := [.lit (.bool true)], args := [d1, d2] }
  | _ => none }
def journalAgainRow : OpenClaim := { program := "ytmimplmeccoahaadoor", sum := "1a1d33436e8be69b87b67ad4d2b3660d417fcbc8ffb3a00f347549e625982765", func := "henkan/henkanlaw35.JournalAgain", spec := "journalAgain", unfollowed := true, recurses := true, named := ["henkan/crc.quarter"], apart := false, laid := [("henkan/crc.quarter", laid_henkan_crc_quarter)] }
def JournalAgainSaid : Prop := journalAgainRow.holds Tryd.pinned (OpenSpec.ofChange journalAgainSpec)

/-- ITS FALSE NEIGHBOUR: 'it returns false'. Refute it at one input. -/
def journalAgainWrong : ChangeSpec := { name := "journalAgain", fn := fun _ => fun
  | [d1, d2] => { results := [.lit (.bool false)], args := [d1, d2] }
  | _ => none }
def JournalAgainWrongFalsely : Prop := journalAgainRow.holds Tryd.pinned (OpenSpec.ofChange journalAgainWrong)

/-- 'henkanlaw35.JournalKeeps': WHATEVER THE INPUT: true; the input reads as it did. -/
def journalKeepsSpec : ChangeSpec := { name := "journalKeeps", fn := fun _ => fun
  | [d1, d2] => { results := [.lit (.bool true)], args := [d1, d2] }
  | _ => none }
def journalKeepsRow : OpenClaim := { program := "ytmimplmeccoahaadoor", sum := "1a1d33436e8be69b87b67ad4d2b3660d417fcbc8ffb3a00f347549e625982765", func := "henkan/henkanlaw35.JournalKeeps", spec := "journalKeeps", unfollowed := true, recurses := true, named := ["henkan/crc.quarter"], apart := false, laid := [("henkan/crc.quarter", laid_henkan_crc_quarter)] }
def JournalKeepsSaid : Prop := journalKeepsRow.holds Tryd.pinned (OpenSpec.ofChange journalKeepsSpec)

/-- ITS FALSE NEIGHBOUR: 'it returns false'. Refute it at one input. -/
def journalKeepsWrong : ChangeSpec := { name := "journalKeeps", fn := fun _ => fun
  | [d1, d2] => { results := [.lit (.bool false)], args := [d1, d2] }
  | _ => none }
def JournalKeepsWrongFalsely : Prop := journalKeepsRow.holds Tryd.pinned (OpenSpec.ofChange journalKeepsWrong)

/-- 'henkanlaw35.JournalKnown': WHATEVER THE INPUT: true; the input reads as it did. -/
def journalKnownSpec : ChangeSpec := { name := "journalKnown", fn := fun _ => fun
  | [] => { results := [.lit (.bool true)], args := [] }
  | _ => none }
def journalKnownRow : OpenClaim := { program := "ytmimplmeccoahaadoor", sum := "1a1d33436e8be69b87b67ad4d2b3660d417fcbc8ffb3a00f347549e625982765", func := "henkan/henkanlaw35.JournalKnown", spec := "journalKnown", unfollowed := true, recurses := true, named := ["henkan/crc.quarter"], apart := false, laid := [("henkan/crc.quarter", laid_henkan_crc_quarter)] }
def JournalKnownSaid : Prop := journalKnownRow.holds Tryd.pinned (OpenSpec.ofChange journalKnownSpec)

/-- ITS FALSE NEIGHBOUR: 'it returns false'. Refute it at one input. -/
def journalKnownWrong : ChangeSpec := { name := "journalKnown", fn := fun _ => fun
  | [] => { results := [.lit (.bool false)], args := [] }
  | _ => none }
def JournalKnownWrongFalsely : Prop := journalKnownRow.holds Tryd.pinned (OpenSpec.ofChange journalKnownWrong)

/-- 'henkanlaw35.JournalOpens': WHATEVER THE INPUT: true; the input reads as it did. -/
def journalOpensSpec : ChangeSpec := { name := "journalOpens", fn := fun _ => fun
  | [d] => { results := [.lit (.bool true)], args := [d] }
  | _ => none }
def journalOpensRow : OpenClaim := { program := "ytmimplmeccoahaadoor", sum := "1a1d33436e8be69b87b67ad4d2b3660d417fcbc8ffb3a00f347549e625982765", func := "henkan/henkanlaw35.JournalOpens", spec := "journalOpens", unfollowed := true, recurses := true, named := ["henkan/crc.quarter"], apart := false, laid := [("henkan/crc.quarter", laid_henkan_crc_quarter)] }
def JournalOpensSaid : Prop := journalOpensRow.holds Tryd.pinned (OpenSpec.ofChange journalOpensSpec)

/-- ITS FALSE NEIGHBOUR: 'it returns false'. Refute it at one input. -/
def journalOpensWrong : ChangeSpec := { name := "journalOpens", fn := fun _ => fun
  | [d] => { results := [.lit (.bool false)], args := [d] }
  | _ => none }
def JournalOpensWrongFalsely : Prop := journalOpensRow.holds Tryd.pinned (OpenSpec.ofChange journalOpensWrong)

/-- 'henkanlaw35.JournalDoes': WHATEVER THE INPUT: true; the input reads as it did. -/
def journalDoesSpec : ChangeSpec := { name := "journalDoes", fn := fun _ => fun
  | [d1, d2] => { results := [.lit (.bool true)], args := [d1, d2] }
  | _ => none }
def journalDoesRow : OpenClaim := { program := "ytmimplmeccoahaadoor", sum := "1a1d33436e8be69b87b67ad4d2b3660d417fcbc8ffb3a00f347549e625982765", func := "henkan/henkanlaw35.JournalDoes", spec := "journalDoes", unfollowed := true, recurses := true, named := ["henkan/crc.quarter"], apart := false, laid := [("henkan/crc.quarter", laid_henkan_crc_quarter)] }
def JournalDoesSaid : Prop := journalDoesRow.holds Tryd.pinned (OpenSpec.ofChange journalDoesSpec)

/-- ITS FALSE NEIGHBOUR: 'it returns false'. Refute it at one input. -/
def journalDoesWrong : ChangeSpec := { name := "journalDoes", fn := fun _ => fun
  | [d1, d2] => { results := [.lit (.bool false)], args := [d1, d2] }
  | _ => none }
def JournalDoesWrongFalsely : Prop := journalDoesRow.holds Tryd.pinned (OpenSpec.ofChange journalDoesWrong)

/-- 'henkanlaw35.JournalFormats': WHATEVER THE INPUT: true; the input reads as it did. -/
def journalFormatsSpec : ChangeSpec := { name := "journalFormats", fn := fun _ => fun
  | [d1, d2, d3] => { results := [.lit (.bool true)], args := [d1, d2, d3] }
  | _ => none }
def journalFormatsRow : OpenClaim := { program := "ytmimplmeccoahaadoor", sum := "1a1d33436e8be69b87b67ad4d2b3660d417fcbc8ffb3a00f347549e625982765", func := "henkan/henkanlaw35.JournalFormats", spec := "journalFormats", unfollowed := true, recurses := true, named := ["henkan/crc.quarter"], apart := false, laid := [("henkan/crc.quarter", laid_henkan_crc_quarter)] }
def JournalFormatsSaid : Prop := journalFormatsRow.holds Tryd.pinned (OpenSpec.ofChange journalFormatsSpec)

/-- ITS FALSE NEIGHBOUR: 'it returns false'. Refute it at one input. -/
def journalFormatsWrong : ChangeSpec := { name := "journalFormats", fn := fun _ => fun
  | [d1, d2, d3] => { results := [.lit (.bool false)], args := [d1, d2, d3] }
  | _ => none }
def JournalFormatsWrongFalsely : Prop := journalFormatsRow.holds Tryd.pinned (OpenSpec.ofChange journalFormatsWrong)

/- THE SECOND FORM. 'bulk': how many values and letters a reading holds, each counted each time it is reached (what is shared counts as often as it is met; a slice's spare places count too). A statement '..UptoSaid' is the law's where the arguments, and the package variables that the reading takes, are together of bulk at most 1048576: NARROWER than '..Said'. Prove '..Said' where nothing that the law and all that it calls make is longer than what came in: it says more and counts as full. Else prove '..UptoSaid'. A law counts once. -/
mutual
def uptoBulk {H : Type} : DataW H → Nat
  | .lit (.string bytes) => bytes.length + 1
  | .lit _ => 1
  | .nil => 1
  | .ptr d => uptoBulk d + 1
  | .slice elems spare => uptoBulkAll elems + uptoBulkAll spare + 1
  | .agg parts => uptoBulkAll parts + 1
  | .iface _ d => uptoBulk d + 1
  | .map entries => uptoBulkEntries entries + 1
  | .held _ => 1
def uptoBulkAll {H : Type} : List (DataW H) → Nat
  | [] => 0
  | d :: r => uptoBulk d + uptoBulkAll r
def uptoBulkEntries {H : Type} : List (Lit × DataW H) → Nat
  | [] => 0
  | x :: r => uptoBulkEntry x + uptoBulkEntries r
def uptoBulkEntry {H : Type} : Lit × DataW H → Nat
  | (.string bytes, d) => bytes.length + uptoBulk d + 1
  | (_, d) => uptoBulk d + 1
 end
def uptoSmall : (H : Type) → List (DataW H) → Bool := fun _ ds => decide (uptoBulkAll ds ≤ 1048576)
def OpenSpec.upto (s : _root_.Go.ChangeSpec) : _root_.Go.OpenSpec := { _root_.Go.OpenSpec.ofChange s with cond := some uptoSmall }

/-- 'henkanlaw35.JournalRoom', WHERE WHAT IT READS IS OF BULK AT MOST 1048576: true; the input reads as it did. -/
def journalRoomUptoRow : OpenClaim := { program := "ytmimplmeccoahaadoor", sum := "1a1d33436e8be69b87b67ad4d2b3660d417fcbc8ffb3a00f347549e625982765", func := "henkan/henkanlaw35.JournalRoom", spec := "journalRoom", unfollowed := true, recurses := true, named := ["henkan/crc.quarter"], apart := false, laid := [("henkan/crc.quarter", laid_henkan_crc_quarter)], narrowed := true }
def JournalRoomUptoSaid : Prop := journalRoomUptoRow.holds Tryd.pinned (OpenSpec.upto journalRoomSpec)

/-- 'henkanlaw35.JournalOwn', WHERE WHAT IT READS IS OF BULK AT MOST 1048576: true; the input reads as it did. -/
def journalOwnUptoRow : OpenClaim := { program := "ytmimplmeccoahaadoor", sum := "1a1d33436e8be69b87b67ad4d2b3660d417fcbc8ffb3a00f347549e625982765", func := "henkan/henkanlaw35.JournalOwn", spec := "journalOwn", unfollowed := true, recurses := true, named := ["henkan/crc.quarter"], apart := false, laid := [("henkan/crc.quarter", laid_henkan_crc_quarter)], narrowed := true }
def JournalOwnUptoSaid : Prop := journalOwnUptoRow.holds Tryd.pinned (OpenSpec.upto journalOwnSpec)

/-- 'henkanlaw35.JournalLimits', WHERE WHAT IT READS IS OF BULK AT MOST 1048576: true; the input reads as it did. -/
def journalLimitsUptoRow : OpenClaim := { program := "ytmimplmeccoahaadoor", sum := "1a1d33436e8be69b87b67ad4d2b3660d417fcbc8ffb3a00f347549e625982765", func := "henkan/henkanlaw35.JournalLimits", spec := "journalLimits", unfollowed := true, recurses := true, named := ["henkan/crc.quarter"], apart := false, laid := [("henkan/crc.quarter", laid_henkan_crc_quarter)], narrowed := true }
def JournalLimitsUptoSaid : Prop := journalLimitsUptoRow.holds Tryd.pinned (OpenSpec.upto journalLimitsSpec)

/-- 'henkanlaw35.JournalAgain', WHERE WHAT IT READS IS OF BULK AT MOST 1048576: true; the input reads as it did. -/
def journalAgainUptoRow : OpenClaim := { program := "ytmimplmeccoahaadoor", sum := "1a1d33436e8be69b87b67ad4d2b3660d417fcbc8ffb3a00f347549e625982765", func := "henkan/henkanlaw35.JournalAgain", spec := "journalAgain", unfollowed := true, recurses := true, named := ["henkan/crc.quarter"], apart := false, laid := [("henkan/crc.quarter", laid_henkan_crc_quarter)], narrowed := true }
def JournalAgainUptoSaid : Prop := journalAgainUptoRow.holds Tryd.pinned (OpenSpec.upto journalAgainSpec)

/-- 'henkanlaw35.JournalKeeps', WHERE WHAT IT READS IS OF BULK AT MOST 1048576: true; the input reads as it did. -/
def journalKeepsUptoRow : OpenClaim := { program := "ytmimplmeccoahaadoor", sum := "1a1d33436e8be69b87b67ad4d2b3660d417fcbc8ffb3a00f347549e625982765", func := "henkan/henkanlaw35.JournalKeeps", spec := "journalKeeps", unfollowed := true, recurses := true, named := ["henkan/crc.quarter"], apart := false, laid := [("henkan/crc.quarter", laid_henkan_crc_quarter)], narrowed := true }
def JournalKeepsUptoSaid : Prop := journalKeepsUptoRow.holds Tryd.pinned (OpenSpec.upto journalKeepsSpec)

/-- 'henkanlaw35.JournalKnown', WHERE WHAT IT READS IS OF BULK AT MOST 1048576: true; the input reads as it did. -/
def journalKnownUptoRow : OpenClaim := { program := "ytmimplmeccoahaadoor", sum := "1a1d33436e8be69b87b67ad4d2b3660d417fcbc8ffb3a00f347549e625982765", func := "henkan/henkanlaw35.JournalKnown", spec := "journalKnown", unfollowed := true, recurses := true, named := ["henkan/crc.quarter"], apart := false, laid := [("henkan/crc.quarter", laid_henkan_crc_quarter)], narrowed := true }
def JournalKnownUptoSaid : Prop := journalKnownUptoRow.holds Tryd.pinned (OpenSpec.upto journalKnownSpec)

/-- 'henkanlaw35.JournalOpens', WHERE WHAT IT READS IS OF BULK AT MOST 1048576: true; the input reads as it did. -/
def journalOpensUptoRow : OpenClaim := { program := "ytmimplmeccoahaadoor", sum := "1a1d33436e8be69b87b67ad4d2b3660d417fcbc8ffb3a00f347549e625982765", func := "henkan/henkanlaw35.JournalOpens", spec := "journalOpens", unfollowed := true, recurses := true, named := ["henkan/crc.quarter"], apart := false, laid := [("henkan/crc.quarter", laid_henkan_crc_quarter)], narrowed := true }
def JournalOpensUptoSaid : Prop := journalOpensUptoRow.holds Tryd.pinned (OpenSpec.upto journalOpensSpec)

/-- 'henkanlaw35.JournalDoes', WHERE WHAT IT READS IS OF BULK AT MOST 1048576: true; the input reads as it did. -/
def journalDoesUptoRow : OpenClaim := { program := "ytmimplmeccoahaadoor", sum := "1a1d33436e8be69b87b67ad4d2b3660d417fcbc8ffb3a00f347549e625982765", func := "henkan/henkanlaw35.JournalDoes", spec := "journalDoes", unfollowed := true, recurses := true, named := ["henkan/crc.quarter"], apart := false, laid := [("henkan/crc.quarter", laid_henkan_crc_quarter)], narrowed := true }
def JournalDoesUptoSaid : Prop := journalDoesUptoRow.holds Tryd.pinned (OpenSpec.upto journalDoesSpec)

/-- 'henkanlaw35.JournalFormats', WHERE WHAT IT READS IS OF BULK AT MOST 1048576: true; the input reads as it did. -/
def journalFormatsUptoRow : OpenClaim := { program := "ytmimplmeccoahaadoor", sum := "1a1d33436e8be69b87b67ad4d2b3660d417fcbc8ffb3a00f347549e625982765", func := "henkan/henkanlaw35.JournalFormats", spec := "journalFormats", unfollowed := true, recurses := true, named := ["henkan/crc.quarter"], apart := false, laid := [("henkan/crc.quarter", laid_henkan_crc_quarter)], narrowed := true }
def JournalFormatsUptoSaid : Prop := journalFormatsUptoRow.holds Tryd.pinned (OpenSpec.upto journalFormatsSpec)

end Rows
end Go.Proofs.YtmimplmeccoahaaDoor
