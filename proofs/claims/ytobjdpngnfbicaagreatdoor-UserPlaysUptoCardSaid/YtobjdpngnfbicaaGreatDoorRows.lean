/-
  NARROWER THAN 'FOR EVERY INPUT', by the rows' own cells (each row's printed sentence says how): UserKeeps: laid · UserPlays: laid · UserOpens: laid · UserKnown: laid · UserNil: laid · UserSilent: laid.
  DERIVED. THE GIVEN ROWS OF THIS SEAT. 6 by the template 'for every input the law returns true; each argument reads behind the call as it read before'; 0 by the template 'total and deterministic' (their statements: YtobjdpngnfbicaaGreatDoorTotals.lean).
  GIVEN WITH THE SEED: the statements are not yours to turn. If you find one false, say at which input.
  Laid BY PROGRAM, IN A SANDBOX (cutbox-rows.mjs): the forced cells as the released guide's own fill.sh prints them over the translation efe030fbe7a18e2a… (all of the seat's roots in one cut). By AI agents, Wed Nov 11 2026. No macro, syntax, notation, axiom, sorry.
-/
import Derived.Test.YtobjdpngnfbicaaGreatDoorChecked
import GoSem.PinnedTables
import GoSem.Claim
import GoSem.ClaimJoined
import GoSem.ClaimMapViews
import Derived.JoinedTies
import Derived.KernelRfl
namespace Go.Proofs.YtobjdpngnfbicaaGreatDoor
/- THE CELL 'sum', in the pinned program and in every row, IS THE sha256 OF THE DUMP (.gsa) THAT YtobjdpngnfbicaaGreatDoorProg.lean LOADS. Nothing in Lean hashes anything: it is a label: what it is worth is what the hold of that sum in a sandbox is worth. -/
noncomputable def Tryz.pinned : Pinned := { name := "ytobjdpngnfbicaagreatdoor", sum := "efe030fbe7a18e2abc5ef8d072b4aabf603038ffdfec75770f2a68ee489710d8", checked := Tryz.checked }
namespace Rows
def none {H : Type} : Left H := { results := [], args := [] }

/- WHAT THE LISTED PACKAGE-LEVEL VARIABLES READ AS WHEN THE CALL BEGINS. Each datum BY PROGRAM (the guide's laid-datum.mjs) off the statement by which the dump's own 'gosem.cut.vars' lays the variable. In a bare row this is a premise. The card (YtobjdpngnfbicaaGreatDoorCards.lean) ties it to the program's text. -/
def laid_henkan_crc_quarter {H : Type} : DataW H := .agg [.lit (.int .u32 0), .lit (.int .u32 498536548), .lit (.int .u32 997073096), .lit (.int .u32 651767980), .lit (.int .u32 1994146192), .lit (.int .u32 1802195444), .lit (.int .u32 1303535960), .lit (.int .u32 1342533948), .lit (.int .u32 3988292384), .lit (.int .u32 4027552580), .lit (.int .u32 3604390888), .lit (.int .u32 3412177804), .lit (.int .u32 2607071920), .lit (.int .u32 2262029012), .lit (.int .u32 2685067896), .lit (.int .u32 3183342108)]
def laid_unicode_utf8_acceptRanges {H : Type} : DataW H := .agg [.agg [.lit (.int .u8 128), .lit (.int .u8 191)], .agg [.lit (.int .u8 160), .lit (.int .u8 191)], .agg [.lit (.int .u8 128), .lit (.int .u8 159)], .agg [.lit (.int .u8 144), .lit (.int .u8 191)], .agg [.lit (.int .u8 128), .lit (.int .u8 143)], .agg [.lit (.int .u8 0), .lit (.int .u8 0)], .agg [.lit (.int .u8 0), .lit (.int .u8 0)], .agg [.lit (.int .u8 0), .lit (.int .u8 0)], .agg [.lit (.int .u8 0), .lit (.int .u8 0)], .agg [.lit (.int .u8 0), .lit (.int .u8 0)], .agg [.lit (.int .u8 0), .lit (.int .u8 0)], .agg [.lit (.int .u8 0), .lit (.int .u8 0)], .agg [.lit (.int .u8 0), .lit (.int .u8 0)], .agg [.lit (.int .u8 0), .lit (.int .u8 0)], .agg [.lit (.int .u8 0), .lit (.int .u8 0)], .agg [.lit (.int .u8 0), .lit (.int .u8 0)]]
/-- One of Go's own tables, pinned by name: the form's constant. -/
def laid_unicode_utf8_first : DataW Unit := Go.Pinned.utf8First

/-- 'henkanlaw36.UserKeeps': WHATEVER THE INPUT: true; the input reads as it did. -/
def userKeepsSpec : ChangeSpec := { name := "userKeeps", fn := fun _ => fun
  | [d1, d2] => { results := [.lit (.bool true)], args := [d1, d2] }
  | _ => none }
def userKeepsRow : OpenClaim := { program := "ytobjdpngnfbicaagreatdoor", sum := "efe030fbe7a18e2abc5ef8d072b4aabf603038ffdfec75770f2a68ee489710d8", func := "henkan/henkanlaw36.UserKeeps", spec := "userKeeps", inPlace := ["internal/bytealg.IndexByteString", "internal/bytealg.IndexString"], unfollowed := true, recurses := true, named := ["henkan/crc.quarter", "internal/bytealg.MaxLen", "unicode/utf8.first", "unicode/utf8.acceptRanges"], apart := false, laid := [("henkan/crc.quarter", laid_henkan_crc_quarter), ("unicode/utf8.acceptRanges", laid_unicode_utf8_acceptRanges), ("unicode/utf8.first", laid_unicode_utf8_first)] }
def UserKeepsSaid : Prop := userKeepsRow.holds Tryz.pinned (OpenSpec.ofChange userKeepsSpec)

/-- ITS FALSE NEIGHBOUR: 'it returns false'. Refute it at one input. -/
def userKeepsWrong : ChangeSpec := { name := "userKeeps", fn := fun _ => fun
  | [d1, d2] => { results := [.lit (.bool false)], args := [d1, d2] }
  | _ => none }
def UserKeepsWrongFalsely : Prop := userKeepsRow.holds Tryz.pinned (OpenSpec.ofChange userKeepsWrong)

/-- 'henkanlaw36.UserPlays': WHATEVER THE INPUT: true; the input reads as it did. -/
def userPlaysSpec : ChangeSpec := { name := "userPlays", fn := fun _ => fun
  | [d1, d2, d3] => { results := [.lit (.bool true)], args := [d1, d2, d3] }
  | _ => none }
def userPlaysRow : OpenClaim := { program := "ytobjdpngnfbicaagreatdoor", sum := "efe030fbe7a18e2abc5ef8d072b4aabf603038ffdfec75770f2a68ee489710d8", func := "henkan/henkanlaw36.UserPlays", spec := "userPlays", inPlace := ["internal/bytealg.IndexByteString", "internal/bytealg.IndexString"], unfollowed := true, recurses := true, named := ["henkan/crc.quarter", "internal/bytealg.MaxLen", "unicode/utf8.first", "unicode/utf8.acceptRanges"], apart := false, laid := [("henkan/crc.quarter", laid_henkan_crc_quarter), ("unicode/utf8.acceptRanges", laid_unicode_utf8_acceptRanges), ("unicode/utf8.first", laid_unicode_utf8_first)] }
def UserPlaysSaid : Prop := userPlaysRow.holds Tryz.pinned (OpenSpec.ofChange userPlaysSpec)

/-- ITS FALSE NEIGHBOUR: 'it returns false'. Refute it at one input. -/
def userPlaysWrong : ChangeSpec := { name := "userPlays", fn := fun _ => fun
  | [d1, d2, d3] => { results := [.lit (.bool false)], args := [d1, d2, d3] }
  | _ => none }
def UserPlaysWrongFalsely : Prop := userPlaysRow.holds Tryz.pinned (OpenSpec.ofChange userPlaysWrong)

/-- 'henkanlaw36.UserOpens': WHATEVER THE INPUT: true; the input reads as it did. -/
def userOpensSpec : ChangeSpec := { name := "userOpens", fn := fun _ => fun
  | [d] => { results := [.lit (.bool true)], args := [d] }
  | _ => none }
def userOpensRow : OpenClaim := { program := "ytobjdpngnfbicaagreatdoor", sum := "efe030fbe7a18e2abc5ef8d072b4aabf603038ffdfec75770f2a68ee489710d8", func := "henkan/henkanlaw36.UserOpens", spec := "userOpens", inPlace := ["internal/bytealg.IndexByteString", "internal/bytealg.IndexString"], unfollowed := true, recurses := true, named := ["henkan/crc.quarter", "internal/bytealg.MaxLen", "unicode/utf8.first", "unicode/utf8.acceptRanges"], apart := false, laid := [("henkan/crc.quarter", laid_henkan_crc_quarter), ("unicode/utf8.acceptRanges", laid_unicode_utf8_acceptRanges), ("unicode/utf8.first", laid_unicode_utf8_first)] }
def UserOpensSaid : Prop := userOpensRow.holds Tryz.pinned (OpenSpec.ofChange userOpensSpec)

/-- ITS FALSE NEIGHBOUR: 'it returns false'. Refute it at one input. -/
def userOpensWrong : ChangeSpec := { name := "userOpens", fn := fun _ => fun
  | [d] => { results := [.lit (.bool false)], args := [d] }
  | _ => none }
def UserOpensWrongFalsely : Prop := userOpensRow.holds Tryz.pinned (OpenSpec.ofChange userOpensWrong)

/-- 'henkanlaw36.UserKnown': WHATEVER THE INPUT: true; the input reads as it did. -/
def userKnownSpec : ChangeSpec := { name := "userKnown", fn := fun _ => fun
  | [] => { results := [.lit (.bool true)], args := [] }
  | _ => none }
def userKnownRow : OpenClaim := { program := "ytobjdpngnfbicaagreatdoor", sum := "efe030fbe7a18e2abc5ef8d072b4aabf603038ffdfec75770f2a68ee489710d8", func := "henkan/henkanlaw36.UserKnown", spec := "userKnown", inPlace := ["internal/bytealg.IndexByteString", "internal/bytealg.IndexString"], unfollowed := true, recurses := true, named := ["henkan/crc.quarter", "internal/bytealg.MaxLen", "unicode/utf8.first", "unicode/utf8.acceptRanges"], apart := false, laid := [("henkan/crc.quarter", laid_henkan_crc_quarter), ("unicode/utf8.acceptRanges", laid_unicode_utf8_acceptRanges), ("unicode/utf8.first", laid_unicode_utf8_first)] }
def UserKnownSaid : Prop := userKnownRow.holds Tryz.pinned (OpenSpec.ofChange userKnownSpec)

/-- ITS FALSE NEIGHBOUR: 'it returns false'. Refute it at one input. -/
def userKnownWrong : ChangeSpec := { name := "userKnown", fn := fun _ => fun
  | [] => { results := [.lit (.bool false)], args := [] }
  | _ => none }
def UserKnownWrongFalsely : Prop := userKnownRow.holds Tryz.pinned (OpenSpec.ofChange userKnownWrong)

/-- 'henkanlaw36.UserNil': WHATEVER THE INPUT: true; the input reads as it did. -/
def userNilSpec : ChangeSpec := { name := "userNil", fn := fun _ => fun
  | [d] => { results := [.lit (.bool true)], args := [d] }
  | _ => none }
def userNilRow : OpenClaim := { program := "ytobjdpngnfbicaagreatdoor", sum := "efe030fbe7a18e2abc5ef8d072b4aabf603038ffdfec75770f2a68ee489710d8", func := "henkan/henkanlaw36.UserNil", spec := "userNil", inPlace := ["internal/bytealg.IndexByteString", "internal/bytealg.IndexString"], unfollowed := true, recurses := true, named := ["internal/bytealg.MaxLen", "unicode/utf8.first", "unicode/utf8.acceptRanges", "henkan/crc.quarter"], apart := false, laid := [("henkan/crc.quarter", laid_henkan_crc_quarter), ("unicode/utf8.acceptRanges", laid_unicode_utf8_acceptRanges), ("unicode/utf8.first", laid_unicode_utf8_first)] }
def UserNilSaid : Prop := userNilRow.holds Tryz.pinned (OpenSpec.ofChange userNilSpec)

/-- ITS FALSE NEIGHBOUR: 'it returns false'. Refute it at one input. -/
def userNilWrong : ChangeSpec := { name := "userNil", fn := fun _ => fun
  | [d] => { results := [.lit (.bool false)], args := [d] }
  | _ => none }
def UserNilWrongFalsely : Prop := userNilRow.holds Tryz.pinned (OpenSpec.ofChange userNilWrong)

/-- 'henkanlaw36.UserSilent': WHATEVER THE INPUT: true; the input reads as it did. -/
def userSilentSpec : ChangeSpec := { name := "userSilent", fn := fun _ => fun
  | [d] => { results := [.lit (.bool true)], args := [d] }
  | _ => none }
def userSilentRow : OpenClaim := { program := "ytobjdpngnfbicaagreatdoor", sum := "efe030fbe7a18e2abc5ef8d072b4aabf603038ffdfec75770f2a68ee489710d8", func := "henkan/henkanlaw36.UserSilent", spec := "userSilent", inPlace := ["internal/bytealg.IndexByteString", "internal/bytealg.IndexString"], unfollowed := true, recurses := true, named := ["henkan/crc.quarter", "internal/bytealg.MaxLen", "unicode/utf8.first", "unicode/utf8.acceptRanges"], apart := false, laid := [("henkan/crc.quarter", laid_henkan_crc_quarter), ("unicode/utf8.acceptRanges", laid_unicode_utf8_acceptRanges), ("unicode/utf8.first", laid_unicode_utf8_first)] }
def UserSilentSaid : Prop := userSilentRow.holds Tryz.pinned (OpenSpec.ofChange userSilentSpec)

/-- ITS FALSE NEIGHBOUR: 'it returns false'. Refute it at one input. -/
def userSilentWrong : ChangeSpec := { name := "userSilent", fn := fun _ => fun
  | [d] => { results := [.lit (.bool false)], args := [d] }
  | _ => none }
def UserSilentWrongFalsely : Prop := userSilentRow.holds Tryz.pinned (OpenSpec.ofChange userSilentWrong)

/- THE SECOND FORM. 'bulk': how many values and letters a reading holds, each counted each time it is reached (what is shared counts as often as it is met; a slice's spare places count too). A statement '..UptoSaid' is the law's where the arguments, and the package variables that the reading takes, are together of bulk at most 1048576: NARROWER than '..Said'. Prove '..Said' where nothing that the law and all that it calls make is longer than what came in: it says more and counts as full. Else prove '..UptoSaid'. A law counts once. -/
mutual
def uptoBulk {H : Type} : DataW H → Nat
  | .lit (.string bytes) => bytes.length + 1
  | .lit _ => 1
  | .nil => 1
  | .ptr d => uptoBulk d + 1
  | .slice elems spare => uptoBulkAll elems + uptoBulkAll spare + 1
  | .agg parts => uptoBulkAll parts + 1
  | .iface _ d => uptoBulk d + 1
  | .map entries => uptoBulkEntries entries + 1
  | .held _ => 1
def uptoBulkAll {H : Type} : List (DataW H) → Nat
  | [] => 0
  | d :: r => uptoBulk d + uptoBulkAll r
def uptoBulkEntries {H : Type} : List (Lit × DataW H) → Nat
  | [] => 0
  | x :: r => uptoBulkEntry x + uptoBulkEntries r
def uptoBulkEntry {H : Type} : Lit × DataW H → Nat
  | (.string bytes, d) => bytes.length + uptoBulk d + 1
  | (_, d) => uptoBulk d + 1
 end
def uptoSmall : (H : Type) → List (DataW H) → Bool := fun _ ds => decide (uptoBulkAll ds ≤ 1048576)
def OpenSpec.upto (s : _root_.Go.ChangeSpec) : _root_.Go.OpenSpec := { _root_.Go.OpenSpec.ofChange s with cond := some uptoSmall }

/-- 'henkanlaw36.UserKeeps', WHERE WHAT IT READS IS OF BULK AT MOST 1048576: true; the input reads as it did. -/
def userKeepsUptoRow : OpenClaim := { program := "ytobjdpngnfbicaagreatdoor", sum := "efe030fbe7a18e2abc5ef8d072b4aabf603038ffdfec75770f2a68ee489710d8", func := "henkan/henkanlaw36.UserKeeps", spec := "userKeeps", inPlace := ["internal/bytealg.IndexByteString", "internal/bytealg.IndexString"], unfollowed := true, recurses := true, named := ["henkan/crc.quarter", "internal/bytealg.MaxLen", "unicode/utf8.first", "unicode/utf8.acceptRanges"], apart := false, laid := [("henkan/crc.quarter", laid_henkan_crc_quarter), ("unicode/utf8.acceptRanges", laid_unicode_utf8_acceptRanges), ("unicode/utf8.first", laid_unicode_utf8_first)], narrowed := true }
def UserKeepsUptoSaid : Prop := userKeepsUptoRow.holds Tryz.pinned (OpenSpec.upto userKeepsSpec)

/-- 'henkanlaw36.UserPlays', WHERE WHAT IT READS IS OF BULK AT MOST 1048576: true; the input reads as it did. -/
def userPlaysUptoRow : OpenClaim := { program := "ytobjdpngnfbicaagreatdoor", sum := "efe030fbe7a18e2abc5ef8d072b4aabf603038ffdfec75770f2a68ee489710d8", func := "henkan/henkanlaw36.UserPlays", spec := "userPlays", inPlace := ["internal/bytealg.IndexByteString", "internal/bytealg.IndexString"], unfollowed := true, recurses := true, named := ["henkan/crc.quarter", "internal/bytealg.MaxLen", "unicode/utf8.first", "unicode/utf8.acceptRanges"], apart := false, laid := [("henkan/crc.quarter", laid_henkan_crc_quarter), ("unicode/utf8.acceptRanges", laid_unicode_utf8_acceptRanges), ("unicode/utf8.first", laid_unicode_utf8_first)], narrowed := true }
def UserPlaysUptoSaid : Prop := userPlaysUptoRow.holds Tryz.pinned (OpenSpec.upto userPlaysSpec)

/-- 'henkanlaw36.UserOpens', WHERE WHAT IT READS IS OF BULK AT MOST 1048576: true; the input reads as it did. -/
def userOpensUptoRow : OpenClaim := { program := "ytobjdpngnfbicaagreatdoor", sum := "efe030fbe7a18e2abc5ef8d072b4aabf603038ffdfec75770f2a68ee489710d8", func := "henkan/henkanlaw36.UserOpens", spec := "userOpens", inPlace := ["internal/bytealg.IndexByteString", "internal/bytealg.IndexString"], unfollowed := true, recurses := true, named := ["henkan/crc.quarter", "internal/bytealg.MaxLen", "unicode/utf8.first", "unicode/utf8.acceptRanges"], apart := false, laid := [("henkan/crc.quarter", laid_henkan_crc_quarter), ("unicode/utf8.acceptRanges", laid_unicode_utf8_acceptRanges), ("unicode/utf8.first", laid_unicode_utf8_first)], narrowed := true }
def UserOpensUptoSaid : Prop := userOpensUptoRow.holds Tryz.pinned (OpenSpec.upto userOpensSpec)

/-- 'henkanlaw36.UserKnown', WHERE WHAT IT READS IS OF BULK AT MOST 1048576: true; the input reads as it did. -/
def userKnownUptoRow : OpenClaim := { program := "ytobjdpngnfbicaagreatdoor", sum := "efe030fbe7a18e2abc5ef8d072b4aabf603038ffdfec75770f2a68ee489710d8", func := "henkan/henkanlaw36.UserKnown", spec := "userKnown", inPlace := ["internal/bytealg.IndexByteString", "internal/bytealg.IndexString"], unfollowed := true, recurses := true, named := ["henkan/crc.quarter", "internal/bytealg.MaxLen", "unicode/utf8.first", "unicode/utf8.acceptRanges"], apart := false, laid := [("henkan/crc.quarter", laid_henkan_crc_quarter), ("unicode/utf8.acceptRanges", laid_unicode_utf8_acceptRanges), ("unicode/utf8.first", laid_unicode_utf8_first)], narrowed := true }
def UserKnownUptoSaid : Prop := userKnownUptoRow.holds Tryz.pinned (OpenSpec.upto userKnownSpec)

/-- 'henkanlaw36.UserNil', WHERE WHAT IT READS IS OF BULK AT MOST 1048576: true; the input reads as it did. -/
def userNilUptoRow : OpenClaim := { program := "ytobjdpngnfbicaagreatdoor", sum := "efe030fbe7a18e2abc5ef8d072b4aabf603038ffdfec75770f2a68ee489710d8", func := "henkan/henkanlaw36.UserNil", spec := "userNil", inPlace := ["internal/bytealg.IndexByteString", "internal/bytealg.IndexString"], unfollowed := true, recurses := true, named := ["internal/bytealg.MaxLen", "unicode/utf8.first", "unicode/utf8.acceptRanges", "henkan/crc.quarter"], apart := false, laid := [("henkan/crc.quarter", laid_henkan_crc_quarter), ("unicode/utf8.acceptRanges", laid_unicode_utf8_acceptRanges), ("unicode/utf8.first", laid_unicode_utf8_first)], narrowed := true }
def UserNilUptoSaid : Prop := userNilUptoRow.holds Tryz.pinned (OpenSpec.upto userNilSpec)

/-- 'henkanlaw36.UserSilent', WHERE WHAT IT READS IS OF BULK AT MOST 1048576: true; the input reads as it did. -/
def userSilentUptoRow : OpenClaim := { program := "ytobjdpngnfbicaagreatdoor", sum := "efe030fbe7a18e2abc5ef8d072b4aabf603038ffdfec75770f2a68ee489710d8", func := "henkan/henkanlaw36.UserSilent", spec := "userSilent", inPlace := ["internal/bytealg.IndexByteString", "internal/bytealg.IndexString"], unfollowed := true, recurses := true, named := ["henkan/crc.quarter", "internal/bytealg.MaxLen", "unicode/utf8.first", "unicode/utf8.acceptRanges"], apart := false, laid := [("henkan/crc.quarter", laid_henkan_crc_quarter), ("unicode/utf8.acceptRanges", laid_unicode_utf8_acceptRanges), ("unicode/utf8.first", laid_unicode_utf8_first)], narrowed := true }
def UserSilentUptoSaid : Prop := userSilentUptoRow.holds Tryz.pinned (OpenSpec.upto userSilentSpec)

end Rows
end Go.Proofs.YtobjdpngnfbicaaGreatDoor
