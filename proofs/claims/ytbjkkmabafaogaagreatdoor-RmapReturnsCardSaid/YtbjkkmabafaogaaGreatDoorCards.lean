/-
  DERIVED. GIVEN WITH THE SEED: THE CARDS: each row of YtbjkkmabafaogaaGreatDoorRows.lean that lists a variable, with what it lists TIED to the program's text (the seventh form; the later family's looks); each row that meets fmt, with fmt's text TOLD by the authors' own Lean function (tested against real Go, not proved from fmt's source: count such statements apart). THE CARD IS WHAT COUNTS. Prove the row's statement (the work); the ties are given (YtbjkkmabafaogaaGreatDoorTie.lean); close each card by the builder's one call (the guide's Derived/Test/ToyasCard.lean, 'card_holds'). Laid BY PROGRAM, IN A SANDBOX (cutbox-door.mjs). By AI agents, Wed Nov 11 2026. No macro, syntax, notation, axiom, sorry.
-/
import Derived.Test.YtbjkkmabafaogaaGreatDoorRows
import GoSem.ClaimSeven
namespace Go.Proofs.YtbjkkmabafaogaaGreatDoor
namespace Rows

/-- THE TIED CARD OF 'henkanlaw33.RmapChecks'. -/
def rmapChecksCard : Claim7 := { stood := { row := rmapChecksRow, standIns := [], harness := (true, "7f22f400109bd293a22dcf8854d5d89ac8481acfaffab3463b26fafff205250d"), looks := true }, kinds := [], alts := [], laidByText := true, laidKinds := [.data, .pinned], laidTests := true, laidLooks := .later }
def RmapChecksCardSaid : Prop := Claim7.holds Tryz.pinned (.plain (OpenSpec.ofChange rmapChecksSpec)) rmapChecksCard

/-- THE TIED CARD OF 'henkanlaw33.RmapUses'. -/
def rmapUsesCard : Claim7 := { stood := { row := rmapUsesRow, standIns := [], harness := (true, "7f22f400109bd293a22dcf8854d5d89ac8481acfaffab3463b26fafff205250d"), looks := true }, kinds := [], alts := [], laidByText := true, laidKinds := [.data, .pinned], laidTests := true, laidLooks := .later }
def RmapUsesCardSaid : Prop := Claim7.holds Tryz.pinned (.plain (OpenSpec.ofChange rmapUsesSpec)) rmapUsesCard

/-- THE TIED CARD OF 'henkanlaw33.RmapFull'. -/
def rmapFullCard : Claim7 := { stood := { row := rmapFullRow, standIns := [], harness := (true, "7f22f400109bd293a22dcf8854d5d89ac8481acfaffab3463b26fafff205250d"), looks := true }, kinds := [], alts := [], laidByText := true, laidKinds := [.data, .pinned], laidTests := true, laidLooks := .later }
def RmapFullCardSaid : Prop := Claim7.holds Tryz.pinned (.plain (OpenSpec.ofChange rmapFullSpec)) rmapFullCard

/-- THE TIED CARD OF 'henkanlaw33.RmapEncodes'. -/
def rmapEncodesCard : Claim7 := { stood := { row := rmapEncodesRow, standIns := [], harness := (true, "7f22f400109bd293a22dcf8854d5d89ac8481acfaffab3463b26fafff205250d"), looks := true }, kinds := [], alts := [], laidByText := true, laidKinds := [.data, .pinned], laidTests := true, laidLooks := .later }
def RmapEncodesCardSaid : Prop := Claim7.holds Tryz.pinned (.plain (OpenSpec.ofChange rmapEncodesSpec)) rmapEncodesCard

/-- THE TIED CARD OF 'henkanlaw33.RmapMerges'. -/
def rmapMergesCard : Claim7 := { stood := { row := rmapMergesRow, standIns := [], harness := (true, "7f22f400109bd293a22dcf8854d5d89ac8481acfaffab3463b26fafff205250d"), looks := true }, kinds := [], alts := [], laidByText := true, laidKinds := [.data, .pinned], laidTests := true, laidLooks := .later }
def RmapMergesCardSaid : Prop := Claim7.holds Tryz.pinned (.plain (OpenSpec.ofChange rmapMergesSpec)) rmapMergesCard

/-- THE TIED CARD OF 'henkanlaw33.RmapJoins'. -/
def rmapJoinsCard : Claim7 := { stood := { row := rmapJoinsRow, standIns := [], harness := (true, "7f22f400109bd293a22dcf8854d5d89ac8481acfaffab3463b26fafff205250d"), looks := true }, kinds := [], alts := [], laidByText := true, laidKinds := [.data, .pinned], laidTests := true, laidLooks := .later }
def RmapJoinsCardSaid : Prop := Claim7.holds Tryz.pinned (.plain (OpenSpec.ofChange rmapJoinsSpec)) rmapJoinsCard

/-- THE TIED CARD OF 'henkanlaw33.RmapForgets'. -/
def rmapForgetsCard : Claim7 := { stood := { row := rmapForgetsRow, standIns := [], harness := (true, "7f22f400109bd293a22dcf8854d5d89ac8481acfaffab3463b26fafff205250d"), looks := true }, kinds := [], alts := [], laidByText := true, laidKinds := [.data, .pinned], laidTests := true, laidLooks := .later }
def RmapForgetsCardSaid : Prop := Claim7.holds Tryz.pinned (.plain (OpenSpec.ofChange rmapForgetsSpec)) rmapForgetsCard

/-- THE TIED CARD OF 'henkanlaw33.RmapAgrees'. -/
def rmapAgreesCard : Claim7 := { stood := { row := rmapAgreesRow, standIns := [], harness := (true, "7f22f400109bd293a22dcf8854d5d89ac8481acfaffab3463b26fafff205250d"), looks := true }, kinds := [], alts := [], laidByText := true, laidKinds := [.data, .pinned], laidTests := true, laidLooks := .later }
def RmapAgreesCardSaid : Prop := Claim7.holds Tryz.pinned (.plain (OpenSpec.ofChange rmapAgreesSpec)) rmapAgreesCard

/-- THE TIED CARD OF 'henkanlaw33.RmapGrows'. -/
def rmapGrowsCard : Claim7 := { stood := { row := rmapGrowsRow, standIns := [], harness := (true, "7f22f400109bd293a22dcf8854d5d89ac8481acfaffab3463b26fafff205250d"), looks := true }, kinds := [], alts := [], laidByText := true, laidKinds := [.data, .pinned], laidTests := true, laidLooks := .later }
def RmapGrowsCardSaid : Prop := Claim7.holds Tryz.pinned (.plain (OpenSpec.ofChange rmapGrowsSpec)) rmapGrowsCard

/-- THE TIED CARD OF 'henkanlaw33.RmapRemembers'. -/
def rmapRemembersCard : Claim7 := { stood := { row := rmapRemembersRow, standIns := [], harness := (true, "7f22f400109bd293a22dcf8854d5d89ac8481acfaffab3463b26fafff205250d"), looks := true }, kinds := [], alts := [], laidByText := true, laidKinds := [.data, .pinned], laidTests := true, laidLooks := .later }
def RmapRemembersCardSaid : Prop := Claim7.holds Tryz.pinned (.plain (OpenSpec.ofChange rmapRemembersSpec)) rmapRemembersCard

/-- THE TIED CARD OF 'henkanlaw33.RmapDecodes'. -/
def rmapDecodesCard : Claim7 := { stood := { row := rmapDecodesRow, standIns := [], harness := (true, "7f22f400109bd293a22dcf8854d5d89ac8481acfaffab3463b26fafff205250d"), looks := true }, kinds := [], alts := [], laidByText := true, laidKinds := [.data, .pinned], laidTests := true, laidLooks := .later }
def RmapDecodesCardSaid : Prop := Claim7.holds Tryz.pinned (.plain (OpenSpec.ofChange rmapDecodesSpec)) rmapDecodesCard

/-- THE TIED CARD OF 'henkanlaw33.RmapReturns'. -/
def rmapReturnsCard : Claim7 := { stood := { row := rmapReturnsRow, standIns := [], harness := (true, "7f22f400109bd293a22dcf8854d5d89ac8481acfaffab3463b26fafff205250d"), looks := true }, kinds := [], alts := [], laidByText := true, laidKinds := [.data, .pinned], laidTests := true, laidLooks := .later }
def RmapReturnsCardSaid : Prop := Claim7.holds Tryz.pinned (.plain (OpenSpec.ofChange rmapReturnsSpec)) rmapReturnsCard

/-- THE TIED CARD OF 'henkanlaw33.RmapKnown'. -/
def rmapKnownCard : Claim7 := { stood := { row := rmapKnownRow, standIns := [], harness := (true, "7f22f400109bd293a22dcf8854d5d89ac8481acfaffab3463b26fafff205250d"), looks := true }, kinds := [], alts := [], laidByText := true, laidKinds := [.data, .pinned], laidTests := true, laidLooks := .later }
def RmapKnownCardSaid : Prop := Claim7.holds Tryz.pinned (.plain (OpenSpec.ofChange rmapKnownSpec)) rmapKnownCard

/-- THE TIED CARD OF 'henkanlaw33.RmapCounts'. -/
def rmapCountsCard : Claim7 := { stood := { row := rmapCountsRow, standIns := [], harness := (true, "7f22f400109bd293a22dcf8854d5d89ac8481acfaffab3463b26fafff205250d"), looks := true }, kinds := [], alts := [], laidByText := true, laidKinds := [.data, .pinned], laidTests := true, laidLooks := .later }
def RmapCountsCardSaid : Prop := Claim7.holds Tryz.pinned (.plain (OpenSpec.ofChange rmapCountsSpec)) rmapCountsCard

/-- THE SECOND FORM's CARD OF 'henkanlaw33.RmapChecks'. -/
def rmapChecksUptoCard : Claim7 := { stood := { row := rmapChecksUptoRow, standIns := [], harness := (true, "7f22f400109bd293a22dcf8854d5d89ac8481acfaffab3463b26fafff205250d"), looks := true }, kinds := [], alts := [], laidByText := true, laidKinds := [.data, .pinned], laidTests := true, laidLooks := .later }
def RmapChecksUptoCardSaid : Prop := Claim7.holds Tryz.pinned (.plain (OpenSpec.upto rmapChecksSpec)) rmapChecksUptoCard

/-- THE SECOND FORM's CARD OF 'henkanlaw33.RmapUses'. -/
def rmapUsesUptoCard : Claim7 := { stood := { row := rmapUsesUptoRow, standIns := [], harness := (true, "7f22f400109bd293a22dcf8854d5d89ac8481acfaffab3463b26fafff205250d"), looks := true }, kinds := [], alts := [], laidByText := true, laidKinds := [.data, .pinned], laidTests := true, laidLooks := .later }
def RmapUsesUptoCardSaid : Prop := Claim7.holds Tryz.pinned (.plain (OpenSpec.upto rmapUsesSpec)) rmapUsesUptoCard

/-- THE SECOND FORM's CARD OF 'henkanlaw33.RmapFull'. -/
def rmapFullUptoCard : Claim7 := { stood := { row := rmapFullUptoRow, standIns := [], harness := (true, "7f22f400109bd293a22dcf8854d5d89ac8481acfaffab3463b26fafff205250d"), looks := true }, kinds := [], alts := [], laidByText := true, laidKinds := [.data, .pinned], laidTests := true, laidLooks := .later }
def RmapFullUptoCardSaid : Prop := Claim7.holds Tryz.pinned (.plain (OpenSpec.upto rmapFullSpec)) rmapFullUptoCard

/-- THE SECOND FORM's CARD OF 'henkanlaw33.RmapEncodes'. -/
def rmapEncodesUptoCard : Claim7 := { stood := { row := rmapEncodesUptoRow, standIns := [], harness := (true, "7f22f400109bd293a22dcf8854d5d89ac8481acfaffab3463b26fafff205250d"), looks := true }, kinds := [], alts := [], laidByText := true, laidKinds := [.data, .pinned], laidTests := true, laidLooks := .later }
def RmapEncodesUptoCardSaid : Prop := Claim7.holds Tryz.pinned (.plain (OpenSpec.upto rmapEncodesSpec)) rmapEncodesUptoCard

/-- THE SECOND FORM's CARD OF 'henkanlaw33.RmapMerges'. -/
def rmapMergesUptoCard : Claim7 := { stood := { row := rmapMergesUptoRow, standIns := [], harness := (true, "7f22f400109bd293a22dcf8854d5d89ac8481acfaffab3463b26fafff205250d"), looks := true }, kinds := [], alts := [], laidByText := true, laidKinds := [.data, .pinned], laidTests := true, laidLooks := .later }
def RmapMergesUptoCardSaid : Prop := Claim7.holds Tryz.pinned (.plain (OpenSpec.upto rmapMergesSpec)) rmapMergesUptoCard

/-- THE SECOND FORM's CARD OF 'henkanlaw33.RmapJoins'. -/
def rmapJoinsUptoCard : Claim7 := { stood := { row := rmapJoinsUptoRow, standIns := [], harness := (true, "7f22f400109bd293a22dcf8854d5d89ac8481acfaffab3463b26fafff205250d"), looks := true }, kinds := [], alts := [], laidByText := true, laidKinds := [.data, .pinned], laidTests := true, laidLooks := .later }
def RmapJoinsUptoCardSaid : Prop := Claim7.holds Tryz.pinned (.plain (OpenSpec.upto rmapJoinsSpec)) rmapJoinsUptoCard

/-- THE SECOND FORM's CARD OF 'henkanlaw33.RmapForgets'. -/
def rmapForgetsUptoCard : Claim7 := { stood := { row := rmapForgetsUptoRow, standIns := [], harness := (true, "7f22f400109bd293a22dcf8854d5d89ac8481acfaffab3463b26fafff205250d"), looks := true }, kinds := [], alts := [], laidByText := true, laidKinds := [.data, .pinned], laidTests := true, laidLooks := .later }
def RmapForgetsUptoCardSaid : Prop := Claim7.holds Tryz.pinned (.plain (OpenSpec.upto rmapForgetsSpec)) rmapForgetsUptoCard

/-- THE SECOND FORM's CARD OF 'henkanlaw33.RmapAgrees'. -/
def rmapAgreesUptoCard : Claim7 := { stood := { row := rmapAgreesUptoRow, standIns := [], harness := (true, "7f22f400109bd293a22dcf8854d5d89ac8481acfaffab3463b26fafff205250d"), looks := true }, kinds := [], alts := [], laidByText := true, laidKinds := [.data, .pinned], laidTests := true, laidLooks := .later }
def RmapAgreesUptoCardSaid : Prop := Claim7.holds Tryz.pinned (.plain (OpenSpec.upto rmapAgreesSpec)) rmapAgreesUptoCard

/-- THE SECOND FORM's CARD OF 'henkanlaw33.RmapGrows'. -/
def rmapGrowsUptoCard : Claim7 := { stood := { row := rmapGrowsUptoRow, standIns := [], harness := (true, "7f22f400109bd293a22dcf8854d5d89ac8481acfaffab3463b26fafff205250d"), looks := true }, kinds := [], alts := [], laidByText := true, laidKinds := [.data, .pinned], laidTests := true, laidLooks := .later }
def RmapGrowsUptoCardSaid : Prop := Claim7.holds Tryz.pinned (.plain (OpenSpec.upto rmapGrowsSpec)) rmapGrowsUptoCard

/-- THE SECOND FORM's CARD OF 'henkanlaw33.RmapRemembers'. -/
def rmapRemembersUptoCard : Claim7 := { stood := { row := rmapRemembersUptoRow, standIns := [], harness := (true, "7f22f400109bd293a22dcf8854d5d89ac8481acfaffab3463b26fafff205250d"), looks := true }, kinds := [], alts := [], laidByText := true, laidKinds := [.data, .pinned], laidTests := true, laidLooks := .later }
def RmapRemembersUptoCardSaid : Prop := Claim7.holds Tryz.pinned (.plain (OpenSpec.upto rmapRemembersSpec)) rmapRemembersUptoCard

/-- THE SECOND FORM's CARD OF 'henkanlaw33.RmapDecodes'. -/
def rmapDecodesUptoCard : Claim7 := { stood := { row := rmapDecodesUptoRow, standIns := [], harness := (true, "7f22f400109bd293a22dcf8854d5d89ac8481acfaffab3463b26fafff205250d"), looks := true }, kinds := [], alts := [], laidByText := true, laidKinds := [.data, .pinned], laidTests := true, laidLooks := .later }
def RmapDecodesUptoCardSaid : Prop := Claim7.holds Tryz.pinned (.plain (OpenSpec.upto rmapDecodesSpec)) rmapDecodesUptoCard

/-- THE SECOND FORM's CARD OF 'henkanlaw33.RmapReturns'. -/
def rmapReturnsUptoCard : Claim7 := { stood := { row := rmapReturnsUptoRow, standIns := [], harness := (true, "7f22f400109bd293a22dcf8854d5d89ac8481acfaffab3463b26fafff205250d"), looks := true }, kinds := [], alts := [], laidByText := true, laidKinds := [.data, .pinned], laidTests := true, laidLooks := .later }
def RmapReturnsUptoCardSaid : Prop := Claim7.holds Tryz.pinned (.plain (OpenSpec.upto rmapReturnsSpec)) rmapReturnsUptoCard

/-- THE SECOND FORM's CARD OF 'henkanlaw33.RmapKnown'. -/
def rmapKnownUptoCard : Claim7 := { stood := { row := rmapKnownUptoRow, standIns := [], harness := (true, "7f22f400109bd293a22dcf8854d5d89ac8481acfaffab3463b26fafff205250d"), looks := true }, kinds := [], alts := [], laidByText := true, laidKinds := [.data, .pinned], laidTests := true, laidLooks := .later }
def RmapKnownUptoCardSaid : Prop := Claim7.holds Tryz.pinned (.plain (OpenSpec.upto rmapKnownSpec)) rmapKnownUptoCard

/-- THE SECOND FORM's CARD OF 'henkanlaw33.RmapCounts'. -/
def rmapCountsUptoCard : Claim7 := { stood := { row := rmapCountsUptoRow, standIns := [], harness := (true, "7f22f400109bd293a22dcf8854d5d89ac8481acfaffab3463b26fafff205250d"), looks := true }, kinds := [], alts := [], laidByText := true, laidKinds := [.data, .pinned], laidTests := true, laidLooks := .later }
def RmapCountsUptoCardSaid : Prop := Claim7.holds Tryz.pinned (.plain (OpenSpec.upto rmapCountsSpec)) rmapCountsUptoCard
end Rows
end Go.Proofs.YtbjkkmabafaogaaGreatDoor
