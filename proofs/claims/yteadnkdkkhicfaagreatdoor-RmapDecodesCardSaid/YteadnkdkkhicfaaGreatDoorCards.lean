/-
  DERIVED. GIVEN WITH THE SEED: THE CARDS: each row of YteadnkdkkhicfaaGreatDoorRows.lean that lists a variable, with what it lists TIED to the program's text (the seventh form; the later family's looks); each row that meets fmt, with fmt's text TOLD by the authors' own Lean function (tested against real Go, not proved from fmt's source: count such statements apart). THE CARD IS WHAT COUNTS. Prove the row's statement (the work); the ties are given (YteadnkdkkhicfaaGreatDoorTie.lean); close each card by the builder's one call (the guide's Derived/Test/ToyasCard.lean, 'card_holds'). Laid BY PROGRAM, IN A SANDBOX (cutbox-door.mjs). By AI agents, Wed Nov 11 2026. No macro, syntax, notation, axiom, sorry.
-/
import Derived.Test.YteadnkdkkhicfaaGreatDoorRows
import GoSem.ClaimSeven
namespace Go.Proofs.YteadnkdkkhicfaaGreatDoor
namespace Rows

/-- THE TIED CARD OF 'henkanlaw33.RmapDecodes'. -/
def rmapDecodesCard : Claim7 := { stood := { row := rmapDecodesRow, standIns := [], harness := (true, "ec44e6c78d7746193aded7182d37343f1b0f4dce40b99c215efecdc6cdf1d727"), looks := true }, kinds := [], alts := [], laidByText := true, laidKinds := [.data, .pinned], laidTests := true, laidLooks := .later }
def RmapDecodesCardSaid : Prop := Claim7.holds Tryz.pinned (.plain (OpenSpec.ofChange rmapDecodesSpec)) rmapDecodesCard

/-- THE TIED CARD OF 'henkanlaw33.RmapKnown'. -/
def rmapKnownCard : Claim7 := { stood := { row := rmapKnownRow, standIns := [], harness := (true, "ec44e6c78d7746193aded7182d37343f1b0f4dce40b99c215efecdc6cdf1d727"), looks := true }, kinds := [], alts := [], laidByText := true, laidKinds := [.data, .pinned], laidTests := true, laidLooks := .later }
def RmapKnownCardSaid : Prop := Claim7.holds Tryz.pinned (.plain (OpenSpec.ofChange rmapKnownSpec)) rmapKnownCard

/-- THE TIED CARD OF 'henkanlaw33.RmapCounts'. -/
def rmapCountsCard : Claim7 := { stood := { row := rmapCountsRow, standIns := [], harness := (true, "ec44e6c78d7746193aded7182d37343f1b0f4dce40b99c215efecdc6cdf1d727"), looks := true }, kinds := [], alts := [], laidByText := true, laidKinds := [.data, .pinned], laidTests := true, laidLooks := .later }
def RmapCountsCardSaid : Prop := Claim7.holds Tryz.pinned (.plain (OpenSpec.ofChange rmapCountsSpec)) rmapCountsCard

/-- THE SECOND FORM's CARD OF 'henkanlaw33.RmapDecodes'. -/
def rmapDecodesUptoCard : Claim7 := { stood := { row := rmapDecodesUptoRow, standIns := [], harness := (true, "ec44e6c78d7746193aded7182d37343f1b0f4dce40b99c215efecdc6cdf1d727"), looks := true }, kinds := [], alts := [], laidByText := true, laidKinds := [.data, .pinned], laidTests := true, laidLooks := .later }
def RmapDecodesUptoCardSaid : Prop := Claim7.holds Tryz.pinned (.plain (OpenSpec.upto rmapDecodesSpec)) rmapDecodesUptoCard

/-- THE SECOND FORM's CARD OF 'henkanlaw33.RmapKnown'. -/
def rmapKnownUptoCard : Claim7 := { stood := { row := rmapKnownUptoRow, standIns := [], harness := (true, "ec44e6c78d7746193aded7182d37343f1b0f4dce40b99c215efecdc6cdf1d727"), looks := true }, kinds := [], alts := [], laidByText := true, laidKinds := [.data, .pinned], laidTests := true, laidLooks := .later }
def RmapKnownUptoCardSaid : Prop := Claim7.holds Tryz.pinned (.plain (OpenSpec.upto rmapKnownSpec)) rmapKnownUptoCard

/-- THE SECOND FORM's CARD OF 'henkanlaw33.RmapCounts'. -/
def rmapCountsUptoCard : Claim7 := { stood := { row := rmapCountsUptoRow, standIns := [], harness := (true, "ec44e6c78d7746193aded7182d37343f1b0f4dce40b99c215efecdc6cdf1d727"), looks := true }, kinds := [], alts := [], laidByText := true, laidKinds := [.data, .pinned], laidTests := true, laidLooks := .later }
def RmapCountsUptoCardSaid : Prop := Claim7.holds Tryz.pinned (.plain (OpenSpec.upto rmapCountsSpec)) rmapCountsUptoCard
end Rows
end Go.Proofs.YteadnkdkkhicfaaGreatDoor
