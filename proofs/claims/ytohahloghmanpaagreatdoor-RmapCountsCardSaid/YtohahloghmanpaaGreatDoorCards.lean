/-
  DERIVED. GIVEN WITH THE SEED: THE CARDS: each row of YtohahloghmanpaaGreatDoorRows.lean that lists a variable, with what it lists TIED to the program's text (the seventh form; the later family's looks); each row that meets fmt, with fmt's text TOLD by the authors' own Lean function (tested against real Go, not proved from fmt's source: count such statements apart). THE CARD IS WHAT COUNTS. Prove the row's statement (the work); the ties are given (YtohahloghmanpaaGreatDoorTie.lean); close each card by the builder's one call (the guide's Derived/Test/ToyasCard.lean, 'card_holds'). Laid BY PROGRAM, IN A SANDBOX (cutbox-door.mjs). By AI agents, Wed Nov 11 2026. No macro, syntax, notation, axiom, sorry.
-/
import Derived.Test.YtohahloghmanpaaGreatDoorRows
import GoSem.ClaimSeven
namespace Go.Proofs.YtohahloghmanpaaGreatDoor
namespace Rows

/-- THE TIED CARD OF 'henkanlaw33.RmapCounts'. -/
def rmapCountsCard : Claim7 := { stood := { row := rmapCountsRow, standIns := [], harness := (true, "e8f8e4636647edbadd487bebfdab86008c9867ca8b5bd1361b2cd71ec2f3f811"), looks := false }, kinds := [], alts := [], laidByText := true, laidKinds := [.data, .pinned], laidTests := true, laidLooks := .later }
def RmapCountsCardSaid : Prop := Claim7.holds Tryz.pinned (.plain (OpenSpec.ofChange rmapCountsSpec)) rmapCountsCard

/-- THE SECOND FORM's CARD OF 'henkanlaw33.RmapCounts'. -/
def rmapCountsUptoCard : Claim7 := { stood := { row := rmapCountsUptoRow, standIns := [], harness := (true, "e8f8e4636647edbadd487bebfdab86008c9867ca8b5bd1361b2cd71ec2f3f811"), looks := false }, kinds := [], alts := [], laidByText := true, laidKinds := [.data, .pinned], laidTests := true, laidLooks := .later }
def RmapCountsUptoCardSaid : Prop := Claim7.holds Tryz.pinned (.plain (OpenSpec.upto rmapCountsSpec)) rmapCountsUptoCard
end Rows
end Go.Proofs.YtohahloghmanpaaGreatDoor
