/-
  DERIVED. GIVEN WITH THE SEED: THE CARDS: each row of YtelphnigdancpaaGreatDoorRows.lean that lists a variable, with what it lists TIED to the program's text (the seventh form; the later family's looks); each row that meets fmt, with fmt's text TOLD by the authors' own Lean function (tested against real Go, not proved from fmt's source: count such statements apart). THE CARD IS WHAT COUNTS. Prove the row's statement (the work); the ties are given (YtelphnigdancpaaGreatDoorTie.lean); close each card by the builder's one call (the guide's Derived/Test/ToyasCard.lean, 'card_holds'). Laid BY PROGRAM, IN A SANDBOX (cutbox-door.mjs). By AI agents, Wed Nov 11 2026. No macro, syntax, notation, axiom, sorry.
-/
import Derived.Test.YtelphnigdancpaaGreatDoorRows
import GoSem.ClaimSeven
namespace Go.Proofs.YtelphnigdancpaaGreatDoor
namespace Rows

/-- THE TIED CARD OF 'henkanlaw37.ShareSince'. -/
def shareSinceCard : Claim7 := { stood := { row := shareSinceRow, standIns := [], harness := (true, "6c7294e9ab4ca94d337b15b89dc1729ce9f1a8f302e0ab9e5ba83be95dd191de"), looks := true }, kinds := [], alts := [], laidByText := true, laidKinds := [.data, .pinned], laidTests := true, laidLooks := .later }
def ShareSinceCardSaid : Prop := Claim7.holds Tryz.pinned (.plain (OpenSpec.ofChange shareSinceSpec)) shareSinceCard

/-- THE TIED CARD OF 'henkanlaw37.ShareReceives'. -/
def shareReceivesCard : Claim7 := { stood := { row := shareReceivesRow, standIns := [], harness := (true, "6c7294e9ab4ca94d337b15b89dc1729ce9f1a8f302e0ab9e5ba83be95dd191de"), looks := true }, kinds := [], alts := [], laidByText := true, laidKinds := [.data, .pinned], laidTests := true, laidLooks := .later }
def ShareReceivesCardSaid : Prop := Claim7.holds Tryz.pinned (.plain (OpenSpec.ofChange shareReceivesSpec)) shareReceivesCard

/-- THE TIED CARD OF 'henkanlaw37.ShareEncodes'. -/
def shareEncodesCard : Claim7 := { stood := { row := shareEncodesRow, standIns := [], harness := (true, "6c7294e9ab4ca94d337b15b89dc1729ce9f1a8f302e0ab9e5ba83be95dd191de"), looks := true }, kinds := [], alts := [], laidByText := true, laidKinds := [.data, .pinned], laidTests := true, laidLooks := .later }
def ShareEncodesCardSaid : Prop := Claim7.holds Tryz.pinned (.plain (OpenSpec.ofChange shareEncodesSpec)) shareEncodesCard

/-- THE TIED CARD OF 'henkanlaw37.ShareSuffices'. -/
def shareSufficesCard : Claim7 := { stood := { row := shareSufficesRow, standIns := [], harness := (true, "6c7294e9ab4ca94d337b15b89dc1729ce9f1a8f302e0ab9e5ba83be95dd191de"), looks := true }, kinds := [], alts := [], laidByText := true, laidKinds := [.data, .pinned], laidTests := true, laidLooks := .later }
def ShareSufficesCardSaid : Prop := Claim7.holds Tryz.pinned (.plain (OpenSpec.ofChange shareSufficesSpec)) shareSufficesCard

/-- THE TIED CARD OF 'henkanlaw37.ShareAgrees'. -/
def shareAgreesCard : Claim7 := { stood := { row := shareAgreesRow, standIns := [], harness := (true, "6c7294e9ab4ca94d337b15b89dc1729ce9f1a8f302e0ab9e5ba83be95dd191de"), looks := true }, kinds := [], alts := [], laidByText := true, laidKinds := [.data, .pinned], laidTests := true, laidLooks := .later }
def ShareAgreesCardSaid : Prop := Claim7.holds Tryz.pinned (.plain (OpenSpec.ofChange shareAgreesSpec)) shareAgreesCard

/-- THE TIED CARD OF 'henkanlaw37.ShareAgain'. -/
def shareAgainCard : Claim7 := { stood := { row := shareAgainRow, standIns := [], harness := (true, "6c7294e9ab4ca94d337b15b89dc1729ce9f1a8f302e0ab9e5ba83be95dd191de"), looks := true }, kinds := [], alts := [], laidByText := true, laidKinds := [.data, .pinned], laidTests := true, laidLooks := .later }
def ShareAgainCardSaid : Prop := Claim7.holds Tryz.pinned (.plain (OpenSpec.ofChange shareAgainSpec)) shareAgainCard

/-- THE TIED CARD OF 'henkanlaw37.ShareDecodes'. -/
def shareDecodesCard : Claim7 := { stood := { row := shareDecodesRow, standIns := [], harness := (true, "6c7294e9ab4ca94d337b15b89dc1729ce9f1a8f302e0ab9e5ba83be95dd191de"), looks := true }, kinds := [], alts := [], laidByText := true, laidKinds := [.data, .pinned], laidTests := true, laidLooks := .later }
def ShareDecodesCardSaid : Prop := Claim7.holds Tryz.pinned (.plain (OpenSpec.ofChange shareDecodesSpec)) shareDecodesCard

/-- THE TIED CARD OF 'henkanlaw37.ShareReturns'. -/
def shareReturnsCard : Claim7 := { stood := { row := shareReturnsRow, standIns := [], harness := (true, "6c7294e9ab4ca94d337b15b89dc1729ce9f1a8f302e0ab9e5ba83be95dd191de"), looks := true }, kinds := [], alts := [], laidByText := true, laidKinds := [.data, .pinned], laidTests := true, laidLooks := .later }
def ShareReturnsCardSaid : Prop := Claim7.holds Tryz.pinned (.plain (OpenSpec.ofChange shareReturnsSpec)) shareReturnsCard

/-- THE TIED CARD OF 'henkanlaw37.ShareKnown'. -/
def shareKnownCard : Claim7 := { stood := { row := shareKnownRow, standIns := [], harness := (true, "6c7294e9ab4ca94d337b15b89dc1729ce9f1a8f302e0ab9e5ba83be95dd191de"), looks := true }, kinds := [], alts := [], laidByText := true, laidKinds := [.data, .pinned], laidTests := true, laidLooks := .later }
def ShareKnownCardSaid : Prop := Claim7.holds Tryz.pinned (.plain (OpenSpec.ofChange shareKnownSpec)) shareKnownCard

/-- THE SECOND FORM's CARD OF 'henkanlaw37.ShareSince'. -/
def shareSinceUptoCard : Claim7 := { stood := { row := shareSinceUptoRow, standIns := [], harness := (true, "6c7294e9ab4ca94d337b15b89dc1729ce9f1a8f302e0ab9e5ba83be95dd191de"), looks := true }, kinds := [], alts := [], laidByText := true, laidKinds := [.data, .pinned], laidTests := true, laidLooks := .later }
def ShareSinceUptoCardSaid : Prop := Claim7.holds Tryz.pinned (.plain (OpenSpec.upto shareSinceSpec)) shareSinceUptoCard

/-- THE SECOND FORM's CARD OF 'henkanlaw37.ShareReceives'. -/
def shareReceivesUptoCard : Claim7 := { stood := { row := shareReceivesUptoRow, standIns := [], harness := (true, "6c7294e9ab4ca94d337b15b89dc1729ce9f1a8f302e0ab9e5ba83be95dd191de"), looks := true }, kinds := [], alts := [], laidByText := true, laidKinds := [.data, .pinned], laidTests := true, laidLooks := .later }
def ShareReceivesUptoCardSaid : Prop := Claim7.holds Tryz.pinned (.plain (OpenSpec.upto shareReceivesSpec)) shareReceivesUptoCard

/-- THE SECOND FORM's CARD OF 'henkanlaw37.ShareEncodes'. -/
def shareEncodesUptoCard : Claim7 := { stood := { row := shareEncodesUptoRow, standIns := [], harness := (true, "6c7294e9ab4ca94d337b15b89dc1729ce9f1a8f302e0ab9e5ba83be95dd191de"), looks := true }, kinds := [], alts := [], laidByText := true, laidKinds := [.data, .pinned], laidTests := true, laidLooks := .later }
def ShareEncodesUptoCardSaid : Prop := Claim7.holds Tryz.pinned (.plain (OpenSpec.upto shareEncodesSpec)) shareEncodesUptoCard

/-- THE SECOND FORM's CARD OF 'henkanlaw37.ShareSuffices'. -/
def shareSufficesUptoCard : Claim7 := { stood := { row := shareSufficesUptoRow, standIns := [], harness := (true, "6c7294e9ab4ca94d337b15b89dc1729ce9f1a8f302e0ab9e5ba83be95dd191de"), looks := true }, kinds := [], alts := [], laidByText := true, laidKinds := [.data, .pinned], laidTests := true, laidLooks := .later }
def ShareSufficesUptoCardSaid : Prop := Claim7.holds Tryz.pinned (.plain (OpenSpec.upto shareSufficesSpec)) shareSufficesUptoCard

/-- THE SECOND FORM's CARD OF 'henkanlaw37.ShareAgrees'. -/
def shareAgreesUptoCard : Claim7 := { stood := { row := shareAgreesUptoRow, standIns := [], harness := (true, "6c7294e9ab4ca94d337b15b89dc1729ce9f1a8f302e0ab9e5ba83be95dd191de"), looks := true }, kinds := [], alts := [], laidByText := true, laidKinds := [.data, .pinned], laidTests := true, laidLooks := .later }
def ShareAgreesUptoCardSaid : Prop := Claim7.holds Tryz.pinned (.plain (OpenSpec.upto shareAgreesSpec)) shareAgreesUptoCard

/-- THE SECOND FORM's CARD OF 'henkanlaw37.ShareAgain'. -/
def shareAgainUptoCard : Claim7 := { stood := { row := shareAgainUptoRow, standIns := [], harness := (true, "6c7294e9ab4ca94d337b15b89dc1729ce9f1a8f302e0ab9e5ba83be95dd191de"), looks := true }, kinds := [], alts := [], laidByText := true, laidKinds := [.data, .pinned], laidTests := true, laidLooks := .later }
def ShareAgainUptoCardSaid : Prop := Claim7.holds Tryz.pinned (.plain (OpenSpec.upto shareAgainSpec)) shareAgainUptoCard

/-- THE SECOND FORM's CARD OF 'henkanlaw37.ShareDecodes'. -/
def shareDecodesUptoCard : Claim7 := { stood := { row := shareDecodesUptoRow, standIns := [], harness := (true, "6c7294e9ab4ca94d337b15b89dc1729ce9f1a8f302e0ab9e5ba83be95dd191de"), looks := true }, kinds := [], alts := [], laidByText := true, laidKinds := [.data, .pinned], laidTests := true, laidLooks := .later }
def ShareDecodesUptoCardSaid : Prop := Claim7.holds Tryz.pinned (.plain (OpenSpec.upto shareDecodesSpec)) shareDecodesUptoCard

/-- THE SECOND FORM's CARD OF 'henkanlaw37.ShareReturns'. -/
def shareReturnsUptoCard : Claim7 := { stood := { row := shareReturnsUptoRow, standIns := [], harness := (true, "6c7294e9ab4ca94d337b15b89dc1729ce9f1a8f302e0ab9e5ba83be95dd191de"), looks := true }, kinds := [], alts := [], laidByText := true, laidKinds := [.data, .pinned], laidTests := true, laidLooks := .later }
def ShareReturnsUptoCardSaid : Prop := Claim7.holds Tryz.pinned (.plain (OpenSpec.upto shareReturnsSpec)) shareReturnsUptoCard

/-- THE SECOND FORM's CARD OF 'henkanlaw37.ShareKnown'. -/
def shareKnownUptoCard : Claim7 := { stood := { row := shareKnownUptoRow, standIns := [], harness := (true, "6c7294e9ab4ca94d337b15b89dc1729ce9f1a8f302e0ab9e5ba83be95dd191de"), looks := true }, kinds := [], alts := [], laidByText := true, laidKinds := [.data, .pinned], laidTests := true, laidLooks := .later }
def ShareKnownUptoCardSaid : Prop := Claim7.holds Tryz.pinned (.plain (OpenSpec.upto shareKnownSpec)) shareKnownUptoCard
end Rows
end Go.Proofs.YtelphnigdancpaaGreatDoor
