/-
  DERIVED. GIVEN WITH THE SEED: THE CARDS: each row of YtobjdpngnfbicaaGreatDoorRows.lean that lists a variable, with what it lists TIED to the program's text (the seventh form; the later family's looks); each row that meets fmt, with fmt's text TOLD by the authors' own Lean function (tested against real Go, not proved from fmt's source: count such statements apart). THE CARD IS WHAT COUNTS. Prove the row's statement (the work); the ties are given (YtobjdpngnfbicaaGreatDoorTie.lean); close each card by the builder's one call (the guide's Derived/Test/ToyasCard.lean, 'card_holds'). Laid BY PROGRAM, IN A SANDBOX (cutbox-door.mjs). By AI agents, Wed Nov 11 2026. No macro, syntax, notation, axiom, sorry.
-/
import Derived.Test.YtobjdpngnfbicaaGreatDoorRows
import GoSem.ClaimSeven
namespace Go.Proofs.YtobjdpngnfbicaaGreatDoor
namespace Rows

/-- THE TIED CARD OF 'henkanlaw36.UserKeeps'. -/
def userKeepsCard : Claim7 := { stood := { row := userKeepsRow, standIns := [], harness := (true, "f690231bd04422357a5a24d7b8e1bb44fe21a7e53255c23cea3e96a64062bfc3"), looks := true }, kinds := [], alts := [], laidByText := true, laidKinds := [.data, .data, .pinned], laidTests := true, laidLooks := .later }
def UserKeepsCardSaid : Prop := Claim7.holds Tryz.pinned (.plain (OpenSpec.ofChange userKeepsSpec)) userKeepsCard

/-- THE TIED CARD OF 'henkanlaw36.UserPlays'. -/
def userPlaysCard : Claim7 := { stood := { row := userPlaysRow, standIns := [], harness := (true, "f690231bd04422357a5a24d7b8e1bb44fe21a7e53255c23cea3e96a64062bfc3"), looks := true }, kinds := [], alts := [], laidByText := true, laidKinds := [.data, .data, .pinned], laidTests := true, laidLooks := .later }
def UserPlaysCardSaid : Prop := Claim7.holds Tryz.pinned (.plain (OpenSpec.ofChange userPlaysSpec)) userPlaysCard

/-- THE TIED CARD OF 'henkanlaw36.UserOpens'. -/
def userOpensCard : Claim7 := { stood := { row := userOpensRow, standIns := [], harness := (true, "f690231bd04422357a5a24d7b8e1bb44fe21a7e53255c23cea3e96a64062bfc3"), looks := true }, kinds := [], alts := [], laidByText := true, laidKinds := [.data, .data, .pinned], laidTests := true, laidLooks := .later }
def UserOpensCardSaid : Prop := Claim7.holds Tryz.pinned (.plain (OpenSpec.ofChange userOpensSpec)) userOpensCard

/-- THE TIED CARD OF 'henkanlaw36.UserKnown'. -/
def userKnownCard : Claim7 := { stood := { row := userKnownRow, standIns := [], harness := (true, "f690231bd04422357a5a24d7b8e1bb44fe21a7e53255c23cea3e96a64062bfc3"), looks := true }, kinds := [], alts := [], laidByText := true, laidKinds := [.data, .data, .pinned], laidTests := true, laidLooks := .later }
def UserKnownCardSaid : Prop := Claim7.holds Tryz.pinned (.plain (OpenSpec.ofChange userKnownSpec)) userKnownCard

/-- THE TIED CARD OF 'henkanlaw36.UserNil'. -/
def userNilCard : Claim7 := { stood := { row := userNilRow, standIns := [], harness := (true, "f690231bd04422357a5a24d7b8e1bb44fe21a7e53255c23cea3e96a64062bfc3"), looks := true }, kinds := [], alts := [], laidByText := true, laidKinds := [.data, .data, .pinned], laidTests := true, laidLooks := .later }
def UserNilCardSaid : Prop := Claim7.holds Tryz.pinned (.plain (OpenSpec.ofChange userNilSpec)) userNilCard

/-- THE TIED CARD OF 'henkanlaw36.UserSilent'. -/
def userSilentCard : Claim7 := { stood := { row := userSilentRow, standIns := [], harness := (true, "f690231bd04422357a5a24d7b8e1bb44fe21a7e53255c23cea3e96a64062bfc3"), looks := true }, kinds := [], alts := [], laidByText := true, laidKinds := [.data, .data, .pinned], laidTests := true, laidLooks := .later }
def UserSilentCardSaid : Prop := Claim7.holds Tryz.pinned (.plain (OpenSpec.ofChange userSilentSpec)) userSilentCard

/-- THE SECOND FORM's CARD OF 'henkanlaw36.UserKeeps'. -/
def userKeepsUptoCard : Claim7 := { stood := { row := userKeepsUptoRow, standIns := [], harness := (true, "f690231bd04422357a5a24d7b8e1bb44fe21a7e53255c23cea3e96a64062bfc3"), looks := true }, kinds := [], alts := [], laidByText := true, laidKinds := [.data, .data, .pinned], laidTests := true, laidLooks := .later }
def UserKeepsUptoCardSaid : Prop := Claim7.holds Tryz.pinned (.plain (OpenSpec.upto userKeepsSpec)) userKeepsUptoCard

/-- THE SECOND FORM's CARD OF 'henkanlaw36.UserPlays'. -/
def userPlaysUptoCard : Claim7 := { stood := { row := userPlaysUptoRow, standIns := [], harness := (true, "f690231bd04422357a5a24d7b8e1bb44fe21a7e53255c23cea3e96a64062bfc3"), looks := true }, kinds := [], alts := [], laidByText := true, laidKinds := [.data, .data, .pinned], laidTests := true, laidLooks := .later }
def UserPlaysUptoCardSaid : Prop := Claim7.holds Tryz.pinned (.plain (OpenSpec.upto userPlaysSpec)) userPlaysUptoCard

/-- THE SECOND FORM's CARD OF 'henkanlaw36.UserOpens'. -/
def userOpensUptoCard : Claim7 := { stood := { row := userOpensUptoRow, standIns := [], harness := (true, "f690231bd04422357a5a24d7b8e1bb44fe21a7e53255c23cea3e96a64062bfc3"), looks := true }, kinds := [], alts := [], laidByText := true, laidKinds := [.data, .data, .pinned], laidTests := true, laidLooks := .later }
def UserOpensUptoCardSaid : Prop := Claim7.holds Tryz.pinned (.plain (OpenSpec.upto userOpensSpec)) userOpensUptoCard

/-- THE SECOND FORM's CARD OF 'henkanlaw36.UserKnown'. -/
def userKnownUptoCard : Claim7 := { stood := { row := userKnownUptoRow, standIns := [], harness := (true, "f690231bd04422357a5a24d7b8e1bb44fe21a7e53255c23cea3e96a64062bfc3"), looks := true }, kinds := [], alts := [], laidByText := true, laidKinds := [.data, .data, .pinned], laidTests := true, laidLooks := .later }
def UserKnownUptoCardSaid : Prop := Claim7.holds Tryz.pinned (.plain (OpenSpec.upto userKnownSpec)) userKnownUptoCard

/-- THE SECOND FORM's CARD OF 'henkanlaw36.UserNil'. -/
def userNilUptoCard : Claim7 := { stood := { row := userNilUptoRow, standIns := [], harness := (true, "f690231bd04422357a5a24d7b8e1bb44fe21a7e53255c23cea3e96a64062bfc3"), looks := true }, kinds := [], alts := [], laidByText := true, laidKinds := [.data, .data, .pinned], laidTests := true, laidLooks := .later }
def UserNilUptoCardSaid : Prop := Claim7.holds Tryz.pinned (.plain (OpenSpec.upto userNilSpec)) userNilUptoCard

/-- THE SECOND FORM's CARD OF 'henkanlaw36.UserSilent'. -/
def userSilentUptoCard : Claim7 := { stood := { row := userSilentUptoRow, standIns := [], harness := (true, "f690231bd04422357a5a24d7b8e1bb44fe21a7e53255c23cea3e96a64062bfc3"), looks := true }, kinds := [], alts := [], laidByText := true, laidKinds := [.data, .data, .pinned], laidTests := true, laidLooks := .later }
def UserSilentUptoCardSaid : Prop := Claim7.holds Tryz.pinned (.plain (OpenSpec.upto userSilentSpec)) userSilentUptoCard
end Rows
end Go.Proofs.YtobjdpngnfbicaaGreatDoor
