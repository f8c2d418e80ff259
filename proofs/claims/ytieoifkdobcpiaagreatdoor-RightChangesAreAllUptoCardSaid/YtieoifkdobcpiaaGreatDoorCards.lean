/-
  DERIVED. GIVEN WITH THE SEED: THE CARDS: each row of YtieoifkdobcpiaaGreatDoorRows.lean that lists a variable, with what it lists TIED to the program's text (the seventh form; the later family's looks); each row that meets fmt, with fmt's text TOLD by the authors' own Lean function (tested against real Go, not proved from fmt's source: count such statements apart). THE CARD IS WHAT COUNTS. Prove the row's statement (the work); the ties are given (YtieoifkdobcpiaaGreatDoorTie.lean); close each card by the builder's one call (the guide's Derived/Test/ToyasCard.lean, 'card_holds'). Laid BY PROGRAM, IN A SANDBOX (cutbox-door.mjs). By AI agents, Wed Nov 11 2026. No macro, syntax, notation, axiom, sorry.
-/
import Derived.Test.YtieoifkdobcpiaaGreatDoorRows
import GoSem.ClaimSeven
namespace Go.Proofs.YtieoifkdobcpiaaGreatDoor
namespace Rows

/-- THE TIED CARD OF 'deadwaxlaw7.RightChangesAreAll'. -/
def rightChangesAreAllCard : Claim7 := { stood := { row := rightChangesAreAllRow, standIns := [], harness := (true, "c214b49eee1df085b492969ef2c41465f5aae95a20c47eeaf7e4b1a93c96fd88"), looks := true }, kinds := [], alts := [], laidByText := true, laidKinds := [.data, .pinned], laidTests := true, laidLooks := .later }
def RightChangesAreAllCardSaid : Prop := Claim7.holds Tryz.pinned (.plain (OpenSpec.ofChange rightChangesAreAllSpec)) rightChangesAreAllCard

/-- THE TIED CARD OF 'deadwaxlaw7.RightSharesAddUp'. -/
def rightSharesAddUpCard : Claim7 := { stood := { row := rightSharesAddUpRow, standIns := [], harness := (true, "c214b49eee1df085b492969ef2c41465f5aae95a20c47eeaf7e4b1a93c96fd88"), looks := true }, kinds := [], alts := [], laidByText := true, laidKinds := [.data, .data, .data, .data, .sentinel, .sentinel, .pinned], laidTests := true, laidLooks := .later }
def RightSharesAddUpCardSaid : Prop := Claim7.holds Tryz.pinned (.plain (OpenSpec.ofChange rightSharesAddUpSpec)) rightSharesAddUpCard

/-- THE TIED CARD OF 'deadwaxlaw7.RightHoldingsAreShares'. -/
def rightHoldingsAreSharesCard : Claim7 := { stood := { row := rightHoldingsAreSharesRow, standIns := [], harness := (true, "c214b49eee1df085b492969ef2c41465f5aae95a20c47eeaf7e4b1a93c96fd88"), looks := true }, kinds := [], alts := [], laidByText := true, laidKinds := [.data, .pinned], laidTests := true, laidLooks := .later }
def RightHoldingsAreSharesCardSaid : Prop := Claim7.holds Tryz.pinned (.plain (OpenSpec.ofChange rightHoldingsAreSharesSpec)) rightHoldingsAreSharesCard

/-- THE TIED CARD OF 'deadwaxlaw7.RightSharesMatchSpec'. -/
def rightSharesMatchSpecCard : Claim7 := { stood := { row := rightSharesMatchSpecRow, standIns := [], harness := (true, "c214b49eee1df085b492969ef2c41465f5aae95a20c47eeaf7e4b1a93c96fd88"), looks := true }, kinds := [], alts := [], laidByText := true, laidKinds := [.data, .data, .data, .data, .sentinel, .sentinel, .pinned], laidTests := true, laidLooks := .later }
def RightSharesMatchSpecCardSaid : Prop := Claim7.holds Tryz.pinned (.plain (OpenSpec.ofChange rightSharesMatchSpecSpec)) rightSharesMatchSpecCard

/-- THE TIED CARD OF 'deadwaxlaw7.RightMayMatchesSpec'. -/
def rightMayMatchesSpecCard : Claim7 := { stood := { row := rightMayMatchesSpecRow, standIns := [], harness := (true, "c214b49eee1df085b492969ef2c41465f5aae95a20c47eeaf7e4b1a93c96fd88"), looks := true }, kinds := [], alts := [], laidByText := true, laidKinds := [.data, .data, .data, .data, .sentinel, .sentinel, .pinned], laidTests := true, laidLooks := .later }
def RightMayMatchesSpecCardSaid : Prop := Claim7.holds Tryz.pinned (.plain (OpenSpec.ofChange rightMayMatchesSpecSpec)) rightMayMatchesSpecCard

/-- THE SECOND FORM's CARD OF 'deadwaxlaw7.RightChangesAreAll'. -/
def rightChangesAreAllUptoCard : Claim7 := { stood := { row := rightChangesAreAllUptoRow, standIns := [], harness := (true, "c214b49eee1df085b492969ef2c41465f5aae95a20c47eeaf7e4b1a93c96fd88"), looks := true }, kinds := [], alts := [], laidByText := true, laidKinds := [.data, .pinned], laidTests := true, laidLooks := .later }
def RightChangesAreAllUptoCardSaid : Prop := Claim7.holds Tryz.pinned (.plain (OpenSpec.upto rightChangesAreAllSpec)) rightChangesAreAllUptoCard

/-- THE SECOND FORM's CARD OF 'deadwaxlaw7.RightSharesAddUp'. -/
def rightSharesAddUpUptoCard : Claim7 := { stood := { row := rightSharesAddUpUptoRow, standIns := [], harness := (true, "c214b49eee1df085b492969ef2c41465f5aae95a20c47eeaf7e4b1a93c96fd88"), looks := true }, kinds := [], alts := [], laidByText := true, laidKinds := [.data, .data, .data, .data, .sentinel, .sentinel, .pinned], laidTests := true, laidLooks := .later }
def RightSharesAddUpUptoCardSaid : Prop := Claim7.holds Tryz.pinned (.plain (OpenSpec.upto rightSharesAddUpSpec)) rightSharesAddUpUptoCard

/-- THE SECOND FORM's CARD OF 'deadwaxlaw7.RightHoldingsAreShares'. -/
def rightHoldingsAreSharesUptoCard : Claim7 := { stood := { row := rightHoldingsAreSharesUptoRow, standIns := [], harness := (true, "c214b49eee1df085b492969ef2c41465f5aae95a20c47eeaf7e4b1a93c96fd88"), looks := true }, kinds := [], alts := [], laidByText := true, laidKinds := [.data, .pinned], laidTests := true, laidLooks := .later }
def RightHoldingsAreSharesUptoCardSaid : Prop := Claim7.holds Tryz.pinned (.plain (OpenSpec.upto rightHoldingsAreSharesSpec)) rightHoldingsAreSharesUptoCard

/-- THE SECOND FORM's CARD OF 'deadwaxlaw7.RightSharesMatchSpec'. -/
def rightSharesMatchSpecUptoCard : Claim7 := { stood := { row := rightSharesMatchSpecUptoRow, standIns := [], harness := (true, "c214b49eee1df085b492969ef2c41465f5aae95a20c47eeaf7e4b1a93c96fd88"), looks := true }, kinds := [], alts := [], laidByText := true, laidKinds := [.data, .data, .data, .data, .sentinel, .sentinel, .pinned], laidTests := true, laidLooks := .later }
def RightSharesMatchSpecUptoCardSaid : Prop := Claim7.holds Tryz.pinned (.plain (OpenSpec.upto rightSharesMatchSpecSpec)) rightSharesMatchSpecUptoCard

/-- THE SECOND FORM's CARD OF 'deadwaxlaw7.RightMayMatchesSpec'. -/
def rightMayMatchesSpecUptoCard : Claim7 := { stood := { row := rightMayMatchesSpecUptoRow, standIns := [], harness := (true, "c214b49eee1df085b492969ef2c41465f5aae95a20c47eeaf7e4b1a93c96fd88"), looks := true }, kinds := [], alts := [], laidByText := true, laidKinds := [.data, .data, .data, .data, .sentinel, .sentinel, .pinned], laidTests := true, laidLooks := .later }
def RightMayMatchesSpecUptoCardSaid : Prop := Claim7.holds Tryz.pinned (.plain (OpenSpec.upto rightMayMatchesSpecSpec)) rightMayMatchesSpecUptoCard
end Rows
end Go.Proofs.YtieoifkdobcpiaaGreatDoor
