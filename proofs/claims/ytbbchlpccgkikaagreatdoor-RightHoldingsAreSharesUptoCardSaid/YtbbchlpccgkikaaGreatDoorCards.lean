/-
  DERIVED. GIVEN WITH THE SEED: THE CARDS: each row of YtbbchlpccgkikaaGreatDoorRows.lean that lists a variable, with what it lists TIED to the program's text (the seventh form; the later family's looks); each row that meets fmt, with fmt's text TOLD by the authors' own Lean function (tested against real Go, not proved from fmt's source: count such statements apart). THE CARD IS WHAT COUNTS. Prove the row's statement (the work); the ties are given (YtbbchlpccgkikaaGreatDoorTie.lean); close each card by the builder's one call (the guide's Derived/Test/ToyasCard.lean, 'card_holds'). Laid BY PROGRAM, IN A SANDBOX (cutbox-door.mjs). By AI agents, Wed Nov 11 2026. No macro, syntax, notation, axiom, sorry.
-/
import Derived.Test.YtbbchlpccgkikaaGreatDoorRows
import GoSem.ClaimSeven
namespace Go.Proofs.YtbbchlpccgkikaaGreatDoor
namespace Rows

/-- THE TIED CARD OF 'deadwaxlaw7.RightHoldingsAreShares'. -/
def rightHoldingsAreSharesCard : Claim7 := { stood := { row := rightHoldingsAreSharesRow, standIns := [], harness := (true, "b592827b3d835f1eb5be280879ac3a3c13fa0052c310fa5ca909b81a6138ff75"), looks := true }, kinds := [], alts := [], laidByText := true, laidKinds := [.data, .pinned], laidTests := true, laidLooks := .later }
def RightHoldingsAreSharesCardSaid : Prop := Claim7.holds Tryz.pinned (.plain (OpenSpec.ofChange rightHoldingsAreSharesSpec)) rightHoldingsAreSharesCard

/-- THE TIED CARD OF 'deadwaxlaw7.RightClearIsMay'. -/
def rightClearIsMayCard : Claim7 := { stood := { row := rightClearIsMayRow, standIns := [], harness := (true, "b592827b3d835f1eb5be280879ac3a3c13fa0052c310fa5ca909b81a6138ff75"), looks := true }, kinds := [], alts := [], laidByText := true, laidKinds := [.data, .pinned], laidTests := true, laidLooks := .later }
def RightClearIsMayCardSaid : Prop := Claim7.holds Tryz.pinned (.plain (OpenSpec.ofChange rightClearIsMaySpec)) rightClearIsMayCard

/-- THE TIED CARD OF 'deadwaxlaw7.RightBreachesMatchSpec'. -/
def rightBreachesMatchSpecCard : Claim7 := { stood := { row := rightBreachesMatchSpecRow, standIns := [], harness := (true, "b592827b3d835f1eb5be280879ac3a3c13fa0052c310fa5ca909b81a6138ff75"), looks := true }, kinds := [], alts := [], laidByText := true, laidKinds := [.data, .data, .data, .data, .sentinel, .sentinel, .pinned], laidTests := true, laidLooks := .later }
def RightBreachesMatchSpecCardSaid : Prop := Claim7.holds Tryz.pinned (.plain (OpenSpec.ofChange rightBreachesMatchSpecSpec)) rightBreachesMatchSpecCard

/-- THE TIED CARD OF 'deadwaxlaw7.RightHoldingsMatchSpec'. -/
def rightHoldingsMatchSpecCard : Claim7 := { stood := { row := rightHoldingsMatchSpecRow, standIns := [], harness := (true, "b592827b3d835f1eb5be280879ac3a3c13fa0052c310fa5ca909b81a6138ff75"), looks := true }, kinds := [], alts := [], laidByText := true, laidKinds := [.data, .data, .data, .data, .sentinel, .sentinel, .pinned], laidTests := true, laidLooks := .later }
def RightHoldingsMatchSpecCardSaid : Prop := Claim7.holds Tryz.pinned (.plain (OpenSpec.ofChange rightHoldingsMatchSpecSpec)) rightHoldingsMatchSpecCard

/-- THE TIED CARD OF 'deadwaxlaw7.RightClearsMatchSpec'. -/
def rightClearsMatchSpecCard : Claim7 := { stood := { row := rightClearsMatchSpecRow, standIns := [], harness := (true, "b592827b3d835f1eb5be280879ac3a3c13fa0052c310fa5ca909b81a6138ff75"), looks := true }, kinds := [], alts := [], laidByText := true, laidKinds := [.data, .data, .data, .data, .sentinel, .sentinel, .pinned], laidTests := true, laidLooks := .later }
def RightClearsMatchSpecCardSaid : Prop := Claim7.holds Tryz.pinned (.plain (OpenSpec.ofChange rightClearsMatchSpecSpec)) rightClearsMatchSpecCard

/-- THE SECOND FORM's CARD OF 'deadwaxlaw7.RightHoldingsAreShares'. -/
def rightHoldingsAreSharesUptoCard : Claim7 := { stood := { row := rightHoldingsAreSharesUptoRow, standIns := [], harness := (true, "b592827b3d835f1eb5be280879ac3a3c13fa0052c310fa5ca909b81a6138ff75"), looks := true }, kinds := [], alts := [], laidByText := true, laidKinds := [.data, .pinned], laidTests := true, laidLooks := .later }
def RightHoldingsAreSharesUptoCardSaid : Prop := Claim7.holds Tryz.pinned (.plain (OpenSpec.upto rightHoldingsAreSharesSpec)) rightHoldingsAreSharesUptoCard

/-- THE SECOND FORM's CARD OF 'deadwaxlaw7.RightClearIsMay'. -/
def rightClearIsMayUptoCard : Claim7 := { stood := { row := rightClearIsMayUptoRow, standIns := [], harness := (true, "b592827b3d835f1eb5be280879ac3a3c13fa0052c310fa5ca909b81a6138ff75"), looks := true }, kinds := [], alts := [], laidByText := true, laidKinds := [.data, .pinned], laidTests := true, laidLooks := .later }
def RightClearIsMayUptoCardSaid : Prop := Claim7.holds Tryz.pinned (.plain (OpenSpec.upto rightClearIsMaySpec)) rightClearIsMayUptoCard

/-- THE SECOND FORM's CARD OF 'deadwaxlaw7.RightBreachesMatchSpec'. -/
def rightBreachesMatchSpecUptoCard : Claim7 := { stood := { row := rightBreachesMatchSpecUptoRow, standIns := [], harness := (true, "b592827b3d835f1eb5be280879ac3a3c13fa0052c310fa5ca909b81a6138ff75"), looks := true }, kinds := [], alts := [], laidByText := true, laidKinds := [.data, .data, .data, .data, .sentinel, .sentinel, .pinned], laidTests := true, laidLooks := .later }
def RightBreachesMatchSpecUptoCardSaid : Prop := Claim7.holds Tryz.pinned (.plain (OpenSpec.upto rightBreachesMatchSpecSpec)) rightBreachesMatchSpecUptoCard

/-- THE SECOND FORM's CARD OF 'deadwaxlaw7.RightHoldingsMatchSpec'. -/
def rightHoldingsMatchSpecUptoCard : Claim7 := { stood := { row := rightHoldingsMatchSpecUptoRow, standIns := [], harness := (true, "b592827b3d835f1eb5be280879ac3a3c13fa0052c310fa5ca909b81a6138ff75"), looks := true }, kinds := [], alts := [], laidByText := true, laidKinds := [.data, .data, .data, .data, .sentinel, .sentinel, .pinned], laidTests := true, laidLooks := .later }
def RightHoldingsMatchSpecUptoCardSaid : Prop := Claim7.holds Tryz.pinned (.plain (OpenSpec.upto rightHoldingsMatchSpecSpec)) rightHoldingsMatchSpecUptoCard

/-- THE SECOND FORM's CARD OF 'deadwaxlaw7.RightClearsMatchSpec'. -/
def rightClearsMatchSpecUptoCard : Claim7 := { stood := { row := rightClearsMatchSpecUptoRow, standIns := [], harness := (true, "b592827b3d835f1eb5be280879ac3a3c13fa0052c310fa5ca909b81a6138ff75"), looks := true }, kinds := [], alts := [], laidByText := true, laidKinds := [.data, .data, .data, .data, .sentinel, .sentinel, .pinned], laidTests := true, laidLooks := .later }
def RightClearsMatchSpecUptoCardSaid : Prop := Claim7.holds Tryz.pinned (.plain (OpenSpec.upto rightClearsMatchSpecSpec)) rightClearsMatchSpecUptoCard
end Rows
end Go.Proofs.YtbbchlpccgkikaaGreatDoor
