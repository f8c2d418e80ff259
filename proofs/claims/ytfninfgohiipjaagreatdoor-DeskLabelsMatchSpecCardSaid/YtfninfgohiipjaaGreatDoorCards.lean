/-
  DERIVED. GIVEN WITH THE SEED: THE CARDS: each row of YtfninfgohiipjaaGreatDoorRows.lean that lists a variable, with what it lists TIED to the program's text (the seventh form; the later family's looks); each row that meets fmt, with fmt's text TOLD by the authors' own Lean function (tested against real Go, not proved from fmt's source: count such statements apart). THE CARD IS WHAT COUNTS. Prove the row's statement (the work); the ties are given (YtfninfgohiipjaaGreatDoorTie.lean); close each card by the builder's one call (the guide's Derived/Test/ToyasCard.lean, 'card_holds'). Laid BY PROGRAM, IN A SANDBOX (cutbox-door.mjs). By AI agents, Wed Nov 11 2026. No macro, syntax, notation, axiom, sorry.
-/
import Derived.Test.YtfninfgohiipjaaGreatDoorRows
import GoSem.ClaimSeven
namespace Go.Proofs.YtfninfgohiipjaaGreatDoor
namespace Rows

/-- THE TIED CARD OF 'deadwaxlaw10.DeskLabelsMatchSpec'. -/
def deskLabelsMatchSpecCard : Claim7 := { stood := { row := deskLabelsMatchSpecRow, standIns := [], harness := (true, "6567bcd8b7ef7adf6e64b7c6c01df962e85f439f0cbbdad2846931ca20549c75"), looks := false }, kinds := [], alts := [], laidByText := true, laidKinds := [.data, .data, .data, .data, .pinned], laidTests := true, laidLooks := .later }
def DeskLabelsMatchSpecCardSaid : Prop := Claim7.holds Tryz.pinned (.plain (OpenSpec.ofChange deskLabelsMatchSpecSpec)) deskLabelsMatchSpecCard

/-- THE TIED CARD OF 'deadwaxlaw10.DeskEmbargoesMatchSpec'. -/
def deskEmbargoesMatchSpecCard : Claim7 := { stood := { row := deskEmbargoesMatchSpecRow, standIns := [], harness := (true, "6567bcd8b7ef7adf6e64b7c6c01df962e85f439f0cbbdad2846931ca20549c75"), looks := false }, kinds := [], alts := [], laidByText := true, laidKinds := [.data, .data, .data, .data, .pinned], laidTests := true, laidLooks := .later }
def DeskEmbargoesMatchSpecCardSaid : Prop := Claim7.holds Tryz.pinned (.plain (OpenSpec.ofChange deskEmbargoesMatchSpecSpec)) deskEmbargoesMatchSpecCard

/-- THE TIED CARD OF 'deadwaxlaw10.DeskDeliveriesStay'. -/
def deskDeliveriesStayCard : Claim7 := { stood := { row := deskDeliveriesStayRow, standIns := [], harness := (true, "6567bcd8b7ef7adf6e64b7c6c01df962e85f439f0cbbdad2846931ca20549c75"), looks := false }, kinds := [], alts := [], laidByText := true, laidKinds := [.data, .data, .data, .data, .pinned], laidTests := true, laidLooks := .later }
def DeskDeliveriesStayCardSaid : Prop := Claim7.holds Tryz.pinned (.plain (OpenSpec.ofChange deskDeliveriesStaySpec)) deskDeliveriesStayCard

/-- THE TIED CARD OF 'deadwaxlaw10.DeskDeliveriesMatchSpec'. -/
def deskDeliveriesMatchSpecCard : Claim7 := { stood := { row := deskDeliveriesMatchSpecRow, standIns := [], harness := (true, "6567bcd8b7ef7adf6e64b7c6c01df962e85f439f0cbbdad2846931ca20549c75"), looks := false }, kinds := [], alts := [], laidByText := true, laidKinds := [.data, .data, .data, .data, .pinned], laidTests := true, laidLooks := .later }
def DeskDeliveriesMatchSpecCardSaid : Prop := Claim7.holds Tryz.pinned (.plain (OpenSpec.ofChange deskDeliveriesMatchSpecSpec)) deskDeliveriesMatchSpecCard

/-- THE SECOND FORM's CARD OF 'deadwaxlaw10.DeskLabelsMatchSpec'. -/
def deskLabelsMatchSpecUptoCard : Claim7 := { stood := { row := deskLabelsMatchSpecUptoRow, standIns := [], harness := (true, "6567bcd8b7ef7adf6e64b7c6c01df962e85f439f0cbbdad2846931ca20549c75"), looks := false }, kinds := [], alts := [], laidByText := true, laidKinds := [.data, .data, .data, .data, .pinned], laidTests := true, laidLooks := .later }
def DeskLabelsMatchSpecUptoCardSaid : Prop := Claim7.holds Tryz.pinned (.plain (OpenSpec.upto deskLabelsMatchSpecSpec)) deskLabelsMatchSpecUptoCard

/-- THE SECOND FORM's CARD OF 'deadwaxlaw10.DeskEmbargoesMatchSpec'. -/
def deskEmbargoesMatchSpecUptoCard : Claim7 := { stood := { row := deskEmbargoesMatchSpecUptoRow, standIns := [], harness := (true, "6567bcd8b7ef7adf6e64b7c6c01df962e85f439f0cbbdad2846931ca20549c75"), looks := false }, kinds := [], alts := [], laidByText := true, laidKinds := [.data, .data, .data, .data, .pinned], laidTests := true, laidLooks := .later }
def DeskEmbargoesMatchSpecUptoCardSaid : Prop := Claim7.holds Tryz.pinned (.plain (OpenSpec.upto deskEmbargoesMatchSpecSpec)) deskEmbargoesMatchSpecUptoCard

/-- THE SECOND FORM's CARD OF 'deadwaxlaw10.DeskDeliveriesStay'. -/
def deskDeliveriesStayUptoCard : Claim7 := { stood := { row := deskDeliveriesStayUptoRow, standIns := [], harness := (true, "6567bcd8b7ef7adf6e64b7c6c01df962e85f439f0cbbdad2846931ca20549c75"), looks := false }, kinds := [], alts := [], laidByText := true, laidKinds := [.data, .data, .data, .data, .pinned], laidTests := true, laidLooks := .later }
def DeskDeliveriesStayUptoCardSaid : Prop := Claim7.holds Tryz.pinned (.plain (OpenSpec.upto deskDeliveriesStaySpec)) deskDeliveriesStayUptoCard

/-- THE SECOND FORM's CARD OF 'deadwaxlaw10.DeskDeliveriesMatchSpec'. -/
def deskDeliveriesMatchSpecUptoCard : Claim7 := { stood := { row := deskDeliveriesMatchSpecUptoRow, standIns := [], harness := (true, "6567bcd8b7ef7adf6e64b7c6c01df962e85f439f0cbbdad2846931ca20549c75"), looks := false }, kinds := [], alts := [], laidByText := true, laidKinds := [.data, .data, .data, .data, .pinned], laidTests := true, laidLooks := .later }
def DeskDeliveriesMatchSpecUptoCardSaid : Prop := Claim7.holds Tryz.pinned (.plain (OpenSpec.upto deskDeliveriesMatchSpecSpec)) deskDeliveriesMatchSpecUptoCard
end Rows
end Go.Proofs.YtfninfgohiipjaaGreatDoor
