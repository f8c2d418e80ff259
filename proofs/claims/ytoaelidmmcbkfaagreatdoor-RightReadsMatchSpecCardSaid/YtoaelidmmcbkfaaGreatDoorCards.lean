/-
  DERIVED. GIVEN WITH THE SEED: THE CARDS: each row of YtoaelidmmcbkfaaGreatDoorRows.lean that lists a variable, with what it lists TIED to the program's text (the seventh form; the later family's looks); each row that meets fmt, with fmt's text TOLD by the authors' own Lean function (tested against real Go, not proved from fmt's source: count such statements apart). THE CARD IS WHAT COUNTS. Prove the row's statement (the work); the ties are given (YtoaelidmmcbkfaaGreatDoorTie.lean); close each card by the builder's one call (the guide's Derived/Test/ToyasCard.lean, 'card_holds'). Laid BY PROGRAM, IN A SANDBOX (cutbox-door.mjs). By AI agents, Wed Nov 11 2026. No macro, syntax, notation, axiom, sorry.
-/
import Derived.Test.YtoaelidmmcbkfaaGreatDoorRows
import GoSem.ClaimSeven
namespace Go.Proofs.YtoaelidmmcbkfaaGreatDoor
namespace Rows

/-- THE TIED CARD OF 'deadwaxlaw7.RightReadsMatchSpec'. -/
def rightReadsMatchSpecCard : Claim7 := { stood := { row := rightReadsMatchSpecRow, standIns := [], harness := (true, "aed1cc0b5334927953e29c94b1b28f3cee82720c14bf7cf6d287bf61e0eae57e"), looks := true }, kinds := [], alts := [], laidByText := true, laidKinds := [.data, .data, .data, .data, .sentinel, .sentinel, .pinned], laidTests := true, laidLooks := .later }
def RightReadsMatchSpecCardSaid : Prop := Claim7.holds Tryz.pinned (.plain (OpenSpec.ofChange rightReadsMatchSpecSpec)) rightReadsMatchSpecCard

/-- THE TIED CARD OF 'deadwaxlaw7.RightTextsComeBack'. -/
def rightTextsComeBackCard : Claim7 := { stood := { row := rightTextsComeBackRow, standIns := [], harness := (true, "aed1cc0b5334927953e29c94b1b28f3cee82720c14bf7cf6d287bf61e0eae57e"), looks := true }, kinds := [], alts := [], laidByText := true, laidKinds := [.data, .data, .data, .data, .sentinel, .sentinel, .pinned], laidTests := true, laidLooks := .later }
def RightTextsComeBackCardSaid : Prop := Claim7.holds Tryz.pinned (.plain (OpenSpec.ofChange rightTextsComeBackSpec)) rightTextsComeBackCard

/-- THE SECOND FORM's CARD OF 'deadwaxlaw7.RightReadsMatchSpec'. -/
def rightReadsMatchSpecUptoCard : Claim7 := { stood := { row := rightReadsMatchSpecUptoRow, standIns := [], harness := (true, "aed1cc0b5334927953e29c94b1b28f3cee82720c14bf7cf6d287bf61e0eae57e"), looks := true }, kinds := [], alts := [], laidByText := true, laidKinds := [.data, .data, .data, .data, .sentinel, .sentinel, .pinned], laidTests := true, laidLooks := .later }
def RightReadsMatchSpecUptoCardSaid : Prop := Claim7.holds Tryz.pinned (.plain (OpenSpec.upto rightReadsMatchSpecSpec)) rightReadsMatchSpecUptoCard

/-- THE SECOND FORM's CARD OF 'deadwaxlaw7.RightTextsComeBack'. -/
def rightTextsComeBackUptoCard : Claim7 := { stood := { row := rightTextsComeBackUptoRow, standIns := [], harness := (true, "aed1cc0b5334927953e29c94b1b28f3cee82720c14bf7cf6d287bf61e0eae57e"), looks := true }, kinds := [], alts := [], laidByText := true, laidKinds := [.data, .data, .data, .data, .sentinel, .sentinel, .pinned], laidTests := true, laidLooks := .later }
def RightTextsComeBackUptoCardSaid : Prop := Claim7.holds Tryz.pinned (.plain (OpenSpec.upto rightTextsComeBackSpec)) rightTextsComeBackUptoCard
end Rows
end Go.Proofs.YtoaelidmmcbkfaaGreatDoor
