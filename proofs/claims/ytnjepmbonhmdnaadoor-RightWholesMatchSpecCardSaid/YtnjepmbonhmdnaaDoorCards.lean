/-
  DERIVED. GIVEN WITH THE SEED: THE CARDS: each row of YtnjepmbonhmdnaaDoorRows.lean that lists a variable, with what it lists TIED to the program's text (the seventh form; the later family's looks); each row that meets fmt, with fmt's text TOLD by the authors' own Lean function (tested against real Go, not proved from fmt's source: count such statements apart). THE CARD IS WHAT COUNTS. Prove the row's statement (the work); the ties are given (YtnjepmbonhmdnaaDoorTie.lean); close each card by the builder's one call (the guide's Derived/Test/ToyasCard.lean, 'card_holds'). Laid BY PROGRAM, IN A SANDBOX (cutbox-door.mjs). By AI agents, Wed Nov 11 2026. No macro, syntax, notation, axiom, sorry.
-/
import Derived.Test.YtnjepmbonhmdnaaDoorRows
import GoSem.ClaimSeven
namespace Go.Proofs.YtnjepmbonhmdnaaDoor
namespace Rows

/-- THE TIED CARD OF 'deadwaxlaw7.RightPlacesMatchSpec'. -/
def rightPlacesMatchSpecCard : Claim7 := { stood := { row := rightPlacesMatchSpecRow, standIns := [], harness := (true, "71fb04a7de77f52e9f672574b9a10054e739a432962bb381d599a1cacf3d9977"), looks := false }, kinds := [], alts := [], laidByText := true, laidKinds := [.data, .pinned], laidTests := true, laidLooks := .later }
def RightPlacesMatchSpecCardSaid : Prop := Claim7.holds Tryd.pinned (.plain (OpenSpec.ofChange rightPlacesMatchSpecSpec)) rightPlacesMatchSpecCard

/-- THE TIED CARD OF 'deadwaxlaw7.RightAreasAreSets'. -/
def rightAreasAreSetsCard : Claim7 := { stood := { row := rightAreasAreSetsRow, standIns := [], harness := (true, "71fb04a7de77f52e9f672574b9a10054e739a432962bb381d599a1cacf3d9977"), looks := false }, kinds := [], alts := [], laidByText := true, laidKinds := [.data, .pinned], laidTests := true, laidLooks := .later }
def RightAreasAreSetsCardSaid : Prop := Claim7.holds Tryd.pinned (.plain (OpenSpec.ofChange rightAreasAreSetsSpec)) rightAreasAreSetsCard

/-- THE TIED CARD OF 'deadwaxlaw7.RightWholesMatchSpec'. -/
def rightWholesMatchSpecCard : Claim7 := { stood := { row := rightWholesMatchSpecRow, standIns := [], harness := (true, "71fb04a7de77f52e9f672574b9a10054e739a432962bb381d599a1cacf3d9977"), looks := false }, kinds := [], alts := [], laidByText := true, laidKinds := [.data, .pinned], laidTests := true, laidLooks := .later }
def RightWholesMatchSpecCardSaid : Prop := Claim7.holds Tryd.pinned (.plain (OpenSpec.ofChange rightWholesMatchSpecSpec)) rightWholesMatchSpecCard

/-- THE SECOND FORM's CARD OF 'deadwaxlaw7.RightPlacesMatchSpec'. -/
def rightPlacesMatchSpecUptoCard : Claim7 := { stood := { row := rightPlacesMatchSpecUptoRow, standIns := [], harness := (true, "71fb04a7de77f52e9f672574b9a10054e739a432962bb381d599a1cacf3d9977"), looks := false }, kinds := [], alts := [], laidByText := true, laidKinds := [.data, .pinned], laidTests := true, laidLooks := .later }
def RightPlacesMatchSpecUptoCardSaid : Prop := Claim7.holds Tryd.pinned (.plain (OpenSpec.upto rightPlacesMatchSpecSpec)) rightPlacesMatchSpecUptoCard

/-- THE SECOND FORM's CARD OF 'deadwaxlaw7.RightAreasAreSets'. -/
def rightAreasAreSetsUptoCard : Claim7 := { stood := { row := rightAreasAreSetsUptoRow, standIns := [], harness := (true, "71fb04a7de77f52e9f672574b9a10054e739a432962bb381d599a1cacf3d9977"), looks := false }, kinds := [], alts := [], laidByText := true, laidKinds := [.data, .pinned], laidTests := true, laidLooks := .later }
def RightAreasAreSetsUptoCardSaid : Prop := Claim7.holds Tryd.pinned (.plain (OpenSpec.upto rightAreasAreSetsSpec)) rightAreasAreSetsUptoCard

/-- THE SECOND FORM's CARD OF 'deadwaxlaw7.RightWholesMatchSpec'. -/
def rightWholesMatchSpecUptoCard : Claim7 := { stood := { row := rightWholesMatchSpecUptoRow, standIns := [], harness := (true, "71fb04a7de77f52e9f672574b9a10054e739a432962bb381d599a1cacf3d9977"), looks := false }, kinds := [], alts := [], laidByText := true, laidKinds := [.data, .pinned], laidTests := true, laidLooks := .later }
def RightWholesMatchSpecUptoCardSaid : Prop := Claim7.holds Tryd.pinned (.plain (OpenSpec.upto rightWholesMatchSpecSpec)) rightWholesMatchSpecUptoCard
end Rows
end Go.Proofs.YtnjepmbonhmdnaaDoor
