/-
  DERIVED. GIVEN WITH THE SEED: THE CARDS: each row of YtlcfgejaeecclaaGreatDoorRows.lean that lists a variable, with what it lists TIED to the program's text (the seventh form; the later family's looks); each row that meets fmt, with fmt's text TOLD by the authors' own Lean function (tested against real Go, not proved from fmt's source: count such statements apart). THE CARD IS WHAT COUNTS. Prove the row's statement (the work); the ties are given (YtlcfgejaeecclaaGreatDoorTie.lean); close each card by the builder's one call (the guide's Derived/Test/ToyasCard.lean, 'card_holds'). Laid BY PROGRAM, IN A SANDBOX (cutbox-door.mjs). By AI agents, Wed Nov 11 2026. No macro, syntax, notation, axiom, sorry.
-/
import Derived.Test.YtlcfgejaeecclaaGreatDoorRows
import GoSem.ClaimSeven
namespace Go.Proofs.YtlcfgejaeecclaaGreatDoor
namespace Rows

/-- THE TIED CARD OF 'deadwaxlaw7.RightJoinsInAnyOrder'. -/
def rightJoinsInAnyOrderCard : Claim7 := { stood := { row := rightJoinsInAnyOrderRow, standIns := [], harness := (true, "6c2c2b385b2096f4865f4515ef174f712e38d7ebafaac41eafa45b6d5f3822b0"), looks := true }, kinds := [], alts := [], laidByText := true, laidKinds := [.data, .pinned], laidTests := true, laidLooks := .later }
def RightJoinsInAnyOrderCardSaid : Prop := Claim7.holds Tryz.pinned (.plain (OpenSpec.ofChange rightJoinsInAnyOrderSpec)) rightJoinsInAnyOrderCard

/-- THE TIED CARD OF 'deadwaxlaw7.RightRunsMatchSpec'. -/
def rightRunsMatchSpecCard : Claim7 := { stood := { row := rightRunsMatchSpecRow, standIns := [], harness := (true, "6c2c2b385b2096f4865f4515ef174f712e38d7ebafaac41eafa45b6d5f3822b0"), looks := true }, kinds := [], alts := [], laidByText := true, laidKinds := [.data, .data, .data, .data, .sentinel, .sentinel, .pinned], laidTests := true, laidLooks := .later }
def RightRunsMatchSpecCardSaid : Prop := Claim7.holds Tryz.pinned (.plain (OpenSpec.ofChange rightRunsMatchSpecSpec)) rightRunsMatchSpecCard

/-- THE TIED CARD OF 'deadwaxlaw7.RightControlsMatchSpec'. -/
def rightControlsMatchSpecCard : Claim7 := { stood := { row := rightControlsMatchSpecRow, standIns := [], harness := (true, "6c2c2b385b2096f4865f4515ef174f712e38d7ebafaac41eafa45b6d5f3822b0"), looks := true }, kinds := [], alts := [], laidByText := true, laidKinds := [.data, .data, .data, .data, .sentinel, .sentinel, .pinned], laidTests := true, laidLooks := .later }
def RightControlsMatchSpecCardSaid : Prop := Claim7.holds Tryz.pinned (.plain (OpenSpec.ofChange rightControlsMatchSpecSpec)) rightControlsMatchSpecCard

/-- THE TIED CARD OF 'deadwaxlaw7.RightChecksMatchSpec'. -/
def rightChecksMatchSpecCard : Claim7 := { stood := { row := rightChecksMatchSpecRow, standIns := [], harness := (true, "6c2c2b385b2096f4865f4515ef174f712e38d7ebafaac41eafa45b6d5f3822b0"), looks := true }, kinds := [], alts := [], laidByText := true, laidKinds := [.data, .data, .data, .data, .sentinel, .sentinel, .pinned], laidTests := true, laidLooks := .later }
def RightChecksMatchSpecCardSaid : Prop := Claim7.holds Tryz.pinned (.plain (OpenSpec.ofChange rightChecksMatchSpecSpec)) rightChecksMatchSpecCard

/-- THE TIED CARD OF 'deadwaxlaw7.RightJoinsMatchSpec'. -/
def rightJoinsMatchSpecCard : Claim7 := { stood := { row := rightJoinsMatchSpecRow, standIns := [], harness := (true, "6c2c2b385b2096f4865f4515ef174f712e38d7ebafaac41eafa45b6d5f3822b0"), looks := true }, kinds := [], alts := [], laidByText := true, laidKinds := [.data, .data, .data, .data, .sentinel, .sentinel, .pinned], laidTests := true, laidLooks := .later }
def RightJoinsMatchSpecCardSaid : Prop := Claim7.holds Tryz.pinned (.plain (OpenSpec.ofChange rightJoinsMatchSpecSpec)) rightJoinsMatchSpecCard

/-- THE SECOND FORM's CARD OF 'deadwaxlaw7.RightJoinsInAnyOrder'. -/
def rightJoinsInAnyOrderUptoCard : Claim7 := { stood := { row := rightJoinsInAnyOrderUptoRow, standIns := [], harness := (true, "6c2c2b385b2096f4865f4515ef174f712e38d7ebafaac41eafa45b6d5f3822b0"), looks := true }, kinds := [], alts := [], laidByText := true, laidKinds := [.data, .pinned], laidTests := true, laidLooks := .later }
def RightJoinsInAnyOrderUptoCardSaid : Prop := Claim7.holds Tryz.pinned (.plain (OpenSpec.upto rightJoinsInAnyOrderSpec)) rightJoinsInAnyOrderUptoCard

/-- THE SECOND FORM's CARD OF 'deadwaxlaw7.RightRunsMatchSpec'. -/
def rightRunsMatchSpecUptoCard : Claim7 := { stood := { row := rightRunsMatchSpecUptoRow, standIns := [], harness := (true, "6c2c2b385b2096f4865f4515ef174f712e38d7ebafaac41eafa45b6d5f3822b0"), looks := true }, kinds := [], alts := [], laidByText := true, laidKinds := [.data, .data, .data, .data, .sentinel, .sentinel, .pinned], laidTests := true, laidLooks := .later }
def RightRunsMatchSpecUptoCardSaid : Prop := Claim7.holds Tryz.pinned (.plain (OpenSpec.upto rightRunsMatchSpecSpec)) rightRunsMatchSpecUptoCard

/-- THE SECOND FORM's CARD OF 'deadwaxlaw7.RightControlsMatchSpec'. -/
def rightControlsMatchSpecUptoCard : Claim7 := { stood := { row := rightControlsMatchSpecUptoRow, standIns := [], harness := (true, "6c2c2b385b2096f4865f4515ef174f712e38d7ebafaac41eafa45b6d5f3822b0"), looks := true }, kinds := [], alts := [], laidByText := true, laidKinds := [.data, .data, .data, .data, .sentinel, .sentinel, .pinned], laidTests := true, laidLooks := .later }
def RightControlsMatchSpecUptoCardSaid : Prop := Claim7.holds Tryz.pinned (.plain (OpenSpec.upto rightControlsMatchSpecSpec)) rightControlsMatchSpecUptoCard

/-- THE SECOND FORM's CARD OF 'deadwaxlaw7.RightChecksMatchSpec'. -/
def rightChecksMatchSpecUptoCard : Claim7 := { stood := { row := rightChecksMatchSpecUptoRow, standIns := [], harness := (true, "6c2c2b385b2096f4865f4515ef174f712e38d7ebafaac41eafa45b6d5f3822b0"), looks := true }, kinds := [], alts := [], laidByText := true, laidKinds := [.data, .data, .data, .data, .sentinel, .sentinel, .pinned], laidTests := true, laidLooks := .later }
def RightChecksMatchSpecUptoCardSaid : Prop := Claim7.holds Tryz.pinned (.plain (OpenSpec.upto rightChecksMatchSpecSpec)) rightChecksMatchSpecUptoCard

/-- THE SECOND FORM's CARD OF 'deadwaxlaw7.RightJoinsMatchSpec'. -/
def rightJoinsMatchSpecUptoCard : Claim7 := { stood := { row := rightJoinsMatchSpecUptoRow, standIns := [], harness := (true, "6c2c2b385b2096f4865f4515ef174f712e38d7ebafaac41eafa45b6d5f3822b0"), looks := true }, kinds := [], alts := [], laidByText := true, laidKinds := [.data, .data, .data, .data, .sentinel, .sentinel, .pinned], laidTests := true, laidLooks := .later }
def RightJoinsMatchSpecUptoCardSaid : Prop := Claim7.holds Tryz.pinned (.plain (OpenSpec.upto rightJoinsMatchSpecSpec)) rightJoinsMatchSpecUptoCard
end Rows
end Go.Proofs.YtlcfgejaeecclaaGreatDoor
