/-
  DERIVED. GIVEN WITH THE SEED: THE CARDS: each row of YtncaplplkfihgaaGreatDoorRows.lean that lists a variable, with what it lists TIED to the program's text (the seventh form; the later family's looks); each row that meets fmt, with fmt's text TOLD by the authors' own Lean function (tested against real Go, not proved from fmt's source: count such statements apart). THE CARD IS WHAT COUNTS. Prove the row's statement (the work); the ties are given (YtncaplplkfihgaaGreatDoorTie.lean); close each card by the builder's one call (the guide's Derived/Test/ToyasCard.lean, 'card_holds'). Laid BY PROGRAM, IN A SANDBOX (cutbox-door.mjs). By AI agents, Wed Nov 11 2026. No macro, syntax, notation, axiom, sorry.
-/
import Derived.Test.YtncaplplkfihgaaGreatDoorRows
import GoSem.ClaimSeven
namespace Go.Proofs.YtncaplplkfihgaaGreatDoor
namespace Rows

/-- THE TIED CARD OF 'drawbridgelaw16.ChainHosts'. -/
def chainHostsCard : Claim7 := { stood := { row := chainHostsRow, standIns := [], harness := (true, "3d7ec8f9a024cd5c654d9da391d1dc7c21de3d09e1c5a0037a3d81e765d90ac8"), looks := true }, kinds := [], alts := [], laidByText := true, laidKinds := [.data, .handle, .widerDeep, .widerDeep, .pinned], laidTests := true, laidLooks := .later }
def ChainHostsCardSaid : Prop := Claim7.holds Tryz.pinned (.plain (OpenSpec.ofChange chainHostsSpec)) chainHostsCard

/-- THE SECOND FORM's CARD OF 'drawbridgelaw16.ChainHosts'. -/
def chainHostsUptoCard : Claim7 := { stood := { row := chainHostsUptoRow, standIns := [], harness := (true, "3d7ec8f9a024cd5c654d9da391d1dc7c21de3d09e1c5a0037a3d81e765d90ac8"), looks := true }, kinds := [], alts := [], laidByText := true, laidKinds := [.data, .handle, .widerDeep, .widerDeep, .pinned], laidTests := true, laidLooks := .later }
def ChainHostsUptoCardSaid : Prop := Claim7.holds Tryz.pinned (.plain (OpenSpec.upto chainHostsSpec)) chainHostsUptoCard
end Rows
end Go.Proofs.YtncaplplkfihgaaGreatDoor
