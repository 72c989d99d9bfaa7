/-
  DERIVED. GIVEN WITH THE SEED: THE CARDS: each row of YtbcboldepghgpaaGreatDoorRows.lean that lists a variable, with what it lists TIED to the program's text (the seventh form; the later family's looks); each row that meets fmt, with fmt's text TOLD by the authors' own Lean function (tested against real Go, not proved from fmt's source: count such statements apart). THE CARD IS WHAT COUNTS. Prove the row's statement (the work); the ties are given (YtbcboldepghgpaaGreatDoorTie.lean); close each card by the builder's one call (the guide's Derived/Test/ToyasCard.lean, 'card_holds'). Laid BY PROGRAM, IN A SANDBOX (cutbox-door.mjs). By AI agents, Wed Nov 11 2026. No macro, syntax, notation, axiom, sorry.
-/
import Derived.Test.YtbcboldepghgpaaGreatDoorRows
import GoSem.ClaimSeven
namespace Go.Proofs.YtbcboldepghgpaaGreatDoor
namespace Rows

/-- THE TIED CARD OF 'drawbridgelaw19.SchedSteps'. -/
def schedStepsCard : Claim7 := { stood := { row := schedStepsRow, standIns := [], harness := (true, "673fdb443eb3070f0998f6e17cd0463dcaa4458645caf4a8bc35d2734b2e34ed"), looks := false }, kinds := [], alts := [], laidByText := true, laidKinds := [.widerDeep, .widerDeep], laidTests := true, laidLooks := .later }
def SchedStepsCardSaid : Prop := Claim7.holds Tryz.pinned (.plain (OpenSpec.ofChange schedStepsSpec)) schedStepsCard

/-- THE SECOND FORM's CARD OF 'drawbridgelaw19.SchedSteps'. -/
def schedStepsUptoCard : Claim7 := { stood := { row := schedStepsUptoRow, standIns := [], harness := (true, "673fdb443eb3070f0998f6e17cd0463dcaa4458645caf4a8bc35d2734b2e34ed"), looks := false }, kinds := [], alts := [], laidByText := true, laidKinds := [.widerDeep, .widerDeep], laidTests := true, laidLooks := .later }
def SchedStepsUptoCardSaid : Prop := Claim7.holds Tryz.pinned (.plain (OpenSpec.upto schedStepsSpec)) schedStepsUptoCard
end Rows
end Go.Proofs.YtbcboldepghgpaaGreatDoor
