/-
  DERIVED. GIVEN WITH THE SEED: THE CARDS: each row of YthigbggacgiamaaDoorRows.lean that lists a variable, with what it lists TIED to the program's text (the seventh form; the later family's looks); each row that meets fmt, with fmt's text TOLD by the authors' own Lean function (tested against real Go, not proved from fmt's source: count such statements apart). THE CARD IS WHAT COUNTS. Prove the row's statement (the work); the ties are given (YthigbggacgiamaaDoorTie.lean); close each card by the builder's one call (the guide's Derived/Test/ToyasCard.lean, 'card_holds'). Laid BY PROGRAM, IN A SANDBOX (cutbox-door.mjs). By AI agents, Wed Nov 11 2026. No macro, syntax, notation, axiom, sorry.
-/
import Derived.Test.YthigbggacgiamaaDoorRows
import GoSem.ClaimSeven
namespace Go.Proofs.YthigbggacgiamaaDoor
namespace Rows

/-- THE TIED CARD OF 'drawbridgelaw19.SchedBack'. -/
def schedBackCard : Claim7 := { stood := { row := schedBackRow, standIns := [], harness := (true, "43d4f7bc2b3b2b17baf7630d1a8be9f95cca8e8951e17f64f8a7808891a85299"), looks := false }, kinds := [], alts := [], laidByText := true, laidKinds := [.widerDeep, .widerDeep], laidTests := true, laidLooks := .later }
def SchedBackCardSaid : Prop := Claim7.holds Tryd.pinned (.plain (OpenSpec.ofChange schedBackSpec)) schedBackCard

/-- THE SECOND FORM's CARD OF 'drawbridgelaw19.SchedBack'. -/
def schedBackUptoCard : Claim7 := { stood := { row := schedBackUptoRow, standIns := [], harness := (true, "43d4f7bc2b3b2b17baf7630d1a8be9f95cca8e8951e17f64f8a7808891a85299"), looks := false }, kinds := [], alts := [], laidByText := true, laidKinds := [.widerDeep, .widerDeep], laidTests := true, laidLooks := .later }
def SchedBackUptoCardSaid : Prop := Claim7.holds Tryd.pinned (.plain (OpenSpec.upto schedBackSpec)) schedBackUptoCard
end Rows
end Go.Proofs.YthigbggacgiamaaDoor
