/-
  DERIVED. GIVEN WITH THE SEED: THE CARDS: each row of YtkacibgbpeeflaaDoorRows.lean that lists a variable, with what it lists TIED to the program's text (the seventh form; the later family's looks); each row that meets fmt, with fmt's text TOLD by the authors' own Lean function (tested against real Go, not proved from fmt's source: count such statements apart). THE CARD IS WHAT COUNTS. Prove the row's statement (the work); the ties are given (YtkacibgbpeeflaaDoorTie.lean); close each card by the builder's one call (the guide's Derived/Test/ToyasCard.lean, 'card_holds'). Laid BY PROGRAM, IN A SANDBOX (cutbox-door.mjs). By AI agents, Wed Nov 11 2026. No macro, syntax, notation, axiom, sorry.
-/
import Derived.Test.YtkacibgbpeeflaaDoorRows
import GoSem.ClaimSeven
namespace Go.Proofs.YtkacibgbpeeflaaDoor
namespace Rows

/-- THE TIED CARD OF 'drawbridgelaw19.SchedLabels'. -/
def schedLabelsCard : Claim7 := { stood := { row := schedLabelsRow, standIns := [], harness := (true, "0ada4e9812c33ed0b7740055a4c2991f9fcf841df0c50f33ac936546c0f6771f"), looks := false }, kinds := [], alts := [], laidByText := true, laidKinds := [.widerDeep, .widerDeep], laidTests := true, laidLooks := .later }
def SchedLabelsCardSaid : Prop := Claim7.holds Tryd.pinned (.plain (OpenSpec.ofChange schedLabelsSpec)) schedLabelsCard

/-- THE TIED CARD OF 'drawbridgelaw19.SchedTranscripts'. -/
def schedTranscriptsCard : Claim7 := { stood := { row := schedTranscriptsRow, standIns := [], harness := (true, "0ada4e9812c33ed0b7740055a4c2991f9fcf841df0c50f33ac936546c0f6771f"), looks := false }, kinds := [], alts := [], laidByText := true, laidKinds := [.widerDeep, .widerDeep], laidTests := true, laidLooks := .later }
def SchedTranscriptsCardSaid : Prop := Claim7.holds Tryd.pinned (.plain (OpenSpec.ofChange schedTranscriptsSpec)) schedTranscriptsCard

/-- THE TIED CARD OF 'drawbridgelaw19.SchedOwn'. -/
def schedOwnCard : Claim7 := { stood := { row := schedOwnRow, standIns := [], harness := (true, "0ada4e9812c33ed0b7740055a4c2991f9fcf841df0c50f33ac936546c0f6771f"), looks := false }, kinds := [], alts := [], laidByText := true, laidKinds := [.widerDeep, .widerDeep], laidTests := true, laidLooks := .later }
def SchedOwnCardSaid : Prop := Claim7.holds Tryd.pinned (.plain (OpenSpec.ofChange schedOwnSpec)) schedOwnCard

/-- THE SECOND FORM's CARD OF 'drawbridgelaw19.SchedLabels'. -/
def schedLabelsUptoCard : Claim7 := { stood := { row := schedLabelsUptoRow, standIns := [], harness := (true, "0ada4e9812c33ed0b7740055a4c2991f9fcf841df0c50f33ac936546c0f6771f"), looks := false }, kinds := [], alts := [], laidByText := true, laidKinds := [.widerDeep, .widerDeep], laidTests := true, laidLooks := .later }
def SchedLabelsUptoCardSaid : Prop := Claim7.holds Tryd.pinned (.plain (OpenSpec.upto schedLabelsSpec)) schedLabelsUptoCard

/-- THE SECOND FORM's CARD OF 'drawbridgelaw19.SchedTranscripts'. -/
def schedTranscriptsUptoCard : Claim7 := { stood := { row := schedTranscriptsUptoRow, standIns := [], harness := (true, "0ada4e9812c33ed0b7740055a4c2991f9fcf841df0c50f33ac936546c0f6771f"), looks := false }, kinds := [], alts := [], laidByText := true, laidKinds := [.widerDeep, .widerDeep], laidTests := true, laidLooks := .later }
def SchedTranscriptsUptoCardSaid : Prop := Claim7.holds Tryd.pinned (.plain (OpenSpec.upto schedTranscriptsSpec)) schedTranscriptsUptoCard

/-- THE SECOND FORM's CARD OF 'drawbridgelaw19.SchedOwn'. -/
def schedOwnUptoCard : Claim7 := { stood := { row := schedOwnUptoRow, standIns := [], harness := (true, "0ada4e9812c33ed0b7740055a4c2991f9fcf841df0c50f33ac936546c0f6771f"), looks := false }, kinds := [], alts := [], laidByText := true, laidKinds := [.widerDeep, .widerDeep], laidTests := true, laidLooks := .later }
def SchedOwnUptoCardSaid : Prop := Claim7.holds Tryd.pinned (.plain (OpenSpec.upto schedOwnSpec)) schedOwnUptoCard
end Rows
end Go.Proofs.YtkacibgbpeeflaaDoor
