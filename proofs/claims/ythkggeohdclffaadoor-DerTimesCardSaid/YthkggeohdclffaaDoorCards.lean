/-
  DERIVED. GIVEN WITH THE SEED: THE CARDS: each row of YthkggeohdclffaaDoorRows.lean that lists a variable, with what it lists TIED to the program's text (the seventh form; the later family's looks); each row that meets fmt, with fmt's text TOLD by the authors' own Lean function (tested against real Go, not proved from fmt's source: count such statements apart). THE CARD IS WHAT COUNTS. Prove the row's statement (the work); the ties are given (YthkggeohdclffaaDoorTie.lean); close each card by the builder's one call (the guide's Derived/Test/ToyasCard.lean, 'card_holds'). Laid BY PROGRAM, IN A SANDBOX (cutbox-door.mjs). By AI agents, Wed Nov 11 2026. No macro, syntax, notation, axiom, sorry.
-/
import Derived.Test.YthkggeohdclffaaDoorRows
import GoSem.ClaimSeven
namespace Go.Proofs.YthkggeohdclffaaDoor
namespace Rows

/-- THE TIED CARD OF 'drawbridgelaw14.DerOneWay'. -/
def derOneWayCard : Claim7 := { stood := { row := derOneWayRow, standIns := [], harness := (true, "2fb13da4359babb62e18491b73526b5a0a1a8b5fdd992d61abe399fdb04e1861"), looks := true }, kinds := [], alts := [], laidByText := true, laidKinds := [.data, .data, .data], laidTests := true, laidLooks := .later }
def DerOneWayCardSaid : Prop := Claim7.holds Tryd.pinned (.plain (OpenSpec.ofChange derOneWaySpec)) derOneWayCard

/-- THE TIED CARD OF 'drawbridgelaw14.DerItems'. -/
def derItemsCard : Claim7 := { stood := { row := derItemsRow, standIns := [], harness := (true, "2fb13da4359babb62e18491b73526b5a0a1a8b5fdd992d61abe399fdb04e1861"), looks := true }, kinds := [], alts := [], laidByText := true, laidKinds := [.data, .data, .data, .handle], laidTests := true, laidLooks := .later }
def DerItemsCardSaid : Prop := Claim7.holds Tryd.pinned (.plain (OpenSpec.ofChange derItemsSpec)) derItemsCard

/-- THE TIED CARD OF 'drawbridgelaw14.DerNests'. -/
def derNestsCard : Claim7 := { stood := { row := derNestsRow, standIns := [], harness := (true, "2fb13da4359babb62e18491b73526b5a0a1a8b5fdd992d61abe399fdb04e1861"), looks := true }, kinds := [], alts := [], laidByText := true, laidKinds := [.data, .data, .data, .handle], laidTests := true, laidLooks := .later }
def DerNestsCardSaid : Prop := Claim7.holds Tryd.pinned (.plain (OpenSpec.ofChange derNestsSpec)) derNestsCard

/-- THE TIED CARD OF 'drawbridgelaw14.DerTimes'. -/
def derTimesCard : Claim7 := { stood := { row := derTimesRow, standIns := [], harness := (true, "2fb13da4359babb62e18491b73526b5a0a1a8b5fdd992d61abe399fdb04e1861"), looks := true }, kinds := [], alts := [], laidByText := true, laidKinds := [.data, .data, .data, .data, .sentinel, .sentinel, .pinned], laidTests := true, laidLooks := .later }
def DerTimesCardSaid : Prop := Claim7.holds Tryd.pinned (.plain (OpenSpec.ofChange derTimesSpec)) derTimesCard

/-- THE SECOND FORM's CARD OF 'drawbridgelaw14.DerOneWay'. -/
def derOneWayUptoCard : Claim7 := { stood := { row := derOneWayUptoRow, standIns := [], harness := (true, "2fb13da4359babb62e18491b73526b5a0a1a8b5fdd992d61abe399fdb04e1861"), looks := true }, kinds := [], alts := [], laidByText := true, laidKinds := [.data, .data, .data], laidTests := true, laidLooks := .later }
def DerOneWayUptoCardSaid : Prop := Claim7.holds Tryd.pinned (.plain (OpenSpec.upto derOneWaySpec)) derOneWayUptoCard

/-- THE SECOND FORM's CARD OF 'drawbridgelaw14.DerItems'. -/
def derItemsUptoCard : Claim7 := { stood := { row := derItemsUptoRow, standIns := [], harness := (true, "2fb13da4359babb62e18491b73526b5a0a1a8b5fdd992d61abe399fdb04e1861"), looks := true }, kinds := [], alts := [], laidByText := true, laidKinds := [.data, .data, .data, .handle], laidTests := true, laidLooks := .later }
def DerItemsUptoCardSaid : Prop := Claim7.holds Tryd.pinned (.plain (OpenSpec.upto derItemsSpec)) derItemsUptoCard

/-- THE SECOND FORM's CARD OF 'drawbridgelaw14.DerNests'. -/
def derNestsUptoCard : Claim7 := { stood := { row := derNestsUptoRow, standIns := [], harness := (true, "2fb13da4359babb62e18491b73526b5a0a1a8b5fdd992d61abe399fdb04e1861"), looks := true }, kinds := [], alts := [], laidByText := true, laidKinds := [.data, .data, .data, .handle], laidTests := true, laidLooks := .later }
def DerNestsUptoCardSaid : Prop := Claim7.holds Tryd.pinned (.plain (OpenSpec.upto derNestsSpec)) derNestsUptoCard

/-- THE SECOND FORM's CARD OF 'drawbridgelaw14.DerTimes'. -/
def derTimesUptoCard : Claim7 := { stood := { row := derTimesUptoRow, standIns := [], harness := (true, "2fb13da4359babb62e18491b73526b5a0a1a8b5fdd992d61abe399fdb04e1861"), looks := true }, kinds := [], alts := [], laidByText := true, laidKinds := [.data, .data, .data, .data, .sentinel, .sentinel, .pinned], laidTests := true, laidLooks := .later }
def DerTimesUptoCardSaid : Prop := Claim7.holds Tryd.pinned (.plain (OpenSpec.upto derTimesSpec)) derTimesUptoCard
end Rows
end Go.Proofs.YthkggeohdclffaaDoor
