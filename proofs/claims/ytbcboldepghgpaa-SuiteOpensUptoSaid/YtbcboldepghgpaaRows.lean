/-
  No cell of these rows narrows 'for every input' (looked for: loops, veiled, ifaces, maps, wideKeys, modest, calm, conditions, laid).
  DERIVED. THE GIVEN ROWS OF THIS SEAT. 5 by the template 'for every input the law returns true; each argument reads behind the call as it read before'; 0 by the template 'total and deterministic' (their statements: YtbcboldepghgpaaTotals.lean).
  GIVEN WITH THE SEED: the statements are not yours to turn. If you find one false, say at which input.
  Laid BY PROGRAM, IN A SANDBOX (cutbox-rows.mjs): the forced cells as the released guide's own fill.sh prints them over the translation f5d8ff337e454527… (all of the seat's roots in one cut). By AI agents, Wed Nov 11 2026. No macro, syntax, notation, axiom, sorry.
-/
import Derived.Test.YtbcboldepghgpaaChecked
import GoSem.Claim
import GoSem.ClaimJoined
import GoSem.ClaimMapViews
import Derived.JoinedTies
import Derived.KernelRfl
namespace Go.Proofs.Ytbcboldepghgpaa
/- THE CELL 'sum', in the pinned program and in every row, IS THE sha256 OF THE DUMP (.gsa) THAT YtbcboldepghgpaaProg.lean LOADS. Nothing in Lean hashes anything: it is a label: what it is worth is what the hold of that sum in a sandbox is worth. -/
noncomputable def Try.pinned : Pinned := { name := "ytbcboldepghgpaa", sum := "f5d8ff337e4545279e6644bfdaae5f9f23d487b7d1e458925c935c56bdd4d621", checked := Try.checked }
namespace Rows
def none {H : Type} : Left H := { results := [], args := [] }

/-- 'drawbridgelaw10.SuiteSeals': WHATEVER THE INPUT: true; the input reads as it did. -/
def suiteSealsSpec : ChangeSpec := { name := "suiteSeals", fn := fun _ => fun
  | [d1, d2, d3, d4, d5] => { results := [.lit (.bool true)], args := [d1, d2, d3, d4, d5] }
  | _ => none }
def suiteSealsRow : OpenClaim := { program := "ytbcboldepghgpaa", sum := "f5d8ff337e4545279e6644bfdaae5f9f23d487b7d1e458925c935c56bdd4d621", func := "drawbridge/drawbridgelaw10.SuiteSeals", spec := "suiteSeals", inPlace := ["math/bits.Add64"], unfollowed := true, recurses := true, apart := false }
def SuiteSealsSaid : Prop := suiteSealsRow.holds Try.pinned (OpenSpec.ofChange suiteSealsSpec)

/-- ITS FALSE NEIGHBOUR: 'it returns false'. Refute it at one input. -/
def suiteSealsWrong : ChangeSpec := { name := "suiteSeals", fn := fun _ => fun
  | [d1, d2, d3, d4, d5] => { results := [.lit (.bool false)], args := [d1, d2, d3, d4, d5] }
  | _ => none }
def SuiteSealsWrongFalsely : Prop := suiteSealsRow.holds Try.pinned (OpenSpec.ofChange suiteSealsWrong)

/-- 'drawbridgelaw10.SuiteOpens': WHATEVER THE INPUT: true; the input reads as it did. -/
def suiteOpensSpec : ChangeSpec := { name := "suiteOpens", fn := fun _ => fun
  | [d1, d2, d3, d4, d5, d6, d7] => { results := [.lit (.bool true)], args := [d1, d2, d3, d4, d5, d6, d7] }
  | _ => none }
def suiteOpensRow : OpenClaim := { program := "ytbcboldepghgpaa", sum := "f5d8ff337e4545279e6644bfdaae5f9f23d487b7d1e458925c935c56bdd4d621", func := "drawbridge/drawbridgelaw10.SuiteOpens", spec := "suiteOpens", inPlace := ["math/bits.Add64"], unfollowed := true, recurses := true, apart := false }
def SuiteOpensSaid : Prop := suiteOpensRow.holds Try.pinned (OpenSpec.ofChange suiteOpensSpec)

/-- ITS FALSE NEIGHBOUR: 'it returns false'. Refute it at one input. -/
def suiteOpensWrong : ChangeSpec := { name := "suiteOpens", fn := fun _ => fun
  | [d1, d2, d3, d4, d5, d6, d7] => { results := [.lit (.bool false)], args := [d1, d2, d3, d4, d5, d6, d7] }
  | _ => none }
def SuiteOpensWrongFalsely : Prop := suiteOpensRow.holds Try.pinned (OpenSpec.ofChange suiteOpensWrong)

/-- 'drawbridgelaw18.RecordEnds': WHATEVER THE INPUT: true; the input reads as it did. -/
def recordEndsSpec : ChangeSpec := { name := "recordEnds", fn := fun _ => fun
  | [d1, d2, d3] => { results := [.lit (.bool true)], args := [d1, d2, d3] }
  | _ => none }
def recordEndsRow : OpenClaim := { program := "ytbcboldepghgpaa", sum := "f5d8ff337e4545279e6644bfdaae5f9f23d487b7d1e458925c935c56bdd4d621", func := "drawbridge/drawbridgelaw18.RecordEnds", spec := "recordEnds", inPlace := ["math/bits.Add64"], unfollowed := true, recurses := true, apart := false }
def RecordEndsSaid : Prop := recordEndsRow.holds Try.pinned (OpenSpec.ofChange recordEndsSpec)

/-- ITS FALSE NEIGHBOUR: 'it returns false'. Refute it at one input. -/
def recordEndsWrong : ChangeSpec := { name := "recordEnds", fn := fun _ => fun
  | [d1, d2, d3] => { results := [.lit (.bool false)], args := [d1, d2, d3] }
  | _ => none }
def RecordEndsWrongFalsely : Prop := recordEndsRow.holds Try.pinned (OpenSpec.ofChange recordEndsWrong)

/-- 'drawbridgelaw18.RecordBack': WHATEVER THE INPUT: true; the input reads as it did. -/
def recordBackSpec : ChangeSpec := { name := "recordBack", fn := fun _ => fun
  | [d1, d2, d3] => { results := [.lit (.bool true)], args := [d1, d2, d3] }
  | _ => none }
def recordBackRow : OpenClaim := { program := "ytbcboldepghgpaa", sum := "f5d8ff337e4545279e6644bfdaae5f9f23d487b7d1e458925c935c56bdd4d621", func := "drawbridge/drawbridgelaw18.RecordBack", spec := "recordBack", inPlace := ["math/bits.Add64"], unfollowed := true, recurses := true, apart := false }
def RecordBackSaid : Prop := recordBackRow.holds Try.pinned (OpenSpec.ofChange recordBackSpec)

/-- ITS FALSE NEIGHBOUR: 'it returns false'. Refute it at one input. -/
def recordBackWrong : ChangeSpec := { name := "recordBack", fn := fun _ => fun
  | [d1, d2, d3] => { results := [.lit (.bool false)], args := [d1, d2, d3] }
  | _ => none }
def RecordBackWrongFalsely : Prop := recordBackRow.holds Try.pinned (OpenSpec.ofChange recordBackWrong)

/-- 'drawbridgelaw18.RecordPads': WHATEVER THE INPUT: true; the input reads as it did. -/
def recordPadsSpec : ChangeSpec := { name := "recordPads", fn := fun _ => fun
  | [d1, d2, d3, d4] => { results := [.lit (.bool true)], args := [d1, d2, d3, d4] }
  | _ => none }
def recordPadsRow : OpenClaim := { program := "ytbcboldepghgpaa", sum := "f5d8ff337e4545279e6644bfdaae5f9f23d487b7d1e458925c935c56bdd4d621", func := "drawbridge/drawbridgelaw18.RecordPads", spec := "recordPads", inPlace := ["math/bits.Add64"], unfollowed := true, recurses := true, apart := false }
def RecordPadsSaid : Prop := recordPadsRow.holds Try.pinned (OpenSpec.ofChange recordPadsSpec)

/-- ITS FALSE NEIGHBOUR: 'it returns false'. Refute it at one input. -/
def recordPadsWrong : ChangeSpec := { name := "recordPads", fn := fun _ => fun
  | [d1, d2, d3, d4] => { results := [.lit (.bool false)], args := [d1, d2, d3, d4] }
  | _ => none }
def RecordPadsWrongFalsely : Prop := recordPadsRow.holds Try.pinned (OpenSpec.ofChange recordPadsWrong)

/- THE SECOND FORM. 'bulk': how many values and letters a reading holds, each counted each time it is reached (what is shared counts as often as it is met; a slice's spare places count too). A statement '..UptoSaid' is the law's where the arguments, and the package variables that the reading takes, are together of bulk at most 1048576: NARROWER than '..Said'. Prove '..Said' where nothing that the law and all that it calls make is longer than what came in: it says more and counts as full. Else prove '..UptoSaid'. A law counts once. -/
mutual
def uptoBulk {H : Type} : DataW H → Nat
  | .lit (.string bytes) => bytes.length + 1
  | .lit _ => 1
  | .nil => 1
  | .ptr d => uptoBulk d + 1
  | .slice elems spare => uptoBulkAll elems + uptoBulkAll spare + 1
  | .agg parts => uptoBulkAll parts + 1
  | .iface _ d => uptoBulk d + 1
  | .map entries => uptoBulkEntries entries + 1
  | .held _ => 1
def uptoBulkAll {H : Type} : List (DataW H) → Nat
  | [] => 0
  | d :: r => uptoBulk d + uptoBulkAll r
def uptoBulkEntries {H : Type} : List (Lit × DataW H) → Nat
  | [] => 0
  | x :: r => uptoBulkEntry x + uptoBulkEntries r
def uptoBulkEntry {H : Type} : Lit × DataW H → Nat
  | (.string bytes, d) => bytes.length + uptoBulk d + 1
  | (_, d) => uptoBulk d + 1
 end
def uptoSmall : (H : Type) → List (DataW H) → Bool := fun _ ds => decide (uptoBulkAll ds ≤ 1048576)
def OpenSpec.upto (s : _root_.Go.ChangeSpec) : _root_.Go.OpenSpec := { _root_.Go.OpenSpec.ofChange s with cond := some uptoSmall }

/-- 'drawbridgelaw10.SuiteSeals', WHERE WHAT IT READS IS OF BULK AT MOST 1048576: true; the input reads as it did. -/
def suiteSealsUptoRow : OpenClaim := { program := "ytbcboldepghgpaa", sum := "f5d8ff337e4545279e6644bfdaae5f9f23d487b7d1e458925c935c56bdd4d621", func := "drawbridge/drawbridgelaw10.SuiteSeals", spec := "suiteSeals", inPlace := ["math/bits.Add64"], unfollowed := true, recurses := true, apart := false, narrowed := true }
def SuiteSealsUptoSaid : Prop := suiteSealsUptoRow.holds Try.pinned (OpenSpec.upto suiteSealsSpec)

/-- 'drawbridgelaw10.SuiteOpens', WHERE WHAT IT READS IS OF BULK AT MOST 1048576: true; the input reads as it did. -/
def suiteOpensUptoRow : OpenClaim := { program := "ytbcboldepghgpaa", sum := "f5d8ff337e4545279e6644bfdaae5f9f23d487b7d1e458925c935c56bdd4d621", func := "drawbridge/drawbridgelaw10.SuiteOpens", spec := "suiteOpens", inPlace := ["math/bits.Add64"], unfollowed := true, recurses := true, apart := false, narrowed := true }
def SuiteOpensUptoSaid : Prop := suiteOpensUptoRow.holds Try.pinned (OpenSpec.upto suiteOpensSpec)

/-- 'drawbridgelaw18.RecordEnds', WHERE WHAT IT READS IS OF BULK AT MOST 1048576: true; the input reads as it did. -/
def recordEndsUptoRow : OpenClaim := { program := "ytbcboldepghgpaa", sum := "f5d8ff337e4545279e6644bfdaae5f9f23d487b7d1e458925c935c56bdd4d621", func := "drawbridge/drawbridgelaw18.RecordEnds", spec := "recordEnds", inPlace := ["math/bits.Add64"], unfollowed := true, recurses := true, apart := false, narrowed := true }
def RecordEndsUptoSaid : Prop := recordEndsUptoRow.holds Try.pinned (OpenSpec.upto recordEndsSpec)

/-- 'drawbridgelaw18.RecordBack', WHERE WHAT IT READS IS OF BULK AT MOST 1048576: true; the input reads as it did. -/
def recordBackUptoRow : OpenClaim := { program := "ytbcboldepghgpaa", sum := "f5d8ff337e4545279e6644bfdaae5f9f23d487b7d1e458925c935c56bdd4d621", func := "drawbridge/drawbridgelaw18.RecordBack", spec := "recordBack", inPlace := ["math/bits.Add64"], unfollowed := true, recurses := true, apart := false, narrowed := true }
def RecordBackUptoSaid : Prop := recordBackUptoRow.holds Try.pinned (OpenSpec.upto recordBackSpec)

/-- 'drawbridgelaw18.RecordPads', WHERE WHAT IT READS IS OF BULK AT MOST 1048576: true; the input reads as it did. -/
def recordPadsUptoRow : OpenClaim := { program := "ytbcboldepghgpaa", sum := "f5d8ff337e4545279e6644bfdaae5f9f23d487b7d1e458925c935c56bdd4d621", func := "drawbridge/drawbridgelaw18.RecordPads", spec := "recordPads", inPlace := ["math/bits.Add64"], unfollowed := true, recurses := true, apart := false, narrowed := true }
def RecordPadsUptoSaid : Prop := recordPadsUptoRow.holds Try.pinned (OpenSpec.upto recordPadsSpec)

end Rows
end Go.Proofs.Ytbcboldepghgpaa
