/-
  No cell of these rows narrows 'for every input' (looked for: loops, veiled, ifaces, maps, wideKeys, modest, calm, conditions, laid).
  DERIVED. THE GIVEN ROWS OF THIS SEAT. 4 by the template 'for every input the law returns true; each argument reads behind the call as it read before'; 0 by the template 'total and deterministic' (their statements: YtbnhjgknffcjeaaTotals.lean).
  GIVEN WITH THE SEED: the statements are not yours to turn. If you find one false, say at which input.
  Laid BY PROGRAM, IN A SANDBOX (cutbox-rows.mjs): the forced cells as the released guide's own fill.sh prints them over the translation edc58b461c301b74… (all of the seat's roots in one cut). By AI agents, Wed Nov 11 2026. No macro, syntax, notation, axiom, sorry.
-/
import Derived.Test.YtbnhjgknffcjeaaChecked
import GoSem.Claim
import GoSem.ClaimJoined
import GoSem.ClaimMapViews
import Derived.JoinedTies
import Derived.KernelRfl
namespace Go.Proofs.Ytbnhjgknffcjeaa
/- THE CELL 'sum', in the pinned program and in every row, IS THE sha256 OF THE DUMP (.gsa) THAT YtbnhjgknffcjeaaProg.lean LOADS. Nothing in Lean hashes anything: it is a label: what it is worth is what the hold of that sum in a sandbox is worth. -/
noncomputable def Try.pinned : Pinned := { name := "ytbnhjgknffcjeaa", sum := "edc58b461c301b74d2dfcf0b51387287f09b0122e5774f3b833059702f655e41", checked := Try.checked }
namespace Rows
def none {H : Type} : Left H := { results := [], args := [] }

/-- 'drawbridgelaw10.SuiteApart': WHATEVER THE INPUT: true; the input reads as it did. -/
def suiteApartSpec : ChangeSpec := { name := "suiteApart", fn := fun _ => fun
  | [d1, d2, d3] => { results := [.lit (.bool true)], args := [d1, d2, d3] }
  | _ => none }
def suiteApartRow : OpenClaim := { program := "ytbnhjgknffcjeaa", sum := "edc58b461c301b74d2dfcf0b51387287f09b0122e5774f3b833059702f655e41", func := "drawbridge/drawbridgelaw10.SuiteApart", spec := "suiteApart", inPlace := ["math/bits.Add64"], unfollowed := true, recurses := true, apart := false }
def SuiteApartSaid : Prop := suiteApartRow.holds Try.pinned (OpenSpec.ofChange suiteApartSpec)

/-- ITS FALSE NEIGHBOUR: 'it returns false'. Refute it at one input. -/
def suiteApartWrong : ChangeSpec := { name := "suiteApart", fn := fun _ => fun
  | [d1, d2, d3] => { results := [.lit (.bool false)], args := [d1, d2, d3] }
  | _ => none }
def SuiteApartWrongFalsely : Prop := suiteApartRow.holds Try.pinned (OpenSpec.ofChange suiteApartWrong)

/-- 'drawbridgelaw10.SuiteSeals': WHATEVER THE INPUT: true; the input reads as it did. -/
def suiteSealsSpec : ChangeSpec := { name := "suiteSeals", fn := fun _ => fun
  | [d1, d2, d3, d4, d5] => { results := [.lit (.bool true)], args := [d1, d2, d3, d4, d5] }
  | _ => none }
def suiteSealsRow : OpenClaim := { program := "ytbnhjgknffcjeaa", sum := "edc58b461c301b74d2dfcf0b51387287f09b0122e5774f3b833059702f655e41", func := "drawbridge/drawbridgelaw10.SuiteSeals", spec := "suiteSeals", inPlace := ["math/bits.Add64"], unfollowed := true, recurses := true, apart := false }
def SuiteSealsSaid : Prop := suiteSealsRow.holds Try.pinned (OpenSpec.ofChange suiteSealsSpec)

/-- ITS FALSE NEIGHBOUR: 'it returns false'. Refute it at one input. -/
def suiteSealsWrong : ChangeSpec := { name := "suiteSeals", fn := fun _ => fun
  | [d1, d2, d3, d4, d5] => { results := [.lit (.bool false)], args := [d1, d2, d3, d4, d5] }
  | _ => none }
def SuiteSealsWrongFalsely : Prop := suiteSealsRow.holds Try.pinned (OpenSpec.ofChange suiteSealsWrong)

/-- 'drawbridgelaw10.SuiteOpens': WHATEVER THE INPUT: true; the input reads as it did. -/
def suiteOpensSpec : ChangeSpec := { name := "suiteOpens", fn := fun _ => fun
  | [d1, d2, d3, d4, d5, d6, d7] => { results := [.lit (.bool true)], args := [d1, d2, d3, d4, d5, d6, d7] }
  | _ => none }
def suiteOpensRow : OpenClaim := { program := "ytbnhjgknffcjeaa", sum := "edc58b461c301b74d2dfcf0b51387287f09b0122e5774f3b833059702f655e41", func := "drawbridge/drawbridgelaw10.SuiteOpens", spec := "suiteOpens", inPlace := ["math/bits.Add64"], unfollowed := true, recurses := true, apart := false }
def SuiteOpensSaid : Prop := suiteOpensRow.holds Try.pinned (OpenSpec.ofChange suiteOpensSpec)

/-- ITS FALSE NEIGHBOUR: 'it returns false'. Refute it at one input. -/
def suiteOpensWrong : ChangeSpec := { name := "suiteOpens", fn := fun _ => fun
  | [d1, d2, d3, d4, d5, d6, d7] => { results := [.lit (.bool false)], args := [d1, d2, d3, d4, d5, d6, d7] }
  | _ => none }
def SuiteOpensWrongFalsely : Prop := suiteOpensRow.holds Try.pinned (OpenSpec.ofChange suiteOpensWrong)

/-- 'drawbridgelaw10.SuiteTells': WHATEVER THE INPUT: true; the input reads as it did. -/
def suiteTellsSpec : ChangeSpec := { name := "suiteTells", fn := fun _ => fun
  | [d1, d2, d3] => { results := [.lit (.bool true)], args := [d1, d2, d3] }
  | _ => none }
def suiteTellsRow : OpenClaim := { program := "ytbnhjgknffcjeaa", sum := "edc58b461c301b74d2dfcf0b51387287f09b0122e5774f3b833059702f655e41", func := "drawbridge/drawbridgelaw10.SuiteTells", spec := "suiteTells", inPlace := ["math/bits.Add64"], unfollowed := true, recurses := true, apart := false }
def SuiteTellsSaid : Prop := suiteTellsRow.holds Try.pinned (OpenSpec.ofChange suiteTellsSpec)

/-- ITS FALSE NEIGHBOUR: 'it returns false'. Refute it at one input. -/
def suiteTellsWrong : ChangeSpec := { name := "suiteTells", fn := fun _ => fun
  | [d1, d2, d3] => { results := [.lit (.bool false)], args := [d1, d2, d3] }
  | _ => none }
def SuiteTellsWrongFalsely : Prop := suiteTellsRow.holds Try.pinned (OpenSpec.ofChange suiteTellsWrong)

/- THE SECOND FORM. 'bulk': how many values and letters a reading holds, each counted each time it is reached (what is shared counts as often as it is met; a slice's spare places count too). A statement '..UptoSaid' is the law's where the arguments, and the package variables that the reading takes, are together of bulk at most 1048576: NARROWER than '..Said'. Prove '..Said' where nothing that the law and all that it calls make is longer than what came in: it says more and counts as full. Else prove '..UptoSaid'. A law counts once. -/
mutual
def uptoBulk {H : Type} : DataW H → Nat
  | .lit (.string bytes) => bytes.length + 1
  | .lit _ => 1
  | .nil => 1
  | .ptr d => uptoBulk d + 1
  | .slice elems spare => uptoBulkAll elems + uptoBulkAll spare + 1
  | .agg parts => uptoBulkAll parts + 1
  | .iface _ d => uptoBulk d + 1
  | .map entries => uptoBulkEntries entries + 1
  | .held _ => 1
def uptoBulkAll {H : Type} : List (DataW H) → Nat
  | [] => 0
  | d :: r => uptoBulk d + uptoBulkAll r
def uptoBulkEntries {H : Type} : List (Lit × DataW H) → Nat
  | [] => 0
  | x :: r => uptoBulkEntry x + uptoBulkEntries r
def uptoBulkEntry {H : Type} : Lit × DataW H → Nat
  | (.string bytes, d) => bytes.length + uptoBulk d + 1
  | (_, d) => uptoBulk d + 1
 end
def uptoSmall : (H : Type) → List (DataW H) → Bool := fun _ ds => decide (uptoBulkAll ds ≤ 1048576)
def OpenSpec.upto (s : _root_.Go.ChangeSpec) : _root_.Go.OpenSpec := { _root_.Go.OpenSpec.ofChange s with cond := some uptoSmall }

/-- 'drawbridgelaw10.SuiteApart', WHERE WHAT IT READS IS OF BULK AT MOST 1048576: true; the input reads as it did. -/
def suiteApartUptoRow : OpenClaim := { program := "ytbnhjgknffcjeaa", sum := "edc58b461c301b74d2dfcf0b51387287f09b0122e5774f3b833059702f655e41", func := "drawbridge/drawbridgelaw10.SuiteApart", spec := "suiteApart", inPlace := ["math/bits.Add64"], unfollowed := true, recurses := true, apart := false, narrowed := true }
def SuiteApartUptoSaid : Prop := suiteApartUptoRow.holds Try.pinned (OpenSpec.upto suiteApartSpec)

/-- 'drawbridgelaw10.SuiteSeals', WHERE WHAT IT READS IS OF BULK AT MOST 1048576: true; the input reads as it did. -/
def suiteSealsUptoRow : OpenClaim := { program := "ytbnhjgknffcjeaa", sum := "edc58b461c301b74d2dfcf0b51387287f09b0122e5774f3b833059702f655e41", func := "drawbridge/drawbridgelaw10.SuiteSeals", spec := "suiteSeals", inPlace := ["math/bits.Add64"], unfollowed := true, recurses := true, apart := false, narrowed := true }
def SuiteSealsUptoSaid : Prop := suiteSealsUptoRow.holds Try.pinned (OpenSpec.upto suiteSealsSpec)

/-- 'drawbridgelaw10.SuiteOpens', WHERE WHAT IT READS IS OF BULK AT MOST 1048576: true; the input reads as it did. -/
def suiteOpensUptoRow : OpenClaim := { program := "ytbnhjgknffcjeaa", sum := "edc58b461c301b74d2dfcf0b51387287f09b0122e5774f3b833059702f655e41", func := "drawbridge/drawbridgelaw10.SuiteOpens", spec := "suiteOpens", inPlace := ["math/bits.Add64"], unfollowed := true, recurses := true, apart := false, narrowed := true }
def SuiteOpensUptoSaid : Prop := suiteOpensUptoRow.holds Try.pinned (OpenSpec.upto suiteOpensSpec)

/-- 'drawbridgelaw10.SuiteTells', WHERE WHAT IT READS IS OF BULK AT MOST 1048576: true; the input reads as it did. -/
def suiteTellsUptoRow : OpenClaim := { program := "ytbnhjgknffcjeaa", sum := "edc58b461c301b74d2dfcf0b51387287f09b0122e5774f3b833059702f655e41", func := "drawbridge/drawbridgelaw10.SuiteTells", spec := "suiteTells", inPlace := ["math/bits.Add64"], unfollowed := true, recurses := true, apart := false, narrowed := true }
def SuiteTellsUptoSaid : Prop := suiteTellsUptoRow.holds Try.pinned (OpenSpec.upto suiteTellsSpec)

end Rows
end Go.Proofs.Ytbnhjgknffcjeaa
