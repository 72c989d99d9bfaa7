/-
  No cell of these rows narrows 'for every input' (looked for: loops, veiled, ifaces, maps, wideKeys, modest, calm, conditions, laid).
  DERIVED. THE GIVEN ROWS OF THIS SEAT. 9 by the template 'for every input the law returns true; each argument reads behind the call as it read before'; 0 by the template 'total and deterministic' (their statements: YtbbfckdcfbacpaaTotals.lean).
  GIVEN WITH THE SEED: the statements are not yours to turn. If you find one false, say at which input.
  Laid BY PROGRAM, IN A SANDBOX (cutbox-rows.mjs): the forced cells as the released guide's own fill.sh prints them over the translation a40d491258590ea6… (all of the seat's roots in one cut). By AI agents, Wed Nov 11 2026. No macro, syntax, notation, axiom, sorry.
-/
import Derived.Test.YtbbfckdcfbacpaaChecked
import GoSem.Claim
import GoSem.ClaimJoined
import GoSem.ClaimMapViews
import Derived.JoinedTies
import Derived.KernelRfl
namespace Go.Proofs.Ytbbfckdcfbacpaa
/- THE CELL 'sum', in the pinned program and in every row, IS THE sha256 OF THE DUMP (.gsa) THAT YtbbfckdcfbacpaaProg.lean LOADS. Nothing in Lean hashes anything: it is a label: what it is worth is what the hold of that sum in a sandbox is worth. -/
noncomputable def Try.pinned : Pinned := { name := "ytbbfckdcfbacpaa", sum := "a40d491258590ea61b1db37d653ca38f984cb76940c6afc007145e62370aa207", checked := Try.checked }
namespace Rows
def none {H : Type} : Left H := { results := [], args := [] }

/-- 'drawbridgelaw07.AesBlocks': WHATEVER THE INPUT: true; the input reads as it did. -/
def aesBlocksSpec : ChangeSpec := { name := "aesBlocks", fn := fun _ => fun
  | [d1, d2] => { results := [.lit (.bool true)], args := [d1, d2] }
  | _ => none }
def aesBlocksRow : OpenClaim := { program := "ytbbfckdcfbacpaa", sum := "a40d491258590ea61b1db37d653ca38f984cb76940c6afc007145e62370aa207", func := "drawbridge/drawbridgelaw07.AesBlocks", spec := "aesBlocks", apart := false }
def AesBlocksSaid : Prop := aesBlocksRow.holds Try.pinned (OpenSpec.ofChange aesBlocksSpec)

/-- ITS FALSE NEIGHBOUR: 'it returns false'. Refute it at one input. -/
def aesBlocksWrong : ChangeSpec := { name := "aesBlocks", fn := fun _ => fun
  | [d1, d2] => { results := [.lit (.bool false)], args := [d1, d2] }
  | _ => none }
def AesBlocksWrongFalsely : Prop := aesBlocksRow.holds Try.pinned (OpenSpec.ofChange aesBlocksWrong)

/-- 'drawbridgelaw07.AesApart': WHATEVER THE INPUT: true; the input reads as it did. -/
def aesApartSpec : ChangeSpec := { name := "aesApart", fn := fun _ => fun
  | [d1, d2, d3] => { results := [.lit (.bool true)], args := [d1, d2, d3] }
  | _ => none }
def aesApartRow : OpenClaim := { program := "ytbbfckdcfbacpaa", sum := "a40d491258590ea61b1db37d653ca38f984cb76940c6afc007145e62370aa207", func := "drawbridge/drawbridgelaw07.AesApart", spec := "aesApart", apart := false }
def AesApartSaid : Prop := aesApartRow.holds Try.pinned (OpenSpec.ofChange aesApartSpec)

/-- ITS FALSE NEIGHBOUR: 'it returns false'. Refute it at one input. -/
def aesApartWrong : ChangeSpec := { name := "aesApart", fn := fun _ => fun
  | [d1, d2, d3] => { results := [.lit (.bool false)], args := [d1, d2, d3] }
  | _ => none }
def AesApartWrongFalsely : Prop := aesApartRow.holds Try.pinned (OpenSpec.ofChange aesApartWrong)

/-- 'drawbridgelaw07.AesStreams': WHATEVER THE INPUT: true; the input reads as it did. -/
def aesStreamsSpec : ChangeSpec := { name := "aesStreams", fn := fun _ => fun
  | [d1, d2, d3] => { results := [.lit (.bool true)], args := [d1, d2, d3] }
  | _ => none }
def aesStreamsRow : OpenClaim := { program := "ytbbfckdcfbacpaa", sum := "a40d491258590ea61b1db37d653ca38f984cb76940c6afc007145e62370aa207", func := "drawbridge/drawbridgelaw07.AesStreams", spec := "aesStreams", apart := false }
def AesStreamsSaid : Prop := aesStreamsRow.holds Try.pinned (OpenSpec.ofChange aesStreamsSpec)

/-- ITS FALSE NEIGHBOUR: 'it returns false'. Refute it at one input. -/
def aesStreamsWrong : ChangeSpec := { name := "aesStreams", fn := fun _ => fun
  | [d1, d2, d3] => { results := [.lit (.bool false)], args := [d1, d2, d3] }
  | _ => none }
def AesStreamsWrongFalsely : Prop := aesStreamsRow.holds Try.pinned (OpenSpec.ofChange aesStreamsWrong)

/-- 'drawbridgelaw07.AesCounts': WHATEVER THE INPUT: true; the input reads as it did. -/
def aesCountsSpec : ChangeSpec := { name := "aesCounts", fn := fun _ => fun
  | [d1, d2, d3, d4] => { results := [.lit (.bool true)], args := [d1, d2, d3, d4] }
  | _ => none }
def aesCountsRow : OpenClaim := { program := "ytbbfckdcfbacpaa", sum := "a40d491258590ea61b1db37d653ca38f984cb76940c6afc007145e62370aa207", func := "drawbridge/drawbridgelaw07.AesCounts", spec := "aesCounts", apart := false }
def AesCountsSaid : Prop := aesCountsRow.holds Try.pinned (OpenSpec.ofChange aesCountsSpec)

/-- ITS FALSE NEIGHBOUR: 'it returns false'. Refute it at one input. -/
def aesCountsWrong : ChangeSpec := { name := "aesCounts", fn := fun _ => fun
  | [d1, d2, d3, d4] => { results := [.lit (.bool false)], args := [d1, d2, d3, d4] }
  | _ => none }
def AesCountsWrongFalsely : Prop := aesCountsRow.holds Try.pinned (OpenSpec.ofChange aesCountsWrong)

/-- 'drawbridgelaw08.GcmShares': WHATEVER THE INPUT: true; the input reads as it did. -/
def gcmSharesSpec : ChangeSpec := { name := "gcmShares", fn := fun _ => fun
  | [d1, d2, d3, d4] => { results := [.lit (.bool true)], args := [d1, d2, d3, d4] }
  | _ => none }
def gcmSharesRow : OpenClaim := { program := "ytbbfckdcfbacpaa", sum := "a40d491258590ea61b1db37d653ca38f984cb76940c6afc007145e62370aa207", func := "drawbridge/drawbridgelaw08.GcmShares", spec := "gcmShares", unfollowed := true, recurses := true, apart := false }
def GcmSharesSaid : Prop := gcmSharesRow.holds Try.pinned (OpenSpec.ofChange gcmSharesSpec)

/-- ITS FALSE NEIGHBOUR: 'it returns false'. Refute it at one input. -/
def gcmSharesWrong : ChangeSpec := { name := "gcmShares", fn := fun _ => fun
  | [d1, d2, d3, d4] => { results := [.lit (.bool false)], args := [d1, d2, d3, d4] }
  | _ => none }
def GcmSharesWrongFalsely : Prop := gcmSharesRow.holds Try.pinned (OpenSpec.ofChange gcmSharesWrong)

/-- 'drawbridgelaw08.GcmReckons': WHATEVER THE INPUT: true; the input reads as it did. -/
def gcmReckonsSpec : ChangeSpec := { name := "gcmReckons", fn := fun _ => fun
  | [d1, d2, d3, d4] => { results := [.lit (.bool true)], args := [d1, d2, d3, d4] }
  | _ => none }
def gcmReckonsRow : OpenClaim := { program := "ytbbfckdcfbacpaa", sum := "a40d491258590ea61b1db37d653ca38f984cb76940c6afc007145e62370aa207", func := "drawbridge/drawbridgelaw08.GcmReckons", spec := "gcmReckons", unfollowed := true, recurses := true, apart := false }
def GcmReckonsSaid : Prop := gcmReckonsRow.holds Try.pinned (OpenSpec.ofChange gcmReckonsSpec)

/-- ITS FALSE NEIGHBOUR: 'it returns false'. Refute it at one input. -/
def gcmReckonsWrong : ChangeSpec := { name := "gcmReckons", fn := fun _ => fun
  | [d1, d2, d3, d4] => { results := [.lit (.bool false)], args := [d1, d2, d3, d4] }
  | _ => none }
def GcmReckonsWrongFalsely : Prop := gcmReckonsRow.holds Try.pinned (OpenSpec.ofChange gcmReckonsWrong)

/-- 'drawbridgelaw08.GcmField': WHATEVER THE INPUT: true; the input reads as it did. -/
def gcmFieldSpec : ChangeSpec := { name := "gcmField", fn := fun _ => fun
  | [d1, d2, d3] => { results := [.lit (.bool true)], args := [d1, d2, d3] }
  | _ => none }
def gcmFieldRow : OpenClaim := { program := "ytbbfckdcfbacpaa", sum := "a40d491258590ea61b1db37d653ca38f984cb76940c6afc007145e62370aa207", func := "drawbridge/drawbridgelaw08.GcmField", spec := "gcmField", unfollowed := true, recurses := true, apart := false }
def GcmFieldSaid : Prop := gcmFieldRow.holds Try.pinned (OpenSpec.ofChange gcmFieldSpec)

/-- ITS FALSE NEIGHBOUR: 'it returns false'. Refute it at one input. -/
def gcmFieldWrong : ChangeSpec := { name := "gcmField", fn := fun _ => fun
  | [d1, d2, d3] => { results := [.lit (.bool false)], args := [d1, d2, d3] }
  | _ => none }
def GcmFieldWrongFalsely : Prop := gcmFieldRow.holds Try.pinned (OpenSpec.ofChange gcmFieldWrong)

/-- 'drawbridgelaw08.GcmSeals': WHATEVER THE INPUT: true; the input reads as it did. -/
def gcmSealsSpec : ChangeSpec := { name := "gcmSeals", fn := fun _ => fun
  | [d1, d2, d3, d4] => { results := [.lit (.bool true)], args := [d1, d2, d3, d4] }
  | _ => none }
def gcmSealsRow : OpenClaim := { program := "ytbbfckdcfbacpaa", sum := "a40d491258590ea61b1db37d653ca38f984cb76940c6afc007145e62370aa207", func := "drawbridge/drawbridgelaw08.GcmSeals", spec := "gcmSeals", unfollowed := true, recurses := true, apart := false }
def GcmSealsSaid : Prop := gcmSealsRow.holds Try.pinned (OpenSpec.ofChange gcmSealsSpec)

/-- ITS FALSE NEIGHBOUR: 'it returns false'. Refute it at one input. -/
def gcmSealsWrong : ChangeSpec := { name := "gcmSeals", fn := fun _ => fun
  | [d1, d2, d3, d4] => { results := [.lit (.bool false)], args := [d1, d2, d3, d4] }
  | _ => none }
def GcmSealsWrongFalsely : Prop := gcmSealsRow.holds Try.pinned (OpenSpec.ofChange gcmSealsWrong)

/-- 'drawbridgelaw08.GcmOpens': WHATEVER THE INPUT: true; the input reads as it did. -/
def gcmOpensSpec : ChangeSpec := { name := "gcmOpens", fn := fun _ => fun
  | [d1, d2, d3, d4, d5, d6] => { results := [.lit (.bool true)], args := [d1, d2, d3, d4, d5, d6] }
  | _ => none }
def gcmOpensRow : OpenClaim := { program := "ytbbfckdcfbacpaa", sum := "a40d491258590ea61b1db37d653ca38f984cb76940c6afc007145e62370aa207", func := "drawbridge/drawbridgelaw08.GcmOpens", spec := "gcmOpens", unfollowed := true, recurses := true, apart := false }
def GcmOpensSaid : Prop := gcmOpensRow.holds Try.pinned (OpenSpec.ofChange gcmOpensSpec)

/-- ITS FALSE NEIGHBOUR: 'it returns false'. Refute it at one input. -/
def gcmOpensWrong : ChangeSpec := { name := "gcmOpens", fn := fun _ => fun
  | [d1, d2, d3, d4, d5, d6] => { results := [.lit (.bool false)], args := [d1, d2, d3, d4, d5, d6] }
  | _ => none }
def GcmOpensWrongFalsely : Prop := gcmOpensRow.holds Try.pinned (OpenSpec.ofChange gcmOpensWrong)

/- THE SECOND FORM. 'bulk': how many values and letters a reading holds, each counted each time it is reached (what is shared counts as often as it is met; a slice's spare places count too). A statement '..UptoSaid' is the law's where the arguments, and the package variables that the reading takes, are together of bulk at most 1048576: NARROWER than '..Said'. Prove '..Said' where nothing that the law and all that it calls make is longer than what came in: it says more and counts as full. Else prove '..UptoSaid'. A law counts once. -/
mutual
def uptoBulk {H : Type} : DataW H → Nat
  | .lit (.string bytes) => bytes.length + 1
  | .lit _ => 1
  | .nil => 1
  | .ptr d => uptoBulk d + 1
  | .slice elems spare => uptoBulkAll elems + uptoBulkAll spare + 1
  | .agg parts => uptoBulkAll parts + 1
  | .iface _ d => uptoBulk d + 1
  | .map entries => uptoBulkEntries entries + 1
  | .held _ => 1
def uptoBulkAll {H : Type} : List (DataW H) → Nat
  | [] => 0
  | d :: r => uptoBulk d + uptoBulkAll r
def uptoBulkEntries {H : Type} : List (Lit × DataW H) → Nat
  | [] => 0
  | x :: r => uptoBulkEntry x + uptoBulkEntries r
def uptoBulkEntry {H : Type} : Lit × DataW H → Nat
  | (.string bytes, d) => bytes.length + uptoBulk d + 1
  | (_, d) => uptoBulk d + 1
 end
def uptoSmall : (H : Type) → List (DataW H) → Bool := fun _ ds => decide (uptoBulkAll ds ≤ 1048576)
def OpenSpec.upto (s : _root_.Go.ChangeSpec) : _root_.Go.OpenSpec := { _root_.Go.OpenSpec.ofChange s with cond := some uptoSmall }

/-- 'drawbridgelaw07.AesBlocks', WHERE WHAT IT READS IS OF BULK AT MOST 1048576: true; the input reads as it did. -/
def aesBlocksUptoRow : OpenClaim := { program := "ytbbfckdcfbacpaa", sum := "a40d491258590ea61b1db37d653ca38f984cb76940c6afc007145e62370aa207", func := "drawbridge/drawbridgelaw07.AesBlocks", spec := "aesBlocks", apart := false, narrowed := true }
def AesBlocksUptoSaid : Prop := aesBlocksUptoRow.holds Try.pinned (OpenSpec.upto aesBlocksSpec)

/-- 'drawbridgelaw07.AesApart', WHERE WHAT IT READS IS OF BULK AT MOST 1048576: true; the input reads as it did. -/
def aesApartUptoRow : OpenClaim := { program := "ytbbfckdcfbacpaa", sum := "a40d491258590ea61b1db37d653ca38f984cb76940c6afc007145e62370aa207", func := "drawbridge/drawbridgelaw07.AesApart", spec := "aesApart", apart := false, narrowed := true }
def AesApartUptoSaid : Prop := aesApartUptoRow.holds Try.pinned (OpenSpec.upto aesApartSpec)

/-- 'drawbridgelaw07.AesStreams', WHERE WHAT IT READS IS OF BULK AT MOST 1048576: true; the input reads as it did. -/
def aesStreamsUptoRow : OpenClaim := { program := "ytbbfckdcfbacpaa", sum := "a40d491258590ea61b1db37d653ca38f984cb76940c6afc007145e62370aa207", func := "drawbridge/drawbridgelaw07.AesStreams", spec := "aesStreams", apart := false, narrowed := true }
def AesStreamsUptoSaid : Prop := aesStreamsUptoRow.holds Try.pinned (OpenSpec.upto aesStreamsSpec)

/-- 'drawbridgelaw07.AesCounts', WHERE WHAT IT READS IS OF BULK AT MOST 1048576: true; the input reads as it did. -/
def aesCountsUptoRow : OpenClaim := { program := "ytbbfckdcfbacpaa", sum := "a40d491258590ea61b1db37d653ca38f984cb76940c6afc007145e62370aa207", func := "drawbridge/drawbridgelaw07.AesCounts", spec := "aesCounts", apart := false, narrowed := true }
def AesCountsUptoSaid : Prop := aesCountsUptoRow.holds Try.pinned (OpenSpec.upto aesCountsSpec)

/-- 'drawbridgelaw08.GcmShares', WHERE WHAT IT READS IS OF BULK AT MOST 1048576: true; the input reads as it did. -/
def gcmSharesUptoRow : OpenClaim := { program := "ytbbfckdcfbacpaa", sum := "a40d491258590ea61b1db37d653ca38f984cb76940c6afc007145e62370aa207", func := "drawbridge/drawbridgelaw08.GcmShares", spec := "gcmShares", unfollowed := true, recurses := true, apart := false, narrowed := true }
def GcmSharesUptoSaid : Prop := gcmSharesUptoRow.holds Try.pinned (OpenSpec.upto gcmSharesSpec)

/-- 'drawbridgelaw08.GcmReckons', WHERE WHAT IT READS IS OF BULK AT MOST 1048576: true; the input reads as it did. -/
def gcmReckonsUptoRow : OpenClaim := { program := "ytbbfckdcfbacpaa", sum := "a40d491258590ea61b1db37d653ca38f984cb76940c6afc007145e62370aa207", func := "drawbridge/drawbridgelaw08.GcmReckons", spec := "gcmReckons", unfollowed := true, recurses := true, apart := false, narrowed := true }
def GcmReckonsUptoSaid : Prop := gcmReckonsUptoRow.holds Try.pinned (OpenSpec.upto gcmReckonsSpec)

/-- 'drawbridgelaw08.GcmField', WHERE WHAT IT READS IS OF BULK AT MOST 1048576: true; the input reads as it did. -/
def gcmFieldUptoRow : OpenClaim := { program := "ytbbfckdcfbacpaa", sum := "a40d491258590ea61b1db37d653ca38f984cb76940c6afc007145e62370aa207", func := "drawbridge/drawbridgelaw08.GcmField", spec := "gcmField", unfollowed := true, recurses := true, apart := false, narrowed := true }
def GcmFieldUptoSaid : Prop := gcmFieldUptoRow.holds Try.pinned (OpenSpec.upto gcmFieldSpec)

/-- 'drawbridgelaw08.GcmSeals', WHERE WHAT IT READS IS OF BULK AT MOST 1048576: true; the input reads as it did. -/
def gcmSealsUptoRow : OpenClaim := { program := "ytbbfckdcfbacpaa", sum := "a40d491258590ea61b1db37d653ca38f984cb76940c6afc007145e62370aa207", func := "drawbridge/drawbridgelaw08.GcmSeals", spec := "gcmSeals", unfollowed := true, recurses := true, apart := false, narrowed := true }
def GcmSealsUptoSaid : Prop := gcmSealsUptoRow.holds Try.pinned (OpenSpec.upto gcmSealsSpec)

/-- 'drawbridgelaw08.GcmOpens', WHERE WHAT IT READS IS OF BULK AT MOST 1048576: true; the input reads as it did. -/
def gcmOpensUptoRow : OpenClaim := { program := "ytbbfckdcfbacpaa", sum := "a40d491258590ea61b1db37d653ca38f984cb76940c6afc007145e62370aa207", func := "drawbridge/drawbridgelaw08.GcmOpens", spec := "gcmOpens", unfollowed := true, recurses := true, apart := false, narrowed := true }
def GcmOpensUptoSaid : Prop := gcmOpensUptoRow.holds Try.pinned (OpenSpec.upto gcmOpensSpec)

end Rows
end Go.Proofs.Ytbbfckdcfbacpaa
