/-
  The two tables, out of what a row says of them.
-/
import Derived.Test.YthigbggacgiamaaDoorCards
import Derived.Test.YthigbggacgiamaaDoorTie
import Derived.Test.YthigbggacgiamaaDoorJg
import Derived.Deep.DeepHandedRow
import Derived.Lib.LaidTab
set_option linter.unusedVariables false
set_option linter.unusedSimpArgs false
set_option maxRecDepth 100000
namespace Go.Proofs.YthigbggacgiamaaDoor
open Go.RowKit
def K32i : List Int := Sha32.K.map fun x => ((n32 x : Nat) : Int)
def K64i : List Int := Sha64.K.map fun x => ((n64 x : Nat) : Int)
theorem laid32_is : (Rows.laid_drawbridge_sha_k32 : DataW Unit) = Lib.tabData .u32 K32i := by kernel_rfl
theorem laid64_is : (Rows.laid_drawbridge_sha_k64 : DataW Unit) = Lib.tabData .u64 K64i := by kernel_rfl
theorem gK32 : Tryd.prog.globalNamed "drawbridge/sha.k32" = some 0 := by kernel_rfl
theorem gK64 : Tryd.prog.globalNamed "drawbridge/sha.k64" = some 1 := by kernel_rfl
theorem gK32t : (Tryd.prog.globals[0]?).map (·.type) = some 111 := by kernel_rfl
theorem gK64t : (Tryd.prog.globals[1]?).map (·.type) = some 119 := by kernel_rfl
theorem gRow32 : ((begin Tryd.prog (fun _ _ => 0) default).world.heap[0]?).bind Obj.row? = some (arr32 (List.replicate 64 0), 111) := by kernel_rfl
theorem gRow64 : ((begin Tryd.prog (fun _ _ => 0) default).world.heap[1]?).bind Obj.row? = some (arr64 (List.replicate 80 0), 119) := by kernel_rfl
theorem tabIs_second {P : Program} {W : World} {name n0 : String} {k : IntKind} {zs : List Int} {d0 : DataW Unit} {rest : List (String × DataW Unit)} {g : Nat} {t e : TypeId} {n : Nat}
    (hg : P.globalNamed name = some g) (hty : (P.globals[g]?).map (·.type) = some t) (ht : P.underlying t = some (.array n e)) (he : P.underlying e = some (.int k)) (hce : P.cellsOf e = 1) (hct : P.cellsOf t = n)
    (h : laidMet P ((n0, d0) :: (name, Lib.tabData k zs) :: rest) W) : Lib.TabIs P W name k zs := by
  obtain ⟨ps, ⟨_, _, _, _, _, _, _, _, _, _, ⟨g', t', cs, fuel, p, q, hg', ht', hvar, hd, _, _⟩, _⟩, _⟩ := h
  obtain rfl := Option.some.inj (hg.symm.trans hg')
  obtain rfl := Option.some.inj (hty.symm.trans ht')
  unfold Lib.TabIs
  rw [hvar, ← Lib.cells_of_tab ht he hce hct hd]
theorem blk_of_tab {W : World} {name : String} {k : IntKind} {zs : List Int} {g : Nat} {t : TypeId} {zero : Array Value} (hg : Tryd.prog.globalNamed name = some g) (hlt : g < Tryd.prog.globals.size) (hrow : ((begin Tryd.prog (fun _ _ => 0) default).world.heap[g]?).bind Obj.row? = some (zero, t))
    (h : Lib.TabIs Tryd.prog W name k zs) (hS : W.ShapedOpen Tryd.prog) : Blk W g t (zs.map fun z => Value.int k z).toArray := by
  obtain ⟨cs, hcs, _, _⟩ := hS.1 g zero t hlt hrow
  have hv : W.var? Tryd.prog name = some cs := by
    unfold World.var?
    rw [hg]
    show (match W.heap[g]? with | some (.cells cs _ _) => some cs | _ => Option.none) = _
    rw [hcs]
  have e : some cs = some (zs.map fun z => Value.int k z).toArray := hv.symm.trans h
  injection e with e
  exact ⟨by rw [hcs, e]⟩
theorem tabs_of_laid {W : World} (hL : laidMetH Tryd.prog [("drawbridge/sha.k32", Rows.laid_drawbridge_sha_k32), ("drawbridge/sha.k64", Rows.laid_drawbridge_sha_k64)] W) (hS : W.ShapedOpen Tryd.prog) : Tabs W := by
  have hL' : laidMet Tryd.prog [("drawbridge/sha.k32", Lib.tabData .u32 K32i), ("drawbridge/sha.k64", Lib.tabData .u64 K64i)] W := by
    rw [← laid32_is, ← laid64_is]; exact hL
  have t1 := Lib.tabIs_of_head (rest := _) gK32 gK32t Tryd.underlying111 Tryd.underlying32 (by kernel_rfl) (by kernel_rfl) hL'
  have t2 := tabIs_second gK64 gK64t Tryd.underlying119 Tryd.underlying31 (by kernel_rfl) (by kernel_rfl) hL'
  have b1 := blk_of_tab gK32 (of_decide_eq_true (by kernel_rfl)) gRow32 t1 hS
  have b2 := blk_of_tab gK64 (of_decide_eq_true (by kernel_rfl)) gRow64 t2 hS
  have e1 : (K32i.map fun z => Value.int .u32 z).toArray = arr32 Sha32.K := by unfold K32i arr32; rw [List.map_map]; rfl
  have e2 : (K64i.map fun z => Value.int .u64 z).toArray = arr64 Sha64.K := by unfold K64i arr64; rw [List.map_map]; rfl
  rw [e1] at b1
  rw [e2] at b2
  exact ⟨b1, b2⟩
end Go.Proofs.YthigbggacgiamaaDoor
