/-
  Slices of bytes turned into strings; strings held against one another.
-/
import Derived.Test.YtncaplplkfihgaaGreatDoorApp
import Derived.Laws.BytesString
import Derived.Laws.BytesArg
import Derived.Laws.Concat
set_option linter.unusedVariables false
set_option linter.unusedSimpArgs false
set_option maxRecDepth 100000
namespace Go.Proofs.YtncaplplkfihgaaGreatDoor
open Go.RowKit
def str (l : List UInt8) : ByteArray := ⟨l.toArray⟩
theorem str_size (l : List UInt8) : (str l).size = l.length := by simp [str, ByteArray.size]
theorem str_append (a b : List UInt8) : str a ++ str b = str (a ++ b) := by
  apply ByteArray.ext
  simp [str]
theorem str_inj (a b : List UInt8) : str a = str b ↔ a = b := by
  constructor
  · intro h
    have := congrArg (fun s => s.data.toList) h
    simpa [str] using this
  · rintro rfl; rfl
theorem str_nil : ByteArray.empty = str [] := rfl
section
variable {P : Program} {w : World}
theorem run_toString {src dst e : TypeId} (hs : P.underlying src = some (.slice e)) (he : P.underlying e = some (.int .u8)) (hd : P.underlying dst = some .string) (B : Nat) (A : Option Addr) (n c : Nat) (l : List UInt8) (hr : ReadsB w B A n l) :
    (convert src dst (.slice A n c)).run P w = .ok (.string (str l)) w := by
  rcases A with _ | a
  · have h0 : l = [] := by
      rcases l with _ | ⟨x, l⟩
      · rfl
      · obtain ⟨ad, h, _⟩ := hr.is.2 (by rw [← hr.len]; simp)
        cases h
    rw [run_convert_bytes_nil w src e hs he n c dst hd, h0, str_nil]
  · rw [run_convert_bytes_string w src dst e _ n c hs he hd]
    have hl : (loadCells a n).run P w = .ok ((l.map fun x => ((n8 x : Nat) : Int)).map (Value.int .u8)).toArray w := by
      have hm : (l.map fun x => ((n8 x : Nat) : Int)).map (Value.int .u8) = l.map U8 := by simp
      rw [hm]
      have hn : (l.map U8).length = n := by rw [List.length_map, hr.len]
      have := run_loadCells_list (P := P) w a (l.map U8) (fun j v hv => by
        have hj : j < n := by
          rcases Nat.lt_or_ge j n with hlt | hge
          · exact hlt
          · rw [List.getElem?_eq_none (by omega)] at hv; cases hv
        obtain ⟨ad, h, _, hc⟩ := hr.is.2 (by omega)
        injection h with h
        subst h
        exact hc j v hv)
      rw [hn] at this
      exact this
    rw [run_bytesToString w a n c _ hl, foldl_push_bytes]
    congr 2
    apply ByteArray.ext
    simp [str, n8, Function.comp_def]
theorem run_str_add (t : TypeId) (a b : List UInt8) (h : a.length + b.length ≤ 9223372036854775807) : (binOp .add t (.string (str a)) (.string (str b))).run P w = .ok (.string (str (a ++ b))) w := by
  have := run_string_add_sum (P := P) (w := w) (str a) (str b) (by rw [str_size, str_size]; exact h)
  rw [← str_append]
  exact this
theorem run_str_eql (t : TypeId) (a b : List UInt8) : (binOp .eql t (.string (str a)) (.string (str b))).run P w = .ok (.bool (decide (a = b))) w := by
  have e : ((str a).toList == (str b).toList) = decide (a = b) := by
    rw [str, str, ByteArray.toList_mk, ByteArray.toList_mk, Bool.eq_iff_iff, beq_iff_eq, decide_eq_true_eq]
  show (Op.stringOp .eql (str a) (str b)).run P w = _
  simp [Op.stringOp, e]
end
theorem OwnB.reads_any {w : World} {B : Nat} {A : Option Addr} {n c : Nat} {l : List UInt8} (h : OwnB w B (.slice A n c) l) : n = l.length ∧ ReadsB w w.heap.size A n l := by
  have hn : n = l.length := by
    rcases h.own.2 with ⟨e, h0⟩ | ⟨g, cap, cur, e, _⟩
    · injection e with _ e2 _; have : l.length = 0 := by simpa using h0
      omega
    · injection e
  subst hn
  exact ⟨rfl, rfl, Reads.of_own h.own⟩
theorem OwnB.slice {w : World} {B : Nat} {v : Value} {l : List UInt8} (h : OwnB w B v l) : ∃ A c, v = .slice A l.length c := by
  rcases h.own.2 with ⟨e, h0⟩ | ⟨g, cap, cur, e, _⟩
  · have : l.length = 0 := by simpa using h0
    exact ⟨none, 0, by rw [e, this]⟩
  · exact ⟨_, _, e⟩
end Go.Proofs.YtncaplplkfihgaaGreatDoor
