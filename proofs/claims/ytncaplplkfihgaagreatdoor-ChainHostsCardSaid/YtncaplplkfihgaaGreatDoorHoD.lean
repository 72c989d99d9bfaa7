/-
  What stands between dots, told one by one.
-/
import Derived.RangeFuncNested
import Derived.RangeFuncBound
import Derived.RangeFuncCalls
import Derived.RangeFuncLeaves
import Derived.Shelf.Abstract
import Derived.WalkKit
import Derived.OwnWalkIn
import Derived.TacticsInMore
import Derived.LoopNIn
import Derived.LoopIn
import Derived.Test.YtncaplplkfihgaaGreatDoorHoC
set_option linter.unusedVariables false
set_option linter.unusedSimpArgs false
set_option maxRecDepth 100000
namespace Go.Proofs.YtncaplplkfihgaaGreatDoor
open Go.RowKit
attribute [local go_sem] Oper.semAt_some
namespace Host
theorem index_none {l : List UInt8} {c : UInt8} (h : Lib.indexByte l c = -1) : ∀ x ∈ l, x ≠ c := by
  induction l with
  | nil => intro x hx; cases hx
  | cons b l ih =>
    have hge := Lib.indexByte_ge l c
    unfold Lib.indexByte at h
    by_cases hb : (b == c) = true
    · rw [if_pos hb] at h; cases h
    · rw [if_neg hb] at h
      by_cases h1 : (Lib.indexByte l c == -1) = true
      · intro x hx
        rcases List.mem_cons.1 hx with rfl | hx
        · exact fun e => hb (beq_iff_eq.2 e)
        · exact ih (beq_iff_eq.1 h1) x hx
      · rw [if_neg h1] at h; omega
theorem index_some {l : List UInt8} {c : UInt8} : ∀ {i : Nat}, Lib.indexByte l c = (i : Int) → i < l.length ∧ l = l.take i ++ c :: l.drop (i + 1) ∧ ∀ x ∈ l.take i, x ≠ c := by
  induction l with
  | nil => intro i h; have e : Lib.indexByte ([] : List UInt8) c = -1 := rfl; omega
  | cons b l ih =>
    intro i h
    have hge := Lib.indexByte_ge l c
    unfold Lib.indexByte at h
    by_cases hb : (b == c) = true
    · rw [if_pos hb] at h
      obtain rfl : i = 0 := by omega
      rw [beq_iff_eq.1 hb]
      exact ⟨by simp, by simp, by simp⟩
    · rw [if_neg hb] at h
      by_cases h1 : (Lib.indexByte l c == -1) = true
      · rw [if_pos h1] at h; omega
      · rw [if_neg h1] at h
        obtain ⟨j, rfl⟩ : ∃ j, i = j + 1 := ⟨i - 1, by
          have h5 : Lib.indexByte l c ≠ -1 := fun e => h1 (beq_iff_eq.2 e)
          omega⟩
        obtain ⟨h2, h3, h4⟩ := ih (i := j) (by omega)
        refine ⟨by simp; omega, ?_, ?_⟩
        · rw [List.take_succ_cons, List.drop_succ_cons, List.cons_append, ← h3]
        · rw [List.take_succ_cons]
          intro x hx
          rcases List.mem_cons.1 hx with rfl | hx
          · exact fun e => hb (beq_iff_eq.2 e)
          · exact h4 x hx
theorem index_cases (l : List UInt8) (c : UInt8) : Lib.indexByte l c = -1 ∨ ∃ i : Nat, Lib.indexByte l c = (i : Int) := by
  have := Lib.indexByte_ge l c
  by_cases h : Lib.indexByte l c = -1
  · exact .inl h
  · exact .inr ⟨(Lib.indexByte l c).toNat, by omega⟩
theorem parts_at {l : List UInt8} {i : Nat} (h : Lib.indexByte l 46 = (i : Int)) : parts l = l.take i :: parts (l.drop (i + 1)) := by
  obtain ⟨_, h2, h3⟩ := index_some h
  conv => lhs; rw [h2]
  rw [parts_dot, st_plain _ h3]
  rfl
end Host
def boxLen (w : World) (g : Nat) : Nat := match w.cell? ⟨g, 0, none⟩ with | some (.string s) => s.size | _ => 0
theorem boxLen_of {w : World} {g : Nat} {s : ByteArray} (h : w.cell? ⟨g, 0, none⟩ = some (.string s)) : boxLen w g = s.size := by unfold boxLen; rw [h]
set_option maxHeartbeats 4000000 in
set_option maxRecDepth 100000 in
theorem splits_runs (n l Ns Np Nv : Nat) (m : List UInt8) (hm : m.length ≤ 9223372036854775800) (hne : Ns ≠ Np ∧ Ns ≠ Nv) (J : Nat → World → Prop) (J2 : World → Prop)
    (hS : ∀ (j : Nat) (W : World) (v : Value), J j W → J j (W.setCell ⟨Ns, 0, none⟩ v))
    (hY : ∀ (j : Nat) (p : List UInt8) (W : World), J j W → (Host.parts m)[j]? = some p → p.length ≤ m.length → Host.okC p → YieldAt Fence.wide (n - 1) Tryz.prog l #[.string (str p)] W fun e W' =>
      e = .returned (.bool true) ∧ J (j + 1) W' ∧ ∀ k, (k = Ns ∨ k = Np ∨ k = Nv) → W'.heap[k]? = W.heap[k]?)
    (hE : ∀ (j : Nat) (p : List UInt8) (W : World), J j W → (Host.parts m)[j]? = some p → p.length ≤ m.length → ¬ Host.okC p → YieldAt Fence.wide (n - 1) Tryz.prog l #[.string (str p)] W fun e W' => e = .returned (.bool false) ∧ J2 W')
    (W : World) (hs : Blk W Ns 9 #[.string (str m)]) (hp : Blk W Np 9 #[.string (str [46])]) (hv : Blk W Nv 3 #[.int .i64 0]) (h0 : J 0 W) :
    CallsIn Fence.wide n Tryz.prog 91 #[.func (.yield l) #[] #[], .pointer (some ⟨Np, 0, none⟩), .pointer (some ⟨Ns, 0, none⟩), .pointer (some ⟨Nv, 0, none⟩)] W fun e W' => (∃ v, e = .returned v) ∧ (((∀ p ∈ Host.parts m, Host.okC p) ∧ J (Host.parts m).length W') ∨ ((∃ p ∈ Host.parts m, ¬ Host.okC p) ∧ J2 W')) := by
  refine callsIn_of_wp Tryz.func91 rfl trivial ?_ rfl
  have p0 : W.cell? ⟨Np, 0, none⟩ = some (.string (str [46])) := hp.cell 0
  have s0 : W.cell? ⟨Ns, 0, none⟩ = some (.string (str m)) := hs.cell 0
  simp only [Tryz.func91, Tryz.ntmps91, List.size_toArray, List.length_cons, List.length_nil, Nat.reduceAdd, Nat.reduceSub, Array.replicate_succ, Array.replicate_zero, List.push_toArray, List.append_toArray, List.nil_append, List.cons_append]
  gi_wp2
  gi_loopw [7] (fun p wr => ∃ (pre : List (List UInt8)) (rest : List UInt8), Host.parts m = pre ++ Host.parts rest ∧ rest.length ≤ m.length ∧ (∀ p ∈ pre, Host.okC p) ∧ Blk wr Ns 9 #[.string (str rest)] ∧ Blk wr Np 9 #[.string (str [46])] ∧ Blk wr Nv 3 #[.int .i64 0] ∧ J pre.length wr)
    (fun p wr => boxLen wr Ns)
  case atStart => exact ⟨[], m, by simp, Nat.le_refl _, by simp, hs, hp, hv, h0⟩
  case round =>
    obtain ⟨pre, rest, hx, hle, hok, hbs, hbp, hbv, hJ⟩ := hrel
    have c1 : wr.cell? ⟨Np, 0, none⟩ = some (.string (str [46])) := hbp.cell 0
    have c2 : wr.cell? ⟨Ns, 0, none⟩ = some (.string (str rest)) := hbs.cell 0
    have c3 : wr.cell? ⟨Nv, 0, none⟩ = some (.int .i64 0) := hbv.cell 0
    have Hx := hd hx
    have hy1 : pre.length < (Host.parts m).length := by have := Host.parts_pos rest; rw [hx, List.length_append]; omega
    rcases Host.index_cases rest 46 with hi | ⟨i, hi⟩
    · have hl : Host.parts m = pre ++ [rest] := by rw [hx, Host.parts_plain _ (Host.index_none hi)]
      have hj : (Host.parts m)[pre.length]? = some rest := by rw [hl]; simp
      have Hl := hd hl
      clear hx hl hy1
      by_cases hk : Host.okC rest
      · obtain ⟨fn, tmps, assign, body, hy, hR⟩ := hY pre.length rest wr hJ hj hle hk
        clear hY hE hS hj hle
        gi_wp2_with (first
          | (refine ⟨trivial, fun h => absurd h (by decide), ?_⟩; refine (callsIn_wide.2 (Tryz.strings_Index_one (str rest) 46 wr)).mono ?_; rintro e w1 ⟨rfl, rfl⟩; rw [show Lib.indexByte (str rest).data.toList 46 = Lib.indexByte rest 46 from rfl, hi]))
        refine ⟨fun h => absurd h (by decide), hR.mono ?_⟩
        rintro e W3 ⟨rfl, hJ3, hk3⟩
        clear hR hy
        gi_wp2
        go_end0
        refine ⟨⟨_, rfl⟩, .inl ⟨?_, ?_⟩⟩
        · rw [Hl.out]
          intro p hp
          rcases List.mem_append.1 hp with h | h
          · exact hok p h
          · rw [List.mem_singleton.1 h]; exact hk
        · rw [Hl.out, List.length_append]; exact hJ3
      · obtain ⟨fn, tmps, assign, body, hy, hR⟩ := hE pre.length rest wr hJ hj hle hk
        clear hY hE hS hj hle
        gi_wp2_with (first
          | (refine ⟨trivial, fun h => absurd h (by decide), ?_⟩; refine (callsIn_wide.2 (Tryz.strings_Index_one (str rest) 46 wr)).mono ?_; rintro e w1 ⟨rfl, rfl⟩; rw [show Lib.indexByte (str rest).data.toList 46 = Lib.indexByte rest 46 from rfl, hi]))
        refine ⟨fun h => absurd h (by decide), hR.mono ?_⟩
        rintro e W3 ⟨rfl, hJ3⟩
        clear hR hy
        gi_wp2
        go_end0
        exact ⟨⟨_, rfl⟩, .inr ⟨⟨rest, by rw [Hl.out]; simp, hk⟩, hJ3⟩⟩
    · have hp2 := Host.parts_at hi
      obtain ⟨q1, q2, q3⟩ := Host.index_some hi
      have hj : (Host.parts m)[pre.length]? = some (rest.take i) := by rw [hx, hp2]; simp
      have hle2 : (rest.take i).length ≤ m.length := by rw [List.length_take]; omega
      have wk : wrap64 (i : Int) = (i : Int) := IntWalk.wrap64_in _ (by omega)
      have wk1 : wrap64 ((i : Int) + 1) = ((i + 1 : Nat) : Int) := by rw [show (i : Int) + 1 = ((i + 1 : Nat) : Int) by omega]; exact IntWalk.wrap64_in _ (by omega)
      have t0 : ¬ (i : Int) < 0 := by omega
      have t1 : (i : Int) ≤ (rest.length : Int) := by omega
      have t2 : i ≤ rest.length := by omega
      have t3 : i + 1 ≤ rest.length := by omega
      have x1 : (str rest).extract 0 i = str (rest.take i) := by rw [str_extract]; rfl
      have x2 : (str rest).extract (i + 1) rest.length = str (rest.drop (i + 1)) := by rw [str_extract, List.take_of_length_le (by simp)]
      clear q2 q3 hp
      have Hp2 := hd hp2
      clear hp2
      clear hx hy1
      by_cases hk : Host.okC (rest.take i)
      · obtain ⟨fn, tmps, assign, body, hy, hR⟩ := hY pre.length (rest.take i) wr hJ hj hle2 hk
        clear hY hE hj hle2
        gi_wp2_with (first
          | (refine ⟨trivial, fun h => absurd h (by decide), ?_⟩; refine (callsIn_wide.2 (Tryz.strings_Index_one (str rest) 46 wr)).mono ?_; rintro e w1 ⟨rfl, rfl⟩; rw [show Lib.indexByte (str rest).data.toList 46 = Lib.indexByte rest 46 from rfl, hi]))
        refine ⟨fun h => absurd h (by decide), hR.mono ?_⟩
        rintro e W3 ⟨rfl, hJ3, hk3⟩
        have hbs3 : Blk W3 Ns 9 #[.string (str rest)] := ⟨(hk3 Ns (.inl rfl)).trans hbs.is⟩
        have hbp3 : Blk W3 Np 9 #[.string (str [46])] := ⟨(hk3 Np (.inr (.inl rfl))).trans hbp.is⟩
        have hbv3 : Blk W3 Nv 3 #[.int .i64 0] := ⟨(hk3 Nv (.inr (.inr rfl))).trans hbv.is⟩
        have d1 : W3.cell? ⟨Np, 0, none⟩ = some (.string (str [46])) := hbp3.cell 0
        have d2 : W3.cell? ⟨Ns, 0, none⟩ = some (.string (str rest)) := hbs3.cell 0
        have d3 : W3.frozen? ⟨Ns, 0, none⟩ = false := hbs3.frozen 0
        clear hR hy
        have y1 : wrap64 ((i : Int) + ((str [46]).size : Int)) = ((i + 1 : Nat) : Int) := wk1
        have y2 : ((i + 1 : Nat) : Int) ≤ ((str rest).size : Int) := by rw [str_size]; omega
        have x3 : (str rest).extract (i + 1) (str rest).size = str (rest.drop (i + 1)) := by rw [str_size]; exact x2
        have hst := hbs3.set_ 0 (.string (str (rest.drop (i + 1))))
        have m1 : boxLen (W3.setCell ⟨Ns, 0, none⟩ (.string (str (rest.drop (i + 1))))) Ns = rest.length - (i + 1) := by
          rw [boxLen_of (hst.cell 0), str_size, List.length_drop]
        have m2 : boxLen w1 Ns = rest.length := by rw [boxLen_of c2, str_size]
        gi_wp2
        go_roundw
        case rel =>
          (repeat apply Exists.intro)
          refine ⟨?_, rfl⟩
          refine ⟨pre ++ [rest.take i], rest.drop (i + 1), by rw [Hx.out, Hp2.out]; simp, by rw [List.length_drop]; omega, ?_, hst, hbp3.far (Ne.symm hne.1) _, hbv3.far (Ne.symm hne.2) _, ?_⟩
          · intro p hp
            rcases List.mem_append.1 hp with h | h
            · exact hok p h
            · rw [List.mem_singleton.1 h]; exact hk
          · rw [List.length_append]; exact hS _ _ _ hJ3
        case measure => rw [m1, m2]; omega
      · obtain ⟨fn, tmps, assign, body, hy, hR⟩ := hE pre.length (rest.take i) wr hJ hj hle2 hk
        clear hY hE hj hle2
        gi_wp2_with (first
          | (refine ⟨trivial, fun h => absurd h (by decide), ?_⟩; refine (callsIn_wide.2 (Tryz.strings_Index_one (str rest) 46 wr)).mono ?_; rintro e w1 ⟨rfl, rfl⟩; rw [show Lib.indexByte (str rest).data.toList 46 = Lib.indexByte rest 46 from rfl, hi]))
        refine ⟨fun h => absurd h (by decide), hR.mono ?_⟩
        rintro e W3 ⟨rfl, hJ3⟩
        clear hR hy
        gi_wp2
        refine bodyPost_ret (results_none rfl _ _ _) rfl ?_
        exact ⟨⟨_, rfl⟩, .inr ⟨⟨rest.take i, by rw [Hx.out, Hp2.out]; simp, hk⟩, hJ3⟩⟩
end Go.Proofs.YtncaplplkfihgaaGreatDoor
