/-
  der's iterator: its items told one by one (where all are read).
-/
import Derived.RangeFuncNested
import Derived.RangeFuncBound
import Derived.RangeFuncCalls
import Derived.RangeFuncLeaves
import Derived.Shelf.Abstract
import Derived.WalkKit
import Derived.OwnWalkIn
import Derived.TacticsInMore
import Derived.LoopNIn
import Derived.LoopIn
import Derived.Test.YthkggeohdclffaaDoorDerC
set_option linter.unusedVariables false
set_option linter.unusedSimpArgs false
set_option maxRecDepth 100000
namespace Go.Proofs.YthkggeohdclffaaDoor
open Go.RowKit
attribute [local go_sem] Oper.semAt_some
namespace Der
/-- An item and the slice that is its body. -/
abbrev X := Item × Value
def X.cells (x : X) : Array Value := itemCells x.1.tag x.2 x.1.at_ x.1.len
/-- From a place on all items are read, to the end. -/
inductive Runs (b : List UInt8) : Nat → List Item → Prop
  | done (k : Nat) : b.length ≤ k → Runs b k []
  | more (k : Nat) (r : List Item) : k < b.length → (next b k).err = 0 → Runs b (k + (next b k).len) r → Runs b k (next b k :: r)
theorem next_len (b : List UInt8) (k : Nat) (h : (next b k).err = 0) : 1 ≤ (next b k).len ∧ k + (next b k).len ≤ b.length ∧ (next b k).at_ = k := by
  unfold next at h ⊢
  by_cases c1 : (k : Int) < 0 ∨ (b.length : Int) ≤ (k : Int)
  · rw [if_pos c1] at h; cases h
  rw [if_neg c1] at h ⊢
  by_cases c2 : nth b (k : Int).toNat &&& 31 = 31
  · rw [if_pos c2] at h; cases h
  rw [if_neg c2] at h ⊢
  by_cases c3 : (len (b.drop ((k : Int).toNat + 1))).2.2 ≠ 0
  · rw [if_pos c3] at h; exact absurd h c3
  rw [if_neg c3] at h ⊢
  by_cases c4 : b.length - ((k : Int).toNat + 1 + (len (b.drop ((k : Int).toNat + 1))).2.1) < (len (b.drop ((k : Int).toNat + 1))).1
  · rw [if_pos c4] at h; cases h
  rw [if_neg c4] at h ⊢
  have h5 := len_le (b.drop ((k : Int).toNat + 1)) (by simpa using c3)
  rw [List.length_drop] at h5
  have e : (k : Int).toNat = k := by omega
  rw [e] at h5 c4 ⊢
  exact ⟨by dsimp only; omega, by dsimp only; omega, rfl⟩
end Der
theorem ReadsB.same {W W' : World} {B n : Nat} {A : Option Addr} {l : List UInt8} (h : ReadsB W B A n l) (hs : ∀ j, j < B → W'.heap[j]? = W.heap[j]?) : ReadsB W' B A n l :=
  ⟨h.len, h.is.1, fun hn => by
    obtain ⟨ad, e, hb, hc⟩ := h.is.2 hn
    exact ⟨ad, e, hb, fun j u hu => by rw [← hc j u hu]; exact World.cell?_of_block (hs _ (by rw [block_of_add]; exact hb))⟩⟩
set_option maxHeartbeats 4000000 in
set_option maxRecDepth 100000 in
theorem each_runs (n l N Nb : Nat) (A : Option Addr) (m c : Nat) (b : List UInt8) (hmc : m ≤ c) (hm : m ≤ 140737488355000) (xs : List Der.Item) (hrun : Der.Runs b 0 xs) (J : List Der.X → World → Prop)
    (hY : ∀ (pre : List Der.X) (x : Der.X) (W0 W : World), J pre W0 → Below W0.heap.size W0 W → OwnB W W0.heap.size x.2 x.1.body → pre.length < xs.length → YieldAt Fence.wide (n - 1) Tryd.prog l #[.agg x.cells, .nilIface] W fun e W' =>
      e = .returned (.bool true) ∧ J (pre ++ [x]) W' ∧ W.heap.size ≤ W'.heap.size ∧ ∀ k, (k < N ∨ k = Nb ∨ W0.heap.size ≤ k) → k < W.heap.size → W'.heap[k]? = W.heap[k]?)
    (W : World) (hN : N ≤ Nb) (hb : Blk W Nb 22 #[.slice A m c]) (hr : ReadsB W N A m b) (h0 : J [] W) :
    CallsIn Fence.wide n Tryd.prog 38 #[.func (.yield l) #[] #[], .pointer (some ⟨Nb, 0, none⟩)] W fun e W' => (∃ v, e = .returned v) ∧ ∃ ys : List Der.X, ys.map (·.1) = xs ∧ J ys W' := by
  refine callsIn_of_wp Tryd.func38 rfl trivial ?_ rfl
  simp only [Tryd.func38, Tryd.ntmps38, List.size_toArray, List.length_cons, List.length_nil, Nat.reduceAdd, Nat.reduceSub, Array.replicate_succ, Array.replicate_zero, List.push_toArray, List.append_toArray, List.nil_append, List.cons_append]
  gi_wp2
  gi_loopw [3] (fun p wr => ∃ (k : Nat) (pre : List Der.X) (rest : List Der.Item), p = .int .i64 (k : Int) ∧ xs = pre.map (·.1) ++ rest ∧ Der.Runs b k rest ∧ Blk wr Nb 22 #[.slice A m c] ∧ ReadsB wr N A m b ∧ J pre wr)
    (fun p wr => m - (intOf p).toNat)
  case atStart => exact ⟨0, [], xs, rfl, rfl, hrun, hb, hr, h0⟩
  case round =>
    obtain ⟨k, pre, rest, rfl, hx, hrs, hbk, hrd, hJ⟩ := hrel
    have Hl := hd hrd.len
    have c0 : wr.cell? ⟨Nb, 0, none⟩ = some (.slice A m c) := hbk.cell 0
    cases hrs with
    | done _ hle =>
      have t1 : ¬ (k : Int) < (m : Int) := by have := Hl.out; omega
      gi_wp2
      go_end0
      exact ⟨⟨_, rfl⟩, pre, by simp [hx], hJ⟩
    | more _ r hlt he hr2 =>
      have t1 : (k : Int) < (m : Int) := by have := Hl.out; omega
      obtain ⟨hl1, hl2, hl3⟩ := Der.next_len b k he
      obtain ⟨x0, Hx0⟩ : ∃ x, Hd (Der.next b k = x) := ⟨_, ⟨rfl⟩⟩
      rw [Hx0.out] at he hl1 hl2 hl3 hr2 hx
      clear hl3
      have wk : IntKind.i64.wrap ((k : Int) + (x0.len : Int)) = ((k + x0.len : Nat) : Int) := by
        rw [show (k : Int) + (x0.len : Int) = ((k + x0.len : Nat) : Int) by omega]; exact IntWalk.i64_in _ (by have := Hl.out; omega)
      have hlen : pre.length < xs.length := by rw [hx]; simp
      have hNw : N ≤ wr.heap.size := by have := hbk.lt; omega
      gi_wp2_with (first
        | (refine ⟨trivial, fun h => absurd h (by decide), ?_⟩; refine (callsIn_wide.2 (next_any A m c b (k : Int) wr ⟨hrd.len, hrd.is.more hNw⟩ hmc hm)).mono ?_; rw [Hx0.out]; rintro e w1 ⟨A1, c1, rfl, own1, hB1⟩; rw [he]; unfold itemCells
           obtain ⟨fn, tmps, assign, body, hy, hR⟩ := hY pre (x0, .slice A1 x0.body.length c1) wr (w1.alloc (.cells (itemCells x0.tag (.slice A1 x0.body.length c1) x0.at_ x0.len) 25)) hJ (hB1.alloc hB1.size _) (own1.alloc _) hlen
           simp only [Der.X.cells, itemCells] at hy hR))
      refine ⟨fun h => absurd h (by decide), hR.mono ?_⟩
      rintro e W3 ⟨rfl, hJ3, hs3, hk3⟩
      have hBa := hB1.alloc hB1.size (.cells #[.int .u8 ((n8 x0.tag : Nat) : Int), .slice A1 x0.body.length c1, .int .i64 x0.at_, .int .i64 (x0.len : Int)] 25)
      have hbka := hbk.below hBa hbk.lt
      have hbk3 : Blk W3 Nb 22 #[.slice A m c] := ⟨(hk3 Nb (.inr (.inl rfl)) hbka.lt).trans hbka.is⟩
      have hrd3 : ReadsB W3 N A m b := ReadsB.same ⟨hrd.len, hrd.is.below (hBa.mono hNw)⟩ (fun j hj => hk3 j (.inl hj) (by have := hBa.size; omega))
      have hit : Blk (w1.alloc (.cells #[.int .u8 ((n8 x0.tag : Nat) : Int), .slice A1 x0.body.length c1, .int .i64 x0.at_, .int .i64 (x0.len : Int)] 25)) w1.heap.size 25 #[.int .u8 ((n8 x0.tag : Nat) : Int), .slice A1 x0.body.length c1, .int .i64 x0.at_, .int .i64 (x0.len : Int)] := Blk.nu rfl
      have hit3 : Blk W3 w1.heap.size 25 #[.int .u8 ((n8 x0.tag : Nat) : Int), .slice A1 x0.body.length c1, .int .i64 x0.at_, .int .i64 (x0.len : Int)] := ⟨(hk3 _ (.inr (.inr hB1.size)) hit.lt).trans hit.is⟩
      have c3 : W3.cell? ⟨w1.heap.size, 3, none⟩ = some (.int .i64 (x0.len : Int)) := hit3.cell 3
      clear hY hR hy hit hit3 hbka hBa hbk hrd hJ own1 hB1
      gi_wp2
      go_roundw
      case rel => exact ⟨k + x0.len, pre ++ [(x0, .slice A1 x0.body.length c1)], r, by rfl, by rw [hx]; simp, hr2, hbk3, hrd3, hJ3⟩
      case measure => simp [intOf]; omega
end Go.Proofs.YthkggeohdclffaaDoor
