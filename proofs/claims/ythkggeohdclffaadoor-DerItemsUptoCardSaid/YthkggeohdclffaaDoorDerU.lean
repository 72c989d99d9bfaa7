/-
  der's iterator, where something is wrong.
-/
import Derived.Test.YthkggeohdclffaaDoorDerJ
set_option linter.unusedVariables false
set_option linter.unusedSimpArgs false
set_option maxRecDepth 100000
namespace Go.Proofs.YthkggeohdclffaaDoor
open Go.RowKit
attribute [local go_sem] Oper.semAt_some
namespace Der
/-- From a place on items are read, to the place j where something is wrong. -/
inductive Stops (b : List UInt8) : Nat → List Item → Nat → Prop
  | at_ (k : Nat) : k < b.length → (next b k).err ≠ 0 → Stops b k [] k
  | more (k : Nat) (r : List Item) (j : Nat) : k < b.length → (next b k).err = 0 → Stops b (k + (next b k).len) r j → Stops b k (next b k :: r) j
theorem reads (b : List UInt8) : ∀ (n k : Nat), b.length - k ≤ n → (∃ xs, Runs b k xs) ∨ ∃ xs j, Stops b k xs j
  | 0, k, h => .inl ⟨[], .done k (by omega)⟩
  | n + 1, k, h => by
    by_cases hk : k < b.length
    · by_cases he : (next b k).err = 0
      · have := next_len b k he
        rcases reads b n (k + (next b k).len) (by omega) with ⟨xs, h1⟩ | ⟨xs, j, h1⟩
        · exact .inl ⟨_, .more k xs hk he h1⟩
        · exact .inr ⟨_, j, .more k xs j hk he h1⟩
      · exact .inr ⟨[], k, .at_ k hk he⟩
    · exact .inl ⟨[], .done k (by omega)⟩
theorem Stops.err {b : List UInt8} {k j : Nat} {xs : List Item} (h : Stops b k xs j) : (next b j).err ≠ 0 ∧ j < b.length := by
  induction h with
  | at_ k h1 h2 => exact ⟨h2, h1⟩
  | more k r j _ _ _ ih => exact ih
theorem Stops.len {b : List UInt8} {k j : Nat} {xs : List Item} (h : Stops b k xs j) : xs.length ≤ b.length - k := by
  induction h with
  | at_ k _ _ => simp
  | more k r j hlt he _ ih =>
    have := next_len b k he
    rw [List.length_cons]
    omega
end Der
set_option maxHeartbeats 4000000 in
set_option maxRecDepth 100000 in
theorem each_stops (n l N Nb : Nat) (A : Option Addr) (m c : Nat) (b : List UInt8) (hmc : m ≤ c) (hm : m ≤ 140737488355000) (xs : List Der.Item) (j : Nat) (hrun : Der.Stops b 0 xs j) (J J2 : List Der.X → World → Prop)
    (hY : ∀ (pre : List Der.X) (x : Der.X) (W0 W : World), J pre W0 → Below W0.heap.size W0 W → OwnB W W0.heap.size x.2 x.1.body → pre.length < xs.length → YieldAt Fence.wide (n - 1) Tryd.prog l #[.agg x.cells, .nilIface] W fun e W' =>
      e = .returned (.bool true) ∧ J (pre ++ [x]) W' ∧ W.heap.size ≤ W'.heap.size ∧ ∀ k, (k < N ∨ k = Nb ∨ W0.heap.size ≤ k) → k < W.heap.size → W'.heap[k]? = W.heap[k]?)
    (hE : ∀ (pre : List Der.X) (x : Der.X) (W0 W : World), J pre W0 → Below W0.heap.size W0 W → OwnB W W0.heap.size x.2 x.1.body → YieldAt Fence.wide (n - 1) Tryd.prog l #[.agg x.cells, .iface 55 (.agg #[.int .i64 (j : Int), .int .i64 (Der.next b j).err])] W fun e W' =>
      (∃ v, e = .returned v) ∧ J2 pre W')
    (W : World) (hN : N ≤ Nb) (hb : Blk W Nb 22 #[.slice A m c]) (hr : ReadsB W N A m b) (h0 : J [] W) :
    CallsIn Fence.wide n Tryd.prog 38 #[.func (.yield l) #[] #[], .pointer (some ⟨Nb, 0, none⟩)] W fun e W' => (∃ v, e = .returned v) ∧ ∃ ys : List Der.X, ys.map (·.1) = xs ∧ J2 ys W' := by
  refine callsIn_of_wp Tryd.func38 rfl trivial ?_ rfl
  simp only [Tryd.func38, Tryd.ntmps38, List.size_toArray, List.length_cons, List.length_nil, Nat.reduceAdd, Nat.reduceSub, Array.replicate_succ, Array.replicate_zero, List.push_toArray, List.append_toArray, List.nil_append, List.cons_append]
  gi_wp2
  gi_loopw [3] (fun p wr => ∃ (k : Nat) (pre : List Der.X) (rest : List Der.Item), p = .int .i64 (k : Int) ∧ xs = pre.map (·.1) ++ rest ∧ Der.Stops b k rest j ∧ Blk wr Nb 22 #[.slice A m c] ∧ ReadsB wr N A m b ∧ J pre wr)
    (fun p wr => m - (intOf p).toNat)
  case atStart => exact ⟨0, [], xs, rfl, rfl, hrun, hb, hr, h0⟩
  case round =>
    obtain ⟨k, pre, rest, rfl, hx, hrs, hbk, hrd, hJ⟩ := hrel
    have Hl := hd hrd.len
    have c0 : wr.cell? ⟨Nb, 0, none⟩ = some (.slice A m c) := hbk.cell 0
    have hNw : N ≤ wr.heap.size := by have := hbk.lt; omega
    cases hrs with
    | at_ _ hlt he =>
      have t1 : (j : Int) < (m : Int) := by have := Hl.out; omega
      obtain ⟨x0, Hx0⟩ : ∃ x, Hd (Der.next b j = x) := ⟨_, ⟨rfl⟩⟩
      rw [Hx0.out] at he hE
      obtain ⟨⟨tag, body, iat, ilen, ierr⟩, Hx1⟩ : ∃ y, Hd (x0 = y) := ⟨_, ⟨rfl⟩⟩
      rw [Hx1.out] at he hE
      dsimp only at he hE
      gi_wp2_with (first
        | (refine ⟨trivial, fun h => absurd h (by decide), ?_⟩; refine (callsIn_wide.2 (next_any A m c b (j : Int) wr ⟨hrd.len, hrd.is.more hNw⟩ hmc hm)).mono ?_; rw [Hx0.out, Hx1.out]; rintro e w1 ⟨A1, c1, rfl, own1, hB1⟩; unfold itemCells
           dsimp only at own1 ⊢
           obtain ⟨fn, tmps, assign, body', hy, hR⟩ := hE pre (⟨tag, body, iat, ilen, ierr⟩, .slice A1 body.length c1) wr (w1.alloc (.cells (itemCells tag (.slice A1 body.length c1) iat ilen) 25)) hJ (hB1.alloc hB1.size _) (own1.alloc _)
           simp only [Der.X.cells, itemCells] at hy hR))
      refine ⟨fun h => absurd h (by decide), hR.mono ?_⟩
      rintro e W3 ⟨⟨v, rfl⟩, hJ2⟩
      clear hR hy hY hE
      gi_wp2
      refine bodyPost_ret (results_none rfl _ _ _) rfl ?_
      exact ⟨⟨_, rfl⟩, pre, by simp [hx], hJ2⟩
    | more _ r _ hlt he hr2 =>
      have t1 : (k : Int) < (m : Int) := by have := Hl.out; omega
      obtain ⟨hl1, hl2, hl3⟩ := Der.next_len b k he
      obtain ⟨x0, Hx0⟩ : ∃ x, Hd (Der.next b k = x) := ⟨_, ⟨rfl⟩⟩
      rw [Hx0.out] at he hl1 hl2 hl3 hr2 hx
      clear hl3
      have wk : IntKind.i64.wrap ((k : Int) + (x0.len : Int)) = ((k + x0.len : Nat) : Int) := by
        rw [show (k : Int) + (x0.len : Int) = ((k + x0.len : Nat) : Int) by omega]; exact IntWalk.i64_in _ (by have := Hl.out; omega)
      have hlen : pre.length < xs.length := by rw [hx]; simp
      gi_wp2_with (first
        | (refine ⟨trivial, fun h => absurd h (by decide), ?_⟩; refine (callsIn_wide.2 (next_any A m c b (k : Int) wr ⟨hrd.len, hrd.is.more hNw⟩ hmc hm)).mono ?_; rw [Hx0.out]; rintro e w1 ⟨A1, c1, rfl, own1, hB1⟩; rw [he]; unfold itemCells
           obtain ⟨fn, tmps, assign, body, hy, hR⟩ := hY pre (x0, .slice A1 x0.body.length c1) wr (w1.alloc (.cells (itemCells x0.tag (.slice A1 x0.body.length c1) x0.at_ x0.len) 25)) hJ (hB1.alloc hB1.size _) (own1.alloc _) hlen
           simp only [Der.X.cells, itemCells] at hy hR))
      refine ⟨fun h => absurd h (by decide), hR.mono ?_⟩
      rintro e W3 ⟨rfl, hJ3, hs3, hk3⟩
      have hBa := hB1.alloc hB1.size (.cells #[.int .u8 ((n8 x0.tag : Nat) : Int), .slice A1 x0.body.length c1, .int .i64 x0.at_, .int .i64 (x0.len : Int)] 25)
      have hbka := hbk.below hBa hbk.lt
      have hbk3 : Blk W3 Nb 22 #[.slice A m c] := ⟨(hk3 Nb (.inr (.inl rfl)) hbka.lt).trans hbka.is⟩
      have hrd3 : ReadsB W3 N A m b := ReadsB.same ⟨hrd.len, hrd.is.below (hBa.mono hNw)⟩ (fun j hj => hk3 j (.inl hj) (by have := hBa.size; omega))
      have hit : Blk (w1.alloc (.cells #[.int .u8 ((n8 x0.tag : Nat) : Int), .slice A1 x0.body.length c1, .int .i64 x0.at_, .int .i64 (x0.len : Int)] 25)) w1.heap.size 25 #[.int .u8 ((n8 x0.tag : Nat) : Int), .slice A1 x0.body.length c1, .int .i64 x0.at_, .int .i64 (x0.len : Int)] := Blk.nu rfl
      have hit3 : Blk W3 w1.heap.size 25 #[.int .u8 ((n8 x0.tag : Nat) : Int), .slice A1 x0.body.length c1, .int .i64 x0.at_, .int .i64 (x0.len : Int)] := ⟨(hk3 _ (.inr (.inr hB1.size)) hit.lt).trans hit.is⟩
      have c3 : W3.cell? ⟨w1.heap.size, 3, none⟩ = some (.int .i64 (x0.len : Int)) := hit3.cell 3
      clear hY hE hR hy hit hit3 hbka hBa hbk hrd hJ own1 hB1
      gi_wp2
      go_roundw
      case rel => exact ⟨k + x0.len, pre ++ [(x0, .slice A1 x0.body.length c1)], r, by rfl, by rw [hx]; simp, hr2, hbk3, hrd3, hJ3⟩
      case measure => simp [intOf]; omega
end Go.Proofs.YthkggeohdclffaaDoor
