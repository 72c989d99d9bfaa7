/-
  The head of law 14: its name in numbers.
-/
import Derived.Test.YthkggeohdclffaaDoorDerD
import Derived.Deep.DeepCutAuto
import Derived.LoopN
set_option linter.unusedVariables false
set_option linter.unusedSimpArgs false
set_option maxRecDepth 100000
namespace Go.Proofs.YthkggeohdclffaaDoor
open Go.RowKit
theorem oid1_yes (x : UInt8) (h : (decide (x < 128)) = true) (w : World) : Calls Tryd.prog 34 #[.int .u8 ((n8 x : Nat) : Int)] w fun e w' => e = .returned (.bool true) ∧ w = w' := by
  have h' : x < 128 := of_decide_eq_true h
  clear h
  go_enter Tryd.func34, Tryd.ntmps34
  go_wp2
  go_ret
  exact ⟨rfl, rfl⟩
theorem oid1_no (x : UInt8) (h : (decide (x < 128)) = false) (w : World) : Calls Tryd.prog 34 #[.int .u8 ((n8 x : Nat) : Int)] w fun e w' => e = .returned (.bool false) ∧ w = w' := by
  have h' : ¬ x < 128 := of_decide_eq_false h
  clear h
  go_enter Tryd.func34, Tryd.ntmps34
  go_wp2
  go_ret
  exact ⟨rfl, rfl⟩
set_option maxHeartbeats 2000000 in
set_option maxRecDepth 100000 in
theorem indexEnd_any (A : Option Addr) (n c : Nat) (b : List UInt8) (w : World) (hr : ReadsB w w.heap.size A n b) (hn : n ≤ 140737488355328) (K : Nat) (hK : K < n) (h1 : (decide (nth b K < 128)) = true) (h2 : ∀ j, j < K → (decide (nth b j < 128)) = false) :
    Calls Tryd.prog 33 #[.slice A n c, .func (.func 34) #[] #[]] w fun e w' => e = .returned (.int .i64 (K : Int)) ∧ w = w' := by
  have H1 := hd h1
  have H2 := hd h2
  clear h1 h2
  go_enter Tryd.func33, Tryd.ntmps33
  go_wp2
  go_loop [5, 8] (fun _ i => ∃ k : Nat, k ≤ K ∧ i = .int .i64 (k : Int)) (fun _ i => (n - intOf i).toNat)
  case atStart => exact ⟨0, by omega, rfl⟩
  case round =>
    obtain ⟨k, hk, rfl⟩ := hrel
    have t1 : (k : Int) < (n : Int) := by omega
    have t2 : (0 : Int) ≤ (k : Int) := by omega
    have wk : IntKind.i64.wrap ((k : Int) + 1) = (k : Int) + 1 := IntWalk.i64_in _ (by omega)
    obtain ⟨ad, hA, had, hc0⟩ := hr.cell (show k < n by omega)
    subst hA
    by_cases he : k = K
    · subst he
      go_wp2_with (go_at_call 34; refine (oid1_yes _ H1.out _).mono ?_; rintro e w' ⟨rfl, rfl⟩)
      go_ret
      exact ⟨rfl, rfl⟩
    · have hlt : k < K := by omega
      go_wp2_with (go_at_call 34; refine (oid1_no _ (H2.out k hlt) _).mono ?_; rintro e w' ⟨rfl, rfl⟩)
      go_round
      case rel => exact ⟨k + 1, by omega, by congr 1 <;> omega⟩
      case measure => simp [intOf] <;> omega
namespace Der
/-- What has been read of a number. -/
def acc (b : List UInt8) : Nat → UInt64
  | 0 => 0
  | j + 1 => acc b j <<< 7 ||| (nth b j).toUInt64 &&& 127
def oidBytes : List UInt8 := [42, 134, 72, 206, 61, 2, 1]
end Der
theorem str_info : (Tryd.prog.info? 9).map (fun i => (i.zero, i.size, i.bytes)) = some (some (.string ByteArray.empty), 1, 16) := by kernel_rfl
/-- A slice of strings of one's own. -/
structure OwnS (w : World) (B : Nat) (v : Value) (l : List (List UInt8)) : Prop where
  own : w.ownsRow B 9 1 v l.length (l.map fun s => .string (str s))
theorem OwnS.later {w w' : World} {B : Nat} {v : Value} {l : List (List UInt8)} (h : OwnS w B v l) (hb : Below w.heap.size w w') : OwnS w' B v l := by
  obtain ⟨h1, h2⟩ := h.own
  refine ⟨h1, h2.imp id ?_⟩
  rintro ⟨g, cap, cur, rfl, h3, h4, h5⟩
  refine ⟨g, cap, cur, rfl, h3, ?_, h5⟩
  have hlt : g < w.heap.size := by
    rcases Nat.lt_or_ge g w.heap.size with h | h
    · exact h
    · rw [Array.getElem?_eq_none h] at h4; cases h4
  rw [hb.block g hlt]; exact h4
theorem OwnS.nil (w : World) (B : Nat) : OwnS w B (.slice none 0 0) [] := ⟨⟨rfl, .inl ⟨rfl, rfl⟩⟩⟩
theorem OwnS.form {w : World} {B : Nat} {v : Value} {l : List (List UInt8)} (h : OwnS w B v l) (hn : 0 < l.length) : ∃ g cap, v = .slice (some ⟨g, 0, none⟩) l.length cap ∧ B ≤ g ∧ g < w.heap.size ∧ l.length ≤ cap := by
  rcases h.own.2 with ⟨_, e⟩ | ⟨g, cap, cur, e, h3, h4, h5, _⟩
  · omega
  · refine ⟨g, cap, e, h3, ?_, h5⟩
    rcases Nat.lt_or_ge g w.heap.size with h | h
    · exact h
    · rw [Array.getElem?_eq_none h] at h4; cases h4
theorem OwnS.cells {w : World} {B g cap : Nat} {l : List (List UInt8)} (h : OwnS w B (.slice (some ⟨g, 0, none⟩) l.length cap) l) (j : Nat) (x : List UInt8) (hx : l[j]? = some x) : w.cell? ⟨g, 0 + j, none⟩ = some (.string (str x)) := by
  have hc := own_cells h.own 0 (l.map fun s => .string (str s)) (by simp)
  have h1 := hc.is j (.string (str x)) (by rw [List.getElem?_map, hx]; rfl)
  rw [← h1]
  congr 1
  unfold Addr.add
  by_cases h0 : j = 0
  · subst h0; rfl
  · rw [if_neg h0]
theorem wpl_appendS {w : World} {ops : Array Oper} {rest : List Oper} {o : Oper} {a : Act} {Q : Exit → Act → World → Prop} (hgd : o.guard = none) (s x : Operand) (ho : o.op = .call { callee := .builtin .append, args := #[s, x], argTypes := #[73, 73] })
    (B : Nat) (v : Value) (l : List (List UInt8)) (hs : a.eval s = v) (hown : OwnS w B v l) (g : Nat) (y : List UInt8) (hx : a.eval x = .slice (some ⟨g, 0, none⟩) 1 1) (hb : Blk w g 9 #[.string (str y)])
    (hlen : l.length ≤ 1000000) (hB : B ≤ w.heap.size)
    (h : ∀ v' w', OwnS w' B v' (l ++ [y]) → w.grownBy w' v.ownBlock → (v'.ownBlock = v.ownBlock ∨ v'.ownBlock = some w.heap.size) → wpList Tryd.prog ops Q rest (a.put o.dst v') w') : wpList Tryd.prog ops Q (o :: rest) a w := by
  obtain ⟨i0, hi0, hz0, hz1, hz2⟩ := info_parts str_info
  have hr : Reads w w.heap.size 1 (some ⟨g, 0, none⟩) 1 [.string (str y)] := ⟨rfl, fun _ => ⟨_, rfl, hb.lt, fun j u hu => by
    cases j with
    | zero => have e : u = .string (str y) := by simpa using hu.symm
              subst e
              exact hb.cell 0
    | succ j => simp at hu⟩⟩
  refine wpList_append_any w hgd s x _ ho B 9 i0 _ 1 16 Tryd.underlying73 hi0 hz0 hz1 hz2 rfl (by omega) v l.length _ hs hown.own w.heap.size _ 1 1 [.string (str y)] hx hr (by simp [Value.oneCell']) (by unfold maxLen; omega) (by omega) hB ?_
  intro v' w' h1 h2 h3
  refine h v' w' ⟨?_⟩ h2 h3
  rw [List.length_append, List.map_append]; exact h1
theorem below_appendedS {w w' : World} {B : Nat} {v : Value} {l : List (List UInt8)} {a : World} {B' : Nat} (h : Below B' a w) (ho : OwnS w B v l) (hg : w.grownBy w' v.ownBlock) (hB : B' ≤ B) (hs : B' ≤ w.heap.size) : Below B' a w' :=
  h.grown hg hs (fun k hk => by
    rcases ho.own.2 with ⟨e, _⟩ | ⟨g, cap, cur, e, h3, _⟩
    · rw [e] at hk; cases hk
    · rw [e] at hk; injection hk with hk; subst hk; exact Nat.le_trans hB h3)

theorem FmtAt (u : Nat) (y : List UInt8) (hu : u < 100000) (hy : Lib.decDigits u = y) (w : World) (htab : Lib.TabIs Tryd.prog w "internal/strconv.uint64pow10" .u64 Lib.pow10Tab) :
    Calls Tryd.prog 35 #[.int .u64 (u : Int), .int .i64 10] w fun e w' => e = .returned (.string (str y)) ∧ Below w.heap.size w w' := by
  subst hy; exact strconvFormatUint_any u (by omega) w htab

theorem oidCell {w : World} {B g cap : Nat} {l : List (List UInt8)} (h : OwnS w B (.slice (some ⟨g, 0, none⟩) l.length cap) l) (j : Nat) (y : List UInt8) (hx : (l.map str)[j]? = some (str y)) : w.cell? ⟨g, 0 + j, none⟩ = some (.string (str y)) := by
  rw [List.getElem?_map] at hx
  cases hl : l[j]? with
  | none => rw [hl] at hx; cases hx
  | some z =>
    rw [hl] at hx
    have e : str z = str y := by simpa using hx
    rw [← e]
    exact h.cells j z hl
theorem oidReads (g : Nat) (w w' : World) (hbk : Blk w g 5 (arr Der.oidBytes)) (hB : Below w.heap.size w w') (o L : Nat) (sub : List UInt8) (hL : sub.length = L) (hs : sub = Der.oidBytes.drop o) : ReadsB w' w'.heap.size (some ⟨g, o, none⟩) L sub :=
  ⟨hL, ⟨by rw [List.length_map, hL, Nat.mul_one], fun _ => ⟨_, rfl, Nat.lt_of_lt_of_le hbk.lt hB.size, fun i u hu => by
    have h1 := (hB.cell (p := ⟨g, o + i, none⟩) hbk.lt).trans (hbk.cell (o + i))
    rw [Lib.add_plain, h1, ← hu, hs]
    simp [arr]⟩⟩⟩
theorem joinAt (g cap B : Nat) (w : World) (own : OwnS w B (.slice (some ⟨g, 0, none⟩) 6 cap) [[49], [50], [56, 52, 48], [49, 48, 48, 52, 53], [50], [49]]) (hg : g < w.heap.size) (hc : 6 ≤ cap) :
    Calls Tryd.prog 36 #[.slice (some ⟨g, 0, none⟩) 6 cap, .string (str [46])] w fun e w' => e = .returned (.string (str [49, 46, 50, 46, 56, 52, 48, 46, 49, 48, 48, 52, 53, 46, 50, 46, 49])) ∧ Below w.heap.size w w' := by
  refine (Tryd.strings_Join g 0 cap ([[49], [50], [56, 52, 48], [49, 48, 48, 52, 53], [50], [49]].map str) (str [46]) w (fun j x hx => by obtain ⟨y, hy, rfl⟩ := List.mem_map.1 (List.mem_of_getElem? hx); exact oidCell own j _ hx) hg (by decide) hc (by decide +kernel)).mono ?_
  rintro e w' ⟨rfl, hB⟩
  have e : Lib.join (([[49], [50], [56, 52, 48], [49, 48, 48, 52, 53], [50], [49]].map str).map (·.data.toList)) (str [46]).data.toList = [49, 46, 50, 46, 56, 52, 48, 46, 49, 48, 48, 52, 53, 46, 50, 46, 49] := by decide +kernel
  exact ⟨by rw [e]; rfl, hB⟩
set_option maxHeartbeats 16000000 in
set_option maxRecDepth 100000 in
theorem oid_head (g : Nat) (w0 : World) (hbk : Blk w0 g 5 (arr Der.oidBytes)) (htab : Lib.TabIs Tryd.prog w0 "internal/strconv.uint64pow10" .u64 Lib.pow10Tab) :
    Calls Tryd.prog 18 #[.slice (some ⟨g, 0, none⟩) 7 7] w0 fun e w' => e = .returned (.tuple #[.string (str [49, 46, 50, 46, 56, 52, 48, 46, 49, 48, 48, 52, 53, 46, 50, 46, 49]), .int .i64 0]) ∧ Below w0.heap.size w0 w' := by
  have hg := hbk.lt
  have hBw0 := Below.refl w0.heap.size w0
  have hnil0 := fun (W : World) => Lib.run_eql_slice_nil (P := Tryd.prog) W 73 9 none 0 0 0 0 Tryd.underlying73
  go_enter Tryd.func18, Tryd.ntmps18
  go_wp2
  refine wp_loop_rounds 6 ?_

  rw [rounds_succ]
  have c0_0 : w0.cell? ⟨g, 0, none⟩ = some (.int .u8 42) := (hBw0.cell (p := ⟨g, 0, none⟩) hg).trans (hbk.cell 0)
  have c0_1 : w0.cell? ⟨g, 1, none⟩ = some (.int .u8 134) := (hBw0.cell (p := ⟨g, 1, none⟩) hg).trans (hbk.cell 1)
  have c0_2 : w0.cell? ⟨g, 2, none⟩ = some (.int .u8 72) := (hBw0.cell (p := ⟨g, 2, none⟩) hg).trans (hbk.cell 2)
  have c0_3 : w0.cell? ⟨g, 3, none⟩ = some (.int .u8 206) := (hBw0.cell (p := ⟨g, 3, none⟩) hg).trans (hbk.cell 3)
  have c0_4 : w0.cell? ⟨g, 4, none⟩ = some (.int .u8 61) := (hBw0.cell (p := ⟨g, 4, none⟩) hg).trans (hbk.cell 4)
  have c0_5 : w0.cell? ⟨g, 5, none⟩ = some (.int .u8 2) := (hBw0.cell (p := ⟨g, 5, none⟩) hg).trans (hbk.cell 5)
  have c0_6 : w0.cell? ⟨g, 6, none⟩ = some (.int .u8 1) := (hBw0.cell (p := ⟨g, 6, none⟩) hg).trans (hbk.cell 6)
  have hb0 := hd (oidReads g w0 w0 hbk hBw0 0 7 [42, 134, 72, 206, 61, 2, 1] rfl rfl)
  have HX0 := hd (indexEnd_any (some ⟨g, 0, none⟩) 7 7 [42, 134, 72, 206, 61, 2, 1] w0 hb0.out (by omega) 0 (by omega) (by decide) (by decide))
  go_wp2_with (first | (go_at_call 33; refine HX0.out.mono ?_; rintro e w' ⟨rfl, rfl⟩))
  go_loop [6, 8, 37] (fun n _ i => ∃ k : Nat, k ≤ 1 ∧ i = .int .i64 (k : Int) ∧ n = .int .u64 ((n64 (Der.acc [42, 134, 72, 206, 61, 2, 1] k) : Nat) : Int)) (fun _ _ i => (1 - intOf i).toNat)
  case atStart => exact ⟨0, by omega, rfl, rfl⟩
  case round =>
    obtain ⟨k, hk, rfl, rfl⟩ := hrel
    by_cases hlt : k < 1
    · have t1 : (k : Int) < 1 := by omega
      have t2 : (0 : Int) ≤ (k : Int) := by omega
      have t3 : (k : Int) < 7 := by omega
      have wk : IntKind.i64.wrap ((k : Int) + 1) = (k : Int) + 1 := IntWalk.i64_in _ (by omega)
      obtain ⟨ad, hA, _, hc0⟩ := hb0.out.cell (show k < 7 by omega)
      injection hA with hA
      subst hA
      obtain ⟨x, Hx⟩ : ∃ x, Hd (nth [42, 134, 72, 206, 61, 2, 1] k = x) := ⟨_, ⟨rfl⟩⟩
      obtain ⟨y, Hy⟩ : ∃ y, Hd (Der.acc [42, 134, 72, 206, 61, 2, 1] k = y) := ⟨_, ⟨rfl⟩⟩
      rw [Hx.out] at hc0
      rw [Hy.out]
      rw [Lib.add_plain, Nat.zero_add] at hc0
      go_wp2
      go_round
      case rel => exact ⟨k + 1, by omega, by congr 1 <;> omega, by rw [Der.acc, Hx.out, Hy.out]⟩
      case measure => simp [intOf] <;> omega
    · obtain rfl : k = 1 := by omega
      have hv : ((n64 (Der.acc [42, 134, 72, 206, 61, 2, 1] 1) : Nat) : Int) = 42 := by decide +kernel
      rw [hv]
      clear hv
      go_wp2_with (first | (at_builtin; refine wpl_appendS rfl _ _ rfl w0.heap.size (.slice (some ⟨gwb, 0, none⟩) 1 capwb) [[49]] rfl ((ownwb.out.later hFwc).later ((Below.refl _ _).alloc (Nat.le_refl _) _)) wc.heap.size [50] rfl (Blk.nu rfl) (by decide) (by simp; have := hBwc.size; omega) ?_; intro vw1 w1 own gr at'; have hBw1 := below_appendedS (hBwc.alloc hBwc.size _) ((ownwb.out.later hFwc).later ((Below.refl _ _).alloc (Nat.le_refl _) _)) gr (Nat.le_refl _) (by simp; have := hBwc.size; omega); obtain ⟨gw1, capw1, ew1, hglw1, hgsw1, hcpw1⟩ := own.form (by decide); have ownw1 := hd own; rw [ew1] at ownw1; subst ew1; clear own gr at'; have hnilw1 := fun (W : World) => Lib.run_eql_slice_nil (P := Tryd.prog) W 73 9 (some ⟨gw1, 0, none⟩) 2 capw1 0 0 Tryd.underlying73) | (go_at_call 35; refine (FmtAt 2 [50] (by omega) (by decide +kernel) wb (tabIs_below htab hBwb)).mono ?_; rintro e wc ⟨rfl, hFwc⟩; have hBwc := hBwb.trans (hFwc.mono hBwb.size)) | (at_builtin; refine wpl_appendS rfl _ _ rfl w0.heap.size (.slice none 0 0) [] rfl ((OwnS.nil _ _).later ((Below.refl _ _).alloc (Nat.le_refl _) _)) wa.heap.size [49] rfl (Blk.nu rfl) (by decide) (by simp; have := hBwa.size; omega) ?_; intro vwb wb own gr at'; have hBwb := below_appendedS (hBwa.alloc hBwa.size _) ((OwnS.nil _ _).later ((Below.refl _ _).alloc (Nat.le_refl _) _)) gr (Nat.le_refl _) (by simp; have := hBwa.size; omega); obtain ⟨gwb, capwb, ewb, hglwb, hgswb, hcpwb⟩ := own.form (by decide); have ownwb := hd own; rw [ewb] at ownwb; subst ewb; clear own gr at'; have hnilwb := fun (W : World) => Lib.run_eql_slice_nil (P := Tryd.prog) W 73 9 (some ⟨gwb, 0, none⟩) 1 capwb 0 0 Tryd.underlying73) | (go_at_call 35; refine (FmtAt 1 [49] (by omega) (by decide +kernel) w0 (tabIs_below htab hBw0)).mono ?_; rintro e wa ⟨rfl, hFwa⟩; have hBwa := hBw0.trans (hFwa.mono hBw0.size)))
      rw [rounds_succ]
      have c1_1 : w1.cell? ⟨g, 1, none⟩ = some (.int .u8 134) := (hBw1.cell (p := ⟨g, 1, none⟩) hg).trans (hbk.cell 1)
      have c1_2 : w1.cell? ⟨g, 2, none⟩ = some (.int .u8 72) := (hBw1.cell (p := ⟨g, 2, none⟩) hg).trans (hbk.cell 2)
      have c1_3 : w1.cell? ⟨g, 3, none⟩ = some (.int .u8 206) := (hBw1.cell (p := ⟨g, 3, none⟩) hg).trans (hbk.cell 3)
      have c1_4 : w1.cell? ⟨g, 4, none⟩ = some (.int .u8 61) := (hBw1.cell (p := ⟨g, 4, none⟩) hg).trans (hbk.cell 4)
      have c1_5 : w1.cell? ⟨g, 5, none⟩ = some (.int .u8 2) := (hBw1.cell (p := ⟨g, 5, none⟩) hg).trans (hbk.cell 5)
      have c1_6 : w1.cell? ⟨g, 6, none⟩ = some (.int .u8 1) := (hBw1.cell (p := ⟨g, 6, none⟩) hg).trans (hbk.cell 6)
      have hb1 := hd (oidReads g w0 w1 hbk hBw1 1 6 [134, 72, 206, 61, 2, 1] rfl rfl)
      have HX1 := hd (indexEnd_any (some ⟨g, 1, none⟩) 6 6 [134, 72, 206, 61, 2, 1] w1 hb1.out (by omega) 1 (by omega) (by decide) (by decide))
      go_wp2_with (first | (go_at_call 33; refine HX1.out.mono ?_; rintro e w' ⟨rfl, rfl⟩))
      go_loop [6, 8, 37] (fun n _ i => ∃ k : Nat, k ≤ 2 ∧ i = .int .i64 (k : Int) ∧ n = .int .u64 ((n64 (Der.acc [134, 72, 206, 61, 2, 1] k) : Nat) : Int)) (fun _ _ i => (2 - intOf i).toNat)
      case atStart => exact ⟨0, by omega, rfl, rfl⟩
      case round =>
        obtain ⟨k, hk, rfl, rfl⟩ := hrel
        by_cases hlt : k < 2
        · have t1 : (k : Int) < 2 := by omega
          have t2 : (0 : Int) ≤ (k : Int) := by omega
          have t3 : (k : Int) < 7 := by omega
          have wk : IntKind.i64.wrap ((k : Int) + 1) = (k : Int) + 1 := IntWalk.i64_in _ (by omega)
          obtain ⟨ad, hA, _, hc0⟩ := hb1.out.cell (show k < 6 by omega)
          injection hA with hA
          subst hA
          obtain ⟨x, Hx⟩ : ∃ x, Hd (nth [134, 72, 206, 61, 2, 1] k = x) := ⟨_, ⟨rfl⟩⟩
          obtain ⟨y, Hy⟩ : ∃ y, Hd (Der.acc [134, 72, 206, 61, 2, 1] k = y) := ⟨_, ⟨rfl⟩⟩
          rw [Hx.out] at hc0
          rw [Hy.out]
          rw [Lib.add_plain] at hc0
          go_wp2
          go_round
          case rel => exact ⟨k + 1, by omega, by congr 1 <;> omega, by rw [Der.acc, Hx.out, Hy.out]⟩
          case measure => simp [intOf] <;> omega
        · obtain rfl : k = 2 := by omega
          have hv : ((n64 (Der.acc [134, 72, 206, 61, 2, 1] 2) : Nat) : Int) = 840 := by decide +kernel
          rw [hv]
          clear hv
          go_wp2_with (first | (at_builtin; refine wpl_appendS rfl _ _ rfl w0.heap.size (.slice (some ⟨gw1, 0, none⟩) 2 capw1) [[49], [50]] rfl ((ownw1.out.later hFwx1).later ((Below.refl _ _).alloc (Nat.le_refl _) _)) wx1.heap.size [56, 52, 48] rfl (Blk.nu rfl) (by decide) (by simp; have := hBwx1.size; omega) ?_; intro vw2 w2 own gr at'; have hBw2 := below_appendedS (hBwx1.alloc hBwx1.size _) ((ownw1.out.later hFwx1).later ((Below.refl _ _).alloc (Nat.le_refl _) _)) gr (Nat.le_refl _) (by simp; have := hBwx1.size; omega); obtain ⟨gw2, capw2, ew2, hglw2, hgsw2, hcpw2⟩ := own.form (by decide); have ownw2 := hd own; rw [ew2] at ownw2; subst ew2; clear own gr at'; have hnilw2 := fun (W : World) => Lib.run_eql_slice_nil (P := Tryd.prog) W 73 9 (some ⟨gw2, 0, none⟩) 3 capw2 0 0 Tryd.underlying73) | (go_at_call 35; refine (FmtAt 840 [56, 52, 48] (by omega) (by decide +kernel) w1 (tabIs_below htab hBw1)).mono ?_; rintro e wx1 ⟨rfl, hFwx1⟩; have hBwx1 := hBw1.trans (hFwx1.mono hBw1.size)))
          rw [rounds_succ]
          have c2_3 : w2.cell? ⟨g, 3, none⟩ = some (.int .u8 206) := (hBw2.cell (p := ⟨g, 3, none⟩) hg).trans (hbk.cell 3)
          have c2_4 : w2.cell? ⟨g, 4, none⟩ = some (.int .u8 61) := (hBw2.cell (p := ⟨g, 4, none⟩) hg).trans (hbk.cell 4)
          have c2_5 : w2.cell? ⟨g, 5, none⟩ = some (.int .u8 2) := (hBw2.cell (p := ⟨g, 5, none⟩) hg).trans (hbk.cell 5)
          have c2_6 : w2.cell? ⟨g, 6, none⟩ = some (.int .u8 1) := (hBw2.cell (p := ⟨g, 6, none⟩) hg).trans (hbk.cell 6)
          have hb2 := hd (oidReads g w0 w2 hbk hBw2 3 4 [206, 61, 2, 1] rfl rfl)
          have HX2 := hd (indexEnd_any (some ⟨g, 3, none⟩) 4 4 [206, 61, 2, 1] w2 hb2.out (by omega) 1 (by omega) (by decide) (by decide))
          go_wp2_with (first | (go_at_call 33; refine HX2.out.mono ?_; rintro e w' ⟨rfl, rfl⟩))
          go_loop [6, 8, 37] (fun n _ i => ∃ k : Nat, k ≤ 2 ∧ i = .int .i64 (k : Int) ∧ n = .int .u64 ((n64 (Der.acc [206, 61, 2, 1] k) : Nat) : Int)) (fun _ _ i => (2 - intOf i).toNat)
          case atStart => exact ⟨0, by omega, rfl, rfl⟩
          case round =>
            obtain ⟨k, hk, rfl, rfl⟩ := hrel
            by_cases hlt : k < 2
            · have t1 : (k : Int) < 2 := by omega
              have t2 : (0 : Int) ≤ (k : Int) := by omega
              have t3 : (k : Int) < 7 := by omega
              have wk : IntKind.i64.wrap ((k : Int) + 1) = (k : Int) + 1 := IntWalk.i64_in _ (by omega)
              obtain ⟨ad, hA, _, hc0⟩ := hb2.out.cell (show k < 4 by omega)
              injection hA with hA
              subst hA
              obtain ⟨x, Hx⟩ : ∃ x, Hd (nth [206, 61, 2, 1] k = x) := ⟨_, ⟨rfl⟩⟩
              obtain ⟨y, Hy⟩ : ∃ y, Hd (Der.acc [206, 61, 2, 1] k = y) := ⟨_, ⟨rfl⟩⟩
              rw [Hx.out] at hc0
              rw [Hy.out]
              rw [Lib.add_plain] at hc0
              go_wp2
              go_round
              case rel => exact ⟨k + 1, by omega, by congr 1 <;> omega, by rw [Der.acc, Hx.out, Hy.out]⟩
              case measure => simp [intOf] <;> omega
            · obtain rfl : k = 2 := by omega
              have hv : ((n64 (Der.acc [206, 61, 2, 1] 2) : Nat) : Int) = 10045 := by decide +kernel
              rw [hv]
              clear hv
              go_wp2_with (first | (at_builtin; refine wpl_appendS rfl _ _ rfl w0.heap.size (.slice (some ⟨gw2, 0, none⟩) 3 capw2) [[49], [50], [56, 52, 48]] rfl ((ownw2.out.later hFwx2).later ((Below.refl _ _).alloc (Nat.le_refl _) _)) wx2.heap.size [49, 48, 48, 52, 53] rfl (Blk.nu rfl) (by decide) (by simp; have := hBwx2.size; omega) ?_; intro vw3 w3 own gr at'; have hBw3 := below_appendedS (hBwx2.alloc hBwx2.size _) ((ownw2.out.later hFwx2).later ((Below.refl _ _).alloc (Nat.le_refl _) _)) gr (Nat.le_refl _) (by simp; have := hBwx2.size; omega); obtain ⟨gw3, capw3, ew3, hglw3, hgsw3, hcpw3⟩ := own.form (by decide); have ownw3 := hd own; rw [ew3] at ownw3; subst ew3; clear own gr at'; have hnilw3 := fun (W : World) => Lib.run_eql_slice_nil (P := Tryd.prog) W 73 9 (some ⟨gw3, 0, none⟩) 4 capw3 0 0 Tryd.underlying73) | (go_at_call 35; refine (FmtAt 10045 [49, 48, 48, 52, 53] (by omega) (by decide +kernel) w2 (tabIs_below htab hBw2)).mono ?_; rintro e wx2 ⟨rfl, hFwx2⟩; have hBwx2 := hBw2.trans (hFwx2.mono hBw2.size)))
              rw [rounds_succ]
              have c3_5 : w3.cell? ⟨g, 5, none⟩ = some (.int .u8 2) := (hBw3.cell (p := ⟨g, 5, none⟩) hg).trans (hbk.cell 5)
              have c3_6 : w3.cell? ⟨g, 6, none⟩ = some (.int .u8 1) := (hBw3.cell (p := ⟨g, 6, none⟩) hg).trans (hbk.cell 6)
              have hb3 := hd (oidReads g w0 w3 hbk hBw3 5 2 [2, 1] rfl rfl)
              have HX3 := hd (indexEnd_any (some ⟨g, 5, none⟩) 2 2 [2, 1] w3 hb3.out (by omega) 0 (by omega) (by decide) (by decide))
              go_wp2_with (first | (go_at_call 33; refine HX3.out.mono ?_; rintro e w' ⟨rfl, rfl⟩))
              go_loop [6, 8, 37] (fun n _ i => ∃ k : Nat, k ≤ 1 ∧ i = .int .i64 (k : Int) ∧ n = .int .u64 ((n64 (Der.acc [2, 1] k) : Nat) : Int)) (fun _ _ i => (1 - intOf i).toNat)
              case atStart => exact ⟨0, by omega, rfl, rfl⟩
              case round =>
                obtain ⟨k, hk, rfl, rfl⟩ := hrel
                by_cases hlt : k < 1
                · have t1 : (k : Int) < 1 := by omega
                  have t2 : (0 : Int) ≤ (k : Int) := by omega
                  have t3 : (k : Int) < 7 := by omega
                  have wk : IntKind.i64.wrap ((k : Int) + 1) = (k : Int) + 1 := IntWalk.i64_in _ (by omega)
                  obtain ⟨ad, hA, _, hc0⟩ := hb3.out.cell (show k < 2 by omega)
                  injection hA with hA
                  subst hA
                  obtain ⟨x, Hx⟩ : ∃ x, Hd (nth [2, 1] k = x) := ⟨_, ⟨rfl⟩⟩
                  obtain ⟨y, Hy⟩ : ∃ y, Hd (Der.acc [2, 1] k = y) := ⟨_, ⟨rfl⟩⟩
                  rw [Hx.out] at hc0
                  rw [Hy.out]
                  rw [Lib.add_plain] at hc0
                  go_wp2
                  go_round
                  case rel => exact ⟨k + 1, by omega, by congr 1 <;> omega, by rw [Der.acc, Hx.out, Hy.out]⟩
                  case measure => simp [intOf] <;> omega
                · obtain rfl : k = 1 := by omega
                  have hv : ((n64 (Der.acc [2, 1] 1) : Nat) : Int) = 2 := by decide +kernel
                  rw [hv]
                  clear hv
                  go_wp2_with (first | (at_builtin; refine wpl_appendS rfl _ _ rfl w0.heap.size (.slice (some ⟨gw3, 0, none⟩) 4 capw3) [[49], [50], [56, 52, 48], [49, 48, 48, 52, 53]] rfl ((ownw3.out.later hFwx3).later ((Below.refl _ _).alloc (Nat.le_refl _) _)) wx3.heap.size [50] rfl (Blk.nu rfl) (by decide) (by simp; have := hBwx3.size; omega) ?_; intro vw4 w4 own gr at'; have hBw4 := below_appendedS (hBwx3.alloc hBwx3.size _) ((ownw3.out.later hFwx3).later ((Below.refl _ _).alloc (Nat.le_refl _) _)) gr (Nat.le_refl _) (by simp; have := hBwx3.size; omega); obtain ⟨gw4, capw4, ew4, hglw4, hgsw4, hcpw4⟩ := own.form (by decide); have ownw4 := hd own; rw [ew4] at ownw4; subst ew4; clear own gr at'; have hnilw4 := fun (W : World) => Lib.run_eql_slice_nil (P := Tryd.prog) W 73 9 (some ⟨gw4, 0, none⟩) 5 capw4 0 0 Tryd.underlying73) | (go_at_call 35; refine (FmtAt 2 [50] (by omega) (by decide +kernel) w3 (tabIs_below htab hBw3)).mono ?_; rintro e wx3 ⟨rfl, hFwx3⟩; have hBwx3 := hBw3.trans (hFwx3.mono hBw3.size)))
                  rw [rounds_succ]
                  have c4_6 : w4.cell? ⟨g, 6, none⟩ = some (.int .u8 1) := (hBw4.cell (p := ⟨g, 6, none⟩) hg).trans (hbk.cell 6)
                  have hb4 := hd (oidReads g w0 w4 hbk hBw4 6 1 [1] rfl rfl)
                  have HX4 := hd (indexEnd_any (some ⟨g, 6, none⟩) 1 1 [1] w4 hb4.out (by omega) 0 (by omega) (by decide) (by decide))
                  go_wp2_with (first | (go_at_call 33; refine HX4.out.mono ?_; rintro e w' ⟨rfl, rfl⟩))
                  go_loop [6, 8, 37] (fun n _ i => ∃ k : Nat, k ≤ 1 ∧ i = .int .i64 (k : Int) ∧ n = .int .u64 ((n64 (Der.acc [1] k) : Nat) : Int)) (fun _ _ i => (1 - intOf i).toNat)
                  case atStart => exact ⟨0, by omega, rfl, rfl⟩
                  case round =>
                    obtain ⟨k, hk, rfl, rfl⟩ := hrel
                    by_cases hlt : k < 1
                    · have t1 : (k : Int) < 1 := by omega
                      have t2 : (0 : Int) ≤ (k : Int) := by omega
                      have t3 : (k : Int) < 7 := by omega
                      have wk : IntKind.i64.wrap ((k : Int) + 1) = (k : Int) + 1 := IntWalk.i64_in _ (by omega)
                      obtain ⟨ad, hA, _, hc0⟩ := hb4.out.cell (show k < 1 by omega)
                      injection hA with hA
                      subst hA
                      obtain ⟨x, Hx⟩ : ∃ x, Hd (nth [1] k = x) := ⟨_, ⟨rfl⟩⟩
                      obtain ⟨y, Hy⟩ : ∃ y, Hd (Der.acc [1] k = y) := ⟨_, ⟨rfl⟩⟩
                      rw [Hx.out] at hc0
                      rw [Hy.out]
                      rw [Lib.add_plain] at hc0
                      go_wp2
                      go_round
                      case rel => exact ⟨k + 1, by omega, by congr 1 <;> omega, by rw [Der.acc, Hx.out, Hy.out]⟩
                      case measure => simp [intOf] <;> omega
                    · obtain rfl : k = 1 := by omega
                      have hv : ((n64 (Der.acc [1] 1) : Nat) : Int) = 1 := by decide +kernel
                      rw [hv]
                      clear hv
                      go_wp2_with (first | (at_builtin; refine wpl_appendS rfl _ _ rfl w0.heap.size (.slice (some ⟨gw4, 0, none⟩) 5 capw4) [[49], [50], [56, 52, 48], [49, 48, 48, 52, 53], [50]] rfl ((ownw4.out.later hFwx4).later ((Below.refl _ _).alloc (Nat.le_refl _) _)) wx4.heap.size [49] rfl (Blk.nu rfl) (by decide) (by simp; have := hBwx4.size; omega) ?_; intro vw5 w5 own gr at'; have hBw5 := below_appendedS (hBwx4.alloc hBwx4.size _) ((ownw4.out.later hFwx4).later ((Below.refl _ _).alloc (Nat.le_refl _) _)) gr (Nat.le_refl _) (by simp; have := hBwx4.size; omega); obtain ⟨gw5, capw5, ew5, hglw5, hgsw5, hcpw5⟩ := own.form (by decide); have ownw5 := hd own; rw [ew5] at ownw5; subst ew5; clear own gr at'; have hnilw5 := fun (W : World) => Lib.run_eql_slice_nil (P := Tryd.prog) W 73 9 (some ⟨gw5, 0, none⟩) 6 capw5 0 0 Tryd.underlying73) | (go_at_call 35; refine (FmtAt 1 [49] (by omega) (by decide +kernel) w4 (tabIs_below htab hBw4)).mono ?_; rintro e wx4 ⟨rfl, hFwx4⟩; have hBwx4 := hBw4.trans (hFwx4.mono hBw4.size)))
                      rw [rounds_succ]
                      go_wp2_with (first | (go_at_call 36; refine (joinAt gw5 capw5 w0.heap.size w5 ownw5.out hgsw5 hcpw5).mono ?_; rintro e w6 ⟨rfl, hB6⟩))
                      go_ret2
                      exact ⟨rfl, hBw5.trans (hB6.mono hBw5.size)⟩

end Go.Proofs.YthkggeohdclffaaDoor
