/-
  The walk of der.Time.
-/
import Derived.Test.YthkggeohdclffaaDoorTimS
import Derived.Deep.CutBlock
import Derived.Lib.AtoiErrMem
set_option linter.unusedVariables false
set_option linter.unusedSimpArgs false
set_option maxRecDepth 100000
namespace Go.Proofs.YthkggeohdclffaaDoor
open Go.RowKit
namespace Cal
/-- The fourteen digits that a time's bytes are. -/
def Form (tag : UInt8) (b t : List UInt8) : Prop := ∃ s, b = s ++ [90] ∧ allD s ∧ ((tag = 23 ∧ s.length = 12 ∧ t = (if 53 ≤ n8 (nth s 0) then [49, 57] else [50, 48]) ++ s) ∨ (tag = 24 ∧ s.length = 14 ∧ t = s))
theorem Form.one {tag : UInt8} {b t t' : List UInt8} (h : Form tag b t) (h' : Form tag b t') : t = t' := by
  obtain ⟨s, e, _, h1⟩ := h
  obtain ⟨s', e', _, h1'⟩ := h'
  obtain rfl : s = s' := List.append_cancel_right (e.symm.trans e')
  rcases h1 with ⟨a, _, c⟩ | ⟨a, _, c⟩ <;> rcases h1' with ⟨a', _, c'⟩ | ⟨a', _, c'⟩
  · rw [c, c']
  · rw [a] at a'; cases a'
  · rw [a] at a'; cases a'
  · rw [c, c']
theorem Form.is {tag : UInt8} {b t : List UInt8} (h : Form tag b t) : t.length = 14 ∧ allD t := by
  obtain ⟨s, e, hs, h1⟩ := h
  rcases h1 with ⟨_, hl, rfl⟩ | ⟨_, hl, rfl⟩
  · refine ⟨by split <;> simp [hl], fun c hc => ?_⟩
    rcases List.mem_append.1 hc with h2 | h2
    · split at h2
      · rcases (by simpa using h2 : c = 49 ∨ c = 57) with rfl | rfl <;> decide
      · rcases (by simpa using h2 : c = 50 ∨ c = 48) with rfl | rfl <;> decide
    · exact hs c h2
  · exact ⟨hl, hs⟩
/-- The six numbers. -/
def six (t : List UInt8) (k : Nat) : Nat := if k = 0 then 100 * pr t 0 + pr t 1 else pr t (k + 1)
def OK (t : List UInt8) : Prop := ok (six t 0) (six t 1) (six t 2) (six t 3) (six t 4) (six t 5)
def FIN (t : List UInt8) : Int := fin (six t 0) (six t 1) (six t 2) (six t 3) (six t 4) (six t 5)
/-- What a reader of times answers. -/
def Tm (tag : UInt8) (b : List UInt8) (v er : Int) : Prop :=
  (∃ t, Form tag b t ∧ ((OK t ∧ v = FIN t ∧ er = 0) ∨ (¬ OK t ∧ v = 0 ∧ er = 144))) ∨ ((¬ ∃ t, Form tag b t) ∧ v = 0 ∧ er = 144)
theorem Tm.one {tag : UInt8} {b : List UInt8} {v er v' er' : Int} (h : Tm tag b v er) (h' : Tm tag b v' er') : v = v' ∧ er = er' := by
  rcases h with ⟨t, f, h⟩ | ⟨f, h⟩ <;> rcases h' with ⟨t', f', h'⟩ | ⟨f', h'⟩
  · obtain rfl := f.one f'
    rcases h with ⟨a, b1, c⟩ | ⟨a, b1, c⟩ <;> rcases h' with ⟨a', b', c'⟩ | ⟨a', b', c'⟩
    · exact ⟨by rw [b1, b'], by rw [c, c']⟩
    · exact absurd a a'
    · exact absurd a' a
    · exact ⟨by rw [b1, b'], by rw [c, c']⟩
  · exact absurd ⟨t, f⟩ f'
  · exact absurd ⟨t', f'⟩ f
  · exact ⟨by rw [h.1, h'.1], by rw [h.2, h'.2]⟩
theorem pr_le {t : List UInt8} (h : allD t) (hl : t.length = 14) {k : Nat} (hk : k < 7) : pr t k ≤ 99 := by
  have h1 := dv_le _ (allD_nth h (k := 2 * k) (by omega))
  have h2 := dv_le _ (allD_nth h (k := 2 * k + 1) (by omega))
  unfold pr
  omega
theorem six_le {t : List UInt8} (h : allD t) (hl : t.length = 14) : six t 0 ≤ 9999 ∧ ∀ k, 1 ≤ k → k < 6 → six t k ≤ 99 := by
  constructor
  · have := pr_le h hl (k := 0) (by omega)
    have := pr_le h hl (k := 1) (by omega)
    unfold six
    rw [if_pos rfl]
    omega
  · intro k h1 h2
    unfold six
    rw [if_neg (by omega)]
    exact pr_le h hl (by omega)
/-- The numbers that are read, so far. -/
def arr6 (t : List UInt8) (k : Nat) : Array Value := #[.int .i64 (if 0 < k then (six t 0 : Int) else 0), .int .i64 (if 1 < k then (six t 1 : Int) else 0), .int .i64 (if 2 < k then (six t 2 : Int) else 0), .int .i64 (if 3 < k then (six t 3 : Int) else 0), .int .i64 (if 4 < k then (six t 4 : Int) else 0), .int .i64 (if 5 < k then (six t 5 : Int) else 0)]
theorem cut4 {t : List UInt8} (hl : t.length = 14) : (t.drop 0).take 4 = [nth t 0, nth t 1, nth t 2, nth t 3] := by
  match t, hl with
  | [a, b, c, d, e, f, g, h, i, j, k, l, m, n], _ => rfl
theorem cut2 {t : List UInt8} (hl : t.length = 14) {k : Nat} (h1 : 2 ≤ k) (h2 : k < 7) : (t.drop (2 * k)).take 2 = [nth t (2 * k), nth t (2 * k + 1)] := by
  match t, hl with
  | [a, b, c, d, e, f, g, h, i, j, k', l, m, n], _ =>
    have hk : k = 2 ∨ k = 3 ∨ k = 4 ∨ k = 5 ∨ k = 6 := by omega
    rcases hk with rfl | rfl | rfl | rfl | rfl <;> rfl
theorem atoi_at {t : List UInt8} (h : allD t) (hl : t.length = 14) (k : Nat) (hk : k < 6) : Lib.atoi ((t.drop (if k = 0 then 0 else 2 * k + 2)).take (2 * k + 4 - (if k = 0 then 0 else 2 * k + 2))) = some ((six t k : Nat) : Int) := by
  by_cases h0 : k = 0
  · subst h0
    simp only [if_pos, Nat.mul_zero, Nat.zero_add, Nat.sub_zero]
    rw [cut4 hl]
    exact atoi4 _ _ _ _ (allD_nth h (by omega)) (allD_nth h (by omega)) (allD_nth h (by omega)) (allD_nth h (by omega))
  · rw [if_neg h0, show 2 * k + 4 - (2 * k + 2) = 2 by omega, show 2 * k + 2 = 2 * (k + 1) by omega, cut2 hl (by omega) (by omega)]
    have := atoi2 (nth t (2 * (k + 1))) (nth t (2 * (k + 1) + 1)) (allD_nth h (by omega)) (allD_nth h (by omega))
    rw [this]
    unfold six
    rw [if_neg h0]
    rfl
theorem suffix_yes (s : List UInt8) : Lib.hasSuffix (s ++ [90]) [90] = true ∧ Lib.trimSuffix (s ++ [90]) [90] = s := by
  have h : Lib.hasSuffix (s ++ [90]) [90] = true := by unfold Lib.hasSuffix; rw [List.isSuffixOf_iff_suffix]; exact ⟨s, rfl⟩
  refine ⟨h, ?_⟩
  unfold Lib.trimSuffix
  rw [if_pos h]
  simp
theorem suffix_no (b : List UInt8) (h : ¬ ∃ s, b = s ++ [90]) : Lib.hasSuffix b [90] = false := by
  rcases hb : Lib.hasSuffix b [90] with _ | _
  · rfl
  · unfold Lib.hasSuffix at hb
    rw [List.isSuffixOf_iff_suffix] at hb
    obtain ⟨s, e⟩ := hb
    exact absurd ⟨s, e.symm⟩ h
end Cal
theorem arr6_zero : (Tryd.prog.info? 61).bind (·.zero) = some (.agg #[.int .i64 0, .int .i64 0, .int .i64 0, .int .i64 0, .int .i64 0, .int .i64 0]) := by kernel_rfl
theorem run_addS {P : Program} {w : World} {o : Oper} {ρ : Operand → Value} {x y : Operand} {t rt : TypeId} (ho : o.op = .binOp .add t x y rt) (a b : List UInt8) (h : a.length + b.length ≤ 9223372036854775807) (hx : ρ x = .string (str a)) (hy : ρ y = .string (str b)) : (execOp ρ o).run P w = .ok (.value (.string (str (a ++ b)))) w := by
  unfold execOp
  simp only [ho, hx, hy, Sem.run_bind]
  have eg : (eqGuard .add t x y (.string (str a)) (.string (str b))).run P w = .ok () w := rfl
  rw [eg, Result.andThen_ok, run_str_add t a b h]
  rfl
theorem run_neqS {P : Program} {ρ : Operand → Value} {o : Oper} {x y : Operand} {t rt : TypeId} (ho : o.op = .binOp .neq t x y rt) (l m : List UInt8) (hx : ρ x = .string (str l)) (hy : ρ y = .string (str m)) (w : World) :
    (execOp ρ o).run P w = .ok (.value (.bool (!decide (l = m)))) w := by
  unfold execOp
  have eg : (eqGuard .neq t x y (.string (str l)) (.string (str m))).run P w = .ok () w := rfl
  have e : ((str l).toList == (str m).toList) = decide (l = m) := by
    rw [str, str, ByteArray.toList_mk, ByteArray.toList_mk, Bool.eq_iff_iff, beq_iff_eq, decide_eq_true_eq]
  have h : (binOp .neq t (.string (str l)) (.string (str m))).run P w = .ok (.bool (!decide (l = m))) w := by
    show (Op.stringOp .neq (str l) (str m)).run P w = _
    simp [Op.stringOp, e]
  simp only [ho, hx, hy, Sem.run_bind]
  rw [eg, Result.andThen_ok, h]
  rfl
/-- What der.Time answers. -/
def TimeSaid (tag : UInt8) (b : List UInt8) (w : World) (e : Ending) (w' : World) : Prop := ∃ v er, e = .returned (.tuple #[.int .i64 v, .int .i64 er]) ∧ Cal.Tm tag b v er ∧ Below w.heap.size w w'
theorem TimeSaid.no {tag : UInt8} {b : List UInt8} {w w' : World} (h : ¬ ∃ t, Cal.Form tag b t) (hB : Below w.heap.size w w') : TimeSaid tag b w (.returned (.tuple #[.int .i64 0, .int .i64 144])) w' := ⟨0, 144, rfl, .inr ⟨h, rfl, rfl⟩, hB⟩
theorem TimeSaid.bad {tag : UInt8} {b t : List UInt8} {w w' : World} (h : Cal.Form tag b t) (hn : ¬ Cal.OK t) (hB : Below w.heap.size w w') : TimeSaid tag b w (.returned (.tuple #[.int .i64 0, .int .i64 144])) w' := ⟨0, 144, rfl, .inl ⟨t, h, .inr ⟨hn, rfl, rfl⟩⟩, hB⟩
theorem TimeSaid.good {tag : UInt8} {b t : List UInt8} {w w' : World} (h : Cal.Form tag b t) (hn : Cal.OK t) (hB : Below w.heap.size w w') : TimeSaid tag b w (.returned (.tuple #[.int .i64 (Cal.FIN t), .int .i64 0])) w' := ⟨_, 0, rfl, .inl ⟨t, h, .inl ⟨hn, rfl, rfl⟩⟩, hB⟩
set_option maxHeartbeats 16000000 in
set_option maxRecDepth 100000 in
theorem time_any (tag : UInt8) (A : Option Addr) (n c : Nat) (b : List UInt8) (w : World) (hr : ReadsB w w.heap.size A n b) (hn : n ≤ 140737488355328) :
    Calls Tryd.prog 14 #[.int .u8 ((n8 tag : Nat) : Int), .slice A n c] w (TimeSaid tag b w) := by
  have Hl := hd hr.len
  have Hn := hd hn
  clear hn
  have ed : (str b).data.toList = b := by simp [str]
  have HC0 := Tryd.strings_CutSuffix (str b) (str [90]) w (by rw [str_size, Hl.out]; have := Hn.out; omega)
  rw [ed, show (str [90]).data.toList = [90] from rfl] at HC0
  by_cases hz : ∃ s, b = s ++ [90]
  · obtain ⟨s, rfl⟩ := hz
    rw [(Cal.suffix_yes s).1, (Cal.suffix_yes s).2, show (⟨s.toArray⟩ : ByteArray) = str s from rfl] at HC0
    have HC := hd HC0
    clear HC0 ed
    have Hsl := hd (show s.length ≤ 140737488355328 by have h1 := Hl.out; have h2 := Hn.out; rw [List.length_append] at h1; omega)
    have HT := hd (trim_any Cal.digits s (by decide) (by decide) (by decide) (by have := Hsl.out; omega) w)
    by_cases hD : Cal.allD s
    · have hT : (trimR (inSet Cal.digits) s).dropWhile (inSet Cal.digits) = [] := (Cal.trim_nil s).2 hD
      rw [hT] at HT
      clear hT
      have HD := hd hD
      clear hD
      obtain ⟨nS, HnS⟩ : ∃ y, Hd (s.length = y) := ⟨_, ⟨rfl⟩⟩
      obtain ⟨b, Hb⟩ : ∃ y, Hd (s ++ [90] = y) := ⟨_, ⟨rfl⟩⟩
      rw [Hb.out] at hr HC Hl ⊢
      have HNo := hd (fun (h : ¬ ((tag = 23 ∧ nS = 12) ∨ (tag = 24 ∧ nS = 14))) => show ¬ ∃ t, Cal.Form tag b t by
        rintro ⟨t, s', e', _, h'⟩
        obtain rfl : s = s' := List.append_cancel_right (Hb.out.trans e')
        rw [HnS.out] at h'
        rcases h' with ⟨a1, a2, _⟩ | ⟨a1, a2, _⟩
        · exact h (.inl ⟨a1, a2⟩)
        · exact h (.inr ⟨a1, a2⟩))
      go_enter Tryd.func14, Tryd.ntmps14
      go_upto_block 0 with (first
        | (with_reducible change wpList _ _ _ (⟨some 26, _, _, _, _, _⟩ :: _) _ _; refine wpl_run (o := ⟨some 26, _, _, _, _, _⟩) (by simp [Region.wanted, yielded, Act.put]) (.bool false) (run_neqS (by rfl) [] [] (by simp [Act.eval, Act.put]) (by simp [Act.eval, Act.put, str]) _) ?_)
        | (go_at_call 25; refine HT.out.mono ?_; rintro e w2 ⟨rfl, hB2⟩)
        | (go_at_call 24; refine HC.out.mono ?_; rintro e w1 ⟨rfl, e1⟩; rw [e1]; clear e1 w1)
        | (with_reducible change wpList _ _ _ (⟨some 17, _, _, _, _, _⟩ :: _) _ _; refine wpl_run (o := ⟨some 17, _, _, _, _, _⟩) (by simp [Region.wanted, yielded, Act.put]) (.string (str b)) (run_toStr (by rfl) Tryd.underlying22 Tryd.underlying5 Tryd.underlying9 _ A n c b (by simp [Act.eval, Act.put]) hr) ?_))
      go_cut [6] (fun s6 wx => ∃ t, s6 = .string (str t) ∧ Hd (Cal.Form tag b t) ∧ Below w.heap.size w wx)
      case first =>
        by_cases h23 : tag = 23
        · have q23 : (tag == 23) = true := by simpa using h23
          have q24 : (tag != 24) = true := by rw [h23]; decide
          by_cases h12 : nS = 12
          · subst h12
            obtain ⟨x, Hx⟩ : ∃ y, Hd (nth s 0 = y) := ⟨_, ⟨rfl⟩⟩
            have HF := hd (fun t (ht : t = (if 53 ≤ n8 (nth s 0) then [49, 57] else [50, 48]) ++ s) => show Cal.Form tag b t from ⟨s, Hb.out.symm, HD.out, .inl ⟨h23, HnS.out, ht⟩⟩)
            rw [Hx.out] at HF
            clear h23
            by_cases h5 : 53 ≤ n8 x
            · have q5 : (53 : UInt8) ≤ x := UInt8.le_iff_toNat_le.2 h5
              have HF1 := hd (HF.out ([49, 57] ++ s) (by rw [if_pos h5]))
              clear HF
              go_wp2_with (first
                | (with_reducible change wpList _ _ _ (⟨some 40, _, _, _, _, _⟩ :: _) _ _; refine wpl_run (o := ⟨some 40, _, _, _, _, _⟩) (by simp [Region.wanted, yielded, Act.put]) (.string (str ([49, 57] ++ s))) (run_addS (by rfl) [49, 57] s (by rw [HnS.out]; decide) (by simp [Act.eval, Act.put, str]) (by simp [Act.eval, Act.put])) ?_)
                | (with_reducible change wpList _ _ _ (⟨some 37, _, _, _, _, _⟩ :: _) _ _; refine wpl_run (o := ⟨some 37, _, _, _, _, _⟩) (by simp [Region.wanted, yielded, Act.put]) (.int .u8 ((n8 x : Nat) : Int)) (Hx.out ▸ run_idxS (by rfl) Tryd.underlying9 s 0 (by simp [Act.eval, Act.put]) (by simp [Act.eval, Act.put]) (by rw [HnS.out]; decide)) ?_)
                | (with_reducible change wpList _ _ _ (⟨some 33, _, _, _, _, _⟩ :: _) _ _; refine wpl_run (o := ⟨some 33, _, _, _, _, _⟩) (by simp [Region.wanted, yielded, Act.put]) (.int .i64 ((12 : Nat) : Int)) (HnS.out ▸ run_lenS (by rfl) Tryd.underlying9 s (by simp [Act.eval, Act.put])) ?_))
              go_meet
              exact ⟨_, rfl, HF1, hB2⟩
            · have q5 : ¬ (53 : UInt8) ≤ x := fun h => h5 (UInt8.le_iff_toNat_le.1 h)
              have HF1 := hd (HF.out ([50, 48] ++ s) (by rw [if_neg h5]))
              clear HF
              go_wp2_with (first
                | (with_reducible change wpList _ _ _ (⟨some 42, _, _, _, _, _⟩ :: _) _ _; refine wpl_run (o := ⟨some 42, _, _, _, _, _⟩) (by simp [Region.wanted, yielded, Act.put]) (.string (str ([50, 48] ++ s))) (run_addS (by rfl) [50, 48] s (by rw [HnS.out]; decide) (by simp [Act.eval, Act.put, str]) (by simp [Act.eval, Act.put])) ?_)
                | (with_reducible change wpList _ _ _ (⟨some 37, _, _, _, _, _⟩ :: _) _ _; refine wpl_run (o := ⟨some 37, _, _, _, _, _⟩) (by simp [Region.wanted, yielded, Act.put]) (.int .u8 ((n8 x : Nat) : Int)) (Hx.out ▸ run_idxS (by rfl) Tryd.underlying9 s 0 (by simp [Act.eval, Act.put]) (by simp [Act.eval, Act.put]) (by rw [HnS.out]; decide)) ?_)
                | (with_reducible change wpList _ _ _ (⟨some 33, _, _, _, _, _⟩ :: _) _ _; refine wpl_run (o := ⟨some 33, _, _, _, _, _⟩) (by simp [Region.wanted, yielded, Act.put]) (.int .i64 ((12 : Nat) : Int)) (HnS.out ▸ run_lenS (by rfl) Tryd.underlying9 s (by simp [Act.eval, Act.put])) ?_))
              go_meet
              exact ⟨_, rfl, HF1, hB2⟩
          · have t12 : ((nS : Int) == 12) = false := by simp; omega
            have HN := hd (HNo.out (by rintro (⟨_, a⟩ | ⟨a, _⟩); exact h12 a; rw [h23] at a; cases a))
            clear h23 h12
            go_wp2_with (first | (with_reducible change wpList _ _ _ (⟨some 33, _, _, _, _, _⟩ :: _) _ _; refine wpl_run (o := ⟨some 33, _, _, _, _, _⟩) (by simp [Region.wanted, yielded, Act.put]) (.int .i64 (nS : Int)) (HnS.out ▸ run_lenS (by rfl) Tryd.underlying9 s (by simp [Act.eval, Act.put])) ?_))
            go_ret2
            exact TimeSaid.no HN.out hB2
        · have q23 : (tag == 23) = false := by simpa using h23
          by_cases h24 : tag = 24
          · have q24 : (tag != 24) = false := by rw [h24]; decide
            by_cases h14 : nS = 14
            · subst h14
              have HF1 := hd (show Cal.Form tag b s from ⟨s, Hb.out.symm, HD.out, .inr ⟨h24, HnS.out, rfl⟩⟩)
              clear h23 h24
              go_wp2_with (first | (with_reducible change wpList _ _ _ (⟨some 48, _, _, _, _, _⟩ :: _) _ _; refine wpl_run (o := ⟨some 48, _, _, _, _, _⟩) (by simp [Region.wanted, yielded, Act.put]) (.int .i64 ((14 : Nat) : Int)) (HnS.out ▸ run_lenS (by rfl) Tryd.underlying9 s (by simp [Act.eval, Act.put])) ?_))
              go_meet
              exact ⟨_, rfl, HF1, hB2⟩
            · have t14 : ((nS : Int) != 14) = true := by simp; omega
              have HN := hd (HNo.out (by rintro (⟨a, _⟩ | ⟨_, a⟩); exact h23 a; exact h14 a))
              clear h23 h24 h14
              go_wp2_with (first | (with_reducible change wpList _ _ _ (⟨some 48, _, _, _, _, _⟩ :: _) _ _; refine wpl_run (o := ⟨some 48, _, _, _, _, _⟩) (by simp [Region.wanted, yielded, Act.put]) (.int .i64 (nS : Int)) (HnS.out ▸ run_lenS (by rfl) Tryd.underlying9 s (by simp [Act.eval, Act.put])) ?_))
              go_ret2
              exact TimeSaid.no HN.out hB2
          · have q24 : (tag != 24) = true := by simpa using h24
            have HN := hd (HNo.out (by rintro (⟨a, _⟩ | ⟨a, _⟩); exact h23 a; exact h24 a))
            clear h23 h24
            go_wp2
            go_ret2
            exact TimeSaid.no HN.out hB2
      case rest =>
        obtain ⟨t, rfl, HF, hBc⟩ := hcut
        have HF2 := hd HF.out.is
        have HS := hd (Cal.six_le HF2.out.2 HF2.out.1)
        clear HC HT HD HnS HNo
        go_upto_block 1 with (first | (refine wpl_alloc rfl 61 rfl _ arr6_zero ?_))
        obtain ⟨g8, Hg8⟩ : ∃ y, Hd (wc.heap.size = y) := ⟨_, ⟨rfl⟩⟩
        have hg8 : w.heap.size ≤ g8 := by rw [← Hg8.out]; exact hBc.size
        have hb0 : Blk (wc.alloc (.cells #[.int .i64 0, .int .i64 0, .int .i64 0, .int .i64 0, .int .i64 0, .int .i64 0] 61)) g8 61 (Cal.arr6 t 0) := by rw [← Hg8.out]; exact Blk.nu rfl
        have hBa := hBc.alloc hBc.size (.cells #[.int .i64 0, .int .i64 0, .int .i64 0, .int .i64 0, .int .i64 0, .int .i64 0] 61)
        rw [Hg8.out]
        go_wp2_with fail
        go_loopw [51] (fun s51 wr => ∃ k : Nat, k ≤ 6 ∧ s51 = .int .i64 (k : Int) ∧ Blk wr g8 61 (Cal.arr6 t k) ∧ Below w.heap.size w wr) (fun s51 _ => 6 - (intOf s51).toNat)
        case atStart => exact ⟨0, by omega, rfl, hb0, hBa⟩
        case round =>
          clear hb0 hBa
          obtain ⟨k, hk, rfl, hbl, hbr⟩ := hrel
          rcases (show k = 0 ∨ k = 1 ∨ k = 2 ∨ k = 3 ∨ k = 4 ∨ k = 5 ∨ k = 6 by omega) with rfl | rfl | rfl | rfl | rfl | rfl | rfl
          · have hb := hbl
            have Hat := hd (show Lib.atoi ((t.drop 0).take (4 - 0)) = some ((Cal.six t 0 : Nat) : Int) from Cal.atoi_at HF2.out.2 HF2.out.1 0 (by decide))
            obtain ⟨m, Hm⟩ : ∃ y, Hd ((t.drop 0).take (4 - 0) = y) := ⟨_, ⟨rfl⟩⟩
            have HmL := hd (show m.length ≤ 18 by rw [← Hm.out, List.length_take]; omega)
            rw [Hm.out] at Hat
            obtain ⟨v, Hv⟩ : ∃ y, Hd (Cal.six t 0 = y) := ⟨_, ⟨rfl⟩⟩
            rw [Hv.out] at Hat
            have HA := hd (Tryd.strconv_Atoi (str m) (v : Int) (by rw [str_size]; exact HmL.out) (by rw [show (str m).data.toList = m by simp [str]]; exact Hat.out) wr)
            clear hb

            go_wp2_with (first
              | (go_at_call 26; refine HA.out.mono ?_; rintro e w5 ⟨rfl, tz, e5⟩; have hB5 : Below wr.heap.size wr w5 := (by rw [e5]; exact Lib.bytesWorld_below _ _ _); clear e5; have b5 := hbl.below hB5 hbl.lt; have c5 := b5.cell 0; have f5 := b5.frozen 0)
              | (with_reducible change wpList _ _ _ (⟨some 67, _, _, _, _, _⟩ :: _) _ _; refine wpl_run (o := ⟨some 67, _, _, _, _, _⟩) (by simp [Region.wanted, yielded, Act.put]) (.string (str m)) (Hm.out ▸ run_cutS (by rfl) Tryd.underlying9 t 0 4 (by simp [Act.eval, Act.put]) (by simp [Act.eval, Act.put]) (by simp [Act.eval, Act.put]) (by omega) (by have := HF2.out.1; omega)) ?_))
            go_roundw
            case rel => exact ⟨1, by omega, rfl, by have h := b5.set_ 0 (.int .i64 (v : Int)); rw [← Hv.out] at h ⊢; exact h, (hbr.trans (hB5.mono hbr.size)).setCell (by show g8 ≥ _; omega) _⟩
            case measure => simp [intOf]
          · have hb := hbl
            have Hat := hd (show Lib.atoi ((t.drop 4).take (6 - 4)) = some ((Cal.six t 1 : Nat) : Int) from Cal.atoi_at HF2.out.2 HF2.out.1 1 (by decide))
            obtain ⟨m, Hm⟩ : ∃ y, Hd ((t.drop 4).take (6 - 4) = y) := ⟨_, ⟨rfl⟩⟩
            have HmL := hd (show m.length ≤ 18 by rw [← Hm.out, List.length_take]; omega)
            rw [Hm.out] at Hat
            obtain ⟨v, Hv⟩ : ∃ y, Hd (Cal.six t 1 = y) := ⟨_, ⟨rfl⟩⟩
            rw [Hv.out] at Hat
            have HA := hd (Tryd.strconv_Atoi (str m) (v : Int) (by rw [str_size]; exact HmL.out) (by rw [show (str m).data.toList = m by simp [str]]; exact Hat.out) wr)
            clear hb
            have mx : max (0 : Int) 4 = 4 := by decide
            go_wp2_with (first
              | (go_at_call 26; refine HA.out.mono ?_; rintro e w5 ⟨rfl, tz, e5⟩; have hB5 : Below wr.heap.size wr w5 := (by rw [e5]; exact Lib.bytesWorld_below _ _ _); clear e5; have b5 := hbl.below hB5 hbl.lt; have c5 := b5.cell 1; have f5 := b5.frozen 1)
              | (with_reducible change wpList _ _ _ (⟨some 67, _, _, _, _, _⟩ :: _) _ _; refine wpl_run (o := ⟨some 67, _, _, _, _, _⟩) (by simp [Region.wanted, yielded, Act.put]) (.string (str m)) (Hm.out ▸ run_cutS (by rfl) Tryd.underlying9 t 4 6 (by simp [Act.eval, Act.put]) (by simp [Act.eval, Act.put]) (by simp [Act.eval, Act.put]) (by omega) (by have := HF2.out.1; omega)) ?_))
            go_roundw
            case rel => exact ⟨2, by omega, rfl, by have h := b5.set_ 1 (.int .i64 (v : Int)); rw [← Hv.out] at h ⊢; exact h, (hbr.trans (hB5.mono hbr.size)).setCell (by show g8 ≥ _; omega) _⟩
            case measure => simp [intOf]
          · have hb := hbl
            have Hat := hd (show Lib.atoi ((t.drop 6).take (8 - 6)) = some ((Cal.six t 2 : Nat) : Int) from Cal.atoi_at HF2.out.2 HF2.out.1 2 (by decide))
            obtain ⟨m, Hm⟩ : ∃ y, Hd ((t.drop 6).take (8 - 6) = y) := ⟨_, ⟨rfl⟩⟩
            have HmL := hd (show m.length ≤ 18 by rw [← Hm.out, List.length_take]; omega)
            rw [Hm.out] at Hat
            obtain ⟨v, Hv⟩ : ∃ y, Hd (Cal.six t 2 = y) := ⟨_, ⟨rfl⟩⟩
            rw [Hv.out] at Hat
            have HA := hd (Tryd.strconv_Atoi (str m) (v : Int) (by rw [str_size]; exact HmL.out) (by rw [show (str m).data.toList = m by simp [str]]; exact Hat.out) wr)
            clear hb
            have mx : max (0 : Int) 6 = 6 := by decide
            go_wp2_with (first
              | (go_at_call 26; refine HA.out.mono ?_; rintro e w5 ⟨rfl, tz, e5⟩; have hB5 : Below wr.heap.size wr w5 := (by rw [e5]; exact Lib.bytesWorld_below _ _ _); clear e5; have b5 := hbl.below hB5 hbl.lt; have c5 := b5.cell 2; have f5 := b5.frozen 2)
              | (with_reducible change wpList _ _ _ (⟨some 67, _, _, _, _, _⟩ :: _) _ _; refine wpl_run (o := ⟨some 67, _, _, _, _, _⟩) (by simp [Region.wanted, yielded, Act.put]) (.string (str m)) (Hm.out ▸ run_cutS (by rfl) Tryd.underlying9 t 6 8 (by simp [Act.eval, Act.put]) (by simp [Act.eval, Act.put]) (by simp [Act.eval, Act.put]) (by omega) (by have := HF2.out.1; omega)) ?_))
            go_roundw
            case rel => exact ⟨3, by omega, rfl, by have h := b5.set_ 2 (.int .i64 (v : Int)); rw [← Hv.out] at h ⊢; exact h, (hbr.trans (hB5.mono hbr.size)).setCell (by show g8 ≥ _; omega) _⟩
            case measure => simp [intOf]
          · have hb := hbl
            have Hat := hd (show Lib.atoi ((t.drop 8).take (10 - 8)) = some ((Cal.six t 3 : Nat) : Int) from Cal.atoi_at HF2.out.2 HF2.out.1 3 (by decide))
            obtain ⟨m, Hm⟩ : ∃ y, Hd ((t.drop 8).take (10 - 8) = y) := ⟨_, ⟨rfl⟩⟩
            have HmL := hd (show m.length ≤ 18 by rw [← Hm.out, List.length_take]; omega)
            rw [Hm.out] at Hat
            obtain ⟨v, Hv⟩ : ∃ y, Hd (Cal.six t 3 = y) := ⟨_, ⟨rfl⟩⟩
            rw [Hv.out] at Hat
            have HA := hd (Tryd.strconv_Atoi (str m) (v : Int) (by rw [str_size]; exact HmL.out) (by rw [show (str m).data.toList = m by simp [str]]; exact Hat.out) wr)
            clear hb
            have mx : max (0 : Int) 8 = 8 := by decide
            go_wp2_with (first
              | (go_at_call 26; refine HA.out.mono ?_; rintro e w5 ⟨rfl, tz, e5⟩; have hB5 : Below wr.heap.size wr w5 := (by rw [e5]; exact Lib.bytesWorld_below _ _ _); clear e5; have b5 := hbl.below hB5 hbl.lt; have c5 := b5.cell 3; have f5 := b5.frozen 3)
              | (with_reducible change wpList _ _ _ (⟨some 67, _, _, _, _, _⟩ :: _) _ _; refine wpl_run (o := ⟨some 67, _, _, _, _, _⟩) (by simp [Region.wanted, yielded, Act.put]) (.string (str m)) (Hm.out ▸ run_cutS (by rfl) Tryd.underlying9 t 8 10 (by simp [Act.eval, Act.put]) (by simp [Act.eval, Act.put]) (by simp [Act.eval, Act.put]) (by omega) (by have := HF2.out.1; omega)) ?_))
            go_roundw
            case rel => exact ⟨4, by omega, rfl, by have h := b5.set_ 3 (.int .i64 (v : Int)); rw [← Hv.out] at h ⊢; exact h, (hbr.trans (hB5.mono hbr.size)).setCell (by show g8 ≥ _; omega) _⟩
            case measure => simp [intOf]
          · have hb := hbl
            have Hat := hd (show Lib.atoi ((t.drop 10).take (12 - 10)) = some ((Cal.six t 4 : Nat) : Int) from Cal.atoi_at HF2.out.2 HF2.out.1 4 (by decide))
            obtain ⟨m, Hm⟩ : ∃ y, Hd ((t.drop 10).take (12 - 10) = y) := ⟨_, ⟨rfl⟩⟩
            have HmL := hd (show m.length ≤ 18 by rw [← Hm.out, List.length_take]; omega)
            rw [Hm.out] at Hat
            obtain ⟨v, Hv⟩ : ∃ y, Hd (Cal.six t 4 = y) := ⟨_, ⟨rfl⟩⟩
            rw [Hv.out] at Hat
            have HA := hd (Tryd.strconv_Atoi (str m) (v : Int) (by rw [str_size]; exact HmL.out) (by rw [show (str m).data.toList = m by simp [str]]; exact Hat.out) wr)
            clear hb
            have mx : max (0 : Int) 10 = 10 := by decide
            go_wp2_with (first
              | (go_at_call 26; refine HA.out.mono ?_; rintro e w5 ⟨rfl, tz, e5⟩; have hB5 : Below wr.heap.size wr w5 := (by rw [e5]; exact Lib.bytesWorld_below _ _ _); clear e5; have b5 := hbl.below hB5 hbl.lt; have c5 := b5.cell 4; have f5 := b5.frozen 4)
              | (with_reducible change wpList _ _ _ (⟨some 67, _, _, _, _, _⟩ :: _) _ _; refine wpl_run (o := ⟨some 67, _, _, _, _, _⟩) (by simp [Region.wanted, yielded, Act.put]) (.string (str m)) (Hm.out ▸ run_cutS (by rfl) Tryd.underlying9 t 10 12 (by simp [Act.eval, Act.put]) (by simp [Act.eval, Act.put]) (by simp [Act.eval, Act.put]) (by omega) (by have := HF2.out.1; omega)) ?_))
            go_roundw
            case rel => exact ⟨5, by omega, rfl, by have h := b5.set_ 4 (.int .i64 (v : Int)); rw [← Hv.out] at h ⊢; exact h, (hbr.trans (hB5.mono hbr.size)).setCell (by show g8 ≥ _; omega) _⟩
            case measure => simp [intOf]
          · have hb := hbl
            have Hat := hd (show Lib.atoi ((t.drop 12).take (14 - 12)) = some ((Cal.six t 5 : Nat) : Int) from Cal.atoi_at HF2.out.2 HF2.out.1 5 (by decide))
            obtain ⟨m, Hm⟩ : ∃ y, Hd ((t.drop 12).take (14 - 12) = y) := ⟨_, ⟨rfl⟩⟩
            have HmL := hd (show m.length ≤ 18 by rw [← Hm.out, List.length_take]; omega)
            rw [Hm.out] at Hat
            obtain ⟨v, Hv⟩ : ∃ y, Hd (Cal.six t 5 = y) := ⟨_, ⟨rfl⟩⟩
            rw [Hv.out] at Hat
            have HA := hd (Tryd.strconv_Atoi (str m) (v : Int) (by rw [str_size]; exact HmL.out) (by rw [show (str m).data.toList = m by simp [str]]; exact Hat.out) wr)
            clear hb
            have mx : max (0 : Int) 12 = 12 := by decide
            go_wp2_with (first
              | (go_at_call 26; refine HA.out.mono ?_; rintro e w5 ⟨rfl, tz, e5⟩; have hB5 : Below wr.heap.size wr w5 := (by rw [e5]; exact Lib.bytesWorld_below _ _ _); clear e5; have b5 := hbl.below hB5 hbl.lt; have c5 := b5.cell 5; have f5 := b5.frozen 5)
              | (with_reducible change wpList _ _ _ (⟨some 67, _, _, _, _, _⟩ :: _) _ _; refine wpl_run (o := ⟨some 67, _, _, _, _, _⟩) (by simp [Region.wanted, yielded, Act.put]) (.string (str m)) (Hm.out ▸ run_cutS (by rfl) Tryd.underlying9 t 12 14 (by simp [Act.eval, Act.put]) (by simp [Act.eval, Act.put]) (by simp [Act.eval, Act.put]) (by omega) (by have := HF2.out.1; omega)) ?_))
            go_roundw
            case rel => exact ⟨6, by omega, rfl, by have h := b5.set_ 5 (.int .i64 (v : Int)); rw [← Hv.out] at h ⊢; exact h, (hbr.trans (hB5.mono hbr.size)).setCell (by show g8 ≥ _; omega) _⟩
            case measure => simp [intOf]
          · have c0 := hbl.cell 0
            have c1 := hbl.cell 1
            have c2 := hbl.cell 2
            have c3 := hbl.cell 3
            have c4 := hbl.cell 4
            have c5 := hbl.cell 5
            simp [Cal.arr6] at c0 c1 c2 c3 c4 c5
            have hs0 := HS.out.1
            have hs1 := HS.out.2 1 (by decide) (by decide)
            have hs2 := HS.out.2 2 (by decide) (by decide)
            have hs3 := HS.out.2 3 (by decide) (by decide)
            have hs4 := HS.out.2 4 (by decide) (by decide)
            have hs5 := HS.out.2 5 (by decide) (by decide)
            have HOK := hd (show Cal.OK t ↔ (1 ≤ Cal.six t 0 ∧ Cal.Valid (Cal.six t 0) (Cal.six t 1) (Cal.six t 2) ∧ Cal.six t 3 ≤ 23 ∧ Cal.six t 4 ≤ 59 ∧ Cal.six t 5 ≤ 59) from Iff.rfl)
            have HFI := hd (show Cal.FIN t = ((Cal.day (Cal.six t 0) (Cal.six t 1) (Cal.six t 2) : Nat) - 2180438) * 86400 + ((Cal.six t 3 : Int) * 3600 + (Cal.six t 4 : Int) * 60 + (Cal.six t 5 : Int)) from rfl)
            obtain ⟨p0, Hp0⟩ : ∃ y, Hd (Cal.six t 0 = y) := ⟨_, ⟨rfl⟩⟩
            rw [Hp0.out] at c0 hs0 HOK HFI
            obtain ⟨p1, Hp1⟩ : ∃ y, Hd (Cal.six t 1 = y) := ⟨_, ⟨rfl⟩⟩
            rw [Hp1.out] at c1 hs1 HOK HFI
            obtain ⟨p2, Hp2⟩ : ∃ y, Hd (Cal.six t 2 = y) := ⟨_, ⟨rfl⟩⟩
            rw [Hp2.out] at c2 hs2 HOK HFI
            obtain ⟨p3, Hp3⟩ : ∃ y, Hd (Cal.six t 3 = y) := ⟨_, ⟨rfl⟩⟩
            rw [Hp3.out] at c3 hs3 HOK HFI
            obtain ⟨p4, Hp4⟩ : ∃ y, Hd (Cal.six t 4 = y) := ⟨_, ⟨rfl⟩⟩
            rw [Hp4.out] at c4 hs4 HOK HFI
            obtain ⟨p5, Hp5⟩ : ∃ y, Hd (Cal.six t 5 = y) := ⟨_, ⟨rfl⟩⟩
            rw [Hp5.out] at c5 hs5 HOK HFI
            obtain ⟨dn, Hdn⟩ : ∃ y, Hd (Cal.day p0 p1 p2 = y) := ⟨_, ⟨rfl⟩⟩
            have hdn : (dn : Int) ≤ 6000000 := by rw [← Hdn.out]; exact Cal.day_le hs0 hs1 hs2
            have HDy := hd (dayOf_any p0 p1 p2 (by omega) (by omega) (by omega) wr)
            have HDt := hd (dated_any dn (by omega) wr)
            have HV := hd (fun (h0 : 1 ≤ p0) (h1 : 1 ≤ p1) (h2 : p1 ≤ 12) => show Cal.Valid p0 p1 p2 ↔ (Cal.yInt dn = (p0 : Int) ∧ Cal.mOf dn = p1 ∧ Cal.dOf dn = p2) by
              have hz := Cal.z_of_day (d := p2) h0 h1 h2
              rw [Hdn.out] at hz
              have hy : Cal.yInt dn = ((Cal.yOf dn : Nat) : Int) := by unfold Cal.yInt Cal.yOf; split <;> omega
              rw [hy]
              constructor
              · intro h
                have h3 := Cal.date_back h0 h
                rw [Hdn.out] at h3
                exact ⟨by rw [h3.1], h3.2.1, h3.2.2⟩
              · intro h
                have h3 := Cal.date_only h0 h1 h2 (d := p2)
                rw [Hdn.out] at h3
                exact h3 ⟨by have := h.1; omega, h.2.1, h.2.2⟩)
            rw [Hdn.out] at HDy HFI
            obtain ⟨Y, HY⟩ : ∃ y, Hd (Cal.yInt dn = y) := ⟨_, ⟨rfl⟩⟩
            obtain ⟨M, HM⟩ : ∃ y, Hd (Cal.mOf dn = y) := ⟨_, ⟨rfl⟩⟩
            obtain ⟨D, HDD⟩ : ∃ y, Hd (Cal.dOf dn = y) := ⟨_, ⟨rfl⟩⟩
            rw [HY.out, HM.out, HDD.out] at HDt HV
            clear hbl
            go_upto_region 21 with (first
              | (go_at_call 28; refine HDt.out.mono ?_; rintro e w5 ⟨rfl, e5⟩; rw [e5]; clear e5 w5)
              | (go_at_call 27; refine HDy.out.mono ?_; rintro e w5 ⟨rfl, e5⟩; rw [e5]; clear e5 w5))
            clear HDt HDy
            by_cases k0 : p0 < 1
            · have t0 : (p0 : Int) < 1 := by omega
              have hno := hd (show ¬ Cal.OK t from fun h => by have h1 := HOK.out.1 h; omega)
              go_wp2
              go_ret2
              exact TimeSaid.bad HF.out hno.out hbr
            by_cases k1 : p1 < 1
            · have t0 : ¬ (p0 : Int) < 1 := by omega
              have t1 : (p1 : Int) < 1 := by omega
              have hno := hd (show ¬ Cal.OK t from fun h => by have h1 := HOK.out.1 h; have h2 := h1.2.1.1; omega)
              go_wp2
              go_ret2
              exact TimeSaid.bad HF.out hno.out hbr
            by_cases k2 : 12 < p1
            · have t0 : ¬ (p0 : Int) < 1 := by omega
              have t1 : ¬ (p1 : Int) < 1 := by omega
              have t2 : (12 : Int) < (p1 : Int) := by omega
              have hno := hd (show ¬ Cal.OK t from fun h => by have h1 := HOK.out.1 h; have h2 := h1.2.1.2.1; omega)
              go_wp2
              go_ret2
              exact TimeSaid.bad HF.out hno.out hbr
            have HVi := hd (HV.out (by omega) (by omega) (by omega))
            have t0 : ¬ (p0 : Int) < 1 := by omega
            have t1 : ¬ (p1 : Int) < 1 := by omega
            have t2 : ¬ (12 : Int) < (p1 : Int) := by omega
            clear HV HY HM HDD k0 k1 k2
            by_cases k3 : ¬ Y = (p0 : Int)
            · have t3 : (Y != (p0 : Int)) = true := by simpa using k3
              have hno := hd (show ¬ Cal.OK t from fun h => by have h1 := HOK.out.1 h; exact k3 ((HVi.out.1 h1.2.1).1))
              go_wp2
              go_ret2
              exact TimeSaid.bad HF.out hno.out hbr
            replace k3 := Classical.not_not.1 k3
            subst k3
            by_cases k4 : ¬ M = p1
            · have t4 : ((M : Int) != (p1 : Int)) = true := by simp; omega
              have hno := hd (show ¬ Cal.OK t from fun h => by have h1 := HOK.out.1 h; exact k4 ((HVi.out.1 h1.2.1).2.1))
              go_wp2
              go_ret2
              exact TimeSaid.bad HF.out hno.out hbr
            replace k4 := Classical.not_not.1 k4
            subst k4
            by_cases k5 : ¬ D = p2
            · have t5 : ((D : Int) != (p2 : Int)) = true := by simp; omega
              have hno := hd (show ¬ Cal.OK t from fun h => by have h1 := HOK.out.1 h; exact k5 ((HVi.out.1 h1.2.1).2.2))
              go_wp2
              go_ret2
              exact TimeSaid.bad HF.out hno.out hbr
            replace k5 := Classical.not_not.1 k5
            subst k5
            have hval := HVi.out.2 ⟨rfl, rfl, rfl⟩
            have HVal := hd hval
            clear hval HVi
            by_cases k6 : 23 < p3
            · have t6 : (23 : Int) < (p3 : Int) := by omega
              have hno := hd (show ¬ Cal.OK t from fun h => by have h1 := HOK.out.1 h; have h2 := h1.2.2.1; omega)
              go_wp2
              go_ret2
              exact TimeSaid.bad HF.out hno.out hbr
            have t6 : ¬ (23 : Int) < (p3 : Int) := by omega
            by_cases k7 : 59 < p4
            · have t7 : (59 : Int) < (p4 : Int) := by omega
              have hno := hd (show ¬ Cal.OK t from fun h => by have h1 := HOK.out.1 h; have h2 := h1.2.2.2.1; omega)
              go_wp2
              go_ret2
              exact TimeSaid.bad HF.out hno.out hbr
            have t7 : ¬ (59 : Int) < (p4 : Int) := by omega
            by_cases k8 : 59 < p5
            · have t8 : (59 : Int) < (p5 : Int) := by omega
              have hno := hd (show ¬ Cal.OK t from fun h => by have h1 := HOK.out.1 h; have h2 := h1.2.2.2.2; omega)
              go_wp2
              go_ret2
              exact TimeSaid.bad HF.out hno.out hbr
            have t8 : ¬ (59 : Int) < (p5 : Int) := by omega
            have hyes := hd (show Cal.OK t from HOK.out.2 ⟨by omega, HVal.out, by omega, by omega, by omega⟩)
            clear HOK HVal
            go_wp2
            go_ret2
            have hg := TimeSaid.good HF.out hyes.out hbr
            rw [HFI.out] at hg
            exact hg
    · have hT : ¬ (trimR (inSet Cal.digits) s).dropWhile (inSet Cal.digits) = [] := fun h => hD ((Cal.trim_nil s).1 h)
      have HN := hd (show ¬ ∃ t, Cal.Form tag (s ++ [90]) t by
        rintro ⟨t, s', e', h, _⟩
        obtain rfl : s = s' := List.append_cancel_right e'
        exact hD h)
      obtain ⟨m, Hm⟩ : ∃ y, Hd ((trimR (inSet Cal.digits) s).dropWhile (inSet Cal.digits) = y) := ⟨_, ⟨rfl⟩⟩
      rw [Hm.out] at HT hT
      have HT0 := hd (show (!decide (m = [])) = true by simpa using hT)
      obtain ⟨b, Hb⟩ : ∃ y, Hd (s ++ [90] = y) := ⟨_, ⟨rfl⟩⟩
      rw [Hb.out] at hr HC Hl HN ⊢
      clear hT hD
      go_enter Tryd.func14, Tryd.ntmps14
      go_wp2_with (first
        | (with_reducible change wpList _ _ _ (⟨some 26, _, _, _, _, _⟩ :: _) _ _; refine wpl_run (o := ⟨some 26, _, _, _, _, _⟩) (by simp [Region.wanted, yielded, Act.put]) (.bool true) (HT0.out ▸ run_neqS (by rfl) m [] (by simp [Act.eval, Act.put]) (by simp [Act.eval, Act.put, str]) _) ?_)
        | (go_at_call 25; refine HT.out.mono ?_; rintro e w2 ⟨rfl, hB2⟩)
        | (go_at_call 24; refine HC.out.mono ?_; rintro e w1 ⟨rfl, e1⟩; rw [e1]; clear e1 w1)
        | (with_reducible change wpList _ _ _ (⟨some 17, _, _, _, _, _⟩ :: _) _ _; refine wpl_run (o := ⟨some 17, _, _, _, _, _⟩) (by simp [Region.wanted, yielded, Act.put]) (.string (str b)) (run_toStr (by rfl) Tryd.underlying22 Tryd.underlying5 Tryd.underlying9 _ A n c b (by simp [Act.eval, Act.put]) hr) ?_))
      go_ret2
      exact TimeSaid.no HN.out hB2
  · have hns := Cal.suffix_no b hz
    rw [hns, show Lib.trimSuffix b [90] = b by unfold Lib.trimSuffix; rw [hns]; rfl, show (⟨b.toArray⟩ : ByteArray) = str b from rfl] at HC0
    have HC := hd HC0
    have HN := hd (show ¬ ∃ t, Cal.Form tag b t by
      rintro ⟨t, s', e', _⟩
      exact hz ⟨s', e'⟩)
    clear HC0 ed hns hz
    go_enter Tryd.func14, Tryd.ntmps14
    go_wp2_with (first
      | (go_at_call 24; refine HC.out.mono ?_; rintro e w1 ⟨rfl, e1⟩; rw [e1]; clear e1 w1)
      | (with_reducible change wpList _ _ _ (⟨some 17, _, _, _, _, _⟩ :: _) _ _; refine wpl_run (o := ⟨some 17, _, _, _, _, _⟩) (by simp [Region.wanted, yielded, Act.put]) (.string (str b)) (run_toStr (by rfl) Tryd.underlying22 Tryd.underlying5 Tryd.underlying9 _ A n c b (by simp [Act.eval, Act.put]) hr) ?_))
    go_ret2
    exact TimeSaid.no HN.out (Below.refl _ _)
end Go.Proofs.YthkggeohdclffaaDoor
