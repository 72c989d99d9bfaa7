/-
  The law DerNests, walked.
-/
import Derived.Test.YthkggeohdclffaaDoorDerO
import Derived.Deep.DeepCutAuto
import Derived.Deep.CutBlock
set_option linter.unusedVariables false
set_option linter.unusedSimpArgs false
set_option maxRecDepth 100000
namespace Go.Proofs.YthkggeohdclffaaDoor
open Go.RowKit
namespace Der
/-- What lies between two rounds of the first loop. -/
structure Ns (w1 wr : World) (bd wn : Value) (ws : List (UInt8 × List UInt8)) (ps : List Part) : Prop where
  own : OwnB wr w1.heap.size bd (blob ws)
  txt : OwnW wr w1.heap.size wn ps
  same : ps.map (·.t) = ws.map (fun p => put p.1 p.2)
  fits : ∀ p ∈ ws, Fits p.1 p.2
  few : (blob ws).length ≤ 20010
  far : ∀ p ∈ ps, (sl p).ownBlock = none ∨ (sl p).ownBlock ≠ bd.ownBlock
  below : Below w1.heap.size w1 wr
theorem Ns.next {w1 wr wr' : World} {bd wn : Value} {ws : List (UInt8 × List UInt8)} {ps : List Part} (h : Ns w1 wr bd wn ws ps) (hb : Below wr.heap.size wr wr') : Ns w1 wr' bd wn ws ps :=
  ⟨h.own.later hb, h.txt.later hb, h.same, h.fits, h.few, h.far, h.below.trans (hb.mono h.below.size)⟩
def nest : Nat → List UInt8 → List UInt8
  | 0, b => b
  | k + 1, b => put 48 (nest k b)
theorem nest_len (b : List UInt8) (hb : b.length ≤ 60000) : ∀ k, (nest k b).length ≤ b.length + 4 * k
  | 0 => by simp [nest]
  | k + 1 => by
    have ih := nest_len b hb k
    show (put 48 (nest k b)).length ≤ _
    by_cases h : Fits 48 (nest k b)
    · have := (put_pos 48 _ h).2; omega
    · rw [put_none _ _ h]; simp
theorem blob_len (ws : List (UInt8 × List UInt8)) (h : ∀ p ∈ ws, Fits p.1 p.2) : ws.length ≤ (blob ws).length := by
  induction ws with
  | nil => simp [blob]
  | cons p r ih =>
    have h1 := (put_pos p.1 p.2 (h p (by simp))).1
    have h2 := ih fun q hq => h q (by simp [hq])
    simp only [blob, List.length_append, List.length_cons]
    omega
theorem Ns.count {w1 wr : World} {bd wn : Value} {ws : List (UInt8 × List UInt8)} {ps : List Part} (h : Ns w1 wr bd wn ws ps) : ps.length = ws.length ∧ ps.length ≤ 20010 := by
  have h1 := congrArg List.length h.same
  rw [List.length_map, List.length_map] at h1
  have h2 := blob_len ws h.fits
  have h3 := h.few
  exact ⟨h1, by omega⟩
/-- A text is put behind. -/
theorem Ns.more {w1 W We W2 : World} {bd bd' wn wn' : Value} {ws : List (UInt8 × List UInt8)} {ps : List Part} {t : UInt8} {l : List UInt8} {p : Part} (h : Ns w1 W bd wn ws ps) (ht : p.t = put t l) (hf : Fits t l) (hfew : (blob ws).length + (put t l).length ≤ 20010)
    (hpb : (sl p).ownBlock = none ∨ (sl p).ownBlock ≠ bd.ownBlock) (hplt : ∀ g, (sl p).ownBlock = some g → g < We.heap.size) (hW : Below w1.heap.size w1 We) (hsz : W.heap.size ≤ We.heap.size) (htx : OwnW We w1.heap.size wn' (ps ++ [p])) (hbo : OwnB We w1.heap.size bd (blob ws)) (hg : We.grownBy W2 bd.ownBlock) (ho : OwnB W2 w1.heap.size bd' (blob ws ++ put t l)) (hat : bd'.ownBlock = bd.ownBlock ∨ bd'.ownBlock = some We.heap.size) :
    Ns w1 W2 bd' wn' (ws ++ [(t, l)]) (ps ++ [p]) := by
  have hfar : ∀ q ∈ ps ++ [p], (sl q).ownBlock = none ∨ (sl q).ownBlock ≠ bd.ownBlock := fun q hq => by
    rcases List.mem_append.1 hq with h1 | h1
    · exact h.far q h1
    · obtain rfl : q = p := by simpa using h1
      exact hpb
  have hlt : ∀ q ∈ ps ++ [p], ∀ g, (sl q).ownBlock = some g → g < We.heap.size := fun q hq g e => by
    rcases List.mem_append.1 hq with h1 | h1
    · rcases (h.txt.bodies q h1).size with e2 | ⟨g', e2, _, h3⟩
      · rw [e2] at e; cases e
      · rw [e2] at e; injection e; omega
    · obtain rfl : q = p := by simpa using h1
      exact hplt g e
  refine ⟨by rw [blob_snoc]; exact ho, htx.beside hbo hg hfar, ?_, ?_, ?_, ?_, ?_⟩
  · rw [List.map_append, List.map_append, h.same, List.map_cons, List.map_nil, ht, List.map_cons, List.map_nil]
  · intro q hq
    rcases List.mem_append.1 hq with h1 | h1
    · exact h.fits q h1
    · obtain rfl : q = (t, l) := by simpa using h1
      exact hf
  · rw [blob_snoc, List.length_append]; exact hfew
  · intro q hq
    rcases hfar q hq with e | e
    · exact .inl e
    · refine .inr ?_
      rcases hat with e2 | e2
      · rw [e2]; exact e
      · rw [e2]; intro e3; have := hlt q hq _ e3; omega
  · refine hW.grown hg hW.size fun k hk => ?_
    rcases hbo.size with e | ⟨g, e, h1, _⟩
    · rw [e] at hk; cases hk
    · rw [e] at hk; injection hk; omega
end Der
set_option maxHeartbeats 8000000 in
set_option maxRecDepth 100000 in
theorem nests_any (A : Option Addr) (n c : Nat) (lps : List Part) (D : Option Addr) (m d : Nat) (tl : List UInt8) (deep : UInt8) (w : World) (hp : Parts w w.heap.size A n lps) (hn : n ≤ 140737488355328) (ht : ReadsB w w.heap.size D m tl) (hm : m ≤ 140737488355328) (htab : Lib.TabIs Tryd.prog w "internal/strconv.uint64pow10" .u64 Lib.pow10Tab) :
    Calls Tryd.prog 5 #[.slice A n c, .slice D m d, .int .u8 ((n8 deep : Nat) : Int)] w fun e w' => e = .returned (.bool true) ∧ Below w.heap.size w w' := by
  have Hn := hd hn
  go_enter Tryd.func5, Tryd.ntmps5
  go_upto_block 0 with (first | (go_at_call 7; refine (head14_any w htab).mono ?_; rintro e w1 ⟨rfl, hB1⟩))
  go_cut [8, 9] (fun bd wn wx => ∃ ws ps, Der.Ns w1 wx bd wn ws ps)
  case first =>
    go_wp2_with fail
    go_loopw [8, 9, 10] (fun bd wn i wr => ∃ (k : Nat) (ws : List (UInt8 × List UInt8)) (ps : List Part), k ≤ n ∧ i = .int .i64 (k : Int) ∧ Der.Ns w1 wr bd wn ws ps) (fun _ _ i _ => n - (intOf i).toNat)
    case atStart => exact ⟨0, [], [], Nat.zero_le _, rfl, OwnB.nil _ _, Der.OwnW.nil _ _, rfl, fun _ h => absurd h List.not_mem_nil, by simp [Der.blob], fun _ h => absurd h List.not_mem_nil, Below.refl _ _⟩
    case round =>
      obtain ⟨k, ws, ps, hk, rfl, hN⟩ := hrel
      have wk : IntKind.i64.wrap ((k : Int) + 1) = (k : Int) + 1 := IntWalk.i64_in _ (by have := Hn.out; omega)
      obtain ⟨A8, c8, e8⟩ := hN.own.slice
      obtain ⟨bn, Hbn⟩ : ∃ y, Hd ((Der.blob ws).length = y) := ⟨_, ⟨rfl⟩⟩
      rw [Hbn.out] at e8
      subst e8
      have hfew := hN.few
      rw [Hbn.out] at hfew
      by_cases h1 : k < n
      · have t1 : (k : Int) < (n : Int) := by omega
        by_cases h2 : k < m
        · have t2 : (k : Int) < (m : Int) := by omega
          obtain ⟨la, rfl, hla, hlc, hlr, hln⟩ := hp.is k h1
          obtain ⟨pt, Hpt⟩ : ∃ y, Hd (part lps k = y) := ⟨_, ⟨rfl⟩⟩
          rw [Hpt.out] at hlc hlr hln
          obtain ⟨ta, rfl, hta, htc⟩ := ht.cell h2
          obtain ⟨tg, Htg⟩ : ∃ y, Hd (nth tl k = y) := ⟨_, ⟨rfl⟩⟩
          rw [Htg.out] at htc
          have hBr := hB1.trans (hN.below.mono hB1.size)
          have hlcr : wr.cell? (la.add k) = some (.slice pt.D pt.n pt.d) := (hBr.cell (p := la.add k) (by rw [block_of_add]; exact hla)).trans hlc
          have ws1 : IntKind.i64.wrap ((bn : Int) + (pt.n : Int)) = (bn : Int) + (pt.n : Int) := IntWalk.i64_in _ (by omega)
          by_cases h3 : bn + pt.n < 20000
          · have t3 : (bn : Int) + (pt.n : Int) < 20000 := by omega
            go_wp2
            refine p_start (fun W => Der.Ns w1 W (.slice A8 bn c8) u9 ws ps ∧ wr.heap.size ≤ W.heap.size) (by kernel_rfl) ⟨hN.next (Below.refl _ _).drew, Nat.le_refl _⟩ ?_
            refine p_take 0 (o := _) rfl (by kernel_rfl) (by kernel_rfl) (by kernel_rfl) (wanted_plain rfl) (.slice (some ta) m d) (fun _ _ _ h => h) (fun W hW => run_move (by rfl) (by simp [Act.eval]) W) ?_
            simp only [Act.put, List.getElem_toArray, List.getElem_cons_succ, List.getElem_cons_zero, List.setIfInBounds_toArray, List.set_cons_zero, List.set_cons_succ]
            refine p_take 1 (o := _) rfl (by kernel_rfl) (by kernel_rfl) (by kernel_rfl) (wanted_plain rfl) (.int .i64 (k : Int)) (fun _ _ _ h => h) (fun W hW => run_move (by rfl) (by simp [Act.eval]) W) ?_
            simp only [Act.put, List.getElem_toArray, List.getElem_cons_succ, List.getElem_cons_zero, List.setIfInBounds_toArray, List.set_cons_zero, List.set_cons_succ]
            refine p_take 2 (o := _) rfl (by kernel_rfl) (by kernel_rfl) (by kernel_rfl) (wanted_plain rfl) (.pointer (some (ta.add (k * 1)))) (fun _ _ _ h => h) (fun W hW => Der.index (by rfl) Tryd.underlying22 Der.sz8 ta m d k (by simp [Act.eval]) (by simp [Act.eval]) h2) ?_
            simp only [Act.put, List.getElem_toArray, List.getElem_cons_succ, List.getElem_cons_zero, List.setIfInBounds_toArray, List.set_cons_zero, List.set_cons_succ]
            refine p_take 3 (o := _) rfl (by kernel_rfl) (by kernel_rfl) (by kernel_rfl) (wanted_plain rfl) (.int .u8 ((n8 tg : Nat) : Int)) (fun _ _ _ h => h) (fun W hW => Der.ld Der.na8 (by rfl) (ta.add (k * 1)) _ (by simp [Act.eval]) (by rw [Nat.mul_one]; exact ((hB1.trans (hW.1.below.mono hB1.size)).cell (p := ta.add k) (by rw [block_of_add]; exact hta)).trans htc)) ?_
            simp only [Act.put, List.getElem_toArray, List.getElem_cons_succ, List.getElem_cons_zero, List.setIfInBounds_toArray, List.set_cons_zero, List.set_cons_succ]
            refine p_take 4 (o := _) rfl (by kernel_rfl) (by kernel_rfl) (by kernel_rfl) (wanted_plain rfl) (.slice (some la) n c) (fun _ _ _ h => h) (fun W hW => run_move (by rfl) (by simp [Act.eval]) W) ?_
            simp only [Act.put, List.getElem_toArray, List.getElem_cons_succ, List.getElem_cons_zero, List.setIfInBounds_toArray, List.set_cons_zero, List.set_cons_succ]
            refine p_take 5 (o := _) rfl (by kernel_rfl) (by kernel_rfl) (by kernel_rfl) (wanted_plain rfl) (.int .i64 (k : Int)) (fun _ _ _ h => h) (fun W hW => run_move (by rfl) (by simp [Act.eval]) W) ?_
            simp only [Act.put, List.getElem_toArray, List.getElem_cons_succ, List.getElem_cons_zero, List.setIfInBounds_toArray, List.set_cons_zero, List.set_cons_succ]
            refine p_take 6 (o := _) rfl (by kernel_rfl) (by kernel_rfl) (by kernel_rfl) (wanted_plain rfl) (.pointer (some (la.add (k * 1)))) (fun _ _ _ h => h) (fun W hW => Der.index (by rfl) Der.und_texts Der.szS la n c k (by simp [Act.eval]) (by simp [Act.eval]) h1) ?_
            simp only [Act.put, List.getElem_toArray, List.getElem_cons_succ, List.getElem_cons_zero, List.setIfInBounds_toArray, List.set_cons_zero, List.set_cons_succ]
            refine p_take 7 (o := _) rfl (by kernel_rfl) (by kernel_rfl) (by kernel_rfl) (wanted_plain rfl) (.slice pt.D pt.n pt.d) (fun _ _ _ h => h) (fun W hW => Der.ld Der.naS (by rfl) (la.add (k * 1)) _ (by simp [Act.eval]) (by rw [Nat.mul_one]; exact ((hB1.trans (hW.1.below.mono hB1.size)).cell (p := la.add k) (by rw [block_of_add]; exact hla)).trans hlc)) ?_
            simp only [Act.put, List.getElem_toArray, List.getElem_cons_succ, List.getElem_cons_zero, List.setIfInBounds_toArray, List.set_cons_zero, List.set_cons_succ]
            refine p_one 8 (by kernel_rfl) (fun W hW _ => ?_)
            refine op_do (o := _) rfl (wanted_plain rfl) _ _ (Der.build1 (by rfl) pt.D pt.n pt.d (by simp [Act.eval])) ?_
            have hBW := hB1.trans (hW.1.below.mono hB1.size)
            have hpp := parts_one (c := pt.d) (⟨hlr.len, (hlr.is.below hBW).more hBW.size⟩ : ReadsB W W.heap.size pt.D pt.n pt.t) hln
            have hE := (Below.refl W.heap.size W).alloc (Nat.le_refl _) (.cells #[.slice pt.D pt.n pt.d] 22)
            obtain ⟨gp, Hgp⟩ : ∃ y, Hd (W.heap.size = y) := ⟨_, ⟨rfl⟩⟩
            rw [Hgp.out] at hpp ⊢
            refine Next.mk (fun W => Der.Ns w1 W (.slice A8 bn c8) u9 ws ps ∧ wr.heap.size ≤ W.heap.size) (fun W => Parts W W.heap.size (some ⟨gp, 0, none⟩) 1 [⟨pt.D, pt.n, pt.d, pt.t⟩]) (fun _ h => h) ⟨hW.1.next hE, Nat.le_trans hW.2 hE.size⟩ hpp ?_
            clear hE hW hpp hBW
            simp only [Act.put, List.getElem_toArray, List.getElem_cons_succ, List.getElem_cons_zero, List.setIfInBounds_toArray, List.set_cons_zero, List.set_cons_succ]
            refine p_one 9 (by kernel_rfl) (fun W hW hx => ?_)
            refine op_call (o := _) rfl (wanted_plain rfl) 9 _ _ rfl #[.int .u8 ((n8 tg : Nat) : Int), .slice (some ⟨gp, 0, none⟩) 1 1] (by simp [Act.eval]) (Der.enter_put _) ?_
            have hju : joined [⟨pt.D, pt.n, pt.d, pt.t⟩] = pt.t := by simp [joined]
            refine (put_any tg _ 1 1 [⟨pt.D, pt.n, pt.d, pt.t⟩] W hx (by omega) (by rw [hju, hlr.len]; omega)).mono ?_
            rw [hju]
            rintro e W5 ⟨v11, rfl, own11, hE⟩
            refine ⟨_, rfl, Next.mk (fun W => Der.Ns w1 W (.slice A8 bn c8) u9 ws ps ∧ wr.heap.size ≤ W.heap.size) (fun W' => OwnB W' wr.heap.size v11 (Der.put tg pt.t)) (fun _ h => h) ⟨hW.1.next hE, Nat.le_trans hW.2 hE.size⟩ (own11.low hW.2) ?_⟩
            clear hE hW own11
            simp only [Act.put, List.getElem_toArray, List.getElem_cons_succ, List.getElem_cons_zero, List.setIfInBounds_toArray, List.set_cons_zero, List.set_cons_succ]
            refine p_one 10 (by kernel_rfl) (fun W7 hW7 hx7 => ?_)
            refine op_do (o := _) rfl (wanted_plain rfl) v11 W7 (run_assign (by rfl) (by simp [Act.eval]) W7) ?_
            refine Next.mk (fun W => Der.Ns w1 W (.slice A8 bn c8) u9 ws ps ∧ wr.heap.size ≤ W.heap.size) (fun V => V = W7) (fun _ h => h) hW7 rfl ?_
            simp only [Act.put, List.getElem_toArray, List.getElem_cons_succ, List.getElem_cons_zero, List.setIfInBounds_toArray, List.set_cons_zero, List.set_cons_succ]
            refine (show ∀ z0, wpAnyV _ _ _ _ _ _ z0 _ _ _ from fun z0 => v_done (by kernel_rfl) (fun W8 H => ?_) z0) _
            obtain ⟨hN8, e8⟩ := H
            have e8 : W8 = W7 := e8
            subst e8
            obtain ⟨hN8, hswr⟩ := hN8
            have own11 := hx7
            clear hW7 hx7
            have hsz8 : w1.heap.size ≤ W8.heap.size := hN8.below.size
            have own11b := own11.low (B' := w1.heap.size) hN.below.size
            by_cases hf : Der.Fits tg pt.t
            · obtain ⟨A11, c11, e11⟩ := own11.slice
              subst e11
              have hpos := Der.put_pos tg pt.t hf
              obtain ⟨pn, Hpn⟩ : ∃ y, Hd ((Der.put tg pt.t).length = y) := ⟨_, ⟨rfl⟩⟩
              rw [Hpn.out] at hpos own11 own11b ⊢
              have t4 : (0 : Int) < (pn : Int) := by omega
              obtain ⟨pw, Hpw⟩ : ∃ y : Part, Hd (⟨A11, pn, c11, Der.put tg pt.t⟩ = y) := ⟨_, ⟨rfl⟩⟩
              have hsl : Der.sl pw = .slice A11 pn c11 := by rw [← Hpw.out]; rfl
              have hpt : pw.t = Der.put tg pt.t := by rw [← Hpw.out]
              have hpb : (Der.sl pw).ownBlock = none ∨ (Der.sl pw).ownBlock ≠ (Value.slice A8 bn c8).ownBlock := by
                rw [hsl]
                rcases own11.size with e | ⟨g, e, g1, _⟩
                · exact .inl e
                · refine .inr ?_
                  rw [e]
                  rcases hN.own.size with e2 | ⟨g', e2, _, g2⟩
                  · rw [e2]; intro h; cases h
                  · rw [e2]; intro h; injection h; omega
              have hplt : ∀ g, (Der.sl pw).ownBlock = some g → g < W8.heap.size := fun g e => by
                rw [hsl] at e
                rcases own11.size with e2 | ⟨g', e2, _, g2⟩
                · rw [e2] at e; cases e
                · rw [e2] at e; injection e; omega
              have hN9 := hN8.next ((Below.refl W8.heap.size W8).alloc (Nat.le_refl _) (.cells #[.slice A11 pn c11] 22))
              have hcn := hN8.count.2
              have p9 : OwnB (W8.alloc (.cells #[.slice A11 pn c11] 22)) w1.heap.size (Der.sl pw) pw.t := by rw [hsl, hpt]; exact own11b.alloc _
              have q9 : (W8.alloc (.cells #[.slice A11 pn c11] 22)).cell? ⟨W8.heap.size, 0, none⟩ = some (Der.sl pw) := by rw [hsl]; exact (Blk.nu (w := W8) (t := 22) (cs := #[.slice A11 pn c11]) rfl).cell 0
              go_wp2_with (first
                | (with_reducible change wpList _ _ _ (⟨some 62, _, _, _, _, _⟩ :: _) _ _; refine Der.wpl_appW rfl _ _ rfl w1.heap.size u9 ps rfl hN9.txt pw p9 ⟨W8.heap.size, 0, none⟩ rfl q9 (by rw [alloc_size]; exact Nat.lt_succ_self _) (by omega) hN9.below.size ?_; intro v10 W10 tx10 gr10; have bo10 : OwnB W10 w1.heap.size (.slice A8 bn c8) (Der.blob ws) := ⟨hN9.own.own.kept gr10 (Der.own_types hN9.own.own hN9.txt.own (by decide))⟩; have hB10 : Below w1.heap.size w1 W10 := hN9.below.grown gr10 hN9.below.size (fun k hk => (hN9.txt.lt k hk).1); have hs10 : W8.heap.size ≤ W10.heap.size := (by have h := gr10.size; rw [alloc_size] at h; omega); have rd10 : ReadsB W10 W10.heap.size A11 pn (Der.put tg pt.t) := (by have h := (tx10.bodies pw (by simp)); rw [hsl, hpt] at h; exact h.reads_any.2))
                | (with_reducible change wpList _ _ _ (⟨some 65, _, _, _, _, _⟩ :: _) _ _; refine wpl_appendB rfl _ _ rfl w1.heap.size (.slice A8 bn c8) (Der.blob ws) rfl bo10 W10.heap.size A11 pn c11 (Der.put tg pt.t) rfl rd10 (by have := Hbn.out; have := Hpn.out; have := hlr.len; omega) hB10.size ?_; intro v12 W12 own12 gr12 at12)
                | (with_reducible change wpList _ _ _ (⟨some 61, _, _, _, _, _⟩ :: _) _ _; refine wpl_run (o := ⟨some 61, _, _, _, _, _⟩) (wanted_plain rfl) _ (Der.build1 (by rfl) A11 pn c11 (by simp [Act.eval, Act.put])) ?_))
              go_roundw
              case rel => exact ⟨k + 1, ws ++ [(tg, pt.t)], ps ++ [pw], h1, by go_num, hN8.more hpt hf (by have := Hbn.out; have := Hpn.out; have := hlr.len; omega) hpb (fun g e => Nat.lt_of_lt_of_le (hplt g e) hs10) hB10 hs10 tx10 bo10 gr12 own12 at12⟩
              case measure => simp [intOf]; omega
            · have e0 : Der.put tg pt.t = [] := Der.put_none tg pt.t hf
              rw [e0] at own11
              obtain ⟨A11, c11, e11⟩ := own11.slice
              subst e11
              go_wp2
              go_roundw
              case rel => exact ⟨k + 1, ws, ps, h1, by go_num, hN8⟩
              case measure => simp [intOf]; omega
          · have t3 : decide ((bn : Int) + (pt.n : Int) < 20000) = false := decide_eq_false (by omega)
            go_wp2
            go_meet
            case rel => exact ⟨ws, ps, hN⟩
        · have t2 : decide ((k : Int) < (m : Int)) = false := decide_eq_false (by omega)
          go_wp2
          go_meet
          case rel => exact ⟨ws, ps, hN⟩
      · have t1 : decide ((k : Int) < (n : Int)) = false := decide_eq_false (by omega)
        go_wp2
        go_meet
        case rel => exact ⟨ws, ps, hN⟩
  case rest =>
    obtain ⟨ws, ps, hN⟩ := hcut
    obtain ⟨q, Hq⟩ : ∃ y : Nat, Hd (n8 deep % 20 = y) := ⟨_, ⟨rfl⟩⟩
    have eq : ((n8 deep : Nat) : Int) % 20 = (q : Int) := by have := Hq.out; omega
    have hq : q < 20 := by have := Hq.out; omega
    obtain ⟨A0, c0, e0⟩ := hN.own.slice
    subst e0
    obtain ⟨b0, Hb0⟩ : ∃ y, Hd (Der.blob ws = y) := ⟨_, ⟨rfl⟩⟩
    have hfew := hN.few
    rw [Hb0.out] at hfew ⊢
    have rd0 : ReadsB wc wc.heap.size A0 b0.length b0 := by
      have h := hN.own
      rw [Hb0.out] at h
      exact h.reads_any.2
    have rm0 : b0.length ≤ c0 := by
      have h := hN.own
      rw [Hb0.out] at h
      exact h.room
    have hNl : ∀ k, (Der.nest k b0).length ≤ b0.length + 4 * k := Der.nest_len b0 (by omega)
    go_wp2
    rw [eq]
    go_loopw [12, 14] (fun bv i wr => ∃ k : Nat, k ≤ q ∧ i = .int .i64 (k : Int) ∧ (∃ A' c', bv = .slice A' (Der.nest k b0).length c' ∧ ReadsB wr wr.heap.size A' (Der.nest k b0).length (Der.nest k b0) ∧ (Der.nest k b0).length ≤ c') ∧ Below wc.heap.size wc wr) (fun _ i _ => q - (intOf i).toNat)
    case atStart => exact ⟨0, Nat.zero_le _, rfl, ⟨A0, c0, rfl, rd0, rm0⟩, Below.refl _ _⟩
    case round =>
      obtain ⟨k, hk, rfl, ⟨A', c', rfl, hrd, hrm⟩, hbr⟩ := hrel
      have hlk := hNl k
      by_cases hlt : k < q
      · have t1 : (k : Int) < (q : Int) := by omega
        have wk : IntKind.i64.wrap ((k : Int) + 1) = (k : Int) + 1 := IntWalk.i64_in _ (by omega)
        have hju : joined [⟨A', (Der.nest k b0).length, c', Der.nest k b0⟩] = Der.nest k b0 := by simp [joined]
        have hpp := parts_one (c := c') hrd (by omega)
        obtain ⟨L, HL⟩ : ∃ y, Hd ((Der.nest k b0).length = y) := ⟨_, ⟨rfl⟩⟩
        rw [HL.out] at hpp hju ⊢
        go_wp2_with (first
          | (go_at_call 9; refine (put_any 48 _ 1 1 [⟨A', L, c', Der.nest k b0⟩] (wr.alloc (.cells #[.slice A' L c'] 22)) hpp (by omega) (by rw [hju]; omega)).mono ?_; rw [hju]; rintro e w5 ⟨v5, rfl, own5, hB5⟩))
        have hBr : Below wc.heap.size wc w5 := (hbr.alloc hbr.size _).trans (hB5.mono (by rw [alloc_size]; have := hbr.size; omega))
        obtain ⟨A5, c5, e5⟩ := own5.slice
        have rd5 := own5
        rw [e5] at rd5
        go_roundw
        case rel => exact ⟨k + 1, hlt, by go_num, ⟨A5, c5, e5, rd5.reads_any.2, rd5.room⟩, hBr⟩
        case measure => simp [intOf]; omega
      · have ek : k = q := by omega
        subst ek
        have t1 : ¬ (k : Int) < (k : Int) := by omega
        go_wp2
        go_loopw [12, 15] (fun bv i wr => ∃ j r : Nat, j + r = k ∧ i = .int .i64 (j : Int) ∧ (∃ A' c', bv = .slice A' (Der.nest r b0).length c' ∧ ReadsB wr wr.heap.size A' (Der.nest r b0).length (Der.nest r b0) ∧ (Der.nest r b0).length ≤ c') ∧ Below wc.heap.size wc wr) (fun _ i _ => k - (intOf i).toNat)
        case atStart => exact ⟨0, k, by omega, rfl, ⟨A', c', rfl, hrd, hrm⟩, hbr⟩
        case round =>
          clear hrd hrm hbr
          rename_i wr0 _ _ _ _
          clear hlk t1 hlt
          obtain ⟨j, r, hjr, rfl, ⟨A', c', rfl, hrd, hrm⟩, hbr⟩ := hrel
          have hlr := hNl r
          cases r with
          | zero =>
            have ej : j = k := by omega
            subst ej
            have t1 : ¬ (j : Int) < (j : Int) := by omega
            have hrd' : ReadsB wr wr.heap.size A' b0.length b0 := hrd
            have hrm' : b0.length ≤ c' := hrm
            obtain ⟨xs, hrun, hxs⟩ := Der.runs_blob ws hN.fits []
            have hrun' : Der.Runs b0 0 xs := by rw [← Hb0.out]; exact hrun
            have hcnt := hN.count
            obtain ⟨A9, c9, e9⟩ := hN.txt.form
            subst e9
            have hwl : ws.length = xs.length := by rw [← hxs, List.length_map]
            rw [show (Der.nest 0 b0).length = b0.length from rfl]
            obtain ⟨pn, Hpn⟩ : ∃ y, Hd (ps.length = y) := ⟨_, ⟨rfl⟩⟩
            rw [Hpn.out]
            go_wp2_with (first
              | (go_at_call 12; refine (items_runs A' b0.length c' b0 hrm' (by omega) xs hrun' wr hrd').mono ?_; rintro e w7 ⟨v7, ys, rfl, hys, ownI, hB7⟩; obtain ⟨A7, c7, e7⟩ := ownI.form; subst e7; have hyl : ys.length = pn := (by have h := congrArg List.length hys; rw [List.length_map] at h; have := Hpn.out; omega); rw [hyl]))
            have hB7c := hbr.trans (hB7.mono hbr.size)
            have ownW := hN.txt.later hB7c
            rw [hyl] at ownI
            go_loopw [21] (fun i wr4 => ∃ t : Nat, t ≤ pn ∧ i = .int .i64 (t : Int) ∧ Below w7.heap.size w7 wr4) (fun i _ => pn - (intOf i).toNat)
            case atStart => exact ⟨0, Nat.zero_le _, rfl, Below.refl _ _⟩
            case round =>
              rename_i wr4 _ _
              obtain ⟨t, ht4, rfl, hbr4⟩ := hrel
              by_cases hlt4 : t < pn
              · have t4 : (t : Int) < (pn : Int) := by omega
                have wt : IntKind.i64.wrap ((t : Int) + 1) = (t : Int) + 1 := IntWalk.i64_in _ (by have := Hpn.out; omega)
                obtain ⟨ia, rfl, hia, hc0, hc1⟩ := ownI.at_ (i := t) (by omega)
                obtain ⟨wa, rfl, hwa, hcw⟩ := ownW.at_ (i := t) (by have := Hpn.out; omega)
                have hsm := Der.same_at hys hxs hN.same (i := t) (by omega) (by have := Hpn.out; omega)
                have hyb := ownI.bodies _ (List.getElem_mem (l := ys) (n := t) (by omega))
                have hwq := ownW.bodies _ (List.getElem_mem (l := ps) (n := t) (by have := Hpn.out; omega))
                obtain ⟨Ay, cy, ey⟩ := Der.OwnB.sliceX hyb
                rw [ey] at hc1 hyb
                obtain ⟨ly, Hly⟩ : ∃ y, Hd ((ys[t]'(by omega)).1.body = y) := ⟨_, ⟨rfl⟩⟩
                obtain ⟨tg4, Htg4⟩ : ∃ y, Hd ((ys[t]'(by omega)).1.tag = y) := ⟨_, ⟨rfl⟩⟩
                obtain ⟨pq, Hpq⟩ : ∃ y, Hd (ps[t]'(by have := Hpn.out; omega) = y) := ⟨_, ⟨rfl⟩⟩
                rw [Hpq.out] at hcw hwq
                rw [Hly.out, Htg4.out, Hpq.out] at hsm
                rw [Hly.out] at hc1 hyb
                rw [Htg4.out] at hc0
                have hlim := hN.fits _ hsm.2
                replace hsm := hsm.1
                obtain ⟨ny, hly⟩ : ∃ y, ly.length = y := ⟨_, rfl⟩
                rw [hly] at hc1 hyb
                have hny : ny ≤ 65535 := by
                  unfold Der.Fits at hlim
                  rcases Nat.lt_or_ge 65535 ly.length with h | h
                  · exact absurd (Or.inr h) hlim
                  · omega
                unfold Der.sl at hcw hwq
                go_wp2
                refine p_start (fun W => Below w7.heap.size w7 W) (by kernel_rfl) hbr4.drew ?_
                refine p_take 0 (o := _) rfl (by kernel_rfl) (by kernel_rfl) (by kernel_rfl) (wanted_plain rfl) (.slice (some ia) pn c7) (fun _ _ _ h => h) (fun W hW => run_move (by rfl) (by simp [Act.eval]) W) ?_
                simp only [Act.put, List.getElem_toArray, List.getElem_cons_succ, List.getElem_cons_zero, List.setIfInBounds_toArray, List.set_cons_zero, List.set_cons_succ]
                refine p_take 1 (o := _) rfl (by kernel_rfl) (by kernel_rfl) (by kernel_rfl) (wanted_plain rfl) (.int .i64 (t : Int)) (fun _ _ _ h => h) (fun W hW => run_move (by rfl) (by simp [Act.eval]) W) ?_
                simp only [Act.put, List.getElem_toArray, List.getElem_cons_succ, List.getElem_cons_zero, List.setIfInBounds_toArray, List.set_cons_zero, List.set_cons_succ]
                refine p_take 2 (o := _) rfl (by kernel_rfl) (by kernel_rfl) (by kernel_rfl) (wanted_plain rfl) (.pointer (some (ia.add (t * 4)))) (fun _ _ _ h => h) (fun W hW => Der.index (by rfl) Tryd.underlying32 Der.szI ia pn c7 t (by simp [Act.eval]) (by simp [Act.eval]) hlt4) ?_
                simp only [Act.put, List.getElem_toArray, List.getElem_cons_succ, List.getElem_cons_zero, List.setIfInBounds_toArray, List.set_cons_zero, List.set_cons_succ]
                refine p_take 3 (o := _) rfl (by kernel_rfl) (by kernel_rfl) (by kernel_rfl) (wanted_plain rfl) (.pointer (some ((ia.add (t * 4)).add 0))) (fun _ _ _ h => h) (fun W hW => Der.fieldA (by rfl) (by simp [Act.eval]) (Der.fldI0 (ia.add (t * 4)))) ?_
                simp only [Act.put, List.getElem_toArray, List.getElem_cons_succ, List.getElem_cons_zero, List.setIfInBounds_toArray, List.set_cons_zero, List.set_cons_succ]
                refine p_take 4 (o := _) rfl (by kernel_rfl) (by kernel_rfl) (by kernel_rfl) (wanted_plain rfl) (.int .u8 ((n8 tg4 : Nat) : Int)) (fun _ _ _ h => h) (fun W hW => Der.ld Der.na8 (by rfl) ((ia.add (t * 4)).add 0) _ (by simp [Act.eval]) ((hW.cell (p := (ia.add (t * 4)).add 0) (by rw [block_of_add, block_of_add]; exact hia)).trans hc0)) ?_
                simp only [Act.put, List.getElem_toArray, List.getElem_cons_succ, List.getElem_cons_zero, List.setIfInBounds_toArray, List.set_cons_zero, List.set_cons_succ]
                refine p_take 5 (o := _) rfl (by kernel_rfl) (by kernel_rfl) (by kernel_rfl) (wanted_plain rfl) (.slice (some ia) pn c7) (fun _ _ _ h => h) (fun W hW => run_move (by rfl) (by simp [Act.eval]) W) ?_
                simp only [Act.put, List.getElem_toArray, List.getElem_cons_succ, List.getElem_cons_zero, List.setIfInBounds_toArray, List.set_cons_zero, List.set_cons_succ]
                refine p_take 6 (o := _) rfl (by kernel_rfl) (by kernel_rfl) (by kernel_rfl) (wanted_plain rfl) (.int .i64 (t : Int)) (fun _ _ _ h => h) (fun W hW => run_move (by rfl) (by simp [Act.eval]) W) ?_
                simp only [Act.put, List.getElem_toArray, List.getElem_cons_succ, List.getElem_cons_zero, List.setIfInBounds_toArray, List.set_cons_zero, List.set_cons_succ]
                refine p_take 7 (o := _) rfl (by kernel_rfl) (by kernel_rfl) (by kernel_rfl) (wanted_plain rfl) (.pointer (some (ia.add (t * 4)))) (fun _ _ _ h => h) (fun W hW => Der.index (by rfl) Tryd.underlying32 Der.szI ia pn c7 t (by simp [Act.eval]) (by simp [Act.eval]) hlt4) ?_
                simp only [Act.put, List.getElem_toArray, List.getElem_cons_succ, List.getElem_cons_zero, List.setIfInBounds_toArray, List.set_cons_zero, List.set_cons_succ]
                refine p_take 8 (o := _) rfl (by kernel_rfl) (by kernel_rfl) (by kernel_rfl) (wanted_plain rfl) (.pointer (some ((ia.add (t * 4)).add 1))) (fun _ _ _ h => h) (fun W hW => Der.fieldA (by rfl) (by simp [Act.eval]) (Der.fldI1 (ia.add (t * 4)))) ?_
                simp only [Act.put, List.getElem_toArray, List.getElem_cons_succ, List.getElem_cons_zero, List.setIfInBounds_toArray, List.set_cons_zero, List.set_cons_succ]
                refine p_take 9 (o := _) rfl (by kernel_rfl) (by kernel_rfl) (by kernel_rfl) (wanted_plain rfl) (.slice Ay ny cy) (fun _ _ _ h => h) (fun W hW => Der.ld Der.naS (by rfl) ((ia.add (t * 4)).add 1) _ (by simp [Act.eval]) ((hW.cell (p := (ia.add (t * 4)).add 1) (by rw [block_of_add, block_of_add]; exact hia)).trans hc1)) ?_
                simp only [Act.put, List.getElem_toArray, List.getElem_cons_succ, List.getElem_cons_zero, List.setIfInBounds_toArray, List.set_cons_zero, List.set_cons_succ]
                refine p_take 13 (o := _) rfl (by kernel_rfl) (by kernel_rfl) (by kernel_rfl) (wanted_plain rfl) (.slice (some wa) pn c9) (fun _ _ _ h => h) (fun W hW => run_move (by rfl) (by simp [Act.eval]) W) ?_
                simp only [Act.put, List.getElem_toArray, List.getElem_cons_succ, List.getElem_cons_zero, List.setIfInBounds_toArray, List.set_cons_zero, List.set_cons_succ]
                refine p_take 14 (o := _) rfl (by kernel_rfl) (by kernel_rfl) (by kernel_rfl) (wanted_plain rfl) (.int .i64 (t : Int)) (fun _ _ _ h => h) (fun W hW => run_move (by rfl) (by simp [Act.eval]) W) ?_
                simp only [Act.put, List.getElem_toArray, List.getElem_cons_succ, List.getElem_cons_zero, List.setIfInBounds_toArray, List.set_cons_zero, List.set_cons_succ]
                refine p_take 15 (o := _) rfl (by kernel_rfl) (by kernel_rfl) (by kernel_rfl) (wanted_plain rfl) (.pointer (some (wa.add (t * 1)))) (fun _ _ _ h => h) (fun W hW => Der.index (by rfl) Der.und_texts Der.szS wa pn c9 t (by simp [Act.eval]) (by simp [Act.eval]) hlt4) ?_
                simp only [Act.put, List.getElem_toArray, List.getElem_cons_succ, List.getElem_cons_zero, List.setIfInBounds_toArray, List.set_cons_zero, List.set_cons_succ]
                refine p_take 16 (o := _) rfl (by kernel_rfl) (by kernel_rfl) (by kernel_rfl) (wanted_plain rfl) (.slice pq.D pq.n pq.d) (fun _ _ _ h => h) (fun W hW => Der.ld Der.naS (by rfl) (wa.add (t * 1)) _ (by simp [Act.eval]) ((hW.cell (p := wa.add (t * 1)) (by rw [block_of_add]; exact hwa)).trans hcw)) ?_
                simp only [Act.put, List.getElem_toArray, List.getElem_cons_succ, List.getElem_cons_zero, List.setIfInBounds_toArray, List.set_cons_zero, List.set_cons_succ]
                refine p_take 17 (o := _) rfl (by kernel_rfl) (by kernel_rfl) (by kernel_rfl) (wanted_plain rfl) (.string (str pq.t)) (fun _ _ _ h => h) (fun W hW => run_toStr (by rfl) Tryd.underlying22 Tryd.underlying5 Tryd.underlying9 _ pq.D pq.n pq.d pq.t (by simp [Act.eval]) ((hwq.later hW).reads_any.2)) ?_
                simp only [Act.put, List.getElem_toArray, List.getElem_cons_succ, List.getElem_cons_zero, List.setIfInBounds_toArray, List.set_cons_zero, List.set_cons_succ]
                refine p_one 10 (by kernel_rfl) (fun W hW _ => ?_)
                refine op_do (o := _) rfl (wanted_plain rfl) _ _ (Der.build1 (by rfl) Ay ny cy (by simp [Act.eval])) ?_
                have hpp := parts_one (c := cy) (hyb.later hW).reads_any.2 (by omega)
                have hE := (Below.refl W.heap.size W).alloc (Nat.le_refl _) (.cells #[.slice Ay ny cy] 22)
                obtain ⟨gp, Hgp⟩ : ∃ y, Hd (W.heap.size = y) := ⟨_, ⟨rfl⟩⟩
                rw [Hgp.out] at hpp ⊢
                refine Next.mk (fun W => Below w7.heap.size w7 W) (fun W => Parts W W.heap.size (some ⟨gp, 0, none⟩) 1 [⟨Ay, ny, cy, ly⟩]) (fun _ h => h) (hW.trans (hE.mono hW.size)) hpp ?_
                clear hE hW hpp
                simp only [Act.put, List.getElem_toArray, List.getElem_cons_succ, List.getElem_cons_zero, List.setIfInBounds_toArray, List.set_cons_zero, List.set_cons_succ]
                refine p_one 11 (by kernel_rfl) (fun W hW hx => ?_)
                refine op_call (o := _) rfl (wanted_plain rfl) 9 _ _ rfl #[.int .u8 ((n8 tg4 : Nat) : Int), .slice (some ⟨gp, 0, none⟩) 1 1] (by simp [Act.eval]) (Der.enter_put _) ?_
                have hju : joined [⟨Ay, ny, cy, ly⟩] = ly := by simp [joined]
                refine (put_any tg4 _ 1 1 [⟨Ay, ny, cy, ly⟩] W hx (by omega) (by rw [hju, hly]; omega)).mono ?_
                rw [hju]
                rintro e W5 ⟨v11, rfl, own11, hE⟩
                obtain ⟨A11, c11, rfl⟩ := own11.slice
                obtain ⟨n11, Hn11⟩ : ∃ y, Hd ((Der.put tg4 ly).length = y) := ⟨_, ⟨rfl⟩⟩
                rw [Hn11.out] at own11 ⊢
                refine ⟨_, rfl, Next.mk (fun W => Below w7.heap.size w7 W) (fun W' => ReadsB W' W'.heap.size A11 n11 (Der.put tg4 ly)) (fun _ h => h) (hW.trans (hE.mono hW.size)) own11.reads_any.2 ?_⟩
                clear hE hW own11
                simp only [Act.put, List.getElem_toArray, List.getElem_cons_succ, List.getElem_cons_zero, List.setIfInBounds_toArray, List.set_cons_zero, List.set_cons_succ]
                refine p_one 12 (by kernel_rfl) (fun W hW hx => ?_)
                refine op_do (o := _) rfl (wanted_plain rfl) (.string (str (Der.put tg4 ly))) W (run_toStr (by rfl) Tryd.underlying22 Tryd.underlying5 Tryd.underlying9 _ A11 n11 c11 (Der.put tg4 ly) (by simp [Act.eval]) hx) ?_
                refine Next.mk (fun W => Below w7.heap.size w7 W) (fun _ => True) (fun _ h => h) hW trivial ?_
                clear hx hW
                simp only [Act.put, List.getElem_toArray, List.getElem_cons_succ, List.getElem_cons_zero, List.setIfInBounds_toArray, List.set_cons_zero, List.set_cons_succ]
                refine p_take 18 (o := _) rfl (by kernel_rfl) (by kernel_rfl) (by kernel_rfl) (wanted_plain rfl) (.bool false) (fun _ _ _ h => h) (fun W hW => run_neqF (by rfl) (Der.put tg4 ly) pq.t hsm (by simp [Act.eval]) (by simp [Act.eval]) W) ?_
                simp only [Act.put, List.getElem_toArray, List.getElem_cons_succ, List.getElem_cons_zero, List.setIfInBounds_toArray, List.set_cons_zero, List.set_cons_succ]
                refine (show ∀ z0, wpAnyV _ _ _ _ _ _ z0 _ _ _ from fun z0 => v_done (by kernel_rfl) (fun W8 H => ?_) z0) _
                obtain ⟨hB8, -⟩ := H
                go_wp2
                go_roundw
                case rel => exact ⟨t + 1, hlt4, by go_num, hB8⟩
                case measure => simp [intOf]; omega
              · have ek4 : t = pn := by omega
                subst ek4
                have t4 : ¬ (t : Int) < (t : Int) := by omega
                go_wp2
                go_ret
                exact ⟨rfl, hB1.trans (hN.below.mono hB1.size) |>.trans ((hB7c.trans (hbr4.mono hB7c.size)).mono (Nat.le_trans hB1.size hN.below.size))⟩
          | succ r =>
            have t1 : (j : Int) < (k : Int) := by omega
            have wj : IntKind.i64.wrap ((j : Int) + 1) = (j : Int) + 1 := IntWalk.i64_in _ (by omega)
            have hfit : Der.Fits 48 (Der.nest r b0) := by
              have := hNl r
              unfold Der.Fits
              intro h
              rcases h with h | h
              · exact absurd h (by decide)
              · omega
            have hnx : Der.next (Der.nest (r + 1) b0) 0 = ⟨48, Der.nest r b0, 0, (Der.nest (r + 1) b0).length, 0⟩ := Der.put_next 48 _ hfit
            have e48 : ((n8 48 : Nat) : Int) = 48 := rfl
            obtain ⟨L, HL⟩ : ∃ y, Hd ((Der.nest (r + 1) b0).length = y) := ⟨_, ⟨rfl⟩⟩
            rw [HL.out] at hrd hrm hnx hlr ⊢
            obtain ⟨M, HM⟩ : ∃ y, Hd ((Der.nest r b0).length = y) := ⟨_, ⟨rfl⟩⟩
            go_wp2_with (first
              | (go_at_call 8; refine (next_any A' L c' (Der.nest (r + 1) b0) 0 wr hrd hrm (by omega)).mono ?_; rw [hnx]; rintro e w6 ⟨A6, c6, rfl, own6, hB6⟩; unfold itemCells; dsimp only at own6 ⊢; rw [e48]; rw [HM.out] at own6 ⊢))
            go_roundw
            case rel => exact ⟨j + 1, r, by omega, by go_num, ⟨A6, c6, by rw [HM.out], by rw [HM.out]; exact (own6.alloc _).reads_any.2, by rw [HM.out]; exact own6.room⟩, (hbr.trans (hB6.mono hbr.size)).alloc (Nat.le_trans hbr.size hB6.size) _⟩
            case measure => simp [intOf]; omega

end Go.Proofs.YthkggeohdclffaaDoor
