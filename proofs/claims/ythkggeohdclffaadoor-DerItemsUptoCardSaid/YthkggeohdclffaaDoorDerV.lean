/-
  der.Items, where something is wrong.
-/
import Derived.Test.YthkggeohdclffaaDoorDerU
import Derived.Test.YthkggeohdclffaaDoorDerS
import Derived.BigRegionIn
set_option linter.unusedVariables false
set_option linter.unusedSimpArgs false
set_option maxRecDepth 100000
namespace Go.Proofs.YthkggeohdclffaaDoor
open Go.RowKit
attribute [local go_sem] Oper.semAt_some
namespace Der
/-- What lies there when the loop was left by a 'return'. -/
structure Jd (w : World) (lp : Loop) (j : Nat) (e : Int) (W : World) : Prop where
  r0 : Blk W w.heap.size 32 #[.slice none 0 0]
  r1 : Blk W (w.heap.size + 1) 3 #[.int .i64 (j : Int)]
  r2 : Blk W (w.heap.size + 1 + 1) 26 #[.int .i64 e]
  dfr : W.heap[w.heap.size + 5]? = some (.deferred (some []))
  loop : W.heap[w.heap.size + 6]? = some (.loop lp)
  below : Below w.heap.size w W
theorem Jd.drew {w : World} {lp : Loop} {j : Nat} {e : Int} {W : World} (h : Jd w lp j e W) : Jd w lp j e W.drew := ⟨⟨h.r0.is⟩, ⟨h.r1.is⟩, ⟨h.r2.is⟩, h.dfr, h.loop, h.below.drew⟩
theorem Jd.put {w : World} {lp : Loop} {j : Nat} {e : Int} {W : World} (lp' : Loop) (h : Jd w lp j e W) : Jd w lp' j e (W.putObj (w.heap.size + 5 + 1) (.loop lp')) := by
  have hg := grownBy_putObj' W (w.heap.size + 5 + 1) (.loop lp')
  have hw := (Array.getElem?_eq_some_iff.1 h.loop).1
  exact ⟨h.r0.grown hg (by intro e; injection e; omega), h.r1.grown hg (by intro e; injection e; omega), h.r2.grown hg (by intro e; injection e; omega), (World.putObj_heap_other (by omega)).trans h.dfr, World.putObj_heap_same hw, h.below.grown hg (by omega) (fun k hk => by injection hk; omega)⟩
/-- The three results are stored. -/
theorem Jd.set {w : World} {lp : Loop} {j : Nat} {e : Int} {W : World} {u0 u1 u2 : Value} (k0 : Blk W w.heap.size 32 #[u0]) (k1 : Blk W (w.heap.size + 1) 3 #[u1]) (k2 : Blk W (w.heap.size + 1 + 1) 26 #[u2])
    (hd : W.heap[w.heap.size + 5]? = some (.deferred (some []))) (hl : W.heap[w.heap.size + 6]? = some (.loop lp)) (hB : Below w.heap.size w W) :
    Jd w lp j e (((W.setCell ⟨w.heap.size, 0, none⟩ (.slice none 0 0)).setCell ⟨w.heap.size + 1, 0, none⟩ (.int .i64 (j : Int))).setCell ⟨w.heap.size + 1 + 1, 0, none⟩ (.int .i64 e)) := by
  have hk : ∀ k, w.heap.size + 2 < k → (((W.setCell ⟨w.heap.size, 0, none⟩ (.slice none 0 0)).setCell ⟨w.heap.size + 1, 0, none⟩ (.int .i64 (j : Int))).setCell ⟨w.heap.size + 1 + 1, 0, none⟩ (.int .i64 e)).heap[k]? = W.heap[k]? := fun k hk =>
    (Below.heap_setCell _ ⟨w.heap.size + 1 + 1, 0, none⟩ _ _ (by show k ≠ w.heap.size + 1 + 1; omega)).trans ((Below.heap_setCell _ ⟨w.heap.size + 1, 0, none⟩ _ _ (by show k ≠ w.heap.size + 1; omega)).trans (Below.heap_setCell _ ⟨w.heap.size, 0, none⟩ _ _ (by show k ≠ w.heap.size; omega)))
  exact ⟨((k0.set_ 0 (.slice none 0 0)).far (p := ⟨w.heap.size + 1, 0, none⟩) (by show w.heap.size ≠ w.heap.size + 1; omega) (.int .i64 (j : Int))).far (p := ⟨w.heap.size + 1 + 1, 0, none⟩) (by show w.heap.size ≠ w.heap.size + 1 + 1; omega) (.int .i64 e),
    ((k1.far (p := ⟨w.heap.size, 0, none⟩) (by show w.heap.size + 1 ≠ w.heap.size; omega) (.slice none 0 0)).set_ 0 (.int .i64 (j : Int))).far (p := ⟨w.heap.size + 1 + 1, 0, none⟩) (by show w.heap.size + 1 ≠ w.heap.size + 1 + 1; omega) (.int .i64 e),
    ((k2.far (p := ⟨w.heap.size, 0, none⟩) (by show w.heap.size + 1 + 1 ≠ w.heap.size; omega) (.slice none 0 0)).far (p := ⟨w.heap.size + 1, 0, none⟩) (by show w.heap.size + 1 + 1 ≠ w.heap.size + 1; omega) (.int .i64 (j : Int))).set_ 0 (.int .i64 e),
    (hk _ (by omega)).trans hd, (hk _ (by omega)).trans hl,
    ((hB.setCell (p := ⟨w.heap.size, 0, none⟩) (Nat.le_refl _) _).setCell (p := ⟨w.heap.size + 1, 0, none⟩) (by show w.heap.size ≤ w.heap.size + 1; omega) _).setCell (p := ⟨w.heap.size + 1 + 1, 0, none⟩) (by show w.heap.size ≤ w.heap.size + 1 + 1; omega) _⟩
end Der
set_option maxHeartbeats 4000000 in
set_option maxRecDepth 100000 in
theorem items_stops (A : Option Addr) (m c : Nat) (b : List UInt8) (hmc : m ≤ c) (hm : m ≤ 1000000000) (xs : List Der.Item) (j : Nat) (hrun : Der.Stops b 0 xs j) (w : World) (hr : ReadsB w w.heap.size A m b)
    (hg : w.cell? ⟨0, 0, none⟩ = some (.iface 108 (.agg #[.pointer (some ⟨9, 53, none⟩)]))) :
    Calls Tryd.prog 12 #[.slice A m c] w fun e w' => e = .returned (.tuple #[.slice none 0 0, .int .i64 (j : Int), .int .i64 (Der.next b j).err]) ∧ Below w.heap.size w w' := by
  have hgl : 0 < w.heap.size := by
    rcases Nat.lt_or_ge 0 w.heap.size with h | h
    · exact h
    · simp [World.cell?, Array.getElem?_eq_none h] at hg
  refine (callsIn_wide (n := 9)).1 ?_
  refine callsIn_of_wp_marks Tryd.func12 rfl trivial ?_ rfl
  simp only [Tryd.func12, Tryd.ntmps12, List.size_toArray, List.length_cons, List.length_nil, Nat.reduceAdd, Nat.reduceSub, Array.replicate_succ, Array.replicate_zero, List.push_toArray, List.append_toArray, List.nil_append, List.cons_append]
  gi_wp2_with (first
    | (refine ⟨trivial, ?_⟩; refine (callsIn_wide.2 (each_any _ _ _ _)).mono ?_; rintro e w1 ⟨rfl, rfl⟩))
  obtain ⟨W0, HW0⟩ : ∃ x, Hd (((((w.alloc (.cells #[.slice none 0 0] 32)).alloc (.cells #[.int .i64 0] 3)).alloc (.cells #[.int .i64 0] 26)).alloc (.cells #[.slice none 0 0] 32)).alloc (.cells #[.slice A m c] 22) = x) := ⟨_, ⟨rfl⟩⟩
  have hs0 : W0.heap.size = w.heap.size + 5 := by rw [← HW0.out]; simp only [alloc_size]
  have b0 : Blk W0 w.heap.size 32 #[.slice none 0 0] := by rw [← HW0.out]; exact ((((Blk.nu rfl).alloc _).alloc _).alloc _).alloc _
  have b1 : Blk W0 (w.heap.size + 1) 3 #[.int .i64 0] := by rw [← HW0.out]; exact (((Blk.nu (by simp)).alloc _).alloc _).alloc _
  have b2 : Blk W0 (w.heap.size + 1 + 1) 26 #[.int .i64 0] := by rw [← HW0.out]; exact ((Blk.nu (by simp)).alloc _).alloc _
  have b3 : Blk W0 (w.heap.size + 1 + 1 + 1) 32 #[.slice none 0 0] := by rw [← HW0.out]; exact (Blk.nu (by simp)).alloc _
  have b4 : Blk W0 (w.heap.size + 4) 22 #[.slice A m c] := by rw [← HW0.out]; exact Blk.nu (by simp)
  have hB0 : Below w.heap.size w W0 := by rw [← HW0.out]; exact ((((((Below.refl _ w).alloc (Nat.le_refl _) _).alloc (by simp only [alloc_size]; omega) _).alloc (by simp only [alloc_size]; omega) _).alloc (by simp only [alloc_size]; omega) _).alloc (by simp only [alloc_size]; omega) _)
  rw [HW0.out]
  clear HW0
  refine rf_outer (gf := 38) (lb := #[.pointer (some ⟨w.heap.size + 1 + 1 + 1 + 1, 0, none⟩)]) rfl enter_each1 (fun fn rec hrec => ?_)
  rw [hs0]
  have hBl := ((Below.refl W0.heap.size W0).alloc (Nat.le_refl _) (.deferred (some []))).alloc (by rw [alloc_size]; omega) (.loop rec)
  obtain ⟨er, Her⟩ : ∃ y, Hd ((Der.next b j).err = y) := ⟨_, ⟨rfl⟩⟩
  refine (each_stops 8 (w.heap.size + 5 + 1) w.heap.size (w.heap.size + 4) A m c b hmc (by omega) xs j hrun (Der.Jt w rec) (fun _ => Der.Jd w { rec with state := .done, pending := some .ret } j er) ?hY ?hE _ (by omega) (b4.below hBl b4.lt) ⟨hr.len, hr.is.below (hB0.trans (hBl.mono (by omega)))⟩ ?h0).mono ?post
  case h0 =>
    have hsz : ((W0.alloc (.deferred (some []))).alloc (.loop rec)).heap.size = w.heap.size + 7 := by simp only [alloc_size, hs0]
    refine ⟨b0.below hBl b0.lt, b1.below hBl b1.lt, b2.below hBl b2.lt, ⟨_, b3.below hBl b3.lt, World.ownsRow_nil _ _ _ 4, fun _ h => absurd h List.not_mem_nil⟩, ?_, ?_, hB0.trans (hBl.mono (by omega))⟩
    · have h1 := heap_alloc_new W0 (.deferred (some []))
      rw [hs0] at h1
      exact (Below.heap_alloc _ (.loop rec) _ (by rw [alloc_size, hs0]; omega)).trans h1
    · have h1 := heap_alloc_new (W0.alloc (.deferred (some []))) (.loop rec)
      rw [alloc_size, hs0] at h1
      exact h1
  case hY =>
    intro pre x Wp W hJ hB own hlen
    obtain ⟨⟨tag, body, iat, ilen, ierr⟩, val⟩ := x
    dsimp only at own
    obtain ⟨A1, c1, e1⟩ := own.slice
    subst e1
    unfold Der.X.cells itemCells
    dsimp only
    have hlp : w.heap.size + 6 < Wp.heap.size := (Array.getElem?_eq_some_iff.1 hJ.loop).1
    have hl : W.heap[w.heap.size + 5 + 1]? = some (.loop rec) := (hB.block _ hlp).trans hJ.loop
    have hdd : W.heap[w.heap.size + 5]? = some (.deferred (some [])) := (hB.block _ (by omega)).trans hJ.dfr
    have hy := run_yield (P := Tryd.prog) (args := #[.agg #[.int .u8 ((n8 tag : Nat) : Int), .slice A1 body.length c1, .int .i64 iat, .int .i64 (ilen : Int)], .nilIface]) hl (by rw [hrec]; rfl)
    rw [hrec] at hy
    refine ⟨_, _, _, _, hy, roundIn_of_wpIn trivial ?_⟩
    clear hy
    gi_wp2
    obtain ⟨v, bv, ownp⟩ := hJ.own
    obtain ⟨A5, cp5, e5⟩ := ownp.form
    subst e5
    have hvlt := ownp.lt
    have hBa := hB.alloc hB.size (.cells #[.int .u8 ((n8 tag : Nat) : Int), .slice A1 body.length c1, .int .i64 iat, .int .i64 (ilen : Int)] 25)
    obtain ⟨Wa, HWa⟩ : ∃ y, Hd (W.alloc (.cells #[.int .u8 ((n8 tag : Nat) : Int), .slice A1 body.length c1, .int .i64 iat, .int .i64 (ilen : Int)] 25) = y) := ⟨_, ⟨rfl⟩⟩
    have hsa : Wa.heap.size = W.heap.size + 1 := by rw [← HWa.out, alloc_size]
    have bita : Blk Wa W.heap.size 25 #[.int .u8 ((n8 tag : Nat) : Int), .slice A1 body.length c1, .int .i64 iat, .int .i64 (ilen : Int)] := by rw [← HWa.out]; exact Blk.nu rfl
    have hka : ∀ k, k < W.heap.size → Wa.heap[k]? = W.heap[k]? := fun k hk => by rw [← HWa.out]; exact Below.heap_alloc W _ k hk
    rw [HWa.out] at hBa ⊢
    have hla : Wa.heap[w.heap.size + 5 + 1]? = some (.loop rec) := (hka _ (by have := hB.size; omega)).trans hl
    have hda : Wa.heap[w.heap.size + 5]? = some (.deferred (some [])) := (hka _ (by have := hB.size; omega)).trans hdd
    refine ⟨_, run_beginRound hla (by rw [hrec]), ?_⟩
    obtain ⟨rb, Hrb⟩ : ∃ y : Loop, Hd ({ rec with state := .busy } = y) := ⟨_, ⟨rfl⟩⟩
    rw [Hrb.out]
    have hgb : Wa.grownBy (Wa.putObj (w.heap.size + 5 + 1) (.loop rb)) (some (w.heap.size + 5 + 1)) := grownBy_putObj' _ _ _
    have hlb : (Wa.putObj (w.heap.size + 5 + 1) (.loop rb)).heap[w.heap.size + 5 + 1]? = some (.loop rb) := World.putObj_heap_same (Array.getElem?_eq_some_iff.1 hla).1
    obtain ⟨Wb, HWb⟩ : ∃ y, Hd (Wa.putObj (w.heap.size + 5 + 1) (.loop rb) = y) := ⟨_, ⟨rfl⟩⟩
    rw [HWb.out] at hgb hlb ⊢
    have hsb : Wb.heap.size = W.heap.size + 1 := by rw [← HWb.out, World.putObj_size, hsa]
    have hWp := hB.size
    have bit : Blk Wb W.heap.size 25 #[.int .u8 ((n8 tag : Nat) : Int), .slice A1 body.length c1, .int .i64 iat, .int .i64 (ilen : Int)] := bita.grown hgb (by intro e; injection e; omega)
    have bvb : Blk Wb (w.heap.size + 1 + 1 + 1) 32 #[.slice A5 pre.length cp5] := (bv.below hBa bv.lt).grown hgb (by intro e; injection e; omega)
    have ownb : Der.OwnI Wb (w.heap.size + 7) (.slice A5 pre.length cp5) pre := (ownp.later hBa).moved hgb (by omega)
    have bodyb : OwnB Wb (w.heap.size + 7) (.slice A1 body.length c1) body := by
      have h1 := own.alloc (.cells #[.int .u8 ((n8 tag : Nat) : Int), .slice A1 body.length c1, .int .i64 iat, .int .i64 (ilen : Int)] 25)
      rw [HWa.out] at h1
      exact (h1.moved hgb (by rcases h1.size with e | ⟨g, e, h2, _⟩
                              · rw [e]; intro h; cases h
                              · rw [e]; intro h; injection h; omega)).low (by omega)
    have hc3 : (Wb.alloc (.cells #[.int .i64 0, .int .i64 0] 55)).cell? ⟨w.heap.size + 1 + 1 + 1, 0, none⟩ = some (.slice A5 pre.length cp5) := (bvb.alloc _).cell 0
    have hi0 : (Wb.alloc (.cells #[.int .i64 0, .int .i64 0] 55)).cell? ⟨W.heap.size, 0, none⟩ = some (.int .u8 ((n8 tag : Nat) : Int)) := (bit.alloc _).cell 0
    have hi1 : (Wb.alloc (.cells #[.int .i64 0, .int .i64 0] 55)).cell? ⟨W.heap.size, 1, none⟩ = some (.slice A1 body.length c1) := (bit.alloc _).cell 1
    have hi2 : (Wb.alloc (.cells #[.int .i64 0, .int .i64 0] 55)).cell? ⟨W.heap.size, 2, none⟩ = some (.int .i64 iat) := (bit.alloc _).cell 2
    have hi3 : (Wb.alloc (.cells #[.int .i64 0, .int .i64 0] 55)).cell? ⟨W.heap.size, 3, none⟩ = some (.int .i64 (ilen : Int)) := (bit.alloc _).cell 3
    have hin := item_info
    simp only [Option.map_eq_some_iff, Prod.mk.injEq] at hin
    obtain ⟨i0, hii, hiz, his, hib⟩ := hin
    obtain ⟨Wc, HWc⟩ : ∃ y, Hd (Wb.alloc (.cells #[.int .i64 0, .int .i64 0] 55) = y) := ⟨_, ⟨rfl⟩⟩
    have hsc : Wc.heap.size = W.heap.size + 1 + 1 := by rw [← HWc.out, alloc_size, hsb]
    have bdn : Blk (Wc.alloc (.cells #[.int .u8 ((n8 tag : Nat) : Int), .slice A1 body.length c1, .int .i64 iat, .int .i64 (ilen : Int)] 25)) (W.heap.size + 1 + 1) 25 #[.int .u8 ((n8 tag : Nat) : Int), .slice A1 body.length c1, .int .i64 iat, .int .i64 (ilen : Int)] := Blk.nu hsc.symm
    have hcells : ∀ j u, ([.int .u8 ((n8 tag : Nat) : Int), .slice A1 body.length c1, .int .i64 iat, .int .i64 (ilen : Int)] : List Value)[j]? = some u → (Wc.alloc (.cells #[.int .u8 ((n8 tag : Nat) : Int), .slice A1 body.length c1, .int .i64 iat, .int .i64 (ilen : Int)] 25)).cell? ((⟨W.heap.size + 1 + 1, 0, none⟩ : Addr).add j) = some u := bdn.cells.is
    have ownc : Der.OwnI (Wc.alloc (.cells #[.int .u8 ((n8 tag : Nat) : Int), .slice A1 body.length c1, .int .i64 iat, .int .i64 (ilen : Int)] 25)) (w.heap.size + 7) (.slice A5 pre.length cp5) pre := by
      rw [← HWc.out]
      exact (ownb.later ((Below.refl _ _).alloc (Nat.le_refl _) _)).later ((Below.refl _ _).alloc (Nat.le_refl _) _)
    have bodyc : OwnB (Wc.alloc (.cells #[.int .u8 ((n8 tag : Nat) : Int), .slice A1 body.length c1, .int .i64 iat, .int .i64 (ilen : Int)] 25)) (w.heap.size + 7) (.slice A1 body.length c1) body := by
      rw [← HWc.out]
      exact (bodyb.alloc _).alloc _
    have bvc : Blk (Wc.alloc (.cells #[.int .u8 ((n8 tag : Nat) : Int), .slice A1 body.length c1, .int .i64 iat, .int .i64 (ilen : Int)] 25)) (w.heap.size + 1 + 1 + 1) 32 #[.slice A5 pre.length cp5] := by
      rw [← HWc.out]
      exact (bvb.alloc _).alloc _
    have hkc : ∀ k, k < W.heap.size + 1 → (Wc.alloc (.cells #[.int .u8 ((n8 tag : Nat) : Int), .slice A1 body.length c1, .int .i64 iat, .int .i64 (ilen : Int)] 25)).heap[k]? = Wb.heap[k]? := fun k hk => by
      rw [← HWc.out]
      exact (Below.heap_alloc _ _ _ (by rw [alloc_size, hsb]; omega)).trans (Below.heap_alloc _ _ _ (by rw [hsb]; exact hk))
    have hxl := hrun.len
    have hbl := hr.len
    gi_wp2_with (first
      | (gi_at_builtin; refine wpListIn_append_own _ rfl _ _ 32 rfl (w.heap.size + 7) 25 i0 _ 4 48 und_items hii hiz his hib (by rfl) (by decide) (.slice A5 pre.length cp5) pre.length (Der.flatI pre) rfl (HWc.out.symm ▸ ownc.own) ⟨W.heap.size + 1 + 1, 0, none⟩ 1 1 [.int .u8 ((n8 tag : Nat) : Int), .slice A1 body.length c1, .int .i64 iat, .int .i64 (ilen : Int)] rfl rfl (HWc.out.symm ▸ hcells) (by simp [Value.oneCell']) (by unfold maxLen; omega) (by omega) (by simp only [alloc_size, hsb]; omega) ?_; rw [HWc.out]; intro v9 We hown9 hgrow _; obtain ⟨g9, cap9, rfl⟩ := ownsRow_succ hown9; have bve := bvc.grown hgrow (fun e => absurd (hvlt _ e.symm).1 (by omega)); have ce := bve.cell 0; have fe := bve.frozen 0)
      | (refine ⟨trivial, ?_⟩; refine (CallsIn.inRound _ (callsIn_wide.2 (as_nil _ _))).mono ?_; rintro e w1 ⟨rfl, rfl⟩))
    have hne : ∀ k, (k < w.heap.size + 7 ∨ Wp.heap.size ≤ k) → (Value.slice A5 pre.length cp5).ownBlock ≠ some k := fun k hk e => by have := hvlt k e; omega
    have hke : ∀ k, k < W.heap.size + 1 → (k < w.heap.size + 7 ∨ Wp.heap.size ≤ k) → We.heap[k]? = (Wc.alloc (.cells #[.int .u8 ((n8 tag : Nat) : Int), .slice A1 body.length c1, .int .i64 iat, .int .i64 (ilen : Int)] 25)).heap[k]? := fun k hk h => hgrow.block k (by rw [alloc_size, hsc]; omega) (fun e => hne k h e.symm)
    have hkf : ∀ k, k ≠ w.heap.size + 1 + 1 + 1 → (We.setCell ⟨w.heap.size + 1 + 1 + 1, 0, none⟩ (.slice (some ⟨g9, 0, none⟩) (pre.length + 1) cap9)).heap[k]? = We.heap[k]? := fun k hk => Below.heap_setCell _ ⟨w.heap.size + 1 + 1 + 1, 0, none⟩ _ _ hk
    have hlf : (We.setCell ⟨w.heap.size + 1 + 1 + 1, 0, none⟩ (.slice (some ⟨g9, 0, none⟩) (pre.length + 1) cap9)).heap[w.heap.size + 5 + 1]? = some (.loop rb) :=
      (hkf _ (by omega)).trans ((hke _ (by omega) (.inl (by omega))).trans ((hkc _ (by omega)).trans hlb))
    have hend : (Instr.endRound (w.heap.size + 5 + 1) none).run Tryd.prog (We.setCell ⟨w.heap.size + 1 + 1 + 1, 0, none⟩ (.slice (some ⟨g9, 0, none⟩) (pre.length + 1) cap9)) = .ok (.bool true) ((We.setCell ⟨w.heap.size + 1 + 1 + 1, 0, none⟩ (.slice (some ⟨g9, 0, none⟩) (pre.length + 1) cap9)).putObj (w.heap.size + 5 + 1) (.loop rec)) := by
      rw [run_endRound none hlf, ← Hrb.out, hrec]
      rfl
    have own9 : Der.OwnI We (w.heap.size + 7) (.slice (some ⟨g9, 0, none⟩) (pre.length + 1) cap9) (pre ++ [(⟨tag, body, iat, ilen, ierr⟩, .slice A1 body.length c1)]) := ownc.app bodyc hgrow (by rw [List.length_append]; simpa [Der.flatI, Der.X.cells, itemCells] using hown9)
    have hgg : (We.setCell ⟨w.heap.size + 1 + 1 + 1, 0, none⟩ (.slice (some ⟨g9, 0, none⟩) (pre.length + 1) cap9)).grownBy ((We.setCell ⟨w.heap.size + 1 + 1 + 1, 0, none⟩ (.slice (some ⟨g9, 0, none⟩) (pre.length + 1) cap9)).putObj (w.heap.size + 5 + 1) (.loop rec)) (some (w.heap.size + 5 + 1)) := grownBy_putObj' _ _ _
    have ownf := (own9.far (p := ⟨w.heap.size + 1 + 1 + 1, 0, none⟩) (by show w.heap.size + 1 + 1 + 1 < _; omega) (.slice (some ⟨g9, 0, none⟩) (pre.length + 1) cap9)).moved hgg (by omega)
    have bvf := (bve.set_ 0 (.slice (some ⟨g9, 0, none⟩) (pre.length + 1) cap9)).grown hgg (by intro e; injection e; omega)
    have hall : ∀ k, k ≠ w.heap.size + 1 + 1 + 1 → k ≠ w.heap.size + 5 + 1 → (k < w.heap.size + 7 ∨ Wp.heap.size ≤ k) → k < W.heap.size → ((We.setCell ⟨w.heap.size + 1 + 1 + 1, 0, none⟩ (.slice (some ⟨g9, 0, none⟩) (pre.length + 1) cap9)).putObj (w.heap.size + 5 + 1) (.loop rec)).heap[k]? = W.heap[k]? := fun k h1 h2 h3 h4 =>
      (World.putObj_heap_other h2).trans ((hkf k h1).trans ((hke k (by omega) h3).trans ((hkc k (by omega)).trans ((hgb.block k (by omega) (by intro e; injection e; omega)).trans (hka k h4)))))
    have hBw : Below w.heap.size w Wb := (hJ.below.trans (hBa.mono (by omega))).grown hgb (by omega) (fun k hk => by injection hk; omega)
    have hBd : Below w.heap.size w (Wc.alloc (.cells #[.int .u8 ((n8 tag : Nat) : Int), .slice A1 body.length c1, .int .i64 iat, .int .i64 (ilen : Int)] 25)) := by rw [← HWc.out]; exact (hBw.alloc (by omega) _).alloc (by rw [alloc_size]; omega) _
    have hBe : Below w.heap.size w We := hBd.grown hgrow (by rw [alloc_size]; omega) (fun k hk => by have := (hvlt k hk).1; omega)
    have hBf := (hBe.setCell (p := ⟨w.heap.size + 1 + 1 + 1, 0, none⟩) (by show w.heap.size ≤ w.heap.size + 1 + 1 + 1; omega) (.slice (some ⟨g9, 0, none⟩) (pre.length + 1) cap9)).grown hgg (by have h1 := hgrow.size; rw [alloc_size] at h1; rw [World.size_setCell]; omega) (fun k hk => by injection hk; omega)
    refine ⟨_, _, hend, rfl, ⟨?_, ?_, ?_, ⟨_, bvf, ownf⟩, ?_, World.putObj_heap_same (Array.getElem?_eq_some_iff.1 hlf).1, hBf⟩, ?_, ?_⟩
    · exact ⟨(hall _ (by omega) (by omega) (.inl (by omega)) (by omega)).trans ((hB.block _ (by omega)).trans hJ.r0.is)⟩
    · exact ⟨(hall _ (by omega) (by omega) (.inl (by omega)) (by omega)).trans ((hB.block _ (by omega)).trans hJ.r1.is)⟩
    · exact ⟨(hall _ (by omega) (by omega) (.inl (by omega)) (by omega)).trans ((hB.block _ (by omega)).trans hJ.r2.is)⟩
    · exact (hall _ (by omega) (by omega) (.inl (by omega)) (by omega)).trans hdd
    · have h1 := hgrow.size
      rw [alloc_size] at h1
      rw [World.putObj_size, World.size_setCell]
      omega
    · intro k hk hkW
      exact hall k (by omega) (by omega) (by omega) hkW
  case hE =>
    rw [Her.out]
    intro pre x Wp W hJ hB own
    obtain ⟨⟨tag, body, iat, ilen, ierr⟩, val⟩ := x
    dsimp only at own
    obtain ⟨A1, c1, e1⟩ := own.slice
    subst e1
    unfold Der.X.cells itemCells
    dsimp only
    have hlp : w.heap.size + 6 < Wp.heap.size := (Array.getElem?_eq_some_iff.1 hJ.loop).1
    have hl : W.heap[w.heap.size + 5 + 1]? = some (.loop rec) := (hB.block _ hlp).trans hJ.loop
    have hdd : W.heap[w.heap.size + 5]? = some (.deferred (some [])) := (hB.block _ (by omega)).trans hJ.dfr
    have hy := run_yield (P := Tryd.prog) (args := #[.agg #[.int .u8 ((n8 tag : Nat) : Int), .slice A1 body.length c1, .int .i64 iat, .int .i64 (ilen : Int)], .iface 55 (.agg #[.int .i64 (j : Int), .int .i64 er])]) hl (by rw [hrec]; rfl)
    rw [hrec] at hy
    refine ⟨_, _, _, _, hy, roundIn_of_wpIn trivial ?_⟩
    clear hy
    gi_wp2
    obtain ⟨v, bv, ownp⟩ := hJ.own
    obtain ⟨A5, cp5, e5⟩ := ownp.form
    subst e5
    have hvlt := ownp.lt
    have hBa := hB.alloc hB.size (.cells #[.int .u8 ((n8 tag : Nat) : Int), .slice A1 body.length c1, .int .i64 iat, .int .i64 (ilen : Int)] 25)
    obtain ⟨Wa, HWa⟩ : ∃ y, Hd (W.alloc (.cells #[.int .u8 ((n8 tag : Nat) : Int), .slice A1 body.length c1, .int .i64 iat, .int .i64 (ilen : Int)] 25) = y) := ⟨_, ⟨rfl⟩⟩
    have hsa : Wa.heap.size = W.heap.size + 1 := by rw [← HWa.out, alloc_size]
    have bita : Blk Wa W.heap.size 25 #[.int .u8 ((n8 tag : Nat) : Int), .slice A1 body.length c1, .int .i64 iat, .int .i64 (ilen : Int)] := by rw [← HWa.out]; exact Blk.nu rfl
    have hka : ∀ k, k < W.heap.size → Wa.heap[k]? = W.heap[k]? := fun k hk => by rw [← HWa.out]; exact Below.heap_alloc W _ k hk
    rw [HWa.out] at hBa ⊢
    have hla : Wa.heap[w.heap.size + 5 + 1]? = some (.loop rec) := (hka _ (by have := hB.size; omega)).trans hl
    have hda : Wa.heap[w.heap.size + 5]? = some (.deferred (some [])) := (hka _ (by have := hB.size; omega)).trans hdd
    refine ⟨_, run_beginRound hla (by rw [hrec]), ?_⟩
    obtain ⟨rb, Hrb⟩ : ∃ y : Loop, Hd ({ rec with state := .busy } = y) := ⟨_, ⟨rfl⟩⟩
    rw [Hrb.out]
    have hgb : Wa.grownBy (Wa.putObj (w.heap.size + 5 + 1) (.loop rb)) (some (w.heap.size + 5 + 1)) := grownBy_putObj' _ _ _
    have hlb : (Wa.putObj (w.heap.size + 5 + 1) (.loop rb)).heap[w.heap.size + 5 + 1]? = some (.loop rb) := World.putObj_heap_same (Array.getElem?_eq_some_iff.1 hla).1
    obtain ⟨Wb, HWb⟩ : ∃ y, Hd (Wa.putObj (w.heap.size + 5 + 1) (.loop rb) = y) := ⟨_, ⟨rfl⟩⟩
    rw [HWb.out] at hgb hlb ⊢
    have hsb : Wb.heap.size = W.heap.size + 1 := by rw [← HWb.out, World.putObj_size, hsa]
    have hWp := hB.size
    have bit : Blk Wb W.heap.size 25 #[.int .u8 ((n8 tag : Nat) : Int), .slice A1 body.length c1, .int .i64 iat, .int .i64 (ilen : Int)] := bita.grown hgb (by intro e; injection e; omega)
    have bvb : Blk Wb (w.heap.size + 1 + 1 + 1) 32 #[.slice A5 pre.length cp5] := (bv.below hBa bv.lt).grown hgb (by intro e; injection e; omega)
    have ownb : Der.OwnI Wb (w.heap.size + 7) (.slice A5 pre.length cp5) pre := (ownp.later hBa).moved hgb (by omega)
    have bodyb : OwnB Wb (w.heap.size + 7) (.slice A1 body.length c1) body := by
      have h1 := own.alloc (.cells #[.int .u8 ((n8 tag : Nat) : Int), .slice A1 body.length c1, .int .i64 iat, .int .i64 (ilen : Int)] 25)
      rw [HWa.out] at h1
      exact (h1.moved hgb (by rcases h1.size with e | ⟨g, e, h2, _⟩
                              · rw [e]; intro h; cases h
                              · rw [e]; intro h; injection h; omega)).low (by omega)
    have hbw : Blk (Wb.alloc (.cells #[.int .i64 0, .int .i64 0] 55)) (W.heap.size + 1) 55 #[.int .i64 0, .int .i64 0] := Blk.nu hsb.symm
    have hBw : Below w.heap.size w Wb := (hJ.below.trans (hBa.mono (by omega))).grown hgb (by omega) (fun k hk => by injection hk; omega)
    have hgw : (Wb.alloc (.cells #[.int .i64 0, .int .i64 0] 55)).cell? ⟨0, 0, none⟩ = some (.iface 108 (.agg #[.pointer (some ⟨9, 53, none⟩)])) :=
      ((hBw.alloc hBw.size (.cells #[.int .i64 0, .int .i64 0] 55)).cell (p := ⟨0, 0, none⟩) hgl).trans hg
    gi_wp2_with (first
      | (refine ⟨trivial, ?_⟩; refine (CallsIn.inRound _ (callsIn_wide.2 (As.as_hit (j : Int) er _ _ _ _ hgw hbw))).mono ?_; rintro e w1 ⟨rfl, bt, g1⟩))
    have hs1 := g1.size
    rw [alloc_size, hsb] at hs1
    have hk1 : ∀ k, k < W.heap.size → k ≠ w.heap.size + 5 + 1 → w1.heap[k]? = W.heap[k]? := fun k hk hne =>
      (g1.block k (by rw [alloc_size, hsb]; omega) (by intro e; injection e; omega)).trans ((Below.heap_alloc _ _ _ (by rw [hsb]; omega)).trans ((hgb.block k (by omega) (by intro e; injection e; omega)).trans (hka k hk)))
    have hl1 : w1.heap[w.heap.size + 5 + 1]? = some (.loop rb) :=
      (g1.block _ (by rw [alloc_size, hsb]; omega) (by intro e; injection e; omega)).trans ((Below.heap_alloc _ _ _ (by rw [hsb]; omega)).trans hlb)
    have k0 : Blk w1 w.heap.size 32 #[.slice none 0 0] := ⟨(hk1 _ (by omega) (by omega)).trans ((hB.block _ (by omega)).trans hJ.r0.is)⟩
    have k1 : Blk w1 (w.heap.size + 1) 3 #[.int .i64 0] := ⟨(hk1 _ (by omega) (by omega)).trans ((hB.block _ (by omega)).trans hJ.r1.is)⟩
    have k2 : Blk w1 (w.heap.size + 1 + 1) 26 #[.int .i64 0] := ⟨(hk1 _ (by omega) (by omega)).trans ((hB.block _ (by omega)).trans hJ.r2.is)⟩
    have c0 := k0.cell 0
    have c1' := k1.cell 0
    have c2 := k2.cell 0
    have f0 := k0.frozen 0
    have f1 := k1.frozen 0
    have f2 := k2.frozen 0
    have x0 := bt.cell 0
    have x1 := bt.cell 1
    have n0 : W.heap.size + 1 ≠ w.heap.size := by omega
    have n1 : W.heap.size + 1 ≠ w.heap.size + 1 := by omega
    have n2 : W.heap.size + 1 ≠ w.heap.size + 1 + 1 := by omega
    have m0 : w.heap.size ≠ W.heap.size + 1 := by omega
    have m1 : w.heap.size + 1 ≠ W.heap.size + 1 := by omega
    have m2 : w.heap.size + 1 + 1 ≠ W.heap.size + 1 := by omega
    simp at c0 c1' c2 x0 x1
    have hd1 : w1.heap[w.heap.size + 5]? = some (.deferred (some [])) := (hk1 _ (by omega) (by omega)).trans hdd
    have hBw1 : Below w.heap.size w w1 := (hBw.alloc hBw.size _).grown g1 (by rw [alloc_size, hsb]; omega) (fun k hk => by injection hk; omega)
    have hE1 := Der.Jd.set (j := j) (e := er) k0 k1 k2 hd1 hl1 hBw1
    have hE2 := Der.Jd.set (j := j) (e := er) (W := w1.drew) ⟨k0.is⟩ ⟨k1.is⟩ ⟨k2.is⟩ hd1 hl1 hBw1.drew
    clear hgw hbw hBw
    refine Code.wpIn_mono (Q := fun e a' w' => e = .normal ∧ Der.Jd w rb j er w') (fun e a' w' hh => ?_) ?_
    · obtain ⟨rfl, hd5⟩ := hh
      clear hE1 hE2 hd1 hl1 hk1 k0 k1 k2 c0 c1' c2 f0 f1 f2 x0 x1 hs1 g1 bt hBw1 n0 n1 n2 m0 m1 m2
      gi_wp2
      refine ⟨_, _, run_endRound (some .ret) hd5.loop, ⟨_, rfl⟩, ?_⟩
      rw [← Hrb.out] at hd5 ⊢
      exact hd5.put _
    · gi_region
      all_goals first
        | exact ⟨rfl, hE1.drew⟩
        | exact ⟨rfl, hE1⟩
        | exact ⟨rfl, hE2⟩
        | exact ⟨rfl, hE2.drew⟩
  case post =>
    rintro e W2 ⟨⟨v, rfl⟩, ys, hys, hJ⟩
    have hend := run_endLoop (P := Tryd.prog) hJ.loop (by intro h; cases h)
    refine ⟨some .ret, _, hend, ?_⟩
    have hJ4 := hJ.put { rec with state := .exhausted, pending := some .ret }
    obtain ⟨W4, HW4⟩ : ∃ x, Hd (W2.putObj (w.heap.size + 5 + 1) (.loop { rec with state := .exhausted, pending := some .ret }) = x) := ⟨_, ⟨rfl⟩⟩
    rw [HW4.out] at hJ4
    show Code.ret.wpIn _ _ _ _ _ (W2.putObj (w.heap.size + 5 + 1) (.loop { rec with state := .exhausted, pending := some .ret }))
    rw [HW4.out]
    clear HW4 hend hJ b0 b1 b2 b3 b4 hBl hB0
    gi_wp2
    refine ⟨by simp, .inl ⟨_, _, rfl, run_takeDeferred hJ4.dfr, ?_⟩⟩
    have hg6 : W4.grownBy (W4.putObj (w.heap.size + 5) (.deferred none)) (some (w.heap.size + 5)) := grownBy_putObj' _ _ _
    have hB6 := hJ4.below.grown hg6 (by have := hJ4.r0.lt; omega) (fun k hk => by injection hk; omega)
    have i0 := (hJ4.r0.grown hg6 (by intro e; injection e; omega)).cell 0
    have i1 := (hJ4.r1.grown hg6 (by intro e; injection e; omega)).cell 0
    have i2 := (hJ4.r2.grown hg6 (by intro e; injection e; omega)).cell 0
    exact ⟨_, Der.res3 rfl rfl rfl rfl (by kernel_rfl) (by kernel_rfl) (by kernel_rfl) i0 i1 i2, by rw [Her.out]; rfl, hB6⟩
end Go.Proofs.YthkggeohdclffaaDoor
