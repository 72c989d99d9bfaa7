/-
  The law SchedBack, walked.
-/
import Derived.Test.YthigbggacgiamaaDoorTkP
import Derived.Test.YthigbggacgiamaaDoorLawA
set_option linter.unusedVariables false
set_option linter.unusedSimpArgs false
set_option maxRecDepth 100000
namespace Go.Proofs.YthigbggacgiamaaDoor
open Go.RowKit
namespace Tk
theorem guard4 : Tryd.prog.eqGuardType Tryd.prog.depth 22 = false := by kernel_rfl
theorem neArr4 {w : World} {o : Oper} {ρ : Operand → Value} {x y : Operand} {rt : TypeId} (ho : o.op = .binOp .neq 22 x y rt) (l m : List UInt8) (hl : l.length = 4) (hm : m.length = 4) (b : Bool) (hb : (!decide (l = m)) = b) (hx : ρ x = .agg (arr l)) (hy : ρ y = .agg (arr m)) :
    (execOp ρ o).run Tryd.prog w = .ok (.value (.bool b)) w := by
  subst hb
  have e1 : (Op.equalIn 10000 22 (.agg (arr l)) (.agg (arr m))).run Tryd.prog w = .ok (decide (l = m)) w := run_equalIn_arr w 9998 Tryd.underlying22 Tryd.underlying5 one8 l m hl hm
  unfold execOp
  simp only [ho, hx, hy, Sem.run_bind, run_eqGuard_agg _ _ _ _ _ _ _ guard4, run_neq_struct, e1, Result.andThen_ok]
  rfl
theorem fld_key0' (a : Addr) (w : World) : (Instr.fieldAt 25 (.pointer (some a)) 0).run Tryd.prog w = .ok (.pointer (some a)) w := by
  have h : (Instr.fieldAt 25 (.pointer (some a)) 0).run Tryd.prog w = .ok (.pointer (some (a.add 0))) w := by kernel_rfl
  rwa [Addr.add_zero'] at h
theorem belowK {w0 w w' : World} {B : Nat} {v : Value} {ks : List (List UInt8)} (h : Below B w0 w) (ho : OwnK w B v ks) (hg : w.grownBy w' v.ownBlock) (hs : B ≤ w.heap.size) : Below B w0 w' := h.grown hg hs fun k hk => by
  rcases ho.lt with e | ⟨g, e, h1, _⟩
  · rw [e] at hk; cases hk
  · rw [e] at hk; injection hk; omega
theorem filter_snoc (p : List UInt8 → Bool) (ks : List (List UInt8)) (j : Nat) (hj : j < ks.length) : (ks.take (j + 1)).filter p = (ks.take j).filter p ++ (if p (ks.getD j []) then [ks.getD j []] else []) := by
  rw [List.take_add_one, List.getElem?_eq_getElem hj, List.filter_append]
  congr 1
  rw [List.getD_eq_getElem?_getD, List.getElem?_eq_getElem hj]
  simp only [Option.toList, Option.getD, List.filter_cons, List.filter_nil]
theorem getD_left {a b : List (List UInt8)} {i : Nat} (h : i < a.length) : (a ++ b).getD i [] = a.getD i [] := by
  rw [List.getD_eq_getElem?_getD, List.getD_eq_getElem?_getD, List.getElem?_append_left h]
theorem getD_at (a : List (List UInt8)) (k : List UInt8) (b : List (List UInt8)) : (a ++ k :: b).getD a.length [] = k := by
  rw [List.getD_eq_getElem?_getD, List.getElem?_append_right (Nat.le_refl _), Nat.sub_self]; rfl
theorem calls_name {P : Program} {f : FuncId} {args : Array Value} {w : World} {Q : Ending → World → Prop} (R : World → Prop) (h : R w) (k : ∀ w, R w → Calls P f args w Q) : Calls P f args w Q := k w h
theorem cellsK {w : World} {ad : Addr} {l : List UInt8} (h : Cells w ad (l.map U8)) (n : Nat) : Cells w ad ((l.take n).map U8) := by
  refine ⟨fun j v hv => h.is j v ?_⟩
  rw [List.map_take, List.getElem?_take] at hv
  split at hv
  · exact hv
  · cases hv
/-- What the law holds: the boxes, the ticket. -/
structure Lw (w W : World) (kn nonce : List UInt8) (ss : Array Value) (A : Option Addr) (m : Nat) (t : List UInt8) : Prop where
  bx : Bx w W w.heap.size kn nonce ss
  low : w.heap.size + 1 + 1 + 1 ≤ W.heap.size
  tk : ReadsB W W.heap.size A m t
theorem Lw.next {w W W' : World} {kn nonce : List UInt8} {ss : Array Value} {A : Option Addr} {m : Nat} {t : List UInt8} (h : Lw w W kn nonce ss A m t) {B : Nat} (hb : Below B W W') (hB : B = W.heap.size) : Lw w W' kn nonce ss A m t := by
  subst hB
  exact ⟨h.bx.next (hb.mono h.low), Nat.le_trans h.low hb.size, ⟨h.tk.len, (h.tk.is.below hb).more hb.size⟩⟩
end Tk
set_option maxHeartbeats 4000000 in
set_option maxRecDepth 100000 in
theorem Tk.back_no (name key nonce : List UInt8) (hn : name.length = 4) (hk : key.length = 32) (hc : nonce.length = 12) (A : Option Addr) (c : Nat) (ks : List (List UInt8)) (s : Tk.Ses) (D : Option Addr) (d : Nat) (w : World) (hks : Tk.RdK w w.heap.size A ks) (hkl : ks.length * 36 ≤ 140737488351232) (hr : ReadsB w w.heap.size D s.secret.length s.secret) (htb : Tabs w) (hmay : ¬ Tk.May s) :
    Calls Tryd.prog 3 #[.agg (arr (name ++ key)), .slice A ks.length c, .agg (arr nonce), Tk.ses D d s] w fun e w' => e = .returned (.bool true) ∧ Below w.heap.size w w' := by
  have HM := hd (show decide (Tk.May s) = false from decide_eq_false hmay)
  have Hn := hd hn
  have Hk := hd hk
  have Hc := hd hc
  obtain ⟨su, se, ho, pr, ma, li, ad⟩ := s
  dsimp only at hr
  have X3 : Tk.Bx w (((w.alloc (.cells (arr (name ++ key)) 25)).alloc (.cells (arr nonce) 27)).alloc (.cells #[.int .u16 ((n16 su : Nat) : Int), .slice D se.length d, .string (str ho), .string (str pr), .int .u64 ((n64 ma : Nat) : Int), .int .u32 ((n32 li : Nat) : Int), .int .u32 ((n32 ad : Nat) : Int)] 34)) w.heap.size (name ++ key) nonce #[.int .u16 ((n16 su : Nat) : Int), .slice D se.length d, .string (str ho), .string (str pr), .int .u64 ((n64 ma : Nat) : Int), .int .u32 ((n32 li : Nat) : Int), .int .u32 ((n32 ad : Nat) : Int)] :=
    ⟨((Blk.nu rfl).alloc _).alloc _, (Blk.nu (by simp)).alloc _, Blk.nu (by simp), (((Below.refl w.heap.size w).alloc (Nat.le_refl _) _).alloc (by simp only [alloc_size]; omega) _).alloc (by simp only [alloc_size]; omega) _⟩
  have hB3 := X3.below
  clear hn hk hc
  unfold Tk.ses
  dsimp only
  go_enter Tryd.func3, Tryd.ntmps3
  go_wp2_with (first
   | (go_at_call 6; refine (rmay_any ⟨su, se, ho, pr, ma, li, ad⟩ D d w5).mono ?_; rintro e w6 ⟨rfl, hB6⟩; rw [HM.out])
   | (go_at_call 5; refine (sealT_no ⟨su, se, ho, pr, ma, li, ad⟩ hmay (name ++ key) nonce D d w4).mono ?_; rintro e w5 ⟨rfl, hB5⟩; have z4 := hB4.size; rw [alloc_size, alloc_size, alloc_size] at z4; have X5 := X4.next (hB5.mono z4))
   | (with_reducible change wpList _ _ _ (⟨some 31, _, _, _, _, _⟩ :: _) _ _; refine wpl_run (o := ⟨some 31, _, _, _, _, _⟩) (wanted_plain rfl) (.agg #[.int .u16 ((n16 su : Nat) : Int), .slice D se.length d, .string (str ho), .string (str pr), .int .u64 ((n64 ma : Nat) : Int), .int .u32 ((n32 li : Nat) : Int), .int .u32 ((n32 ad : Nat) : Int)]) (Tk.ldA (by rfl) (by simp [Act.eval, Act.put]) Tk.ses_agg rfl X5.s) ?_)
   | (go_at_call 4; refine (head19_any _ (htb.below hB3)).mono ?_; rintro e w4 ⟨rfl, hB4⟩; rw [alloc_size, alloc_size, alloc_size] at hB4; have X4 := X3.next hB4; have r4 : ReadsB w4 w4.heap.size D se.length se := ⟨hr.len, (hr.is.below X4.below).more X4.below.size⟩)
   | (with_reducible change wpList _ _ _ (⟨some 25, _, _, _, _, _⟩ :: _) _ _; refine wpl_load_arr rfl 25 _ rfl ⟨w.heap.size, 0, none⟩ rfl 36 Tk.agg36 (name ++ key) (by rw [List.length_append, Hn.out, Hk.out]) X4.k.cells_arr ?_)
   | (with_reducible change wpList _ _ _ (⟨some 26, _, _, _, _, _⟩ :: _) _ _; refine wpl_load_arr rfl 27 _ rfl ⟨w.heap.size + 1, 0, none⟩ rfl 12 Tk.agg12 nonce Hc.out X4.n.cells_arr ?_)
   | (with_reducible change wpList _ _ _ (⟨some 27, _, _, _, _, _⟩ :: _) _ _; refine wpl_run (o := ⟨some 27, _, _, _, _, _⟩) (wanted_plain rfl) (.agg #[.int .u16 ((n16 su : Nat) : Int), .slice D se.length d, .string (str ho), .string (str pr), .int .u64 ((n64 ma : Nat) : Int), .int .u32 ((n32 li : Nat) : Int), .int .u32 ((n32 ad : Nat) : Int)]) (Tk.ldA (by rfl) (by simp [Act.eval, Act.put]) Tk.ses_agg rfl X4.s) ?_))
  go_ret
  exact ⟨rfl, X5.below.trans (hB6.mono X5.below.size)⟩
theorem Tk.cellsN {W : World} {g : Nat} {t : TypeId} {nm kk : List UInt8} (h : Blk W g t (arr (nm ++ kk))) (hn : nm.length = 4) : Cells W ⟨g, 0, none⟩ (nm.map U8) := by
  have h1 := Tk.cellsK h.cells_arr 4
  rwa [List.take_left' hn] at h1
theorem Tk.one_reads (w : World) (k : List UInt8) (hk : k.length = 36) : Tk.RdK (w.alloc (.cells (arr k) 25)) (w.alloc (.cells (arr k) 25)).heap.size (some ⟨w.heap.size, 0, none⟩) [k] := by
  obtain ⟨A, c, e, h⟩ := (Tk.OwnK.one (B := 0) (Nat.zero_le _) k hk).reads (w := w.alloc (.cells (arr k) 25))
  injection e with e
  subst e
  exact h
set_option maxHeartbeats 8000000 in
set_option maxRecDepth 100000 in
theorem Tk.back_yes (name key nonce : List UInt8) (hn : name.length = 4) (hk : key.length = 32) (hc : nonce.length = 12) (A : Option Addr) (c : Nat) (ks : List (List UInt8)) (s : Tk.Ses) (D : Option Addr) (d : Nat) (w : World) (hks : Tk.RdK w w.heap.size A ks) (hkl : ks.length * 36 ≤ 140737488351232) (hr : ReadsB w w.heap.size D s.secret.length s.secret) (htb : Tabs w) (hmay : Tk.May s) :
    Calls Tryd.prog 3 #[.agg (arr (name ++ key)), .slice A ks.length c, .agg (arr nonce), Tk.ses D d s] w fun e w' => e = .returned (.bool true) ∧ Below w.heap.size w w' := by
  have HM := hd (show decide (Tk.May s) = true from decide_eq_true hmay)
  obtain ⟨T, HT⟩ : ∃ x, Hd (name ++ nonce ++ Cha.lock key nonce name (Tk.text s) = x) := ⟨_, ⟨rfl⟩⟩
  obtain ⟨p, Hp⟩ : ∃ p : List UInt8 → Bool, Hd ((fun x => !decide (x.take 4 = name)) = p) := ⟨_, ⟨rfl⟩⟩
  have Hn := hd hn
  have Hk := hd hk
  have Hc := hd hc
  obtain ⟨su, se, ho, pr, ma, li, ad⟩ := s
  dsimp only at hr
  have X3 : Tk.Bx w (((w.alloc (.cells (arr (name ++ key)) 25)).alloc (.cells (arr nonce) 27)).alloc (.cells #[.int .u16 ((n16 su : Nat) : Int), .slice D se.length d, .string (str ho), .string (str pr), .int .u64 ((n64 ma : Nat) : Int), .int .u32 ((n32 li : Nat) : Int), .int .u32 ((n32 ad : Nat) : Int)] 34)) w.heap.size (name ++ key) nonce #[.int .u16 ((n16 su : Nat) : Int), .slice D se.length d, .string (str ho), .string (str pr), .int .u64 ((n64 ma : Nat) : Int), .int .u32 ((n32 li : Nat) : Int), .int .u32 ((n32 ad : Nat) : Int)] :=
    ⟨((Blk.nu rfl).alloc _).alloc _, (Blk.nu (by simp)).alloc _, Blk.nu (by simp), (((Below.refl w.heap.size w).alloc (Nat.le_refl _) _).alloc (by simp only [alloc_size]; omega) _).alloc (by simp only [alloc_size]; omega) _⟩
  have hB3 := X3.below
  clear hn hk hc
  unfold Tk.ses
  dsimp only
  go_enter Tryd.func3, Tryd.ntmps3
  go_wp2_with (first
   | (go_at_call 6; refine (rmay_any ⟨su, se, ho, pr, ma, li, ad⟩ D d w5).mono ?_; rintro e w6 ⟨rfl, hB6⟩; rw [HM.out])
   | (go_at_call 5; refine (sealT_any ⟨su, se, ho, pr, ma, li, ad⟩ hmay name key nonce Hn.out Hk.out Hc.out D d w4 r4).mono ?_; rintro e w5 ⟨v5, rfl, own5, hB5⟩; rw [HT.out] at own5; obtain ⟨A5, c5, e5⟩ := own5.slice; subst e5; have z4 := hB4.size; rw [alloc_size, alloc_size, alloc_size] at z4; have X5 := X4.next (hB5.mono z4))
   | (with_reducible change wpList _ _ _ (⟨some 31, _, _, _, _, _⟩ :: _) _ _; refine wpl_run (o := ⟨some 31, _, _, _, _, _⟩) (wanted_plain rfl) (.agg #[.int .u16 ((n16 su : Nat) : Int), .slice D se.length d, .string (str ho), .string (str pr), .int .u64 ((n64 ma : Nat) : Int), .int .u32 ((n32 li : Nat) : Int), .int .u32 ((n32 ad : Nat) : Int)]) (Tk.ldA (by rfl) (by simp [Act.eval, Act.put]) Tk.ses_agg rfl X5.s) ?_)
   | (go_at_call 4; refine (head19_any _ (htb.below hB3)).mono ?_; rintro e w4 ⟨rfl, hB4⟩; rw [alloc_size, alloc_size, alloc_size] at hB4; have X4 := X3.next hB4; have r4 : ReadsB w4 w4.heap.size D se.length se := ⟨hr.len, (hr.is.below X4.below).more X4.below.size⟩)
   | (with_reducible change wpList _ _ _ (⟨some 25, _, _, _, _, _⟩ :: _) _ _; refine wpl_load_arr rfl 25 _ rfl ⟨w.heap.size, 0, none⟩ rfl 36 Tk.agg36 (name ++ key) (by rw [List.length_append, Hn.out, Hk.out]) X4.k.cells_arr ?_)
   | (with_reducible change wpList _ _ _ (⟨some 26, _, _, _, _, _⟩ :: _) _ _; refine wpl_load_arr rfl 27 _ rfl ⟨w.heap.size + 1, 0, none⟩ rfl 12 Tk.agg12 nonce Hc.out X4.n.cells_arr ?_)
   | (with_reducible change wpList _ _ _ (⟨some 27, _, _, _, _, _⟩ :: _) _ _; refine wpl_run (o := ⟨some 27, _, _, _, _, _⟩) (wanted_plain rfl) (.agg #[.int .u16 ((n16 su : Nat) : Int), .slice D se.length d, .string (str ho), .string (str pr), .int .u64 ((n64 ma : Nat) : Int), .int .u32 ((n32 li : Nat) : Int), .int .u32 ((n32 ad : Nat) : Int)]) (Tk.ldA (by rfl) (by simp [Act.eval, Act.put]) Tk.ses_agg rfl X4.s) ?_))
  have hBs5 := hB5.size
  have hBs6 := hB6.size
  have z6 : w.heap.size + 1 + 1 + 1 ≤ w6.heap.size := by omega
  have X6 := X5.next (hB6.mono (Nat.le_trans z4 hBs5))
  have tk6 : ReadsB w6 w6.heap.size A5 T.length T := ⟨rfl, (own5.reads_any.2.is.below hB6).more hBs6⟩
  have room5 := own5.room
  clear X3 X4 X5 hB3 hB4 hB5 hB6 own5 r4 hBs5 hBs6 z4
  go_loopw [13, 14] (fun v i wr => ∃ j : Nat, j ≤ ks.length ∧ i = .int .i64 (j : Int) ∧ Tk.OwnK wr w6.heap.size v ((ks.take j).filter p) ∧ Below w6.heap.size w6 wr) (fun _ i _ => ks.length - (intOf i).toNat)
  case atStart => exact ⟨0, Nat.zero_le _, rfl, Tk.OwnK.nil _ _, Below.refl _ _⟩
  case round =>
    obtain ⟨j, hj, rfl, own, hbr⟩ := hrel
    have hBw := X6.below.trans (hbr.mono X6.below.size)
    by_cases hlt : j < ks.length
    · have t1 : (j : Int) < (ks.length : Int) := by omega
      have wj : IntKind.i64.wrap ((j : Int) + 1) = (j : Int) + 1 := IntWalk.i64_in _ (by omega)
      have hkys := hks.keys
      have kl := hkys.len j hlt
      obtain ⟨ka, ea, hka, hcells0⟩ := hkys.is j hlt
      subst ea
      have hsn := hd (Tk.filter_snoc p ks j hlt)
      obtain ⟨kn, Hkn⟩ : ∃ x, Hd (ks.getD j [] = x) := ⟨_, ⟨rfl⟩⟩
      rw [Hkn.out] at kl hcells0 hsn
      obtain ⟨aj, Haj⟩ : ∃ x, Hd (ka.add (j * 36) = x) := ⟨_, ⟨rfl⟩⟩
      rw [Haj.out] at hcells0
      have haj : aj.block < w.heap.size := by rw [← Haj.out, block_of_add]; exact hka
      obtain ⟨v0, e0, hrv⟩ : ∃ v0, v0 = u13 ∧ True := ⟨_, rfl, trivial⟩
      obtain ⟨kb, Hkb⟩ : ∃ b, Hd ((!decide (kn.take 4 = name)) = b) := ⟨_, ⟨rfl⟩⟩
      go_wp2
      refine p_start (fun W => Tk.OwnK W w6.heap.size u13 ((ks.take j).filter p) ∧ Below w6.heap.size w6 W) (by kernel_rfl) ⟨own.drew, hbr.drew⟩ ?_
      clear own
      refine p_take 0 (o := _) rfl (by kernel_rfl) (by kernel_rfl) (by kernel_rfl) (wanted_plain rfl) (.slice (some ka) ks.length c) (fun _ _ _ h => h) (fun W hW => run_move (by rfl) (by simp [Act.eval]) W) ?_
      simp only [Act.put, List.getElem_toArray, List.getElem_cons_succ, List.getElem_cons_zero, List.setIfInBounds_toArray, List.set_cons_zero, List.set_cons_succ]
      refine p_take 1 (o := _) rfl (by kernel_rfl) (by kernel_rfl) (by kernel_rfl) (wanted_plain rfl) (.int .i64 (j : Int)) (fun _ _ _ h => h) (fun W hW => run_move (by rfl) (by simp [Act.eval]) W) ?_
      simp only [Act.put, List.getElem_toArray, List.getElem_cons_succ, List.getElem_cons_zero, List.setIfInBounds_toArray, List.set_cons_zero, List.set_cons_succ]
      refine p_take 2 (o := _) rfl (by kernel_rfl) (by kernel_rfl) (by kernel_rfl) (wanted_plain rfl) (.pointer (some aj)) (fun _ _ _ h => h) (fun W hW => (by rw [← Haj.out]; exact Tk.index (by rfl) Tk.und_keys Tk.sz36 ka ks.length c j (by simp [Act.eval]) (by simp [Act.eval]) hlt)) ?_
      simp only [Act.put, List.getElem_toArray, List.getElem_cons_succ, List.getElem_cons_zero, List.setIfInBounds_toArray, List.set_cons_zero, List.set_cons_succ]
      refine p_take 3 (o := _) rfl (by kernel_rfl) (by kernel_rfl) (by kernel_rfl) (wanted_plain rfl) (.pointer (some aj)) (fun _ _ _ h => h) (fun W hW => Tk.fieldA (by rfl) (by simp [Act.eval]) (Tk.fld_key0' _)) ?_
      simp only [Act.put, List.getElem_toArray, List.getElem_cons_succ, List.getElem_cons_zero, List.setIfInBounds_toArray, List.set_cons_zero, List.set_cons_succ]
      refine p_take 4 (o := _) rfl (by kernel_rfl) (by kernel_rfl) (by kernel_rfl) (wanted_plain rfl) (.agg (arr (kn.take 4))) (fun _ _ _ h => h) (fun W hW => Tk.ldC (by rfl) (ad := aj) (by simp [Act.eval]) Tk.agg4 ((kn.take 4).map U8) (by rw [List.length_map, List.length_take]; omega) (Tk.cellsK (hcells0.below (X6.below.trans (hW.2.mono X6.below.size)) haj) 4)) ?_
      simp only [Act.put, List.getElem_toArray, List.getElem_cons_succ, List.getElem_cons_zero, List.setIfInBounds_toArray, List.set_cons_zero, List.set_cons_succ]
      refine p_take 5 (o := _) rfl (by kernel_rfl) (by kernel_rfl) (by kernel_rfl) (wanted_plain rfl) (.pointer (some ⟨w.heap.size, 0, none⟩)) (fun _ _ _ h => h) (fun W hW => Tk.fieldA (by rfl) (by simp [Act.eval]) (Tk.fld_key0 _)) ?_
      simp only [Act.put, List.getElem_toArray, List.getElem_cons_succ, List.getElem_cons_zero, List.setIfInBounds_toArray, List.set_cons_zero, List.set_cons_succ]
      refine p_take 6 (o := _) rfl (by kernel_rfl) (by kernel_rfl) (by kernel_rfl) (wanted_plain rfl) (.agg (arr name)) (fun _ _ _ h => h) (fun W hW => Tk.ldC (by rfl) (ad := ⟨w.heap.size, 0, none⟩) (by simp [Act.eval]) Tk.agg4 (name.map U8) (by rw [List.length_map, Hn.out]) (Tk.cellsN (X6.next (hW.2.mono z6)).k Hn.out)) ?_
      simp only [Act.put, List.getElem_toArray, List.getElem_cons_succ, List.getElem_cons_zero, List.setIfInBounds_toArray, List.set_cons_zero, List.set_cons_succ]
      refine p_take 7 (o := _) rfl (by kernel_rfl) (by kernel_rfl) (by kernel_rfl) (wanted_plain rfl) (.bool kb) (fun _ _ _ h => h) (fun W hW => Tk.neArr4 (by rfl) (kn.take 4) name (by rw [List.length_take]; omega) Hn.out kb Hkb.out (by simp [Act.eval]) (by simp [Act.eval])) ?_
      simp only [Act.put, List.getElem_toArray, List.getElem_cons_succ, List.getElem_cons_zero, List.setIfInBounds_toArray, List.set_cons_zero, List.set_cons_succ]
      refine (show ∀ z0, wpAnyV _ _ _ _ _ _ z0 _ _ _ from fun z0 => p_done (by kernel_rfl) (fun W7 H => ?_) z0) _
      obtain ⟨own, hb7⟩ := H
      have hBw7 := X6.below.trans (hb7.mono X6.below.size)
      cases kb with
      | false =>
        rw [show p kn = false by rw [← Hp.out]; exact Hkb.out, if_neg Bool.false_ne_true, List.append_nil] at hsn
        go_wp2
        go_roundw
        case rel => exact ⟨j + 1, hlt, by go_num, by rw [hsn.out]; exact own, hb7⟩
        case measure => simp [intOf]; omega
      | true =>
        rw [show p kn = true by rw [← Hp.out]; exact Hkb.out, if_pos rfl] at hsn
        have hcells := hcells0.below hBw7 haj
        have hle : (((ks.take j).filter p).length + 1) * 36 ≤ 140737488355328 := by
          have h1 := List.length_filter_le p (ks.take j)
          rw [List.length_take] at h1
          omega
        go_wp2_with (first
           | (with_reducible change wpList _ _ _ (⟨some 60, _, _, _, _, _⟩ :: _) _ _; refine wpl_run (o := ⟨some 60, _, _, _, _, _⟩) (wanted_plain rfl) (.pointer (some aj)) (Haj.out ▸ Tk.index (by rfl) Tk.und_keys Tk.sz36 ka ks.length c j (by simp [Act.eval, Act.put]) (by simp [Act.eval, Act.put]) hlt) ?_)
           | (with_reducible change wpList _ _ _ (⟨some 61, _, _, _, _, _⟩ :: _) _ _; refine wpl_load_arr rfl 25 _ rfl aj rfl 36 Tk.agg36 kn kl hcells ?_)
           | (with_reducible change wpList _ _ _ (⟨some 62, _, _, _, _, _⟩ :: _) _ _; refine wpl_run (o := ⟨some 62, _, _, _, _, _⟩) (wanted_plain rfl) _ (Tk.build1 (by rfl) kn kl (by simp [Act.eval, Act.put])) ?_)
           | (with_reducible change wpList _ _ _ (⟨some 63, _, _, _, _, _⟩ :: _) _ _; obtain ⟨v8, W8, hrun8, own8, gr8, _⟩ := Tk.run_app1 (W7.alloc (.cells (arr kn) 25)) _ w6.heap.size u13 _ (own.later ((Below.refl _ _).alloc (Nat.le_refl _) _)) _ ⟨W7.heap.size, 0, none⟩ 1 kn (Tk.one_reads W7 kn kl) hle (by rw [alloc_size]; have := hb7.size; omega); refine wpl_run (o := ⟨some 63, _, _, _, _, _⟩) (wanted_plain rfl) v8 (Tk.call_app (by rfl) (by simp [Act.eval, Act.put]) (by simp [Act.eval, Act.put]) hrun8) ?_))
        have hb8 := Tk.belowK (hb7.alloc hb7.size (.cells (arr kn) 25)) (own.later ((Below.refl _ _).alloc (Nat.le_refl _) _)) gr8 (by rw [alloc_size]; have := hb7.size; omega)
        go_roundw
        case rel => exact ⟨j + 1, hlt, by go_num, by rw [hsn.out]; exact own8, hb8⟩
        case measure => simp [intOf]; omega
    · have ejn : j = ks.length := by omega
      subst ejn
      rw [List.take_length] at own
      have t1 : ¬ (ks.length : Int) < (ks.length : Int) := by omega
      have Xr := X6.next (hbr.mono z6)
      have hbs := hbr.size
      have LK : (name ++ key).length = 36 := by rw [List.length_append, Hn.out, Hk.out]
      obtain ⟨KF, HKF⟩ : ∃ x, Hd (ks.filter p = x) := ⟨_, ⟨rfl⟩⟩
      rw [HKF.out] at own
      obtain ⟨A13, c13, e13, hr13⟩ := own.reads
      subst e13
      have LKF := hd (show KF.length ≤ ks.length by rw [← HKF.out]; exact List.length_filter_le _ _)
      have hbeF : ∀ i, i < KF.length → (KF.getD i []).take 4 ≠ name := fun i hi h => by
        have h1 : KF.getD i [] ∈ ks.filter p := by rw [HKF.out]; exact Tk.getD_mem hi
        have h2 := (List.mem_filter.1 h1).2
        rw [← Hp.out] at h2
        have h3 : (!decide ((KF.getD i []).take 4 = name)) = true := h2
        rw [decide_eq_true h] at h3
        cases h3
      obtain ⟨K8, HK8⟩ : ∃ x, Hd (KF ++ [name ++ key] = x) := ⟨_, ⟨rfl⟩⟩
      have LK8 := hd (show K8.length = KF.length + 1 by rw [← HK8.out, List.length_append]; rfl)
      have hbe8 : ∀ i, i < KF.length → (K8.getD i []).take 4 ≠ name := fun i hi => by rw [← HK8.out, Tk.getD_left hi]; exact hbeF i hi
      have hat8 : K8.getD KF.length [] = name ++ key := by rw [← HK8.out]; exact Tk.getD_at _ _ _
      obtain ⟨K11, HK11⟩ : ∃ x, Hd ([name ++ key] ++ ks = x) := ⟨_, ⟨rfl⟩⟩
      have LK11 := hd (show K11.length = ks.length + 1 by rw [← HK11.out, List.length_append]; simp; omega)
      have hat11 : K11.getD 0 [] = name ++ key := by rw [← HK11.out]; rfl
      have hle1 : (KF.length + 1) * 36 ≤ 140737488355328 := by have := LKF.out; omega
      have hle2 : ([name ++ key].length + ks.length) * 36 ≤ 140737488355328 := by rw [show [name ++ key].length = 1 from rfl]; omega
      have HT2 := hd (show name ++ (nonce ++ Cha.lock key nonce name (Tk.text ⟨su, se, ho, pr, ma, li, ad⟩)) = T by rw [← HT.out, List.append_assoc])
      clear HKF
      go_wp2_with (first
        | (go_at_call 8; refine (rsame_any ⟨su, se, ho, pr, ma, li, ad⟩ X12 cx12 D d w16 hy16 hs16').mono ?_; rintro e w17 ⟨rfl, hB17⟩; have X17 := X16.next (hB17.mono (Nat.le_trans X16.s.lt (Nat.le_refl _))))
        | (with_reducible change wpList _ _ _ (⟨some 92, _, _, _, _, _⟩ :: _) _ _; refine wpl_run (o := ⟨some 92, _, _, _, _, _⟩) (wanted_plain rfl) (.agg #[.int .u16 ((n16 su : Nat) : Int), .slice D se.length d, .string (str ho), .string (str pr), .int .u64 ((n64 ma : Nat) : Int), .int .u32 ((n32 li : Nat) : Int), .int .u32 ((n32 ad : Nat) : Int)]) (Tk.ldA (by rfl) (by simp [Act.eval, Act.put]) Tk.ses_agg rfl X16.s) ?_)
        | (with_reducible change wpList _ _ _ (⟨some 91, _, _, _, _, _⟩ :: _) _ _; refine wpl_run (o := ⟨some 91, _, _, _, _, _⟩) (wanted_plain rfl) (.agg #[.int .u16 ((n16 su : Nat) : Int), .slice X12 se.length cx12, .string (str ho), .string (str pr), .int .u64 ((n64 ma : Nat) : Int), .int .u32 ((n32 li : Nat) : Int), .int .u32 ((n32 ad : Nat) : Int)]) (Tk.ldA (by rfl) (by simp [Act.eval, Act.put]) Tk.ses_agg rfl b13') ?_)
        | (go_at_call 8; refine (rsame_any ⟨su, se, ho, pr, ma, li, ad⟩ X9 cx9 D d W15 hx15 hs15').mono ?_; rintro e w16 ⟨rfl, hB16⟩; have hs16 := hB16.size; have X16 := X15.next (hB16.mono (Nat.le_trans X15.s.lt (Nat.le_refl _))); have b13' := b13.below hB16 b13.lt; have hy16 : ReadsB w16 w16.heap.size X12 se.length se := ⟨hy15.len, (hy15.is.below hB16).more hs16⟩; have hs16' : ReadsB w16 w16.heap.size D se.length se := ⟨hr.len, (hr.is.below X16.below).more X16.below.size⟩)
        | (with_reducible change wpList _ _ _ (⟨some 89, _, _, _, _, _⟩ :: _) _ _; refine wpl_run (o := ⟨some 89, _, _, _, _, _⟩) (wanted_plain rfl) (.agg #[.int .u16 ((n16 su : Nat) : Int), .slice D se.length d, .string (str ho), .string (str pr), .int .u64 ((n64 ma : Nat) : Int), .int .u32 ((n32 li : Nat) : Int), .int .u32 ((n32 ad : Nat) : Int)]) (Tk.ldA (by rfl) (by simp [Act.eval, Act.put]) Tk.ses_agg rfl X15.s) ?_)
        | (with_reducible change wpList _ _ _ (⟨some 88, _, _, _, _, _⟩ :: _) _ _; refine wpl_name (fun W => Blk W w14.heap.size 34 #[.int .u16 0, .slice none 0 0, .string ⟨#[]⟩, .string ⟨#[]⟩, .int .u64 0, .int .u32 0, .int .u32 0] ∧ Below w14.heap.size w14 W) ⟨Blk.nu rfl, (Below.refl _ _).alloc (Nat.le_refl _) _⟩ ?_; rintro W15 ⟨bW15, hW15⟩; have hs15 := hW15.size; have hb15 := hB14.trans (hW15.mono hs14); have X15 := X13.next (hb15.mono (Nat.le_trans z6 (Nat.le_trans hb10.size hb13.size))); have b10 := b10'.below hb15 b10'.lt; have b13 := bW13.below hb15 bW13.lt; have hx15 : ReadsB W15 W15.heap.size X9 se.length se := ⟨hx13.len, (hx13.is.below hb15).more hb15.size⟩; have hy15 : ReadsB W15 W15.heap.size X12 se.length se := ⟨hy13.len, (hy13.is.below hb15).more hb15.size⟩; have hs15' : ReadsB W15 W15.heap.size D se.length se := ⟨hr.len, (hr.is.below X15.below).more X15.below.size⟩; refine wpl_run (o := ⟨some 88, _, _, _, _, _⟩) (wanted_plain rfl) (.agg #[.int .u16 ((n16 su : Nat) : Int), .slice X9 se.length cx9, .string (str ho), .string (str pr), .int .u64 ((n64 ma : Nat) : Int), .int .u32 ((n32 li : Nat) : Int), .int .u32 ((n32 ad : Nat) : Int)]) (Tk.ldA (by rfl) (by simp [Act.eval, Act.put]) Tk.ses_agg rfl b10) ?_)
        | (go_at_call 7; refine Tk.calls_name (fun W => Blk W w12.heap.size 34 #[.int .u16 ((n16 su : Nat) : Int), .slice X12 se.length cx12, .string (str ho), .string (str pr), .int .u64 ((n64 ma : Nat) : Int), .int .u32 ((n32 li : Nat) : Int), .int .u32 ((n32 ad : Nat) : Int)] ∧ Below w12.heap.size w12 W) ⟨Blk.nu rfl, (Below.refl _ _).alloc (Nat.le_refl _) _⟩ ?_; rintro W13 ⟨bW13, hW13⟩; have hs13 := hW13.size; have hb13 := hb12.trans (hW13.mono (Nat.le_trans hs11 hs12)); have b10' := bW10.below hb13 bW10.lt; have X13 := X10.next (hb13.mono (Nat.le_trans z6 hb10.size)); have old13 := (old10.below hb13).more hb13.size; have hx13 : ReadsB W13 W13.heap.size X9 se.length se := ⟨hx10.len, (hx10.is.below hb13).more hb13.size⟩; have hy13 : ReadsB W13 W13.heap.size X12 se.length se := ⟨hx12.len, (hx12.is.below hW13).more hs13⟩; have tk13 : ReadsB W13 W13.heap.size A5 T.length (name ++ (nonce ++ Cha.lock key nonce name (Tk.text ⟨su, se, ho, pr, ma, li, ad⟩))) := HT2.out.symm ▸ (⟨tk6.len, (((tk6.is.below hb10).more hb10.size).below hb13).more hb13.size⟩ : ReadsB W13 W13.heap.size A5 T.length T); refine (openT_any ⟨su, se, ho, pr, ma, li, ad⟩ hmay name key nonce Hn.out Hk.out Hc.out A13 c13 KF A5 T.length c5 W13 old13.keys (by omega) tk13 room5 KF.length (Nat.le_refl _) hbeF (fun h => absurd h (Nat.lt_irrefl _))).mono ?_; rintro e w14 R14; obtain rfl := R14.none_ rfl; have hB14 := R14.below; have hs14 := hB14.size; unfold Tk.zero)
        | (go_at_call 7; refine (openT_any ⟨su, se, ho, pr, ma, li, ad⟩ hmay name key nonce Hn.out Hk.out Hc.out A11 c11 K11 A5 T.length c5 W11 hr11.keys (by have := LK11.out; omega) tk11 room5 0 (Nat.zero_le _) (fun i hi => absurd hi (Nat.not_lt_zero i)) (fun _ => hat11)).mono ?_; rintro e w12 R12; obtain ⟨X12, cx12, rfl, hx12⟩ := R12.got (by have := LK11.out; omega); have hB12 := R12.below; have hs12 := hB12.size; have hb12 := hb11.trans (hB12.mono hs11); unfold Tk.ses; dsimp only)
        | (with_reducible change wpList _ _ _ (⟨some 77, _, _, _, _, _⟩ :: _) _ _; obtain ⟨v11, W11, hrun11, own11, gr11⟩ := Tk.run_app (W10.alloc (.cells (arr (name ++ key)) 25)) _ W10.heap.size (.slice (some ⟨W10.heap.size, 0, none⟩) 1 1) [(name ++ key)] (Tk.OwnK.one (Nat.le_refl _) _ LK) w.heap.size A ks.length c ks rfl ((hks.below X10.below).below ((Below.refl _ _).alloc X10.below.size _)) hle2 (by rw [alloc_size]; omega); have hb11 := Tk.belowK ((Below.refl W10.heap.size W10).alloc (Nat.le_refl _) (.cells (arr (name ++ key)) 25)) (Tk.OwnK.one (Nat.le_refl _) _ LK) gr11 (by rw [alloc_size]; omega); rw [HK11.out] at own11; obtain ⟨A11, c11, e11, hr11⟩ := own11.reads; subst e11; have hs11 := hb11.size; have tk11 : ReadsB W11 W11.heap.size A5 T.length (name ++ (nonce ++ Cha.lock key nonce name (Tk.text ⟨su, se, ho, pr, ma, li, ad⟩))) := HT2.out.symm ▸ (⟨tk6.len, (((tk6.is.below hb10).more hb10.size).below hb11).more hs11⟩ : ReadsB W11 W11.heap.size A5 T.length T); refine wpl_run (o := ⟨some 77, _, _, _, _, _⟩) (wanted_plain rfl) (.slice A11 K11.length c11) (Tk.call_app (by rfl) (by simp [Act.eval, Act.put]) (by simp [Act.eval, Act.put]) hrun11) ?_)
        | (with_reducible change wpList _ _ _ (⟨some 75, _, _, _, _, _⟩ :: _) _ _; refine wpl_run (o := ⟨some 75, _, _, _, _, _⟩) (wanted_plain rfl) _ (Tk.build1 (by rfl) (name ++ key) LK (by simp [Act.eval, Act.put])) ?_)
        | (with_reducible change wpList _ _ _ (⟨some 74, _, _, _, _, _⟩ :: _) _ _; refine wpl_name (fun W => Blk W w9.heap.size 34 #[.int .u16 ((n16 su : Nat) : Int), .slice X9 se.length cx9, .string (str ho), .string (str pr), .int .u64 ((n64 ma : Nat) : Int), .int .u32 ((n32 li : Nat) : Int), .int .u32 ((n32 ad : Nat) : Int)] ∧ Below w9.heap.size w9 W) ⟨Blk.nu rfl, (Below.refl _ _).alloc (Nat.le_refl _) _⟩ ?_; rintro W10 ⟨bW10, hW10⟩; have hs10 := hW10.size; have hb10 := hb9.trans (hW10.mono (Nat.le_trans hs8 hs9)); have X10 := X6.next (hb10.mono z6); have old10 : Tk.RdK W10 W10.heap.size A13 KF := ((old8.below hB9).below (hW10.mono hs9)).more (Nat.le_trans hs9 hs10); have hx10 : ReadsB W10 W10.heap.size X9 se.length se := ⟨hx9.len, (hx9.is.below hW10).more hs10⟩; refine wpl_load_arr rfl 25 _ rfl ⟨w.heap.size, 0, none⟩ rfl 36 Tk.agg36 (name ++ key) LK X10.k.cells_arr ?_)
        | (go_at_call 7; refine (openT_any ⟨su, se, ho, pr, ma, li, ad⟩ hmay name key nonce Hn.out Hk.out Hc.out A8 c8 K8 A5 T.length c5 W8 hr8.keys (by have := LK8.out; omega) tk8 room5 KF.length (by have := LK8.out; omega) hbe8 (fun _ => hat8)).mono ?_; rintro e w9 R9; obtain ⟨X9, cx9, rfl, hx9⟩ := R9.got (by have := LK8.out; omega); have hB9 := R9.below; have hs9 := hB9.size; have hb9 := hb8.trans (hB9.mono hs8); unfold Tk.ses; dsimp only)
        | (with_reducible change wpList _ _ _ (⟨some 68, _, _, _, _, _⟩ :: _) _ _; obtain ⟨v8, W8, hrun8, own8, gr8, keep8⟩ := Tk.run_app1 (wr.alloc (.cells (arr (name ++ key)) 25)) _ w6.heap.size (.slice A13 KF.length c13) KF (own.later ((Below.refl _ _).alloc (Nat.le_refl _) _)) _ ⟨wr.heap.size, 0, none⟩ 1 (name ++ key) (Tk.one_reads wr _ LK) hle1 (by rw [alloc_size]; omega); have hb8 := Tk.belowK (hbr.alloc hbs (.cells (arr (name ++ key)) 25)) (own.later ((Below.refl _ _).alloc (Nat.le_refl _) _)) gr8 (by rw [alloc_size]; omega); have old8 := keep8 _ _ _ rfl; rw [HK8.out] at own8; obtain ⟨A8, c8, e8, hr8⟩ := own8.reads; subst e8; have hs8 := hb8.size; have tk8 : ReadsB W8 W8.heap.size A5 T.length (name ++ (nonce ++ Cha.lock key nonce name (Tk.text ⟨su, se, ho, pr, ma, li, ad⟩))) := HT2.out.symm ▸ (⟨tk6.len, (tk6.is.below hb8).more hs8⟩ : ReadsB W8 W8.heap.size A5 T.length T); refine wpl_run (o := ⟨some 68, _, _, _, _, _⟩) (wanted_plain rfl) (.slice A8 K8.length c8) (Tk.call_app (by rfl) (by simp [Act.eval, Act.put]) (by simp [Act.eval, Act.put]) hrun8) ?_)
        | (with_reducible change wpList _ _ _ (⟨some 67, _, _, _, _, _⟩ :: _) _ _; refine wpl_run (o := ⟨some 67, _, _, _, _, _⟩) (wanted_plain rfl) _ (Tk.build1 (by rfl) (name ++ key) LK (by simp [Act.eval, Act.put])) ?_)
        | (with_reducible change wpList _ _ _ (⟨some 66, _, _, _, _, _⟩ :: _) _ _; refine wpl_load_arr rfl 25 _ rfl ⟨w.heap.size, 0, none⟩ rfl 36 Tk.agg36 (name ++ key) LK Xr.k.cells_arr ?_))
      go_ret
      exact ⟨rfl, X17.below⟩

/-- The law answers true. -/
theorem Tk.back_any (name key nonce : List UInt8) (hn : name.length = 4) (hk : key.length = 32) (hc : nonce.length = 12) (A : Option Addr) (c : Nat) (ks : List (List UInt8)) (s : Tk.Ses) (D : Option Addr) (d : Nat) (w : World) (hks : Tk.RdK w w.heap.size A ks) (hkl : ks.length * 36 ≤ 140737488351232) (hr : ReadsB w w.heap.size D s.secret.length s.secret) (htb : Tabs w) :
    Calls Tryd.prog 3 #[.agg (arr (name ++ key)), .slice A ks.length c, .agg (arr nonce), Tk.ses D d s] w fun e w' => e = .returned (.bool true) ∧ Below w.heap.size w w' := by
  by_cases hmay : Tk.May s
  · exact Tk.back_yes name key nonce hn hk hc A c ks s D d w hks hkl hr htb hmay
  · exact Tk.back_no name key nonce hn hk hc A c ks s D d w hks hkl hr htb hmay
end Go.Proofs.YthigbggacgiamaaDoor
