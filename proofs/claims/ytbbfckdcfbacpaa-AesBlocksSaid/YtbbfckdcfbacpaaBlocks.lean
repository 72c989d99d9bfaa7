/-
  The walk of the statement AesBlocks.
-/
import Derived.Test.YtbbfckdcfbacpaaRefE
import Derived.Test.YtbbfckdcfbacpaaHeldU
import Derived.Test.YtbbfckdcfbacpaaOpenB
set_option linter.unusedVariables false
set_option linter.unusedSimpArgs false
namespace Go.Proofs.Ytbbfckdcfbacpaa
open Go.RowKit
theorem run_index_slice {P : Program} {w : World} {o : Oper} {ρ : Operand → Value} {t e : TypeId} {x y : Operand} (ho : o.op = .indexAddr t x y) (ht : P.underlying t = some (.slice e)) {m : Nat} (hs : (P.info? e).map (·.size) = some m) (ad : Addr) (n c k : Nat)
    (hx : ρ x = .slice (some ad) n c) (hy : ρ y = .int .i64 (k : Int)) (hk : k < n) : (execOp ρ o).run P w = .ok (.value (.pointer (some (ad.add (k * m))))) w := by
  have hkn : (k : Int) < (n : Int) := by omega
  unfold execOp
  simp only [ho, hx, hy]
  simp [Instr.indexAt, run_underlying ht, asIntOf, run_sizeOf hs, hkn]
  omega
theorem run_neq_arr16 {w : World} {o : Oper} {ρ : Operand → Value} {x y : Operand} {rt : TypeId} (ho : o.op = .binOp .neq 32 x y rt) (l m : List UInt8) (hx : ρ x = .agg (arr l)) (hy : ρ y = .agg (arr m)) (hl : l.length = 16) (hm : m.length = 16) :
    (execOp ρ o).run Try.prog w = .ok (.value (.bool (!decide (l = m)))) w := by
  unfold execOp
  simp only [ho, hx, hy, Sem.run_bind, run_eqGuard_agg _ _ _ _ _ _ _ guard16, run_neq_struct, eq16 l m hl hm, Result.andThen_ok]
  rfl
theorem run_neq_same {w : World} {o : Oper} {ρ : Operand → Value} {x y : Operand} {rt : TypeId} (ho : o.op = .binOp .neq 32 x y rt) (l : List UInt8) (hx : ρ x = .agg (arr l)) (hy : ρ y = .agg (arr l)) (hl : l.length = 16) :
    (execOp ρ o).run Try.prog w = .ok (.value (.bool false)) w := by rw [run_neq_arr16 ho l l hx hy hl hl, decide_eq_true rfl]; rfl
theorem enter_rencrypt (args : Array Value) (w : World) : (callFunc 16 args).run Try.prog w = .ok (.enter 16 args) w := by kernel_rfl
theorem new_from (A : Option Addr) (c : Nat) (key : List UInt8) (n : Nat) (w : World) (hr : ReadsB w w.heap.size A n key) (hn : n = 16 ∨ n = 32) :
    Calls Try.prog 13 #[.slice A n c] w fun e w' => ∃ g, e = .returned (.tuple #[.pointer (some ⟨g, 0, none⟩), .int .i64 0]) ∧ KeyFrom w' w.heap.size g (Aes.keys key) ∧ Below w.heap.size w w' := by
  rcases hn with rfl | rfl
  · exact new_from16 A c key w hr
  · exact new_from32 A c key w hr
/-- What stays while a block is encrypted twice. -/
structure BlS (w : World) (g g2 : Nat) (rs : List (List UInt8)) (D : Option Addr) (m : Nat) (rows : Nat → List UInt8) (W : World) : Prop where
  key : KeyAt W g rs
  ref : RefAt W g2 rs
  rows : Reads16 W w.heap.size D m rows
  old : Below w.heap.size w W
theorem BlS.next {w : World} {g g2 : Nat} {rs : List (List UInt8)} {D : Option Addr} {m : Nat} {rows : Nat → List UInt8} {W w' : World} (h : BlS w g g2 rs D m rows W) (hb : Below W.heap.size W w') : BlS w g g2 rs D m rows w' :=
  ⟨h.key.below hb, h.ref.below hb, h.rows.below (hb.mono h.old.size), h.old.trans (hb.mono h.old.size)⟩
theorem BlS.call {w : World} {g g2 : Nat} {rs : List (List UInt8)} {D : Option Addr} {m : Nat} {rows : Nat → List UInt8} {W : World} {P : Program} {f : FuncId} {args : Array Value} {v : Value} (h : BlS w g g2 rs D m rows W) (hc : Calls P f args W fun e w' => e = .returned v ∧ Below W.heap.size W w') :
    Calls P f args W fun e w' => e = .returned v ∧ BlS w g g2 rs D m rows w' := hc.mono fun _ _ ⟨he, hb⟩ => ⟨he, h.next hb⟩
theorem RefAt.moved {w w' : World} {g z : Nat} {rs : List (List UInt8)} (h : RefAt w g rs) (hg : w.grownBy w' (some z)) (hz : ∀ cs t, Blk w g t cs → t = 60 → g ≠ z) : RefAt w' g rs := by
  obtain ⟨cs, h1, h2⟩ := h.ex
  exact ⟨cs, h1.grown hg (fun e => hz cs _ h1 rfl (by injection e)), h2⟩
set_option maxHeartbeats 8000000 in
set_option maxRecDepth 100000 in
theorem blocks_refused (A : Option Addr) (n c : Nat) (key : List UInt8) (D : Option Addr) (m d : Nat) (w : World) (hr : ReadsB w w.heap.size A n key) (hn : n ≤ 140737488351232) (h16 : n ≠ 16) (h32 : n ≠ 32) :
    Calls Try.prog 3 #[.slice A n c, .slice D m d] w fun e w' => e = .returned (.bool true) ∧ Below w.heap.size w w' := by
  have H16 := hd h16
  have H32 := hd h32
  have Hkl := hd hr.len
  clear h16 h32
  have hnil : ∀ W, (binOp .eql 25 (.pointer none) (.pointer none)).run Try.prog W = .ok (.bool true) W := fun W => by kernel_rfl
  have hnil2 : ∀ W, (binOp .eql 29 (.pointer none) (.pointer none)).run Try.prog W = .ok (.bool true) W := fun W => by kernel_rfl
  have hnil3 : ∀ W, (binOp .neq 29 (.pointer none) (.pointer none)).run Try.prog W = .ok (.bool false) W := fun W => by kernel_rfl
  go_enter Try.func3, Try.ntmps3
  go_wp2_with fail
  refine (head_any _).mono ?_
  rintro e w1 ⟨rfl, hB1⟩
  have own0 := OwnB.empty (w := w1) (Nat.le_refl w1.heap.size)
  have hr1 : ReadsB w1 w1.heap.size A n key := hr.next hB1
  have hr1' : ReadsB (w1.alloc (.cells #[] 5)) w1.heap.size A n key := ⟨hr1.len, hr1.is.alloc (Nat.le_refl _) _⟩
  have hcl : ([] : List UInt8).length + key.length ≤ 140737488355328 := by rw [Hkl.out]; simp; omega
  have hBs : w1.heap.size ≤ (w1.alloc (.cells #[] 5)).heap.size := by simp
  go_wp2_with (first | (at_builtin; refine wpl_appendB rfl _ _ rfl w1.heap.size (.slice (some ⟨w1.heap.size, 0, none⟩) 0 0) [] rfl own0 w1.heap.size A n c key rfl hr1' hcl hBs ?_; intro v2 w2 own2 gr2 at2; rw [List.nil_append] at own2; obtain ⟨A2, cp2, e2⟩ := own2.slice; rw [Hkl.out] at e2; subst e2; have hB2 : Below w.heap.size w w2 := below_appended (hB1.alloc hB1.size (.cells #[] 5)) own0 gr2 hB1.size (by have := hB1.size; simp; omega); have Hs2 := hd (run_toString (P := Try.prog) Try.underlying22 Try.underlying5 Try.underlying9 _ A2 n cp2 key own2.reads_any.2); have Hs1 := hd (run_toString (P := Try.prog) Try.underlying22 Try.underlying5 Try.underlying9 _ A n c key ⟨hr.len, hr.is.below hB2⟩)) | (go_at_call 13; refine (new_refused _ _ _ _ H16.out H32.out).mono ?_; rintro e w3 ⟨rfl, rfl⟩) | (go_at_call 14; refine (ref_new_refused _ _ _ _ H16.out H32.out).mono ?_; rintro e w3 ⟨rfl, rfl⟩) | rw [Hs2.out] | rw [Hs1.out])
  have hB1w : w.heap.size ≤ w1.heap.size := hB1.size
  clear own0 hr1 hr1' hcl hBs gr2 at2 Hs1 Hs2 hB1
  go_loopw [11] (fun i wr => ∃ k : Nat, k ≤ n ∧ i = .int .i64 (k : Int) ∧ (∃ l, l.length = n ∧ OwnB wr w1.heap.size (.slice A2 n cp2) l) ∧ Below w.heap.size w wr) (fun i _ => n - (intOf i).toNat)
  case atStart => exact ⟨0, by omega, rfl, ⟨key, Hkl.out, own2⟩, hB2⟩
  case round =>
    clear own2 hB2
    obtain ⟨k, hkn, rfl, ⟨l, hl, own⟩, hB⟩ := hrel
    have Hl := hd hl
    clear hl
    by_cases hlt : k < n
    · have tk : (k : Int) < (n : Int) := by omega
      obtain ⟨G, cq, eG, hG1, hG2, _⟩ := own.form (by rw [Hl.out]; omega)
      rw [Hl.out] at eG
      have eA : A2 = some ⟨G, 0, none⟩ := by injection eG
      clear eG
      subst eA
      have own' : OwnB wr w1.heap.size (.slice (some ⟨G, 0, none⟩) l.length cp2) l := by rw [Hl.out]; exact own
      have c0 := own'.cell k (by rw [Hl.out]; exact hlt)
      have f0 := own'.frozen k
      obtain ⟨x, Hx⟩ : ∃ x, Hd (nth l k + 1 = x) := ⟨_, ⟨rfl⟩⟩
      have own3 := own'.set_ k x
      rw [Hl.out] at own3
      clear own own'
      go_wp2
      rw [Hx.out]
      go_roundw
      case rel => exact ⟨k + 1, by omega, by go_num, ⟨l.set k x, by rw [List.length_set, Hl.out], own3⟩, hB.setCell (by show w.heap.size ≤ G; omega) _⟩
      case measure => simp [intOf]; omega
    · have ek : k = n := by omega
      subst ek
      have tk : ¬ (k : Int) < (k : Int) := by omega
      clear own
      go_wp2_with fail
      go_loopw [12] (fun i wr => i = .int .i64 0 ∧ Below w.heap.size w wr) (fun i _ => 0)
      case atStart => exact ⟨rfl, hB⟩
      case round =>
        clear hB
        obtain ⟨rfl, hB⟩ := hrel
        go_wp2
        go_ret
        exact ⟨rfl, hB⟩

set_option maxHeartbeats 8000000 in
set_option maxRecDepth 100000 in
theorem blocks_made (A : Option Addr) (n c : Nat) (key : List UInt8) (D : Option Addr) (m d : Nat) (rows : Nat → List UInt8) (w : World) (hr : ReadsB w w.heap.size A n key) (hn : n = 16 ∨ n = 32) (hrows : Reads16 w w.heap.size D m rows) :
    Calls Try.prog 3 #[.slice A n c, .slice D m d] w fun e w' => e = .returned (.bool true) ∧ Below w.heap.size w w' := by
  have Hn := hd hn
  have hn32 : n ≤ 32 := by omega
  have Hkl := hd hr.len
  have Hk := hd (show key.length = 16 ∨ key.length = 32 by rw [hr.len]; exact hn)
  clear hn
  have Hrs := hd (keys_some key Hk.out)
  have Hrm := hd (keys_most key Hk.out)
  obtain ⟨rs, Hrk⟩ : ∃ rs, Hd (Aes.keys key = rs) := ⟨_, ⟨rfl⟩⟩
  rw [Hrk.out] at Hrs Hrm
  go_enter Try.func3, Try.ntmps3
  go_wp2_with fail
  refine (head_any _).mono ?_
  rintro e w1 ⟨rfl, hB1⟩
  have own0 := OwnB.empty (w := w1) (Nat.le_refl w1.heap.size)
  have hr1 : ReadsB w1 w1.heap.size A n key := hr.next hB1
  have hr1' : ReadsB (w1.alloc (.cells #[] 5)) w1.heap.size A n key := ⟨hr1.len, hr1.is.alloc (Nat.le_refl _) _⟩
  have hcl : ([] : List UInt8).length + key.length ≤ 140737488355328 := by rw [Hkl.out]; simp; omega
  have hBs : w1.heap.size ≤ (w1.alloc (.cells #[] 5)).heap.size := by simp
  go_wp2_with (at_builtin; refine wpl_appendB rfl _ _ rfl w1.heap.size (.slice (some ⟨w1.heap.size, 0, none⟩) 0 0) [] rfl own0 w1.heap.size A n c key rfl hr1' hcl hBs ?_; intro v2 w2 own2 gr2 at2; rw [List.nil_append] at own2; obtain ⟨A2, cp2, e2⟩ := own2.slice; rw [Hkl.out] at e2; subst e2)
  have hB2 : Below w.heap.size w w2 := below_appended (hB1.alloc hB1.size (.cells #[] 5)) own0 gr2 hB1.size (by have := hB1.size; simp; omega)
  refine (new_from _ _ _ _ _ own2.reads_any.2 Hn.out).mono ?_
  rintro e w3 ⟨g, rfl, hkey, hB3⟩
  rw [Hrk.out] at hkey
  have own3 := own2.later hB3
  have hB3' := hB2.trans (hB3.mono hB2.size)
  have hr3 := hr.next hB3'
  go_wp2_with fail
  refine (ref_new_made _ _ _ _ _ hr3 Hn.out).mono ?_
  rintro e w4 ⟨g2, rfl, href, hB4⟩
  rw [Hrk.out] at href
  have own4 := own3.later hB4
  have hkey4 := hkey.below hB4
  have hB4' := hB3'.trans (hB4.mono hB3'.size)
  have hnil : ∀ W, (binOp .eql 25 (.pointer (some ⟨g, 0, none⟩)) (.pointer none)).run Try.prog W = .ok (.bool false) W := fun W => by kernel_rfl
  have hnil2 : ∀ W, (binOp .eql 29 (.pointer (some ⟨g2, 0, none⟩)) (.pointer none)).run Try.prog W = .ok (.bool false) W := fun W => by kernel_rfl
  have hnil3 : ∀ W, (binOp .neq 29 (.pointer (some ⟨g2, 0, none⟩)) (.pointer none)).run Try.prog W = .ok (.bool true) W := fun W => by kernel_rfl
  have Hs2 := hd (run_toString (P := Try.prog) Try.underlying22 Try.underlying5 Try.underlying9 _ A2 n cp2 key own4.reads_any.2)
  have Hs1 := hd (run_toString (P := Try.prog) Try.underlying22 Try.underlying5 Try.underlying9 _ A n c key ⟨hr.len, hr.is.below hB4'⟩)
  have hw12 : ∀ G, (Value.slice A2 n cp2).ownBlock = some G → G < w2.heap.size := fun G h => (own2.own.lt G h).2
  have own2 := own4
  have H12 := hd hw12
  clear hw12
  have hB2 := hB4'
  clear own3 hr3 hB3 hB3' hkey hB4 hB4' own4
  go_wp2_with (first | rw [Hs2.out] | rw [Hs1.out])
  have hB1w : w.heap.size ≤ w1.heap.size := hB1.size
  clear own0 hr1 hr1' hcl hBs gr2 at2 Hs1 Hs2 hB1
  go_loopw [11] (fun i wr => ∃ k : Nat, k ≤ n ∧ i = .int .i64 (k : Int) ∧ (∃ l, l.length = n ∧ OwnB wr w1.heap.size (.slice A2 n cp2) l) ∧ KeyFrom wr w2.heap.size g rs ∧ RefAt wr g2 rs ∧ Below w.heap.size w wr) (fun i _ => n - (intOf i).toNat)
  case atStart => exact ⟨0, by omega, rfl, ⟨key, Hkl.out, own2⟩, hkey4, href, hB2⟩
  case round =>
    clear own2 hkey4 href hB2
    obtain ⟨k, hkn, rfl, ⟨l, hl, own⟩, hkey, href, hB⟩ := hrel
    have Hl := hd hl
    clear hl
    by_cases hlt : k < n
    · have tk : (k : Int) < (n : Int) := by omega
      obtain ⟨G, cq, eG, hG1, hG2, _⟩ := own.form (by rw [Hl.out]; omega)
      rw [Hl.out] at eG
      have eA : A2 = some ⟨G, 0, none⟩ := by injection eG
      clear eG
      subst eA
      have own' : OwnB wr w1.heap.size (.slice (some ⟨G, 0, none⟩) l.length cp2) l := by rw [Hl.out]; exact own
      have c0 := own'.cell k (by rw [Hl.out]; exact hlt)
      have f0 := own'.frozen k
      obtain ⟨x, Hx⟩ : ∃ x, Hd (nth l k + 1 = x) := ⟨_, ⟨rfl⟩⟩
      have own3 := own'.set_ k x
      rw [Hl.out] at own3
      have Hng := hd (show ∀ cs t, Blk wr g2 t cs → t = 60 → g2 ≠ G from fun cs t hb ht => by intro e; subst e; exact own_blk_ne own.own hb (by rw [ht]; decide) rfl)
      clear own own'
      go_wp2
      rw [Hx.out]
      go_roundw
      case rel => exact ⟨k + 1, by omega, by go_num, ⟨l.set k x, by rw [List.length_set, Hl.out], own3⟩, hkey.moved (grew_setCell (World.grownBy.refl _ _) k _) (H12.out G rfl), href.moved (grew_setCell (World.grownBy.refl _ _) k _) (Hng.out), hB.setCell (by show w.heap.size ≤ G; omega) _⟩
      case measure => simp [intOf]; omega
    · have ek : k = n := by omega
      subst ek
      have tk : ¬ (k : Int) < (k : Int) := by omega
      have hS0 : BlS w g g2 rs D m rows wr := ⟨hkey.at_, href, (hrows.below hB), hB⟩
      clear own hkey href hB
      go_wp2_with fail
      go_loopw [12] (fun i wr => ∃ j : Nat, j ≤ 20 ∧ i = .int .i64 (j : Int) ∧ BlS w g g2 rs D m rows wr) (fun i _ => 20 - (intOf i).toNat)
      case atStart => exact ⟨0, by omega, rfl, hS0⟩
      case round =>
        clear hS0
        obtain ⟨j, hj20, rfl, hS⟩ := hrel
        by_cases hjm : j < m
        · have tj : (j : Int) < (m : Int) := by omega
          by_cases hj : j < 20
          · have tj2 : (j : Int) < 20 := by omega
            obtain ⟨ad, hD, had, hrow⟩ := hS.rows.is (by omega)
            subst hD
            obtain ⟨x, Hx⟩ : ∃ x, Hd (rows j = x) := ⟨_, ⟨rfl⟩⟩
            have hxl := (hrow j hjm).1
            rw [Hx.out] at hxl
            have Hxl := hd hxl
            obtain ⟨y, Hy⟩ : ∃ y, Hd (Aes.enc rs x = y) := ⟨_, ⟨rfl⟩⟩
            have Hyl := hd (show y.length = 16 by rw [← Hy.out, Aes.enc_len _ _ Hxl.out])
            have hcell : ∀ W, BlS w g g2 rs (some ad) m rows W → Cells W (ad.add (j * 16)) (x.map U8) := by
              intro W hW
              obtain ⟨ad', hD', _, hrow'⟩ := hW.rows.is (by omega)
              injection hD' with hD'
              subst hD'
              have := (hrow' j hjm).2
              rwa [Hx.out] at this
            have Hcell := hd hcell
            clear hcell hrow hxl
            go_wp2_with fail
            refine u_start (S := fun _ => BlS w g g2 rs (some ad) m rows) 99 (by kernel_rfl) (hS.next (Below.refl _ _).drew) ?_
            refine u_take 0 rfl (o := _) rfl (by kernel_rfl) (by kernel_rfl) (by kernel_rfl) (.pointer (some ⟨g, 0, none⟩)) (fun _ _ _ h => h) (g_value rfl (wanted_plain rfl) (fun f W hW => run_move (by rfl) (by simp [Act.eval]) W)) ?_
            simp only [Act.put, List.getElem_toArray, List.getElem_cons_succ, List.getElem_cons_zero, List.setIfInBounds_toArray, List.set_cons_zero, List.set_cons_succ]
            refine u_take 1 rfl (o := _) rfl (by kernel_rfl) (by kernel_rfl) (by kernel_rfl) (.slice (some ad) m d) (fun _ _ _ h => h) (g_value rfl (wanted_plain rfl) (fun f W hW => run_move (by rfl) (by simp [Act.eval]) W)) ?_
            simp only [Act.put, List.getElem_toArray, List.getElem_cons_succ, List.getElem_cons_zero, List.setIfInBounds_toArray, List.set_cons_zero, List.set_cons_succ]
            refine u_take 2 rfl (o := _) rfl (by kernel_rfl) (by kernel_rfl) (by kernel_rfl) (.int .i64 (j : Int)) (fun _ _ _ h => h) (g_value rfl (wanted_plain rfl) (fun f W hW => run_move (by rfl) (by simp [Act.eval]) W)) ?_
            simp only [Act.put, List.getElem_toArray, List.getElem_cons_succ, List.getElem_cons_zero, List.setIfInBounds_toArray, List.set_cons_zero, List.set_cons_succ]
            refine u_take 3 rfl (o := _) rfl (by kernel_rfl) (by kernel_rfl) (by kernel_rfl) (.pointer (some (ad.add (j * 16)))) (fun _ _ _ h => h) (g_value rfl (wanted_plain rfl) (fun f W hW => run_index_slice (by rfl) Try.underlying23 ty16.size ad m d j (by simp [Act.eval]) (by simp [Act.eval]) hjm)) ?_
            simp only [Act.put, List.getElem_toArray, List.getElem_cons_succ, List.getElem_cons_zero, List.setIfInBounds_toArray, List.set_cons_zero, List.set_cons_succ]
            refine u_take 4 rfl (o := _) rfl (by kernel_rfl) (by kernel_rfl) (by kernel_rfl) (.agg (arr x)) (fun _ _ _ h => h) (g_value rfl (wanted_plain rfl) (fun f W hW => run_load_arr (by rfl) (by simp [Act.eval]) ty16 x Hxl.out (Hcell.out W hW))) ?_
            simp only [Act.put, List.getElem_toArray, List.getElem_cons_succ, List.getElem_cons_zero, List.setIfInBounds_toArray, List.set_cons_zero, List.set_cons_succ]
            refine u_take 5 rfl (o := _) rfl (by kernel_rfl) (by kernel_rfl) (by kernel_rfl) (.agg (arr y)) (fun _ _ _ h => h) (g_call rfl (wanted_plain rfl) 15 _ _ rfl #[.pointer (some ⟨g, 0, none⟩), .agg (arr x)] (by simp [Act.eval]) (enter_encrypt _) (fun f W hW => BlS.call hW (by rw [← Hy.out]; exact encrypt_any g rs x Hxl.out Hrs.out.1 Hrs.out.2 W hW.key))) ?_
            simp only [Act.put, List.getElem_toArray, List.getElem_cons_succ, List.getElem_cons_zero, List.setIfInBounds_toArray, List.set_cons_zero, List.set_cons_succ]
            refine u_take 6 rfl (o := _) rfl (by kernel_rfl) (by kernel_rfl) (by kernel_rfl) (.pointer (some ⟨g2, 0, none⟩)) (fun _ _ _ h => h) (g_value rfl (wanted_plain rfl) (fun f W hW => run_move (by rfl) (by simp [Act.eval]) W)) ?_
            simp only [Act.put, List.getElem_toArray, List.getElem_cons_succ, List.getElem_cons_zero, List.setIfInBounds_toArray, List.set_cons_zero, List.set_cons_succ]
            refine u_take 7 rfl (o := _) rfl (by kernel_rfl) (by kernel_rfl) (by kernel_rfl) (.slice (some ad) m d) (fun _ _ _ h => h) (g_value rfl (wanted_plain rfl) (fun f W hW => run_move (by rfl) (by simp [Act.eval]) W)) ?_
            simp only [Act.put, List.getElem_toArray, List.getElem_cons_succ, List.getElem_cons_zero, List.setIfInBounds_toArray, List.set_cons_zero, List.set_cons_succ]
            refine u_take 8 rfl (o := _) rfl (by kernel_rfl) (by kernel_rfl) (by kernel_rfl) (.int .i64 (j : Int)) (fun _ _ _ h => h) (g_value rfl (wanted_plain rfl) (fun f W hW => run_move (by rfl) (by simp [Act.eval]) W)) ?_
            simp only [Act.put, List.getElem_toArray, List.getElem_cons_succ, List.getElem_cons_zero, List.setIfInBounds_toArray, List.set_cons_zero, List.set_cons_succ]
            refine u_take 9 rfl (o := _) rfl (by kernel_rfl) (by kernel_rfl) (by kernel_rfl) (.pointer (some (ad.add (j * 16)))) (fun _ _ _ h => h) (g_value rfl (wanted_plain rfl) (fun f W hW => run_index_slice (by rfl) Try.underlying23 ty16.size ad m d j (by simp [Act.eval]) (by simp [Act.eval]) hjm)) ?_
            simp only [Act.put, List.getElem_toArray, List.getElem_cons_succ, List.getElem_cons_zero, List.setIfInBounds_toArray, List.set_cons_zero, List.set_cons_succ]
            refine u_take 10 rfl (o := _) rfl (by kernel_rfl) (by kernel_rfl) (by kernel_rfl) (.agg (arr x)) (fun _ _ _ h => h) (g_value rfl (wanted_plain rfl) (fun f W hW => run_load_arr (by rfl) (by simp [Act.eval]) ty16 x Hxl.out (Hcell.out W hW))) ?_
            simp only [Act.put, List.getElem_toArray, List.getElem_cons_succ, List.getElem_cons_zero, List.setIfInBounds_toArray, List.set_cons_zero, List.set_cons_succ]
            refine u_take 11 rfl (o := _) rfl (by kernel_rfl) (by kernel_rfl) (by kernel_rfl) (.agg (arr y)) (fun _ _ _ h => h) (g_call rfl (wanted_plain rfl) 16 _ _ rfl #[.pointer (some ⟨g2, 0, none⟩), .agg (arr x)] (by simp [Act.eval]) (enter_rencrypt _) (fun f W hW => BlS.call hW (by rw [← Hy.out]; exact ref_encrypt_any g2 rs x Hxl.out Hrs.out.1 Hrm.out W hW.ref))) ?_
            simp only [Act.put, List.getElem_toArray, List.getElem_cons_succ, List.getElem_cons_zero, List.setIfInBounds_toArray, List.set_cons_zero, List.set_cons_succ]
            refine u_take 12 rfl (o := _) rfl (by kernel_rfl) (by kernel_rfl) (by kernel_rfl) (.bool false) (fun _ _ _ h => h) (g_value rfl (wanted_plain rfl) (fun f W hW => run_neq_same (by rfl) y (by simp [Act.eval]) (by simp [Act.eval]) Hyl.out)) ?_
            simp only [Act.put, List.getElem_toArray, List.getElem_cons_succ, List.getElem_cons_zero, List.setIfInBounds_toArray, List.set_cons_zero, List.set_cons_succ]
            refine u_done (by kernel_rfl) (fun W hW => ?_) _
            have hW : BlS w g g2 rs (some ad) m rows W := hW
            clear hS
            go_wp2
            go_roundw
            case rel => exact ⟨j + 1, by omega, by go_num, hW⟩
            case measure => simp [intOf]; omega
          · have tj2 : ¬ (j : Int) < 20 := by omega
            go_wp2
            go_ret
            exact ⟨rfl, hS.old⟩
        · have tj : ¬ (j : Int) < (m : Int) := by omega
          go_wp2
          go_ret
          exact ⟨rfl, hS.old⟩
end Go.Proofs.Ytbbfckdcfbacpaa
