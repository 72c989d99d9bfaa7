/-
  sched.SealTicket.
-/
import Derived.Test.YthigbggacgiamaaDoorTkJ
import Derived.Test.YthigbggacgiamaaDoorTkH
import Derived.Test.YthigbggacgiamaaDoorJk
import Derived.Test.YthigbggacgiamaaDoorSuiteD
set_option linter.unusedVariables false
set_option linter.unusedSimpArgs false
set_option maxRecDepth 100000
namespace Go.Proofs.YthigbggacgiamaaDoor
open Go.RowKit
/-- The loop's world: the boxes, the text so far, the three parts. -/
structure Tk.Ls (w0 W : World) (N : Nat) (kn nonce : List UInt8) (ss : Array Value) (A : Option Addr) (c : Nat) (se : List UInt8) (a ca : Nat) (ho : List UInt8) (b cb : Nat) (pr : List UInt8) (g : Nat) (v : Value) (l : List UInt8) : Prop where
  bx : Tk.Bx w0 W N kn nonce ss
  own : OwnB W (N + 1 + 1 + 1) v l
  low : N + 1 + 1 + 1 ≤ W.heap.size
  fa : v.ownBlock ≠ some a
  fb : v.ownBlock ≠ some b
  fg : v.ownBlock ≠ some g
  la : a < W.heap.size
  lb : b < W.heap.size
  rs : ReadsB W N A se.length se
  ra : ReadsB W W.heap.size (some ⟨a, 0, none⟩) ho.length ho
  rb : ReadsB W W.heap.size (some ⟨b, 0, none⟩) pr.length pr
  blk : Blk W g 30 #[.slice A se.length c, .slice (some ⟨a, 0, none⟩) ho.length ca, .slice (some ⟨b, 0, none⟩) pr.length cb]
section
variable {w0 W : World} {N : Nat} {kn nonce : List UInt8} {ss : Array Value} {A : Option Addr} {c : Nat} {se : List UInt8} {a ca : Nat} {ho : List UInt8} {b cb : Nat} {pr : List UInt8} {g : Nat} {v : Value} {l : List UInt8}
theorem Tk.Ls.counted (h : Tk.Ls w0 W N kn nonce ss A c se a ca ho b cb pr g v l) (D : Option Addr) (m d : Nat) (t : List UInt8) (hr : ReadsB W W.heap.size D m t) (hne : 0 < m → ∀ ad, D = some ad → v.ownBlock ≠ some ad.block) (hl : l.length + 1 + m ≤ 140737488355328) :
    Calls Tryd.prog 13 #[v, .slice D m d] W fun e w' => ∃ v', e = .returned v' ∧ Tk.Ls w0 w' N kn nonce ss A c se a ca ho b cb pr g v' (l ++ Tk.count t) := by
  refine (Tk.counted_fr (N + 1 + 1 + 1) v l D m d t W h.own h.low hr hne hl).mono ?_
  rintro e w' ⟨v', rfl, own, hB, gr, at_⟩
  have hfar : ∀ k, v.ownBlock ≠ some k → k < W.heap.size → v'.ownBlock ≠ some k := fun k h1 h2 => by
    rcases at_ with e | ⟨g', e, hg⟩
    · rw [e]; exact h1
    · rw [e]; intro h; injection h; omega
  exact ⟨v', rfl, h.bx.next hB, own, Nat.le_trans h.low hB.size, hfar _ h.fa h.la, hfar _ h.fb h.lb, hfar _ h.fg h.blk.lt, Nat.lt_of_lt_of_le h.la hB.size, Nat.lt_of_lt_of_le h.lb hB.size,
    ⟨h.rs.len, h.rs.is.below (hB.mono (by omega))⟩, by have h1 := reads_away h.ra gr (Nat.le_refl _) (fun _ ad e => by injection e with e; subst e; exact h.fa); exact ⟨h1.len, h1.is.more hB.size⟩, by have h1 := reads_away h.rb gr (Nat.le_refl _) (fun _ ad e => by injection e with e; subst e; exact h.fb); exact ⟨h1.len, h1.is.more hB.size⟩, h.blk.grown gr (fun e => h.fg e.symm)⟩
theorem Tk.Ls.first (h : Tk.Ls w0 W N kn nonce ss A c se a ca ho b cb pr g v l) (hl : l.length + 1 + se.length ≤ 140737488355328) :
    Calls Tryd.prog 13 #[v, .slice A se.length c] W fun e w' => ∃ v', e = .returned v' ∧ Tk.Ls w0 w' N kn nonce ss A c se a ca ho b cb pr g v' (l ++ Tk.count se) :=
  h.counted A _ _ se ⟨h.rs.len, h.rs.is.more (by have := h.low; omega)⟩ (own_away h.own ⟨h.rs.len, h.rs.is.more (by omega)⟩) hl
theorem Tk.Ls.second (h : Tk.Ls w0 W N kn nonce ss A c se a ca ho b cb pr g v l) (hl : l.length + 1 + ho.length ≤ 140737488355328) :
    Calls Tryd.prog 13 #[v, .slice (some ⟨a, 0, none⟩) ho.length ca] W fun e w' => ∃ v', e = .returned v' ∧ Tk.Ls w0 w' N kn nonce ss A c se a ca ho b cb pr g v' (l ++ Tk.count ho) :=
  h.counted _ _ _ ho h.ra (fun _ ad e => by injection e with e; subst e; exact h.fa) hl
theorem Tk.Ls.third (h : Tk.Ls w0 W N kn nonce ss A c se a ca ho b cb pr g v l) (hl : l.length + 1 + pr.length ≤ 140737488355328) :
    Calls Tryd.prog 13 #[v, .slice (some ⟨b, 0, none⟩) pr.length cb] W fun e w' => ∃ v', e = .returned v' ∧ Tk.Ls w0 w' N kn nonce ss A c se a ca ho b cb pr g v' (l ++ Tk.count pr) :=
  h.counted _ _ _ pr h.rb (fun _ ad e => by injection e with e; subst e; exact h.fb) hl
end
theorem Tk.Ls.make {w0 w5 w6 w7 : World} {N : Nat} {kn nonce : List UInt8} {ss : Array Value} {A : Option Addr} {c : Nat} {se : List UInt8} {ca : Nat} {ho : List UInt8} {cb : Nat} {pr : List UInt8} {v : Value} {l : List UInt8}
    (hb : Tk.Bx w0 w5 N kn nonce ss) (ho5 : OwnB w5 (N + 1 + 1 + 1) v l) (hN : N + 1 + 1 + 1 ≤ w5.heap.size) (hr : ReadsB w5 N A se.length se)
    (hr6 : ReadsB w6 w6.heap.size (some ⟨w5.heap.size, 0, none⟩) ho.length ho) (hB6 : Below w5.heap.size w5 w6) (h56 : w5.heap.size < w6.heap.size) (hr7 : ReadsB w7 w7.heap.size (some ⟨w6.heap.size, 0, none⟩) pr.length pr) (hB7 : Below w6.heap.size w6 w7) (h67 : w6.heap.size < w7.heap.size) :
    Tk.Ls w0 (w7.alloc (.cells #[.slice A se.length c, .slice (some ⟨w5.heap.size, 0, none⟩) ho.length ca, .slice (some ⟨w6.heap.size, 0, none⟩) pr.length cb] 30)) N kn nonce ss A c se w5.heap.size ca ho w6.heap.size cb pr w7.heap.size v l := by
  have hB8 := (Below.refl w7.heap.size w7).alloc (Nat.le_refl _) (.cells #[.slice A se.length c, .slice (some ⟨w5.heap.size, 0, none⟩) ho.length ca, .slice (some ⟨w6.heap.size, 0, none⟩) pr.length cb] 30)
  have h5 : Below w5.heap.size w5 (w7.alloc (.cells #[.slice A se.length c, .slice (some ⟨w5.heap.size, 0, none⟩) ho.length ca, .slice (some ⟨w6.heap.size, 0, none⟩) pr.length cb] 30)) := (hB6.trans (hB7.mono (by omega))).trans (hB8.mono (by omega))
  have h6 : Below w6.heap.size w6 (w7.alloc (.cells #[.slice A se.length c, .slice (some ⟨w5.heap.size, 0, none⟩) ho.length ca, .slice (some ⟨w6.heap.size, 0, none⟩) pr.length cb] 30)) := hB7.trans (hB8.mono (by omega))
  have far : ∀ k, w5.heap.size ≤ k → v.ownBlock ≠ some k := fun k hk => by
    rcases ho5.size with e | ⟨g', e, _, h2⟩
    · rw [e]; intro h; cases h
    · rw [e]; intro h; injection h; omega
  refine ⟨hb.next (h5.mono hN), ho5.later h5, Nat.le_trans hN h5.size, far _ (Nat.le_refl _), far _ (by omega), far _ (by omega), by rw [alloc_size]; omega, by rw [alloc_size]; omega, ⟨hr.len, hr.is.below (h5.mono (by omega))⟩, ?_, ?_, Blk.nu rfl⟩
  · exact ⟨hr6.len, (hr6.is.below h6).more h6.size⟩
  · exact ⟨hr7.len, (hr7.is.below hB8).more hB8.size⟩
theorem Tk.ofStr (w : World) (l : List UInt8) : ∃ c w', (convert 9 30 (.string (str l))).run Tryd.prog w = .ok (.slice (some ⟨w.heap.size, 0, none⟩) l.length c) w' ∧ ReadsB w' w'.heap.size (some ⟨w.heap.size, 0, none⟩) l.length l ∧ Below w.heap.size w w' ∧ w.heap.size < w'.heap.size := by
  have h := run_bytes_of_string (P := Tryd.prog) w 9 30 5 (str l) Tryd.underlying9 Tryd.underlying30 Tryd.underlying5
  obtain ⟨c, w', h1, h2, h3⟩ := run_ofStr w l
  refine ⟨c, w', h1, h2, h3, ?_⟩
  rw [h] at h1
  injection h1 with _ h1
  subst h1
  show w.heap.size < (w.drew.heap.push _).size
  rw [Array.size_push]; exact Nat.lt_succ_self _
theorem Tk.conv16 (x : UInt16) : ((n16 x : Nat) : Int) % 18446744073709551616 = ((n64 x.toUInt64 : Nat) : Int) := by
  have := x.toNat_lt; simp [n64, n16]; omega
theorem Tk.conv32' (x : UInt32) : ((n32 x : Nat) : Int) % 18446744073709551616 = ((n64 x.toUInt64 : Nat) : Int) := by
  have := x.toNat_lt; simp [n64, n32]; omega
theorem Tk.enter_number (args : Array Value) (w : World) : (callFunc 12 args).run Tryd.prog w = .ok (.enter 12 args) w := by kernel_rfl
theorem Tk.enter_seal (args : Array Value) (w : World) : (callFunc 14 args).run Tryd.prog w = .ok (.enter 14 args) w := by kernel_rfl
theorem Tk.enter_concat (args : Array Value) (w : World) : (callFunc 15 args).run Tryd.prog w = .ok (.enter 15 args) w := by kernel_rfl
theorem Tk.p_start2 {P : Program} {ops : Array Oper} {Q : Exit → Act → World → Prop} {a : Act} {w : World} (g x : World → Prop) {id : Nat} (hm : P.follows .mixedOrders = true) (hS : g w.drew) (hx : x w.drew) (h : wpAnyV P .any ops Q PW PR ops.size (Array.replicate ops.size false) a (g, x)) : (Code.region id ops true).wp P Q a w := v_start PR (g, x) hm ⟨hS, hx⟩ h
theorem Tk.fld_ses (g : Nat) (i : Nat) (hi : i < 7) (w : World) : (Instr.fieldAt 34 (.pointer (some ⟨g, 0, none⟩)) i).run Tryd.prog w = .ok (.pointer (some ⟨g, i, none⟩)) w := by
  rcases (show i = 0 ∨ i = 1 ∨ i = 2 ∨ i = 3 ∨ i = 4 ∨ i = 5 ∨ i = 6 by omega) with rfl | rfl | rfl | rfl | rfl | rfl | rfl <;> kernel_rfl
theorem Tk.fld_key0 (g : Nat) (w : World) : (Instr.fieldAt 25 (.pointer (some ⟨g, 0, none⟩)) 0).run Tryd.prog w = .ok (.pointer (some ⟨g, 0, none⟩)) w := by kernel_rfl
theorem Tk.fld_key1 (g : Nat) (w : World) : (Instr.fieldAt 25 (.pointer (some ⟨g, 0, none⟩)) 1).run Tryd.prog w = .ok (.pointer (some ⟨g, 4, none⟩)) w := by kernel_rfl
theorem Tk.na_u64 : ((Tryd.prog.underlying 31).map isAggD) = some false := by kernel_rfl
theorem Tk.na_u32 : ((Tryd.prog.underlying 32).map isAggD) = some false := by kernel_rfl
theorem Tk.sz8 : (Tryd.prog.info? 5).map (·.size) = some 1 := by kernel_rfl
theorem Tk.agg12 : AggT Tryd.prog 27 12 := ⟨by kernel_rfl, by kernel_rfl⟩
theorem Tk.to64 {w : World} {o : Oper} {ρ : Operand → Value} {x : Operand} (ho : o.op = .convert 32 31 x) (v : UInt32) (hx : ρ x = .int .u32 ((n32 v : Nat) : Int)) : (execOp ρ o).run Tryd.prog w = .ok (.value (.int .u64 ((n64 v.toUInt64 : Nat) : Int))) w := by
  have e := Tk.conv32' v
  unfold execOp
  simp only [ho, hx]
  simp [go_sem, Tryd.underlying32, Tryd.underlying31, e]
theorem Tk.parts3 (p q r : Part) (w : World) (h1 : ReadsB w w.heap.size p.D p.n p.t) (h2 : ReadsB w w.heap.size q.D q.n q.t) (h3 : ReadsB w w.heap.size r.D r.n r.t) (l1 : p.n ≤ 140737488355000) (l2 : q.n ≤ 140737488355000) (l3 : r.n ≤ 140737488355000) :
    Parts (w.alloc (.cells #[.slice p.D p.n p.d, .slice q.D q.n q.d, .slice r.D r.n r.d] 30)) (w.alloc (.cells #[.slice p.D p.n p.d, .slice q.D q.n q.d, .slice r.D r.n r.d] 30)).heap.size (some ⟨w.heap.size, 0, none⟩) 3 [p, q, r] := by
  have hB := (Below.refl w.heap.size w).alloc (Nat.le_refl _) (.cells #[.slice p.D p.n p.d, .slice q.D q.n q.d, .slice r.D r.n r.d] 30)
  have hb := Blk.nu (w := w) (t := 30) (cs := #[.slice p.D p.n p.d, .slice q.D q.n q.d, .slice r.D r.n r.d]) rfl
  refine ⟨rfl, fun i hi => ?_⟩
  rcases (show i = 0 ∨ i = 1 ∨ i = 2 by omega) with rfl | rfl | rfl
  · exact ⟨_, rfl, by rw [alloc_size]; exact Nat.lt_succ_self _, hb.cell 0, ⟨h1.len, (h1.is.below hB).more hB.size⟩, l1⟩
  · exact ⟨_, rfl, by rw [alloc_size]; exact Nat.lt_succ_self _, hb.cell 1, ⟨h2.len, (h2.is.below hB).more hB.size⟩, l2⟩
  · exact ⟨_, rfl, by rw [alloc_size]; exact Nat.lt_succ_self _, hb.cell 2, ⟨h3.len, (h3.is.below hB).more hB.size⟩, l3⟩
set_option maxHeartbeats 4000000 in
/-- SealTicket of a session that may be sealed. -/
theorem sealT_any (s : Tk.Ses) (hmay : Tk.May s) (name key nonce : List UInt8) (hn : name.length = 4) (hk : key.length = 32) (hc : nonce.length = 12) (A : Option Addr) (c : Nat) (w : World) (hr : ReadsB w w.heap.size A s.secret.length s.secret) :
    Calls Tryd.prog 5 #[.agg (arr (name ++ key)), .agg (arr nonce), Tk.ses A c s] w fun e w' => ∃ v, e = .returned (.tuple #[v, .int .i64 0]) ∧ OwnB w' w.heap.size v (name ++ nonce ++ Cha.lock key nonce name (Tk.text s)) ∧ Below w.heap.size w w' := by
  have HM := hd (show decide (Tk.May s) = true from decide_eq_true hmay)
  have Hle := hd (show s.secret.length ≤ 48 ∧ s.host.length ≤ 253 ∧ s.prot.length ≤ 255 by
    obtain ⟨h1, h2, h3, h4⟩ := hmay
    have := (Tk.size_known s.suite h1).2
    omega)
  clear hmay
  obtain ⟨su, se, ho, pr, ma, li, ad⟩ := s
  dsimp only at hr
  have hle : se.length ≤ 48 ∧ ho.length ≤ 253 ∧ pr.length ≤ 255 := Hle.out
  have k1 := Tk.conv16 su
  have X3 : Tk.Bx w (((w.alloc (.cells (arr (name ++ key)) 25)).alloc (.cells (arr nonce) 27)).alloc (.cells #[.int .u16 ((n16 su : Nat) : Int), .slice A se.length c, .string (str ho), .string (str pr), .int .u64 ((n64 ma : Nat) : Int), .int .u32 ((n32 li : Nat) : Int), .int .u32 ((n32 ad : Nat) : Int)] 34)) w.heap.size (name ++ key) nonce #[.int .u16 ((n16 su : Nat) : Int), .slice A se.length c, .string (str ho), .string (str pr), .int .u64 ((n64 ma : Nat) : Int), .int .u32 ((n32 li : Nat) : Int), .int .u32 ((n32 ad : Nat) : Int)] :=
    ⟨((Blk.nu rfl).alloc _).alloc _, (Blk.nu (by simp)).alloc _, Blk.nu (by simp), (((Below.refl w.heap.size w).alloc (Nat.le_refl _) _).alloc (by simp only [alloc_size]; omega) _).alloc (by simp only [alloc_size]; omega) _⟩
  unfold Tk.ses
  dsimp only
  go_enter Tryd.func5, Tryd.ntmps5
  go_wp2_with (first
     | (go_at_call 12; refine (number_any 2 (by omega) su.toUInt64 (w.heap.size + 1 + 1 + 1) (.slice none 0 0) [] w4 (OwnB.nil _ _) z4 (by simp)).mono ?_; rintro e w5 ⟨v5, rfl, own5, hB5⟩; have X5 := X4.next hB5; have q1_w5 : w5.cell? ⟨w.heap.size + 1 + 1, 1, none⟩ = some (.slice A se.length c) := X5.s.cell 1; have q2_w5 : w5.cell? ⟨w.heap.size + 1 + 1, 2, none⟩ = some (.string (str ho)) := X5.s.cell 2; obtain ⟨c6, w6, hcv6, hr6, hB6, h56⟩ := Tk.ofStr w5 ho; have X6 := X5.next (hB6.mono (Nat.le_trans z4 hB5.size)); have q3_w6 : w6.cell? ⟨w.heap.size + 1 + 1, 3, none⟩ = some (.string (str pr)) := X6.s.cell 3; obtain ⟨c7, w7, hcv7, hr7, hB7, h67⟩ := Tk.ofStr w6 pr; have L8 := Tk.Ls.make (c := c) (ca := c6) (cb := c7) X5 own5 (Nat.le_trans z4 hB5.size) (⟨hr.len, hr.is.below X5.below⟩ : ReadsB w5 w.heap.size A se.length se) hr6 hB6 h56 hr7 hB7 h67; have p0 := L8.blk.cell 0)
     | (go_at_call 11; refine (may_any ⟨su, se, ho, pr, ma, li, ad⟩ A c _).mono ?_; rintro e w4 ⟨rfl, hB4⟩; rw [HM.out]; rw [alloc_size, alloc_size, alloc_size] at hB4; have X4 := X3.next hB4; have z4 : (w.heap.size + 1 + 1 + 1) ≤ w4.heap.size := (by have h := hB4.size; rw [alloc_size, alloc_size, alloc_size] at h; exact h); have q0_w4 : w4.cell? ⟨w.heap.size + 1 + 1, 0, none⟩ = some (.int .u16 ((n16 su : Nat) : Int)) := X4.s.cell 0))
  refine wp_loop_rounds 4 ?_
  rw [rounds_succ]
  go_wp2_with (first
     | (go_at_call 13; refine (L8.first (by rw [List.length_append, Tk.num_len]; simp; omega)).mono ?_; rintro e w9 ⟨v9, rfl, L9⟩; have p1 := L9.blk.cell 1))
  rw [rounds_succ]
  go_wp2_with (first
     | (go_at_call 13; refine (L9.second (by simp only [List.length_append, Tk.num_len, Tk.count, List.length_cons, List.length_nil]; omega)).mono ?_; rintro e w10 ⟨v10, rfl, L10⟩; have p2 := L10.blk.cell 2))
  rw [rounds_succ]
  go_wp2_with (first
     | (go_at_call 13; refine (L10.third (by simp only [List.length_append, Tk.num_len, Tk.count, List.length_cons, List.length_nil]; omega)).mono ?_; rintro e w11 ⟨v11, rfl, L11⟩))
  rw [rounds_succ]
  go_wp2
  have X11 := L11.bx
  have own11 := L11.own
  have z11 := L11.low
  clear L8 L9 L10 L11
  refine Tk.p_start2 (fun W => Tk.Bx w W w.heap.size (name ++ key) nonce #[.int .u16 ((n16 su : Nat) : Int), .slice A se.length c, .string (str ho), .string (str pr), .int .u64 ((n64 ma : Nat) : Int), .int .u32 ((n32 li : Nat) : Int), .int .u32 ((n32 ad : Nat) : Int)] ∧ (w.heap.size + 1 + 1 + 1) ≤ W.heap.size) (fun W => OwnB W (w.heap.size + 1 + 1 + 1) v11 ([] ++ Tk.num su.toUInt64 2 ++ Tk.count se ++ Tk.count ho ++ Tk.count pr)) (by kernel_rfl) ⟨X11.next (Below.refl _ _).drew, z11⟩ own11.drew ?_
  clear X11 own11 z11
  refine p_take 0 (o := _) rfl (by kernel_rfl) (by kernel_rfl) (by kernel_rfl) (wanted_plain rfl) (v11) (fun _ _ _ h => h) (fun W hW => run_move (by rfl) (by simp [Act.eval]) W) ?_
  simp only [Act.put, List.getElem_toArray, List.getElem_cons_succ, List.getElem_cons_zero, List.setIfInBounds_toArray, List.set_cons_zero, List.set_cons_succ]
  refine p_take 1 (o := _) rfl (by kernel_rfl) (by kernel_rfl) (by kernel_rfl) (wanted_plain rfl) (.pointer (some ⟨w.heap.size + 1 + 1, 4, none⟩)) (fun _ _ _ h => h) (fun W hW => Tk.fieldA (by rfl) (by simp [Act.eval]) (Tk.fld_ses _ 4 (by omega))) ?_
  simp only [Act.put, List.getElem_toArray, List.getElem_cons_succ, List.getElem_cons_zero, List.setIfInBounds_toArray, List.set_cons_zero, List.set_cons_succ]
  refine p_take 2 (o := _) rfl (by kernel_rfl) (by kernel_rfl) (by kernel_rfl) (wanted_plain rfl) (.int .u64 ((n64 ma : Nat) : Int)) (fun _ _ _ h => h) (fun W hW => Tk.ld Tk.na_u64 (by rfl) _ _ (by simp [Act.eval]) (hW.1.s.cell 4)) ?_
  simp only [Act.put, List.getElem_toArray, List.getElem_cons_succ, List.getElem_cons_zero, List.setIfInBounds_toArray, List.set_cons_zero, List.set_cons_succ]
  refine p_take 4 (o := _) rfl (by kernel_rfl) (by kernel_rfl) (by kernel_rfl) (wanted_plain rfl) (.pointer (some ⟨w.heap.size + 1 + 1, 5, none⟩)) (fun _ _ _ h => h) (fun W hW => Tk.fieldA (by rfl) (by simp [Act.eval]) (Tk.fld_ses _ 5 (by omega))) ?_
  simp only [Act.put, List.getElem_toArray, List.getElem_cons_succ, List.getElem_cons_zero, List.setIfInBounds_toArray, List.set_cons_zero, List.set_cons_succ]
  refine p_take 5 (o := _) rfl (by kernel_rfl) (by kernel_rfl) (by kernel_rfl) (wanted_plain rfl) (.int .u32 ((n32 li : Nat) : Int)) (fun _ _ _ h => h) (fun W hW => Tk.ld Tk.na_u32 (by rfl) _ _ (by simp [Act.eval]) (hW.1.s.cell 5)) ?_
  simp only [Act.put, List.getElem_toArray, List.getElem_cons_succ, List.getElem_cons_zero, List.setIfInBounds_toArray, List.set_cons_zero, List.set_cons_succ]
  refine p_take 6 (o := _) rfl (by kernel_rfl) (by kernel_rfl) (by kernel_rfl) (wanted_plain rfl) (.int .u64 ((n64 li.toUInt64 : Nat) : Int)) (fun _ _ _ h => h) (fun W hW => Tk.to64 (by rfl) li (by simp [Act.eval])) ?_
  simp only [Act.put, List.getElem_toArray, List.getElem_cons_succ, List.getElem_cons_zero, List.setIfInBounds_toArray, List.set_cons_zero, List.set_cons_succ]
  refine p_take 8 (o := _) rfl (by kernel_rfl) (by kernel_rfl) (by kernel_rfl) (wanted_plain rfl) (.pointer (some ⟨w.heap.size + 1 + 1, 6, none⟩)) (fun _ _ _ h => h) (fun W hW => Tk.fieldA (by rfl) (by simp [Act.eval]) (Tk.fld_ses _ 6 (by omega))) ?_
  simp only [Act.put, List.getElem_toArray, List.getElem_cons_succ, List.getElem_cons_zero, List.setIfInBounds_toArray, List.set_cons_zero, List.set_cons_succ]
  refine p_take 9 (o := _) rfl (by kernel_rfl) (by kernel_rfl) (by kernel_rfl) (wanted_plain rfl) (.int .u32 ((n32 ad : Nat) : Int)) (fun _ _ _ h => h) (fun W hW => Tk.ld Tk.na_u32 (by rfl) _ _ (by simp [Act.eval]) (hW.1.s.cell 6)) ?_
  simp only [Act.put, List.getElem_toArray, List.getElem_cons_succ, List.getElem_cons_zero, List.setIfInBounds_toArray, List.set_cons_zero, List.set_cons_succ]
  refine p_take 10 (o := _) rfl (by kernel_rfl) (by kernel_rfl) (by kernel_rfl) (wanted_plain rfl) (.int .u64 ((n64 ad.toUInt64 : Nat) : Int)) (fun _ _ _ h => h) (fun W hW => Tk.to64 (by rfl) ad (by simp [Act.eval])) ?_
  simp only [Act.put, List.getElem_toArray, List.getElem_cons_succ, List.getElem_cons_zero, List.setIfInBounds_toArray, List.set_cons_zero, List.set_cons_succ]
  refine p_one 3 (by kernel_rfl) (fun W hW hx => ?_)
  refine op_call (o := _) rfl (wanted_plain rfl) 12 _ _ rfl #[v11, .int .i64 8, .int .u64 ((n64 ma : Nat) : Int)] (by simp [Act.eval]) (Tk.enter_number _) ?_
  refine (number_any 8 (by omega) (ma) (w.heap.size + 1 + 1 + 1) v11 _ W hx hW.2 (by simp only [List.length_append, Tk.num_len, Tk.count, List.length_cons, List.length_nil]; omega)).mono ?_
  rintro e Wn ⟨v12, rfl, ownn, hE⟩
  refine ⟨_, rfl, Next.mk (fun W => Tk.Bx w W w.heap.size (name ++ key) nonce #[.int .u16 ((n16 su : Nat) : Int), .slice A se.length c, .string (str ho), .string (str pr), .int .u64 ((n64 ma : Nat) : Int), .int .u32 ((n32 li : Nat) : Int), .int .u32 ((n32 ad : Nat) : Int)] ∧ (w.heap.size + 1 + 1 + 1) ≤ W.heap.size) (fun W => OwnB W (w.heap.size + 1 + 1 + 1) v12 (([] ++ Tk.num su.toUInt64 2 ++ Tk.count se ++ Tk.count ho ++ Tk.count pr) ++ Tk.num (ma) 8)) (fun _ h => h) ⟨hW.1.next hE, Nat.le_trans hW.2 hE.size⟩ ownn ?_⟩
  clear hE hW ownn hx
  simp only [Act.put, List.getElem_toArray, List.getElem_cons_succ, List.getElem_cons_zero, List.setIfInBounds_toArray, List.set_cons_zero, List.set_cons_succ]
  refine p_one 7 (by kernel_rfl) (fun W hW hx => ?_)
  refine op_call (o := _) rfl (wanted_plain rfl) 12 _ _ rfl #[v12, .int .i64 4, .int .u64 ((n64 li.toUInt64 : Nat) : Int)] (by simp [Act.eval]) (Tk.enter_number _) ?_
  refine (number_any 4 (by omega) (li.toUInt64) (w.heap.size + 1 + 1 + 1) v12 _ W hx hW.2 (by simp only [List.length_append, Tk.num_len, Tk.count, List.length_cons, List.length_nil]; omega)).mono ?_
  rintro e Wn ⟨v13, rfl, ownn, hE⟩
  refine ⟨_, rfl, Next.mk (fun W => Tk.Bx w W w.heap.size (name ++ key) nonce #[.int .u16 ((n16 su : Nat) : Int), .slice A se.length c, .string (str ho), .string (str pr), .int .u64 ((n64 ma : Nat) : Int), .int .u32 ((n32 li : Nat) : Int), .int .u32 ((n32 ad : Nat) : Int)] ∧ (w.heap.size + 1 + 1 + 1) ≤ W.heap.size) (fun W => OwnB W (w.heap.size + 1 + 1 + 1) v13 ((([] ++ Tk.num su.toUInt64 2 ++ Tk.count se ++ Tk.count ho ++ Tk.count pr) ++ Tk.num (ma) 8) ++ Tk.num (li.toUInt64) 4)) (fun _ h => h) ⟨hW.1.next hE, Nat.le_trans hW.2 hE.size⟩ ownn ?_⟩
  clear hE hW ownn hx
  simp only [Act.put, List.getElem_toArray, List.getElem_cons_succ, List.getElem_cons_zero, List.setIfInBounds_toArray, List.set_cons_zero, List.set_cons_succ]
  refine p_one 11 (by kernel_rfl) (fun W hW hx => ?_)
  refine op_call (o := _) rfl (wanted_plain rfl) 12 _ _ rfl #[v13, .int .i64 4, .int .u64 ((n64 ad.toUInt64 : Nat) : Int)] (by simp [Act.eval]) (Tk.enter_number _) ?_
  refine (number_any 4 (by omega) (ad.toUInt64) (w.heap.size + 1 + 1 + 1) v13 _ W hx hW.2 (by simp only [List.length_append, Tk.num_len, Tk.count, List.length_cons, List.length_nil]; omega)).mono ?_
  rintro e Wn ⟨v14, rfl, ownn, hE⟩
  refine ⟨_, rfl, Next.mk (fun W => Tk.Bx w W w.heap.size (name ++ key) nonce #[.int .u16 ((n16 su : Nat) : Int), .slice A se.length c, .string (str ho), .string (str pr), .int .u64 ((n64 ma : Nat) : Int), .int .u32 ((n32 li : Nat) : Int), .int .u32 ((n32 ad : Nat) : Int)] ∧ (w.heap.size + 1 + 1 + 1) ≤ W.heap.size) (fun W => OwnB W (w.heap.size + 1 + 1 + 1) v14 (((([] ++ Tk.num su.toUInt64 2 ++ Tk.count se ++ Tk.count ho ++ Tk.count pr) ++ Tk.num (ma) 8) ++ Tk.num (li.toUInt64) 4) ++ Tk.num (ad.toUInt64) 4)) (fun _ h => h) ⟨hW.1.next hE, Nat.le_trans hW.2 hE.size⟩ ownn ?_⟩
  clear hE hW ownn hx
  simp only [Act.put, List.getElem_toArray, List.getElem_cons_succ, List.getElem_cons_zero, List.setIfInBounds_toArray, List.set_cons_zero, List.set_cons_succ]
  refine p_one 12 (by kernel_rfl) (fun W hW hx => ?_)
  refine op_do (o := _) rfl (wanted_plain rfl) v14 W (run_assign (by rfl) (by simp [Act.eval]) W) ?_
  refine Next.mk (fun W => (Tk.Bx w W w.heap.size (name ++ key) nonce #[.int .u16 ((n16 su : Nat) : Int), .slice A se.length c, .string (str ho), .string (str pr), .int .u64 ((n64 ma : Nat) : Int), .int .u32 ((n32 li : Nat) : Int), .int .u32 ((n32 ad : Nat) : Int)] ∧ (w.heap.size + 1 + 1 + 1) ≤ W.heap.size) ∧ OwnB W (w.heap.size + 1 + 1 + 1) v14 (((([] ++ Tk.num su.toUInt64 2 ++ Tk.count se ++ Tk.count ho ++ Tk.count pr) ++ Tk.num (ma) 8) ++ Tk.num (li.toUInt64) 4) ++ Tk.num (ad.toUInt64) 4)) (fun _ => True) (fun _ h => h.1) ⟨hW, hx⟩ trivial ?_
  clear hW hx
  simp only [Act.put, List.getElem_toArray, List.getElem_cons_succ, List.getElem_cons_zero, List.setIfInBounds_toArray, List.set_cons_zero, List.set_cons_succ]
  refine (show ∀ z0, wpAnyV _ _ _ _ _ _ z0 _ _ _ from fun z0 => p_done (by kernel_rfl) (fun W8 H => ?_) z0) _
  obtain ⟨⟨X14, z14⟩, own14⟩ := H
  have et : (((([] ++ Tk.num su.toUInt64 2 ++ Tk.count se ++ Tk.count ho ++ Tk.count pr) ++ Tk.num (ma) 8) ++ Tk.num (li.toUInt64) 4) ++ Tk.num (ad.toUInt64) 4) = Tk.text ⟨su, se, ho, pr, ma, li, ad⟩ := by simp [Tk.text]
  rw [et] at own14
  obtain ⟨tx, Htx⟩ : ∃ x, Hd (Tk.text ⟨su, se, ho, pr, ma, li, ad⟩ = x) := ⟨_, ⟨rfl⟩⟩
  rw [Htx.out] at own14
  have Ltx := hd (show tx.length ≤ 1000 by rw [← Htx.out]; simp [Tk.text, Tk.num_len, Tk.count]; omega)
  obtain ⟨sd, Hsd⟩ : ∃ x, Hd (Cha.lock key nonce name tx = x) := ⟨_, ⟨rfl⟩⟩
  obtain ⟨A14, c14, e14⟩ := own14.slice
  subst e14
  clear et
  go_wp2
  refine p_start (fun W => (Tk.Bx w W w.heap.size (name ++ key) nonce #[.int .u16 ((n16 su : Nat) : Int), .slice A se.length c, .string (str ho), .string (str pr), .int .u64 ((n64 ma : Nat) : Int), .int .u32 ((n32 li : Nat) : Int), .int .u32 ((n32 ad : Nat) : Int)] ∧ (w.heap.size + 1 + 1 + 1) ≤ W.heap.size) ∧ OwnB W (w.heap.size + 1 + 1 + 1) (.slice A14 tx.length c14) tx) (by kernel_rfl) ⟨⟨X14.next (Below.refl _ _).drew, z14⟩, own14.drew⟩ ?_
  clear X14 own14 z14
  refine p_take 0 (o := _) rfl (by kernel_rfl) (by kernel_rfl) (by kernel_rfl) (wanted_plain rfl) (.pointer (some ⟨w.heap.size, 4, none⟩)) (fun _ _ _ h => h) (fun W hW => Tk.fieldA (by rfl) (by simp [Act.eval]) (Tk.fld_key1 _)) ?_
  simp only [Act.put, List.getElem_toArray, List.getElem_cons_succ, List.getElem_cons_zero, List.setIfInBounds_toArray, List.set_cons_zero, List.set_cons_succ]
  refine p_take 1 (o := _) rfl (by kernel_rfl) (by kernel_rfl) (by kernel_rfl) (wanted_plain rfl) (.slice (some ⟨w.heap.size, 4, none⟩) 32 32) (fun _ _ _ h => h) (fun W hW => Tk.slA (by rfl) Tryd.underlying23 Tk.sz8 _ (by simp [Act.eval])) ?_
  simp only [Act.put, List.getElem_toArray, List.getElem_cons_succ, List.getElem_cons_zero, List.setIfInBounds_toArray, List.set_cons_zero, List.set_cons_succ]
  refine p_take 2 (o := _) rfl (by kernel_rfl) (by kernel_rfl) (by kernel_rfl) (wanted_plain rfl) (.agg (arr nonce)) (fun _ _ _ h => h) (fun W hW => Tk.ldA (by rfl) (by simp [Act.eval]) Tk.agg12 (by simp [arr, hc]) hW.1.1.n) ?_
  simp only [Act.put, List.getElem_toArray, List.getElem_cons_succ, List.getElem_cons_zero, List.setIfInBounds_toArray, List.set_cons_zero, List.set_cons_succ]
  refine p_take 3 (o := _) rfl (by kernel_rfl) (by kernel_rfl) (by kernel_rfl) (wanted_plain rfl) (.pointer (some ⟨w.heap.size, 0, none⟩)) (fun _ _ _ h => h) (fun W hW => Tk.fieldA (by rfl) (by simp [Act.eval]) (Tk.fld_key0 _)) ?_
  simp only [Act.put, List.getElem_toArray, List.getElem_cons_succ, List.getElem_cons_zero, List.setIfInBounds_toArray, List.set_cons_zero, List.set_cons_succ]
  refine p_take 4 (o := _) rfl (by kernel_rfl) (by kernel_rfl) (by kernel_rfl) (wanted_plain rfl) (.slice (some ⟨w.heap.size, 0, none⟩) 4 4) (fun _ _ _ h => h) (fun W hW => Tk.slA (by rfl) Tryd.underlying22 Tk.sz8 _ (by simp [Act.eval])) ?_
  simp only [Act.put, List.getElem_toArray, List.getElem_cons_succ, List.getElem_cons_zero, List.setIfInBounds_toArray, List.set_cons_zero, List.set_cons_succ]
  refine p_take 5 (o := _) rfl (by kernel_rfl) (by kernel_rfl) (by kernel_rfl) (wanted_plain rfl) (.slice A14 tx.length c14) (fun _ _ _ h => h) (fun W hW => run_move (by rfl) (by simp [Act.eval]) W) ?_
  simp only [Act.put, List.getElem_toArray, List.getElem_cons_succ, List.getElem_cons_zero, List.setIfInBounds_toArray, List.set_cons_zero, List.set_cons_succ]
  refine p_one 6 (by kernel_rfl) (fun W hW _ => ?_)
  refine op_call (o := _) rfl (wanted_plain rfl) 14 _ _ rfl #[.int .u16 4867, .slice (some ⟨w.heap.size, 4, none⟩) 32 32, .agg (arr nonce), .slice (some ⟨w.heap.size, 0, none⟩) 4 4, .slice A14 tx.length c14] (by simp [Act.eval]) (Tk.enter_seal _) ?_
  have hkey := Tk.reads_at hW.1.1.k 4 32 (by rw [List.length_append, hn, hk]; exact Nat.le_refl _)
  rw [List.drop_left' hn, List.take_of_length_le (Nat.le_of_eq hk)] at hkey
  have hnam := Tk.reads_at hW.1.1.k 0 4 (by rw [List.length_append, hn, hk]; omega)
  rw [List.drop_zero, List.take_left' hn] at hnam
  refine (suiteSeal_cha' _ 32 key nonce hc _ 4 4 name A14 tx.length c14 tx W hkey hnam (Nat.le_refl _) hW.2.reads_any.2 hW.2.room (by have := Ltx.out; omega)).mono ?_
  rintro e Wn ⟨v15, rfl, own15, hE⟩
  rw [Hsd.out] at own15
  obtain ⟨A15, c15, e15⟩ := own15.slice
  subst e15
  refine ⟨_, rfl, Next.mk (fun W => (Tk.Bx w W w.heap.size (name ++ key) nonce #[.int .u16 ((n16 su : Nat) : Int), .slice A se.length c, .string (str ho), .string (str pr), .int .u64 ((n64 ma : Nat) : Int), .int .u32 ((n32 li : Nat) : Int), .int .u32 ((n32 ad : Nat) : Int)] ∧ (w.heap.size + 1 + 1 + 1) ≤ W.heap.size) ∧ OwnB W (w.heap.size + 1 + 1 + 1) (.slice A14 tx.length c14) tx ∧ OwnB W (w.heap.size + 1 + 1 + 1) (.slice A15 sd.length c15) sd) (fun _ => True) (fun _ h => ⟨h.1, h.2.1⟩) ⟨⟨hW.1.1.next (hE.mono hW.1.2), Nat.le_trans hW.1.2 hE.size⟩, hW.2.later hE, own15.low hW.1.2⟩ trivial ?_⟩
  clear hE hW own15 hkey hnam
  simp only [Act.put, List.getElem_toArray, List.getElem_cons_succ, List.getElem_cons_zero, List.setIfInBounds_toArray, List.set_cons_zero, List.set_cons_succ]
  refine p_take 7 (o := _) rfl (by kernel_rfl) (by kernel_rfl) (by kernel_rfl) (wanted_plain rfl) (.tuple #[.slice A15 sd.length c15, .int .i64 0]) (fun _ _ _ h => h) (fun W hW => run_move (by rfl) (by simp [Act.eval]) W) ?_
  simp only [Act.put, List.getElem_toArray, List.getElem_cons_succ, List.getElem_cons_zero, List.setIfInBounds_toArray, List.set_cons_zero, List.set_cons_succ]
  refine p_take 8 (o := _) rfl (by kernel_rfl) (by kernel_rfl) (by kernel_rfl) (wanted_plain rfl) (.slice A15 sd.length c15) (fun _ _ _ h => h) (fun W hW => run_extract (by rfl) #[.slice A15 sd.length c15, .int .i64 0] (.slice A15 sd.length c15) (by simp [Act.eval]) (by rfl)) ?_
  simp only [Act.put, List.getElem_toArray, List.getElem_cons_succ, List.getElem_cons_zero, List.setIfInBounds_toArray, List.set_cons_zero, List.set_cons_succ]
  refine p_take 9 (o := _) rfl (by kernel_rfl) (by kernel_rfl) (by kernel_rfl) (wanted_plain rfl) (.int .i64 0) (fun _ _ _ h => h) (fun W hW => run_extract (by rfl) #[.slice A15 sd.length c15, .int .i64 0] (.int .i64 0) (by simp [Act.eval]) (by rfl)) ?_
  simp only [Act.put, List.getElem_toArray, List.getElem_cons_succ, List.getElem_cons_zero, List.setIfInBounds_toArray, List.set_cons_zero, List.set_cons_succ]
  refine p_take 10 (o := _) rfl (by kernel_rfl) (by kernel_rfl) (by kernel_rfl) (wanted_plain rfl) (.slice A15 sd.length c15) (fun _ _ _ h => h) (fun W hW => run_assign (by rfl) (by simp [Act.eval]) W) ?_
  simp only [Act.put, List.getElem_toArray, List.getElem_cons_succ, List.getElem_cons_zero, List.setIfInBounds_toArray, List.set_cons_zero, List.set_cons_succ]
  refine p_take 11 (o := _) rfl (by kernel_rfl) (by kernel_rfl) (by kernel_rfl) (wanted_plain rfl) (.int .i64 0) (fun _ _ _ h => h) (fun W hW => run_assign (by rfl) (by simp [Act.eval]) W) ?_
  simp only [Act.put, List.getElem_toArray, List.getElem_cons_succ, List.getElem_cons_zero, List.setIfInBounds_toArray, List.set_cons_zero, List.set_cons_succ]
  refine (show ∀ z0, wpAnyV _ _ _ _ _ _ z0 _ _ _ from fun z0 => p_done (by kernel_rfl) (fun W9 H => ?_) z0) _
  obtain ⟨⟨X15, z15⟩, _, own15⟩ := H
  have Lsd := hd (show sd.length ≤ 2000 by rw [← Hsd.out, Cha.lock_len]; have := Ltx.out; omega)
  go_wp2
  refine p_start (fun W => (Tk.Bx w W w.heap.size (name ++ key) nonce #[.int .u16 ((n16 su : Nat) : Int), .slice A se.length c, .string (str ho), .string (str pr), .int .u64 ((n64 ma : Nat) : Int), .int .u32 ((n32 li : Nat) : Int), .int .u32 ((n32 ad : Nat) : Int)] ∧ (w.heap.size + 1 + 1 + 1) ≤ W.heap.size) ∧ OwnB W (w.heap.size + 1 + 1 + 1) (.slice A15 sd.length c15) sd) (by kernel_rfl) ⟨⟨X15.next (Below.refl _ _).drew, z15⟩, own15.drew⟩ ?_
  clear X15 own15 z15
  refine p_take 0 (o := _) rfl (by kernel_rfl) (by kernel_rfl) (by kernel_rfl) (wanted_plain rfl) (.pointer (some ⟨w.heap.size, 0, none⟩)) (fun _ _ _ h => h) (fun W hW => Tk.fieldA (by rfl) (by simp [Act.eval]) (Tk.fld_key0 _)) ?_
  simp only [Act.put, List.getElem_toArray, List.getElem_cons_succ, List.getElem_cons_zero, List.setIfInBounds_toArray, List.set_cons_zero, List.set_cons_succ]
  refine p_take 1 (o := _) rfl (by kernel_rfl) (by kernel_rfl) (by kernel_rfl) (wanted_plain rfl) (.slice (some ⟨w.heap.size, 0, none⟩) 4 4) (fun _ _ _ h => h) (fun W hW => Tk.slA (by rfl) Tryd.underlying22 Tk.sz8 _ (by simp [Act.eval])) ?_
  simp only [Act.put, List.getElem_toArray, List.getElem_cons_succ, List.getElem_cons_zero, List.setIfInBounds_toArray, List.set_cons_zero, List.set_cons_succ]
  refine p_take 2 (o := _) rfl (by kernel_rfl) (by kernel_rfl) (by kernel_rfl) (wanted_plain rfl) (.slice (some ⟨w.heap.size + 1, 0, none⟩) 12 12) (fun _ _ _ h => h) (fun W hW => Tk.slA (by rfl) Tryd.underlying27 Tk.sz8 _ (by simp [Act.eval])) ?_
  simp only [Act.put, List.getElem_toArray, List.getElem_cons_succ, List.getElem_cons_zero, List.setIfInBounds_toArray, List.set_cons_zero, List.set_cons_succ]
  refine p_take 3 (o := _) rfl (by kernel_rfl) (by kernel_rfl) (by kernel_rfl) (wanted_plain rfl) (.slice A15 sd.length c15) (fun _ _ _ h => h) (fun W hW => run_move (by rfl) (by simp [Act.eval]) W) ?_
  simp only [Act.put, List.getElem_toArray, List.getElem_cons_succ, List.getElem_cons_zero, List.setIfInBounds_toArray, List.set_cons_zero, List.set_cons_succ]
  refine p_one 4 (by kernel_rfl) (fun W hW _ => ?_)
  refine op_do (o := _) rfl (wanted_plain rfl) _ _ (Tk.build3 (by rfl) (some ⟨w.heap.size, 0, none⟩) (some ⟨w.heap.size + 1, 0, none⟩) A15 4 4 12 12 sd.length c15 (by simp [Act.eval]) (by simp [Act.eval]) (by simp [Act.eval])) ?_
  have hnam := Tk.reads_at hW.1.1.k 0 4 (by rw [List.length_append, hn, hk]; omega)
  rw [List.drop_zero, List.take_left' hn] at hnam
  have hnon := Tk.reads_at hW.1.1.n 0 12 (by rw [hc]; omega)
  rw [List.drop_zero, List.take_of_length_le (Nat.le_of_eq hc)] at hnon
  have hpp := Tk.parts3 ⟨some ⟨w.heap.size, 0, none⟩, 4, 4, name⟩ ⟨some ⟨w.heap.size + 1, 0, none⟩, 12, 12, nonce⟩ ⟨A15, sd.length, c15, sd⟩ W hnam hnon hW.2.reads_any.2 (by show 4 ≤ _; omega) (by show 12 ≤ _; omega) (by show sd.length ≤ _; have := Lsd.out; omega)
  have hE := (Below.refl W.heap.size W).alloc (Nat.le_refl _) (.cells #[.slice (some ⟨w.heap.size, 0, none⟩) 4 4, .slice (some ⟨w.heap.size + 1, 0, none⟩) 12 12, .slice A15 sd.length c15] 30)
  obtain ⟨gp, Hgp⟩ : ∃ x, Hd (W.heap.size = x) := ⟨_, ⟨rfl⟩⟩
  rw [Hgp.out] at hpp ⊢
  refine Next.mk (fun W => ((Tk.Bx w W w.heap.size (name ++ key) nonce #[.int .u16 ((n16 su : Nat) : Int), .slice A se.length c, .string (str ho), .string (str pr), .int .u64 ((n64 ma : Nat) : Int), .int .u32 ((n32 li : Nat) : Int), .int .u32 ((n32 ad : Nat) : Int)] ∧ (w.heap.size + 1 + 1 + 1) ≤ W.heap.size) ∧ OwnB W (w.heap.size + 1 + 1 + 1) (.slice A15 sd.length c15) sd) ∧ Parts W W.heap.size (some ⟨gp, 0, none⟩) 3 [⟨some ⟨w.heap.size, 0, none⟩, 4, 4, name⟩, ⟨some ⟨w.heap.size + 1, 0, none⟩, 12, 12, nonce⟩, ⟨A15, sd.length, c15, sd⟩]) (fun _ => True) (fun _ h => h.1) ⟨⟨⟨hW.1.1.next (hE.mono hW.1.2), Nat.le_trans hW.1.2 hE.size⟩, hW.2.later hE⟩, hpp⟩ trivial ?_
  clear hE hW hpp hnam hnon
  simp only [Act.put, List.getElem_toArray, List.getElem_cons_succ, List.getElem_cons_zero, List.setIfInBounds_toArray, List.set_cons_zero, List.set_cons_succ]
  refine p_one 5 (by kernel_rfl) (fun W hW _ => ?_)
  refine op_call (o := _) rfl (wanted_plain rfl) 15 _ _ rfl #[.slice (some ⟨gp, 0, none⟩) 3 3] (by simp [Act.eval]) (Tk.enter_concat _) ?_
  have ej : joined [⟨some ⟨w.heap.size, 0, none⟩, 4, 4, name⟩, ⟨some ⟨w.heap.size + 1, 0, none⟩, 12, 12, nonce⟩, ⟨A15, sd.length, c15, sd⟩] = name ++ nonce ++ sd := by simp [joined]
  refine (concat_any _ 3 3 [⟨some ⟨w.heap.size, 0, none⟩, 4, 4, name⟩, ⟨some ⟨w.heap.size + 1, 0, none⟩, 12, 12, nonce⟩, ⟨A15, sd.length, c15, sd⟩] W hW.2 (by omega) (by rw [ej]; simp only [List.length_append]; rw [hn, hc]; have := Lsd.out; omega)).mono ?_
  rintro e Wn ⟨v16, rfl, own16, hE⟩
  rw [ej] at own16
  refine ⟨_, rfl, Next.mk (fun W => (((Tk.Bx w W w.heap.size (name ++ key) nonce #[.int .u16 ((n16 su : Nat) : Int), .slice A se.length c, .string (str ho), .string (str pr), .int .u64 ((n64 ma : Nat) : Int), .int .u32 ((n32 li : Nat) : Int), .int .u32 ((n32 ad : Nat) : Int)] ∧ (w.heap.size + 1 + 1 + 1) ≤ W.heap.size) ∧ OwnB W (w.heap.size + 1 + 1 + 1) (.slice A15 sd.length c15) sd) ∧ Parts W W.heap.size (some ⟨gp, 0, none⟩) 3 [⟨some ⟨w.heap.size, 0, none⟩, 4, 4, name⟩, ⟨some ⟨w.heap.size + 1, 0, none⟩, 12, 12, nonce⟩, ⟨A15, sd.length, c15, sd⟩]) ∧ OwnB W (w.heap.size + 1 + 1 + 1) v16 (name ++ nonce ++ sd)) (fun _ => True) (fun _ h => h.1) ⟨⟨⟨⟨hW.1.1.1.next (hE.mono hW.1.1.2), Nat.le_trans hW.1.1.2 hE.size⟩, hW.1.2.later hE⟩, (hW.2.below hE).wide hE.size⟩, own16.low hW.1.1.2⟩ trivial ?_⟩
  clear hE hW own16 ej
  simp only [Act.put, List.getElem_toArray, List.getElem_cons_succ, List.getElem_cons_zero, List.setIfInBounds_toArray, List.set_cons_zero, List.set_cons_succ]
  refine p_take 6 (o := _) rfl (by kernel_rfl) (by kernel_rfl) (by kernel_rfl) (wanted_plain rfl) (v16) (fun _ _ _ h => h) (fun W hW => run_assign (by rfl) (by simp [Act.eval]) W) ?_
  simp only [Act.put, List.getElem_toArray, List.getElem_cons_succ, List.getElem_cons_zero, List.setIfInBounds_toArray, List.set_cons_zero, List.set_cons_succ]
  refine p_take 7 (o := _) rfl (by kernel_rfl) (by kernel_rfl) (by kernel_rfl) (wanted_plain rfl) (.int .i64 0) (fun _ _ _ h => h) (fun W hW => run_assign (by rfl) (by simp [Act.eval]) W) ?_
  simp only [Act.put, List.getElem_toArray, List.getElem_cons_succ, List.getElem_cons_zero, List.setIfInBounds_toArray, List.set_cons_zero, List.set_cons_succ]
  refine (show ∀ z0, wpAnyV _ _ _ _ _ _ z0 _ _ _ from fun z0 => p_done (by kernel_rfl) (fun W10 H => ?_) z0) _
  obtain ⟨⟨⟨⟨X16, z16⟩, _⟩, _⟩, own16⟩ := H
  go_wp2
  go_ret2
  rw [Htx.out, Hsd.out]
  exact ⟨v16, rfl, own16.low (by omega), X16.below⟩

set_option maxHeartbeats 4000000 in
/-- SealTicket of a session that may not be sealed. -/
theorem sealT_no (s : Tk.Ses) (hmay : ¬ Tk.May s) (kn nonce : List UInt8) (A : Option Addr) (c : Nat) (w : World) :
    Calls Tryd.prog 5 #[.agg (arr kn), .agg (arr nonce), Tk.ses A c s] w fun e w' => e = .returned (.tuple #[.slice none 0 0, .int .i64 191]) ∧ Below w.heap.size w w' := by
  have HM := hd (show decide (Tk.May s) = false from decide_eq_false hmay)
  clear hmay
  obtain ⟨su, se, ho, pr, ma, li, ad⟩ := s
  have hB : Below w.heap.size w (((w.alloc (.cells (arr kn) 25)).alloc (.cells (arr nonce) 27)).alloc (.cells #[.int .u16 ((n16 su : Nat) : Int), .slice A se.length c, .string (str ho), .string (str pr), .int .u64 ((n64 ma : Nat) : Int), .int .u32 ((n32 li : Nat) : Int), .int .u32 ((n32 ad : Nat) : Int)] 34)) :=
    ((((Below.refl w.heap.size w).alloc (Nat.le_refl _) _).alloc (by simp only [alloc_size]; omega) _).alloc (by simp only [alloc_size]; omega) _)
  unfold Tk.ses
  dsimp only
  go_enter Tryd.func5, Tryd.ntmps5
  go_wp2_with (first | (go_at_call 11; refine (may_any ⟨su, se, ho, pr, ma, li, ad⟩ A c _).mono ?_; rintro e w4 ⟨rfl, hB4⟩; rw [HM.out]; have hB5 := hB.trans (hB4.mono hB.size)))
  go_ret2
  exact ⟨rfl, hB5⟩
end Go.Proofs.YthigbggacgiamaaDoor
