/-
  sched.told, of a ticket's text.
-/
import Derived.Test.YthigbggacgiamaaDoorJk
set_option linter.unusedVariables false
set_option linter.unusedSimpArgs false
set_option maxRecDepth 100000
namespace Go.Proofs.YthigbggacgiamaaDoor
open Go.RowKit
/-- What is known in told's last line. -/
structure Tk.G (w0 W : World) (N : Nat) (A : Option Addr) (c : Nat) (cs : Array Value) (v : Value) (m : List UInt8) : Prop where
  rd : Blk W (N + 1) 73 (Tk.rd (.slice A 0 c))
  ses : Blk W (N + 1 + 1) 34 cs
  res : ∃ d, Blk W N 34 d ∧ d.size = 7
  own : OwnB W (N + 1 + 1 + 1) v m
  below : Below N w0 W
theorem Tk.G.next {w0 W W' : World} {N : Nat} {A : Option Addr} {c : Nat} {cs : Array Value} {v : Value} {m : List UInt8} (h : Tk.G w0 W N A c cs v m) (hb : Below W.heap.size W W') : Tk.G w0 W' N A c cs v m := by
  obtain ⟨d, h1, h2⟩ := h.res
  exact ⟨h.rd.below hb h.rd.lt, h.ses.below hb h.ses.lt, ⟨d, h1.below hb h1.lt, h2⟩, h.own.later hb, h.below.trans (hb.mono (Nat.le_of_lt h1.lt))⟩
theorem Tk.G.stored {w0 W : World} {N : Nat} {A : Option Addr} {c : Nat} {cs : Array Value} {v : Value} {m : List UInt8} (h : Tk.G w0 W N A c cs v m) (d : Array Value) (hd : d.size = 7) : Tk.G w0 (W.setRow N d) N A c cs v m ∧ Blk (W.setRow N d) N 34 d := by
  obtain ⟨d0, h1, h2⟩ := h.res
  have hne : v.ownBlock ≠ some N := by
    rcases h.own.size with e | ⟨g', e, h1, _⟩
    · rw [e]; intro h; cases h
    · rw [e]; intro h; injection h; omega
  exact ⟨⟨h.rd.farRow (by omega) d, h.ses.farRow (by omega) d, ⟨d, h1.setRow d, hd⟩, h.own.moved (z := N) (grew_setRow (⟨rfl, rfl, rfl, Nat.le_refl _, fun _ _ _ => rfl⟩ : W.grownBy W (some N)) d) hne, below_setRow h.below (Nat.le_refl _) d⟩, h1.setRow d⟩
theorem Tk.enter_may (args : Array Value) (w : World) : (callFunc 11 args).run Tryd.prog w = .ok (.enter 11 args) w := by kernel_rfl
theorem Tk.text_is (s : Tk.Ses) : Tk.text s = Tk.num s.suite.toUInt64 2 ++ ([UInt8.ofNat s.secret.length] ++ (s.secret ++ ([UInt8.ofNat s.host.length] ++ (s.host ++ ([UInt8.ofNat s.prot.length] ++ (s.prot ++ (Tk.num s.made 8 ++ (Tk.num s.life.toUInt64 4 ++ (Tk.num s.add.toUInt64 4 ++ []))))))))) := by
  simp [Tk.text, Tk.count]
theorem Tk.At.keep {w0 W : World} {N : Nat} {l : List UInt8} {cs : Array Value} {v v' : Value} {m m' : List UInt8} (h : Tk.At w0 W N l cs v m) (ho : OwnB W (N + 1 + 1 + 1) v' m') : Tk.At w0 W N l cs v' m' := ⟨h.rd, h.ses, h.res, ho, h.below⟩
theorem Tk.At.first (w : World) (A : Option Addr) (n c : Nat) (p l : List UInt8) (hr : ReadsB w w.heap.size A n (p ++ l)) (hnc : n ≤ c) (hp : p.length = 2) :
    Calls Tryd.prog 27 #[.pointer (some ⟨w.heap.size + 1, 0, none⟩), .int .i64 2] ((w.alloc (.cells Tk.zero 34)).alloc (.cells (Tk.rd (.slice A n c)) 73)) fun e w' => e = .returned (.int .u64 ((n64 (Tk.val 0 p) : Nat) : Int)) ∧ w'.heap.size = w.heap.size + 1 + 1 ∧ ∀ cs, Tk.At w (w'.alloc (.cells cs 34)) w.heap.size l cs (.slice none 0 0) [] := by
  have b0 : Blk ((w.alloc (.cells Tk.zero 34)).alloc (.cells (Tk.rd (.slice A n c)) 73)) w.heap.size 34 Tk.zero := (Blk.nu rfl).alloc _
  have hB := ((Below.refl w.heap.size w).alloc (Nat.le_refl _) (.cells Tk.zero 34)).alloc (by simp) (.cells (Tk.rd (.slice A n c)) 73)
  refine (Tk.numberR (w.heap.size + 1) 2 (by omega) p l hp _ ⟨A, n, c, Blk.nu (by simp), ⟨hr.len, (hr.is.below hB).more (by omega)⟩, hnc⟩).mono ?_
  rintro e w1 ⟨rfl, R1, hs1, _, x1, ex1⟩
  simp only [alloc_size] at hs1
  refine ⟨rfl, hs1, fun cs => ⟨R1.next (B := w1.heap.size) ((Below.refl _ w1).alloc (Nat.le_refl _) _) R1.lt, Blk.nu hs1.symm, ?_, OwnB.nil _ _, ?_⟩⟩
  · subst ex1
    exact (b0.far (p := ⟨w.heap.size + 1, 0, none⟩) (by show w.heap.size ≠ w.heap.size + 1; omega) x1).alloc _
  · subst ex1
    exact (hB.setCell (p := ⟨w.heap.size + 1, 0, none⟩) (by show w.heap.size ≤ w.heap.size + 1; omega) x1).alloc (by simp only [World.size_setCell, alloc_size]; omega) _
theorem Tk.conv32 (x : UInt32) : ((n64 x.toUInt64 : Nat) : Int) % 4294967296 = ((n32 x : Nat) : Int) := by
  have := x.toNat_lt; simp [n64, n32]; omega
theorem Tk.val32 (x : UInt32) : Tk.val 0 (Tk.num x.toUInt64 4) = x.toUInt64 := Tk.val_num _ 4 (by omega) (by have := x.toNat_lt; simp; omega)
theorem Tk.val64 (x : UInt64) : Tk.val 0 (Tk.num x 8) = x := Tk.val_num _ 8 (by omega) (by have := x.toNat_lt; simp; omega)
theorem Tk.val_cnt (a : Nat) (h : a < 256) : ((n64 (Tk.val 0 [UInt8.ofNat a]) : Nat) : Int) = (a : Int) := by unfold n64; rw [Tk.val_one _ h]
set_option maxHeartbeats 4000000 in
set_option maxRecDepth 100000 in
theorem told_any (s : Tk.Ses) (hsl : s.secret.length < 256) (hhl : s.host.length < 256) (hpl : s.prot.length < 256) (A : Option Addr) (n c : Nat) (w : World) (hr : ReadsB w w.heap.size A n (Tk.text s)) (hnc : n ≤ c)
    (hmay : ∀ (A' : Option Addr) (c' : Nat) (W : World), Calls Tryd.prog 11 #[Tk.ses A' c' s] W fun e w' => e = .returned (.bool true) ∧ Below W.heap.size W w') :
    Calls Tryd.prog 19 #[.slice A n c] w fun e w' => ∃ A' c', e = .returned (.tuple #[Tk.ses A' c' s, .bool true]) ∧ OwnB w' w.heap.size (.slice A' s.secret.length c') s.secret ∧ Below w.heap.size w w' := by
  rw [Tk.text_is] at hr
  obtain ⟨su, se, ho, pr, ma, li, ad⟩ := s
  dsimp only at hsl hhl hpl hr
  have c2 : ((n64 su.toUInt64 : Nat) : Int) % 65536 = ((n16 su : Nat) : Int) := by have := su.toNat_lt; simp [n64, n16]; omega
  have v2 : (Tk.val 0 (Tk.num su.toUInt64 2)) = su.toUInt64 := Tk.val_num _ 2 (by omega) (by have := su.toNat_lt; simp; omega)
  have k1 := Tk.conv32 li
  have k2 := Tk.conv32 ad
  have i1 : IntKind.i64.wrap (se.length : Int) = (se.length : Int) := IntWalk.i64_in _ (by omega)
  have i2 : IntKind.i64.wrap (ho.length : Int) = (ho.length : Int) := IntWalk.i64_in _ (by omega)
  have i3 : IntKind.i64.wrap (pr.length : Int) = (pr.length : Int) := IntWalk.i64_in _ (by omega)
  go_enter Tryd.func19, Tryd.ntmps19
  go_wp2_with (first
   | (go_at_call 27; refine (A10.number 4 (by omega) (Tk.num_len ad.toUInt64 4)).mono ?_; rintro e w11 ⟨rfl, A11⟩; rw [Tk.val32]; have q5 : w11.cell? ⟨w.heap.size + 1 + 1, 5, none⟩ = some (.int .u32 0) := A11.ses.cell 5; have r5 : w11.frozen? ⟨w.heap.size + 1 + 1, 5, none⟩ = false := A11.ses.frozen 5; have A12 := A11.set 5 (.int .u32 ((n32 li : Nat) : Int)); have q6 : (w11.setCell ⟨w.heap.size + 1 + 1, 5, none⟩ (.int .u32 ((n32 li : Nat) : Int))).cell? ⟨w.heap.size + 1 + 1, 6, none⟩ = some (.int .u32 0) := A12.ses.cell 6; have r6 : (w11.setCell ⟨w.heap.size + 1 + 1, 5, none⟩ (.int .u32 ((n32 li : Nat) : Int))).frozen? ⟨w.heap.size + 1 + 1, 6, none⟩ = false := A12.ses.frozen 6)
   | (go_at_call 27; refine ((A9.set 4 (.int .u64 ((n64 ma : Nat) : Int))).number 4 (by omega) (Tk.num_len li.toUInt64 4)).mono ?_; rintro e w10 ⟨rfl, A10⟩; rw [Tk.val32])
   | (go_at_call 27; refine ((A8.set 3 (.string (str pr))).number 8 (by omega) (Tk.num_len ma 8)).mono ?_; rintro e w9 ⟨rfl, A9⟩; rw [Tk.val64]; have q4 : w9.cell? ⟨w.heap.size + 1 + 1, 4, none⟩ = some (.int .u64 0) := A9.ses.cell 4; have r4 : w9.frozen? ⟨w.heap.size + 1 + 1, 4, none⟩ = false := A9.ses.frozen 4)
   | (go_at_call 29; refine (A7.take (p := pr) pr.length rfl).mono ?_; rintro e w8 ⟨B8, rfl, hr8, A8⟩; have s8 := run_toString Tryd.underlying30 Tryd.underlying5 Tryd.underlying9 _ B8 pr.length pr.length pr hr8; have q3 : w8.cell? ⟨w.heap.size + 1 + 1, 3, none⟩ = some (.string ⟨#[]⟩) := A8.ses.cell 3; have r3 : w8.frozen? ⟨w.heap.size + 1 + 1, 3, none⟩ = false := A8.ses.frozen 3)
   | (go_at_call 27; refine ((A6.set 2 (.string (str ho))).number (p := [UInt8.ofNat pr.length]) 1 (by omega) rfl).mono ?_; rintro e w7 ⟨rfl, A7⟩; rw [Tk.val_cnt _ hpl])
   | (go_at_call 29; refine (A5.take (p := ho) ho.length rfl).mono ?_; rintro e w6 ⟨B6, rfl, hr6, A6⟩; have s6 := run_toString Tryd.underlying30 Tryd.underlying5 Tryd.underlying9 _ B6 ho.length ho.length ho hr6; have q2 : w6.cell? ⟨w.heap.size + 1 + 1, 2, none⟩ = some (.string ⟨#[]⟩) := A6.ses.cell 2; have r2 : w6.frozen? ⟨w.heap.size + 1 + 1, 2, none⟩ = false := A6.ses.frozen 2)
   | (go_at_call 27; refine ((A4.set 1 (.slice P4 se.length c4)).number (p := [UInt8.ofNat ho.length]) 1 (by omega) rfl).mono ?_; rintro e w5 ⟨rfl, A5⟩; rw [Tk.val_cnt _ hhl])
   | (go_at_call 28; refine (clone_bytes B3 _ _ se w3 hr3 (by omega)).mono ?_; rintro e w4 ⟨v4, rfl, own4, hB4⟩; have A4 := (A3.next hB4).keep (own4.low A3.lt); obtain ⟨P4, c4, e4⟩ := own4.slice; subst e4; have q1 : w4.cell? ⟨w.heap.size + 1 + 1, 1, none⟩ = some (.slice none 0 0) := A4.ses.cell 1; have r1 : w4.frozen? ⟨w.heap.size + 1 + 1, 1, none⟩ = false := A4.ses.frozen 1)
   | (go_at_call 29; refine (A2.take (p := se) se.length rfl).mono ?_; rintro e w3 ⟨B3, rfl, hr3, A3⟩)
   | (go_at_call 27; refine (A1.number (p := [UInt8.ofNat se.length]) 1 (by omega) rfl).mono ?_; rintro e w2 ⟨rfl, A2⟩; rw [Tk.val_cnt _ hsl])
   | (go_at_call 27; refine (Tk.At.first w A n c _ ([UInt8.ofNat se.length] ++ (se ++ ([UInt8.ofNat ho.length] ++ (ho ++ ([UInt8.ofNat pr.length] ++ (pr ++ (Tk.num ma 8 ++ (Tk.num li.toUInt64 4 ++ (Tk.num ad.toUInt64 4 ++ []))))))))) hr hnc (Tk.num_len su.toUInt64 2)).mono ?_; rintro e w1 ⟨rfl, hs1, h1⟩; rw [v2]; have A1 := h1 #[.int .u16 ((n16 su : Nat) : Int), .slice none 0 0, .string ⟨#[]⟩, .string ⟨#[]⟩, .int .u64 0, .int .u32 0, .int .u32 0]))
  have A13 := A12.set 6 (.int .u32 ((n32 ad : Nat) : Int))
  obtain ⟨RA, Rn, Rc, hb, hrd, hnc2⟩ := A13.rd.at_
  obtain rfl : Rn = 0 := by have := hrd.len; simpa using this.symm
  refine p_start (fun W => Tk.G w W w.heap.size RA Rc #[.int .u16 ((n16 su : Nat) : Int), .slice P4 se.length c4, .string (str ho), .string (str pr), .int .u64 ((n64 ma : Nat) : Int), .int .u32 ((n32 li : Nat) : Int), .int .u32 ((n32 ad : Nat) : Int)] (.slice P4 se.length c4) se) (by kernel_rfl) (Tk.G.next ⟨hb, A13.ses, ⟨_, A13.res, rfl⟩, A13.own, A13.below⟩ (Below.refl _ _).drew) ?_
  clear A13 A12 hb hrd hnc2 q1 r1 q2 r2 q3 r3 q4 r4 q5 r5 q6 r6
  refine p_take 0 (o := _) rfl (by kernel_rfl) (by kernel_rfl) (by kernel_rfl) (wanted_plain rfl) (.agg #[.int .u16 ((n16 su : Nat) : Int), .slice P4 se.length c4, .string (str ho), .string (str pr), .int .u64 ((n64 ma : Nat) : Int), .int .u32 ((n32 li : Nat) : Int), .int .u32 ((n32 ad : Nat) : Int)]) (fun _ _ _ h => h) (fun W hW => Tk.ldA (by rfl) (by simp [Act.eval]) Tk.ses_agg rfl hW.ses) ?_
  simp only [Act.put, List.getElem_toArray, List.getElem_cons_succ, List.getElem_cons_zero, List.setIfInBounds_toArray, List.set_cons_zero, List.set_cons_succ]
  refine p_take 1 (o := _) rfl (by kernel_rfl) (by kernel_rfl) (by kernel_rfl) (wanted_plain rfl) (.pointer (some ⟨w.heap.size + 1, 0, none⟩)) (fun _ _ _ h => h) (fun W hW => run_move (by rfl) (by simp [Act.eval]) W) ?_
  simp only [Act.put, List.getElem_toArray, List.getElem_cons_succ, List.getElem_cons_zero, List.setIfInBounds_toArray, List.set_cons_zero, List.set_cons_succ]
  refine p_take 2 (o := _) rfl (by kernel_rfl) (by kernel_rfl) (by kernel_rfl) (wanted_plain rfl) (.pointer (some ⟨w.heap.size + 1, 0, none⟩)) (fun _ _ _ h => h) (fun W hW => Tk.nilC (by rfl) (by simp [Act.eval])) ?_
  simp only [Act.put, List.getElem_toArray, List.getElem_cons_succ, List.getElem_cons_zero, List.setIfInBounds_toArray, List.set_cons_zero, List.set_cons_succ]
  refine p_take 3 (o := _) rfl (by kernel_rfl) (by kernel_rfl) (by kernel_rfl) (wanted_plain rfl) (.pointer (some ⟨w.heap.size + 1, 1, none⟩)) (fun _ _ _ h => h) (fun W hW => Tk.fieldA (by rfl) (by simp [Act.eval]) (Tk.fld_rd _ 1 (by omega))) ?_
  simp only [Act.put, List.getElem_toArray, List.getElem_cons_succ, List.getElem_cons_zero, List.setIfInBounds_toArray, List.set_cons_zero, List.set_cons_succ]
  refine p_take 4 (o := _) rfl (by kernel_rfl) (by kernel_rfl) (by kernel_rfl) (wanted_plain rfl) (.bool false) (fun _ _ _ h => h) (fun W hW => Tk.ld Tk.na_bool (by rfl) _ _ (by simp [Act.eval]) (hW.rd.cell 1)) ?_
  simp only [Act.put, List.getElem_toArray, List.getElem_cons_succ, List.getElem_cons_zero, List.setIfInBounds_toArray, List.set_cons_zero, List.set_cons_succ]
  refine p_take 5 (o := _) rfl (by kernel_rfl) (by kernel_rfl) (by kernel_rfl) (wanted_plain rfl) (.bool true) (fun _ _ _ h => h) (fun W hW => Tk.not' (by rfl) (b := false) (by simp [Act.eval]) rfl) ?_
  simp only [Act.put, List.getElem_toArray, List.getElem_cons_succ, List.getElem_cons_zero, List.setIfInBounds_toArray, List.set_cons_zero, List.set_cons_succ]
  refine p_take 6 (o := _) rfl (by kernel_rfl) (by kernel_rfl) (by kernel_rfl) (wanted_plain rfl) (.bool true) (fun _ _ _ h => h) (fun W hW => run_move (by rfl) (by simp [Act.eval]) W) ?_
  simp only [Act.put, List.getElem_toArray, List.getElem_cons_succ, List.getElem_cons_zero, List.setIfInBounds_toArray, List.set_cons_zero, List.set_cons_succ]
  refine p_take 7 (o := _) rfl (by kernel_rfl) (by kernel_rfl) (by kernel_rfl) (Tk.on rfl (by kernel_rfl)) (.pointer (some ⟨w.heap.size + 1, 0, none⟩)) (fun _ _ _ h => h) (fun W hW => run_move (by rfl) (by simp [Act.eval]) W) ?_
  simp only [Act.put, List.getElem_toArray, List.getElem_cons_succ, List.getElem_cons_zero, List.setIfInBounds_toArray, List.set_cons_zero, List.set_cons_succ]
  refine p_take 8 (o := _) rfl (by kernel_rfl) (by kernel_rfl) (by kernel_rfl) (Tk.on rfl (by kernel_rfl)) (.pointer (some ⟨w.heap.size + 1, 0, none⟩)) (fun _ _ _ h => h) (fun W hW => Tk.nilC (by rfl) (by simp [Act.eval])) ?_
  simp only [Act.put, List.getElem_toArray, List.getElem_cons_succ, List.getElem_cons_zero, List.setIfInBounds_toArray, List.set_cons_zero, List.set_cons_succ]
  refine p_take 9 (o := _) rfl (by kernel_rfl) (by kernel_rfl) (by kernel_rfl) (Tk.on rfl (by kernel_rfl)) (.pointer (some ⟨w.heap.size + 1, 0, none⟩)) (fun _ _ _ h => h) (fun W hW => Tk.fieldA (by rfl) (by simp [Act.eval]) (Tk.fld_rd _ 0 (by omega))) ?_
  simp only [Act.put, List.getElem_toArray, List.getElem_cons_succ, List.getElem_cons_zero, List.setIfInBounds_toArray, List.set_cons_zero, List.set_cons_succ]
  refine p_take 10 (o := _) rfl (by kernel_rfl) (by kernel_rfl) (by kernel_rfl) (Tk.on rfl (by kernel_rfl)) (.slice RA 0 Rc) (fun _ _ _ h => h) (fun W hW => Tk.ld Tk.na_bytes (by rfl) _ _ (by simp [Act.eval]) (hW.rd.cell 0)) ?_
  simp only [Act.put, List.getElem_toArray, List.getElem_cons_succ, List.getElem_cons_zero, List.setIfInBounds_toArray, List.set_cons_zero, List.set_cons_succ]
  refine p_take 11 (o := _) rfl (by kernel_rfl) (by kernel_rfl) (by kernel_rfl) (Tk.on rfl (by kernel_rfl)) (.int .i64 0) (fun _ _ _ h => h) (fun W hW => Tk.lenS (by rfl) (a := RA) (n := 0) (c := Rc) (by simp [Act.eval]) ⟨_, Tryd.underlying30⟩) ?_
  simp only [Act.put, List.getElem_toArray, List.getElem_cons_succ, List.getElem_cons_zero, List.setIfInBounds_toArray, List.set_cons_zero, List.set_cons_succ]
  refine p_take 12 (o := _) rfl (by kernel_rfl) (by kernel_rfl) (by kernel_rfl) (Tk.on rfl (by kernel_rfl)) (.bool true) (fun _ _ _ h => h) (fun W hW => Tk.eqI (by rfl) 0 0 true (by simp [Act.eval]) (by simp [Act.eval]) rfl Tryd.underlying3) ?_
  simp only [Act.put, List.getElem_toArray, List.getElem_cons_succ, List.getElem_cons_zero, List.setIfInBounds_toArray, List.set_cons_zero, List.set_cons_succ]
  refine p_take 13 (o := _) rfl (by kernel_rfl) (by kernel_rfl) (by kernel_rfl) (wanted_plain rfl) (.bool true) (fun _ _ _ h => h) (fun W hW => run_pick (by rfl) (b := true) (by simp [Act.eval]) (by simp [Act.eval]) W) ?_
  simp only [Act.put, List.getElem_toArray, List.getElem_cons_succ, List.getElem_cons_zero, List.setIfInBounds_toArray, List.set_cons_zero, List.set_cons_succ]
  refine p_take 14 (o := _) rfl (by kernel_rfl) (by kernel_rfl) (by kernel_rfl) (wanted_plain rfl) (.bool true) (fun _ _ _ h => h) (fun W hW => run_move (by rfl) (by simp [Act.eval]) W) ?_
  simp only [Act.put, List.getElem_toArray, List.getElem_cons_succ, List.getElem_cons_zero, List.setIfInBounds_toArray, List.set_cons_zero, List.set_cons_succ]
  refine p_take 15 (o := _) rfl (by kernel_rfl) (by kernel_rfl) (by kernel_rfl) (Tk.on rfl (by kernel_rfl)) (.agg #[.int .u16 ((n16 su : Nat) : Int), .slice P4 se.length c4, .string (str ho), .string (str pr), .int .u64 ((n64 ma : Nat) : Int), .int .u32 ((n32 li : Nat) : Int), .int .u32 ((n32 ad : Nat) : Int)]) (fun _ _ _ h => h) (fun W hW => Tk.ldA (by rfl) (by simp [Act.eval]) Tk.ses_agg rfl hW.ses) ?_
  simp only [Act.put, List.getElem_toArray, List.getElem_cons_succ, List.getElem_cons_zero, List.setIfInBounds_toArray, List.set_cons_zero, List.set_cons_succ]
  refine p_one 16 (by kernel_rfl) (fun W hW _ => ?_)
  refine op_call (o := _) rfl (Tk.on rfl (by kernel_rfl)) 11 _ _ rfl #[.agg #[.int .u16 ((n16 su : Nat) : Int), .slice P4 se.length c4, .string (str ho), .string (str pr), .int .u64 ((n64 ma : Nat) : Int), .int .u32 ((n32 li : Nat) : Int), .int .u32 ((n32 ad : Nat) : Int)]] (by simp [Act.eval]) (Tk.enter_may _) ?_
  refine (hmay P4 c4 W).mono ?_
  rintro e W5 ⟨rfl, hE⟩
  refine ⟨_, rfl, Next.mk (fun W => Tk.G w W w.heap.size RA Rc #[.int .u16 ((n16 su : Nat) : Int), .slice P4 se.length c4, .string (str ho), .string (str pr), .int .u64 ((n64 ma : Nat) : Int), .int .u32 ((n32 li : Nat) : Int), .int .u32 ((n32 ad : Nat) : Int)] (.slice P4 se.length c4) se) (fun _ => True) (fun _ h => h) (hW.next hE) trivial ?_⟩
  clear hE hW
  simp only [Act.put, List.getElem_toArray, List.getElem_cons_succ, List.getElem_cons_zero, List.setIfInBounds_toArray, List.set_cons_zero, List.set_cons_succ]
  refine p_take 17 (o := _) rfl (by kernel_rfl) (by kernel_rfl) (by kernel_rfl) (wanted_plain rfl) (.bool true) (fun _ _ _ h => h) (fun W hW => run_pick (by rfl) (b := true) (by simp [Act.eval]) (by simp [Act.eval]) W) ?_
  simp only [Act.put, List.getElem_toArray, List.getElem_cons_succ, List.getElem_cons_zero, List.setIfInBounds_toArray, List.set_cons_zero, List.set_cons_succ]
  refine p_one 18 (by kernel_rfl) (fun W hW _ => ?_)
  have hst := hW.stored #[.int .u16 ((n16 su : Nat) : Int), .slice P4 se.length c4, .string (str ho), .string (str pr), .int .u64 ((n64 ma : Nat) : Int), .int .u32 ((n32 li : Nat) : Int), .int .u32 ((n32 ad : Nat) : Int)] rfl
  obtain ⟨d0, hd0, hd1⟩ := hW.res
  refine op_skip (o := _) rfl (wanted_plain rfl) _ (Tk.stA (ds := #[.int .u16 ((n16 su : Nat) : Int), .slice P4 se.length c4, .string (str ho), .string (str pr), .int .u64 ((n64 ma : Nat) : Int), .int .u32 ((n32 li : Nat) : Int), .int .u32 ((n32 ad : Nat) : Int)]) (by rfl) (by simp [Act.eval]) (by simp [Act.eval]) hd0 (by kernel_rfl) hd1 (by simp [Value.oneCell'])) ?_
  refine Next.mk (fun W => Tk.G w W w.heap.size RA Rc #[.int .u16 ((n16 su : Nat) : Int), .slice P4 se.length c4, .string (str ho), .string (str pr), .int .u64 ((n64 ma : Nat) : Int), .int .u32 ((n32 li : Nat) : Int), .int .u32 ((n32 ad : Nat) : Int)] (.slice P4 se.length c4) se ∧ Blk W w.heap.size 34 #[.int .u16 ((n16 su : Nat) : Int), .slice P4 se.length c4, .string (str ho), .string (str pr), .int .u64 ((n64 ma : Nat) : Int), .int .u32 ((n32 li : Nat) : Int), .int .u32 ((n32 ad : Nat) : Int)]) (fun _ => True) (fun _ h => h.1) hst trivial ?_
  clear hst hd0 hd1 hW
  simp only [Act.put, List.getElem_toArray, List.getElem_cons_succ, List.getElem_cons_zero, List.setIfInBounds_toArray, List.set_cons_zero, List.set_cons_succ]
  refine p_take 19 (o := _) rfl (by kernel_rfl) (by kernel_rfl) (by kernel_rfl) (wanted_plain rfl) (.bool true) (fun _ _ _ h => h) (fun W hW => run_assign (by rfl) (by simp [Act.eval]) W) ?_
  simp only [Act.put, List.getElem_toArray, List.getElem_cons_succ, List.getElem_cons_zero, List.setIfInBounds_toArray, List.set_cons_zero, List.set_cons_succ]
  refine (show ∀ z0, wpAnyV _ _ _ _ _ _ z0 _ _ _ from fun z0 => p_done (by kernel_rfl) (fun W7 H => ?_) z0) _
  obtain ⟨HG, HR⟩ := H
  go_wp2
  try rw [Exit.noGoto_ret]
  refine Tk.ret2 rfl _ rfl _ rfl Tk.ses_agg _ rfl HR rfl ?_
  exact ⟨P4, c4, rfl, HG.own.low (by omega), HG.below⟩
end Go.Proofs.YthigbggacgiamaaDoor
