/-
  The program's transcripts: NewTranscript, Add, With, Sum, Retry.
-/
import Derived.Test.YtkacibgbpeeflaaDoorLawA
import Derived.Deep.DeepCutAuto
set_option linter.unusedVariables false
set_option linter.unusedSimpArgs false
namespace Go.Proofs.YtkacibgbpeeflaaDoor
open Go.RowKit
/-- All blocks of w but those of Hot are as they were. -/
structure Off (Hot : Nat → Prop) (w w' : World) : Prop where
  os : w'.os = w.os
  tape : w'.tape = w.tape
  output : w'.output = w.output
  size : w.heap.size ≤ w'.heap.size
  block : ∀ k, k < w.heap.size → ¬ Hot k → w'.heap[k]? = w.heap[k]?
section
variable {Hot : Nat → Prop} {w w' w2 : World}
theorem Off.refl (w : World) : Off Hot w w := ⟨rfl, rfl, rfl, Nat.le_refl _, fun _ _ _ => rfl⟩
theorem Off.trans (h : Off Hot w w') (h' : Off Hot w' w2) : Off Hot w w2 :=
  ⟨h'.os.trans h.os, h'.tape.trans h.tape, h'.output.trans h.output, Nat.le_trans h.size h'.size, fun k hk hn => (h'.block k (Nat.lt_of_lt_of_le hk h.size) hn).trans (h.block k hk hn)⟩
theorem Off.new {Hot' : Nat → Prop} (h : Off Hot w w') (h' : Off Hot' w' w2) (hn : ∀ b, Hot' b → w.heap.size ≤ b) : Off Hot w w2 :=
  ⟨h'.os.trans h.os, h'.tape.trans h.tape, h'.output.trans h.output, Nat.le_trans h.size h'.size, fun k hk hk2 => (h'.block k (Nat.lt_of_lt_of_le hk h.size) (fun e => by have := hn k e; omega)).trans (h.block k hk hk2)⟩
theorem Off.of_below (h : Below w.heap.size w w') : Off Hot w w' := ⟨h.os, h.tape, h.output, h.size, fun k hk _ => h.block k hk⟩
theorem Off.of_grown {row : Option Nat} (h : w.grownBy w' row) (hr : ∀ k, row = some k → Hot k) : Off Hot w w' :=
  ⟨h.os, h.tape, h.output, h.size, fun k hk hn => h.block k hk (fun e => hn (hr k e.symm))⟩
theorem Off.wider {Hot' : Nat → Prop} (h : Off Hot w w') (hh : ∀ k, Hot k → Hot' k) : Off Hot' w w' := ⟨h.os, h.tape, h.output, h.size, fun k hk hn => h.block k hk (fun e => hn (hh k e))⟩
theorem Off.below {B : Nat} (h : Off Hot w w') (hB : B ≤ w.heap.size) (hh : ∀ k, Hot k → B ≤ k) : Below B w w' :=
  ⟨h.os, h.tape, h.output, h.size, fun k hk => h.block k (Nat.lt_of_lt_of_le hk hB) (fun e => by have := hh k e; omega)⟩
theorem Off.blk {g : Nat} {t : TypeId} {cs : Array Value} (h : Off Hot w w') (hb : Blk w g t cs) (hg : ¬ Hot g) : Blk w' g t cs := ⟨(h.block g hb.lt hg).trans hb.is⟩
theorem Off.reads {A : Option Addr} {n : Nat} {l : List UInt8} (h : Off Hot w w') (hr : ReadsB w w.heap.size A n l) (hn : 0 < n → ∀ ad, A = some ad → ¬ Hot ad.block) : ReadsB w' w'.heap.size A n l :=
  ⟨hr.len, hr.is.1, fun h0 => by
    obtain ⟨ad, e, hb, hc⟩ := hr.is.2 h0
    exact ⟨ad, e, Nat.lt_of_lt_of_le hb h.size, fun j u hu => by rw [← hc j u hu]; exact World.cell?_of_block (h.block _ (by rw [block_of_add]; exact hb) (by rw [block_of_add]; exact hn h0 ad e))⟩⟩
theorem Off.tabs (h : Off Hot w w') (ht : Tabs w) (h0 : ¬ Hot 0) (h1 : ¬ Hot 1) : Tabs w' := ⟨h.blk ht.1 h0, h.blk ht.2 h1⟩
end
/-- A transcript in block t: three digests that have taken in l; what waits in them lies where Zp holds. -/
structure Trans (w : World) (t g1 g2 g3 : Nat) (Zp : Nat → Prop) (l : List UInt8) : Prop where
  box : Blk w t 54 #[.pointer (some ⟨g1, 0, none⟩), .pointer (some ⟨g2, 0, none⟩), .pointer (some ⟨g3, 0, none⟩)]
  d1 : DigZ w w.heap.size g1 Zp 1 l
  d2 : DigZ w w.heap.size g2 Zp 2 l
  d3 : DigZ w w.heap.size g3 Zp 3 l
/-- Four blocks, one like no other. -/
structure Four (t g1 g2 g3 : Nat) : Prop where
  t1 : t ≠ g1
  t2 : t ≠ g2
  t3 : t ≠ g3
  g12 : g1 ≠ g2
  g13 : g1 ≠ g3
  g23 : g2 ≠ g3
theorem Trans.below {w w' : World} {t g1 g2 g3 : Nat} {Zp : Nat → Prop} {l : List UInt8} (h : Trans w t g1 g2 g3 Zp l) (hb : Below w.heap.size w w') : Trans w' t g1 g2 g3 Zp l :=
  ⟨h.box.below hb h.box.lt, h.d1.below hb, h.d2.below hb, h.d3.below hb⟩
theorem Trans.mono {w : World} {t g1 g2 g3 : Nat} {Zp Zq : Nat → Prop} {l : List UInt8} (h : Trans w t g1 g2 g3 Zp l) (hz : ∀ b, Zp b → Zq b) : Trans w t g1 g2 g3 Zq l :=
  ⟨h.box, h.d1.mono hz, h.d2.mono hz, h.d3.mono hz⟩
theorem Trans.newer {w : World} {t g1 g2 g3 : Nat} {Zp : Nat → Prop} {l : List UInt8} (h : Trans w t g1 g2 g3 Zp l) (x : Nat) (hx : w.heap.size ≤ x) : Trans w t g1 g2 g3 (fun b => Zp b ∧ b ≠ x) l :=
  ⟨h.box, h.d1.newer x hx, h.d2.newer x hx, h.d3.newer x hx⟩
/-- A write into another block. -/
theorem Trans.grown {w w' : World} {t g1 g2 g3 z : Nat} {Zp : Nat → Prop} {l : List UInt8} (h : Trans w t g1 g2 g3 Zp l) (hg : w.grownBy w' (some z)) (ht : z ≠ t) (h1 : z ≠ g1) (h2 : z ≠ g2) (h3 : z ≠ g3) (hz : ∀ b, Zp b → b ≠ z) : Trans w' t g1 g2 g3 Zp l :=
  ⟨h.box.grown hg (fun e => by injection e with e; exact ht e.symm), h.d1.grown hg h1 hz, h.d2.grown hg h2 hz, h.d3.grown hg h3 hz⟩
theorem aggDs : AggT Tryd.prog 52 3 := ⟨by kernel_rfl, by kernel_rfl⟩
theorem aggTr : AggT Tryd.prog 54 3 := ⟨by kernel_rfl, by kernel_rfl⟩
set_option maxHeartbeats 4000000 in
set_option maxRecDepth 100000 in
theorem newTr_any (w : World) : Calls Tryd.prog 11 #[] w fun e w' => ∃ t g1 g2 g3, e = .returned (.pointer (some ⟨t, 0, none⟩)) ∧ Four t g1 g2 g3 ∧ w.heap.size ≤ t ∧ w.heap.size ≤ g1 ∧ w.heap.size ≤ g2 ∧ w.heap.size ≤ g3 ∧ (∀ Zp, Trans w' t g1 g2 g3 Zp []) ∧ Below w.heap.size w w' := by
  go_enter Tryd.func11, Tryd.ntmps11
  go_wp2_with (first | (go_at_call 34; refine (new_z 3 (.inr (.inr rfl)) w2).mono ?_; rintro e w3 ⟨g3, rfl, eg3, d3, hB3⟩; have Eg3 := hd eg3; clear eg3) | (go_at_call 34; refine (new_z 2 (.inr (.inl rfl)) w1).mono ?_; rintro e w2 ⟨g2, rfl, eg2, d2, hB2⟩; have Eg2 := hd eg2; clear eg2) | (go_at_call 34; refine (new_z 1 (.inl rfl) w).mono ?_; rintro e w1 ⟨g1, rfl, eg1, d1, hB1⟩; have Eg1 := hd eg1; clear eg1))
  go_ret
  have hB12 := hB1.trans (hB2.mono hB1.size)
  have hB123 := hB12.trans (hB3.mono hB12.size)
  have hl1 := (d1 (fun _ => True)).lt
  have hl2 := (d2 (fun _ => True)).lt
  have hl3 := (d3 (fun _ => True)).lt
  have e1 := Eg1.out
  have e2 := Eg2.out
  have e3 := Eg3.out
  have s1 := hB1.size
  have s2 := hB2.size
  have s3 := hB3.size
  have hBa : Below w3.heap.size w3 (w3.alloc (.cells #[.pointer (some ⟨g1, 0, none⟩), .pointer (some ⟨g2, 0, none⟩), .pointer (some ⟨g3, 0, none⟩)] 54)) := (Below.refl _ _).alloc (Nat.le_refl _) _
  refine ⟨w3.heap.size, g1, g2, g3, rfl, ⟨by omega, by omega, by omega, by omega, by omega, by omega⟩, by omega, by omega, by omega, by omega, fun Zp => ⟨Blk.nu rfl, (((d1 Zp).below hB2).below hB3).below hBa, ((d2 Zp).below hB3).below hBa, (d3 Zp).below hBa⟩, hB123.alloc hB123.size _⟩
/-- How far the three have taken in what is added. -/
def soFar (l m : List UInt8) (i k : Nat) : List UInt8 := if i < k then l ++ m else l
def Hot3 (g1 g2 g3 : Nat) : Nat → Prop := fun b => b = g1 ∨ b = g2 ∨ b = g3
theorem Hot3.away {g1 g2 g3 b : Nat} (h1 : b ≠ g1) (h2 : b ≠ g2) (h3 : b ≠ g3) : ¬ Hot3 g1 g2 g3 b := fun h => by rcases h with h | h | h <;> contradiction
/-- What one write does. -/
theorem Off.write {g1 g2 g3 g : Nat} {w w1 w2 : World} (h : Off (Hot3 g1 g2 g3) w w1) (hg : w1.grownBy w2 (some g)) (hh : Hot3 g1 g2 g3 g) : Off (Hot3 g1 g2 g3) w w2 :=
  h.trans (Off.of_grown hg (fun k e => by injection e with e; exact e ▸ hh))
set_option maxHeartbeats 4000000 in
set_option maxRecDepth 100000 in
theorem add_any (t g1 g2 g3 : Nat) (Zp : Nat → Prop) (l : List UInt8) (D : Option Addr) (n d : Nat) (msg : List UInt8) (w : World) (hf : Four t g1 g2 g3) (ht : Trans w t g1 g2 g3 Zp l) (hZ : ∀ b, w.heap.size ≤ b → Zp b) (hZg : ∀ b, Zp b → b ≠ g1 ∧ b ≠ g2 ∧ b ≠ g3)
    (hr : ReadsB w w.heap.size D n msg) (hn : n ≤ 140737488355000) (hne : 0 < n → ∀ ad, D = some ad → ad.block ≠ g1 ∧ ad.block ≠ g2 ∧ ad.block ≠ g3) (htb : Tabs w) (h0 : 2 ≤ g1 ∧ 2 ≤ g2 ∧ 2 ≤ g3) :
    Calls Tryd.prog 12 #[.pointer (some ⟨t, 0, none⟩), .slice D n d] w fun e w' => e = .returned (.tuple #[]) ∧ Trans w' t g1 g2 g3 Zp (l ++ msg) ∧ Off (Hot3 g1 g2 g3) w w' := by
  have hcs : Cells w ⟨t, 0, none⟩ [.pointer (some ⟨g1, 0, none⟩), .pointer (some ⟨g2, 0, none⟩), .pointer (some ⟨g3, 0, none⟩)] := ht.box.cells
  have HT := hd ht
  have HF := hd hf
  have HZ := hd hZ
  have HZg := hd hZg
  have HNe := hd hne
  clear ht hf hZ hZg hne
  go_enter Tryd.func12, Tryd.ntmps12
  go_wp2_with (first | (refine wpl_load rfl 52 _ rfl ⟨t, 0, none⟩ rfl 3 aggDs [.pointer (some ⟨g1, 0, none⟩), .pointer (some ⟨g2, 0, none⟩), .pointer (some ⟨g3, 0, none⟩)] rfl hcs ?_))
  clear hcs
  go_loopw [5, 10] (fun _ i wr => ∃ k : Nat, k ≤ 3 ∧ i = .int .i64 (k : Int) ∧ Off (Hot3 g1 g2 g3) w wr ∧ DigZ wr wr.heap.size g1 Zp 1 (soFar l msg 0 k) ∧ DigZ wr wr.heap.size g2 Zp 2 (soFar l msg 1 k) ∧ DigZ wr wr.heap.size g3 Zp 3 (soFar l msg 2 k)) (fun _ i _ => (3 - intOf i).toNat)
  case atStart => exact ⟨0, by omega, rfl, Off.refl _, HT.out.d1, HT.out.d2, HT.out.d3⟩
  case round =>
    obtain ⟨k, hk, rfl, hO, d1, d2, d3⟩ := hrel
    have HR := hd (hO.reads hr (fun h0 ad e => Hot3.away (HNe.out h0 ad e).1 (HNe.out h0 ad e).2.1 (HNe.out h0 ad e).2.2))
    have HTb := hd (hO.tabs htb (Hot3.away (by omega) (by omega) (by omega)) (Hot3.away (by omega) (by omega) (by omega)))
    have HZr := hd (fun b (hb : wr.heap.size ≤ b) => HZ.out b (Nat.le_trans hO.size hb))
    have D1 := hd d1
    have D2 := hd d2
    have D3 := hd d3
    have HO := hd hO
    clear hO d1 d2 d3 hr
    rcases (show k = 0 ∨ k = 1 ∨ k = 2 ∨ k = 3 by omega) with rfl | rfl | rfl | rfl
    · have i0 : ∀ w, (Instr.index 52 (.agg #[.pointer (some ⟨g1, 0, none⟩), .pointer (some ⟨g2, 0, none⟩), .pointer (some ⟨g3, 0, none⟩)]) (.int .i64 0)).run Tryd.prog w = .ok (.pointer (some ⟨g1, 0, none⟩)) w := fun _ => by kernel_rfl
      go_wp2_with (first | (go_at_call 35; refine (write_z g1 Zp 1 (.inl rfl) l D n d msg wr HZr.out D1.out HTb.out HR.out (fun h0 ad e => (HNe.out h0 ad e).1) hn).mono ?_; rintro e w2 ⟨rfl, d1', hg2⟩))
      go_roundw
      case rel => exact ⟨1, by omega, rfl, HO.out.write hg2 (.inl rfl), d1', D2.out.grown hg2 HF.out.g12 (fun b hb => (HZg.out b hb).1), D3.out.grown hg2 HF.out.g13 (fun b hb => (HZg.out b hb).1)⟩
      case measure => simp [intOf]
    · have i0 : ∀ w, (Instr.index 52 (.agg #[.pointer (some ⟨g1, 0, none⟩), .pointer (some ⟨g2, 0, none⟩), .pointer (some ⟨g3, 0, none⟩)]) (.int .i64 1)).run Tryd.prog w = .ok (.pointer (some ⟨g2, 0, none⟩)) w := fun _ => by kernel_rfl
      go_wp2_with (first | (go_at_call 35; refine (write_z g2 Zp 2 (.inr (.inl rfl)) l D n d msg wr HZr.out D2.out HTb.out HR.out (fun h0 ad e => (HNe.out h0 ad e).2.1) hn).mono ?_; rintro e w2 ⟨rfl, d2', hg2⟩))
      go_roundw
      case rel => exact ⟨2, by omega, rfl, HO.out.write hg2 (.inr (.inl rfl)), D1.out.grown hg2 HF.out.g12.symm (fun b hb => (HZg.out b hb).2.1), d2', D3.out.grown hg2 HF.out.g23 (fun b hb => (HZg.out b hb).2.1)⟩
      case measure => simp [intOf]
    · have i0 : ∀ w, (Instr.index 52 (.agg #[.pointer (some ⟨g1, 0, none⟩), .pointer (some ⟨g2, 0, none⟩), .pointer (some ⟨g3, 0, none⟩)]) (.int .i64 2)).run Tryd.prog w = .ok (.pointer (some ⟨g3, 0, none⟩)) w := fun _ => by kernel_rfl
      go_wp2_with (first | (go_at_call 35; refine (write_z g3 Zp 3 (.inr (.inr rfl)) l D n d msg wr HZr.out D3.out HTb.out HR.out (fun h0 ad e => (HNe.out h0 ad e).2.2) hn).mono ?_; rintro e w2 ⟨rfl, d3', hg2⟩))
      go_roundw
      case rel => exact ⟨3, by omega, rfl, HO.out.write hg2 (.inr (.inr rfl)), D1.out.grown hg2 HF.out.g13.symm (fun b hb => (HZg.out b hb).2.2), D2.out.grown hg2 HF.out.g23.symm (fun b hb => (HZg.out b hb).2.2), d3'⟩
      case measure => simp [intOf]
    · go_wp2
      go_end0
      exact ⟨rfl, ⟨HO.out.blk HT.out.box (Hot3.away HF.out.t1 HF.out.t2 HF.out.t3), D1.out, D2.out, D3.out⟩, HO.out⟩
/-- The digest of a hash. -/
def digOf (h : Int) (g1 g2 g3 : Nat) : Nat := if h = 1 then g1 else if h = 2 then g2 else g3
theorem Trans.dig {w : World} {t g1 g2 g3 : Nat} {Zp : Nat → Prop} {l : List UInt8} (h : Trans w t g1 g2 g3 Zp l) {k : Int} (hk : k = 1 ∨ k = 2 ∨ k = 3) : DigAt w w.heap.size (digOf k g1 g2 g3) k l := by
  rcases hk with rfl | rfl | rfl
  · exact h.d1.at_
  · exact h.d2.at_
  · exact h.d3.at_
theorem size_val (h : Int) (n : Nat) (e : Sha.size h = n) (w : World) : Calls Tryd.prog 20 #[.int .i64 h] w fun e w' => e = .returned (.int .i64 (n : Int)) ∧ w = w' := by
  subst e; exact size_any h w
theorem at_some (h : Int) (hh : h = 1 ∨ h = 2 ∨ h = 3) (t g1 g2 g3 : Nat) (w : World) (hb : Blk w t 54 #[.pointer (some ⟨g1, 0, none⟩), .pointer (some ⟨g2, 0, none⟩), .pointer (some ⟨g3, 0, none⟩)]) :
    Calls Tryd.prog 36 #[.pointer (some ⟨t, 0, none⟩), .int .i64 h] w fun e w' => e = .returned (.pointer (some ⟨digOf h g1 g2 g3, 0, none⟩)) ∧ w = w' := by
  have c0 : w.cell? ⟨t, 0, none⟩ = some (.pointer (some ⟨g1, 0, none⟩)) := hb.cell 0
  have c1 : w.cell? ⟨t, 1, none⟩ = some (.pointer (some ⟨g2, 0, none⟩)) := hb.cell 1
  have c2 : w.cell? ⟨t, 2, none⟩ = some (.pointer (some ⟨g3, 0, none⟩)) := hb.cell 2
  rcases hh with rfl | rfl | rfl
  · have tok := trivial
    go_enter Tryd.func36, Tryd.ntmps36
    go_wp2_with (first | (go_at_call 20; refine (size_val 1 32 rfl w).mono ?_; rintro e w' ⟨rfl, rfl⟩))
    go_ret
    exact ⟨rfl, rfl⟩
  · have tok := trivial
    go_enter Tryd.func36, Tryd.ntmps36
    go_wp2_with (first | (go_at_call 20; refine (size_val 2 48 rfl w).mono ?_; rintro e w' ⟨rfl, rfl⟩))
    go_ret
    exact ⟨rfl, rfl⟩
  · have tok := trivial
    go_enter Tryd.func36, Tryd.ntmps36
    go_wp2_with (first | (go_at_call 20; refine (size_val 3 64 rfl w).mono ?_; rintro e w' ⟨rfl, rfl⟩))
    go_ret
    exact ⟨rfl, rfl⟩
theorem at_none (h : Int) (hh : ¬ (h = 1 ∨ h = 2 ∨ h = 3)) (v : Value) (w : World) :
    Calls Tryd.prog 36 #[v, .int .i64 h] w fun e w' => e = .returned (.pointer none) ∧ w = w' := by
  have hz : Sha.size h = 0 := by
    unfold Sha.size
    rw [if_neg (fun e => hh (.inl e)), if_neg (fun e => hh (.inr (.inl e))), if_neg (fun e => hh (.inr (.inr e)))]
  have Hz := hd hz
  clear hz hh
  go_enter Tryd.func36, Tryd.ntmps36
  go_wp2_with (first | (go_at_call 20; refine (size_val h 0 Hz.out w).mono ?_; rintro e w' ⟨rfl, rfl⟩))
  go_ret
  exact ⟨rfl, rfl⟩
theorem enter_with (args : Array Value) (w : World) : (callFunc 16 args).run Tryd.prog w = .ok (.enter 16 args) w := by kernel_rfl
theorem enter_sum (args : Array Value) (w : World) : (callFunc 18 args).run Tryd.prog w = .ok (.enter 18 args) w := by kernel_rfl
set_option maxHeartbeats 4000000 in
set_option maxRecDepth 100000 in
theorem with_any (h : Int) (t g1 g2 g3 : Nat) (Zp : Nat → Prop) (l : List UInt8) (D : Option Addr) (n d : Nat) (msg : List UInt8) (w : World) (ht : Trans w t g1 g2 g3 Zp l) (hr : ReadsB w w.heap.size D n msg) (hn : n ≤ 140737488355000) (htb : Tabs w) :
    Calls Tryd.prog 16 #[.pointer (some ⟨t, 0, none⟩), .int .i64 h, .slice D n d] w fun e w' => ∃ v, e = .returned v ∧ OwnB w' w.heap.size v (Sha.sum h (l ++ msg)) ∧ Below w.heap.size w w' := by
  have HT := hd ht
  clear ht
  by_cases hh : h = 1 ∨ h = 2 ∨ h = 3
  · have HH := hd hh
    clear hh
    obtain ⟨g, Hg⟩ : ∃ x, Hd (digOf h g1 g2 g3 = x) := ⟨_, ⟨rfl⟩⟩
    have HD := hd (show DigAt w w.heap.size g h l by rw [← Hg.out]; exact HT.out.dig HH.out)
    go_enter Tryd.func16, Tryd.ntmps16
    go_wp2_with (first | (go_at_call 37; refine (sum_at w.heap.size h HH.out (l ++ msg) w2 hd2 (htb.below HB2.out)).mono ?_; rintro e w3 ⟨v, rfl, own, hB3⟩) | (go_at_call 35; refine (write_at w.heap.size h HH.out l D n d msg w1 hd1 (htb.below hB1) ⟨hr.len, (hr.is.below hB1).more hB1.size⟩ (fun h0 ad e => by obtain ⟨a2, e2, hb2, _⟩ := hr.is.2 h0; rw [e2] at e; injection e with e; subst e; omega) hn).mono ?_; rintro e w2 ⟨rfl, hd2, hg2⟩; have HB2 := hd (hB1.grown hg2 hB1.size (fun k hk => by injection hk; omega))) | (go_at_call 39; refine (clone_at g h l w HD.out).mono ?_; rintro e w1 ⟨rfl, hd1, hB1⟩) | (go_at_call 36; refine (at_some h HH.out t g1 g2 g3 w HT.out.box).mono ?_; rw [Hg.out]; rintro e w' ⟨rfl, rfl⟩))
    go_ret
    exact ⟨_, rfl, own.low HB2.out.size, HB2.out.trans (hB3.mono HB2.out.size)⟩
  · have hs : Sha.sum h (l ++ msg) = [] := Sha.sum_none (fun e => hh (.inl e)) (fun e => hh (.inr (.inl e))) (fun e => hh (.inr (.inr e))) _
    rw [hs]
    clear hs
    have HN := hd hh
    clear hh
    go_enter Tryd.func16, Tryd.ntmps16
    go_wp2_with (first | (go_at_call 36; refine (at_none h HN.out _ w).mono ?_; rintro e w' ⟨rfl, rfl⟩))
    go_ret
    exact ⟨_, rfl, OwnB.nil _ _, Below.refl _ _⟩
theorem tsum_any (h : Int) (t g1 g2 g3 : Nat) (Zp : Nat → Prop) (l : List UInt8) (w : World) (ht : Trans w t g1 g2 g3 Zp l) (htb : Tabs w) :
    Calls Tryd.prog 18 #[.pointer (some ⟨t, 0, none⟩), .int .i64 h] w fun e w' => ∃ v, e = .returned v ∧ OwnB w' w.heap.size v (Sha.sum h l) ∧ Below w.heap.size w w' := by
  have HT := hd ht
  clear ht
  obtain ⟨S, HS⟩ : ∃ x, Hd (Sha.sum h l = x) := ⟨_, ⟨rfl⟩⟩
  rw [HS.out]
  go_enter Tryd.func18, Tryd.ntmps18
  go_wp2_with (first | (go_at_call 16; refine (with_any h t g1 g2 g3 Zp l none 0 0 [] w HT.out ⟨rfl, Reads.none_⟩ (by omega) htb).mono ?_; rintro e w1 ⟨v, rfl, own, hB1⟩; rw [List.append_nil, HS.out] at own))
  go_ret
  exact ⟨_, rfl, own, hB1⟩
/-- Where what waits in the digests may lie. -/
def Away (g1 g2 g3 u : Nat) : Nat → Prop := fun b => b ≠ g1 ∧ b ≠ g2 ∧ b ≠ g3 ∧ b ≠ u
theorem lits3 (w : World) : OwnB (w.alloc (.cells #[.int .u8 254, .int .u8 0, .int .u8 0] 5)) w.heap.size (.slice (some ⟨w.heap.size, 0, none⟩) 3 3) [254, 0, 0] :=
  ⟨rfl, .inr ⟨w.heap.size, 3, _, rfl, Nat.le_refl _, heap_alloc_new _ _, Nat.le_refl _, by unfold maxLen; omega, rfl, rfl⟩⟩
set_option maxHeartbeats 4000000 in
set_option maxRecDepth 100000 in
theorem retry_some (h : Int) (hh : h = 1 ∨ h = 2 ∨ h = 3) (u t g1 g2 g3 : Nat) (Zp : Nat → Prop) (l : List UInt8) (w : World) (ht : Trans w t g1 g2 g3 Zp l) (htb : Tabs w) (h2 : 2 ≤ t) (hu : u < w.heap.size) :
    Calls Tryd.prog 14 #[.pointer (some ⟨t, 0, none⟩), .int .i64 h] w fun e w' => e = .returned (.tuple #[]) ∧ ∃ k1 k2 k3, Four t k1 k2 k3 ∧ w.heap.size ≤ k1 ∧ w.heap.size ≤ k2 ∧ w.heap.size ≤ k3 ∧ Trans w' t k1 k2 k3 (Away k1 k2 k3 u) ([254, 0, 0] ++ Sched.count (Sha.sum h l)) ∧ Off (fun b => b = t) w w' := by
  have HT := hd ht
  have HH := hd hh
  have htl := ht.box.lt
  clear ht hh
  obtain ⟨g, Hg⟩ : ∃ x, Hd (digOf h g1 g2 g3 = x) := ⟨_, ⟨rfl⟩⟩
  have HD := hd (show DigAt w w.heap.size g h l by rw [← Hg.out]; exact HT.out.dig HH.out)
  obtain ⟨S, HS⟩ : ∃ x, Hd (Sha.sum h l = x) := ⟨_, ⟨rfl⟩⟩
  have HSl := hd (show S.length ≤ 64 by rw [← HS.out, Sha.sum_len]; exact Mac.size_le h)
  rw [HS.out]
  go_enter Tryd.func14, Tryd.ntmps14
  go_upto_region 3 with (first | (go_at_call 37; refine (sum_at g h HH.out l w HD.out htb).mono ?_; rintro e w1 ⟨v1, rfl, own1, hB1⟩; rw [HS.out] at own1; obtain ⟨A1, c1, e1⟩ := own1.slice; obtain ⟨n1, Hn1⟩ : ∃ x, Hd (List.length S = x) := ⟨_, ⟨rfl⟩⟩; rw [Hn1.out] at e1; subst e1) | (go_at_call 36; refine (at_some h HH.out t g1 g2 g3 w HT.out.box).mono ?_; rw [Hg.out]; rintro e w' ⟨rfl, rfl⟩))
  have hB1s := hB1.size
  have ht1 : t < w1.heap.size := by omega
  have hT1 := hd (show Blk w1 t 54 _ from HT.out.box.below hB1 htl)
  have HB1 := hd hB1
  have HN1 := hd Hn1.out
  have own1h := hd own1
  clear own1 hB1
  go_upto_region 4 with (first | (refine wpl_store rfl 54 _ _ rfl t 0 [.pointer (some ⟨k1, 0, none⟩), .pointer (some ⟨k2, 0, none⟩), .pointer (some ⟨k3, 0, none⟩)] rfl rfl 54 _ HT1.out (by kernel_rfl) (Nat.le_refl 3) (by simp [Value.oneCell']) ?_; refine wpl_name (fun wo => wo = w2.setRow t #[.pointer (some ⟨k1, 0, none⟩), .pointer (some ⟨k2, 0, none⟩), .pointer (some ⟨k3, 0, none⟩)]) (by rw [splice_all _ _ (by rfl)]) ?_; clear hcs2; intro w3 hw3; have HW3 := hd hw3; clear hw3) | (refine wpl_load rfl 54 _ rfl ⟨t2, 0, none⟩ rfl 3 aggTr [.pointer (some ⟨k1, 0, none⟩), .pointer (some ⟨k2, 0, none⟩), .pointer (some ⟨k3, 0, none⟩)] rfl hcs2 ?_) | (go_at_call 11; refine (newTr_any w1).mono ?_; rintro e w2 ⟨t2, k1, k2, k3, rfl, F2, ht2, hk1, hk2, hk3, T2, hB2⟩; have hT2 := hd T2; clear T2; have HT1 := hd (hT1.out.below hB2 ht1); have hcs2 : Cells w2 ⟨t2, 0, none⟩ [.pointer (some ⟨k1, 0, none⟩), .pointer (some ⟨k2, 0, none⟩), .pointer (some ⟨k3, 0, none⟩)] := (hT2.out (fun _ => True)).box.cells))
  have hgT : w2.grownBy w3 (some t) := by rw [HW3.out]; exact grew_setRow (World.grownBy.refl w2 (some t)) _
  have hb3 : Blk w3 t 54 #[.pointer (some ⟨k1, 0, none⟩), .pointer (some ⟨k2, 0, none⟩), .pointer (some ⟨k3, 0, none⟩)] := by rw [HW3.out]; exact HT1.out.setRow _
  have hl1 := (hT2.out (fun _ => True)).d1.lt
  have hl2 := (hT2.out (fun _ => True)).d2.lt
  have hl3 := (hT2.out (fun _ => True)).d3.lt
  have hB2s := hB2.size
  have hg3s := hgT.size
  have hF : Four t k1 k2 k3 := ⟨by omega, by omega, by omega, F2.g12, F2.g13, F2.g23⟩
  have hd1 := ((hT2.out (fun b => Away k1 k2 k3 u b ∧ b ≠ t)).d1.grown hgT (by omega) (fun b hb => hb.2)).mono (fun b hb => hb.1)
  have hd2 := ((hT2.out (fun b => Away k1 k2 k3 u b ∧ b ≠ t)).d2.grown hgT (by omega) (fun b hb => hb.2)).mono (fun b hb => hb.1)
  have hd3 := ((hT2.out (fun b => Away k1 k2 k3 u b ∧ b ≠ t)).d3.grown hgT (by omega) (fun b hb => hb.2)).mono (fun b hb => hb.1)
  have HT3 := hd (show Trans w3 t k1 k2 k3 (Away k1 k2 k3 u) [] from ⟨hb3, hd1, hd2, hd3⟩)
  have HO3 := hd (show Off (fun b => b = t) w w3 from ((Off.of_below HB1.out).trans (Off.of_below hB2)).trans (Off.of_grown hgT (fun k e => by injection e with e; exact e.symm)))
  have HTb3 := hd (HO3.out.tabs htb (by omega) (by omega))
  have HA1 := hd (show 0 < n1 → ∀ ad, A1 = some ad → w.heap.size ≤ ad.block ∧ ad.block < w1.heap.size from fun h0 ad e => by
    obtain ⟨g', cap, ef, h3, h4, _⟩ := own1h.out.form (by rw [HN1.out]; exact h0)
    injection ef with ef _ _
    rw [e] at ef
    injection ef with ef
    rw [ef]
    exact ⟨h3, h4⟩)
  have r1 : ReadsB w1 w1.heap.size A1 n1 S := ⟨HN1.out, own1h.out.reads_any.2.is⟩
  have r2 : ReadsB w2 w2.heap.size A1 n1 S := ⟨r1.len, (r1.is.below hB2).more hB2.size⟩
  have HR3 := hd (show ReadsB w3 w3.heap.size A1 n1 S from (Off.of_grown (Hot := fun b => b = t) hgT (fun k e => by injection e with e; exact e.symm)).reads r2 (fun h0 ad e => by have := HA1.out h0 ad e; omega))
  have HF := hd hF
  have HK := hd (show 2 ≤ k1 ∧ 2 ≤ k2 ∧ 2 ≤ k3 by omega)
  have hu3 : u < w3.heap.size := by omega
  have k13 : k1 < w3.heap.size := by omega
  have k23 : k2 < w3.heap.size := by omega
  have k33 : k3 < w3.heap.size := by omega
  have HN1s := hd (show n1 ≤ 64 by rw [← HN1.out]; exact HSl.out)
  have HKs := hd (show w.heap.size ≤ k1 ∧ w.heap.size ≤ k2 ∧ w.heap.size ≤ k3 by omega)
  have HA13 := hd (show 0 < n1 → ∀ ad, A1 = some ad → ad.block < w3.heap.size from fun h0 ad e => by have := HA1.out h0 ad e; omega)
  clear hgT hb3 hl1 hl2 hl3 hB2 hF hd1 hd2 hd3 r1 r2 F2 hB2s hg3s
  have own4 := hd (lits3 w3)
  have hBa : Below w3.heap.size w3 (w3.alloc (.cells #[.int .u8 254, .int .u8 0, .int .u8 0] 5)) := (Below.refl _ _).alloc (Nat.le_refl _) _
  have r4 := hd (show ReadsB (w3.alloc (.cells #[.int .u8 254, .int .u8 0, .int .u8 0] 5)) (w3.alloc (.cells #[.int .u8 254, .int .u8 0, .int .u8 0] 5)).heap.size A1 n1 S from ⟨HR3.out.len, (HR3.out.is.below hBa).more hBa.size⟩)
  have HBa := hd hBa
  have HW4 := hd (hBa.size)
  have ne4 := hd (show 0 < n1 → ∀ ad, A1 = some ad → Value.ownBlock (.slice (some ⟨w3.heap.size, 0, none⟩) 3 3) ≠ some ad.block from fun h0 ad e e2 => by
    have h5 := HA13.out h0 ad e
    have h6 : w3.heap.size = ad.block := by injection e2
    omega)
  have l4 := hd (show [254, 0, 0].length + 1 + n1 ≤ 140737488355328 by have := HN1s.out; simp; omega)
  clear hBa
  obtain ⟨CS, HCS⟩ : ∃ x, Hd ([254, 0, 0] ++ Sched.count S = x) := ⟨_, ⟨rfl⟩⟩
  have HCl := hd (show CS.length = n1 + 4 by rw [← HCS.out, List.length_append, Sched.count_len, HN1.out]; simp; omega)
  go_wp2_with (first | (go_at_call 12; refine (add_any t k1 k2 k3 (Away k1 k2 k3 u) [] A6 (n1 + 4) c6 CS w5 HF.out HT5.out (fun b hb => ⟨by omega, by omega, by omega, by omega⟩) (fun b hb => ⟨hb.1, hb.2.1, hb.2.2.1⟩) HR6.out (by have := HN1s.out; omega) HA6.out HTb5.out HK.out).mono ?_; rintro e w6 ⟨rfl, HT6, HO6⟩) | (go_at_call 29; refine (counted_any w3.heap.size (.slice (some ⟨w3.heap.size, 0, none⟩) 3 3) [254, 0, 0] A1 n1 c1 S _ own4.out HW4.out r4.out ne4.out l4.out).mono ?_; rintro e w5 ⟨v5, rfl, own5, hB5⟩; rw [HCS.out] at own5; have hB35 := HBa.out.trans hB5; have hB5s := hB35.size; have HT5 := hd (HT3.out.below hB35); have HTb5 := hd (HTb3.out.below hB35); obtain ⟨A6, c6, e6⟩ := own5.slice; rw [HCl.out] at e6; subst e6; have HR6 := hd (show ReadsB w5 w5.heap.size A6 (n1 + 4) CS from ⟨HCl.out, own5.reads_any.2.is⟩); have HA6 := hd (show 0 < n1 + 4 → ∀ ad, A6 = some ad → ad.block ≠ k1 ∧ ad.block ≠ k2 ∧ ad.block ≠ k3 from fun h0 ad e => by obtain ⟨g', cap, ef, h3, _⟩ := own5.form (by rw [HCl.out]; exact h0); injection ef with ef _ _; rw [e] at ef; injection ef with ef; rw [ef]; exact ⟨by show g' ≠ k1; omega, by show g' ≠ k2; omega, by show g' ≠ k3; omega⟩); have HB35 := hd hB35; clear hB35 hB5 own5))
  go_end0
  refine ⟨rfl, k1, k2, k3, HF.out, HKs.out.1, HKs.out.2.1, HKs.out.2.2, by have h := HT6; rw [← HCS.out] at h; exact h, ?_⟩
  exact (HO3.out.trans (Off.of_below HB35.out)).new HO6 (fun b hb => by have h := HKs.out; rcases hb with h1 | h1 | h1 <;> omega)

end Go.Proofs.YtkacibgbpeeflaaDoor
