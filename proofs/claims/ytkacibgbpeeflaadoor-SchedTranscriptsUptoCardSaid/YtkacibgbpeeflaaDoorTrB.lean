/-
  The reference's transcripts: Add, With, Sum, Retry.
-/
import Derived.Test.YtkacibgbpeeflaaDoorTrA
import Derived.Test.YtkacibgbpeeflaaDoorSchR
set_option linter.unusedVariables false
set_option linter.unusedSimpArgs false
namespace Go.Proofs.YtkacibgbpeeflaaDoor
open Go.RowKit
/-- A transcript of the reference in block u: what was said, one text; where it lies Zq holds. -/
def Said (w : World) (u : Nat) (Zq : Nat → Prop) (l : List UInt8) : Prop :=
  ∃ A c, Blk w u 35 #[.slice A l.length c] ∧ ReadsB w w.heap.size A l.length l ∧ (0 < l.length → ∀ ad, A = some ad → Zq ad.block)
theorem Said.off {Hot Zq : Nat → Prop} {w w' : World} {u : Nat} {l : List UInt8} (h : Said w u Zq l) (ho : Off Hot w w') (hu : ¬ Hot u) (hz : ∀ b, Zq b → ¬ Hot b) : Said w' u Zq l := by
  obtain ⟨A, c, h1, h2, h3⟩ := h
  exact ⟨A, c, ho.blk h1 hu, ho.reads h2 (fun h0 ad e => hz _ (h3 h0 ad e)), h3⟩
theorem Said.below {Zq : Nat → Prop} {w w' : World} {u : Nat} {l : List UInt8} (h : Said w u Zq l) (hb : Below w.heap.size w w') : Said w' u Zq l :=
  h.off (Hot := fun _ => False) (Off.of_below hb) (fun h => h) (fun _ _ h => h)
theorem Said.mono {Zq Zr : Nat → Prop} {w : World} {u : Nat} {l : List UInt8} (h : Said w u Zq l) (hz : ∀ b, b < w.heap.size → Zq b → Zr b) : Said w u Zr l := by
  obtain ⟨A, c, h1, h2, h3⟩ := h
  exact ⟨A, c, h1, h2, fun h0 ad e => hz _ (by obtain ⟨a2, e2, hb2, _⟩ := h2.is.2 h0; rw [e2] at e; injection e with e; subst e; exact hb2) (h3 h0 ad e)⟩
theorem rtr_enter_with (args : Array Value) (w : World) : (callFunc 17 args).run Tryd.prog w = .ok (.enter 17 args) w := by kernel_rfl
theorem rtr_enter_sum (args : Array Value) (w : World) : (callFunc 19 args).run Tryd.prog w = .ok (.enter 19 args) w := by kernel_rfl
theorem rsum_any (h : Int) (u : Nat) (Zq : Nat → Prop) (l : List UInt8) (w : World) (hs : Said w u Zq l) (hl : l.length ≤ 140737488354000) :
    Calls Tryd.prog 19 #[.pointer (some ⟨u, 0, none⟩), .int .i64 h] w fun e w' => ∃ v, e = .returned v ∧ OwnB w' w.heap.size v (Sha.sum h l) ∧ Below w.heap.size w w' := by
  obtain ⟨A, c, hb, hr, -⟩ := hs
  obtain ⟨S, HS⟩ : ∃ x, Hd (Sha.sum h l = x) := ⟨_, ⟨rfl⟩⟩
  rw [HS.out]
  obtain ⟨n, Hn⟩ : ∃ x, Hd (l.length = x) := ⟨_, ⟨rfl⟩⟩
  rw [Hn.out] at hb hr hl
  have cu : w.cell? ⟨u, 0, none⟩ = some (.slice A n c) := hb.cell 0
  go_enter Tryd.func19, Tryd.ntmps19
  go_wp2_with (first | (go_at_call 38; refine (rof_any h A n c l w hr hl).mono ?_; rintro e w1 ⟨v, rfl, own, hB1⟩; rw [HS.out] at own))
  go_ret
  exact ⟨_, rfl, own, hB1⟩
set_option maxHeartbeats 2000000 in
set_option maxRecDepth 100000 in
theorem rwith_any (h : Int) (u : Nat) (Zq : Nat → Prop) (l : List UInt8) (D : Option Addr) (n d : Nat) (msg : List UInt8) (w : World) (hs : Said w u Zq l) (hr : ReadsB w w.heap.size D n msg) (hl : l.length + n ≤ 140737488354000) :
    Calls Tryd.prog 17 #[.pointer (some ⟨u, 0, none⟩), .int .i64 h, .slice D n d] w fun e w' => ∃ v, e = .returned v ∧ OwnB w' w.heap.size v (Sha.sum h (l ++ msg)) ∧ Below w.heap.size w w' := by
  obtain ⟨A, c, hb, hr1, -⟩ := hs
  obtain ⟨S, HS⟩ : ∃ x, Hd (Sha.sum h (l ++ msg) = x) := ⟨_, ⟨rfl⟩⟩
  rw [HS.out]
  obtain ⟨n1, Hn1⟩ : ∃ x, Hd (l.length = x) := ⟨_, ⟨rfl⟩⟩
  obtain ⟨n2, Hn2⟩ : ∃ x, Hd ((l ++ msg).length = x) := ⟨_, ⟨rfl⟩⟩
  have Hm := hd hr.len
  have hn2 : n2 = n1 + n := by rw [← Hn2.out, ← Hn1.out, List.length_append, Hm.out]
  have HM := hd hn2
  clear hn2
  rw [Hn1.out] at hb hr1 hl
  have cu : w.cell? ⟨u, 0, none⟩ = some (.slice A n1 c) := hb.cell 0
  have hult : u < w.heap.size := hb.lt
  have own0 : OwnB (w.alloc (.cells #[] 5)) w.heap.size (.slice (some ⟨w.heap.size, 0, none⟩) 0 0) [] := OwnB.empty (Nat.le_refl _)
  have hB0 : Below w.heap.size w (w.alloc (.cells #[] 5)) := (Below.refl _ _).alloc (Nat.le_refl _) _
  have hra : ReadsB (w.alloc (.cells #[] 5)) w.heap.size A n1 l := ⟨hr1.len, hr1.is.alloc (Nat.le_refl _) _⟩
  go_enter Tryd.func17, Tryd.ntmps17
  go_wp2_with (first | (go_at_call 38; refine (rof_any h A3 n2 c3 (l ++ msg) w2 r3 (by have := HM.out; omega)).mono ?_; rintro e w3 ⟨v, rfl, own, hB3⟩; rw [HS.out] at own) | (at_builtin; refine wpl_appendB rfl _ _ rfl w.heap.size v1 l rfl own1 w.heap.size D n d msg rfl hrm (by rw [Hn1.out, Hm.out]; omega) hB1.size ?_; intro v2 w2 own2 gr2 at2; have hB2 := below_appended hB1 own1 gr2 (Nat.le_refl _) hB1.size; obtain ⟨A3, c3, e3⟩ := own2.slice; rw [Hn2.out] at e3; subst e3; have r3 : ReadsB w2 w2.heap.size A3 n2 (l ++ msg) := ⟨Hn2.out, own2.reads_any.2.is⟩) | (at_builtin; refine wpl_appendB rfl _ _ rfl w.heap.size _ [] rfl own0 w.heap.size A n1 c l rfl hra (by rw [Hn1.out]; simp; omega) hB0.size ?_; intro v1 w1 own1 gr1 at1; rw [List.nil_append] at own1; have hB1 := below_appended hB0 own0 gr1 (Nat.le_refl _) hB0.size; have hrm : ReadsB w1 w.heap.size D n msg := ⟨hr.len, hr.is.below hB1⟩))
  go_ret
  exact ⟨_, rfl, own.low hB2.size, hB2.trans (hB3.mono hB2.size)⟩
set_option maxHeartbeats 2000000 in
set_option maxRecDepth 100000 in
theorem radd_any (u : Nat) (Zq : Nat → Prop) (l : List UInt8) (D : Option Addr) (n d : Nat) (msg : List UInt8) (w : World) (hs : Said w u Zq l) (hr : ReadsB w w.heap.size D n msg) (hl : l.length + n ≤ 140737488354000) :
    Calls Tryd.prog 13 #[.pointer (some ⟨u, 0, none⟩), .slice D n d] w fun e w' => e = .returned (.tuple #[]) ∧ Said w' u (fun b => w.heap.size ≤ b) (l ++ msg) ∧ Off (fun b => b = u) w w' := by
  obtain ⟨A, c, hb, hr1, -⟩ := hs
  obtain ⟨n1, Hn1⟩ : ∃ x, Hd (l.length = x) := ⟨_, ⟨rfl⟩⟩
  obtain ⟨n2, Hn2⟩ : ∃ x, Hd ((l ++ msg).length = x) := ⟨_, ⟨rfl⟩⟩
  have Hm := hd hr.len
  rw [Hn1.out] at hb hr1 hl
  have cu : w.cell? ⟨u, 0, none⟩ = some (.slice A n1 c) := hb.cell 0
  have hult : u < w.heap.size := hb.lt
  have own0 : OwnB (w.alloc (.cells #[] 5)) w.heap.size (.slice (some ⟨w.heap.size, 0, none⟩) 0 0) [] := OwnB.empty (Nat.le_refl _)
  have hB0 : Below w.heap.size w (w.alloc (.cells #[] 5)) := (Below.refl _ _).alloc (Nat.le_refl _) _
  have hra : ReadsB (w.alloc (.cells #[] 5)) w.heap.size A n1 l := ⟨hr1.len, hr1.is.alloc (Nat.le_refl _) _⟩
  go_enter Tryd.func13, Tryd.ntmps13
  go_wp2_with (first | (at_builtin; refine wpl_appendB rfl _ _ rfl w.heap.size v1 l rfl own1 w.heap.size D n d msg rfl hrm (by rw [Hn1.out, Hm.out]; omega) hB1.size ?_; intro v2 w2 own2 gr2 at2; have hB2 := below_appended hB1 own1 gr2 (Nat.le_refl _) hB1.size; obtain ⟨A3, c3, e3⟩ := own2.slice; rw [Hn2.out] at e3; subst e3; have r3 : ReadsB w2 w2.heap.size A3 n2 (l ++ msg) := ⟨Hn2.out, own2.reads_any.2.is⟩; have hb2 := hb.below hB2 hult; have cu2 : w2.cell? ⟨u, 0, none⟩ = some (.slice A n1 c) := hb2.cell 0; have fu2 : w2.frozen? ⟨u, 0, none⟩ = false := hb2.frozen 0; have lt3 : ∀ ad, A3 = some ad → 0 < n2 → w.heap.size ≤ ad.block := fun ad e h0 => by obtain ⟨g, cap, ef, hg, _⟩ := own2.form (by rw [Hn2.out]; exact h0); injection ef with ef _ _; rw [e] at ef; injection ef with ef; rw [ef]; exact hg) | (at_builtin; refine wpl_appendB rfl _ _ rfl w.heap.size _ [] rfl own0 w.heap.size A n1 c l rfl hra (by rw [Hn1.out]; simp; omega) hB0.size ?_; intro v1 w1 own1 gr1 at1; rw [List.nil_append] at own1; have hB1 := below_appended hB0 own0 gr1 (Nat.le_refl _) hB0.size; have hrm : ReadsB w1 w.heap.size D n msg := ⟨hr.len, hr.is.below hB1⟩))
  go_end0
  have hg : w2.grownBy (w2.setCell ⟨u, 0, none⟩ (.slice A3 n2 c3)) (some u) := grew_setCell (World.grownBy.refl w2 (some u)) 0 _
  have hO : Off (fun b => b = u) w2 (w2.setCell ⟨u, 0, none⟩ (.slice A3 n2 c3)) := Off.of_grown hg (fun k e => by injection e with e; exact e.symm)
  refine ⟨rfl, ⟨A3, c3, ?_, ?_, ?_⟩, (Off.of_below hB2).trans hO⟩
  · rw [Hn2.out]; exact hb2.set_ 0 _
  · rw [Hn2.out]; exact hO.reads r3 (fun h0 ad e h => by have := lt3 ad e h0; omega)
  · rw [Hn2.out]; exact fun h0 ad e => lt3 ad e h0
theorem OwnB.lit4 {w : World} {B : Nat} (hB : B ≤ w.heap.size) (a b c d : UInt8) : OwnB (w.alloc (.cells #[.int .u8 ((n8 a : Nat) : Int), .int .u8 ((n8 b : Nat) : Int), .int .u8 ((n8 c : Nat) : Int), .int .u8 ((n8 d : Nat) : Int)] 5)) B (.slice (some ⟨w.heap.size, 0, none⟩) 4 4) [a, b, c, d] :=
  ⟨rfl, .inr ⟨w.heap.size, 4, _, rfl, hB, heap_alloc_new _ _, Nat.le_refl _, by unfold maxLen; omega, rfl, rfl⟩⟩
set_option maxHeartbeats 2000000 in
set_option maxRecDepth 100000 in
theorem rretry_some (h : Int) (hh : h = 1 ∨ h = 2 ∨ h = 3) (u : Nat) (Zq : Nat → Prop) (l : List UInt8) (w : World) (hs : Said w u Zq l) (hl : l.length ≤ 140737488354000) :
    Calls Tryd.prog 15 #[.pointer (some ⟨u, 0, none⟩), .int .i64 h] w fun e w' => e = .returned (.tuple #[]) ∧ Said w' u (fun b => w.heap.size ≤ b) ([254, 0, 0] ++ Sched.count (Sha.sum h l)) ∧ Off (fun b => b = u) w w' := by
  obtain ⟨A, c, hb, hr1, -⟩ := hs
  obtain ⟨S, HS⟩ : ∃ x, Hd (Sha.sum h l = x) := ⟨_, ⟨rfl⟩⟩
  rw [HS.out]
  obtain ⟨m, Hm⟩ : ∃ x, Hd (S.length = x) := ⟨_, ⟨rfl⟩⟩
  have hm64 : m ≤ 64 := by rw [← Hm.out, ← HS.out, Sha.sum_len]; exact Mac.size_le h
  have hm0 : 0 < m := by rw [← Hm.out, ← HS.out, Sha.sum_len]; exact Mac.size_pos hh
  clear hh
  obtain ⟨n1, Hn1⟩ : ∃ x, Hd (l.length = x) := ⟨_, ⟨rfl⟩⟩
  rw [Hn1.out] at hb hr1 hl
  have cu : w.cell? ⟨u, 0, none⟩ = some (.slice A n1 c) := hb.cell 0
  have hult : u < w.heap.size := hb.lt
  obtain ⟨x, Hx⟩ : ∃ x, Hd (Sched.byteOf (m : Int) = x) := ⟨_, ⟨rfl⟩⟩
  have HX := hd (show ((n8 x : Nat) : Int) = (m : Int) by have hx : (m : Int) % 256 = ((n8 x : Nat) : Int) := (by rw [← Hx.out]; exact mod8 _); omega)
  obtain ⟨CS, HCS⟩ : ∃ x, Hd ([254, 0, 0] ++ Sched.count S = x) := ⟨_, ⟨rfl⟩⟩
  have HCe := hd (show [254, 0, 0, x] ++ S = CS by rw [← HCS.out, Sched.count, Hm.out, Hx.out]; rfl)
  have HCl := hd (show CS.length = m + 4 by rw [← HCe.out, List.length_append, Hm.out]; simp; omega)
  rw [HCS.out]
  clear HCS
  go_enter Tryd.func15, Tryd.ntmps15
  go_wp2_with (first | (at_builtin; refine wpl_appendB rfl _ _ rfl w.heap.size (.slice (some ⟨w1.heap.size, 0, none⟩) 4 4) [254, 0, 0, x] rfl own4.out w1.heap.size A1 m c1 S rfl r4.out (by rw [Hm.out]; simp; omega) hB4.size ?_; intro v2 w2 own2 gr2 at2; have hB2 := below_appended hB4 own4.out gr2 (Nat.le_refl _) hB4.size; rw [HCe.out] at own2; obtain ⟨A3, c3, e3⟩ := own2.slice; rw [HCl.out] at e3; subst e3; have r3 : ReadsB w2 w2.heap.size A3 (m + 4) CS := ⟨HCl.out, own2.reads_any.2.is⟩; have hb2 := hb.below hB2 hult; have cu2 : w2.cell? ⟨u, 0, none⟩ = some (.slice A n1 c) := hb2.cell 0; have fu2 : w2.frozen? ⟨u, 0, none⟩ = false := hb2.frozen 0; have lt3 := hd (show ∀ ad, A3 = some ad → w.heap.size ≤ ad.block from fun ad e => by obtain ⟨g, cap, ef, hg, _⟩ := own2.form (by rw [HCl.out]; omega); injection ef with ef _ _; rw [e] at ef; injection ef with ef; rw [ef]; exact hg)) | (go_at_call 38; refine (rof_any h A n1 c l w hr1 hl).mono ?_; rintro e w1 ⟨v, rfl, own, hB1⟩; rw [HS.out] at own; obtain ⟨A1, c1, e1⟩ := own.slice; rw [Hm.out] at e1; subst e1; have own4' := OwnB.lit4 hB1.size 254 0 0 x; rw [HX.out] at own4'; have own4 := hd own4'; clear own4'; have hB4 : Below w.heap.size w (w1.alloc (.cells #[.int .u8 254, .int .u8 0, .int .u8 0, .int .u8 (m : Int)] 5)) := hB1.alloc hB1.size _; have r4 := hd (show ReadsB (w1.alloc (.cells #[.int .u8 254, .int .u8 0, .int .u8 0, .int .u8 (m : Int)] 5)) w1.heap.size A1 m S from ⟨Hm.out, own.reads_any.2.is.alloc (Nat.le_refl _) _⟩)))
  go_end0
  have hg : w2.grownBy (w2.setCell ⟨u, 0, none⟩ (.slice A3 (m + 4) c3)) (some u) := grew_setCell (World.grownBy.refl w2 (some u)) 0 _
  have hO : Off (fun b => b = u) w2 (w2.setCell ⟨u, 0, none⟩ (.slice A3 (m + 4) c3)) := Off.of_grown hg (fun k e => by injection e with e; exact e.symm)
  refine ⟨rfl, ⟨A3, c3, ?_, ?_, ?_⟩, (Off.of_below hB2).trans hO⟩
  · rw [HCl.out]; exact hb2.set_ 0 _
  · rw [HCl.out]; exact hO.reads r3 (fun h0 ad e h => by have := lt3.out ad e; omega)
  · exact fun h0 ad e => lt3.out ad e
theorem rretry_none (h : Int) (hh : ¬ (h = 1 ∨ h = 2 ∨ h = 3)) (u : Nat) (Zq : Nat → Prop) (l : List UInt8) (w : World) (hs : Said w u Zq l) (hl : l.length ≤ 140737488354000) :
    Calls Tryd.prog 15 #[.pointer (some ⟨u, 0, none⟩), .int .i64 h] w fun e w' => e = .returned (.tuple #[]) ∧ Below w.heap.size w w' := by
  obtain ⟨A, c, hb, hr1, -⟩ := hs
  have HS := hd (show Sha.sum h l = [] from Sha.sum_none (fun e => hh (.inl e)) (fun e => hh (.inr (.inl e))) (fun e => hh (.inr (.inr e))) _)
  clear hh
  obtain ⟨n1, Hn1⟩ : ∃ x, Hd (l.length = x) := ⟨_, ⟨rfl⟩⟩
  rw [Hn1.out] at hb hr1 hl
  have cu : w.cell? ⟨u, 0, none⟩ = some (.slice A n1 c) := hb.cell 0
  go_enter Tryd.func15, Tryd.ntmps15
  go_wp2_with (first | (go_at_call 38; refine (rof_any h A n1 c l w hr1 hl).mono ?_; rintro e w1 ⟨v, rfl, own, hB1⟩; rw [HS.out] at own; obtain ⟨A1, c1, e1⟩ := own.slice; rw [List.length_nil] at e1; subst e1))
  go_end0
  exact ⟨rfl, hB1⟩
theorem retry_none (h : Int) (hh : ¬ (h = 1 ∨ h = 2 ∨ h = 3)) (v : Value) (w : World) :
    Calls Tryd.prog 14 #[v, .int .i64 h] w fun e w' => e = .returned (.tuple #[]) ∧ w = w' := by
  have HN := hd hh
  clear hh
  go_enter Tryd.func14, Tryd.ntmps14
  go_wp2_with (first | (go_at_call 36; refine (at_none h HN.out _ w).mono ?_; rintro e w' ⟨rfl, rfl⟩))
  go_end0
  exact ⟨rfl, rfl⟩
end Go.Proofs.YtkacibgbpeeflaaDoor
