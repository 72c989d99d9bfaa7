/-
  A digest of bytes: what New, Write and Clone make of it.
-/
import Derived.Test.YtbcboldepghgpaaGreatDoorShaF
set_option linter.unusedVariables false
set_option linter.unusedSimpArgs false
set_option maxRecDepth 100000
namespace Go.Proofs.YtbcboldepghgpaaGreatDoor
open Go.RowKit
namespace Sha
def bsOf (h : Int) : Nat := if h = 1 then 64 else 128
def st32 (h : Int) (l : List UInt8) : List UInt32 := if h = 1 then Sha32.feed (l.length / 64) l iv1 else no32
def st64 (h : Int) (l : List UInt8) : List UInt64 := if h = 1 then no64 else Sha64.feed (l.length / 128) l (if h = 2 then iv2 else iv3)
def restOf (h : Int) (l : List UInt8) : List UInt8 := l.drop (bsOf h * (l.length / bsOf h))
theorem st32_len (h : Int) (l : List UInt8) : (st32 h l).length = 8 := by
  unfold st32; split
  · rw [Sha32.feed_len]; rfl
  · rfl
theorem st64_len (h : Int) (l : List UInt8) : (st64 h l).length = 8 := by
  unfold st64; split
  · rfl
  · rw [Sha64.feed_len]; split <;> rfl
theorem div_add (a n b : Nat) (hb : 0 < b) : (a + n) / b = a / b + (a % b + n) / b := by
  have h := Nat.div_add_mod a b
  have e : a + n = (a % b + n) + b * (a / b) := by omega
  rw [e, Nat.add_mul_div_left _ _ hb, Nat.add_comm]
theorem mod_add (a n b : Nat) : (a + n) % b = (a % b + n) % b := by rw [Nat.mod_add_mod]
theorem drop_full (l t : List UInt8) (b : Nat) : (l ++ t).drop (b * (l.length / b)) = l.drop (b * (l.length / b)) ++ t := by
  rw [List.drop_append_of_le_length (Nat.mul_div_le _ _)]
theorem feed32_on (l t : List UInt8) (s : List UInt32) : Sha32.feed ((l ++ t).length / 64) (l ++ t) s = Sha32.feed ((l.length % 64 + t.length) / 64) (l.drop (64 * (l.length / 64)) ++ t) (Sha32.feed (l.length / 64) l s) := by
  rw [List.length_append, div_add _ _ 64 (by omega), Sha32.feed_add, Sha32.feed_more _ _ _ _ (Nat.mul_div_le _ _), drop_full]
theorem feed64_on (l t : List UInt8) (s : List UInt64) : Sha64.feed ((l ++ t).length / 128) (l ++ t) s = Sha64.feed ((l.length % 128 + t.length) / 128) (l.drop (128 * (l.length / 128)) ++ t) (Sha64.feed (l.length / 128) l s) := by
  rw [List.length_append, div_add _ _ 128 (by omega), Sha64.feed_add, Sha64.feed_more _ _ _ _ (Nat.mul_div_le _ _), drop_full]
theorem rest_on (l t : List UInt8) (b : Nat) (hb : 0 < b) : (l ++ t).drop (b * ((l ++ t).length / b)) = (l.drop (b * (l.length / b)) ++ t).drop (b * ((l.length % b + t.length) / b)) := by
  rw [List.length_append, div_add _ _ b hb, Nat.mul_add, ← List.drop_drop, drop_full]
end Sha
/-- Block g is a digest of hash h that has taken in l; what waits in it lies in a block of which Zp holds. -/
def DigZ (w : World) (B g : Nat) (Zp : Nat → Prop) (h : Int) (l : List UInt8) : Prop :=
  ∃ A c, Blk w g 70 (dig h (Sha.st32 h l) (Sha.st64 h l) (.slice A (l.length % Sha.bsOf h) c) (UInt64.ofNat l.length)) ∧ ReadsB w B A (l.length % Sha.bsOf h) (Sha.restOf h l) ∧ l.length % Sha.bsOf h ≤ c ∧ (A = none → l.length % Sha.bsOf h = 0) ∧ (0 < l.length % Sha.bsOf h → ∀ ad, A = some ad → ad.block ≠ g ∧ Zp ad.block)
/-- .. in no block z. -/
def DigOff (w : World) (B g z : Nat) (h : Int) (l : List UInt8) : Prop := DigZ w B g (fun b => b ≠ z) h l
/-- Block g is a digest of hash h that has taken in l. -/
def DigAt (w : World) (B g : Nat) (h : Int) (l : List UInt8) : Prop := DigOff w B g g h l
theorem DigOff.at_ {w : World} {B g z : Nat} {h : Int} {l : List UInt8} (hd : DigOff w B g z h l) : DigAt w B g h l := by
  obtain ⟨A, c, h1, h2, h3, h4, h5⟩ := hd
  exact ⟨A, c, h1, h2, h3, h4, fun h0 ad e => ⟨(h5 h0 ad e).1, (h5 h0 ad e).1⟩⟩
theorem DigZ.lt {w : World} {B g : Nat} {Zp : Nat → Prop} {h : Int} {l : List UInt8} (hd : DigZ w B g Zp h l) : g < w.heap.size := by
  obtain ⟨_, _, h1, _⟩ := hd; exact h1.lt
theorem DigZ.mono {w : World} {B g : Nat} {Zp Zq : Nat → Prop} {h : Int} {l : List UInt8} (hd : DigZ w B g Zp h l) (hz : ∀ b, Zp b → Zq b) : DigZ w B g Zq h l := by
  obtain ⟨A, c, h1, h2, h3, h4, h5⟩ := hd
  exact ⟨A, c, h1, h2, h3, h4, fun h0 ad e => ⟨(h5 h0 ad e).1, hz _ (h5 h0 ad e).2⟩⟩
/-- What waits lies in no block that is still to be made. -/
theorem DigZ.newer {w : World} {g : Nat} {Zp : Nat → Prop} {h : Int} {l : List UInt8} (hd : DigZ w w.heap.size g Zp h l) (x : Nat) (hx : w.heap.size ≤ x) : DigZ w w.heap.size g (fun b => Zp b ∧ b ≠ x) h l := by
  obtain ⟨A, c, h1, h2, h3, h4, h5⟩ := hd
  refine ⟨A, c, h1, h2, h3, h4, fun h0 ad e => ⟨(h5 h0 ad e).1, (h5 h0 ad e).2, ?_⟩⟩
  obtain ⟨a2, e2, hb, _⟩ := h2.is.2 h0
  rw [e] at e2
  injection e2 with e2
  subst e2
  omega
theorem DigZ.at_ {w : World} {B g : Nat} {Zp : Nat → Prop} {h : Int} {l : List UInt8} (hd : DigZ w B g Zp h l) : DigZ w B g (fun b => b ≠ g) h l := by
  obtain ⟨A, c, h1, h2, h3, h4, h5⟩ := hd
  exact ⟨A, c, h1, h2, h3, h4, fun h0 ad e => ⟨(h5 h0 ad e).1, (h5 h0 ad e).1⟩⟩
theorem DigZ.below {w w' : World} {g : Nat} {Zp : Nat → Prop} {h : Int} {l : List UInt8} (hd : DigZ w w.heap.size g Zp h l) (hb : Below w.heap.size w w') : DigZ w' w'.heap.size g Zp h l := by
  obtain ⟨A, c, h1, h2, h3⟩ := hd
  exact ⟨A, c, h1.below hb h1.lt, ⟨h2.len, (h2.is.below hb).more hb.size⟩, h3⟩
theorem DigZ.grown {w w' : World} {g z : Nat} {Zp : Nat → Prop} {h : Int} {l : List UInt8} (hd : DigZ w w.heap.size g Zp h l) (hg : w.grownBy w' (some z)) (hz : z ≠ g) (hZz : ∀ b, Zp b → b ≠ z) : DigZ w' w'.heap.size g Zp h l := by
  obtain ⟨A, c, h1, h2, h3, h4, h5⟩ := hd
  have hr := reads_kept032 h2 (grown_kept (B := w.heap.size) (g := z) hg (fun k hk => .inr (by injection hk with hk; exact hk.symm)) (Nat.le_refl _)) (fun h0 ad e => hZz _ (h5 h0 ad e).2)
  exact ⟨A, c, h1.grown hg (fun e => by injection e with e; exact hz e.symm), ⟨hr.len, hr.is.more hg.size⟩, h3, h4, h5⟩
theorem DigOff.lt {w : World} {B g z : Nat} {h : Int} {l : List UInt8} (hd : DigOff w B g z h l) : g < w.heap.size := by
  obtain ⟨_, _, h1, _⟩ := hd; exact h1.lt
theorem DigOff.below {w w' : World} {g z : Nat} {h : Int} {l : List UInt8} (hd : DigOff w w.heap.size g z h l) (hb : Below w.heap.size w w') : DigOff w' w'.heap.size g z h l := by
  obtain ⟨A, c, h1, h2, h3⟩ := hd
  exact ⟨A, c, h1.below hb h1.lt, ⟨h2.len, (h2.is.below hb).more hb.size⟩, h3⟩
theorem DigOff.grown {w w' : World} {g z : Nat} {h : Int} {l : List UInt8} (hd : DigOff w w.heap.size g z h l) (hg : w.grownBy w' (some z)) (hz : z ≠ g) : DigOff w' w'.heap.size g z h l := by
  obtain ⟨A, c, h1, h2, h3, h4, h5⟩ := hd
  have hr := reads_kept032 h2 (grown_kept (B := w.heap.size) (g := z) hg (fun k hk => .inr (by injection hk with hk; exact hk.symm)) (Nat.le_refl _)) (fun h0 ad e => (h5 h0 ad e).2)
  exact ⟨A, c, h1.grown hg (fun e => by injection e with e; exact hz e.symm), ⟨hr.len, hr.is.more hg.size⟩, h3, h4, h5⟩
theorem DigAt.below {w w' : World} {g : Nat} {h : Int} {l : List UInt8} (hd : DigAt w w.heap.size g h l) (hb : Below w.heap.size w w') : DigAt w' w'.heap.size g h l := DigOff.below hd hb
theorem DigAt.lt {w : World} {B g : Nat} {h : Int} {l : List UInt8} (hd : DigAt w B g h l) : g < w.heap.size := DigOff.lt hd
theorem new_off (z : Nat) (h : Int) (hh : h = 1 ∨ h = 2 ∨ h = 3) (w : World) : Calls Tryz.prog 39 #[.int .i64 h] w fun e w' => e = .returned (.pointer (some ⟨w.heap.size, 0, none⟩)) ∧ DigOff w' w'.heap.size w.heap.size z h [] ∧ Below w.heap.size w w' := by
  rcases hh with rfl | rfl | rfl
  · refine (new_1 w).mono ?_
    rintro e w' ⟨rfl, hb, hB⟩
    exact ⟨rfl, ⟨none, 0, hb, ⟨rfl, Reads.none_⟩, Nat.le_refl _, fun _ => rfl, fun _ _ e => by cases e⟩, hB⟩
  · refine (new_2 w).mono ?_
    rintro e w' ⟨rfl, hb, hB⟩
    exact ⟨rfl, ⟨none, 0, hb, ⟨rfl, Reads.none_⟩, Nat.le_refl _, fun _ => rfl, fun _ _ e => by cases e⟩, hB⟩
  · refine (new_3 w).mono ?_
    rintro e w' ⟨rfl, hb, hB⟩
    exact ⟨rfl, ⟨none, 0, hb, ⟨rfl, Reads.none_⟩, Nat.le_refl _, fun _ => rfl, fun _ _ e => by cases e⟩, hB⟩
theorem new_z (h : Int) (hh : h = 1 ∨ h = 2 ∨ h = 3) (w : World) : Calls Tryz.prog 39 #[.int .i64 h] w fun e w' => ∃ g, e = .returned (.pointer (some ⟨g, 0, none⟩)) ∧ g = w.heap.size ∧ (∀ Zp, DigZ w' w'.heap.size g Zp h []) ∧ Below w.heap.size w w' := by
  rcases hh with rfl | rfl | rfl
  · refine (new_1 w).mono ?_
    rintro e w' ⟨rfl, hb, hB⟩
    exact ⟨_, rfl, rfl, fun z => ⟨none, 0, hb, ⟨rfl, Reads.none_⟩, Nat.le_refl _, fun _ => rfl, fun _ _ e => by cases e⟩, hB⟩
  · refine (new_2 w).mono ?_
    rintro e w' ⟨rfl, hb, hB⟩
    exact ⟨_, rfl, rfl, fun z => ⟨none, 0, hb, ⟨rfl, Reads.none_⟩, Nat.le_refl _, fun _ => rfl, fun _ _ e => by cases e⟩, hB⟩
  · refine (new_3 w).mono ?_
    rintro e w' ⟨rfl, hb, hB⟩
    exact ⟨_, rfl, rfl, fun z => ⟨none, 0, hb, ⟨rfl, Reads.none_⟩, Nat.le_refl _, fun _ => rfl, fun _ _ e => by cases e⟩, hB⟩
theorem new_at (h : Int) (hh : h = 1 ∨ h = 2 ∨ h = 3) (w : World) : Calls Tryz.prog 39 #[.int .i64 h] w fun e w' => e = .returned (.pointer (some ⟨w.heap.size, 0, none⟩)) ∧ DigAt w' w'.heap.size w.heap.size h [] ∧ Below w.heap.size w w' := new_off w.heap.size h hh w
/-- .. whatever lies ahead of the call or behind it. -/
theorem clone_far (g : Nat) (h : Int) (l : List UInt8) (w : World) (hd : DigAt w w.heap.size g h l) :
    Calls Tryz.prog 64 #[.pointer (some ⟨g, 0, none⟩)] w fun e w' => e = .returned (.pointer (some ⟨w.heap.size, 0, none⟩)) ∧ (∀ z, z ≤ w.heap.size ∨ w'.heap.size ≤ z → DigOff w' w'.heap.size w.heap.size z h l) ∧ Below w.heap.size w w' := by
  obtain ⟨A, c, h1, h2, h3, h4, h5⟩ := hd
  have hlt : l.length % Sha.bsOf h ≤ 140737488355328 := by
    have hb : Sha.bsOf h = 64 ∨ Sha.bsOf h = 128 := by unfold Sha.bsOf; split <;> simp
    rcases hb with e | e <;> (rw [e]; omega)
  refine (clone_any g h _ _ (Sha.st32_len h l) (Sha.st64_len h l) A _ c _ w.heap.size _ w h1 h2 (Nat.le_refl _) hlt).mono ?_
  rintro e w' ⟨rfl, A', c', k1, k2, k3, k4, k5, k6⟩
  exact ⟨rfl, fun z hz => ⟨A', c', k1, k2, k3, k4, fun _ ad e => by have := k5 ad e; omega⟩, k6⟩
theorem clone_off (g z : Nat) (h : Int) (l : List UInt8) (w : World) (hd : DigAt w w.heap.size g h l) (hz : z ≤ w.heap.size) :
    Calls Tryz.prog 64 #[.pointer (some ⟨g, 0, none⟩)] w fun e w' => e = .returned (.pointer (some ⟨w.heap.size, 0, none⟩)) ∧ DigOff w' w'.heap.size w.heap.size z h l ∧ Below w.heap.size w w' := by
  refine (clone_far g h l w hd).mono ?_
  rintro e w' ⟨rfl, k, kB⟩
  exact ⟨rfl, k z (.inl hz), kB⟩
theorem clone_at (g : Nat) (h : Int) (l : List UInt8) (w : World) (hd : DigAt w w.heap.size g h l) :
    Calls Tryz.prog 64 #[.pointer (some ⟨g, 0, none⟩)] w fun e w' => e = .returned (.pointer (some ⟨w.heap.size, 0, none⟩)) ∧ DigAt w' w'.heap.size w.heap.size h l ∧ Below w.heap.size w w' := clone_off g w.heap.size h l w hd (Nat.le_refl _)
/-- The two tables. -/
def Tabs (w : World) : Prop := Blk w 0 89 (arr32 Sha32.K) ∧ Blk w 1 97 (arr64 Sha64.K)
theorem Tabs.below {w w' : World} (h : Tabs w) (hb : Below w.heap.size w w') : Tabs w' := ⟨h.1.below hb h.1.lt, h.2.below hb h.2.lt⟩
theorem write_z (g : Nat) (Zp : Nat → Prop) (h : Int) (hh : h = 1 ∨ h = 2 ∨ h = 3) (l : List UInt8) (D : Option Addr) (n d : Nat) (t : List UInt8) (w : World) (hZ : ∀ b, w.heap.size ≤ b → Zp b) (hd : DigZ w w.heap.size g Zp h l) (htb : Tabs w) (ht : ReadsB w w.heap.size D n t) (hne : 0 < n → ∀ ad, D = some ad → ad.block ≠ g) (hn : n ≤ 140737488355000) :
    Calls Tryz.prog 50 #[.pointer (some ⟨g, 0, none⟩), .slice D n d] w fun e w' => e = .returned (.tuple #[]) ∧ DigZ w' w'.heap.size g Zp h (l ++ t) ∧ w.grownBy w' (some g) := by
  obtain ⟨A, c, h1, h2, h3, h4, h5⟩ := hd
  have hN : UInt64.ofNat l.length + UInt64.ofNat n = UInt64.ofNat (l ++ t).length := by rw [List.length_append, ht.len, UInt64.ofNat_add]
  rcases (show h = 1 ∨ (h = 2 ∨ h = 3) from hh) with rfl | h23
  · have eb : Sha.bsOf 1 = 64 := rfl
    rw [eb] at h1 h2 h3 h4 h5
    refine (write32_any g Zp (Sha.st32 1 l) (Sha.st64 1 l) (Sha.st32_len _ _) (Sha.st64_len _ _) (UInt64.ofNat l.length) A (l.length % 64) c (Sha.restOf 1 l) D n d t w h1 h2 h3 h4 h5 hZ htb.1 ht hne (by omega)).mono ?_
    rintro e w' ⟨rfl, hg, A', r', c', k1, k2, k3, k4, k5, k6⟩
    have er : r' = (l ++ t).length % 64 := by rw [k6, List.length_append, ht.len, ← Sha.mod_add]
    refine ⟨rfl, ⟨A', c', ?_, ?_, ?_, ?_, ?_⟩, hg⟩
    · rw [eb, ← er, ← hN]
      have e1 : Sha.st32 1 (l ++ t) = Sha32.feed ((l.length % 64 + n) / 64) (Sha.restOf 1 l ++ t) (Sha.st32 1 l) := by
        have h := Sha.feed32_on l t Sha.iv1
        rw [ht.len] at h
        exact h
      rw [e1]
      exact k1
    · rw [eb, ← er]
      have e2 : Sha.restOf 1 (l ++ t) = (Sha.restOf 1 l ++ t).drop (64 * ((l.length % 64 + n) / 64)) := by
        have h := Sha.rest_on l t 64 (by omega)
        rw [ht.len] at h
        exact h
      rw [e2]; exact k2
    · rw [eb, ← er]; exact k3
    · rw [eb, ← er]; exact k4
    · rw [eb, ← er]; exact k5
  · have hne1 : ¬ h = 1 := by omega
    have eb : Sha.bsOf h = 128 := by unfold Sha.bsOf; rw [if_neg hne1]
    rw [eb] at h1 h2 h3 h4 h5
    refine (write64_any h h23 g Zp (Sha.st64 h l) (Sha.st32 h l) (Sha.st64_len _ _) (Sha.st32_len _ _) (UInt64.ofNat l.length) A (l.length % 128) c (Sha.restOf h l) D n d t w h1 h2 h3 h4 h5 hZ htb.2 ht hne (by omega)).mono ?_
    rintro e w' ⟨rfl, hg, A', r', c', k1, k2, k3, k4, k5, k6⟩
    have er : r' = (l ++ t).length % 128 := by rw [k6, List.length_append, ht.len, ← Sha.mod_add]
    refine ⟨rfl, ⟨A', c', ?_, ?_, ?_, ?_, ?_⟩, hg⟩
    · rw [eb, ← er, ← hN]
      have e1 : Sha.st64 h (l ++ t) = Sha64.feed ((l.length % 128 + n) / 128) (Sha.restOf h l ++ t) (Sha.st64 h l) := by
        have h6 := Sha.feed64_on l t (if h = 2 then Sha.iv2 else Sha.iv3)
        rw [ht.len] at h6
        unfold Sha.st64 Sha.restOf
        rw [if_neg hne1, if_neg hne1, eb]
        exact h6
      have e3 : Sha.st32 h (l ++ t) = Sha.st32 h l := by unfold Sha.st32; rw [if_neg hne1, if_neg hne1]
      rw [e1, e3]
      exact k1
    · rw [eb, ← er]
      have e2 : Sha.restOf h (l ++ t) = (Sha.restOf h l ++ t).drop (128 * ((l.length % 128 + n) / 128)) := by
        have h6 := Sha.rest_on l t 128 (by omega)
        rw [ht.len] at h6
        unfold Sha.restOf
        rw [eb]
        exact h6
      rw [e2]; exact k2
    · rw [eb, ← er]; exact k3
    · rw [eb, ← er]; exact k4
    · rw [eb, ← er]; exact k5
theorem write_off (g z : Nat) (h : Int) (hh : h = 1 ∨ h = 2 ∨ h = 3) (l : List UInt8) (D : Option Addr) (n d : Nat) (t : List UInt8) (w : World) (hzw : z < w.heap.size) (hd : DigOff w w.heap.size g z h l) (htb : Tabs w) (ht : ReadsB w w.heap.size D n t) (hne : 0 < n → ∀ ad, D = some ad → ad.block ≠ g) (hn : n ≤ 140737488355000) :
    Calls Tryz.prog 50 #[.pointer (some ⟨g, 0, none⟩), .slice D n d] w fun e w' => e = .returned (.tuple #[]) ∧ DigOff w' w'.heap.size g z h (l ++ t) ∧ w.grownBy w' (some g) :=
  write_z g (fun b => b ≠ z) h hh l D n d t w (fun b hb => by omega) hd htb ht hne hn
theorem write_at (g : Nat) (h : Int) (hh : h = 1 ∨ h = 2 ∨ h = 3) (l : List UInt8) (D : Option Addr) (n d : Nat) (t : List UInt8) (w : World) (hd : DigAt w w.heap.size g h l) (htb : Tabs w) (ht : ReadsB w w.heap.size D n t) (hne : 0 < n → ∀ ad, D = some ad → ad.block ≠ g) (hn : n ≤ 140737488355000) :
    Calls Tryz.prog 50 #[.pointer (some ⟨g, 0, none⟩), .slice D n d] w fun e w' => e = .returned (.tuple #[]) ∧ DigAt w' w'.heap.size g h (l ++ t) ∧ w.grownBy w' (some g) :=
  write_off g g h hh l D n d t w (DigAt.lt hd) hd htb ht hne hn
end Go.Proofs.YtbcboldepghgpaaGreatDoor
