/-
  Sums of any hash, and of parts.
-/
import Derived.Test.YthigbggacgiamaaDoorJa
import Derived.Test.YthigbggacgiamaaDoorShaI
set_option linter.unusedVariables false
set_option linter.unusedSimpArgs false
set_option maxRecDepth 100000
namespace Go.Proofs.YthigbggacgiamaaDoor
open Go.RowKit
theorem sum_at (g : Nat) (h : Int) (hh : h = 1 ∨ h = 2 ∨ h = 3) (l : List UInt8) (w : World) (hd0 : DigAt w w.heap.size g h l) (htb : Tabs w) :
    Calls Tryd.prog 46 #[.pointer (some ⟨g, 0, none⟩)] w fun e w' => ∃ v, e = .returned v ∧ OwnB w' w.heap.size v (Sha.sum h l) ∧ Below w.heap.size w w' := by
  rcases hh with rfl | rfl | rfl
  · exact sum_1 g l w hd0 htb
  · exact sum_2 g l w hd0 htb
  · exact sum_3 g l w hd0 htb
/-- How many bytes a sum has. -/
def Sha.size (h : Int) : Nat := if h = 1 then 32 else if h = 2 then 48 else if h = 3 then 64 else 0
def Sha.blockLen (h : Int) : Nat := if h = 1 then 64 else if h = 2 then 128 else if h = 3 then 128 else 0
theorem Sha.sum_len (h : Int) (l : List UInt8) : (Sha.sum h l).length = Sha.size h := by
  unfold Sha.sum Sha.size
  split
  · rw [Sha.out32_len]
  · split
    · rw [List.length_take, Sha.out64_len]; rfl
    · split
      · rw [Sha.out64_len]
      · rfl
theorem Sha.sum_none {h : Int} (h1 : ¬ h = 1) (h2 : ¬ h = 2) (h3 : ¬ h = 3) (l : List UInt8) : Sha.sum h l = [] := by
  unfold Sha.sum; rw [if_neg h1, if_neg h2, if_neg h3]
theorem new_none (h : Int) (h1 : ¬ h = 1) (h2 : ¬ h = 2) (h3 : ¬ h = 3) (w : World) : Calls Tryd.prog 22 #[.int .i64 h] w fun e w' => e = .returned (.pointer none) ∧ Below w.heap.size w w' := by
  go_enter Tryd.func22, Tryd.ntmps22
  have hb : ∃ cs, Tryd.prog.built 81 [(0, .int .i64 h)] = some cs := ⟨_, rfl⟩
  obtain ⟨cs, hcs⟩ := hb
  go_wp2_with (first | (refine wpl_build rfl 81 _ rfl [(0, .int .i64 h)] rfl _ hcs ?_))
  go_ret
  exact ⟨rfl, (Below.refl _ _).alloc (Nat.le_refl _) _⟩
/-- The size of a sum, of any number. -/
theorem size_any (h : Int) (w : World) : Calls Tryd.prog 20 #[.int .i64 h] w fun e w' => e = .returned (.int .i64 (Sha.size h : Nat)) ∧ w = w' := by
  by_cases h1 : h = 1
  · subst h1; exact size_1 w
  · by_cases h2 : h = 2
    · subst h2; exact size_2 w
    · by_cases h3 : h = 3
      · subst h3; exact size_3 w
      · have e : Sha.size h = 0 := by unfold Sha.size; rw [if_neg h1, if_neg h2, if_neg h3]
        rw [e]; exact size_none h h1 h2 h3 w
theorem block_any (h : Int) (w : World) : Calls Tryd.prog 41 #[.int .i64 h] w fun e w' => e = .returned (.int .i64 (Sha.blockLen h : Nat)) ∧ w = w' := by
  by_cases h1 : h = 1
  · subst h1; exact blockSize_1 w
  · by_cases h2 : h = 2
    · subst h2; exact blockSize_2 w
    · by_cases h3 : h = 3
      · subst h3; exact blockSize_3 w
      · have e : Sha.blockLen h = 0 := by unfold Sha.blockLen; rw [if_neg h1, if_neg h2, if_neg h3]
        rw [e]; exact blockSize_none h h1 h2 h3 w
theorem rsize_any (h : Int) (w : World) : Calls Tryd.prog 16 #[.int .i64 h] w fun e w' => e = .returned (.int .i64 (Sha.size h : Nat)) ∧ w = w' := by
  by_cases h1 : h = 1
  · subst h1; exact rsize_1 w
  · by_cases h2 : h = 2
    · subst h2; exact rsize_2 w
    · by_cases h3 : h = 3
      · subst h3; exact rsize_3 w
      · have e : Sha.size h = 0 := by unfold Sha.size; rw [if_neg h1, if_neg h2, if_neg h3]
        rw [e]; exact rsize_none h h1 h2 h3 w
set_option maxHeartbeats 4000000 in
set_option maxRecDepth 100000 in
theorem of_valid (h : Int) (hh : h = 1 ∨ h = 2 ∨ h = 3) (A : Option Addr) (n c : Nat) (ps : List Part) (w : World) (hp : Parts w w.heap.size A n ps) (hn : n ≤ 1000000) (htb : Tabs w) :
    Calls Tryd.prog 42 #[.int .i64 h, .slice A n c] w fun e w' => ∃ v, e = .returned v ∧ OwnB w' w.heap.size v (Sha.sum h (joined ps)) ∧ Below w.heap.size w w' := by
  have Hh := hd hh
  clear hh
  go_enter Tryd.func42, Tryd.ntmps42
  go_wp2_with (first | (go_at_call 22; refine (new_at h Hh.out w).mono ?_; rintro e w1 ⟨rfl, hd1, hB1⟩))
  go_loopw [7, 14] (fun _ i wr => ∃ k : Nat, k ≤ n ∧ i = .int .i64 (k : Int) ∧ DigAt wr wr.heap.size w.heap.size h (joined (ps.take k)) ∧ Below w.heap.size w wr) (fun _ i _ => (n - intOf i).toNat)
  case atStart => exact ⟨0, by omega, rfl, by rw [List.take_zero]; exact hd1, hB1⟩
  case round =>
    clear hd1 hB1
    obtain ⟨k, hk, rfl, hd1, hB1⟩ := hrel
    have htr := htb.below hB1
    by_cases hlt : k < n
    · have t1 : (k : Int) < (n : Int) := by omega
      have t2 : (0 : Int) ≤ (k : Int) := by omega
      have wk : IntKind.i64.wrap ((k : Int) + 1) = (k : Int) + 1 := IntWalk.i64_in _ (by omega)
      obtain ⟨ad, rfl, hab, hc, hr, hpn⟩ := (hp.below hB1).is k hlt
      have Hj := hd (joined_more ps k (by rw [hp.len]; exact hlt))
      obtain ⟨p, Hp⟩ : ∃ p, Hd (part ps k = p) := ⟨_, ⟨rfl⟩⟩
      rw [Hp.out] at hc hr hpn Hj
      have hr1 : ReadsB wr wr.heap.size p.D p.n p.t := ⟨hr.len, hr.is.more hB1.size⟩
      have hne : 0 < p.n → ∀ ad', p.D = some ad' → ad'.block ≠ w.heap.size := fun h0 ad' e => by
        obtain ⟨a2, e2, hb2, _⟩ := hr.is.2 h0
        rw [e2] at e; injection e with e; subst e; omega
      go_wp2_with (first | (go_at_call 43; refine (write_at w.heap.size h Hh.out (joined (ps.take k)) p.D p.n p.d p.t wr hd1 htr hr1 hne hpn).mono ?_; rintro e w2 ⟨rfl, hd2, hg2⟩))
      go_roundw
      case rel => exact ⟨k + 1, by omega, by congr 1 <;> omega, by rw [Hj.out]; exact hd2, hB1.grown hg2 hB1.size (fun k hk => by injection hk; omega)⟩
      case measure => simp [intOf] <;> omega
    · have ek : k = n := by omega
      subst ek
      have t1 : ¬ (k : Int) < (k : Int) := by omega
      have hall : joined (ps.take k) = joined ps := by rw [← hp.len, List.take_length]
      rw [hall] at hd1
      go_wp2_with (first | (go_at_call 46; refine (sum_at w.heap.size h Hh.out (joined ps) wr hd1 htr).mono ?_; rintro e w2 ⟨v2, rfl, own2, hB2⟩))
      go_ret
      exact ⟨_, rfl, own2.low hB1.size, hB1.trans (hB2.mono hB1.size)⟩
theorem of_none (h : Int) (h1 : ¬ h = 1) (h2 : ¬ h = 2) (h3 : ¬ h = 3) (P : Value) (w : World) : Calls Tryd.prog 42 #[.int .i64 h, P] w fun e w' => e = .returned (.slice none 0 0) ∧ Below w.heap.size w w' := by
  go_enter Tryd.func42, Tryd.ntmps42
  go_wp2_with (first | (go_at_call 22; refine (new_none h h1 h2 h3 w).mono ?_; rintro e w1 ⟨rfl, hB1⟩))
  go_ret
  exact ⟨rfl, hB1⟩
/-- sha.Of, of any hash. -/
theorem shaOf_any (h : Int) (A : Option Addr) (n c : Nat) (ps : List Part) (w : World) (hp : Parts w w.heap.size A n ps) (hn : n ≤ 1000000) (htb : Tabs w) :
    Calls Tryd.prog 42 #[.int .i64 h, .slice A n c] w fun e w' => ∃ v, e = .returned v ∧ OwnB w' w.heap.size v (Sha.sum h (joined ps)) ∧ Below w.heap.size w w' := by
  by_cases hh : h = 1 ∨ h = 2 ∨ h = 3
  · exact of_valid h hh A n c ps w hp hn htb
  · have h1 : ¬ h = 1 := fun e => hh (.inl e)
    have h2 : ¬ h = 2 := fun e => hh (.inr (.inl e))
    have h3 : ¬ h = 3 := fun e => hh (.inr (.inr e))
    refine (of_none h h1 h2 h3 _ w).mono ?_
    rintro e w' ⟨rfl, hB⟩
    exact ⟨_, rfl, by rw [Sha.sum_none h1 h2 h3]; exact OwnB.nil _ _, hB⟩

end Go.Proofs.YthigbggacgiamaaDoor
