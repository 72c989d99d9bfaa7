/-
  The program's codes under a key.
-/
import Derived.Test.YtbcboldepghgpaaGreatDoorShaJ
set_option linter.unusedVariables false
set_option linter.unusedSimpArgs false
set_option maxRecDepth 100000
namespace Go.Proofs.YtbcboldepghgpaaGreatDoor
open Go.RowKit
namespace Mac
/-- A key, filled up with noughts, under a byte. -/
def padb (key : List UInt8) (x : UInt8) : Nat → List UInt8
  | 0 => []
  | k + 1 => padb key x k ++ [nth key k ^^^ x]
theorem padb_len (key : List UInt8) (x : UInt8) : ∀ k, (padb key x k).length = k
  | 0 => rfl
  | k + 1 => by rw [padb, List.length_append, padb_len key x k]; rfl
/-- The key that is used: a long one by its sum. -/
def keyOf (h : Int) (key : List UInt8) : List UInt8 := if Sha.blockLen h < key.length then Sha.sum h key else key
/-- A code. -/
def code (h : Int) (key l : List UInt8) : List UInt8 := Sha.sum h (padb (keyOf h key) 92 (Sha.blockLen h) ++ Sha.sum h (padb (keyOf h key) 54 (Sha.blockLen h) ++ l))
theorem code_len (h : Int) (key l : List UInt8) : (code h key l).length = Sha.size h := Sha.sum_len _ _
theorem blockLen_le (h : Int) : Sha.blockLen h ≤ 128 := by unfold Sha.blockLen; (repeat' split) <;> omega
theorem size_le (h : Int) : Sha.size h ≤ 64 := by unfold Sha.size; (repeat' split) <;> omega
theorem size_pos {h : Int} (hh : h = 1 ∨ h = 2 ∨ h = 3) : 0 < Sha.size h := by rcases hh with rfl | rfl | rfl <;> decide
end Mac
theorem new_all (h : Int) (hh : h = 1 ∨ h = 2 ∨ h = 3) (w : World) : Calls Tryz.prog 39 #[.int .i64 h] w fun e w' => ∃ g, e = .returned (.pointer (some ⟨g, 0, none⟩)) ∧ g = w.heap.size ∧ (∀ z, DigOff w' w'.heap.size g z h []) ∧ Below w.heap.size w w' := by
  rcases hh with rfl | rfl | rfl
  · refine (new_1 w).mono ?_
    rintro e w' ⟨rfl, hb, hB⟩
    exact ⟨_, rfl, rfl, fun z => ⟨none, 0, hb, ⟨rfl, Reads.none_⟩, Nat.le_refl _, fun _ => rfl, fun _ _ e => by cases e⟩, hB⟩
  · refine (new_2 w).mono ?_
    rintro e w' ⟨rfl, hb, hB⟩
    exact ⟨_, rfl, rfl, fun z => ⟨none, 0, hb, ⟨rfl, Reads.none_⟩, Nat.le_refl _, fun _ => rfl, fun _ _ e => by cases e⟩, hB⟩
  · refine (new_3 w).mono ?_
    rintro e w' ⟨rfl, hb, hB⟩
    exact ⟨_, rfl, rfl, fun z => ⟨none, 0, hb, ⟨rfl, Reads.none_⟩, Nat.le_refl _, fun _ => rfl, fun _ _ e => by cases e⟩, hB⟩
theorem clone_all (g : Nat) (h : Int) (l : List UInt8) (w : World) (hd : DigAt w w.heap.size g h l) :
    Calls Tryz.prog 64 #[.pointer (some ⟨g, 0, none⟩)] w fun e w' => ∃ gn, e = .returned (.pointer (some ⟨gn, 0, none⟩)) ∧ gn = w.heap.size ∧ (∀ z, z ≤ w.heap.size ∨ w'.heap.size ≤ z → DigOff w' w'.heap.size gn z h l) ∧ Below w.heap.size w w' := by
  refine (clone_far g h l w hd).mono ?_
  rintro e w' ⟨rfl, k, kB⟩
  exact ⟨_, rfl, rfl, k, kB⟩
theorem enter_clone (args : Array Value) (w : World) : (callFunc 64 args).run Tryz.prog w = .ok (.enter 64 args) w := by kernel_rfl
/-- A code's maker: two boxes that hold two digests. -/
structure Keyed (w : World) (h : Int) (p q : List UInt8) (b1 b2 : Nat) : Prop where
  is : ∃ g1 g2, Blk w b1 47 #[.pointer (some ⟨g1, 0, none⟩)] ∧ Blk w b2 47 #[.pointer (some ⟨g2, 0, none⟩)] ∧ DigAt w w.heap.size g1 h p ∧ DigAt w w.heap.size g2 h q
theorem Keyed.below {w w' : World} {h : Int} {p q : List UInt8} {b1 b2 : Nat} (hk : Keyed w h p q b1 b2) (hb : Below w.heap.size w w') : Keyed w' h p q b1 b2 := by
  obtain ⟨g1, g2, k1, k2, k3, k4⟩ := hk.is
  exact ⟨g1, g2, k1.below hb k1.lt, k2.below hb k2.lt, k3.below hb, k4.below hb⟩
theorem after_below {w u : World} (h : Below w.heap.size w u) : Below w.heap.size w u := h
theorem run_load_p (ad : Addr) (v : Value) (w : World) (h : w.cell? ad = some v) : (loadVar 47 ad).run Tryz.prog w = .ok v w := by
  simp [go_sem, loadVar, h]
/-- Worlds in which all of w is as it was (as one word). -/
def InA (w : World) (u : World) : Prop := Below w.heap.size w u
set_option maxHeartbeats 4000000 in
set_option maxRecDepth 100000 in
theorem code_any (h : Int) (hh : h = 1 ∨ h = 2 ∨ h = 3) (p q : List UInt8) (b1 b2 : Nat) (A : Option Addr) (n c : Nat) (ps : List Part) (w : World) (hk : Keyed w h p q b1 b2) (hp : Parts w w.heap.size A n ps) (hn : n ≤ 1000000) (htb : Tabs w) :
    Calls Tryz.prog 63 #[.slice A n c, .pointer (some ⟨b1, 0, none⟩), .pointer (some ⟨b2, 0, none⟩)] w fun e w' => ∃ v, e = .returned v ∧ OwnB w' w.heap.size v (Sha.sum h (q ++ Sha.sum h (p ++ joined ps))) ∧ Below w.heap.size w w' := by
  have Hh := hd hh
  clear hh
  obtain ⟨g1, g2, k1, k2, hd1, hd2⟩ := hk.is
  have c1 : ∀ W, InA w W → W.cell? ⟨b1, 0, none⟩ = some (.pointer (some ⟨g1, 0, none⟩)) := fun W hW => (Below.cell hW k1.lt).trans (k1.cell 0)
  have c2 : ∀ W, InA w W → W.cell? ⟨b2, 0, none⟩ = some (.pointer (some ⟨g2, 0, none⟩)) := fun W hW => (Below.cell hW k2.lt).trans (k2.cell 0)
  go_enter Tryz.func63, Tryz.ntmps63
  go_wp2
  apply region_partF (R := fun (F : Nat → Nat → Act) a' w' => ∃ ga gb, a' = F ga gb ∧ w.heap.size ≤ ga ∧ w.heap.size ≤ gb ∧ ga ≠ gb ∧ DigAt w' w'.heap.size ga h p ∧ DigOff w' w'.heap.size gb ga h q ∧ Below w.heap.size w w')
  · have hD : Below w.heap.size w w.drew := (Below.refl _ _).drew
    have hD0 : InA w w.drew := hD
    refine wp_region_held_drew (S := InA w) (by kernel_rfl) hD0 ?_
    intro _
    refine held_take 0 (o := _) rfl (by kernel_rfl) (by kernel_rfl) (by kernel_rfl) rfl (.pointer (some ⟨g1, 0, none⟩)) (fun _ _ _ h => h) (fun W hW => run_execOp_load (by rfl) (by simp [Act.eval]) (run_load_p ⟨b1, 0, none⟩ _ W (c1 W hW))) (by assumption) ?_
    simp only [Act.put, List.getElem_toArray, List.getElem_cons_succ, List.getElem_cons_zero, List.setIfInBounds_toArray, List.set_cons_zero, List.set_cons_succ]
    refine held_take 2 (o := _) rfl (by kernel_rfl) (by kernel_rfl) (by kernel_rfl) rfl (.pointer (some ⟨g2, 0, none⟩)) (fun _ _ _ h => h) (fun W hW => run_execOp_load (by rfl) (by simp [Act.eval]) (run_load_p ⟨b2, 0, none⟩ _ W (c2 W hW))) (by assumption) ?_
    simp only [Act.put, List.getElem_toArray, List.getElem_cons_succ, List.getElem_cons_zero, List.setIfInBounds_toArray, List.set_cons_zero, List.set_cons_succ]
    refine held_callG 1 (by kernel_rfl) (o := _) rfl (by rfl) 64 _ _ rfl #[.pointer (some ⟨g1, 0, none⟩)] (by simp [Act.eval]) (enter_clone _) ?_
    refine (clone_all g1 h p w.drew (hd1.below hD)).mono ?_
    rintro e u1 ⟨ga, rfl, e1, k1, kB1⟩
    have hD1 : Below w.heap.size w u1 := hD.trans kB1
    have hD1' : InA w u1 := hD1
    refine ⟨_, rfl, hD1', ?_⟩
    intro _
    simp only [Act.put, List.getElem_toArray, List.getElem_cons_succ, List.getElem_cons_zero, List.setIfInBounds_toArray, List.set_cons_zero, List.set_cons_succ]
    refine held_callG 3 (by kernel_rfl) (o := _) rfl (by rfl) 64 _ _ rfl #[.pointer (some ⟨g2, 0, none⟩)] (by simp [Act.eval]) (enter_clone _) ?_
    refine (clone_all g2 h q u1 (hd2.below hD1)).mono ?_
    rintro e u2 ⟨gb, rfl, e2, k2, kB2⟩
    have hs1 : w.drew.heap.size ≤ u1.heap.size := kB1.size
    have hs0 : w.drew.heap.size = w.heap.size := rfl
    have hl1 : ga < u1.heap.size := (k1 ga (.inl (by omega))).lt
    have hD2 : InA w u2 := hD1.trans (kB2.mono hD1.size)
    refine ⟨_, rfl, hD2, ?_⟩
    intro _
    simp only [Act.put, List.getElem_toArray, List.getElem_cons_succ, List.getElem_cons_zero, List.setIfInBounds_toArray, List.set_cons_zero, List.set_cons_succ]
    refine held_take 4 (o := _) rfl (by kernel_rfl) (by kernel_rfl) (by kernel_rfl) rfl (.pointer (some ⟨ga, 0, none⟩)) (fun _ _ _ h => h) (fun W hW => run_assign (by rfl) (by simp [Act.eval]) W) (by assumption) ?_
    simp only [Act.put, List.getElem_toArray, List.getElem_cons_succ, List.getElem_cons_zero, List.setIfInBounds_toArray, List.set_cons_zero, List.set_cons_succ]
    refine held_take 5 (o := _) rfl (by kernel_rfl) (by kernel_rfl) (by kernel_rfl) rfl (.pointer (some ⟨gb, 0, none⟩)) (fun _ _ _ h => h) (fun W hW => run_assign (by rfl) (by simp [Act.eval]) W) (by assumption) ?_
    simp only [Act.put, List.getElem_toArray, List.getElem_cons_succ, List.getElem_cons_zero, List.setIfInBounds_toArray, List.set_cons_zero, List.set_cons_succ]
    refine wpAnyH_done (by kernel_rfl) ?_ _
    exact ⟨ga, gb, rfl, by omega, by omega, by omega, ((k1 ga (.inl (by omega))).at_).below kB2, k2 ga (.inl (by omega)), hD1.trans (kB2.mono hD1.size)⟩
  · rintro a2 w1 ⟨ga, gb, rfl, hga, hgb, hne, hda, hdb, hB1⟩
    go_wp2
    clear c1 c2
    go_loopw [8, 15] (fun _ i wr => ∃ k : Nat, k ≤ n ∧ i = .int .i64 (k : Int) ∧ DigAt wr wr.heap.size ga h (p ++ joined (ps.take k)) ∧ DigOff wr wr.heap.size gb ga h q ∧ Below w.heap.size w wr) (fun _ i _ => (n - intOf i).toNat)
    case atStart => exact ⟨0, by omega, rfl, by rw [List.take_zero]; simpa [joined] using hda, hdb, hB1⟩
    case round =>
      clear hda hdb hB1
      obtain ⟨k, hk', rfl, hda, hdb, hB1⟩ := hrel
      have htr := htb.below hB1
      by_cases hlt : k < n
      · have t1 : (k : Int) < (n : Int) := by omega
        have t2 : (0 : Int) ≤ (k : Int) := by omega
        have wk : IntKind.i64.wrap ((k : Int) + 1) = (k : Int) + 1 := IntWalk.i64_in _ (by omega)
        obtain ⟨ad, rfl, hab, hc, hr, hpn⟩ := (hp.below hB1).is k hlt
        have Hj := hd (joined_more ps k (by rw [hp.len]; exact hlt))
        obtain ⟨P, HP⟩ : ∃ p, Hd (part ps k = p) := ⟨_, ⟨rfl⟩⟩
        rw [HP.out] at hc hr hpn Hj
        have hr1 : ReadsB wr wr.heap.size P.D P.n P.t := ⟨hr.len, hr.is.more hB1.size⟩
        have hneP : 0 < P.n → ∀ ad', P.D = some ad' → ad'.block ≠ ga := fun h0 ad' e => by
          obtain ⟨a2, e2, hb2, _⟩ := hr.is.2 h0
          rw [e2] at e; injection e with e; subst e; omega
        go_wp2_with (first | (go_at_call 50; refine (write_at ga h Hh.out (p ++ joined (ps.take k)) P.D P.n P.d P.t wr hda htr hr1 hneP hpn).mono ?_; rintro e w2 ⟨rfl, hd3, hg3⟩))
        go_roundw
        case rel => exact ⟨k + 1, by omega, by congr 1 <;> omega, by rw [Hj.out, ← List.append_assoc]; exact hd3, hdb.grown hg3 hne, hB1.grown hg3 hB1.size (fun k hk => by injection hk; omega)⟩
        case measure => simp [intOf] <;> omega
      · have ek : k = n := by omega
        subst ek
        have t1 : ¬ (k : Int) < (k : Int) := by omega
        have hall : joined (ps.take k) = joined ps := by rw [← hp.len, List.take_length]
        rw [hall] at hda
        obtain ⟨I, HI⟩ : ∃ x, Hd (Sha.sum h (p ++ joined ps) = x) := ⟨_, ⟨rfl⟩⟩
        have HIl := hd (show I.length = Sha.size h by rw [← HI.out, Sha.sum_len])
        have hsp := Mac.size_pos Hh.out
        have hsl := Mac.size_le h
        go_wp2_with (first | (go_at_call 51; refine (sum_at gb h Hh.out (q ++ I) w3 hd3 (htb.below hB3)).mono ?_; rintro e w4 ⟨v4, rfl, own4, hB4⟩) | (go_at_call 50; refine (write_at gb h Hh.out q (some ⟨gi, 0, none⟩) I.length ci I w2 hdb2 (htr.below hB2) own2.reads_any.2 (fun _ ad e => by injection e with e; subst e; have := hdb.lt; show gi ≠ gb; omega) (by rw [HIl.out]; omega)).mono ?_; rintro e w3 ⟨rfl, hd3, hg3⟩; have hB3 : Below w.heap.size w w3 := (hB1.trans (hB2.mono hB1.size)).grown hg3 (Nat.le_trans hB1.size hB2.size) (fun k hk => by injection hk; omega)) | (go_at_call 51; refine (sum_at ga h Hh.out (p ++ joined ps) wr hda htr).mono ?_; rintro e w2 ⟨v2, rfl, own2, hB2⟩; rw [HI.out] at own2; obtain ⟨gi, ci, ei, hgi1, hgi2, hgi3⟩ := own2.form (by rw [HIl.out]; exact hsp); subst ei; have hdb2 := hdb.at_.below hB2))
        go_ret
        exact ⟨_, rfl, by rw [HI.out]; exact own4.low hB3.size, hB3.trans (hB4.mono hB3.size)⟩
end Go.Proofs.YtbcboldepghgpaaGreatDoor
