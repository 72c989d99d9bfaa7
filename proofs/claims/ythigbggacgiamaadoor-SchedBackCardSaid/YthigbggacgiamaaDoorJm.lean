/-
  The program's codes under a key.
  A code's maker; codes; what is made of them.
  mac.Expand.
  The program's labels: counted, Expand, Derive.
  The program's steps: Derive, step, Early, Handshake, Master, Update, Finished.
-/
import Derived.Test.YthigbggacgiamaaDoorShaJ
import Derived.Test.YthigbggacgiamaaDoorJa
import Derived.Laws.IdiomStrings
set_option linter.unusedVariables false
set_option linter.unusedSimpArgs false
set_option maxRecDepth 100000
namespace Go.Proofs.YthigbggacgiamaaDoor
open Go.RowKit
namespace Mac
/-- A key, filled up with noughts, under a byte. -/
def padb (key : List UInt8) (x : UInt8) : Nat → List UInt8
  | 0 => []
  | k + 1 => padb key x k ++ [nth key k ^^^ x]
theorem padb_len (key : List UInt8) (x : UInt8) : ∀ k, (padb key x k).length = k
  | 0 => rfl
  | k + 1 => by rw [padb, List.length_append, padb_len key x k]; rfl
/-- The key that is used: a long one by its sum. -/
def keyOf (h : Int) (key : List UInt8) : List UInt8 := if Sha.blockLen h < key.length then Sha.sum h key else key
/-- A code. -/
def code (h : Int) (key l : List UInt8) : List UInt8 := Sha.sum h (padb (keyOf h key) 92 (Sha.blockLen h) ++ Sha.sum h (padb (keyOf h key) 54 (Sha.blockLen h) ++ l))
theorem code_len (h : Int) (key l : List UInt8) : (code h key l).length = Sha.size h := Sha.sum_len _ _
theorem blockLen_le (h : Int) : Sha.blockLen h ≤ 128 := by unfold Sha.blockLen; (repeat' split) <;> omega
theorem size_le (h : Int) : Sha.size h ≤ 64 := by unfold Sha.size; (repeat' split) <;> omega
theorem size_pos {h : Int} (hh : h = 1 ∨ h = 2 ∨ h = 3) : 0 < Sha.size h := by rcases hh with rfl | rfl | rfl <;> decide
end Mac
theorem new_all (h : Int) (hh : h = 1 ∨ h = 2 ∨ h = 3) (w : World) : Calls Tryd.prog 22 #[.int .i64 h] w fun e w' => ∃ g, e = .returned (.pointer (some ⟨g, 0, none⟩)) ∧ g = w.heap.size ∧ (∀ z, DigOff w' w'.heap.size g z h []) ∧ Below w.heap.size w w' := by
  rcases hh with rfl | rfl | rfl
  · refine (new_1 w).mono ?_
    rintro e w' ⟨rfl, hb, hB⟩
    exact ⟨_, rfl, rfl, fun z => ⟨none, 0, hb, ⟨rfl, Reads.none_⟩, Nat.le_refl _, fun _ => rfl, fun _ _ e => by cases e⟩, hB⟩
  · refine (new_2 w).mono ?_
    rintro e w' ⟨rfl, hb, hB⟩
    exact ⟨_, rfl, rfl, fun z => ⟨none, 0, hb, ⟨rfl, Reads.none_⟩, Nat.le_refl _, fun _ => rfl, fun _ _ e => by cases e⟩, hB⟩
  · refine (new_3 w).mono ?_
    rintro e w' ⟨rfl, hb, hB⟩
    exact ⟨_, rfl, rfl, fun z => ⟨none, 0, hb, ⟨rfl, Reads.none_⟩, Nat.le_refl _, fun _ => rfl, fun _ _ e => by cases e⟩, hB⟩
theorem clone_all (g : Nat) (h : Int) (l : List UInt8) (w : World) (hd : DigAt w w.heap.size g h l) :
    Calls Tryd.prog 45 #[.pointer (some ⟨g, 0, none⟩)] w fun e w' => ∃ gn, e = .returned (.pointer (some ⟨gn, 0, none⟩)) ∧ gn = w.heap.size ∧ (∀ z, z ≤ w.heap.size ∨ w'.heap.size ≤ z → DigOff w' w'.heap.size gn z h l) ∧ Below w.heap.size w w' := by
  refine (clone_far g h l w hd).mono ?_
  rintro e w' ⟨rfl, k, kB⟩
  exact ⟨_, rfl, rfl, k, kB⟩
theorem enter_clone (args : Array Value) (w : World) : (callFunc 45 args).run Tryd.prog w = .ok (.enter 45 args) w := by kernel_rfl
/-- A code's maker: two boxes that hold two digests. -/
structure Keyed (w : World) (h : Int) (p q : List UInt8) (b1 b2 : Nat) : Prop where
  is : ∃ g1 g2, Blk w b1 58 #[.pointer (some ⟨g1, 0, none⟩)] ∧ Blk w b2 58 #[.pointer (some ⟨g2, 0, none⟩)] ∧ DigAt w w.heap.size g1 h p ∧ DigAt w w.heap.size g2 h q
theorem Keyed.below {w w' : World} {h : Int} {p q : List UInt8} {b1 b2 : Nat} (hk : Keyed w h p q b1 b2) (hb : Below w.heap.size w w') : Keyed w' h p q b1 b2 := by
  obtain ⟨g1, g2, k1, k2, k3, k4⟩ := hk.is
  exact ⟨g1, g2, k1.below hb k1.lt, k2.below hb k2.lt, k3.below hb, k4.below hb⟩
theorem after_below {w u : World} (h : Below w.heap.size w u) : Below w.heap.size w u := h
theorem run_load_p (ad : Addr) (v : Value) (w : World) (h : w.cell? ad = some v) : (loadVar 58 ad).run Tryd.prog w = .ok v w := by
  simp [go_sem, loadVar, h]
/-- Worlds in which all of w is as it was (as one word). -/
def InA (w : World) (u : World) : Prop := Below w.heap.size w u
set_option maxHeartbeats 4000000 in
set_option maxRecDepth 100000 in
theorem code_any (h : Int) (hh : h = 1 ∨ h = 2 ∨ h = 3) (p q : List UInt8) (b1 b2 : Nat) (A : Option Addr) (n c : Nat) (ps : List Part) (w : World) (hk : Keyed w h p q b1 b2) (hp : Parts w w.heap.size A n ps) (hn : n ≤ 1000000) (htb : Tabs w) :
    Calls Tryd.prog 44 #[.slice A n c, .pointer (some ⟨b1, 0, none⟩), .pointer (some ⟨b2, 0, none⟩)] w fun e w' => ∃ v, e = .returned v ∧ OwnB w' w.heap.size v (Sha.sum h (q ++ Sha.sum h (p ++ joined ps))) ∧ Below w.heap.size w w' := by
  have Hh := hd hh
  clear hh
  obtain ⟨g1, g2, k1, k2, hd1, hd2⟩ := hk.is
  have c1 : ∀ W, InA w W → W.cell? ⟨b1, 0, none⟩ = some (.pointer (some ⟨g1, 0, none⟩)) := fun W hW => (Below.cell hW k1.lt).trans (k1.cell 0)
  have c2 : ∀ W, InA w W → W.cell? ⟨b2, 0, none⟩ = some (.pointer (some ⟨g2, 0, none⟩)) := fun W hW => (Below.cell hW k2.lt).trans (k2.cell 0)
  go_enter Tryd.func44, Tryd.ntmps44
  go_wp2
  apply region_partF (R := fun (F : Nat → Nat → Act) a' w' => ∃ ga gb, a' = F ga gb ∧ w.heap.size ≤ ga ∧ w.heap.size ≤ gb ∧ ga ≠ gb ∧ DigAt w' w'.heap.size ga h p ∧ DigOff w' w'.heap.size gb ga h q ∧ Below w.heap.size w w')
  · have hD : Below w.heap.size w w.drew := (Below.refl _ _).drew
    have hD0 : InA w w.drew := hD
    refine wp_region_held_drew (S := InA w) (by kernel_rfl) hD0 ?_
    intro _
    refine held_take 0 (o := _) rfl (by kernel_rfl) (by kernel_rfl) (by kernel_rfl) rfl (.pointer (some ⟨g1, 0, none⟩)) (fun _ _ _ h => h) (fun W hW => run_execOp_load (by rfl) (by simp [Act.eval]) (run_load_p ⟨b1, 0, none⟩ _ W (c1 W hW))) (by assumption) ?_
    simp only [Act.put, List.getElem_toArray, List.getElem_cons_succ, List.getElem_cons_zero, List.setIfInBounds_toArray, List.set_cons_zero, List.set_cons_succ]
    refine held_take 2 (o := _) rfl (by kernel_rfl) (by kernel_rfl) (by kernel_rfl) rfl (.pointer (some ⟨g2, 0, none⟩)) (fun _ _ _ h => h) (fun W hW => run_execOp_load (by rfl) (by simp [Act.eval]) (run_load_p ⟨b2, 0, none⟩ _ W (c2 W hW))) (by assumption) ?_
    simp only [Act.put, List.getElem_toArray, List.getElem_cons_succ, List.getElem_cons_zero, List.setIfInBounds_toArray, List.set_cons_zero, List.set_cons_succ]
    refine held_callG 1 (by kernel_rfl) (o := _) rfl (by rfl) 45 _ _ rfl #[.pointer (some ⟨g1, 0, none⟩)] (by simp [Act.eval]) (enter_clone _) ?_
    refine (clone_all g1 h p w.drew (hd1.below hD)).mono ?_
    rintro e u1 ⟨ga, rfl, e1, k1, kB1⟩
    have hD1 : Below w.heap.size w u1 := hD.trans kB1
    have hD1' : InA w u1 := hD1
    refine ⟨_, rfl, hD1', ?_⟩
    intro _
    simp only [Act.put, List.getElem_toArray, List.getElem_cons_succ, List.getElem_cons_zero, List.setIfInBounds_toArray, List.set_cons_zero, List.set_cons_succ]
    refine held_callG 3 (by kernel_rfl) (o := _) rfl (by rfl) 45 _ _ rfl #[.pointer (some ⟨g2, 0, none⟩)] (by simp [Act.eval]) (enter_clone _) ?_
    refine (clone_all g2 h q u1 (hd2.below hD1)).mono ?_
    rintro e u2 ⟨gb, rfl, e2, k2, kB2⟩
    have hs1 : w.drew.heap.size ≤ u1.heap.size := kB1.size
    have hs0 : w.drew.heap.size = w.heap.size := rfl
    have hl1 : ga < u1.heap.size := (k1 ga (.inl (by omega))).lt
    have hD2 : InA w u2 := hD1.trans (kB2.mono hD1.size)
    refine ⟨_, rfl, hD2, ?_⟩
    intro _
    simp only [Act.put, List.getElem_toArray, List.getElem_cons_succ, List.getElem_cons_zero, List.setIfInBounds_toArray, List.set_cons_zero, List.set_cons_succ]
    refine held_take 4 (o := _) rfl (by kernel_rfl) (by kernel_rfl) (by kernel_rfl) rfl (.pointer (some ⟨ga, 0, none⟩)) (fun _ _ _ h => h) (fun W hW => run_assign (by rfl) (by simp [Act.eval]) W) (by assumption) ?_
    simp only [Act.put, List.getElem_toArray, List.getElem_cons_succ, List.getElem_cons_zero, List.setIfInBounds_toArray, List.set_cons_zero, List.set_cons_succ]
    refine held_take 5 (o := _) rfl (by kernel_rfl) (by kernel_rfl) (by kernel_rfl) rfl (.pointer (some ⟨gb, 0, none⟩)) (fun _ _ _ h => h) (fun W hW => run_assign (by rfl) (by simp [Act.eval]) W) (by assumption) ?_
    simp only [Act.put, List.getElem_toArray, List.getElem_cons_succ, List.getElem_cons_zero, List.setIfInBounds_toArray, List.set_cons_zero, List.set_cons_succ]
    refine wpAnyH_done (by kernel_rfl) ?_ _
    exact ⟨ga, gb, rfl, by omega, by omega, by omega, ((k1 ga (.inl (by omega))).at_).below kB2, k2 ga (.inl (by omega)), hD1.trans (kB2.mono hD1.size)⟩
  · rintro a2 w1 ⟨ga, gb, rfl, hga, hgb, hne, hda, hdb, hB1⟩
    go_wp2
    clear c1 c2
    go_loopw [8, 15] (fun _ i wr => ∃ k : Nat, k ≤ n ∧ i = .int .i64 (k : Int) ∧ DigAt wr wr.heap.size ga h (p ++ joined (ps.take k)) ∧ DigOff wr wr.heap.size gb ga h q ∧ Below w.heap.size w wr) (fun _ i _ => (n - intOf i).toNat)
    case atStart => exact ⟨0, by omega, rfl, by rw [List.take_zero]; simpa [joined] using hda, hdb, hB1⟩
    case round =>
      clear hda hdb hB1
      obtain ⟨k, hk', rfl, hda, hdb, hB1⟩ := hrel
      have htr := htb.below hB1
      by_cases hlt : k < n
      · have t1 : (k : Int) < (n : Int) := by omega
        have t2 : (0 : Int) ≤ (k : Int) := by omega
        have wk : IntKind.i64.wrap ((k : Int) + 1) = (k : Int) + 1 := IntWalk.i64_in _ (by omega)
        obtain ⟨ad, rfl, hab, hc, hr, hpn⟩ := (hp.below hB1).is k hlt
        have Hj := hd (joined_more ps k (by rw [hp.len]; exact hlt))
        obtain ⟨P, HP⟩ : ∃ p, Hd (part ps k = p) := ⟨_, ⟨rfl⟩⟩
        rw [HP.out] at hc hr hpn Hj
        have hr1 : ReadsB wr wr.heap.size P.D P.n P.t := ⟨hr.len, hr.is.more hB1.size⟩
        have hneP : 0 < P.n → ∀ ad', P.D = some ad' → ad'.block ≠ ga := fun h0 ad' e => by
          obtain ⟨a2, e2, hb2, _⟩ := hr.is.2 h0
          rw [e2] at e; injection e with e; subst e; omega
        go_wp2_with (first | (go_at_call 43; refine (write_at ga h Hh.out (p ++ joined (ps.take k)) P.D P.n P.d P.t wr hda htr hr1 hneP hpn).mono ?_; rintro e w2 ⟨rfl, hd3, hg3⟩))
        go_roundw
        case rel => exact ⟨k + 1, by omega, by congr 1 <;> omega, by rw [Hj.out, ← List.append_assoc]; exact hd3, hdb.grown hg3 hne, hB1.grown hg3 hB1.size (fun k hk => by injection hk; omega)⟩
        case measure => simp [intOf] <;> omega
      · have ek : k = n := by omega
        subst ek
        have t1 : ¬ (k : Int) < (k : Int) := by omega
        have hall : joined (ps.take k) = joined ps := by rw [← hp.len, List.take_length]
        rw [hall] at hda
        obtain ⟨I, HI⟩ : ∃ x, Hd (Sha.sum h (p ++ joined ps) = x) := ⟨_, ⟨rfl⟩⟩
        have HIl := hd (show I.length = Sha.size h by rw [← HI.out, Sha.sum_len])
        have hsp := Mac.size_pos Hh.out
        have hsl := Mac.size_le h
        go_wp2_with (first | (go_at_call 46; refine (sum_at gb h Hh.out (q ++ I) w3 hd3 (htb.below hB3)).mono ?_; rintro e w4 ⟨v4, rfl, own4, hB4⟩) | (go_at_call 43; refine (write_at gb h Hh.out q (some ⟨gi, 0, none⟩) I.length ci I w2 hdb2 (htr.below hB2) own2.reads_any.2 (fun _ ad e => by injection e with e; subst e; have := hdb.lt; show gi ≠ gb; omega) (by rw [HIl.out]; omega)).mono ?_; rintro e w3 ⟨rfl, hd3, hg3⟩; have hB3 : Below w.heap.size w w3 := (hB1.trans (hB2.mono hB1.size)).grown hg3 (Nat.le_trans hB1.size hB2.size) (fun k hk => by injection hk; omega)) | (go_at_call 46; refine (sum_at ga h Hh.out (p ++ joined ps) wr hda htr).mono ?_; rintro e w2 ⟨v2, rfl, own2, hB2⟩; rw [HI.out] at own2; obtain ⟨gi, ci, ei, hgi1, hgi2, hgi3⟩ := own2.form (by rw [HIl.out]; exact hsp); subst ei; have hdb2 := hdb.at_.below hB2))
        go_ret
        exact ⟨_, rfl, by rw [HI.out]; exact own4.low hB3.size, hB3.trans (hB4.mono hB3.size)⟩
end Go.Proofs.YthigbggacgiamaaDoor

namespace Go.Proofs.YthigbggacgiamaaDoor
open Go.RowKit
theorem zero_ptr : (Tryd.prog.info? 58).bind (·.zero) = some (.pointer none) := by kernel_rfl
theorem Tabs.alloc {w : World} (h : Tabs w) (o : Obj) : Tabs (w.alloc o) := ⟨h.1.alloc o, h.2.alloc o⟩
theorem DigOff.alloc {w : World} {g z : Nat} {h : Int} {l : List UInt8} (hd : DigOff w w.heap.size g z h l) (o : Obj) : DigOff (w.alloc o) (w.alloc o).heap.size g z h l := hd.below ((Below.refl _ _).alloc (Nat.le_refl _) o)
theorem DigOff.far {w : World} {g z : Nat} {h : Int} {l : List UInt8} (hd : DigOff w w.heap.size g z h l) {b : Nat} (hb : w.heap.size ≤ b) (i : Nat) (v : Value) : DigOff (w.setCell ⟨b, i, none⟩ v) (w.setCell ⟨b, i, none⟩ v).heap.size g z h l := hd.below ((Below.refl _ _).setCell (p := ⟨b, i, none⟩) hb v)

set_option maxHeartbeats 4000000 in
set_option maxRecDepth 100000 in
theorem keyed_any (h : Int) (hh : h = 1 ∨ h = 2 ∨ h = 3) (A : Option Addr) (n c : Nat) (key : List UInt8) (w : World) (hr : ReadsB w w.heap.size A n key) (hn : n ≤ 140737488355000) (htb : Tabs w) :
    Calls Tryd.prog 32 #[.int .i64 h, .slice A n c] w fun e w' => ∃ b1 b2, e = .returned (.func (.func 44) #[] #[.pointer (some ⟨b1, 0, none⟩), .pointer (some ⟨b2, 0, none⟩)]) ∧ Keyed w' h (Mac.padb (Mac.keyOf h key) 54 (Sha.blockLen h)) (Mac.padb (Mac.keyOf h key) 92 (Sha.blockLen h)) b1 b2 ∧ Below w.heap.size w w' := by
  have Hh := hd hh
  clear hh
  have hlen := hr.len
  have hbl := Mac.blockLen_le h
  have hsl := Mac.size_le h
  obtain ⟨bl, Hbl⟩ : ∃ x, Hd (Sha.blockLen h = x) := ⟨_, ⟨rfl⟩⟩
  rw [Hbl.out] at hbl ⊢
  have hmf : ∀ (fn : Fn) (first cap : Array Value) (w : World), (Instr.makeFunc fn first cap).run Tryd.prog w = .ok (.func fn first cap) w := fun _ _ _ _ => rfl
  by_cases hgt : bl < n
  · have tg : (bl : Int) < (n : Int) := by omega
    obtain ⟨K, HK⟩ : ∃ x, Hd (Mac.keyOf h key = x) := ⟨_, ⟨rfl⟩⟩
    have HKe := hd (show Sha.sum h (joined [⟨A, n, c, key⟩]) = K by rw [← HK.out, Mac.keyOf, Hbl.out, if_pos (by rw [hlen]; exact hgt)]; simp [joined])
    have HKl := hd (show K.length = Sha.size h by rw [← HK.out, Mac.keyOf, Hbl.out, if_pos (by rw [hlen]; exact hgt), Sha.sum_len])
    have hp := parts_one (c := c) hr hn
    go_enter Tryd.func32, Tryd.ntmps32
    go_wp2_with (first | (go_at_call 22; refine (new_all h Hh.out u1).mono ?_; rintro e u2 ⟨g2, rfl, eg2, d2, hBu2⟩; have Eg2 := hd eg2; clear eg2) | (go_at_call 22; refine (new_all h Hh.out u0).mono ?_; rintro e u1 ⟨g1, rfl, eg1, d1, hBu1⟩; have Eg1 := hd eg1; clear eg1) | (go_at_call 42; refine (shaOf_any h (some ⟨w.heap.size, 0, none⟩) 1 1 [⟨A, n, c, key⟩] (w.alloc (.cells #[.slice A n c] 30)) hp (by omega) (htb.alloc _)).mono ?_; rintro e u0 ⟨v0, rfl, own0, hBo⟩; rw [HKe.out] at own0; obtain ⟨A0, c0, e0⟩ := own0.slice; rw [HKl.out] at e0; obtain ⟨n0, Hn0⟩ : ∃ x, Hd (Sha.size h = x) := ⟨_, ⟨rfl⟩⟩; rw [Hn0.out] at e0 HKl hsl; subst e0) | (go_at_call 41; refine (block_any h w).mono ?_; rintro e w0 ⟨rfl, rfl⟩; rw [Hbl.out]))
    have hr0 : ReadsB u0 u0.heap.size A0 n0 K := by have h := own0.reads_any; exact h.2
    have hB0 : Below w.heap.size w u0 := ((Below.refl w.heap.size w).alloc (Nat.le_refl _) (.cells #[.slice A n c] 30)).trans (hBo.mono (by rw [alloc_size]; omega))
    clear own0 hBo hp
    have k1 : Blk ((u2.alloc (.cells #[.pointer (some ⟨g1, 0, none⟩)] 58)).alloc (.cells #[.pointer (some ⟨g2, 0, none⟩)] 58)) u2.heap.size 58 #[.pointer (some ⟨g1, 0, none⟩)] := (Blk.nu rfl).alloc _
    have k2 : Blk ((u2.alloc (.cells #[.pointer (some ⟨g1, 0, none⟩)] 58)).alloc (.cells #[.pointer (some ⟨g2, 0, none⟩)] 58)) (u2.heap.size + 1) 58 #[.pointer (some ⟨g2, 0, none⟩)] := Blk.nu (alloc_size _ _).symm
    have hl1 := (d1 0).lt
    have hl2 := (d2 0).lt
    have hs1 := hBu1.size
    have hs2 := hBu2.size
    have hg1e := Eg1.out
    have hg2e := Eg2.out
    have d1 := (((d1 g2).below hBu2).alloc (.cells #[.pointer (some ⟨g1, 0, none⟩)] 58)).alloc (.cells #[.pointer (some ⟨g2, 0, none⟩)] 58)
    have d2 := ((d2 g1).alloc (.cells #[.pointer (some ⟨g1, 0, none⟩)] 58)).alloc (.cells #[.pointer (some ⟨g2, 0, none⟩)] 58)
    have hBu2' : Below u0.heap.size u0 u2 := hBu1.trans (hBu2.mono hs1)
    have hB := (hBu2'.alloc hBu2'.size (.cells #[.pointer (some ⟨g1, 0, none⟩)] 58)).alloc (by rw [alloc_size]; omega) (.cells #[.pointer (some ⟨g2, 0, none⟩)] 58)
    obtain ⟨b1, Hb1⟩ : ∃ x, Hd (u2.heap.size = x) := ⟨_, ⟨rfl⟩⟩
    rw [Hb1.out] at k1 k2 hl2 hs2 ⊢
    obtain ⟨W, HW⟩ : ∃ x, Hd ((u2.alloc (.cells #[.pointer (some ⟨g1, 0, none⟩)] 58)).alloc (.cells #[.pointer (some ⟨g2, 0, none⟩)] 58) = x) := ⟨_, ⟨rfl⟩⟩
    rw [HW.out] at k1 k2 d1 d2 hB ⊢
    have hg10 : u0.heap.size ≤ g1 := by omega
    have hg20 : u0.heap.size ≤ g2 := by omega
    have hg12 : g1 < g2 := by omega
    have hg2b : g2 < b1 := by omega
    clear hg1e hg2e hl1 hl2 hs1 hs2 hBu1 hBu2 hBu2'
    go_loopw [8, 9, 25] (fun _ _ i wr => ∃ k : Nat, k ≤ bl ∧ i = .int .i64 (k : Int) ∧ Blk wr b1 58 #[.pointer (some ⟨g1, 0, none⟩)] ∧ Blk wr (b1 + 1) 58 #[.pointer (some ⟨g2, 0, none⟩)] ∧ DigOff wr wr.heap.size g1 g2 h (Mac.padb K 54 k) ∧ DigOff wr wr.heap.size g2 g1 h (Mac.padb K 92 k) ∧ Below u0.heap.size u0 wr) (fun _ _ i _ => bl - (intOf i).toNat)
    case atStart => exact ⟨0, by omega, rfl, k1, k2, d1, d2, hB⟩
    case round =>
      clear k1 k2 d1 d2 hB
      obtain ⟨k, hk, rfl, k1, k2, d1, d2, hB⟩ := hrel
      by_cases hlt : k < bl
      · have t1 : (k : Int) < (bl : Int) := by omega
        have t2 : (0 : Int) ≤ (k : Int) := by omega
        have wk : IntKind.i64.wrap ((k : Int) + 1) = (k : Int) + 1 := IntWalk.i64_in _ (by omega)
        by_cases hkn : k < n0
        · have t3 : (k : Int) < (n0 : Int) := by omega
          have hrr : ReadsB wr u0.heap.size A0 n0 K := ⟨hr0.len, hr0.is.below hB⟩
          obtain ⟨ad, rfl, hab, hc⟩ := hrr.cell hkn
          obtain ⟨x, Hx⟩ : ∃ x, Hd (nth K k = x) := ⟨_, ⟨rfl⟩⟩
          rw [Hx.out] at hc
          have Hp1 := hd (show Mac.padb K 54 (k + 1) = Mac.padb K 54 k ++ [(x ^^^ 54)] by rw [Mac.padb, Hx.out])
          have Hp2 := hd (show Mac.padb K 92 (k + 1) = Mac.padb K 92 k ++ [(x ^^^ 92)] by rw [Mac.padb, Hx.out])
          have c1 : (wr.alloc (.cells #[.int .u8 ((n8 (x ^^^ 54) : Nat) : Int)] 5)).cell? ⟨b1, 0, none⟩ = some (.pointer (some ⟨g1, 0, none⟩)) := (k1.alloc _).cell 0
          have c1' : wr.cell? ⟨b1, 0, none⟩ = some (.pointer (some ⟨g1, 0, none⟩)) := k1.cell 0
          have hg1w := d1.lt
          have hg2w := d2.lt
          have hb1w := k1.lt
          have hb2w := k2.lt
          have htr := htb.below (hB0.trans (hB.mono hB0.size))
          go_wp2_with (first | (go_at_call 43; refine (write_off g2 g1 h Hh.out (Mac.padb K 92 k) (some ⟨u5.heap.size, 0, none⟩) 1 1 [(x ^^^ 92)] (u5.alloc (.cells #[.int .u8 ((n8 (x ^^^ 92) : Nat) : Int)] 5)) (by rw [alloc_size]; omega) (d2'.alloc _) (htb5.alloc _) (by have h := ReadsB.one u5 (x ^^^ 92); rw [← alloc_size u5 (.cells #[.int .u8 ((n8 (x ^^^ 92) : Nat) : Int)] 5)] at h; exact h) (fun _ ad e => by injection e with e; subst e; show u5.heap.size ≠ g2; omega) (by omega)).mono ?_; rintro e u6 ⟨rfl, d2'', hg6⟩) | (go_at_call 43; refine (write_off g1 g2 h Hh.out (Mac.padb K 54 k) (some ⟨wr.heap.size, 0, none⟩) 1 1 [(x ^^^ 54)] (wr.alloc (.cells #[.int .u8 ((n8 (x ^^^ 54) : Nat) : Int)] 5)) (by rw [alloc_size]; omega) (d1.alloc _) (htr.alloc _) (by have h := ReadsB.one wr (x ^^^ 54); rw [← alloc_size wr (.cells #[.int .u8 ((n8 (x ^^^ 54) : Nat) : Int)] 5)] at h; exact h) (fun _ ad e => by injection e with e; subst e; show wr.heap.size ≠ g1; omega) (by omega)).mono ?_; rintro e u5 ⟨rfl, d1', hg5⟩; have d2' := (d2.alloc (.cells #[.int .u8 ((n8 (x ^^^ 54) : Nat) : Int)] 5)).grown hg5 (by omega); have k15 := (k1.alloc (.cells #[.int .u8 ((n8 (x ^^^ 54) : Nat) : Int)] 5)).grown hg5 (by intro e; injection e; omega); have k25 := (k2.alloc (.cells #[.int .u8 ((n8 (x ^^^ 54) : Nat) : Int)] 5)).grown hg5 (by intro e; injection e; omega); have c2 : u5.cell? ⟨b1 + 1, 0, none⟩ = some (.pointer (some ⟨g2, 0, none⟩)) := k25.cell 0; have hB5 := (hB.alloc hB.size (.cells #[.int .u8 ((n8 (x ^^^ 54) : Nat) : Int)] 5)).grown hg5 (by rw [alloc_size]; have := hB.size; omega) (fun k hk => by injection hk; omega); have htb5 := htb.below (hB0.trans (hB5.mono hB0.size)); have hs5 := hg5.size; rw [alloc_size] at hs5))
          have d1'' := (d1'.alloc (.cells #[.int .u8 ((n8 (x ^^^ 92) : Nat) : Int)] 5)).grown hg6 (by omega)
          have k16 := (k15.alloc (.cells #[.int .u8 ((n8 (x ^^^ 92) : Nat) : Int)] 5)).grown hg6 (by intro e; injection e; omega)
          have k26 := (k25.alloc (.cells #[.int .u8 ((n8 (x ^^^ 92) : Nat) : Int)] 5)).grown hg6 (by intro e; injection e; omega)
          have hB6 := (hB5.alloc hB5.size (.cells #[.int .u8 ((n8 (x ^^^ 92) : Nat) : Int)] 5)).grown hg6 (by rw [alloc_size]; have := hB5.size; omega) (fun k hk => by injection hk; omega)
          go_roundw
          case rel => exact ⟨k + 1, by omega, by congr 1 <;> omega, k16, k26, by rw [Hp1.out]; exact d1'', by rw [Hp2.out]; exact d2'', hB6⟩
          case measure => simp [intOf] <;> omega
        · have t3 : ¬ (k : Int) < (n0 : Int) := by omega
          have Hx := hd (show nth K k = 0 by unfold nth; rw [List.getD_eq_getElem?_getD, List.getElem?_eq_none (by rw [hr0.len]; omega)]; rfl)
          have Hp1 := hd (show Mac.padb K 54 (k + 1) = Mac.padb K 54 k ++ [54] by rw [Mac.padb, Hx.out]; rfl)
          have Hp2 := hd (show Mac.padb K 92 (k + 1) = Mac.padb K 92 k ++ [92] by rw [Mac.padb, Hx.out]; rfl)
          have c1 : (wr.alloc (.cells #[.int .u8 54] 5)).cell? ⟨b1, 0, none⟩ = some (.pointer (some ⟨g1, 0, none⟩)) := (k1.alloc _).cell 0
          have c1' : wr.cell? ⟨b1, 0, none⟩ = some (.pointer (some ⟨g1, 0, none⟩)) := k1.cell 0
          have hg1w := d1.lt
          have hg2w := d2.lt
          have hb1w := k1.lt
          have hb2w := k2.lt
          have htr := htb.below (hB0.trans (hB.mono hB0.size))
          go_wp2_with (first | (go_at_call 43; refine (write_off g2 g1 h Hh.out (Mac.padb K 92 k) (some ⟨u5.heap.size, 0, none⟩) 1 1 [92] (u5.alloc (.cells #[.int .u8 92] 5)) (by rw [alloc_size]; omega) (d2'.alloc _) (htb5.alloc _) (by have h := ReadsB.one u5 92; rw [← alloc_size u5 (.cells #[.int .u8 ((n8 92 : Nat) : Int)] 5)] at h; exact h) (fun _ ad e => by injection e with e; subst e; show u5.heap.size ≠ g2; omega) (by omega)).mono ?_; rintro e u6 ⟨rfl, d2'', hg6⟩) | (go_at_call 43; refine (write_off g1 g2 h Hh.out (Mac.padb K 54 k) (some ⟨wr.heap.size, 0, none⟩) 1 1 [54] (wr.alloc (.cells #[.int .u8 54] 5)) (by rw [alloc_size]; omega) (d1.alloc _) (htr.alloc _) (by have h := ReadsB.one wr 54; rw [← alloc_size wr (.cells #[.int .u8 ((n8 54 : Nat) : Int)] 5)] at h; exact h) (fun _ ad e => by injection e with e; subst e; show wr.heap.size ≠ g1; omega) (by omega)).mono ?_; rintro e u5 ⟨rfl, d1', hg5⟩; have d2' := (d2.alloc (.cells #[.int .u8 54] 5)).grown hg5 (by omega); have k15 := (k1.alloc (.cells #[.int .u8 54] 5)).grown hg5 (by intro e; injection e; omega); have k25 := (k2.alloc (.cells #[.int .u8 54] 5)).grown hg5 (by intro e; injection e; omega); have c2 : u5.cell? ⟨b1 + 1, 0, none⟩ = some (.pointer (some ⟨g2, 0, none⟩)) := k25.cell 0; have hB5 := (hB.alloc hB.size (.cells #[.int .u8 54] 5)).grown hg5 (by rw [alloc_size]; have := hB.size; omega) (fun k hk => by injection hk; omega); have htb5 := htb.below (hB0.trans (hB5.mono hB0.size)); have hs5 := hg5.size; rw [alloc_size] at hs5))
          have d1'' := (d1'.alloc (.cells #[.int .u8 92] 5)).grown hg6 (by omega)
          have k16 := (k15.alloc (.cells #[.int .u8 92] 5)).grown hg6 (by intro e; injection e; omega)
          have k26 := (k25.alloc (.cells #[.int .u8 92] 5)).grown hg6 (by intro e; injection e; omega)
          have hB6 := (hB5.alloc hB5.size (.cells #[.int .u8 92] 5)).grown hg6 (by rw [alloc_size]; have := hB5.size; omega) (fun k hk => by injection hk; omega)
          go_roundw
          case rel => exact ⟨k + 1, by omega, by congr 1 <;> omega, k16, k26, by rw [Hp1.out]; exact d1'', by rw [Hp2.out]; exact d2'', hB6⟩
          case measure => simp [intOf] <;> omega
      · have ek : k = bl := by omega
        have t1 : ¬ (k : Int) < (bl : Int) := by omega
        go_wp2
        go_ret
        rw [ek] at d1 d2
        refine ⟨b1, b1 + 1, rfl, ?_, hB0.trans (hB.mono hB0.size)⟩
        rw [HK.out]
        exact ⟨g1, g2, k1, k2, d1.at_, d2.at_⟩
  · have tg : ¬ (bl : Int) < (n : Int) := by omega
    obtain ⟨K, HK⟩ : ∃ x, Hd (Mac.keyOf h key = x) := ⟨_, ⟨rfl⟩⟩
    have HKe := hd (show key = K by rw [← HK.out, Mac.keyOf, Hbl.out, if_neg (by rw [hlen]; exact hgt)])
    go_enter Tryd.func32, Tryd.ntmps32
    go_wp2_with (first | (go_at_call 22; refine (new_all h Hh.out u1).mono ?_; rintro e u2 ⟨g2, rfl, eg2, d2, hBu2⟩; have Eg2 := hd eg2; clear eg2) | (go_at_call 22; refine (new_all h Hh.out w).mono ?_; rintro e u1 ⟨g1, rfl, eg1, d1, hBu1⟩; have Eg1 := hd eg1; clear eg1) | (go_at_call 41; refine (block_any h w).mono ?_; rintro e w0 ⟨rfl, rfl⟩; rw [Hbl.out]))
    have hr0 : ReadsB w w.heap.size A n K := by rw [← HKe.out]; exact hr
    have hB0 : Below w.heap.size w w := Below.refl _ _
    have k1 : Blk ((u2.alloc (.cells #[.pointer (some ⟨g1, 0, none⟩)] 58)).alloc (.cells #[.pointer (some ⟨g2, 0, none⟩)] 58)) u2.heap.size 58 #[.pointer (some ⟨g1, 0, none⟩)] := (Blk.nu rfl).alloc _
    have k2 : Blk ((u2.alloc (.cells #[.pointer (some ⟨g1, 0, none⟩)] 58)).alloc (.cells #[.pointer (some ⟨g2, 0, none⟩)] 58)) (u2.heap.size + 1) 58 #[.pointer (some ⟨g2, 0, none⟩)] := Blk.nu (alloc_size _ _).symm
    have hl1 := (d1 0).lt
    have hl2 := (d2 0).lt
    have hs1 := hBu1.size
    have hs2 := hBu2.size
    have hg1e := Eg1.out
    have hg2e := Eg2.out
    have d1 := (((d1 g2).below hBu2).alloc (.cells #[.pointer (some ⟨g1, 0, none⟩)] 58)).alloc (.cells #[.pointer (some ⟨g2, 0, none⟩)] 58)
    have d2 := ((d2 g1).alloc (.cells #[.pointer (some ⟨g1, 0, none⟩)] 58)).alloc (.cells #[.pointer (some ⟨g2, 0, none⟩)] 58)
    have hBu2' : Below w.heap.size w u2 := hBu1.trans (hBu2.mono hs1)
    have hB := (hBu2'.alloc hBu2'.size (.cells #[.pointer (some ⟨g1, 0, none⟩)] 58)).alloc (by rw [alloc_size]; omega) (.cells #[.pointer (some ⟨g2, 0, none⟩)] 58)
    obtain ⟨b1, Hb1⟩ : ∃ x, Hd (u2.heap.size = x) := ⟨_, ⟨rfl⟩⟩
    rw [Hb1.out] at k1 k2 hl2 hs2 ⊢
    obtain ⟨W, HW⟩ : ∃ x, Hd ((u2.alloc (.cells #[.pointer (some ⟨g1, 0, none⟩)] 58)).alloc (.cells #[.pointer (some ⟨g2, 0, none⟩)] 58) = x) := ⟨_, ⟨rfl⟩⟩
    rw [HW.out] at k1 k2 d1 d2 hB ⊢
    have hg10 : w.heap.size ≤ g1 := by omega
    have hg20 : w.heap.size ≤ g2 := by omega
    have hg12 : g1 < g2 := by omega
    have hg2b : g2 < b1 := by omega
    clear hg1e hg2e hl1 hl2 hs1 hs2 hBu1 hBu2 hBu2'
    go_loopw [8, 9, 25] (fun _ _ i wr => ∃ k : Nat, k ≤ bl ∧ i = .int .i64 (k : Int) ∧ Blk wr b1 58 #[.pointer (some ⟨g1, 0, none⟩)] ∧ Blk wr (b1 + 1) 58 #[.pointer (some ⟨g2, 0, none⟩)] ∧ DigOff wr wr.heap.size g1 g2 h (Mac.padb K 54 k) ∧ DigOff wr wr.heap.size g2 g1 h (Mac.padb K 92 k) ∧ Below w.heap.size w wr) (fun _ _ i _ => bl - (intOf i).toNat)
    case atStart => exact ⟨0, by omega, rfl, k1, k2, d1, d2, hB⟩
    case round =>
      clear k1 k2 d1 d2 hB
      obtain ⟨k, hk, rfl, k1, k2, d1, d2, hB⟩ := hrel
      by_cases hlt : k < bl
      · have t1 : (k : Int) < (bl : Int) := by omega
        have t2 : (0 : Int) ≤ (k : Int) := by omega
        have wk : IntKind.i64.wrap ((k : Int) + 1) = (k : Int) + 1 := IntWalk.i64_in _ (by omega)
        by_cases hkn : k < n
        · have t3 : (k : Int) < (n : Int) := by omega
          have hrr : ReadsB wr w.heap.size A n K := ⟨hr0.len, hr0.is.below hB⟩
          obtain ⟨ad, rfl, hab, hc⟩ := hrr.cell hkn
          obtain ⟨x, Hx⟩ : ∃ x, Hd (nth K k = x) := ⟨_, ⟨rfl⟩⟩
          rw [Hx.out] at hc
          have Hp1 := hd (show Mac.padb K 54 (k + 1) = Mac.padb K 54 k ++ [(x ^^^ 54)] by rw [Mac.padb, Hx.out])
          have Hp2 := hd (show Mac.padb K 92 (k + 1) = Mac.padb K 92 k ++ [(x ^^^ 92)] by rw [Mac.padb, Hx.out])
          have c1 : (wr.alloc (.cells #[.int .u8 ((n8 (x ^^^ 54) : Nat) : Int)] 5)).cell? ⟨b1, 0, none⟩ = some (.pointer (some ⟨g1, 0, none⟩)) := (k1.alloc _).cell 0
          have c1' : wr.cell? ⟨b1, 0, none⟩ = some (.pointer (some ⟨g1, 0, none⟩)) := k1.cell 0
          have hg1w := d1.lt
          have hg2w := d2.lt
          have hb1w := k1.lt
          have hb2w := k2.lt
          have htr := htb.below (hB0.trans (hB.mono hB0.size))
          go_wp2_with (first | (go_at_call 43; refine (write_off g2 g1 h Hh.out (Mac.padb K 92 k) (some ⟨u5.heap.size, 0, none⟩) 1 1 [(x ^^^ 92)] (u5.alloc (.cells #[.int .u8 ((n8 (x ^^^ 92) : Nat) : Int)] 5)) (by rw [alloc_size]; omega) (d2'.alloc _) (htb5.alloc _) (by have h := ReadsB.one u5 (x ^^^ 92); rw [← alloc_size u5 (.cells #[.int .u8 ((n8 (x ^^^ 92) : Nat) : Int)] 5)] at h; exact h) (fun _ ad e => by injection e with e; subst e; show u5.heap.size ≠ g2; omega) (by omega)).mono ?_; rintro e u6 ⟨rfl, d2'', hg6⟩) | (go_at_call 43; refine (write_off g1 g2 h Hh.out (Mac.padb K 54 k) (some ⟨wr.heap.size, 0, none⟩) 1 1 [(x ^^^ 54)] (wr.alloc (.cells #[.int .u8 ((n8 (x ^^^ 54) : Nat) : Int)] 5)) (by rw [alloc_size]; omega) (d1.alloc _) (htr.alloc _) (by have h := ReadsB.one wr (x ^^^ 54); rw [← alloc_size wr (.cells #[.int .u8 ((n8 (x ^^^ 54) : Nat) : Int)] 5)] at h; exact h) (fun _ ad e => by injection e with e; subst e; show wr.heap.size ≠ g1; omega) (by omega)).mono ?_; rintro e u5 ⟨rfl, d1', hg5⟩; have d2' := (d2.alloc (.cells #[.int .u8 ((n8 (x ^^^ 54) : Nat) : Int)] 5)).grown hg5 (by omega); have k15 := (k1.alloc (.cells #[.int .u8 ((n8 (x ^^^ 54) : Nat) : Int)] 5)).grown hg5 (by intro e; injection e; omega); have k25 := (k2.alloc (.cells #[.int .u8 ((n8 (x ^^^ 54) : Nat) : Int)] 5)).grown hg5 (by intro e; injection e; omega); have c2 : u5.cell? ⟨b1 + 1, 0, none⟩ = some (.pointer (some ⟨g2, 0, none⟩)) := k25.cell 0; have hB5 := (hB.alloc hB.size (.cells #[.int .u8 ((n8 (x ^^^ 54) : Nat) : Int)] 5)).grown hg5 (by rw [alloc_size]; have := hB.size; omega) (fun k hk => by injection hk; omega); have htb5 := htb.below (hB0.trans (hB5.mono hB0.size)); have hs5 := hg5.size; rw [alloc_size] at hs5))
          have d1'' := (d1'.alloc (.cells #[.int .u8 ((n8 (x ^^^ 92) : Nat) : Int)] 5)).grown hg6 (by omega)
          have k16 := (k15.alloc (.cells #[.int .u8 ((n8 (x ^^^ 92) : Nat) : Int)] 5)).grown hg6 (by intro e; injection e; omega)
          have k26 := (k25.alloc (.cells #[.int .u8 ((n8 (x ^^^ 92) : Nat) : Int)] 5)).grown hg6 (by intro e; injection e; omega)
          have hB6 := (hB5.alloc hB5.size (.cells #[.int .u8 ((n8 (x ^^^ 92) : Nat) : Int)] 5)).grown hg6 (by rw [alloc_size]; have := hB5.size; omega) (fun k hk => by injection hk; omega)
          go_roundw
          case rel => exact ⟨k + 1, by omega, by congr 1 <;> omega, k16, k26, by rw [Hp1.out]; exact d1'', by rw [Hp2.out]; exact d2'', hB6⟩
          case measure => simp [intOf] <;> omega
        · have t3 : ¬ (k : Int) < (n : Int) := by omega
          have Hx := hd (show nth K k = 0 by unfold nth; rw [List.getD_eq_getElem?_getD, List.getElem?_eq_none (by rw [hr0.len]; omega)]; rfl)
          have Hp1 := hd (show Mac.padb K 54 (k + 1) = Mac.padb K 54 k ++ [54] by rw [Mac.padb, Hx.out]; rfl)
          have Hp2 := hd (show Mac.padb K 92 (k + 1) = Mac.padb K 92 k ++ [92] by rw [Mac.padb, Hx.out]; rfl)
          have c1 : (wr.alloc (.cells #[.int .u8 54] 5)).cell? ⟨b1, 0, none⟩ = some (.pointer (some ⟨g1, 0, none⟩)) := (k1.alloc _).cell 0
          have c1' : wr.cell? ⟨b1, 0, none⟩ = some (.pointer (some ⟨g1, 0, none⟩)) := k1.cell 0
          have hg1w := d1.lt
          have hg2w := d2.lt
          have hb1w := k1.lt
          have hb2w := k2.lt
          have htr := htb.below (hB0.trans (hB.mono hB0.size))
          go_wp2_with (first | (go_at_call 43; refine (write_off g2 g1 h Hh.out (Mac.padb K 92 k) (some ⟨u5.heap.size, 0, none⟩) 1 1 [92] (u5.alloc (.cells #[.int .u8 92] 5)) (by rw [alloc_size]; omega) (d2'.alloc _) (htb5.alloc _) (by have h := ReadsB.one u5 92; rw [← alloc_size u5 (.cells #[.int .u8 ((n8 92 : Nat) : Int)] 5)] at h; exact h) (fun _ ad e => by injection e with e; subst e; show u5.heap.size ≠ g2; omega) (by omega)).mono ?_; rintro e u6 ⟨rfl, d2'', hg6⟩) | (go_at_call 43; refine (write_off g1 g2 h Hh.out (Mac.padb K 54 k) (some ⟨wr.heap.size, 0, none⟩) 1 1 [54] (wr.alloc (.cells #[.int .u8 54] 5)) (by rw [alloc_size]; omega) (d1.alloc _) (htr.alloc _) (by have h := ReadsB.one wr 54; rw [← alloc_size wr (.cells #[.int .u8 ((n8 54 : Nat) : Int)] 5)] at h; exact h) (fun _ ad e => by injection e with e; subst e; show wr.heap.size ≠ g1; omega) (by omega)).mono ?_; rintro e u5 ⟨rfl, d1', hg5⟩; have d2' := (d2.alloc (.cells #[.int .u8 54] 5)).grown hg5 (by omega); have k15 := (k1.alloc (.cells #[.int .u8 54] 5)).grown hg5 (by intro e; injection e; omega); have k25 := (k2.alloc (.cells #[.int .u8 54] 5)).grown hg5 (by intro e; injection e; omega); have c2 : u5.cell? ⟨b1 + 1, 0, none⟩ = some (.pointer (some ⟨g2, 0, none⟩)) := k25.cell 0; have hB5 := (hB.alloc hB.size (.cells #[.int .u8 54] 5)).grown hg5 (by rw [alloc_size]; have := hB.size; omega) (fun k hk => by injection hk; omega); have htb5 := htb.below (hB0.trans (hB5.mono hB0.size)); have hs5 := hg5.size; rw [alloc_size] at hs5))
          have d1'' := (d1'.alloc (.cells #[.int .u8 92] 5)).grown hg6 (by omega)
          have k16 := (k15.alloc (.cells #[.int .u8 92] 5)).grown hg6 (by intro e; injection e; omega)
          have k26 := (k25.alloc (.cells #[.int .u8 92] 5)).grown hg6 (by intro e; injection e; omega)
          have hB6 := (hB5.alloc hB5.size (.cells #[.int .u8 92] 5)).grown hg6 (by rw [alloc_size]; have := hB5.size; omega) (fun k hk => by injection hk; omega)
          go_roundw
          case rel => exact ⟨k + 1, by omega, by congr 1 <;> omega, k16, k26, by rw [Hp1.out]; exact d1'', by rw [Hp2.out]; exact d2'', hB6⟩
          case measure => simp [intOf] <;> omega
      · have ek : k = bl := by omega
        have t1 : ¬ (k : Int) < (bl : Int) := by omega
        go_wp2
        go_ret
        rw [ek] at d1 d2
        refine ⟨b1, b1 + 1, rfl, ?_, hB0.trans (hB.mono hB0.size)⟩
        rw [HK.out]
        exact ⟨g1, g2, k1, k2, d1.at_, d2.at_⟩


theorem Mac.code_none {h : Int} (h1 : ¬ h = 1) (h2 : ¬ h = 2) (h3 : ¬ h = 3) (key l : List UInt8) : Mac.code h key l = [] := Sha.sum_none h1 h2 h3 _
theorem Mac.size_none {h : Int} (h1 : ¬ h = 1) (h2 : ¬ h = 2) (h3 : ¬ h = 3) : Sha.size h = 0 := by unfold Sha.size; rw [if_neg h1, if_neg h2, if_neg h3]
/-- mac.Of, of any hash. -/
theorem macOf_any (h : Int) (A : Option Addr) (n c : Nat) (key : List UInt8) (PA : Option Addr) (pn pc : Nat) (ps : List Part) (w : World) (hr : ReadsB w w.heap.size A n key) (hn : n ≤ 140737488355000) (hp : Parts w w.heap.size PA pn ps) (hpn : pn ≤ 1000000) (htb : Tabs w) :
    Calls Tryd.prog 30 #[.int .i64 h, .slice A n c, .slice PA pn pc] w fun e w' => ∃ v, e = .returned v ∧ OwnB w' w.heap.size v (Mac.code h key (joined ps)) ∧ Below w.heap.size w w' := by
  obtain ⟨S, HS⟩ : ∃ x, Hd (Sha.size h = x) := ⟨_, ⟨rfl⟩⟩
  by_cases hh : h = 1 ∨ h = 2 ∨ h = 3
  · have hs := Mac.size_pos hh
    have Hh := hd hh
    clear hh
    rw [HS.out] at hs
    have hs0 : ¬ (S : Int) = 0 := by omega
    go_enter Tryd.func30, Tryd.ntmps30
    go_wp2_with (first | (go_at_call 44; refine (code_any h Hh.out _ _ b1 b2 PA pn pc ps w1 hk ((hp.below hB1).wide hB1.size) hpn (htb.below hB1)).mono ?_; rintro e w2 ⟨v2, rfl, own2, hB2⟩) | (go_at_call 32; refine (keyed_any h Hh.out A n c key w hr hn htb).mono ?_; rintro e w1 ⟨b1, b2, rfl, hk, hB1⟩) | (go_at_call 20; refine (size_any h w).mono ?_; rintro e w0 ⟨rfl, rfl⟩; rw [HS.out]))
    go_ret
    exact ⟨_, rfl, own2.low hB1.size, hB1.trans (hB2.mono hB1.size)⟩
  · have h1 : ¬ h = 1 := fun e => hh (.inl e)
    have h2 : ¬ h = 2 := fun e => hh (.inr (.inl e))
    have h3 : ¬ h = 3 := fun e => hh (.inr (.inr e))
    have hs : S = 0 := by rw [← HS.out, Mac.size_none h1 h2 h3]
    subst hs
    go_enter Tryd.func30, Tryd.ntmps30
    go_wp2_with (first | (go_at_call 20; refine (size_any h w).mono ?_; rintro e w0 ⟨rfl, rfl⟩; rw [HS.out]))
    go_ret
    exact ⟨_, rfl, by rw [Mac.code_none h1 h2 h3]; exact OwnB.nil _ _, Below.refl _ _⟩
/-- mac.Extract. -/
theorem extract_any (h : Int) (A : Option Addr) (n c : Nat) (key : List UInt8) (D : Option Addr) (m d : Nat) (sec : List UInt8) (w : World) (hr : ReadsB w w.heap.size A n key) (hn : n ≤ 140737488355000) (hs : ReadsB w w.heap.size D m sec) (hm : m ≤ 140737488355000) (htb : Tabs w) :
    Calls Tryd.prog 21 #[.int .i64 h, .slice A n c, .slice D m d] w fun e w' => ∃ v, e = .returned v ∧ OwnB w' w.heap.size v (Mac.code h key sec) ∧ Below w.heap.size w w' := by
  have hB : Below w.heap.size w (w.alloc (.cells #[.slice D m d] 30)) := (Below.refl _ _).alloc (Nat.le_refl _) _
  have hr' : ReadsB (w.alloc (.cells #[.slice D m d] 30)) (w.alloc (.cells #[.slice D m d] 30)).heap.size A n key := ⟨hr.len, (hr.is.below hB).more hB.size⟩
  have hp := parts_one (c := d) hs hm
  go_enter Tryd.func21, Tryd.ntmps21
  go_wp2_with (first | (go_at_call 30; refine (macOf_any h A n c key (some ⟨w.heap.size, 0, none⟩) 1 1 [⟨D, m, d, sec⟩] (w.alloc (.cells #[.slice D m d] 30)) hr' hn hp (by omega) (htb.alloc _)).mono ?_; rintro e w1 ⟨v1, rfl, own1, hB1⟩))
  go_ret
  rw [joined_one] at own1
  exact ⟨_, rfl, own1.low hB.size, hB.trans (hB1.mono hB.size)⟩
end Go.Proofs.YthigbggacgiamaaDoor

namespace Go.Proofs.YthigbggacgiamaaDoor
open Go.RowKit
namespace Mac
/-- The code of the i-th step; all of the first k, one behind the other. -/
def last (h : Int) (key info : List UInt8) : Nat → List UInt8
  | 0 => []
  | i + 1 => code h key (last h key info i ++ info ++ [UInt8.ofNat (i + 1)])
def outs (h : Int) (key info : List UInt8) : Nat → List UInt8
  | 0 => []
  | k + 1 => outs h key info k ++ last h key info (k + 1)
theorem last_len (h : Int) (key info : List UInt8) (i : Nat) : (last h key info (i + 1)).length = Sha.size h := code_len _ _ _
theorem outs_len (h : Int) (key info : List UInt8) : ∀ k, (outs h key info k).length = k * Sha.size h
  | 0 => by simp [outs]
  | k + 1 => by rw [outs, List.length_append, outs_len h key info k, last_len, Nat.succ_mul]
theorem outs_more (h : Int) (key info : List UInt8) (i : Nat) : ∀ d, ∃ r, outs h key info (i + d) = outs h key info i ++ r
  | 0 => ⟨[], by simp⟩
  | d + 1 => by
    obtain ⟨r, hr⟩ := outs_more h key info i d
    exact ⟨r ++ last h key info (i + d + 1), by rw [← Nat.add_assoc, outs, hr, List.append_assoc]⟩
/-- n bytes that are made of a key. -/
def expand (h : Int) (key info : List UInt8) (n : Nat) : List UInt8 := (outs h key info 255).take n
theorem expand_is (h : Int) (key info : List UInt8) (n i : Nat) (hi : i ≤ 255) (hn : n ≤ i * Sha.size h) : (outs h key info i).take n = expand h key info n := by
  obtain ⟨r, hr⟩ := outs_more h key info i (255 - i)
  rw [show i + (255 - i) = 255 by omega] at hr
  rw [expand, hr, List.take_append_of_le_length (by rw [outs_len]; exact hn)]
theorem expand_len (h : Int) (key info : List UInt8) (n : Nat) (hn : n ≤ 255 * Sha.size h) : (expand h key info n).length = n := by
  rw [expand, List.length_take, outs_len]; omega
end Mac
theorem joined_three (p q r : Part) : joined [p, q, r] = p.t ++ q.t ++ r.t := by simp [joined]
theorem parts_three {w : World} {A B C : Option Addr} {n m k c d e : Nat} {s t u : List UInt8} (hs : ReadsB w w.heap.size A n s) (ht : ReadsB w w.heap.size B m t) (hu : ReadsB w w.heap.size C k u) (hn : n ≤ 140737488355000) (hm : m ≤ 140737488355000) (hk : k ≤ 140737488355000) :
    Parts (w.alloc (.cells #[.slice A n c, .slice B m d, .slice C k e] 30)) (w.alloc (.cells #[.slice A n c, .slice B m d, .slice C k e] 30)).heap.size (some ⟨w.heap.size, 0, none⟩) 3 [⟨A, n, c, s⟩, ⟨B, m, d, t⟩, ⟨C, k, e, u⟩] := by
  have hB := (Below.refl w.heap.size w).alloc (Nat.le_refl _) (.cells #[.slice A n c, .slice B m d, .slice C k e] 30)
  have hb := Blk.nu (w := w) (t := 30) (cs := #[.slice A n c, .slice B m d, .slice C k e]) rfl
  refine ⟨rfl, fun i hi => ?_⟩
  refine ⟨_, rfl, by rw [alloc_size]; exact Nat.lt_succ_self _, ?_⟩
  rcases i with _ | _ | _ | i
  · exact ⟨hb.cell 0, ⟨hs.len, (hs.is.below hB).more hB.size⟩, hn⟩
  · exact ⟨hb.cell 1, ⟨ht.len, (ht.is.below hB).more hB.size⟩, hm⟩
  · exact ⟨hb.cell 2, ⟨hu.len, (hu.is.below hB).more hB.size⟩, hk⟩
  · omega
theorem ofNat8_cast (i : Nat) (h : i < 256) : ((n8 (UInt8.ofNat i) : Nat) : Int) = (i : Int) := by
  show (((UInt8.ofNat i).toNat : Nat) : Int) = _
  rw [UInt8.toNat_ofNat', Nat.mod_eq_of_lt h]
def lenOfM : Value → Nat
  | .slice _ n _ => n
  | _ => 0
end Go.Proofs.YthigbggacgiamaaDoor

namespace Go.Proofs.YthigbggacgiamaaDoor
open Go.RowKit
namespace Sched
def byteOf (x : Int) : UInt8 := UInt8.ofBitVec (BitVec.ofInt 8 x)
def head6 : List UInt8 := [116, 108, 115, 49, 51, 32]
/-- How many, in a byte, and these. -/
def count (l : List UInt8) : List UInt8 := byteOf (l.length : Int) :: l
def info (n : Int) (lab ctx : List UInt8) : List UInt8 := [byteOf (n / 256), byteOf n] ++ count (head6 ++ lab) ++ count ctx
def refused (h : Int) (n : Int) (lab ctx : List UInt8) : Prop := Sha.size h = 0 ∨ n < 0 ∨ 255 * (Sha.size h : Int) < n ∨ 65535 < n ∨ 249 < lab.length ∨ 255 < ctx.length
instance (h : Int) (n : Int) (lab ctx : List UInt8) : Decidable (refused h n lab ctx) := by unfold refused; infer_instance
/-- A label's secret; how it is refused. -/
def expand (h : Int) (key lab ctx : List UInt8) (n : Int) : List UInt8 := if refused h n lab ctx then [] else Mac.expand h key (info n lab ctx) n.toNat
def err (h : Int) (lab ctx : List UInt8) (n : Int) : Int := if refused h n lab ctx then 191 else 0
end Sched
theorem mod8 (x : Int) : x % 256 = ((n8 (Sched.byteOf x) : Nat) : Int) := by
  have h := wrap_n8 x
  unfold Sched.byteOf
  simpa [IntKind.wrap, IntKind.bits, IntKind.signed] using h
theorem Sched.count_len (l : List UInt8) : (Sched.count l).length = l.length + 1 := rfl
theorem OwnB.lit2 {w : World} {B : Nat} (hB : B ≤ w.heap.size) (a b : UInt8) : OwnB (w.alloc (.cells #[.int .u8 ((n8 a : Nat) : Int), .int .u8 ((n8 b : Nat) : Int)] 5)) B (.slice (some ⟨w.heap.size, 0, none⟩) 2 2) [a, b] :=
  ⟨rfl, .inr ⟨w.heap.size, 2, _, rfl, hB, heap_alloc_new _ _, Nat.le_refl _, by unfold maxLen; omega, rfl, rfl⟩⟩
theorem run_ofStr (w : World) (l : List UInt8) : ∃ c w', (convert 9 30 (.string (str l))).run Tryd.prog w = .ok (.slice (some ⟨w.heap.size, 0, none⟩) l.length c) w' ∧ ReadsB w' w'.heap.size (some ⟨w.heap.size, 0, none⟩) l.length l ∧ Below w.heap.size w w' := by
  have h := run_bytes_of_string (P := Tryd.prog) w 9 30 5 (str l) Tryd.underlying9 Tryd.underlying30 Tryd.underlying5
  rw [str_size] at h
  refine ⟨_, _, h, ⟨rfl, by rw [List.length_map, Nat.mul_one], fun _ => ⟨_, rfl, ?_, fun j u hu => ?_⟩⟩, ?_⟩
  · show w.heap.size < (w.drew.heap.push _).size
    rw [Array.size_push]; exact Nat.lt_succ_self _
  · have hj : j < l.length := by
      rcases Nat.lt_or_ge j l.length with h | h
      · exact h
      · rw [List.getElem?_eq_none (by rw [List.length_map]; exact h)] at hu; cases hu
    have e : (Addr.mk w.heap.size 0 none).add j = ⟨w.heap.size, j, none⟩ := by unfold Addr.add; split <;> simp_all
    rw [e]
    have h2 := World.cell?_alloc_mark w.drew (bytesRow (str l) (grownCap w l.length 0 5)) 5 ((bytesRow (str l) (grownCap w l.length 0 5)).size, (bytesRow (str l) (grownCap w l.length 0 5)).size + 1) j
    refine h2.trans ?_
    rw [bytesRow_at _ _ j (by simpa [str] using hj), ← hu]
    simp [str, n8, hj]
  · exact (Below.refl _ _).drew.alloc (Nat.le_refl _) _
/-- counted. -/
theorem counted_any (B : Nat) (v : Value) (l : List UInt8) (A : Option Addr) (m c : Nat) (b : List UInt8) (w : World) (hown : OwnB w B v l) (hB : B ≤ w.heap.size) (hr : ReadsB w w.heap.size A m b) (hne : 0 < m → ∀ ad, A = some ad → v.ownBlock ≠ some ad.block) (hlen : l.length + 1 + m ≤ 140737488355328) :
    Calls Tryd.prog 13 #[v, .slice A m c] w fun e w' => ∃ v', e = .returned v' ∧ OwnB w' B v' (l ++ Sched.count b) ∧ Below B w w' := by
  obtain ⟨x, Hx⟩ : ∃ x, Hd (Sched.byteOf (m : Int) = x) := ⟨_, ⟨rfl⟩⟩
  have hx : (m : Int) % 256 = ((n8 x : Nat) : Int) := by rw [← Hx.out]; exact mod8 _
  have Hm := hd hr.len
  have own1 := hown.alloc (.cells #[.int .u8 ((n8 x : Nat) : Int)] 5)
  have hr1 := ReadsB.one w x
  have hra : ReadsB (w.alloc (.cells #[.int .u8 ((n8 x : Nat) : Int)] 5)) w.heap.size A m b := ⟨hr.len, hr.is.alloc (Nat.le_refl _) _⟩
  have hBa : B ≤ (w.alloc (.cells #[.int .u8 ((n8 x : Nat) : Int)] 5)).heap.size := by rw [alloc_size]; omega
  have hBw := (Below.refl B w).alloc hB (.cells #[.int .u8 ((n8 x : Nat) : Int)] 5)
  have hcl : l.length + [x].length ≤ 140737488355328 := by simp; omega
  have hcl2 : (l ++ [x]).length + b.length ≤ 140737488355328 := by rw [List.length_append, Hm.out]; simp; omega
  go_enter Tryd.func13, Tryd.ntmps13
  go_wp2_with (first | (at_builtin; refine wpl_appendB rfl _ _ rfl B v1 (l ++ [x]) rfl own2 w.heap.size A m c b rfl hrb hcl2 hB1 ?_; intro v2 w2 own3 gr2 at2) | (at_builtin; refine wpl_appendB rfl _ _ rfl B v l rfl own1 (w.heap.size + 1) _ 1 1 [x] rfl hr1 hcl hBa ?_; intro v1 w1 own2 gr1 at1; have hrb := reads_away hra gr1 (by rw [alloc_size]; omega) hne; have hB1 : B ≤ w1.heap.size := Nat.le_trans hBa gr1.size; have hBw1 := below_appended hBw own1 gr1 (Nat.le_refl _) hBa))
  go_ret
  refine ⟨_, rfl, ?_, below_appended hBw1 own2 gr2 (Nat.le_refl _) hB1⟩
  rw [Sched.count, Hm.out, Hx.out, show l ++ x :: b = l ++ [x] ++ b by rw [List.append_assoc]; rfl]
  exact own3

end Go.Proofs.YthigbggacgiamaaDoor

namespace Go.Proofs.YthigbggacgiamaaDoor
open Go.RowKit
section
variable {P : Program} {ops : Array Oper} {Q : Exit → Act → World → Prop} {md : Region.Mode} {S : World → Prop} {fuel i : Nat} {listed : Array Bool} {a : Act} {w : World} {o : Oper} {K' : Act → World → Prop}
theorem run_enter {o : Oper} (f : FuncId) (xs : Array Operand) (ats : Array TypeId) (ho : o.op = .call { callee := .value (.func f), args := xs, argTypes := ats }) (args : Array Value) (hargs : xs.map a.eval = args)
    (hfn : ∀ w, (callFunc f args).run P w = .ok (.enter f args) w) : (execOp a.eval o).run P w = .ok (.enter f args) w := by
  obtain ⟨dst, op, type, pos, after, guard⟩ := o
  subst ho
  show (execOp a.eval _).run P w = _
  rw [execOp_call_go]
  have e : #[] ++ xs.map a.eval ++ #[] = args := by rw [hargs]; simp
  rw [e]; exact hfn w
/-- One of several operations that may come up: a call. -/
theorem step_callH (hw : Region.wanted o (yielded ops a.tmps) = true) (f : FuncId) (xs : Array Operand) (ats : Array TypeId) (ho : o.op = .call { callee := .value (.func f), args := xs, argTypes := ats }) (args : Array Value) (hargs : xs.map a.eval = args)
    (hfn : ∀ w, (callFunc f args).run P w = .ok (.enter f args) w) (hK : Shut (∀ a w, S w → (S w → wpAnyH P md ops Q S fuel (listed.setIfInBounds i true) a w) → K' a w))
    (h : Calls P f args w fun e w' => ∃ v, e = .returned v ∧ S w' ∧ (S w' → wpAnyH P md ops Q S fuel (listed.setIfInBounds i true) (a.put o.dst v) w')) : if Region.wanted o (yielded ops a.tmps) = true then Oper.wp P o a w K' Q else K' (a.put o.dst undef) w := by
  rw [if_pos hw]
  unfold Oper.wp
  rw [run_enter f xs ats ho args hargs hfn]
  refine h.mono ?_
  rintro e w' ⟨v, rfl, hS, hW⟩
  exact hK.out _ _ hS hW
/-- .. one that gives a value, and a world. -/
theorem step_doH (hw : Region.wanted o (yielded ops a.tmps) = true) (v : Value) (w2 : World) (hrun : (execOp a.eval o).run P w = .ok (.value v) w2) (hS : S w2) (hK : Shut (∀ a w, S w → (S w → wpAnyH P md ops Q S fuel (listed.setIfInBounds i true) a w) → K' a w))
    (h : S w2 → wpAnyH P md ops Q S fuel (listed.setIfInBounds i true) (a.put o.dst v) w2) : if Region.wanted o (yielded ops a.tmps) = true then Oper.wp P o a w K' Q else K' (a.put o.dst undef) w := by
  rw [if_pos hw]
  unfold Oper.wp
  rw [hrun]
  exact hK.out _ _ hS h
/-- .. one that gives none. -/
theorem step_skipH (hw : Region.wanted o (yielded ops a.tmps) = true) (w2 : World) (hrun : (execOp a.eval o).run P w = .ok .skip w2) (hS : S w2) (hK : Shut (∀ a w, S w → (S w → wpAnyH P md ops Q S fuel (listed.setIfInBounds i true) a w) → K' a w))
    (h : S w2 → wpAnyH P md ops Q S fuel (listed.setIfInBounds i true) (a.put o.dst undef) w2) : if Region.wanted o (yielded ops a.tmps) = true then Oper.wp P o a w K' Q else K' (a.put o.dst undef) w := by
  rw [if_pos hw]
  unfold Oper.wp
  rw [hrun]
  exact hK.out _ _ hS h
end
namespace Sched
def lDerived : List UInt8 := [100, 101, 114, 105, 118, 101, 100]
def lUpdate : List UInt8 := [116, 114, 97, 102, 102, 105, 99, 32, 117, 112, 100]
def lFinished : List UInt8 := [102, 105, 110, 105, 115, 104, 101, 100]
/-- A label's secret, as long as a sum. -/
def derive (h : Int) (key lab ctx : List UInt8) : List UInt8 := expand h key lab ctx (Sha.size h : Int)
def saltOf (h : Int) (fr : List UInt8) : List UInt8 := derive h fr lDerived (Sha.sum h [])
def zeros (h : Int) : List UInt8 := List.replicate (Sha.size h) 0
def early (h : Int) (psk : List UInt8) : List UInt8 := Mac.code h (zeros h) (if psk.length = 0 then zeros h else psk)
theorem derive_len (h : Int) (key lab ctx : List UInt8) : (derive h key lab ctx).length ≤ 64 := by
  unfold derive expand
  split
  · simp
  · rw [Mac.expand_len _ _ _ _ (by omega)]
    exact Mac.size_le h
theorem zeros_len (h : Int) : (zeros h).length = Sha.size h := List.length_replicate
end Sched
theorem enter_shaOf (args : Array Value) (w : World) : (callFunc 42 args).run Tryd.prog w = .ok (.enter 42 args) w := by kernel_rfl
theorem run_load_h (ad : Addr) (v : Value) (w : World) (h : w.cell? ad = some v) : (loadVar 45 ad).run Tryd.prog w = .ok v w := by
  simp [go_sem, loadVar, h]
theorem zero_slice8 : (Tryd.prog.info? 30).bind (·.zero) = some (.slice none 0 0) := by kernel_rfl

theorem early_any (h : Int) (A : Option Addr) (m c : Nat) (psk : List UInt8) (w : World) (hr : ReadsB w w.heap.size A m psk) (hm : m ≤ 140737488355000) (htb : Tabs w) :
    Calls Tryd.prog 9 #[.int .i64 h, .slice A m c] w fun e w' => ∃ v, e = .returned v ∧ OwnB w' w.heap.size v (Sched.early h psk) ∧ Below w.heap.size w w' := by
  have hsl := Mac.size_le h
  have hlen := hr.len
  obtain ⟨n, HS⟩ : ∃ x, Hd (Sha.size h = x) := ⟨_, ⟨rfl⟩⟩
  rw [HS.out] at hsl
  have HZ := hd (show Sched.zeros h = List.replicate n 0 by rw [Sched.zeros, HS.out])
  obtain ⟨w2, hmk, own2, gr2⟩ := run_makeI w w.heap.size n n (Nat.le_refl _) (by omega) (Nat.le_refl _)
  have hB2 : Below w.heap.size w w2 := below_new (Below.refl _ _) gr2 (Nat.le_refl _)
  have hrz : ReadsB w2 w2.heap.size (some ⟨w.heap.size, 0, none⟩) n (List.replicate n 0) := ⟨List.length_replicate, own2.reads_any.2.is⟩
  by_cases h0 : m = 0
  · have HE := hd (show Sched.early h psk = Mac.code h (List.replicate n 0) (List.replicate n 0) by rw [Sched.early, if_pos (by omega), HZ.out])
    subst h0
    go_enter Tryd.func9, Tryd.ntmps9
    go_wp2_with (first | (go_at_call 21; refine (extract_any h (some ⟨w.heap.size, 0, none⟩) n n (List.replicate n 0) (some ⟨w.heap.size, 0, none⟩) n n (List.replicate n 0) w2 hrz (by omega) hrz (by omega) (htb.below hB2)).mono ?_; rintro e w3 ⟨v3, rfl, own3, hB3⟩) | (go_at_call 20; refine (size_any h w).mono ?_; rintro e wz ⟨rfl, rfl⟩; rw [HS.out]))
    go_ret
    exact ⟨_, rfl, by rw [HE.out]; exact own3.low hB2.size, hB2.trans (hB3.mono hB2.size)⟩
  · have HE := hd (show Sched.early h psk = Mac.code h (List.replicate n 0) psk by rw [Sched.early, if_neg (by omega), HZ.out])
    have h0' : ¬ (m : Int) = 0 := by omega
    have hr2 : ReadsB w2 w2.heap.size A m psk := ⟨hr.len, (hr.is.below hB2).more hB2.size⟩
    go_enter Tryd.func9, Tryd.ntmps9
    go_wp2_with (first | (go_at_call 21; refine (extract_any h (some ⟨w.heap.size, 0, none⟩) n n (List.replicate n 0) A m c psk w2 hrz (by omega) hr2 hm (htb.below hB2)).mono ?_; rintro e w3 ⟨v3, rfl, own3, hB3⟩) | (go_at_call 20; refine (size_any h w).mono ?_; rintro e wz ⟨rfl, rfl⟩; rw [HS.out]))
    go_ret
    exact ⟨_, rfl, by rw [HE.out]; exact own3.low hB2.size, hB2.trans (hB3.mono hB2.size)⟩
end Go.Proofs.YthigbggacgiamaaDoor

