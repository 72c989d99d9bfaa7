/-
  The walk of a digest's sum.
-/
import Derived.Test.YthigbggacgiamaaDoorShaH
import Derived.Test.YthigbggacgiamaaDoorJa
set_option linter.unusedVariables false
set_option linter.unusedSimpArgs false
set_option maxRecDepth 100000
namespace Go.Proofs.YthigbggacgiamaaDoor
open Go.RowKit
namespace Sha
/-- The first k words' bytes. -/
def out32 (s : List UInt32) : Nat → List UInt8
  | 0 => []
  | k + 1 => out32 s k ++ spreadTo (Sha32.at_ s k).toUInt64 4 4
def out64 (s : List UInt64) : Nat → List UInt8
  | 0 => []
  | k + 1 => out64 s k ++ spreadTo (Sha64.at_ s k) 8 8
theorem out32_len (s : List UInt32) : ∀ k, (out32 s k).length = 4 * k
  | 0 => rfl
  | k + 1 => by rw [out32, List.length_append, spreadTo_len, out32_len s k]; omega
theorem out64_len (s : List UInt64) : ∀ k, (out64 s k).length = 8 * k
  | 0 => rfl
  | k + 1 => by rw [out64, List.length_append, spreadTo_len, out64_len s k]; omega
/-- The sum of bytes. -/
def sum (h : Int) (l : List UInt8) : List UInt8 :=
  if h = 1 then out32 (st32 1 (l ++ endOf 64 l)) 8 else if h = 2 then (out64 (st64 2 (l ++ endOf 128 l)) 8).take 48 else if h = 3 then out64 (st64 3 (l ++ endOf 128 l)) 8 else []
end Sha
theorem dig_w32 {h : Int} {a : List UInt32} {b : List UInt64} {rest : Value} {n : UInt64} (ha : a.length = 8) (hb : b.length = 8) {z : Nat} (hz : z < 8) : (dig h a b rest n)[1 + z]? = some (W32 (Sha32.at_ a z)) := by
  rw [dig_32, Array.getElem?_append_left (by simp [arr32_size]; omega), Array.getElem?_append_right (by simp)]
  simp only [List.size_toArray, List.length_cons, List.length_nil, Nat.zero_add, Nat.add_sub_cancel_left]
  exact arr32_get a z (by omega)
theorem dig_w64 {h : Int} {a : List UInt32} {b : List UInt64} {rest : Value} {n : UInt64} (ha : a.length = 8) (hb : b.length = 8) {z : Nat} (hz : z < 8) : (dig h a b rest n)[9 + z]? = some (W64 (Sha64.at_ b z)) := by
  rw [dig_32, Array.getElem?_append_right (by simp [arr32_size]; omega), Array.getElem?_append_left (by simp [arr32_size, arr64_size]; omega)]
  have e : 9 + z - (#[Value.int .i64 h] ++ arr32 a).size = z := by simp [arr32_size]; omega
  rw [e]
  exact arr64_get b z (by omega)
set_option maxHeartbeats 4000000 in
set_option maxRecDepth 100000 in
theorem sum_1 (g : Nat) (l : List UInt8) (w : World) (hd0 : DigAt w w.heap.size g 1 l) (htb : Tabs w) :
    Calls Tryd.prog 46 #[.pointer (some ⟨g, 0, none⟩)] w fun e w' => ∃ v, e = .returned v ∧ OwnB w' w.heap.size v (Sha.sum 1 l) ∧ Below w.heap.size w w' := by
  have hglt : g < w.heap.size := by obtain ⟨_, _, h1, _⟩ := hd0; exact h1.lt
  have eb : Sha.bsOf 1 = 64 := rfl
  obtain ⟨r, Hr⟩ : ∃ r, Hd (l.length % 64 = r) := ⟨_, ⟨rfl⟩⟩
  obtain ⟨X, HX⟩ : ∃ X, Hd (UInt64.ofNat l.length = X) := ⟨_, ⟨rfl⟩⟩
  obtain ⟨S1, HS1⟩ : ∃ x, Hd (Sha.st32 1 l = x) := ⟨_, ⟨rfl⟩⟩
  obtain ⟨S2, HS2⟩ : ∃ x, Hd (Sha.st64 1 l = x) := ⟨_, ⟨rfl⟩⟩
  have HS1l := hd (show S1.length = 8 by rw [← HS1.out]; exact Sha.st32_len _ _)
  have HS2l := hd (show S2.length = 8 by rw [← HS2.out]; exact Sha.st64_len _ _)
  have Hrl := hd (show r < 64 by rw [← Hr.out]; exact Nat.mod_lt _ (by omega))
  obtain ⟨P, HP⟩ : ∃ P, Hd (Sha.padK 64 l.length = P) := ⟨_, ⟨rfl⟩⟩
  have HPl := hd (show P < 64 by rw [← HP.out]; exact Nat.mod_lt _ (by omega))
  have HPz := hd (show (r + (1 + P) + 8) % 64 = 0 by rw [← HP.out, ← Hr.out]; unfold Sha.padK; omega)
  have HPm := hd (show ∀ k, k < P → ¬ (r + (1 + k) + 8) % 64 = 0 from fun k hk => by have := HPz.out; have := HPl.out; omega)
  go_enter Tryd.func46, Tryd.ntmps46
  go_wp2_with (first | (go_at_call 45; (refine (clone_at g 1 l _ hd0).mono ?_; rintro e w1 ⟨rfl, hc1, hB1⟩; obtain ⟨A, c, hdg, _, _, _, _⟩ := hd0.below hB1; rw [eb, Hr.out, HX.out, HS1.out, HS2.out] at hdg; have c0 : w1.cell? ⟨g, 0, none⟩ = some (.int .i64 1) := (hdg.cell 0).trans dig_h; obtain ⟨w2, hmk0, own2, gr2⟩ := run_makeI w1 w1.heap.size 1 128 (by omega) (by omega) (Nat.le_refl _); have hmk : (Instr.makeSlice 30 (.int .i64 1) (.int .i64 128)).run Tryd.prog w1 = .ok (.slice (some ⟨w1.heap.size, 0, none⟩) 1 128) w2 := hmk0; clear hmk0; have own2' : OwnB w2 w1.heap.size (.slice (some ⟨w1.heap.size, 0, none⟩) ([0] : List UInt8).length 128) [0] := own2; have ce := own2'.cell 0 (by decide); have cf := own2'.frozen 0; have own3 := own2'.set_ 0 128; have hB3 := (below_new (Below.refl w1.heap.size w1) gr2 (Nat.le_refl _)).setCell (p := ⟨w1.heap.size, 0, none⟩) (Nat.le_refl _) (.int .u8 ((n8 128 : Nat) : Int)); clear own2 own2' gr2)) | (go_at_call 41; refine (blockSize_1 _).mono ?_; rintro e w3 ⟨rfl, rfl⟩))
  have hk1 := hdg.lt
  clear ce cf hmk c0
  go_loopw [5] (fun v wr => ∃ k : Nat, k ≤ P ∧ OwnB wr w1.heap.size v ([128] ++ List.replicate k 0) ∧ Below w1.heap.size w1 wr) (fun v _ => 1 + 64 - lenOf3 v)
  case atStart => exact ⟨0, by omega, own3, hB3⟩
  case round =>
    clear own3 hB3
    obtain ⟨k, hk, own, hB⟩ := hrel
    obtain ⟨m, Hm⟩ : ∃ m, Hd (1 + k = m) := ⟨_, ⟨rfl⟩⟩
    have Hlen := hd (show ([128] ++ List.replicate k (0 : UInt8)).length = m by rw [List.length_append, List.length_replicate, ← Hm.out]; rfl)
    obtain ⟨A3, c3, e3⟩ := own.slice
    rw [Hlen.out] at e3
    subst e3
    have hmm := Hm.out
    have hPP := HPl.out
    have hrr := Hrl.out
    have c17 : wr.cell? ⟨g, 17, none⟩ = some (.slice A r c) := ((hdg.below hB hk1).cell 17).trans (dig_rest HS1l.out HS2l.out)
    by_cases hlt : k < P
    · have hm : ¬ ((r : Int) + (m : Int) + 8) % 64 = 0 := by have h := HPm.out k hlt; omega
      have hcl : ([128] ++ List.replicate k (0 : UInt8)).length + [(0 : UInt8)].length ≤ 140737488355328 := by rw [Hlen.out]; simp; omega
      have own1 := own.alloc (.cells #[.int .u8 ((n8 0 : Nat) : Int)] 5)
      have hr1 := ReadsB.one wr 0
      have hBa := hB.alloc hB.size (.cells #[.int .u8 ((n8 0 : Nat) : Int)] 5)
      have hB1 : w1.heap.size ≤ (wr.alloc (.cells #[.int .u8 ((n8 0 : Nat) : Int)] 5)).heap.size := hBa.size
      go_wp2_with (first | (at_builtin; refine wpl_appendB rfl _ _ rfl w1.heap.size (.slice A3 m c3) ([128] ++ List.replicate k (0 : UInt8)) rfl own1 (wr.heap.size + 1) _ 1 1 [0] rfl hr1 hcl hB1 ?_; intro v3 w3 own3 gr3 at3; have hB3 : Below w1.heap.size w1 w3 := below_appended hBa own1 gr3 (Nat.le_refl _) hB1))
      clear own1 hr1 hB1 gr3 at3 own
      rw [List.append_assoc, ← List.replicate_succ'] at own3
      obtain ⟨A4, c4, e4⟩ := own3.slice
      subst e4
      go_roundw
      case rel => exact ⟨k + 1, by omega, own3, hB3⟩
      case measure => simp [lenOf3]; omega
    · have ek : k = P := by omega
      subst ek
      have HPe := hd (show Sha.padK 64 l.length = k from HP.out)
      have hm : ((r : Int) + (m : Int) + 8) % 64 = 0 := by have := HPz.out; omega
      have hcl : ([128] ++ List.replicate k (0 : UInt8)).length + 0 ≤ 140737488355328 := by rw [Hlen.out]; omega
      have h0 : 0 < ([128] ++ List.replicate k (0 : UInt8)).length := by rw [Hlen.out]; omega
      have hBs : w1.heap.size ≤ wr.heap.size := hB.size
      go_wp2_with (first | (at_builtin; refine wpl_append0 rfl _ _ rfl w1.heap.size (.slice A3 m c3) ([128] ++ List.replicate k (0 : UInt8)) rfl own 0 rfl h0 hcl hBs ?_; intro v4 w4 own4 gr4 at4; have hB4 : Below w1.heap.size w1 w4 := below_appended hB own gr4 (Nat.le_refl _) hBs))
      clear own gr4 at4 hB hm hcl h0 hBs hlt hk c17 HP HPm HPz hmm
      obtain ⟨l2, Hl2⟩ : ∃ l2, Hd ([128] ++ List.replicate k (0 : UInt8) ++ List.replicate 0 0 = l2) := ⟨_, ⟨rfl⟩⟩
      rw [Hl2.out] at own4
      have Hl2l := hd (show l2.length = m + 0 by rw [← Hl2.out, List.length_append, List.length_replicate, Hlen.out])
      have Hm3 := hd (show m + 0 ≤ 1000 by have := Hm.out; omega)
      have Hend := hd (show Sha.endOf 64 l = l2 ++ Sha.spreadTo (X * 8) 8 8 by rw [← Hl2.out, Sha.endOf, HPe.out, HX.out, List.append_assoc, List.append_assoc, ← List.append_assoc (List.replicate k 0), List.replicate_append_replicate]; rfl)
      clear Hl2 Hlen HPe
      go_loopw [5, 6] (fun v i wr => ∃ z : Nat, z ≤ 8 ∧ i = .int .i64 ((7 : Int) - (z : Int)) ∧ OwnB wr w1.heap.size v (l2 ++ Sha.spreadTo (X * 8) 8 z) ∧ Below w1.heap.size w1 wr) (fun _ i _ => (intOf i + 1).toNat)
      case atStart => exact ⟨0, by omega, rfl, by rw [Sha.spreadTo, List.append_nil]; exact own4, hB4⟩
      case round =>
        clear own4 hB4
        obtain ⟨z, hz, rfl, own, hB⟩ := hrel
        obtain ⟨A5, c5, e5⟩ := own.slice
        obtain ⟨m5, Hm5⟩ : ∃ m, Hd ((l2 ++ Sha.spreadTo (X * 8) 8 z).length = m) := ⟨_, ⟨rfl⟩⟩
        rw [Hm5.out] at e5
        subst e5
        have Hmm := hd (show m5 = m + 0 + z by rw [← Hm5.out, List.length_append, Sha.spreadTo_len, Hl2l.out])
        have hdr := hdg.below hB hk1
        by_cases hlt : z < 8
        · obtain ⟨j, Hj⟩ : ∃ j, Hd (8 - 1 - z = j) := ⟨_, ⟨rfl⟩⟩
          have ej : (7 : Int) - (z : Int) = (j : Int) := by have := Hj.out; omega
          rw [ej]
          have t0 : (0 : Int) ≤ (j : Int) := by omega
          have c18 : wr.cell? ⟨g, 18, none⟩ = some (.int .u64 ((n64 X : Nat) : Int)) := (hdr.cell 18).trans (dig_n HS1l.out HS2l.out)
          obtain ⟨J, HJ⟩ : ∃ J, Hd (8 * j = J) := ⟨_, ⟨rfl⟩⟩
          have e8 : (8 : Int) * (j : Int) = (J : Int) := by have := HJ.out; omega
          have wj : IntKind.i64.wrap (J : Int) = (J : Int) := IntWalk.i64_in _ (by have := HJ.out; have := Hj.out; omega)
          obtain ⟨y, Hy⟩ : ∃ y, Hd ((shr64 (X * 8) J).toUInt8 = y) := ⟨_, ⟨rfl⟩⟩
          have Hnx := hd (show l2 ++ Sha.spreadTo (X * 8) 8 (z + 1) = (l2 ++ Sha.spreadTo (X * 8) 8 z) ++ [y] by rw [Sha.spreadTo, Hj.out, HJ.out, Hy.out, List.append_assoc])
          have hcl : (l2 ++ Sha.spreadTo (X * 8) 8 z).length + [y].length ≤ 140737488355328 := by rw [Hm5.out, Hmm.out]; have := Hm3.out; simp; omega
          have own1 := own.alloc (.cells #[.int .u8 ((n8 y : Nat) : Int)] 5)
          have hr1 := ReadsB.one wr y
          have hBa := hB.alloc hB.size (.cells #[.int .u8 ((n8 y : Nat) : Int)] 5)
          have hB1 : w1.heap.size ≤ (wr.alloc (.cells #[.int .u8 ((n8 y : Nat) : Int)] 5)).heap.size := hBa.size
          go_wp2_with (first | rw [Hy.out] | (at_builtin; refine wpl_appendB rfl _ _ rfl w1.heap.size (.slice A5 m5 c5) (l2 ++ Sha.spreadTo (X * 8) 8 z) rfl own1 (wr.heap.size + 1) _ 1 1 [y] rfl hr1 hcl hB1 ?_; intro v3 w3 own3 gr3 at3; have hB3 : Below w1.heap.size w1 w3 := below_appended hBa own1 gr3 (Nat.le_refl _) hB1))
          clear own1 hr1 hB1 gr3 at3 own
          rw [← Hnx.out] at own3
          go_roundw
          case rel => exact ⟨z + 1, by omega, by have := Hj.out; congr 1 <;> omega, own3, hB3⟩
          case measure => simp [intOf] <;> omega
        · have ek : z = 8 := by omega
          subst ek
          have ej : (7 : Int) - (8 : Nat) = -1 := by omega
          rw [ej]
          rw [← Hend.out] at own
          have hdc := hc1.below hB
          have htr := (htb.below hB1).below hB
          have hrd := own.reads_any.2
          have hneg : 0 < m5 → ∀ ad, A5 = some ad → ad.block ≠ w.heap.size := fun _ ad e => by
            subst e
            have h1 := (own.own.lt ad.block rfl).1
            have h2 := hc1.lt
            omega
          have hm5 : m5 ≤ 140737488355000 := by rw [Hmm.out]; have := Hm3.out; omega
          go_wp2_with (first | (go_at_call 43; refine (write_at w.heap.size 1 (by omega) l A5 m5 c5 _ wr hdc htr hrd hneg hm5).mono ?_; rintro e w7 ⟨rfl, ⟨A7, c7, hd7e, _, _, _, _⟩, hg7⟩))
          rw [eb] at hd7e
          have hgm : g ≠ w.heap.size := by omega
          have hdg7 := (hdg.below hB hk1).grown hg7 (by intro e; injection e; omega)
          have hk7 := hdg7.lt
          have hk7e := hd7e.lt
          obtain ⟨T, HT⟩ : ∃ T, Hd (Sha.st32 1 (l ++ Sha.endOf 64 l) = T) := ⟨_, ⟨rfl⟩⟩
          have HTl := hd (show T.length = 8 by rw [← HT.out]; exact Sha.st32_len _ _)
          rw [HT.out] at hd7e
          have HOl := hd (show (Sha.st64 1 (l ++ Sha.endOf 64 l)).length = 8 from Sha.st64_len _ _)
          obtain ⟨OO, HOO⟩ : ∃ x, Hd (Sha.st64 1 (l ++ Sha.endOf 64 l) = x) := ⟨_, ⟨rfl⟩⟩
          rw [HOO.out] at hd7e HOl
          go_loopw [7, 8, 62] (fun v _ i wr => ∃ z : Nat, z ≤ 8 ∧ i = .int .i64 (z : Int) ∧ OwnB wr w7.heap.size v (Sha.out32 T z) ∧ Below w7.heap.size w7 wr) (fun _ _ i _ => (8 - intOf i).toNat)
          case atStart => exact ⟨0, by omega, rfl, OwnB.nil _ _, Below.refl _ _⟩
          case round =>
            rename_i wr0 _ _ _
            obtain ⟨z, hz, rfl, own8, hB8⟩ := hrel
            obtain ⟨A8, c8, e8⟩ := own8.slice
            have Ho8 := hd (Sha.out32_len T z)
            rw [Ho8.out] at e8
            subst e8
            have hdr := hdg7.below hB8 hk7
            have hde := hd7e.below hB8 hk7e
            have c0 := (hdr.cell 0).trans dig_h
            by_cases hlt : z < 8
            · have t1 : (z : Int) < 8 := by omega
              have cz : wr.cell? ⟨w.heap.size, 1 + z, none⟩ = some (.int .u32 ((n32 (Sha32.at_ T z) : Nat) : Int)) := (hde.cell (1 + z)).trans (dig_w32 HTl.out HOl.out hlt)
              have v1 : (0 : Int) ≤ (z : Int) := by omega
              have wz : IntKind.i64.wrap ((z : Int) + 1) = (z : Int) + 1 := IntWalk.i64_in _ (by omega)
              go_wp2_with (first | (go_at_call 58; refine (spread_any w7.heap.size (.slice A8 (4 * z) c8) (Sha.out32 T z) (Sha32.at_ T z).toUInt64 4 (by omega) wr own8 (by rw [Ho8.out]; omega) hB8.size).mono ?_; rintro e w9 ⟨v9, rfl, own9, hb9⟩))
              go_roundw
              case rel => exact ⟨z + 1, by omega, rfl, own9, hB8.trans hb9⟩
              case measure => simp [intOf] <;> omega
            · have ez : z = 8 := by omega
              have hroom := own8.room
              subst ez
              have hcap : (32 : Int) ≤ (c8 : Int) := by omega
              go_wp2_with (first | (go_at_call 20; refine (size_1 _).mono ?_; rintro e w10 ⟨rfl, rfl⟩))
              go_ret
              have hB9 := ((hB1.trans (hB.mono hB1.size)).grown hg7 (Nat.le_trans hB1.size hB.size) (fun k hk => by injection hk; omega)).trans (hB8.mono (Nat.le_trans hB1.size (Nat.le_trans hB.size hg7.size)))
              have hlo : w.heap.size ≤ w7.heap.size := Nat.le_trans hB1.size (Nat.le_trans hB.size hg7.size)
              refine ⟨_, rfl, ?_, hB9⟩
              have hS : Sha.sum 1 l = Sha.out32 T 8 := by rw [← HT.out]; rfl
              rw [hS]
              exact own8.low hlo
set_option maxHeartbeats 4000000 in
set_option maxRecDepth 100000 in
theorem sum_2 (g : Nat) (l : List UInt8) (w : World) (hd0 : DigAt w w.heap.size g 2 l) (htb : Tabs w) :
    Calls Tryd.prog 46 #[.pointer (some ⟨g, 0, none⟩)] w fun e w' => ∃ v, e = .returned v ∧ OwnB w' w.heap.size v (Sha.sum 2 l) ∧ Below w.heap.size w w' := by
  have hglt : g < w.heap.size := by obtain ⟨_, _, h1, _⟩ := hd0; exact h1.lt
  have eb : Sha.bsOf 2 = 128 := rfl
  obtain ⟨r, Hr⟩ : ∃ r, Hd (l.length % 128 = r) := ⟨_, ⟨rfl⟩⟩
  obtain ⟨X, HX⟩ : ∃ X, Hd (UInt64.ofNat l.length = X) := ⟨_, ⟨rfl⟩⟩
  obtain ⟨S1, HS1⟩ : ∃ x, Hd (Sha.st32 2 l = x) := ⟨_, ⟨rfl⟩⟩
  obtain ⟨S2, HS2⟩ : ∃ x, Hd (Sha.st64 2 l = x) := ⟨_, ⟨rfl⟩⟩
  have HS1l := hd (show S1.length = 8 by rw [← HS1.out]; exact Sha.st32_len _ _)
  have HS2l := hd (show S2.length = 8 by rw [← HS2.out]; exact Sha.st64_len _ _)
  have Hrl := hd (show r < 128 by rw [← Hr.out]; exact Nat.mod_lt _ (by omega))
  obtain ⟨P, HP⟩ : ∃ P, Hd (Sha.padK 128 l.length = P) := ⟨_, ⟨rfl⟩⟩
  have HPl := hd (show P < 128 by rw [← HP.out]; exact Nat.mod_lt _ (by omega))
  have HPz := hd (show (r + (1 + P) + 16) % 128 = 0 by rw [← HP.out, ← Hr.out]; unfold Sha.padK; omega)
  have HPm := hd (show ∀ k, k < P → ¬ (r + (1 + k) + 16) % 128 = 0 from fun k hk => by have := HPz.out; have := HPl.out; omega)
  go_enter Tryd.func46, Tryd.ntmps46
  go_wp2_with (first | (go_at_call 45; (refine (clone_at g 2 l _ hd0).mono ?_; rintro e w1 ⟨rfl, hc1, hB1⟩; obtain ⟨A, c, hdg, _, _, _, _⟩ := hd0.below hB1; rw [eb, Hr.out, HX.out, HS1.out, HS2.out] at hdg; have c0 : w1.cell? ⟨g, 0, none⟩ = some (.int .i64 2) := (hdg.cell 0).trans dig_h; obtain ⟨w2, hmk0, own2, gr2⟩ := run_makeI w1 w1.heap.size 1 256 (by omega) (by omega) (Nat.le_refl _); have hmk : (Instr.makeSlice 30 (.int .i64 1) (.int .i64 256)).run Tryd.prog w1 = .ok (.slice (some ⟨w1.heap.size, 0, none⟩) 1 256) w2 := hmk0; clear hmk0; have own2' : OwnB w2 w1.heap.size (.slice (some ⟨w1.heap.size, 0, none⟩) ([0] : List UInt8).length 256) [0] := own2; have ce := own2'.cell 0 (by decide); have cf := own2'.frozen 0; have own3 := own2'.set_ 0 128; have hB3 := (below_new (Below.refl w1.heap.size w1) gr2 (Nat.le_refl _)).setCell (p := ⟨w1.heap.size, 0, none⟩) (Nat.le_refl _) (.int .u8 ((n8 128 : Nat) : Int)); clear own2 own2' gr2)) | (go_at_call 41; refine (blockSize_2 _).mono ?_; rintro e w3 ⟨rfl, rfl⟩))
  have hk1 := hdg.lt
  clear ce cf hmk c0
  go_loopw [5] (fun v wr => ∃ k : Nat, k ≤ P ∧ OwnB wr w1.heap.size v ([128] ++ List.replicate k 0) ∧ Below w1.heap.size w1 wr) (fun v _ => 1 + 128 - lenOf3 v)
  case atStart => exact ⟨0, by omega, own3, hB3⟩
  case round =>
    clear own3 hB3
    obtain ⟨k, hk, own, hB⟩ := hrel
    obtain ⟨m, Hm⟩ : ∃ m, Hd (1 + k = m) := ⟨_, ⟨rfl⟩⟩
    have Hlen := hd (show ([128] ++ List.replicate k (0 : UInt8)).length = m by rw [List.length_append, List.length_replicate, ← Hm.out]; rfl)
    obtain ⟨A3, c3, e3⟩ := own.slice
    rw [Hlen.out] at e3
    subst e3
    have hmm := Hm.out
    have hPP := HPl.out
    have hrr := Hrl.out
    have c17 : wr.cell? ⟨g, 17, none⟩ = some (.slice A r c) := ((hdg.below hB hk1).cell 17).trans (dig_rest HS1l.out HS2l.out)
    by_cases hlt : k < P
    · have hm : ¬ ((r : Int) + (m : Int) + 16) % 128 = 0 := by have h := HPm.out k hlt; omega
      have hcl : ([128] ++ List.replicate k (0 : UInt8)).length + [(0 : UInt8)].length ≤ 140737488355328 := by rw [Hlen.out]; simp; omega
      have own1 := own.alloc (.cells #[.int .u8 ((n8 0 : Nat) : Int)] 5)
      have hr1 := ReadsB.one wr 0
      have hBa := hB.alloc hB.size (.cells #[.int .u8 ((n8 0 : Nat) : Int)] 5)
      have hB1 : w1.heap.size ≤ (wr.alloc (.cells #[.int .u8 ((n8 0 : Nat) : Int)] 5)).heap.size := hBa.size
      go_wp2_with (first | (at_builtin; refine wpl_appendB rfl _ _ rfl w1.heap.size (.slice A3 m c3) ([128] ++ List.replicate k (0 : UInt8)) rfl own1 (wr.heap.size + 1) _ 1 1 [0] rfl hr1 hcl hB1 ?_; intro v3 w3 own3 gr3 at3; have hB3 : Below w1.heap.size w1 w3 := below_appended hBa own1 gr3 (Nat.le_refl _) hB1))
      clear own1 hr1 hB1 gr3 at3 own
      rw [List.append_assoc, ← List.replicate_succ'] at own3
      obtain ⟨A4, c4, e4⟩ := own3.slice
      subst e4
      go_roundw
      case rel => exact ⟨k + 1, by omega, own3, hB3⟩
      case measure => simp [lenOf3]; omega
    · have ek : k = P := by omega
      subst ek
      have HPe := hd (show Sha.padK 128 l.length = k from HP.out)
      have hm : ((r : Int) + (m : Int) + 16) % 128 = 0 := by have := HPz.out; omega
      have hcl : ([128] ++ List.replicate k (0 : UInt8)).length + 8 ≤ 140737488355328 := by rw [Hlen.out]; omega
      have h0 : 0 < ([128] ++ List.replicate k (0 : UInt8)).length := by rw [Hlen.out]; omega
      have hBs : w1.heap.size ≤ wr.heap.size := hB.size
      go_wp2_with (first | (at_builtin; refine wpl_append0 rfl _ _ rfl w1.heap.size (.slice A3 m c3) ([128] ++ List.replicate k (0 : UInt8)) rfl own 8 rfl h0 hcl hBs ?_; intro v4 w4 own4 gr4 at4; have hB4 : Below w1.heap.size w1 w4 := below_appended hB own gr4 (Nat.le_refl _) hBs))
      clear own gr4 at4 hB hm hcl h0 hBs hlt hk c17 HP HPm HPz hmm
      obtain ⟨l2, Hl2⟩ : ∃ l2, Hd ([128] ++ List.replicate k (0 : UInt8) ++ List.replicate 8 0 = l2) := ⟨_, ⟨rfl⟩⟩
      rw [Hl2.out] at own4
      have Hl2l := hd (show l2.length = m + 8 by rw [← Hl2.out, List.length_append, List.length_replicate, Hlen.out])
      have Hm3 := hd (show m + 8 ≤ 1000 by have := Hm.out; omega)
      have Hend := hd (show Sha.endOf 128 l = l2 ++ Sha.spreadTo (X * 8) 8 8 by rw [← Hl2.out, Sha.endOf, HPe.out, HX.out, List.append_assoc, List.append_assoc, ← List.append_assoc (List.replicate k 0), List.replicate_append_replicate]; rfl)
      clear Hl2 Hlen HPe
      go_loopw [5, 6] (fun v i wr => ∃ z : Nat, z ≤ 8 ∧ i = .int .i64 ((7 : Int) - (z : Int)) ∧ OwnB wr w1.heap.size v (l2 ++ Sha.spreadTo (X * 8) 8 z) ∧ Below w1.heap.size w1 wr) (fun _ i _ => (intOf i + 1).toNat)
      case atStart => exact ⟨0, by omega, rfl, by rw [Sha.spreadTo, List.append_nil]; exact own4, hB4⟩
      case round =>
        clear own4 hB4
        obtain ⟨z, hz, rfl, own, hB⟩ := hrel
        obtain ⟨A5, c5, e5⟩ := own.slice
        obtain ⟨m5, Hm5⟩ : ∃ m, Hd ((l2 ++ Sha.spreadTo (X * 8) 8 z).length = m) := ⟨_, ⟨rfl⟩⟩
        rw [Hm5.out] at e5
        subst e5
        have Hmm := hd (show m5 = m + 8 + z by rw [← Hm5.out, List.length_append, Sha.spreadTo_len, Hl2l.out])
        have hdr := hdg.below hB hk1
        by_cases hlt : z < 8
        · obtain ⟨j, Hj⟩ : ∃ j, Hd (8 - 1 - z = j) := ⟨_, ⟨rfl⟩⟩
          have ej : (7 : Int) - (z : Int) = (j : Int) := by have := Hj.out; omega
          rw [ej]
          have t0 : (0 : Int) ≤ (j : Int) := by omega
          have c18 : wr.cell? ⟨g, 18, none⟩ = some (.int .u64 ((n64 X : Nat) : Int)) := (hdr.cell 18).trans (dig_n HS1l.out HS2l.out)
          obtain ⟨J, HJ⟩ : ∃ J, Hd (8 * j = J) := ⟨_, ⟨rfl⟩⟩
          have e8 : (8 : Int) * (j : Int) = (J : Int) := by have := HJ.out; omega
          have wj : IntKind.i64.wrap (J : Int) = (J : Int) := IntWalk.i64_in _ (by have := HJ.out; have := Hj.out; omega)
          obtain ⟨y, Hy⟩ : ∃ y, Hd ((shr64 (X * 8) J).toUInt8 = y) := ⟨_, ⟨rfl⟩⟩
          have Hnx := hd (show l2 ++ Sha.spreadTo (X * 8) 8 (z + 1) = (l2 ++ Sha.spreadTo (X * 8) 8 z) ++ [y] by rw [Sha.spreadTo, Hj.out, HJ.out, Hy.out, List.append_assoc])
          have hcl : (l2 ++ Sha.spreadTo (X * 8) 8 z).length + [y].length ≤ 140737488355328 := by rw [Hm5.out, Hmm.out]; have := Hm3.out; simp; omega
          have own1 := own.alloc (.cells #[.int .u8 ((n8 y : Nat) : Int)] 5)
          have hr1 := ReadsB.one wr y
          have hBa := hB.alloc hB.size (.cells #[.int .u8 ((n8 y : Nat) : Int)] 5)
          have hB1 : w1.heap.size ≤ (wr.alloc (.cells #[.int .u8 ((n8 y : Nat) : Int)] 5)).heap.size := hBa.size
          go_wp2_with (first | rw [Hy.out] | (at_builtin; refine wpl_appendB rfl _ _ rfl w1.heap.size (.slice A5 m5 c5) (l2 ++ Sha.spreadTo (X * 8) 8 z) rfl own1 (wr.heap.size + 1) _ 1 1 [y] rfl hr1 hcl hB1 ?_; intro v3 w3 own3 gr3 at3; have hB3 : Below w1.heap.size w1 w3 := below_appended hBa own1 gr3 (Nat.le_refl _) hB1))
          clear own1 hr1 hB1 gr3 at3 own
          rw [← Hnx.out] at own3
          go_roundw
          case rel => exact ⟨z + 1, by omega, by have := Hj.out; congr 1 <;> omega, own3, hB3⟩
          case measure => simp [intOf] <;> omega
        · have ek : z = 8 := by omega
          subst ek
          have ej : (7 : Int) - (8 : Nat) = -1 := by omega
          rw [ej]
          rw [← Hend.out] at own
          have hdc := hc1.below hB
          have htr := (htb.below hB1).below hB
          have hrd := own.reads_any.2
          have hneg : 0 < m5 → ∀ ad, A5 = some ad → ad.block ≠ w.heap.size := fun _ ad e => by
            subst e
            have h1 := (own.own.lt ad.block rfl).1
            have h2 := hc1.lt
            omega
          have hm5 : m5 ≤ 140737488355000 := by rw [Hmm.out]; have := Hm3.out; omega
          go_wp2_with (first | (go_at_call 43; refine (write_at w.heap.size 2 (by omega) l A5 m5 c5 _ wr hdc htr hrd hneg hm5).mono ?_; rintro e w7 ⟨rfl, ⟨A7, c7, hd7e, _, _, _, _⟩, hg7⟩))
          rw [eb] at hd7e
          have hgm : g ≠ w.heap.size := by omega
          have hdg7 := (hdg.below hB hk1).grown hg7 (by intro e; injection e; omega)
          have hk7 := hdg7.lt
          have hk7e := hd7e.lt
          obtain ⟨T, HT⟩ : ∃ T, Hd (Sha.st64 2 (l ++ Sha.endOf 128 l) = T) := ⟨_, ⟨rfl⟩⟩
          have HTl := hd (show T.length = 8 by rw [← HT.out]; exact Sha.st64_len _ _)
          rw [HT.out] at hd7e
          have HOl := hd (show (Sha.st32 2 (l ++ Sha.endOf 128 l)).length = 8 from Sha.st32_len _ _)
          obtain ⟨OO, HOO⟩ : ∃ x, Hd (Sha.st32 2 (l ++ Sha.endOf 128 l) = x) := ⟨_, ⟨rfl⟩⟩
          rw [HOO.out] at hd7e HOl
          go_loopw [7, 8, 62] (fun v _ i wr => ∃ z : Nat, z ≤ 8 ∧ i = .int .i64 (z : Int) ∧ OwnB wr w7.heap.size v (Sha.out64 T z) ∧ Below w7.heap.size w7 wr) (fun _ _ i _ => (8 - intOf i).toNat)
          case atStart => exact ⟨0, by omega, rfl, OwnB.nil _ _, Below.refl _ _⟩
          case round =>
            rename_i wr0 _ _ _
            obtain ⟨z, hz, rfl, own8, hB8⟩ := hrel
            obtain ⟨A8, c8, e8⟩ := own8.slice
            have Ho8 := hd (Sha.out64_len T z)
            rw [Ho8.out] at e8
            subst e8
            have hdr := hdg7.below hB8 hk7
            have hde := hd7e.below hB8 hk7e
            have c0 := (hdr.cell 0).trans dig_h
            by_cases hlt : z < 8
            · have t1 : (z : Int) < 8 := by omega
              have cz : wr.cell? ⟨w.heap.size, 9 + z, none⟩ = some (.int .u64 ((n64 (Sha64.at_ T z) : Nat) : Int)) := (hde.cell (9 + z)).trans (dig_w64 HOl.out HTl.out hlt)
              have v1 : (0 : Int) ≤ (z : Int) := by omega
              have wz : IntKind.i64.wrap ((z : Int) + 1) = (z : Int) + 1 := IntWalk.i64_in _ (by omega)
              go_wp2_with (first | (go_at_call 58; refine (spread_any w7.heap.size (.slice A8 (8 * z) c8) (Sha.out64 T z) (Sha64.at_ T z) 8 (by omega) wr own8 (by rw [Ho8.out]; omega) hB8.size).mono ?_; rintro e w9 ⟨v9, rfl, own9, hb9⟩))
              go_roundw
              case rel => exact ⟨z + 1, by omega, rfl, own9, hB8.trans hb9⟩
              case measure => simp [intOf] <;> omega
            · have ez : z = 8 := by omega
              have hroom := own8.room
              subst ez
              have hcap : (64 : Int) ≤ (c8 : Int) := by omega
              go_wp2_with (first | (go_at_call 20; refine (size_2 _).mono ?_; rintro e w10 ⟨rfl, rfl⟩))
              go_ret
              have hB9 := ((hB1.trans (hB.mono hB1.size)).grown hg7 (Nat.le_trans hB1.size hB.size) (fun k hk => by injection hk; omega)).trans (hB8.mono (Nat.le_trans hB1.size (Nat.le_trans hB.size hg7.size)))
              have hlo : w.heap.size ≤ w7.heap.size := Nat.le_trans hB1.size (Nat.le_trans hB.size hg7.size)
              refine ⟨_, rfl, ?_, hB9⟩
              have hS : Sha.sum 2 l = (Sha.out64 T 8).take 48 := by rw [← HT.out]; rfl
              rw [hS]
              exact (own8.cut (k := 48) (by omega)).low hlo
set_option maxHeartbeats 4000000 in
set_option maxRecDepth 100000 in
theorem sum_3 (g : Nat) (l : List UInt8) (w : World) (hd0 : DigAt w w.heap.size g 3 l) (htb : Tabs w) :
    Calls Tryd.prog 46 #[.pointer (some ⟨g, 0, none⟩)] w fun e w' => ∃ v, e = .returned v ∧ OwnB w' w.heap.size v (Sha.sum 3 l) ∧ Below w.heap.size w w' := by
  have hglt : g < w.heap.size := by obtain ⟨_, _, h1, _⟩ := hd0; exact h1.lt
  have eb : Sha.bsOf 3 = 128 := rfl
  obtain ⟨r, Hr⟩ : ∃ r, Hd (l.length % 128 = r) := ⟨_, ⟨rfl⟩⟩
  obtain ⟨X, HX⟩ : ∃ X, Hd (UInt64.ofNat l.length = X) := ⟨_, ⟨rfl⟩⟩
  obtain ⟨S1, HS1⟩ : ∃ x, Hd (Sha.st32 3 l = x) := ⟨_, ⟨rfl⟩⟩
  obtain ⟨S2, HS2⟩ : ∃ x, Hd (Sha.st64 3 l = x) := ⟨_, ⟨rfl⟩⟩
  have HS1l := hd (show S1.length = 8 by rw [← HS1.out]; exact Sha.st32_len _ _)
  have HS2l := hd (show S2.length = 8 by rw [← HS2.out]; exact Sha.st64_len _ _)
  have Hrl := hd (show r < 128 by rw [← Hr.out]; exact Nat.mod_lt _ (by omega))
  obtain ⟨P, HP⟩ : ∃ P, Hd (Sha.padK 128 l.length = P) := ⟨_, ⟨rfl⟩⟩
  have HPl := hd (show P < 128 by rw [← HP.out]; exact Nat.mod_lt _ (by omega))
  have HPz := hd (show (r + (1 + P) + 16) % 128 = 0 by rw [← HP.out, ← Hr.out]; unfold Sha.padK; omega)
  have HPm := hd (show ∀ k, k < P → ¬ (r + (1 + k) + 16) % 128 = 0 from fun k hk => by have := HPz.out; have := HPl.out; omega)
  go_enter Tryd.func46, Tryd.ntmps46
  go_wp2_with (first | (go_at_call 45; (refine (clone_at g 3 l _ hd0).mono ?_; rintro e w1 ⟨rfl, hc1, hB1⟩; obtain ⟨A, c, hdg, _, _, _, _⟩ := hd0.below hB1; rw [eb, Hr.out, HX.out, HS1.out, HS2.out] at hdg; have c0 : w1.cell? ⟨g, 0, none⟩ = some (.int .i64 3) := (hdg.cell 0).trans dig_h; obtain ⟨w2, hmk0, own2, gr2⟩ := run_makeI w1 w1.heap.size 1 256 (by omega) (by omega) (Nat.le_refl _); have hmk : (Instr.makeSlice 30 (.int .i64 1) (.int .i64 256)).run Tryd.prog w1 = .ok (.slice (some ⟨w1.heap.size, 0, none⟩) 1 256) w2 := hmk0; clear hmk0; have own2' : OwnB w2 w1.heap.size (.slice (some ⟨w1.heap.size, 0, none⟩) ([0] : List UInt8).length 256) [0] := own2; have ce := own2'.cell 0 (by decide); have cf := own2'.frozen 0; have own3 := own2'.set_ 0 128; have hB3 := (below_new (Below.refl w1.heap.size w1) gr2 (Nat.le_refl _)).setCell (p := ⟨w1.heap.size, 0, none⟩) (Nat.le_refl _) (.int .u8 ((n8 128 : Nat) : Int)); clear own2 own2' gr2)) | (go_at_call 41; refine (blockSize_3 _).mono ?_; rintro e w3 ⟨rfl, rfl⟩))
  have hk1 := hdg.lt
  clear ce cf hmk c0
  go_loopw [5] (fun v wr => ∃ k : Nat, k ≤ P ∧ OwnB wr w1.heap.size v ([128] ++ List.replicate k 0) ∧ Below w1.heap.size w1 wr) (fun v _ => 1 + 128 - lenOf3 v)
  case atStart => exact ⟨0, by omega, own3, hB3⟩
  case round =>
    clear own3 hB3
    obtain ⟨k, hk, own, hB⟩ := hrel
    obtain ⟨m, Hm⟩ : ∃ m, Hd (1 + k = m) := ⟨_, ⟨rfl⟩⟩
    have Hlen := hd (show ([128] ++ List.replicate k (0 : UInt8)).length = m by rw [List.length_append, List.length_replicate, ← Hm.out]; rfl)
    obtain ⟨A3, c3, e3⟩ := own.slice
    rw [Hlen.out] at e3
    subst e3
    have hmm := Hm.out
    have hPP := HPl.out
    have hrr := Hrl.out
    have c17 : wr.cell? ⟨g, 17, none⟩ = some (.slice A r c) := ((hdg.below hB hk1).cell 17).trans (dig_rest HS1l.out HS2l.out)
    by_cases hlt : k < P
    · have hm : ¬ ((r : Int) + (m : Int) + 16) % 128 = 0 := by have h := HPm.out k hlt; omega
      have hcl : ([128] ++ List.replicate k (0 : UInt8)).length + [(0 : UInt8)].length ≤ 140737488355328 := by rw [Hlen.out]; simp; omega
      have own1 := own.alloc (.cells #[.int .u8 ((n8 0 : Nat) : Int)] 5)
      have hr1 := ReadsB.one wr 0
      have hBa := hB.alloc hB.size (.cells #[.int .u8 ((n8 0 : Nat) : Int)] 5)
      have hB1 : w1.heap.size ≤ (wr.alloc (.cells #[.int .u8 ((n8 0 : Nat) : Int)] 5)).heap.size := hBa.size
      go_wp2_with (first | (at_builtin; refine wpl_appendB rfl _ _ rfl w1.heap.size (.slice A3 m c3) ([128] ++ List.replicate k (0 : UInt8)) rfl own1 (wr.heap.size + 1) _ 1 1 [0] rfl hr1 hcl hB1 ?_; intro v3 w3 own3 gr3 at3; have hB3 : Below w1.heap.size w1 w3 := below_appended hBa own1 gr3 (Nat.le_refl _) hB1))
      clear own1 hr1 hB1 gr3 at3 own
      rw [List.append_assoc, ← List.replicate_succ'] at own3
      obtain ⟨A4, c4, e4⟩ := own3.slice
      subst e4
      go_roundw
      case rel => exact ⟨k + 1, by omega, own3, hB3⟩
      case measure => simp [lenOf3]; omega
    · have ek : k = P := by omega
      subst ek
      have HPe := hd (show Sha.padK 128 l.length = k from HP.out)
      have hm : ((r : Int) + (m : Int) + 16) % 128 = 0 := by have := HPz.out; omega
      have hcl : ([128] ++ List.replicate k (0 : UInt8)).length + 8 ≤ 140737488355328 := by rw [Hlen.out]; omega
      have h0 : 0 < ([128] ++ List.replicate k (0 : UInt8)).length := by rw [Hlen.out]; omega
      have hBs : w1.heap.size ≤ wr.heap.size := hB.size
      go_wp2_with (first | (at_builtin; refine wpl_append0 rfl _ _ rfl w1.heap.size (.slice A3 m c3) ([128] ++ List.replicate k (0 : UInt8)) rfl own 8 rfl h0 hcl hBs ?_; intro v4 w4 own4 gr4 at4; have hB4 : Below w1.heap.size w1 w4 := below_appended hB own gr4 (Nat.le_refl _) hBs))
      clear own gr4 at4 hB hm hcl h0 hBs hlt hk c17 HP HPm HPz hmm
      obtain ⟨l2, Hl2⟩ : ∃ l2, Hd ([128] ++ List.replicate k (0 : UInt8) ++ List.replicate 8 0 = l2) := ⟨_, ⟨rfl⟩⟩
      rw [Hl2.out] at own4
      have Hl2l := hd (show l2.length = m + 8 by rw [← Hl2.out, List.length_append, List.length_replicate, Hlen.out])
      have Hm3 := hd (show m + 8 ≤ 1000 by have := Hm.out; omega)
      have Hend := hd (show Sha.endOf 128 l = l2 ++ Sha.spreadTo (X * 8) 8 8 by rw [← Hl2.out, Sha.endOf, HPe.out, HX.out, List.append_assoc, List.append_assoc, ← List.append_assoc (List.replicate k 0), List.replicate_append_replicate]; rfl)
      clear Hl2 Hlen HPe
      go_loopw [5, 6] (fun v i wr => ∃ z : Nat, z ≤ 8 ∧ i = .int .i64 ((7 : Int) - (z : Int)) ∧ OwnB wr w1.heap.size v (l2 ++ Sha.spreadTo (X * 8) 8 z) ∧ Below w1.heap.size w1 wr) (fun _ i _ => (intOf i + 1).toNat)
      case atStart => exact ⟨0, by omega, rfl, by rw [Sha.spreadTo, List.append_nil]; exact own4, hB4⟩
      case round =>
        clear own4 hB4
        obtain ⟨z, hz, rfl, own, hB⟩ := hrel
        obtain ⟨A5, c5, e5⟩ := own.slice
        obtain ⟨m5, Hm5⟩ : ∃ m, Hd ((l2 ++ Sha.spreadTo (X * 8) 8 z).length = m) := ⟨_, ⟨rfl⟩⟩
        rw [Hm5.out] at e5
        subst e5
        have Hmm := hd (show m5 = m + 8 + z by rw [← Hm5.out, List.length_append, Sha.spreadTo_len, Hl2l.out])
        have hdr := hdg.below hB hk1
        by_cases hlt : z < 8
        · obtain ⟨j, Hj⟩ : ∃ j, Hd (8 - 1 - z = j) := ⟨_, ⟨rfl⟩⟩
          have ej : (7 : Int) - (z : Int) = (j : Int) := by have := Hj.out; omega
          rw [ej]
          have t0 : (0 : Int) ≤ (j : Int) := by omega
          have c18 : wr.cell? ⟨g, 18, none⟩ = some (.int .u64 ((n64 X : Nat) : Int)) := (hdr.cell 18).trans (dig_n HS1l.out HS2l.out)
          obtain ⟨J, HJ⟩ : ∃ J, Hd (8 * j = J) := ⟨_, ⟨rfl⟩⟩
          have e8 : (8 : Int) * (j : Int) = (J : Int) := by have := HJ.out; omega
          have wj : IntKind.i64.wrap (J : Int) = (J : Int) := IntWalk.i64_in _ (by have := HJ.out; have := Hj.out; omega)
          obtain ⟨y, Hy⟩ : ∃ y, Hd ((shr64 (X * 8) J).toUInt8 = y) := ⟨_, ⟨rfl⟩⟩
          have Hnx := hd (show l2 ++ Sha.spreadTo (X * 8) 8 (z + 1) = (l2 ++ Sha.spreadTo (X * 8) 8 z) ++ [y] by rw [Sha.spreadTo, Hj.out, HJ.out, Hy.out, List.append_assoc])
          have hcl : (l2 ++ Sha.spreadTo (X * 8) 8 z).length + [y].length ≤ 140737488355328 := by rw [Hm5.out, Hmm.out]; have := Hm3.out; simp; omega
          have own1 := own.alloc (.cells #[.int .u8 ((n8 y : Nat) : Int)] 5)
          have hr1 := ReadsB.one wr y
          have hBa := hB.alloc hB.size (.cells #[.int .u8 ((n8 y : Nat) : Int)] 5)
          have hB1 : w1.heap.size ≤ (wr.alloc (.cells #[.int .u8 ((n8 y : Nat) : Int)] 5)).heap.size := hBa.size
          go_wp2_with (first | rw [Hy.out] | (at_builtin; refine wpl_appendB rfl _ _ rfl w1.heap.size (.slice A5 m5 c5) (l2 ++ Sha.spreadTo (X * 8) 8 z) rfl own1 (wr.heap.size + 1) _ 1 1 [y] rfl hr1 hcl hB1 ?_; intro v3 w3 own3 gr3 at3; have hB3 : Below w1.heap.size w1 w3 := below_appended hBa own1 gr3 (Nat.le_refl _) hB1))
          clear own1 hr1 hB1 gr3 at3 own
          rw [← Hnx.out] at own3
          go_roundw
          case rel => exact ⟨z + 1, by omega, by have := Hj.out; congr 1 <;> omega, own3, hB3⟩
          case measure => simp [intOf] <;> omega
        · have ek : z = 8 := by omega
          subst ek
          have ej : (7 : Int) - (8 : Nat) = -1 := by omega
          rw [ej]
          rw [← Hend.out] at own
          have hdc := hc1.below hB
          have htr := (htb.below hB1).below hB
          have hrd := own.reads_any.2
          have hneg : 0 < m5 → ∀ ad, A5 = some ad → ad.block ≠ w.heap.size := fun _ ad e => by
            subst e
            have h1 := (own.own.lt ad.block rfl).1
            have h2 := hc1.lt
            omega
          have hm5 : m5 ≤ 140737488355000 := by rw [Hmm.out]; have := Hm3.out; omega
          go_wp2_with (first | (go_at_call 43; refine (write_at w.heap.size 3 (by omega) l A5 m5 c5 _ wr hdc htr hrd hneg hm5).mono ?_; rintro e w7 ⟨rfl, ⟨A7, c7, hd7e, _, _, _, _⟩, hg7⟩))
          rw [eb] at hd7e
          have hgm : g ≠ w.heap.size := by omega
          have hdg7 := (hdg.below hB hk1).grown hg7 (by intro e; injection e; omega)
          have hk7 := hdg7.lt
          have hk7e := hd7e.lt
          obtain ⟨T, HT⟩ : ∃ T, Hd (Sha.st64 3 (l ++ Sha.endOf 128 l) = T) := ⟨_, ⟨rfl⟩⟩
          have HTl := hd (show T.length = 8 by rw [← HT.out]; exact Sha.st64_len _ _)
          rw [HT.out] at hd7e
          have HOl := hd (show (Sha.st32 3 (l ++ Sha.endOf 128 l)).length = 8 from Sha.st32_len _ _)
          obtain ⟨OO, HOO⟩ : ∃ x, Hd (Sha.st32 3 (l ++ Sha.endOf 128 l) = x) := ⟨_, ⟨rfl⟩⟩
          rw [HOO.out] at hd7e HOl
          go_loopw [7, 8, 62] (fun v _ i wr => ∃ z : Nat, z ≤ 8 ∧ i = .int .i64 (z : Int) ∧ OwnB wr w7.heap.size v (Sha.out64 T z) ∧ Below w7.heap.size w7 wr) (fun _ _ i _ => (8 - intOf i).toNat)
          case atStart => exact ⟨0, by omega, rfl, OwnB.nil _ _, Below.refl _ _⟩
          case round =>
            rename_i wr0 _ _ _
            obtain ⟨z, hz, rfl, own8, hB8⟩ := hrel
            obtain ⟨A8, c8, e8⟩ := own8.slice
            have Ho8 := hd (Sha.out64_len T z)
            rw [Ho8.out] at e8
            subst e8
            have hdr := hdg7.below hB8 hk7
            have hde := hd7e.below hB8 hk7e
            have c0 := (hdr.cell 0).trans dig_h
            by_cases hlt : z < 8
            · have t1 : (z : Int) < 8 := by omega
              have cz : wr.cell? ⟨w.heap.size, 9 + z, none⟩ = some (.int .u64 ((n64 (Sha64.at_ T z) : Nat) : Int)) := (hde.cell (9 + z)).trans (dig_w64 HOl.out HTl.out hlt)
              have v1 : (0 : Int) ≤ (z : Int) := by omega
              have wz : IntKind.i64.wrap ((z : Int) + 1) = (z : Int) + 1 := IntWalk.i64_in _ (by omega)
              go_wp2_with (first | (go_at_call 58; refine (spread_any w7.heap.size (.slice A8 (8 * z) c8) (Sha.out64 T z) (Sha64.at_ T z) 8 (by omega) wr own8 (by rw [Ho8.out]; omega) hB8.size).mono ?_; rintro e w9 ⟨v9, rfl, own9, hb9⟩))
              go_roundw
              case rel => exact ⟨z + 1, by omega, rfl, own9, hB8.trans hb9⟩
              case measure => simp [intOf] <;> omega
            · have ez : z = 8 := by omega
              have hroom := own8.room
              subst ez
              have hcap : (64 : Int) ≤ (c8 : Int) := by omega
              go_wp2_with (first | (go_at_call 20; refine (size_3 _).mono ?_; rintro e w10 ⟨rfl, rfl⟩))
              go_ret
              have hB9 := ((hB1.trans (hB.mono hB1.size)).grown hg7 (Nat.le_trans hB1.size hB.size) (fun k hk => by injection hk; omega)).trans (hB8.mono (Nat.le_trans hB1.size (Nat.le_trans hB.size hg7.size)))
              have hlo : w.heap.size ≤ w7.heap.size := Nat.le_trans hB1.size (Nat.le_trans hB.size hg7.size)
              refine ⟨_, rfl, ?_, hB9⟩
              have hS : Sha.sum 3 l = Sha.out64 T 8 := by rw [← HT.out]; rfl
              rw [hS]
              exact own8.low hlo
end Go.Proofs.YthigbggacgiamaaDoor
