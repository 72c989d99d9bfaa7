/-
  The walk of gcm.Hash.
-/
import Derived.Test.YthigbggacgiamaaDoorGcmC
set_option linter.unusedVariables false
set_option linter.unusedSimpArgs false
set_option maxRecDepth 100000
namespace Go.Proofs.YthigbggacgiamaaDoor
open Go.RowKit
/-- What Hash keeps while it takes blocks in. -/
structure HaS (w : World) (k : Nat) (key cur : UInt64 × UInt64) (sls : Array Value) (W : World) : Prop where
  res : Blk W (w.heap.size + 1) 87 (arr (List.replicate 16 0))
  key : Blk W k 138 (cells2 key)
  out : Blk W (k + 1) 138 (cells2 cur)
  sls : Blk W (k + 1 + 1) 30 sls
  old : Below w.heap.size w W
  lo : w.heap.size + 1 < k
theorem HaS.next {w : World} {k : Nat} {key cur : UInt64 × UInt64} {sls : Array Value} {W w' : World} (h : HaS w k key cur sls W) (hb : Below W.heap.size W w') : HaS w k key cur sls w' :=
  ⟨h.res.below hb h.res.lt, h.key.below hb h.key.lt, h.out.below hb h.out.lt, h.sls.below hb h.sls.lt, h.old.trans (hb.mono h.old.size), h.lo⟩
theorem HaS.fed {w : World} {k : Nat} {key cur cur' : UInt64 × UInt64} {sls : Array Value} {W w' : World} (h : HaS w k key cur sls W) (hb : Blk w' (k + 1) 138 (cells2 cur')) (hg : W.grownBy w' (some (k + 1))) : HaS w k key cur' sls w' :=
  ⟨h.res.grown hg (by intro e; injection e; have := h.lo; omega), h.key.grown hg (by intro e; injection e; omega), hb, h.sls.grown hg (by intro e; injection e; omega), below_moved h.old hg (by have := h.lo; omega) h.old.size, h.lo⟩
def lenOf2 : Value → Nat | .slice _ n _ => n | _ => 0
theorem run_mf : ∀ (fn : Fn) (first cap : Array Value) (w : World), (Instr.makeFunc fn first cap).run Tryd.prog w = .ok (.func fn first cap) w := fun _ _ _ _ => rfl
set_option maxHeartbeats 4000000 in
set_option maxRecDepth 100000 in
theorem hash_any (h : List UInt8) (hh : h.length = 16) (A : Option Addr) (n c : Nat) (aside : List UInt8) (D : Option Addr) (m d : Nat) (text : List UInt8) (w : World) (ha : ReadsB w w.heap.size A n aside) (hnc : n ≤ c) (ht : ReadsB w w.heap.size D m text) (hmd : m ≤ d) (hn : n ≤ 140737488355328) (hm : m ≤ 140737488355328) :
    Calls Tryd.prog 60 #[.agg (arr h), .slice A n c, .slice D m d] w fun e w' => e = .returned (.agg (arr (Gcm.hash h aside text))) ∧ Below w.heap.size w w' := by
  have Hh := hd hh
  clear hh
  obtain ⟨r, Hr⟩ : ∃ r, Hd (Gcm.hash h aside text = r) := ⟨_, ⟨rfl⟩⟩
  rw [Hr.out]
  obtain ⟨key, Hkey⟩ : ∃ r, Hd (Gcm.of h = r) := ⟨_, ⟨rfl⟩⟩
  have hmf := run_mf
  have b0 : Blk ((w.alloc (.cells (arr h) 87)).alloc (.cells (arr (List.replicate 16 0)) 87)) w.heap.size 87 (arr h) := (Blk.nu rfl).alloc _
  have b1 : Blk ((w.alloc (.cells (arr h) 87)).alloc (.cells (arr (List.replicate 16 0)) 87)) (w.heap.size + 1) 87 (arr (List.replicate 16 0)) := Blk.nu (by simp)
  have hB0 := ((Below.refl w.heap.size w).alloc (by simp) (.cells (arr h) 87)).alloc (by simp) (.cells (arr (List.replicate 16 0)) 87)
  go_enter Tryd.func60, Tryd.ntmps60
  go_wp2_with (first | (refine wpl_alloc rfl 87 rfl _ zero16 ?_) | (refine wpl_load_arr rfl 87 _ rfl _ rfl 16 ty16 h Hh.out b0.cells_arr ?_) | (refine wpl_alloc rfl 138 rfl _ zero_blk ?_) | (go_at_call 69; refine (of_any h Hh.out _).mono ?_; rintro e w1 ⟨rfl, hB1⟩; rw [Hkey.out]) | (refine wpl_store_blk rfl _ _ rfl w1.heap.size key rfl rfl 138 _ (Blk.nu rfl) ?_))
  have hlo : w.heap.size + 1 < w1.heap.size := by have := hB1.size; simp at this; omega
  have hB1' := hB0.trans (hB1.mono hB0.size)
  refine wp_name (fun wo => HaS w w1.heap.size key (0, 0) #[.slice A n c, .slice D m d] wo) ⟨((((b1.below hB1 b1.lt).alloc _).farRow (by omega) _).alloc _).alloc _, (((Blk.nu rfl).setRow _).alloc _).alloc _, (Blk.nu (by simp)).alloc _, Blk.nu (by simp), ((below_setRow (hB1'.alloc hB1'.size _) hB1'.size _).alloc (by simp; omega) _).alloc (by simp; omega) _, hlo⟩ ?_
  rintro wo hs
  clear b0 b1 hB0 hB1 hB1' hlo
  generalize w1.heap.size = k at *
  -- both texts under one name
  obtain ⟨L, HL⟩ : ∃ L : Nat → List UInt8, Hd (L 0 = aside ∧ L 1 = text) := ⟨fun i => if i = 0 then aside else text, ⟨rfl, rfl⟩⟩
  obtain ⟨V, HV⟩ : ∃ V : Nat → Value, Hd (V 0 = .slice A n c ∧ V 1 = .slice D m d) := ⟨fun i => if i = 0 then .slice A n c else .slice D m d, ⟨rfl, rfl⟩⟩
  have HR := hd (show ∀ i, i < 2 → ∃ A' n' c', V i = .slice A' n' c' ∧ ReadsB w w.heap.size A' n' (L i) ∧ n' ≤ c' from fun i hi => by
    rcases (show i = 0 ∨ i = 1 by omega) with rfl | rfl
    · exact ⟨A, n, c, HV.out.1, by rw [HL.out.1]; exact ha, hnc⟩
    · exact ⟨D, m, d, HV.out.2, by rw [HL.out.2]; exact ht, hmd⟩)
  obtain ⟨st, Hst⟩ : ∃ st : Nat → UInt64 × UInt64, Hd (st 0 = (0, 0) ∧ ∀ i, st (i + 1) = Gcm.feed key (L i) (st i)) := ⟨fun i => Nat.rec (0, 0) (fun i s => Gcm.feed key (L i) s) i, ⟨rfl, fun _ => rfl⟩⟩
  obtain ⟨sls, Hsls⟩ : ∃ s : Array Value, Hd (#[.slice A n c, .slice D m d] = s) := ⟨_, ⟨rfl⟩⟩
  rw [Hsls.out] at hs
  have HC := hd (show ∀ i, i < 2 → sls[i]? = some (V i) from fun i hi => by
    rcases (show i = 0 ∨ i = 1 by omega) with rfl | rfl
    · rw [← Hsls.out, HV.out.1]; rfl
    · rw [← Hsls.out, HV.out.2]; rfl)
  go_loopw [20] (fun i wr => ∃ j : Nat, j ≤ 2 ∧ i = .int .i64 (j : Int) ∧ HaS w k key (st j) sls wr) (fun i _ => 2 - (intOf i).toNat)
  case atStart => exact ⟨0, by omega, rfl, by rw [Hst.out.1]; exact hs⟩
  case round =>
    clear hs
    obtain ⟨j, hj, rfl, hs⟩ := hrel
    by_cases hlt : j < 2
    · have tj : (j : Int) < 2 := by omega
      have c0 : wr.cell? ⟨k + 1 + 1, j, none⟩ = some (V j) := (hs.sls.cell j).trans (HC.out j hlt)
      obtain ⟨A1, n1, c1, hV, hR, hnc1⟩ := HR.out j hlt
      rw [hV] at c0
      go_wp2
      clear c0
      have Hnx := hd (Hst.out.2 j)
      go_loopw [11] (fun v wi => ∃ A' n' c' rem cur, v = .slice A' n' c' ∧ ReadsB w w.heap.size A' n' rem ∧ n' ≤ c' ∧ Gcm.feed key rem cur = st (j + 1) ∧ HaS w k key cur sls wi) (fun v _ => lenOf2 v)
      case atStart => exact ⟨A1, n1, c1, L j, st j, rfl, hR, hnc1, Hnx.out.symm, hs⟩
      case round =>
        clear hs hR hnc1 hV
        obtain ⟨A1, n1, c1, rem, cur, rfl, hR, hnc1, hfeed, hs⟩ := hrel
        have Hfeed := hd hfeed
        clear hfeed
        have Hrem := hd hR.len
        by_cases hn0 : 0 < n1
        · have tn : (0 : Int) < (n1 : Int) := by omega
          have hz := hs.old.size
          have hne : rem ≠ [] := by intro e; rw [e] at Hrem; have := Hrem.out; simp at this; omega
          have Hstep := hd (show Gcm.feed key (rem.drop 16) (Gcm.absorb key cur (Gcm.of (Gcm.pad16 rem))) = st (j + 1) by rw [← Hfeed.out, Gcm.feed_step key rem cur hne])
          clear hne
          obtain ⟨p, Hp⟩ : ∃ p, Hd (Gcm.pad16 rem = p) := ⟨_, ⟨rfl⟩⟩
          have Hpl := hd (show p.length = 16 by rw [← Hp.out]; exact Gcm.pad16_len _)
          have Hpc := hd (show rem.take 16 ++ (List.replicate 16 (0 : UInt8)).drop (min n1 16) = p by rw [pad16_copy rem n1 Hrem.out, Hp.out])
          obtain ⟨x, Hx⟩ : ∃ x, Hd (Gcm.of p = x) := ⟨_, ⟨rfl⟩⟩
          obtain ⟨mm, Hmm⟩ : ∃ x, Hd (min n1 16 = x) := ⟨_, ⟨rfl⟩⟩
          have hmm : mm ≤ n1 := by rw [← Hmm.out]; exact Nat.min_le_left _ _
          have hmm0 : 0 < mm := by rw [← Hmm.out]; omega
          have Hdrop := hd (show rem.drop mm = rem.drop 16 by
            rw [← Hmm.out]
            by_cases h16 : n1 ≤ 16
            · rw [Nat.min_eq_left h16, List.drop_of_length_le (by rw [Hrem.out]; omega), List.drop_of_length_le (by rw [Hrem.out]; omega)]
            · rw [Nat.min_eq_right (by omega)])
          have hR' : ReadsB (wr.alloc (.cells (arr (List.replicate 16 0)) 87)) w.heap.size A1 n1 rem := ⟨hR.len, (hR.is.below hs.old).alloc hs.old.size _⟩
          have hsA : HaS w k key cur sls ((wr.alloc (.cells (arr (List.replicate 16 0)) 87)).setRow wr.heap.size (arr p)) :=
            hs.next (below_setRow ((Below.refl wr.heap.size wr).alloc (Nat.le_refl _) _) (Nat.le_refl _) _)
          have v1 : (mm : Int) ≤ (n1 : Int) := by omega
          have v2 : (0 : Int) ≤ (mm : Int) := by omega
          have v3 : (mm : Int) ≤ (c1 : Int) := by omega
          by_cases hcm : c1 = mm
          · go_wp2_with (first | (refine wpl_alloc rfl 87 rfl _ zero16 ?_) | (refine wpl_copyB rfl _ _ rfl wr.heap.size 87 (List.replicate 16 0) 16 16 rfl List.length_replicate (Blk.nu rfl) w.heap.size A1 n1 mm rem rfl hR' hn0 ?_; rw [Hpc.out, Hmm.out]; refine wpl_name (fun wo => HaS w k key cur sls wo ∧ Blk wo wr.heap.size 87 (arr p)) ⟨hsA, (Blk.nu rfl).setRow _⟩ ?_; rintro wo ⟨hs2, bz⟩) | (refine wpl_load_arr rfl 87 _ rfl _ rfl 16 ty16 p Hpl.out bz.cells_arr ?_) | (go_at_call 69; refine (of_any p Hpl.out _).mono ?_; rintro e w5 ⟨rfl, hB5⟩; rw [Hx.out]))

            have hs5 := hs2.next hB5
            refine (hash1_any (k + 1) k x cur key _ hs5.out hs5.key (by omega)).mono ?_
            rintro e w6 ⟨rfl, b6, hg6⟩
            have hs6 := hs5.fed b6 hg6
            clear hs5 b6 hg6 hs2 bz hB5 hR' hsA
            go_wp2
            go_roundw
            case rel =>
              have hdr := hR.drop (k := mm) hmm hnc1
              rw [if_pos hcm] at hdr
              exact ⟨_, _, _, rem.drop 16, Gcm.absorb key cur x, rfl, by rw [← Hdrop.out]; exact hdr, by omega, by rw [← Hx.out, ← Hp.out]; exact Hstep.out, hs6⟩
            case measure => simp [lenOf2]; omega
          · go_wp2_with (first | (refine wpl_alloc rfl 87 rfl _ zero16 ?_) | (refine wpl_copyB rfl _ _ rfl wr.heap.size 87 (List.replicate 16 0) 16 16 rfl List.length_replicate (Blk.nu rfl) w.heap.size A1 n1 c1 rem rfl hR' hn0 ?_; rw [Hpc.out, Hmm.out]; refine wpl_name (fun wo => HaS w k key cur sls wo ∧ Blk wo wr.heap.size 87 (arr p)) ⟨hsA, (Blk.nu rfl).setRow _⟩ ?_; rintro wo ⟨hs2, bz⟩) | (refine wpl_load_arr rfl 87 _ rfl _ rfl 16 ty16 p Hpl.out bz.cells_arr ?_) | (go_at_call 69; refine (of_any p Hpl.out _).mono ?_; rintro e w5 ⟨rfl, hB5⟩; rw [Hx.out]))

            have hs5 := hs2.next hB5
            refine (hash1_any (k + 1) k x cur key _ hs5.out hs5.key (by omega)).mono ?_
            rintro e w6 ⟨rfl, b6, hg6⟩
            have hs6 := hs5.fed b6 hg6
            clear hs5 b6 hg6 hs2 bz hB5 hR' hsA
            go_wp2
            go_roundw
            case rel =>
              have hdr := hR.drop (k := mm) hmm hnc1
              rw [if_neg hcm] at hdr
              exact ⟨_, _, _, rem.drop 16, Gcm.absorb key cur x, rfl, by rw [← Hdrop.out]; exact hdr, by omega, by rw [← Hx.out, ← Hp.out]; exact Hstep.out, hs6⟩
            case measure => simp [lenOf2]; omega
        · have tn : ¬ (0 : Int) < (n1 : Int) := by omega
          have e0 : rem = [] := List.eq_nil_of_length_eq_zero (by rw [Hrem.out]; omega)
          have Hc := hd (show st (j + 1) = cur by rw [← Hfeed.out, e0, Gcm.feed_nil])
          clear e0
          go_wp2
          go_roundw
          case rel => exact ⟨j + 1, by omega, by go_num, by rw [Hc.out]; exact hs⟩
          case measure => simp [intOf]; omega
    · have ej : j = 2 := by omega
      subst ej
      have tj : ¬ ((2 : Nat) : Int) < 2 := by omega
      have Hr2 := hd (show st 2 = Gcm.feed key text (Gcm.feed key aside (0, 0)) by rw [Hst.out.2 1, Hst.out.2 0, Hst.out.1, HL.out.1, HL.out.2])
      have eb : ∀ (l : List UInt8) (q : Nat), l.length = q → q ≤ 140737488355328 → (q : Int) * 8 = ((n64 (Gcm.bits l) : Nat) : Int) := by
        intro l q hq hle
        have : (Gcm.bits l).toNat = q * 8 := by
          rw [Gcm.bits, UInt64.toNat_mul, hq, UInt64.toNat_ofNat']
          show q % 18446744073709551616 * 8 % 18446744073709551616 = q * 8
          omega
        rw [n64, this]; omega
      have e1 := eb aside n ha.len hn
      have e2 := eb text m ht.len hm
      clear eb
      go_wp2_with (go_at_call 70; refine (hash1_any (k + 1) k (Gcm.bits aside, Gcm.bits text) (st 2) key _ hs.out hs.key (by omega)).mono ?_; rintro e w6 ⟨rfl, b6, hg6⟩; have hs6 := hs.fed b6 hg6; have c1 := hs6.out.hi; have c2 := hs6.out.lo)
      have Hfin := hd (show Gcm.bytes (Gcm.absorb key (st 2) (Gcm.bits aside, Gcm.bits text)) = r by rw [← Hr.out, Gcm.hash, Gcm.hash2, ← Hkey.out, Hr2.out, Hkey.out])
      have Hrl := hd (show r.length = 16 by rw [← Hr.out]; exact Gcm.hash_len _ _ _)
      refine (bytes_any (Gcm.absorb key (st 2) (Gcm.bits aside, Gcm.bits text)) _).mono ?_
      rintro e w7 ⟨rfl, hB7⟩
      rw [Hfin.out]
      have hs7 := hs6.next hB7
      clear b6 hg6 hB7 c1 c2 hs6 e1 e2
      go_wp2_with (refine wpl_store_arr rfl 87 _ _ rfl (w.heap.size + 1) r rfl rfl 87 _ hs7.res 16 ty16.size Hrl.out (by rw [arr_size, List.length_replicate]) ?_)
      exact ret_arr rfl (w.heap.size + 1) rfl ty16 r Hrl.out (hs7.res.setRow _).cells_arr rfl ⟨rfl, below_setRow hs7.old (by omega) _⟩
end Go.Proofs.YthigbggacgiamaaDoor
