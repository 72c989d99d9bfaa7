/-
  The walks of what the reference locks up with: the first block, the stream, the tag.
-/
import Derived.Test.YtbcboldepghgpaaRefGh
import Derived.Test.YtbcboldepghgpaaGcmG
import Derived.Test.YtbcboldepghgpaaRefE
set_option linter.unusedVariables false
set_option linter.unusedSimpArgs false
set_option maxRecDepth 100000
namespace Go.Proofs.Ytbcboldepghgpaa
open Go.RowKit
namespace Gcm
def fillStep (q : List UInt8) (k : Nat) (s : List UInt8) : List UInt8 := s.set k (nth q k)
theorem fill_take (q : List UInt8) : ∀ k, k ≤ q.length → k ≤ 16 → iter (fillStep q) k (List.replicate 16 0) = q.take k ++ List.replicate (16 - k) 0
  | 0, _, _ => rfl
  | k + 1, hk, h16 => by
    rw [iter, fill_take q k (by omega) (by omega), fillStep, take_next _ _ (by omega), List.set_append]
    rw [if_neg (by rw [List.length_take]; omega), List.length_take, show k - min k q.length = 0 by omega, show 16 - k = (16 - (k + 1)) + 1 by omega, List.replicate_succ, List.set_cons_zero, List.append_assoc]
    rfl
theorem fillStep_len (q s : List UInt8) (k : Nat) : (iter (fillStep q) k s).length = s.length := iter_keeps _ _ (fun k s => by simp [fillStep]) k s
end Gcm
set_option maxHeartbeats 2000000 in
set_option maxRecDepth 100000 in
theorem first_any (nonce : List UInt8) (hn : nonce.length = 12) (w : World) :
    Calls Try.prog 67 #[.agg (arr nonce)] w fun e w' => e = .returned (.agg (arr (Gcm.first nonce))) ∧ Below w.heap.size w w' := by
  have Hn := hd hn
  clear hn
  obtain ⟨r, Hr⟩ : ∃ r, Hd (Gcm.first nonce = r) := ⟨_, ⟨rfl⟩⟩
  have Hrl := hd (show r.length = 16 by rw [← Hr.out, Gcm.first_len _ Hn.out])
  rw [Hr.out]
  have h0 : Blk (((w.alloc (.cells (arr nonce) 25)).alloc (.cells (arr (List.replicate 16 0)) 104)).alloc (.cells (arr (List.replicate 16 0)) 104)) w.heap.size 25 (arr nonce) ∧
      Blk (((w.alloc (.cells (arr nonce) 25)).alloc (.cells (arr (List.replicate 16 0)) 104)).alloc (.cells (arr (List.replicate 16 0)) 104)) (w.heap.size + 1) 104 (arr (List.replicate 16 0)) ∧
      Blk (((w.alloc (.cells (arr nonce) 25)).alloc (.cells (arr (List.replicate 16 0)) 104)).alloc (.cells (arr (List.replicate 16 0)) 104)) (w.heap.size + 1 + 1) 104 (arr (List.replicate 16 0)) ∧
      Below w.heap.size w (((w.alloc (.cells (arr nonce) 25)).alloc (.cells (arr (List.replicate 16 0)) 104)).alloc (.cells (arr (List.replicate 16 0)) 104)) :=
    ⟨((Blk.nu (by simp)).alloc _).alloc _, (Blk.nu (by simp)).alloc _, Blk.nu (by simp), (((Below.refl _ _).alloc (by simp) _).alloc (by simp) _).alloc (by simp; omega) _⟩
  go_enter Try.func67, Try.ntmps67
  go_wp2_with (refine wpl_alloc rfl 104 rfl _ zero16 ?_; simp only [World.size_alloc]; first | (refine wpl_name (fun wo => Blk wo w.heap.size 25 (arr nonce) ∧ Blk wo (w.heap.size + 1) 104 (arr (List.replicate 16 0)) ∧ Blk wo (w.heap.size + 1 + 1) 104 (arr (List.replicate 16 0)) ∧ Below w.heap.size w wo) h0 ?_; clear h0; rintro wo ⟨b0, b1, b2, hB⟩) | skip)
  go_loopw [4] (fun i wr => ∃ k : Nat, k ≤ 12 ∧ i = .int .i64 (k : Int) ∧ Blk wr w.heap.size 25 (arr nonce) ∧ Blk wr (w.heap.size + 1) 104 (arr (List.replicate 16 0)) ∧ Blk wr (w.heap.size + 1 + 1) 104 (arr (iter (Gcm.fillStep nonce) k (List.replicate 16 0))) ∧ Below w.heap.size w wr) (fun i _ => 12 - (intOf i).toNat)
  case atStart => exact ⟨0, by omega, rfl, b0, b1, b2, hB⟩
  case round =>
    clear b0 b1 b2 hB
    obtain ⟨k, hk, rfl, b0, b1, b2, hB⟩ := hrel
    obtain ⟨s, Hs⟩ : ∃ s, Hd (iter (Gcm.fillStep nonce) k (List.replicate 16 0) = s) := ⟨_, ⟨rfl⟩⟩
    rw [Hs.out] at b2
    have Hl := hd (show s.length = 16 by rw [← Hs.out, Gcm.fillStep_len]; exact List.length_replicate)
    by_cases hlt : k < 12
    · have tk : (k : Int) < 12 := by omega
      have tk2 : (k : Int) < 16 := by omega
      have c0 := b0.arr_cell k (by rw [Hn.out]; omega)
      have c2 := b2.arr_cell k (by rw [Hl.out]; omega)
      have f2 := b2.frozen k
      go_wp2
      go_roundw
      case rel => exact ⟨k + 1, by omega, by go_num, b0.far (by simp <;> omega) _, b1.far (by simp <;> omega) _, by rw [iter, Hs.out]; exact b2.arr_set _ _, hB.setCell (by simp <;> omega) _⟩
      case measure => simp [intOf] <;> omega
    · have ek : k = 12 := by omega
      subst ek
      have tk : ¬ ((12 : Nat) : Int) < 12 := by omega
      have Hfin := hd (show s.set 15 1 = r by rw [← Hs.out, Gcm.fill_take _ _ (by rw [Hn.out]; omega) (by omega), List.take_of_length_le (by rw [Hn.out]; omega), ← Hr.out]; rfl)
      have c2 := b2.arr_cell 15 (by rw [Hl.out]; omega)
      have f2 := b2.frozen 15
      have b3 := b2.arr_set 15 1
      rw [Hfin.out] at b3
      have b13 := b1.far (p := ⟨w.heap.size + 1 + 1, 15, none⟩) (by simp <;> omega) (.int .u8 (n8 1))
      have hB3 := hB.setCell (p := ⟨w.heap.size + 1 + 1, 15, none⟩) (by simp <;> omega) (.int .u8 (n8 1))
      go_wp2_with (first | (refine wpl_load_arr rfl 104 _ rfl _ rfl 16 ty16 r Hrl.out b3.cells_arr ?_) | (refine wpl_store_arr rfl 104 _ _ rfl (w.heap.size + 1) r rfl rfl 104 _ b13 16 ty16.size Hrl.out (by rw [arr_size, List.length_replicate]) ?_))
      exact ret_arr rfl (w.heap.size + 1) rfl ty16 r Hrl.out (b13.setRow _).cells_arr rfl ⟨rfl, below_setRow hB3 (by omega) _⟩
set_option maxHeartbeats 2000000 in
set_option maxRecDepth 100000 in
theorem rstream_any (g : Nat) (rs : List (List UInt8)) (hrs : 1 ≤ rs.length) (hrl : rs.length ≤ 15) (nonce : List UInt8) (hn : nonce.length = 12) (A : Option Addr) (n c : Nat) (b : List UInt8) (w : World) (hk : RefAt w g rs) (hr : ReadsB w w.heap.size A n b) (hm : n ≤ 140737488355328) :
    Calls Try.prog 50 #[.pointer (some ⟨g, 0, none⟩), .agg (arr nonce), .slice A n c] w fun e w' => ∃ v, e = .returned v ∧ OwnB w' w.heap.size v (Gcm.crypt rs nonce b) ∧ Below w.heap.size w w' := by
  have Hn := hd hn
  have Hrs := hd (And.intro hrs hrl)
  clear hn hrs hrl
  obtain ⟨f, Hf⟩ : ∃ f, Hd (Gcm.first nonce = f) := ⟨_, ⟨rfl⟩⟩
  have Hfl := hd (show f.length = 16 by rw [← Hf.out]; exact Gcm.first_len _ Hn.out)
  obtain ⟨f2, Hf2⟩ : ∃ P, Hd (f.set 15 2 = P) := ⟨_, ⟨rfl⟩⟩
  have Hf2l := hd (show f2.length = 16 by rw [← Hf2.out, List.length_set, Hfl.out])
  have Hcr := hd (show Gcm.crypt rs nonce b = Aes.stream rs f2 b by unfold Gcm.crypt; rw [Hf.out, Hf2.out])
  rw [Hcr.out]
  have hB1 := (Below.refl w.heap.size w).alloc (Nat.le_refl _) (.cells (arr nonce) 25)
  have b0 : Blk (w.alloc (.cells (arr nonce) 25)) w.heap.size 25 (arr nonce) := Blk.nu rfl
  go_enter Try.func50, Try.ntmps50
  go_wp2_with (refine wpl_load_arr rfl 25 _ rfl _ rfl 12 ty12 nonce Hn.out b0.cells_arr ?_)
  refine (first_any nonce Hn.out _).mono ?_
  rintro e w2 ⟨rfl, hB2⟩
  rw [Hf.out]
  have hB2' := hB1.trans (hB2.mono hB1.size)
  have bel2 := below_setRow ((Below.refl w2.heap.size w2).alloc (Nat.le_refl _) (.cells (arr (List.replicate 16 0)) 104)) (Nat.le_refl w2.heap.size) (arr f)
  have hz := hB2'.size
  clear b0 hB1 hB2
  go_wp2_with (first | ((refine wpl_store_arr rfl 104 _ _ rfl w2.heap.size f rfl rfl 104 _ (Blk.nu rfl) 16 ty16.size Hfl.out (by rw [arr_size]; rfl) ?_); refine wpl_name (fun wo => Blk wo w2.heap.size 104 (arr f) ∧ Below w.heap.size w wo) ⟨(Blk.nu rfl).setRow _, hB2'.trans (bel2.mono hB2'.size)⟩ ?_; clear bel2 hB2'; rintro wo ⟨b1, hB⟩; have k15 := b1.arr_cell 15 (by rw [Hfl.out]; omega); have f15 := b1.frozen 15; have b2 := b1.arr_set 15 2; rw [Hf2.out] at b2) | (refine wpl_alloc rfl 104 rfl _ zero16 ?_) | (refine wpl_load_arr rfl 104 _ rfl _ rfl 16 ty16 f2 Hf2l.out b2.cells_arr ?_))
  have hB3 := hB.setCell (p := ⟨w2.heap.size, 15, none⟩) hz (.int .u8 2)
  refine (ref_stream_any g rs Hrs.out.1 Hrs.out.2 f2 Hf2l.out A n c b _ (hk.below hB3) (hr.onward hB3) hm).mono ?_
  rintro e w5 ⟨v5, rfl, own5, hB5⟩
  have hB6 := hB3.trans (hB5.mono hB3.size)
  have hle := hB3.size
  clear b1 b2 k15 f15 hB hB5
  go_wp2
  go_ret
  exact ⟨_, rfl, own5.lower hle, hB6⟩
/-- What the tag's walk keeps: the nonce, the key, what came in. -/
structure TagS (w : World) (z : Nat) (nonce : List UInt8) (g : Nat) (rs : List (List UInt8)) (A : Option Addr) (n : Nat) (aside : List UInt8) (D : Option Addr) (m : Nat) (made : List UInt8) (W : World) : Prop where
  at_ : Blk W z 25 (arr nonce)
  key : RefAt W g rs
  ra : ReadsB W W.heap.size A n aside
  rt : ReadsB W W.heap.size D m made
  old : Below w.heap.size w W
theorem TagS.next {w : World} {z : Nat} {nonce : List UInt8} {g : Nat} {rs : List (List UInt8)} {A : Option Addr} {n : Nat} {aside : List UInt8} {D : Option Addr} {m : Nat} {made : List UInt8} {W w' : World} (h : TagS w z nonce g rs A n aside D m made W) (hb : Below W.heap.size W w') : TagS w z nonce g rs A n aside D m made w' :=
  ⟨h.at_.below hb h.at_.lt, h.key.below hb, h.ra.onward hb, h.rt.onward hb, h.old.trans (hb.mono h.old.size)⟩
set_option maxHeartbeats 4000000 in
set_option maxRecDepth 100000 in
theorem rtag_any (g : Nat) (rs : List (List UInt8)) (hrs : 1 ≤ rs.length) (hrl : rs.length ≤ 15) (nonce : List UInt8) (hn : nonce.length = 12) (A : Option Addr) (n c : Nat) (aside : List UInt8) (D : Option Addr) (m d : Nat) (made : List UInt8) (w : World) (hk : RefAt w g rs) (ha : ReadsB w w.heap.size A n aside) (ht : ReadsB w w.heap.size D m made) (hnm : n + m ≤ 140737488000000) :
    Calls Try.prog 51 #[.pointer (some ⟨g, 0, none⟩), .agg (arr nonce), .slice A n c, .slice D m d] w fun e w' => ∃ v, e = .returned v ∧ OwnB w' w.heap.size v (Gcm.tag rs (Gcm.first nonce) aside made) ∧ Below w.heap.size w w' := by
  have Hn := hd hn
  have Hrs := hd (And.intro hrs hrl)
  clear hn hrs hrl
  obtain ⟨f, Hf⟩ : ∃ f, Hd (Gcm.first nonce = f) := ⟨_, ⟨rfl⟩⟩
  have Hfl := hd (show f.length = 16 by rw [← Hf.out]; exact Gcm.first_len _ Hn.out)
  obtain ⟨h, Hh⟩ : ∃ h, Hd (Aes.enc rs (List.replicate 16 0) = h) := ⟨_, ⟨rfl⟩⟩
  have Hhl := hd (show h.length = 16 by rw [← Hh.out]; exact Aes.enc_len _ _ List.length_replicate)
  obtain ⟨x, Hx⟩ : ∃ x, Hd (Gcm.hash h aside made = x) := ⟨_, ⟨rfl⟩⟩
  have Hxl := hd (show x.length = 16 by rw [← Hx.out]; exact Gcm.hash_len _ _ _)
  obtain ⟨y, Hy⟩ : ∃ y, Hd (Aes.enc rs f = y) := ⟨_, ⟨rfl⟩⟩
  have Hyl := hd (show y.length = 16 by rw [← Hy.out]; exact Aes.enc_len _ _ Hfl.out)
  obtain ⟨S, HS⟩ : ∃ r, Hd (Gcm.tag rs f aside made = r) := ⟨_, ⟨rfl⟩⟩
  have Hrx := hd (show iter (Aes.xorStep y) 16 x = S by rw [← HS.out, Gcm.tag, Hh.out, Hx.out, Hy.out, Aes.xor16_eq])
  have HSl := hd (show S.length = 16 by rw [← HS.out, Gcm.tag_len])
  have HSn := hd (show ∀ k, k < 16 → nth S k = nth x k ^^^ nth y k from fun k hk => by rw [← Hrx.out, Gcm.xor_nth _ _ _ _ (by rw [Hxl.out]; omega), if_pos hk])
  rw [Hf.out, HS.out]
  have bel0 := (Below.refl w.heap.size w).alloc (Nat.le_refl _) (.cells (arr nonce) 25)
  have hT : TagS w w.heap.size nonce g rs A n aside D m made (w.alloc (.cells (arr nonce) 25)) := ⟨Blk.nu rfl, hk.below bel0, ha.onward bel0, ht.onward bel0, bel0⟩
  clear bel0 hk ha ht
  go_enter Try.func51, Try.ntmps51
  go_wp2_with (refine wpl_build rfl 104 [] rfl [] rfl (arr (List.replicate 16 0)) built16 ?_)
  refine (ref_encrypt_any g rs (List.replicate 16 0) List.length_replicate Hrs.out.1 Hrs.out.2 _ hT.key).mono ?_
  rintro e w2 ⟨rfl, bel2⟩
  rw [Hh.out]
  replace hT := hT.next bel2
  have bel3 := below_setRow ((Below.refl w2.heap.size w2).alloc (Nat.le_refl _) (.cells (arr (List.replicate 16 0)) 104)) (Nat.le_refl w2.heap.size) (arr h)
  clear bel2
  go_wp2_with (first | ((refine wpl_store_arr rfl 104 _ _ rfl w2.heap.size h rfl rfl 104 _ (Blk.nu rfl) 16 ty16.size Hhl.out (by rw [arr_size]; rfl) ?_); refine wpl_name (fun wo => Blk wo w2.heap.size 104 (arr h) ∧ TagS w w.heap.size nonce g rs A n aside D m made wo) ⟨(Blk.nu rfl).setRow _, hT.next bel3⟩ ?_; clear bel3 hT; rintro w3 ⟨bh, hT⟩) | (refine wpl_alloc rfl 104 rfl _ zero16 ?_) | (refine wpl_load_arr rfl 104 _ rfl _ rfl 16 ty16 h Hhl.out bh.cells_arr ?_))
  refine (refHash_any h Hhl.out A n c aside D m d made _ hT.ra hT.rt hnm).mono ?_
  rintro e w4 ⟨rfl, bel4⟩
  rw [Hx.out]
  replace hT := hT.next bel4
  have bel5 := below_setRow ((Below.refl w4.heap.size w4).alloc (Nat.le_refl _) (.cells (arr (List.replicate 16 0)) 104)) (Nat.le_refl w4.heap.size) (arr x)
  clear bel4 bh
  obtain ⟨z2, Hz2⟩ : ∃ z, Hd (w2.heap.size = z) := ⟨_, ⟨rfl⟩⟩
  rw [Hz2.out]
  go_wp2_with (first | ((refine wpl_store_arr rfl 104 _ _ rfl w4.heap.size x rfl rfl 104 _ (Blk.nu rfl) 16 ty16.size Hxl.out (by rw [arr_size]; rfl) ?_); refine wpl_name (fun wo => Blk wo w4.heap.size 104 (arr x) ∧ TagS w w.heap.size nonce g rs A n aside D m made wo) ⟨(Blk.nu rfl).setRow _, hT.next bel5⟩ ?_; clear bel5 hT; rintro w5 ⟨bx, hT⟩) | (refine wpl_alloc rfl 104 rfl _ zero16 ?_) | (refine wpl_load_arr rfl 25 _ rfl _ rfl 12 ty12 nonce Hn.out hT.at_.cells_arr ?_))
  have hz4 := bx.lt
  refine (first_any nonce Hn.out _).mono ?_
  rintro e w6 ⟨rfl, bel6⟩
  rw [Hf.out]
  replace hT := hT.next bel6
  replace bx := bx.below bel6 bx.lt
  clear bel6
  go_wp2_with fail
  refine (ref_encrypt_any g rs f Hfl.out Hrs.out.1 Hrs.out.2 _ hT.key).mono ?_
  rintro e w7 ⟨rfl, bel7⟩
  rw [Hy.out]
  replace hT := hT.next bel7
  replace bx := bx.below bel7 bx.lt
  clear bel7
  obtain ⟨z4, Hz4⟩ : ∃ z, Hd (w4.heap.size = z) := ⟨_, ⟨rfl⟩⟩
  rw [Hz4.out] at bx ⊢
  have bel8 := below_setRow ((Below.refl w7.heap.size w7).alloc (Nat.le_refl _) (.cells (arr (List.replicate 16 0)) 104)) (Nat.le_refl w7.heap.size) (arr y)
  go_wp2_with (first | ((refine wpl_store_arr rfl 104 _ _ rfl w7.heap.size y rfl rfl 104 _ (Blk.nu rfl) 16 ty16.size Hyl.out (by rw [arr_size]; rfl) ?_); refine wpl_name (fun wo => Blk wo z4 104 (arr x) ∧ Blk wo w7.heap.size 104 (arr y) ∧ Below w.heap.size w wo) ⟨bx.below bel8 bx.lt, (Blk.nu rfl).setRow _, (hT.next bel8).old⟩ ?_; clear bel8 hT bx; rintro w8 ⟨bx, bY, hB⟩) | (refine wpl_alloc rfl 104 rfl _ zero16 ?_))
  obtain ⟨u, Hu⟩ : ∃ z, Hd (w7.heap.size = z) := ⟨_, ⟨rfl⟩⟩
  rw [Hu.out] at bY ⊢
  go_loopw [12, 13] (fun v i wr => ∃ k : Nat, k ≤ 16 ∧ i = .int .i64 (k : Int) ∧ OwnB wr w.heap.size v (S.take k) ∧ Blk wr z4 104 (arr x) ∧ Blk wr u 104 (arr y) ∧ Below w.heap.size w wr) (fun _ i _ => 16 - (intOf i).toNat)
  case atStart => exact ⟨0, by omega, rfl, OwnB.nil _ _, bx, bY, hB⟩
  case round =>
    clear bx bY hB
    obtain ⟨k, hk, rfl, own, bx, bY, hB⟩ := hrel
    obtain ⟨A3, c3, e3⟩ := own.slice
    have hlen : (S.take k).length = k := by rw [List.length_take, HSl.out]; omega
    rw [hlen] at e3
    subst e3
    have Hlen := hd hlen
    clear hlen
    by_cases hlt : k < 16
    · have tk : (k : Int) < 16 := by omega
      have c1 := bx.arr_cell k (by rw [Hxl.out]; omega)
      have c2 := bY.arr_cell k (by rw [Hyl.out]; omega)
      obtain ⟨p, Hp⟩ : ∃ p, Hd (nth x k ^^^ nth y k = p) := ⟨_, ⟨rfl⟩⟩
      have Hnx := hd (show S.take (k + 1) = S.take k ++ [p] by rw [take_next _ _ (by rw [HSl.out]; exact hlt), HSn.out k hlt, Hp.out])
      have hcl : (S.take k).length + [p].length ≤ 140737488355328 := by rw [Hlen.out]; simp; omega
      have own1 := (own.alloc (.cells #[.int .u8 (n8 p)] 5)).drew
      have hr1 := (ReadsB.one wr p).drew
      rw [← Hp.out] at own1 hr1
      have hB1 : w.heap.size ≤ (wr.alloc (.cells #[.int .u8 (n8 (nth x k ^^^ nth y k))] 5)).drew.heap.size := by have := hB.size; simp; omega
      go_wp2_with fail
      go_region_law (first | (refine step_appendB (by rfl) _ _ (by rfl) w.heap.size (.slice A3 k c3) (S.take k) (by rfl) own1 (wr.heap.size + 1) _ 1 1 [nth x k ^^^ nth y k] (by rfl) hr1 (by rw [Hp.out]; exact hcl) hB1 ?_; intro v2 w2 own2 gr2 at2))
      all_goals
        clear hr1 hB1 own1 hcl c1 c2
        go_wp2
        go_roundw
        case rel =>
          rw [Hp.out] at own2 gr2
          have hBa := (hB.alloc hB.size (.cells #[.int .u8 (n8 p)] 5)).drew
          exact ⟨k + 1, by omega, by go_num, by rw [Hnx.out]; exact own2, (bx.alloc _).drew.appended (own.alloc _).drew gr2 (by decide), (bY.alloc _).drew.appended (own.alloc _).drew gr2 (by decide), below_appended hBa (own.alloc _).drew gr2 (Nat.le_refl _) hBa.size⟩
        case measure => simp [intOf] <;> omega
    · have ek : k = 16 := by omega
      subst ek
      have tk : ¬ ((16 : Nat) : Int) < 16 := by omega
      go_wp2
      go_ret
      exact ⟨_, rfl, by rw [List.take_of_length_le (by rw [HSl.out]; exact Nat.le_refl _)] at own; exact own, hB⟩
set_option maxHeartbeats 2000000 in
set_option maxRecDepth 100000 in
theorem rlock_refused (A : Option Addr) (n c : Nat) (nonce : List UInt8) (X Y : Value) (w : World) (h16 : n ≠ 16) (h32 : n ≠ 32) :
    Calls Try.prog 31 #[.slice A n c, .agg (arr nonce), X, Y] w fun e w' => e = .returned (.tuple #[.slice none 0 0, .int .i64 1]) ∧ Below w.heap.size w w' := by
  have hB1 := (Below.refl w.heap.size w).alloc (Nat.le_refl _) (.cells (arr nonce) 25)
  go_enter Try.func31, Try.ntmps31
  go_wp2_with (go_at_call 49; refine (ref_new_refused A n c _ h16 h32).mono ?_; rintro e w3 ⟨rfl, rfl⟩)
  go_ret2
  exact ⟨rfl, hB1⟩
set_option maxHeartbeats 2000000 in
set_option maxRecDepth 100000 in
theorem rlock_made (A : Option Addr) (n c : Nat) (key nonce : List UInt8) (hn : nonce.length = 12) (D : Option Addr) (p q : Nat) (aside : List UInt8) (E : Option Addr) (m d : Nat) (text : List UInt8) (w : World) (hr : ReadsB w w.heap.size A n key) (hk : n = 16 ∨ n = 32)
    (ha : ReadsB w w.heap.size D p aside) (ht : ReadsB w w.heap.size E m text) (hpm : p + m ≤ 140737488000000) :
    Calls Try.prog 31 #[.slice A n c, .agg (arr nonce), .slice D p q, .slice E m d] w fun e w' => ∃ v, e = .returned (.tuple #[v, .int .i64 0]) ∧ OwnB w' w.heap.size v (Gcm.lock (Aes.keys key) nonce aside text) ∧ Below w.heap.size w w' := by
  have Hn := hd hn
  have Htl := hd ht.len
  have Hk := hd (show key.length = 16 ∨ key.length = 32 by rw [hr.len]; exact hk)
  clear hn
  have Hrs := hd (And.intro (keys_some key Hk.out).1 (keys_most key Hk.out))
  obtain ⟨rs, Hrk⟩ : ∃ rs, Hd (Aes.keys key = rs) := ⟨_, ⟨rfl⟩⟩
  rw [Hrk.out] at Hrs ⊢
  obtain ⟨f, Hf⟩ : ∃ f, Hd (Gcm.first nonce = f) := ⟨_, ⟨rfl⟩⟩
  obtain ⟨made, Hmade⟩ : ∃ f, Hd (Gcm.crypt rs nonce text = f) := ⟨_, ⟨rfl⟩⟩
  have Hml := hd (show made.length = m by rw [← Hmade.out, Gcm.crypt_len, Htl.out])
  obtain ⟨tg, Htg⟩ : ∃ t, Hd (Gcm.tag rs f aside made = t) := ⟨_, ⟨rfl⟩⟩
  have Htgl := hd (show tg.length = 16 by rw [← Htg.out]; exact Gcm.tag_len _ _ _ _)
  have Hlock := hd (show Gcm.lock rs nonce aside text = made ++ tg by rw [Gcm.lock, Hmade.out, Hf.out, Htg.out])
  rw [Hlock.out]
  have hB1 := (Below.refl w.heap.size w).alloc (Nat.le_refl _) (.cells (arr nonce) 25)
  have b0 : Blk (w.alloc (.cells (arr nonce) 25)) w.heap.size 25 (arr nonce) := Blk.nu rfl
  have hr1 := hr.onward hB1
  go_enter Try.func31, Try.ntmps31
  go_wp2_with fail
  refine (ref_new_made A c key n _ hr1 hk).mono ?_
  rintro e w2 ⟨g, rfl, hkey, hB2⟩
  rw [Hrk.out] at hkey
  have b2 := b0.below hB2 b0.lt
  have hB2' := hB1.trans (hB2.mono hB1.size)
  clear hr1 hB1 hB2 b0
  go_wp2_with (refine wpl_load_arr rfl 25 _ rfl _ rfl 12 ty12 nonce Hn.out b2.cells_arr ?_)
  refine (rstream_any g rs Hrs.out.1 Hrs.out.2 nonce Hn.out E m d text _ hkey (ht.onward hB2') (by omega)).mono ?_
  rintro e w4 ⟨v4, rfl, own4, hB4⟩
  rw [Hmade.out] at own4
  obtain ⟨A4, c4, e4⟩ := own4.slice
  rw [Hml.out] at e4
  subst e4
  have r4 := own4.reads_any.2
  have b4 := b2.below hB4 b2.lt
  have hkey4 := hkey.below hB4
  have hB4' := hB2'.trans (hB4.mono hB2'.size)
  have hlo := hB2'.size
  have own4 := own4.lower hlo
  clear b2 hkey hB2' hB4
  go_wp2_with (refine wpl_load_arr rfl 25 _ rfl _ rfl 12 ty12 nonce Hn.out b4.cells_arr ?_)
  refine (rtag_any g rs Hrs.out.1 Hrs.out.2 nonce Hn.out D p q aside A4 m c4 made _ hkey4 (ha.onward hB4') r4 hpm).mono ?_
  rintro e w5 ⟨y, rfl, own6, hB5⟩
  rw [Hf.out, Htg.out] at own6
  obtain ⟨A6, c6, e6⟩ := own6.slice
  rw [Htgl.out] at e6
  subst e6
  have own5 := own4.later hB5
  have hB5' := hB4'.trans (hB5.mono hB4'.size)
  have hrt := own6.reads_any.2
  have hcl : made.length + tg.length ≤ 140737488355328 := by rw [Hml.out, Htgl.out]; omega
  have hBs := hB5'.size
  clear own4 r4 b4 hkey4 hB4' hB5 own6
  go_wp2_with (at_builtin; refine wpl_appendB rfl _ _ rfl w.heap.size (.slice A4 m c4) made rfl own5 w5.heap.size A6 16 c6 tg rfl hrt hcl hBs ?_; intro v6 w6 own6 gr6 at6)
  go_ret2
  exact ⟨v6, rfl, own6, below_appended hB5' own5 gr6 (Nat.le_refl _) hBs⟩
end Go.Proofs.Ytbcboldepghgpaa
