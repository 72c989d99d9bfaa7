/-
  The walks of what locks up: begun, stream, tag.
-/
import Derived.Test.YthigbggacgiamaaDoorGcmE
set_option linter.unusedVariables false
set_option linter.unusedSimpArgs false
set_option maxRecDepth 100000
namespace Go.Proofs.YthigbggacgiamaaDoor
open Go.RowKit
namespace Gcm
/-- The counter's first block. -/
def first (nonce : List UInt8) : List UInt8 := (nonce ++ List.replicate 4 0).set 15 1
theorem first_len (nonce : List UInt8) (h : nonce.length = 12) : (first nonce).length = 16 := by rw [first, List.length_set, List.length_append, h]; rfl
end Gcm
theorem ReadsB.onward {w w' : World} {A : Option Addr} {n : Nat} {l : List UInt8} (h : ReadsB w w.heap.size A n l) (hb : Below w.heap.size w w') : ReadsB w' w'.heap.size A n l := ⟨h.len, (h.is.below hb).more hb.size⟩
theorem OwnB.lower {w : World} {B B' : Nat} {v : Value} {l : List UInt8} (h : OwnB w B v l) (hB : B' ≤ B) : OwnB w B' v l :=
  ⟨h.own.1, h.own.2.imp id fun ⟨g, cap, cur, h1, h2, h3⟩ => ⟨g, cap, cur, h1, Nat.le_trans hB h2, h3⟩⟩
theorem new_from_any (A : Option Addr) (c : Nat) (key : List UInt8) (n : Nat) (w : World) (hr : ReadsB w w.heap.size A n key) (hn : n = 16 ∨ n = 32) :
    Calls Tryd.prog 59 #[.slice A n c] w fun e w' => ∃ g, e = .returned (.tuple #[.pointer (some ⟨g, 0, none⟩), .int .i64 0]) ∧ KeyFrom w' w.heap.size g (Aes.keys key) ∧ Below w.heap.size w w' := by
  rcases hn with rfl | rfl
  · exact new_from16 A c key w hr
  · exact new_from32 A c key w hr
set_option maxHeartbeats 2000000 in
set_option maxRecDepth 100000 in
theorem begun_made (A : Option Addr) (n c : Nat) (key nonce : List UInt8) (hn : nonce.length = 12) (w : World) (hr : ReadsB w w.heap.size A n key) (hk : n = 16 ∨ n = 32) :
    Calls Tryd.prog 48 #[.slice A n c, .agg (arr nonce)] w fun e w' => ∃ g, e = .returned (.tuple #[.agg (lkCells (.pointer (some ⟨g, 0, none⟩)) (Gcm.first nonce)), .int .i64 0]) ∧ KeyAt w' g (Aes.keys key) ∧ Below w.heap.size w w' := by
  have Hn := hd hn
  clear hn
  have b0 : Blk ((w.alloc (.cells (arr nonce) 27)).alloc (.cells (lkCells (.pointer none) (List.replicate 16 0)) 102)) w.heap.size 27 (arr nonce) := (Blk.nu rfl).alloc _
  have b1 : Blk ((w.alloc (.cells (arr nonce) 27)).alloc (.cells (lkCells (.pointer none) (List.replicate 16 0)) 102)) (w.heap.size + 1) 102 (lkCells (.pointer none) (List.replicate 16 0)) := Blk.nu (by simp)
  have hB0 := ((Below.refl w.heap.size w).alloc (by simp) (.cells (arr nonce) 27)).alloc (by simp) (.cells (lkCells (.pointer none) (List.replicate 16 0)) 102)
  have hr0 : ReadsB ((w.alloc (.cells (arr nonce) 27)).alloc (.cells (lkCells (.pointer none) (List.replicate 16 0)) 102)) ((w.alloc (.cells (arr nonce) 27)).alloc (.cells (lkCells (.pointer none) (List.replicate 16 0)) 102)).heap.size A n key := ⟨hr.len, (hr.is.below hB0).more hB0.size⟩
  go_enter Tryd.func48, Tryd.ntmps48
  go_wp2_with (refine wpl_alloc rfl 102 rfl _ zero_lk ?_)
  refine (new_from_any _ _ _ _ _ hr0 hk).mono ?_
  rintro e w1 ⟨g, rfl, hkey, hB1⟩
  obtain ⟨P, HP⟩ : ∃ P : Value, Hd (Value.pointer (some ⟨g, 0, none⟩) = P) := ⟨_, ⟨rfl⟩⟩
  have hP1 : P.cells = #[P] := by rw [← HP.out]; rfl
  have hP2 : P.oneCell' = true := by rw [← HP.out]; rfl
  rw [HP.out]
  have b01 := b0.below hB1 b0.lt
  have b11 := b1.below hB1 b1.lt
  have hB1' := hB0.trans (hB1.mono hB0.size)
  have hsz := hB1.size
  simp only [World.size_alloc] at hsz
  have belK := below_setRow ((Below.refl w1.heap.size w1).alloc (Nat.le_refl _) (.cells (lkCells (.pointer none) (List.replicate 16 0)) 102)) (Nat.le_refl _) (lkCells P (List.replicate 16 0))
  clear b0 b1 hB0 hB1 hr0
  obtain ⟨z, Hz⟩ : ∃ z, Hd (w1.heap.size = z) := ⟨_, ⟨rfl⟩⟩
  rw [Hz.out] at belK hsz
  go_wp2_with (first | (refine wpl_build rfl 102 _ rfl [(0, P)] rfl _ (built_lk P hP1) ?_) | (refine wpl_alloc rfl 102 rfl _ zero_lk ?_) | ((refine wpl_store_lk rfl _ _ rfl w1.heap.size P hP2 (List.replicate 16 0) List.length_replicate rfl rfl 102 _ (by rw [lk_size, List.length_replicate]) (Blk.nu rfl) ?_); rw [Hz.out]; refine wpl_name (fun wo => Below z w1 wo ∧ Blk wo z 102 (lkCells P (List.replicate 16 0))) ⟨belK, by rw [← Hz.out]; exact (Blk.nu rfl).setRow _⟩ ?_; rintro wo ⟨hW, c2⟩))
  simp only [Act.put, List.setIfInBounds_toArray, List.set_cons_zero, List.set_cons_succ]
  have d0 : Blk wo.drew w.heap.size 27 (arr nonce) := (b01.below hW (by omega)).drew
  have d2 := c2.drew
  go_still_tail 3, (by kernel_rfl)
  change wpList _ _ _ _ _ wo.drew
  obtain ⟨f, Hf⟩ : ∃ f, Hd (Gcm.first nonce = f) := ⟨_, ⟨rfl⟩⟩
  have Hfl := hd (show f.length = 16 by rw [← Hf.out]; exact Gcm.first_len _ Hn.out)
  obtain ⟨f0, Hf0⟩ : ∃ f, Hd (nonce ++ (List.replicate 16 (0 : UInt8)).drop 12 = f) := ⟨_, ⟨rfl⟩⟩
  have Hf0l := hd (show f0.length = 16 by rw [← Hf0.out, List.length_append, Hn.out]; rfl)
  have Hf01 := hd (show f0.set 15 1 = f by rw [← Hf0.out, ← Hf.out]; rfl)
  go_wp2_with (first | (refine wpl_copy_lk rfl _ _ rfl z 102 P (List.replicate 16 0) List.length_replicate rfl d2 ⟨w.heap.size, 0, none⟩ nonce Hn.out rfl d0.cells_arr ?_; rw [Hf0.out]; refine wpl_name (fun wx => Below z w1 wx ∧ Blk wx z 102 (lkCells P f0)) ⟨below_setRow hW.drew (Nat.le_refl _) _, d2.setRow _⟩ ?_; rintro wx ⟨hX, e2⟩; have k16 : wx.cell? ⟨z, 16, none⟩ = some (.int .u8 (n8 (nth f0 15))) := (e2.cell (1 + 15)).trans ((lk_get P f0 15).trans (by have := arr_get f0 15 (by rw [Hf0l.out]; omega); simpa [arr] using this)); have f16 := e2.frozen 16; have e4 : Blk (wx.setCell ⟨z, 16, none⟩ (.int .u8 1)) z 102 (lkCells P f) := by (have h := e2.set_ (1 + 15) (.int .u8 (n8 1)); rw [lk_set, Hf01.out] at h; exact h)) | (refine wpl_load_lk rfl _ rfl z rfl 102 P f Hfl.out e4 ?_) | (refine wpl_store_lk rfl _ _ rfl (w.heap.size + 1) P hP2 f Hfl.out rfl rfl 102 _ (by rw [lk_size, List.length_replicate]) (b11.below (hX.setCell (p := ⟨z, 16, none⟩) (Nat.le_refl _) (.int .u8 1)) (by omega)) ?_))
  have hY : Below w1.heap.size w1 (wx.setCell ⟨z, 16, none⟩ (.int .u8 1)) := by rw [Hz.out]; exact hX.setCell (p := ⟨z, 16, none⟩) (Nat.le_refl _) (.int .u8 1)
  have b15 := (b11.below hY b11.lt).setRow (lkCells P f)
  have hkey4 := (hkey.below hY).moved (grew_setRow (World.grownBy.refl _ (some (w.heap.size + 1))) (lkCells P f)) (by simp)
  have hB4 := below_setRow (hB1'.trans (hY.mono hB1'.size)) (Nat.le_succ w.heap.size) (lkCells P f)
  refine ret_lk rfl (w.heap.size + 1) rfl (.int .i64 0) rfl 102 P f Hfl.out b15 rfl ?_
  exact ⟨g, by rw [HP.out, Hf.out], hkey4.at_, hB4⟩
set_option maxHeartbeats 2000000 in
set_option maxRecDepth 100000 in
theorem begun_refused (A : Option Addr) (n c : Nat) (nonce : List UInt8) (hn : nonce.length = 12) (w : World) (h16 : n ≠ 16) (h32 : n ≠ 32) :
    Calls Tryd.prog 48 #[.slice A n c, .agg (arr nonce)] w fun e w' => e = .returned (.tuple #[.agg (lkCells (.pointer none) (Gcm.first nonce)), .int .i64 1]) ∧ Below w.heap.size w w' := by
  have Hn := hd hn
  clear hn
  have b0 : Blk ((w.alloc (.cells (arr nonce) 27)).alloc (.cells (lkCells (.pointer none) (List.replicate 16 0)) 102)) w.heap.size 27 (arr nonce) := (Blk.nu rfl).alloc _
  have b1 : Blk ((w.alloc (.cells (arr nonce) 27)).alloc (.cells (lkCells (.pointer none) (List.replicate 16 0)) 102)) (w.heap.size + 1) 102 (lkCells (.pointer none) (List.replicate 16 0)) := Blk.nu (by simp)
  have hB0 := ((Below.refl w.heap.size w).alloc (by simp) (.cells (arr nonce) 27)).alloc (by simp) (.cells (lkCells (.pointer none) (List.replicate 16 0)) 102)
  have H16 := hd h16
  have H32 := hd h32
  clear h16 h32
  go_enter Tryd.func48, Tryd.ntmps48
  go_wp2_with (refine wpl_alloc rfl 102 rfl _ zero_lk ?_)
  refine (new_refused _ _ _ _ H16.out H32.out).mono ?_
  rintro e w1 ⟨rfl, hw⟩
  have hw1 : ((w.alloc (.cells (arr nonce) 27)).alloc (.cells (lkCells (.pointer none) (List.replicate 16 0)) 102)) = w1 := hw
  have hsz0 : w1.heap.size = w.heap.size + 1 + 1 := by rw [← hw1]; simp
  rw [hw1] at b0 b1 hB0
  have hB1 := Below.refl w1.heap.size w1
  clear hw hw1
  obtain ⟨P, HP⟩ : ∃ P : Value, Hd (Value.pointer none = P) := ⟨_, ⟨rfl⟩⟩
  have hP1 : P.cells = #[P] := by rw [← HP.out]; rfl
  have hP2 : P.oneCell' = true := by rw [← HP.out]; rfl
  rw [HP.out]
  have b01 := b0.below hB1 b0.lt
  have b11 := b1.below hB1 b1.lt
  have hB1' := hB0
  have hsz : w.heap.size + 1 + 1 ≤ w1.heap.size := Nat.le_of_eq hsz0.symm
  clear hsz0
  have belK := below_setRow ((Below.refl w1.heap.size w1).alloc (Nat.le_refl _) (.cells (lkCells (.pointer none) (List.replicate 16 0)) 102)) (Nat.le_refl _) (lkCells P (List.replicate 16 0))
  clear b0 b1 hB0 hB1
  obtain ⟨z, Hz⟩ : ∃ z, Hd (w1.heap.size = z) := ⟨_, ⟨rfl⟩⟩
  rw [Hz.out] at belK hsz
  go_wp2_with (first | (refine wpl_build rfl 102 _ rfl [(0, P)] rfl _ (built_lk P hP1) ?_) | (refine wpl_alloc rfl 102 rfl _ zero_lk ?_) | ((refine wpl_store_lk rfl _ _ rfl w1.heap.size P hP2 (List.replicate 16 0) List.length_replicate rfl rfl 102 _ (by rw [lk_size, List.length_replicate]) (Blk.nu rfl) ?_); rw [Hz.out]; refine wpl_name (fun wo => Below z w1 wo ∧ Blk wo z 102 (lkCells P (List.replicate 16 0))) ⟨belK, by rw [← Hz.out]; exact (Blk.nu rfl).setRow _⟩ ?_; rintro wo ⟨hW, c2⟩))
  simp only [Act.put, List.setIfInBounds_toArray, List.set_cons_zero, List.set_cons_succ]
  have d0 : Blk wo.drew w.heap.size 27 (arr nonce) := (b01.below hW (by omega)).drew
  have d2 := c2.drew
  go_still_tail 3, (by kernel_rfl)
  change wpList _ _ _ _ _ wo.drew
  obtain ⟨f, Hf⟩ : ∃ f, Hd (Gcm.first nonce = f) := ⟨_, ⟨rfl⟩⟩
  have Hfl := hd (show f.length = 16 by rw [← Hf.out]; exact Gcm.first_len _ Hn.out)
  obtain ⟨f0, Hf0⟩ : ∃ f, Hd (nonce ++ (List.replicate 16 (0 : UInt8)).drop 12 = f) := ⟨_, ⟨rfl⟩⟩
  have Hf0l := hd (show f0.length = 16 by rw [← Hf0.out, List.length_append, Hn.out]; rfl)
  have Hf01 := hd (show f0.set 15 1 = f by rw [← Hf0.out, ← Hf.out]; rfl)
  go_wp2_with (first | (refine wpl_copy_lk rfl _ _ rfl z 102 P (List.replicate 16 0) List.length_replicate rfl d2 ⟨w.heap.size, 0, none⟩ nonce Hn.out rfl d0.cells_arr ?_; rw [Hf0.out]; refine wpl_name (fun wx => Below z w1 wx ∧ Blk wx z 102 (lkCells P f0)) ⟨below_setRow hW.drew (Nat.le_refl _) _, d2.setRow _⟩ ?_; rintro wx ⟨hX, e2⟩; have k16 : wx.cell? ⟨z, 16, none⟩ = some (.int .u8 (n8 (nth f0 15))) := (e2.cell (1 + 15)).trans ((lk_get P f0 15).trans (by have := arr_get f0 15 (by rw [Hf0l.out]; omega); simpa [arr] using this)); have f16 := e2.frozen 16; have e4 : Blk (wx.setCell ⟨z, 16, none⟩ (.int .u8 1)) z 102 (lkCells P f) := by (have h := e2.set_ (1 + 15) (.int .u8 (n8 1)); rw [lk_set, Hf01.out] at h; exact h)) | (refine wpl_load_lk rfl _ rfl z rfl 102 P f Hfl.out e4 ?_) | (refine wpl_store_lk rfl _ _ rfl (w.heap.size + 1) P hP2 f Hfl.out rfl rfl 102 _ (by rw [lk_size, List.length_replicate]) (b11.below (hX.setCell (p := ⟨z, 16, none⟩) (Nat.le_refl _) (.int .u8 1)) (by omega)) ?_))
  have hY : Below w1.heap.size w1 (wx.setCell ⟨z, 16, none⟩ (.int .u8 1)) := by rw [Hz.out]; exact hX.setCell (p := ⟨z, 16, none⟩) (Nat.le_refl _) (.int .u8 1)
  have b15 := (b11.below hY b11.lt).setRow (lkCells P f)
  have hB4 := below_setRow (hB1'.trans (hY.mono hB1'.size)) (Nat.le_succ w.heap.size) (lkCells P f)
  refine ret_lk rfl (w.heap.size + 1) rfl (.int .i64 1) rfl 102 P f Hfl.out b15 rfl ?_
  exact ⟨by rw [HP.out, Hf.out], hB4⟩
set_option maxHeartbeats 2000000 in
set_option maxRecDepth 100000 in
theorem lstream_any (g : Nat) (rs : List (List UInt8)) (hrs : 1 ≤ rs.length) (hrl : rs.length ≤ 100) (f : List UInt8) (hf : f.length = 16) (A : Option Addr) (n c : Nat) (b : List UInt8) (w : World) (hk : KeyAt w g rs) (hr : ReadsB w w.heap.size A n b) (hn : n ≤ 140737488355328) :
    Calls Tryd.prog 51 #[.agg (lkCells (.pointer (some ⟨g, 0, none⟩)) f), .slice A n c] w fun e w' => ∃ v, e = .returned v ∧ OwnB w' w.heap.size v (Aes.stream rs (f.set 15 2) b) ∧ Below w.heap.size w w' := by
  have Hf := hd hf
  clear hf
  obtain ⟨P, HP⟩ : ∃ P : Value, Hd (Value.pointer (some ⟨g, 0, none⟩) = P) := ⟨_, ⟨rfl⟩⟩
  rw [HP.out]
  obtain ⟨f2, Hf2⟩ : ∃ P, Hd (f.set 15 2 = P) := ⟨_, ⟨rfl⟩⟩
  have Hf2l := hd (show f2.length = 16 by rw [← Hf2.out, List.length_set, Hf.out])
  rw [Hf2.out]
  have b0 : Blk (w.alloc (.cells (lkCells P f) 102)) w.heap.size 102 (lkCells P f) := Blk.nu rfl
  have c0 : (w.alloc (.cells (lkCells P f) 102)).cell? ⟨w.heap.size, 0, none⟩ = some P := (b0.cell 0).trans (lk_get0 P f)
  have bel1 : Below w.heap.size w (((w.alloc (.cells (lkCells P f) 102)).alloc (.cells (arr (List.replicate 16 0)) 87)).setRow (w.heap.size + 1) (arr f)) := below_setRow (((Below.refl _ _).alloc (by simp) _).alloc (by simp) _) (by omega) _
  have b1 : Blk (((w.alloc (.cells (lkCells P f) 102)).alloc (.cells (arr (List.replicate 16 0)) 87)).setRow (w.heap.size + 1) (arr f)) (w.heap.size + 1) 87 (arr f) := (Blk.nu (by simp)).setRow _
  have b01 : Blk (((w.alloc (.cells (lkCells P f) 102)).alloc (.cells (arr (List.replicate 16 0)) 87)).setRow (w.heap.size + 1) (arr f)) w.heap.size 102 (lkCells P f) := (b0.alloc _).farRow (by omega) _
  go_enter Tryd.func51, Tryd.ntmps51
  go_wp2_with (first | (refine wpl_load_arr rfl 87 _ rfl ⟨w.heap.size, 1, none⟩ rfl 16 ty16 f Hf.out b0.lk_at ?_) | (refine wpl_alloc rfl 87 rfl _ zero16 ?_) | ((refine wpl_store_arr rfl 87 _ _ rfl _ f rfl rfl 87 _ (Blk.nu rfl) 16 ty16.size Hf.out (by rw [arr_size]; rfl) ?_); simp only [World.size_alloc]; refine wpl_name (fun wo => Blk wo w.heap.size 102 (lkCells P f) ∧ Blk wo (w.heap.size + 1) 87 (arr f) ∧ Below w.heap.size w wo) ⟨b01, b1, bel1⟩ ?_; clear b01 b1 bel1 b0 c0; rintro wo ⟨b0, b1, hB⟩; have k15 := b1.arr_cell 15 (by rw [Hf.out]; omega); have f15 := b1.frozen 15; have c0 : wo.cell? ⟨w.heap.size, 0, none⟩ = some P := (b0.cell 0).trans (lk_get0 P f); have b2 : Blk (wo.setCell ⟨w.heap.size + 1, 15, none⟩ (.int .u8 2)) (w.heap.size + 1) 87 (arr f2) := (by (have h := b1.arr_set 15 2; rw [Hf2.out] at h; exact h))) | (refine wpl_load_arr rfl 87 _ rfl _ rfl 16 ty16 f2 Hf2l.out b2.cells_arr ?_))
  have hB2 := hB.setCell (p := ⟨w.heap.size + 1, 15, none⟩) (by simp) (.int .u8 2)
  rw [← HP.out]
  refine (stream_any g rs hrs hrl f2 Hf2l.out A n c b _ (hk.below hB2) (hr.onward hB2) hn).mono ?_
  rintro e w5 ⟨v5, rfl, own5, hB5⟩
  have hB6 := hB2.trans (hB5.mono hB2.size)
  have hle := hB2.size
  clear b0 b1 b2 c0 k15 f15 hB hB5
  go_wp2
  go_ret
  exact ⟨_, rfl, own5.lower hle, hB6⟩
namespace Gcm
/-- What a text is signed by. -/
def tag (rs : List (List UInt8)) (f aside made : List UInt8) : List UInt8 := Aes.xor16 (hash (Aes.enc rs (List.replicate 16 0)) aside made) (Aes.enc rs f)
theorem tag_len (rs : List (List UInt8)) (f aside made : List UInt8) : (tag rs f aside made).length = 16 := by rw [tag, Aes.xor16_len, hash_len]
end Gcm
set_option maxHeartbeats 4000000 in
set_option maxRecDepth 100000 in
theorem ltag_any (g : Nat) (rs : List (List UInt8)) (hrs : 1 ≤ rs.length) (hrl : rs.length ≤ 100) (f : List UInt8) (hf : f.length = 16) (A : Option Addr) (n c : Nat) (aside : List UInt8) (D : Option Addr) (m d : Nat) (made : List UInt8) (w : World) (hk : KeyAt w g rs) (ha : ReadsB w w.heap.size A n aside) (hnc : n ≤ c) (hn : n ≤ 140737488355328) (ht : ReadsB w w.heap.size D m made) (hmd : m ≤ d) (hm : m ≤ 140737488355328) :
    Calls Tryd.prog 50 #[.agg (lkCells (.pointer (some ⟨g, 0, none⟩)) f), .slice A n c, .slice D m d] w fun e w' => ∃ z, e = .returned (.slice (some ⟨z, 0, none⟩) 16 16) ∧ w.heap.size ≤ z ∧ Blk w' z 87 (arr (Gcm.tag rs f aside made)) ∧ Below w.heap.size w w' := by
  have Hf := hd hf
  have Hrs := hd (And.intro hrs hrl)
  clear hf hrs hrl
  obtain ⟨P, HP⟩ : ∃ P : Value, Hd (Value.pointer (some ⟨g, 0, none⟩) = P) := ⟨_, ⟨rfl⟩⟩
  rw [HP.out]
  obtain ⟨h, Hh⟩ : ∃ h, Hd (Aes.enc rs (List.replicate 16 0) = h) := ⟨_, ⟨rfl⟩⟩
  have Hhl := hd (show h.length = 16 by rw [← Hh.out]; exact Aes.enc_len _ _ List.length_replicate)
  obtain ⟨x, Hx⟩ : ∃ x, Hd (Gcm.hash h aside made = x) := ⟨_, ⟨rfl⟩⟩
  have Hxl := hd (show x.length = 16 by rw [← Hx.out]; exact Gcm.hash_len _ _ _)
  obtain ⟨y, Hy⟩ : ∃ y, Hd (Aes.enc rs f = y) := ⟨_, ⟨rfl⟩⟩
  have Hyl := hd (show y.length = 16 by rw [← Hy.out]; exact Aes.enc_len _ _ Hf.out)
  obtain ⟨r, Hr⟩ : ∃ r, Hd (Gcm.tag rs f aside made = r) := ⟨_, ⟨rfl⟩⟩
  have Hrx := hd (show iter (Aes.xorStep y) 16 x = r by rw [← Hr.out, Gcm.tag, Hh.out, Hx.out, Hy.out, Aes.xor16_eq])
  rw [Hr.out]
  have hB1 := (Below.refl w.heap.size w).alloc (Nat.le_refl _) (.cells (lkCells P f) 102)
  have b0 : Blk (w.alloc (.cells (lkCells P f) 102)) w.heap.size 102 (lkCells P f) := Blk.nu rfl
  have c0 : (w.alloc (.cells (lkCells P f) 102)).cell? ⟨w.heap.size, 0, none⟩ = some P := (b0.cell 0).trans (lk_get0 P f)
  have hk1 := hk.below hB1
  have ha1 := ha.onward hB1
  have ht1 := ht.onward hB1
  clear hk ha ht
  go_enter Tryd.func50, Tryd.ntmps50
  go_wp2_with (refine wpl_build rfl 87 [] rfl [] rfl (arr (List.replicate 16 0)) built16 ?_)
  have eP := HP.out
  subst eP
  clear HP
  refine (encrypt_any g rs (List.replicate 16 0) List.length_replicate Hrs.out.1 Hrs.out.2 _ hk1).mono ?_
  rintro e w2 ⟨rfl, hB2⟩
  rw [Hh.out]
  have b2 := b0.below hB2 b0.lt
  have hk2 := hk1.below hB2
  have ha2 := ha1.onward hB2
  have ht2 := ht1.onward hB2
  have hB2' := hB1.trans (hB2.mono hB1.size)
  clear hk1 ha1 ht1 b0 c0 hB1 hB2
  go_wp2_with fail
  refine (hash_any h Hhl.out A n c aside D m d made _ ha2 hnc ht2 hmd hn hm).mono ?_
  rintro e w3 ⟨rfl, hB3⟩
  rw [Hx.out]
  have b3 := b2.below hB3 b2.lt
  have hk3 := hk2.below hB3
  have hB3' := hB2'.trans (hB3.mono hB2'.size)
  clear hk2 ha2 ht2 b2 hB2' hB3
  have hzl := hB3'.size
  have bel3 := below_setRow ((Below.refl w3.heap.size w3).alloc (Nat.le_refl _) (.cells (arr (List.replicate 16 0)) 87)) (Nat.le_refl w3.heap.size) (arr x)
  obtain ⟨P, HP⟩ : ∃ P : Value, Hd (Value.pointer (some ⟨g, 0, none⟩) = P) := ⟨_, ⟨rfl⟩⟩
  rw [HP.out] at b3 ⊢
  go_wp2_with (first | (refine wpl_alloc rfl 87 rfl _ zero16 ?_) | ((refine wpl_store_arr rfl 87 _ _ rfl w3.heap.size x rfl rfl 87 _ (Blk.nu rfl) 16 ty16.size Hxl.out (by rw [arr_size]; rfl) ?_); refine wpl_name (fun wo => Blk wo w.heap.size 102 (lkCells P f) ∧ Blk wo w3.heap.size 87 (arr x) ∧ KeyAt wo g rs ∧ Below w.heap.size w wo) ⟨b3.below bel3 b3.lt, (Blk.nu rfl).setRow _, hk3.below bel3, hB3'.trans (bel3.mono hB3'.size)⟩ ?_; clear bel3 b3 hk3 hB3'; rintro wo ⟨b4, bx, hk4, hB4⟩; have c0 : wo.cell? ⟨w.heap.size, 0, none⟩ = some P := (b4.cell 0).trans (lk_get0 P f)) | (refine wpl_load_arr rfl 87 _ rfl ⟨w.heap.size, 1, none⟩ rfl 16 ty16 f Hf.out b4.lk_at ?_))
  have eP := HP.out
  subst eP
  clear HP
  refine (encrypt_any g rs f Hf.out Hrs.out.1 Hrs.out.2 _ hk4).mono ?_
  rintro e w5 ⟨rfl, hB5⟩
  rw [Hy.out]
  have bx5 := bx.below hB5 bx.lt
  have hB5' := hB4.trans (hB5.mono hB4.size)
  obtain ⟨z, Hz⟩ : ∃ z, Hd (w3.heap.size = z) := ⟨_, ⟨rfl⟩⟩
  rw [Hz.out] at bx5 hzl ⊢
  clear b4 bx hk4 hB4 hB5 c0
  have hsz5 := hB5'.size
  have hz5 := bx5.lt
  have bel5 := below_setRow ((Below.refl w5.heap.size w5).alloc (Nat.le_refl _) (.cells (arr (List.replicate 16 0)) 87)) (Nat.le_refl w5.heap.size) (arr y)
  go_wp2_with (first | (refine wpl_alloc rfl 87 rfl _ zero16 ?_) | ((refine wpl_store_arr rfl 87 _ _ rfl w5.heap.size y rfl rfl 87 _ (Blk.nu rfl) 16 ty16.size Hyl.out (by rw [arr_size]; rfl) ?_); refine wpl_name (fun wo => Blk wo z 87 (arr x) ∧ Blk wo w5.heap.size 87 (arr y) ∧ Below w.heap.size w wo) ⟨bx5.below bel5 bx5.lt, (Blk.nu rfl).setRow _, hB5'.trans (bel5.mono hB5'.size)⟩ ?_; clear bel5 bx5 hB5'; rintro wo ⟨bx, bY, hB⟩))
  obtain ⟨u, Hu⟩ : ∃ z, Hd (w5.heap.size = z) := ⟨_, ⟨rfl⟩⟩
  rw [Hu.out] at bY hsz5 hz5 ⊢
  go_loopw [22] (fun i wr => ∃ k : Nat, k ≤ 16 ∧ i = .int .i64 (k : Int) ∧ Blk wr z 87 (arr (iter (Aes.xorStep y) k x)) ∧ Blk wr u 87 (arr y) ∧ Below w.heap.size w wr) (fun i _ => 16 - (intOf i).toNat)
  case atStart => exact ⟨0, by omega, rfl, bx, bY, hB⟩
  case round =>
    clear bx bY hB
    obtain ⟨k, hk, rfl, bx, bY, hB⟩ := hrel
    obtain ⟨s, Hs⟩ : ∃ s, Hd (iter (Aes.xorStep y) k x = s) := ⟨_, ⟨rfl⟩⟩
    rw [Hs.out] at bx
    have Hl := hd (show s.length = 16 by rw [← Hs.out, Aes.xorStep_len, Hxl.out])
    by_cases hlt : k < 16
    · have tk : (k : Int) < 16 := by omega
      have c0 := bx.arr_cell k (by rw [Hl.out]; exact hlt)
      have c1 := bY.arr_cell k (by rw [Hyl.out]; exact hlt)
      have f0 := bx.frozen k
      go_wp2
      go_still_tail 8, (by kernel_rfl)
      change wpList _ _ _ _ _ wr.drew
      go_wp2
      go_roundw
      case rel => exact ⟨k + 1, by omega, by go_num, by rw [iter, Hs.out]; exact bx.drew.arr_set _ _, bY.drew.far (by simp <;> omega) _, hB.drew.setCell (by simp <;> omega) _⟩
      case measure => simp [intOf]; omega
    · have ek : k = 16 := by omega
      subst ek
      have tk : ¬ ((16 : Nat) : Int) < 16 := by omega
      rw [show s = r by rw [← Hs.out, Hrx.out]] at bx
      go_wp2
      go_ret
      exact ⟨z, rfl, hzl, bx, hB⟩
end Go.Proofs.YthigbggacgiamaaDoor
