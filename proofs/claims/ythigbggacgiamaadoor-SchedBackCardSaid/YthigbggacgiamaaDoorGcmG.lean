/-
  The walk of gcm.Seal.
-/
import Derived.Test.YthigbggacgiamaaDoorGcmF
set_option linter.unusedVariables false
set_option linter.unusedSimpArgs false
set_option maxRecDepth 100000
namespace Go.Proofs.YthigbggacgiamaaDoor
open Go.RowKit
namespace Gcm
/-- A text locked up, without what it is signed by. -/
def crypt (rs : List (List UInt8)) (nonce text : List UInt8) : List UInt8 := Aes.stream rs ((first nonce).set 15 2) text
def lock (rs : List (List UInt8)) (nonce aside text : List UInt8) : List UInt8 := crypt rs nonce text ++ tag rs (first nonce) aside (crypt rs nonce text)
theorem crypt_len (rs : List (List UInt8)) (nonce text : List UInt8) : (crypt rs nonce text).length = text.length := Aes.stream_len _ _ _
attribute [irreducible] crypt
end Gcm
set_option maxHeartbeats 2000000 in
set_option maxRecDepth 100000 in
theorem lock_refused (A : Option Addr) (n c : Nat) (nonce : List UInt8) (hn : nonce.length = 12) (X Y : Value) (w : World) (h16 : n ≠ 16) (h32 : n ≠ 32) :
    Calls Tryd.prog 47 #[.slice A n c, .agg (arr nonce), X, Y] w fun e w' => e = .returned (.tuple #[.slice none 0 0, .int .i64 1]) ∧ Below w.heap.size w w' := by
  have Hn := hd hn
  clear hn
  obtain ⟨f, Hf⟩ : ∃ f, Hd (Gcm.first nonce = f) := ⟨_, ⟨rfl⟩⟩
  have Hfl := hd (show f.length = 16 by rw [← Hf.out]; exact Gcm.first_len _ Hn.out)
  have hB1 := (Below.refl w.heap.size w).alloc (Nat.le_refl _) (.cells (arr nonce) 27)
  have b0 : Blk (w.alloc (.cells (arr nonce) 27)) w.heap.size 27 (arr nonce) := Blk.nu rfl
  go_enter Tryd.func47, Tryd.ntmps47
  go_wp2_with (first | (refine wpl_load_arr rfl 27 _ rfl _ rfl 12 ty12 nonce Hn.out b0.cells_arr ?_) | (go_at_call 48; refine (begun_refused A n c nonce Hn.out _ h16 h32).mono ?_; rintro e w2 ⟨rfl, hB2⟩; rw [Hf.out]) | (refine wpl_alloc rfl 102 rfl _ zero_lk ?_) | (refine wpl_store_lk rfl _ _ rfl w2.heap.size (.pointer none) rfl f Hfl.out rfl rfl 102 _ (by rw [lk_size, List.length_replicate]) (Blk.nu rfl) ?_))
  have hB3 := hB1.trans (hB2.mono hB1.size)
  go_ret2
  exact ⟨rfl, below_setRow (hB3.alloc hB3.size _) hB3.size _⟩
set_option maxHeartbeats 2000000 in
set_option maxRecDepth 100000 in
theorem lock_made (A : Option Addr) (n c : Nat) (key nonce : List UInt8) (hn : nonce.length = 12) (D : Option Addr) (p q : Nat) (aside : List UInt8) (E : Option Addr) (m d : Nat) (text : List UInt8) (w : World) (hr : ReadsB w w.heap.size A n key) (hk : n = 16 ∨ n = 32)
    (ha : ReadsB w w.heap.size D p aside) (hpq : p ≤ q) (hp : p ≤ 140737488355328) (ht : ReadsB w w.heap.size E m text) (hm : m ≤ 140737488355312) :
    Calls Tryd.prog 47 #[.slice A n c, .agg (arr nonce), .slice D p q, .slice E m d] w fun e w' => ∃ v, e = .returned (.tuple #[v, .int .i64 0]) ∧ OwnB w' w.heap.size v (Gcm.lock (Aes.keys key) nonce aside text) ∧ Below w.heap.size w w' := by
  have Hn := hd hn
  have Htl := hd ht.len
  have Hk := hd (show key.length = 16 ∨ key.length = 32 by rw [hr.len]; exact hk)
  clear hn
  have Hrs := hd (keys_some key Hk.out)
  obtain ⟨rs, Hrk⟩ : ∃ rs, Hd (Aes.keys key = rs) := ⟨_, ⟨rfl⟩⟩
  rw [Hrk.out] at Hrs ⊢
  obtain ⟨f, Hf⟩ : ∃ f, Hd (Gcm.first nonce = f) := ⟨_, ⟨rfl⟩⟩
  have Hfl := hd (show f.length = 16 by rw [← Hf.out]; exact Gcm.first_len _ Hn.out)
  obtain ⟨made, Hmade⟩ : ∃ f, Hd (Gcm.crypt rs nonce text = f) := ⟨_, ⟨rfl⟩⟩
  have Hml := hd (show made.length = m by rw [← Hmade.out, Gcm.crypt_len, Htl.out])
  have Hcr := hd (show Aes.stream rs (f.set 15 2) text = made by rw [← Hf.out, ← Hmade.out]; unfold Gcm.crypt; rfl)
  obtain ⟨tg, Htg⟩ : ∃ t, Hd (Gcm.tag rs f aside made = t) := ⟨_, ⟨rfl⟩⟩
  have Htgl := hd (show tg.length = 16 by rw [← Htg.out]; exact Gcm.tag_len _ _ _ _)
  have Hlock := hd (show Gcm.lock rs nonce aside text = made ++ tg by rw [Gcm.lock, Hmade.out, Hf.out, Htg.out])
  rw [Hlock.out]
  have hB1 := (Below.refl w.heap.size w).alloc (Nat.le_refl _) (.cells (arr nonce) 27)
  have b0 : Blk (w.alloc (.cells (arr nonce) 27)) w.heap.size 27 (arr nonce) := Blk.nu rfl
  have hr1 := hr.onward hB1
  go_enter Tryd.func47, Tryd.ntmps47
  go_wp2_with (refine wpl_load_arr rfl 27 _ rfl _ rfl 12 ty12 nonce Hn.out b0.cells_arr ?_)
  refine (begun_made A n c key nonce Hn.out _ hr1 hk).mono ?_
  rintro e w2 ⟨g, rfl, hkey, hB2⟩
  rw [Hrk.out] at hkey
  rw [Hf.out]
  obtain ⟨P, HP⟩ : ∃ P : Value, Hd (Value.pointer (some ⟨g, 0, none⟩) = P) := ⟨_, ⟨rfl⟩⟩
  have hP2 : P.oneCell' = true := by rw [← HP.out]; rfl
  rw [HP.out]
  have hB2' := hB1.trans (hB2.mono hB1.size)
  have bel2 := below_setRow ((Below.refl w2.heap.size w2).alloc (Nat.le_refl _) (.cells (lkCells (.pointer none) (List.replicate 16 0)) 102)) (Nat.le_refl _) (lkCells P f)
  clear b0 hr1 hB1 hB2 hr
  go_wp2_with (first | (refine wpl_alloc rfl 102 rfl _ zero_lk ?_) | ((refine wpl_store_lk rfl _ _ rfl w2.heap.size P hP2 f Hfl.out rfl rfl 102 _ (by rw [lk_size, List.length_replicate]) (Blk.nu rfl) ?_); refine wpl_name (fun wo => Blk wo w2.heap.size 102 (lkCells P f) ∧ KeyAt wo g rs ∧ Below w.heap.size w wo) ⟨(Blk.nu rfl).setRow _, hkey.below bel2, hB2'.trans (bel2.mono hB2'.size)⟩ ?_; clear hkey bel2 hB2'; rintro wo ⟨b1, hkey, hB3⟩) | (refine wpl_load_lk rfl _ rfl w2.heap.size rfl 102 P f Hfl.out b1 ?_))
  obtain ⟨z, Hz⟩ : ∃ z, Hd (w2.heap.size = z) := ⟨_, ⟨rfl⟩⟩
  rw [Hz.out] at b1 ⊢
  have eP := HP.out
  subst eP
  clear HP
  refine (lstream_any g rs Hrs.out.1 Hrs.out.2 f Hfl.out E m d text _ hkey (ht.onward hB3) (by omega)).mono ?_
  rintro e w4 ⟨v4, rfl, own4, hB4⟩
  rw [Hcr.out] at own4
  obtain ⟨A4, c4, e4⟩ := own4.slice
  rw [Hml.out] at e4
  subst e4
  have r4 := own4.reads_any.2
  have b4 := b1.below hB4 b1.lt
  have hkey4 := hkey.below hB4
  have ha4 := (ha.onward hB3).onward hB4
  have hB4' := hB3.trans (hB4.mono hB3.size)
  have hlo := hB3.size
  have own4 := own4.lower hlo
  clear b1 hkey hB3 hB4 ha ht
  go_wp2_with (refine wpl_load_lk rfl _ rfl z rfl 102 (.pointer (some ⟨g, 0, none⟩)) f Hfl.out b4 ?_)
  have hc4 : m ≤ c4 := by
    rcases own4.own.2 with ⟨e, _⟩ | ⟨g', cap, cur, e, _, _, hnc, _⟩
    · injection e with _ e2 e3; omega
    · injection e with _ e2 e3; have := Hml.out; omega
  refine (ltag_any g rs Hrs.out.1 Hrs.out.2 f Hfl.out D p q aside A4 m c4 made _ hkey4 ha4 hpq hp r4 hc4 (by omega)).mono ?_
  rintro e w5 ⟨y, rfl, hy, by5, hB5⟩
  rw [Htg.out] at by5
  have own5 := own4.later hB5
  have hB5' := hB4'.trans (hB5.mono hB4'.size)
  have hrt : ReadsB w5 w5.heap.size (some ⟨y, 0, none⟩) 16 tg := ⟨Htgl.out, by rw [List.length_map, Htgl.out], fun _ => ⟨_, rfl, by5.lt, by5.cells_arr.is⟩⟩
  have hcl : made.length + tg.length ≤ 140737488355328 := by rw [Hml.out, Htgl.out]; omega
  have hBs := hB5'.size
  clear own4 r4 b4 hkey4 ha4 hB4' hB5 by5
  go_wp2_with (at_builtin; refine wpl_appendB rfl _ _ rfl w.heap.size (.slice A4 m c4) made rfl own5 w5.heap.size (some ⟨y, 0, none⟩) 16 16 tg rfl hrt hcl hBs ?_; intro v6 w6 own6 gr6 at6)
  go_ret2
  exact ⟨v6, rfl, own6, below_appended hB5' own5 gr6 (Nat.le_refl _) hBs⟩
end Go.Proofs.YthigbggacgiamaaDoor
