/-
  Plain laws of AES: no program in sight. The blocks' functions on lists that are written out; a block is not encrypted as another one.
-/
import Derived.Test.YthigbggacgiamaaDoorJa
set_option linter.unusedVariables false
set_option linter.unusedSimpArgs false
set_option maxRecDepth 100000
namespace Go.Proofs.YthigbggacgiamaaDoor
open Go.RowKit
namespace Aes
theorem all256 {P : UInt8 → Prop} (h : ∀ i, i < 256 → P (UInt8.ofNat i)) (x : UInt8) : P x := by
  have := h x.toNat x.toNat_lt
  rwa [show UInt8.ofNat x.toNat = x by simp] at this
theorem top_bit : ∀ i, i < 256 → (UInt8.ofNat i >>> 7 = 0 ∨ UInt8.ofNat i >>> 7 = 1) := by decide +kernel
theorem twice_xor (a b : UInt8) : twice (a ^^^ b) = twice a ^^^ twice b := by
  have ha := all256 (P := fun a => a >>> 7 = 0 ∨ a >>> 7 = 1) top_bit a
  have hb := all256 (P := fun a => a >>> 7 = 0 ∨ a >>> 7 = 1) top_bit b
  have h1 : (a ^^^ b) <<< 1 = a <<< 1 ^^^ b <<< 1 := UInt8.shiftLeft_xor
  have h2 : (a ^^^ b) >>> 7 = a >>> 7 ^^^ b >>> 7 := UInt8.shiftRight_xor
  have h3 : (a >>> 7 ^^^ b >>> 7) * (0x1b : UInt8) = a >>> 7 * (0x1b : UInt8) ^^^ b >>> 7 * (0x1b : UInt8) := by
    rcases ha with ha | ha <;> rcases hb with hb | hb <;> rw [ha, hb] <;> decide
  unfold twice
  rw [h1, h2, h3]
  ac_rfl
def sboxL : List UInt8 := [99, 124, 119, 123, 242, 107, 111, 197, 48, 1, 103, 43, 254, 215, 171, 118, 202, 130, 201, 125, 250, 89, 71, 240, 173, 212, 162, 175, 156, 164, 114, 192, 183, 253, 147, 38, 54, 63, 247, 204, 52, 165, 229, 241, 113, 216, 49, 21, 4, 199, 35, 195, 24, 150, 5, 154, 7, 18, 128, 226, 235, 39, 178, 117, 9, 131, 44, 26, 27, 110, 90, 160, 82, 59, 214, 179, 41, 227, 47, 132, 83, 209, 0, 237, 32, 252, 177, 91, 106, 203, 190, 57, 74, 76, 88, 207, 208, 239, 170, 251, 67, 77, 51, 133, 69, 249, 2, 127, 80, 60, 159, 168, 81, 163, 64, 143, 146, 157, 56, 245, 188, 182, 218, 33, 16, 255, 243, 210, 205, 12, 19, 236, 95, 151, 68, 23, 196, 167, 126, 61, 100, 93, 25, 115, 96, 129, 79, 220, 34, 42, 144, 136, 70, 238, 184, 20, 222, 94, 11, 219, 224, 50, 58, 10, 73, 6, 36, 92, 194, 211, 172, 98, 145, 149, 228, 121, 231, 200, 55, 109, 141, 213, 78, 169, 108, 86, 244, 234, 101, 122, 174, 8, 186, 120, 37, 46, 28, 166, 180, 198, 232, 221, 116, 31, 75, 189, 139, 138, 112, 62, 181, 102, 72, 3, 246, 14, 97, 53, 87, 185, 134, 193, 29, 158, 225, 248, 152, 17, 105, 217, 142, 148, 155, 30, 135, 233, 206, 85, 40, 223, 140, 161, 137, 13, 191, 230, 66, 104, 65, 153, 45, 15, 176, 84, 187, 22]
def sboxI : List UInt8 := [82, 9, 106, 213, 48, 54, 165, 56, 191, 64, 163, 158, 129, 243, 215, 251, 124, 227, 57, 130, 155, 47, 255, 135, 52, 142, 67, 68, 196, 222, 233, 203, 84, 123, 148, 50, 166, 194, 35, 61, 238, 76, 149, 11, 66, 250, 195, 78, 8, 46, 161, 102, 40, 217, 36, 178, 118, 91, 162, 73, 109, 139, 209, 37, 114, 248, 246, 100, 134, 104, 152, 22, 212, 164, 92, 204, 93, 101, 182, 146, 108, 112, 72, 80, 253, 237, 185, 218, 94, 21, 70, 87, 167, 141, 157, 132, 144, 216, 171, 0, 140, 188, 211, 10, 247, 228, 88, 5, 184, 179, 69, 6, 208, 44, 30, 143, 202, 63, 15, 2, 193, 175, 189, 3, 1, 19, 138, 107, 58, 145, 17, 65, 79, 103, 220, 234, 151, 242, 207, 206, 240, 180, 230, 115, 150, 172, 116, 34, 231, 173, 53, 133, 226, 249, 55, 232, 28, 117, 223, 110, 71, 241, 26, 113, 29, 41, 197, 137, 111, 183, 98, 14, 170, 24, 190, 27, 252, 86, 62, 75, 198, 210, 121, 32, 154, 219, 192, 254, 120, 205, 90, 244, 31, 221, 168, 51, 136, 7, 199, 49, 177, 18, 16, 89, 39, 128, 236, 95, 96, 81, 127, 169, 25, 181, 74, 13, 45, 229, 122, 159, 147, 201, 156, 239, 160, 224, 59, 77, 174, 42, 245, 176, 200, 235, 187, 60, 131, 83, 153, 97, 23, 43, 4, 126, 186, 119, 214, 38, 225, 105, 20, 99, 85, 33, 12, 125]
theorem sbox_lit : sbox = sboxL := by
  rw [sbox_eq, boxRun_eq]; kernel_rfl
theorem sboxI_nat : ∀ i, i < 256 → nth sboxI (nth sboxL i).toNat = UInt8.ofNat i := by decide +kernel
theorem sb_inj (x y : UInt8) (h : sb x = sb y) : x = y := by
  have hx := sboxI_nat x.toNat x.toNat_lt
  have hy := sboxI_nat y.toNat y.toNat_lt
  have e : nth sbox x.toNat = nth sbox y.toNat := h
  rw [sbox_lit] at e
  rw [e, hy] at hx
  simpa using hx.symm

theorem list16 (l : List UInt8) (h : l.length = 16) : ∃ b0 b1 b2 b3 b4 b5 b6 b7 b8 b9 b10 b11 b12 b13 b14 b15, l = [b0, b1, b2, b3, b4, b5, b6, b7, b8, b9, b10, b11, b12, b13, b14, b15] := by
  match l, h with
  | [b0, b1, b2, b3, b4, b5, b6, b7, b8, b9, b10, b11, b12, b13, b14, b15], _ => exact ⟨b0, b1, b2, b3, b4, b5, b6, b7, b8, b9, b10, b11, b12, b13, b14, b15, rfl⟩
theorem xor16_at (b0 b1 b2 b3 b4 b5 b6 b7 b8 b9 b10 b11 b12 b13 b14 b15 k0 k1 k2 k3 k4 k5 k6 k7 k8 k9 k10 k11 k12 k13 k14 k15 : UInt8) : xor16 [b0, b1, b2, b3, b4, b5, b6, b7, b8, b9, b10, b11, b12, b13, b14, b15] [k0, k1, k2, k3, k4, k5, k6, k7, k8, k9, k10, k11, k12, k13, k14, k15] = [b0 ^^^ k0, b1 ^^^ k1, b2 ^^^ k2, b3 ^^^ k3, b4 ^^^ k4, b5 ^^^ k5, b6 ^^^ k6, b7 ^^^ k7, b8 ^^^ k8, b9 ^^^ k9, b10 ^^^ k10, b11 ^^^ k11, b12 ^^^ k12, b13 ^^^ k13, b14 ^^^ k14, b15 ^^^ k15] := by
  rw [xor16_eq]; kernel_rfl
theorem sub_at (b0 b1 b2 b3 b4 b5 b6 b7 b8 b9 b10 b11 b12 b13 b14 b15 : UInt8) : sub [b0, b1, b2, b3, b4, b5, b6, b7, b8, b9, b10, b11, b12, b13, b14, b15] = [sb b0, sb b5, sb b10, sb b15, sb b4, sb b9, sb b14, sb b3, sb b8, sb b13, sb b2, sb b7, sb b12, sb b1, sb b6, sb b11] := by
  rw [sub_eq]; kernel_rfl
theorem mix_at (b0 b1 b2 b3 b4 b5 b6 b7 b8 b9 b10 b11 b12 b13 b14 b15 : UInt8) : mix [b0, b1, b2, b3, b4, b5, b6, b7, b8, b9, b10, b11, b12, b13, b14, b15] = [b0 ^^^ ((b0 ^^^ b1 ^^^ b2 ^^^ b3) ^^^ twice (b0 ^^^ b1)), b1 ^^^ ((b0 ^^^ b1 ^^^ b2 ^^^ b3) ^^^ twice (b1 ^^^ b2)), b2 ^^^ ((b0 ^^^ b1 ^^^ b2 ^^^ b3) ^^^ twice (b2 ^^^ b3)), b3 ^^^ ((b0 ^^^ b1 ^^^ b2 ^^^ b3) ^^^ twice (b3 ^^^ b0)), b4 ^^^ ((b4 ^^^ b5 ^^^ b6 ^^^ b7) ^^^ twice (b4 ^^^ b5)), b5 ^^^ ((b4 ^^^ b5 ^^^ b6 ^^^ b7) ^^^ twice (b5 ^^^ b6)), b6 ^^^ ((b4 ^^^ b5 ^^^ b6 ^^^ b7) ^^^ twice (b6 ^^^ b7)), b7 ^^^ ((b4 ^^^ b5 ^^^ b6 ^^^ b7) ^^^ twice (b7 ^^^ b4)), b8 ^^^ ((b8 ^^^ b9 ^^^ b10 ^^^ b11) ^^^ twice (b8 ^^^ b9)), b9 ^^^ ((b8 ^^^ b9 ^^^ b10 ^^^ b11) ^^^ twice (b9 ^^^ b10)), b10 ^^^ ((b8 ^^^ b9 ^^^ b10 ^^^ b11) ^^^ twice (b10 ^^^ b11)), b11 ^^^ ((b8 ^^^ b9 ^^^ b10 ^^^ b11) ^^^ twice (b11 ^^^ b8)), b12 ^^^ ((b12 ^^^ b13 ^^^ b14 ^^^ b15) ^^^ twice (b12 ^^^ b13)), b13 ^^^ ((b12 ^^^ b13 ^^^ b14 ^^^ b15) ^^^ twice (b13 ^^^ b14)), b14 ^^^ ((b12 ^^^ b13 ^^^ b14 ^^^ b15) ^^^ twice (b14 ^^^ b15)), b15 ^^^ ((b12 ^^^ b13 ^^^ b14 ^^^ b15) ^^^ twice (b15 ^^^ b12))] := by
  rw [mix_eq]; kernel_rfl
def col (a b c d : UInt8) : UInt8 × UInt8 × UInt8 × UInt8 :=
  (a ^^^ ((a ^^^ b ^^^ c ^^^ d) ^^^ twice (a ^^^ b)), b ^^^ ((a ^^^ b ^^^ c ^^^ d) ^^^ twice (b ^^^ c)), c ^^^ ((a ^^^ b ^^^ c ^^^ d) ^^^ twice (c ^^^ d)), d ^^^ ((a ^^^ b ^^^ c ^^^ d) ^^^ twice (d ^^^ a)))
theorem xor_zero_eq {x y : UInt8} (h : x ^^^ y = 0) : x = y := by
  have := congrArg (· ^^^ y) h
  simpa [UInt8.xor_assoc] using this
theorem twice_zero : twice 0 = 0 := by decide
theorem col_lin (a b c d t a' b' c' d' t' : UInt8) (h : a ^^^ ((a ^^^ b ^^^ c ^^^ d) ^^^ t) = a' ^^^ ((a' ^^^ b' ^^^ c' ^^^ d') ^^^ t')) : (a ^^^ a') ^^^ (((a ^^^ a') ^^^ (b ^^^ b') ^^^ (c ^^^ c') ^^^ (d ^^^ d')) ^^^ (t ^^^ t')) = 0 := by
  have e : (a ^^^ a') ^^^ (((a ^^^ a') ^^^ (b ^^^ b') ^^^ (c ^^^ c') ^^^ (d ^^^ d')) ^^^ (t ^^^ t')) = (a ^^^ ((a ^^^ b ^^^ c ^^^ d) ^^^ t)) ^^^ (a' ^^^ ((a' ^^^ b' ^^^ c' ^^^ d') ^^^ t')) := by ac_rfl
  rw [e, h, UInt8.xor_self]
theorem sum4 (a b c d x p q r s : UInt8) (h1 : a ^^^ (x ^^^ p) = 0) (h2 : b ^^^ (x ^^^ q) = 0) (h3 : c ^^^ (x ^^^ r) = 0) (h4 : d ^^^ (x ^^^ s) = 0) (hp : p ^^^ q ^^^ r ^^^ s = 0) : a ^^^ b ^^^ c ^^^ d = 0 := by
  have e : (a ^^^ (x ^^^ p)) ^^^ (b ^^^ (x ^^^ q)) ^^^ (c ^^^ (x ^^^ r)) ^^^ (d ^^^ (x ^^^ s)) = (a ^^^ b ^^^ c ^^^ d) ^^^ ((x ^^^ x) ^^^ (x ^^^ x) ^^^ (p ^^^ q ^^^ r ^^^ s)) := by ac_rfl
  rw [h1, h2, h3, h4, hp, UInt8.xor_self] at e
  simpa using e.symm
theorem col_ker (A B C D : UInt8) (h1 : A ^^^ ((A ^^^ B ^^^ C ^^^ D) ^^^ twice (A ^^^ B)) = 0) (h2 : B ^^^ ((A ^^^ B ^^^ C ^^^ D) ^^^ twice (B ^^^ C)) = 0) (h3 : C ^^^ ((A ^^^ B ^^^ C ^^^ D) ^^^ twice (C ^^^ D)) = 0) (h4 : D ^^^ ((A ^^^ B ^^^ C ^^^ D) ^^^ twice (D ^^^ A)) = 0) : A = 0 ∧ B = 0 ∧ C = 0 ∧ D = 0 := by
  have ht : twice (A ^^^ B) ^^^ twice (B ^^^ C) ^^^ twice (C ^^^ D) ^^^ twice (D ^^^ A) = 0 := by
    rw [← twice_xor, ← twice_xor, ← twice_xor]
    have e : A ^^^ B ^^^ (B ^^^ C) ^^^ (C ^^^ D) ^^^ (D ^^^ A) = (A ^^^ A) ^^^ (B ^^^ B) ^^^ (C ^^^ C) ^^^ (D ^^^ D) := by ac_rfl
    rw [e]; simp only [UInt8.xor_self]; decide
  have hx := sum4 A B C D _ _ _ _ _ h1 h2 h3 h4 ht
  rw [hx, UInt8.zero_xor] at h1 h2 h3 h4
  have a1 := xor_zero_eq h1
  have b1 := xor_zero_eq h2
  have c1 := xor_zero_eq h3
  have d1 := xor_zero_eq h4
  have hab : A ^^^ B = C ^^^ D := xor_zero_eq (by rw [← UInt8.xor_assoc]; exact hx)
  have hbc : B ^^^ C = D ^^^ A := xor_zero_eq (by
    have e : B ^^^ C ^^^ (D ^^^ A) = A ^^^ B ^^^ C ^^^ D := by ac_rfl
    rw [e]; exact hx)
  have hac : A = C := by rw [a1, hab, ← c1]
  have hbd : B = D := by rw [b1, hbc, ← d1]
  have hA : A = twice (A ^^^ B) := a1
  have hB : B = twice (A ^^^ B) := by
    have : B ^^^ C = A ^^^ B := by rw [← hac, UInt8.xor_comm]
    rw [← this]; exact b1
  have hAB : A = B := hA.trans hB.symm
  have h0 : A = 0 := by
    rw [← hAB, UInt8.xor_self, twice_zero] at hA; exact hA
  exact ⟨h0, hAB ▸ h0, hac ▸ h0, hbd ▸ (hAB ▸ h0)⟩
theorem col_inj {a b c d a' b' c' d' : UInt8} (h : col a b c d = col a' b' c' d') : a = a' ∧ b = b' ∧ c = c' ∧ d = d' := by
  simp only [col, Prod.mk.injEq] at h
  obtain ⟨h1, h2, h3, h4⟩ := h
  have tw : ∀ p q p' q' : UInt8, twice (p ^^^ q) ^^^ twice (p' ^^^ q') = twice ((p ^^^ p') ^^^ (q ^^^ q')) := fun p q p' q' => by
    rw [← twice_xor]; congr 1; ac_rfl
  have rot1 : ∀ p q r s : UInt8, p ^^^ q ^^^ r ^^^ s = q ^^^ r ^^^ s ^^^ p := fun p q r s => by ac_rfl
  have k1 := col_lin a b c d _ a' b' c' d' _ h1
  rw [rot1 a b c d, rot1 a' b' c' d'] at h2
  have k2 := col_lin b c d a _ b' c' d' a' _ h2
  rw [rot1 a b c d, rot1 a' b' c' d', rot1 b c d a, rot1 b' c' d' a'] at h3
  have k3 := col_lin c d a b _ c' d' a' b' _ h3
  rw [rot1 a b c d, rot1 a' b' c' d', rot1 b c d a, rot1 b' c' d' a', rot1 c d a b, rot1 c' d' a' b'] at h4
  have k4 := col_lin d a b c _ d' a' b' c' _ h4
  rw [tw] at k1 k2 k3 k4
  rw [← rot1 (a ^^^ a') (b ^^^ b') (c ^^^ c') (d ^^^ d')] at k2
  rw [← rot1 (b ^^^ b') (c ^^^ c') (d ^^^ d') (a ^^^ a'), ← rot1 (a ^^^ a') (b ^^^ b') (c ^^^ c') (d ^^^ d')] at k3
  rw [← rot1 (c ^^^ c') (d ^^^ d') (a ^^^ a') (b ^^^ b'), ← rot1 (b ^^^ b') (c ^^^ c') (d ^^^ d') (a ^^^ a'), ← rot1 (a ^^^ a') (b ^^^ b') (c ^^^ c') (d ^^^ d')] at k4
  obtain ⟨z1, z2, z3, z4⟩ := col_ker _ _ _ _ k1 k2 k3 k4
  exact ⟨xor_zero_eq z1, xor_zero_eq z2, xor_zero_eq z3, xor_zero_eq z4⟩

theorem mix_inj (x y : List UInt8) (hx : x.length = 16) (hy : y.length = 16) (h : mix x = mix y) : x = y := by
  obtain ⟨b0, b1, b2, b3, b4, b5, b6, b7, b8, b9, b10, b11, b12, b13, b14, b15, rfl⟩ := list16 x hx
  obtain ⟨c0, c1, c2, c3, c4, c5, c6, c7, c8, c9, c10, c11, c12, c13, c14, c15, rfl⟩ := list16 y hy
  rw [mix_at, mix_at] at h
  simp only [List.cons.injEq, and_true] at h
  obtain ⟨h0, h1, h2, h3, h4, h5, h6, h7, h8, h9, h10, h11, h12, h13, h14, h15⟩ := h
  obtain ⟨e0, e1, e2, e3⟩ := col_inj (show col b0 b1 b2 b3 = col c0 c1 c2 c3 from Prod.ext h0 (Prod.ext h1 (Prod.ext h2 h3)))
  obtain ⟨e4, e5, e6, e7⟩ := col_inj (show col b4 b5 b6 b7 = col c4 c5 c6 c7 from Prod.ext h4 (Prod.ext h5 (Prod.ext h6 h7)))
  obtain ⟨e8, e9, e10, e11⟩ := col_inj (show col b8 b9 b10 b11 = col c8 c9 c10 c11 from Prod.ext h8 (Prod.ext h9 (Prod.ext h10 h11)))
  obtain ⟨e12, e13, e14, e15⟩ := col_inj (show col b12 b13 b14 b15 = col c12 c13 c14 c15 from Prod.ext h12 (Prod.ext h13 (Prod.ext h14 h15)))
  rw [e0, e1, e2, e3, e4, e5, e6, e7, e8, e9, e10, e11, e12, e13, e14, e15]
theorem sub_inj (x y : List UInt8) (hx : x.length = 16) (hy : y.length = 16) (h : sub x = sub y) : x = y := by
  obtain ⟨b0, b1, b2, b3, b4, b5, b6, b7, b8, b9, b10, b11, b12, b13, b14, b15, rfl⟩ := list16 x hx
  obtain ⟨c0, c1, c2, c3, c4, c5, c6, c7, c8, c9, c10, c11, c12, c13, c14, c15, rfl⟩ := list16 y hy
  rw [sub_at, sub_at] at h
  simp only [List.cons.injEq, and_true] at h
  obtain ⟨h0, h1, h2, h3, h4, h5, h6, h7, h8, h9, h10, h11, h12, h13, h14, h15⟩ := h
  have e0 := sb_inj _ _ h0
  have e1 := sb_inj _ _ h13
  have e2 := sb_inj _ _ h10
  have e3 := sb_inj _ _ h7
  have e4 := sb_inj _ _ h4
  have e5 := sb_inj _ _ h1
  have e6 := sb_inj _ _ h14
  have e7 := sb_inj _ _ h11
  have e8 := sb_inj _ _ h8
  have e9 := sb_inj _ _ h5
  have e10 := sb_inj _ _ h2
  have e11 := sb_inj _ _ h15
  have e12 := sb_inj _ _ h12
  have e13 := sb_inj _ _ h9
  have e14 := sb_inj _ _ h6
  have e15 := sb_inj _ _ h3
  rw [e0, e1, e2, e3, e4, e5, e6, e7, e8, e9, e10, e11, e12, e13, e14, e15]
theorem xor_right_inj (x y k : UInt8) (h : x ^^^ k = y ^^^ k) : x = y := by
  have := congrArg (· ^^^ k) h
  simpa [UInt8.xor_assoc] using this
theorem xor16_inj (x y q : List UInt8) (hx : x.length = 16) (hy : y.length = 16) (hq : q.length = 16) (h : xor16 x q = xor16 y q) : x = y := by
  obtain ⟨b0, b1, b2, b3, b4, b5, b6, b7, b8, b9, b10, b11, b12, b13, b14, b15, rfl⟩ := list16 x hx
  obtain ⟨c0, c1, c2, c3, c4, c5, c6, c7, c8, c9, c10, c11, c12, c13, c14, c15, rfl⟩ := list16 y hy
  obtain ⟨k0, k1, k2, k3, k4, k5, k6, k7, k8, k9, k10, k11, k12, k13, k14, k15, rfl⟩ := list16 q hq
  rw [xor16_at, xor16_at] at h
  simp only [List.cons.injEq, and_true] at h
  obtain ⟨h0, h1, h2, h3, h4, h5, h6, h7, h8, h9, h10, h11, h12, h13, h14, h15⟩ := h
  have e0 := xor_right_inj _ _ _ h0
  have e1 := xor_right_inj _ _ _ h1
  have e2 := xor_right_inj _ _ _ h2
  have e3 := xor_right_inj _ _ _ h3
  have e4 := xor_right_inj _ _ _ h4
  have e5 := xor_right_inj _ _ _ h5
  have e6 := xor_right_inj _ _ _ h6
  have e7 := xor_right_inj _ _ _ h7
  have e8 := xor_right_inj _ _ _ h8
  have e9 := xor_right_inj _ _ _ h9
  have e10 := xor_right_inj _ _ _ h10
  have e11 := xor_right_inj _ _ _ h11
  have e12 := xor_right_inj _ _ _ h12
  have e13 := xor_right_inj _ _ _ h13
  have e14 := xor_right_inj _ _ _ h14
  have e15 := xor_right_inj _ _ _ h15
  rw [e0, e1, e2, e3, e4, e5, e6, e7, e8, e9, e10, e11, e12, e13, e14, e15]
theorem roundStep_inj (rs : List (List UInt8)) (k : Nat) (hk : (rs.getD (k + 1) []).length = 16) (x y : List UInt8) (hx : x.length = 16) (hy : y.length = 16) (h : roundStep rs k x = roundStep rs k y) : x = y := by
  unfold roundStep at h
  split at h
  · exact sub_inj _ _ hx hy (mix_inj _ _ (sub_len _) (sub_len _) (xor16_inj _ _ _ (by rw [mix_len, sub_len]) (by rw [mix_len, sub_len]) hk h))
  · exact sub_inj _ _ hx hy (xor16_inj _ _ _ (sub_len _) (sub_len _) hk h)
theorem encRun_inj (rs : List (List UInt8)) (hr : ∀ i, i < rs.length → (rs.getD i []).length = 16) (x y : List UInt8) (hx : x.length = 16) (hy : y.length = 16) : ∀ k, k < rs.length → encRun rs x k = encRun rs y k → x = y
  | 0, hk, h => by
    rw [encRun_zero, encRun_zero] at h
    exact xor16_inj _ _ _ hx hy (hr 0 hk) h
  | k + 1, hk, h => by
    rw [encRun_succ, encRun_succ] at h
    exact encRun_inj rs hr x y hx hy k (by omega) (roundStep_inj rs k (hr _ hk) _ _ (encRun_len _ _ hx _) (encRun_len _ _ hy _) h)
theorem enc_inj (rs : List (List UInt8)) (h1 : 1 ≤ rs.length) (hr : ∀ i, i < rs.length → (rs.getD i []).length = 16) (x y : List UInt8) (hx : x.length = 16) (hy : y.length = 16) (h : enc rs x = enc rs y) : x = y := by
  unfold enc at h
  exact encRun_inj rs hr x y hx hy _ (by omega) h
end Aes
end Go.Proofs.YthigbggacgiamaaDoor
