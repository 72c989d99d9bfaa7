/-
  Plain laws of AES's stream: what stands at each place; the counter is a number of 32 bits; a stream goes on where it was left.
-/
import Derived.Test.YtncaplplkfihgaaGreatDoorStreamSpec
set_option linter.unusedVariables false
set_option linter.unusedSimpArgs false
set_option maxRecDepth 100000
namespace Go.Proofs.YtncaplplkfihgaaGreatDoor
open Go.RowKit
namespace Aes
theorem nth_set (l : List UInt8) (k i : Nat) (x : UInt8) (hk : k < l.length) : nth (l.set k x) i = if i = k then x else nth l i := by
  unfold nth
  by_cases h : i = k
  · subst h; simp [hk]
  · rw [if_neg h]; simp [List.getElem?_set, Ne.symm h]
def incN : Nat → List UInt8 → List UInt8
  | 0, l => l
  | m + 1, l => inc (incN m l)
theorem xorAt_get (start : Nat) (x out : List UInt8) : ∀ (m : Nat), start + m ≤ out.length → ∀ i, nth (iter (xorAt start x) m out) i = if start ≤ i ∧ i < start + m then nth out i ^^^ nth x (i - start) else nth out i
  | 0, _, i => by
    rw [iter, if_neg (by omega)]
  | m + 1, hm, i => by
    have ih := xorAt_get start x out m (by omega)
    rw [iter, xorAt, nth_set _ _ _ _ (by rw [xorAt_len]; omega)]
    by_cases h : i = start + m
    · subst h
      rw [if_pos rfl, ih, if_neg (by omega), if_pos (by omega), show start + m - start = m by omega]
    · rw [if_neg h, ih]
      by_cases h2 : start ≤ i ∧ i < start + m
      · rw [if_pos h2, if_pos (by omega)]
      · rw [if_neg h2, if_neg (by omega)]
theorem strRun_snd (rs : List (List UInt8)) (ctr b : List UInt8) : ∀ j, (strRun rs ctr b j).2 = incN j ctr
  | 0 => by rw [strRun_zero]; rfl
  | j + 1 => by rw [strRun_succ, strStep]; dsimp only; rw [strRun_snd rs ctr b j]; rfl
theorem strRun_get (rs : List (List UInt8)) (ctr b : List UInt8) : ∀ (j i : Nat), i < b.length → nth (strRun rs ctr b j).1 i = if i < 16 * j then nth b i ^^^ nth (enc rs (incN (i / 16) ctr)) (i % 16) else nth b i
  | 0, i, _ => by rw [strRun_zero, if_neg (by omega)]
  | j + 1, i, hi => by
    have ih := strRun_get rs ctr b j i hi
    have hl := (strRun_len rs ctr b j).1
    rw [strRun_succ, strStep]
    dsimp only
    by_cases hj : 16 * j ≤ b.length
    · rw [xorAt_get _ _ _ _ (by rw [hl]; omega), ih, strRun_snd, hl]
      by_cases h1 : i < 16 * j
      · rw [if_neg (by omega), if_pos h1, if_pos (by omega)]
      · by_cases h2 : i < 16 * (j + 1)
        · rw [if_pos (by omega), if_neg h1, if_pos h2, show i / 16 = j by omega, show i % 16 = i - 16 * j by omega]
        · rw [if_neg (by omega), if_neg h1, if_neg h2]
    · rw [hl, show min 16 (b.length - 16 * j) = 0 by omega, iter, ih, if_pos (by omega), if_pos (by omega)]
/-- What stands at each place of a stream. -/
theorem stream_get (rs : List (List UInt8)) (ctr b : List UInt8) (i : Nat) (hi : i < b.length) : nth (stream rs ctr b) i = nth b i ^^^ nth (enc rs (incN (i / 16) ctr)) (i % 16) := by
  rw [stream_eq, strRun_get _ _ _ _ _ hi, if_pos (by omega)]
theorem incN_add (m k : Nat) (l : List UInt8) : incN (m + k) l = incN m (incN k l) := by
  induction m with
  | zero => rw [Nat.zero_add]; rfl
  | succ m ih => rw [Nat.succ_add, incN, ih]; rfl
theorem nth_ext (a b : List UInt8) (hl : a.length = b.length) (h : ∀ i, i < a.length → nth a i = nth b i) : a = b := by
  apply List.ext_getElem hl
  intro i h1 h2
  have := h i h1
  simpa [nth, h1, h2] using this
theorem nth_append (a b : List UInt8) (i : Nat) : nth (a ++ b) i = if i < a.length then nth a i else nth b (i - a.length) := by
  unfold nth
  by_cases h : i < a.length
  · rw [if_pos h]; simp [List.getElem?_append, h]
  · rw [if_neg h]; simp [List.getElem?_append, h]
theorem nth_take (l : List UInt8) (m i : Nat) (h : i < m) : nth (l.take m) i = nth l i := by
  unfold nth; simp [List.getElem?_take, h]
theorem nth_drop (l : List UInt8) (m i : Nat) : nth (l.drop m) i = nth l (m + i) := by
  unfold nth; simp
/-- A stream goes on where it was left. -/
theorem stream_split (rs : List (List UInt8)) (ctr b : List UInt8) (m : Nat) (hm : 16 * m ≤ b.length) : stream rs ctr b = stream rs ctr (b.take (16 * m)) ++ stream rs (incN m ctr) (b.drop (16 * m)) := by
  apply nth_ext
  · rw [stream_len, List.length_append, stream_len, stream_len, List.length_take, List.length_drop]; omega
  · intro i hi
    rw [stream_len] at hi
    rw [stream_get _ _ _ _ hi, nth_append, stream_len, List.length_take]
    by_cases h : i < 16 * m
    · rw [if_pos (by omega), stream_get _ _ _ _ (by rw [List.length_take]; omega), nth_take _ _ _ h]
    · rw [if_neg (by omega), stream_get _ _ _ _ (by rw [List.length_drop]; omega), nth_drop, ← incN_add, show min (16 * m) b.length = 16 * m by omega, show 16 * m + (i - 16 * m) = i by omega,
        show (i - 16 * m) / 16 + m = i / 16 by omega, show (i - 16 * m) % 16 = i % 16 by omega]
-- the counter
def be (l : List UInt8) : UInt32 := (nth l 12).toUInt32 <<< 24 ||| (nth l 13).toUInt32 <<< 16 ||| (nth l 14).toUInt32 <<< 8 ||| (nth l 15).toUInt32
def setBE (l : List UInt8) (n : UInt32) : List UInt8 := (((l.set 12 (n >>> 24).toUInt8).set 13 (n >>> 16).toUInt8).set 14 (n >>> 8).toUInt8).set 15 n.toUInt8
theorem or_add (a b k : Nat) (hb : b < 2 ^ k) (ha : a % 2 ^ k = 0) : a ||| b = a + b := by
  have h : a = (a / 2 ^ k) <<< k := by rw [Nat.shiftLeft_eq]; exact (Nat.div_mul_cancel (Nat.dvd_of_mod_eq_zero ha)).symm
  rw [h, Nat.shiftLeft_add_eq_or_of_lt hb]
theorem be_toNat (l : List UInt8) : (be l).toNat = (nth l 12).toNat * 16777216 + (nth l 13).toNat * 65536 + (nth l 14).toNat * 256 + (nth l 15).toNat := by
  have h0 := (nth l 12).toNat_lt
  have h1 := (nth l 13).toNat_lt
  have h2 := (nth l 14).toNat_lt
  have h3 := (nth l 15).toNat_lt
  unfold be
  simp only [UInt32.toNat_or, UInt32.toNat_shiftLeft, UInt8.toNat_toUInt32]
  generalize (nth l 12).toNat = a at *
  generalize (nth l 13).toNat = b at *
  generalize (nth l 14).toNat = c at *
  generalize (nth l 15).toNat = d at *
  simp only [Nat.shiftLeft_eq]
  have e1 : (a * 2 ^ ((24 : UInt32).toNat % 32)) % 2 ^ 32 = a * 16777216 := by show (a * 2 ^ 24) % 2 ^ 32 = _; omega
  have e2 : (b * 2 ^ ((16 : UInt32).toNat % 32)) % 2 ^ 32 = b * 65536 := by show (b * 2 ^ 16) % 2 ^ 32 = _; omega
  have e3 : (c * 2 ^ ((8 : UInt32).toNat % 32)) % 2 ^ 32 = c * 256 := by show (c * 2 ^ 8) % 2 ^ 32 = _; omega
  rw [e1, e2, e3, or_add (a * 16777216) (b * 65536) 24 (by omega) (by omega), or_add _ (c * 256) 16 (by omega) (by omega), or_add _ d 8 (by omega) (by omega)]
theorem byte3 (n : UInt32) : (n >>> 24).toUInt8.toNat = n.toNat / 16777216 % 256 := by
  rw [UInt32.toNat_toUInt8, UInt32.toNat_shiftRight]; show n.toNat >>> 24 % 256 = _; rw [Nat.shiftRight_eq_div_pow]
theorem byte2 (n : UInt32) : (n >>> 16).toUInt8.toNat = n.toNat / 65536 % 256 := by
  rw [UInt32.toNat_toUInt8, UInt32.toNat_shiftRight]; show n.toNat >>> 16 % 256 = _; rw [Nat.shiftRight_eq_div_pow]
theorem byte1 (n : UInt32) : (n >>> 8).toUInt8.toNat = n.toNat / 256 % 256 := by
  rw [UInt32.toNat_toUInt8, UInt32.toNat_shiftRight]; show n.toNat >>> 8 % 256 = _; rw [Nat.shiftRight_eq_div_pow]
theorem byte0 (n : UInt32) : n.toUInt8.toNat = n.toNat % 256 := by rw [UInt32.toNat_toUInt8]
theorem setBE_len (l : List UInt8) (n : UInt32) : (setBE l n).length = l.length := by simp [setBE]
theorem setBE_nth (l : List UInt8) (hl : l.length = 16) (n : UInt32) (i : Nat) : nth (setBE l n) i = if i = 15 then n.toUInt8 else if i = 14 then (n >>> 8).toUInt8 else if i = 13 then (n >>> 16).toUInt8 else if i = 12 then (n >>> 24).toUInt8 else nth l i := by
  unfold setBE
  rw [nth_set _ _ _ _ (by simp; omega), nth_set _ _ _ _ (by simp; omega), nth_set _ _ _ _ (by simp; omega), nth_set _ _ _ _ (by omega)]
theorem u8_ext {a b : UInt8} (h : a.toNat = b.toNat) : a = b := UInt8.toNat_inj.1 h
theorem inc_setBE (l : List UInt8) (hl : l.length = 16) : inc l = setBE l (be l + 1) := by
  have hn := be_toNat l
  have h0 := (nth l 12).toNat_lt
  have h1 := (nth l 13).toNat_lt
  have h2 := (nth l 14).toNat_lt
  have h3 := (nth l 15).toNat_lt
  have hN : (be l + 1).toNat = ((be l).toNat + 1) % 4294967296 := by rw [UInt32.toNat_add]; rfl
  have z : ∀ x : UInt8, x + 1 = 0 ↔ x.toNat = 255 := fun x => by
    have hx := x.toNat_lt
    rw [← UInt8.toNat_inj, UInt8.toNat_add]
    show (x.toNat + 1) % 256 = 0 ↔ _
    omega
  have p : ∀ x : UInt8, x.toNat ≠ 255 → (x + 1).toNat = x.toNat + 1 := fun x h => by
    have hx := x.toNat_lt
    rw [UInt8.toNat_add]
    show (x.toNat + 1) % 256 = _
    omega
  have b0 := byte0 (be l + 1)
  have b1 := byte1 (be l + 1)
  have b2 := byte2 (be l + 1)
  have b3 := byte3 (be l + 1)
  have key : ∀ (m : List UInt8), m.length = 16 → (∀ i, i ≠ 12 → i ≠ 13 → i ≠ 14 → i ≠ 15 → nth m i = nth l i) → (nth m 12).toNat = (be l + 1).toNat / 16777216 % 256 → (nth m 13).toNat = (be l + 1).toNat / 65536 % 256 →
      (nth m 14).toNat = (be l + 1).toNat / 256 % 256 → (nth m 15).toNat = (be l + 1).toNat % 256 → m = setBE l (be l + 1) := by
    intro m hm ho e3 e2 e1 e0
    apply nth_ext
    · rw [setBE_len, hm, hl]
    intro i _
    rw [setBE_nth l hl]
    by_cases i15 : i = 15
    · subst i15; rw [if_pos rfl]; exact u8_ext (e0.trans b0.symm)
    rw [if_neg i15]
    by_cases i14 : i = 14
    · subst i14; rw [if_pos rfl]; exact u8_ext (e1.trans b1.symm)
    rw [if_neg i14]
    by_cases i13 : i = 13
    · subst i13; rw [if_pos rfl]; exact u8_ext (e2.trans b2.symm)
    rw [if_neg i13]
    by_cases i12 : i = 12
    · subst i12; rw [if_pos rfl]; exact u8_ext (e3.trans b3.symm)
    rw [if_neg i12]
    exact ho i i12 i13 i14 i15
  have s1 : ∀ x, (l.set 15 x).length = 16 := fun x => by rw [List.length_set, hl]
  have s2 : ∀ x y, ((l.set 15 x).set 14 y).length = 16 := fun x y => by rw [List.length_set, s1]
  have s3 : ∀ x y u, (((l.set 15 x).set 14 y).set 13 u).length = 16 := fun x y u => by rw [List.length_set, s2]
  have g1 : ∀ x i, nth (l.set 15 x) i = if i = 15 then x else nth l i := fun x i => nth_set _ _ _ _ (by omega)
  have g2 : ∀ x y i, nth ((l.set 15 x).set 14 y) i = if i = 14 then y else if i = 15 then x else nth l i := fun x y i => by rw [nth_set _ _ _ _ (by rw [s1]; omega), g1]
  have g3 : ∀ x y u i, nth (((l.set 15 x).set 14 y).set 13 u) i = if i = 13 then u else if i = 14 then y else if i = 15 then x else nth l i := fun x y u i => by rw [nth_set _ _ _ _ (by rw [s2]; omega), g2]
  have g4 : ∀ x y u v i, nth ((((l.set 15 x).set 14 y).set 13 u).set 12 v) i = if i = 12 then v else if i = 13 then u else if i = 14 then y else if i = 15 then x else nth l i := fun x y u v i => by rw [nth_set _ _ _ _ (by rw [s3]; omega), g3]
  rw [inc_eq]
  by_cases c3 : nth l 15 + 1 = 0
  · rw [incAt_on _ _ _ c3, c3]
    have d3 := (z _).1 c3
    have k14 : nth (l.set 15 0) (15 - 1) = nth l 14 := by rw [g1, if_neg (by omega)]
    by_cases c2 : nth l 14 + 1 = 0
    · rw [incAt_on _ _ _ (by rw [k14]; exact c2), k14, c2]
      have d2 := (z _).1 c2
      have k13 : nth ((l.set 15 0).set (15 - 1) 0) (15 - 1 - 1) = nth l 13 := by rw [g2, if_neg (by omega), if_neg (by omega)]
      by_cases c1 : nth l 13 + 1 = 0
      · rw [incAt_on _ _ _ (by rw [k13]; exact c1), k13, c1]
        have d1 := (z _).1 c1
        have k12 : nth (((l.set 15 0).set (15 - 1) 0).set (15 - 1 - 1) 0) (15 - 1 - 1 - 1) = nth l 12 := by rw [g3, if_neg (by omega), if_neg (by omega), if_neg (by omega)]
        have e : incAt 1 (15 - 1 - 1 - 1) (((l.set 15 0).set (15 - 1) 0).set (15 - 1 - 1) 0) = (((l.set 15 0).set 14 0).set 13 0).set 12 (nth l 12 + 1) := by
          rw [incAt, k12]; split <;> rfl
        rw [e]
        have v : (nth l 12 + 1).toNat = ((nth l 12).toNat + 1) % 256 := by rw [UInt8.toNat_add]; rfl
        refine key _ (by rw [List.length_set, s3]) (fun i a b c d => by rw [g4, if_neg a, if_neg b, if_neg c, if_neg d]) ?_ ?_ ?_ ?_
        · rw [g4, if_pos rfl, v]; omega
        · rw [g4, if_neg (by omega), if_pos rfl]; show 0 = _; omega
        · rw [g4, if_neg (by omega), if_neg (by omega), if_pos rfl]; show 0 = _; omega
        · rw [g4, if_neg (by omega), if_neg (by omega), if_neg (by omega), if_pos rfl]; show 0 = _; omega
      · have n1 : (nth l 13).toNat ≠ 255 := fun h => c1 ((z _).2 h)
        rw [incAt_off _ _ _ (by rw [k13]; exact c1), k13]
        have v := p _ n1
        refine key _ (s3 _ _ _) (fun i a b c d => (g3 _ _ _ i).trans (by rw [if_neg b, if_neg c, if_neg d])) ?_ ?_ ?_ ?_
        · rw [show (15 - 1 - 1) = 13 from rfl, show (15 - 1) = 14 from rfl, g3, if_neg (by omega), if_neg (by omega), if_neg (by omega)]; omega
        · rw [show (15 - 1 - 1) = 13 from rfl, show (15 - 1) = 14 from rfl, g3, if_pos rfl, v]; omega
        · rw [show (15 - 1 - 1) = 13 from rfl, show (15 - 1) = 14 from rfl, g3, if_neg (by omega), if_pos rfl]; show 0 = _; omega
        · rw [show (15 - 1 - 1) = 13 from rfl, show (15 - 1) = 14 from rfl, g3, if_neg (by omega), if_neg (by omega), if_pos rfl]; show 0 = _; omega
    · have n2 : (nth l 14).toNat ≠ 255 := fun h => c2 ((z _).2 h)
      rw [incAt_off _ _ _ (by rw [k14]; exact c2), k14]
      have v := p _ n2
      refine key _ (s2 _ _) (fun i a b c d => (g2 _ _ i).trans (by rw [if_neg c, if_neg d])) ?_ ?_ ?_ ?_
      · rw [show (15 - 1) = 14 from rfl, g2, if_neg (by omega), if_neg (by omega)]; omega
      · rw [show (15 - 1) = 14 from rfl, g2, if_neg (by omega), if_neg (by omega)]; omega
      · rw [show (15 - 1) = 14 from rfl, g2, if_pos rfl, v]; omega
      · rw [show (15 - 1) = 14 from rfl, g2, if_neg (by omega), if_pos rfl]; show 0 = _; omega
  · have n3 : (nth l 15).toNat ≠ 255 := fun h => c3 ((z _).2 h)
    rw [incAt_off _ _ _ c3]
    have v := p _ n3
    refine key _ (s1 _) (fun i a b c d => by rw [g1, if_neg d]) ?_ ?_ ?_ ?_
    · rw [g1, if_neg (by omega)]; omega
    · rw [g1, if_neg (by omega)]; omega
    · rw [g1, if_neg (by omega)]; omega
    · rw [g1, if_pos rfl, v]; omega
theorem be_setBE (l : List UInt8) (hl : l.length = 16) (n : UInt32) : be (setBE l n) = n := by
  apply UInt32.toNat_inj.1
  have hn := n.toNat_lt
  have e15 : nth (setBE l n) 15 = n.toUInt8 := by rw [setBE_nth l hl, if_pos rfl]
  have e14 : nth (setBE l n) 14 = (n >>> 8).toUInt8 := by rw [setBE_nth l hl, if_neg (by omega), if_pos rfl]
  have e13 : nth (setBE l n) 13 = (n >>> 16).toUInt8 := by rw [setBE_nth l hl, if_neg (by omega), if_neg (by omega), if_pos rfl]
  have e12 : nth (setBE l n) 12 = (n >>> 24).toUInt8 := by rw [setBE_nth l hl, if_neg (by omega), if_neg (by omega), if_neg (by omega), if_pos rfl]
  rw [be_toNat, e12, e13, e14, e15, byte3, byte2, byte1, byte0]; omega
theorem setBE_setBE (l : List UInt8) (hl : l.length = 16) (n m : UInt32) : setBE (setBE l n) m = setBE l m := by
  apply nth_ext
  · rw [setBE_len, setBE_len, setBE_len]
  intro i _
  rw [setBE_nth _ (by rw [setBE_len, hl]), setBE_nth _ hl, setBE_nth _ hl]
  by_cases a : i = 15
  · rw [if_pos a, if_pos a]
  by_cases b : i = 14
  · rw [if_neg a, if_pos b, if_neg a, if_pos b]
  by_cases c : i = 13
  · rw [if_neg a, if_neg b, if_pos c, if_neg a, if_neg b, if_pos c]
  by_cases d : i = 12
  · rw [if_neg a, if_neg b, if_neg c, if_pos d, if_neg a, if_neg b, if_neg c, if_pos d]
  simp only [if_neg a, if_neg b, if_neg c, if_neg d]
theorem setBE_be (l : List UInt8) (hl : l.length = 16) : setBE l (be l) = l := by
  have hn := be_toNat l
  have h0 := (nth l 12).toNat_lt
  have h1 := (nth l 13).toNat_lt
  have h2 := (nth l 14).toNat_lt
  have h3 := (nth l 15).toNat_lt
  apply nth_ext _ _ (setBE_len _ _)
  intro i _
  rw [setBE_nth _ hl]
  by_cases a : i = 15
  · subst a; rw [if_pos rfl]; apply u8_ext; rw [byte0]; omega
  by_cases b : i = 14
  · subst b; rw [if_neg a, if_pos rfl]; apply u8_ext; rw [byte1]; omega
  by_cases c : i = 13
  · subst c; rw [if_neg a, if_neg b, if_pos rfl]; apply u8_ext; rw [byte2]; omega
  by_cases d : i = 12
  · subst d; rw [if_neg a, if_neg b, if_neg c, if_pos rfl]; apply u8_ext; rw [byte3]; omega
  rw [if_neg a, if_neg b, if_neg c, if_neg d]
theorem incN_setBE (l : List UInt8) (hl : l.length = 16) (m : Nat) : incN m l = setBE l (be l + UInt32.ofNat m) := by
  induction m with
  | zero => rw [incN]; show l = setBE l (be l + 0); rw [UInt32.add_zero, setBE_be l hl]
  | succ m ih =>
    rw [incN, ih, inc_setBE _ (by rw [setBE_len, hl]), be_setBE _ hl, setBE_setBE _ hl, UInt32.add_assoc]
    congr 2
    rw [UInt32.ofNat_add]; rfl
end Aes
end Go.Proofs.YtncaplplkfihgaaGreatDoor
