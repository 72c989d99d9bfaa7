/-
  Digits of 16 bits, in plain Lean: carries, products, what stands above 2^130.
  Poly's sum as a number modulo 2^130 - 5, in plain Lean: the program's side.
  Digits of 16 bits, in plain Lean: how the steps of a product bring them about.
  Digits of 16 bits, in plain Lean: the last digits of Poly, the key's, a block's.
  Poly's sum, in plain Lean: both ways give the same bytes.
-/
import Derived.Test.YtbcboldepghgpaaChaLaw
import Derived.Test.YtbcboldepghgpaaChaP
set_option linter.unusedVariables false
set_option linter.unusedSimpArgs false
set_option maxRecDepth 100000
namespace Go.Proofs.Ytbcboldepghgpaa
namespace Cha
/-- digits of 16 bits, the lowest first -/
def dval : List UInt64 → Nat
  | [] => 0
  | x :: r => x.toNat + 65536 * dval r
def at64 (l : List UInt64) (i : Nat) : UInt64 := l.getD i 0
theorem at64_set (l : List UInt64) (i j : Nat) (x : UInt64) (hi : i < l.length) : at64 (l.set i x) j = if j = i then x else at64 l j := by
  unfold at64
  rw [List.getD_eq_getElem?_getD, List.getD_eq_getElem?_getD, List.getElem?_set]
  by_cases h : i = j
  · subst h; simp [hi]
  · rw [if_neg h, if_neg (fun e => h e.symm)]
theorem dval_set : ∀ (l : List UInt64) (i : Nat) (x : UInt64), i < l.length → dval (l.set i x) + 65536 ^ i * (at64 l i).toNat = dval l + 65536 ^ i * x.toNat
  | [], i, x, h => absurd h (Nat.not_lt_zero _)
  | y :: r, 0, x, _ => by simp only [List.set_cons_zero, dval, at64, List.getD_cons_zero, Nat.pow_zero, Nat.one_mul]; omega
  | y :: r, i + 1, x, h => by
    have ih := dval_set r i x (by simpa using h)
    simp only [List.set_cons_succ, dval]
    have e : at64 (y :: r) (i + 1) = at64 r i := by simp [at64]
    rw [e, Nat.pow_succ]
    have e1 : 65536 ^ i * 65536 * (at64 r i).toNat = 65536 * (65536 ^ i * (at64 r i).toNat) := by grind
    have e2 : 65536 ^ i * 65536 * x.toNat = 65536 * (65536 ^ i * x.toNat) := by grind
    omega
theorem dval_append : ∀ (l m : List UInt64), dval (l ++ m) = dval l + 65536 ^ l.length * dval m
  | [], m => by simp [dval]
  | x :: r, m => by
    have ih := dval_append r m
    simp only [List.cons_append, dval, List.length_cons, Nat.pow_succ, ih]
    grind
theorem dval_noughts : ∀ n, dval (List.replicate n 0) = 0
  | 0 => rfl
  | n + 1 => by rw [List.replicate_succ, dval, dval_noughts n]; rfl
theorem dval_take (l : List UInt64) (n : Nat) : dval l = dval (l.take n) + 65536 ^ (min n l.length) * dval (l.drop n) := by
  conv => lhs; rw [← List.take_append_drop n l]
  rw [dval_append, List.length_take]
theorem take_snoc64 (l : List UInt64) (k : Nat) (h : k < l.length) : l.take (k + 1) = l.take k ++ [at64 l k] := by
  rw [List.take_succ_eq_append_getElem h, at64, List.getD_eq_getElem?_getD, List.getElem?_eq_getElem h]; rfl
theorem dval_next (l : List UInt64) (k : Nat) (h : k < l.length) : dval (l.take (k + 1)) = dval (l.take k) + 65536 ^ k * (at64 l k).toNat := by
  rw [take_snoc64 l k h, dval_append, List.length_take, Nat.min_eq_left (by omega)]
  simp [dval]
theorem dval_lt : ∀ (l : List UInt64), (∀ i, (at64 l i).toNat < 65536) → dval l < 65536 ^ l.length
  | [], _ => by simp [dval]
  | x :: r, h => by
    have ih := dval_lt r (fun i => by have := h (i + 1); simpa [at64] using this)
    have h0 : x.toNat < 65536 := by have := h 0; simpa [at64] using this
    simp only [dval, List.length_cons, Nat.pow_succ]
    omega
/-! carries -/
def cstep (i : Nat) (p : List UInt64) : List UInt64 :=
  (p.set (i + 1) (at64 p (i + 1) + shr64 (at64 p i) 16)).set i (at64 p i &&& 65535)
theorem and16_nat (c : UInt64) : (c &&& 65535).toNat = c.toNat % 65536 := by
  rw [UInt64.toNat_and]
  exact Nat.and_two_pow_sub_one_eq_mod c.toNat 16
theorem shr16_nat (c : UInt64) : (shr64 c 16).toNat = c.toNat / 65536 := by
  unfold shr64
  rw [UInt64.toNat_ofNat']
  have := c.toNat_lt
  simp only [show min 16 64 = 16 from rfl]
  omega
theorem cstep_len (i : Nat) (p : List UInt64) : (cstep i p).length = p.length := by simp [cstep]
theorem cstep_at (i : Nat) (p : List UInt64) (hi : i + 1 < p.length) (j : Nat) : at64 (cstep i p) j = if j = i then at64 p i &&& 65535 else if j = i + 1 then at64 p (i + 1) + shr64 (at64 p i) 16 else at64 p j := by
  unfold cstep
  rw [at64_set _ _ _ _ (by rw [List.length_set]; omega), at64_set _ _ _ _ hi]
theorem cstep_val (i : Nat) (p : List UInt64) (hi : i + 1 < p.length) (hb : (at64 p (i + 1)).toNat + (at64 p i).toNat / 65536 < 18446744073709551616) : dval (cstep i p) = dval p := by
  have s1 := dval_set p (i + 1) (at64 p (i + 1) + shr64 (at64 p i) 16) hi
  have s2 := dval_set (p.set (i + 1) (at64 p (i + 1) + shr64 (at64 p i) 16)) i (at64 p i &&& 65535) (by rw [List.length_set]; omega)
  rw [at64_set _ _ _ _ hi, if_neg (by omega), and16_nat] at s2
  rw [UInt64.toNat_add, shr16_nat, Nat.mod_eq_of_lt (by simpa using hb), Nat.pow_succ] at s1
  unfold cstep
  generalize 65536 ^ i = X at *
  generalize (at64 p i).toNat = a at *
  generalize (at64 p (i + 1)).toNat = b at *
  have e1 : X * 65536 * (b + a / 65536) = X * 65536 * b + X * (65536 * (a / 65536)) := by grind
  have e2 : X * a = X * (65536 * (a / 65536)) + X * (a % 65536) := by rw [← Nat.mul_add, Nat.div_add_mod]
  omega
/-- a sum of digits, the lowest first: n of them -/
def nv (f : Nat → Nat) : Nat → Nat
  | 0 => 0
  | n + 1 => nv f n + 65536 ^ n * f n
theorem nv_congr (f g : Nat → Nat) : ∀ n, (∀ j, j < n → f j = g j) → nv f n = nv g n
  | 0, _ => rfl
  | n + 1, h => by rw [nv, nv, nv_congr f g n (fun j hj => h j (by omega)), h n (by omega)]
theorem nv_add (f g : Nat → Nat) (c : Nat) : ∀ n, nv (fun j => f j + c * g j) n = nv f n + c * nv g n
  | 0 => by simp [nv]
  | n + 1 => by
    simp only [nv, nv_add f g c n]
    grind
theorem nv_split (f : Nat → Nat) (n : Nat) : ∀ m, nv f (n + m) = nv f n + 65536 ^ n * nv (fun j => f (n + j)) m
  | 0 => by simp [nv]
  | m + 1 => by
    rw [← Nat.add_assoc, nv, nv, nv_split f n m, Nat.pow_add]
    grind
theorem nv_none (f : Nat → Nat) : ∀ n, (∀ j, j < n → f j = 0) → nv f n = 0
  | 0, _ => rfl
  | n + 1, h => by rw [nv, nv_none f n (fun j hj => h j (by omega)), h n (by omega)]; simp
theorem nv_lt (f : Nat → Nat) : ∀ n, (∀ j, j < n → f j < 65536) → nv f n < 65536 ^ n
  | 0, _ => by simp [nv]
  | n + 1, h => by
    have h1 := nv_lt f n (fun j hj => h j (by omega))
    have h2 := h n (by omega)
    have h3 : 65536 ^ n * f n ≤ 65536 ^ n * 65535 := Nat.mul_le_mul_left _ (by omega)
    rw [nv, Nat.pow_succ]
    omega
theorem dval_nv : ∀ (l : List UInt64), dval l = nv (fun j => (at64 l j).toNat) l.length
  | [] => rfl
  | x :: r => by
    rw [dval, dval_nv r, List.length_cons, Nat.add_comm r.length 1, nv_split, nv_congr (fun j => (at64 (x :: r) (1 + j)).toNat) (fun j => (at64 r j).toNat) r.length (fun j _ => by simp [at64, Nat.add_comm 1 j])]
    simp [nv, at64]
theorem at64_map (f : Nat → UInt64) (n i : Nat) (hi : i < n) : at64 ((List.range n).map f) i = f i := by
  unfold at64
  rw [List.getD_eq_getElem?_getD, List.getElem?_map, List.getElem?_range hi]
  rfl
theorem dval_map (f : Nat → UInt64) (n : Nat) : dval ((List.range n).map f) = nv (fun j => (f j).toNat) n := by
  rw [dval_nv, List.length_map, List.length_range]
  exact nv_congr _ _ n (fun j hj => by rw [at64_map f n j hj])
theorem eq_map (l : List UInt64) (n : Nat) (hl : l.length = n) : l = (List.range n).map (at64 l) := by
  apply List.ext_getElem
  · simp [hl]
  · intro i h1 h2
    simp [at64, List.getD_eq_getElem?_getD, List.getElem?_eq_getElem h1]
theorem map_set64 (f g : Nat → UInt64) (n i : Nat) (x : UInt64) (hx : g i = x) (h : ∀ j, j < n → j ≠ i → g j = f j) : ((List.range n).map f).set i x = (List.range n).map g := by
  apply List.ext_getElem
  · simp
  · intro j h1 h2
    have hj : j < n := by simpa using h2
    rw [List.getElem_set, List.getElem_map, List.getElem_map, List.getElem_range]
    by_cases e : i = j
    · subst e; rw [if_pos rfl, hx]
    · rw [if_neg e, h j hj (fun e' => e e'.symm)]
/-! carries: all of them -/
structure CInv (B : Nat) (p0 : List UInt64) (i : Nat) (p : List UInt64) : Prop where
  len : p.length = 18
  val : dval p = dval p0
  low : ∀ j, j < i → (at64 p j).toNat < 65536
  now : (at64 p i).toNat ≤ 2 * B
  high : ∀ j, i < j → (at64 p j).toNat ≤ B
theorem CInv.start {B : Nat} (p : List UInt64) (hl : p.length = 18) (hb : ∀ j, (at64 p j).toNat ≤ B) : CInv B p 0 p :=
  ⟨hl, rfl, fun j h => absurd h (Nat.not_lt_zero _), by have := hb 0; omega, fun j _ => hb j⟩
theorem CInv.step {B : Nat} {p0 p : List UInt64} {i : Nat} (h : CInv B p0 i p) (hB : B ≤ 4611686018427387904) (hi : i < 17) : CInv B p0 (i + 1) (cstep i p) := by
  have hl := h.len
  have hn := h.now
  have hh := h.high (i + 1) (by omega)
  have hat := cstep_at i p (by omega)
  refine ⟨by rw [cstep_len, hl], by rw [cstep_val i p (by omega) (by omega)]; exact h.val, fun j hj => ?_, ?_, fun j hj => ?_⟩
  · rw [hat]
    by_cases e : j = i
    · rw [if_pos e, and16_nat]; omega
    · rw [if_neg e, if_neg (by omega)]; exact h.low j (by omega)
  · rw [hat, if_neg (by omega), if_pos rfl, UInt64.toNat_add, shr16_nat]
    omega
  · rw [hat, if_neg (by omega), if_neg (by omega)]; exact h.high j (by omega)
/-- Digits that were carried: 17 of them below 2^16. -/
structure Carried (B : Nat) (p : List UInt64) : Prop where
  len : p.length = 18
  low : ∀ j, j < 17 → (at64 p j).toNat < 65536
  top : (at64 p 17).toNat ≤ 2 * B
theorem CInv.done {B : Nat} {p0 p : List UInt64} (h : CInv B p0 17 p) : Carried B p ∧ dval p = dval p0 := ⟨⟨h.len, h.low, h.now⟩, h.val⟩
/-! products -/
structure PInv (a r : List UInt64) (i k : Nat) (p : List UInt64) : Prop where
  len : p.length = 18
  val : dval p = dval (a.take i) * dval r + 65536 ^ i * (at64 a i).toNat * dval (r.take k)
  small : ∀ j, (at64 p j).toNat ≤ (8 * i + k) * 17179869184
theorem PInv.start (a r : List UInt64) : PInv a r 0 0 (List.replicate 18 0) :=
  ⟨List.length_replicate .., by rw [dval_noughts]; simp [dval], fun j => by
    have : at64 (List.replicate 18 (0 : UInt64)) j = 0 := by
      unfold at64
      rw [List.getD_eq_getElem?_getD, List.getElem?_replicate]
      split <;> rfl
    rw [this]; exact Nat.zero_le _⟩
theorem PInv.step {a r p : List UInt64} {i k : Nat} (h : PInv a r i k p) (hi : i < 9) (hk : k < 8) (hr : r.length = 8) (ha : (at64 a i).toNat ≤ 262144) (hr2 : (at64 r k).toNat ≤ 65536) :
    PInv a r i (k + 1) (p.set (i + k) (at64 p (i + k) + at64 a i * at64 r k)) := by
  have hl := h.len
  have hs := h.small (i + k)
  have hm : (at64 a i).toNat * (at64 r k).toNat ≤ 262144 * 65536 := Nat.mul_le_mul ha hr2
  have e1 : (at64 a i * at64 r k).toNat = (at64 a i).toNat * (at64 r k).toNat := by rw [UInt64.toNat_mul]; exact Nat.mod_eq_of_lt (by omega)
  have e2 : (at64 p (i + k) + at64 a i * at64 r k).toNat = (at64 p (i + k)).toNat + (at64 a i).toNat * (at64 r k).toNat := by
    rw [UInt64.toNat_add, e1]; exact Nat.mod_eq_of_lt (by omega)
  refine ⟨by rw [List.length_set, hl], ?_, fun j => ?_⟩
  · have s := dval_set p (i + k) (at64 p (i + k) + at64 a i * at64 r k) (by omega)
    rw [e2, h.val] at s
    rw [dval_next r k (by omega)]
    have e3 : 65536 ^ (i + k) * ((at64 p (i + k)).toNat + (at64 a i).toNat * (at64 r k).toNat) = 65536 ^ (i + k) * (at64 p (i + k)).toNat + 65536 ^ i * (at64 a i).toNat * (65536 ^ k * (at64 r k).toNat) := by rw [Nat.pow_add]; grind
    rw [e3] at s
    rw [Nat.mul_add]
    omega
  · rw [at64_set _ _ _ _ (by omega)]
    by_cases e : j = i + k
    · rw [if_pos e, e2]; omega
    · rw [if_neg e]; exact Nat.le_trans (h.small j) (Nat.mul_le_mul_right _ (by omega))
theorem PInv.row {a r p : List UInt64} {i : Nat} (h : PInv a r i 8 p) (hi : i < a.length) (hr : r.length = 8) : PInv a r (i + 1) 0 p :=
  ⟨h.len, by
    have h1 := h.val
    have e : r.take 8 = r := by rw [← hr, List.take_length]
    rw [e] at h1
    rw [h1, dval_next a i hi, Nat.add_mul]
    simp [dval], fun j => by have := h.small j; omega⟩
theorem PInv.done {a r p : List UInt64} (h : PInv a r 9 0 p) (ha : a.length = 9) : dval p = dval a * dval r ∧ ∀ j, (at64 p j).toNat ≤ 1236950581248 :=
  ⟨by
    have h1 := h.val
    have e : a.take 9 = a := by rw [← ha, List.take_length]
    rw [e] at h1
    rw [h1]; simp [dval], fun j => by have := h.small j; omega⟩
/-! what stands above 2^130 -/
def hv (p : List UInt64) (j : Nat) : UInt64 := shr64 (at64 p (8 + j)) 2 ||| (shl64 (at64 p (8 + j + 1)) 14 &&& 65535)
theorem shr2_nat (c : UInt64) : (shr64 c 2).toNat = c.toNat / 4 := by
  unfold shr64
  rw [UInt64.toNat_ofNat']
  have := c.toNat_lt
  simp only [show min 2 64 = 2 from rfl]
  omega
theorem shl14_nat (c : UInt64) : (shl64 c 14 &&& 65535).toNat = 16384 * (c.toNat % 4) := by
  rw [and16_nat]
  unfold shl64
  rw [UInt64.toNat_ofNat']
  simp only [show min 14 64 = 14 from rfl]
  omega
theorem hv_nat (p : List UInt64) (j : Nat) (h : (at64 p (8 + j)).toNat < 65536) : (hv p j).toNat = (at64 p (8 + j)).toNat / 4 + 16384 * ((at64 p (8 + j + 1)).toNat % 4) := by
  unfold hv
  rw [UInt64.toNat_or, shr2_nat, shl14_nat, Nat.or_comm, show (16384 : Nat) = 2 ^ 14 from rfl, ← Nat.two_pow_add_eq_or_of_lt (by omega)]
  omega
theorem and3_nat' (c : UInt64) : (c &&& 3).toNat = c.toNat % 4 := by
  rw [UInt64.toNat_and]
  exact Nat.and_two_pow_sub_one_eq_mod c.toNat 2
def hiF (p : List UInt64) (m : Nat) (j : Nat) : UInt64 := if j < m then hv p j else 0
def hiAll (p : List UInt64) (j : Nat) : UInt64 := if j < 9 then hv p j else if j = 9 then shr64 (at64 p 17) 2 else 0
def loF (p : List UInt64) (m : Nat) (j : Nat) : UInt64 := if j < 8 then at64 p j else if j = 8 then at64 p 8 &&& 3 else if j < m then 0 else at64 p j
def upF (p : List UInt64) (m : Nat) (j : Nat) : UInt64 := loF p 18 j + (if j < m then 5 * hiAll p j else 0)
theorem hi_tele (f : Nat → Nat) : ∀ n, 4 * nv (fun j => f j / 4 + 16384 * (f (j + 1) % 4)) n + f 0 % 4 = nv f n + 65536 ^ n * (f n % 4)
  | 0 => by simp [nv]
  | n + 1 => by
    have ih := hi_tele f n
    rw [nv, nv, Nat.pow_succ]
    have e : 65536 ^ n * f n = 65536 ^ n * (4 * (f n / 4)) + 65536 ^ n * (f n % 4) := by rw [← Nat.mul_add, Nat.div_add_mod]
    have e2 : 65536 ^ n * 65536 * (f (n + 1) % 4) = 4 * (65536 ^ n * (16384 * (f (n + 1) % 4))) := by grind
    have e3 : 65536 ^ n * (f n / 4 + 16384 * (f (n + 1) % 4)) = 65536 ^ n * (f n / 4) + 65536 ^ n * (16384 * (f (n + 1) % 4)) := Nat.mul_add ..
    have e4 : 65536 ^ n * (4 * (f n / 4)) = 4 * (65536 ^ n * (f n / 4)) := by grind
    omega
theorem hi_val (p : List UInt64) {B : Nat} (h : Carried B p) : 4 * nv (fun j => (hiAll p j).toNat) 18 + (at64 p 8).toNat % 4 = nv (fun j => (at64 p (8 + j)).toNat) 10 := by
  have hl := h.len
  have h18 : at64 p 18 = 0 := by
    unfold at64
    rw [List.getD_eq_getElem?_getD, List.getElem?_eq_none (by omega)]; rfl
  have e1 : nv (fun j => (hiAll p j).toNat) 18 = nv (fun j => (at64 p (8 + j)).toNat / 4 + 16384 * ((at64 p (8 + (j + 1))).toNat % 4)) 10 := by
    rw [show (18 : Nat) = 10 + 8 from rfl, nv_split, nv_none (fun j => (hiAll p (10 + j)).toNat) 8 (fun j _ => by
      unfold hiAll
      rw [if_neg (by omega), if_neg (by omega)]; rfl)]
    rw [Nat.mul_zero, Nat.add_zero]
    refine nv_congr _ _ 10 (fun j hj => ?_)
    unfold hiAll
    by_cases e : j < 9
    · rw [if_pos e, hv_nat p j (h.low _ (by omega)), ← Nat.add_assoc]
    · have : j = 9 := by omega
      subst this
      rw [if_neg e, if_pos rfl, shr2_nat, show 8 + (9 + 1) = 18 from rfl, h18]
      rfl
  rw [e1]
  have t := hi_tele (fun j => (at64 p (8 + j)).toNat) 10
  rw [show 8 + 10 = 18 from rfl, h18] at t
  simpa using t
theorem lo_val (p : List UInt64) {B : Nat} (h : Carried B p) : nv (fun j => (loF p 18 j).toNat) 18 = nv (fun j => (at64 p j).toNat) 8 + 65536 ^ 8 * ((at64 p 8).toNat % 4) := by
  rw [show (18 : Nat) = 9 + 9 from rfl, nv_split, nv_none (fun j => (loF p (9 + 9) (9 + j)).toNat) 9 (fun j hj => by
    unfold loF
    rw [if_neg (by omega), if_neg (by omega), if_pos (by omega)]; rfl), Nat.mul_zero, Nat.add_zero, nv]
  have e1 : nv (fun j => (loF p (9 + 9) j).toNat) 8 = nv (fun j => (at64 p j).toNat) 8 := nv_congr _ _ 8 (fun j hj => by
    unfold loF
    rw [if_pos hj])
  have e2 : (loF p (9 + 9) 8).toNat = (at64 p 8).toNat % 4 := by
    unfold loF
    rw [if_neg (by omega), if_pos rfl, and3_nat']
  rw [e1, e2]
theorem hiAll_le (p : List UInt64) {B : Nat} (h : Carried B p) (j : Nat) : (hiAll p j).toNat ≤ B / 2 + 65536 := by
  have h1 := h.top
  unfold hiAll
  split
  · rw [hv_nat p j (h.low _ (by omega))]
    have := h.low (8 + j) (by omega)
    omega
  · split
    · rw [shr2_nat]; omega
    · exact Nat.zero_le _
theorem loF_le (p : List UInt64) {B : Nat} (h : Carried B p) (j : Nat) : (loF p 18 j).toNat < 65536 := by
  unfold loF
  split
  · exact h.low _ (by omega)
  · split
    · rw [and3_nat']; omega
    · split
      · exact Nat.zero_lt_succ _
      · have hl := h.len
        have : at64 p j = 0 := by
          unfold at64
          rw [List.getD_eq_getElem?_getD, List.getElem?_eq_none (by omega)]; rfl
        rw [this]; exact Nat.zero_lt_succ _
theorem upF_nat (p : List UInt64) {B : Nat} (h : Carried B p) (hB : B ≤ 1152921504606846976) (m j : Nat) : (upF p m j).toNat = (loF p 18 j).toNat + (if j < m then 5 * (hiAll p j).toNat else 0) := by
  have h1 := loF_le p h j
  have h2 := hiAll_le p h j
  unfold upF
  have e5 : (5 * hiAll p j).toNat = 5 * (hiAll p j).toNat := by
    rw [UInt64.toNat_mul, show (5 : UInt64).toNat = 5 from rfl]; exact Nat.mod_eq_of_lt (by omega)
  split
  · rw [UInt64.toNat_add, e5]; exact Nat.mod_eq_of_lt (by omega)
  · rw [UInt64.toNat_add, show (0 : UInt64).toNat = 0 from rfl]; exact Nat.mod_eq_of_lt (by omega)
def foldN (x : Nat) : Nat := x % 1361129467683753853853498429727072845824 + 5 * (x / 1361129467683753853853498429727072845824)
theorem fold_val (p : List UInt64) {B : Nat} (h : Carried B p) (hB : B ≤ 1152921504606846976) : dval ((List.range 18).map (upF p 10)) = foldN (dval p) ∧ ∀ j, (at64 ((List.range 18).map (upF p 10)) j).toNat ≤ 3 * B + 1000000 := by
  constructor
  · rw [dval_map]
    have e : nv (fun j => (upF p 10 j).toNat) 18 = nv (fun j => (loF p 18 j).toNat + 5 * (hiAll p j).toNat) 18 := by
      refine nv_congr _ _ 18 (fun j hj => ?_)
      rw [upF_nat p h hB]
      congr 1
      by_cases e : j < 10
      · rw [if_pos e]
      · rw [if_neg e]
        unfold hiAll
        rw [if_neg (by omega), if_neg (by omega)]; rfl
    rw [e, nv_add, lo_val p h]
    have hh := hi_val p h
    have hp : dval p = nv (fun j => (at64 p j).toNat) 8 + 65536 ^ 8 * nv (fun j => (at64 p (8 + j)).toNat) 10 := by
      rw [dval_nv, h.len, show (18 : Nat) = 8 + 10 from rfl, nv_split]
    have hlt := nv_lt (fun j => (at64 p j).toNat) 8 (fun j hj => h.low j (by omega))
    rw [hp, ← hh]
    unfold foldN
    generalize nv (fun j => (at64 p j).toNat) 8 = A at *
    generalize nv (fun j => (hiAll p j).toNat) 18 = B at *
    have hC : (at64 p 8).toNat % 4 < 4 := by omega
    generalize (at64 p 8).toNat % 4 = C at *
    have e8 : (65536 : Nat) ^ 8 = 340282366920938463463374607431768211456 := by decide
    rw [e8] at *
    omega
  · intro j
    by_cases hj : j < 18
    · rw [at64_map _ _ _ hj, upF_nat p h hB]
      have h1 := loF_le p h j
      have h2 := hiAll_le p h j
      split <;> omega
    · have : at64 ((List.range 18).map (upF p 10)) j = 0 := by
        unfold at64
        rw [List.getD_eq_getElem?_getD, List.getElem?_eq_none (by simpa using hj)]; rfl
      rw [this]; exact Nat.zero_le _
end Cha
end Go.Proofs.Ytbcboldepghgpaa

namespace Go.Proofs.Ytbcboldepghgpaa
namespace Cha
/-- bytes as a number, the lowest first -/
def leb : List UInt8 → Nat
  | [] => 0
  | x :: r => x.toNat + 256 * leb r
theorem leb_append : ∀ (l m : List UInt8), leb (l ++ m) = leb l + 256 ^ l.length * leb m
  | [], m => by simp [leb]
  | x :: r, m => by
    simp only [List.cons_append, leb, List.length_cons, Nat.pow_succ, leb_append r m]
    grind
theorem leb_zeros : ∀ n, leb (List.replicate n 0) = 0
  | 0 => rfl
  | n + 1 => by rw [List.replicate_succ, leb, leb_zeros n]; rfl
theorem leb_lt : ∀ (l : List UInt8), leb l < 256 ^ l.length
  | [] => by simp [leb]
  | x :: r => by
    have h1 := leb_lt r
    have h2 : x.toNat < 256 := x.toNat_lt
    simp only [leb, List.length_cons, Nat.pow_succ]
    omega
theorem leb_next (l : List UInt8) (k : Nat) : leb (l.take (k + 1)) = leb (l.take k) + 256 ^ k * (nth l k).toNat := by
  by_cases h : k < l.length
  · rw [take_next l k h, leb_append, List.length_take, Nat.min_eq_left (by omega)]
    simp [leb]
  · rw [List.take_of_length_le (by omega), List.take_of_length_le (by omega)]
    have : nth l k = 0 := by
      unfold nth
      rw [List.getD_eq_getElem?_getD, List.getElem?_eq_none (by omega)]; rfl
    rw [this]; rfl
theorem leb_set : ∀ (l : List UInt8) (i : Nat) (x : UInt8), i < l.length → leb (l.set i x) + 256 ^ i * (nth l i).toNat = leb l + 256 ^ i * x.toNat
  | [], i, x, h => absurd h (Nat.not_lt_zero _)
  | y :: r, 0, x, _ => by simp only [List.set_cons_zero, leb, nth, List.getD_cons_zero, Nat.pow_zero, Nat.one_mul]; omega
  | y :: r, i + 1, x, h => by
    have ih := leb_set r i x (by simpa using h)
    simp only [List.set_cons_succ, leb]
    have e : nth (y :: r) (i + 1) = nth r i := by simp [nth]
    rw [e, Nat.pow_succ]
    have e1 : 256 ^ i * 256 * (nth r i).toNat = 256 * (256 ^ i * (nth r i).toNat) := by grind
    have e2 : 256 ^ i * 256 * x.toNat = 256 * (256 ^ i * x.toNat) := by grind
    omega
theorem leb_split (l : List UInt8) (n : Nat) (h : n ≤ l.length) : leb l = leb (l.take n) + 256 ^ n * leb (l.drop n) := by
  conv => lhs; rw [← List.take_append_drop n l]
  rw [leb_append, List.length_take, Nat.min_eq_left h]
theorem leb_byte : ∀ (l : List UInt8) (i : Nat), leb l / 256 ^ i % 256 = (nth l i).toNat
  | [], i => by simp [leb, nth]
  | x :: r, 0 => by
    have h2 : x.toNat < 256 := x.toNat_lt
    simp only [leb, nth, List.getD_cons_zero, Nat.pow_zero, Nat.div_one]; omega
  | x :: r, i + 1 => by
    have h2 : x.toNat < 256 := x.toNat_lt
    have ih := leb_byte r i
    have e : nth (x :: r) (i + 1) = nth r i := by simp [nth]
    rw [e, ← ih, leb, Nat.pow_succ, Nat.mul_comm (256 ^ i) 256, ← Nat.div_div_eq_div_mul, show (x.toNat + 256 * leb r) / 256 = leb r by omega]
theorem wordTo_nat (b : List UInt8) : ∀ k, k ≤ 4 → (wordTo b k).toNat = leb (b.take k)
  | 0, _ => by simp [wordTo, leb]
  | k + 1, h => by
    have ih := wordTo_nat b k (by omega)
    have hlt := leb_lt (b.take k)
    have hle : 256 ^ (b.take k).length ≤ 256 ^ k := Nat.pow_le_pow_right (by decide) (by rw [List.length_take]; omega)
    have hn : (nth b k).toNat < 256 := (nth b k).toNat_lt
    rw [wordTo, UInt32.toNat_or, ih, leb_next]
    have e : (shl32 (nth b k).toUInt32 (8 * k)).toNat = 256 ^ k * (nth b k).toNat := by
      unfold shl32
      rw [UInt32.toNat_ofNat', UInt8.toNat_toUInt32]
      rcases (show k = 0 ∨ k = 1 ∨ k = 2 ∨ k = 3 by omega) with rfl | rfl | rfl | rfl <;> simp <;> omega
    have p : (256 : Nat) ^ k = 2 ^ (8 * k) := by rw [show (256 : Nat) = 2 ^ 8 from rfl, ← Nat.pow_mul]
    rw [e, Nat.or_comm, p, ← Nat.two_pow_add_eq_or_of_lt (by rw [← p]; omega), Nat.add_comm]
theorem two_nat (k : List UInt32) (i : Nat) : (two k i).toNat = (at_ k i).toNat + 4294967296 * (at_ k (i + 1)).toNat := by
  unfold two
  have h1 := (at_ k i).toNat_lt
  have h2 := (at_ k (i + 1)).toNat_lt
  rw [UInt64.toNat_or, UInt64.toNat_shiftLeft, UInt32.toNat_toUInt64, UInt32.toNat_toUInt64]
  simp only [show (32 : UInt64).toNat % 64 = 32 from rfl, Nat.shiftLeft_eq]
  rw [show (at_ k (i + 1)).toNat * 2 ^ 32 % 2 ^ 64 = 2 ^ 32 * (at_ k (i + 1)).toNat by omega, Nat.or_comm, ← Nat.two_pow_add_eq_or_of_lt (by omega)]
  omega
theorem two_words (b : List UInt8) (n i : Nat) (hi : i + 1 < n) (hb : 4 * i + 8 ≤ b.length) : (two (words b n) i).toNat = leb ((b.drop (4 * i)).take 8) := by
  rw [two_nat, at_words _ _ _ (by omega), at_words _ _ _ hi, wordTo_nat _ _ (by decide), wordTo_nat _ _ (by decide)]
  have h := leb_split ((b.drop (4 * i)).take 8) 4 (by rw [List.length_take, List.length_drop]; omega)
  rw [h, List.take_take, show min 4 8 = 4 from rfl, List.drop_take, List.drop_drop, show 4 * (i + 1) = 4 * i + 4 by omega]
/-- a block's number -/
def blkN (t : List UInt8) : Nat := leb (t.take 16) + 256 ^ (min t.length 16)
theorem buf_leb (t : List UInt8) : leb (buf t) = blkN t := by
  have e0 : nth (t.take 16 ++ (List.replicate 24 (0 : UInt8)).drop (min t.length 16)) (min t.length 16) = 0 := by
    unfold nth
    rw [List.getD_eq_getElem?_getD, List.getElem?_append_right (by rw [List.length_take]; omega), List.drop_replicate, List.getElem?_replicate]
    split <;> rfl
  have s := leb_set (t.take 16 ++ (List.replicate 24 (0 : UInt8)).drop (min t.length 16)) (min t.length 16) 1 (by rw [List.length_append, List.length_take, List.length_drop, List.length_replicate]; omega)
  rw [e0, leb_append, List.drop_replicate, leb_zeros, show (0 : UInt8).toNat = 0 from rfl, show (1 : UInt8).toNat = 1 from rfl] at s
  unfold buf blkN
  rw [List.drop_replicate]
  omega
theorem add_val (t : List UInt8) (p : P3) (hc : p.c.toNat ≤ 7) : (p.plus (two (words (buf t) 6) 0) (two (words (buf t) 6) 2) (at_ (words (buf t) 6) 4).toUInt64).val = p.val + blkN t := by
  have hl := buf_len t
  have e0 := two_words (buf t) 6 0 (by decide) (by omega)
  have e2 := two_words (buf t) 6 2 (by decide) (by omega)
  have e4 : (at_ (words (buf t) 6) 4).toUInt64.toNat = leb (((buf t).drop 16).take 4) := by
    rw [UInt32.toNat_toUInt64, at_words _ _ _ (by decide), wordTo_nat _ _ (by decide)]
  have h4 : (at_ (words (buf t) 6) 4).toUInt64.toNat < 4294967296 := by rw [UInt32.toNat_toUInt64]; exact UInt32.toNat_lt _
  rw [P3.plus_val _ _ _ _ (by omega), e0, e2, e4, ← buf_leb t]
  have s1 := leb_split (buf t) 8 (by omega)
  have s2 : leb ((buf t).drop 8) = leb (((buf t).drop 8).take 8) + 256 ^ 8 * leb ((buf t).drop 16) := by
    have h := leb_split ((buf t).drop 8) 8 (by rw [List.length_drop]; omega)
    rwa [List.drop_drop] at h
  have s3 : leb ((buf t).drop 16) = leb (((buf t).drop 16).take 4) + 256 ^ 4 * leb ((buf t).drop 20) := by
    have h := leb_split ((buf t).drop 16) 4 (by rw [List.length_drop]; omega)
    rwa [List.drop_drop] at h
  have z : leb ((buf t).drop 20) = 0 := by
    have e : (buf t).drop 20 = List.replicate 4 0 := by
      apply List.ext_getElem
      · rw [List.length_drop, hl, List.length_replicate]
      · intro i h1 h2
        have hi : i < 4 := by simpa using h2
        rw [List.getElem_drop, List.getElem_replicate]
        unfold buf
        rw [List.getElem_set, if_neg (by omega), List.getElem_append_right (by rw [List.length_take]; omega), List.getElem_drop, List.getElem_replicate]
    rw [e]; exact leb_zeros 4
  rw [z] at s3
  rw [s1, s2, s3]
  simp only [List.drop_zero, show 4 * 0 = 0 from rfl, show 4 * 2 = 8 from rfl, show 256 ^ 8 = 18446744073709551616 from rfl]
  omega
theorem absorb_val (r s : UInt64) (t : List UInt8) (p : P3) (hv : p.val < 2 ^ 130 + 2 ^ 128) (hr : r.toNat < 1152921504606846976) (hs : s.toNat < 1152921504606846976) :
    (absorb r s t p).val = foldN ((p.val + blkN t) * (r.toNat + 18446744073709551616 * s.toNat)) ∧ (absorb r s t p).val < 2 ^ 130 + 2 ^ 128 := by
  have hb : blkN t < 2 ^ 129 := by
    have h1 := leb_lt (t.take 16)
    have h2 : 256 ^ (t.take 16).length ≤ 256 ^ 16 := Nat.pow_le_pow_right (by decide) (by rw [List.length_take]; omega)
    have h3 : 256 ^ (min t.length 16) ≤ 256 ^ 16 := Nat.pow_le_pow_right (by decide) (by omega)
    have e : (256 : Nat) ^ 16 = 2 ^ 128 := by decide
    unfold blkN
    omega
  have hc : p.c.toNat ≤ 7 := by
    have : 340282366920938463463374607431768211456 * p.c.toNat ≤ p.val := by unfold P3.val; omega
    omega
  have ha := add_val t p hc
  unfold absorb
  generalize p.plus (two (words (buf t) 6) 0) (two (words (buf t) 6) 2) (at_ (words (buf t) 6) 4).toUInt64 = q at *
  have hq : q.c.toNat ≤ 7 := by
    have : 340282366920938463463374607431768211456 * q.c.toNat ≤ q.val := by unfold P3.val; omega
    omega
  have ht := P3.times_val q r s hq hr hs
  rw [ha] at ht
  refine ⟨ht, ?_⟩
  rw [ht]
  have hR : r.toNat + 18446744073709551616 * s.toNat < 2 ^ 124 := by omega
  have hm : (p.val + blkN t) * (r.toNat + 18446744073709551616 * s.toNat) ≤ (2 ^ 130 + 2 ^ 128 + 2 ^ 129) * 2 ^ 124 := Nat.mul_le_mul (by omega) (by omega)
  generalize (p.val + blkN t) * (r.toNat + 18446744073709551616 * s.toNat) = X at *
  omega
/-- The modulus. -/
def Q : Nat := 1361129467683753853853498429727072845819
theorem foldN_mod (x : Nat) : foldN x % Q = x % Q := by
  unfold foldN Q
  omega
theorem less_val (p : P3) (hv : p.val < 2 ^ 130 + 2 ^ 128) : (less p).val = p.val % Q := by
  have hc : p.c.toNat ≤ 7 := by
    have : 340282366920938463463374607431768211456 * p.c.toNat ≤ p.val := by unfold P3.val; omega
    omega
  have h5 := P3.plus_val p 5 0 0 (by simp; omega)
  have z0 : (0 : UInt64).toNat = 0 := rfl
  have z5 : (5 : UInt64).toNat = 5 := rfl
  rw [z0, z5] at h5
  unfold less
  generalize p.plus 5 0 0 = q at *
  have ha := q.a.toNat_lt
  have hb := q.b.toNat_lt
  have hq := q.c.toNat_lt
  by_cases h : 4 ≤ q.c
  · rw [if_pos h]
    have h4 : 4 ≤ q.c.toNat := UInt64.le_iff_toNat_le.1 h
    have e : (q.c - 4).toNat = q.c.toNat - 4 := UInt64.toNat_sub_of_le q.c 4 h
    unfold P3.val Q at *
    simp only [e]
    omega
  · rw [if_neg h]
    have h4 : ¬ 4 ≤ q.c.toNat := fun e => h (UInt64.le_iff_toNat_le.2 e)
    unfold P3.val Q at *
    omega
theorem less_twice (p : P3) (hv : p.val < 2 ^ 130 + 2 ^ 128) : (less (less p)).val = p.val % Q := by
  have h1 := less_val p hv
  have h2 : p.val % Q < Q := Nat.mod_lt _ (by decide)
  rw [less_val _ (by rw [h1]; have : Q < 2 ^ 130 := by decide
                     omega), h1, Nat.mod_mod]
theorem out_nth (p : P3) (i : Nat) (hi : i < 16) : (nth (out p) i).toNat = p.val / 256 ^ i % 256 := by
  have ha := p.a.toNat_lt
  have hb := p.b.toNat_lt
  unfold out nth
  rw [List.getD_eq_getElem?_getD, List.getElem?_map, List.getElem?_range hi]
  simp only [Option.map_some, Option.getD_some]
  unfold shr64
  rw [UInt64.toNat_toUInt8, UInt64.toNat_ofNat']
  unfold P3.val dig
  rcases (show i = 0 ∨ i = 1 ∨ i = 2 ∨ i = 3 ∨ i = 4 ∨ i = 5 ∨ i = 6 ∨ i = 7 ∨ i = 8 ∨ i = 9 ∨ i = 10 ∨ i = 11 ∨ i = 12 ∨ i = 13 ∨ i = 14 ∨ i = 15 by omega) with rfl | rfl | rfl | rfl | rfl | rfl | rfl | rfl | rfl | rfl | rfl | rfl | rfl | rfl | rfl | rfl <;> simp <;> omega
theorem leb_and : ∀ (l m : List UInt8), l.length = m.length → leb (List.zipWith (fun x y => x &&& y) l m) = leb l &&& leb m
  | [], [], _ => rfl
  | x :: l, y :: m, h => by
    have ih := leb_and l m (by simpa using h)
    have hx := x.toNat_lt
    have hy := y.toNat_lt
    rw [List.zipWith_cons_cons, leb, leb, leb, ih]
    have d := Nat.and_div_two_pow (a := x.toNat + 256 * leb l) (b := y.toNat + 256 * leb m) (n := 8)
    have r := Nat.and_mod_two_pow (a := x.toNat + 256 * leb l) (b := y.toNat + 256 * leb m) (n := 8)
    rw [show (x.toNat + 256 * leb l) / 2 ^ 8 = leb l by omega, show (y.toNat + 256 * leb m) / 2 ^ 8 = leb m by omega] at d
    rw [show (x.toNat + 256 * leb l) % 2 ^ 8 = x.toNat by omega, show (y.toNat + 256 * leb m) % 2 ^ 8 = y.toNat by omega] at r
    have hd := Nat.div_add_mod ((x.toNat + 256 * leb l) &&& (y.toNat + 256 * leb m)) (2 ^ 8)
    rw [d, r] at hd
    rw [UInt8.toNat_and]
    omega
/-- A key's byte, as Poly takes it. -/
def clampB (i : Nat) (c : UInt8) : UInt8 := if i % 4 = 3 then c &&& 15 else if i % 4 = 0 ∧ 0 < i then c &&& 252 else c
def clamp (key : List UInt8) : List UInt8 := (List.range 16).map fun i => clampB i (nth key i)
theorem and255 (c : UInt8) : c &&& 255 = c := by
  apply UInt8.toNat_inj.1
  rw [UInt8.toNat_and]
  have := c.toNat_lt
  have e := Nat.and_two_pow_sub_one_eq_mod c.toNat 8
  rw [show (255 : UInt8).toNat = 2 ^ 8 - 1 from rfl, e]
  omega
theorem clamp_low (key : List UInt8) (hk : key.length = 32) : List.zipWith (fun x y => x &&& y) (key.take 8) [255, 255, 255, 15, 252, 255, 255, 15] = (clamp key).take 8 := by
  apply List.ext_getElem
  · simp [clamp, hk]
  · intro i h1 h2
    have hi : i < 8 := by simpa [hk] using h1
    have e : nth key i = key[i]'(by omega) := by simp [nth, List.getD_eq_getElem?_getD, List.getElem?_eq_getElem (show i < key.length by omega)]
    rw [List.getElem_zipWith, List.getElem_take, List.getElem_take]
    unfold clamp
    rw [List.getElem_map, List.getElem_range, e]
    unfold clampB
    rcases (show i = 0 ∨ i = 1 ∨ i = 2 ∨ i = 3 ∨ i = 4 ∨ i = 5 ∨ i = 6 ∨ i = 7 by omega) with rfl | rfl | rfl | rfl | rfl | rfl | rfl | rfl <;> simp [and255]
theorem clamp_high (key : List UInt8) (hk : key.length = 32) : List.zipWith (fun x y => x &&& y) ((key.drop 8).take 8) [252, 255, 255, 15, 252, 255, 255, 15] = (clamp key).drop 8 := by
  apply List.ext_getElem
  · simp [clamp, hk]
  · intro i h1 h2
    have hi : i < 8 := by simpa [hk] using h1
    have e : nth key (8 + i) = key[8 + i]'(by omega) := by simp [nth, List.getD_eq_getElem?_getD, List.getElem?_eq_getElem (show 8 + i < key.length by omega)]
    rw [List.getElem_zipWith, List.getElem_take, List.getElem_drop, List.getElem_drop]
    unfold clamp
    rw [List.getElem_map, List.getElem_range, e]
    unfold clampB
    rcases (show i = 0 ∨ i = 1 ∨ i = 2 ∨ i = 3 ∨ i = 4 ∨ i = 5 ∨ i = 6 ∨ i = 7 by omega) with rfl | rfl | rfl | rfl | rfl | rfl | rfl | rfl <;> simp [and255]
theorem clamp_len (key : List UInt8) : (clamp key).length = 16 := by simp [clamp]
theorem clamp_val (key : List UInt8) (hk : key.length = 32) : (low (words key 8)).toNat + 18446744073709551616 * (high (words key 8)).toNat = leb (clamp key) ∧ (low (words key 8)).toNat < 1152921504606846976 ∧ (high (words key 8)).toNat < 1152921504606846976 := by
  have e0 := two_words key 8 0 (by decide) (by omega)
  have e2 := two_words key 8 2 (by decide) (by omega)
  have a0 := leb_and (key.take 8) [255, 255, 255, 15, 252, 255, 255, 15] (by simp [hk])
  have a2 := leb_and ((key.drop 8).take 8) [252, 255, 255, 15, 252, 255, 255, 15] (by simp [hk])
  rw [clamp_low key hk] at a0
  rw [clamp_high key hk] at a2
  have l1 : (low (words key 8)).toNat = leb ((clamp key).take 8) := by
    unfold low
    rw [UInt64.toNat_and, e0, a0]; rfl
  have l2 : (high (words key 8)).toNat = leb ((clamp key).drop 8) := by
    unfold high
    rw [UInt64.toNat_and, e2, a2]; rfl
  have b1 : (low (words key 8)).toNat ≤ 1152921487695413247 := by
    unfold low
    rw [UInt64.toNat_and]; exact Nat.and_le_right
  have b2 : (high (words key 8)).toNat ≤ 1152921487695413244 := by
    unfold high
    rw [UInt64.toNat_and]; exact Nat.and_le_right
  have s := leb_split (clamp key) 8 (by rw [clamp_len]; omega)
  refine ⟨?_, by omega, by omega⟩
  rw [s, l1, l2, show 256 ^ 8 = 18446744073709551616 from rfl]
end Cha
end Go.Proofs.Ytbcboldepghgpaa

namespace Go.Proofs.Ytbcboldepghgpaa
namespace Cha
theorem hi_start (p : List UInt64) : (List.range 18).map (hiF p 0) = List.replicate 18 0 := by
  have h : (List.range 18).map (hiF p 0) = (List.range 18).map fun _ => (0 : UInt64) := List.map_congr_left (fun j _ => by unfold hiF; rw [if_neg (Nat.not_lt_zero _)])
  rw [h, List.map_const', List.length_range]
theorem hi_set (p : List UInt64) (m : Nat) : ((List.range 18).map (hiF p m)).set m (hv p m) = (List.range 18).map (hiF p (m + 1)) := by
  apply map_set64
  · unfold hiF; rw [if_pos (by omega)]
  · intro j _ h
    unfold hiF
    by_cases e : j < m
    · rw [if_pos e, if_pos (by omega)]
    · rw [if_neg e, if_neg (by omega)]
theorem hi_end (p : List UInt64) : ((List.range 18).map (hiF p 9)).set 9 (shr64 (at64 p 17) 2) = (List.range 18).map (hiAll p) := by
  apply map_set64
  · unfold hiAll; rw [if_neg (by omega), if_pos rfl]
  · intro j _ h
    unfold hiF hiAll
    by_cases e : j < 9
    · rw [if_pos e, if_pos e]
    · rw [if_neg e, if_neg e, if_neg h]
theorem lo_start (p : List UInt64) (hl : p.length = 18) : p.set 8 (at64 p 8 &&& 3) = (List.range 18).map (loF p 9) := by
  conv => lhs; rw [eq_map p 18 hl]
  rw [at64_map _ _ _ (by omega)]
  apply map_set64
  · unfold loF; rw [if_neg (by omega), if_pos rfl]
  · intro j _ h
    unfold loF
    by_cases e : j < 8
    · rw [if_pos e]
    · rw [if_neg e, if_neg h, if_neg (by omega)]
theorem lo_set (p : List UInt64) (m : Nat) (hm : 9 ≤ m) : ((List.range 18).map (loF p m)).set m 0 = (List.range 18).map (loF p (m + 1)) := by
  apply map_set64
  · unfold loF; rw [if_neg (by omega), if_neg (by omega), if_pos (by omega)]
  · intro j _ h
    unfold loF
    by_cases e : j < 8
    · rw [if_pos e, if_pos e]
    · rw [if_neg e, if_neg e]
      by_cases e2 : j = 8
      · rw [if_pos e2, if_pos e2]
      · rw [if_neg e2, if_neg e2]
        by_cases e3 : j < m
        · rw [if_pos e3, if_pos (by omega)]
        · rw [if_neg e3, if_neg (by omega)]
theorem up_start (p : List UInt64) : (List.range 18).map (loF p 18) = (List.range 18).map (upF p 0) :=
  List.map_congr_left (fun j _ => by unfold upF; rw [if_neg (Nat.not_lt_zero _)]; simp)
theorem up_at (p : List UInt64) (m : Nat) (hm : m < 18) : at64 ((List.range 18).map (upF p m)) m = loF p 18 m := by
  rw [at64_map _ _ _ hm]
  unfold upF
  rw [if_neg (Nat.lt_irrefl _)]; simp
theorem up_set (p : List UInt64) (m : Nat) : ((List.range 18).map (upF p m)).set m (loF p 18 m + 5 * hiAll p m) = (List.range 18).map (upF p (m + 1)) := by
  apply map_set64
  · unfold upF; rw [if_pos (by omega)]
  · intro j _ h
    unfold upF
    by_cases e : j < m
    · rw [if_pos e, if_pos (by omega)]
    · rw [if_neg e, if_neg (by omega)]
def cutF (p : List UInt64) (m : Nat) (j : Nat) : UInt64 := if j < m then at64 p j else 0
theorem cut_start (p : List UInt64) : (List.range 9).map (cutF p 0) = List.replicate 9 0 := by
  have h : (List.range 9).map (cutF p 0) = (List.range 9).map fun _ => (0 : UInt64) := List.map_congr_left (fun j _ => by unfold cutF; rw [if_neg (Nat.not_lt_zero _)])
  rw [h, List.map_const', List.length_range]
theorem cut_set (p : List UInt64) (m : Nat) : ((List.range 9).map (cutF p m)).set m (at64 p m) = (List.range 9).map (cutF p (m + 1)) := by
  apply map_set64
  · unfold cutF; rw [if_pos (by omega)]
  · intro j _ h
    unfold cutF
    by_cases e : j < m
    · rw [if_pos e, if_pos (by omega)]
    · rw [if_neg e, if_neg (by omega)]
/-- Digits as Poly keeps them. -/
structure Nine (a : List UInt64) (v : Nat) : Prop where
  len : a.length = 9
  low : ∀ j, (at64 a j).toNat < 65536
  val : dval a = v
theorem cut_end {B : Nat} (p : List UInt64) (h : Carried B p) (hv : dval p < 65536 ^ 9) : Nine ((List.range 9).map (cutF p 9)) (dval p) := by
  refine ⟨by simp, fun j => ?_, ?_⟩
  · by_cases hj : j < 9
    · rw [at64_map _ _ _ hj]
      unfold cutF
      rw [if_pos hj]; exact h.low j (by omega)
    · have : at64 ((List.range 9).map (cutF p 9)) j = 0 := by
        unfold at64
        rw [List.getD_eq_getElem?_getD, List.getElem?_eq_none (by simpa using hj)]; rfl
      rw [this]; exact Nat.zero_lt_succ _
  · rw [dval_map, dval_nv p, h.len, show (18 : Nat) = 9 + 9 from rfl, nv_split]
    have e1 : nv (fun j => (cutF p 9 j).toNat) 9 = nv (fun j => (at64 p j).toNat) 9 := nv_congr _ _ 9 (fun j hj => by unfold cutF; rw [if_pos hj])
    have e2 : dval p = nv (fun j => (at64 p j).toNat) 9 + 65536 ^ 9 * nv (fun j => (at64 p (9 + j)).toNat) 9 := by rw [dval_nv p, h.len, show (18 : Nat) = 9 + 9 from rfl, nv_split]
    rw [e1]
    generalize nv (fun j => (at64 p (9 + j)).toNat) 9 = z at *
    rcases Nat.eq_zero_or_pos z with hz | hz
    · rw [hz, Nat.mul_zero, Nat.add_zero]
    · have : 65536 ^ 9 * 1 ≤ 65536 ^ 9 * z := Nat.mul_le_mul_left _ hz
      omega
def foldT : Nat → Nat → Nat
  | 0, x => x
  | t + 1, x => foldN (foldT t x)
theorem foldT_lt (x : Nat) (h : x < 2 ^ 260) : foldT 2 x < 2 ^ 131 := by
  simp only [foldT]
  unfold foldN
  omega
theorem foldT_mod (x : Nat) : foldT 2 x % Q = x % Q := by
  simp only [foldT]
  rw [foldN_mod, foldN_mod]
def Bt : Nat → Nat
  | 0 => 1236950581248
  | t + 1 => 3 * Bt t + 1000000
theorem Bt_le (t : Nat) (h : t ≤ 2) : Bt t ≤ 1152921504606846976 := by
  rcases (show t = 0 ∨ t = 1 ∨ t = 2 by omega) with rfl | rfl | rfl <;> decide
end Cha
end Go.Proofs.Ytbcboldepghgpaa

namespace Go.Proofs.Ytbcboldepghgpaa
namespace Cha
theorem nv_digit (f : Nat → Nat) : ∀ (n i : Nat), i < n → (∀ j, j < n → f j < 65536) → nv f n / 65536 ^ i % 65536 = f i
  | 0, i, h, _ => absurd h (Nat.not_lt_zero _)
  | n + 1, i, h, hf => by
    have hn := hf n (by omega)
    have hlt := nv_lt f n (fun j hj => hf j (by omega))
    rw [nv]
    by_cases e : i = n
    · subst e
      rw [Nat.add_mul_div_left _ _ (Nat.pow_pos (by decide)), Nat.div_eq_of_lt hlt, Nat.zero_add, Nat.mod_eq_of_lt hn]
    · have ih := nv_digit f n i (by omega) (fun j hj => hf j (by omega))
      have e1 : 65536 ^ n = 65536 ^ i * (65536 * 65536 ^ (n - i - 1)) := by
        rw [← Nat.pow_succ', ← Nat.pow_add]; congr 1; omega
      rw [e1, Nat.mul_assoc, Nat.add_mul_div_left _ _ (Nat.pow_pos (by decide)), Nat.mul_assoc, Nat.add_mul_mod_self_left, ih]
section
variable {a b : List UInt64} {v u : Nat}
theorem Nine.digit (h : Nine a v) (i : Nat) (hi : i < 9) : v / 65536 ^ i % 65536 = (at64 a i).toNat := by
  rw [← h.val, dval_nv, h.len]
  exact nv_digit _ 9 i hi (fun j _ => h.low j)
theorem Nine.lt (h : Nine a v) : v < 65536 ^ 9 := by
  rw [← h.val, dval_nv, h.len]
  exact nv_lt _ 9 (fun j _ => h.low j)
def cF (a : List UInt64) : Nat → UInt64
  | 0 => 5
  | i + 1 => (at64 a i + cF a i) >>> 16
def bF (a : List UInt64) (m j : Nat) : UInt64 := if j < m then (at64 a j + cF a j) &&& 65535 else 0
theorem shr16_toNat (x : UInt64) : (x >>> 16).toNat = x.toNat / 65536 := by
  rw [UInt64.toNat_shiftRight]
  simp [Nat.shiftRight_eq_div_pow]
theorem cF_le (h : Nine a v) : ∀ i, (cF a i).toNat ≤ 5
  | 0 => Nat.le_refl _
  | i + 1 => by
    have ih := cF_le h i
    have hl := h.low i
    rw [cF, shr16_toNat, UInt64.toNat_add]
    omega
theorem dsum_nat (h : Nine a v) (i : Nat) : (at64 a i + cF a i).toNat = (at64 a i).toNat + (cF a i).toNat := by
  have ih := cF_le h i
  have hl := h.low i
  rw [UInt64.toNat_add]; exact Nat.mod_eq_of_lt (by omega)
theorem plus_nv (h : Nine a v) : ∀ m, nv (fun j => ((at64 a j + cF a j) &&& 65535).toNat) m + 65536 ^ m * (cF a m).toNat = nv (fun j => (at64 a j).toNat) m + 5
  | 0 => by simp [nv, cF]
  | m + 1 => by
    have ih := plus_nv h m
    have s := dsum_nat h m
    rw [nv, nv, and16_nat, cF, shr16_toNat, s, Nat.pow_succ, Nat.mul_assoc]
    have e : 65536 ^ m * (((at64 a m).toNat + (cF a m).toNat) % 65536) + 65536 ^ m * (65536 * (((at64 a m).toNat + (cF a m).toNat) / 65536)) = 65536 ^ m * (at64 a m).toNat + 65536 ^ m * (cF a m).toNat := by
      rw [← Nat.mul_add, Nat.mod_add_div, Nat.mul_add]
    omega
theorem b_start (a : List UInt64) : (List.range 9).map (bF a 0) = List.replicate 9 0 := by
  have h : (List.range 9).map (bF a 0) = (List.range 9).map fun _ => (0 : UInt64) := List.map_congr_left (fun j _ => by unfold bF; rw [if_neg (Nat.not_lt_zero _)])
  rw [h, List.map_const', List.length_range]
theorem b_set (a : List UInt64) (m : Nat) : ((List.range 9).map (bF a m)).set m ((at64 a m + cF a m) &&& 65535) = (List.range 9).map (bF a (m + 1)) := by
  apply map_set64
  · unfold bF; rw [if_pos (by omega)]
  · intro j _ h
    unfold bF
    by_cases e : j < m
    · rw [if_pos e, if_pos (by omega)]
    · rw [if_neg e, if_neg (by omega)]
theorem Nine.plus (h : Nine a v) (hv : v + 5 < 65536 ^ 9) : cF a 9 = 0 ∧ Nine ((List.range 9).map (bF a 9)) (v + 5) := by
  have p := plus_nv h 9
  have e : v = nv (fun j => (at64 a j).toNat) 9 := by rw [← h.val, dval_nv, h.len]
  rw [← e] at p
  have hc : (cF a 9).toNat = 0 := by
    rcases Nat.eq_zero_or_pos (cF a 9).toNat with z | z
    · exact z
    · have : 65536 ^ 9 * 1 ≤ 65536 ^ 9 * (cF a 9).toNat := Nat.mul_le_mul_left _ z
      omega
  refine ⟨UInt64.toNat_inj.1 hc, by simp, fun j => ?_, ?_⟩
  · by_cases hj : j < 9
    · rw [at64_map _ _ _ hj]
      unfold bF
      rw [if_pos hj, and16_nat]; omega
    · have : at64 ((List.range 9).map (bF a 9)) j = 0 := by
        unfold at64
        rw [List.getD_eq_getElem?_getD, List.getElem?_eq_none (by simpa using hj)]; rfl
      rw [this]; exact Nat.zero_lt_succ _
  · rw [dval_map, nv_congr (fun j => (bF a 9 j).toNat) (fun j => ((at64 a j + cF a j) &&& 65535).toNat) 9 (fun j hj => by unfold bF; rw [if_pos hj])]
    rw [hc] at p
    omega
theorem Nine.top (h : Nine b u) : (at64 b 8).toNat = u / 65536 ^ 8 := by
  rw [← h.digit 8 (by decide)]
  have := h.lt
  have e : 65536 ^ 9 = 65536 ^ 8 * 65536 := by decide
  exact Nat.mod_eq_of_lt (Nat.div_lt_of_lt_mul (by omega))
theorem Nine.sub4 (h : Nine b u) (hu : 2 ^ 130 ≤ u) : Nine (b.set 8 (at64 b 8 - 4)) (u - 2 ^ 130) := by
  have ht := h.top
  have hl := h.len
  have e8 : (65536 : Nat) ^ 8 = 340282366920938463463374607431768211456 := by decide
  have h4 : 4 ≤ (at64 b 8).toNat := by rw [ht, e8]; omega
  have e : (at64 b 8 - 4).toNat = (at64 b 8).toNat - 4 := UInt64.toNat_sub_of_le _ 4 (UInt64.le_iff_toNat_le.2 h4)
  refine ⟨by rw [List.length_set, hl], fun j => ?_, ?_⟩
  · rw [at64_set _ _ _ _ (by omega)]
    split
    · rw [e]; have := h.low 8; omega
    · exact h.low j
  · have s := dval_set b 8 (at64 b 8 - 4) (by omega)
    rw [h.val, e, e8] at s
    omega
end
/-! the key's digits -/
theorem shl_byte (c : UInt8) (i : Nat) : (shl64 c.toUInt64 (8 * (i % 2))).toNat = 256 ^ (i % 2) * c.toNat := by
  have hc := c.toNat_lt
  unfold shl64
  rw [UInt64.toNat_ofNat', UInt8.toNat_toUInt64]
  rcases (show i % 2 = 0 ∨ i % 2 = 1 by omega) with e | e <;> rw [e] <;> simp <;> omega
theorem pow_half (i : Nat) : 65536 ^ (i / 2) * 256 ^ (i % 2) = 256 ^ i := by
  rw [show (65536 : Nat) = 256 ^ 2 from rfl, ← Nat.pow_mul, ← Nat.pow_add]
  congr 1; omega
structure RInv (key : List UInt8) (i : Nat) (r : List UInt64) : Prop where
  len : r.length = 8
  val : dval r = leb ((clamp key).take i)
  small : ∀ j, (at64 r j).toNat < if 2 * j + 2 ≤ i then 65536 else if 2 * j + 1 ≤ i then 256 else 1
theorem at64_zeros (n j : Nat) : at64 (List.replicate n 0) j = 0 := by
  unfold at64
  rw [List.getD_eq_getElem?_getD, List.getElem?_replicate]
  split <;> rfl
theorem RInv.start (key : List UInt8) : RInv key 0 (List.replicate 8 0) :=
  ⟨List.length_replicate .., by rw [dval_noughts]; rfl, fun j => by
    rw [at64_zeros, if_neg (by omega), if_neg (by omega)]; exact Nat.zero_lt_one⟩
theorem RInv.step {key : List UInt8} {i : Nat} {r : List UInt64} (h : RInv key i r) (hi : i < 16) : RInv key (i + 1) (r.set (i / 2) (at64 r (i / 2) ||| shl64 (clampB i (nth key i)).toUInt64 (8 * (i % 2)))) := by
  have hl := h.len
  have hs := h.small (i / 2)
  have hc : (clampB i (nth key i)).toNat < 256 := UInt8.toNat_lt _
  have hb := shl_byte (clampB i (nth key i)) i
  have e : (at64 r (i / 2) ||| shl64 (clampB i (nth key i)).toUInt64 (8 * (i % 2))).toNat = (at64 r (i / 2)).toNat + 256 ^ (i % 2) * (clampB i (nth key i)).toNat := by
    rw [UInt64.toNat_or, hb]
    rcases (show i % 2 = 0 ∨ i % 2 = 1 by omega) with e | e
    · rw [if_neg (by omega), if_neg (by omega)] at hs
      rw [show (at64 r (i / 2)).toNat = 0 by omega, Nat.zero_or, Nat.zero_add]
    · rw [if_neg (by omega), if_pos (by omega)] at hs
      rw [e, Nat.or_comm, show (256 : Nat) ^ 1 = 2 ^ 8 from rfl, ← Nat.two_pow_add_eq_or_of_lt (by omega)]
      omega
  have hn : nth (clamp key) i = clampB i (nth key i) := by
    unfold clamp nth
    rw [List.getD_eq_getElem?_getD, List.getElem?_map, List.getElem?_range hi]
    rfl
  refine ⟨by rw [List.length_set, hl], ?_, fun j => ?_⟩
  · have s := dval_set r (i / 2) (at64 r (i / 2) ||| shl64 (clampB i (nth key i)).toUInt64 (8 * (i % 2))) (by omega)
    rw [e, h.val, Nat.mul_add, ← Nat.mul_assoc, pow_half] at s
    rw [leb_next, hn]
    omega
  · rw [at64_set _ _ _ _ (by omega)]
    by_cases ej : j = i / 2
    · rw [if_pos ej, e]
      subst ej
      rcases (show i % 2 = 0 ∨ i % 2 = 1 by omega) with e0 | e0
      · rw [if_neg (by omega), if_neg (by omega)] at hs
        rw [if_neg (by omega), if_pos (by omega), e0]
        omega
      · rw [if_neg (by omega), if_pos (by omega)] at hs
        rw [if_pos (by omega), e0]
        omega
    · rw [if_neg ej]
      have := h.small j
      split at this
      · rw [if_pos (by omega)]; exact this
      · rename_i h2
        by_cases h3 : 2 * j + 1 ≤ i
        · rw [if_pos h3] at this
          rw [if_neg (by omega), if_pos (by omega)]; exact this
        · rw [if_neg h3] at this
          rw [if_neg (by omega), if_neg (by omega)]; exact this
theorem RInv.done {key : List UInt8} {r : List UInt64} (h : RInv key 16 r) : dval r = leb (clamp key) ∧ ∀ j, (at64 r j).toNat ≤ 65536 :=
  ⟨by rw [h.val, List.take_of_length_le (by rw [clamp_len]; omega)], fun j => by
    have := h.small j
    split at this
    · omega
    · split at this <;> omega⟩
/-! a block's digits -/
structure AInv (v : Nat) (t : List UInt8) (i : Nat) (a : List UInt64) : Prop where
  len : a.length = 9
  val : dval a = v + leb (t.take i)
  small : ∀ j, (at64 a j).toNat ≤ 65535 + (if 2 * j + 2 ≤ i then 65535 else if 2 * j + 1 ≤ i then 255 else 0)
theorem AInv.start {a : List UInt64} {v : Nat} (h : Nine a v) (t : List UInt8) : AInv v t 0 a := ⟨h.len, by rw [h.val]; rfl, fun j => by have := h.low j; omega⟩
theorem AInv.step {v : Nat} {t : List UInt8} {i : Nat} {a : List UInt64} (h : AInv v t i a) (hi : i < 16) : AInv v t (i + 1) (a.set (i / 2) (at64 a (i / 2) + shl64 (nth t i).toUInt64 (8 * (i % 2)))) := by
  have hl := h.len
  have hs := h.small (i / 2)
  have hc : (nth t i).toNat < 256 := UInt8.toNat_lt _
  have hb := shl_byte (nth t i) i
  have hp : 256 ^ (i % 2) ≤ 256 := by rcases (show i % 2 = 0 ∨ i % 2 = 1 by omega) with e | e <;> rw [e] <;> decide
  have hm : 256 ^ (i % 2) * (nth t i).toNat ≤ 256 * 255 := Nat.mul_le_mul hp (by omega)
  have e : (at64 a (i / 2) + shl64 (nth t i).toUInt64 (8 * (i % 2))).toNat = (at64 a (i / 2)).toNat + 256 ^ (i % 2) * (nth t i).toNat := by
    rw [UInt64.toNat_add, hb]
    refine Nat.mod_eq_of_lt ?_
    split at hs
    · omega
    · split at hs <;> omega
  refine ⟨by rw [List.length_set, hl], ?_, fun j => ?_⟩
  · have s := dval_set a (i / 2) (at64 a (i / 2) + shl64 (nth t i).toUInt64 (8 * (i % 2))) (by omega)
    rw [e, h.val, Nat.mul_add, ← Nat.mul_assoc, pow_half] at s
    rw [leb_next]
    omega
  · rw [at64_set _ _ _ _ (by omega)]
    by_cases ej : j = i / 2
    · rw [if_pos ej, e]
      subst ej
      rcases (show i % 2 = 0 ∨ i % 2 = 1 by omega) with e0 | e0
      · rw [if_neg (by omega), if_neg (by omega)] at hs
        rw [if_neg (by omega), if_pos (by omega), e0]
        omega
      · rw [if_neg (by omega), if_pos (by omega)] at hs
        rw [if_pos (by omega), e0]
        omega
    · rw [if_neg ej]
      have := h.small j
      split at this
      · rw [if_pos (by omega)]; exact this
      · rename_i h2
        by_cases h3 : 2 * j + 1 ≤ i
        · rw [if_pos h3] at this
          rw [if_neg (by omega), if_pos (by omega)]; exact this
        · rw [if_neg h3] at this
          rw [if_neg (by omega), if_neg (by omega)]; exact this
theorem AInv.done {v : Nat} {t : List UInt8} {a : List UInt64} (h : AInv v t (min t.length 16) a) :
    (a.set (min t.length 16 / 2) (at64 a (min t.length 16 / 2) + shl64 1 (8 * (min t.length 16 % 2)))).length = 9 ∧ dval (a.set (min t.length 16 / 2) (at64 a (min t.length 16 / 2) + shl64 1 (8 * (min t.length 16 % 2)))) = v + blkN t ∧ ∀ j, (at64 (a.set (min t.length 16 / 2) (at64 a (min t.length 16 / 2) + shl64 1 (8 * (min t.length 16 % 2)))) j).toNat ≤ 262144 := by
  have hv := h.val
  have e0 : leb (t.take (min t.length 16)) = leb (t.take 16) := by
    rcases Nat.le_total t.length 16 with h1 | h1
    · rw [Nat.min_eq_left h1, List.take_of_length_le (Nat.le_refl _), List.take_of_length_le h1]
    · rw [Nat.min_eq_right h1]
  rw [e0] at hv
  have hl := h.len
  generalize hn : min t.length 16 = n at *
  have hn16 : n ≤ 16 := by omega
  have hb := shl_byte 1 n
  have hs := fun j => h.small j
  have hlt : ∀ j, (at64 a j).toNat ≤ 131070 := fun j => by
    have := hs j
    split at this
    · omega
    · split at this <;> omega
  have hp : 256 ^ (n % 2) ≤ 256 := by rcases (show n % 2 = 0 ∨ n % 2 = 1 by omega) with e | e <;> rw [e] <;> decide
  rw [show (1 : UInt8).toNat = 1 from rfl, Nat.mul_one, show (1 : UInt8).toUInt64 = 1 from rfl] at hb
  have e : (at64 a (n / 2) + shl64 1 (8 * (n % 2))).toNat = (at64 a (n / 2)).toNat + 256 ^ (n % 2) := by
    rw [UInt64.toNat_add, hb]
    have := hlt (n / 2)
    exact Nat.mod_eq_of_lt (by omega)
  refine ⟨by rw [List.length_set, hl], ?_, fun j => ?_⟩
  · have s := dval_set a (n / 2) (at64 a (n / 2) + shl64 1 (8 * (n % 2))) (by omega)
    rw [e, hv, Nat.mul_add, pow_half] at s
    unfold blkN
    rw [hn]
    omega
  · rw [at64_set _ _ _ _ (by omega)]
    split
    · rw [e]; have := hlt (n / 2); omega
    · have := hlt j; omega
/-! the sum's bytes -/
def carryN (A S i : Nat) : Nat := (A % 256 ^ i + S % 256 ^ i) / 256 ^ i
theorem carry_le1 (A S i : Nat) : carryN A S i ≤ 1 := by
  unfold carryN
  have h0 : 0 < 256 ^ i := Nat.pow_pos (by decide)
  have h1 := Nat.mod_lt A h0
  have h2 := Nat.mod_lt S h0
  exact Nat.le_of_lt_succ (Nat.div_lt_of_lt_mul (by omega))
theorem sum_byte (A S i : Nat) : (A + S) / 256 ^ i % 256 = (A / 256 ^ i % 256 + S / 256 ^ i % 256 + carryN A S i) % 256 := by
  unfold carryN
  have h0 : 0 < 256 ^ i := Nat.pow_pos (by decide)
  have e : A + S = 256 ^ i * (A / 256 ^ i + S / 256 ^ i) + (A % 256 ^ i + S % 256 ^ i) := by
    have h1 := Nat.div_add_mod A (256 ^ i)
    have h2 := Nat.div_add_mod S (256 ^ i)
    rw [Nat.mul_add]; omega
  rw [e, Nat.mul_add_div h0]
  omega
theorem carry_next (A S i : Nat) : carryN A S (i + 1) = (A / 256 ^ i % 256 + S / 256 ^ i % 256 + carryN A S i) / 256 := by
  unfold carryN
  have h0 : 0 < 256 ^ i := Nat.pow_pos (by decide)
  rw [Nat.pow_succ, Nat.mod_mul, Nat.mod_mul, ← Nat.div_div_eq_div_mul]
  congr 1
  rw [show A % 256 ^ i + 256 ^ i * (A / 256 ^ i % 256) + (S % 256 ^ i + 256 ^ i * (S / 256 ^ i % 256)) = 256 ^ i * (A / 256 ^ i % 256 + S / 256 ^ i % 256) + (A % 256 ^ i + S % 256 ^ i) by rw [Nat.mul_add]; omega, Nat.mul_add_div h0]
theorem Nine.byte {a : List UInt64} {A : Nat} (h : Nine a A) (i : Nat) (hi : i < 16) : ((shr64 (at64 a (i / 2)) (8 * (i % 2))) &&& 255).toNat = A / 256 ^ i % 256 := by
  have hd := h.digit (i / 2) (by omega)
  have hl := h.low (i / 2)
  rw [UInt64.toNat_and, show (255 : UInt64).toNat = 2 ^ 8 - 1 from rfl, Nat.and_two_pow_sub_one_eq_mod]
  unfold shr64
  rw [UInt64.toNat_ofNat', ← hd, ← pow_half, ← Nat.div_div_eq_div_mul]
  generalize A / 65536 ^ (i / 2) = z
  rcases (show i % 2 = 0 ∨ i % 2 = 1 by omega) with e | e <;> rw [e] <;> simp <;> omega
end Cha
end Go.Proofs.Ytbcboldepghgpaa

namespace Go.Proofs.Ytbcboldepghgpaa
namespace Cha
theorem leb_clamp_lt (key : List UInt8) (hk : key.length = 32) : leb (clamp key) < 2 ^ 125 := by
  obtain ⟨h1, h2, h3⟩ := clamp_val key hk
  omega
theorem blkN_lt (t : List UInt8) : blkN t ≤ 2 ^ 129 := by
  have h1 := leb_lt (t.take 16)
  have h2 : 256 ^ (t.take 16).length ≤ 256 ^ 16 := Nat.pow_le_pow_right (by decide) (by rw [List.length_take]; omega)
  have h3 : 256 ^ (min t.length 16) ≤ 256 ^ 16 := Nat.pow_le_pow_right (by decide) (by omega)
  have e : (256 : Nat) ^ 16 = 2 ^ 128 := by decide
  unfold blkN
  omega
/-- What Poly's loop keeps: the program's sum so far, the reference's number. -/
structure Eqv (key text : List UInt8) (F v : Nat) (p : P3) : Prop where
  feed : feed (low (words key 8)) (high (words key 8)) text ⟨0, 0, 0⟩ = feed (low (words key 8)) (high (words key 8)) (text.drop F) p
  small : p.val < 2 ^ 130 + 2 ^ 128
  mod : v % Q = p.val % Q
  lt : v < 2 ^ 131
theorem Eqv.start (key text : List UInt8) : Eqv key text 0 0 ⟨0, 0, 0⟩ := ⟨rfl, by decide, rfl, by decide⟩
theorem Eqv.mul (key t : List UInt8) (hk : key.length = 32) (v : Nat) (hv : v < 2 ^ 131) : (v + blkN t) * leb (clamp key) < 2 ^ 260 := by
  have h1 := leb_clamp_lt key hk
  have h2 := blkN_lt t
  have h3 : (v + blkN t) * leb (clamp key) ≤ (2 ^ 131 + 2 ^ 129) * 2 ^ 125 := Nat.mul_le_mul (by omega) (by omega)
  have h4 : (2 ^ 131 + 2 ^ 129) * 2 ^ 125 < 2 ^ 132 * 2 ^ 125 := Nat.mul_lt_mul_of_pos_right (by decide) (by decide)
  rw [← Nat.pow_add] at h4
  have h5 : ∀ m k : Nat, m ≤ k → 2 ^ m ≤ 2 ^ k := fun m k h => Nat.pow_le_pow_right (by decide) h
  have h6 := h5 (132 + 125) 260 (by decide)
  generalize (2 : Nat) ^ (132 + 125) = X at *
  generalize (2 : Nat) ^ 260 = Y at *
  omega
theorem Eqv.step {key text : List UInt8} {F v : Nat} {p : P3} (h : Eqv key text F v p) (hk : key.length = 32) (hF : F < text.length) : ∃ p', Eqv key text (F + 16) (foldT 2 ((v + blkN (text.drop F)) * leb (clamp key))) p' := by
  obtain ⟨h1, h2, h3⟩ := clamp_val key hk
  have ha := absorb_val (low (words key 8)) (high (words key 8)) (text.drop F) p h.small h2 h3
  refine ⟨absorb (low (words key 8)) (high (words key 8)) (text.drop F) p, ?_, ha.2, ?_, foldT_lt _ (Eqv.mul key _ hk v h.lt)⟩
  · rw [h.feed, feed_step _ _ _ _ (fun e => by have := congrArg List.length e; rw [List.length_drop] at this; simp at this; omega), List.drop_drop]
  · rw [foldT_mod, ha.1, foldN_mod, h1, Nat.mul_mod, Nat.add_mod, h.mod, ← Nat.add_mod, ← Nat.mul_mod]
theorem Eqv.done {key text : List UInt8} {F v : Nat} {p : P3} (h : Eqv key text F v p) (hk : key.length = 32) (hF : text.length ≤ F) (i : Nat) (hi : i < 16) : (nth (poly key text) i).toNat = (v % Q + leb (key.drop 16)) / 256 ^ i % 256 := by
  have hf := h.feed
  rw [List.drop_of_length_le hF, feed_nil] at hf
  have hl := less_twice p h.small
  have hQ : p.val % Q < Q := Nat.mod_lt _ (by decide)
  have hq : Q = 1361129467683753853853498429727072845819 := rfl
  have hc : (less (less p)).c.toNat ≤ 7 := by
    have : 340282366920938463463374607431768211456 * (less (less p)).c.toNat ≤ (less (less p)).val := by unfold P3.val; omega
    omega
  have e4 := two_words key 8 4 (by decide) (by omega)
  have e6 := two_words key 8 6 (by decide) (by omega)
  have s1 := leb_split (key.drop 16) 8 (by rw [List.length_drop]; omega)
  have s2 : leb ((key.drop 24).take 8) = leb ((key.drop 16).drop 8) := by
    rw [List.drop_drop, List.take_of_length_le (by rw [List.length_drop]; omega)]
  have hv : (sum (words key 8) text).val = v % Q + leb (key.drop 16) := by
    unfold sum
    rw [hf, P3.plus_val _ _ _ _ (by simp; omega), hl, e4, e6, ← h.mod, s1]
    rw [show 4 * 4 = 16 from rfl, show 4 * 6 = 24 from rfl, s2, show (0 : UInt64).toNat = 0 from rfl, show 256 ^ 8 = 18446744073709551616 from rfl]
    omega
  unfold poly
  rw [out_nth _ i hi, hv]
theorem key_byte (key : List UInt8) (i : Nat) : leb (key.drop 16) / 256 ^ i % 256 = (nth key (16 + i)).toNat := by
  rw [leb_byte]
  unfold nth
  rw [List.getD_eq_getElem?_getD, List.getD_eq_getElem?_getD, List.getElem?_drop]
def outF (pl : List UInt8) (i : Nat) : List UInt8 := (List.range 16).map fun k => if k < i then nth pl k else 0
theorem outF_len (pl : List UInt8) (i : Nat) : (outF pl i).length = 16 := by simp [outF]
theorem outF_none (pl : List UInt8) : outF pl 0 = List.replicate 16 0 := by
  have h : outF pl 0 = (List.range 16).map fun _ => (0 : UInt8) := by
    unfold outF
    apply List.map_congr_left
    intro j _
    rw [if_neg (Nat.not_lt_zero _)]
  rw [h, List.map_const', List.length_range]
theorem outF_all (pl : List UInt8) (hl : pl.length = 16) : outF pl 16 = pl := by
  unfold outF
  apply List.ext_getElem
  · simp [hl]
  · intro j h1 h2
    have hj : j < 16 := by simpa using h1
    rw [List.getElem_map, List.getElem_range, if_pos hj]
    simp [nth, List.getD_eq_getElem?_getD, List.getElem?_eq_getElem h2]
theorem outF_next (pl : List UInt8) (i : Nat) : (outF pl i).set i (nth pl i) = outF pl (i + 1) := by
  unfold outF
  apply List.ext_getElem
  · simp
  · intro j h1 h2
    have hj : j < 16 := by simpa using h2
    rw [List.getElem_set, List.getElem_map, List.getElem_map, List.getElem_range]
    by_cases e : i = j
    · subst e; rw [if_pos rfl, if_pos (Nat.lt_succ_self _)]
    · rw [if_neg e]
      by_cases e2 : j < i
      · rw [if_pos e2, if_pos (by omega)]
      · rw [if_neg e2, if_neg (by omega)]
/-- A byte of the sum, with what is carried. -/
theorem byte_step {a : List UInt64} {A : Nat} (h : Nine a A) (key : List UInt8) (i : Nat) (hi : i < 16) (c : UInt64) (hc : c.toNat = carryN A (leb (key.drop 16)) i) :
    (((shr64 (at64 a (i / 2)) (8 * (i % 2)) &&& 255) + (nth key (16 + i)).toUInt64 + c)).toNat = A / 256 ^ i % 256 + leb (key.drop 16) / 256 ^ i % 256 + carryN A (leb (key.drop 16)) i := by
  have h1 := h.byte i hi
  have h2 := key_byte key i
  have h3 := carry_le1 A (leb (key.drop 16)) i
  have h4 : A / 256 ^ i % 256 < 256 := Nat.mod_lt _ (by decide)
  have h5 : leb (key.drop 16) / 256 ^ i % 256 < 256 := Nat.mod_lt _ (by decide)
  rw [UInt64.toNat_add, UInt64.toNat_add, h1, UInt8.toNat_toUInt64, ← h2, hc]
  omega
theorem byte_done {A S i : Nat} (x : UInt64) (b : UInt8) (hx : x.toNat = A / 256 ^ i % 256 + S / 256 ^ i % 256 + carryN A S i) (hb : b.toNat = (A + S) / 256 ^ i % 256) : x.toUInt8 = b ∧ (x >>> 8).toNat = carryN A S (i + 1) := by
  constructor
  · apply UInt8.toNat_inj.1
    rw [UInt64.toNat_toUInt8, hx, hb, sum_byte]
  · rw [UInt64.toNat_shiftRight, carry_next, hx]
    simp [Nat.shiftRight_eq_div_pow]
end Cha
end Go.Proofs.Ytbcboldepghgpaa

