/-
  AES, as the program and as the reference reckon it, in plain Lean: no program in sight.
-/
import Derived.Test.YtncaplplkfihgaaGreatDoorMem
set_option linter.unusedVariables false
set_option linter.unusedSimpArgs false
set_option maxRecDepth 100000
namespace Go.Proofs.YtncaplplkfihgaaGreatDoor
open Go.RowKit
namespace Aes
def twice (a : UInt8) : UInt8 := a <<< 1 ^^^ a >>> 7 * 0x1b
def rotl (a : UInt8) (n : Nat) : UInt8 := shl8 a n ||| shr8 a (8 - n)
def dbl (a : UInt8) : UInt8 := if a >>> 7 = 1 then a <<< 1 ^^^ 0x1b else a <<< 1
def boxQ (q : UInt8) : UInt8 :=
  let q1 := q ^^^ q <<< 1
  let q2 := q1 ^^^ q1 <<< 2
  let q3 := q2 ^^^ q2 <<< 4
  q3 ^^^ q3 >>> 7 * 9
def boxX (q : UInt8) : UInt8 := q ^^^ rotl q 1 ^^^ rotl q 2 ^^^ rotl q 3 ^^^ rotl q 4
def boxStep (_ : Nat) (s : List UInt8 × UInt8 × UInt8) : List UInt8 × UInt8 × UInt8 :=
  (s.1.set (n8 (s.2.1 ^^^ twice s.2.1)) (boxX (boxQ s.2.2) ^^^ 0x63), s.2.1 ^^^ twice s.2.1, boxQ s.2.2)
def boxRun (k : Nat) : List UInt8 × UInt8 × UInt8 := iter boxStep k (List.replicate 256 0, 1, 1)
def sbox : List UInt8 := (boxRun 255).1.set 0 0x63
theorem boxRun_len (k : Nat) : (boxRun k).1.length = 256 :=
  (iter_keeps boxStep (fun s => s.1.length) (fun k s => by simp [boxStep]) k _).trans List.length_replicate
-- the reference's
def timesStep (b : UInt8) (i : Nat) (s : UInt8 × UInt8) : UInt8 × UInt8 :=
  (if shr8 b i &&& 1 = 1 then s.1 ^^^ s.2 else s.1, if s.2 >>> 7 = 1 then s.2 <<< 1 ^^^ 0x1b else s.2 <<< 1)
def times (a b : UInt8) : UInt8 := (iter (timesStep b) 8 (0, a)).1
def refC (b : UInt8) (k : Nat) (c : UInt8) : UInt8 := if k < 7 then times (times c c) b else times c c
def refX (c : UInt8) : UInt8 := c ^^^ rotl c 1 ^^^ rotl c 2 ^^^ rotl c 3 ^^^ rotl c 4 ^^^ 0x63
def refBox (b : UInt8) : UInt8 := refX (iter (refC b) 8 1)
def boxesStep (k : Nat) (s : List UInt8) : List UInt8 := s.set k (refBox (UInt8.ofNat k))
def boxesRun (k : Nat) : List UInt8 := iter boxesStep k (List.replicate 256 0)
theorem boxesRun_len (k : Nat) : (boxesRun k).length = 256 :=
  (iter_keeps boxesStep (fun s => s.length) (fun k s => by simp [boxesStep]) k _).trans List.length_replicate
-- a block XOR a key
def xorStep (b : List UInt8) (k : Nat) (s : List UInt8) : List UInt8 := s.set k (nth s k ^^^ nth b k)
def xor16 (a b : List UInt8) : List UInt8 := iter (xorStep b) 16 a
theorem xorStep_len (b s : List UInt8) (k : Nat) : (iter (xorStep b) k s).length = s.length := iter_keeps _ _ (fun k s => by simp [xorStep]) k s
-- the columns mixed, in place
def mixRow (c : Nat) (x first : UInt8) (r : Nat) (b : List UInt8) : List UInt8 :=
  b.set (c + r) (nth b (c + r) ^^^ (x ^^^ twice (nth b (c + r) ^^^ (if r < 3 then nth b (c + r + 1) else first))))
def mixCol (j : Nat) (b : List UInt8) : List UInt8 :=
  iter (mixRow (4 * j) (nth b (4 * j) ^^^ nth b (4 * j + 1) ^^^ nth b (4 * j + 2) ^^^ nth b (4 * j + 3)) (nth b (4 * j))) 4 b
def mix (b : List UInt8) : List UInt8 := iter mixCol 4 b
theorem mixRow_len (c : Nat) (x f : UInt8) (k : Nat) (b : List UInt8) : (iter (mixRow c x f) k b).length = b.length := iter_keeps _ _ (fun k s => by simp [mixRow]) k b
theorem mixCol_len (k : Nat) (b : List UInt8) : (iter mixCol k b).length = b.length := iter_keeps _ _ (fun k s => mixRow_len _ _ _ _ _) k b
-- a block encrypted
def subStep (b : List UInt8) (k : Nat) (c : List UInt8) : List UInt8 := c.set k (nth sbox (n8 (nth b (5 * k % 16))))
def sub (b : List UInt8) : List UInt8 := iter (subStep b) 16 (List.replicate 16 0)
theorem subStep_len (b s : List UInt8) (k : Nat) : (iter (subStep b) k s).length = s.length := iter_keeps _ _ (fun k s => by simp [subStep]) k s
theorem sub_len (b : List UInt8) : (sub b).length = 16 := (subStep_len _ _ _).trans List.length_replicate
theorem mix_len (b : List UInt8) : (mix b).length = b.length := mixCol_len _ _
theorem xor16_len (a b : List UInt8) : (xor16 a b).length = a.length := xorStep_len _ _ _
def roundStep (rs : List (List UInt8)) (k : Nat) (b : List UInt8) : List UInt8 :=
  xor16 (if k + 1 < rs.length - 1 then mix (sub b) else sub b) (rs.getD (k + 1) [])
def encRun (rs : List (List UInt8)) (b : List UInt8) (k : Nat) : List UInt8 := iter (roundStep rs) k (xor16 b (rs.getD 0 []))
def enc (rs : List (List UInt8)) (b : List UInt8) : List UInt8 := encRun rs b (rs.length - 1)
theorem roundStep_len (rs : List (List UInt8)) (k : Nat) (b : List UInt8) : (roundStep rs k b).length = 16 := by
  unfold roundStep
  split <;> simp [xor16_len, mix_len, sub_len]
theorem encRun_zero (rs : List (List UInt8)) (b : List UInt8) : encRun rs b 0 = xor16 b (rs.getD 0 []) := by rw [encRun, iter]
theorem encRun_succ (rs : List (List UInt8)) (b : List UInt8) (k : Nat) : encRun rs b (k + 1) = roundStep rs k (encRun rs b k) := by rw [encRun, iter, encRun]
theorem encRun_len (rs : List (List UInt8)) (b : List UInt8) (hb : b.length = 16) (k : Nat) : (encRun rs b k).length = 16 := by
  cases k with
  | zero => rw [encRun_zero, xor16_len]; exact hb
  | succ k => rw [encRun_succ]; exact roundStep_len rs k _
theorem enc_len (rs : List (List UInt8)) (b : List UInt8) (hb : b.length = 16) : (enc rs b).length = 16 := encRun_len _ _ hb _
-- the round keys
def sb (x : UInt8) : UInt8 := nth sbox (n8 x)
def extStep (n : Nat) (t : List UInt8) (j : Nat) (al : List UInt8) : List UInt8 := al ++ [nth al (al.length - n) ^^^ nth t j]
def last4 (al : List UInt8) : List UInt8 := (al.drop (al.length - 4)).take 4
def sbStep (t0 : List UInt8) (j : Nat) (t : List UInt8) : List UInt8 := t.set j (sb (nth t0 j))
def keyT (n : Nat) (al : List UInt8) (one : UInt8) : List UInt8 :=
  if al.length % n = 0 then [sb (nth (last4 al) 1) ^^^ one, sb (nth (last4 al) 2), sb (nth (last4 al) 3), sb (nth (last4 al) 0)]
  else if n = 32 ∧ al.length % n = 16 then iter (sbStep (last4 al)) 4 (last4 al) else last4 al
def keyOne (n : Nat) (al : List UInt8) (one : UInt8) : UInt8 := if al.length % n = 0 then twice one else one
def keyStep (n : Nat) (_ : Nat) (s : List UInt8 × UInt8) : List UInt8 × UInt8 := (iter (extStep n (keyT n s.1 s.2)) 4 s.1, keyOne n s.1 s.2)
def keyRun (key : List UInt8) (k : Nat) : List UInt8 × UInt8 := iter (keyStep key.length) k (key, 1)
theorem ext_len (n : Nat) (t al : List UInt8) (k : Nat) : (iter (extStep n t) k al).length = al.length + k := by
  induction k with
  | zero => rfl
  | succ k ih => rw [iter, extStep, List.length_append, ih]; rfl
theorem keyRun_zero (key : List UInt8) : keyRun key 0 = (key, 1) := rfl
theorem keyRun_succ (key : List UInt8) (k : Nat) : keyRun key (k + 1) = keyStep key.length k (keyRun key k) := rfl
theorem keyRun_len (key : List UInt8) (k : Nat) : (keyRun key k).1.length = key.length + 4 * k := by
  induction k with
  | zero => rfl
  | succ k ih => rw [keyRun_succ, keyStep, ext_len, ih]; omega
theorem last4_len (al : List UInt8) (h : 4 ≤ al.length) : (last4 al).length = 4 := by
  rw [last4, List.length_take, List.length_drop]; omega
theorem sbStep_len (t0 t : List UInt8) (k : Nat) : (iter (sbStep t0) k t).length = t.length := iter_keeps _ _ (fun k s => by simp [sbStep]) k t
theorem keyT_len (n : Nat) (al : List UInt8) (one : UInt8) (h : 4 ≤ al.length) : (keyT n al one).length = 4 := by
  unfold keyT
  split
  · rfl
  · split
    · rw [sbStep_len, last4_len _ h]
    · exact last4_len _ h
def rounds (n : Nat) : Nat := if n = 16 then 40 else 52
def keyAll (key : List UInt8) : List UInt8 := (keyRun key (rounds key.length)).1
/-- A text in pieces of sixteen. -/
def pieces (al : List UInt8) (k : Nat) : List (List UInt8) := (List.range k).map fun i => (al.drop (16 * i)).take 16
theorem pieces_len (al : List UInt8) (k : Nat) : (pieces al k).length = k := by simp [pieces]
theorem pieces_get (al : List UInt8) (k i : Nat) (h : i < k) : (pieces al k).getD i [] = (al.drop (16 * i)).take 16 := by
  simp [pieces, h]
def keys (key : List UInt8) : List (List UInt8) := pieces (keyAll key) (if key.length = 16 then 11 else 15)
theorem mix_eq (b : List UInt8) : mix b = iter mixCol 4 b := rfl
theorem sub_eq (b : List UInt8) : sub b = iter (subStep b) 16 (List.replicate 16 0) := rfl
theorem xor16_eq (a b : List UInt8) : xor16 a b = iter (xorStep b) 16 a := rfl
theorem sbox_eq : sbox = (boxRun 255).1.set 0 0x63 := rfl
theorem boxRun_eq (k : Nat) : boxRun k = iter boxStep k (List.replicate 256 0, 1, 1) := rfl
theorem boxRun_succ (k : Nat) : boxRun (k + 1) = boxStep k (boxRun k) := rfl
theorem boxesRun_succ (k : Nat) : boxesRun (k + 1) = boxesStep k (boxesRun k) := rfl
theorem boxRun_zero : boxRun 0 = (List.replicate 256 0, 1, 1) := rfl
theorem boxesRun_zero : boxesRun 0 = List.replicate 256 0 := rfl
theorem times_eq (a b : UInt8) : times a b = (iter (timesStep b) 8 (0, a)).1 := rfl
theorem refBox_eq (b : UInt8) : refBox b = refX (iter (refC b) 8 1) := rfl
attribute [irreducible] keyT keyRun keyAll mix sub xor16 sbox boxRun boxesRun enc encRun times refBox
end Aes
end Go.Proofs.YtncaplplkfihgaaGreatDoor
