/-
  The program's labels: counted, Expand, Derive.
-/
import Derived.Test.YtbcboldepghgpaaGreatDoorMacC
import Derived.Laws.IdiomStrings
set_option linter.unusedVariables false
set_option linter.unusedSimpArgs false
set_option maxRecDepth 100000
namespace Go.Proofs.YtbcboldepghgpaaGreatDoor
open Go.RowKit
namespace Sched
def byteOf (x : Int) : UInt8 := UInt8.ofBitVec (BitVec.ofInt 8 x)
def head6 : List UInt8 := [116, 108, 115, 49, 51, 32]
/-- How many, in a byte, and these. -/
def count (l : List UInt8) : List UInt8 := byteOf (l.length : Int) :: l
def info (n : Int) (lab ctx : List UInt8) : List UInt8 := [byteOf (n / 256), byteOf n] ++ count (head6 ++ lab) ++ count ctx
def refused (h : Int) (n : Int) (lab ctx : List UInt8) : Prop := Sha.size h = 0 ∨ n < 0 ∨ 255 * (Sha.size h : Int) < n ∨ 65535 < n ∨ 249 < lab.length ∨ 255 < ctx.length
instance (h : Int) (n : Int) (lab ctx : List UInt8) : Decidable (refused h n lab ctx) := by unfold refused; infer_instance
/-- A label's secret; how it is refused. -/
def expand (h : Int) (key lab ctx : List UInt8) (n : Int) : List UInt8 := if refused h n lab ctx then [] else Mac.expand h key (info n lab ctx) n.toNat
def err (h : Int) (lab ctx : List UInt8) (n : Int) : Int := if refused h n lab ctx then 191 else 0
end Sched
theorem mod8 (x : Int) : x % 256 = ((n8 (Sched.byteOf x) : Nat) : Int) := by
  have h := wrap_n8 x
  unfold Sched.byteOf
  simpa [IntKind.wrap, IntKind.bits, IntKind.signed] using h
theorem reads_away {w w' : World} {B n : Nat} {A : Option Addr} {l : List UInt8} {row : Option Nat} (h : ReadsB w B A n l) (hg : w.grownBy w' row) (hB : B ≤ w.heap.size) (hne : 0 < n → ∀ ad, A = some ad → row ≠ some ad.block) : ReadsB w' B A n l :=
  ⟨h.len, h.is.1, fun hn => by
    obtain ⟨ad, e, hb, hc⟩ := h.is.2 hn
    exact ⟨ad, e, hb, fun j u hu => by rw [← hc j u hu]; exact World.cell?_of_block (hg.block _ (by rw [block_of_add]; omega) (by rw [block_of_add]; exact fun e' => hne hn ad e e'.symm))⟩⟩
theorem own_away {w w' : World} {B k : Nat} {v : Value} {l ctx : List UInt8} {D : Option Addr} (ho : OwnB w B v l) (hr : ReadsB w' B D k ctx) : 0 < k → ∀ ad, D = some ad → Value.ownBlock v ≠ some ad.block := fun h0 ad e => by
  obtain ⟨a2, e2, hb2, _⟩ := hr.is.2 h0
  rw [e2] at e; injection e with e; subst e
  rcases ho.size with e | ⟨g, e, hg, _⟩
  · rw [e]; intro e; cases e
  · rw [e]; intro e; injection e; omega
theorem Sched.count_len (l : List UInt8) : (Sched.count l).length = l.length + 1 := rfl
theorem OwnB.lit2 {w : World} {B : Nat} (hB : B ≤ w.heap.size) (a b : UInt8) : OwnB (w.alloc (.cells #[.int .u8 ((n8 a : Nat) : Int), .int .u8 ((n8 b : Nat) : Int)] 5)) B (.slice (some ⟨w.heap.size, 0, none⟩) 2 2) [a, b] :=
  ⟨rfl, .inr ⟨w.heap.size, 2, _, rfl, hB, heap_alloc_new _ _, Nat.le_refl _, by unfold maxLen; omega, rfl, rfl⟩⟩
theorem run_ofStr (w : World) (l : List UInt8) : ∃ c w', (convert 9 25 (.string (str l))).run Tryz.prog w = .ok (.slice (some ⟨w.heap.size, 0, none⟩) l.length c) w' ∧ ReadsB w' w'.heap.size (some ⟨w.heap.size, 0, none⟩) l.length l ∧ Below w.heap.size w w' := by
  have h := run_bytes_of_string (P := Tryz.prog) w 9 25 5 (str l) Tryz.underlying9 Tryz.underlying25 Tryz.underlying5
  rw [str_size] at h
  refine ⟨_, _, h, ⟨rfl, by rw [List.length_map, Nat.mul_one], fun _ => ⟨_, rfl, ?_, fun j u hu => ?_⟩⟩, ?_⟩
  · show w.heap.size < (w.drew.heap.push _).size
    rw [Array.size_push]; exact Nat.lt_succ_self _
  · have hj : j < l.length := by
      rcases Nat.lt_or_ge j l.length with h | h
      · exact h
      · rw [List.getElem?_eq_none (by rw [List.length_map]; exact h)] at hu; cases hu
    have e : (Addr.mk w.heap.size 0 none).add j = ⟨w.heap.size, j, none⟩ := by unfold Addr.add; split <;> simp_all
    rw [e]
    have h2 := World.cell?_alloc_mark w.drew (bytesRow (str l) (grownCap w l.length 0 5)) 5 ((bytesRow (str l) (grownCap w l.length 0 5)).size, (bytesRow (str l) (grownCap w l.length 0 5)).size + 1) j
    refine h2.trans ?_
    rw [bytesRow_at _ _ j (by simpa [str] using hj), ← hu]
    simp [str, n8, hj]
  · exact (Below.refl _ _).drew.alloc (Nat.le_refl _) _
/-- counted. -/
theorem counted_any (B : Nat) (v : Value) (l : List UInt8) (A : Option Addr) (m c : Nat) (b : List UInt8) (w : World) (hown : OwnB w B v l) (hB : B ≤ w.heap.size) (hr : ReadsB w w.heap.size A m b) (hne : 0 < m → ∀ ad, A = some ad → v.ownBlock ≠ some ad.block) (hlen : l.length + 1 + m ≤ 140737488355328) :
    Calls Tryz.prog 44 #[v, .slice A m c] w fun e w' => ∃ v', e = .returned v' ∧ OwnB w' B v' (l ++ Sched.count b) ∧ Below B w w' := by
  obtain ⟨x, Hx⟩ : ∃ x, Hd (Sched.byteOf (m : Int) = x) := ⟨_, ⟨rfl⟩⟩
  have hx : (m : Int) % 256 = ((n8 x : Nat) : Int) := by rw [← Hx.out]; exact mod8 _
  have Hm := hd hr.len
  have own1 := hown.alloc (.cells #[.int .u8 ((n8 x : Nat) : Int)] 5)
  have hr1 := ReadsB.one w x
  have hra : ReadsB (w.alloc (.cells #[.int .u8 ((n8 x : Nat) : Int)] 5)) w.heap.size A m b := ⟨hr.len, hr.is.alloc (Nat.le_refl _) _⟩
  have hBa : B ≤ (w.alloc (.cells #[.int .u8 ((n8 x : Nat) : Int)] 5)).heap.size := by rw [alloc_size]; omega
  have hBw := (Below.refl B w).alloc hB (.cells #[.int .u8 ((n8 x : Nat) : Int)] 5)
  have hcl : l.length + [x].length ≤ 140737488355328 := by simp; omega
  have hcl2 : (l ++ [x]).length + b.length ≤ 140737488355328 := by rw [List.length_append, Hm.out]; simp; omega
  go_enter Tryz.func44, Tryz.ntmps44
  go_wp2_with (first | (at_builtin; refine wpl_appendB rfl _ _ rfl B v1 (l ++ [x]) rfl own2 w.heap.size A m c b rfl hrb hcl2 hB1 ?_; intro v2 w2 own3 gr2 at2) | (at_builtin; refine wpl_appendB rfl _ _ rfl B v l rfl own1 (w.heap.size + 1) _ 1 1 [x] rfl hr1 hcl hBa ?_; intro v1 w1 own2 gr1 at1; have hrb := reads_away hra gr1 (by rw [alloc_size]; omega) hne; have hB1 : B ≤ w1.heap.size := Nat.le_trans hBa gr1.size; have hBw1 := below_appended hBw own1 gr1 (Nat.le_refl _) hBa))
  go_ret
  refine ⟨_, rfl, ?_, below_appended hBw1 own2 gr2 (Nat.le_refl _) hB1⟩
  rw [Sched.count, Hm.out, Hx.out, show l ++ x :: b = l ++ [x] ++ b by rw [List.append_assoc]; rfl]
  exact own3

set_option maxHeartbeats 4000000 in
/-- Expand, of any arguments. -/
theorem sexpand_any (h : Int) (A : Option Addr) (m c : Nat) (key : List UInt8) (lab : List UInt8) (D : Option Addr) (k d : Nat) (ctx : List UInt8) (n : Int) (w : World) (hr : ReadsB w w.heap.size A m key) (hm : m ≤ 140737488355000) (hi : ReadsB w w.heap.size D k ctx) (htb : Tabs w) :
    Calls Tryz.prog 30 #[.int .i64 h, .slice A m c, .string (str lab), .slice D k d, .int .i64 n] w fun e w' => ∃ v, e = .returned (.tuple #[v, .int .i64 (Sched.err h lab ctx n)]) ∧ OwnB w' w.heap.size v (Sched.expand h key lab ctx n) ∧ Below w.heap.size w w' := by
  have Hk := hd hi.len
  have hsz := str_size lab
  by_cases hbig : 65535 < n ∨ 249 < lab.length ∨ 255 < k
  · have hre : Sched.refused h n lab ctx := by unfold Sched.refused; rw [Hk.out]; omega
    have hE : Sched.err h lab ctx n = 191 := by unfold Sched.err; rw [if_pos hre]
    have hX : Sched.expand h key lab ctx n = [] := by unfold Sched.expand; rw [if_pos hre]
    rw [hE, hX]
    clear hE hX hre
    have fin : ∀ (e : Ending) (w' : World), e = .returned (.tuple #[.slice none 0 0, .int .i64 191]) ∧ w = w' → ∃ v, e = .returned (.tuple #[v, .int .i64 191]) ∧ OwnB w' w.heap.size v [] ∧ Below w.heap.size w w' := by
      rintro e w' ⟨rfl, rfl⟩
      exact ⟨_, rfl, OwnB.nil _ _, Below.refl _ _⟩
    refine Calls.mono ?_ fin
    by_cases h1 : 65535 < n
    · have b1 : decide (65535 < n) = true := decide_eq_true h1
      go_enter Tryz.func30, Tryz.ntmps30
      go_wp2
      go_ret2
      exact ⟨rfl, rfl⟩
    · have b1 : decide (65535 < n) = false := decide_eq_false h1
      by_cases h2 : 249 < lab.length
      · have b2 : decide ((249 : Int) < (lab.length : Int)) = true := decide_eq_true (by omega)
        go_enter Tryz.func30, Tryz.ntmps30
        go_wp2
        go_ret2
        exact ⟨rfl, rfl⟩
      · have b2 : decide ((249 : Int) < (lab.length : Int)) = false := decide_eq_false (by omega)
        have b3 : decide ((255 : Int) < (k : Int)) = true := decide_eq_true (by omega)
        go_enter Tryz.func30, Tryz.ntmps30
        go_wp2
        go_ret2
        exact ⟨rfl, rfl⟩
  · have b1 : decide (65535 < n) = false := decide_eq_false (by omega)
    have b2 : decide ((249 : Int) < (lab.length : Int)) = false := decide_eq_false (by omega)
    have b3 : decide ((255 : Int) < (k : Int)) = false := decide_eq_false (by omega)
    have hl : lab.length ≤ 249 := by omega
    have hk : k ≤ 255 := by omega
    by_cases hno : Sha.size h = 0 ∨ n < 0 ∨ 255 * (Sha.size h : Int) < n
    · have hre : Sched.refused h n lab ctx := by unfold Sched.refused; omega
      have hE : Sched.err h lab ctx n = 191 := by unfold Sched.err; rw [if_pos hre]
      have hX : Sched.expand h key lab ctx n = [] := by unfold Sched.expand; rw [if_pos hre]
      rw [hE, hX]
      clear hE hX hre
      have Hno := hd hno
      clear hno hbig
      obtain ⟨x1, Hx1⟩ : ∃ x, Hd (Sched.byteOf (n / 256) = x) := ⟨_, ⟨rfl⟩⟩
      obtain ⟨x2, Hx2⟩ : ∃ x, Hd (Sched.byteOf n = x) := ⟨_, ⟨rfl⟩⟩
      have hx1 : n / 256 % 256 = ((n8 x1 : Nat) : Int) := by rw [← Hx1.out]; exact mod8 _
      have hx2 : n % 256 = ((n8 x2 : Nat) : Int) := by rw [← Hx2.out]; exact mod8 _
      obtain ⟨L, HL⟩ : ∃ x, Hd (Sched.head6 ++ lab = x) := ⟨_, ⟨rfl⟩⟩
      have HLl := hd (show L.length = 6 + lab.length by rw [← HL.out, List.length_append]; rfl)
      have hst : (⟨#[116, 108, 115, 49, 51, 32]⟩ : ByteArray) ++ str lab = str L := by rw [← HL.out]; exact str_append Sched.head6 lab
      have own2 := OwnB.lit2 (w := w) (Nat.le_refl _) x1 x2
      have hBa := (Below.refl w.heap.size w).alloc (Nat.le_refl _) (.cells #[.int .u8 ((n8 x1 : Nat) : Int), .int .u8 ((n8 x2 : Nat) : Int)] 5)
      obtain ⟨c5, w5, hcv, hr5, hB5⟩ := run_ofStr (w.alloc (.cells #[.int .u8 ((n8 x1 : Nat) : Int), .int .u8 ((n8 x2 : Nat) : Int)] 5)) L
      rw [alloc_size] at hcv hr5
      have own5 := own2.later hB5
      have hBw5 := hBa.trans (hB5.mono hBa.size)
      have hne5 : 0 < L.length → ∀ ad, some (Addr.mk (w.heap.size + 1) 0 none) = some ad → Value.ownBlock (.slice (some ⟨w.heap.size, 0, none⟩) 2 2) ≠ some ad.block := fun _ ad e => by
        injection e with e; subst e
        show some w.heap.size ≠ some (w.heap.size + 1)
        intro e; injection e; omega
      obtain ⟨I, HI⟩ : ∃ x, Hd (Sched.info n lab ctx = x) := ⟨_, ⟨rfl⟩⟩
      have HIe := hd (show ([x1, x2] ++ Sched.count L) ++ Sched.count ctx = I by rw [← HI.out, Sched.info, Hx1.out, Hx2.out, HL.out])
      have HIl := hd (show I.length = 10 + lab.length + k by rw [← HIe.out, List.length_append, List.length_append, Sched.count_len, Sched.count_len, HLl.out, Hk.out]; show 2 + (6 + lab.length + 1) + (k + 1) = _; omega)
      have HJl := hd (show ([x1, x2] ++ Sched.count L).length = 9 + lab.length by rw [List.length_append, Sched.count_len, HLl.out]; show 2 + (6 + lab.length + 1) = _; omega)
      go_enter Tryz.func30, Tryz.ntmps30
      go_wp2_with (first | (go_at_call 45; refine (expand_no h _ _ n Hno.out w7).mono ?_; rintro e w8 ⟨rfl, rfl⟩) | (go_at_call 44; refine (counted_any w.heap.size v6 ([x1, x2] ++ Sched.count L) D k d ctx w6 own6 hBw6.size hi6 hne6 (by rw [HJl.out]; omega)).mono ?_; rintro e w7 ⟨v7, rfl, own7, hB7⟩; rw [HIe.out] at own7; obtain ⟨A7, c7, e7⟩ := own7.slice; rw [HIl.out] at e7; subst e7; have hBw7 := hBw6.trans hB7) | (go_at_call 44; refine (counted_any w.heap.size (.slice (some ⟨w.heap.size, 0, none⟩) 2 2) [x1, x2] (some ⟨w.heap.size + 1, 0, none⟩) L.length c5 L w5 own5 hBw5.size hr5 hne5 (by rw [HLl.out]; simp; omega)).mono ?_; rintro e w6 ⟨v6, rfl, own6, hB6⟩; have hBw6 := hBw5.trans hB6; have hi6 : ReadsB w6 w6.heap.size D k ctx := ⟨hi.len, (hi.is.below hBw6).more hBw6.size⟩; have hne6 := own_away own6 hi))
      go_ret2
      exact ⟨_, rfl, OwnB.nil _ _, hBw7⟩
    · have hre : ¬ Sched.refused h n lab ctx := by unfold Sched.refused; rw [Hk.out]; omega
      have hE : Sched.err h lab ctx n = 0 := by unfold Sched.err; rw [if_neg hre]
      have hX : Sched.expand h key lab ctx n = Mac.expand h key (Sched.info n lab ctx) n.toNat := by unfold Sched.expand; rw [if_neg hre]
      have hn0 : 0 ≤ n := by omega
      have hs : 0 < Sha.size h := by omega
      obtain ⟨n', rfl⟩ : ∃ n' : Nat, n = (n' : Int) := ⟨n.toNat, by omega⟩
      have hn' : n' ≤ 255 * Sha.size h := by omega
      have et : (n' : Int).toNat = n' := by omega
      rw [hE, hX, et]
      clear hE hX hre hno hbig
      obtain ⟨n, Hn⟩ : ∃ x : Int, Hd ((n' : Int) = x) := ⟨_, ⟨rfl⟩⟩
      rw [Hn.out] at b1 ⊢
      obtain ⟨x1, Hx1⟩ : ∃ x, Hd (Sched.byteOf (n / 256) = x) := ⟨_, ⟨rfl⟩⟩
      obtain ⟨x2, Hx2⟩ : ∃ x, Hd (Sched.byteOf n = x) := ⟨_, ⟨rfl⟩⟩
      have hx1 : n / 256 % 256 = ((n8 x1 : Nat) : Int) := by rw [← Hx1.out]; exact mod8 _
      have hx2 : n % 256 = ((n8 x2 : Nat) : Int) := by rw [← Hx2.out]; exact mod8 _
      obtain ⟨L, HL⟩ : ∃ x, Hd (Sched.head6 ++ lab = x) := ⟨_, ⟨rfl⟩⟩
      have HLl := hd (show L.length = 6 + lab.length by rw [← HL.out, List.length_append]; rfl)
      have hst : (⟨#[116, 108, 115, 49, 51, 32]⟩ : ByteArray) ++ str lab = str L := by rw [← HL.out]; exact str_append Sched.head6 lab
      have own2 := OwnB.lit2 (w := w) (Nat.le_refl _) x1 x2
      have hBa := (Below.refl w.heap.size w).alloc (Nat.le_refl _) (.cells #[.int .u8 ((n8 x1 : Nat) : Int), .int .u8 ((n8 x2 : Nat) : Int)] 5)
      obtain ⟨c5, w5, hcv, hr5, hB5⟩ := run_ofStr (w.alloc (.cells #[.int .u8 ((n8 x1 : Nat) : Int), .int .u8 ((n8 x2 : Nat) : Int)] 5)) L
      rw [alloc_size] at hcv hr5
      have own5 := own2.later hB5
      have hBw5 := hBa.trans (hB5.mono hBa.size)
      have hne5 : 0 < L.length → ∀ ad, some (Addr.mk (w.heap.size + 1) 0 none) = some ad → Value.ownBlock (.slice (some ⟨w.heap.size, 0, none⟩) 2 2) ≠ some ad.block := fun _ ad e => by
        injection e with e; subst e
        show some w.heap.size ≠ some (w.heap.size + 1)
        intro e; injection e; omega
      obtain ⟨I, HI⟩ : ∃ x, Hd (Sched.info n lab ctx = x) := ⟨_, ⟨rfl⟩⟩
      have HIe := hd (show ([x1, x2] ++ Sched.count L) ++ Sched.count ctx = I by rw [← HI.out, Sched.info, Hx1.out, Hx2.out, HL.out])
      have HIl := hd (show I.length = 10 + lab.length + k by rw [← HIe.out, List.length_append, List.length_append, Sched.count_len, Sched.count_len, HLl.out, Hk.out]; show 2 + (6 + lab.length + 1) + (k + 1) = _; omega)
      have HJl := hd (show ([x1, x2] ++ Sched.count L).length = 9 + lab.length by rw [List.length_append, Sched.count_len, HLl.out]; show 2 + (6 + lab.length + 1) = _; omega)
      rw [HI.out]
      go_enter Tryz.func30, Tryz.ntmps30
      go_wp2_with (first | (go_at_call 45; rw [← Hn.out]; refine (expand_any h A m c key A7 (10 + lab.length + k) c7 I n' w7 hs hn' ⟨hr.len, (hr.is.below hBw7).more hBw7.size⟩ hm ⟨HIl.out, own7.reads_any.2.is⟩ (by omega) (htb.below hBw7)).mono ?_; rintro e w8 ⟨v8, rfl, own8, hB8⟩) | (go_at_call 44; refine (counted_any w.heap.size v6 ([x1, x2] ++ Sched.count L) D k d ctx w6 own6 hBw6.size hi6 hne6 (by rw [HJl.out]; omega)).mono ?_; rintro e w7 ⟨v7, rfl, own7, hB7⟩; rw [HIe.out] at own7; obtain ⟨A7, c7, e7⟩ := own7.slice; rw [HIl.out] at e7; subst e7; have hBw7 := hBw6.trans hB7) | (go_at_call 44; refine (counted_any w.heap.size (.slice (some ⟨w.heap.size, 0, none⟩) 2 2) [x1, x2] (some ⟨w.heap.size + 1, 0, none⟩) L.length c5 L w5 own5 hBw5.size hr5 hne5 (by rw [HLl.out]; simp; omega)).mono ?_; rintro e w6 ⟨v6, rfl, own6, hB6⟩; have hBw6 := hBw5.trans hB6; have hi6 : ReadsB w6 w6.heap.size D k ctx := ⟨hi.len, (hi.is.below hBw6).more hBw6.size⟩; have hne6 := own_away own6 hi))
      go_ret2
      exact ⟨_, rfl, own8.low hBw7.size, hBw7.trans (hB8.mono hBw7.size)⟩
end Go.Proofs.YtbcboldepghgpaaGreatDoor
