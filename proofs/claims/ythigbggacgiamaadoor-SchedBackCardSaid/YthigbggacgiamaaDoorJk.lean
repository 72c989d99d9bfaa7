/-
  A ticket's numbers: sched.number.
  A ticket's reader: take, number.
  A number read back out of its bytes.
  Two equal sessions: ref19.Same.
  A ticket's reader by what it still holds.
  The walks of what the library does with bytes: Clone, Grow, Concat.
  Laws for the operations of drawn regions, one at a time.
-/
import Derived.Test.YthigbggacgiamaaDoorJa
import Derived.WalkSpells
set_option linter.unusedVariables false
set_option linter.unusedSimpArgs false
set_option maxRecDepth 100000
namespace Go.Proofs.YthigbggacgiamaaDoor
open Go.RowKit
namespace Tk
/-- A byte of a number, counted from the low end. -/
def byteAt (x : UInt64) (i : Nat) : UInt8 := UInt8.ofNat (n64 x / 2 ^ (8 * i))
theorem byte_is (x : UInt64) (i : Nat) : ((n64 x : Nat) : Int) / 2 ^ (8 * i) % 256 = ((n8 (byteAt x i) : Nat) : Int) := by
  simp [n8, byteAt]
/-- A number's low bytes, the highest first. -/
def num (x : UInt64) : Nat → List UInt8
  | 0 => []
  | n + 1 => byteAt x n :: num x n
theorem num_len (x : UInt64) : ∀ n, (num x n).length = n
  | 0 => rfl
  | n + 1 => by simp [num, num_len x n]
end Tk
set_option maxHeartbeats 2000000 in
/-- number. -/
theorem number_any (n : Nat) (hn : n ≤ 8) (x : UInt64) (B : Nat) (v : Value) (l : List UInt8) (w : World) (hown : OwnB w B v l) (hB : B ≤ w.heap.size) (hlen : l.length + n ≤ 140737488355328) :
    Calls Tryd.prog 12 #[v, .int .i64 (n : Int), .int .u64 ((n64 x : Nat) : Int)] w fun e w' => ∃ v', e = .returned v' ∧ OwnB w' B v' (l ++ Tk.num x n) ∧ Below B w w' := by
  obtain ⟨r, Hr⟩ : ∃ r, Hd (l ++ Tk.num x n = r) := ⟨_, ⟨rfl⟩⟩
  rw [Hr.out]
  obtain ⟨L, HL⟩ : ∃ r, Hd (l.length + n = r) := ⟨_, ⟨rfl⟩⟩
  rw [HL.out] at hlen
  have en : IntKind.i64.wrap ((n : Int) - 1) = (n : Int) - 1 := IntWalk.i64_in _ (by omega)
  go_enter Tryd.func12, Tryd.ntmps12
  go_wp2
  go_loopw [0, 7] (fun u i wr => ∃ (k : Nat) (l' : List UInt8), k ≤ n ∧ i = .int .i64 ((k : Int) - 1) ∧ OwnB wr B u l' ∧ l' ++ Tk.num x k = r ∧ l'.length + k = L ∧ Below B w wr) (fun _ i _ => (intOf i + 1).toNat)
  case atStart => exact ⟨n, l, by omega, rfl, hown, Hr.out, HL.out, Below.refl _ _⟩
  case round =>
    obtain ⟨k, l', hk, rfl, own, hr, hl, hb⟩ := hrel
    cases k with
    | zero =>
      go_wp2
      rw [Tk.num, List.append_nil] at hr
      subst hr
      go_ret
      exact ⟨_, rfl, own, hb⟩
    | succ k =>
      have ei : ((k + 1 : Nat) : Int) - 1 = (k : Int) := by omega
      rw [ei]
      have e8 : IntKind.i64.wrap (8 * (k : Int)) = ((8 * k : Nat) : Int) := by
        rw [show 8 * (k : Int) = ((8 * k : Nat) : Int) by omega]; exact IntWalk.i64_in _ (by omega)
      have t1 : (0 : Int) ≤ (k : Int) := by omega
      have hx8 := Tk.byte_is x k
      obtain ⟨A2, c2, e2⟩ := own.slice
      subst e2
      have hone := ReadsB.one wr (Tk.byteAt x k)
      have own1 := own.alloc (.cells #[.int .u8 ((n8 (Tk.byteAt x k) : Nat) : Int)] 5)
      have hcl : l'.length + [Tk.byteAt x k].length ≤ 140737488355328 := by simp; omega
      have hBa : B ≤ (wr.alloc (.cells #[.int .u8 ((n8 (Tk.byteAt x k) : Nat) : Int)] 5)).heap.size := by rw [alloc_size]; exact Nat.le_trans hB (Nat.le_trans hb.size (Nat.le_succ _))
      have hB1 := hb.alloc (Nat.le_trans hB hb.size) (.cells #[.int .u8 ((n8 (Tk.byteAt x k) : Nat) : Int)] 5)
      go_wp2_with (first | (at_builtin; (try rw [Tk.byte_is]); refine wpl_appendB rfl _ _ rfl B (.slice A2 l'.length c2) l' rfl own1 (wr.heap.size + 1) _ 1 1 [Tk.byteAt x k] rfl hone hcl hBa ?_; intro v1 w1 own2 gr1 at1))
      have hB2 := below_appended hB1 own1 gr1 (Nat.le_refl _) hBa
      go_roundw
      case rel => exact ⟨k, l' ++ [Tk.byteAt x k], by omega, by go_num, own2, by rw [List.append_assoc]; exact hr, by simp; omega, hB2⟩
      case measure => simp [intOf]
end Go.Proofs.YthigbggacgiamaaDoor

namespace Go.Proofs.YthigbggacgiamaaDoor
open Go.RowKit
namespace Tk
/-- A reader's cells. -/
def rd (v : Value) : Array Value := #[v, .bool false]
theorem run_slice_full {P : Program} {w : World} {o : Oper} {ρ : Operand → Value} {t e : TypeId} {x y z : Operand} (ho : o.op = .slice t x none (some y) (some z)) (ht : P.underlying t = some (.slice e)) {m : Nat} (hs : (P.info? e).map (·.size) = some m) (D : Option Addr) (k d n : Nat)
    (hx : ρ x = .slice D k d) (hy : ρ y = .int .i64 (n : Int)) (hz : ρ z = .int .i64 (n : Int)) (hn : n ≤ d) : (execOp ρ o).run P w = .ok (.value (.slice D n n)) w := by
  have h2 : (n : Int) ≤ (d : Int) := by omega
  have h3 : (0 : Int) ≤ (n : Int) := by omega
  unfold execOp
  simp only [ho, hx, hy, hz]
  simp [go_sem, Instr.sliceAt, Instr.slice, Instr.sliceBounds, Instr.sliceBound, run_underlying ht, run_sizeOf hs, hy, hz, h2, h3, hn, asIntOf, Addr.add_zero']
end Tk
set_option maxHeartbeats 2000000 in
/-- take, of no more than there is. -/
theorem take_any (g : Nat) (A : Option Addr) (n c k : Nat) (l : List UInt8) (w : World) (hb : Blk w g 73 (Tk.rd (.slice A n c))) (hr : ReadsB w g A n l) (hk : k ≤ n) (hnc : n ≤ c) :
    Calls Tryd.prog 29 #[.pointer (some ⟨g, 0, none⟩), .int .i64 (k : Int)] w fun e w' => e = .returned (.slice A k k) ∧ ReadsB w' g A k (l.take k) ∧
      ∃ A' c', Blk w' g 73 (Tk.rd (.slice A' (n - k) c')) ∧ ReadsB w' g A' (n - k) (l.drop k) ∧ n - k ≤ c' ∧ w'.heap.size = w.heap.size ∧ (∀ B, B ≤ g → B ≤ w.heap.size → Below B w w') ∧ ∃ x, w' = w.setCell ⟨g, 0, none⟩ x := by
  obtain ⟨A', hA'⟩ : ∃ x, Hd ((if c = k then A else A.map (·.add k)) = x) := ⟨_, ⟨rfl⟩⟩
  have hrd := hr.drop hk hnc
  have hrt := hr.take hk
  rw [hA'.out] at hrd
  have hsl : ∀ (o : Oper) (ρ : Operand → Value) (x y : Operand) (W : World), o.op = .slice 30 x (some y) none none → ρ x = .slice A n c → ρ y = .int .i64 (k : Int) → (execOp ρ o).run Tryd.prog W = .ok (.value (.slice A' (n - k) (c - k))) W := by
    intro o ρ x y W ho hx hy
    rw [← hA'.out]
    exact run_slice_from ho Tryd.underlying30 u8_cell1 A n c k hx hy hk hnc
  have hgl := hb.lt
  have hk' : ¬ (n : Int) < (k : Int) := by omega
  have t0 : w.cell? ⟨g, 0, none⟩ = some (.slice A n c) := hb.cell 0
  have t1 : w.cell? ⟨g, 1, none⟩ = some (.bool false) := hb.cell 1
  have f0 := hb.frozen 0
  have f1 := hb.frozen 1
  go_enter Tryd.func29, Tryd.ntmps29
  go_wp2_with (first
    | (refine wpl_run (o := ⟨some 30, _, _, _, _, _⟩) (wanted_plain rfl) (.slice A k k) (Tk.run_slice_full (by rfl) Tryd.underlying30 u8_cell1 A n c k (by simp [Act.eval, Act.put]) (by simp [Act.eval, Act.put]) (by simp [Act.eval, Act.put]) (by omega)) ?_)
    | (refine wpl_run (o := ⟨some 37, _, _, _, _, _⟩) (wanted_plain rfl) (.slice A' (n - k) (c - k)) (hsl _ _ _ _ _ (by rfl) (by simp [Act.eval, Act.put]) (by simp [Act.eval, Act.put])) ?_))
  go_ret
  have hB : ∀ B, B ≤ g → B ≤ w.heap.size → Below B w (w.setCell ⟨g, 0, none⟩ (.slice A' (n - k) (c - k))) := fun B h1 h2 => (Below.refl B w).setCell (by simp; omega) _
  exact ⟨rfl, ⟨hrt.len, hrt.is.below (hB g (Nat.le_refl _) (by omega))⟩, A', c - k, hb.set_ 0 _, ⟨hrd.len, hrd.is.below (hB g (Nat.le_refl _) (by omega))⟩, by omega, by simp, hB, _, rfl⟩
namespace Tk
/-- A number out of its bytes, the highest first. -/
def val : UInt64 → List UInt8 → UInt64
  | v, [] => v
  | v, b :: l => val (v <<< 8 ||| b.toUInt64) l
theorem val_snoc (l : List UInt8) : ∀ (v : UInt64) (b : UInt8), val v (l ++ [b]) = val v l <<< 8 ||| b.toUInt64 := by
  induction l with
  | nil => intro v b; rfl
  | cons a l ih => intro v b; exact ih _ b
theorem val_more (l : List UInt8) (j : Nat) (h : j < l.length) : val 0 (l.take (j + 1)) = val 0 (l.take j) <<< 8 ||| (nth l j).toUInt64 := by
  rw [show l.take (j + 1) = l.take j ++ [nth l j] by
    rw [List.take_add_one, List.getElem?_eq_getElem h]; unfold nth; rw [List.getD_eq_getElem?_getD, List.getElem?_eq_getElem h]; rfl]
  exact val_snoc _ _ _
end Tk
set_option maxHeartbeats 2000000 in
/-- number, of no more bytes than there are. -/
theorem rnumber_any (g : Nat) (A : Option Addr) (n c k : Nat) (hk8 : k ≤ 8) (l : List UInt8) (w : World) (hb : Blk w g 73 (Tk.rd (.slice A n c))) (hr : ReadsB w g A n l) (hk : k ≤ n) (hnc : n ≤ c) :
    Calls Tryd.prog 27 #[.pointer (some ⟨g, 0, none⟩), .int .i64 (k : Int)] w fun e w' => e = .returned (.int .u64 ((n64 (Tk.val 0 (l.take k)) : Nat) : Int)) ∧
      ∃ A' c', Blk w' g 73 (Tk.rd (.slice A' (n - k) c')) ∧ ReadsB w' g A' (n - k) (l.drop k) ∧ n - k ≤ c' ∧ w'.heap.size = w.heap.size ∧ (∀ B, B ≤ g → B ≤ w.heap.size → Below B w w') ∧ ∃ x, w' = w.setCell ⟨g, 0, none⟩ x := by
  obtain ⟨t, Ht⟩ : ∃ x, Hd (l.take k = x) := ⟨_, ⟨rfl⟩⟩
  rw [Ht.out]
  have Hl := hd hr.len
  have Htl := hd (show t.length = k by rw [← Ht.out, List.length_take, Hl.out]; omega)
  go_enter Tryd.func27, Tryd.ntmps27
  go_wp2_with (first
    | (go_at_call 29; refine (take_any g A n c k l w hb hr hk hnc).mono ?_; rintro e w1 ⟨rfl, hrt, A', c', hb1, hrd, hc', hs, hB, hx⟩; rw [Ht.out] at hrt))
  go_loopw [5, 7, 12] (fun v _ i wr => ∃ j : Nat, j ≤ k ∧ i = .int .i64 (j : Int) ∧ v = .int .u64 ((n64 (Tk.val 0 (t.take j)) : Nat) : Int) ∧ wr = w1) (fun _ _ i _ => k - (intOf i).toNat)
  case atStart => exact ⟨0, by omega, rfl, rfl, rfl⟩
  case round =>
    obtain ⟨j, hj, rfl, rfl, rfl⟩ := hrel
    by_cases hlt : j < k
    · have t1 : (j : Int) < (k : Int) := by omega
      obtain ⟨ad, rfl, hab, hcell⟩ := hrt.cell hlt
      obtain ⟨v, Hv⟩ : ∃ x, Hd (Tk.val 0 (t.take j) = x) := ⟨_, ⟨rfl⟩⟩
      have Hn := hd (Tk.val_more t j (by rw [Htl.out]; exact hlt))
      rw [Hv.out] at Hn
      rw [Hv.out]
      go_wp2
      go_roundw
      case rel => exact ⟨j + 1, by omega, by go_num, by rw [Hn.out], by first | rfl | trivial⟩
      case measure => simp [intOf]; omega
    · have ej : j = k := by omega
      subst ej
      rw [List.take_of_length_le (by rw [Htl.out]; omega)]
      go_wp2
      go_ret
      exact ⟨rfl, A', c', hb1, hrd, hc', hs, hB, hx⟩
end Go.Proofs.YthigbggacgiamaaDoor

namespace Go.Proofs.YthigbggacgiamaaDoor
open Go.RowKit
namespace Tk
theorem step_nat (v : UInt64) (b : UInt8) : (v <<< 8 ||| b.toUInt64).toNat = (v.toNat % 72057594037927936) * 256 + b.toNat := by
  have hb : b.toNat < 256 := b.toNat_lt
  have hv : v.toNat < 18446744073709551616 := v.toNat_lt
  have e1 : (v <<< 8 : UInt64).toNat = (v.toNat % 72057594037927936) * 256 := by
    rw [UInt64.toNat_shiftLeft]
    simp [Nat.shiftLeft_eq]
    omega
  rw [UInt64.toNat_or, e1, UInt8.toNat_toUInt64]
  have h := Nat.shiftLeft_add_eq_or_of_lt (i := 8) hb (v.toNat % 72057594037927936)
  rw [Nat.shiftLeft_eq] at h
  exact h.symm
theorem byte_nat (x : UInt64) (i : Nat) : (byteAt x i).toNat = x.toNat / 2 ^ (8 * i) % 256 := by
  simp [byteAt, n64]
theorem val_nat (x : UInt64) : ∀ n, n ≤ 8 → ∀ v : UInt64, (val v (num x n)).toNat = (v.toNat % 2 ^ (64 - 8 * n)) * 2 ^ (8 * n) + x.toNat % 2 ^ (8 * n)
  | 0, _, v => by
    have hv : v.toNat < 18446744073709551616 := v.toNat_lt
    simp [num, val]; omega
  | n + 1, h, v => by
    have hv : v.toNat < 18446744073709551616 := v.toNat_lt
    have hx : x.toNat < 18446744073709551616 := x.toNat_lt
    have ih := val_nat x n (by omega) (v <<< 8 ||| (byteAt x n).toUInt64)
    rw [step_nat, byte_nat] at ih
    rw [num, val, ih]
    clear ih
    have hn : n = 0 ∨ n = 1 ∨ n = 2 ∨ n = 3 ∨ n = 4 ∨ n = 5 ∨ n = 6 ∨ n = 7 := by omega
    rcases hn with rfl | rfl | rfl | rfl | rfl | rfl | rfl | rfl <;> simp only [Nat.reduceMul, Nat.reduceAdd, Nat.reduceSub, Nat.reducePow] <;> omega
theorem val_num (x : UInt64) (n : Nat) (hn : n ≤ 8) (h : x.toNat < 2 ^ (8 * n)) : val 0 (num x n) = x := by
  apply UInt64.toNat_inj.1
  rw [val_nat x n hn 0]
  simp [Nat.mod_eq_of_lt h]
/-- What a ticket holds. -/
structure Ses where
  suite : UInt16
  secret : List UInt8
  host : List UInt8
  prot : List UInt8
  made : UInt64
  life : UInt32
  add : UInt32
def count (l : List UInt8) : List UInt8 := UInt8.ofNat l.length :: l
/-- A ticket's text. -/
def text (s : Ses) : List UInt8 := num s.suite.toUInt64 2 ++ count s.secret ++ count s.host ++ count s.prot ++ num s.made 8 ++ num s.life.toUInt64 4 ++ num s.add.toUInt64 4
theorem val_one (a : Nat) (h : a < 256) : (val 0 [UInt8.ofNat a]).toNat = a := by
  have := step_nat 0 (UInt8.ofNat a)
  simp only [val]
  rw [this]
  simp; omega
end Tk
end Go.Proofs.YthigbggacgiamaaDoor

namespace Go.Proofs.YthigbggacgiamaaDoor
open Go.RowKit
/-- A session's value. -/
def Tk.ses (A : Option Addr) (c : Nat) (s : Tk.Ses) : Value := .agg #[.int .u16 ((n16 s.suite : Nat) : Int), .slice A s.secret.length c, .string (str s.host), .string (str s.prot), .int .u64 ((n64 s.made : Nat) : Int), .int .u32 ((n32 s.life : Nat) : Int), .int .u32 ((n32 s.add : Nat) : Int)]
theorem Tk.ses_agg : AggT Tryd.prog 34 7 := ⟨by kernel_rfl, by kernel_rfl⟩
set_option maxHeartbeats 4000000 in
set_option maxRecDepth 100000 in
theorem rsame_any (s : Tk.Ses) (A : Option Addr) (c : Nat) (D : Option Addr) (d : Nat) (w : World) (hr : ReadsB w w.heap.size A s.secret.length s.secret) (hd' : ReadsB w w.heap.size D s.secret.length s.secret) :
    Calls Tryd.prog 8 #[Tk.ses A c s, Tk.ses D d s] w fun e w' => e = .returned (.bool true) ∧ Below w.heap.size w w' := by
  obtain ⟨su, se, ho, pr, ma, li, ad⟩ := s
  dsimp only at hr hd'
  have hB1 : Below w.heap.size w (w.alloc (.cells #[.int .u16 ((n16 su : Nat) : Int), .slice A se.length c, .string (str ho), .string (str pr), .int .u64 ((n64 ma : Nat) : Int), .int .u32 ((n32 li : Nat) : Int), .int .u32 ((n32 ad : Nat) : Int)] 34)) := (Below.refl _ _).alloc (Nat.le_refl _) _
  have hB2 := hB1.alloc (by rw [alloc_size]; omega) (.cells #[.int .u16 ((n16 su : Nat) : Int), .slice D se.length d, .string (str ho), .string (str pr), .int .u64 ((n64 ma : Nat) : Int), .int .u32 ((n32 li : Nat) : Int), .int .u32 ((n32 ad : Nat) : Int)] 34)
  have hra : ReadsB _ w.heap.size A se.length se := ⟨hr.len, hr.is.below hB2⟩
  have hrd : ReadsB _ w.heap.size D se.length se := ⟨hd'.len, hd'.is.below hB2⟩
  have s1 := run_toString Tryd.underlying30 Tryd.underlying5 Tryd.underlying9 w.heap.size A se.length c se hra
  have s2 := run_toString Tryd.underlying30 Tryd.underlying5 Tryd.underlying9 w.heap.size D se.length d se hrd
  unfold Tk.ses
  go_enter Tryd.func8, Tryd.ntmps8
  go_wp2
  go_ret
  exact ⟨rfl, hB2⟩
end Go.Proofs.YthigbggacgiamaaDoor

namespace Go.Proofs.YthigbggacgiamaaDoor
open Go.RowKit
/-- A reader that still holds l. -/
structure Tk.Rd (W : World) (g : Nat) (l : List UInt8) : Prop where
  at_ : ∃ A n c, Blk W g 73 (Tk.rd (.slice A n c)) ∧ ReadsB W g A n l ∧ n ≤ c
theorem Tk.Rd.next {W W' : World} {g B : Nat} {l : List UInt8} (h : Tk.Rd W g l) (hb : Below B W W') (hg : g < B) : Tk.Rd W' g l := by
  obtain ⟨A, n, c, h1, h2, h3⟩ := h
  exact ⟨A, n, c, h1.below hb hg, ⟨h2.len, h2.is.below (hb.mono (Nat.le_of_lt hg))⟩, h3⟩
theorem Tk.Rd.lt {W : World} {g : Nat} {l : List UInt8} (h : Tk.Rd W g l) : g < W.heap.size := by
  obtain ⟨A, n, c, h1, _⟩ := h; exact h1.lt
theorem Tk.takeR (g k : Nat) (p l : List UInt8) (hp : p.length = k) (w : World) (h : Tk.Rd w g (p ++ l)) :
    Calls Tryd.prog 29 #[.pointer (some ⟨g, 0, none⟩), .int .i64 (k : Int)] w fun e w' => ∃ A, e = .returned (.slice A k k) ∧ ReadsB w' g A k p ∧ Tk.Rd w' g l ∧ w'.heap.size = w.heap.size ∧ Below g w w' ∧ ∃ x, w' = w.setCell ⟨g, 0, none⟩ x := by
  obtain ⟨A, n, c, h1, h2, h3⟩ := h
  have hn := h2.len
  rw [List.length_append] at hn
  have hg := h1.lt
  refine (take_any g A n c k (p ++ l) w h1 h2 (by omega) h3).mono ?_
  rintro e w' ⟨rfl, hr, A', c', hb, hd, hc, hs, hB, hx⟩
  rw [List.take_left' hp] at hr
  rw [List.drop_left' hp] at hd
  exact ⟨A, rfl, hr, ⟨A', _, c', hb, hd, hc⟩, hs, hB g (Nat.le_refl _) (Nat.le_of_lt hg), hx⟩
theorem Tk.numberR (g k : Nat) (hk : k ≤ 8) (p l : List UInt8) (hp : p.length = k) (w : World) (h : Tk.Rd w g (p ++ l)) :
    Calls Tryd.prog 27 #[.pointer (some ⟨g, 0, none⟩), .int .i64 (k : Int)] w fun e w' => e = .returned (.int .u64 ((n64 (Tk.val 0 p) : Nat) : Int)) ∧ Tk.Rd w' g l ∧ w'.heap.size = w.heap.size ∧ Below g w w' ∧ ∃ x, w' = w.setCell ⟨g, 0, none⟩ x := by
  obtain ⟨A, n, c, h1, h2, h3⟩ := h
  have hn := h2.len
  rw [List.length_append] at hn
  have hg := h1.lt
  refine (rnumber_any g A n c k hk (p ++ l) w h1 h2 (by omega) h3).mono ?_
  rintro e w' ⟨rfl, A', c', hb, hd, hc, hs, hB, hx⟩
  rw [List.take_left' hp]
  rw [List.drop_left' hp] at hd
  exact ⟨rfl, ⟨A', _, c', hb, hd, hc⟩, hs, hB g (Nat.le_refl _) (Nat.le_of_lt hg), hx⟩
/-- A session of noughts. -/
def Tk.zero : Array Value := #[.int .u16 0, .slice none 0 0, .string ⟨#[]⟩, .string ⟨#[]⟩, .int .u64 0, .int .u32 0, .int .u32 0]
/-- All that told holds: the reader (block N + 1), the session (block N + 1 + 1), the result (block N), the secret's own bytes. -/
structure Tk.At (w0 W : World) (N : Nat) (l : List UInt8) (cs : Array Value) (v : Value) (m : List UInt8) : Prop where
  rd : Tk.Rd W (N + 1) l
  ses : Blk W (N + 1 + 1) 34 cs
  res : Blk W N 34 Tk.zero
  own : OwnB W (N + 1 + 1 + 1) v m
  below : Below N w0 W
section
variable {w0 W W' : World} {N : Nat} {l p : List UInt8} {cs : Array Value} {v : Value} {m : List UInt8}
theorem Tk.At.lt (h : Tk.At w0 W N l cs v m) : N + 1 + 1 + 1 ≤ W.heap.size := h.ses.lt
theorem Tk.At.next (h : Tk.At w0 W N l cs v m) (hb : Below W.heap.size W W') : Tk.At w0 W' N l cs v m :=
  ⟨h.rd.next hb h.rd.lt, h.ses.below hb h.ses.lt, h.res.below hb h.res.lt, h.own.later hb, h.below.trans (hb.mono (Nat.le_of_lt h.res.lt))⟩
theorem Tk.At.apart (h : Tk.At w0 W N l cs v m) {g : Nat} (hg : g < N + 1 + 1 + 1) : v.ownBlock ≠ some g := by
  rcases h.own.size with e | ⟨g', e, h1, _⟩
  · rw [e]; intro h; cases h
  · rw [e]; intro h; injection h; omega
theorem Tk.At.set (h : Tk.At w0 W N l cs v m) (i : Nat) (u : Value) : Tk.At w0 (W.setCell ⟨N + 1 + 1, i, none⟩ u) N l (cs.setIfInBounds i u) v m :=
  ⟨h.rd.next (B := N + 1 + 1) (Below.setCell (p := ⟨N + 1 + 1, i, none⟩) (Below.refl (N + 1 + 1) W) (Nat.le_refl (N + 1 + 1)) u) (by omega), h.ses.set_ i u, h.res.far (p := ⟨N + 1 + 1, i, none⟩) (by show N ≠ N + 1 + 1; omega) u, h.own.far (p := ⟨N + 1 + 1, i, none⟩) (h.apart (by show N + 1 + 1 < _; omega)) u, h.below.setCell (by show N ≤ N + 1 + 1; omega) u⟩
theorem Tk.At.moved (h : Tk.At w0 W N (p ++ l) cs v m) (hr : Tk.Rd W' (N + 1) l) {x : Value} (e : W' = W.setCell ⟨N + 1, 0, none⟩ x) : Tk.At w0 W' N l cs v m := by
  subst e
  exact ⟨hr, h.ses.far (p := ⟨N + 1, 0, none⟩) (by show N + 1 + 1 ≠ N + 1; omega) x, h.res.far (p := ⟨N + 1, 0, none⟩) (by show N ≠ N + 1; omega) x, h.own.far (p := ⟨N + 1, 0, none⟩) (h.apart (by show N + 1 < _; omega)) x, h.below.setCell (by show N ≤ N + 1; omega) x⟩
theorem Tk.At.number (h : Tk.At w0 W N (p ++ l) cs v m) (k : Nat) (hk : k ≤ 8) (hp : p.length = k) :
    Calls Tryd.prog 27 #[.pointer (some ⟨N + 1, 0, none⟩), .int .i64 (k : Int)] W fun e w' => e = .returned (.int .u64 ((n64 (Tk.val 0 p) : Nat) : Int)) ∧ Tk.At w0 w' N l cs v m := by
  refine (Tk.numberR (N + 1) k hk p l hp W h.rd).mono ?_
  rintro e w' ⟨rfl, hr, _, _, x, ex⟩
  exact ⟨rfl, h.moved hr ex⟩
theorem Tk.At.take (h : Tk.At w0 W N (p ++ l) cs v m) (k : Nat) (hp : p.length = k) :
    Calls Tryd.prog 29 #[.pointer (some ⟨N + 1, 0, none⟩), .int .i64 (k : Int)] W fun e w' => ∃ A, e = .returned (.slice A k k) ∧ ReadsB w' w'.heap.size A k p ∧ Tk.At w0 w' N l cs v m := by
  refine (Tk.takeR (N + 1) k p l hp W h.rd).mono ?_
  rintro e w' ⟨A, rfl, ha, hr, _, _, x, ex⟩
  have h2 := h.moved hr ex
  exact ⟨A, rfl, ⟨ha.len, ha.is.more (Nat.le_of_lt h2.rd.lt)⟩, h2⟩
end
end Go.Proofs.YthigbggacgiamaaDoor

namespace Go.Proofs.YthigbggacgiamaaDoor
open Go.RowKit
theorem clone_bytes (A : Option Addr) (n c : Nat) (l : List UInt8) (w : World) (hr : ReadsB w w.heap.size A n l) (hn : n ≤ 140737488355328) :
    Calls Tryd.prog 28 #[.slice A n c] w fun e w' => ∃ v, e = .returned v ∧ OwnB w' w.heap.size v l ∧ Below w.heap.size w w' := by
  have Hl := hd hr.len
  cases A with
  | none =>
    have hn0 : n = 0 := by
      rcases Nat.eq_zero_or_pos n with h | h
      · exact h
      · obtain ⟨ad, e, _⟩ := hr.is.2 h; cases e
    have hl0 : l = [] := List.length_eq_zero_iff.1 (by rw [Hl.out, hn0])
    subst hl0
    subst hn0
    have heq := fun (W : World) => Lib.run_eql_slice_nil (P := Tryd.prog) W 30 5 none 0 c 0 0 Tryd.underlying30
    go_enter Tryd.func28, Tryd.ntmps28
    go_wp2
    go_ret
    exact ⟨_, rfl, OwnB.nil _ _, Below.refl _ _⟩
  | some ad =>
    have own0 : OwnB (w.alloc (.cells #[] 5)) w.heap.size (.slice (some ⟨w.heap.size, 0, none⟩) 0 0) [] := OwnB.empty (Nat.le_refl _)
    have hB0 : Below w.heap.size w (w.alloc (.cells #[] 5)) := (Below.refl _ _).alloc (Nat.le_refl _) _
    have hra : ReadsB (w.alloc (.cells #[] 5)) w.heap.size (some ad) n l := ⟨hr.len, hr.is.alloc (Nat.le_refl _) _⟩
    have heq := fun (W : World) => Lib.run_eql_slice_nil (P := Tryd.prog) W 30 5 (some ad) n c 0 0 Tryd.underlying30
    go_enter Tryd.func28, Tryd.ntmps28
    go_wp2_with (first | (at_builtin; refine wpl_appendB rfl _ _ rfl w.heap.size _ [] rfl own0 w.heap.size (some ad) n c l rfl hra (by rw [Hl.out]; simp; omega) hB0.size ?_; intro v1 w1 own1 gr1 at1; rw [List.nil_append] at own1; have hB1 := below_appended hB0 own0 gr1 (Nat.le_refl _) hB0.size))
    go_ret
    exact ⟨_, rfl, own1, hB1⟩
theorem grow_nil (n : Nat) (w : World) (hn : n ≤ 140737488355328) :
    Calls Tryd.prog 26 #[.slice none 0 0, .int .i64 (n : Int)] w fun e w' => ∃ v, e = .returned v ∧ OwnB w' w.heap.size v [] ∧ Below w.heap.size w w' := by
  have t0 : ¬ (n : Int) < 0 := by omega
  by_cases h0 : 0 < n
  · have t1 : (0 : Int) < (n : Int) := by omega
    obtain ⟨v', w', hrun, own', gr'⟩ := run_append0_nil w 30 n h0 hn
    obtain ⟨A, c, e⟩ := own'.slice
    rw [List.length_replicate] at e
    subst e
    have hB := below_new (Below.refl w.heap.size w) gr' (Nat.le_refl _)
    have own2 := own'.cut (Nat.zero_le n)
    rw [List.take_zero] at own2
    have hc : (0 : Int) ≤ (c : Int) := by omega
    go_enter Tryd.func26, Tryd.ntmps26
    go_wp2_with (first | (at_builtin; refine Lib.wpList_append_run w rfl _ _ _ _ rfl _ _ rfl rfl _ _ hrun ?_))
    go_ret
    exact ⟨_, rfl, own2, hB⟩
  · obtain rfl : n = 0 := by omega
    go_enter Tryd.func26, Tryd.ntmps26
    go_wp2
    go_ret
    exact ⟨_, rfl, OwnB.nil _ _, Below.refl _ _⟩
set_option maxHeartbeats 4000000 in
set_option maxRecDepth 100000 in
theorem concat_any (A : Option Addr) (n c : Nat) (ps : List Part) (w : World) (hp : Parts w w.heap.size A n ps) (hn : n ≤ 140737488355328) (hj : (joined ps).length ≤ 140737488355328) :
    Calls Tryd.prog 15 #[.slice A n c] w fun e w' => ∃ v, e = .returned v ∧ OwnB w' w.heap.size v (joined ps) ∧ Below w.heap.size w w' := by
  have HP := hd hp
  have HJ := hd hj
  clear hp hj
  have hmono : ∀ k, (joined (ps.take k)).length ≤ (joined ps).length := joined_le ps
  have HMo := hd hmono
  clear hmono
  go_enter Tryd.func15, Tryd.ntmps15
  go_wp2
  go_loop [3, 5, 11] (fun s _ i => ∃ k : Nat, k ≤ n ∧ i = .int .i64 (k : Int) ∧ s = .int .i64 (((joined (ps.take k)).length : Nat) : Int)) (fun _ _ i => (n - intOf i).toNat)
  case atStart => exact ⟨0, by omega, rfl, rfl⟩
  case round =>
    obtain ⟨k, hk, rfl, rfl⟩ := hrel
    by_cases hlt : k < n
    · have t1 : (k : Int) < (n : Int) := by omega
      have t2 : (0 : Int) ≤ (k : Int) := by omega
      have wk : IntKind.i64.wrap ((k : Int) + 1) = (k : Int) + 1 := IntWalk.i64_in _ (by omega)
      obtain ⟨ad, rfl, hab, hc, hr, hpn⟩ := HP.out.is k hlt
      have Hj := hd (joined_more ps k (by rw [HP.out.len]; exact hlt))
      have Hk1 := hd (HMo.out (k + 1))
      obtain ⟨p, Hp⟩ : ∃ p, Hd (part ps k = p) := ⟨_, ⟨rfl⟩⟩
      rw [Hp.out] at hc hr hpn Hj
      obtain ⟨PD, pn, pd, pt⟩ := p
      simp only at hc hr hpn Hj
      have Hpl := hd hr.len
      obtain ⟨m, Hm⟩ : ∃ m, Hd ((joined (ps.take k)).length = m) := ⟨_, ⟨rfl⟩⟩
      have Hm1 := hd (show (joined (ps.take (k + 1))).length = m + pn by rw [Hj.out, List.length_append, Hm.out, Hpl.out])
      have hm1 : m + pn ≤ 140737488355328 := by have h1 := Hk1.out; have h2 := HJ.out; rw [Hm1.out] at h1; omega
      rw [Hm.out]
      have ws : IntKind.i64.wrap ((m : Int) + (pn : Int)) = ((m + pn : Nat) : Int) := by rw [IntWalk.i64_in _ (by omega)]; omega
      have t5 : ¬ ((m + pn : Nat) : Int) < 0 := by omega
      clear hr hpn
      go_wp2
      go_round
      case rel => exact ⟨k + 1, by omega, by congr 1 <;> omega, by rw [Hm1.out]; congr 1 <;> omega⟩
      case measure => simp [intOf] <;> omega
    · obtain rfl : k = n := by omega
      have t1 : ¬ (k : Int) < (k : Int) := by omega
      have hall := hd (show joined (ps.take k) = joined ps by rw [← HP.out.len, List.take_length])
      rw [hall.out]
      obtain ⟨M, HM⟩ : ∃ M, Hd ((joined ps).length = M) := ⟨_, ⟨rfl⟩⟩
      have hM : M ≤ 140737488355328 := by rw [← HM.out]; exact HJ.out
      rw [HM.out]
      go_wp2_with (first | (go_at_call 26; refine (grow_nil M w hM).mono ?_; rintro e w1 ⟨v1, rfl, own1, hB1⟩))
      go_loopw [6, 8, 27] (fun v _ i wr => ∃ j : Nat, j ≤ k ∧ i = .int .i64 (j : Int) ∧ OwnB wr w.heap.size v (joined (ps.take j)) ∧ Below w.heap.size w wr) (fun _ _ i _ => (k - intOf i).toNat)
      case atStart => exact ⟨0, by omega, rfl, own1, hB1⟩
      case round =>
        clear own1 hB1
        obtain ⟨j, hjk, rfl, own, hB⟩ := hrel
        by_cases hjl : j < k
        · have t1 : (j : Int) < (k : Int) := by omega
          have t2 : (0 : Int) ≤ (j : Int) := by omega
          have wk : IntKind.i64.wrap ((j : Int) + 1) = (j : Int) + 1 := IntWalk.i64_in _ (by omega)
          obtain ⟨ad, rfl, hab, hc, hr, hpn⟩ := (HP.out.below hB).is j hjl
          have Hj := hd (joined_more ps j (by rw [HP.out.len]; exact hjl))
          have Hk1 := hd (HMo.out (j + 1))
          obtain ⟨p, Hp⟩ : ∃ p, Hd (part ps j = p) := ⟨_, ⟨rfl⟩⟩
          rw [Hp.out] at hc hr hpn Hj
          obtain ⟨PD, pn, pd, pt⟩ := p
          simp only at hc hr hpn Hj
          have Hlen := hd (show (joined (ps.take j)).length + pt.length ≤ 140737488355328 by
            have h1 := Hk1.out
            have h2 := HJ.out
            rw [Hj.out, List.length_append] at h1
            omega)
          have HR := hd hr
          have Own := hd own
          clear hr hpn own
          go_wp2_with (first | (at_builtin; refine wpl_appendB rfl _ _ rfl w.heap.size u6 (joined (ps.take j)) rfl Own.out w.heap.size PD pn pd pt rfl HR.out Hlen.out hB.size ?_; intro v2 w2 own2 gr2 at2))
          go_roundw
          case rel => exact ⟨j + 1, by omega, by congr 1 <;> omega, by rw [Hj.out]; exact own2, below_appended hB Own.out gr2 (Nat.le_refl _) hB.size⟩
          case measure => simp [intOf] <;> omega
        · obtain rfl : j = k := by omega
          have t1 : ¬ (j : Int) < (j : Int) := by omega
          rw [hall.out] at own
          go_wp2
          go_ret
          exact ⟨_, rfl, own, hB⟩
end Go.Proofs.YthigbggacgiamaaDoor

namespace Go.Proofs.YthigbggacgiamaaDoor
open Go.RowKit
namespace Tk
section
variable {P : Program} {w : World} {o : Oper} {ρ : Operand → Value} {x y : Operand} {t rt : TypeId}
theorem nilC (ho : o.op = .nilCheck x) {ad : Addr} (hx : ρ x = .pointer (some ad)) : (execOp ρ o).run P w = .ok (.value (.pointer (some ad))) w := by
  unfold execOp
  simp only [ho, hx]
  simp [go_sem]
theorem isAggN (hty : ((P.underlying t).map isAggD) = some false) : (isAgg t).run P w = .ok false w := by
  cases hq : P.underlying t with
  | none => simp [hq] at hty
  | some d =>
    unfold isAgg
    rw [Sem.run_bind, run_underlying hq w]
    rw [hq] at hty
    cases d <;> simp_all [isAggD]
theorem ld (hty : ((P.underlying t).map isAggD) = some false) (ho : o.op = .load t x) (ad : Addr) (v : Value) (hx : ρ x = .pointer (some ad)) (h : w.cell? ad = some v) : (execOp ρ o).run P w = .ok (.value v) w := by
  refine run_execOp_load ho hx ?_
  simp [loadVar, Sem.run_bind, isAggN hty, go_sem, h]
/-- A whole block is loaded. -/
theorem ldA {g n : Nat} {t' : TypeId} {cs : Array Value} (ho : o.op = .load t x) (hx : ρ x = .pointer (some ⟨g, 0, none⟩)) (ht : AggT P t n) (hn : cs.size = n) (hb : Blk w g t' cs) : (execOp ρ o).run P w = .ok (.value (.agg cs)) w := by
  refine run_execOp_load ho hx ?_
  have h := run_loadVar_cells (w := w) ht ⟨g, 0, none⟩ cs.toList (by simpa using hn) hb.cells.is
  simpa using h
/-- An array of bytes within a block is loaded. -/
theorem ldC {n : Nat} (ho : o.op = .load t x) {ad : Addr} (hx : ρ x = .pointer (some ad)) (ht : AggT P t n) (xs : List Value) (hl : xs.length = n) (hc : Cells w ad xs) : (execOp ρ o).run P w = .ok (.value (.agg xs.toArray)) w := by
  refine run_execOp_load ho hx ?_
  exact run_loadVar_cells ht ad xs hl hc.is
/-- A whole block is stored. -/
theorem stA {g : Nat} {t' : TypeId} {cs ds : Array Value} (ho : o.op = .store t x y) (hx : ρ x = .pointer (some ⟨g, 0, none⟩)) (hy : ρ y = .agg ds) (hb : Blk w g t' cs) (hi : (P.info? t).map (·.size) = some ds.size) (hle : cs.size = ds.size) (h1 : ∀ v ∈ ds.toList, v.oneCell' = true) :
    (execOp ρ o).run P w = .ok .skip (w.setRow g ds) := by
  unfold execOp
  simp only [ho, hx, hy, Instr.storeAt, Instr.sureAddr, Sem.run_bind, Sem.run_pure, Result.andThen_ok]
  have h := run_storeVar_at (P := P) (ty := t) hb 0 ds.toList (by simpa using hi) (by simpa using Nat.le_of_eq hle.symm) h1
  rw [splice_all cs ds.toList (by simpa using hle.symm)] at h
  rw [show ds.toList.toArray = ds by simp] at h
  rw [h]
  rfl
theorem not' (ho : o.op = .unOp .not t x) {b c : Bool} (hx : ρ x = .bool b) (hc : (!b) = c) : (execOp ρ o).run P w = .ok (.value (.bool c)) w := by
  subst hc
  unfold execOp
  simp only [ho, hx]
  simp [go_sem]
theorem lenS (ho : o.op = .call { callee := .builtin .len, args := #[x], argTypes := #[t] }) {a : Option Addr} {n c : Nat} (hx : ρ x = .slice a n c) (ht : ∃ e, P.underlying t = some (.slice e)) : (execOp ρ o).run P w = .ok (.value (.int .i64 (n : Int))) w := by
  obtain ⟨e, he⟩ := ht
  unfold execOp
  simp only [ho, resolve, invoke, builtin, Sem.run_bind, Sem.run_pure, Result.andThen_ok, List.map_toArray, List.map_cons, List.map_nil, hx]
  simp [go_sem, he]
theorem eqI (ho : o.op = .binOp .eql t x y rt) {k : IntKind} (i j : Int) (b : Bool) (hx : ρ x = .int k i) (hy : ρ y = .int k j) (hb : decide (i = j) = b) (ht : P.underlying t = some (.int k)) : (execOp ρ o).run P w = .ok (.value (.bool b)) w := by
  subst hb
  unfold execOp
  simp only [ho, hx, hy]
  simp [go_sem, ht]
  by_cases h : i = j <;> simp [h]
theorem on {ops : Array Oper} {a : Act} {i : Nat} {b : Bool} (hg : o.guard = some (i, b)) (hv : yielded ops a.tmps i = some b) : Region.wanted o (yielded ops a.tmps) = true := by
  unfold Region.wanted
  rw [hg]
  simp [hv]
end
theorem na_bytes : ((Tryd.prog.underlying 30).map isAggD) = some false := by kernel_rfl
theorem na_bool : ((Tryd.prog.underlying 4).map isAggD) = some false := by kernel_rfl
theorem fld_rd (g : Nat) (i : Nat) (hi : i < 2) (w : World) : (Instr.fieldAt 73 (.pointer (some ⟨g, 0, none⟩)) i).run Tryd.prog w = .ok (.pointer (some ⟨g, i, none⟩)) w := by
  rcases (show i = 0 ∨ i = 1 by omega) with rfl | rfl <;> kernel_rfl
theorem fieldA {i : Nat} {v r : Value} {P : Program} {w : World} {o : Oper} {ρ : Operand → Value} {x : Operand} {t : TypeId} (ho : o.op = .fieldAddr t x i) (hx : ρ x = v) (h : ∀ w, (Instr.fieldAt t v i).run P w = .ok r w) : (execOp ρ o).run P w = .ok (.value r) w := by
  unfold execOp
  simp only [ho, hx]
  simp [h]
theorem ret2 {P : Program} {w : World} {fn : Func} {p q : Tmp} {ty t' : TypeId} {R : Ending → World → Prop} {a : Act} (h : fn.results = #[.cell p ty, .tmp q]) (g : Nat) (hp : a.tmps.getD p undef = .pointer (some ⟨g, 0, none⟩)) (u : Value) (hq : a.tmps.getD q undef = u) {n : Nat} (ht : AggT P ty n) (cs : Array Value) (hn : cs.size = n)
    (hb : Blk w g t' cs) (hd : a.defers = []) (hR : R (.returned (.tuple #[.agg cs, u])) w) : bodyPost P fn R .ret a w := by
  refine bodyPost_ret (v := .tuple #[.agg cs, u]) ?_ hd hR
  have hp' : a.tmps[p]?.getD undef = .pointer (some ⟨g, 0, none⟩) := by simpa using hp
  have hq' : a.tmps[q]?.getD undef = u := by simpa using hq
  have h2 := run_loadVar_cells (P := P) (w := w) ht ⟨g, 0, none⟩ cs.toList (by simpa using hn) hb.cells.is
  simp at h2
  simp [results, h, hp', hq', asAddr, h2]
end Tk
end Go.Proofs.YthigbggacgiamaaDoor

