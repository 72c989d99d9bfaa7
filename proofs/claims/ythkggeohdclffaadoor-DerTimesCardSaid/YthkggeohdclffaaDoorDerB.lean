/-
  The walks of a length, and of an item's writing.
-/
import Derived.Test.YthkggeohdclffaaDoorDerA
import Derived.Deep.DeepCutAuto
import Derived.IntWalk
set_option linter.unusedVariables false
set_option linter.unusedSimpArgs false
set_option maxRecDepth 100000
namespace Go.Proofs.YthkggeohdclffaaDoor
open Go.RowKit
namespace Der
def byteOf (x : Int) : UInt8 := UInt8.ofBitVec (BitVec.ofInt 8 x)
/-- A length: it, how many bytes it has, what is wrong. -/
def len (b : List UInt8) : Nat × Nat × Int :=
  if b.length = 0 then (0, 0, 141)
  else if nth b 0 < 128 then (n8 (nth b 0), 1, 0)
  else if nth b 0 = 129 then (if b.length ≤ 1 then (0, 0, 141) else if n8 (nth b 1) < 128 then (0, 0, 143) else (n8 (nth b 1), 2, 0))
  else if nth b 0 = 130 then (if b.length ≤ 2 then (0, 0, 141) else if n8 (nth b 1) * 256 + n8 (nth b 2) < 256 then (0, 0, 143) else (n8 (nth b 1) * 256 + n8 (nth b 2), 3, 0))
  else (0, 0, 143)
/-- An item, written. -/
def put (tag : UInt8) (body : List UInt8) : List UInt8 :=
  if tag &&& 31 = 31 ∨ 65535 < body.length then []
  else if 255 < body.length then [tag, 130, byteOf ((body.length : Int) / 256), byteOf body.length] ++ body
  else if 127 < body.length then [tag, 129, byteOf body.length] ++ body
  else [tag, byteOf body.length] ++ body
end Der
theorem derMod8 (x : Int) : x % 256 = ((n8 (Der.byteOf x) : Nat) : Int) := by
  have h := wrap_n8 x
  unfold Der.byteOf
  simpa [IntKind.wrap, IntKind.bits, IntKind.signed] using h
theorem bits_or_bytes (a b : Nat) (ha : a < 256) (hb : b < 256) : bits BinOp.or IntKind.i64 (b : Int) (wrap64 ((a : Int) * 256)) = ((a * 256 + b : Nat) : Int) := by
  have e : wrap64 ((a : Int) * 256) = ((a * 256 : Nat) : Int) := by unfold wrap64; omega
  rw [e]
  have h := Nat.two_pow_add_eq_or_of_lt (i := 8) hb a
  rw [show (2:Nat)^8 * a = a * 256 by omega] at h
  have h1 : (BitVec.ofInt 64 ((b : Nat) : Int) ||| BitVec.ofInt 64 ((a * 256 : Nat) : Int)).toNat = a * 256 + b := by
    rw [BitVec.toNat_or, BitVec.ofInt_natCast, BitVec.ofInt_natCast, BitVec.toNat_ofNat, BitVec.toNat_ofNat, Nat.mod_eq_of_lt (by omega), Nat.mod_eq_of_lt (by omega), Nat.or_comm, h]
  unfold bits
  show IntKind.wrap .i64 (((BitVec.ofInt 64 ((b : Nat) : Int) ||| BitVec.ofInt 64 ((a * 256 : Nat) : Int)).toNat : Nat) : Int) = _
  rw [h1]
  exact IntWalk.i64_in _ (by omega)
theorem addr0 (ad : Addr) : ad.add 0 = ad := by
  obtain ⟨b, o, s⟩ := ad
  cases s <;> simp [Addr.add]
theorem and129 : n8 (129 &&& 3) = 1 := by rfl
theorem and130 : n8 (130 &&& 3) = 2 := by rfl
theorem len0 (b : List UInt8) (h : b.length = 0) : Der.len b = (0, 0, 141) := by unfold Der.len; rw [if_pos h]
set_option maxHeartbeats 4000000 in
set_option maxRecDepth 100000 in
theorem length_any (A : Option Addr) (n c : Nat) (b : List UInt8) (w : World) (hr : ReadsB w w.heap.size A n b) (hn : n ≤ 140737488355328) :
    Calls Tryd.prog 19 #[.slice A n c] w fun e w' => e = .returned (.tuple #[.int .i64 (((Der.len b).1 : Nat) : Int), .int .i64 (((Der.len b).2.1 : Nat) : Int), .int .i64 (Der.len b).2.2]) ∧ w = w' := by
  have Hl := hd hr.len
  by_cases h0 : n = 0
  · subst h0
    have HD := hd (len0 b Hl.out)
    rw [HD.out]
    clear hr
    go_enter Tryd.func19, Tryd.ntmps19
    go_wp2
    go_ret3
    exact ⟨rfl, rfl⟩
  · have h0' : ¬ (n : Int) = 0 := by omega
    have h0n : 0 < n := by omega
    obtain ⟨ad, hA, _, hc0⟩ := hr.cell h0n
    subst hA
    obtain ⟨x0, Hx0⟩ : ∃ x, Hd (nth b 0 = x) := ⟨_, ⟨rfl⟩⟩
    rw [Hx0.out, addr0] at hc0
    by_cases h1 : x0 < 128
    · have HD := hd (show Der.len b = (n8 x0, 1, 0) by unfold Der.len; rw [if_neg (by rw [Hl.out]; exact h0), Hx0.out, if_pos h1])
      rw [HD.out]
      go_enter Tryd.func19, Tryd.ntmps19
      go_wp2
      go_ret3
      exact ⟨rfl, rfl⟩
    · by_cases h2 : x0 = 129
      · subst h2
        by_cases h3 : n ≤ 1
        · have HD := hd (show Der.len b = (0, 0, 141) by unfold Der.len; rw [if_neg (by rw [Hl.out]; exact h0), Hx0.out, if_neg h1, if_pos rfl, if_pos (by rw [Hl.out]; exact h3)])
          rw [HD.out]
          have t3 : (n : Int) ≤ 1 := by omega
          have ka := and129
          go_enter Tryd.func19, Tryd.ntmps19
          go_wp2
          go_ret3
          exact ⟨rfl, rfl⟩
        · have h1n : 1 < n := by omega
          obtain ⟨ad', e, _, hc1⟩ := hr.cell h1n
          injection e with e
          subst e
          obtain ⟨x1, Hx1⟩ : ∃ x, Hd (nth b 1 = x) := ⟨_, ⟨rfl⟩⟩
          rw [Hx1.out] at hc1
          have hc1' : w.cell? ⟨ad.block, ad.off + 1, none⟩ = some (.int .u8 ((n8 x1 : Nat) : Int)) := hc1
          clear hc1
          have t3 : ¬ (n : Int) ≤ 1 := by omega
          have t4 : (1 : Int) < (n : Int) := by omega
          have ka := and129
          by_cases h4 : n8 x1 < 128
          · have HD := hd (show Der.len b = (0, 0, 143) by unfold Der.len; rw [if_neg (by rw [Hl.out]; exact h0), Hx0.out, if_neg h1, if_pos rfl, if_neg (by rw [Hl.out]; exact h3), Hx1.out, if_pos h4])
            rw [HD.out]
            have t5 : ((n8 x1 : Nat) : Int) < 128 := by omega
            go_enter Tryd.func19, Tryd.ntmps19
            go_wp2
            go_ret3
            exact ⟨rfl, rfl⟩
          · have HD := hd (show Der.len b = (n8 x1, 2, 0) by unfold Der.len; rw [if_neg (by rw [Hl.out]; exact h0), Hx0.out, if_neg h1, if_pos rfl, if_neg (by rw [Hl.out]; exact h3), Hx1.out, if_neg h4])
            rw [HD.out]
            have t5 : ¬ ((n8 x1 : Nat) : Int) < 128 := by omega
            go_enter Tryd.func19, Tryd.ntmps19
            go_wp2
            go_ret3
            exact ⟨rfl, rfl⟩
      · by_cases h2b : x0 = 130
        · subst h2b
          have ka := and130
          by_cases h3 : n ≤ 2
          · have HD := hd (show Der.len b = (0, 0, 141) by unfold Der.len; rw [if_neg (by rw [Hl.out]; exact h0), Hx0.out, if_neg h1, if_neg h2, if_pos rfl, if_pos (by rw [Hl.out]; exact h3)])
            rw [HD.out]
            have t3 : (n : Int) ≤ 2 := by omega
            go_enter Tryd.func19, Tryd.ntmps19
            go_wp2
            go_ret3
            exact ⟨rfl, rfl⟩
          · have h1n : 1 < n := by omega
            have h2n : 2 < n := by omega
            obtain ⟨ad', e, _, hc1⟩ := hr.cell h1n
            injection e with e
            subst e
            obtain ⟨ad', e, _, hc2⟩ := hr.cell h2n
            injection e with e
            subst e
            obtain ⟨x1, Hx1⟩ : ∃ x, Hd (nth b 1 = x) := ⟨_, ⟨rfl⟩⟩
            obtain ⟨x2, Hx2⟩ : ∃ x, Hd (nth b 2 = x) := ⟨_, ⟨rfl⟩⟩
            rw [Hx1.out] at hc1
            have hc1' : w.cell? ⟨ad.block, ad.off + 1, none⟩ = some (.int .u8 ((n8 x1 : Nat) : Int)) := hc1
            clear hc1
            rw [Hx2.out] at hc2
            have hc2' : w.cell? ⟨ad.block, ad.off + 2, none⟩ = some (.int .u8 ((n8 x2 : Nat) : Int)) := hc2
            clear hc2
            have t3 : ¬ (n : Int) ≤ 2 := by omega
            have t4 : (1 : Int) < (n : Int) := by omega
            have t5 : (2 : Int) < (n : Int) := by omega
            have eo := bits_or_bytes (n8 x1) (n8 x2) (n8_lt x1) (n8_lt x2)
            obtain ⟨N, HN⟩ : ∃ N, Hd (n8 x1 * 256 + n8 x2 = N) := ⟨_, ⟨rfl⟩⟩
            rw [HN.out] at eo
            by_cases h4 : N < 256
            · have HD := hd (show Der.len b = (0, 0, 143) by unfold Der.len; rw [if_neg (by rw [Hl.out]; exact h0), Hx0.out, if_neg h1, if_neg h2, if_pos rfl, if_neg (by rw [Hl.out]; exact h3), Hx1.out, Hx2.out, HN.out, if_pos h4])
              rw [HD.out]
              have t6 : (N : Int) < 256 := by omega
              by_cases h5 : (N : Int) < 128
              · go_enter Tryd.func19, Tryd.ntmps19
                go_wp2
                go_ret3
                exact ⟨rfl, rfl⟩
              · go_enter Tryd.func19, Tryd.ntmps19
                go_wp2
                go_ret3
                exact ⟨rfl, rfl⟩
            · have HD := hd (show Der.len b = (N, 3, 0) by unfold Der.len; rw [if_neg (by rw [Hl.out]; exact h0), Hx0.out, if_neg h1, if_neg h2, if_pos rfl, if_neg (by rw [Hl.out]; exact h3), Hx1.out, Hx2.out, HN.out, if_neg h4])
              rw [HD.out]
              have t6 : ¬ (N : Int) < 256 := by omega
              have t7 : ¬ (N : Int) < 128 := by omega
              go_enter Tryd.func19, Tryd.ntmps19
              go_wp2
              go_ret3
              exact ⟨rfl, rfl⟩
        · have HD := hd (show Der.len b = (0, 0, 143) by unfold Der.len; rw [if_neg (by rw [Hl.out]; exact h0), Hx0.out, if_neg h1, if_neg h2, if_neg h2b])
          rw [HD.out]
          have q1 : (x0 != 129) = true := by simpa using h2
          have q2 : (x0 != 130) = true := by simpa using h2b
          go_enter Tryd.func19, Tryd.ntmps19
          go_wp2
          go_ret3
          exact ⟨rfl, rfl⟩
theorem OwnB.lits {w : World} (l : List UInt8) (cs : Array Value) (h : cs = arr l) (hn : l.length ≤ 100) : OwnB (w.alloc (.cells cs 5)) w.heap.size (.slice (some ⟨w.heap.size, 0, none⟩) l.length l.length) l := by
  subst h
  exact ⟨by simp, .inr ⟨w.heap.size, l.length, _, rfl, Nat.le_refl _, heap_alloc_new _ _, Nat.le_refl _, by unfold maxLen; omega, by simp [arr], by simp only [arr, Nat.mul_one]; exact List.take_of_length_le (by simp)⟩⟩
set_option maxHeartbeats 4000000 in
set_option maxRecDepth 100000 in
theorem put_any (tag : UInt8) (A : Option Addr) (n c : Nat) (ps : List Part) (w : World) (hp : Parts w w.heap.size A n ps) (hn : n ≤ 140737488355328) (hj : (joined ps).length ≤ 140737488355328) :
    Calls Tryd.prog 9 #[.int .u8 ((n8 tag : Nat) : Int), .slice A n c] w fun e w' => ∃ v, e = .returned v ∧ OwnB w' w.heap.size v (Der.put tag (joined ps)) ∧ Below w.heap.size w w' := by
  obtain ⟨b, Hb⟩ : ∃ b, Hd (joined ps = b) := ⟨_, ⟨rfl⟩⟩
  have HCC := hd (concat_any A n c ps w hp hn hj)
  rw [Hb.out] at HCC hj
  rw [Hb.out]
  obtain ⟨m, Hm⟩ : ∃ m, Hd (b.length = m) := ⟨_, ⟨rfl⟩⟩
  rw [Hm.out] at hj
  clear hp
  by_cases h1 : tag &&& 31 = 31
  · have HD := hd (show Der.put tag b = [] by unfold Der.put; rw [if_pos (.inl h1)])
    rw [HD.out]
    go_enter Tryd.func9, Tryd.ntmps9
    go_wp2_with (first | (go_at_call 21; refine HCC.out.mono ?_; rintro e w1 ⟨v1, rfl, own1, hB1⟩; obtain ⟨A1, c1, e1⟩ := own1.slice; rw [Hm.out] at e1; subst e1))
    go_ret
    exact ⟨_, rfl, OwnB.nil _ _, hB1⟩
  · have q1 : (tag &&& 31 == 31) = false := by simpa using h1
    by_cases h2 : 65535 < m
    · have HD := hd (show Der.put tag b = [] by unfold Der.put; rw [if_pos (.inr (by rw [Hm.out]; exact h2))])
      rw [HD.out]
      have t2 : (65535 : Int) < (m : Int) := by omega
      go_enter Tryd.func9, Tryd.ntmps9
      go_wp2_with (first | (go_at_call 21; refine HCC.out.mono ?_; rintro e w1 ⟨v1, rfl, own1, hB1⟩; obtain ⟨A1, c1, e1⟩ := own1.slice; rw [Hm.out] at e1; subst e1))
      go_ret
      exact ⟨_, rfl, OwnB.nil _ _, hB1⟩
    · have t2 : ¬ (65535 : Int) < (m : Int) := by omega
      have hno : ¬ (tag &&& 31 = 31 ∨ 65535 < b.length) := fun h => h.elim h1 (fun h => by rw [Hm.out] at h; omega)
      obtain ⟨y1, Hy1⟩ : ∃ y, Hd (Der.byteOf (m : Int) = y) := ⟨_, ⟨rfl⟩⟩
      obtain ⟨y2, Hy2⟩ : ∃ y, Hd (Der.byteOf ((m : Int) / 256) = y) := ⟨_, ⟨rfl⟩⟩
      have Em1 := hd (show (m : Int) % 256 = ((n8 y1 : Nat) : Int) by rw [← Hy1.out]; exact derMod8 _)
      have Em2 := hd (show (m : Int) / 256 = ((n8 y2 : Nat) : Int) by rw [← Hy2.out]; have := derMod8 ((m : Int) / 256); omega)
      by_cases h3 : 255 < m
      · have t3 : (255 : Int) < (m : Int) := by omega
        have HD := hd (show Der.put tag b = [tag, 130, y2, y1] ++ b by unfold Der.put; rw [if_neg hno, Hm.out, if_pos h3, Hy1.out, Hy2.out])
        rw [HD.out]
        have HC := hd (show (#[.int .u8 ((n8 tag : Nat) : Int), .int .u8 130, .int .u8 ((m : Int) / 256), .int .u8 ((m : Int) % 256)] : Array Value) = arr [tag, 130, y2, y1] by simp only [Em1.out, Em2.out]; rfl)
        have HB := hd (fun (w1 : World) => (Below.refl w1.heap.size w1).alloc (Nat.le_refl _) (.cells (#[.int .u8 ((n8 tag : Nat) : Int), .int .u8 130, .int .u8 ((m : Int) / 256), .int .u8 ((m : Int) % 256)] : Array Value) 5))
        go_enter Tryd.func9, Tryd.ntmps9
        go_upto_region 11 with (first | (go_at_call 21; refine HCC.out.mono ?_; rintro e w1 ⟨v1, rfl, own1, hB1⟩; obtain ⟨A1, c1, e1⟩ := own1.slice; rw [Hm.out] at e1; subst e1))
        have own2 := OwnB.lits (w := w1) [tag, 130, y2, y1] _ HC.out (by simp)
        have hE := HB.out w1
        have r2 : ReadsB (w1.alloc (.cells (#[.int .u8 ((n8 tag : Nat) : Int), .int .u8 130, .int .u8 ((m : Int) / 256), .int .u8 ((m : Int) % 256)] : Array Value) 5)) w1.heap.size A1 m b := ⟨Hm.out, own1.reads_any.2.is.below hE⟩
        go_wp2_with (first | (at_builtin; refine wpl_appendB rfl _ _ rfl w1.heap.size _ [tag, 130, y2, y1] rfl own2 w1.heap.size A1 m c1 b rfl r2 (by rw [Hm.out]; simp; omega) hE.size ?_; intro v2 w2 own3 gr2 at2))
        go_ret
        exact ⟨_, rfl, own3.low hB1.size, hB1.trans ((below_appended hE own2 gr2 (Nat.le_refl _) hE.size).mono hB1.size)⟩
      · have t3 : ¬ (255 : Int) < (m : Int) := by omega
        have Em3 := hd (show (m : Int) = ((n8 y1 : Nat) : Int) by have := Em1.out; omega)
        by_cases h4 : 127 < m
        · have t4 : (127 : Int) < (m : Int) := by omega
          have HD := hd (show Der.put tag b = [tag, 129, y1] ++ b by unfold Der.put; rw [if_neg hno, Hm.out, if_neg h3, if_pos h4, Hy1.out])
          rw [HD.out]
          have HC := hd (show (#[.int .u8 ((n8 tag : Nat) : Int), .int .u8 129, .int .u8 (m : Int)] : Array Value) = arr [tag, 129, y1] by rw [Em3.out]; rfl)
          have HB := hd (fun (w1 : World) => (Below.refl w1.heap.size w1).alloc (Nat.le_refl _) (.cells (#[.int .u8 ((n8 tag : Nat) : Int), .int .u8 129, .int .u8 (m : Int)] : Array Value) 5))
          go_enter Tryd.func9, Tryd.ntmps9
          go_upto_region 11 with (first | (go_at_call 21; refine HCC.out.mono ?_; rintro e w1 ⟨v1, rfl, own1, hB1⟩; obtain ⟨A1, c1, e1⟩ := own1.slice; rw [Hm.out] at e1; subst e1))
          have own2 := OwnB.lits (w := w1) [tag, 129, y1] _ HC.out (by simp)
          have hE := HB.out w1
          have r2 : ReadsB (w1.alloc (.cells (#[.int .u8 ((n8 tag : Nat) : Int), .int .u8 129, .int .u8 (m : Int)] : Array Value) 5)) w1.heap.size A1 m b := ⟨Hm.out, own1.reads_any.2.is.below hE⟩
          go_wp2_with (first | (at_builtin; refine wpl_appendB rfl _ _ rfl w1.heap.size _ [tag, 129, y1] rfl own2 w1.heap.size A1 m c1 b rfl r2 (by rw [Hm.out]; simp; omega) hE.size ?_; intro v2 w2 own3 gr2 at2))
          go_ret
          exact ⟨_, rfl, own3.low hB1.size, hB1.trans ((below_appended hE own2 gr2 (Nat.le_refl _) hE.size).mono hB1.size)⟩
        · have t4 : ¬ (127 : Int) < (m : Int) := by omega
          have HD := hd (show Der.put tag b = [tag, y1] ++ b by unfold Der.put; rw [if_neg hno, Hm.out, if_neg h3, if_neg h4, Hy1.out])
          rw [HD.out]
          have HC := hd (show (#[.int .u8 ((n8 tag : Nat) : Int), .int .u8 (m : Int)] : Array Value) = arr [tag, y1] by rw [Em3.out]; rfl)
          have HB := hd (fun (w1 : World) => (Below.refl w1.heap.size w1).alloc (Nat.le_refl _) (.cells (#[.int .u8 ((n8 tag : Nat) : Int), .int .u8 (m : Int)] : Array Value) 5))
          go_enter Tryd.func9, Tryd.ntmps9
          go_upto_region 11 with (first | (go_at_call 21; refine HCC.out.mono ?_; rintro e w1 ⟨v1, rfl, own1, hB1⟩; obtain ⟨A1, c1, e1⟩ := own1.slice; rw [Hm.out] at e1; subst e1))
          have own2 := OwnB.lits (w := w1) [tag, y1] _ HC.out (by simp)
          have hE := HB.out w1
          have r2 : ReadsB (w1.alloc (.cells (#[.int .u8 ((n8 tag : Nat) : Int), .int .u8 (m : Int)] : Array Value) 5)) w1.heap.size A1 m b := ⟨Hm.out, own1.reads_any.2.is.below hE⟩
          go_wp2_with (first | (at_builtin; refine wpl_appendB rfl _ _ rfl w1.heap.size _ [tag, y1] rfl own2 w1.heap.size A1 m c1 b rfl r2 (by rw [Hm.out]; simp; omega) hE.size ?_; intro v2 w2 own3 gr2 at2))
          go_ret
          exact ⟨_, rfl, own3.low hB1.size, hB1.trans ((below_appended hE own2 gr2 (Nat.le_refl _) hE.size).mono hB1.size)⟩
end Go.Proofs.YthkggeohdclffaaDoor
