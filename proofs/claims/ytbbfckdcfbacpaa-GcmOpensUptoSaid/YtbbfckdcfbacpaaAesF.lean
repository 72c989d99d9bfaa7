/-
  The walks of layer 7's live question and of the statement AesApart.
-/
import Derived.Test.YtbbfckdcfbacpaaAesEa
import Derived.Test.YtbbfckdcfbacpaaAesEb
import Derived.Test.YtbbfckdcfbacpaaAesLaw
import Derived.Test.YtbbfckdcfbacpaaEq
import Derived.Test.YtbbfckdcfbacpaaHeld
set_option linter.unusedVariables false
set_option linter.unusedSimpArgs false
namespace Go.Proofs.Ytbbfckdcfbacpaa
open Go.RowKit
namespace Aes
def headKey (k : Nat) : List UInt8 := (List.range k).map UInt8.ofNat
def headStep (k : Nat) (l : List UInt8) : List UInt8 := l.set k (17 * UInt8.ofNat k)
def headBlock (k : Nat) : List UInt8 := iter headStep k (List.replicate 16 0)
def headAnswer : List UInt8 := [0x69, 0xc4, 0xe0, 0xd8, 0x6a, 0x7b, 0x04, 0x30, 0xd8, 0xcd, 0xb7, 0x80, 0x70, 0xb4, 0xc5, 0x5a]
theorem headKey_len (k : Nat) : (headKey k).length = k := by simp [headKey]
theorem headKey_succ (k : Nat) : headKey (k + 1) = headKey k ++ [UInt8.ofNat k] := by simp [headKey, List.range_succ]
theorem headBlock_succ (k : Nat) : headBlock (k + 1) = (headBlock k).set k (17 * UInt8.ofNat k) := rfl
theorem headBlock_len (k : Nat) : (headBlock k).length = 16 := (iter_keeps headStep (fun s => s.length) (fun k s => by simp [headStep]) k _).trans List.length_replicate
theorem head_right : enc (keys (headKey 16)) (headBlock 16) = headAnswer := by decide +kernel
theorem keys_len (key : List UInt8) (h : key.length = 16 ∨ key.length = 32) : (keys key).length = if key.length = 16 then 11 else 15 := by
  rw [keys, pieces_len]
end Aes
theorem wrap_u8_17 (k : Nat) : IntKind.u8.wrap (17 * (k : Int)) = ((n8 (17 * UInt8.ofNat k) : Nat) : Int) := by
  rw [show (17 * (k : Int)) = ((17 * k : Nat) : Int) by omega]; rw [wrap_u8_nat, UInt8.ofNat_mul]; rfl
set_option maxHeartbeats 2000000 in
set_option maxRecDepth 100000 in
theorem head_any (w : World) :
    Calls Try.prog 12 #[] w fun e w' => e = .returned (.bool true) ∧ Below w.heap.size w w' := by
  go_enter Try.func12, Try.ntmps12
  go_wp2_with (refine wpl_alloc rfl 32 rfl _ zero16 ?_)
  go_loopw [1, 3] (fun v i wr => ∃ k : Nat, k ≤ 16 ∧ i = .int .i64 k ∧ OwnB wr (w.heap.size + 1) v (Aes.headKey k) ∧ Blk wr w.heap.size 32 (arr (Aes.headBlock k)) ∧ Below w.heap.size w wr) (fun _ i _ => 16 - (intOf i).toNat)
  case atStart =>
    exact ⟨0, by omega, rfl, OwnB.nil _ _, Blk.nu rfl, (Below.refl _ _).alloc (Nat.le_refl _) _⟩
  case round =>
    obtain ⟨k, hk, rfl, own, b1, hB⟩ := hrel
    have hlk := b1.lt
    by_cases hlt : k < 16
    · have t0 : (k : Int) < 16 := by omega
      have wu := wrap_u8_nat k
      have wu2 := wrap_u8_17 k
      have own1 := own.alloc (.cells #[.int .u8 (n8 (UInt8.ofNat k))] 5)
      have hr1 : ReadsB (wr.alloc (.cells #[.int .u8 (n8 (UInt8.ofNat k))] 5)) (wr.heap.size + 1) (some ⟨wr.heap.size, 0, none⟩) 1 [UInt8.ofNat k] := ReadsB.one _ _
      have hcl : (Aes.headKey k).length + [UInt8.ofNat k].length ≤ 140737488355328 := by rw [Aes.headKey_len]; simp; omega
      have hBs : w.heap.size + 1 ≤ (wr.alloc (.cells #[.int .u8 (n8 (UInt8.ofNat k))] 5)).heap.size := by simp; omega
      have hBo := hB.alloc hB.size (.cells #[.int .u8 (n8 (UInt8.ofNat k))] 5)
      have b1o := b1.alloc (.cells #[.int .u8 (n8 (UInt8.ofNat k))] 5)
      clear own b1 hB
      go_wp2_with (at_builtin; refine wpl_appendB rfl _ _ rfl (w.heap.size + 1) u1 (Aes.headKey k) rfl own1 (wr.heap.size + 1) _ 1 1 [UInt8.ofNat k] rfl hr1 hcl hBs ?_; intro v2 w2 own2 gr2 at2; have b2 := b1o.appended own1 gr2 (by decide); have c2 := b2.arr_cell k (by rw [Aes.headBlock_len]; exact hlt); have f2 := b2.frozen k)
      go_roundw
      case rel => exact ⟨k + 1, by omega, by go_num, by rw [Aes.headKey_succ]; exact own2.far (own_blk_ne own2.own b2 (by decide)) _, by rw [Aes.headBlock_succ]; exact b2.arr_set k _, (below_appended hBo own1 gr2 (by omega) (by simp; omega)).setCell (by simp) _⟩
      case measure => simp [intOf]; omega
    · have e16 : k = 16 := by omega
      subst e16
      have Hkl := hd (Aes.headKey_len 16)
      have Hbl := hd (Aes.headBlock_len 16)
      obtain ⟨G, cap, rfl, hG, hGs, hcap⟩ := own.form (by rw [Hkl.out]; omega)
      have hr := own.reads
      rw [Hkl.out] at hr hcap ⊢
      go_wp2_with fail
      refine (new_made16 _ _ _ _ hr).mono ?_
      rintro e w1 ⟨g, rfl, hkey, hB1⟩
      have b1' := b1.below hB1 b1.lt
      have hB' := hB.trans (hB1.mono hB.size)
      have Hrl := hd (show (Aes.keys (Aes.headKey 16)).length = 11 by rw [Aes.keys_len _ (.inl Hkl.out), if_pos Hkl.out])
      have hnil : ∀ W, (binOp .eql 25 (.pointer (some ⟨g, 0, none⟩)) (.pointer none)).run Try.prog W = .ok (.bool false) W := fun W => by kernel_rfl
      have hq : ∀ W, (Op.equalIn 10000 32 (.agg (arr Aes.headAnswer)) (.agg #[.int .u8 105, .int .u8 196, .int .u8 224, .int .u8 216, .int .u8 106, .int .u8 123, .int .u8 4, .int .u8 48, .int .u8 216, .int .u8 205, .int .u8 183, .int .u8 128, .int .u8 112, .int .u8 180, .int .u8 197, .int .u8 90])).run Try.prog W = .ok true W := fun W => (eq16 Aes.headAnswer Aes.headAnswer rfl rfl W).trans (by rw [decide_eq_true rfl])
      have hg16 := guard16
      clear b1 hB hB1 hr own
      go_wp2_with (first | (refine wpl_load_arr rfl 32 _ rfl _ rfl 16 ty16 (Aes.headBlock 16) Hbl.out b1'.cells_arr ?_) | (go_at_call 15; refine (encrypt_any g _ _ Hbl.out (by rw [Hrl.out]; omega) (by rw [Hrl.out]; omega) _ hkey).mono ?_; rintro e w2 ⟨rfl, hB2⟩; rw [Aes.head_right]))
      go_ret
      exact ⟨rfl, hB'.trans (hB2.mono hB'.size)⟩
theorem new_made (A : Option Addr) (c : Nat) (key : List UInt8) (n : Nat) (w : World) (hr : ReadsB w w.heap.size A n key) (hn : n = 16 ∨ n = 32) :
    Calls Try.prog 13 #[.slice A n c] w fun e w' => ∃ g, e = .returned (.tuple #[.pointer (some ⟨g, 0, none⟩), .int .i64 0]) ∧ KeyAt w' g (Aes.keys key) ∧ Below w.heap.size w w' := by
  rcases hn with rfl | rfl
  · exact new_made16 A c key w hr
  · exact new_made32 A c key w hr
/-- How many round keys a key has, and that each is a block. -/
theorem keys_some (key : List UInt8) (h : key.length = 16 ∨ key.length = 32) : 1 ≤ (Aes.keys key).length ∧ (Aes.keys key).length ≤ 100 := by
  rw [Aes.keys_len key h]
  split <;> omega
theorem apart_law (rs : List (List UInt8)) (h1 : 1 ≤ rs.length) (hr : ∀ i, i < rs.length → (rs.getD i []).length = 16) (x y : List UInt8) (hx : x.length = 16) (hy : y.length = 16) :
    (decide (Aes.enc rs x = Aes.enc rs y) == decide (x = y)) = true := by
  rw [beq_iff_eq]
  apply decide_eq_decide.2
  exact ⟨Aes.enc_inj rs h1 hr x y hx hy, fun h => by rw [h]⟩
set_option maxHeartbeats 2000000 in
set_option maxRecDepth 100000 in
theorem apart_refused (A : Option Addr) (n c : Nat) (a b : List UInt8) (w : World) (h16 : n ≠ 16) (h32 : n ≠ 32) :
    Calls Try.prog 4 #[.slice A n c, .agg (arr a), .agg (arr b)] w fun e w' => e = .returned (.bool true) ∧ Below w.heap.size w w' := by
  have t3 : ((n : Int) != 16) = true := by rw [bne_iff_ne]; omega
  have t4 : ((n : Int) != 32) = true := by rw [bne_iff_ne]; omega
  have hnil : ∀ W, (binOp .eql 25 (.pointer none) (.pointer none)).run Try.prog W = .ok (.bool true) W := fun W => by kernel_rfl
  have hB0 := ((Below.refl w.heap.size w).alloc (Nat.le_refl _) (.cells (arr a) 32)).alloc (by simp) (.cells (arr b) 32)
  go_enter Try.func4, Try.ntmps4
  go_wp2_with (first | (go_at_call 12; refine (head_any _).mono ?_; rintro e w1 ⟨rfl, hB1⟩) | (go_at_call 13; refine (new_refused _ _ _ _ h16 h32).mono ?_; rintro e w2 ⟨rfl, rfl⟩))
  go_ret
  exact ⟨rfl, hB0.trans (hB1.mono hB0.size)⟩
/-- What stays while both blocks are encrypted. -/
structure ApS (w : World) (a b : List UInt8) (g : Nat) (rs : List (List UInt8)) (w' : World) : Prop where
  fst : Blk w' w.heap.size 32 (arr a)
  snd : Blk w' (w.heap.size + 1) 32 (arr b)
  key : KeyAt w' g rs
  old : Below w.heap.size w w'
theorem ApS.next {w : World} {a b : List UInt8} {g : Nat} {rs : List (List UInt8)} {W w' : World} (h : ApS w a b g rs W) (hb : Below W.heap.size W w') : ApS w a b g rs w' :=
  ⟨h.fst.below hb h.fst.lt, h.snd.below hb h.snd.lt, h.key.below hb, h.old.trans (hb.mono h.old.size)⟩
theorem ApS.drew {w : World} {a b : List UInt8} {g : Nat} {rs : List (List UInt8)} {W : World} (h : ApS w a b g rs W) : ApS w a b g rs W.drew := h.next (Below.refl _ _).drew
theorem enter_encrypt (args : Array Value) (w : World) : (callFunc 15 args).run Try.prog w = .ok (.enter 15 args) w := by kernel_rfl
set_option maxHeartbeats 8000000 in
set_option maxRecDepth 100000 in
theorem apart_made (A : Option Addr) (n c : Nat) (key a b : List UInt8) (ha : a.length = 16) (hb : b.length = 16) (w : World) (hr : ReadsB w w.heap.size A n key) (hn : n = 16 ∨ n = 32) :
    Calls Try.prog 4 #[.slice A n c, .agg (arr a), .agg (arr b)] w fun e w' => e = .returned (.bool true) ∧ Below w.heap.size w w' := by
  have Hn := hd hn
  have Ha := hd ha
  have Hb := hd hb
  have Hk := hd (show key.length = 16 ∨ key.length = 32 by rw [hr.len]; exact hn)
  clear hn ha hb
  have hB0 := ((Below.refl w.heap.size w).alloc (Nat.le_refl _) (.cells (arr a) 32)).alloc (by simp) (.cells (arr b) 32)
  go_enter Try.func4, Try.ntmps4
  go_wp2_with fail
  refine (head_any _).mono ?_
  rintro e w1 ⟨rfl, hB1⟩
  have a1 : Blk w1 w.heap.size 32 (arr a) := ((Blk.nu rfl).alloc _).below hB1 (by simp; omega)
  have b1 : Blk w1 (w.heap.size + 1) 32 (arr b) := (Blk.nu (by simp)).below hB1 (by simp)
  have hB1' := hB0.trans (hB1.mono hB0.size)
  have hr1 : ReadsB w1 w1.heap.size A n key := ⟨hr.len, (hr.is.below hB1').more hB1'.size⟩
  clear hB1 hB0 hr
  go_wp2_with fail
  refine (new_made _ _ _ _ _ hr1 Hn.out).mono ?_
  rintro e w2 ⟨g, rfl, hkey, hB2⟩
  have a2 := a1.below hB2 a1.lt
  have b2 := b1.below hB2 b1.lt
  have hB2' := hB1'.trans (hB2.mono hB1'.size)
  have Hrs := hd (keys_some key Hk.out)
  obtain ⟨rs, Hrk⟩ : ∃ rs, Hd (Aes.keys key = rs) := ⟨_, ⟨rfl⟩⟩
  rw [Hrk.out] at hkey Hrs
  have hnil : ∀ W, (binOp .eql 25 (.pointer (some ⟨g, 0, none⟩)) (.pointer none)).run Try.prog W = .ok (.bool false) W := fun W => by kernel_rfl
  clear a1 b1 hB1' hB2 hr1
  have hS0 : ApS w a b g rs w2 := ⟨a2, b2, hkey, hB2'⟩
  have HRL := hd (show ∀ i, i < rs.length → (rs.getD i []).length = 16 from by
    obtain ⟨r, c, _, _, h⟩ := hkey.ex
    exact fun i hi => (h i hi).1)
  clear a2 b2 hkey hB2'
  go_wp2_with fail
  refine wp_region_held_drew (S := ApS w a b g rs) (by kernel_rfl) hS0.drew ?_
  intro hS1
  refine held_take 0 (o := _) rfl (by kernel_rfl) (by kernel_rfl) (by kernel_rfl) rfl (.pointer (some ⟨g, 0, none⟩)) (fun _ _ _ h => h) (fun W _ => run_move (by rfl) (by simp [Act.eval]) W) (by assumption) ?_
  simp only [Act.put, List.getElem_toArray, List.getElem_cons_succ, List.getElem_cons_zero, List.setIfInBounds_toArray, List.set_cons_zero, List.set_cons_succ]
  refine held_take 1 (o := _) rfl (by kernel_rfl) (by kernel_rfl) (by kernel_rfl) rfl (.agg (arr a)) (fun _ _ _ h => h) (fun W hW => run_load_arr (by rfl) (by simp [Act.eval]) ty16 a Ha.out (ApS.fst hW).cells_arr) (by assumption) ?_
  simp only [Act.put, List.getElem_toArray, List.getElem_cons_succ, List.getElem_cons_zero, List.setIfInBounds_toArray, List.set_cons_zero, List.set_cons_succ]
  refine held_take 3 (o := _) rfl (by kernel_rfl) (by kernel_rfl) (by kernel_rfl) rfl (.pointer (some ⟨g, 0, none⟩)) (fun _ _ _ h => h) (fun W _ => run_move (by rfl) (by simp [Act.eval]) W) (by assumption) ?_
  simp only [Act.put, List.getElem_toArray, List.getElem_cons_succ, List.getElem_cons_zero, List.setIfInBounds_toArray, List.set_cons_zero, List.set_cons_succ]
  refine held_take 4 (o := _) rfl (by kernel_rfl) (by kernel_rfl) (by kernel_rfl) rfl (.agg (arr b)) (fun _ _ _ h => h) (fun W hW => run_load_arr (by rfl) (by simp [Act.eval]) ty16 b Hb.out (ApS.snd hW).cells_arr) (by assumption) ?_
  simp only [Act.put, List.getElem_toArray, List.getElem_cons_succ, List.getElem_cons_zero, List.setIfInBounds_toArray, List.set_cons_zero, List.set_cons_succ]
  refine held_take 7 (o := _) rfl (by kernel_rfl) (by kernel_rfl) (by kernel_rfl) rfl (.agg (arr a)) (fun _ _ _ h => h) (fun W hW => run_load_arr (by rfl) (by simp [Act.eval]) ty16 a Ha.out (ApS.fst hW).cells_arr) (by assumption) ?_
  simp only [Act.put, List.getElem_toArray, List.getElem_cons_succ, List.getElem_cons_zero, List.setIfInBounds_toArray, List.set_cons_zero, List.set_cons_succ]
  refine held_take 8 (o := _) rfl (by kernel_rfl) (by kernel_rfl) (by kernel_rfl) rfl (.agg (arr b)) (fun _ _ _ h => h) (fun W hW => run_load_arr (by rfl) (by simp [Act.eval]) ty16 b Hb.out (ApS.snd hW).cells_arr) (by assumption) ?_
  simp only [Act.put, List.getElem_toArray, List.getElem_cons_succ, List.getElem_cons_zero, List.setIfInBounds_toArray, List.set_cons_zero, List.set_cons_succ]
  refine held_take 9 (o := _) rfl (by kernel_rfl) (by kernel_rfl) (by kernel_rfl) rfl (.bool (decide (a = b))) (fun _ _ _ h => h) (fun W _ => run_eql_arr16 (by rfl) a b (by simp [Act.eval]) (by simp [Act.eval]) Ha.out Hb.out) (by assumption) ?_
  simp only [Act.put, List.getElem_toArray, List.getElem_cons_succ, List.getElem_cons_zero, List.setIfInBounds_toArray, List.set_cons_zero, List.set_cons_succ]
  refine held_call 2 (by kernel_rfl) (o := _) rfl rfl 15 _ _ rfl #[.pointer (some ⟨g, 0, none⟩), .agg (arr a)] (by simp [Act.eval]) (enter_encrypt _) ?_
  refine (encrypt_any g rs a Ha.out Hrs.out.1 Hrs.out.2 _ (ApS.key (w := w) (a := a) (b := b) (by assumption))).mono ?_
  rintro e w12 ⟨rfl, hB12⟩
  refine ⟨_, rfl, ApS.next (w := w) (a := a) (b := b) (by assumption) hB12, ?_⟩
  intro hS12
  simp only [Act.put, List.getElem_toArray, List.getElem_cons_succ, List.getElem_cons_zero, List.setIfInBounds_toArray, List.set_cons_zero, List.set_cons_succ]
  refine held_call 5 (by kernel_rfl) (o := _) rfl rfl 15 _ _ rfl #[.pointer (some ⟨g, 0, none⟩), .agg (arr b)] (by simp [Act.eval]) (enter_encrypt _) ?_
  refine (encrypt_any g rs b Hb.out Hrs.out.1 Hrs.out.2 _ (ApS.key (w := w) (a := a) (b := b) (by assumption))).mono ?_
  rintro e w15 ⟨rfl, hB15⟩
  refine ⟨_, rfl, ApS.next (w := w) (a := a) (b := b) (by assumption) hB15, ?_⟩
  intro hS15
  simp only [Act.put, List.getElem_toArray, List.getElem_cons_succ, List.getElem_cons_zero, List.setIfInBounds_toArray, List.set_cons_zero, List.set_cons_succ]
  refine held_take 6 (o := _) rfl (by kernel_rfl) (by kernel_rfl) (by kernel_rfl) rfl (.bool (decide (Aes.enc rs a = Aes.enc rs b))) (fun _ _ _ h => h) (fun W _ => run_eql_arr16 (by rfl) (Aes.enc rs a) (Aes.enc rs b) (by simp [Act.eval]) (by simp [Act.eval]) (Aes.enc_len _ _ Ha.out) (Aes.enc_len _ _ Hb.out)) (by assumption) ?_
  simp only [Act.put, List.getElem_toArray, List.getElem_cons_succ, List.getElem_cons_zero, List.setIfInBounds_toArray, List.set_cons_zero, List.set_cons_succ]
  refine held_take 10 (o := _) rfl (by kernel_rfl) (by kernel_rfl) (by kernel_rfl) rfl (.bool (decide (Aes.enc rs a = Aes.enc rs b) == decide (a = b))) (fun _ _ _ h => h) (fun W _ => run_eql_bool (by rfl) _ _ (by simp [Act.eval]) (by simp [Act.eval]) Try.underlying4) (by assumption) ?_
  simp only [Act.put, List.getElem_toArray, List.getElem_cons_succ, List.getElem_cons_zero, List.setIfInBounds_toArray, List.set_cons_zero, List.set_cons_succ]
  refine held_take 11 (o := _) rfl (by kernel_rfl) (by kernel_rfl) (by kernel_rfl) rfl (.bool (decide (Aes.enc rs a = Aes.enc rs b) == decide (a = b))) (fun _ _ _ h => h) (fun W _ => run_assign (by rfl) (by simp [Act.eval]) W) (by assumption) ?_
  simp only [Act.put, List.getElem_toArray, List.getElem_cons_succ, List.getElem_cons_zero, List.setIfInBounds_toArray, List.set_cons_zero, List.set_cons_succ]
  refine wpAnyH_done (by kernel_rfl) ?_ _
  go_wp2
  go_ret
  exact ⟨congrArg (fun x => Ending.returned (.bool x)) (apart_law rs Hrs.out.1 HRL.out a b Ha.out Hb.out), ApS.old (by assumption)⟩
end Go.Proofs.Ytbbfckdcfbacpaa
