/-
  suite.Seal, suite.Open at any suite that is known.
  The walk of layer 9's reference: Stream.
  The walk of layer 9's reference: tagged.
  The walk of layer 9's reference: tag.
  The walks of layer 9's reference: Seal, Open.
  The walks of layer 10's reference: whole, may, Seal, Open.
-/
import Derived.Test.YtbcboldepghgpaaSuiteD
import Derived.Test.YtbcboldepghgpaaJe
import Derived.Test.YtbcboldepghgpaaChaQ
import Derived.Test.YtbcboldepghgpaaRcH
import Derived.Test.YtbcboldepghgpaaChaJ
import Derived.Test.YtbcboldepghgpaaChaN
import Derived.Test.YtbcboldepghgpaaOpenR
set_option linter.unusedVariables false
set_option linter.unusedSimpArgs false
set_option maxRecDepth 100000
namespace Go.Proofs.Ytbcboldepghgpaa
open Go.RowKit
/-- A suite, and how long its keys are. -/
def Suite.Ok (s : UInt16) (n : Nat) : Prop := (s = 4865 ∧ n = 16) ∨ (s = 4866 ∧ n = 32) ∨ (s = 4867 ∧ n = 32)
namespace Rec
def sealOf (s : UInt16) (key nonce a t : List UInt8) : List UInt8 := if s = 4867 then Cha.lock key nonce a t else Gcm.lock (Aes.keys key) nonce a t
def openOf (s : UInt16) (key nonce a t : List UInt8) : Option (List UInt8) := if s = 4867 then Cha.unlock key nonce a t else Gcm.unlock (Aes.keys key) nonce a t
theorem sealOf_len (s : UInt16) (key nonce a t : List UInt8) : (sealOf s key nonce a t).length = t.length + 16 := by
  unfold sealOf
  split
  · exact Cha.lock_len _ _ _ _
  · exact Gcm.lock_len _ _ _ _
end Rec
set_option maxHeartbeats 2000000 in
set_option maxRecDepth 100000 in
theorem suiteSeal_ok (s : UInt16) (n : Nat) (hs : Suite.Ok s n) (A : Option Addr) (c : Nat) (key nonce : List UInt8) (hn : nonce.length = 12) (D : Option Addr) (p q : Nat) (aside : List UInt8) (E : Option Addr) (m d : Nat) (text : List UInt8) (w : World) (hr : ReadsB w w.heap.size A n key)
    (ha : ReadsB w w.heap.size D p aside) (hpq : p ≤ q) (ht : ReadsB w w.heap.size E m text) (hmd : m ≤ d) (hsz : p + m ≤ 140737488355200) :
    Calls Try.prog 9 #[.int .u16 ((n16 s : Nat) : Int), .slice A n c, .agg (arr nonce), .slice D p q, .slice E m d] w fun e w' => ∃ v, e = .returned (.tuple #[v, .int .i64 0]) ∧ OwnB w' w.heap.size v (Rec.sealOf s key nonce aside text) ∧ Below w.heap.size w w' := by
  unfold Rec.sealOf
  rcases hs with ⟨rfl, rfl⟩ | ⟨rfl, rfl⟩ | ⟨rfl, rfl⟩
  · exact suiteSeal_128' A c key nonce hn D p q aside E m d text w hr ha hpq ht hmd hsz
  · exact suiteSeal_256' A c key nonce hn D p q aside E m d text w hr ha hpq ht hmd hsz
  · exact suiteSeal_cha' A c key nonce hn D p q aside E m d text w hr ha hpq ht hmd hsz
theorem suiteOpen_ok (s : UInt16) (n : Nat) (hs : Suite.Ok s n) (A : Option Addr) (c : Nat) (key nonce : List UInt8) (hn : nonce.length = 12) (D : Option Addr) (p q : Nat) (aside : List UInt8) (E : Option Addr) (m d : Nat) (text : List UInt8) (w : World) (hr : ReadsB w w.heap.size A n key)
    (ha : ReadsB w w.heap.size D p aside) (hpq : p ≤ q) (ht : ReadsB w w.heap.size E m text) (hmd : m ≤ d) (hsz : p + m ≤ 140737488355200) :
    Calls Try.prog 11 #[.int .u16 ((n16 s : Nat) : Int), .slice A n c, .agg (arr nonce), .slice D p q, .slice E m d] w fun e w' => OpenedE 103 w (Rec.openOf s key nonce aside text) e w' := by
  unfold Rec.openOf
  rcases hs with ⟨rfl, rfl⟩ | ⟨rfl, rfl⟩ | ⟨rfl, rfl⟩
  · exact suiteOpen_128 A c key nonce hn D p q aside E m d text w hr ha hpq ht hmd hsz
  · exact suiteOpen_256 A c key nonce hn D p q aside E m d text w hr ha hpq ht hmd hsz
  · exact suiteOpen_cha A c key nonce hn D p q aside E m d text w hr ha hpq ht hmd hsz
end Go.Proofs.Ytbcboldepghgpaa

namespace Go.Proofs.Ytbcboldepghgpaa
open Go.RowKit
namespace Rc
structure Sm (w : World) (key nonce x : List UInt8) (W : World) : Prop where
  bk : Blk W w.heap.size 68 (arr key)
  bn : Blk W (w.heap.size + 1) 25 (arr nonce)
  bx : Blk W (w.heap.size + 1 + 1) 111 (arr x)
  old : Below w.heap.size w W
section
variable {w W W' : World} {key nonce x : List UInt8}
theorem Sm.next (h : Sm w key nonce x W) (hb : Below W.heap.size W W') : Sm w key nonce x W' := ⟨h.bk.below hb h.bk.lt, h.bn.below hb h.bn.lt, h.bx.below hb h.bx.lt, h.old.trans (hb.mono h.old.size)⟩
theorem Sm.put (h : Sm w key nonce x W) (x' : List UInt8) : Sm w key nonce x' (W.setRow (w.heap.size + 1 + 1) (arr x')) := ⟨h.bk.farRow (by omega) _, h.bn.farRow (by omega) _, h.bx.setRow _, below_setRow h.old (by omega) _⟩
theorem Sm.app (h : Sm w key nonce x W) {v : Value} {l : List UInt8} (ho : OwnB W w.heap.size v l) (hg : W.grownBy W' v.ownBlock) : Sm w key nonce x W' :=
  ⟨h.bk.appended ho hg (by decide), h.bn.appended ho hg (by decide), h.bx.appended ho hg (by decide), below_appended h.old ho hg (Nat.le_refl _) h.old.size⟩
end
theorem cnt (c : UInt32) (a b : Nat) (h : a + 1 = b) : c + UInt32.ofNat a + 1 = c + UInt32.ofNat b := by
  rw [← h, UInt32.ofNat_add, UInt32.add_assoc]
  rfl
theorem agg12 : AggT Try.prog 25 12 := ⟨by kernel_rfl, by kernel_rfl⟩
theorem agg32 : AggT Try.prog 68 32 := ⟨by kernel_rfl, by kernel_rfl⟩
end Rc
set_option maxHeartbeats 16000000 in
set_option maxRecDepth 100000 in
theorem Rc.stream_any (key nonce : List UInt8) (count : UInt32) (hk : key.length = 32) (hn : nonce.length = 12) (D : Option Addr) (n d : Nat) (b : List UInt8) (w : World) (hr : ReadsB w w.heap.size D n b) (hnn : n ≤ 140737488355328) :
    Calls Try.prog 47 #[.agg (arr key), .int .u32 ((n32 count : Nat) : Int), .agg (arr nonce), .slice D n d] w fun e w' => ∃ v, e = .returned v ∧ OwnB w' w.heap.size v (Cha.stream key count nonce b) ∧ Below w.heap.size w w' := by
  have HK := hd hk
  have HN := hd hn
  have Hn := hd hnn
  have Hr := hd hr
  have Hbl := hd hr.len
  obtain ⟨S, HS⟩ : ∃ S, Hd (Cha.stream key count nonce b = S) := ⟨_, ⟨rfl⟩⟩
  have HSl := hd (show S.length = n by rw [← HS.out, Cha.stream_len, Hbl.out])
  have HSn := hd (show ∀ i, i < n → nth S i = nth b i ^^^ nth (Cha.block key (count + UInt32.ofNat (i / 64)) nonce) (i % 64) from fun i hi => by rw [← HS.out]; exact Cha.stream_nth key count nonce b i (by rw [Hbl.out]; exact hi))
  rw [HS.out]
  clear hk hn hnn hr
  go_enter Try.func47, Try.ntmps47
  go_wp2_with (first
    | (refine wpl_alloc rfl 111 rfl _ Cha.zero64 ?_; simp only [World.size_alloc]; refine wpl_name (Rc.Sm w key nonce (List.replicate 64 0)) ⟨((Blk.nu rfl).alloc _).alloc _, (Blk.nu (by simp)).alloc _, Blk.nu (by simp), (((Below.refl _ _).alloc (by simp) _).alloc (by simp) _).alloc (by simp <;> omega) _⟩ ?_; intro W1 H1))
  go_loopw [1, 9, 11] (fun c v i wr => ∃ (k : Nat) (x : List UInt8), k ≤ n ∧ i = .int .i64 (k : Int) ∧ c = .int .u32 ((n32 (count + UInt32.ofNat ((k + 63) / 64)) : Nat) : Int) ∧ x.length = 64 ∧ Hd (k % 64 ≠ 0 → x = Cha.block key (count + UInt32.ofNat (k / 64)) nonce) ∧ OwnB wr w.heap.size v (S.take k) ∧ Rc.Sm w key nonce x wr) (fun _ _ i _ => (n - intOf i).toNat)
  case atStart => exact ⟨0, _, by omega, rfl, by simp, List.length_replicate .., hd (fun h => absurd rfl h), OwnB.nil _ _, H1⟩
  case round =>
    clear H1
    obtain ⟨k, x, hk, rfl, rfl, hx, Hx, own, H1⟩ := hrel
    have Lx := hd hx
    obtain ⟨A3, c3, e3⟩ := own.slice
    have hlen : (S.take k).length = k := by rw [List.length_take, HSl.out]; omega
    rw [hlen] at e3
    subst e3
    have Hlen := hd hlen
    clear hlen hx
    by_cases hlt : k < n
    · have tk : (k : Int) < (n : Int) := by omega
      have hkn := hd (show k < n ∧ n ≤ 140737488355328 from ⟨hlt, Hn.out⟩)
      obtain ⟨m, Hm⟩ : ∃ m, Hd (k % 64 = m) := ⟨_, ⟨rfl⟩⟩
      have em : (k : Int) % 64 = (m : Int) := by have := Hm.out; omega
      have m64 : (m : Int) < 64 := by have := Hm.out; omega
      obtain ⟨z, Hz⟩ : ∃ z, Hd (Cha.block key (count + UInt32.ofNat (k / 64)) nonce = z) := ⟨_, ⟨rfl⟩⟩
      have Lz := hd (show z.length = 64 by rw [← Hz.out, Cha.block_len])
      have hyn := HSn.out k hlt
      rw [Hz.out, Hm.out] at hyn
      obtain ⟨y, Hy⟩ : ∃ y, Hd (nth b k ^^^ nth z m = y) := ⟨_, ⟨rfl⟩⟩
      have Hnx := hd (show S.take (k + 1) = S.take k ++ [y] by rw [take_next _ _ (by rw [HSl.out]; exact hlt), hyn, Hy.out])
      clear hyn
      obtain ⟨ad, HD, had, hcw⟩ := Hr.out.cell hlt
      subst HD
      go_upto_if 20 with fail
      go_cut [1] (fun c wx => c = .int .u32 ((n32 (count + UInt32.ofNat ((k + 1 + 63) / 64)) : Nat) : Int) ∧ OwnB wx w.heap.size (.slice A3 k c3) (S.take k) ∧ Rc.Sm w key nonce z wx)
      case first =>
        by_cases h0 : m = 0
        · have t0 : (m : Int) = 0 := by omega
          have hc1 : (k + 63) / 64 = k / 64 := by have := Hm.out; omega
          have hc2 := hd (Rc.cnt count (k / 64) ((k + 1 + 63) / 64) (by omega))
          rw [hc1]
          have Hbk := hd (Rc.block_any key nonce (count + UInt32.ofNat (k / 64)) HK.out HN.out wr)
          rw [Hz.out] at Hbk
          obtain ⟨ca, Hca⟩ : ∃ c, Hd (count + UInt32.ofNat (k / 64) = c) := ⟨_, ⟨rfl⟩⟩
          rw [Hca.out] at Hbk hc2 ⊢
          have hneX : (Value.slice A3 k c3).ownBlock ≠ some (w.heap.size + 1 + 1) := own_blk_ne own.own H1.bx (by decide)
          clear h0 hc1
          go_wp2_with (first
            | (refine wpl_load_arr rfl 68 _ rfl _ rfl 32 Rc.agg32 key HK.out H1.bk.cells_arr ?_)
            | (refine wpl_load_arr rfl 25 _ rfl _ rfl 12 Rc.agg12 nonce HN.out H1.bn.cells_arr ?_)
            | (go_at_call 62; refine Hbk.out.mono ?_; rintro e W5 ⟨rfl, hE⟩; have H5 := H1.next hE; have own5 := own.later hE)
            | (refine wpl_store_arr rfl 111 _ _ rfl (w.heap.size + 1 + 1) z rfl rfl 111 _ H5.bx 64 Cha.agg64.size Lz.out (by rw [arr_size, Lx.out]) ?_; refine wpl_name (fun W => OwnB W w.heap.size (.slice A3 k c3) (S.take k) ∧ Rc.Sm w key nonce z W) ⟨own5.moved (grew_setRow (World.grownBy.refl W5 (some (w.heap.size + 1 + 1))) _) hneX, H5.put z⟩ ?_; clear H5 own5; rintro W6 ⟨own6, H6⟩))
          go_meet
          exact ⟨by rw [← hc2.out], own6, H6⟩
        · have t0 : ¬ (m : Int) = 0 := by omega
          have hxz : x = z := by rw [← Hz.out]; exact Hx.out (by rw [Hm.out]; exact h0)
          have hc1 : (k + 63) / 64 = (k + 1 + 63) / 64 := by have := Hm.out; omega
          rw [hc1]
          rw [hxz] at H1
          clear h0 hc1 hxz
          go_wp2
          go_meet
          exact ⟨rfl, own, H1⟩
      case rest =>
      clear own H1 Hx
      obtain ⟨rfl, own, H1⟩ := hcut
      obtain ⟨wv, rfl⟩ : ∃ wv : World, wv = wc := ⟨_, rfl⟩
      have hcu : wv.cell? (ad.add k) = some (.int .u8 (n8 (nth b k))) := (H1.old.cell (by rw [block_of_add]; exact had)).trans hcw
      have c1 := H1.bx.arr_cell m (by rw [Lz.out]; have := Hm.out; omega)
      have hcl : (S.take k).length + [y].length ≤ 140737488355328 := by rw [Hlen.out]; have := hkn.out; simp; omega
      have own1 := (own.alloc (.cells #[.int .u8 (n8 y)] 5)).drew
      have hr1 := (ReadsB.one wv y).drew
      rw [← Hy.out] at own1 hr1
      have hB1 : w.heap.size ≤ (wv.alloc (.cells #[.int .u8 (n8 (nth b k ^^^ nth z m))] 5)).drew.heap.size := by have := H1.old.size; simp; omega
      have wk : IntKind.i64.wrap ((k : Int) + 1) = (k : Int) + 1 := IntWalk.i64_in _ (by have := hkn.out; omega)
      obtain ⟨cb, Hcb⟩ : ∃ c, Hd (count + UInt32.ofNat ((k + 1 + 63) / 64) = c) := ⟨_, ⟨rfl⟩⟩
      rw [Hcb.out]
      have vm : (k : Int).tmod 64 = (m : Int) := by rw [← Hm.out, Int.tmod_eq_emod_of_nonneg (by omega)]; omega
      have vw : IntKind.i64.wrap (m : Int) = (m : Int) := IntWalk.i64_in _ (by omega)
      go_wp2_with fail
      go_region_law (first | (refine step_appendB (by rfl) _ _ (by rfl) w.heap.size (.slice A3 k c3) (S.take k) (by rfl) own1 (wv.heap.size + 1) _ 1 1 [nth b k ^^^ nth z m] (by rfl) hr1 (by rw [Hy.out]; exact hcl) hB1 ?_; intro v2 w2 own2 gr2 at2))
      all_goals
        clear hr1 hB1 own1 hcl c1
        go_wp2
        go_roundw
        case rel =>
          rw [Hy.out] at own2 gr2
          exact ⟨k + 1, z, by have := hkn.out; omega, by go_num, by rw [Hcb.out], Lz.out, hd (fun h => by rw [← Hz.out]; congr 3; omega), by rw [Hnx.out]; exact own2, (H1.next (((Below.refl _ _).alloc (Nat.le_refl _) _).drew)).app (own.alloc _).drew gr2⟩
        case measure => have := hkn.out; simp [intOf] <;> omega
    · have ek : k = n := by omega
      subst ek
      have tk : ¬ (k : Int) < (k : Int) := by omega
      go_wp2
      go_ret
      exact ⟨_, rfl, by rw [List.take_of_length_le (by rw [HSl.out]; exact Nat.le_refl _)] at own; exact own, H1.old⟩
end Go.Proofs.Ytbcboldepghgpaa

namespace Go.Proofs.Ytbcboldepghgpaa
open Go.RowKit
namespace Rc
theorem rep_next (l : List UInt8) (j : Nat) : l ++ List.replicate j 0 ++ [0] = l ++ List.replicate (j + 1) 0 := by
  rw [List.append_assoc, List.replicate_succ']
theorem OwnB.old {w W : World} {v : Value} {l : List UInt8} {B : Nat} (_ : OwnB W B v l) (h : Below B w W) : B ≤ W.heap.size ∨ True := .inr trivial
def lenV (v : Value) : Nat := match v with | .slice _ n _ => n | _ => 0
def le16 (x : UInt64) (y : UInt64) (k : Nat) : List UInt8 := if k = 0 then [] else if k = 1 then Cha.le8 x else Cha.le8 x ++ Cha.le8 y
theorem le16_one (x y : UInt64) : le16 x y (0 + 1) = le16 x y 0 ++ Cha.le8 x := by unfold le16; simp
theorem le16_two (x y : UInt64) : le16 x y (1 + 1) = le16 x y 1 ++ Cha.le8 y := by unfold le16; simp
theorem le16_len (x y : UInt64) (k : Nat) (h : k ≤ 2) : (le16 x y k).length = 8 * k := by
  rcases (show k = 0 ∨ k = 1 ∨ k = 2 by omega) with rfl | rfl | rfl <;> simp [le16, Cha.le8, Cha.le8To_len]
theorem low8 (x : UInt64) (E : Nat) {w : World} {o : Oper} {ρ : Operand → Value} {a : Operand} (ho : o.op = .convert 37 5 a) (hx : ρ a = .int .u64 ((n64 (shr64 x E) : Nat) : Int)) : (execOp ρ o).run Try.prog w = .ok (.value (.int .u8 ((n8 (shr64 x E).toUInt8 : Nat) : Int))) w := by
  unfold execOp
  simp only [ho, hx]
  simp [go_sem, Try.underlying5, Try.underlying37]
end Rc
set_option maxHeartbeats 16000000 in
set_option maxRecDepth 100000 in
theorem Rc.tagged_any (A : Option Addr) (n c : Nat) (a : List UInt8) (D : Option Addr) (m d : Nat) (t : List UInt8) (w : World) (ha : ReadsB w w.heap.size A n a) (ht : ReadsB w w.heap.size D m t) (hs : n + m ≤ 140737488355200) :
    Calls Try.prog 64 #[.slice A n c, .slice D m d] w fun e w' => ∃ v, e = .returned v ∧ OwnB w' w.heap.size v (Cha.tagged a t) ∧ Below w.heap.size w w' := by
  have La := hd ha.len
  have Lt := hd ht.len
  have Hs := hd hs
  clear hs
  obtain ⟨pa, Hpa⟩ : ∃ x, Hd (Cha.padN n = x) := ⟨_, ⟨rfl⟩⟩
  obtain ⟨pm, Hpm⟩ : ∃ x, Hd (Cha.padN m = x) := ⟨_, ⟨rfl⟩⟩
  have Hpa2 := hd (show pa < 16 ∧ (n + pa) % 16 = 0 by have h := Hpa.out; unfold Cha.padN at h; omega)
  have Hpm2 := hd (show pm < 16 ∧ (m + pm) % 16 = 0 by have h := Hpm.out; unfold Cha.padN at h; omega)
  have own0 := OwnB.empty (w := w) (Nat.le_refl w.heap.size)
  have ha0 : ReadsB (w.alloc (.cells #[] 5)) w.heap.size A n a := ⟨ha.len, ha.is.alloc (Nat.le_refl _) _⟩
  have hcl0 : ([] : List UInt8).length + a.length ≤ 140737488355328 := by rw [La.out]; have := Hs.out; simp; omega
  have hB0 : w.heap.size ≤ (w.alloc (.cells #[] 5)).heap.size := by simp
  have hBw : Below w.heap.size w (w.alloc (.cells #[] 5)) := (Below.refl _ _).alloc (Nat.le_refl _) _
  go_enter Try.func64, Try.ntmps64
  go_wp2_with (at_builtin; refine wpl_appendB rfl _ _ rfl w.heap.size (.slice (some ⟨w.heap.size, 0, none⟩) 0 0) [] rfl own0 w.heap.size A n c a rfl ha0 hcl0 hB0 ?_; intro v1 w1 own1 gr1 at1)
  rw [List.nil_append] at own1
  have hb1 := below_appended hBw own0 gr1 (Nat.le_refl _) hB0
  clear gr1 at1 own0 ha0 hcl0 hB0 hBw
  go_loopw [5] (fun v wr => ∃ j : Nat, j ≤ pa ∧ OwnB wr w.heap.size v (a ++ List.replicate j 0) ∧ Below w.heap.size w wr) (fun v _ => n + pa - Rc.lenV v)
  case atStart => exact ⟨0, by omega, by rw [List.replicate_zero, List.append_nil]; exact own1, hb1⟩
  case round =>
    clear own1 hb1
    obtain ⟨j, hj, own1, hb1⟩ := hrel
    obtain ⟨A3, c3, e3⟩ := own1.slice
    obtain ⟨L, HL⟩ : ∃ x, Hd (n + j = x) := ⟨_, ⟨rfl⟩⟩
    have hlen : (a ++ List.replicate j (0 : UInt8)).length = L := by rw [List.length_append, List.length_replicate, La.out, HL.out]
    rw [hlen] at e3
    subst e3
    have Hlen := hd hlen
    clear hlen
    have HLb := hd (show L ≤ 140737488355300 by have := HL.out; have := Hs.out; have := Hpa2.out; have := Hpm2.out; omega)
    obtain ⟨M, HM⟩ : ∃ x, Hd (L % 16 = x) := ⟨_, ⟨rfl⟩⟩
    have em : (L : Int) % 16 = (M : Int) := by have := HM.out; omega
    have em2 : (L : Int).tmod 16 = (M : Int) := by rw [Int.tmod_eq_emod_of_nonneg (by omega)]; exact em
    by_cases hlt : j < pa
    · have hM0 : ¬ M = 0 := by have := HM.out; have := HL.out; have := Hpa2.out; have := Hpa2.out; omega
      have tM : ¬ (M : Int) = 0 := by omega
      have hr1 : ReadsB (wr.alloc (.cells #[.int .u8 0] 5)) (wr.heap.size + 1) (some ⟨wr.heap.size, 0, none⟩) 1 [0] := ReadsB.one wr 0
      have ownA := own1.alloc (.cells #[.int .u8 0] 5)
      have hcl : (a ++ List.replicate j (0 : UInt8)).length + [(0 : UInt8)].length ≤ 140737488355328 := by rw [Hlen.out]; have := HLb.out; simp; omega
      have hBA : w.heap.size ≤ (wr.alloc (.cells #[.int .u8 0] 5)).heap.size := by rw [alloc_size]; have := hb1.size; omega
      have hba := hb1.alloc hb1.size (.cells #[.int .u8 0] 5)
      have hMz := hd hM0
      clear hM0
      go_wp2_with (at_builtin; refine wpl_appendB rfl _ _ rfl w.heap.size (.slice A3 L c3) (a ++ List.replicate j 0) rfl ownA (wr.heap.size + 1) (some ⟨wr.heap.size, 0, none⟩) 1 1 [0] rfl hr1 hcl hBA ?_; intro v2 w2 own2 gr2 at2)
      rw [Rc.rep_next] at own2
      obtain ⟨A5, c5, e5⟩ := own2.slice
      have hlen2 : (a ++ List.replicate (j + 1) (0 : UInt8)).length = L + 1 := by rw [List.length_append, List.length_replicate, La.out]; have := HL.out; omega
      rw [hlen2] at e5
      subst e5
      go_roundw
      case rel => exact ⟨j + 1, by omega, own2, below_appended hba ownA gr2 (Nat.le_refl _) hBA⟩
      case measure => have := HL.out; simp [Rc.lenV]; omega
    · have ej : j = pa := by omega
      subst ej
      have hM0 : M = 0 := by have := HM.out; have := HL.out; have := Hpa2.out; have := Hpa2.out; omega
      subst hM0
      have tM : (L : Int) % 16 = 0 := em
      have ht0 : ReadsB wr w.heap.size D m t := ⟨ht.len, ht.is.below hb1⟩
      have hcl : (a ++ List.replicate j (0 : UInt8)).length + t.length ≤ 140737488355328 := by rw [Hlen.out, Lt.out]; have := HL.out; have := Hs.out; have := Hpa2.out; omega
      have hBs := hb1.size
      obtain ⟨base, Hbase⟩ : ∃ x, Hd (a ++ List.replicate j (0 : UInt8) ++ t = x) := ⟨_, ⟨rfl⟩⟩
      have Lbase := hd (show base.length = n + j + m by rw [← Hbase.out, List.length_append, Hlen.out, Lt.out, ← HL.out])
      go_wp2_with (at_builtin; refine wpl_appendB rfl _ _ rfl w.heap.size (.slice A3 L c3) (a ++ List.replicate j 0) rfl own1 w.heap.size D m d t rfl ht0 hcl hBs ?_; intro v2 w2 own2 gr2 at2)
      rw [Hbase.out] at own2
      have hb2 := below_appended hb1 own1 gr2 (Nat.le_refl _) hBs
      clear own1 hb1 gr2 at2 ht0 hcl hBs em em2 tM hlt HM HLb Hlen HL
      have own1 := own2
      have hb1 := hb2
      clear own2 hb2
      go_loopw [5] (fun v wr => ∃ i : Nat, i ≤ pm ∧ OwnB wr w.heap.size v (base ++ List.replicate i 0) ∧ Below w.heap.size w wr) (fun v _ => (n + j + m) + pm - Rc.lenV v)
      case atStart => exact ⟨0, by omega, by rw [List.replicate_zero, List.append_nil]; exact own1, hb1⟩
      case round =>
        clear own1 hb1
        obtain ⟨i, hi2, own1, hb1⟩ := hrel
        obtain ⟨A3, c3, e3⟩ := own1.slice
        obtain ⟨L, HL⟩ : ∃ x, Hd ((n + j + m) + i = x) := ⟨_, ⟨rfl⟩⟩
        have hlen : (base ++ List.replicate i (0 : UInt8)).length = L := by rw [List.length_append, List.length_replicate, Lbase.out, HL.out]
        rw [hlen] at e3
        subst e3
        have Hlen := hd hlen
        clear hlen
        have HLb := hd (show L ≤ 140737488355300 by have := HL.out; have := Hs.out; have := Hpa2.out; have := Hpm2.out; omega)
        obtain ⟨M, HM⟩ : ∃ x, Hd (L % 16 = x) := ⟨_, ⟨rfl⟩⟩
        have em : (L : Int) % 16 = (M : Int) := by have := HM.out; omega
        have em2 : (L : Int).tmod 16 = (M : Int) := by rw [Int.tmod_eq_emod_of_nonneg (by omega)]; exact em
        by_cases hlt : i < pm
        · have hM0 : ¬ M = 0 := by have := HM.out; have := HL.out; have := Hpm2.out; have := Hpa2.out; omega
          have tM : ¬ (M : Int) = 0 := by omega
          have hr1 : ReadsB (wr.alloc (.cells #[.int .u8 0] 5)) (wr.heap.size + 1) (some ⟨wr.heap.size, 0, none⟩) 1 [0] := ReadsB.one wr 0
          have ownA := own1.alloc (.cells #[.int .u8 0] 5)
          have hcl : (base ++ List.replicate i (0 : UInt8)).length + [(0 : UInt8)].length ≤ 140737488355328 := by rw [Hlen.out]; have := HLb.out; simp; omega
          have hBA : w.heap.size ≤ (wr.alloc (.cells #[.int .u8 0] 5)).heap.size := by rw [alloc_size]; have := hb1.size; omega
          have hba := hb1.alloc hb1.size (.cells #[.int .u8 0] 5)
          have hMz := hd hM0
          clear hM0
          go_wp2_with (at_builtin; refine wpl_appendB rfl _ _ rfl w.heap.size (.slice A3 L c3) (base ++ List.replicate i 0) rfl ownA (wr.heap.size + 1) (some ⟨wr.heap.size, 0, none⟩) 1 1 [0] rfl hr1 hcl hBA ?_; intro v2 w2 own2 gr2 at2)
          rw [Rc.rep_next] at own2
          obtain ⟨A5, c5, e5⟩ := own2.slice
          have hlen2 : (base ++ List.replicate (i + 1) (0 : UInt8)).length = L + 1 := by rw [List.length_append, List.length_replicate, Lbase.out]; have := HL.out; omega
          rw [hlen2] at e5
          subst e5
          go_roundw
          case rel => exact ⟨i + 1, by omega, own2, below_appended hba ownA gr2 (Nat.le_refl _) hBA⟩
          case measure => have := HL.out; simp [Rc.lenV]; omega
        · have ej : i = pm := by omega
          subst ej
          have hM0 : M = 0 := by have := HM.out; have := HL.out; have := Hpm2.out; have := Hpa2.out; omega
          subst hM0
          have tM : (L : Int) % 16 = 0 := em
          have Htg := hd (show Cha.tagged a t = base ++ List.replicate i 0 ++ Rc.le16 (UInt64.ofNat n) (UInt64.ofNat m) 2 by
            unfold Cha.tagged Rc.le16 Cha.pad
            rw [if_neg (by decide), if_neg (by decide), La.out, Lt.out, Hpa.out, Hpm.out, ← Hbase.out]
            simp only [List.append_assoc])
          obtain ⟨b2, Hb2⟩ : ∃ x, Hd (base ++ List.replicate i (0 : UInt8) = x) := ⟨_, ⟨rfl⟩⟩
          rw [Hb2.out] at own1 Htg Hlen
          have HLs := hd (show L + 16 ≤ 140737488355328 by have := HL.out; have := Hs.out; have := Hpa2.out; have := Hpm2.out; omega)
          have Hnm := hd (show n ≤ 140737488355328 ∧ m ≤ 140737488355328 by have := Hs.out; omega)
          obtain ⟨w9, rfl⟩ : ∃ w9 : World, w9 = wr := ⟨_, rfl⟩
          have bz0 : Blk (w9.alloc (.cells #[.int .i64 (n : Int), .int .i64 (m : Int)] 3)) w9.heap.size 3 #[.int .i64 (n : Int), .int .i64 (m : Int)] := Blk.nu rfl
          have own2 := own1.alloc (.cells #[.int .i64 (n : Int), .int .i64 (m : Int)] 3)
          have hb2 := hb1.alloc hb1.size (.cells #[.int .i64 (n : Int), .int .i64 (m : Int)] 3)
          clear own1 hb1
          go_wp2_with fail
          go_loopw [5, 35] (fun v q wr => ∃ k : Nat, k ≤ 2 ∧ q = .int .i64 ((k : Nat) : Int) ∧ OwnB wr w.heap.size v (b2 ++ Rc.le16 (UInt64.ofNat n) (UInt64.ofNat m) k) ∧ Blk wr w9.heap.size 3 #[.int .i64 (n : Int), .int .i64 (m : Int)] ∧ Below w.heap.size w wr) (fun _ q _ => 2 - (intOf q).toNat)
          case atStart => exact ⟨0, by omega, rfl, by unfold Rc.le16; rw [if_pos rfl, List.append_nil]; exact own2, bz0, hb2⟩
          case round =>
            clear own2 bz0 hb2
            obtain ⟨k, hk, rfl, own1, bz, hb1⟩ := hrel
            by_cases hlk : k < 2
            · have tk : (k : Int) < 2 := by omega
              obtain ⟨x, hxc, hxb, hxn⟩ : ∃ x : Nat, wr.cell? ⟨w9.heap.size, k, none⟩ = some (.int .i64 (x : Int)) ∧ x ≤ 140737488355328 ∧ Rc.le16 (UInt64.ofNat n) (UInt64.ofNat m) (k + 1) = Rc.le16 (UInt64.ofNat n) (UInt64.ofNat m) k ++ Cha.le8 (UInt64.ofNat x) := by
                rcases (show k = 0 ∨ k = 1 by omega) with rfl | rfl
                · exact ⟨n, bz.cell 0, Hnm.out.1, Rc.le16_one _ _⟩
                · exact ⟨m, bz.cell 1, Hnm.out.2, Rc.le16_two _ _⟩
              have Hxb := hd hxb
              have Hxn := hd hxn
              obtain ⟨lk, Hlk⟩ : ∃ y, Hd (Rc.le16 (UInt64.ofNat n) (UInt64.ofNat m) k = y) := ⟨_, ⟨rfl⟩⟩
              have Llk := hd (show lk.length ≤ 8 by rw [← Hlk.out, Rc.le16_len _ _ _ hk]; omega)
              rw [Hlk.out] at own1 Hxn
              clear hxb hxn
              go_wp2_with fail
              go_loopw [5, 8] (fun v q wr => ∃ i : Nat, i ≤ 8 ∧ q = .int .i64 ((i : Nat) : Int) ∧ OwnB wr w.heap.size v (b2 ++ lk ++ Cha.le8To (UInt64.ofNat x) i) ∧ Blk wr w9.heap.size 3 #[.int .i64 (n : Int), .int .i64 (m : Int)] ∧ Below w.heap.size w wr) (fun _ q _ => 8 - (intOf q).toNat)
              case atStart => exact ⟨0, by omega, rfl, by simpa [Cha.le8To] using own1, bz, hb1⟩
              case round =>
                clear own1 bz hb1 hxc
                obtain ⟨i, hi3, rfl, own1, bz, hb1⟩ := hrel
                by_cases hli : i < 8
                · have ti : (i : Int) < 8 := by omega
                  obtain ⟨E, HE⟩ : ∃ E, Hd (8 * i = E) := ⟨_, ⟨rfl⟩⟩
                  have HEb := hd (show E ≤ 64 by have := HE.out; omega)
                  obtain ⟨y, Hy⟩ : ∃ y, Hd ((shr64 (UInt64.ofNat x) E).toUInt8 = y) := ⟨_, ⟨rfl⟩⟩
                  have Hnx := hd (show b2 ++ lk ++ Cha.le8To (UInt64.ofNat x) (i + 1) = b2 ++ lk ++ Cha.le8To (UInt64.ofNat x) i ++ [y] by rw [Cha.le8To_next, HE.out, Hy.out, List.append_assoc (b2 ++ lk)])
                  obtain ⟨A6, c6, e6⟩ := own1.slice
                  obtain ⟨lo, Hlo⟩ : ∃ l, Hd (b2 ++ lk ++ Cha.le8To (UInt64.ofNat x) i = l) := ⟨_, ⟨rfl⟩⟩
                  rw [Hlo.out] at own1 e6 Hnx
                  subst e6
                  have hr1 := ReadsB.one wr y
                  have ownA := own1.alloc (.cells #[.int .u8 (n8 y)] 5)
                  have hcl : lo.length + [y].length ≤ 140737488355328 := by
                    rw [← Hlo.out, List.length_append, List.length_append, Cha.le8To_len, Hlen.out]
                    have := HLs.out; have := Llk.out; simp; omega
                  have hBA : w.heap.size ≤ (wr.alloc (.cells #[.int .u8 (n8 y)] 5)).heap.size := by rw [alloc_size]; have := hb1.size; omega
                  have hba := hb1.alloc hb1.size (.cells #[.int .u8 (n8 y)] 5)
                  go_wp2_with (first
                    | (with_reducible change wpList _ _ _ (⟨some 45, _, _, _, _, _⟩ :: _) _ _; refine wpl_run (o := ⟨some 45, _, _, _, _, _⟩) (wanted_plain rfl) (.int .u64 ((n64 (UInt64.ofNat x) : Nat) : Int)) (Cha.run_lenU (by rfl) x Hxb.out (by simp [Act.eval, Act.put])) ?_)
                    | (with_reducible change wpList _ _ _ (⟨some 47, _, _, _, _, _⟩ :: _) _ _; refine wpl_run (o := ⟨some 47, _, _, _, _, _⟩) (wanted_plain rfl) (.int .i64 ((E : Nat) : Int)) (Rc.mulN (by rfl) 8 i E HE.out (by have := HEb.out; omega) (by simp [Act.eval, Act.put]) (by simp [Act.eval, Act.put])) ?_)
                    | (with_reducible change wpList _ _ _ (⟨some 48, _, _, _, _, _⟩ :: _) _ _; refine wpl_run (o := ⟨some 48, _, _, _, _, _⟩) (wanted_plain rfl) (.int .u64 ((n64 (shr64 (UInt64.ofNat x) E) : Nat) : Int)) (Reg.shrV (by rfl) _ E (by simp [Act.eval, Act.put]) (by simp [Act.eval, Act.put])) ?_)
                    | (with_reducible change wpList _ _ _ (⟨some 49, _, _, _, _, _⟩ :: _) _ _; refine wpl_run (o := ⟨some 49, _, _, _, _, _⟩) (wanted_plain rfl) (.int .u8 ((n8 y : Nat) : Int)) (by rw [← Hy.out]; exact Rc.low8 _ E (by rfl) (by simp [Act.eval, Act.put])) ?_)
                    | (at_builtin; refine wpl_appendB rfl _ _ rfl w.heap.size (.slice A6 lo.length c6) lo rfl ownA (wr.heap.size + 1) (some ⟨wr.heap.size, 0, none⟩) 1 1 [y] rfl hr1 hcl hBA ?_; intro v2 w2 own2 gr2 at2))
                  go_roundw
                  case rel => exact ⟨i + 1, by omega, by go_num, by rw [Hnx.out]; exact own2, (bz.alloc _).appended ownA gr2 (by decide), below_appended hba ownA gr2 (Nat.le_refl _) hBA⟩
                  case measure => simp [intOf]; omega
                · have ei : i = 8 := by omega
                  subst ei
                  have ti : ¬ ((8 : Nat) : Int) < 8 := by omega
                  go_wp2
                  go_roundw
                  case rel => exact ⟨k + 1, by omega, by go_num, by rw [Hxn.out, ← List.append_assoc]; exact own1, bz, hb1⟩
                  case measure => simp [intOf]; omega
            · have ek : k = 2 := by omega
              subst ek
              have tk : ¬ ((2 : Nat) : Int) < 2 := by omega
              go_wp2
              go_ret
              exact ⟨_, rfl, by rw [Htg.out]; exact own1, hb1⟩
end Go.Proofs.Ytbcboldepghgpaa

namespace Go.Proofs.Ytbcboldepghgpaa
open Go.RowKit
namespace Rc
def cutB (b : List UInt8) (i : Nat) : List UInt8 := b.take i ++ List.replicate (32 - i) 0
theorem cutB_len (b : List UInt8) (hb : b.length = 64) (i : Nat) (hi : i ≤ 32) : (cutB b i).length = 32 := by
  rw [cutB, List.length_append, List.length_take, List.length_replicate]; omega
theorem cutB_next (b : List UInt8) (hb : b.length = 64) (i : Nat) (hi : i < 32) : (cutB b i).set i (nth b i) = cutB b (i + 1) := by
  have hl : (b.take i).length = i := by rw [List.length_take]; omega
  unfold cutB
  rw [List.set_append_right _ _ (by omega), hl, Nat.sub_self, take_next b i (by omega), show 32 - i = (32 - (i + 1)) + 1 by omega, List.replicate_succ, List.set_cons_zero, List.append_assoc]
  rfl
theorem cutB_all (b : List UInt8) : cutB b 32 = b.take 32 := by simp [cutB]
theorem zero32 : (Try.prog.info? 68).bind (·.zero) = some (.agg (arr (List.replicate 32 0))) := by kernel_rfl
structure Tk (w : World) (key nonce : List UInt8) (W : World) : Prop where
  bk : Blk W w.heap.size 68 (arr key)
  bn : Blk W (w.heap.size + 1) 25 (arr nonce)
  old : Below w.heap.size w W
section
variable {w W W' : World} {key nonce x : List UInt8}
theorem Tk.next (h : Tk w key nonce W) (hb : Below W.heap.size W W') : Tk w key nonce W' := ⟨h.bk.below hb h.bk.lt, h.bn.below hb h.bn.lt, h.old.trans (hb.mono h.old.size)⟩
theorem Tk.far (h : Tk w key nonce W) {z : Nat} (hz : w.heap.size + 1 < z) (i : Nat) (u : Value) : Tk w key nonce (W.setCell ⟨z, i, none⟩ u) := ⟨h.bk.far (by simp only []; omega) _, h.bn.far (by simp only []; omega) _, h.old.setCell (by simp only []; omega) _⟩
theorem Tk.farRow (h : Tk w key nonce W) {z : Nat} (hz : w.heap.size + 1 < z) (cs : Array Value) : Tk w key nonce (W.setRow z cs) := ⟨h.bk.farRow (by omega) _, h.bn.farRow (by omega) _, below_setRow h.old (by omega) _⟩
theorem Tk.app (h : Tk w key nonce W) {v : Value} {l : List UInt8} (ho : OwnB W w.heap.size v l) (hg : W.grownBy W' v.ownBlock) : Tk w key nonce W' :=
  ⟨h.bk.appended ho hg (by decide), h.bn.appended ho hg (by decide), below_appended h.old ho hg (Nat.le_refl _) h.old.size⟩
end
theorem enter_tagged (args : Array Value) (w : World) : (callFunc 64 args).run Try.prog w = .ok (.enter 64 args) w := by kernel_rfl
theorem enter_poly (args : Array Value) (w : World) : (callFunc 63 args).run Try.prog w = .ok (.enter 63 args) w := by kernel_rfl
section
variable {P : Program} {w : World} {o : Oper} {ρ : Operand → Value} {x y : Operand}
theorem run_alloc {ty : TypeId} {cs : Array Value} (ho : o.op = .alloc ty) (hz : (P.info? ty).bind (·.zero) = some (.agg cs)) : (execOp ρ o).run P w = .ok (.value (.pointer (some ⟨w.heap.size, 0, none⟩))) (w.alloc (.cells cs ty)) := by
  cases hq : P.info? ty with
  | none => simp [hq] at hz
  | some i =>
    have hz' : i.zero = some (.agg cs) := by simpa [hq] using hz
    unfold execOp
    simp only [ho]
    simp [go_sem, zeroValue, typeInfo, hq, hz', Value.cells]
    try rfl
theorem run_stA {ty : TypeId} (ho : o.op = .store ty x y) (g : Nat) (l : List UInt8) (hx : ρ x = .pointer (some ⟨g, 0, none⟩)) (hy : ρ y = .agg (arr l)) (t : TypeId) (cs : Array Value) (hb : Blk w g t cs) (n : Nat) (hi : (P.info? ty).map (·.size) = some n) (hl : l.length = n) (hn : cs.size = n) : (execOp ρ o).run P w = .ok .skip (w.setRow g (arr l)) := by
  have h := run_storeVar_at (P := P) hb 0 (l.map U8) (by rw [hi, List.length_map, hl]) (by rw [List.length_map]; omega) (by simp [Value.oneCell'])
  rw [splice_all cs _ (by rw [List.length_map]; omega)] at h
  unfold execOp
  simp only [ho, hx, hy, Instr.storeAt, Instr.sureAddr, Sem.run_bind, Sem.run_pure, Result.andThen_ok]
  exact (congrArg (fun r => Result.andThen r fun _ w' => Result.ok Next.skip w') h)
theorem run_slice16 (ho : o.op = .slice 104 x none none none) (z : Nat) (hx : ρ x = .pointer (some ⟨z, 0, none⟩)) : (execOp ρ o).run Try.prog w = .ok (.value (.slice (some ⟨z, 0, none⟩) 16 16)) w := by
  have hs : (Try.prog.info? 5).map (·.size) = some 1 := by kernel_rfl
  unfold execOp
  simp only [ho, hx]
  simp [go_sem, Instr.sliceAt, Instr.slice, Instr.sliceBounds, Instr.sliceBound, run_underlying Try.underlying104, run_sizeOf hs, asIntOf, Addr.add_zero']
end
end Rc
set_option maxHeartbeats 16000000 in
set_option maxRecDepth 100000 in
theorem Rc.tag_any (key nonce : List UInt8) (hk : key.length = 32) (hnn : nonce.length = 12) (A : Option Addr) (n c : Nat) (a : List UInt8) (D : Option Addr) (m d : Nat) (t : List UInt8) (w : World)
    (ha : ReadsB w w.heap.size A n a) (ht : ReadsB w w.heap.size D m t) (hs : n + m ≤ 140737488355200) :
    Calls Try.prog 48 #[.agg (arr key), .agg (arr nonce), .slice A n c, .slice D m d] w fun e w' => ∃ v, e = .returned v ∧ OwnB w' w.heap.size v (Cha.tag key nonce a t) ∧ Below w.heap.size w w' := by
  have HK := hd hk
  have HN := hd hnn
  have Hs := hd hs
  have Ha := hd ha
  have Ht := hd ht
  clear hk hnn hs ha ht
  obtain ⟨x, Hx⟩ : ∃ x, Hd (Cha.block key 0 nonce = x) := ⟨_, ⟨rfl⟩⟩
  have Lx := hd (show x.length = 64 by rw [← Hx.out, Cha.block_len])
  obtain ⟨tg, Htg⟩ : ∃ x, Hd (Cha.tagged a t = x) := ⟨_, ⟨rfl⟩⟩
  obtain ⟨u, Hu⟩ : ∃ y, Hd (Cha.poly (x.take 32) tg = y) := ⟨_, ⟨rfl⟩⟩
  have Lu := hd (show u.length = 16 by rw [← Hu.out, Cha.poly_len])
  have Hfin := hd (show Cha.tag key nonce a t = u by unfold Cha.tag; rw [Hx.out, Htg.out, Hu.out])
  have Ltg := hd (show tg.length ≤ 140737488355328 by
    rw [← Htg.out]
    unfold Cha.tagged
    simp only [List.length_append, Cha.pad_len, Cha.le8, Cha.le8To_len, Ha.out.len, Ht.out.len]
    have := Cha.padN_lt n; have := Cha.padN_lt m; have := Hs.out; omega)
  rw [Hfin.out]
  have hT0 : Rc.Tk w key nonce ((w.alloc (.cells (arr key) 68)).alloc (.cells (arr nonce) 25)) := ⟨(Blk.nu rfl).alloc _, Blk.nu (by simp), ((Below.refl _ _).alloc (by simp) _).alloc (by simp) _⟩
  have Hbk := hd (Rc.block_any key nonce 0 HK.out HN.out ((w.alloc (.cells (arr key) 68)).alloc (.cells (arr nonce) 25)))
  rw [Hx.out] at Hbk
  go_enter Try.func48, Try.ntmps48
  go_wp2_with (first
    | (refine wpl_load_arr rfl 68 _ rfl _ rfl 32 Rc.agg32 key HK.out hT0.bk.cells_arr ?_)
    | (refine wpl_load_arr rfl 25 _ rfl _ rfl 12 Rc.agg12 nonce HN.out hT0.bn.cells_arr ?_)
    | (go_at_call 62; refine Hbk.out.mono ?_; rintro e W2 ⟨rfl, hE⟩; have H2 := hT0.next hE; obtain ⟨z, Hz⟩ : ∃ z, Hd (W2.heap.size = z) := ⟨_, ⟨rfl⟩⟩; have hz := H2.bn.lt; rw [Hz.out] at hz)
    | (refine wpl_alloc rfl 111 rfl _ Cha.zero64 ?_; rw [Hz.out])
    | (refine wpl_store_arr rfl 111 _ _ rfl z x rfl rfl 111 _ (Blk.nu Hz.out.symm) 64 Cha.agg64.size Lx.out (by rw [arr_size, List.length_replicate]) ?_; refine wpl_name (fun W => Rc.Tk w key nonce W ∧ Blk W z 111 (arr x) ∧ W.heap.size = z + 1) ⟨(H2.next ((Below.refl _ _).alloc (Nat.le_refl _) _)).farRow hz _, (Blk.nu Hz.out.symm).setRow _, by simp [Hz.out]⟩ ?_; clear H2 hT0; rintro W3 ⟨H3, bx, hs3⟩)
    | (refine wpl_alloc rfl 68 rfl _ Rc.zero32 ?_; rw [hs3]; refine wpl_name (fun W => Rc.Tk w key nonce W ∧ Blk W z 111 (arr x) ∧ Blk W (z + 1) 68 (arr (List.replicate 32 0))) ⟨H3.next ((Below.refl _ _).alloc (Nat.le_refl _) _), bx.alloc _, Blk.nu hs3.symm⟩ ?_; clear H3 bx hs3; rintro W4 ⟨H4, bx, bo⟩))
  go_loopw [11] (fun i wr => ∃ k : Nat, k ≤ 32 ∧ i = .int .i64 (k : Int) ∧ Rc.Tk w key nonce wr ∧ Blk wr z 111 (arr x) ∧ Blk wr (z + 1) 68 (arr (Rc.cutB x k))) (fun i _ => 32 - (intOf i).toNat)
  case atStart => exact ⟨0, by omega, rfl, H4, bx, bo⟩
  case round =>
    clear H4 bx bo
    obtain ⟨k, hk, rfl, H4, bx, bo⟩ := hrel
    by_cases hlt : k < 32
    · have tk : (k : Int) < 32 := by omega
      have tk64 : (k : Int) < 64 := by omega
      have c1 := bx.arr_cell k (by rw [Lx.out]; omega)
      have c2 := bo.arr_cell k (by rw [Rc.cutB_len x Lx.out k hk]; exact hlt)
      have f2 := bo.frozen k
      have b2 := bo.arr_set k (nth x k)
      rw [Rc.cutB_next x Lx.out k hlt] at b2
      have H5 := H4.far (z := z + 1) (by omega) k (.int .u8 (n8 (nth x k)))
      have bx5 := bx.far (p := ⟨z + 1, k, none⟩) (by simp only []; omega) (.int .u8 (n8 (nth x k)))
      clear H4 bx bo
      go_wp2
      go_roundw
      case rel => exact ⟨k + 1, by omega, by go_num, H5, bx5, b2⟩
      case measure => simp [intOf]; omega
    · have ek : k = 32 := by omega
      subst ek
      have tk : ¬ ((32 : Nat) : Int) < 32 := by omega
      rw [Rc.cutB_all] at bo
      obtain ⟨on, Hon⟩ : ∃ y, Hd (x.take 32 = y) := ⟨_, ⟨rfl⟩⟩
      have Lon := hd (show on.length = 32 by rw [← Hon.out, List.length_take, Lx.out]; rfl)
      rw [Hon.out] at bo Hu
      go_wp2_with fail
      go_cut [12] (fun s12 wx => ∃ g, s12 = .pointer (some ⟨g, 0, none⟩) ∧ Blk wx g 104 (arr u) ∧ w.heap.size ≤ g ∧ Below w.heap.size w wx)
      case first =>
        have H5 : Rc.Tk w key nonce wr ∧ Blk wr (z + 1) 68 (arr on) := ⟨H4, bo⟩
        refine x_start 6 (fun W => Rc.Tk w key nonce W ∧ Blk W (z + 1) 68 (arr on)) (by kernel_rfl) ⟨H5.1.next (Below.refl _ _).drew, H5.2.drew⟩ ?_
        refine Reg.xt (v := .agg (arr on)) 0 (fun W hW => run_load_arr (by rfl) (by simp [Act.eval]) Rc.agg32 on Lon.out hW.2.cells_arr) (by kernel_rfl) rfl rfl (fun _ _ _ h => h) ?_
        simp only [PS]
        refine Reg.xt (v := .slice A n c) 1 (fun W hW => run_move (by rfl) (by simp [Act.eval]) W) (by kernel_rfl) rfl rfl (fun _ _ _ h => h) ?_
        simp only [PS]
        refine Reg.xt (v := .slice D m d) 2 (fun W hW => run_move (by rfl) (by simp [Act.eval]) W) (by kernel_rfl) rfl rfl (fun _ _ _ h => h) ?_
        simp only [PS]
        refine x_two 3 5 (by kernel_rfl) (fun W hW hX => ?_) (fun W hW hX => ?_)
        · refine op_call (o := _) rfl (wanted_plain rfl) 64 _ _ rfl #[.slice A n c, .slice D m d] (by simp [Act.eval]) (Rc.enter_tagged _) ?_
          refine (Rc.tagged_any A n c a D m d t W ⟨Ha.out.len, (Ha.out.is.below hW.1.old).more hW.1.old.size⟩ ⟨Ht.out.len, (Ht.out.is.below hW.1.old).more hW.1.old.size⟩ Hs.out).mono ?_
          rintro e W5 ⟨v1, rfl, own1, hE⟩
          rw [Htg.out] at own1
          obtain ⟨A9, c9, e9⟩ := own1.slice
          subst e9
          have own1 := own1.low hW.1.old.size
          refine ⟨_, rfl, NextX.mk (fun W => Rc.Tk w key nonce W ∧ Blk W (z + 1) 68 (arr on)) (fun W => OwnB W w.heap.size (.slice A9 tg.length c9) tg) (fun _ h => h) ⟨hW.1.next hE, hW.2.below hE hW.2.lt⟩ (own1) ?_⟩
          clear hE hW hX
          simp only [PS]
          refine x_two 4 5 (by kernel_rfl) (fun W hW hX => ?_) (fun W hW hX => ?_)
          · refine op_call (o := _) rfl (wanted_plain rfl) 63 _ _ rfl #[.agg (arr on), .slice A9 tg.length c9] (by simp [Act.eval]) (Rc.enter_poly _) ?_
            refine (Rc.poly_any on Lon.out A9 tg.length c9 tg W (hX).reads_any.2 Ltg.out).mono ?_
            rintro e W5 ⟨rfl, hE⟩
            rw [Hu.out]
            refine ⟨_, rfl, NextX.mk (fun W => Rc.Tk w key nonce W ∧ Blk W (z + 1) 68 (arr on)) (fun _ => True) (fun _ h => h) ⟨hW.1.next hE, hW.2.below hE hW.2.lt⟩ (trivial) ?_⟩
            clear hE hW hX
            simp only [PS]
            refine x_one 5 (by kernel_rfl) (fun W hW hX => ?_)
            obtain ⟨y, Hy⟩ : ∃ y, Hd (W.heap.size = y) := ⟨_, ⟨rfl⟩⟩
            have hyb := hW.1.old.size
            rw [Hy.out] at hyb
            refine op_do (o := _) rfl (wanted_plain rfl) (.pointer (some ⟨y, 0, none⟩)) (W.alloc (.cells (arr (List.replicate 16 0)) 104)) (by rw [← Hy.out]; exact Rc.run_alloc (by rfl) Rc.zero16) ?_
            refine NextX.mk (fun W => Rc.Tk w key nonce W ∧ Blk W (z + 1) 68 (arr on)) (fun W => Blk W y 104 (arr (List.replicate 16 0))) (fun _ h => h) ⟨hW.1.next ((Below.refl _ _).alloc (Nat.le_refl _) _), hW.2.alloc _⟩ (Blk.nu Hy.out.symm) ?_
            clear hW hX
            simp only [PS]
            refine x_last (by kernel_rfl) (by kernel_rfl) (fun W hW hX => ?_) _
            refine op_skip (o := _) rfl (wanted_plain rfl) _ (Rc.run_stA (by rfl) y u (by simp [Act.eval]) (by simp [Act.eval]) 104 _ (hX) 16 Rc.agg16.size Lu.out (by rw [arr_size, List.length_replicate])) ?_
            simp only [PS]
            have hB := below_setRow hW.1.old hyb (arr u)
            have b9 := (hX).setRow (arr u)
            clear hW hX
            go_wp2_with fail
            go_meet
            exact ⟨y, rfl, b9, hyb, hB⟩
          · obtain ⟨y, Hy⟩ : ∃ y, Hd (W.heap.size = y) := ⟨_, ⟨rfl⟩⟩
            have hyb := hW.1.old.size
            rw [Hy.out] at hyb
            refine op_do (o := _) rfl (wanted_plain rfl) (.pointer (some ⟨y, 0, none⟩)) (W.alloc (.cells (arr (List.replicate 16 0)) 104)) (by rw [← Hy.out]; exact Rc.run_alloc (by rfl) Rc.zero16) ?_
            refine NextX.mk (fun W => Rc.Tk w key nonce W ∧ Blk W (z + 1) 68 (arr on)) (fun W => Blk W y 104 (arr (List.replicate 16 0)) ∧ OwnB W w.heap.size (.slice A9 tg.length c9) tg) (fun _ h => h) ⟨hW.1.next ((Below.refl _ _).alloc (Nat.le_refl _) _), hW.2.alloc _⟩ (⟨Blk.nu Hy.out.symm, hX.alloc _⟩) ?_
            clear hW hX
            simp only [PS]
            refine x_one 4 (by kernel_rfl) (fun W hW hX => ?_)
            refine op_call (o := _) rfl (wanted_plain rfl) 63 _ _ rfl #[.agg (arr on), .slice A9 tg.length c9] (by simp [Act.eval]) (Rc.enter_poly _) ?_
            refine (Rc.poly_any on Lon.out A9 tg.length c9 tg W (hX.2).reads_any.2 Ltg.out).mono ?_
            rintro e W5 ⟨rfl, hE⟩
            rw [Hu.out]
            refine ⟨_, rfl, NextX.mk (fun W => Rc.Tk w key nonce W ∧ Blk W (z + 1) 68 (arr on)) (fun W => Blk W y 104 (arr (List.replicate 16 0))) (fun _ h => h) ⟨hW.1.next hE, hW.2.below hE hW.2.lt⟩ (hX.1.below hE hX.1.lt) ?_⟩
            clear hE hW hX
            simp only [PS]
            refine x_last (by kernel_rfl) (by kernel_rfl) (fun W hW hX => ?_) _
            refine op_skip (o := _) rfl (wanted_plain rfl) _ (Rc.run_stA (by rfl) y u (by simp [Act.eval]) (by simp [Act.eval]) 104 _ (hX) 16 Rc.agg16.size Lu.out (by rw [arr_size, List.length_replicate])) ?_
            simp only [PS]
            have hB := below_setRow hW.1.old hyb (arr u)
            have b9 := (hX).setRow (arr u)
            clear hW hX
            go_wp2_with fail
            go_meet
            exact ⟨y, rfl, b9, hyb, hB⟩
        · obtain ⟨y, Hy⟩ : ∃ y, Hd (W.heap.size = y) := ⟨_, ⟨rfl⟩⟩
          have hyb := hW.1.old.size
          rw [Hy.out] at hyb
          refine op_do (o := _) rfl (wanted_plain rfl) (.pointer (some ⟨y, 0, none⟩)) (W.alloc (.cells (arr (List.replicate 16 0)) 104)) (by rw [← Hy.out]; exact Rc.run_alloc (by rfl) Rc.zero16) ?_
          refine NextX.mk (fun W => Rc.Tk w key nonce W ∧ Blk W (z + 1) 68 (arr on)) (fun W => Blk W y 104 (arr (List.replicate 16 0))) (fun _ h => h) ⟨hW.1.next ((Below.refl _ _).alloc (Nat.le_refl _) _), hW.2.alloc _⟩ (Blk.nu Hy.out.symm) ?_
          clear hW hX
          simp only [PS]
          refine x_one 3 (by kernel_rfl) (fun W hW hX => ?_)
          refine op_call (o := _) rfl (wanted_plain rfl) 64 _ _ rfl #[.slice A n c, .slice D m d] (by simp [Act.eval]) (Rc.enter_tagged _) ?_
          refine (Rc.tagged_any A n c a D m d t W ⟨Ha.out.len, (Ha.out.is.below hW.1.old).more hW.1.old.size⟩ ⟨Ht.out.len, (Ht.out.is.below hW.1.old).more hW.1.old.size⟩ Hs.out).mono ?_
          rintro e W5 ⟨v1, rfl, own1, hE⟩
          rw [Htg.out] at own1
          obtain ⟨A9, c9, e9⟩ := own1.slice
          subst e9
          have own1 := own1.low hW.1.old.size
          refine ⟨_, rfl, NextX.mk (fun W => Rc.Tk w key nonce W ∧ Blk W (z + 1) 68 (arr on)) (fun W => Blk W y 104 (arr (List.replicate 16 0)) ∧ OwnB W w.heap.size (.slice A9 tg.length c9) tg) (fun _ h => h) ⟨hW.1.next hE, hW.2.below hE hW.2.lt⟩ (⟨hX.below hE hX.lt, own1⟩) ?_⟩
          clear hE hW hX
          simp only [PS]
          refine x_one 4 (by kernel_rfl) (fun W hW hX => ?_)
          refine op_call (o := _) rfl (wanted_plain rfl) 63 _ _ rfl #[.agg (arr on), .slice A9 tg.length c9] (by simp [Act.eval]) (Rc.enter_poly _) ?_
          refine (Rc.poly_any on Lon.out A9 tg.length c9 tg W (hX.2).reads_any.2 Ltg.out).mono ?_
          rintro e W5 ⟨rfl, hE⟩
          rw [Hu.out]
          refine ⟨_, rfl, NextX.mk (fun W => Rc.Tk w key nonce W ∧ Blk W (z + 1) 68 (arr on)) (fun W => Blk W y 104 (arr (List.replicate 16 0))) (fun _ h => h) ⟨hW.1.next hE, hW.2.below hE hW.2.lt⟩ (hX.1.below hE hX.1.lt) ?_⟩
          clear hE hW hX
          simp only [PS]
          refine x_last (by kernel_rfl) (by kernel_rfl) (fun W hW hX => ?_) _
          refine op_skip (o := _) rfl (wanted_plain rfl) _ (Rc.run_stA (by rfl) y u (by simp [Act.eval]) (by simp [Act.eval]) 104 _ (hX) 16 Rc.agg16.size Lu.out (by rw [arr_size, List.length_replicate])) ?_
          simp only [PS]
          have hB := below_setRow hW.1.old hyb (arr u)
          have b9 := (hX).setRow (arr u)
          clear hW hX
          go_wp2_with fail
          go_meet
          exact ⟨y, rfl, b9, hyb, hB⟩
      case rest =>
      obtain ⟨y, rfl, b9, hyb, hB9⟩ := hcut
      have own0 := OwnB.empty (w := wc) (Nat.le_refl wc.heap.size)
      have hr1 : ReadsB (wc.alloc (.cells #[] 5)) wc.heap.size (some ⟨y, 0, none⟩) 16 u := by
        have h := Cha.blk_reads b9 Lu.out b9.lt
        exact ⟨h.len, h.is.alloc (Nat.le_refl _) _⟩
      have hcl : ([] : List UInt8).length + u.length ≤ 140737488355328 := by rw [Lu.out]; decide
      have hBs : wc.heap.size ≤ (wc.alloc (.cells #[] 5)).heap.size := by simp
      have hBa : Below wc.heap.size wc (wc.alloc (.cells #[] 5)) := (Below.refl _ _).alloc (Nat.le_refl _) _
      go_wp2_with (first
        | (with_reducible change wpList _ _ _ (⟨some 31, _, _, _, _, _⟩ :: _) _ _; refine wpl_run (o := ⟨some 31, _, _, _, _, _⟩) (wanted_plain rfl) (.slice (some ⟨y, 0, none⟩) 16 16) (Rc.run_slice16 (by rfl) y (by simp [Act.eval, Act.put])) ?_)
        | (at_builtin; refine wpl_appendB rfl _ _ rfl wc.heap.size (.slice (some ⟨wc.heap.size, 0, none⟩) 0 0) [] rfl own0 wc.heap.size (some ⟨y, 0, none⟩) 16 16 u rfl hr1 hcl hBs ?_; intro v4 w4 own4 gr4 at4))
      go_ret
      rw [List.nil_append] at own4
      exact ⟨_, rfl, own4.low hB9.size, hB9.trans ((below_appended hBa own0 gr4 (Nat.le_refl _) hBs).mono hB9.size)⟩
end Go.Proofs.Ytbcboldepghgpaa

namespace Go.Proofs.Ytbcboldepghgpaa
open Go.RowKit
theorem Rc.enter_tag (args : Array Value) (w : World) : (callFunc 48 args).run Try.prog w = .ok (.enter 48 args) w := by kernel_rfl
set_option maxHeartbeats 8000000 in
set_option maxRecDepth 100000 in
theorem Rc.seal_any (key nonce : List UInt8) (hk : key.length = 32) (hnn : nonce.length = 12) (D : Option Addr) (p q : Nat) (aside : List UInt8) (E : Option Addr) (m d : Nat) (text : List UInt8) (w : World)
    (ha : ReadsB w w.heap.size D p aside) (ht : ReadsB w w.heap.size E m text) (hs : p + m ≤ 140737488355200) :
    Calls Try.prog 29 #[.agg (arr key), .agg (arr nonce), .slice D p q, .slice E m d] w fun e w' => ∃ v, e = .returned v ∧ OwnB w' w.heap.size v (Cha.lock key nonce aside text) ∧ Below w.heap.size w w' := by
  have HK := hd hk
  have HN := hd hnn
  have Lt := hd ht.len
  clear hk hnn
  obtain ⟨md, Hmd⟩ : ∃ x, Hd (Cha.stream key 1 nonce text = x) := ⟨_, ⟨rfl⟩⟩
  have Lmd := hd (show md.length = m by rw [← Hmd.out, Cha.stream_len, Lt.out])
  obtain ⟨tg, Htg⟩ : ∃ x, Hd (Cha.tag key nonce aside md = x) := ⟨_, ⟨rfl⟩⟩
  have Ltg := hd (show tg.length = 16 by rw [← Htg.out, Cha.tag_len])
  have Hfin := hd (show Cha.lock key nonce aside text = md ++ tg by unfold Cha.lock; rw [Hmd.out, Htg.out])
  have H0 : Cha.Oc w key nonce D p aside E m text _ := Cha.Oc.first ha ht
  have lim := hd hs
  go_enter Try.func29, Try.ntmps29
  go_wp2_with (first | (refine wpl_load_arr rfl 68 _ rfl _ rfl 32 Rc.agg32 key HK.out H0.bk.cells_arr ?_) | (refine wpl_load_arr rfl 25 _ rfl _ rfl 12 Rc.agg12 nonce HN.out H0.bn.cells_arr ?_))
  refine (Rc.stream_any key nonce 1 HK.out HN.out E m d text _ H0.rt (by have := lim.out; omega)).mono ?_
  rintro e W1 ⟨v1, rfl, own1, hE1⟩
  rw [Hmd.out] at own1
  have H1 := H0.next hE1
  have hb1 := H0.old.size
  have hlo := hE1.size
  clear H0 hE1
  obtain ⟨A1, c1, e1⟩ := own1.slice
  rw [Lmd.out] at e1
  subst e1
  have hmd : ReadsB W1 W1.heap.size A1 m md := by have h := own1.reads_any; exact ⟨Lmd.out, h.2.is⟩
  go_wp2_with (first | (refine wpl_load_arr rfl 68 _ rfl _ rfl 32 Rc.agg32 key HK.out H1.bk.cells_arr ?_) | (refine wpl_load_arr rfl 25 _ rfl _ rfl 12 Rc.agg12 nonce HN.out H1.bn.cells_arr ?_))
  refine (Rc.tag_any key nonce HK.out HN.out D p q aside A1 m c1 md _ H1.ra hmd lim.out).mono ?_
  rintro e W2 ⟨v2, rfl, by2, hE2⟩
  rw [Htg.out] at by2
  obtain ⟨A2, c2, e2⟩ := by2.slice
  rw [Ltg.out] at e2
  subst e2
  have own2 := own1.later hE2
  have old2 := H1.old.trans (hE2.mono H1.old.size)
  have hsz := hE2.size
  have hr2 : ReadsB W2 W2.heap.size A2 16 tg := by2.reads_any.2
  have hl2 : md.length + tg.length ≤ 140737488355328 := by rw [Lmd.out, Ltg.out]; have := lim.out; omega
  have own3 := own2.low (B' := w.heap.size) hb1
  go_wp2_with (at_builtin; refine wpl_appendB rfl _ _ rfl w.heap.size (.slice A1 m c1) md rfl own3 W2.heap.size A2 16 c2 tg rfl hr2 hl2 old2.size ?_; intro v3 W3 own4 gr4 at4)
  go_ret
  exact ⟨v3, rfl, by rw [Hfin.out]; exact own4, below_appended old2 own3 gr4 (Nat.le_refl _) old2.size⟩
set_option maxHeartbeats 8000000 in
set_option maxRecDepth 100000 in
theorem Rc.open_any (key nonce : List UInt8) (hk : key.length = 32) (hnn : nonce.length = 12) (D : Option Addr) (p q : Nat) (aside : List UInt8) (E : Option Addr) (m d : Nat) (sealed : List UInt8) (w : World)
    (ha : ReadsB w w.heap.size D p aside) (ht : ReadsB w w.heap.size E m sealed) (hmd : m ≤ d) (hs : p + m ≤ 140737488355200) :
    Calls Try.prog 32 #[.agg (arr key), .agg (arr nonce), .slice D p q, .slice E m d] w fun e w' => Cha.Opened w (Cha.unlock key nonce aside sealed) e w' := by
  have HK := hd hk
  have HN := hd hnn
  have Htl := hd ht.len
  have lim := hd hs
  clear hk hnn hs
  have hS : Cha.Oc w key nonce D p aside E m sealed _ := Cha.Oc.first ha ht
  go_enter Try.func32, Try.ntmps32
  by_cases hsh : m < 16
  · have Hu := hd (show Cha.unlock key nonce aside sealed = none by unfold Cha.unlock; rw [Htl.out, if_pos hsh])
    have t1 : (m : Int) < 16 := by omega
    go_wp2
    go_ret2
    rw [Hu.out]
    exact ⟨rfl, hS.old⟩
  · obtain ⟨k, rfl⟩ : ∃ k, m = k + 16 := ⟨m - 16, by omega⟩
    obtain ⟨ad, hE, had, _⟩ := ht.cell (k := 0) (by omega)
    subst hE
    clear had
    obtain ⟨md, Hmd⟩ : ∃ l, Hd (sealed.take k = l) := ⟨_, ⟨rfl⟩⟩
    obtain ⟨dr, Hdr⟩ : ∃ l, Hd (sealed.drop k = l) := ⟨_, ⟨rfl⟩⟩
    obtain ⟨tg, Htg⟩ : ∃ t, Hd (Cha.tag key nonce aside md = t) := ⟨_, ⟨rfl⟩⟩
    have Htgl := hd (show tg.length = 16 by rw [← Htg.out]; exact Cha.tag_len _ _ _ _)
    obtain ⟨cr, Hcc⟩ : ∃ t, Hd (Cha.stream key 1 nonce md = t) := ⟨_, ⟨rfl⟩⟩
    have Hu := hd (show Cha.unlock key nonce aside sealed = if tg = dr then some cr else none by
      unfold Cha.unlock
      rw [Htl.out, if_neg hsh, show k + 16 - 16 = k by omega, Hmd.out, Hdr.out, Htg.out, Hcc.out])
    have e1 : ((k + 16 : Nat) : Int) - 16 = (k : Int) := by omega
    have hkl := lim.out
    have e2 : IntKind.i64.wrap (k : Int) = (k : Int) := IntWalk.i64_in _ (by omega)
    have E2 := hd (show IntKind.i64.wrap (((k + 16 : Nat) : Int) - 16) = (k : Int) by rw [e1, e2])
    have t1 : ¬ ((k + 16 : Nat) : Int) < 16 := by omega
    clear hkl
    go_wp2_with (refine wpl_valueGd (run_slice_to rfl Try.underlying24 u8_one (some ad) (k + 16) d k rfl rfl (by omega)) rfl ?_)
    refine wp_region_held_drew (S := Cha.Oc w key nonce D p aside (some ad) (k + 16) sealed) (by kernel_rfl) hS.drew ?_
    intro hS1
    clear hS
    refine held_take 0 (o := _) rfl (by kernel_rfl) (by kernel_rfl) (by kernel_rfl) rfl (.agg (arr key)) (fun _ _ _ h => h) (fun W hW => run_load_arr (by rfl) (by simp [Act.eval]) Rc.agg32 key HK.out (Cha.Oc.bk hW).cells_arr) (by assumption) ?_
    simp only [PS]
    refine held_take 1 (o := _) rfl (by kernel_rfl) (by kernel_rfl) (by kernel_rfl) rfl (.agg (arr nonce)) (fun _ _ _ h => h) (fun W hW => run_load_arr (by rfl) (by simp [Act.eval]) Rc.agg12 nonce HN.out (Cha.Oc.bn hW).cells_arr) (by assumption) ?_
    simp only [PS]
    refine held_take 2 (o := _) rfl (by kernel_rfl) (by kernel_rfl) (by kernel_rfl) rfl (.slice D p q) (fun _ _ _ h => h) (fun W hW => run_move (by rfl) (by simp [Act.eval]) W) (by assumption) ?_
    simp only [PS]
    refine held_take 3 (o := _) rfl (by kernel_rfl) (by kernel_rfl) (by kernel_rfl) rfl (.slice (some ad) k d) (fun _ _ _ h => h) (fun W hW => run_move (by rfl) (by simp [Act.eval]) W) (by assumption) ?_
    simp only [PS]
    refine held_take 6 (o := _) rfl (by kernel_rfl) (by kernel_rfl) (by kernel_rfl) rfl (.slice (some ad) (k + 16) d) (fun _ _ _ h => h) (fun W hW => run_move (by rfl) (by simp [Act.eval]) W) (by assumption) ?_
    simp only [PS]
    refine held_take 7 (o := _) rfl (by kernel_rfl) (by kernel_rfl) (by kernel_rfl) rfl (.slice (some ad) (k + 16) d) (fun _ _ _ h => h) (fun W hW => run_move (by rfl) (by simp [Act.eval]) W) (by assumption) ?_
    simp only [PS]
    refine held_take 8 (o := _) rfl (by kernel_rfl) (by kernel_rfl) (by kernel_rfl) rfl (.int .i64 ((k + 16 : Nat) : Int)) (fun _ _ _ h => h) (fun W hW => run_lenB (a := some ad) (c := d) (by rfl) (by simp [Act.eval]) ⟨_, Try.underlying24⟩) (by assumption) ?_
    simp only [PS]
    refine held_take 9 (o := _) rfl (by kernel_rfl) (by kernel_rfl) (by kernel_rfl) rfl (.int .i64 (k : Int)) (fun _ _ _ h => h) (fun W hW => run_subI (by rfl) ((k + 16 : Nat) : Int) 16 (k : Int) (by simp [Act.eval]) (by simp [Act.eval]) E2.out) (by assumption) ?_
    simp only [PS]
    refine held_take 10 (o := _) rfl (by kernel_rfl) (by kernel_rfl) (by kernel_rfl) rfl (.slice (some (ad.add k)) 16 (d - k)) (fun _ _ _ h => h) (fun W hW => run_slice_lo (by rfl) Try.underlying24 u8_one ad (k + 16) d k 16 (by simp [Act.eval]) (by simp [Act.eval]) (by omega) (by omega)) (by assumption) ?_
    simp only [PS]
    refine held_take 11 (o := _) rfl (by kernel_rfl) (by kernel_rfl) (by kernel_rfl) rfl (.string (str dr)) (fun _ _ _ h => h) (fun W hW => run_toStr (by rfl) Try.underlying24 Try.underlying5 Try.underlying9 _ (some (ad.add k)) 16 (d - k) dr (by simp [Act.eval]) (by have h := (Cha.Oc.rt hW).drop (k := k) (c := d) (by omega) (by omega); rw [if_neg (by omega), Hdr.out, show k + 16 - k = 16 by omega] at h; exact h)) (by assumption) ?_
    simp only [PS]
    refine held_callG 4 (by kernel_rfl) (o := _) rfl (by simp [Region.wanted, yielded]) 48 _ _ rfl #[.agg (arr key), .agg (arr nonce), .slice D p q, .slice (some ad) k d] (by simp [Act.eval]) (Rc.enter_tag _) ?_
    refine (Rc.tag_any key nonce HK.out HN.out D p q aside (some ad) k d md _ hS1.ra (by rw [← Hmd.out]; exact hS1.rt.take (by omega)) (by have := lim.out; omega)).mono ?_
    rintro e w5 ⟨v5, rfl, own5, hB5⟩
    rw [Htg.out] at own5
    obtain ⟨A5, c5, e5⟩ := own5.slice
    rw [Htgl.out] at e5
    subst e5
    have r5 := own5.reads_any.2
    refine ⟨_, rfl, hS1.next hB5, ?_⟩
    intro hS5
    clear hS1 hB5 own5
    simp only [PS]
    refine held_do 5 (by kernel_rfl) (o := _) rfl (by simp [Region.wanted, yielded]) (.string (str tg)) w5 (run_toStr (by rfl) Try.underlying24 Try.underlying5 Try.underlying9 _ A5 16 c5 tg (by simp [Act.eval]) r5) hS5 ?_
    intro _
    simp only [PS]
    by_cases hq : tg = dr
    · have Heq := hd hq
      have Hqq := hd (decide_eq_true hq)
      clear hq
      refine held_take 12 (o := _) rfl (by kernel_rfl) (by kernel_rfl) (by kernel_rfl) rfl (.bool false) (fun _ _ _ h => h) (fun W hW => run_neqStr (by rfl) tg dr (by simp [Act.eval]) (by simp [Act.eval]) true Hqq.out) (by assumption) ?_
      simp only [PS]
      refine wpAnyH_done (by kernel_rfl) ?_ _
      go_wp2_with (first | (refine wpl_load_arr rfl 68 _ rfl _ rfl 32 Rc.agg32 key HK.out hS5.bk.cells_arr ?_) | (refine wpl_load_arr rfl 25 _ rfl _ rfl 12 Rc.agg12 nonce HN.out hS5.bn.cells_arr ?_))
      refine (Rc.stream_any key nonce 1 HK.out HN.out (some ad) k d md _ (by rw [← Hmd.out]; exact hS5.rt.take (by omega)) (by have := lim.out; omega)).mono ?_
      rintro e w8 ⟨v8, rfl, own8, hB8⟩
      rw [Hcc.out] at own8
      have hold := hS5.old.size
      have hold2 := hS5.old.trans (hB8.mono hold)
      go_wp2
      go_ret2
      rw [Hu.out, if_pos Heq.out]
      exact ⟨v8, rfl, own8.low hold, hold2⟩
    · have Hne := hd hq
      have Hqq := hd (decide_eq_false hq)
      clear hq
      refine held_take 12 (o := _) rfl (by kernel_rfl) (by kernel_rfl) (by kernel_rfl) rfl (.bool true) (fun _ _ _ h => h) (fun W hW => run_neqStr (by rfl) tg dr (by simp [Act.eval]) (by simp [Act.eval]) false Hqq.out) (by assumption) ?_
      simp only [PS]
      refine wpAnyH_done (by kernel_rfl) ?_ _
      go_wp2
      go_ret2
      rw [Hu.out, if_neg Hne.out]
      exact ⟨rfl, hS5.old⟩
end Go.Proofs.Ytbcboldepghgpaa

namespace Go.Proofs.Ytbcboldepghgpaa
open Go.RowKit
namespace Rc
def keyK (b : List UInt8) (i : Nat) : List UInt8 := b.take i ++ List.replicate (32 - i) 0
theorem keyK_len (b : List UInt8) (hb : b.length = 32) (i : Nat) (hi : i ≤ 32) : (keyK b i).length = 32 := by
  rw [keyK, List.length_append, List.length_take, List.length_replicate]; omega
theorem keyK_next (b : List UInt8) (hb : b.length = 32) (i : Nat) (hi : i < 32) : (keyK b i).set i (nth b i) = keyK b (i + 1) := by
  have hl : (b.take i).length = i := by rw [List.length_take]; omega
  unfold keyK
  rw [List.set_append_right _ _ (by omega), hl, Nat.sub_self, take_next b i (by omega), show 32 - i = (32 - (i + 1)) + 1 by omega, List.replicate_succ, List.set_cons_zero, List.append_assoc]
  rfl
theorem keyK_all (b : List UInt8) (hb : b.length = 32) : keyK b 32 = b := by simp [keyK, List.take_of_length_le (Nat.le_of_eq hb)]
structure Os (w : World) (nonce : List UInt8) (A : Option Addr) (n : Nat) (key : List UInt8) (D : Option Addr) (p : Nat) (aside : List UInt8) (E : Option Addr) (m : Nat) (text : List UInt8) (W : World) : Prop where
  bn : Blk W w.heap.size 25 (arr nonce)
  rk : ReadsB W W.heap.size A n key
  ra : ReadsB W W.heap.size D p aside
  rt : ReadsB W W.heap.size E m text
  old : Below w.heap.size w W
theorem Os.next {w : World} {nonce : List UInt8} {A : Option Addr} {n : Nat} {key : List UInt8} {D : Option Addr} {p : Nat} {aside : List UInt8} {E : Option Addr} {m : Nat} {text : List UInt8} {W W' : World} (h : Os w nonce A n key D p aside E m text W) (hb : Below W.heap.size W W') : Os w nonce A n key D p aside E m text W' :=
  ⟨h.bn.below hb h.bn.lt, h.rk.onward hb, h.ra.onward hb, h.rt.onward hb, h.old.trans (hb.mono h.old.size)⟩
theorem enter_whole (args : Array Value) (w : World) : (callFunc 30 args).run Try.prog w = .ok (.enter 30 args) w := by kernel_rfl
theorem enter_seal (args : Array Value) (w : World) : (callFunc 29 args).run Try.prog w = .ok (.enter 29 args) w := by kernel_rfl
theorem enter_open (args : Array Value) (w : World) : (callFunc 32 args).run Try.prog w = .ok (.enter 32 args) w := by kernel_rfl
end Rc
set_option maxHeartbeats 4000000 in
set_option maxRecDepth 100000 in
theorem Rc.whole_any (A : Option Addr) (c : Nat) (key : List UInt8) (w : World) (hr : ReadsB w w.heap.size A 32 key) :
    Calls Try.prog 30 #[.slice A 32 c] w fun e w' => e = .returned (.agg (arr key)) ∧ Below w.heap.size w w' := by
  have Hl := hd hr.len
  have Hr := hd hr
  clear hr
  go_enter Try.func30, Try.ntmps30
  go_wp2_with (refine wpl_alloc rfl 68 rfl _ Rc.zero32 ?_)
  have b0 : Blk ((w.alloc (.cells (arr (List.replicate 32 0)) 68)).alloc (.cells (arr (List.replicate 32 0)) 68)) w.heap.size 68 (arr (List.replicate 32 0)) := (Blk.nu rfl).alloc _
  have b1 : Blk ((w.alloc (.cells (arr (List.replicate 32 0)) 68)).alloc (.cells (arr (List.replicate 32 0)) 68)) (w.heap.size + 1) 68 (arr (List.replicate 32 0)) := Blk.nu (by simp)
  have hB : Below w.heap.size w ((w.alloc (.cells (arr (List.replicate 32 0)) 68)).alloc (.cells (arr (List.replicate 32 0)) 68)) := ((Below.refl _ _).alloc (by simp) _).alloc (by simp) _
  go_loopw [4] (fun i wr => ∃ k : Nat, k ≤ 32 ∧ i = .int .i64 (k : Int) ∧ Blk wr w.heap.size 68 (arr (List.replicate 32 0)) ∧ Blk wr (w.heap.size + 1) 68 (arr (Rc.keyK key k)) ∧ Below w.heap.size w wr) (fun i _ => 32 - (intOf i).toNat)
  case atStart => exact ⟨0, by omega, rfl, b0, b1, hB⟩
  case round =>
    clear b0 b1 hB
    obtain ⟨k, hk, rfl, b0, b1, hB⟩ := hrel
    by_cases hlt : k < 32
    · have tk : (k : Int) < 32 := by omega
      obtain ⟨ad, hA, had, hcw⟩ := Hr.out.cell hlt
      subst hA
      have c0 : wr.cell? (ad.add k) = some (.int .u8 (n8 (nth key k))) := (hB.cell (by rw [block_of_add]; exact had)).trans hcw
      have c1 := b1.arr_cell k (by rw [Rc.keyK_len key Hl.out k hk]; exact hlt)
      have f1 := b1.frozen k
      have b2 := b1.arr_set k (nth key k)
      rw [Rc.keyK_next key Hl.out k hlt] at b2
      have b3 := b0.far (p := ⟨w.heap.size + 1, k, none⟩) (by simp) (.int .u8 (n8 (nth key k)))
      have hB2 := hB.setCell (p := ⟨w.heap.size + 1, k, none⟩) (by simp) (.int .u8 (n8 (nth key k)))
      clear b0 b1 hB
      go_wp2
      go_roundw
      case rel => exact ⟨k + 1, by omega, by go_num, b3, b2, hB2⟩
      case measure => simp [intOf]; omega
    · have ek : k = 32 := by omega
      subst ek
      have tk : ¬ ((32 : Nat) : Int) < 32 := by omega
      rw [Rc.keyK_all key Hl.out] at b1
      go_wp2_with (first | (refine wpl_load_arr rfl 68 _ rfl _ rfl 32 Rc.agg32 key Hl.out b1.cells_arr ?_) | (refine wpl_store_arr rfl 68 _ _ rfl w.heap.size key rfl rfl 68 _ b0 32 Rc.agg32.size Hl.out (by rw [arr_size, List.length_replicate]) ?_))
      exact ret_arr rfl w.heap.size rfl Rc.agg32 key Hl.out (b0.setRow _).cells_arr rfl ⟨rfl, below_setRow hB (Nat.le_refl _) _⟩
theorem Rc.rkey_ok (s : UInt16) (n : Nat) (hs : Suite.Ok s n) (w : World) : Calls Try.prog 37 #[.int .u16 ((n16 s : Nat) : Int)] w fun e w' => e = .returned (.int .i64 (n : Int)) ∧ Below w.heap.size w w' := by
  rcases hs with ⟨rfl, rfl⟩ | ⟨rfl, rfl⟩ | ⟨rfl, rfl⟩
  · exact rKeyLen_128 w
  · exact rKeyLen_256 w
  · exact rKeyLen_cha w
theorem Rc.may_ok (s : UInt16) (n : Nat) (hs : Suite.Ok s n) (A : Option Addr) (c : Nat) (w : World) : Calls Try.prog 28 #[.int .u16 ((n16 s : Nat) : Int), .slice A n c] w fun e w' => e = .returned (.int .i64 0) ∧ Below w.heap.size w w' := by
  have hn : ¬ (n : Int) = 0 := by rcases hs with ⟨_, rfl⟩ | ⟨_, rfl⟩ | ⟨_, rfl⟩ <;> decide
  have Hk := hd (Rc.rkey_ok s n hs w)
  clear hs
  go_enter Try.func28, Try.ntmps28
  go_wp2_with (go_at_call 37; refine Hk.out.mono ?_; rintro e w1 ⟨rfl, hB⟩)
  go_ret
  exact ⟨rfl, hB⟩
theorem Rc.may_not (s : UInt16) (n k : Nat) (hs : Suite.Ok s n) (hk : ¬ k = n) (A : Option Addr) (c : Nat) (w : World) : Calls Try.prog 28 #[.int .u16 ((n16 s : Nat) : Int), .slice A k c] w fun e w' => e = .returned (.int .i64 102) ∧ Below w.heap.size w w' := by
  have hn : ¬ (n : Int) = 0 := by rcases hs with ⟨_, rfl⟩ | ⟨_, rfl⟩ | ⟨_, rfl⟩ <;> decide
  have hkn : ¬ (k : Int) = (n : Int) := by omega
  have Hk := hd (Rc.rkey_ok s n hs w)
  clear hs hk
  go_enter Try.func28, Try.ntmps28
  go_wp2_with (go_at_call 37; refine Hk.out.mono ?_; rintro e w1 ⟨rfl, hB⟩)
  go_ret
  exact ⟨rfl, hB⟩
theorem Rc.may_none (s : UInt16) (h1 : (s == 4865) = false) (h2 : (s == 4866) = false) (h3 : (s == 4867) = false) (A : Option Addr) (k c : Nat) (w : World) : Calls Try.prog 28 #[.int .u16 ((n16 s : Nat) : Int), .slice A k c] w fun e w' => e = .returned (.int .i64 101) ∧ Below w.heap.size w w' := by
  have Hk := hd (rKeyLen_none s h1 h2 h3 w)
  clear h1 h2 h3
  go_enter Try.func28, Try.ntmps28
  go_wp2_with (go_at_call 37; refine Hk.out.mono ?_; rintro e w1 ⟨rfl, hB⟩)
  go_ret
  exact ⟨rfl, hB⟩
section
variable (s : UInt16) (A : Option Addr) (k c : Nat) (nonce : List UInt8) (X Y : Value) (w : World)
theorem Rc.sealNo (r : Int) (hr : ¬ r = 0) (hm : ∀ w, Calls Try.prog 28 #[.int .u16 ((n16 s : Nat) : Int), .slice A k c] w fun e w' => e = .returned (.int .i64 r) ∧ Below w.heap.size w w') :
    Calls Try.prog 10 #[.int .u16 ((n16 s : Nat) : Int), .slice A k c, .agg (arr nonce), X, Y] w fun e w' => e = .returned (.tuple #[.slice none 0 0, .int .i64 r]) ∧ Below w.heap.size w w' := by
  have hB0 := (Below.refl w.heap.size w).alloc (Nat.le_refl _) (.cells (arr nonce) 25)
  have Hm := hd hm
  clear hm
  go_enter Try.func10, Try.ntmps10
  go_wp2_with (go_at_call 28; refine (Hm.out _).mono ?_; rintro e w1 ⟨rfl, hB1⟩)
  go_ret2
  exact ⟨rfl, hB0.trans (hB1.mono hB0.size)⟩
theorem Rc.openNo (r : Int) (hr : ¬ r = 0) (hm : ∀ w, Calls Try.prog 28 #[.int .u16 ((n16 s : Nat) : Int), .slice A k c] w fun e w' => e = .returned (.int .i64 r) ∧ Below w.heap.size w w') :
    Calls Try.prog 12 #[.int .u16 ((n16 s : Nat) : Int), .slice A k c, .agg (arr nonce), X, Y] w fun e w' => e = .returned (.tuple #[.slice none 0 0, .int .i64 r]) ∧ Below w.heap.size w w' := by
  have hB0 := (Below.refl w.heap.size w).alloc (Nat.le_refl _) (.cells (arr nonce) 25)
  have Hm := hd hm
  clear hm
  go_enter Try.func12, Try.ntmps12
  go_wp2_with (go_at_call 28; refine (Hm.out _).mono ?_; rintro e w1 ⟨rfl, hB1⟩)
  go_ret2
  exact ⟨rfl, hB0.trans (hB1.mono hB0.size)⟩
end
set_option maxHeartbeats 8000000 in
set_option maxRecDepth 100000 in
theorem Rc.rseal_ok (s : UInt16) (n : Nat) (hs : Suite.Ok s n) (A : Option Addr) (c : Nat) (key nonce : List UInt8) (hn : nonce.length = 12) (D : Option Addr) (p q : Nat) (aside : List UInt8) (E : Option Addr) (m d : Nat) (text : List UInt8) (w : World) (hr : ReadsB w w.heap.size A n key)
    (ha : ReadsB w w.heap.size D p aside) (ht : ReadsB w w.heap.size E m text) (hmd : m ≤ d) (hsz : p + m ≤ 140737488000000) :
    Calls Try.prog 10 #[.int .u16 ((n16 s : Nat) : Int), .slice A n c, .agg (arr nonce), .slice D p q, .slice E m d] w fun e w' => ∃ v, e = .returned (.tuple #[v, .int .i64 0]) ∧ OwnB w' w.heap.size v (Rec.sealOf s key nonce aside text) ∧ Below w.heap.size w w' := by
  have Hn := hd hn
  have Lk := hd hr.len
  have Hsz := hd hsz
  have hB0 : Below w.heap.size w (w.alloc (.cells (arr nonce) 25)) := (Below.refl w.heap.size w).alloc (Nat.le_refl _) _
  have hS0 : Rc.Os w nonce A n key D p aside E m text (w.alloc (.cells (arr nonce) 25)) := ⟨Blk.nu rfl, hr.onward hB0, ha.onward hB0, ht.onward hB0, hB0⟩
  have Hm := hd (Rc.may_ok s n hs A c (w.alloc (.cells (arr nonce) 25)))
  clear hr ha ht
  by_cases hc : s = 4867
  · have hn32 : n = 32 := by
      rcases hs with ⟨e, _⟩ | ⟨e, _⟩ | ⟨_, e⟩
      · rw [hc] at e; exact absurd e (by decide)
      · rw [hc] at e; exact absurd e (by decide)
      · exact e
    subst hn32
    subst hc
    have Hfin := hd (show Rec.sealOf 4867 key nonce aside text = Cha.lock key nonce aside text by unfold Rec.sealOf; rw [if_pos rfl])
    rw [Hfin.out]
    clear hs
    go_enter Try.func10, Try.ntmps10
    go_wp2_with (go_at_call 28; refine Hm.out.mono ?_; rintro e w1 ⟨rfl, hB1⟩; have hS := hS0.next hB1; clear hS0 hB0)
    refine wp_region_held_drew (S := Rc.Os w nonce A 32 key D p aside E m text) (by kernel_rfl) (hS.next (Below.refl _ _).drew) ?_
    intro hS1
    clear hS
    refine held_take 0 (o := _) rfl (by kernel_rfl) (by kernel_rfl) (by kernel_rfl) rfl (.slice A 32 c) (fun _ _ _ h => h) (fun W hW => run_move (by rfl) (by simp [Act.eval]) W) (by assumption) ?_
    simp only [PS]
    refine held_take 2 (o := _) rfl (by kernel_rfl) (by kernel_rfl) (by kernel_rfl) rfl (.agg (arr nonce)) (fun _ _ _ h => h) (fun W hW => run_load_arr (by rfl) (by simp [Act.eval]) Rc.agg12 nonce Hn.out (Rc.Os.bn hW).cells_arr) (by assumption) ?_
    simp only [PS]
    refine held_take 3 (o := _) rfl (by kernel_rfl) (by kernel_rfl) (by kernel_rfl) rfl (.slice D p q) (fun _ _ _ h => h) (fun W hW => run_move (by rfl) (by simp [Act.eval]) W) (by assumption) ?_
    simp only [PS]
    refine held_take 4 (o := _) rfl (by kernel_rfl) (by kernel_rfl) (by kernel_rfl) rfl (.slice E m d) (fun _ _ _ h => h) (fun W hW => run_move (by rfl) (by simp [Act.eval]) W) (by assumption) ?_
    simp only [PS]
    refine held_callG 1 (by kernel_rfl) (o := _) rfl (by simp [Region.wanted, yielded]) 30 _ _ rfl #[.slice A 32 c] (by simp [Act.eval]) (Rc.enter_whole _) ?_
    refine (Rc.whole_any A c key _ hS1.rk).mono ?_
    rintro e w5 ⟨rfl, hB5⟩
    refine ⟨_, rfl, hS1.next hB5, ?_⟩
    intro hS5
    clear hS1 hB5
    simp only [PS]
    refine held_callG 5 (by kernel_rfl) (o := _) rfl (by simp [Region.wanted, yielded]) 29 _ _ rfl #[.agg (arr key), .agg (arr nonce), .slice D p q, .slice E m d] (by simp [Act.eval]) (Rc.enter_seal _) ?_
    refine (Rc.seal_any key nonce Lk.out Hn.out D p q aside E m d text _ hS5.ra hS5.rt (by have := Hsz.out; omega)).mono ?_
    rintro e w6 ⟨v6, rfl, own6, hB6⟩
    refine ⟨_, rfl, hS5.next hB6, ?_⟩
    intro hS6
    have own7 := own6.low hS5.old.size
    clear hS5 hB6 own6
    simp only [PS]
    refine held_take 6 (o := _) rfl (by kernel_rfl) (by kernel_rfl) (by kernel_rfl) rfl (v6) (fun _ _ _ h => h) (fun W hW => Rc.run_assign (by rfl) (by simp [Act.eval])) (by assumption) ?_
    simp only [PS]
    refine held_take 7 (o := _) rfl (by kernel_rfl) (by kernel_rfl) (by kernel_rfl) rfl (.int .i64 0) (fun _ _ _ h => h) (fun W hW => Rc.run_assign (by rfl) (by simp [Act.eval])) (by assumption) ?_
    simp only [PS]
    refine wpAnyH_done (by kernel_rfl) ?_ _
    go_wp2
    go_ret2
    exact ⟨_, rfl, own7, hS6.old⟩
  · have hn2 : n = 16 ∨ n = 32 := by
      rcases hs with ⟨_, e⟩ | ⟨_, e⟩ | ⟨_, e⟩
      · exact .inl e
      · exact .inr e
      · exact .inr e
    have hs1 : (s == 4867) = false := by simpa using hc
    have Hfin := hd (show Rec.sealOf s key nonce aside text = Gcm.lock (Aes.keys key) nonce aside text by unfold Rec.sealOf; rw [if_neg hc])
    rw [Hfin.out]
    have Hn2 := hd hn2
    clear hs hc hn2
    go_enter Try.func10, Try.ntmps10
    go_wp2_with (first
      | (go_at_call 28; refine Hm.out.mono ?_; rintro e w1 ⟨rfl, hB1⟩; have hS := hS0.next hB1; clear hS0 hB0)
      | (refine wpl_load_arr rfl 25 _ rfl _ rfl 12 Rc.agg12 nonce Hn.out hS.bn.cells_arr ?_)
      | (go_at_call 31; refine (rlock_made A n c key nonce Hn.out D p q aside E m d text _ hS.rk Hn2.out hS.ra hS.rt Hsz.out).mono ?_; rintro e w2 ⟨v, rfl, own, hB2⟩; have hS2 := hS.next hB2))
    go_ret2
    exact ⟨_, rfl, own.low hS.old.size, hS2.old⟩
set_option maxHeartbeats 8000000 in
set_option maxRecDepth 100000 in
theorem Rc.ropen_ok (s : UInt16) (n : Nat) (hs : Suite.Ok s n) (A : Option Addr) (c : Nat) (key nonce : List UInt8) (hn : nonce.length = 12) (D : Option Addr) (p q : Nat) (aside : List UInt8) (E : Option Addr) (m d : Nat) (text : List UInt8) (w : World) (hr : ReadsB w w.heap.size A n key)
    (ha : ReadsB w w.heap.size D p aside) (ht : ReadsB w w.heap.size E m text) (hmd : m ≤ d) (hsz : p + m ≤ 140737488000000) :
    Calls Try.prog 12 #[.int .u16 ((n16 s : Nat) : Int), .slice A n c, .agg (arr nonce), .slice D p q, .slice E m d] w fun e w' => OpenedE 103 w (Rec.openOf s key nonce aside text) e w' := by
  have Hn := hd hn
  have Lk := hd hr.len
  have Hsz := hd hsz
  have hB0 : Below w.heap.size w (w.alloc (.cells (arr nonce) 25)) := (Below.refl w.heap.size w).alloc (Nat.le_refl _) _
  have hS0 : Rc.Os w nonce A n key D p aside E m text (w.alloc (.cells (arr nonce) 25)) := ⟨Blk.nu rfl, hr.onward hB0, ha.onward hB0, ht.onward hB0, hB0⟩
  have Hm := hd (Rc.may_ok s n hs A c (w.alloc (.cells (arr nonce) 25)))
  clear hr ha ht
  by_cases hc : s = 4867
  · have hn32 : n = 32 := by
      rcases hs with ⟨e, _⟩ | ⟨e, _⟩ | ⟨_, e⟩
      · rw [hc] at e; exact absurd e (by decide)
      · rw [hc] at e; exact absurd e (by decide)
      · exact e
    subst hn32
    subst hc
    obtain ⟨r, Hfin⟩ : ∃ r, Hd (Cha.unlock key nonce aside text = r) := ⟨_, ⟨rfl⟩⟩
    rw [show Rec.openOf 4867 key nonce aside text = r by unfold Rec.openOf; rw [if_pos rfl, Hfin.out]]
    clear hs
    go_enter Try.func12, Try.ntmps12
    go_wp2_with (go_at_call 28; refine Hm.out.mono ?_; rintro e w1 ⟨rfl, hB1⟩; have hS := hS0.next hB1; clear hS0 hB0)
    refine wp_region_held_drew (S := Rc.Os w nonce A 32 key D p aside E m text) (by kernel_rfl) (hS.next (Below.refl _ _).drew) ?_
    intro hS1
    clear hS
    refine held_take 0 (o := _) rfl (by kernel_rfl) (by kernel_rfl) (by kernel_rfl) rfl (.slice A 32 c) (fun _ _ _ h => h) (fun W hW => run_move (by rfl) (by simp [Act.eval]) W) (by assumption) ?_
    simp only [PS]
    refine held_take 2 (o := _) rfl (by kernel_rfl) (by kernel_rfl) (by kernel_rfl) rfl (.agg (arr nonce)) (fun _ _ _ h => h) (fun W hW => run_load_arr (by rfl) (by simp [Act.eval]) Rc.agg12 nonce Hn.out (Rc.Os.bn hW).cells_arr) (by assumption) ?_
    simp only [PS]
    refine held_take 3 (o := _) rfl (by kernel_rfl) (by kernel_rfl) (by kernel_rfl) rfl (.slice D p q) (fun _ _ _ h => h) (fun W hW => run_move (by rfl) (by simp [Act.eval]) W) (by assumption) ?_
    simp only [PS]
    refine held_take 4 (o := _) rfl (by kernel_rfl) (by kernel_rfl) (by kernel_rfl) rfl (.slice E m d) (fun _ _ _ h => h) (fun W hW => run_move (by rfl) (by simp [Act.eval]) W) (by assumption) ?_
    simp only [PS]
    refine held_callG 1 (by kernel_rfl) (o := _) rfl (by simp [Region.wanted, yielded]) 30 _ _ rfl #[.slice A 32 c] (by simp [Act.eval]) (Rc.enter_whole _) ?_
    refine (Rc.whole_any A c key _ hS1.rk).mono ?_
    rintro e w5 ⟨rfl, hB5⟩
    refine ⟨_, rfl, hS1.next hB5, ?_⟩
    intro hS5
    clear hS1 hB5
    simp only [PS]
    refine held_callG 5 (by kernel_rfl) (o := _) rfl (by simp [Region.wanted, yielded]) 32 _ _ rfl #[.agg (arr key), .agg (arr nonce), .slice D p q, .slice E m d] (by simp [Act.eval]) (Rc.enter_open _) ?_
    refine (Rc.open_any key nonce Lk.out Hn.out D p q aside E m d text _ hS5.ra hS5.rt hmd (by have := Hsz.out; omega)).mono ?_
    rintro e w6 hO
    rw [Hfin.out] at hO
    unfold Cha.Opened at hO
    cases r with
    | none =>
      obtain ⟨rfl, hB6⟩ := hO
      refine ⟨_, rfl, hS5.next hB6, ?_⟩
      intro hS6
      clear hS5 hB6
      simp only [PS]
      refine held_take 6 (o := _) rfl (by kernel_rfl) (by kernel_rfl) (by kernel_rfl) rfl (.tuple #[.slice none 0 0, .int .i64 91]) (fun _ _ _ h => h) (fun W hW => run_move (by rfl) (by simp [Act.eval]) W) (by assumption) ?_
      simp only [PS]
      refine held_take 7 (o := _) rfl (by kernel_rfl) (by kernel_rfl) (by kernel_rfl) rfl (.slice none 0 0) (fun _ _ _ h => h) (fun W hW => run_extract (by rfl) #[.slice none 0 0, .int .i64 91] _ (by simp [Act.eval]) rfl) (by assumption) ?_
      simp only [PS]
      refine held_take 8 (o := _) rfl (by kernel_rfl) (by kernel_rfl) (by kernel_rfl) rfl (.int .i64 91) (fun _ _ _ h => h) (fun W hW => run_extract (by rfl) #[.slice none 0 0, .int .i64 91] _ (by simp [Act.eval]) rfl) (by assumption) ?_
      simp only [PS]
      refine held_take 9 (o := _) rfl (by kernel_rfl) (by kernel_rfl) (by kernel_rfl) rfl (.slice none 0 0) (fun _ _ _ h => h) (fun W hW => Rc.run_assign (by rfl) (by simp [Act.eval])) (by assumption) ?_
      simp only [PS]
      refine held_take 10 (o := _) rfl (by kernel_rfl) (by kernel_rfl) (by kernel_rfl) rfl (.int .i64 91) (fun _ _ _ h => h) (fun W hW => Rc.run_assign (by rfl) (by simp [Act.eval])) (by assumption) ?_
      simp only [PS]
      refine wpAnyH_done (by kernel_rfl) ?_ _
      go_wp2
      go_ret2
      unfold OpenedE
      exact ⟨rfl, hS6.old⟩
    | some l =>
      obtain ⟨v6, rfl, own6, hB6⟩ := hO
      refine ⟨_, rfl, hS5.next hB6, ?_⟩
      intro hS6
      have own7 := own6.low hS5.old.size
      clear hS5 hB6 own6
      simp only [PS]
      refine held_take 6 (o := _) rfl (by kernel_rfl) (by kernel_rfl) (by kernel_rfl) rfl (.tuple #[v6, .int .i64 0]) (fun _ _ _ h => h) (fun W hW => run_move (by rfl) (by simp [Act.eval]) W) (by assumption) ?_
      simp only [PS]
      refine held_take 7 (o := _) rfl (by kernel_rfl) (by kernel_rfl) (by kernel_rfl) rfl (v6) (fun _ _ _ h => h) (fun W hW => run_extract (by rfl) #[v6, .int .i64 0] _ (by simp [Act.eval]) rfl) (by assumption) ?_
      simp only [PS]
      refine held_take 8 (o := _) rfl (by kernel_rfl) (by kernel_rfl) (by kernel_rfl) rfl (.int .i64 0) (fun _ _ _ h => h) (fun W hW => run_extract (by rfl) #[v6, .int .i64 0] _ (by simp [Act.eval]) rfl) (by assumption) ?_
      simp only [PS]
      refine held_take 9 (o := _) rfl (by kernel_rfl) (by kernel_rfl) (by kernel_rfl) rfl (v6) (fun _ _ _ h => h) (fun W hW => Rc.run_assign (by rfl) (by simp [Act.eval])) (by assumption) ?_
      simp only [PS]
      refine held_take 10 (o := _) rfl (by kernel_rfl) (by kernel_rfl) (by kernel_rfl) rfl (.int .i64 0) (fun _ _ _ h => h) (fun W hW => Rc.run_assign (by rfl) (by simp [Act.eval])) (by assumption) ?_
      simp only [PS]
      refine wpAnyH_done (by kernel_rfl) ?_ _
      go_wp2
      go_ret2
      unfold OpenedE
      exact ⟨_, rfl, own7, hS6.old⟩
  · have hn2 : n = 16 ∨ n = 32 := by
      rcases hs with ⟨_, e⟩ | ⟨_, e⟩ | ⟨_, e⟩
      · exact .inl e
      · exact .inr e
      · exact .inr e
    have hs1 : (s == 4867) = false := by simpa using hc
    obtain ⟨r, Hfin⟩ : ∃ r, Hd (Gcm.unlock (Aes.keys key) nonce aside text = r) := ⟨_, ⟨rfl⟩⟩
    rw [show Rec.openOf s key nonce aside text = r by unfold Rec.openOf; rw [if_neg hc, Hfin.out]]
    have Hn2 := hd hn2
    have Hmd := hd hmd
    clear hs hc hn2
    unfold OpenedE
    cases r with
    | none =>
      go_enter Try.func12, Try.ntmps12
      go_wp2_with (first
        | (go_at_call 28; refine Hm.out.mono ?_; rintro e w1 ⟨rfl, hB1⟩; have hS := hS0.next hB1; clear hS0 hB0)
        | (refine wpl_load_arr rfl 25 _ rfl _ rfl 12 Rc.agg12 nonce Hn.out hS.bn.cells_arr ?_)
        | (go_at_call 33; refine (ropen_made A n c key nonce Hn.out D p q aside E m d text _ hS.rk Hn2.out hS.ra hS.rt Hmd.out Hsz.out).mono ?_; rintro e w2 hO; rw [Hfin.out] at hO; unfold Opened at hO; obtain ⟨rfl, hB2⟩ := hO; have hS2 := hS.next hB2))
      go_ret2
      exact ⟨rfl, hS2.old⟩
    | some l =>
      go_enter Try.func12, Try.ntmps12
      go_wp2_with (first
        | (go_at_call 28; refine Hm.out.mono ?_; rintro e w1 ⟨rfl, hB1⟩; have hS := hS0.next hB1; clear hS0 hB0)
        | (refine wpl_load_arr rfl 25 _ rfl _ rfl 12 Rc.agg12 nonce Hn.out hS.bn.cells_arr ?_)
        | (go_at_call 33; refine (ropen_made A n c key nonce Hn.out D p q aside E m d text _ hS.rk Hn2.out hS.ra hS.rt Hmd.out Hsz.out).mono ?_; rintro e w2 hO; rw [Hfin.out] at hO; unfold Opened at hO; obtain ⟨v, rfl, own, hB2⟩ := hO; have hS2 := hS.next hB2))
      go_ret2
      exact ⟨_, rfl, own.low hS.old.size, hS2.old⟩
end Go.Proofs.Ytbcboldepghgpaa

