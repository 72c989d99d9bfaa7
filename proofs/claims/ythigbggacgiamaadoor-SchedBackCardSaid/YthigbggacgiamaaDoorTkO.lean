/-
  sched.OpenTicket.
-/
import Derived.Test.YthigbggacgiamaaDoorTkL
import Derived.Test.YthigbggacgiamaaDoorTkG
import Derived.Test.YthigbggacgiamaaDoorTkH
import Derived.Test.YthigbggacgiamaaDoorTkS
set_option linter.unusedVariables false
set_option linter.unusedSimpArgs false
set_option maxRecDepth 100000
namespace Go.Proofs.YthigbggacgiamaaDoor
open Go.RowKit
/-- A slice of keys: each a name of four bytes and a key of 32. -/
structure Tk.Keys (w : World) (B : Nat) (A : Option Addr) (ks : List (List UInt8)) : Prop where
  len : ∀ i, i < ks.length → (ks.getD i []).length = 36
  is : ∀ i, i < ks.length → ∃ ad, A = some ad ∧ ad.block < B ∧ Cells w (ad.add (i * 36)) ((ks.getD i []).map U8)
theorem Tk.Keys.below {w w' : World} {B : Nat} {A : Option Addr} {ks : List (List UInt8)} (h : Tk.Keys w B A ks) (hb : Below B w w') : Tk.Keys w' B A ks :=
  ⟨h.len, fun i hi => by
    obtain ⟨ad, e, hl, hc⟩ := h.is i hi
    exact ⟨ad, e, hl, hc.below hb (by rw [block_of_add]; exact hl)⟩⟩
theorem Tk.cells_of {w : World} {B n : Nat} {ad : Addr} {l : List UInt8} (hr : ReadsB w B (some ad) n l) (off k : Nat) (h : off + k ≤ n) : Cells w (ad.add off) (((l.drop off).take k).map U8) := by
  refine ⟨fun j v hv => ?_⟩
  have hl := hr.len
  have hj : j < k := by
    rcases Nat.lt_or_ge j k with h | h
    · exact h
    · rw [List.getElem?_eq_none (by rw [List.length_map, List.length_take]; omega)] at hv; cases hv
  rw [List.getElem?_map, List.getElem?_take_of_lt hj, List.getElem?_drop] at hv
  obtain ⟨ad', e, _, hc⟩ := hr.is.2 (by omega)
  injection e with e
  subst e
  rw [add_of_add]
  exact hc (off + j) v (by rw [List.getElem?_map]; exact hv)
/-- What is known ahead of OpenTicket's loop: the result's block, the name's, the nonce's. -/
structure Tk.Op (w W : World) (name nonce : List UInt8) (gn gc : Nat) : Prop where
  res : Blk W w.heap.size 34 Tk.zero
  nm : Blk W gn 22 (arr name)
  nc : Blk W gc 27 (arr nonce)
  below : Below w.heap.size w W
theorem Tk.Op.next {w W W' : World} {name nonce : List UInt8} {gn gc : Nat} (h : Tk.Op w W name nonce gn gc) (hb : Below W.heap.size W W') : Tk.Op w W' name nonce gn gc :=
  ⟨h.res.below hb h.res.lt, h.nm.below hb h.nm.lt, h.nc.below hb h.nc.lt, h.below.trans (hb.mono h.below.size)⟩
theorem Tk.zero4' : (Tryd.prog.info? 22).bind (·.zero) = some (.agg (arr (List.replicate 4 0))) := by kernel_rfl
theorem Tk.zero12' : (Tryd.prog.info? 27).bind (·.zero) = some (.agg (arr (List.replicate 12 0))) := by kernel_rfl
theorem Tk.zero36 : (Tryd.prog.info? 25).bind (·.zero) = some (.agg (arr (List.replicate 36 0))) := by kernel_rfl
theorem Tk.sz36 : (Tryd.prog.info? 25).map (·.size) = some 36 := by kernel_rfl
theorem Tk.sz4 : (Tryd.prog.info? 22).map (·.size) = some 4 := by kernel_rfl
theorem Tk.sz12 : (Tryd.prog.info? 27).map (·.size) = some 12 := by kernel_rfl
theorem Tk.sz7 : (Tryd.prog.info? 34).map (·.size) = some 7 := by kernel_rfl
theorem Tk.enter_open (args : Array Value) (w : World) : (callFunc 18 args).run Tryd.prog w = .ok (.enter 18 args) w := by kernel_rfl
theorem Tk.oneCells (l : List UInt8) : ∀ v ∈ (arr l).toList, v.oneCell' = true := by simp [arr, Value.oneCell']
theorem Tk.slFrom {w : World} {o : Oper} {ρ : Operand → Value} {x y : Operand} (ho : o.op = .slice 30 x (some y) none none) (ad b : Addr) (n d k : Nat) (hb : ad.add k = b) (hx : ρ x = .slice (some ad) n d) (hy : ρ y = .int .i64 (k : Int)) (hk : k ≤ n) (hnd : n ≤ d) (hdk : d ≠ k) : (execOp ρ o).run Tryd.prog w = .ok (.value (.slice (some b) (n - k) (d - k))) w := by
  subst hb
  have h := run_slice_from (w := w) ho Tryd.underlying30 u8_cell1 (some ad) n d k hx hy hk hnd
  rw [if_neg hdk] at h
  exact h
theorem Tk.cells4 {W : World} {g : Nat} {t : TypeId} {nm kk : List UInt8} (h : Blk W g t (arr (nm ++ kk))) (hn : nm.length = 4) : Cells W ⟨g, 4, none⟩ (kk.map U8) := h.cells_at 4 _ (by
  intro j v hv
  simp only [arr, List.getElem?_toArray]
  rw [List.map_append, List.getElem?_append_right (by rw [List.length_map]; omega), List.length_map, hn, Nat.add_sub_cancel_left]
  exact hv)
theorem wpl_run_skip {P : Program} {w w2 : World} {o : Oper} {a : Act} {Q : Exit → Act → World → Prop} {ops : Array Oper} {rest : List Oper} (hw : Region.wanted o (yielded ops a.tmps) = true) (hrun : (execOp a.eval o).run P w = .ok .skip w2) (h : wpList P ops Q rest (a.put o.dst undef) w2) : wpList P ops Q (o :: rest) a w :=
  wpList_step fun K hK => by
    rw [if_pos hw]
    unfold Oper.wp
    rw [hrun]
    exact hK _ _ h
theorem Tk.sub4 (n : Nat) (D : Option Addr) : (if n + 16 = 4 then D else D.map (·.add 4)) = D.map (·.add 4) := by rw [if_neg (by omega)]
theorem Tk.p_done2 {P : Program} {ops : Array Oper} {Q : Exit → Act → World → Prop} {md : Region.Mode} {listed : Array Bool} {a : Act} {g x : World → Prop} (hr : Region.ready md ops listed = []) (h : ∀ W, g W → x W → Q .normal a W) (n : Nat) : wpAnyV P md ops Q PW PR n listed a (g, x) := v_done hr (fun W hW => h W hW.1 hW.2) n
/-- What OpenTicket answers. -/
structure Tk.Res (w : World) (s : Tk.Ses) (n j : Nat) (e : Ending) (w' : World) : Prop where
  below : Below w.heap.size w w'
  got : j < n → ∃ A' c', e = .returned (.tuple #[Tk.ses A' c' s, .int .i64 0]) ∧ ReadsB w' w'.heap.size A' s.secret.length s.secret
  none_ : j = n → e = .returned (.tuple #[.agg Tk.zero, .int .i64 192])
set_option maxHeartbeats 4000000 in
/-- OpenTicket: j keys of other names, then (if there are more) the ticket's own. -/
theorem openT_any (s : Tk.Ses) (hmay : Tk.May s) (name key nonce : List UInt8) (hn : name.length = 4) (hk : key.length = 32) (hc : nonce.length = 12) (A : Option Addr) (c : Nat) (ks : List (List UInt8)) (D : Option Addr) (m d : Nat) (w : World) (hks : Tk.Keys w w.heap.size A ks)
    (hkl : ks.length ≤ 4611686018427387904) (hr : ReadsB w w.heap.size D m (name ++ (nonce ++ Cha.lock key nonce name (Tk.text s)))) (hmd : m ≤ d) (j : Nat) (hj : j ≤ ks.length) (hbe : ∀ i, i < j → (ks.getD i []).take 4 ≠ name) (hat : j < ks.length → ks.getD j [] = name ++ key) :
    Calls Tryd.prog 7 #[.slice A ks.length c, .slice D m d] w fun e w' => Tk.Res w s ks.length j e w' := by
  have HM := hd (show decide (Tk.May s) = true from decide_eq_true hmay)
  have Hle := hd (show s.secret.length ≤ 48 ∧ s.host.length ≤ 253 ∧ s.prot.length ≤ 255 by
    obtain ⟨h1, h2, h3, h4⟩ := hmay
    have := (Tk.size_known s.suite h1).2
    omega)
  clear hmay
  have Hun := hd (Cha.unlock_lock key nonce name (Tk.text s))
  obtain ⟨sd, Hsd⟩ : ∃ x, Hd (Cha.lock key nonce name (Tk.text s) = x) := ⟨_, ⟨rfl⟩⟩
  have Lsd := hd (show sd.length = (Tk.text s).length + 16 by rw [← Hsd.out, Cha.lock_len])
  have Ltx := hd (show (Tk.text s).length ≤ 1000 by simp [Tk.text, Tk.num_len, Tk.count]; have := Hle.out; omega)
  rw [Hsd.out] at hr Hun
  have Hn := hd hn
  have Hk := hd hk
  have Hc := hd hc
  have Hbe := hd hbe
  have Hat := hd hat
  have Hkl := hd hkl
  have Hmd := hd hmd
  have Hm := hd (show m = 16 + sd.length by rw [← hr.len, List.length_append, List.length_append, hn, hc]; omega)
  obtain ⟨ad, rfl, _⟩ := hr.is.2 (by have := Hm.out; omega)
  clear hn hk hc hbe hat hkl hmd
  obtain ⟨a4, Ha4⟩ : ∃ x, Hd (ad.add 4 = x) := ⟨_, ⟨rfl⟩⟩
  obtain ⟨a16, Ha16⟩ : ∃ x, Hd (ad.add 16 = x) := ⟨_, ⟨rfl⟩⟩
  go_enter Tryd.func7, Tryd.ntmps7
  have hB0 : Below w.heap.size w (w.alloc (.cells Tk.zero 34)) := (Below.refl _ _).alloc (Nat.le_refl _) _
  have b0 : Blk (w.alloc (.cells Tk.zero 34)) w.heap.size 34 Tk.zero := Blk.nu rfl
  have t16 : ¬ (m : Int) < 16 := by have := Hm.out; omega
  go_wp2
  refine p_start (fun W => Blk W w.heap.size 34 Tk.zero ∧ Below w.heap.size w W) (by kernel_rfl) ⟨b0.drew, hB0.drew⟩ ?_
  clear b0 hB0 t16
  refine p_take 0 (o := _) rfl (by kernel_rfl) (by kernel_rfl) (by kernel_rfl) (wanted_plain rfl) (.slice (some ad) m d) (fun _ _ _ h => h) (fun W hW => run_move (by rfl) (by simp [Act.eval]) W) ?_
  simp only [Act.put, List.getElem_toArray, List.getElem_cons_succ, List.getElem_cons_zero, List.setIfInBounds_toArray, List.set_cons_zero, List.set_cons_succ]
  refine p_take 1 (o := _) rfl (by kernel_rfl) (by kernel_rfl) (by kernel_rfl) (wanted_plain rfl) (.pointer (some ad)) (fun _ _ _ h => h) (fun W hW => Tk.toArr (by rfl) (some ad) m d (by simp [Act.eval]) Tryd.underlying22 (by have := Hm.out; omega)) ?_
  simp only [Act.put, List.getElem_toArray, List.getElem_cons_succ, List.getElem_cons_zero, List.setIfInBounds_toArray, List.set_cons_zero, List.set_cons_succ]
  refine p_take 2 (o := _) rfl (by kernel_rfl) (by kernel_rfl) (by kernel_rfl) (wanted_plain rfl) (.agg (arr name)) (fun _ _ _ h => h) (fun W hW => Tk.ldC (by rfl) (ad := ad) (by simp [Act.eval]) Tk.agg4 (name.map U8) (by rw [List.length_map, Hn.out]) (by have h := Tk.cells_of (⟨hr.len, hr.is.below hW.2⟩ : ReadsB W w.heap.size (some ad) m (name ++ (nonce ++ sd))) 0 4 (by have := Hm.out; omega); rw [List.drop_zero, List.take_left' Hn.out, Addr.add_zero'] at h; exact h)) ?_
  simp only [Act.put, List.getElem_toArray, List.getElem_cons_succ, List.getElem_cons_zero, List.setIfInBounds_toArray, List.set_cons_zero, List.set_cons_succ]
  refine p_take 3 (o := _) rfl (by kernel_rfl) (by kernel_rfl) (by kernel_rfl) (wanted_plain rfl) (.slice (some ad) m d) (fun _ _ _ h => h) (fun W hW => run_move (by rfl) (by simp [Act.eval]) W) ?_
  simp only [Act.put, List.getElem_toArray, List.getElem_cons_succ, List.getElem_cons_zero, List.setIfInBounds_toArray, List.set_cons_zero, List.set_cons_succ]
  refine p_take 4 (o := _) rfl (by kernel_rfl) (by kernel_rfl) (by kernel_rfl) (wanted_plain rfl) (.slice (some a4) (m - 4) (d - 4)) (fun _ _ _ h => h) (fun W hW => Tk.slFrom (by rfl) ad a4 m d 4 Ha4.out (by simp [Act.eval]) (by simp [Act.eval]) (by have := Hm.out; omega) Hmd.out (by have := Hm.out; have := Hmd.out; omega)) ?_
  simp only [Act.put, List.getElem_toArray, List.getElem_cons_succ, List.getElem_cons_zero, List.setIfInBounds_toArray, List.set_cons_zero, List.set_cons_succ]
  refine p_take 5 (o := _) rfl (by kernel_rfl) (by kernel_rfl) (by kernel_rfl) (wanted_plain rfl) (.pointer (some a4)) (fun _ _ _ h => h) (fun W hW => Tk.toArr (by rfl) (some a4) (m - 4) (d - 4) (by simp [Act.eval]) Tryd.underlying27 (by have := Hm.out; omega)) ?_
  simp only [Act.put, List.getElem_toArray, List.getElem_cons_succ, List.getElem_cons_zero, List.setIfInBounds_toArray, List.set_cons_zero, List.set_cons_succ]
  refine p_take 6 (o := _) rfl (by kernel_rfl) (by kernel_rfl) (by kernel_rfl) (wanted_plain rfl) (.agg (arr nonce)) (fun _ _ _ h => h) (fun W hW => Tk.ldC (by rfl) (ad := a4) (by simp [Act.eval]) Tk.agg12 (nonce.map U8) (by rw [List.length_map, Hc.out]) (by have h := Tk.cells_of (⟨hr.len, hr.is.below hW.2⟩ : ReadsB W w.heap.size (some ad) m (name ++ (nonce ++ sd))) 4 12 (by have := Hm.out; omega); rw [List.drop_left' Hn.out, List.take_left' Hc.out, Ha4.out] at h; exact h)) ?_
  simp only [Act.put, List.getElem_toArray, List.getElem_cons_succ, List.getElem_cons_zero, List.setIfInBounds_toArray, List.set_cons_zero, List.set_cons_succ]
  refine Tk.par 7 8 6 7 (by kernel_rfl) (by kernel_rfl) (by kernel_rfl) (by decide) (by decide) rfl rfl rfl rfl rfl rfl rfl rfl Tk.zero4' Tk.zero12' (fun W o h => ⟨h.1.alloc o, h.2.alloc h.2.size o⟩) (fun W0 W1 gn gc h0 bn bc hb l1 l2 hne h1 => ?_)
  have hgn : w.heap.size < gn := Nat.lt_of_lt_of_le h0.1.lt l1
  have hgc : w.heap.size < gc := Nat.lt_of_lt_of_le h0.1.lt l2
  refine Next.mk (fun W => Blk W w.heap.size 34 Tk.zero ∧ Below w.heap.size w W) (fun W => W = W1) (fun _ h => h) h1 rfl ?_
  simp only [Act.put, List.getElem_toArray, List.getElem_cons_succ, List.getElem_cons_zero, List.setIfInBounds_toArray, List.set_cons_zero, List.set_cons_succ]
  refine p_one 9 (by kernel_rfl) (fun W hW hx => ?_)
  subst hx
  refine op_skip (o := _) rfl (wanted_plain rfl) _ (Tk.stA (ds := arr name) (by rfl) (by simp [Act.eval]) (by simp [Act.eval]) bn (by rw [arr_size, Hn.out]; exact Tk.sz4) (by rw [arr_size, arr_size, Hn.out]; rfl) (Tk.oneCells _)) ?_
  have bn2 := bn.setRow (arr name)
  have bc2 := bc.farRow (Ne.symm hne) (arr name)
  have h2 : Blk (W.setRow gn (arr name)) w.heap.size 34 Tk.zero ∧ Below w.heap.size w (W.setRow gn (arr name)) := ⟨hW.1.farRow (Nat.ne_of_lt hgn) _, below_setRow hW.2 (Nat.le_of_lt hgn) _⟩
  obtain ⟨W2, HW2⟩ : ∃ x, Hd (W.setRow gn (arr name) = x) := ⟨_, ⟨rfl⟩⟩
  rw [HW2.out] at bn2 bc2 h2 ⊢
  clear HW2 bn bc h1 hW hb l1 l2
  refine Next.mk (fun W => Blk W w.heap.size 34 Tk.zero ∧ Below w.heap.size w W) (fun W => W = W2) (fun _ h => h) h2 rfl ?_
  simp only [Act.put, List.getElem_toArray, List.getElem_cons_succ, List.getElem_cons_zero, List.setIfInBounds_toArray, List.set_cons_zero, List.set_cons_succ]
  refine p_one 10 (by kernel_rfl) (fun W hW hx => ?_)
  subst hx
  refine op_skip (o := _) rfl (wanted_plain rfl) _ (Tk.stA (ds := arr nonce) (by rfl) (by simp [Act.eval]) (by simp [Act.eval]) bc2 (by rw [arr_size, Hc.out]; exact Tk.sz12) (by rw [arr_size, arr_size, Hc.out]; rfl) (Tk.oneCells _)) ?_
  have O3 : Tk.Op w (W.setRow gc (arr nonce)) name nonce gn gc := ⟨hW.1.farRow (Nat.ne_of_lt hgc) _, bn2.farRow hne _, bc2.setRow _, below_setRow hW.2 (Nat.le_of_lt hgc) _⟩
  obtain ⟨W3, HW3⟩ : ∃ x, Hd (W.setRow gc (arr nonce) = x) := ⟨_, ⟨rfl⟩⟩
  rw [HW3.out] at O3 ⊢
  clear HW3 bn2 bc2 h2 hW
  refine Next.mk (fun W => Blk W w.heap.size 34 Tk.zero ∧ Below w.heap.size w W) (fun W => W = W3) (fun _ h => h) ⟨O3.res, O3.below⟩ rfl ?_
  simp only [Act.put, List.getElem_toArray, List.getElem_cons_succ, List.getElem_cons_zero, List.setIfInBounds_toArray, List.set_cons_zero, List.set_cons_succ]
  refine (show ∀ z0, wpAnyV _ _ _ _ _ _ z0 _ _ _ from fun z0 => Tk.p_done2 (by kernel_rfl) (fun W8 H hx => ?_) z0) _
  subst hx
  clear H h0
  go_wp2
  go_loopw [27] (fun i wr => ∃ k : Nat, k ≤ j ∧ i = .int .i64 (k : Int) ∧ Below W8.heap.size W8 wr) (fun i _ => ks.length - (intOf i).toNat)
  case atStart => exact ⟨0, Nat.zero_le _, rfl, Below.refl _ _⟩
  case round =>
    obtain ⟨k, hkj, rfl, hbr⟩ := hrel
    have Or := O3.next hbr
    have hB8 := O3.below.size
    by_cases hlt : k < ks.length
    · have t1 : (k : Int) < (ks.length : Int) := by omega
      have kl := hks.len k hlt
      obtain ⟨ka, ea, hka, hcells⟩ := (hks.below Or.below).is k hlt
      subst ea
      obtain ⟨kn, Hkn⟩ : ∃ x, Hd (ks.getD k [] = x) := ⟨_, ⟨rfl⟩⟩
      rw [Hkn.out] at kl hcells
      obtain ⟨nm, Hnm⟩ : ∃ x, Hd (kn.take 4 = x) := ⟨_, ⟨rfl⟩⟩
      obtain ⟨kk, Hkk⟩ : ∃ x, Hd (kn.drop 4 = x) := ⟨_, ⟨rfl⟩⟩
      have Ekn := hd (show nm ++ kk = kn by rw [← Hnm.out, ← Hkk.out]; exact List.take_append_drop 4 kn)
      have Lnm := hd (show nm.length = 4 by rw [← Hnm.out, List.length_take]; omega)
      have Lkk := hd (show kk.length = 32 by rw [← Hkk.out, List.length_drop]; omega)
      have wk : IntKind.i64.wrap ((k : Int) + 1) = (k : Int) + 1 := IntWalk.i64_in _ (by have := Hkl.out; omega)
      by_cases hkj2 : k < j
      · have hne : (!decide (nm = name)) = true := by
          have h := Hbe.out k hkj2
          rw [Hkn.out, Hnm.out] at h
          rw [decide_eq_false h]; rfl
        go_wp2_with (first
          | (with_reducible change wpList _ _ _ (⟨some 29, _, _, _, _, _⟩ :: _) _ _; refine wpl_run (o := ⟨some 29, _, _, _, _, _⟩) (wanted_plain rfl) (.pointer (some (ka.add (k * 36)))) (Tk.index (by rfl) (by kernel_rfl) Tk.sz36 ka ks.length c k (by simp [Act.eval, Act.put]) (by simp [Act.eval, Act.put]) hlt) ?_)
          | (with_reducible change wpList _ _ _ (⟨some 30, _, _, _, _, _⟩ :: _) _ _; refine wpl_load_arr rfl 25 _ rfl (ka.add (k * 36)) rfl 36 Tk.agg36 kn kl hcells ?_)
          | (with_reducible change wpList _ _ _ (⟨some 9, _, _, _, _, _⟩ :: _) _ _; refine wpl_alloc rfl 25 rfl _ Tk.zero36 ?_)
          | (with_reducible change wpList _ _ _ (⟨none, _, _, _, _, _⟩ :: _) _ _; refine wpl_store_arr rfl 25 _ _ rfl wr.heap.size kn rfl rfl 25 (arr (List.replicate 36 0)) (Blk.nu rfl) 36 Tk.sz36 kl (by rw [arr_size, List.length_replicate]) ?_; refine wpl_name (fun W => Blk W wr.heap.size 25 (arr (nm ++ kk)) ∧ Below wr.heap.size wr W) ⟨Ekn.out ▸ (Blk.nu rfl).setRow _, below_setRow ((Below.refl _ _).alloc (Nat.le_refl _) _) (Nat.le_refl _) _⟩ ?_; rintro Wk ⟨bk, hBk⟩; have Ok := Or.next hBk)
          | (with_reducible change wpList _ _ _ (⟨some 31, _, _, _, _, _⟩ :: _) _ _; refine wpl_load_arr rfl 25 _ rfl ⟨wr.heap.size, 0, none⟩ rfl 36 Tk.agg36 (nm ++ kk) (by rw [Ekn.out]; exact kl) bk.cells_arr ?_)
          | (with_reducible change wpList _ _ _ (⟨some 32, _, _, _, _, _⟩ :: _) _ _; refine wpl_load_arr rfl 22 _ rfl ⟨gn, 0, none⟩ rfl 4 Tk.agg4 name Hn.out Ok.nm.cells_arr ?_)
          | (with_reducible change wpList _ _ _ (⟨some 34, _, _, _, _, _⟩ :: _) _ _; refine wpl_load_arr rfl 23 _ rfl ⟨wr.heap.size, 4, none⟩ rfl 32 Tk.agg32 kk Lkk.out (Tk.cells4 bk Lnm.out) ?_)
          | (with_reducible change wpList _ _ _ (⟨some 35, _, _, _, _, _⟩ :: _) _ _; refine wpl_build rfl 25 _ rfl [(0, .agg (arr name)), (1, .agg (arr kk))] rfl (arr (name ++ kk)) (Tk.built_key2 _ _ Hn.out Lkk.out) ?_)
          | (with_reducible change wpList _ _ _ (⟨some 36, _, _, _, _, _⟩ :: _) _ _; refine wpl_run (o := ⟨some 36, _, _, _, _, _⟩) (wanted_plain rfl) (.bool true) (Tk.neKey (by rfl) nm name kk Lnm.out Hn.out Lkk.out true hne (by simp [Act.eval, Act.put]) (by simp [Act.eval, Act.put])) ?_))
        have hBr := hbr.trans (hBk.mono hbr.size)
        go_roundw
        case rel => exact ⟨k + 1, hkj2, by go_num, hBr⟩
        case measure => simp [intOf]; omega
      · have ekj : k = j := by omega
        subst ekj
        have hkn : kn = name ++ key := by rw [← Hkn.out]; exact Hat.out hlt
        have hnm : name = nm := by rw [← Hnm.out, hkn, List.take_left' Hn.out]
        have hkk : key = kk := by rw [← Hkk.out, hkn, List.drop_left' Hn.out]
        subst hnm
        subst hkk
        have heq : (!decide (name = name)) = false := by rw [decide_eq_true rfl]; rfl
        go_wp2_with (first
          | (with_reducible change wpList _ _ _ (⟨some 29, _, _, _, _, _⟩ :: _) _ _; refine wpl_run (o := ⟨some 29, _, _, _, _, _⟩) (wanted_plain rfl) (.pointer (some (ka.add (k * 36)))) (Tk.index (by rfl) (by kernel_rfl) Tk.sz36 ka ks.length c k (by simp [Act.eval, Act.put]) (by simp [Act.eval, Act.put]) hlt) ?_)
          | (with_reducible change wpList _ _ _ (⟨some 30, _, _, _, _, _⟩ :: _) _ _; refine wpl_load_arr rfl 25 _ rfl (ka.add (k * 36)) rfl 36 Tk.agg36 kn kl hcells ?_)
          | (with_reducible change wpList _ _ _ (⟨some 9, _, _, _, _, _⟩ :: _) _ _; refine wpl_alloc rfl 25 rfl _ Tk.zero36 ?_)
          | (with_reducible change wpList _ _ _ (⟨none, _, _, _, _, _⟩ :: _) _ _; refine wpl_store_arr rfl 25 _ _ rfl wr.heap.size kn rfl rfl 25 (arr (List.replicate 36 0)) (Blk.nu rfl) 36 Tk.sz36 kl (by rw [arr_size, List.length_replicate]) ?_; refine wpl_name (fun W => Blk W wr.heap.size 25 (arr (name ++ key)) ∧ Below wr.heap.size wr W) ⟨Ekn.out ▸ (Blk.nu rfl).setRow _, below_setRow ((Below.refl _ _).alloc (Nat.le_refl _) _) (Nat.le_refl _) _⟩ ?_; rintro Wk ⟨bk, hBk⟩; have Ok := Or.next hBk)
          | (with_reducible change wpList _ _ _ (⟨some 31, _, _, _, _, _⟩ :: _) _ _; refine wpl_load_arr rfl 25 _ rfl ⟨wr.heap.size, 0, none⟩ rfl 36 Tk.agg36 (name ++ key) (by rw [Ekn.out]; exact kl) bk.cells_arr ?_)
          | (with_reducible change wpList _ _ _ (⟨some 32, _, _, _, _, _⟩ :: _) _ _; refine wpl_load_arr rfl 22 _ rfl ⟨gn, 0, none⟩ rfl 4 Tk.agg4 name Hn.out Ok.nm.cells_arr ?_)
          | (with_reducible change wpList _ _ _ (⟨some 34, _, _, _, _, _⟩ :: _) _ _; refine wpl_load_arr rfl 23 _ rfl ⟨wr.heap.size, 4, none⟩ rfl 32 Tk.agg32 key Hk.out (Tk.cells4 bk Hn.out) ?_)
          | (with_reducible change wpList _ _ _ (⟨some 35, _, _, _, _, _⟩ :: _) _ _; refine wpl_build rfl 25 _ rfl [(0, .agg (arr name)), (1, .agg (arr key))] rfl (arr (name ++ key)) (Tk.built_key2 _ _ Hn.out Hk.out) ?_)
          | (with_reducible change wpList _ _ _ (⟨some 36, _, _, _, _, _⟩ :: _) _ _; refine wpl_run (o := ⟨some 36, _, _, _, _, _⟩) (wanted_plain rfl) (.bool false) (Tk.neKey (by rfl) name name key Hn.out Hn.out Hk.out false heq (by simp [Act.eval, Act.put]) (by simp [Act.eval, Act.put])) ?_))
        have hBr := hbr.trans (hBk.mono hbr.size)
        obtain ⟨gk, Hgk⟩ : ∃ x, Hd (wr.heap.size = x) := ⟨_, ⟨rfl⟩⟩
        rw [Hgk.out] at bk ⊢
        refine p_start (fun W => Tk.Op w W name nonce gn gc ∧ Blk W gk 25 (arr (name ++ key))) (by kernel_rfl) ⟨Ok.next (Below.refl _ _).drew, bk.drew⟩ ?_
        clear Ok bk Or hBr hBk
        refine p_take 0 (o := _) rfl (by kernel_rfl) (by kernel_rfl) (by kernel_rfl) (wanted_plain rfl) (.pointer (some ⟨gk, 4, none⟩)) (fun _ _ _ h => h) (fun W hW => Tk.fieldA (by rfl) (by simp [Act.eval]) (Tk.fld_key1 _)) ?_
        simp only [Act.put, List.getElem_toArray, List.getElem_cons_succ, List.getElem_cons_zero, List.setIfInBounds_toArray, List.set_cons_zero, List.set_cons_succ]
        refine p_take 1 (o := _) rfl (by kernel_rfl) (by kernel_rfl) (by kernel_rfl) (wanted_plain rfl) (.slice (some ⟨gk, 4, none⟩) 32 32) (fun _ _ _ h => h) (fun W hW => Tk.slA (by rfl) Tryd.underlying23 Tk.sz8 _ (by simp [Act.eval])) ?_
        simp only [Act.put, List.getElem_toArray, List.getElem_cons_succ, List.getElem_cons_zero, List.setIfInBounds_toArray, List.set_cons_zero, List.set_cons_succ]
        refine p_take 2 (o := _) rfl (by kernel_rfl) (by kernel_rfl) (by kernel_rfl) (wanted_plain rfl) (.agg (arr nonce)) (fun _ _ _ h => h) (fun W hW => Tk.ldA (by rfl) (by simp [Act.eval]) Tk.agg12 (by rw [arr_size, Hc.out]) hW.1.nc) ?_
        simp only [Act.put, List.getElem_toArray, List.getElem_cons_succ, List.getElem_cons_zero, List.setIfInBounds_toArray, List.set_cons_zero, List.set_cons_succ]
        refine p_take 3 (o := _) rfl (by kernel_rfl) (by kernel_rfl) (by kernel_rfl) (wanted_plain rfl) (.slice (some ⟨gn, 0, none⟩) 4 4) (fun _ _ _ h => h) (fun W hW => Tk.slA (by rfl) Tryd.underlying22 Tk.sz8 _ (by simp [Act.eval])) ?_
        simp only [Act.put, List.getElem_toArray, List.getElem_cons_succ, List.getElem_cons_zero, List.setIfInBounds_toArray, List.set_cons_zero, List.set_cons_succ]
        refine p_take 4 (o := _) rfl (by kernel_rfl) (by kernel_rfl) (by kernel_rfl) (wanted_plain rfl) (.slice (some ad) m d) (fun _ _ _ h => h) (fun W hW => run_move (by rfl) (by simp [Act.eval]) W) ?_
        simp only [Act.put, List.getElem_toArray, List.getElem_cons_succ, List.getElem_cons_zero, List.setIfInBounds_toArray, List.set_cons_zero, List.set_cons_succ]
        refine p_take 5 (o := _) rfl (by kernel_rfl) (by kernel_rfl) (by kernel_rfl) (wanted_plain rfl) (.slice (some a16) (m - 16) (d - 16)) (fun _ _ _ h => h) (fun W hW => Tk.slFrom (by rfl) ad a16 m d 16 Ha16.out (by simp [Act.eval]) (by simp [Act.eval]) (by have := Hm.out; omega) Hmd.out (by have := Hm.out; have := Hmd.out; have := Lsd.out; omega)) ?_
        simp only [Act.put, List.getElem_toArray, List.getElem_cons_succ, List.getElem_cons_zero, List.setIfInBounds_toArray, List.set_cons_zero, List.set_cons_succ]
        refine p_one 6 (by kernel_rfl) (fun W hW _ => ?_)
        refine op_call (o := _) rfl (wanted_plain rfl) 18 _ _ rfl #[.int .u16 4867, .slice (some ⟨gk, 4, none⟩) 32 32, .agg (arr nonce), .slice (some ⟨gn, 0, none⟩) 4 4, .slice (some a16) (m - 16) (d - 16)] (by simp [Act.eval]) (Tk.enter_open _) ?_
        have hkey := Tk.reads_at hW.2 4 32 (by rw [List.length_append, Hn.out, Hk.out]; exact Nat.le_refl _)
        rw [List.drop_left' Hn.out, List.take_of_length_le (Nat.le_of_eq Hk.out)] at hkey
        have hnam := Tk.reads_at hW.1.nm 0 4 (by rw [Hn.out]; exact Nat.le_refl _)
        rw [List.drop_zero, List.take_of_length_le (Nat.le_of_eq Hn.out)] at hnam
        have hsd := (⟨hr.len, (hr.is.below hW.1.below).more hW.1.below.size⟩ : ReadsB W W.heap.size (some ad) m (name ++ (nonce ++ sd))).drop (k := 16) (c := d) (by have := Hm.out; omega) Hmd.out
        rw [if_neg (by have := Hm.out; have := Hmd.out; have := Lsd.out; omega), ← List.append_assoc, List.drop_left' (by rw [List.length_append, Hn.out, Hc.out]), show (some ad).map (·.add 16) = some a16 from congrArg some Ha16.out] at hsd
        refine (suiteOpen_cha _ 32 key nonce Hc.out _ 4 4 name (some a16) (m - 16) (d - 16) sd W hkey hnam (Nat.le_refl _) hsd (Nat.sub_le_sub_right Hmd.out 16) (by have := Hm.out; have := Lsd.out; have := Ltx.out; omega)).mono ?_
        intro e W5 hO
        rw [Hun.out] at hO
        obtain ⟨v5, rfl, own5, hE⟩ := hO
        obtain ⟨A5, c5, e5⟩ := own5.slice
        subst e5
        refine ⟨_, rfl, Next.mk (fun W => (Tk.Op w W name nonce gn gc ∧ Blk W gk 25 (arr (name ++ key))) ∧ OwnB W w.heap.size (.slice A5 (Tk.text s).length c5) (Tk.text s)) (fun _ => True) (fun _ h => h.1) ⟨⟨hW.1.next hE, hW.2.below hE hW.2.lt⟩, own5.low hW.1.below.size⟩ trivial ?_⟩
        clear hE hW own5 hkey hnam hsd
        simp only [Act.put, List.getElem_toArray, List.getElem_cons_succ, List.getElem_cons_zero, List.setIfInBounds_toArray, List.set_cons_zero, List.set_cons_succ]
        refine p_take 7 (o := _) rfl (by kernel_rfl) (by kernel_rfl) (by kernel_rfl) (wanted_plain rfl) (.tuple #[.slice A5 (Tk.text s).length c5, .int .i64 0]) (fun _ _ _ h => h) (fun W hW => run_move (by rfl) (by simp [Act.eval]) W) ?_
        simp only [Act.put, List.getElem_toArray, List.getElem_cons_succ, List.getElem_cons_zero, List.setIfInBounds_toArray, List.set_cons_zero, List.set_cons_succ]
        refine p_take 8 (o := _) rfl (by kernel_rfl) (by kernel_rfl) (by kernel_rfl) (wanted_plain rfl) (.slice A5 (Tk.text s).length c5) (fun _ _ _ h => h) (fun W hW => run_extract (by rfl) #[.slice A5 (Tk.text s).length c5, .int .i64 0] (.slice A5 (Tk.text s).length c5) (by simp [Act.eval]) (by rfl)) ?_
        simp only [Act.put, List.getElem_toArray, List.getElem_cons_succ, List.getElem_cons_zero, List.setIfInBounds_toArray, List.set_cons_zero, List.set_cons_succ]
        refine p_take 9 (o := _) rfl (by kernel_rfl) (by kernel_rfl) (by kernel_rfl) (wanted_plain rfl) (.int .i64 0) (fun _ _ _ h => h) (fun W hW => run_extract (by rfl) #[.slice A5 (Tk.text s).length c5, .int .i64 0] (.int .i64 0) (by simp [Act.eval]) (by rfl)) ?_
        simp only [Act.put, List.getElem_toArray, List.getElem_cons_succ, List.getElem_cons_zero, List.setIfInBounds_toArray, List.set_cons_zero, List.set_cons_succ]
        refine p_take 10 (o := _) rfl (by kernel_rfl) (by kernel_rfl) (by kernel_rfl) (wanted_plain rfl) (.slice A5 (Tk.text s).length c5) (fun _ _ _ h => h) (fun W hW => run_assign (by rfl) (by simp [Act.eval]) W) ?_
        simp only [Act.put, List.getElem_toArray, List.getElem_cons_succ, List.getElem_cons_zero, List.setIfInBounds_toArray, List.set_cons_zero, List.set_cons_succ]
        refine p_take 11 (o := _) rfl (by kernel_rfl) (by kernel_rfl) (by kernel_rfl) (wanted_plain rfl) (.int .i64 0) (fun _ _ _ h => h) (fun W hW => run_assign (by rfl) (by simp [Act.eval]) W) ?_
        simp only [Act.put, List.getElem_toArray, List.getElem_cons_succ, List.getElem_cons_zero, List.setIfInBounds_toArray, List.set_cons_zero, List.set_cons_succ]
        refine (show ∀ z0, wpAnyV _ _ _ _ _ _ z0 _ _ _ from fun z0 => p_done (by kernel_rfl) (fun W6 H => ?_) z0) _
        obtain ⟨⟨O6, _⟩, own6⟩ := H
        have room6 := own6.room
        obtain ⟨su, se, ho, pr, ma, li, ad2⟩ := s
        have hle : se.length ≤ 48 ∧ ho.length ≤ 253 ∧ pr.length ≤ 255 := Hle.out
        go_wp2_with (first
          | (with_reducible change wpList _ _ _ (⟨none, .store _ (.tmp 4) _, _, _, _, _⟩ :: _) _ _; refine wpl_run_skip (wanted_plain rfl) (Tk.stA (ds := #[.int .u16 ((n16 su : Nat) : Int), .slice A7 se.length c7, .string (str ho), .string (str pr), .int .u64 ((n64 ma : Nat) : Int), .int .u32 ((n32 li : Nat) : Int), .int .u32 ((n32 ad2 : Nat) : Int)]) (by rfl) (by simp [Act.eval, Act.put]) (by simp [Act.eval, Act.put]) (O7.res.alloc _) Tk.sz7 rfl (by simp [Value.oneCell'])) ?_)
          | (go_at_call 19; refine (told_any ⟨su, se, ho, pr, ma, li, ad2⟩ (show se.length < 256 by omega) (show ho.length < 256 by omega) (show pr.length < 256 by omega) A5 _ c5 W6 own6.reads_any.2 room6 (fun A' c' W => (may_any ⟨su, se, ho, pr, ma, li, ad2⟩ A' c' W).mono (fun e w' h => ⟨by rw [h.1, HM.out], h.2⟩))).mono ?_; rintro e W7 ⟨A7, c7, rfl, own7, hB7⟩; have O7 := O6.next hB7; unfold Tk.ses; dsimp only))
        refine Tk.ret2 rfl _ rfl _ rfl Tk.ses_agg _ rfl ((O7.res.alloc _).setRow _) rfl ?_
        have own8 := (own7.later ((Below.refl W7.heap.size W7).alloc (Nat.le_refl _) (.cells #[.int .u16 ((n16 su : Nat) : Int), .slice A7 se.length c7, .string (str ho), .string (str pr), .int .u64 ((n64 ma : Nat) : Int), .int .u32 ((n32 li : Nat) : Int), .int .u32 ((n32 ad2 : Nat) : Int)] 34))).moved (z := w.heap.size) (grew_setRow (⟨rfl, rfl, rfl, Nat.le_refl _, fun _ _ _ => rfl⟩ : (W7.alloc (.cells #[.int .u16 ((n16 su : Nat) : Int), .slice A7 se.length c7, .string (str ho), .string (str pr), .int .u64 ((n64 ma : Nat) : Int), .int .u32 ((n32 li : Nat) : Int), .int .u32 ((n32 ad2 : Nat) : Int)] 34)).grownBy (W7.alloc (.cells #[.int .u16 ((n16 su : Nat) : Int), .slice A7 se.length c7, .string (str ho), .string (str pr), .int .u64 ((n64 ma : Nat) : Int), .int .u32 ((n32 li : Nat) : Int), .int .u32 ((n32 ad2 : Nat) : Int)] 34)) (some w.heap.size)) #[.int .u16 ((n16 su : Nat) : Int), .slice A7 se.length c7, .string (str ho), .string (str pr), .int .u64 ((n64 ma : Nat) : Int), .int .u32 ((n32 li : Nat) : Int), .int .u32 ((n32 ad2 : Nat) : Int)]) (by
          rcases own7.size with e | ⟨g', e, h1, _⟩
          · rw [e]; intro h; cases h
          · rw [e]; intro h; injection h; have := O6.res.lt; omega)
        have hB8 := below_setRow (O7.below.alloc O7.below.size (.cells #[.int .u16 ((n16 su : Nat) : Int), .slice A7 se.length c7, .string (str ho), .string (str pr), .int .u64 ((n64 ma : Nat) : Int), .int .u32 ((n32 li : Nat) : Int), .int .u32 ((n32 ad2 : Nat) : Int)] 34)) (Nat.le_refl _) #[.int .u16 ((n16 su : Nat) : Int), .slice A7 se.length c7, .string (str ho), .string (str pr), .int .u64 ((n64 ma : Nat) : Int), .int .u32 ((n32 li : Nat) : Int), .int .u32 ((n32 ad2 : Nat) : Int)]
        exact ⟨hB8, fun _ => ⟨A7, c7, rfl, own8.reads_any.2⟩, fun h => absurd h (by omega)⟩
    · have ekn : k = ks.length := by omega
      have ejn : j = ks.length := by omega
      have t1 : ¬ (k : Int) < (ks.length : Int) := by omega
      go_wp2_with (first
        | (with_reducible change wpList _ _ _ (⟨none, _, _, _, _, _⟩ :: _) _ _; refine wpl_run_skip (wanted_plain rfl) (Tk.stA (ds := Tk.zero) (by rfl) (by simp [Act.eval, Act.put]) (by simp [Act.eval, Act.put, Tk.zero]) Or.res Tk.sz7 rfl (by simp [Tk.zero, Value.oneCell'])) ?_))
      refine Tk.ret2 rfl _ rfl _ rfl Tk.ses_agg Tk.zero rfl (Or.res.setRow Tk.zero) rfl ?_
      exact ⟨below_setRow Or.below (Nat.le_refl _) _, fun h => absurd h (by omega), fun _ => rfl⟩

end Go.Proofs.YthigbggacgiamaaDoor
