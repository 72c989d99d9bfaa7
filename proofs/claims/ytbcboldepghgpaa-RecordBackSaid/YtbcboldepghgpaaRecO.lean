/-
  RecordBack: what its two loops keep.
-/
import Derived.Test.YtbcboldepghgpaaRecN
import Derived.Test.YtbcboldepghgpaaRecL
import Derived.Deep.DeepCutAuto
import Derived.Deep.CutBlock
set_option linter.unusedVariables false
set_option linter.unusedSimpArgs false
set_option maxRecDepth 100000
namespace Go.Proofs.Ytbcboldepghgpaa
open Go.RowKit Go.WideElems Go.Deep
theorem wpl_appendP {w : World} {ops : Array Oper} {rest : List Oper} {o : Oper} {a : Act} {Q : Exit → Act → World → Prop} (hgd : o.guard = none) (s x : Operand)
    (ho : o.op = .call { callee := .builtin .append, args := #[s, x], argTypes := #[44, 44] })
    (B : Nat) (v : Value) (l : List Pc) (hs : a.eval s = v) (hown : OwnP w B v l) (ad : Addr) (c : Nat) (p : Pc) (hx : a.eval x = .slice (some ad) 1 c) (hk : w.cell? ad = some (.int .u8 (n8 p.k))) (hv : w.cell? (ad.add 1) = some p.v) (hp : w.cell? (ad.add 2) = some (.int .i64 p.pad)) (h1 : p.v.oneCell' = true)
    (hl : l.length ≤ 100) (hB : B ≤ w.heap.size)
    (h : ∀ v' w', OwnP w' B v' (l ++ [p]) → w.grownBy w' v.ownBlock → wpList Try.prog ops Q rest (a.put o.dst v') w') : wpList Try.prog ops Q (o :: rest) a w := by
  refine wpList_plain hgd fun _ hK => ?_
  obtain ⟨v', w', hr, h2, h3⟩ := run_appendP w o.type B v l hown ad c p hk hv hp h1 hl hB
  unfold Oper.wp execOp
  simp only [ho, resolve, invoke, builtin, Sem.run_bind, Sem.run_pure, Result.andThen_ok, List.map_toArray, List.map_cons, List.map_nil, hs, hx, hr]
  exact hK _ _ (h v' w' h2 h3)
theorem OwnB.up {w : World} {B B' : Nat} {v : Value} {l : List UInt8} (h : OwnB w B v l) (hB : ∀ g, v.ownBlock = some g → B' ≤ g) : OwnB w B' v l := by
  obtain ⟨h1, h2⟩ := h.own
  refine ⟨⟨h1, h2.imp id ?_⟩⟩
  rintro ⟨g, cap, cur, rfl, h3, h4, h5⟩
  exact ⟨g, cap, cur, rfl, hB g rfl, h4, h5⟩
namespace Rec
structure PzAt (w : World) (p : Pc) (z : Pz) : Prop where
  k : p.k = z.t
  pad : p.pad = (z.pad : Int)
  ok : z.Ok
  v : ∃ A m c, p.v = .slice A m c ∧ m ≤ c ∧ ReadsB w w.heap.size A m z.b
/-- The first loop. -/
structure L1 (w W2 : World) (glw : Nat) (s : UInt16) (Aw : Option Addr) (cw : Nat) (K V : List UInt8) (st wa : Value) (k : Nat) (zs : List Pz) (ps : List Pc) (wr : World) : Prop where
  gr : W2.grownBy wr (some glw)
  lk : LkK wr glw s Aw cw K V (UInt64.ofNat k)
  own : OwnB wr W2.heap.size st (recs s K V 0 zs)
  pcs : OwnP wr W2.heap.size wa ps
  zl : zs.length = k
  pl : ps.length = k
  kb : ∀ g, (Value.slice Aw K.length cw).ownBlock = some g → g < W2.heap.size
  ats : ∀ (j : Nat) p z, ps[j]? = some p → zs[j]? = some z → PzAt w p z
section
variable {w W2 : World} {glw : Nat} {s : UInt16} {Aw : Option Addr} {cw : Nat} {K V : List UInt8} {st wa : Value} {k : Nat} {zs : List Pz} {ps : List Pc} {wr W4 W5 W7 : World}
theorem L1.oks (h : L1 w W2 glw s Aw cw K V st wa k zs ps wr) : ∀ z ∈ zs, z.Ok := fun z hz => by
  obtain ⟨j, hj, e⟩ := List.getElem_of_mem hz
  have hj2 : j < ps.length := by rw [h.pl, ← h.zl]; exact hj
  exact (h.ats j ps[j] z (List.getElem?_eq_getElem hj2) (by rw [List.getElem?_eq_getElem hj, e])).ok
theorem L1.own4 (h : L1 w W2 glw s Aw cw K V st wa k zs ps wr) {o : Obj} (g4 : (wr.alloc o).grownBy W4 (some glw)) : OwnB W4 W2.heap.size st (recs s K V 0 zs) :=
  (h.own.alloc o).moved g4 (own_blk_ne h.own.own h.lk.blk (by decide))
theorem L1.pcs4 (h : L1 w W2 glw s Aw cw K V st wa k zs ps wr) {o : Obj} (g4 : (wr.alloc o).grownBy W4 (some glw)) : OwnP W4 W2.heap.size wa ps :=
  (h.pcs.later ((Below.refl _ _).alloc (Nat.le_refl _) o)).moved g4 (.inr (own_blk_ne h.pcs h.lk.blk (by decide)))
theorem apart {l : List UInt8} (h : OwnB W4 W2.heap.size st l) (h' : OwnP W4 W2.heap.size wa ps) : wa.ownBlock = none ∨ wa.ownBlock ≠ st.ownBlock := by
  cases e : wa.ownBlock with
  | none => exact .inl rfl
  | some g => exact .inr (fun e2 => own_own_ne h.own h' (by decide) g e2.symm e)
theorem L1.pcs6 (h : L1 w W2 glw s Aw cw K V st wa k zs ps wr) {o o' : Obj} (g4 : (wr.alloc o).grownBy W4 (some glw)) (g5 : W4.grownBy W5 st.ownBlock) : OwnP (W5.alloc o') W2.heap.size wa ps :=
  ((h.pcs4 g4).moved g5 (apart (h.own4 g4) (h.pcs4 g4))).later ((Below.refl _ _).alloc (Nat.le_refl _) o')
theorem L1.step (h : L1 w W2 glw s Aw cw K V st wa k zs ps wr) {o o' : Obj} {st' wa' : Value} {p : Pc} {z : Pz} (g4 : (wr.alloc o).grownBy W4 (some glw)) (lk4 : LkK W4 glw s Aw cw K V (UInt64.ofNat k + 1)) (g5 : W4.grownBy W5 st.ownBlock) (own5 : OwnB W5 W2.heap.size st' (recs s K V 0 zs ++ one s K V k z))
    (g7 : (W5.alloc o').grownBy W7 wa.ownBlock) (pcs7 : OwnP W7 W2.heap.size wa' (ps ++ [p])) (hat : PzAt w p z) : L1 w W2 glw s Aw cw K V st' wa' (k + 1) (zs ++ [z]) (ps ++ [p]) W7 := by
  have o4 := h.own4 g4
  have p4 := h.pcs4 g4
  have hglt := lk4.blk.lt
  have sne : ∀ i, i < W2.heap.size → some i ≠ st.ownBlock := fun i hi e => by
    have := (World.ownsRow.lt h.own.own _ e.symm).1; omega
  have wne : ∀ i, i < W2.heap.size → some i ≠ wa.ownBlock := fun i hi e => by
    have := (World.ownsRow.lt h.pcs _ e.symm).1; omega
  have hsz := h.gr.size
  have s1 : wr.heap.size + 1 ≤ W4.heap.size := by have := g4.size; rwa [alloc_size] at this
  have s5 := g5.size
  have s7 : W5.heap.size + 1 ≤ W7.heap.size := by have := g7.size; rwa [alloc_size] at this
  refine ⟨⟨?_, ?_, ?_, by omega, fun i hi hne => ?_⟩, ?_, ?_, pcs7, by simp [h.zl], by simp [h.pl], h.kb, ?_⟩
  · exact g7.os.trans (g5.os.trans (g4.os.trans h.gr.os))
  · exact g7.tape.trans (g5.tape.trans (g4.tape.trans h.gr.tape))
  · exact g7.output.trans (g5.output.trans (g4.output.trans h.gr.output))
  · rw [g7.block i (by rw [alloc_size]; omega) (wne i hi), Below.heap_alloc W5 o' i (by omega), g5.block i (by omega) (sne i hi), g4.block i (by rw [alloc_size]; omega) hne, Below.heap_alloc wr o i (by omega)]
    exact h.gr.block i hi hne
  · have kne : ∀ z : Option Nat, (∀ i, i < W2.heap.size → some i ≠ z) → (Value.slice Aw K.length cw).ownBlock = none ∨ (Value.slice Aw K.length cw).ownBlock ≠ z := fun z hz => by
      cases e : (Value.slice Aw K.length cw).ownBlock with
      | none => exact .inl rfl
      | some g => exact .inr (hz g (h.kb g e))
    have b5 := lk4.blk.grown g5 (fun e => own_blk_ne o4.own lk4.blk (by decide) e.symm)
    have k5 : OwnB W5 0 (.slice Aw K.length cw) K := ⟨lk4.own.own.kept g5 (kne _ sne)⟩
    have b6 := b5.alloc o'
    have p6 := h.pcs6 (o' := o') g4 g5
    rw [show UInt64.ofNat (k + 1) = UInt64.ofNat k + 1 from UInt64.ofNat_add k 1]
    exact ⟨b6.grown g7 (fun e => own_blk_ne p6 b6 (by decide) e.symm), ⟨(k5.alloc o').own.kept g7 (kne _ wne)⟩, lk4.iv12⟩
  · have p5 : OwnP W5 W2.heap.size wa ps := (h.pcs4 g4).moved g5 (apart (h.own4 g4) (h.pcs4 g4))
    have hne : st'.ownBlock = none ∨ st'.ownBlock ≠ wa.ownBlock := by
      rcases apart own5 p5 with e | e
      · cases e2 : st'.ownBlock with
        | none => exact .inl rfl
        | some g => rw [e]; exact .inr (by simp)
      · exact .inr (fun e2 => e e2.symm)
    rw [recs_snoc, Nat.zero_add, h.zl]
    exact ⟨(own5.alloc o').own.kept g7 hne⟩
  · intro j p' z' hj hz
    rw [List.getElem?_append] at hj hz
    by_cases hjk : j < k
    · rw [if_pos (by rw [h.pl]; exact hjk)] at hj
      rw [if_pos (by rw [h.zl]; exact hjk)] at hz
      exact h.ats j p' z' hj hz
    · rw [if_neg (by rw [h.pl]; exact hjk), h.pl] at hj
      rw [if_neg (by rw [h.zl]; exact hjk), h.zl] at hz
      have e0 : j - k = 0 := by
        rcases Nat.eq_zero_or_pos (j - k) with h0 | h0
        · exact h0
        · rw [List.getElem?_eq_none (by simp; omega)] at hj; cases hj
      rw [e0] at hj hz
      simp at hj hz
      subst hj hz
      exact hat
end
/-- The second loop. -/
structure L2 (WX : World) (gr glr : Nat) (s : UInt16) (Ar : Option Addr) (cr : Nat) (K V : List UInt8) (zs : List Pz) (k : Nat) (D : Option Addr) (m d : Nat) (H : Option Addr) (h c : Nat) (held rest : List UInt8) (wr : World) : Prop where
  mv : M3 WX wr gr glr glr
  rd : RdAt wr gr glr (.slice H h c) 0 false s Ar cr K V (UInt64.ofNat k)
  own : OwnB wr 0 (.slice H h c) held
  hi : ∀ g, (Value.slice H h c).ownBlock = some g → WX.heap.size ≤ g
  h16 : h ≤ 16645
  rs : ReadsB WX WX.heap.size D m rest
  md : m ≤ d
  away : 0 < m → ∀ ad, D = some ad → ad.block ≠ gr ∧ ad.block ≠ glr
  all : held ++ rest = recs s K V k (zs.drop k)
  kb : ∀ g, (Value.slice Ar K.length cr).ownBlock = some g → g < WX.heap.size
  lo : gr < WX.heap.size ∧ glr < WX.heap.size
section
variable {WX : World} {gr glr : Nat} {s : UInt16} {Ar : Option Addr} {cr : Nat} {K V : List UInt8} {zs : List Pz} {k : Nat} {D : Option Addr} {m d : Nat} {H : Option Addr} {h c : Nat} {held rest : List UInt8} {wr W1 : World}
theorem L2.len (I : L2 WX gr glr s Ar cr K V zs k D m d H h c held rest wr) : held.length = h := I.own.reads_any.1.symm
theorem L2.reads (I : L2 WX gr glr s Ar cr K V zs k D m d H h c held rest wr) : ReadsB wr wr.heap.size D m rest :=
  ⟨I.rs.len, I.rs.is.1, fun hn => by
    obtain ⟨ad, e, hb, hc⟩ := I.rs.is.2 hn
    obtain ⟨n1, n2⟩ := I.away hn ad e
    have := I.mv.size
    exact ⟨ad, e, by omega, fun j u hu => by rw [← hc j u hu]; exact World.cell?_of_block (I.mv.block _ (by rw [block_of_add]; omega) (by rw [block_of_add]; exact n1) (by rw [block_of_add]; exact n2) (by rw [block_of_add]; exact n2))⟩⟩
theorem L2.kept (I : L2 WX gr glr s Ar cr K V zs k D m d H h c held rest wr) (hb : Below wr.heap.size wr W1) : L2 WX gr glr s Ar cr K V zs k D m d H h c held rest W1 :=
  ⟨I.mv.next hb, I.rd.next hb, I.own.later hb, I.hi, I.h16, I.rs, I.md, I.away, I.all, I.kb, I.lo⟩
theorem feed_more (I : L2 WX gr glr s Ar cr K V zs k D m d H h c held rest wr) (n0 n : Nat) (h0 : n0 ≤ m) (hm : m ≤ 140737488355328) (hn : n = min n0 (16645 - h)) :
    Calls Try.prog 23 #[.pointer (some ⟨gr, 0, none⟩), .slice D n0 d] wr fun e w' => e = .returned (.int .i64 (n : Int)) ∧ ∃ A' c', L2 WX gr glr s Ar cr K V zs k (if d = n then D else D.map (·.add n)) (m - n) (d - n) A' (h + n) c' (held ++ rest.take n) (rest.drop n) w' := by
  have hr0 := I.reads.take h0
  have hmd := I.md
  refine (feed_any gr _ H c held h 0 false D n0 d (rest.take n0) n wr I.rd.br I.own hr0 (by omega) (by omega) I.len I.h16 hn).mono ?_
  rintro e w' ⟨rfl, A', c', br, ow, mv, at_⟩
  refine ⟨rfl, A', c', ?_⟩
  have hrn : ∀ g, (Value.slice H h c).ownBlock = some g → WX.heap.size ≤ g := I.hi
  have rne : ∀ i, i < WX.heap.size → some i ≠ (Value.slice H h c).ownBlock := fun i hi e => by
    have := hrn _ e.symm; omega
  have hsz := I.mv.size
  have et : (rest.take n0).take n = rest.take n := by rw [List.take_take]; congr 1; omega
  rw [et] at ow
  refine ⟨⟨mv.os.trans I.mv.os, mv.tape.trans I.mv.tape, mv.output.trans I.mv.output, Nat.le_trans hsz mv.size, fun i hi h1 h2 h3 => (mv.block i (by omega) h1 (rne i hi)).trans (I.mv.block i hi h1 h2 h3)⟩, ⟨br, ⟨mv.blk I.rd.lk.blk (I.rd.lk.blk.ne_ I.rd.br (by decide)) (rne _ I.lo.2), mv.own I.rd.lk.own (own_blk_ne I.rd.lk.own.own I.rd.br (by decide)) ?_, I.rd.lk.iv12⟩⟩, ow, ?_, by have := I.h16; omega, ?_, by omega, ?_, ?_, I.kb, I.lo⟩
  · cases e : (Value.slice Ar K.length cr).ownBlock with
    | none => exact .inr rfl
    | some g => exact .inl (rne g (I.kb g e))
  · intro g e
    rcases at_ with a | a
    · exact hrn g (a.symm.trans e)
    · rw [a] at e; injection e with e; omega
  · exact I.rs.drop (by omega) hmd
  · intro hp ad e
    split at e
    · exact I.away (by omega) ad e
    · cases D with
      | none => cases e
      | some a =>
        injection e with e
        rw [← e, block_of_add]
        exact I.away (by omega) a rfl
  · rw [List.append_assoc, List.take_append_drop]; exact I.all
theorem drop_at {z : Pz} (hz : zs[k]? = some z) : zs.drop k = z :: zs.drop (k + 1) := by
  obtain ⟨hk, e⟩ := List.getElem?_eq_some_iff.1 hz
  rw [List.drop_eq_getElem_cons hk, e]
theorem next_less (I : L2 WX gr glr s Ar cr K V zs k D m d H h c held rest wr) {z : Pz} (hz : zs[k]? = some z) (hok : z.Ok) (hlt : h < (one s K V k z).length) :
    Calls Try.prog 24 #[.pointer (some ⟨gr, 0, none⟩)] wr fun e w' => e = .returned (.tuple #[.int .u8 0, .slice none 0 0, .bool false, .int .i64 0]) ∧ L2 WX gr glr s Ar cr K V zs k D m d H h c held rest w' := by
  by_cases h5 : h < 5
  · refine (next_few gr _ H h c 0 false wr I.rd.br h5).mono ?_
    rintro e w' ⟨rfl, hb⟩
    exact ⟨rfl, I.kept hb⟩
  · obtain ⟨g, cap, e1, _⟩ := I.own.form (by rw [I.len]; omega)
    have hl := I.len
    rw [hl] at e1
    injection e1 with e1 _ e3
    subst e1 e3
    have hall := I.all
    rw [drop_at hz, recs] at hall
    unfold one at hall hlt
    have hb := rec_bytes s K V (UInt64.ofNat k) z.t z.b (recs s K V (k + 1) (zs.drop (k + 1))) z.pad _ rfl
    rw [← hall] at hb
    rw [nth_app_left _ _ _ (by omega), nth_app_left _ _ _ (by omega), nth_app_left _ _ _ (by omega)] at hb
    have hL := recOf_len s K V (UInt64.ofNat k) z.t z.b z.pad
    have hT := textOf_len z.b z.t z.pad
    have o1 := hok.len
    have o2 := hok.pad
    refine (next_part gr g h c ((textOf z.b z.t z.pad).length + 16) _ 0 false held wr I.rd.br I.own (by omega) (by omega) (by omega) hb.1 hb.2.1 hb.2.2.1).mono ?_
    rintro e w' ⟨rfl, hb⟩
    exact ⟨rfl, I.kept hb⟩
theorem next_whole (I : L2 WX gr glr s Ar cr K V zs k D m d H h c held rest wr) {z : Pz} {n0 : Nat} (hs : Suite.Ok s n0) (hK : K.length = n0) (hz : zs[k]? = some z) (hok : z.Ok) (hk6 : k ≤ 6) (hge : (one s K V k z).length ≤ h) :
    Calls Try.prog 24 #[.pointer (some ⟨gr, 0, none⟩)] wr fun e w' => ∃ A2, e = .returned (.tuple #[.int .u8 ((n8 z.t : Nat) : Int), .slice A2 z.b.length z.b.length, .bool true, .int .i64 0]) ∧ ReadsB w' w'.heap.size A2 z.b.length z.b ∧ ∃ H' h' c' held', L2 WX gr glr s Ar cr K V zs (k + 1) D m d H' h' c' held' rest w' := by
  have h22 := (one_len s K V k z hok).1
  have hl := I.len
  obtain ⟨g, cap, e1, _⟩ := I.own.form (by rw [hl]; omega)
  rw [hl] at e1
  injection e1 with e1 _ e3
  subst e1 e3
  have hall := I.all
  rw [drop_at hz, recs] at hall
  have hsp : held = one s K V k z ++ held.drop (one s K V k z).length := by
    have h1 : (held ++ rest).take (one s K V k z).length = one s K V k z := by rw [hall, List.take_left]
    rw [List.take_append_of_le_length (by omega)] at h1
    conv => lhs; rw [← List.take_append_drop (one s K V k z).length held, h1]
  have hrest : held.drop (one s K V k z).length ++ rest = recs s K V (k + 1) (zs.drop (k + 1)) := by
    rw [hsp, List.append_assoc] at hall
    exact List.append_cancel_left hall
  have hown := I.own
  have hL := recOf_len s K V (UInt64.ofNat k) z.t z.b z.pad
  generalize hr2 : held.drop (one s K V k z).length = rest2 at *
  rw [hsp] at hown
  unfold one at hown hge
  have hseq : (UInt64.ofNat k + 1 == 0) = false := by
    rcases (show k = 0 ∨ k = 1 ∨ k = 2 ∨ k = 3 ∨ k = 4 ∨ k = 5 ∨ k = 6 by omega) with rfl | rfl | rfl | rfl | rfl | rfl | rfl <;> decide
  have ht0 : (z.t == 0) = false := by
    rcases hok.cont with e | ⟨_, e | e⟩ <;> rw [e] <;> rfl
  have hgx := I.hi g rfl
  have hkg : (Value.slice Ar K.length cr).ownBlock ≠ some g := fun e => by have := I.kb g e; omega
  have hown2 := I.rd.lk.own
  refine (next_any n0 s hs Ar cr K V hK (UInt64.ofNat k) hseq gr glr g h c 0 false z.t z.b rest2 z.b.length z.pad (min z.pad (16384 - z.b.length)) wr I.rd hown I.h16 rfl hok.len hok.pad rfl ht0 hok.cont hkg).mono ?_
  rintro e w' ⟨A2, rfl, hx, rd, ow, m3⟩
  refine ⟨A2, rfl, hx, some ⟨g, 0, none⟩, h - (5 + (z.b.length + 1 + min z.pad (16384 - z.b.length) + 16)), c, rest2, ?_⟩
  rw [show UInt64.ofNat k + 1 = UInt64.ofNat (k + 1) from (UInt64.ofNat_add k 1).symm] at rd
  have hsz := I.mv.size
  exact ⟨⟨m3.os.trans I.mv.os, m3.tape.trans I.mv.tape, m3.output.trans I.mv.output, Nat.le_trans hsz m3.size, fun i hi h1 h2 h3 => (m3.block i (by omega) h1 (by omega) h2).trans (I.mv.block i hi h1 h2 h3)⟩, rd, ow, fun g' e => I.hi g' e, by have := I.h16; omega, I.rs, I.md, I.away, hrest, I.kb, I.lo⟩
end
end Rec
end Go.Proofs.Ytbcboldepghgpaa
