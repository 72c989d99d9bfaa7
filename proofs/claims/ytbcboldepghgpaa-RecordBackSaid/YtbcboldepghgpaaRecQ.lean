/-
  The walk of RecordBack.
-/
import Derived.Test.YtbcboldepghgpaaRecO
import Derived.BigQuiet
import Derived.Deep.QuietTactic
set_option linter.unusedVariables false
set_option linter.unusedSimpArgs false
set_option maxRecDepth 100000
namespace Go.Proofs.Ytbcboldepghgpaa
open Go.RowKit Go.WideElems Go.Deep
theorem Rec.content_same (t : UInt8) (w : World) : Calls Try.prog 21 #[.int .u8 ((n8 t : Nat) : Int)] w fun e w' => e = .returned (.int .u8 ((n8 (21 + t % 3) : Nat) : Int)) ∧ w' = w := by
  go_enter Try.func21, Try.ntmps21
  go_wp2_with (first
    | (refine wpl_run (o := ⟨some 4, _, _, _, _, _⟩) (wanted_plain rfl) (.int .u8 ((n8 (t % 3) : Nat) : Int)) (Rec.run_rem8 (by rfl) t 3 (by decide) (by simp [Act.eval, Act.put]) (by rfl)) ?_)
    | (refine wpl_run (o := ⟨some 5, _, _, _, _, _⟩) (wanted_plain rfl) (.int .u8 ((n8 (21 + t % 3) : Nat) : Int)) (Rec.run_cont (by rfl) _ (by simp [Act.eval, Act.put]) (by simp [Act.eval, Act.put])) ?_))
  go_ret
  exact ⟨rfl, rfl⟩
theorem Rec.drop_any (c : Int) (w : World) (hc : -9223372036854775808 ≤ c ∧ c ≤ 9223372036854775807) : Calls Try.prog 22 #[.int .i64 c, .int .i64 400] w fun e w' => ∃ q : Nat, q < 400 ∧ e = .returned (.int .i64 (q : Int)) ∧ w' = w := by
  go_enter Try.func22, Try.ntmps22
  by_cases h : c < 0
  · have w1 : IntKind.i64.wrap (c + 1) = c + 1 := IntWalk.i64_in _ (by omega)
    have w2 : IntKind.i64.wrap (-(c + 1)) = -(c + 1) := IntWalk.i64_in _ (by omega)
    go_wp2
    go_ret
    have e : -(c + 1).tmod 400 = (((-(c + 1)) % 400).toNat : Int) := by
      rw [← Int.neg_tmod, Int.tmod_eq_emod_of_nonneg (by omega)]
      omega
    exact ⟨((-(c + 1)) % 400).toNat, by omega, by rw [← e]; rfl, rfl⟩
  · go_wp2
    go_ret
    have e : c % 400 = ((c % 400).toNat : Int) := by omega
    exact ⟨(c % 400).toNat, by omega, by rw [← e]; rfl, rfl⟩
theorem Rec.size_pc : (Try.prog.info? 50).map (·.size) = some 3 := by kernel_rfl
theorem Rec.run_loadPc3 {w : World} {o : Oper} {ρ : Operand → Value} {x : Operand} (ho : o.op = .load 50 x) (a : Addr) (k : UInt8) (v : Value) (pad : Int) (hx : ρ x = .pointer (some a)) (hk : w.cell? a = some (.int .u8 (n8 k))) (hv : w.cell? (a.add 1) = some v) (hp : w.cell? (a.add 2) = some (.int .i64 pad)) :
    (execOp ρ o).run Try.prog w = .ok (.value (.agg #[.int .u8 (n8 k), v, .int .i64 pad])) w := Rec.run_loadPc ho a ⟨k, v, pad⟩ hx hk hv hp
theorem Rec.size_int : (Try.prog.info? 3).map (·.size) = some 1 := by kernel_rfl
theorem Rec.run_index_slice {P : Program} {w : World} {o : Oper} {ρ : Operand → Value} {t e : TypeId} {x y : Operand} (ho : o.op = .indexAddr t x y) (ht : P.underlying t = some (.slice e)) {m : Nat} (hs : (P.info? e).map (·.size) = some m) (ad : Addr) (n c k : Nat)
    (hx : ρ x = .slice (some ad) n c) (hy : ρ y = .int .i64 (k : Int)) (hk : k < n) : (execOp ρ o).run P w = .ok (.value (.pointer (some (ad.add (k * m))))) w := by
  have hkn : (k : Int) < (n : Int) := by omega
  unfold execOp
  simp only [ho, hx, hy]
  simp [Instr.indexAt, run_underlying ht, asIntOf, run_sizeOf hs, hkn]
  omega
theorem Rec.pcs_slice {w : World} {B : Nat} {v : Value} {l : List Pc} (h : OwnP w B v l) : ∃ A c, v = .slice A l.length c := by
  obtain ⟨h1, h2⟩ := h
  rcases h2 with ⟨rfl, h0⟩ | ⟨g, cap, cur, rfl, _⟩
  · exact ⟨none, 0, by rw [h0]⟩
  · exact ⟨_, _, rfl⟩
theorem Rec.run_remN {P : Program} {w : World} {o : Oper} {ρ : Operand → Value} {x y : Operand} {t rt : TypeId} (ho : o.op = .binOp .rem t x y rt) (i j : Nat) (hj : 0 < j) (hx : ρ x = .int .i64 (i : Int)) (hy : ρ y = .int .i64 (j : Int)) : (execOp ρ o).run P w = .ok (.value (.int .i64 ((i % j : Nat) : Int))) w := by
  have hj0 : ¬ (j : Int) = 0 := by omega
  have hj1 : ¬ j = 0 := by omega
  unfold execOp
  simp only [ho, hx, hy]
  simp [go_sem, hj0, hj1]
  rw [Int.tmod_eq_emod_of_nonneg (by omega)]
theorem Rec.wpQuiet_run {P : Program} {ops : Array Oper} {Q : Act → Prop} {a : Act} {o : Oper} {rest : List Oper} {w : World} (hw : Region.wanted o (yielded ops a.tmps) = true) (v : Value) (hrun : ∀ n, (execOp a.eval o).run P (w.drewN n) = .ok (.value v) (w.drewN n))
    (h : wpQuiet P ops (fun w' => ∃ n, w' = w.drewN n) Q rest (a.put o.dst v)) : wpQuiet P ops (fun w' => ∃ n, w' = w.drewN n) Q (o :: rest) a := by
  unfold wpQuiet
  rw [if_pos hw]
  exact ⟨v, fun w1 ⟨n, e⟩ => by subst e; unfold Oper.quietAt; rw [hrun]; exact ⟨rfl, rfl⟩, h⟩
theorem Rec.run_convert {P : Program} {w : World} {o : Oper} {ρ : Operand → Value} {x : Operand} {t rt : TypeId} (ho : o.op = .convert t rt x) (u v : Value) (hx : ρ x = u) (hc : (convert t rt u).run P w = .ok v w) : (execOp ρ o).run P w = .ok (.value v) w := by
  unfold execOp
  simp only [ho, hx, Sem.run_bind, hc, Result.andThen_ok]
  rfl
theorem ReadsB.drewN {w : World} {B : Nat} {A : Option Addr} {n : Nat} {l : List UInt8} (h : ReadsB w B A n l) (k : Nat) : ReadsB (w.drewN k) B A n l := ⟨h.len, h.is.drewN k⟩
theorem Rec.run_index_one {P : Program} {w : World} {o : Oper} {ρ : Operand → Value} {t e : TypeId} {x y : Operand} (ho : o.op = .indexAddr t x y) (ht : P.underlying t = some (.slice e)) (hs : (P.info? e).map (·.size) = some 1) (ad : Addr) (n c k : Nat)
    (hx : ρ x = .slice (some ad) n c) (hy : ρ y = .int .i64 (k : Int)) (hk : k < n) : (execOp ρ o).run P w = .ok (.value (.pointer (some (ad.add k)))) w := by
  have h := Rec.run_index_slice (P := P) (w := w) ho ht hs ad n c k hx hy hk
  rwa [Nat.mul_one] at h
set_option maxHeartbeats 16000000 in
set_option maxRecDepth 100000 in
theorem recordBack_any (call : Int) (A : Option Addr) (n c : Nat) (b : List UInt8) (s0 : UInt16) (t N : Int) (D : Option Addr) (m d : Nat) (E : Option Addr) (q f : Nat) (w : World) (hr : ReadsB w w.heap.size A n b) (hn : n ≤ 9223372036854775807)
    (hmd : m ≤ d) (_ : d ≤ maxLen) (hpc : ∀ i, i < m → ∃ (x : Addr) (B : Option Addr) (n c : Nat) (k : UInt8) (l : List UInt8) (pad : Int), D = some x ∧ PieceAt w (x.add (i * 3)) B n c k l pad)
    (hqf : q ≤ f) (_ : f ≤ maxLen) (hce : ∀ i, i < q → ∃ (x : Addr) (v : Int), E = some x ∧ w.cell? (x.add i) = some (.int .i64 v) ∧ -9223372036854775808 ≤ v ∧ v ≤ 9223372036854775807) :
    Calls Try.prog 6 #[.agg (Rec.opc call (.slice A n c) s0 t N), .slice D m d, .slice E q f] w fun e w' => e = .returned (.bool true) ∧ Below w.heap.size w w' := by
  obtain ⟨n0, hok⟩ := Rec.suiteOf_ok s0
  have Hok := hd hok
  clear hok
  obtain ⟨s, Hs⟩ : ∃ x, Hd (Rec.suiteOf s0 = x) := ⟨_, ⟨rfl⟩⟩
  obtain ⟨K, HK⟩ : ∃ x, Hd (Rec.keyOf n0 b = x) := ⟨_, ⟨rfl⟩⟩
  have LK := hd (show K.length = n0 by rw [← HK.out, Rec.keyOf_len])
  obtain ⟨V, HV⟩ : ∃ x, Hd (Rec.ivOf b = x) := ⟨_, ⟨rfl⟩⟩
  have hB0 : Below w.heap.size w (w.alloc (.cells (Rec.opc call (.slice A n c) s0 t N) 34)) := (Below.refl _ _).alloc (Nat.le_refl _) _
  have b0 : Blk (w.alloc (.cells (Rec.opc call (.slice A n c) s0 t N) 34)) w.heap.size 34 (Rec.opc call (.slice A n c) s0 t N) := Blk.nu rfl
  rename_i q0 q1
  clear q0 q1
  go_enter Try.func6, Try.ntmps6
  go_wp2_with fail
  refine (head18_any _).mono ?_
  rintro e W1 ⟨rfl, hE1⟩
  have b1 := b0.below hE1 b0.lt
  have hB1 := hB0.trans (hE1.mono hB0.size)
  clear b0 hB0 hE1
  go_wp2_with (first
    | (with_reducible change wpList _ _ _ (⟨some 30, _, _, _, _, _⟩ :: _) _ _; refine wpl_run (o := ⟨some 30, _, _, _, _, _⟩) (wanted_plain rfl) (.agg (Rec.opc call (.slice A n c) s0 t N)) (Rec.run_loadOp (by rfl) w.heap.size call (.slice A n c) s0 t N (by simp [Act.eval, Act.put]) b1) ?_))
  refine (Rec.both_any call A n c b s0 n0 Hok.out t N W1 ⟨hr.len, (hr.is.below hB1).more hB1.size⟩ hn).mono ?_
  rintro e W2 ⟨gw, gr, glw, Aw, cw, glr, Ar, cr, rfl, bw, lw, rd, g1, g2, g3, g4, g5, hE2⟩
  rw [HK.out, HV.out, Hs.out] at lw rd
  rw [Hs.out] at bw
  have hok2 := hd (by have h := Hok.out; rw [Hs.out] at h; exact h)
  have hB2 := hB1.trans (hE2.mono hB1.size)
  have h1le := hB1.size
  clear b1 hB1 hE2
  go_upto_block 0 with fail
  go_cut [6, 11, 12, 13, 14, 15, 16] (fun _ st wa _ _ _ _ wx => ∃ k zs ps, Rec.L1 w W2 glw s Aw cw K V st wa k zs ps wx ∧ k ≤ 6)
  case first =>
    go_wp2_with fail
    go_loopw [11, 12, 13] (fun st wa i wr => ∃ k zs ps, i = .int .i64 ((k : Nat) : Int) ∧ Rec.L1 w W2 glw s Aw cw K V st wa k zs ps wr ∧ k ≤ 6 ∧ Blk wr gw 75 (Rec.wrc (.pointer (some ⟨glw, 0, none⟩)) (Suite.limit s))) (fun _ _ i _ => 6 - (intOf i).toNat)
    case atStart =>
      exact ⟨0, [], [], rfl, ⟨⟨rfl, rfl, rfl, Nat.le_refl _, fun _ _ _ => rfl⟩, lw, OwnB.nil _ _, OwnP.nil _ _, rfl, rfl, (by
        intro g e
        rcases lw.own.size with h | ⟨g', h, _, hlt⟩
        · rw [h] at e; cases e
        · rw [h] at e; injection e with e; omega), fun j p z h _ => by simp at h⟩, by omega, bw⟩
    case round =>
      obtain ⟨k, zs, ps, rfl, I, hk6, bwr⟩ := hrel
      have HBr := hd (below_moved hB2 I.gr (Nat.le_trans h1le g3) hB2.size)
      by_cases hkm : k < m
      · by_cases hk5 : k < 6
        · have t1 : (k : Int) < (m : Int) := by omega
          have t2 : (k : Int) < 6 := by omega
          obtain ⟨x, B, pn, pc, kk, pl, pad0, rfl, pat⟩ := hpc k hkm
          have c0 : wr.cell? (x.add (k * 3)) = some (.int .u8 ((n8 kk : Nat) : Int)) := (Below.cell HBr.out (World.block_lt_of_cell? w _ pat.kind)).trans pat.kind
          have c1 : wr.cell? ((x.add (k * 3)).add 1) = some (.slice B pn pc) := (Below.cell HBr.out (World.block_lt_of_cell? w _ pat.bytes)).trans pat.bytes
          have c2 : wr.cell? ((x.add (k * 3)).add 2) = some (.int .i64 pad0) := (Below.cell HBr.out (World.block_lt_of_cell? w _ pat.pad)).trans pat.pad
          go_upto_region 11 with (first
            | (with_reducible change wpList _ _ _ (⟨some 53, _, _, _, _, _⟩ :: _) _ _; refine wpl_run (o := ⟨some 53, _, _, _, _, _⟩) (wanted_plain rfl) (.pointer (some (x.add (k * 3)))) (Rec.run_index_slice (by rfl) Try.underlying44 Rec.size_pc x m d k (by simp [Act.eval, Act.put]) (by simp [Act.eval, Act.put]) hkm) ?_)
            | (with_reducible change wpList _ _ _ (⟨some 54, _, _, _, _, _⟩ :: _) _ _; refine wpl_run (o := ⟨some 54, _, _, _, _, _⟩) (wanted_plain rfl) (.agg #[.int .u8 ((n8 kk : Nat) : Int), .slice B pn pc, .int .i64 pad0]) (Rec.run_loadPc3 (by rfl) (x.add (k * 3)) kk (.slice B pn pc) pad0 (by simp [Act.eval, Act.put]) c0 c1 c2) ?_))
          go_upto_if 62 with (first | (go_at_call 21; refine (Rec.content_same kk _).mono ?_; rintro e w' ⟨rfl, rfl⟩))
          go_cut [] (fun wx => ∃ t1 : UInt8, wx = (wr.alloc (.cells #[.int .u8 ((n8 t1 : Nat) : Int), .slice B pn pc, .int .i64 pad0] 50)) ∧ t1 = (if pn = 0 then 23 else 21 + kk % 3))
          case first =>
            by_cases hz : pn = 0
            · have hz2 : ((pn : Nat) : Int) = 0 := by omega
              go_wp2
              go_meet
              exact ⟨23, by rw [hz]; rfl, by rw [if_pos hz]⟩
            · have hz2 : ¬ ((pn : Nat) : Int) = 0 := by omega
              go_wp2
              go_meet
              exact ⟨21 + kk % 3, rfl, by rw [if_neg hz]⟩
          case rest =>
          obtain ⟨t1, rfl, ht1⟩ := hcut
          have Ht1 := hd ht1
          clear ht1
          go_upto_region 14 with fail
          go_cut [71] (fun s71 wx => wx = (wr.alloc (.cells #[.int .u8 ((n8 t1 : Nat) : Int), .slice B pn pc, .int .i64 pad0] 50)) ∧ s71 = .bool (decide (pad0 < 0 ∨ 255 < pad0)))
          case first =>
            by_cases h1 : pad0 < 0
            · have e1 : decide (pad0 < 0 ∨ 255 < pad0) = true := decide_eq_true (.inl h1)
              go_wp2
              go_meet
              exact ⟨rfl, by rw [e1]⟩
            · by_cases h2 : 255 < pad0
              · have e1 : decide (pad0 < 0 ∨ 255 < pad0) = true := decide_eq_true (.inr h2)
                go_wp2
                go_meet
                exact ⟨rfl, by rw [e1]⟩
              · have e1 : decide (pad0 < 0 ∨ 255 < pad0) = false := decide_eq_false (by omega)
                go_wp2
                go_meet
                exact ⟨rfl, by rw [e1]⟩
          case rest =>
          obtain ⟨rfl, rfl⟩ := hcut
          obtain ⟨bad, Hbad⟩ : ∃ x, Hd (decide (pad0 < 0 ∨ 255 < pad0) = x) := ⟨_, ⟨rfl⟩⟩
          rw [Hbad.out]
          go_upto_if 71 with fail
          go_cut [] (fun wx => ∃ pad1 : Nat, wx = (wr.alloc (.cells #[.int .u8 ((n8 t1 : Nat) : Int), .slice B pn pc, .int .i64 (pad1 : Int)] 50)) ∧ pad1 ≤ 255)
          case first =>
            cases hb : bad with
            | true =>
              go_wp2
              go_meet
              exact ⟨0, rfl, by omega⟩
            | false =>
              go_wp2
              go_meet
              have h3 := Hbad.out
              rw [hb] at h3
              have h4 := of_decide_eq_false h3
              refine ⟨pad0.toNat, ?_, by omega⟩
              rw [show ((pad0.toNat : Nat) : Int) = pad0 by omega]
          case rest =>
          obtain ⟨pad1, rfl, hpad1⟩ := hcut
          have Hpad1 := hd hpad1
          clear hpad1
          go_upto_if 76 with fail
          go_cut [] (fun wx => ∃ m1 : Nat, wx = (wr.alloc (.cells #[.int .u8 ((n8 t1 : Nat) : Int), .slice B m1 pc, .int .i64 (pad1 : Int)] 50)) ∧ m1 = min pn 16384)
          case first =>
            by_cases h1 : 16384 < pn
            · have t3 : (16384 : Int) < ((pn : Nat) : Int) := by omega
              have hle := pat.low
              go_wp2_with (first
                | (with_reducible change wpList _ _ _ (⟨some 79, _, _, _, _, _⟩ :: _) _ _; refine wpl_run (o := ⟨some 79, _, _, _, _, _⟩) (wanted_plain rfl) (.slice B 16384 pc) (run_slice_to (by rfl) Try.underlying24 u8_one B pn pc 16384 (by simp [Act.eval, Act.put]) (by rfl) (by omega)) ?_))
              go_meet
              exact ⟨16384, rfl, by omega⟩
            · have t3 : ¬ (16384 : Int) < ((pn : Nat) : Int) := by omega
              go_wp2
              go_meet
              exact ⟨pn, rfl, by omega⟩
          case rest =>
          obtain ⟨m1, rfl, hm1⟩ := hcut
          have Hm1 := hd hm1
          clear hm1
          have hok3 : (⟨t1, pl.take m1, pad1⟩ : Rec.Pz).Ok := by
            have hm := Hm1.out
            have hl := pat.reads.len
            refine ⟨by rw [List.length_take]; omega, Hpad1.out, ?_⟩
            have h1 := Ht1.out
            by_cases hz : pn = 0
            · rw [if_pos hz] at h1; exact .inl h1
            · rw [if_neg hz] at h1
              have h2 : (kk % 3).toNat = kk.toNat % 3 := UInt8.toNat_mod kk 3
              simp only [List.length_take]
              rcases (show kk.toNat % 3 = 0 ∨ kk.toNat % 3 = 1 ∨ kk.toNat % 3 = 2 by omega) with h | h | h
              · rw [show kk % 3 = 0 from UInt8.toNat_inj.1 (h2.trans h)] at h1; exact .inr ⟨by omega, .inl h1⟩
              · rw [show kk % 3 = 1 from UInt8.toNat_inj.1 (h2.trans h)] at h1; exact .inr ⟨by omega, .inr h1⟩
              · rw [show kk % 3 = 2 from UInt8.toNat_inj.1 (h2.trans h)] at h1; exact .inl h1
          have hpz : Rec.PzAt w ⟨t1, .slice B m1 pc, (pad1 : Int)⟩ ⟨t1, pl.take m1, pad1⟩ := ⟨rfl, rfl, hok3, B, m1, pc, rfl, by have := Hm1.out; have := pat.low; omega, pat.reads.take (by have := Hm1.out; omega)⟩
          have Hm2 := hd (show m1 ≤ pc ∧ m1 ≤ 16384 by have := Hm1.out; have := pat.low; omega)
          obtain ⟨o, Ho⟩ : ∃ x, Hd ((.cells #[.int .u8 ((n8 t1 : Nat) : Int), .slice B m1 pc, .int .i64 ((pad1 : Nat) : Int)] 50 : Obj) = x) := ⟨_, ⟨rfl⟩⟩
          have b14 : Blk (wr.alloc o) wr.heap.size 50 #[.int .u8 ((n8 t1 : Nat) : Int), .slice B m1 pc, .int .i64 ((pad1 : Nat) : Int)] := by rw [← Ho.out]; exact Blk.nu rfl
          have bwa := bwr.alloc o
          have lka := I.lk.next ((Below.refl _ _).alloc (Nat.le_refl _) o)
          have hBa := HBr.out.trans (((Below.refl wr.heap.size wr).alloc (Nat.le_refl _) o).mono HBr.out.size)
          have hra : ReadsB (wr.alloc o) (wr.alloc o).heap.size B m1 (pl.take m1) := ⟨(pat.reads.take (show m1 ≤ pn by have := Hm1.out; omega)).len, ((pat.reads.take (show m1 ≤ pn by have := Hm1.out; omega)).is.below hBa).more hBa.size⟩
          have hleft : 1 ≤ n64 (Suite.limit s - UInt64.ofNat k) := by
            unfold Suite.limit
            rcases (show k = 0 ∨ k = 1 ∨ k = 2 ∨ k = 3 ∨ k = 4 ∨ k = 5 by omega) with rfl | rfl | rfl | rfl | rfl | rfl <;> split <;> decide
          have Hw := hd (Rec.write_any n0 s hok2.out Aw cw K V LK.out (UInt64.ofNat k) (Suite.limit s) gw glw t1 B m1 pc (pl.take m1) pad1 (wr.alloc o) bwa lka hra Hm2.out.1 Hm2.out.2 Hpad1.out hleft lka.blk.lt)
          have glt : glw < wr.heap.size := I.lk.blk.lt
          clear hra hleft hBa lka bwa
          go_upto_region 21 with (first
            | (go_at_call 18; rw [Ho.out]; refine Hw.out.mono ?_; rintro e W4 ⟨v, rfl, own, lk4, gr4⟩; obtain ⟨A13, c13, e13⟩ := own.slice; subst e13))
          obtain ⟨rc, Hrc⟩ : ∃ x, Hd (Rec.recOf s K V (UInt64.ofNat k) t1 (pl.take m1) pad1 = x) := ⟨_, ⟨rfl⟩⟩
          rw [Hrc.out] at own
          rw [Hrc.out]
          have Hrl := hd (show rc.length ≤ 16645 by rw [← Hrc.out]; exact (Rec.one_len s K V k ⟨t1, pl.take m1, pad1⟩ hok3).2)
          have own4 := I.own4 gr4
          have b4 := b14.grown gr4 (by intro e; injection e; omega)
          have bw4 := (bwr.alloc o).grown gr4 (by intro e; injection e with e; exact absurd e (bwr.ne_ I.lk.blk (by decide)))
          have hrc4 : ReadsB W4 W4.heap.size A13 rc.length rc := own.reads_any.2
          have hln := Rec.recs_len s K V 0 zs I.oks
          rw [I.zl] at hln
          have hlen4 : (Rec.recs s K V 0 zs).length + rc.length ≤ 140737488355328 := by have := Hrl.out; omega
          have hB4 : W2.heap.size ≤ W4.heap.size := by have := gr4.size; rw [alloc_size] at this; have := I.gr.size; omega
          go_upto_region 22 with (at_builtin; refine wpl_appendB rfl _ _ rfl W2.heap.size u11 (Rec.recs s K V 0 zs) rfl own4 W4.heap.size A13 rc.length c13 rc rfl hrc4 hlen4 hB4 ?_; intro v5 W5 own5 gr5 at5)
          have b5 := b4.appended own4 gr5 (by decide)
          have bw5 := bw4.appended own4 gr5 (by decide)
          have k5 : W5.cell? ⟨wr.heap.size, 0, none⟩ = some (.int .u8 ((n8 t1 : Nat) : Int)) := b5.cell 0
          have k6 : W5.cell? ⟨wr.heap.size, 1, none⟩ = some (.slice B m1 pc) := b5.cell 1
          have k7 : W5.cell? ⟨wr.heap.size, 2, none⟩ = some (.int .i64 ((pad1 : Nat) : Int)) := b5.cell 2
          have hp6 := I.pcs6 (o' := (.cells #[.int .u8 ((n8 t1 : Nat) : Int), .slice B m1 pc, .int .i64 ((pad1 : Nat) : Int)] 50)) gr4 gr5
          have b6 : Blk (W5.alloc (.cells #[.int .u8 ((n8 t1 : Nat) : Int), .slice B m1 pc, .int .i64 ((pad1 : Nat) : Int)] 50)) W5.heap.size 50 #[.int .u8 ((n8 t1 : Nat) : Int), .slice B m1 pc, .int .i64 ((pad1 : Nat) : Int)] := Blk.nu rfl
          have hB6 : W2.heap.size ≤ (W5.alloc (.cells #[.int .u8 ((n8 t1 : Nat) : Int), .slice B m1 pc, .int .i64 ((pad1 : Nat) : Int)] 50)).heap.size := by rw [alloc_size]; have := gr5.size; omega
          have hpl : ps.length ≤ 100 := by rw [I.pl]; omega
          go_wp2_with (first
            | (at_builtin; refine wpl_appendP rfl _ _ rfl W2.heap.size u12 ps rfl hp6 ⟨W5.heap.size, 0, none⟩ 1 ⟨t1, .slice B m1 pc, ((pad1 : Nat) : Int)⟩ rfl (b6.cell 0) (b6.cell 1) (b6.cell 2) rfl hpl hB6 ?_; intro v7 W7 own7 gr7)
            | (with_reducible change wpList _ _ _ (⟨some 98, _, _, _, _, _⟩ :: _) _ _; refine wpl_run (o := ⟨some 98, _, _, _, _, _⟩) (wanted_plain rfl) (.agg #[.int .u8 ((n8 t1 : Nat) : Int), .slice B m1 pc, .int .i64 ((pad1 : Nat) : Int)]) (Rec.run_loadPc3 (by rfl) ⟨wr.heap.size, 0, none⟩ t1 (.slice B m1 pc) ((pad1 : Nat) : Int) (by simp [Act.eval, Act.put]) k5 k6 k7) ?_))
          go_roundw
          case rel =>
            have own5' : OwnB W5 W2.heap.size v5 (Rec.recs s K V 0 zs ++ Rec.one s K V k ⟨t1, pl.take m1, pad1⟩) := by
              show OwnB W5 W2.heap.size v5 (Rec.recs s K V 0 zs ++ Rec.recOf s K V (UInt64.ofNat k) t1 (pl.take m1) pad1)
              rw [Hrc.out]; exact own5
            exact ⟨k + 1, zs ++ [⟨t1, pl.take m1, pad1⟩], ps ++ [⟨t1, .slice B m1 pc, ((pad1 : Nat) : Int)⟩], by congr 1 <;> omega, I.step gr4 lk4 gr5 own5' gr7 own7 hpz, by omega, (bw5.alloc _).grown gr7 (fun e => own_blk_ne hp6 (bw5.alloc _) (by decide) e.symm)⟩
          case measure => simp [intOf] <;> omega
        · have t1 : (k : Int) < (m : Int) := by omega
          have t2 : ¬ (k : Int) < 6 := by omega
          go_wp2
          go_meet
          exact ⟨k, zs, ps, I, hk6⟩
      · have t1 : ¬ (k : Int) < (m : Int) := by omega
        go_wp2
        go_meet
        exact ⟨k, zs, ps, I, hk6⟩
  case rest =>
    obtain ⟨k1, zs, ps, I, hk6⟩ := hcut
    obtain ⟨wx, rfl⟩ : ∃ wx : World, wx = wc := ⟨_, rfl⟩
    have HBx := hd (below_moved hB2 I.gr (Nat.le_trans h1le g3) hB2.size)
    have hW2 := I.gr.size
    obtain ⟨As, cs, es⟩ := I.own.slice
    obtain ⟨Aw2, cw2, ew⟩ := Rec.pcs_slice I.pcs
    rw [I.pl] at ew
    obtain ⟨rs, Hrs⟩ : ∃ x, Hd (Rec.recs s K V 0 zs = x) := ⟨_, ⟨rfl⟩⟩
    rw [Hrs.out] at es
    have Irs := I.own
    rw [Hrs.out] at Irs
    subst es ew
    have hl0 := Rec.recs_len s K V 0 zs I.oks
    rw [I.zl, Hrs.out] at hl0
    have Hlr := hd (show rs.length ≤ 140737488355328 by omega)
    have Hgr := hd (show gr < wx.heap.size ∧ glr < wx.heap.size by have := rd.br.lt; have := rd.lk.blk.lt; omega)
    have rd2 : Rec.RdAt wx gr glr (.slice none 0 0) 0 false s Ar cr K V 0 := ⟨rd.br.grown I.gr (by intro e; injection e with e; exact absurd e (rd.br.ne_ lw.blk (by decide))), rd.lk.blk.grown I.gr (by intro e; injection e with e; exact g5 e.symm), rd.lk.own.moved I.gr (own_blk_ne rd.lk.own.own lw.blk (by decide)), rd.lk.iv12⟩
    have hkb : ∀ g, (Value.slice Ar K.length cr).ownBlock = some g → g < wx.heap.size := by
      intro g e
      rcases rd2.lk.own.size with h | ⟨g', h, _, hlt⟩
      · rw [h] at e; cases e
      · rw [h] at e; injection e with e; omega
    have haway : 0 < rs.length → ∀ ad, As = some ad → ad.block ≠ gr ∧ ad.block ≠ glr := by
      intro h0 ad e
      obtain ⟨g, c9, e9, h9, _⟩ := Irs.form h0
      injection e9 with e9
      rw [e] at e9; injection e9 with e9
      rw [e9]
      have h1 := rd.br.lt
      have h2 := rd.lk.blk.lt
      show g ≠ gr ∧ g ≠ glr
      omega
    have I0 : Rec.L2 wx gr glr s Ar cr K V zs 0 As rs.length cs none 0 0 [] rs wx := ⟨Rec.M3.of_below _ _ _ (Below.refl _ _), rd2, OwnB.nil _ _, (fun g e => by cases e), by omega, Irs.reads_any.2, Irs.room, haway, by rw [List.nil_append, List.drop_zero, Hrs.out], hkb, Hgr.out⟩
    have Hq := hd (show gr < W2.heap.size ∧ glr < W2.heap.size from ⟨rd.br.lt, rd.lk.blk.lt⟩)
    clear rd2 haway hkb hl0 bw lw rd
    go_wp2_with fail
    go_loopw [11, 17, 18] (fun st kk tt wr => ∃ k j D m d H h c held rest, st = .slice D m d ∧ kk = .int .i64 ((k : Nat) : Int) ∧ tt = .int .i64 ((j : Nat) : Int) ∧ Rec.L2 wx gr glr s Ar cr K V zs k D m d H h c held rest wr ∧ k ≤ k1 ∧ j ≤ 200 + k ∧ Hd (m ≤ 140737488355328)) (fun _ _ tt _ => 100000 - (intOf tt).toNat)
    case atStart =>
      exact ⟨0, 0, As, rs.length, cs, none, 0, 0, [], rs, rfl, rfl, rfl, I0, by omega, by omega, Hlr⟩
    case round =>
      clear I0
      obtain ⟨k, j, D, m, d, H, h, c, held, rest, rfl, rfl, rfl, J, hkk, hj, hm⟩ := hrel
      have t1 : (j : Int) < 100000 := by omega
      have HBr := hd (J.mv.below HBx.out (by have := g2; omega) (by have := g4; omega) (by have := g4; omega) HBx.out.size)
      by_cases hlt : k < k1
      · have t2 : (k : Int) < (k1 : Int) := by omega
        obtain ⟨z, hz⟩ : ∃ z, zs[k]? = some z := ⟨_, List.getElem?_eq_getElem (by rw [I.zl]; exact hlt)⟩
        obtain ⟨p, hp⟩ : ∃ p, ps[k]? = some p := ⟨_, List.getElem?_eq_getElem (by rw [I.pl]; exact hlt)⟩
        have pat := I.ats k p z hp hz
        go_upto_region 28 with fail
        clear t1 t2
        go_cut [119] (fun s119 wx => wr = wx ∧ s119 = .bool (decide (0 < q ∧ j < 200)))
        case first =>
          by_cases h1 : 0 < q
          · have h1i : (0 : Int) < (q : Int) := by omega
            by_cases h2 : j < 200
            · have h2i : (j : Int) < 200 := by omega
              have e1 : decide (0 < q ∧ j < 200) = true := decide_eq_true ⟨h1, h2⟩
              go_wp2
              go_meet
              exact ⟨rfl, by rw [e1]⟩
            · have h2i : ¬ (j : Int) < 200 := by omega
              have e1 : decide (0 < q ∧ j < 200) = false := decide_eq_false (by omega)
              go_wp2
              go_meet
              exact ⟨rfl, by rw [e1]⟩
          · have h1i : ¬ (0 : Int) < (q : Int) := by omega
            have e1 : decide (0 < q ∧ j < 200) = false := decide_eq_false (by omega)
            go_wp2
            go_meet
            exact ⟨rfl, by rw [e1]⟩
        case rest =>
        obtain ⟨rfl, rfl⟩ := hcut
        obtain ⟨bq, Hbq⟩ : ∃ x, Hd (decide (0 < q ∧ j < 200) = x) := ⟨_, ⟨rfl⟩⟩
        rw [Hbq.out]
        go_upto_if 119 with fail
        go_cut [19] (fun s19 wx => wr = wx ∧ ∃ nn : Nat, s19 = .int .i64 ((nn : Nat) : Int) ∧ (200 ≤ j → nn = m) ∧ Hd (nn ≤ 140737488355328))
        case first =>
          cases hb : bq with
          | true =>
            have h3 := Hbq.out
            rw [hb] at h3
            have h4 := of_decide_eq_true h3
            obtain ⟨x, v, rfl, hcl, hv1, hv2⟩ := hce (j % q) (Nat.mod_lt _ h4.1)
            have hcl2 : wr.cell? (x.add (j % q)) = some (.int .i64 v) := (Below.cell HBr.out (World.block_lt_of_cell? w _ hcl)).trans hcl
            go_wp2_with (first
              | (with_reducible change wpList _ _ _ (⟨some 124, _, _, _, _, _⟩ :: _) _ _; refine wpl_run (o := ⟨some 124, _, _, _, _, _⟩) (wanted_plain rfl) (.int .i64 ((j % q : Nat) : Int)) (Rec.run_remN (by rfl) j q h4.1 (by simp [Act.eval, Act.put]) (by simp [Act.eval, Act.put])) ?_)
              | (with_reducible change wpList _ _ _ (⟨some 125, _, _, _, _, _⟩ :: _) _ _; refine wpl_run (o := ⟨some 125, _, _, _, _, _⟩) (wanted_plain rfl) (.pointer (some (x.add (j % q)))) (Rec.run_index_one (by rfl) Try.underlying45 Rec.size_int x q f (j % q) (by simp [Act.eval, Act.put]) (by simp [Act.eval, Act.put]) (Nat.mod_lt _ h4.1)) ?_)
              | (go_at_call 22; refine (Rec.drop_any v _ ⟨hv1, hv2⟩).mono ?_; rintro e w' ⟨q1, hq1, rfl, rfl⟩)
              | (with_reducible change wpList _ _ _ (⟨some 128, _, _, _, _, _⟩ :: _) _ _; refine wpl_run (o := ⟨some 128, _, _, _, _, _⟩) (wanted_plain rfl) (.int .i64 ((1 + q1 : Nat) : Int)) (Rec.run_addN (by rfl) 1 q1 (1 + q1) rfl (by omega) (by simp [Act.eval, Act.put]) (by simp [Act.eval, Act.put])) ?_))
            go_meet
            exact ⟨rfl, 1 + q1, rfl, by omega, hd (by omega)⟩
          | false =>
            go_wp2
            go_meet
            exact ⟨rfl, m, rfl, fun _ => rfl, hm⟩
        case rest =>
        obtain ⟨rfl, nn, rfl, hn1, hn2⟩ := hcut
        go_upto_if 132 with fail
        go_cut [19] (fun s19 wx => wr = wx ∧ ∃ n0 : Nat, s19 = .int .i64 ((n0 : Nat) : Int) ∧ (200 ≤ j → n0 = m) ∧ n0 ≤ m)
        case first =>
          by_cases h1 : m < nn
          · have h1i : (m : Int) < (nn : Int) := by omega
            go_wp2
            go_meet
            exact ⟨rfl, m, rfl, fun _ => rfl, by omega⟩
          · have h1i : ¬ (m : Int) < (nn : Int) := by omega
            go_wp2
            go_meet
            exact ⟨rfl, nn, rfl, hn1, by omega⟩
        case rest =>
        obtain ⟨rfl, na, rfl, ha1, ha2⟩ := hcut
        obtain ⟨nf, Hnf⟩ : ∃ x, Hd (min na (16645 - h) = x) := ⟨_, ⟨rfl⟩⟩
        have Ha1 := hd ha1
        have Hnfl := hd (show nf ≤ m ∧ nf ≤ na ∧ h + nf ≤ 16645 by have := Hnf.out; have := J.h16; omega)
        have hmd2 := J.md
        have Hfd := hd (Rec.feed_more J na nf ha2 hm.out Hnf.out.symm)
        clear ha1 hn1 Hbq
        go_upto_region 33 with (first
          | (with_reducible change wpList _ _ _ (⟨some 139, _, _, _, _, _⟩ :: _) _ _; refine wpl_run (o := ⟨some 139, _, _, _, _, _⟩) (wanted_plain rfl) (.slice D na d) (run_slice_to (by rfl) Try.underlying24 u8_one D m d na (by simp [Act.eval, Act.put]) (by simp [Act.eval, Act.put]) (by omega)) ?_)
          | (with_reducible change wpList _ _ _ (⟨some 141, _, _, _, _, _⟩ :: _) _ _; refine wpl_run (o := ⟨some 141, _, _, _, _, _⟩) (wanted_plain rfl) (.slice (if d = nf then D else D.map (·.add nf)) (m - nf) (d - nf)) (run_slice_from (by rfl) Try.underlying24 u8_one D m d nf (by simp [Act.eval, Act.put]) (by simp [Act.eval, Act.put]) Hnfl.out.1 hmd2) ?_)
          | (go_at_call 23; refine Hfd.out.mono ?_; rintro e W1 ⟨rfl, A9, c9, J1⟩))
        have hzr : (Rec.one s K V k z).length ≤ h + m := by
          have h1 := J.all
          rw [Rec.drop_at hz, Rec.recs] at h1
          have h2 := congrArg List.length h1
          rw [List.length_append, List.length_append, J.len, J.rs.len] at h2
          omega
        have h22 := Rec.one_len s K V k z pat.ok
        by_cases hwh : h + nf < (Rec.one s K V k z).length
        · have hj2 : j < 200 := by
            rcases Nat.lt_or_ge j 200 with h3 | h3
            · exact h3
            · have h4 := Ha1.out h3
              have h5 := Hnf.out
              omega
          have Hx := hd (Rec.next_less J1 hz pat.ok hwh)
          clear hzr h22 hwh Hfd J
          go_upto_region 36 with (first
            | (go_at_call 24; refine Hx.out.mono ?_; rintro e W2' ⟨rfl, J2⟩))
          go_quiet (fail)
          go_wp2
          go_roundw
          case rel => exact ⟨k, j + 1, _, m - nf, d - nf, A9, h + nf, c9, _, _, rfl, rfl, by congr 1 <;> omega, J2.kept (below_drewN (Below.refl _ _) _), hkk, by omega, hd (by have := hm.out; omega)⟩
          case measure => simp [intOf] <;> omega
        · have Hx := hd (Rec.next_whole J1 hok2.out LK.out hz pat.ok (by omega) (by omega))
          clear hzr h22 hwh Hfd J
          go_upto_region 36 with (first
            | (go_at_call 24; refine Hx.out.mono ?_; rintro e W3 ⟨A2, rfl, hx, H', h', c', held', J2⟩))
          obtain ⟨gq, cq, e9, hgq, hnc⟩ := I.pcs.form (by rw [I.pl]; omega)
          injection e9 with e9 _ e10
          subst e9 e10
          have hgl := (World.ownsRow.lt I.pcs gq rfl).2
          have pcell := OwnP.cell (by have h9 := I.pcs; rw [← I.pl] at h9; exact h9) k p hp
          have gq1 : gq ≠ gr := by have := hW2; have := Hq.out; omega
          have gq2 : gq ≠ glr := by have := Hq.out; omega
          have qb := J2.mv.block gq hgl gq1 gq2 gq2
          have q0 : W3.cell? ⟨gq, k * 3, none⟩ = some (.int .u8 ((n8 z.t : Nat) : Int)) := by rw [← pat.k, ← pcell.1]; exact World.cell?_of_block qb
          obtain ⟨Bp, mp, cp, hpv, hmp, hrp⟩ := pat.v
          have q1 : W3.cell? ⟨gq, k * 3 + 1, none⟩ = some (.slice Bp mp cp) := by rw [← hpv, ← pcell.2.1]; exact World.cell?_of_block qb
          have HB3 := hd (J2.mv.below HBx.out (by have := g2; omega) (by have := g4; omega) (by have := g4; omega) HBx.out.size)
          have hrp3 : ReadsB W3 W3.heap.size Bp mp z.b := ⟨hrp.len, (hrp.is.below HB3.out).more HB3.out.size⟩
          clear qb pcell
          have t3 : (k : Int) < (ps.length : Int) := by have := I.pl; omega
          refine wp_region_quiet_lit (by kernel_rfl) (by kernel_rfl) ?_
          repeat (go_big_quiet_step (fail))
          refine Rec.wpQuiet_run (by simp [Region.wanted, yielded]) (.string (str z.b)) (fun n => Rec.run_convert (by rfl) (.slice A2 z.b.length z.b.length) _ (by simp [Act.eval]) (run_toString (P := Try.prog) Try.underlying24 Try.underlying5 Try.underlying9 _ A2 z.b.length z.b.length z.b (hx.drewN n))) ?_
          simp only [Act.put, List.getElem_toArray, List.getElem_cons_succ, List.getElem_cons_zero, List.setIfInBounds_toArray, List.set_cons_zero, List.set_cons_succ]
          repeat (go_big_quiet_step (fail))
          refine Rec.wpQuiet_run (by simp [Region.wanted, yielded]) (.string (str z.b)) (fun n => Rec.run_convert (by rfl) (.slice Bp mp cp) _ (by simp [Act.eval]) (run_toString (P := Try.prog) Try.underlying24 Try.underlying5 Try.underlying9 _ Bp mp cp z.b (hrp3.drewN n))) ?_
          simp only [Act.put, List.getElem_toArray, List.getElem_cons_succ, List.getElem_cons_zero, List.setIfInBounds_toArray, List.set_cons_zero, List.set_cons_succ]
          repeat (go_big_quiet_step (fail))
          refine wpQuiet_nil ?_
          intro _ hw'
          obtain ⟨nq, hw2⟩ := hw'
          subst hw2
          go_wp2
          go_roundw
          case rel => exact ⟨k + 1, j + 1, _, m - nf, d - nf, H', h', c', held', _, rfl, by congr 1 <;> omega, by congr 1 <;> omega, J2.kept (below_drewN (Below.refl _ _) _), by omega, by omega, hd (by have := hm.out; omega)⟩
          case measure => simp [intOf] <;> omega
      · obtain rfl : k = k1 := by omega
        have t2 : ¬ (k : Int) < (k : Int) := by omega
        have hnil : held = [] := by
          have h1 := J.all
          rw [List.drop_eq_nil_of_le (by rw [I.zl]; omega)] at h1
          exact (List.append_eq_nil_iff.1 h1).1
        have hh0 : h = 0 := by rw [← J.len, hnil]; rfl
        subst hh0
        have Hx := hd (Rec.next_few gr _ H 0 c 0 false wr J.rd.br (by omega))
        go_wp2_with (first
          | (go_at_call 24; refine Hx.out.mono ?_; rintro e W3 ⟨rfl, hB9⟩))
        go_ret
        exact ⟨rfl, HBr.out.trans (hB9.mono HBr.out.size)⟩
end Go.Proofs.Ytbcboldepghgpaa
