/-
  The walks of the reference's sums.
-/
import Derived.Test.YtbcboldepghgpaaGreatDoorShaK
set_option linter.unusedVariables false
set_option linter.unusedSimpArgs false
set_option maxRecDepth 100000
namespace Go.Proofs.YtbcboldepghgpaaGreatDoor
open Go.RowKit
theorem ReadsB.four (w : World) (a b c d : UInt8) : ReadsB (w.alloc (.cells #[.int .u8 (n8 a), .int .u8 (n8 b), .int .u8 (n8 c), .int .u8 (n8 d)] 5)) (w.heap.size + 1) (some ⟨w.heap.size, 0, none⟩) 4 [a, b, c, d] := by
  refine ⟨rfl, rfl, fun _ => ⟨_, rfl, Nat.lt_succ_self _, fun j u hu => ?_⟩⟩
  have h := Blk.nu (w := w) (t := 5) (cs := #[.int .u8 (n8 a), .int .u8 (n8 b), .int .u8 (n8 c), .int .u8 (n8 d)]) rfl
  rcases j with _ | _ | _ | _ | j
  · have e : U8 a = u := by injection hu
    subst e; exact h.cell 0
  · have e : U8 b = u := by injection hu
    subst e; exact h.cell 1
  · have e : U8 c = u := by injection hu
    subst e; exact h.cell 2
  · have e : U8 d = u := by injection hu
    subst e; exact h.cell 3
  · have : (none : Option Value) = some u := hu
    cases this
theorem zeroK32 : (Tryz.prog.info? 89).bind (·.zero) = some (.agg (arr32 (List.replicate 64 0))) := by kernel_rfl
theorem sizeK32 : (Tryz.prog.info? 89).map (·.size) = some 64 := by kernel_rfl
theorem size8_32 : (Tryz.prog.info? 67).map (·.size) = some 8 := by kernel_rfl
theorem zero8_32 : (Tryz.prog.info? 67).bind (·.zero) = some (.agg (arr32 (List.replicate 8 0))) := by kernel_rfl
theorem agg8_32 : AggT Tryz.prog 67 8 := ⟨by kernel_rfl, by kernel_rfl⟩
theorem arr32_one (l : List UInt32) : ∀ v ∈ l.map W32, v.oneCell' = true := by
  intro v hv; obtain ⟨x, _, rfl⟩ := List.mem_map.1 hv; rfl
/-- A store of a whole array of words into a block that is one. -/
theorem wpl_store_arr32 {w : World} {o : Oper} {a : Act} {Q : Exit → Act → World → Prop} {ops : Array Oper} {rest : List Oper} (hgd : o.guard = none) (ty : TypeId) (x y : Operand) (ho : o.op = .store ty x y) (g : Nat) (l : List UInt32) (hx : a.eval x = .pointer (some ⟨g, 0, none⟩)) (hy : a.eval y = .agg (arr32 l))
    (t : TypeId) (l0 : List UInt32) (hb : Blk w g t (arr32 l0)) (n : Nat) (hi : (Tryz.prog.info? ty).map (·.size) = some n) (hl : l.length = n) (hn : l0.length = n)
    (h : wpList Tryz.prog ops Q rest (a.put o.dst undef) (w.setRow g (arr32 l))) : wpList Tryz.prog ops Q (o :: rest) a w := by
  refine wpl_store hgd ty x y ho g 0 (l.map W32) hx hy t _ hb (by rw [hi, List.length_map, hl]) (by rw [List.length_map, arr32_size]; omega) (arr32_one l) ?_
  rw [splice_all _ _ (by rw [List.length_map, arr32_size]; omega)]
  exact h
theorem cells32_map (l : List UInt32) {w : World} {g : Nat} {t : TypeId} (h : Blk w g t (arr32 l)) : Cells w ⟨g, 0, none⟩ (l.map W32) := h.cells_at 0 _ (by intro j v hv; rw [Nat.zero_add]; simpa [arr32] using hv)
theorem built8_32 (a b c d e f g h : UInt32) : Tryz.prog.built 67 [(0, W32 a), (1, W32 b), (2, W32 c), (3, W32 d), (4, W32 e), (5, W32 f), (6, W32 g), (7, W32 h)] = some (arr32 [a, b, c, d, e, f, g, h]) := by
  have e' : ∀ parts, Tryz.prog.built 67 parts = Instr.fill (fun i => some (i * 1, 1)) (arr32 (List.replicate 8 0)) parts := fun parts => by kernel_rfl
  rw [e']; simp [Instr.fill, W32, arr32, Value.cells, Array.zipIdx, List.replicate]
theorem turn32_lit (x : UInt32) (n : Nat) (hn : n ≤ 32) (w : World) : Calls Tryz.prog 71 #[.int .u32 ((n32 x : Nat) : Int), .int .i64 (OfNat.ofNat n)] w fun e w' => e = .returned (.int .u32 ((n32 (Sha32.rot x n) : Nat) : Int)) ∧ Below w.heap.size w w' := turn32_any x n hn w

theorem builtK32 : Tryz.prog.built 89 [(0, .int .u32 1116352408), (1, .int .u32 1899447441), (2, .int .u32 3049323471), (3, .int .u32 3921009573), (4, .int .u32 961987163), (5, .int .u32 1508970993), (6, .int .u32 2453635748), (7, .int .u32 2870763221), (8, .int .u32 3624381080), (9, .int .u32 310598401), (10, .int .u32 607225278), (11, .int .u32 1426881987), (12, .int .u32 1925078388), (13, .int .u32 2162078206), (14, .int .u32 2614888103), (15, .int .u32 3248222580), (16, .int .u32 3835390401), (17, .int .u32 4022224774), (18, .int .u32 264347078), (19, .int .u32 604807628), (20, .int .u32 770255983), (21, .int .u32 1249150122), (22, .int .u32 1555081692), (23, .int .u32 1996064986), (24, .int .u32 2554220882), (25, .int .u32 2821834349), (26, .int .u32 2952996808), (27, .int .u32 3210313671), (28, .int .u32 3336571891), (29, .int .u32 3584528711), (30, .int .u32 113926993), (31, .int .u32 338241895), (32, .int .u32 666307205), (33, .int .u32 773529912), (34, .int .u32 1294757372), (35, .int .u32 1396182291), (36, .int .u32 1695183700), (37, .int .u32 1986661051), (38, .int .u32 2177026350), (39, .int .u32 2456956037), (40, .int .u32 2730485921), (41, .int .u32 2820302411), (42, .int .u32 3259730800), (43, .int .u32 3345764771), (44, .int .u32 3516065817), (45, .int .u32 3600352804), (46, .int .u32 4094571909), (47, .int .u32 275423344), (48, .int .u32 430227734), (49, .int .u32 506948616), (50, .int .u32 659060556), (51, .int .u32 883997877), (52, .int .u32 958139571), (53, .int .u32 1322822218), (54, .int .u32 1537002063), (55, .int .u32 1747873779), (56, .int .u32 1955562222), (57, .int .u32 2024104815), (58, .int .u32 2227730452), (59, .int .u32 2361852424), (60, .int .u32 2428436474), (61, .int .u32 2756734187), (62, .int .u32 3204031479), (63, .int .u32 3329325298)] = some (arr32 Sha32.K) := by kernel_rfl

set_option maxHeartbeats 8000000 in
set_option maxRecDepth 100000 in
theorem rsum32_any (A : Option Addr) (n c : Nat) (b : List UInt8) (w : World) (hr : ReadsB w w.heap.size A n b) (hn : n ≤ 140737488354000) :
    Calls Tryz.prog 52 #[.slice A n c] w fun e w' => ∃ v, e = .returned v ∧ OwnB w' w.heap.size v (Sha.sum 1 b) ∧ Below w.heap.size w w' := by
  have Hbl := hd hr.len
  go_enter Tryz.func52, Tryz.ntmps52
  go_wp2_with (first | (refine wpl_build rfl 89 _ rfl [(0, .int .u32 1116352408), (1, .int .u32 1899447441), (2, .int .u32 3049323471), (3, .int .u32 3921009573), (4, .int .u32 961987163), (5, .int .u32 1508970993), (6, .int .u32 2453635748), (7, .int .u32 2870763221), (8, .int .u32 3624381080), (9, .int .u32 310598401), (10, .int .u32 607225278), (11, .int .u32 1426881987), (12, .int .u32 1925078388), (13, .int .u32 2162078206), (14, .int .u32 2614888103), (15, .int .u32 3248222580), (16, .int .u32 3835390401), (17, .int .u32 4022224774), (18, .int .u32 264347078), (19, .int .u32 604807628), (20, .int .u32 770255983), (21, .int .u32 1249150122), (22, .int .u32 1555081692), (23, .int .u32 1996064986), (24, .int .u32 2554220882), (25, .int .u32 2821834349), (26, .int .u32 2952996808), (27, .int .u32 3210313671), (28, .int .u32 3336571891), (29, .int .u32 3584528711), (30, .int .u32 113926993), (31, .int .u32 338241895), (32, .int .u32 666307205), (33, .int .u32 773529912), (34, .int .u32 1294757372), (35, .int .u32 1396182291), (36, .int .u32 1695183700), (37, .int .u32 1986661051), (38, .int .u32 2177026350), (39, .int .u32 2456956037), (40, .int .u32 2730485921), (41, .int .u32 2820302411), (42, .int .u32 3259730800), (43, .int .u32 3345764771), (44, .int .u32 3516065817), (45, .int .u32 3600352804), (46, .int .u32 4094571909), (47, .int .u32 275423344), (48, .int .u32 430227734), (49, .int .u32 506948616), (50, .int .u32 659060556), (51, .int .u32 883997877), (52, .int .u32 958139571), (53, .int .u32 1322822218), (54, .int .u32 1537002063), (55, .int .u32 1747873779), (56, .int .u32 1955562222), (57, .int .u32 2024104815), (58, .int .u32 2227730452), (59, .int .u32 2361852424), (60, .int .u32 2428436474), (61, .int .u32 2756734187), (62, .int .u32 3204031479), (63, .int .u32 3329325298)] rfl _ builtK32 ?_) | (refine wpl_alloc rfl 89 rfl _ zeroK32 ?_) | (refine wpl_store_arr32 rfl 89 _ _ rfl w.heap.size Sha32.K rfl rfl 89 _ (Blk.nu rfl) 64 sizeK32 rfl rfl ?_; refine wpl_name (fun wo => Blk wo w.heap.size 89 (arr32 Sha32.K) ∧ Below w.heap.size w wo) ⟨(Blk.nu rfl).setRow _, below_setRow ((Below.refl _ _).alloc (Nat.le_refl _) _) (Nat.le_refl _) _⟩ ?_; rintro w1 ⟨bk1, hB1⟩) | (refine wpl_alloc rfl 67 rfl _ zero8_32 ?_) | (refine wpl_store_arr32 rfl 67 _ _ rfl w1.heap.size Sha.iv1 rfl rfl 67 _ (Blk.nu rfl) 8 size8_32 rfl rfl ?_; refine wpl_name (fun wo => Blk wo w.heap.size 89 (arr32 Sha32.K) ∧ Blk wo w1.heap.size 67 (arr32 Sha.iv1) ∧ Below w.heap.size w wo) ⟨(bk1.alloc _).farRow (Nat.ne_of_lt bk1.lt) _, (Blk.nu rfl).setRow _, below_setRow (hB1.alloc hB1.size _) hB1.size _⟩ ?_; rintro w2 ⟨bk2, bs2, hB2⟩; have hr2 : ReadsB w2 w2.heap.size A n b := ⟨hr.len, (hr.is.below hB2).more hB2.size⟩) | (go_at_call 70; refine (padded64_any A n c b _ hr2 hn).mono ?_; rintro e w3 ⟨v3, rfl, own3, hB3⟩))
  have hgs : w.heap.size < w1.heap.size := bk1.lt
  obtain ⟨gk, Hgk⟩ : ∃ g, Hd (w.heap.size = g) := ⟨_, ⟨rfl⟩⟩
  obtain ⟨gs, Hgs⟩ : ∃ g, Hd (w1.heap.size = g) := ⟨_, ⟨rfl⟩⟩
  rw [Hgk.out] at bk2 hgs
  rw [Hgs.out] at bs2 hgs
  rw [Hgk.out, Hgs.out]
  have bk3 := bk2.below hB3 bk2.lt
  have bs3 := bs2.below hB3 bs2.lt
  have hB3' := hB2.trans (hB3.mono hB2.size)
  have Hlen := hd (Sha.endOf_len 64 b)
  obtain ⟨LL, HLL⟩ : ∃ L, Hd (b ++ Sha.endOf 64 b = L) := ⟨_, ⟨rfl⟩⟩
  obtain ⟨M, HM⟩ : ∃ M, Hd (LL.length / 64 = M) := ⟨_, ⟨rfl⟩⟩
  have HLn := hd (show LL.length = 64 * M by
    have h1 := Hlen.out
    have h3 : Sha.padK 64 b.length = (128 - 8 - 1 - b.length % 64) % 64 := rfl
    rw [← HM.out, ← HLL.out, List.length_append, h1, h3]; omega)
  have HM0 := hd (show 0 < M by
    have h1 := Hlen.out
    have h2 : LL.length = b.length + (Sha.endOf 64 b).length := by rw [← HLL.out, List.length_append]
    have h3 := HLn.out
    omega)
  have HMs := hd (show LL.length ≤ 140737488355000 by
    have h1 := Hlen.out
    have h3 : Sha.padK 64 b.length = (128 - 8 - 1 - b.length % 64) % 64 := rfl
    rw [← HLL.out, List.length_append, h1, h3, Hbl.out]; omega)
  rw [HLL.out] at own3
  obtain ⟨gb, cb, e3, hgb1, hgb2, hcb⟩ := own3.form (by rw [HLn.out]; have := HM0.out; omega)
  subst e3
  obtain ⟨m, Hm⟩ : ∃ m, Hd (LL.length = m) := ⟨_, ⟨rfl⟩⟩
  rw [Hm.out] at own3 hcb ⊢
  obtain ⟨iv, Hiv⟩ : ∃ x, Hd (Sha.iv1 = x) := ⟨_, ⟨rfl⟩⟩
  have Hivl := hd (show iv.length = 8 by rw [← Hiv.out]; rfl)
  rw [Hiv.out] at bs3
  have hg2 : gs < w2.heap.size := bs2.lt
  have hBw : w.heap.size ≤ w2.heap.size := hB2.size
  have hHk : w.heap.size = gk := Hgk.out
  clear bk1 hB1 bk2 bs2 hB2 hB3 hr2 hgb1 hgb2 hcb hr
  go_loopw [5] (fun i wr => ∃ j F : Nat, Hd (64 * j = F) ∧ j ≤ M ∧ i = .int .i64 (F : Int) ∧ Blk wr gk 89 (arr32 Sha32.K) ∧ Blk wr gs 67 (arr32 (Sha32.feed j LL iv)) ∧ OwnB wr w2.heap.size (.slice (some ⟨gb, 0, none⟩) m cb) LL ∧ Below w.heap.size w wr) (fun i _ => m - (intOf i).toNat)
  case atStart => exact ⟨0, 0, hd rfl, by omega, rfl, bk3, bs3, own3, hB3'⟩
  case round =>
    clear bk3 bs3 own3 hB3'
    obtain ⟨j, F, HF, hj, rfl, bk, bs, own, hB⟩ := hrel
    by_cases hlt : j < M
    · have hFm : F + 64 ≤ m := by have := HF.out; have := Hm.out; have := HLn.out; omega
      have hms : m ≤ 140737488355000 := by rw [← Hm.out]; exact HMs.out
      have t1 : (F : Int) < (m : Int) := by omega
      obtain ⟨st, Hst⟩ : ∃ s, Hd (Sha32.feed j LL iv = s) := ⟨_, ⟨rfl⟩⟩
      rw [Hst.out] at bs
      have Hstl := hd (show st.length = 8 by rw [← Hst.out, Sha32.feed_len, Hivl.out])
      obtain ⟨z, Hz⟩ : ∃ z, Hd (wr.heap.size = z) := ⟨_, ⟨rfl⟩⟩
      have hkz : gk < z := by rw [← Hz.out]; exact bk.lt
      have hsz : gs < z := by rw [← Hz.out]; exact bs.lt
      have hbz : gb < z := by rw [← Hz.out]; exact (own.own.lt gb rfl).2
      have bk1 := bk.alloc (.cells (arr32 (List.replicate 64 0)) 89)
      have bs1 := bs.alloc (.cells (arr32 (List.replicate 64 0)) 89)
      have bz1 : Blk (wr.alloc (.cells (arr32 (List.replicate 64 0)) 89)) z 89 (arr32 (List.replicate 64 0)) := Blk.nu Hz.out.symm
      have own1 := own.alloc (.cells (arr32 (List.replicate 64 0)) 89)
      have hB1 := hB.alloc hB.size (.cells (arr32 (List.replicate 64 0)) 89)
      have hBz : w.heap.size ≤ z := by rw [← Hz.out]; exact hB.size
      clear bk bs own hB
      obtain ⟨B, HBk⟩ : ∃ B, Hd ((LL.drop F).take 64 = B) := ⟨_, ⟨rfl⟩⟩
      go_wp2_with (first | (refine wpl_alloc rfl 89 rfl _ zeroK32 ?_; rw [Hz.out]))
      go_loopw [7] (fun i wr => ∃ k : Nat, k ≤ 16 ∧ i = .int .i64 (k : Int) ∧ Blk wr gk 89 (arr32 Sha32.K) ∧ Blk wr gs 67 (arr32 st) ∧ Blk wr z 89 (arr32 (Sha32.pad 64 (Sha32.wordsTo B k))) ∧ OwnB wr w2.heap.size (.slice (some ⟨gb, 0, none⟩) m cb) LL ∧ Below w.heap.size w wr) (fun i _ => 16 - (intOf i).toNat)
      case atStart => exact ⟨0, by omega, rfl, bk1, bs1, bz1, own1, hB1⟩
      case round =>
        clear bk1 bs1 bz1 own1 hB1
        obtain ⟨k, hk, rfl, bk, bs, bz, own, hB⟩ := hrel
        obtain ⟨ws, Hws⟩ : ∃ x, Hd (Sha32.wordsTo B k = x) := ⟨_, ⟨rfl⟩⟩
        rw [Hws.out] at bz
        have Hwl := hd (show ws.length = k by rw [← Hws.out, Sha32.wordsTo_len])
        by_cases hlk : k < 16
        · obtain ⟨p, Hp⟩ : ∃ p, Hd (F + 4 * k = p) := ⟨_, ⟨rfl⟩⟩
          have hpm : p + 4 ≤ m := by have := Hp.out; omega
          have tk : (k : Int) < 16 := by omega
          have ep : (F : Int) + 4 * (k : Int) = (p : Int) := by have := Hp.out; omega
          have v0 : IntKind.i64.wrap (4 * (k : Int)) = 4 * (k : Int) := IntWalk.i64_in _ (by omega)
          have v1 : IntKind.i64.wrap (p : Int) = (p : Int) := IntWalk.i64_in _ (by omega)
          have v2 : IntKind.i64.wrap ((p : Int) + 1) = (p : Int) + 1 := IntWalk.i64_in _ (by omega)
          have v3 : IntKind.i64.wrap ((p : Int) + 2) = (p : Int) + 2 := IntWalk.i64_in _ (by omega)
          have v4 : IntKind.i64.wrap ((p : Int) + 3) = (p : Int) + 3 := IntWalk.i64_in _ (by omega)
          go_wp2
          have Hlk := hd hlk
          have u0 : (p : Int) < (m : Int) := by omega
          have u1 : (p : Int) + 1 < (m : Int) := by omega
          have u2 : (p : Int) + 2 < (m : Int) := by omega
          have u3 : (p : Int) + 3 < (m : Int) := by omega
          have n1 : ((p : Int) + 1).toNat = p + 1 := by omega
          have n2 : ((p : Int) + 2).toNat = p + 2 := by omega
          have n3 : ((p : Int) + 3).toNat = p + 3 := by omega
          have s1 : 0 ≤ (p : Int) + 1 := by omega
          have s2 : 0 ≤ (p : Int) + 2 := by omega
          have s3 : 0 ≤ (p : Int) + 3 := by omega
          have tk4 : (k : Int) < 64 := by omega
          have own' := own
          rw [← Hm.out] at own'
          obtain ⟨x0, X0⟩ : ∃ x, Hd (nth LL p = x) := ⟨_, ⟨rfl⟩⟩
          obtain ⟨x1, X1⟩ : ∃ x, Hd (nth LL (p + 1) = x) := ⟨_, ⟨rfl⟩⟩
          obtain ⟨x2, X2⟩ : ∃ x, Hd (nth LL (p + 2) = x) := ⟨_, ⟨rfl⟩⟩
          obtain ⟨x3, X3⟩ : ∃ x, Hd (nth LL (p + 3) = x) := ⟨_, ⟨rfl⟩⟩
          have c0 := Calm.cell (own'.cell p (by rw [Hm.out]; omega))
          have c1 := Calm.cell (own'.cell (p + 1) (by rw [Hm.out]; omega))
          have c2 := Calm.cell (own'.cell (p + 2) (by rw [Hm.out]; omega))
          have c3 := Calm.cell (own'.cell (p + 3) (by rw [Hm.out]; omega))
          rw [X0.out] at c0
          rw [X1.out] at c1
          rw [X2.out] at c2
          rw [X3.out] at c3
          clear own'
          refine region_calm_tail (After wr) 31 (by kernel_rfl) (by kernel_rfl) after_drew ?_
          intro _
          simp only [List.take_succ_cons, List.take_zero, List.drop_succ_cons, List.drop_zero]
          repeat (go_big_quiet_step (fail))
          refine wpQuiet_nil ?_
          rintro ⟨w5, h5⟩
          dsimp only
          clear c0 c1 c2 c3 u0 u1 u2 u3 n1 n2 n3 s1 s2 s3 v0 v1 v2 v3 v4 ep
          have bk5 := bk.below h5 bk.lt
          have bs5 := bs.below h5 bs.lt
          have bz5 := bz.below h5 bz.lt
          have own5 := own.later h5
          have hB5 := hB.trans (h5.mono hB.size)
          clear bk bs bz own hB h5
          have fz := bz5.frozen k
          have cz := (bz5.cell k).trans (arr32_get _ k (by rw [Sha32.pad_len _ _ (by rw [Hwl.out]; omega)]; omega))
          have Hx := hd (show Sha32.pad 64 (Sha32.wordsTo B (k + 1)) = (Sha32.pad 64 ws).set k (x0.toUInt32 <<< 24 ||| x1.toUInt32 <<< 16 ||| x2.toUInt32 <<< 8 ||| x3.toUInt32) by
            have h := Sha32.pad_set 64 ws (x0.toUInt32 <<< 24 ||| x1.toUInt32 <<< 16 ||| x2.toUInt32 <<< 8 ||| x3.toUInt32) (by rw [Hwl.out]; omega)
            rw [Hwl.out] at h
            rw [h, Sha32.wordsTo, Hws.out, Sha32.word4]
            have hh : ∀ i, i < 4 → nth (B.drop (4 * k)) i = nth LL (p + i) := fun i hi => by
              rw [Sha32.nth_from, ← HBk.out, Sha32.nth_block _ _ _ (by omega), ← Hp.out, Nat.add_assoc]
            rw [hh 0 (by omega), hh 1 (by omega), hh 2 (by omega), hh 3 (by omega), Nat.add_zero, X0.out, X1.out, X2.out, X3.out])
          have bz6 := bz5.set_ k (W32 (x0.toUInt32 <<< 24 ||| x1.toUInt32 <<< 16 ||| x2.toUInt32 <<< 8 ||| x3.toUInt32))
          rw [arr32_set, ← Hx.out] at bz6
          go_wp2
          go_roundw
          case rel => exact ⟨k + 1, by omega, by go_num, bk5.far (by show gk ≠ z; omega) _, bs5.far (by show gs ≠ z; omega) _, bz6, own5.far (by show some gb ≠ some z; intro e; injection e; omega) _, hB5.setCell (p := ⟨z, k, none⟩) hBz _⟩
          case measure => simp [intOf]; omega
        · have ek : k = 16 := by omega
          subst ek
          have tk : ¬ ((16 : Nat) : Int) < 16 := by omega
          have HW := hd (show ws = Sha32.words B from Hws.out.symm)
          clear hlk hk
          go_wp2
          go_loopw [9] (fun i wr => ∃ k q : Nat, Hd (16 + k = q) ∧ k ≤ 48 ∧ i = .int .i64 (q : Int) ∧ Blk wr gk 89 (arr32 Sha32.K) ∧ Blk wr gs 67 (arr32 st) ∧ Blk wr z 89 (arr32 (Sha32.pad 64 (iter Sha32.more k ws))) ∧ OwnB wr w2.heap.size (.slice (some ⟨gb, 0, none⟩) m cb) LL ∧ Below w.heap.size w wr) (fun i _ => 64 - (intOf i).toNat)
          case atStart => exact ⟨0, 16, hd rfl, by omega, rfl, bk, bs, bz, own, hB⟩
          case round =>
            clear bk bs bz own hB
            obtain ⟨k, q, Hq, hk, rfl, bk, bs, bz, own, hB⟩ := hrel
            obtain ⟨l, Hl⟩ : ∃ x, Hd (iter Sha32.more k ws = x) := ⟨_, ⟨rfl⟩⟩
            rw [Hl.out] at bz
            have Hll := hd (show l.length = q by rw [← Hl.out, Sha32.more_len, Hwl.out, Hq.out])
            by_cases hlk : k < 48
            · have hq1 : 16 ≤ q := by have := Hq.out; omega
              have hq2 : q < 64 := by have := Hq.out; omega
              have Hpl := hd (Sha32.pad_len 64 l (by rw [Hll.out]; omega))
              obtain ⟨m15, Hm15⟩ : ∃ x, Hd (q - 15 = x) := ⟨_, ⟨rfl⟩⟩
              obtain ⟨m2, Hm2⟩ : ∃ x, Hd (q - 2 = x) := ⟨_, ⟨rfl⟩⟩
              obtain ⟨m7, Hm7⟩ : ∃ x, Hd (q - 7 = x) := ⟨_, ⟨rfl⟩⟩
              obtain ⟨m16, Hm16⟩ : ∃ x, Hd (q - 16 = x) := ⟨_, ⟨rfl⟩⟩
              have cell : ∀ i, i < q → wr.cell? ⟨z, i, none⟩ = some (.int .u32 ((n32 (Sha32.at_ l i) : Nat) : Int)) := fun i hi => by
                rw [← Sha32.pad_at 64 l i (by rw [Hll.out]; exact hi)]
                exact (bz.cell i).trans (arr32_get _ i (by rw [Hpl.out]; omega))
              have c15 := cell m15 (by have := Hm15.out; omega)
              have c2 := cell m2 (by have := Hm2.out; omega)
              have c7 := cell m7 (by have := Hm7.out; omega)
              have c16 := cell m16 (by have := Hm16.out; omega)
              clear cell
              obtain ⟨x, Hx⟩ : ∃ x, Hd (Sha32.at_ l m15 = x) := ⟨_, ⟨rfl⟩⟩
              obtain ⟨y, Hy⟩ : ∃ x, Hd (Sha32.at_ l m2 = x) := ⟨_, ⟨rfl⟩⟩
              obtain ⟨x7, Hx7⟩ : ∃ x, Hd (Sha32.at_ l m7 = x) := ⟨_, ⟨rfl⟩⟩
              obtain ⟨x16, Hx16⟩ : ∃ x, Hd (Sha32.at_ l m16 = x) := ⟨_, ⟨rfl⟩⟩
              rw [Hx.out] at c15
              rw [Hy.out] at c2
              rw [Hx7.out] at c7
              rw [Hx16.out] at c16
              have Hnx := hd (show Sha32.next l = (Sha32.rot y 17 ^^^ Sha32.rot y 19 ^^^ y >>> 10) + x7 + (Sha32.rot x 7 ^^^ Sha32.rot x 18 ^^^ x >>> 3) + x16 by
                have h := Sha32.next_is l x y (by rw [Hll.out, Hm15.out, Hx.out]) (by rw [Hll.out, Hm2.out, Hy.out])
                rw [h, Hll.out, Hm7.out, Hm16.out, Hx7.out, Hx16.out])
              have e15 : (q : Int) - 15 = (m15 : Int) := by have := Hm15.out; omega
              have e2 : (q : Int) - 2 = (m2 : Int) := by have := Hm2.out; omega
              have e7 : (q : Int) - 7 = (m7 : Int) := by have := Hm7.out; omega
              have e16 : (q : Int) - 16 = (m16 : Int) := by have := Hm16.out; omega
              have v15 : IntKind.i64.wrap (m15 : Int) = (m15 : Int) := IntWalk.i64_in _ (by omega)
              have v2 : IntKind.i64.wrap (m2 : Int) = (m2 : Int) := IntWalk.i64_in _ (by omega)
              have v7 : IntKind.i64.wrap (m7 : Int) = (m7 : Int) := IntWalk.i64_in _ (by omega)
              have v16 : IntKind.i64.wrap (m16 : Int) = (m16 : Int) := IntWalk.i64_in _ (by omega)
              have b15 : (m15 : Int) < 64 := by omega
              have b2 : (m2 : Int) < 64 := by omega
              have b7 : (m7 : Int) < 64 := by omega
              have b16 : (m16 : Int) < 64 := by omega
              have bq : (q : Int) < 64 := by omega
              go_wp2
              have d7 := Calm.cell c7
              have d16 := Calm.cell c16
              clear c7 c16 c15 c2
              refine region_calm_tail (After wr) 29 (by kernel_rfl) (by kernel_rfl) after_drew ?_
              intro _
              simp only [List.take_succ_cons, List.take_zero, List.drop_succ_cons, List.drop_zero]
              repeat (go_big_quiet_step ((go_at_call 71; exact Calm.after (turn32_lit _ _ (by decide) _))))
              refine wpQuiet_nil ?_
              rintro ⟨w5, h5⟩
              dsimp only
              clear d7 d16 e15 e2 e7 e16 v15 v2 v7 v16 b15 b2 b7 b16
              rw [← Hnx.out]
              have bk5 := bk.below h5 bk.lt
              have bs5 := bs.below h5 bs.lt
              have bz5 := bz.below h5 bz.lt
              have own5 := own.later h5
              have hB5 := hB.trans (h5.mono hB.size)
              clear bk bs bz own hB
              clear h5
              have fz := bz5.frozen q
              have cz := (bz5.cell q).trans (arr32_get _ q (by rw [Hpl.out]; omega))
              have Hxx := hd (show Sha32.pad 64 (iter Sha32.more (k + 1) ws) = (Sha32.pad 64 l).set q (Sha32.next l) by
                have h := Sha32.pad_set 64 l (Sha32.next l) (by rw [Hll.out]; omega)
                rw [Hll.out] at h
                rw [h, iter, Hl.out, Sha32.more])
              have bz6 := bz5.set_ q (W32 (Sha32.next l))
              rw [arr32_set, ← Hxx.out] at bz6
              go_wp2
              go_roundw
              case rel => exact ⟨k + 1, q + 1, hd (by have := Hq.out; omega), by omega, by go_num, bk5.far (by show gk ≠ z; omega) _, bs5.far (by show gs ≠ z; omega) _, bz6, own5.far (by show some gb ≠ some z; intro e; injection e; omega) _, hB5.setCell (p := ⟨z, q, none⟩) hBz _⟩
              case measure => simp [intOf]; omega
            · have ek : k = 48 := by omega
              subst ek
              have hq : q = 64 := by rw [← Hq.out]
              subst hq
              have tk : ¬ ((64 : Nat) : Int) < 64 := by omega
              have Hpad := hd (show Sha32.pad 64 l = l by have h := Sha32.pad_full l; rw [Hll.out] at h; exact h)
              rw [Hpad.out] at bz
              have hbz' := bz
              have hcs : Cells wr ⟨gs, 0, none⟩ (st.map W32) := cells32_map st bs
              obtain ⟨zv, Hzv⟩ : ∃ z, Hd (wr.heap.size = z) := ⟨_, ⟨rfl⟩⟩
              have hkv : gk < zv := by rw [← Hzv.out]; exact bk.lt
              have hsv : gs < zv := by rw [← Hzv.out]; exact bs.lt
              have hbv : gb < zv := by rw [← Hzv.out]; exact (own.own.lt gb rfl).2
              have hzv : z < zv := by rw [← Hzv.out]; exact bz.lt
              have hBv : w.heap.size ≤ zv := by omega
              go_wp2_with (first | (refine wpl_load rfl 67 _ rfl ⟨gs, 0, none⟩ rfl 8 agg8_32 (st.map W32) (by rw [List.length_map, Hstl.out]) hcs ?_) | (refine wpl_alloc rfl 67 rfl _ zero8_32 ?_; rw [Hzv.out]) | (refine wpl_store_arr32 rfl 67 _ _ rfl zv st rfl rfl 67 _ (Blk.nu Hzv.out.symm) 8 size8_32 Hstl.out rfl ?_; refine wpl_name (fun wo => Blk wo gk 89 (arr32 Sha32.K) ∧ Blk wo gs 67 (arr32 st) ∧ Blk wo z 89 (arr32 l) ∧ Blk wo zv 67 (arr32 st) ∧ OwnB wo w2.heap.size (.slice (some ⟨gb, 0, none⟩) m cb) LL ∧ Below w.heap.size w wo) ⟨(bk.alloc _).farRow (by omega) _, (bs.alloc _).farRow (by omega) _, (bz.alloc _).farRow (by omega) _, (Blk.nu Hzv.out.symm).setRow _, (own.alloc _).moved (grew_setRow (World.grownBy.refl _ _) _) (by show some gb ≠ some zv; intro e; injection e; omega), below_setRow (hB.alloc hB.size _) hBv _⟩ ?_; rintro w4 ⟨bk4, bs4, bz4, bv4, own4, hB4⟩))
              clear bk bs bz own hB hcs hbz'
              clear hlk hk
              go_loopw [13] (fun i wr => ∃ (k : Nat) (V : Sha32.V), k ≤ 64 ∧ i = .int .i64 (k : Int) ∧ iter (Sha32.round l) k (Sha32.toV st) = V ∧ Blk wr gk 89 (arr32 Sha32.K) ∧ Blk wr gs 67 (arr32 st) ∧ Blk wr z 89 (arr32 l) ∧ Blk wr zv 67 (arr32 (Sha32.ofV V)) ∧ OwnB wr w2.heap.size (.slice (some ⟨gb, 0, none⟩) m cb) LL ∧ Below w.heap.size w wr) (fun i _ => 64 - (intOf i).toNat)
              case atStart => exact ⟨0, _, by omega, rfl, rfl, bk4, bs4, bz4, by rw [iter, Sha32.ofV_toV _ Hstl.out]; exact bv4, own4, hB4⟩
              case round =>
                clear bk4 bs4 bz4 bv4 own4 hB4
                obtain ⟨k, V, hk, rfl, hV, bk, bs, bz, bv, own, hB⟩ := hrel
                have HV := hd hV
                clear hV
                by_cases hlk : k < 64
                · have tk : (k : Int) < 64 := by omega
                  obtain ⟨a, b2, c2, d, ee, ff, q, h⟩ := V
                  have c0 : wr.cell? ⟨zv, 0, none⟩ = some (.int .u32 ((n32 a : Nat) : Int)) := bv.cell 0
                  have c1 : wr.cell? ⟨zv, 1, none⟩ = some (.int .u32 ((n32 b2 : Nat) : Int)) := bv.cell 1
                  have c2' : wr.cell? ⟨zv, 2, none⟩ = some (.int .u32 ((n32 c2 : Nat) : Int)) := bv.cell 2
                  have c3 : wr.cell? ⟨zv, 3, none⟩ = some (.int .u32 ((n32 d : Nat) : Int)) := bv.cell 3
                  have c4 : wr.cell? ⟨zv, 4, none⟩ = some (.int .u32 ((n32 ee : Nat) : Int)) := bv.cell 4
                  have c5 : wr.cell? ⟨zv, 5, none⟩ = some (.int .u32 ((n32 ff : Nat) : Int)) := bv.cell 5
                  have c6 : wr.cell? ⟨zv, 6, none⟩ = some (.int .u32 ((n32 q : Nat) : Int)) := bv.cell 6
                  have c7 : wr.cell? ⟨zv, 7, none⟩ = some (.int .u32 ((n32 h : Nat) : Int)) := bv.cell 7
                  obtain ⟨kk, Hkk⟩ : ∃ x, Hd (Sha32.at_ Sha32.K k = x) := ⟨_, ⟨rfl⟩⟩
                  obtain ⟨wk, Hwk⟩ : ∃ x, Hd (Sha32.at_ l k = x) := ⟨_, ⟨rfl⟩⟩
                  have ck : wr.cell? ⟨gk, k, none⟩ = some (.int .u32 ((n32 kk : Nat) : Int)) := by rw [← Hkk.out]; exact (bk.cell k).trans (arr32_get _ k (by rw [Sha32.K_len]; omega))
                  have cw : wr.cell? ⟨z, k, none⟩ = some (.int .u32 ((n32 wk : Nat) : Int)) := by rw [← Hwk.out]; exact (bz.cell k).trans (arr32_get _ k (by rw [Hll.out]; omega))
                  obtain ⟨X, HX⟩ : ∃ x, Hd (Sha32.xOf kk wk ⟨a, b2, c2, d, ee, ff, q, h⟩ = x) := ⟨_, ⟨rfl⟩⟩
                  have HXe := hd (show h + (Sha32.rot ee 6 ^^^ Sha32.rot ee 11 ^^^ Sha32.rot ee 25) + (ee &&& ff ^^^ ~~~ee &&& q) + kk + wk = X by rw [← HX.out, Sha32.x_is])
                  obtain ⟨Y, HY⟩ : ∃ x, Hd (Sha32.yOf ⟨a, b2, c2, d, ee, ff, q, h⟩ = x) := ⟨_, ⟨rfl⟩⟩
                  have HYe := hd (show (Sha32.rot a 2 ^^^ Sha32.rot a 13 ^^^ Sha32.rot a 22) + (a &&& b2 ^^^ a &&& c2 ^^^ b2 &&& c2) = Y by rw [← HY.out, Sha32.y_is])
                  go_wp2
                  have d5 := Calm.cell c5
                  have d6 := Calm.cell c6
                  have d7 := Calm.cell c7
                  have dk := Calm.cell ck
                  have dw := Calm.cell cw
                  clear c0 c1 c2' c3 c4 c5 c6 c7 ck cw
                  refine region_calm (After wr) (by kernel_rfl) (by kernel_rfl) after_drew ?_
                  intro _
                  repeat (go_big_quiet_step ((go_at_call 71; exact Calm.after (turn32_lit _ _ (by decide) _))))
                  refine wpQuiet_nil ?_
                  rintro ⟨w5, h5⟩
                  dsimp only
                  clear d5 d6 d7 dk dw
                  rw [HXe.out]
                  have bk5 := bk.below h5 bk.lt
                  have bs5 := bs.below h5 bs.lt
                  have bz5 := bz.below h5 bz.lt
                  have own5 := own.later h5
                  have hB5 := hB.trans (h5.mono hB.size)
                  have bv5 := bv.below h5 bv.lt
                  clear bk bs bz own hB bv
                  clear h5
                  have c1 : w5.cell? ⟨zv, 1, none⟩ = some (.int .u32 ((n32 b2 : Nat) : Int)) := bv5.cell 1
                  have c2' : w5.cell? ⟨zv, 2, none⟩ = some (.int .u32 ((n32 c2 : Nat) : Int)) := bv5.cell 2
                  go_wp2
                  have d1 := Calm.cell c1
                  have d2 := Calm.cell c2'
                  clear c1 c2'
                  refine region_calm (After w5) (by kernel_rfl) (by kernel_rfl) after_drew ?_
                  intro _
                  repeat (go_big_quiet_step ((go_at_call 71; exact Calm.after (turn32_lit _ _ (by decide) _))))
                  refine wpQuiet_nil ?_
                  rintro ⟨w6, h6⟩
                  dsimp only
                  clear d1 d2
                  rw [HYe.out]
                  have bk6 := bk5.below h6 bk5.lt
                  have bs6 := bs5.below h6 bs5.lt
                  have bz6 := bz5.below h6 bz5.lt
                  have own6 := own5.later h6
                  have hB6 := hB5.trans (h6.mono hB5.size)
                  have bv6 := bv5.below h6 bv5.lt
                  clear bk5 bs5 bz5 own5 hB5 bv5
                  clear h6
                  have c1 : w6.cell? ⟨zv, 1, none⟩ = some (.int .u32 ((n32 b2 : Nat) : Int)) := bv6.cell 1
                  have c2' : w6.cell? ⟨zv, 2, none⟩ = some (.int .u32 ((n32 c2 : Nat) : Int)) := bv6.cell 2
                  have c3 : w6.cell? ⟨zv, 3, none⟩ = some (.int .u32 ((n32 d : Nat) : Int)) := bv6.cell 3
                  have c5 : w6.cell? ⟨zv, 5, none⟩ = some (.int .u32 ((n32 ff : Nat) : Int)) := bv6.cell 5
                  have c6 : w6.cell? ⟨zv, 6, none⟩ = some (.int .u32 ((n32 q : Nat) : Int)) := bv6.cell 6
                  have hb8 : Tryz.prog.built 67 [(0, .int .u32 ((n32 (X + Y) : Nat) : Int)), (1, .int .u32 ((n32 a : Nat) : Int)), (2, .int .u32 ((n32 b2 : Nat) : Int)), (3, .int .u32 ((n32 c2 : Nat) : Int)), (4, .int .u32 ((n32 (d + X) : Nat) : Int)), (5, .int .u32 ((n32 ee : Nat) : Int)), (6, .int .u32 ((n32 ff : Nat) : Int)), (7, .int .u32 ((n32 q : Nat) : Int))] = some (arr32 [X + Y, a, b2, c2, d + X, ee, ff, q]) := built8_32 (X + Y) a b2 c2 (d + X) ee ff q
                  have Hrd := hd (show iter (Sha32.round l) (k + 1) (Sha32.toV st) = ⟨X + Y, a, b2, c2, d + X, ee, ff, q⟩ by rw [iter, HV.out, Sha32.round, Hkk.out, Hwk.out, HX.out, HY.out])
                  go_wp2_with (first | (refine wpl_build rfl 67 _ rfl [(0, .int .u32 ((n32 (X + Y) : Nat) : Int)), (1, .int .u32 ((n32 a : Nat) : Int)), (2, .int .u32 ((n32 b2 : Nat) : Int)), (3, .int .u32 ((n32 c2 : Nat) : Int)), (4, .int .u32 ((n32 (d + X) : Nat) : Int)), (5, .int .u32 ((n32 ee : Nat) : Int)), (6, .int .u32 ((n32 ff : Nat) : Int)), (7, .int .u32 ((n32 q : Nat) : Int))] rfl _ hb8 ?_) | (refine wpl_store_arr32 rfl 67 _ _ rfl zv [X + Y, a, b2, c2, d + X, ee, ff, q] rfl rfl 67 _ bv6 8 size8_32 rfl rfl ?_; refine wpl_name (fun wo => Blk wo gk 89 (arr32 Sha32.K) ∧ Blk wo gs 67 (arr32 st) ∧ Blk wo z 89 (arr32 l) ∧ Blk wo zv 67 (arr32 [X + Y, a, b2, c2, d + X, ee, ff, q]) ∧ OwnB wo w2.heap.size (.slice (some ⟨gb, 0, none⟩) m cb) LL ∧ Below w.heap.size w wo) ⟨bk6.farRow (by omega) _, bs6.farRow (by omega) _, bz6.farRow (by omega) _, bv6.setRow _, own6.moved (grew_setRow (World.grownBy.refl _ _) _) (by show some gb ≠ some zv; intro e; injection e; omega), below_setRow hB6 hBv _⟩ ?_; clear bk6 bs6 bz6 bv6 own6 hB6 c1 c2' c3 c5 c6; rintro w7 ⟨bk7, bs7, bz7, bv7, own7, hB7⟩))
                  go_roundw
                  case rel => exact ⟨k + 1, _, by omega, by go_num, Hrd.out, bk7, bs7, bz7, bv7, own7, hB7⟩
                  case measure => simp [intOf]; omega
                · have ek : k = 64 := by omega
                  subst ek
                  have tk : ¬ ((64 : Nat) : Int) < 64 := by omega
                  obtain ⟨u, Hu⟩ : ∃ u, Hd (Sha32.ofV V = u) := ⟨_, ⟨rfl⟩⟩
                  rw [Hu.out] at bv
                  have Hul := hd (show u.length = 8 by rw [← Hu.out]; rfl)
                  have hgbs : gs < gb := by have := (own.own.lt gb rfl).1; omega
                  have hBs : w.heap.size ≤ gs := by omega
                  clear hlk hk
                  go_wp2
                  go_loopw [18] (fun i wr => ∃ k : Nat, k ≤ 8 ∧ i = .int .i64 (k : Int) ∧ Blk wr gk 89 (arr32 Sha32.K) ∧ Blk wr gs 67 (arr32 (iter (Sha32.add8 u) k st)) ∧ Blk wr zv 67 (arr32 u) ∧ OwnB wr w2.heap.size (.slice (some ⟨gb, 0, none⟩) m cb) LL ∧ Below w.heap.size w wr) (fun i _ => 8 - (intOf i).toNat)
                  case atStart => exact ⟨0, by omega, rfl, bk, bs, bv, own, hB⟩
                  case round =>
                    clear bk bs bz bv own hB
                    obtain ⟨k, hk, rfl, bk, bs, bv, own, hB⟩ := hrel
                    obtain ⟨s, Hs⟩ : ∃ x, Hd (iter (Sha32.add8 u) k st = x) := ⟨_, ⟨rfl⟩⟩
                    rw [Hs.out] at bs
                    have Hsl := hd (show s.length = 8 by rw [← Hs.out, Sha32.add8_len, Hstl.out])
                    by_cases hlk : k < 8
                    · have tk8 : (k : Int) < 8 := by omega
                      obtain ⟨x, Hx⟩ : ∃ x, Hd (Sha32.at_ s k = x) := ⟨_, ⟨rfl⟩⟩
                      obtain ⟨y, Hy⟩ : ∃ x, Hd (Sha32.at_ u k = x) := ⟨_, ⟨rfl⟩⟩
                      have cx : wr.cell? ⟨gs, k, none⟩ = some (.int .u32 ((n32 x : Nat) : Int)) := by rw [← Hx.out]; exact (bs.cell k).trans (arr32_get _ k (by rw [Hsl.out]; omega))
                      have cy : wr.cell? ⟨zv, k, none⟩ = some (.int .u32 ((n32 y : Nat) : Int)) := by rw [← Hy.out]; exact (bv.cell k).trans (arr32_get _ k (by rw [Hul.out]; omega))
                      go_wp2
                      have dx := Calm.cell cx
                      have dy := Calm.cell cy
                      clear cx cy
                      refine region_calm_tail (After wr) 9 (by kernel_rfl) (by kernel_rfl) after_drew ?_
                      intro _
                      simp only [List.take_succ_cons, List.take_zero, List.drop_succ_cons, List.drop_zero]
                      repeat (go_big_quiet_step (fail))
                      refine wpQuiet_nil ?_
                      rintro ⟨w5, h5⟩
                      dsimp only
                      clear dx dy
                      have bk5 := bk.below h5 bk.lt
                      have bs5 := bs.below h5 bs.lt
                      have bv5 := bv.below h5 bv.lt
                      have own5 := own.later h5
                      have hB5 := hB.trans (h5.mono hB.size)
                      clear bk bs bv own hB h5
                      have fz := bs5.frozen k
                      have cz := (bs5.cell k).trans (arr32_get _ k (by rw [Hsl.out]; omega))
                      have Hxx := hd (show iter (Sha32.add8 u) (k + 1) st = s.set k (x + y) by rw [iter, Hs.out, Sha32.add8, Hx.out, Hy.out])
                      have bs6 := bs5.set_ k (W32 (x + y))
                      rw [arr32_set, ← Hxx.out] at bs6
                      go_wp2
                      go_roundw
                      case rel => exact ⟨k + 1, by omega, by go_num, bk5.far (by show gk ≠ gs; omega) _, bs6, bv5.far (by show zv ≠ gs; omega) _, own5.far (by show some gb ≠ some gs; intro e; injection e; omega) _, hB5.setCell (p := ⟨gs, k, none⟩) hBs _⟩
                      case measure => simp [intOf]; omega
                    · have ek : k = 8 := by omega
                      subst ek
                      have tk8 : ¬ ((8 : Nat) : Int) < 8 := by omega
                      have Hfd := hd (show Sha32.feed (j + 1) LL iv = s by rw [Sha32.feed_snoc, Hst.out, HF.out, HBk.out, ← HW.out, Sha32.block_is, Hl.out, HV.out, Hu.out, Hs.out])
                      clear hlk hk
                      go_wp2
                      go_roundw
                      case rel => exact ⟨j + 1, F + 64, hd (by have := HF.out; omega), by omega, by go_num, bk, by rw [Hfd.out]; exact bs, own, hB⟩
                      case measure => simp [intOf]; omega
    · have ej : j = M := by omega
      have eF : F = m := by have := HF.out; have := Hm.out; have := HLn.out; omega
      have t1 : ¬ (F : Int) < (m : Int) := by omega
      obtain ⟨st, Hst⟩ : ∃ s, Hd (Sha32.feed j LL iv = s) := ⟨_, ⟨rfl⟩⟩
      rw [Hst.out] at bs
      have Hstl := hd (show st.length = 8 by rw [← Hst.out, Sha32.feed_len, Hivl.out])
      have HS := hd (show Sha.sum 1 b = Sha.out32 st 8 by
        show Sha.out32 (Sha32.feed ((b ++ Sha.endOf 64 b).length / 64) (b ++ Sha.endOf 64 b) Sha.iv1) 8 = _
        rw [HLL.out, HM.out, Hiv.out, ← ej, Hst.out])
      have hge : w2.heap.size ≤ wr.heap.size := Nat.le_of_lt (Nat.lt_of_le_of_lt (own.own.lt gb rfl).1 (own.own.lt gb rfl).2)
      clear bk own ej eF hlt hj
      go_wp2
      go_loopw [19, 20] (fun v i wr => ∃ k : Nat, k ≤ 8 ∧ i = .int .i64 (k : Int) ∧ Blk wr gs 67 (arr32 st) ∧ OwnB wr w2.heap.size v (Sha.out32 st k) ∧ Below w.heap.size w wr ∧ w2.heap.size ≤ wr.heap.size) (fun _ i _ => 8 - (intOf i).toNat)
      case atStart => exact ⟨0, by omega, rfl, bs, OwnB.nil _ _, hB, hge⟩
      case round =>
        clear bs hB hge
        obtain ⟨k, hk, rfl, bs, own, hB, hge⟩ := hrel
        have Ho := hd (Sha.out32_len st k)
        obtain ⟨n3, Hn3⟩ : ∃ n, Hd ((Sha.out32 st k).length = n) := ⟨_, ⟨rfl⟩⟩
        obtain ⟨A3, c3, e3⟩ := own.slice
        rw [Hn3.out] at e3
        subst e3
        by_cases hlk : k < 8
        · have tk8 : (k : Int) < 8 := by omega
          obtain ⟨x, Hx⟩ : ∃ x, Hd (Sha32.at_ st k = x) := ⟨_, ⟨rfl⟩⟩
          have cx : wr.cell? ⟨gs, k, none⟩ = some (.int .u32 ((n32 x : Nat) : Int)) := by rw [← Hx.out]; exact (bs.cell k).trans (arr32_get _ k (by rw [Hstl.out]; omega))
          go_wp2
          have Hg := hd (show (arr32 st)[k]? = some (.int .u32 ((n32 x : Nat) : Int)) by rw [← Hx.out]; exact arr32_get _ k (by rw [Hstl.out]; omega))
          have own5 := own.drew
          have bs5 := bs.drew
          have hB5 := hB.drew
          have hge5 : w2.heap.size ≤ wr.drew.heap.size := hge
          have cx5 : wr.drew.cell? ⟨gs, k, none⟩ = some (.int .u32 ((n32 x : Nat) : Int)) := cx
          clear bs own hB hge cx
          have Hnx := hd (show Sha.out32 st k ++ [(x >>> 24).toUInt8, (x >>> 16).toUInt8, (x >>> 8).toUInt8, x.toUInt8] = Sha.out32 st (k + 1) by rw [Sha.out32, Hx.out, Sha.out4])
          have hcl : (Sha.out32 st k).length + [(x >>> 24).toUInt8, (x >>> 16).toUInt8, (x >>> 8).toUInt8, x.toUInt8].length ≤ 140737488355328 := by rw [Ho.out]; simp; omega
          refine wp_region_held_drew (S := fun W => W.cell? ⟨gs, k, none⟩ = some (.int .u32 ((n32 x : Nat) : Int))) (by kernel_rfl) cx5 ?_
          intro hHeld
          obtain ⟨w5, Hw5⟩ : ∃ y, Hd (wr.drew = y) := ⟨_, ⟨rfl⟩⟩
          rw [Hw5.out] at own5 bs5 hB5 hge5 cx5 hHeld ⊢
          refine held_take 0 (o := _) rfl (by kernel_rfl) (by kernel_rfl) (by kernel_rfl) rfl (.slice A3 n3 c3) (fun _ _ _ h => h) (fun W hW => by (try dsimp only at hW); go_simp) (by assumption) ?_
          simp only [Act.put, List.getElem_toArray, List.getElem_cons_succ, List.getElem_cons_zero, List.setIfInBounds_toArray, List.set_cons_zero, List.set_cons_succ]
          refine held_take 1 (o := _) rfl (by kernel_rfl) (by kernel_rfl) (by kernel_rfl) rfl (.int .i64 (k : Int)) (fun _ _ _ h => h) (fun W hW => by (try dsimp only at hW); go_simp) (by assumption) ?_
          simp only [Act.put, List.getElem_toArray, List.getElem_cons_succ, List.getElem_cons_zero, List.setIfInBounds_toArray, List.set_cons_zero, List.set_cons_succ]
          refine held_take 2 (o := _) rfl (by kernel_rfl) (by kernel_rfl) (by kernel_rfl) rfl (.pointer (some ⟨gs, k, none⟩)) (fun _ _ _ h => h) (fun W hW => by (try dsimp only at hW); go_simp) (by assumption) ?_
          simp only [Act.put, List.getElem_toArray, List.getElem_cons_succ, List.getElem_cons_zero, List.setIfInBounds_toArray, List.set_cons_zero, List.set_cons_succ]
          refine held_take 3 (o := _) rfl (by kernel_rfl) (by kernel_rfl) (by kernel_rfl) rfl (.int .u32 ((n32 x : Nat) : Int)) (fun _ _ _ h => h) (fun W hW => by (try dsimp only at hW); go_simp) (by assumption) ?_
          simp only [Act.put, List.getElem_toArray, List.getElem_cons_succ, List.getElem_cons_zero, List.setIfInBounds_toArray, List.set_cons_zero, List.set_cons_succ]
          refine held_take 4 (o := _) rfl (by kernel_rfl) (by kernel_rfl) (by kernel_rfl) rfl (.int .u32 ((n32 (x >>> 24) : Nat) : Int)) (fun _ _ _ h => h) (fun W hW => by (try dsimp only at hW); go_simp) (by assumption) ?_
          simp only [Act.put, List.getElem_toArray, List.getElem_cons_succ, List.getElem_cons_zero, List.setIfInBounds_toArray, List.set_cons_zero, List.set_cons_succ]
          refine held_take 5 (o := _) rfl (by kernel_rfl) (by kernel_rfl) (by kernel_rfl) rfl (.int .u8 ((n8 (x >>> 24).toUInt8 : Nat) : Int)) (fun _ _ _ h => h) (fun W hW => by (try dsimp only at hW); go_simp) (by assumption) ?_
          simp only [Act.put, List.getElem_toArray, List.getElem_cons_succ, List.getElem_cons_zero, List.setIfInBounds_toArray, List.set_cons_zero, List.set_cons_succ]
          refine held_take 6 (o := _) rfl (by kernel_rfl) (by kernel_rfl) (by kernel_rfl) rfl (.int .i64 (k : Int)) (fun _ _ _ h => h) (fun W hW => by (try dsimp only at hW); go_simp) (by assumption) ?_
          simp only [Act.put, List.getElem_toArray, List.getElem_cons_succ, List.getElem_cons_zero, List.setIfInBounds_toArray, List.set_cons_zero, List.set_cons_succ]
          refine held_take 7 (o := _) rfl (by kernel_rfl) (by kernel_rfl) (by kernel_rfl) rfl (.pointer (some ⟨gs, k, none⟩)) (fun _ _ _ h => h) (fun W hW => by (try dsimp only at hW); go_simp) (by assumption) ?_
          simp only [Act.put, List.getElem_toArray, List.getElem_cons_succ, List.getElem_cons_zero, List.setIfInBounds_toArray, List.set_cons_zero, List.set_cons_succ]
          refine held_take 8 (o := _) rfl (by kernel_rfl) (by kernel_rfl) (by kernel_rfl) rfl (.int .u32 ((n32 x : Nat) : Int)) (fun _ _ _ h => h) (fun W hW => by (try dsimp only at hW); go_simp) (by assumption) ?_
          simp only [Act.put, List.getElem_toArray, List.getElem_cons_succ, List.getElem_cons_zero, List.setIfInBounds_toArray, List.set_cons_zero, List.set_cons_succ]
          refine held_take 9 (o := _) rfl (by kernel_rfl) (by kernel_rfl) (by kernel_rfl) rfl (.int .u32 ((n32 (x >>> 16) : Nat) : Int)) (fun _ _ _ h => h) (fun W hW => by (try dsimp only at hW); go_simp) (by assumption) ?_
          simp only [Act.put, List.getElem_toArray, List.getElem_cons_succ, List.getElem_cons_zero, List.setIfInBounds_toArray, List.set_cons_zero, List.set_cons_succ]
          refine held_take 10 (o := _) rfl (by kernel_rfl) (by kernel_rfl) (by kernel_rfl) rfl (.int .u8 ((n8 (x >>> 16).toUInt8 : Nat) : Int)) (fun _ _ _ h => h) (fun W hW => by (try dsimp only at hW); go_simp) (by assumption) ?_
          simp only [Act.put, List.getElem_toArray, List.getElem_cons_succ, List.getElem_cons_zero, List.setIfInBounds_toArray, List.set_cons_zero, List.set_cons_succ]
          refine held_take 11 (o := _) rfl (by kernel_rfl) (by kernel_rfl) (by kernel_rfl) rfl (.int .i64 (k : Int)) (fun _ _ _ h => h) (fun W hW => by (try dsimp only at hW); go_simp) (by assumption) ?_
          simp only [Act.put, List.getElem_toArray, List.getElem_cons_succ, List.getElem_cons_zero, List.setIfInBounds_toArray, List.set_cons_zero, List.set_cons_succ]
          refine held_take 12 (o := _) rfl (by kernel_rfl) (by kernel_rfl) (by kernel_rfl) rfl (.pointer (some ⟨gs, k, none⟩)) (fun _ _ _ h => h) (fun W hW => by (try dsimp only at hW); go_simp) (by assumption) ?_
          simp only [Act.put, List.getElem_toArray, List.getElem_cons_succ, List.getElem_cons_zero, List.setIfInBounds_toArray, List.set_cons_zero, List.set_cons_succ]
          refine held_take 13 (o := _) rfl (by kernel_rfl) (by kernel_rfl) (by kernel_rfl) rfl (.int .u32 ((n32 x : Nat) : Int)) (fun _ _ _ h => h) (fun W hW => by (try dsimp only at hW); go_simp) (by assumption) ?_
          simp only [Act.put, List.getElem_toArray, List.getElem_cons_succ, List.getElem_cons_zero, List.setIfInBounds_toArray, List.set_cons_zero, List.set_cons_succ]
          refine held_take 14 (o := _) rfl (by kernel_rfl) (by kernel_rfl) (by kernel_rfl) rfl (.int .u32 ((n32 (x >>> 8) : Nat) : Int)) (fun _ _ _ h => h) (fun W hW => by (try dsimp only at hW); go_simp) (by assumption) ?_
          simp only [Act.put, List.getElem_toArray, List.getElem_cons_succ, List.getElem_cons_zero, List.setIfInBounds_toArray, List.set_cons_zero, List.set_cons_succ]
          refine held_take 15 (o := _) rfl (by kernel_rfl) (by kernel_rfl) (by kernel_rfl) rfl (.int .u8 ((n8 (x >>> 8).toUInt8 : Nat) : Int)) (fun _ _ _ h => h) (fun W hW => by (try dsimp only at hW); go_simp) (by assumption) ?_
          simp only [Act.put, List.getElem_toArray, List.getElem_cons_succ, List.getElem_cons_zero, List.setIfInBounds_toArray, List.set_cons_zero, List.set_cons_succ]
          refine held_take 16 (o := _) rfl (by kernel_rfl) (by kernel_rfl) (by kernel_rfl) rfl (.int .i64 (k : Int)) (fun _ _ _ h => h) (fun W hW => by (try dsimp only at hW); go_simp) (by assumption) ?_
          simp only [Act.put, List.getElem_toArray, List.getElem_cons_succ, List.getElem_cons_zero, List.setIfInBounds_toArray, List.set_cons_zero, List.set_cons_succ]
          refine held_take 17 (o := _) rfl (by kernel_rfl) (by kernel_rfl) (by kernel_rfl) rfl (.pointer (some ⟨gs, k, none⟩)) (fun _ _ _ h => h) (fun W hW => by (try dsimp only at hW); go_simp) (by assumption) ?_
          simp only [Act.put, List.getElem_toArray, List.getElem_cons_succ, List.getElem_cons_zero, List.setIfInBounds_toArray, List.set_cons_zero, List.set_cons_succ]
          refine held_take 18 (o := _) rfl (by kernel_rfl) (by kernel_rfl) (by kernel_rfl) rfl (.int .u32 ((n32 x : Nat) : Int)) (fun _ _ _ h => h) (fun W hW => by (try dsimp only at hW); go_simp) (by assumption) ?_
          simp only [Act.put, List.getElem_toArray, List.getElem_cons_succ, List.getElem_cons_zero, List.setIfInBounds_toArray, List.set_cons_zero, List.set_cons_succ]
          refine held_take 19 (o := _) rfl (by kernel_rfl) (by kernel_rfl) (by kernel_rfl) rfl (.int .u8 ((n8 x.toUInt8 : Nat) : Int)) (fun _ _ _ h => h) (fun W hW => by (try dsimp only at hW); go_simp) (by assumption) ?_
          simp only [Act.put, List.getElem_toArray, List.getElem_cons_succ, List.getElem_cons_zero, List.setIfInBounds_toArray, List.set_cons_zero, List.set_cons_succ]
          have own1 := own5.alloc (.cells #[.int .u8 (n8 (x >>> 24).toUInt8), .int .u8 (n8 (x >>> 16).toUInt8), .int .u8 (n8 (x >>> 8).toUInt8), .int .u8 (n8 x.toUInt8)] 5)
          have bs1 := bs5.alloc (.cells #[.int .u8 (n8 (x >>> 24).toUInt8), .int .u8 (n8 (x >>> 16).toUInt8), .int .u8 (n8 (x >>> 8).toUInt8), .int .u8 (n8 x.toUInt8)] 5)
          have hB1 := hB5.alloc hB5.size (.cells #[.int .u8 (n8 (x >>> 24).toUInt8), .int .u8 (n8 (x >>> 16).toUInt8), .int .u8 (n8 (x >>> 8).toUInt8), .int .u8 (n8 x.toUInt8)] 5)
          have hr1 := ReadsB.four w5 (x >>> 24).toUInt8 (x >>> 16).toUInt8 (x >>> 8).toUInt8 x.toUInt8
          have hge1 : w2.heap.size ≤ (w5.alloc (.cells #[.int .u8 (n8 (x >>> 24).toUInt8), .int .u8 (n8 (x >>> 16).toUInt8), .int .u8 (n8 (x >>> 8).toUInt8), .int .u8 (n8 x.toUInt8)] 5)).heap.size := by show w2.heap.size ≤ (w5.heap.push _).size; rw [Array.size_push]; omega
          have hBl : w.heap.size ≤ (w5.alloc (.cells #[.int .u8 (n8 (x >>> 24).toUInt8), .int .u8 (n8 (x >>> 16).toUInt8), .int .u8 (n8 (x >>> 8).toUInt8), .int .u8 (n8 x.toUInt8)] 5)).heap.size := Nat.le_trans hBw hge1
          have cx1 : (w5.alloc (.cells #[.int .u8 (n8 (x >>> 24).toUInt8), .int .u8 (n8 (x >>> 16).toUInt8), .int .u8 (n8 (x >>> 8).toUInt8), .int .u8 (n8 x.toUInt8)] 5)).cell? ⟨gs, k, none⟩ = some (.int .u32 ((n32 x : Nat) : Int)) := (bs1.cell k).trans Hg.out
          refine held_do 20 (by kernel_rfl) (o := _) rfl (by rfl) (.slice (some ⟨w5.heap.size, 0, none⟩) 4 4) (w5.alloc (.cells #[.int .u8 (n8 (x >>> 24).toUInt8), .int .u8 (n8 (x >>> 16).toUInt8), .int .u8 (n8 (x >>> 8).toUInt8), .int .u8 (n8 x.toUInt8)] 5)) (by go_simp) cx1 ?_
          intro _
          simp only [Act.put, List.getElem_toArray, List.getElem_cons_succ, List.getElem_cons_zero, List.setIfInBounds_toArray, List.set_cons_zero, List.set_cons_succ]
          refine wpAnyH_ready (rs := [21]) (by kernel_rfl) (by simp) (AllReadyH.cons rfl (fun K hK => ?_) AllReadyH.nil)
          refine step_appendB (by rfl) _ _ (by rfl) w2.heap.size (.slice A3 n3 c3) (Sha.out32 st k) (by rfl) own1 (w5.heap.size + 1) _ 4 4 [(x >>> 24).toUInt8, (x >>> 16).toUInt8, (x >>> 8).toUInt8, x.toUInt8] (by rfl) hr1 hcl hge1 ?_
          intro v3 w3 own3 gr3 at3
          rw [Hnx.out] at own3
          have bs3 := bs1.appended own1 gr3 (by decide)
          have hB3 := below_appended hB1 own1 gr3 hBw hBl
          have hge3 := Nat.le_trans hge1 gr3.size
          have cx3 : w3.cell? ⟨gs, k, none⟩ = some (.int .u32 ((n32 x : Nat) : Int)) := (bs3.cell k).trans Hg.out
          refine hK.out _ _ cx3 (fun _ => ?_)
          clear hK
          simp only [Act.put, List.getElem_toArray, List.getElem_cons_succ, List.getElem_cons_zero, List.setIfInBounds_toArray, List.set_cons_zero, List.set_cons_succ]
          refine held_take 22 (o := _) rfl (by kernel_rfl) (by kernel_rfl) (by kernel_rfl) rfl (v3) (fun _ _ _ h => h) (fun W hW => by (try dsimp only at hW); go_simp) (by assumption) ?_
          simp only [Act.put, List.getElem_toArray, List.getElem_cons_succ, List.getElem_cons_zero, List.setIfInBounds_toArray, List.set_cons_zero, List.set_cons_succ]
          refine wpAnyH_done (by kernel_rfl) ?_ _
          clear hHeld cx5 cx1 own5 bs5 hB5 own1 bs1 hB1 hr1
          go_wp2
          go_roundw
          case rel => exact ⟨k + 1, by omega, by go_num, bs3, own3, hB3, hge3⟩
          case measure => simp [intOf] <;> omega
        · have ek : k = 8 := by omega
          subst ek
          have tk8 : ¬ ((8 : Nat) : Int) < 8 := by omega
          go_wp2
          go_ret
          exact ⟨_, rfl, by rw [HS.out, ← hHk]; exact own.low hBw, by rw [← hHk]; exact hB⟩
end Go.Proofs.YtbcboldepghgpaaGreatDoor
