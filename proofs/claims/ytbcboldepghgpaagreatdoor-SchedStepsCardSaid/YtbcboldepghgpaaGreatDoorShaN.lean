/-
  The walk of the reference's sum of 64-bit words.
-/
import Derived.Test.YtbcboldepghgpaaGreatDoorShaM
set_option linter.unusedVariables false
set_option linter.unusedSimpArgs false
set_option maxRecDepth 100000
namespace Go.Proofs.YtbcboldepghgpaaGreatDoor
open Go.RowKit
theorem zeroK64 : (Tryz.prog.info? 97).bind (·.zero) = some (.agg (arr64 (List.replicate 80 0))) := by kernel_rfl
theorem sizeK64 : (Tryz.prog.info? 97).map (·.size) = some 80 := by kernel_rfl
theorem size8_64 : (Tryz.prog.info? 68).map (·.size) = some 8 := by kernel_rfl
theorem zero8_64 : (Tryz.prog.info? 68).bind (·.zero) = some (.agg (arr64 (List.replicate 8 0))) := by kernel_rfl
theorem agg8_64 : AggT Tryz.prog 68 8 := ⟨by kernel_rfl, by kernel_rfl⟩
theorem arr64_one (l : List UInt64) : ∀ v ∈ l.map W64, v.oneCell' = true := by
  intro v hv; obtain ⟨x, _, rfl⟩ := List.mem_map.1 hv; rfl
/-- A store of a whole array of words into a block that is one. -/
theorem wpl_store_arr64 {w : World} {o : Oper} {a : Act} {Q : Exit → Act → World → Prop} {ops : Array Oper} {rest : List Oper} (hgd : o.guard = none) (ty : TypeId) (x y : Operand) (ho : o.op = .store ty x y) (g : Nat) (l : List UInt64) (hx : a.eval x = .pointer (some ⟨g, 0, none⟩)) (hy : a.eval y = .agg (arr64 l))
    (t : TypeId) (l0 : List UInt64) (hb : Blk w g t (arr64 l0)) (n : Nat) (hi : (Tryz.prog.info? ty).map (·.size) = some n) (hl : l.length = n) (hn : l0.length = n)
    (h : wpList Tryz.prog ops Q rest (a.put o.dst undef) (w.setRow g (arr64 l))) : wpList Tryz.prog ops Q (o :: rest) a w := by
  refine wpl_store hgd ty x y ho g 0 (l.map W64) hx hy t _ hb (by rw [hi, List.length_map, hl]) (by rw [List.length_map, arr64_size]; omega) (arr64_one l) ?_
  rw [splice_all _ _ (by rw [List.length_map, arr64_size]; omega)]
  exact h
theorem cells64_map (l : List UInt64) {w : World} {g : Nat} {t : TypeId} (h : Blk w g t (arr64 l)) : Cells w ⟨g, 0, none⟩ (l.map W64) := h.cells_at 0 _ (by intro j v hv; rw [Nat.zero_add]; simpa [arr64] using hv)
theorem built8_64 (a b c d e f g h : UInt64) : Tryz.prog.built 68 [(0, W64 a), (1, W64 b), (2, W64 c), (3, W64 d), (4, W64 e), (5, W64 f), (6, W64 g), (7, W64 h)] = some (arr64 [a, b, c, d, e, f, g, h]) := by
  have e' : ∀ parts, Tryz.prog.built 68 parts = Instr.fill (fun i => some (i * 1, 1)) (arr64 (List.replicate 8 0)) parts := fun parts => by kernel_rfl
  rw [e']; simp [Instr.fill, W64, arr64, Value.cells, Array.zipIdx, List.replicate]
theorem turn64_lit (x : UInt64) (n : Nat) (hn : n ≤ 64) (w : World) : Calls Tryz.prog 72 #[.int .u64 ((n64 x : Nat) : Int), .int .i64 (OfNat.ofNat n)] w fun e w' => e = .returned (.int .u64 ((n64 (Sha64.rot x n) : Nat) : Int)) ∧ Below w.heap.size w w' := turn64_any x n hn w

theorem Sha64.pad_set0 (n : Nat) (l : List UInt64) (h : l.length < n) : (Sha64.pad n l).set l.length 0 = Sha64.pad n l := by
  rw [Sha64.pad_set n l 0 h]
  unfold Sha64.pad
  rw [List.length_append, List.append_assoc, show n - l.length = (n - (l.length + 1)) + 1 by omega, List.replicate_succ]
  rfl

theorem builtK64 : Tryz.prog.built 97 [(0, .int .u64 4794697086780616226), (1, .int .u64 8158064640168781261), (2, .int .u64 13096744586834688815), (3, .int .u64 16840607885511220156), (4, .int .u64 4131703408338449720), (5, .int .u64 6480981068601479193), (6, .int .u64 10538285296894168987), (7, .int .u64 12329834152419229976), (8, .int .u64 15566598209576043074), (9, .int .u64 1334009975649890238), (10, .int .u64 2608012711638119052), (11, .int .u64 6128411473006802146), (12, .int .u64 8268148722764581231), (13, .int .u64 9286055187155687089), (14, .int .u64 11230858885718282805), (15, .int .u64 13951009754708518548), (16, .int .u64 16472876342353939154), (17, .int .u64 17275323862435702243), (18, .int .u64 1135362057144423861), (19, .int .u64 2597628984639134821), (20, .int .u64 3308224258029322869), (21, .int .u64 5365058923640841347), (22, .int .u64 6679025012923562964), (23, .int .u64 8573033837759648693), (24, .int .u64 10970295158949994411), (25, .int .u64 12119686244451234320), (26, .int .u64 12683024718118986047), (27, .int .u64 13788192230050041572), (28, .int .u64 14330467153632333762), (29, .int .u64 15395433587784984357), (30, .int .u64 489312712824947311), (31, .int .u64 1452737877330783856), (32, .int .u64 2861767655752347644), (33, .int .u64 3322285676063803686), (34, .int .u64 5560940570517711597), (35, .int .u64 5996557281743188959), (36, .int .u64 7280758554555802590), (37, .int .u64 8532644243296465576), (38, .int .u64 9350256976987008742), (39, .int .u64 10552545826968843579), (40, .int .u64 11727347734174303076), (41, .int .u64 12113106623233404929), (42, .int .u64 14000437183269869457), (43, .int .u64 14369950271660146224), (44, .int .u64 15101387698204529176), (45, .int .u64 15463397548674623760), (46, .int .u64 17586052441742319658), (47, .int .u64 1182934255886127544), (48, .int .u64 1847814050463011016), (49, .int .u64 2177327727835720531), (50, .int .u64 2830643537854262169), (51, .int .u64 3796741975233480872), (52, .int .u64 4115178125766777443), (53, .int .u64 5681478168544905931), (54, .int .u64 6601373596472566643), (55, .int .u64 7507060721942968483), (56, .int .u64 8399075790359081724), (57, .int .u64 8693463985226723168), (58, .int .u64 9568029438360202098), (59, .int .u64 10144078919501101548), (60, .int .u64 10430055236837252648), (61, .int .u64 11840083180663258601), (62, .int .u64 13761210420658862357), (63, .int .u64 14299343276471374635), (64, .int .u64 14566680578165727644), (65, .int .u64 15097957966210449927), (66, .int .u64 16922976911328602910), (67, .int .u64 17689382322260857208), (68, .int .u64 500013540394364858), (69, .int .u64 748580250866718886), (70, .int .u64 1242879168328830382), (71, .int .u64 1977374033974150939), (72, .int .u64 2944078676154940804), (73, .int .u64 3659926193048069267), (74, .int .u64 4368137639120453308), (75, .int .u64 4836135668995329356), (76, .int .u64 5532061633213252278), (77, .int .u64 6448918945643986474), (78, .int .u64 6902733635092675308), (79, .int .u64 7801388544844847127)] = some (arr64 Sha64.K) := by kernel_rfl

set_option maxHeartbeats 8000000 in
set_option maxRecDepth 100000 in
theorem rsum64_any (st0 : List UInt64) (hst0 : st0.length = 8) (A : Option Addr) (n c : Nat) (b : List UInt8) (w : World) (hr : ReadsB w w.heap.size A n b) (hn : n ≤ 140737488354000) :
    Calls Tryz.prog 53 #[.slice A n c, .agg (arr64 st0)] w fun e w' => ∃ v, e = .returned v ∧ OwnB w' w.heap.size v (Sha.out64 (Sha64.feed ((b ++ Sha.endOf 128 b).length / 128) (b ++ Sha.endOf 128 b) st0) 8) ∧ Below w.heap.size w w' := by
  have Hbl := hd hr.len
  have Hst0 := hd hst0
  go_enter Tryz.func53, Tryz.ntmps53
  go_wp2_with (first | (refine wpl_build rfl 97 _ rfl [(0, .int .u64 4794697086780616226), (1, .int .u64 8158064640168781261), (2, .int .u64 13096744586834688815), (3, .int .u64 16840607885511220156), (4, .int .u64 4131703408338449720), (5, .int .u64 6480981068601479193), (6, .int .u64 10538285296894168987), (7, .int .u64 12329834152419229976), (8, .int .u64 15566598209576043074), (9, .int .u64 1334009975649890238), (10, .int .u64 2608012711638119052), (11, .int .u64 6128411473006802146), (12, .int .u64 8268148722764581231), (13, .int .u64 9286055187155687089), (14, .int .u64 11230858885718282805), (15, .int .u64 13951009754708518548), (16, .int .u64 16472876342353939154), (17, .int .u64 17275323862435702243), (18, .int .u64 1135362057144423861), (19, .int .u64 2597628984639134821), (20, .int .u64 3308224258029322869), (21, .int .u64 5365058923640841347), (22, .int .u64 6679025012923562964), (23, .int .u64 8573033837759648693), (24, .int .u64 10970295158949994411), (25, .int .u64 12119686244451234320), (26, .int .u64 12683024718118986047), (27, .int .u64 13788192230050041572), (28, .int .u64 14330467153632333762), (29, .int .u64 15395433587784984357), (30, .int .u64 489312712824947311), (31, .int .u64 1452737877330783856), (32, .int .u64 2861767655752347644), (33, .int .u64 3322285676063803686), (34, .int .u64 5560940570517711597), (35, .int .u64 5996557281743188959), (36, .int .u64 7280758554555802590), (37, .int .u64 8532644243296465576), (38, .int .u64 9350256976987008742), (39, .int .u64 10552545826968843579), (40, .int .u64 11727347734174303076), (41, .int .u64 12113106623233404929), (42, .int .u64 14000437183269869457), (43, .int .u64 14369950271660146224), (44, .int .u64 15101387698204529176), (45, .int .u64 15463397548674623760), (46, .int .u64 17586052441742319658), (47, .int .u64 1182934255886127544), (48, .int .u64 1847814050463011016), (49, .int .u64 2177327727835720531), (50, .int .u64 2830643537854262169), (51, .int .u64 3796741975233480872), (52, .int .u64 4115178125766777443), (53, .int .u64 5681478168544905931), (54, .int .u64 6601373596472566643), (55, .int .u64 7507060721942968483), (56, .int .u64 8399075790359081724), (57, .int .u64 8693463985226723168), (58, .int .u64 9568029438360202098), (59, .int .u64 10144078919501101548), (60, .int .u64 10430055236837252648), (61, .int .u64 11840083180663258601), (62, .int .u64 13761210420658862357), (63, .int .u64 14299343276471374635), (64, .int .u64 14566680578165727644), (65, .int .u64 15097957966210449927), (66, .int .u64 16922976911328602910), (67, .int .u64 17689382322260857208), (68, .int .u64 500013540394364858), (69, .int .u64 748580250866718886), (70, .int .u64 1242879168328830382), (71, .int .u64 1977374033974150939), (72, .int .u64 2944078676154940804), (73, .int .u64 3659926193048069267), (74, .int .u64 4368137639120453308), (75, .int .u64 4836135668995329356), (76, .int .u64 5532061633213252278), (77, .int .u64 6448918945643986474), (78, .int .u64 6902733635092675308), (79, .int .u64 7801388544844847127)] rfl _ builtK64 ?_; refine wpl_name (fun wo => Blk wo w.heap.size 68 (arr64 st0) ∧ Below w.heap.size w wo) ⟨Blk.nu rfl, (Below.refl _ _).alloc (Nat.le_refl _) _⟩ ?_; rintro w1 ⟨bs1, hB1⟩) | (refine wpl_alloc rfl 97 rfl _ zeroK64 ?_) | (refine wpl_store_arr64 rfl 97 _ _ rfl w1.heap.size Sha64.K rfl rfl 97 _ (Blk.nu rfl) 80 sizeK64 rfl rfl ?_; refine wpl_name (fun wo => Blk wo w1.heap.size 97 (arr64 Sha64.K) ∧ Blk wo w.heap.size 68 (arr64 st0) ∧ Below w.heap.size w wo) ⟨(Blk.nu rfl).setRow _, (bs1.alloc _).farRow (Nat.ne_of_lt bs1.lt) _, below_setRow (hB1.alloc hB1.size _) hB1.size _⟩ ?_; rintro w2 ⟨bk2, bs2, hB2⟩; have hr2 : ReadsB w2 w2.heap.size A n b := ⟨hr.len, (hr.is.below hB2).more hB2.size⟩) | (go_at_call 70; refine (padded128_any A n c b _ hr2 hn).mono ?_; rintro e w3 ⟨v3, rfl, own3, hB3⟩))
  have hgs : w.heap.size < w1.heap.size := bs1.lt
  obtain ⟨gs, Hgs⟩ : ∃ g, Hd (w.heap.size = g) := ⟨_, ⟨rfl⟩⟩
  obtain ⟨gk, Hgk⟩ : ∃ g, Hd (w1.heap.size = g) := ⟨_, ⟨rfl⟩⟩
  rw [Hgs.out] at bs2 hgs
  rw [Hgk.out] at bk2 hgs
  rw [Hgs.out, Hgk.out]
  have bk3 := bk2.below hB3 bk2.lt
  have bs3 := bs2.below hB3 bs2.lt
  have hB3' := hB2.trans (hB3.mono hB2.size)
  have Hlen := hd (Sha.endOf_len 128 b)
  obtain ⟨LL, HLL⟩ : ∃ L, Hd (b ++ Sha.endOf 128 b = L) := ⟨_, ⟨rfl⟩⟩
  obtain ⟨M, HM⟩ : ∃ M, Hd (LL.length / 128 = M) := ⟨_, ⟨rfl⟩⟩
  have HLn := hd (show LL.length = 128 * M by
    have h1 := Hlen.out
    have h3 : Sha.padK 128 b.length = (256 - 16 - 1 - b.length % 128) % 128 := rfl
    rw [← HM.out, ← HLL.out, List.length_append, h1, h3]; omega)
  have HM0 := hd (show 0 < M by
    have h1 := Hlen.out
    have h2 : LL.length = b.length + (Sha.endOf 128 b).length := by rw [← HLL.out, List.length_append]
    have h3 := HLn.out
    omega)
  have HMs := hd (show LL.length ≤ 140737488355000 by
    have h1 := Hlen.out
    have h3 : Sha.padK 128 b.length = (256 - 16 - 1 - b.length % 128) % 128 := rfl
    rw [← HLL.out, List.length_append, h1, h3, Hbl.out]; omega)
  rw [HLL.out] at own3
  obtain ⟨gb, cb, e3, hgb1, hgb2, hcb⟩ := own3.form (by rw [HLn.out]; have := HM0.out; omega)
  subst e3
  obtain ⟨m, Hm⟩ : ∃ m, Hd (LL.length = m) := ⟨_, ⟨rfl⟩⟩
  rw [Hm.out] at own3 hcb ⊢
  obtain ⟨iv, Hiv⟩ : ∃ x, Hd (st0 = x) := ⟨_, ⟨rfl⟩⟩
  have Hivl := hd (show iv.length = 8 by rw [← Hiv.out]; exact Hst0.out)
  rw [Hiv.out] at bs3
  have hg2 : gs < w2.heap.size := bs2.lt
  have hBw : w.heap.size ≤ w2.heap.size := hB2.size
  have hHk : w.heap.size = gs := Hgs.out
  clear bs1 hB1 bk2 bs2 hB2 hB3 hr2 hgb1 hgb2 hcb hr
  go_loopw [6] (fun i wr => ∃ j F : Nat, Hd (128 * j = F) ∧ j ≤ M ∧ i = .int .i64 (F : Int) ∧ Blk wr gk 97 (arr64 Sha64.K) ∧ Blk wr gs 68 (arr64 (Sha64.feed j LL iv)) ∧ OwnB wr w2.heap.size (.slice (some ⟨gb, 0, none⟩) m cb) LL ∧ Below w.heap.size w wr) (fun i _ => m - (intOf i).toNat)
  case atStart => exact ⟨0, 0, hd rfl, by omega, rfl, bk3, bs3, own3, hB3'⟩
  case round =>
    clear bk3 bs3 own3 hB3'
    obtain ⟨j, F, HF, hj, rfl, bk, bs, own, hB⟩ := hrel
    by_cases hlt : j < M
    · have hFm : F + 128 ≤ m := by have := HF.out; have := Hm.out; have := HLn.out; omega
      have hms : m ≤ 140737488355000 := by rw [← Hm.out]; exact HMs.out
      have t1 : (F : Int) < (m : Int) := by omega
      obtain ⟨st, Hst⟩ : ∃ s, Hd (Sha64.feed j LL iv = s) := ⟨_, ⟨rfl⟩⟩
      rw [Hst.out] at bs
      have Hstl := hd (show st.length = 8 by rw [← Hst.out, Sha64.feed_len, Hivl.out])
      obtain ⟨z, Hz⟩ : ∃ z, Hd (wr.heap.size = z) := ⟨_, ⟨rfl⟩⟩
      have hkz : gk < z := by rw [← Hz.out]; exact bk.lt
      have hsz : gs < z := by rw [← Hz.out]; exact bs.lt
      have hbz : gb < z := by rw [← Hz.out]; exact (own.own.lt gb rfl).2
      have bk1 := bk.alloc (.cells (arr64 (List.replicate 80 0)) 97)
      have bs1 := bs.alloc (.cells (arr64 (List.replicate 80 0)) 97)
      have bz1 : Blk (wr.alloc (.cells (arr64 (List.replicate 80 0)) 97)) z 97 (arr64 (List.replicate 80 0)) := Blk.nu Hz.out.symm
      have own1 := own.alloc (.cells (arr64 (List.replicate 80 0)) 97)
      have hB1 := hB.alloc hB.size (.cells (arr64 (List.replicate 80 0)) 97)
      have hBz : w.heap.size ≤ z := by rw [← Hz.out]; exact hB.size
      clear bk bs own hB
      obtain ⟨B, HBk⟩ : ∃ B, Hd ((LL.drop F).take 128 = B) := ⟨_, ⟨rfl⟩⟩
      go_wp2_with (first | (refine wpl_alloc rfl 97 rfl _ zeroK64 ?_; rw [Hz.out]))
      go_loopw [8] (fun i wr => ∃ k : Nat, k ≤ 16 ∧ i = .int .i64 (k : Int) ∧ Blk wr gk 97 (arr64 Sha64.K) ∧ Blk wr gs 68 (arr64 st) ∧ Blk wr z 97 (arr64 (Sha64.pad 80 (Sha64.wordsTo B k))) ∧ OwnB wr w2.heap.size (.slice (some ⟨gb, 0, none⟩) m cb) LL ∧ Below w.heap.size w wr) (fun i _ => 16 - (intOf i).toNat)
      case atStart => exact ⟨0, by omega, rfl, bk1, bs1, bz1, own1, hB1⟩
      case round =>
        clear bk1 bs1 bz1 own1 hB1
        obtain ⟨k, hk, rfl, bk, bs, bz, own, hB⟩ := hrel
        obtain ⟨ws, Hws⟩ : ∃ x, Hd (Sha64.wordsTo B k = x) := ⟨_, ⟨rfl⟩⟩
        rw [Hws.out] at bz
        have Hwl := hd (show ws.length = k by rw [← Hws.out, Sha64.wordsTo_len])
        by_cases hlk : k < 16
        · obtain ⟨bb, Hbb⟩ : ∃ x, Hd (B.drop (8 * k) = x) := ⟨_, ⟨rfl⟩⟩
          obtain ⟨p0, Hp0⟩ : ∃ p, Hd (F + 8 * k = p) := ⟨_, ⟨rfl⟩⟩
          have tk : (k : Int) < 16 := by omega
          have bz0 : Blk wr z 97 (arr64 ((Sha64.pad 80 ws).set k (Sha64.wordTo bb 0))) := by
            have h := Sha64.pad_set0 80 ws (by rw [Hwl.out]; omega)
            rw [Hwl.out] at h
            rw [Sha64.wordTo, iter, h]; exact bz
          go_wp2
          go_loopw [9] (fun i wr => ∃ r : Nat, r ≤ 8 ∧ i = .int .i64 (r : Int) ∧ Blk wr gk 97 (arr64 Sha64.K) ∧ Blk wr gs 68 (arr64 st) ∧ Blk wr z 97 (arr64 ((Sha64.pad 80 ws).set k (Sha64.wordTo bb r))) ∧ OwnB wr w2.heap.size (.slice (some ⟨gb, 0, none⟩) m cb) LL ∧ Below w.heap.size w wr) (fun i _ => 8 - (intOf i).toNat)
          case atStart => exact ⟨0, by omega, rfl, bk, bs, bz0, own, hB⟩
          case round =>
            clear bk bs bz bz0 own hB
            obtain ⟨r, hr8, rfl, bk, bs, bz, own, hB⟩ := hrel
            have Hpl := hd (show ((Sha64.pad 80 ws).set k (Sha64.wordTo bb r)).length = 80 by rw [List.length_set, Sha64.pad_len _ _ (by rw [Hwl.out]; omega)])
            by_cases hlr : r < 8
            · obtain ⟨p, Hp⟩ : ∃ p, Hd (p0 + r = p) := ⟨_, ⟨rfl⟩⟩
              have hpm : p < m := by have := Hp.out; have := Hp0.out; omega
              have tr : (r : Int) < 8 := by omega
              obtain ⟨x, Hx⟩ : ∃ x, Hd (Sha64.wordTo bb r = x) := ⟨_, ⟨rfl⟩⟩
              have hat : Sha64.at_ ((Sha64.pad 80 ws).set k (Sha64.wordTo bb r)) k = x := by
                unfold Sha64.at_
                rw [List.getD_eq_getElem?_getD, List.getElem?_set_self (by rw [Sha64.pad_len _ _ (by rw [Hwl.out]; omega)]; omega), Hx.out]; rfl
              have cz : wr.cell? ⟨z, k, none⟩ = some (.int .u64 ((n64 x : Nat) : Int)) := by rw [← hat]; exact (bz.cell k).trans (arr64_get _ k (by rw [Hpl.out]; omega))
              have own' := own
              rw [← Hm.out] at own'
              obtain ⟨y, Hy⟩ : ∃ x, Hd (nth LL p = x) := ⟨_, ⟨rfl⟩⟩
              have cb' := own'.cell p (by rw [Hm.out]; omega)
              rw [Hy.out] at cb'
              clear own' hat
              have v0 : IntKind.i64.wrap (8 * (k : Int)) = 8 * (k : Int) := IntWalk.i64_in _ (by omega)
              have e0 : (F : Int) + 8 * (k : Int) = (p0 : Int) := by have := Hp0.out; omega
              have v1 : IntKind.i64.wrap (p0 : Int) = (p0 : Int) := IntWalk.i64_in _ (by have := Hp.out; omega)
              have e1 : (p0 : Int) + (r : Int) = (p : Int) := by have := Hp.out; omega
              have v2 : IntKind.i64.wrap (p : Int) = (p : Int) := IntWalk.i64_in _ (by omega)
              have u0 : (p : Int) < (m : Int) := by omega
              have tk80 : (k : Int) < 80 := by omega
              go_wp2
              have dz := Calm.cell cz
              have db := Calm.cell cb'
              clear cz cb'
              refine region_calm_tail (After wr) 17 (by kernel_rfl) (by kernel_rfl) after_drew ?_
              intro _
              simp only [List.take_succ_cons, List.take_zero, List.drop_succ_cons, List.drop_zero]
              repeat (go_big_quiet_step (fail))
              refine wpQuiet_nil ?_
              rintro ⟨w5, h5⟩
              dsimp only
              clear dz db v0 e0 v1 e1 v2 u0
              have bk5 := bk.below h5 bk.lt
              have bs5 := bs.below h5 bs.lt
              have bz5 := bz.below h5 bz.lt
              have own5 := own.later h5
              have hB5 := hB.trans (h5.mono hB.size)
              clear bk bs bz own hB h5
              have fz := bz5.frozen k
              have cz := (bz5.cell k).trans (arr64_get _ k (by rw [Hpl.out]; omega))
              have bz6 := bz5.set_ k (W64 (x <<< 8 ||| y.toUInt64))
              have Hnx := hd (show x <<< 8 ||| y.toUInt64 = Sha64.wordTo bb (r + 1) by
                have hn : nth bb r = y := by
                  rw [← Hbb.out, Sha64.nth_from, ← HBk.out, Sha64.nth_block _ _ _ (by omega), ← Hy.out, ← Hp.out, ← Hp0.out, Nat.add_assoc]
                rw [← Hx.out, ← hn]; rfl)
              rw [arr64_set, List.set_set, Hnx.out] at bz6
              rw [Hnx.out]
              go_wp2
              go_roundw
              case rel => exact ⟨r + 1, by omega, by go_num, bk5.far (by show gk ≠ z; omega) _, bs5.far (by show gs ≠ z; omega) _, bz6, own5.far (by show some gb ≠ some z; intro e; injection e; omega) _, hB5.setCell (p := ⟨z, k, none⟩) hBz _⟩
              case measure => simp [intOf]; omega
            · have er : r = 8 := by omega
              subst er
              have tr : ¬ ((8 : Nat) : Int) < 8 := by omega
              have Hall := hd (show (Sha64.pad 80 ws).set k (Sha64.wordTo bb 8) = Sha64.pad 80 (Sha64.wordsTo B (k + 1)) by
                have h := Sha64.pad_set 80 ws (Sha64.wordTo bb 8) (by rw [Hwl.out]; omega)
                rw [Hwl.out] at h
                rw [h, Sha64.wordsTo, Hws.out, Hbb.out])
              rw [Hall.out] at bz
              clear hlr hr8
              go_wp2
              go_roundw
              case rel => exact ⟨k + 1, by omega, by go_num, bk, bs, bz, own, hB⟩
              case measure => simp [intOf]; omega
        · have ek : k = 16 := by omega
          subst ek
          have tk : ¬ ((16 : Nat) : Int) < 16 := by omega
          have HW := hd (show ws = Sha64.words B from Hws.out.symm)
          clear hlk hk
          go_wp2
          go_loopw [10] (fun i wr => ∃ k q : Nat, Hd (16 + k = q) ∧ k ≤ 64 ∧ i = .int .i64 (q : Int) ∧ Blk wr gk 97 (arr64 Sha64.K) ∧ Blk wr gs 68 (arr64 st) ∧ Blk wr z 97 (arr64 (Sha64.pad 80 (iter Sha64.more k ws))) ∧ OwnB wr w2.heap.size (.slice (some ⟨gb, 0, none⟩) m cb) LL ∧ Below w.heap.size w wr) (fun i _ => 80 - (intOf i).toNat)
          case atStart => exact ⟨0, 16, hd rfl, by omega, rfl, bk, bs, bz, own, hB⟩
          case round =>
            clear bk bs bz own hB
            obtain ⟨k, q, Hq, hk, rfl, bk, bs, bz, own, hB⟩ := hrel
            obtain ⟨l, Hl⟩ : ∃ x, Hd (iter Sha64.more k ws = x) := ⟨_, ⟨rfl⟩⟩
            rw [Hl.out] at bz
            have Hll := hd (show l.length = q by rw [← Hl.out, Sha64.more_len, Hwl.out, Hq.out])
            by_cases hlk : k < 64
            · have hq1 : 16 ≤ q := by have := Hq.out; omega
              have hq2 : q < 80 := by have := Hq.out; omega
              have Hpl := hd (Sha64.pad_len 80 l (by rw [Hll.out]; omega))
              obtain ⟨m15, Hm15⟩ : ∃ x, Hd (q - 15 = x) := ⟨_, ⟨rfl⟩⟩
              obtain ⟨m2, Hm2⟩ : ∃ x, Hd (q - 2 = x) := ⟨_, ⟨rfl⟩⟩
              obtain ⟨m7, Hm7⟩ : ∃ x, Hd (q - 7 = x) := ⟨_, ⟨rfl⟩⟩
              obtain ⟨m16, Hm16⟩ : ∃ x, Hd (q - 16 = x) := ⟨_, ⟨rfl⟩⟩
              have cell : ∀ i, i < q → wr.cell? ⟨z, i, none⟩ = some (.int .u64 ((n64 (Sha64.at_ l i) : Nat) : Int)) := fun i hi => by
                rw [← Sha64.pad_at 80 l i (by rw [Hll.out]; exact hi)]
                exact (bz.cell i).trans (arr64_get _ i (by rw [Hpl.out]; omega))
              have c15 := cell m15 (by have := Hm15.out; omega)
              have c2 := cell m2 (by have := Hm2.out; omega)
              have c7 := cell m7 (by have := Hm7.out; omega)
              have c16 := cell m16 (by have := Hm16.out; omega)
              clear cell
              obtain ⟨x, Hx⟩ : ∃ x, Hd (Sha64.at_ l m15 = x) := ⟨_, ⟨rfl⟩⟩
              obtain ⟨y, Hy⟩ : ∃ x, Hd (Sha64.at_ l m2 = x) := ⟨_, ⟨rfl⟩⟩
              obtain ⟨x7, Hx7⟩ : ∃ x, Hd (Sha64.at_ l m7 = x) := ⟨_, ⟨rfl⟩⟩
              obtain ⟨x16, Hx16⟩ : ∃ x, Hd (Sha64.at_ l m16 = x) := ⟨_, ⟨rfl⟩⟩
              rw [Hx.out] at c15
              rw [Hy.out] at c2
              rw [Hx7.out] at c7
              rw [Hx16.out] at c16
              have Hnx := hd (show Sha64.next l = (Sha64.rot y 19 ^^^ Sha64.rot y 61 ^^^ y >>> 6) + x7 + (Sha64.rot x 1 ^^^ Sha64.rot x 8 ^^^ x >>> 7) + x16 by
                have h := Sha64.next_is l x y (by rw [Hll.out, Hm15.out, Hx.out]) (by rw [Hll.out, Hm2.out, Hy.out])
                rw [h, Hll.out, Hm7.out, Hm16.out, Hx7.out, Hx16.out])
              have e15 : (q : Int) - 15 = (m15 : Int) := by have := Hm15.out; omega
              have e2 : (q : Int) - 2 = (m2 : Int) := by have := Hm2.out; omega
              have e7 : (q : Int) - 7 = (m7 : Int) := by have := Hm7.out; omega
              have e16 : (q : Int) - 16 = (m16 : Int) := by have := Hm16.out; omega
              have v15 : IntKind.i64.wrap (m15 : Int) = (m15 : Int) := IntWalk.i64_in _ (by omega)
              have v2 : IntKind.i64.wrap (m2 : Int) = (m2 : Int) := IntWalk.i64_in _ (by omega)
              have v7 : IntKind.i64.wrap (m7 : Int) = (m7 : Int) := IntWalk.i64_in _ (by omega)
              have v16 : IntKind.i64.wrap (m16 : Int) = (m16 : Int) := IntWalk.i64_in _ (by omega)
              have b15 : (m15 : Int) < 80 := by omega
              have b2 : (m2 : Int) < 80 := by omega
              have b7 : (m7 : Int) < 80 := by omega
              have b16 : (m16 : Int) < 80 := by omega
              have bq : (q : Int) < 80 := by omega
              go_wp2
              have d7 := Calm.cell c7
              have d16 := Calm.cell c16
              clear c7 c16 c15 c2
              refine region_calm_tail (After wr) 29 (by kernel_rfl) (by kernel_rfl) after_drew ?_
              intro _
              simp only [List.take_succ_cons, List.take_zero, List.drop_succ_cons, List.drop_zero]
              repeat (go_big_quiet_step ((go_at_call 72; exact Calm.after (turn64_lit _ _ (by decide) _))))
              refine wpQuiet_nil ?_
              rintro ⟨w5, h5⟩
              dsimp only
              clear d7 d16 e15 e2 e7 e16 v15 v2 v7 v16 b15 b2 b7 b16
              rw [← Hnx.out]
              have bk5 := bk.below h5 bk.lt
              have bs5 := bs.below h5 bs.lt
              have bz5 := bz.below h5 bz.lt
              have own5 := own.later h5
              have hB5 := hB.trans (h5.mono hB.size)
              clear bk bs bz own hB
              clear h5
              have fz := bz5.frozen q
              have cz := (bz5.cell q).trans (arr64_get _ q (by rw [Hpl.out]; omega))
              have Hxx := hd (show Sha64.pad 80 (iter Sha64.more (k + 1) ws) = (Sha64.pad 80 l).set q (Sha64.next l) by
                have h := Sha64.pad_set 80 l (Sha64.next l) (by rw [Hll.out]; omega)
                rw [Hll.out] at h
                rw [h, iter, Hl.out, Sha64.more])
              have bz6 := bz5.set_ q (W64 (Sha64.next l))
              rw [arr64_set, ← Hxx.out] at bz6
              go_wp2
              go_roundw
              case rel => exact ⟨k + 1, q + 1, hd (by have := Hq.out; omega), by omega, by go_num, bk5.far (by show gk ≠ z; omega) _, bs5.far (by show gs ≠ z; omega) _, bz6, own5.far (by show some gb ≠ some z; intro e; injection e; omega) _, hB5.setCell (p := ⟨z, q, none⟩) hBz _⟩
              case measure => simp [intOf]; omega
            · have ek : k = 64 := by omega
              subst ek
              have hq : q = 80 := by rw [← Hq.out]
              subst hq
              have tk : ¬ ((80 : Nat) : Int) < 80 := by omega
              have Hpad := hd (show Sha64.pad 80 l = l by have h := Sha64.pad_full l; rw [Hll.out] at h; exact h)
              rw [Hpad.out] at bz
              have hbz' := bz
              have hcs : Cells wr ⟨gs, 0, none⟩ (st.map W64) := cells64_map st bs
              obtain ⟨zv, Hzv⟩ : ∃ z, Hd (wr.heap.size = z) := ⟨_, ⟨rfl⟩⟩
              have hkv : gk < zv := by rw [← Hzv.out]; exact bk.lt
              have hsv : gs < zv := by rw [← Hzv.out]; exact bs.lt
              have hbv : gb < zv := by rw [← Hzv.out]; exact (own.own.lt gb rfl).2
              have hzv : z < zv := by rw [← Hzv.out]; exact bz.lt
              have hBv : w.heap.size ≤ zv := by omega
              go_wp2_with (first | (refine wpl_load rfl 68 _ rfl ⟨gs, 0, none⟩ rfl 8 agg8_64 (st.map W64) (by rw [List.length_map, Hstl.out]) hcs ?_) | (refine wpl_alloc rfl 68 rfl _ zero8_64 ?_; rw [Hzv.out]) | (refine wpl_store_arr64 rfl 68 _ _ rfl zv st rfl rfl 68 _ (Blk.nu Hzv.out.symm) 8 size8_64 Hstl.out rfl ?_; refine wpl_name (fun wo => Blk wo gk 97 (arr64 Sha64.K) ∧ Blk wo gs 68 (arr64 st) ∧ Blk wo z 97 (arr64 l) ∧ Blk wo zv 68 (arr64 st) ∧ OwnB wo w2.heap.size (.slice (some ⟨gb, 0, none⟩) m cb) LL ∧ Below w.heap.size w wo) ⟨(bk.alloc _).farRow (by omega) _, (bs.alloc _).farRow (by omega) _, (bz.alloc _).farRow (by omega) _, (Blk.nu Hzv.out.symm).setRow _, (own.alloc _).moved (grew_setRow (World.grownBy.refl _ _) _) (by show some gb ≠ some zv; intro e; injection e; omega), below_setRow (hB.alloc hB.size _) hBv _⟩ ?_; rintro w4 ⟨bk4, bs4, bz4, bv4, own4, hB4⟩))
              clear bk bs bz own hB hcs hbz'
              clear hlk hk
              go_loopw [14] (fun i wr => ∃ (k : Nat) (V : Sha64.V), k ≤ 80 ∧ i = .int .i64 (k : Int) ∧ iter (Sha64.round l) k (Sha64.toV st) = V ∧ Blk wr gk 97 (arr64 Sha64.K) ∧ Blk wr gs 68 (arr64 st) ∧ Blk wr z 97 (arr64 l) ∧ Blk wr zv 68 (arr64 (Sha64.ofV V)) ∧ OwnB wr w2.heap.size (.slice (some ⟨gb, 0, none⟩) m cb) LL ∧ Below w.heap.size w wr) (fun i _ => 80 - (intOf i).toNat)
              case atStart => exact ⟨0, _, by omega, rfl, rfl, bk4, bs4, bz4, by rw [iter, Sha64.ofV_toV _ Hstl.out]; exact bv4, own4, hB4⟩
              case round =>
                clear bk4 bs4 bz4 bv4 own4 hB4
                obtain ⟨k, V, hk, rfl, hV, bk, bs, bz, bv, own, hB⟩ := hrel
                have HV := hd hV
                clear hV
                by_cases hlk : k < 80
                · have tk : (k : Int) < 80 := by omega
                  obtain ⟨a, b2, c2, d, ee, ff, q, h⟩ := V
                  have c0 : wr.cell? ⟨zv, 0, none⟩ = some (.int .u64 ((n64 a : Nat) : Int)) := bv.cell 0
                  have c1 : wr.cell? ⟨zv, 1, none⟩ = some (.int .u64 ((n64 b2 : Nat) : Int)) := bv.cell 1
                  have c2' : wr.cell? ⟨zv, 2, none⟩ = some (.int .u64 ((n64 c2 : Nat) : Int)) := bv.cell 2
                  have c3 : wr.cell? ⟨zv, 3, none⟩ = some (.int .u64 ((n64 d : Nat) : Int)) := bv.cell 3
                  have c4 : wr.cell? ⟨zv, 4, none⟩ = some (.int .u64 ((n64 ee : Nat) : Int)) := bv.cell 4
                  have c5 : wr.cell? ⟨zv, 5, none⟩ = some (.int .u64 ((n64 ff : Nat) : Int)) := bv.cell 5
                  have c6 : wr.cell? ⟨zv, 6, none⟩ = some (.int .u64 ((n64 q : Nat) : Int)) := bv.cell 6
                  have c7 : wr.cell? ⟨zv, 7, none⟩ = some (.int .u64 ((n64 h : Nat) : Int)) := bv.cell 7
                  obtain ⟨kk, Hkk⟩ : ∃ x, Hd (Sha64.at_ Sha64.K k = x) := ⟨_, ⟨rfl⟩⟩
                  obtain ⟨wk, Hwk⟩ : ∃ x, Hd (Sha64.at_ l k = x) := ⟨_, ⟨rfl⟩⟩
                  have ck : wr.cell? ⟨gk, k, none⟩ = some (.int .u64 ((n64 kk : Nat) : Int)) := by rw [← Hkk.out]; exact (bk.cell k).trans (arr64_get _ k (by rw [Sha64.K_len]; omega))
                  have cw : wr.cell? ⟨z, k, none⟩ = some (.int .u64 ((n64 wk : Nat) : Int)) := by rw [← Hwk.out]; exact (bz.cell k).trans (arr64_get _ k (by rw [Hll.out]; omega))
                  obtain ⟨X, HX⟩ : ∃ x, Hd (Sha64.xOf kk wk ⟨a, b2, c2, d, ee, ff, q, h⟩ = x) := ⟨_, ⟨rfl⟩⟩
                  have HXe := hd (show h + (Sha64.rot ee 14 ^^^ Sha64.rot ee 18 ^^^ Sha64.rot ee 41) + (ee &&& ff ^^^ ~~~ee &&& q) + kk + wk = X by rw [← HX.out, Sha64.x_is])
                  obtain ⟨Y, HY⟩ : ∃ x, Hd (Sha64.yOf ⟨a, b2, c2, d, ee, ff, q, h⟩ = x) := ⟨_, ⟨rfl⟩⟩
                  have HYe := hd (show (Sha64.rot a 28 ^^^ Sha64.rot a 34 ^^^ Sha64.rot a 39) + (a &&& b2 ^^^ a &&& c2 ^^^ b2 &&& c2) = Y by rw [← HY.out, Sha64.y_is])
                  go_wp2
                  have d5 := Calm.cell c5
                  have d6 := Calm.cell c6
                  have d7 := Calm.cell c7
                  have dk := Calm.cell ck
                  have dw := Calm.cell cw
                  clear c0 c1 c2' c3 c4 c5 c6 c7 ck cw
                  refine region_calm (After wr) (by kernel_rfl) (by kernel_rfl) after_drew ?_
                  intro _
                  repeat (go_big_quiet_step ((go_at_call 72; exact Calm.after (turn64_lit _ _ (by decide) _))))
                  refine wpQuiet_nil ?_
                  rintro ⟨w5, h5⟩
                  dsimp only
                  clear d5 d6 d7 dk dw
                  rw [HXe.out]
                  have bk5 := bk.below h5 bk.lt
                  have bs5 := bs.below h5 bs.lt
                  have bz5 := bz.below h5 bz.lt
                  have own5 := own.later h5
                  have hB5 := hB.trans (h5.mono hB.size)
                  have bv5 := bv.below h5 bv.lt
                  clear bk bs bz own hB bv
                  clear h5
                  have c1 : w5.cell? ⟨zv, 1, none⟩ = some (.int .u64 ((n64 b2 : Nat) : Int)) := bv5.cell 1
                  have c2' : w5.cell? ⟨zv, 2, none⟩ = some (.int .u64 ((n64 c2 : Nat) : Int)) := bv5.cell 2
                  go_wp2
                  have d1 := Calm.cell c1
                  have d2 := Calm.cell c2'
                  clear c1 c2'
                  refine region_calm (After w5) (by kernel_rfl) (by kernel_rfl) after_drew ?_
                  intro _
                  repeat (go_big_quiet_step ((go_at_call 72; exact Calm.after (turn64_lit _ _ (by decide) _))))
                  refine wpQuiet_nil ?_
                  rintro ⟨w6, h6⟩
                  dsimp only
                  clear d1 d2
                  rw [HYe.out]
                  have bk6 := bk5.below h6 bk5.lt
                  have bs6 := bs5.below h6 bs5.lt
                  have bz6 := bz5.below h6 bz5.lt
                  have own6 := own5.later h6
                  have hB6 := hB5.trans (h6.mono hB5.size)
                  have bv6 := bv5.below h6 bv5.lt
                  clear bk5 bs5 bz5 own5 hB5 bv5
                  clear h6
                  have c1 : w6.cell? ⟨zv, 1, none⟩ = some (.int .u64 ((n64 b2 : Nat) : Int)) := bv6.cell 1
                  have c2' : w6.cell? ⟨zv, 2, none⟩ = some (.int .u64 ((n64 c2 : Nat) : Int)) := bv6.cell 2
                  have c3 : w6.cell? ⟨zv, 3, none⟩ = some (.int .u64 ((n64 d : Nat) : Int)) := bv6.cell 3
                  have c5 : w6.cell? ⟨zv, 5, none⟩ = some (.int .u64 ((n64 ff : Nat) : Int)) := bv6.cell 5
                  have c6 : w6.cell? ⟨zv, 6, none⟩ = some (.int .u64 ((n64 q : Nat) : Int)) := bv6.cell 6
                  have hb8 : Tryz.prog.built 68 [(0, .int .u64 ((n64 (X + Y) : Nat) : Int)), (1, .int .u64 ((n64 a : Nat) : Int)), (2, .int .u64 ((n64 b2 : Nat) : Int)), (3, .int .u64 ((n64 c2 : Nat) : Int)), (4, .int .u64 ((n64 (d + X) : Nat) : Int)), (5, .int .u64 ((n64 ee : Nat) : Int)), (6, .int .u64 ((n64 ff : Nat) : Int)), (7, .int .u64 ((n64 q : Nat) : Int))] = some (arr64 [X + Y, a, b2, c2, d + X, ee, ff, q]) := built8_64 (X + Y) a b2 c2 (d + X) ee ff q
                  have Hrd := hd (show iter (Sha64.round l) (k + 1) (Sha64.toV st) = ⟨X + Y, a, b2, c2, d + X, ee, ff, q⟩ by rw [iter, HV.out, Sha64.round, Hkk.out, Hwk.out, HX.out, HY.out])
                  go_wp2_with (first | (refine wpl_build rfl 68 _ rfl [(0, .int .u64 ((n64 (X + Y) : Nat) : Int)), (1, .int .u64 ((n64 a : Nat) : Int)), (2, .int .u64 ((n64 b2 : Nat) : Int)), (3, .int .u64 ((n64 c2 : Nat) : Int)), (4, .int .u64 ((n64 (d + X) : Nat) : Int)), (5, .int .u64 ((n64 ee : Nat) : Int)), (6, .int .u64 ((n64 ff : Nat) : Int)), (7, .int .u64 ((n64 q : Nat) : Int))] rfl _ hb8 ?_) | (refine wpl_store_arr64 rfl 68 _ _ rfl zv [X + Y, a, b2, c2, d + X, ee, ff, q] rfl rfl 68 _ bv6 8 size8_64 rfl rfl ?_; refine wpl_name (fun wo => Blk wo gk 97 (arr64 Sha64.K) ∧ Blk wo gs 68 (arr64 st) ∧ Blk wo z 97 (arr64 l) ∧ Blk wo zv 68 (arr64 [X + Y, a, b2, c2, d + X, ee, ff, q]) ∧ OwnB wo w2.heap.size (.slice (some ⟨gb, 0, none⟩) m cb) LL ∧ Below w.heap.size w wo) ⟨bk6.farRow (by omega) _, bs6.farRow (by omega) _, bz6.farRow (by omega) _, bv6.setRow _, own6.moved (grew_setRow (World.grownBy.refl _ _) _) (by show some gb ≠ some zv; intro e; injection e; omega), below_setRow hB6 hBv _⟩ ?_; clear bk6 bs6 bz6 bv6 own6 hB6 c1 c2' c3 c5 c6; rintro w7 ⟨bk7, bs7, bz7, bv7, own7, hB7⟩))
                  go_roundw
                  case rel => exact ⟨k + 1, _, by omega, by go_num, Hrd.out, bk7, bs7, bz7, bv7, own7, hB7⟩
                  case measure => simp [intOf]; omega
                · have ek : k = 80 := by omega
                  subst ek
                  have tk : ¬ ((80 : Nat) : Int) < 80 := by omega
                  obtain ⟨u, Hu⟩ : ∃ u, Hd (Sha64.ofV V = u) := ⟨_, ⟨rfl⟩⟩
                  rw [Hu.out] at bv
                  have Hul := hd (show u.length = 8 by rw [← Hu.out]; rfl)
                  have hgbs : gs < gb := by have := (own.own.lt gb rfl).1; omega
                  have hBs : w.heap.size ≤ gs := by omega
                  clear hlk hk
                  go_wp2
                  go_loopw [19] (fun i wr => ∃ k : Nat, k ≤ 8 ∧ i = .int .i64 (k : Int) ∧ Blk wr gk 97 (arr64 Sha64.K) ∧ Blk wr gs 68 (arr64 (iter (Sha64.add8 u) k st)) ∧ Blk wr zv 68 (arr64 u) ∧ OwnB wr w2.heap.size (.slice (some ⟨gb, 0, none⟩) m cb) LL ∧ Below w.heap.size w wr) (fun i _ => 8 - (intOf i).toNat)
                  case atStart => exact ⟨0, by omega, rfl, bk, bs, bv, own, hB⟩
                  case round =>
                    clear bk bs bz bv own hB
                    obtain ⟨k, hk, rfl, bk, bs, bv, own, hB⟩ := hrel
                    obtain ⟨s, Hs⟩ : ∃ x, Hd (iter (Sha64.add8 u) k st = x) := ⟨_, ⟨rfl⟩⟩
                    rw [Hs.out] at bs
                    have Hsl := hd (show s.length = 8 by rw [← Hs.out, Sha64.add8_len, Hstl.out])
                    by_cases hlk : k < 8
                    · have tk8 : (k : Int) < 8 := by omega
                      obtain ⟨x, Hx⟩ : ∃ x, Hd (Sha64.at_ s k = x) := ⟨_, ⟨rfl⟩⟩
                      obtain ⟨y, Hy⟩ : ∃ x, Hd (Sha64.at_ u k = x) := ⟨_, ⟨rfl⟩⟩
                      have cx : wr.cell? ⟨gs, k, none⟩ = some (.int .u64 ((n64 x : Nat) : Int)) := by rw [← Hx.out]; exact (bs.cell k).trans (arr64_get _ k (by rw [Hsl.out]; omega))
                      have cy : wr.cell? ⟨zv, k, none⟩ = some (.int .u64 ((n64 y : Nat) : Int)) := by rw [← Hy.out]; exact (bv.cell k).trans (arr64_get _ k (by rw [Hul.out]; omega))
                      go_wp2
                      have dx := Calm.cell cx
                      have dy := Calm.cell cy
                      clear cx cy
                      refine region_calm_tail (After wr) 9 (by kernel_rfl) (by kernel_rfl) after_drew ?_
                      intro _
                      simp only [List.take_succ_cons, List.take_zero, List.drop_succ_cons, List.drop_zero]
                      repeat (go_big_quiet_step (fail))
                      refine wpQuiet_nil ?_
                      rintro ⟨w5, h5⟩
                      dsimp only
                      clear dx dy
                      have bk5 := bk.below h5 bk.lt
                      have bs5 := bs.below h5 bs.lt
                      have bv5 := bv.below h5 bv.lt
                      have own5 := own.later h5
                      have hB5 := hB.trans (h5.mono hB.size)
                      clear bk bs bv own hB h5
                      have fz := bs5.frozen k
                      have cz := (bs5.cell k).trans (arr64_get _ k (by rw [Hsl.out]; omega))
                      have Hxx := hd (show iter (Sha64.add8 u) (k + 1) st = s.set k (x + y) by rw [iter, Hs.out, Sha64.add8, Hx.out, Hy.out])
                      have bs6 := bs5.set_ k (W64 (x + y))
                      rw [arr64_set, ← Hxx.out] at bs6
                      go_wp2
                      go_roundw
                      case rel => exact ⟨k + 1, by omega, by go_num, bk5.far (by show gk ≠ gs; omega) _, bs6, bv5.far (by show zv ≠ gs; omega) _, own5.far (by show some gb ≠ some gs; intro e; injection e; omega) _, hB5.setCell (p := ⟨gs, k, none⟩) hBs _⟩
                      case measure => simp [intOf]; omega
                    · have ek : k = 8 := by omega
                      subst ek
                      have tk8 : ¬ ((8 : Nat) : Int) < 8 := by omega
                      have Hfd := hd (show Sha64.feed (j + 1) LL iv = s by rw [Sha64.feed_snoc, Hst.out, HF.out, HBk.out, ← HW.out, Sha64.block_is, Hl.out, HV.out, Hu.out, Hs.out])
                      clear hlk hk
                      go_wp2
                      go_roundw
                      case rel => exact ⟨j + 1, F + 128, hd (by have := HF.out; omega), by omega, by go_num, bk, by rw [Hfd.out]; exact bs, own, hB⟩
                      case measure => simp [intOf]; omega
    · have ej : j = M := by omega
      have eF : F = m := by have := HF.out; have := Hm.out; have := HLn.out; omega
      have t1 : ¬ (F : Int) < (m : Int) := by omega
      obtain ⟨st, Hst⟩ : ∃ s, Hd (Sha64.feed j LL iv = s) := ⟨_, ⟨rfl⟩⟩
      rw [Hst.out] at bs
      have Hstl := hd (show st.length = 8 by rw [← Hst.out, Sha64.feed_len, Hivl.out])
      have HS := hd (show Sha.out64 (Sha64.feed ((b.length + (Sha.endOf 128 b).length) / 128) (b ++ Sha.endOf 128 b) st0) 8 = Sha.out64 st 8 by
        rw [← List.length_append, HLL.out, HM.out, Hiv.out, ← ej, Hst.out])
      have hge : w2.heap.size ≤ wr.heap.size := Nat.le_of_lt (Nat.lt_of_le_of_lt (own.own.lt gb rfl).1 (own.own.lt gb rfl).2)
      clear bk own ej eF hlt hj
      go_wp2
      go_loopw [20, 21, 22] (fun v i _ wr => ∃ k : Nat, k ≤ 8 ∧ i = .int .i64 (k : Int) ∧ Blk wr gs 68 (arr64 st) ∧ OwnB wr w2.heap.size v (Sha.out64 st k) ∧ Below w.heap.size w wr ∧ w2.heap.size ≤ wr.heap.size) (fun _ i _ _ => 8 - (intOf i).toNat)
      case atStart => exact ⟨0, by omega, rfl, bs, OwnB.nil _ _, hB, hge⟩
      case round =>
        clear bs hB hge
        obtain ⟨k, hk, rfl, bs, own, hB, hge⟩ := hrel
        have Ho := hd (Sha.out64_len st k)
        by_cases hlk : k < 8
        · have tk8 : (k : Int) < 8 := by omega
          obtain ⟨X, HX⟩ : ∃ x, Hd (Sha64.at_ st k = x) := ⟨_, ⟨rfl⟩⟩
          have Hg := hd (show (arr64 st)[k]? = some (.int .u64 ((n64 X : Nat) : Int)) by rw [← HX.out]; exact arr64_get _ k (by rw [Hstl.out]; omega))
          obtain ⟨l2, Hl2⟩ : ∃ x, Hd (Sha.out64 st k = x) := ⟨_, ⟨rfl⟩⟩
          rw [Hl2.out] at Ho own
          have Hnk := hd (show Sha.out64 st (k + 1) = l2 ++ Sha.spreadTo X 8 8 by rw [Sha.out64, HX.out, Hl2.out])
          obtain ⟨A2, c2, e2⟩ := own.slice
          obtain ⟨n2, Hn2⟩ : ∃ n, Hd (l2.length = n) := ⟨_, ⟨rfl⟩⟩
          rw [Hn2.out] at e2
          subst e2
          go_wp2
          go_loopw [20, 22] (fun v i wr => ∃ r : Nat, r ≤ 8 ∧ i = .int .i64 ((7 : Int) - (r : Int)) ∧ Blk wr gs 68 (arr64 st) ∧ OwnB wr w2.heap.size v (l2 ++ Sha.spreadTo X 8 r) ∧ Below w.heap.size w wr ∧ w2.heap.size ≤ wr.heap.size) (fun _ i _ => (intOf i + 1).toNat)
          case atStart => exact ⟨0, by omega, rfl, bs, by rw [Sha.spreadTo, List.append_nil]; exact own, hB, hge⟩
          case round =>
            clear bs own hB hge
            obtain ⟨r, hr8, rfl, bs, own, hB, hge⟩ := hrel
            obtain ⟨A3, c3, e3⟩ := own.slice
            obtain ⟨m3, Hm3⟩ : ∃ m, Hd ((l2 ++ Sha.spreadTo X 8 r).length = m) := ⟨_, ⟨rfl⟩⟩
            rw [Hm3.out] at e3
            subst e3
            by_cases hlr : r < 8
            · obtain ⟨q, Hq⟩ : ∃ j, Hd (8 - 1 - r = j) := ⟨_, ⟨rfl⟩⟩
              have eq : (7 : Int) - (r : Int) = (q : Int) := by have := Hq.out; omega
              rw [eq]
              have t0 : (0 : Int) ≤ (q : Int) := by omega
              obtain ⟨J, HJ⟩ : ∃ J, Hd (8 * q = J) := ⟨_, ⟨rfl⟩⟩
              have e8 : (8 : Int) * (q : Int) = (J : Int) := by have := HJ.out; omega
              have w1' : IntKind.i64.wrap (J : Int) = (J : Int) := IntWalk.i64_in _ (by have := HJ.out; have := Hq.out; omega)
              obtain ⟨y, Hy⟩ : ∃ y, Hd ((shr64 X J).toUInt8 = y) := ⟨_, ⟨rfl⟩⟩
              have Hnx := hd (show l2 ++ Sha.spreadTo X 8 (r + 1) = (l2 ++ Sha.spreadTo X 8 r) ++ [y] by rw [Sha.spreadTo, Hq.out, HJ.out, Hy.out, List.append_assoc])
              have hcl : (l2 ++ Sha.spreadTo X 8 r).length + [y].length ≤ 140737488355328 := by rw [List.length_append, Sha.spreadTo_len, Ho.out]; simp; omega
              have cx : wr.cell? ⟨gs, k, none⟩ = some (.int .u64 ((n64 X : Nat) : Int)) := (bs.cell k).trans Hg.out
              have own1 := own.alloc (.cells #[.int .u8 ((n8 y : Nat) : Int)] 5)
              have bs1 := bs.alloc (.cells #[.int .u8 ((n8 y : Nat) : Int)] 5)
              have hr1 := ReadsB.one wr y
              have hBa := hB.alloc hB.size (.cells #[.int .u8 ((n8 y : Nat) : Int)] 5)
              have hge1 : w2.heap.size ≤ (wr.alloc (.cells #[.int .u8 ((n8 y : Nat) : Int)] 5)).heap.size := by show w2.heap.size ≤ (wr.heap.push _).size; rw [Array.size_push]; omega
              have hBl : w.heap.size ≤ (wr.alloc (.cells #[.int .u8 ((n8 y : Nat) : Int)] 5)).heap.size := Nat.le_trans hBw hge1
              clear bs own hB
              go_wp2_with (first | rw [Hy.out] | (at_builtin; refine wpl_appendB rfl _ _ rfl w2.heap.size (.slice A3 m3 c3) (l2 ++ Sha.spreadTo X 8 r) rfl own1 (wr.heap.size + 1) _ 1 1 [y] rfl hr1 hcl hge1 ?_; intro v3 w3 own3 gr3 at3; rw [← Hnx.out] at own3; have bs3 := bs1.appended own1 gr3 (by decide); have hB3 := below_appended hBa own1 gr3 hBw hBl; have hge3 := Nat.le_trans hge1 gr3.size))
              go_roundw
              case rel => exact ⟨r + 1, by omega, by have := Hq.out; congr 1 <;> omega, bs3, own3, hB3, hge3⟩
              case measure => simp [intOf] <;> omega
            · have er : r = 8 := by omega
              subst er
              rw [← Hnk.out] at own
              have eq : (7 : Int) - ((8 : Nat) : Int) = -1 := by omega
              rw [eq]
              go_wp2
              go_roundw
              case rel => exact ⟨k + 1, by omega, by go_num, bs, own, hB, hge⟩
              case measure => simp [intOf] <;> omega
        · have ek : k = 8 := by omega
          subst ek
          have tk8 : ¬ ((8 : Nat) : Int) < 8 := by omega
          go_wp2
          go_ret
          exact ⟨_, rfl, by rw [HS.out, ← hHk]; exact own.low hBw, by rw [← hHk]; exact hB⟩
end Go.Proofs.YtbcboldepghgpaaGreatDoor
