/-
  The walk of RecordPads.
-/
import Derived.Test.YtbcboldepghgpaaRecL
set_option linter.unusedVariables false
set_option linter.unusedSimpArgs false
set_option maxRecDepth 100000
namespace Go.Proofs.Ytbcboldepghgpaa
open Go.RowKit
theorem Rec.held_any (gr : Nat) (L : Value) (A : Option Addr) (k c : Nat) (skip : Int) (quiet : Bool) (dead : Int) (w : World) (h : Blk w gr 84 (Rec.rdc L (.slice A k c) skip quiet dead)) :
    Calls Try.prog 25 #[.pointer (some ⟨gr, 0, none⟩)] w fun e w' => e = .returned (.int .i64 (k : Int)) ∧ Below w.heap.size w w' := by
  have c1 : w.cell? ⟨gr, 1, none⟩ = some (.slice A k c) := h.cell 1
  clear h
  go_enter Try.func25, Try.ntmps25
  go_wp2
  go_ret
  exact ⟨rfl, Below.refl _ _⟩
set_option maxHeartbeats 16000000 in
set_option maxRecDepth 100000 in
theorem recordPads_G (call : Int) (A : Option Addr) (n c : Nat) (b : List UInt8) (s0 : UInt16) (t N : Int) (D : Option Addr) (m d : Nat) (text : List UInt8) (pad ct : UInt8) (w : World) (hr : ReadsB w w.heap.size A n b) (hn : n ≤ 9223372036854775807) (ht : ReadsB w w.heap.size D m text) (hmd : m ≤ d) (hq : 16384 < m) :
    Calls Try.prog 7 #[.agg (Rec.opc call (.slice A n c) s0 t N), .slice D m d, .int .u8 ((n8 pad : Nat) : Int), .int .u8 ((n8 ct : Nat) : Int)] w fun e w' => e = .returned (.bool true) ∧ Below w.heap.size w w' := by
  obtain ⟨n0, hok⟩ := Rec.suiteOf_ok s0
  have Hok := hd hok
  clear hok
  obtain ⟨s, Hs⟩ : ∃ x, Hd (Rec.suiteOf s0 = x) := ⟨_, ⟨rfl⟩⟩
  obtain ⟨K, HK⟩ : ∃ x, Hd (Rec.keyOf n0 b = x) := ⟨_, ⟨rfl⟩⟩
  have LK := hd (show K.length = n0 by rw [← HK.out, Rec.keyOf_len])
  obtain ⟨V, HV⟩ : ∃ x, Hd (Rec.ivOf b = x) := ⟨_, ⟨rfl⟩⟩
  obtain ⟨m', Hm'⟩ : ∃ x, Hd (min m 16384 = x) := ⟨_, ⟨rfl⟩⟩
  obtain ⟨tx, Htx⟩ : ∃ x, Hd (text.take m' = x) := ⟨_, ⟨rfl⟩⟩
  have Hml := hd (show m' ≤ m ∧ m' ≤ 16384 by have := Hm'.out; omega)
  have htx : ReadsB w w.heap.size D m' tx := by rw [← Htx.out]; exact ht.take Hml.out.1
  have Ltx := hd htx.len
  obtain ⟨tt, Htt⟩ : ∃ x : UInt8, Hd ((if m' = 0 then 23 else 21 + ct % 3) = x) := ⟨_, ⟨rfl⟩⟩
  have Hct := hd (show (21 + ct % 3 : UInt8) = 21 ∨ (21 + ct % 3 : UInt8) = 22 ∨ (21 + ct % 3 : UInt8) = 23 by
    have h1 : (ct % 3).toNat = ct.toNat % 3 := UInt8.toNat_mod ct 3
    rcases (show ct.toNat % 3 = 0 ∨ ct.toNat % 3 = 1 ∨ ct.toNat % 3 = 2 by omega) with h | h | h
    · rw [show ct % 3 = 0 from UInt8.toNat_inj.1 (h1.trans h)]; exact .inl rfl
    · rw [show ct % 3 = 1 from UInt8.toNat_inj.1 (h1.trans h)]; exact .inr (.inl rfl)
    · rw [show ct % 3 = 2 from UInt8.toNat_inj.1 (h1.trans h)]; exact .inr (.inr rfl))
  have Htc := hd (show tt = 23 ∨ (0 < m' ∧ (tt = 21 ∨ tt = 22)) by
    rw [← Htt.out]
    by_cases h : m' = 0
    · rw [if_pos h]; exact .inl rfl
    · rw [if_neg h]
      rcases Hct.out with h1 | h1 | h1
      · exact .inr ⟨by omega, .inl h1⟩
      · exact .inr ⟨by omega, .inr h1⟩
      · exact .inl h1)
  have Ht0 := hd (show (tt == 0) = false by
    rcases Htc.out with h | ⟨_, h | h⟩ <;> rw [h] <;> rfl)
  obtain ⟨P, HP⟩ : ∃ x, Hd (n8 pad = x) := ⟨_, ⟨rfl⟩⟩
  have HPl := hd (show P ≤ 255 by rw [← HP.out]; have := n8_lt pad; omega)
  obtain ⟨R, HR⟩ : ∃ x, Hd (min P (16384 - m') = x) := ⟨_, ⟨rfl⟩⟩
  have HRl := hd (show R ≤ 255 by have := HR.out; have := HPl.out; omega)
  have HRi := hd (show ((R : Nat) : Int) = min (P : Int) (16384 - (m' : Int)) by have := HR.out; have := Hml.out; omega)
  have wsub : IntKind.i64.wrap (16384 - (m' : Int)) = 16384 - (m' : Int) := IntWalk.i64_in _ (by have := Hml.out; omega)
  obtain ⟨rc, Hrc⟩ : ∃ x, Hd (Rec.recOf s K V 0 tt tx P = x) := ⟨_, ⟨rfl⟩⟩
  obtain ⟨L, HL⟩ : ∃ x, Hd (5 + m' + 1 + R + 16 = x) := ⟨_, ⟨rfl⟩⟩
  have Lrc := hd (show rc.length = L by rw [← Hrc.out, Rec.recOf_len, Ltx.out, HR.out, ← HL.out]; omega)
  have HLl := hd (show L ≤ 16645 ∧ 0 < L by have := HL.out; have := Hml.out; have := HR.out; omega)
  have hB0 : Below w.heap.size w (w.alloc (.cells (Rec.opc call (.slice A n c) s0 t N) 34)) := (Below.refl _ _).alloc (Nat.le_refl _) _
  have b0 : Blk (w.alloc (.cells (Rec.opc call (.slice A n c) s0 t N) 34)) w.heap.size 34 (Rec.opc call (.slice A n c) s0 t N) := Blk.nu rfl
  go_enter Try.func7, Try.ntmps7
  go_wp2_with fail
  refine (head18_any _).mono ?_
  rintro e W1 ⟨rfl, hE1⟩
  have b1 := b0.below hE1 b0.lt
  have hB1 := hB0.trans (hE1.mono hB0.size)
  clear b0 hB0 hE1
  go_wp2_with (first
    | (refine wpl_run (o := ⟨some 22, _, _, _, _, _⟩) (wanted_plain rfl) (.agg (Rec.opc call (.slice A n c) s0 t N)) (Rec.run_loadOp (by rfl) w.heap.size call (.slice A n c) s0 t N (by simp [Act.eval, Act.put]) b1) ?_))
  refine (Rec.both_any call A n c b s0 n0 Hok.out t N W1 ⟨hr.len, (hr.is.below hB1).more hB1.size⟩ hn).mono ?_
  rintro e W2 ⟨gw, gr, glw, Aw, cw, glr, Ar, cr, rfl, bw, lw, rd, g1, g2, g3, g4, g5, hE2⟩
  rw [HK.out, HV.out, Hs.out] at lw rd
  rw [Hs.out] at bw
  have hok2 := Hok.out
  rw [Hs.out] at hok2
  have hB2 := hB1.trans (hE2.mono hB1.size)
  have h1le := hB1.size
  clear b1 hB1 hE2
  have t5 : (16384 : Int) < (m : Int) := by omega
  have em := hd (show m' = 16384 by have := Hm'.out; omega)
  have hz : ¬ (m' : Int) = 0 := by have := em.out; omega
  have Htt2 := hd (show (21 + ct % 3 : UInt8) = tt by rw [← Htt.out, if_neg (by omega)])
  go_wp2_with (first
    | (refine wpl_run (o := ⟨some 37, _, _, _, _, _⟩) (wanted_plain rfl) (.slice D m' d) (run_slice_to (by rfl) Try.underlying24 u8_one D m d m' (by simp [Act.eval, Act.put]) (by rw [em.out]; rfl) (by omega)) ?_)
    | (refine wpl_run (o := ⟨some 48, _, _, _, _, _⟩) (wanted_plain rfl) (.int .i64 (P : Int)) (Rec.run_u8intM (by rfl) pad P HP.out (by simp [Act.eval, Act.put])) ?_)
    | (go_at_call 21; refine (Rec.content_any ct _).mono ?_; rintro e W3 ⟨rfl, hE3⟩; rw [Htt2.out]; have bw3 := bw.below hE3 bw.lt; have lw3 := lw.next hE3; have rd3 := rd.next hE3; have hB3 := hB2.trans (hE3.mono hB2.size)))
  have hleft : 1 ≤ n64 (Suite.limit s - 0) := by
    unfold Suite.limit
    split <;> decide
  refine (Rec.write_any n0 s hok2 Aw cw K V LK.out 0 (Suite.limit s) gw glw tt D 16384 d tx P W3 bw3 lw3 (by have h := (show ReadsB W3 W3.heap.size D m' tx from ⟨htx.len, (htx.is.below hB3).more hB3.size⟩); rw [em.out] at h; exact h) (by omega) (by omega) HPl.out hleft lw3.blk.lt).mono ?_
  rintro e W4 ⟨v, rfl, own, lw4, gr4⟩
  rw [Hrc.out] at own
  obtain ⟨A13, c13, e13⟩ := own.slice
  rw [Lrc.out] at e13
  subst e13
  have hroom := own.room
  have hrd4 : ReadsB W4 W4.heap.size A13 L rc := own.reads_any.2
  have hB4 := below_moved hB3 gr4 (by omega) hB3.size
  have rd4 : Rec.RdAt W4 gr glr (.slice none 0 0) 0 false s Ar cr K V 0 := ⟨rd3.br.grown gr4 (by intro e; injection e with e; exact absurd e (rd3.br.ne_ lw3.blk (by decide))), rd3.lk.blk.grown gr4 (by intro e; injection e with e; omega), rd3.lk.own.moved gr4 (own_blk_ne rd3.lk.own.own lw3.blk (by decide)), rd3.lk.iv12⟩
  clear bw lw rd bw3 lw3 rd3 lw4 gr4 hB2 hB3
  have feed := Rec.feed_any gr (.pointer (some ⟨glr, 0, none⟩)) none 0 [] 0 0 false A13 L c13 rc L W4 rd4.br (OwnB.nil _ _) hrd4 hroom (by have := HLl.out; omega) rfl (by omega) (by have := HLl.out; omega)
  have Hfeed := hd feed
  clear feed
  go_wp2_with (first
    | (refine wpl_run (o := ⟨some 53, _, _, _, _, _⟩) (wanted_plain rfl) (.int .i64 (P : Int)) (Rec.run_u8intM (by rfl) pad P HP.out (by simp [Act.eval, Act.put])) ?_)
    | (refine wpl_run (o := ⟨some 57, _, _, _, _, _⟩) (wanted_plain rfl) (.int .i64 (R : Int)) (Rec.run_minI (by rfl) (P : Int) (16384 - ((16384 : Nat) : Int)) (R : Int) (by simp [Act.eval, Act.put]) (by simp [Act.eval, Act.put, wsub]) (by have h := HRi.out; rw [em.out] at h; exact h)) ?_)
    | (refine wpl_run (o := ⟨some 65, _, _, _, _, _⟩) (by simp [Region.wanted, yielded, Act.put]) (.int .i64 ((5 + 16384 : Nat) : Int)) (Rec.run_addN (by rfl) 5 16384 (5 + 16384) rfl (by omega) (by simp [Act.eval, Act.put]) (by simp [Act.eval, Act.put])) ?_)
    | (refine wpl_run (o := ⟨some 66, _, _, _, _, _⟩) (by simp [Region.wanted, yielded, Act.put]) (.int .i64 ((5 + 16384 + 1 : Nat) : Int)) (Rec.run_addN (by rfl) (5 + 16384) 1 (5 + 16384 + 1) rfl (by omega) (by simp [Act.eval, Act.put]) (by simp [Act.eval, Act.put])) ?_)
    | (refine wpl_run (o := ⟨some 68, _, _, _, _, _⟩) (by simp [Region.wanted, yielded, Act.put]) (.int .i64 ((5 + 16384 + 1 + R : Nat) : Int)) (Rec.run_addN (by rfl) (5 + 16384 + 1) R (5 + 16384 + 1 + R) rfl (by have := HRl.out; omega) (by simp [Act.eval, Act.put]) (by simp [Act.eval, Act.put])) ?_)
    | (refine wpl_run (o := ⟨some 69, _, _, _, _, _⟩) (by simp [Region.wanted, yielded, Act.put]) (.int .i64 (L : Int)) (Rec.run_addN (by rfl) (5 + 16384 + 1 + R) 16 L (by have h := HL.out; rw [em.out] at h; exact h) (by have := HLl.out; omega) (by simp [Act.eval, Act.put]) (by simp [Act.eval, Act.put])) ?_)
    | (go_at_call 23; refine Hfeed.out.mono ?_; rintro e W5 ⟨rfl, A', c', br5, own5, mv5, at5⟩))
  rw [Nat.zero_add] at br5 own5 at5
  rw [List.nil_append, List.take_of_length_le (by rw [Lrc.out]; omega)] at own5
  obtain ⟨g, c6, e6, _, hg5, _⟩ := own5.form (by rw [Lrc.out]; exact HLl.out.2)
  rw [Lrc.out] at e6
  injection e6 with e6 _ e7
  subst e6 e7
  have hgW : g = W4.heap.size := by
    rcases at5 with h | h
    · cases h
    · injection h
  have hkg : (Value.slice Ar K.length cr).ownBlock ≠ some g := by
    rcases rd4.lk.own.size with h | ⟨g', h, _, hlt⟩
    · rw [h]; intro e; cases e
    · rw [h]; intro e; injection e; omega
  have rd5 : Rec.RdAt W5 gr glr (.slice (some ⟨g, 0, none⟩) L c') 0 false s Ar cr K V 0 := ⟨br5, mv5.blk rd4.lk.blk (rd4.lk.blk.ne_ rd4.br (by decide)) (by intro e; cases e), mv5.own rd4.lk.own (own_blk_ne rd4.lk.own.own rd4.br (by decide)) (by rcases rd4.lk.own.size with h | ⟨g', h, _, _⟩; exact .inr h; exact .inl (by rw [h]; intro e; cases e)), rd4.lk.iv12⟩
  have hB5 := mv5.below hB4 (by omega) (by intro g e; cases e) hB4.size
  have e0 : L - (5 + (m' + 1 + R + 16)) = 0 := by have := HL.out; omega
  refine (Rec.next_any n0 s hok2 Ar cr K V LK.out 0 (by decide) gr glr g L c' 0 false tt tx [] m' P R W5 rd5 (by rw [Hrc.out, List.append_nil]; exact own5) HLl.out.1 Ltx.out (by have := Hml.out; omega) HPl.out HR.out.symm Ht0.out Htc.out hkg).mono ?_
  rintro e W6 ⟨A2, rfl, hx6, rd6, own6, m6⟩
  rw [e0] at rd6
  have hsz4 := hB4.size
  have hB6 := m6.below hB5 (by omega) (by omega) (by omega) hB5.size
  have ht6 : ReadsB W6 W6.heap.size D 16384 tx := (by have h := (show ReadsB W6 W6.heap.size D m' tx from ⟨htx.len, (htx.is.below hB6).more hB6.size⟩); rw [em.out] at h; exact h)
  have Hs1 := hd (run_toString (P := Try.prog) Try.underlying24 Try.underlying5 Try.underlying9 _ A2 m' m' tx hx6)
  have Hs2 := hd (run_toString (P := Try.prog) Try.underlying24 Try.underlying5 Try.underlying9 _ D 16384 d tx ht6)
  clear own5 own6 mv5 br5 hrd4 own rd4 rd5 m6 hx6 ht6
  go_wp2_with (first
    | (refine wpl_run (o := ⟨some 102, _, _, _, _, _⟩) (by simp [Region.wanted, yielded, Act.put]) (.bool true) (run_eqT (by rfl) tx tx rfl (by simp [Act.eval, Act.put]) (by simp [Act.eval, Act.put]) _) ?_)
    | rw [Hs1.out]
    | rw [Hs2.out]
    | (go_at_call 25; refine (Rec.held_any gr (.pointer (some ⟨glr, 0, none⟩)) (some ⟨g, 0, none⟩) 0 c' 0 false 0 _ rd6.br).mono ?_; rintro e W7 ⟨rfl, hE7⟩))
  go_ret
  exact ⟨rfl, hB6.trans (hE7.mono hB6.size)⟩
set_option maxHeartbeats 16000000 in
set_option maxRecDepth 100000 in
theorem recordPads_N (call : Int) (A : Option Addr) (n c : Nat) (b : List UInt8) (s0 : UInt16) (t N : Int) (D : Option Addr) (m d : Nat) (text : List UInt8) (pad ct : UInt8) (w : World) (hr : ReadsB w w.heap.size A n b) (hn : n ≤ 9223372036854775807) (ht : ReadsB w w.heap.size D m text) (hmd : m ≤ d) (hq : ¬ 16384 < m) (h0 : 0 < m) :
    Calls Try.prog 7 #[.agg (Rec.opc call (.slice A n c) s0 t N), .slice D m d, .int .u8 ((n8 pad : Nat) : Int), .int .u8 ((n8 ct : Nat) : Int)] w fun e w' => e = .returned (.bool true) ∧ Below w.heap.size w w' := by
  obtain ⟨n0, hok⟩ := Rec.suiteOf_ok s0
  have Hok := hd hok
  clear hok
  obtain ⟨s, Hs⟩ : ∃ x, Hd (Rec.suiteOf s0 = x) := ⟨_, ⟨rfl⟩⟩
  obtain ⟨K, HK⟩ : ∃ x, Hd (Rec.keyOf n0 b = x) := ⟨_, ⟨rfl⟩⟩
  have LK := hd (show K.length = n0 by rw [← HK.out, Rec.keyOf_len])
  obtain ⟨V, HV⟩ : ∃ x, Hd (Rec.ivOf b = x) := ⟨_, ⟨rfl⟩⟩
  obtain ⟨m', Hm'⟩ : ∃ x, Hd (min m 16384 = x) := ⟨_, ⟨rfl⟩⟩
  obtain ⟨tx, Htx⟩ : ∃ x, Hd (text.take m' = x) := ⟨_, ⟨rfl⟩⟩
  have Hml := hd (show m' ≤ m ∧ m' ≤ 16384 by have := Hm'.out; omega)
  have htx : ReadsB w w.heap.size D m' tx := by rw [← Htx.out]; exact ht.take Hml.out.1
  have Ltx := hd htx.len
  obtain ⟨tt, Htt⟩ : ∃ x : UInt8, Hd ((if m' = 0 then 23 else 21 + ct % 3) = x) := ⟨_, ⟨rfl⟩⟩
  have Hct := hd (show (21 + ct % 3 : UInt8) = 21 ∨ (21 + ct % 3 : UInt8) = 22 ∨ (21 + ct % 3 : UInt8) = 23 by
    have h1 : (ct % 3).toNat = ct.toNat % 3 := UInt8.toNat_mod ct 3
    rcases (show ct.toNat % 3 = 0 ∨ ct.toNat % 3 = 1 ∨ ct.toNat % 3 = 2 by omega) with h | h | h
    · rw [show ct % 3 = 0 from UInt8.toNat_inj.1 (h1.trans h)]; exact .inl rfl
    · rw [show ct % 3 = 1 from UInt8.toNat_inj.1 (h1.trans h)]; exact .inr (.inl rfl)
    · rw [show ct % 3 = 2 from UInt8.toNat_inj.1 (h1.trans h)]; exact .inr (.inr rfl))
  have Htc := hd (show tt = 23 ∨ (0 < m' ∧ (tt = 21 ∨ tt = 22)) by
    rw [← Htt.out]
    by_cases h : m' = 0
    · rw [if_pos h]; exact .inl rfl
    · rw [if_neg h]
      rcases Hct.out with h1 | h1 | h1
      · exact .inr ⟨by omega, .inl h1⟩
      · exact .inr ⟨by omega, .inr h1⟩
      · exact .inl h1)
  have Ht0 := hd (show (tt == 0) = false by
    rcases Htc.out with h | ⟨_, h | h⟩ <;> rw [h] <;> rfl)
  obtain ⟨P, HP⟩ : ∃ x, Hd (n8 pad = x) := ⟨_, ⟨rfl⟩⟩
  have HPl := hd (show P ≤ 255 by rw [← HP.out]; have := n8_lt pad; omega)
  obtain ⟨R, HR⟩ : ∃ x, Hd (min P (16384 - m') = x) := ⟨_, ⟨rfl⟩⟩
  have HRl := hd (show R ≤ 255 by have := HR.out; have := HPl.out; omega)
  have HRi := hd (show ((R : Nat) : Int) = min (P : Int) (16384 - (m' : Int)) by have := HR.out; have := Hml.out; omega)
  have wsub : IntKind.i64.wrap (16384 - (m' : Int)) = 16384 - (m' : Int) := IntWalk.i64_in _ (by have := Hml.out; omega)
  obtain ⟨rc, Hrc⟩ : ∃ x, Hd (Rec.recOf s K V 0 tt tx P = x) := ⟨_, ⟨rfl⟩⟩
  obtain ⟨L, HL⟩ : ∃ x, Hd (5 + m' + 1 + R + 16 = x) := ⟨_, ⟨rfl⟩⟩
  have Lrc := hd (show rc.length = L by rw [← Hrc.out, Rec.recOf_len, Ltx.out, HR.out, ← HL.out]; omega)
  have HLl := hd (show L ≤ 16645 ∧ 0 < L by have := HL.out; have := Hml.out; have := HR.out; omega)
  have hB0 : Below w.heap.size w (w.alloc (.cells (Rec.opc call (.slice A n c) s0 t N) 34)) := (Below.refl _ _).alloc (Nat.le_refl _) _
  have b0 : Blk (w.alloc (.cells (Rec.opc call (.slice A n c) s0 t N) 34)) w.heap.size 34 (Rec.opc call (.slice A n c) s0 t N) := Blk.nu rfl
  go_enter Try.func7, Try.ntmps7
  go_wp2_with fail
  refine (head18_any _).mono ?_
  rintro e W1 ⟨rfl, hE1⟩
  have b1 := b0.below hE1 b0.lt
  have hB1 := hB0.trans (hE1.mono hB0.size)
  clear b0 hB0 hE1
  go_wp2_with (first
    | (refine wpl_run (o := ⟨some 22, _, _, _, _, _⟩) (wanted_plain rfl) (.agg (Rec.opc call (.slice A n c) s0 t N)) (Rec.run_loadOp (by rfl) w.heap.size call (.slice A n c) s0 t N (by simp [Act.eval, Act.put]) b1) ?_))
  refine (Rec.both_any call A n c b s0 n0 Hok.out t N W1 ⟨hr.len, (hr.is.below hB1).more hB1.size⟩ hn).mono ?_
  rintro e W2 ⟨gw, gr, glw, Aw, cw, glr, Ar, cr, rfl, bw, lw, rd, g1, g2, g3, g4, g5, hE2⟩
  rw [HK.out, HV.out, Hs.out] at lw rd
  rw [Hs.out] at bw
  have hok2 := Hok.out
  rw [Hs.out] at hok2
  have hB2 := hB1.trans (hE2.mono hB1.size)
  have h1le := hB1.size
  clear b1 hB1 hE2
  have t5 : ¬ (16384 : Int) < (m : Int) := by omega
  have em : m' = m := by have := Hm'.out; omega
  subst em
  have hz : ¬ (m' : Int) = 0 := by omega
  have Htt2 := hd (show (21 + ct % 3 : UInt8) = tt by rw [← Htt.out, if_neg (by omega)])
  go_wp2_with (first
    | (refine wpl_run (o := ⟨some 37, _, _, _, _, _⟩) (wanted_plain rfl) (.slice D m' d) (run_slice_to (by rfl) Try.underlying24 u8_one D m d m' (by simp [Act.eval, Act.put]) (by simp) (by omega)) ?_)
    | (refine wpl_run (o := ⟨some 48, _, _, _, _, _⟩) (wanted_plain rfl) (.int .i64 (P : Int)) (Rec.run_u8intM (by rfl) pad P HP.out (by simp [Act.eval, Act.put])) ?_)
    | (go_at_call 21; refine (Rec.content_any ct _).mono ?_; rintro e W3 ⟨rfl, hE3⟩; rw [Htt2.out]; have bw3 := bw.below hE3 bw.lt; have lw3 := lw.next hE3; have rd3 := rd.next hE3; have hB3 := hB2.trans (hE3.mono hB2.size)))
  have hleft : 1 ≤ n64 (Suite.limit s - 0) := by
    unfold Suite.limit
    split <;> decide
  refine (Rec.write_any n0 s hok2 Aw cw K V LK.out 0 (Suite.limit s) gw glw tt D m' d tx P W3 bw3 lw3 (show ReadsB W3 W3.heap.size D m' tx from ⟨htx.len, (htx.is.below hB3).more hB3.size⟩) (by omega) (by omega) HPl.out hleft lw3.blk.lt).mono ?_
  rintro e W4 ⟨v, rfl, own, lw4, gr4⟩
  rw [Hrc.out] at own
  obtain ⟨A13, c13, e13⟩ := own.slice
  rw [Lrc.out] at e13
  subst e13
  have hroom := own.room
  have hrd4 : ReadsB W4 W4.heap.size A13 L rc := own.reads_any.2
  have hB4 := below_moved hB3 gr4 (by omega) hB3.size
  have rd4 : Rec.RdAt W4 gr glr (.slice none 0 0) 0 false s Ar cr K V 0 := ⟨rd3.br.grown gr4 (by intro e; injection e with e; exact absurd e (rd3.br.ne_ lw3.blk (by decide))), rd3.lk.blk.grown gr4 (by intro e; injection e with e; omega), rd3.lk.own.moved gr4 (own_blk_ne rd3.lk.own.own lw3.blk (by decide)), rd3.lk.iv12⟩
  clear bw lw rd bw3 lw3 rd3 lw4 gr4 hB2 hB3
  have feed := Rec.feed_any gr (.pointer (some ⟨glr, 0, none⟩)) none 0 [] 0 0 false A13 L c13 rc L W4 rd4.br (OwnB.nil _ _) hrd4 hroom (by have := HLl.out; omega) rfl (by omega) (by have := HLl.out; omega)
  have Hfeed := hd feed
  clear feed
  go_wp2_with (first
    | (refine wpl_run (o := ⟨some 53, _, _, _, _, _⟩) (wanted_plain rfl) (.int .i64 (P : Int)) (Rec.run_u8intM (by rfl) pad P HP.out (by simp [Act.eval, Act.put])) ?_)
    | (refine wpl_run (o := ⟨some 57, _, _, _, _, _⟩) (wanted_plain rfl) (.int .i64 (R : Int)) (Rec.run_minI (by rfl) (P : Int) (16384 - ((m' : Nat) : Int)) (R : Int) (by simp [Act.eval, Act.put]) (by simp [Act.eval, Act.put, wsub]) HRi.out) ?_)
    | (refine wpl_run (o := ⟨some 65, _, _, _, _, _⟩) (by simp [Region.wanted, yielded, Act.put]) (.int .i64 ((5 + m' : Nat) : Int)) (Rec.run_addN (by rfl) 5 m' (5 + m') rfl (by omega) (by simp [Act.eval, Act.put]) (by simp [Act.eval, Act.put])) ?_)
    | (refine wpl_run (o := ⟨some 66, _, _, _, _, _⟩) (by simp [Region.wanted, yielded, Act.put]) (.int .i64 ((5 + m' + 1 : Nat) : Int)) (Rec.run_addN (by rfl) (5 + m') 1 (5 + m' + 1) rfl (by omega) (by simp [Act.eval, Act.put]) (by simp [Act.eval, Act.put])) ?_)
    | (refine wpl_run (o := ⟨some 68, _, _, _, _, _⟩) (by simp [Region.wanted, yielded, Act.put]) (.int .i64 ((5 + m' + 1 + R : Nat) : Int)) (Rec.run_addN (by rfl) (5 + m' + 1) R (5 + m' + 1 + R) rfl (by have := HRl.out; omega) (by simp [Act.eval, Act.put]) (by simp [Act.eval, Act.put])) ?_)
    | (refine wpl_run (o := ⟨some 69, _, _, _, _, _⟩) (by simp [Region.wanted, yielded, Act.put]) (.int .i64 (L : Int)) (Rec.run_addN (by rfl) (5 + m' + 1 + R) 16 L HL.out (by have := HLl.out; omega) (by simp [Act.eval, Act.put]) (by simp [Act.eval, Act.put])) ?_)
    | (go_at_call 23; refine Hfeed.out.mono ?_; rintro e W5 ⟨rfl, A', c', br5, own5, mv5, at5⟩))
  rw [Nat.zero_add] at br5 own5 at5
  rw [List.nil_append, List.take_of_length_le (by rw [Lrc.out]; omega)] at own5
  obtain ⟨g, c6, e6, _, hg5, _⟩ := own5.form (by rw [Lrc.out]; exact HLl.out.2)
  rw [Lrc.out] at e6
  injection e6 with e6 _ e7
  subst e6 e7
  have hgW : g = W4.heap.size := by
    rcases at5 with h | h
    · cases h
    · injection h
  have hkg : (Value.slice Ar K.length cr).ownBlock ≠ some g := by
    rcases rd4.lk.own.size with h | ⟨g', h, _, hlt⟩
    · rw [h]; intro e; cases e
    · rw [h]; intro e; injection e; omega
  have rd5 : Rec.RdAt W5 gr glr (.slice (some ⟨g, 0, none⟩) L c') 0 false s Ar cr K V 0 := ⟨br5, mv5.blk rd4.lk.blk (rd4.lk.blk.ne_ rd4.br (by decide)) (by intro e; cases e), mv5.own rd4.lk.own (own_blk_ne rd4.lk.own.own rd4.br (by decide)) (by rcases rd4.lk.own.size with h | ⟨g', h, _, _⟩; exact .inr h; exact .inl (by rw [h]; intro e; cases e)), rd4.lk.iv12⟩
  have hB5 := mv5.below hB4 (by omega) (by intro g e; cases e) hB4.size
  have e0 : L - (5 + (m' + 1 + R + 16)) = 0 := by have := HL.out; omega
  refine (Rec.next_any n0 s hok2 Ar cr K V LK.out 0 (by decide) gr glr g L c' 0 false tt tx [] m' P R W5 rd5 (by rw [Hrc.out, List.append_nil]; exact own5) HLl.out.1 Ltx.out (by have := Hml.out; omega) HPl.out HR.out.symm Ht0.out Htc.out hkg).mono ?_
  rintro e W6 ⟨A2, rfl, hx6, rd6, own6, m6⟩
  rw [e0] at rd6
  have hsz4 := hB4.size
  have hB6 := m6.below hB5 (by omega) (by omega) (by omega) hB5.size
  have ht6 : ReadsB W6 W6.heap.size D m' tx := (show ReadsB W6 W6.heap.size D m' tx from ⟨htx.len, (htx.is.below hB6).more hB6.size⟩)
  have Hs1 := hd (run_toString (P := Try.prog) Try.underlying24 Try.underlying5 Try.underlying9 _ A2 m' m' tx hx6)
  have Hs2 := hd (run_toString (P := Try.prog) Try.underlying24 Try.underlying5 Try.underlying9 _ D m' d tx ht6)
  clear own5 own6 mv5 br5 hrd4 own rd4 rd5 m6 hx6 ht6
  go_wp2_with (first
    | (refine wpl_run (o := ⟨some 102, _, _, _, _, _⟩) (by simp [Region.wanted, yielded, Act.put]) (.bool true) (run_eqT (by rfl) tx tx rfl (by simp [Act.eval, Act.put]) (by simp [Act.eval, Act.put]) _) ?_)
    | rw [Hs1.out]
    | rw [Hs2.out]
    | (go_at_call 25; refine (Rec.held_any gr (.pointer (some ⟨glr, 0, none⟩)) (some ⟨g, 0, none⟩) 0 c' 0 false 0 _ rd6.br).mono ?_; rintro e W7 ⟨rfl, hE7⟩))
  go_ret
  exact ⟨rfl, hB6.trans (hE7.mono hB6.size)⟩
set_option maxHeartbeats 16000000 in
set_option maxRecDepth 100000 in
theorem recordPads_Z (call : Int) (A : Option Addr) (n c : Nat) (b : List UInt8) (s0 : UInt16) (t N : Int) (D : Option Addr) (m d : Nat) (text : List UInt8) (pad ct : UInt8) (w : World) (hr : ReadsB w w.heap.size A n b) (hn : n ≤ 9223372036854775807) (ht : ReadsB w w.heap.size D m text) (hmd : m ≤ d) (hq : m = 0) :
    Calls Try.prog 7 #[.agg (Rec.opc call (.slice A n c) s0 t N), .slice D m d, .int .u8 ((n8 pad : Nat) : Int), .int .u8 ((n8 ct : Nat) : Int)] w fun e w' => e = .returned (.bool true) ∧ Below w.heap.size w w' := by
  obtain ⟨n0, hok⟩ := Rec.suiteOf_ok s0
  have Hok := hd hok
  clear hok
  obtain ⟨s, Hs⟩ : ∃ x, Hd (Rec.suiteOf s0 = x) := ⟨_, ⟨rfl⟩⟩
  obtain ⟨K, HK⟩ : ∃ x, Hd (Rec.keyOf n0 b = x) := ⟨_, ⟨rfl⟩⟩
  have LK := hd (show K.length = n0 by rw [← HK.out, Rec.keyOf_len])
  obtain ⟨V, HV⟩ : ∃ x, Hd (Rec.ivOf b = x) := ⟨_, ⟨rfl⟩⟩
  obtain ⟨m', Hm'⟩ : ∃ x, Hd (min m 16384 = x) := ⟨_, ⟨rfl⟩⟩
  obtain ⟨tx, Htx⟩ : ∃ x, Hd (text.take m' = x) := ⟨_, ⟨rfl⟩⟩
  have Hml := hd (show m' ≤ m ∧ m' ≤ 16384 by have := Hm'.out; omega)
  have htx : ReadsB w w.heap.size D m' tx := by rw [← Htx.out]; exact ht.take Hml.out.1
  have Ltx := hd htx.len
  obtain ⟨tt, Htt⟩ : ∃ x : UInt8, Hd ((if m' = 0 then 23 else 21 + ct % 3) = x) := ⟨_, ⟨rfl⟩⟩
  have Hct := hd (show (21 + ct % 3 : UInt8) = 21 ∨ (21 + ct % 3 : UInt8) = 22 ∨ (21 + ct % 3 : UInt8) = 23 by
    have h1 : (ct % 3).toNat = ct.toNat % 3 := UInt8.toNat_mod ct 3
    rcases (show ct.toNat % 3 = 0 ∨ ct.toNat % 3 = 1 ∨ ct.toNat % 3 = 2 by omega) with h | h | h
    · rw [show ct % 3 = 0 from UInt8.toNat_inj.1 (h1.trans h)]; exact .inl rfl
    · rw [show ct % 3 = 1 from UInt8.toNat_inj.1 (h1.trans h)]; exact .inr (.inl rfl)
    · rw [show ct % 3 = 2 from UInt8.toNat_inj.1 (h1.trans h)]; exact .inr (.inr rfl))
  have Htc := hd (show tt = 23 ∨ (0 < m' ∧ (tt = 21 ∨ tt = 22)) by
    rw [← Htt.out]
    by_cases h : m' = 0
    · rw [if_pos h]; exact .inl rfl
    · rw [if_neg h]
      rcases Hct.out with h1 | h1 | h1
      · exact .inr ⟨by omega, .inl h1⟩
      · exact .inr ⟨by omega, .inr h1⟩
      · exact .inl h1)
  have Ht0 := hd (show (tt == 0) = false by
    rcases Htc.out with h | ⟨_, h | h⟩ <;> rw [h] <;> rfl)
  obtain ⟨P, HP⟩ : ∃ x, Hd (n8 pad = x) := ⟨_, ⟨rfl⟩⟩
  have HPl := hd (show P ≤ 255 by rw [← HP.out]; have := n8_lt pad; omega)
  obtain ⟨R, HR⟩ : ∃ x, Hd (min P (16384 - m') = x) := ⟨_, ⟨rfl⟩⟩
  have HRl := hd (show R ≤ 255 by have := HR.out; have := HPl.out; omega)
  have HRi := hd (show ((R : Nat) : Int) = min (P : Int) (16384 - (m' : Int)) by have := HR.out; have := Hml.out; omega)
  have wsub : IntKind.i64.wrap (16384 - (m' : Int)) = 16384 - (m' : Int) := IntWalk.i64_in _ (by have := Hml.out; omega)
  obtain ⟨rc, Hrc⟩ : ∃ x, Hd (Rec.recOf s K V 0 tt tx P = x) := ⟨_, ⟨rfl⟩⟩
  obtain ⟨L, HL⟩ : ∃ x, Hd (5 + m' + 1 + R + 16 = x) := ⟨_, ⟨rfl⟩⟩
  have Lrc := hd (show rc.length = L by rw [← Hrc.out, Rec.recOf_len, Ltx.out, HR.out, ← HL.out]; omega)
  have HLl := hd (show L ≤ 16645 ∧ 0 < L by have := HL.out; have := Hml.out; have := HR.out; omega)
  have hB0 : Below w.heap.size w (w.alloc (.cells (Rec.opc call (.slice A n c) s0 t N) 34)) := (Below.refl _ _).alloc (Nat.le_refl _) _
  have b0 : Blk (w.alloc (.cells (Rec.opc call (.slice A n c) s0 t N) 34)) w.heap.size 34 (Rec.opc call (.slice A n c) s0 t N) := Blk.nu rfl
  go_enter Try.func7, Try.ntmps7
  go_wp2_with fail
  refine (head18_any _).mono ?_
  rintro e W1 ⟨rfl, hE1⟩
  have b1 := b0.below hE1 b0.lt
  have hB1 := hB0.trans (hE1.mono hB0.size)
  clear b0 hB0 hE1
  go_wp2_with (first
    | (refine wpl_run (o := ⟨some 22, _, _, _, _, _⟩) (wanted_plain rfl) (.agg (Rec.opc call (.slice A n c) s0 t N)) (Rec.run_loadOp (by rfl) w.heap.size call (.slice A n c) s0 t N (by simp [Act.eval, Act.put]) b1) ?_))
  refine (Rec.both_any call A n c b s0 n0 Hok.out t N W1 ⟨hr.len, (hr.is.below hB1).more hB1.size⟩ hn).mono ?_
  rintro e W2 ⟨gw, gr, glw, Aw, cw, glr, Ar, cr, rfl, bw, lw, rd, g1, g2, g3, g4, g5, hE2⟩
  rw [HK.out, HV.out, Hs.out] at lw rd
  rw [Hs.out] at bw
  have hok2 := Hok.out
  rw [Hs.out] at hok2
  have hB2 := hB1.trans (hE2.mono hB1.size)
  have h1le := hB1.size
  clear b1 hB1 hE2
  have t5 : ¬ (16384 : Int) < (m : Int) := by omega
  have em : m' = m := by have := Hm'.out; omega
  subst em
  have hq0 := hd hq
  have hz : (m' = 0) = True := eq_true hq
  clear hq
  have Htt2 := hd (show (23 : UInt8) = tt by rw [← Htt.out, if_pos hq0.out])
  have e23 := Htt2.out
  subst e23
  go_wp2_with (first
    | (refine wpl_run (o := ⟨some 37, _, _, _, _, _⟩) (wanted_plain rfl) (.slice D m' d) (run_slice_to (by rfl) Try.underlying24 u8_one D m d m' (by simp [Act.eval, Act.put]) (by simp) (by omega)) ?_)
    | (refine wpl_run (o := ⟨some 48, _, _, _, _, _⟩) (wanted_plain rfl) (.int .i64 (P : Int)) (Rec.run_u8intM (by rfl) pad P HP.out (by simp [Act.eval, Act.put])) ?_)
    | (go_at_call 21; refine (Rec.content_any ct _).mono ?_; rintro e W3 ⟨rfl, hE3⟩; have bw3 := bw.below hE3 bw.lt; have lw3 := lw.next hE3; have rd3 := rd.next hE3; have hB3 := hB2.trans (hE3.mono hB2.size)))
  have hleft : 1 ≤ n64 (Suite.limit s - 0) := by
    unfold Suite.limit
    split <;> decide
  refine (Rec.write_any n0 s hok2 Aw cw K V LK.out 0 (Suite.limit s) gw glw 23 D 0 d tx P W3 bw3 lw3 (by have h := (show ReadsB W3 W3.heap.size D m' tx from ⟨htx.len, (htx.is.below hB3).more hB3.size⟩); rw [hq0.out] at h; exact h) (by omega) (by omega) HPl.out hleft lw3.blk.lt).mono ?_
  rintro e W4 ⟨v, rfl, own, lw4, gr4⟩
  rw [Hrc.out] at own
  obtain ⟨A13, c13, e13⟩ := own.slice
  rw [Lrc.out] at e13
  subst e13
  have hroom := own.room
  have hrd4 : ReadsB W4 W4.heap.size A13 L rc := own.reads_any.2
  have hB4 := below_moved hB3 gr4 (by omega) hB3.size
  have rd4 : Rec.RdAt W4 gr glr (.slice none 0 0) 0 false s Ar cr K V 0 := ⟨rd3.br.grown gr4 (by intro e; injection e with e; exact absurd e (rd3.br.ne_ lw3.blk (by decide))), rd3.lk.blk.grown gr4 (by intro e; injection e with e; omega), rd3.lk.own.moved gr4 (own_blk_ne rd3.lk.own.own lw3.blk (by decide)), rd3.lk.iv12⟩
  clear bw lw rd bw3 lw3 rd3 lw4 gr4 hB2 hB3
  have feed := Rec.feed_any gr (.pointer (some ⟨glr, 0, none⟩)) none 0 [] 0 0 false A13 L c13 rc L W4 rd4.br (OwnB.nil _ _) hrd4 hroom (by have := HLl.out; omega) rfl (by omega) (by have := HLl.out; omega)
  have Hfeed := hd feed
  clear feed
  go_wp2_with (first
    | (refine wpl_run (o := ⟨some 53, _, _, _, _, _⟩) (wanted_plain rfl) (.int .i64 (P : Int)) (Rec.run_u8intM (by rfl) pad P HP.out (by simp [Act.eval, Act.put])) ?_)
    | (refine wpl_run (o := ⟨some 57, _, _, _, _, _⟩) (wanted_plain rfl) (.int .i64 (R : Int)) (Rec.run_minI (by rfl) (P : Int) (16384 - ((0 : Nat) : Int)) (R : Int) (by simp [Act.eval, Act.put]) (by simp [Act.eval, Act.put, wsub]) (by have h := HRi.out; rw [hq0.out] at h; exact h)) ?_)
    | (refine wpl_run (o := ⟨some 65, _, _, _, _, _⟩) (by simp [Region.wanted, yielded, Act.put]) (.int .i64 ((5 + 0 : Nat) : Int)) (Rec.run_addN (by rfl) 5 0 (5 + 0) rfl (by omega) (by simp [Act.eval, Act.put]) (by simp [Act.eval, Act.put])) ?_)
    | (refine wpl_run (o := ⟨some 66, _, _, _, _, _⟩) (by simp [Region.wanted, yielded, Act.put]) (.int .i64 ((5 + 0 + 1 : Nat) : Int)) (Rec.run_addN (by rfl) (5 + 0) 1 (5 + 0 + 1) rfl (by omega) (by simp [Act.eval, Act.put]) (by simp [Act.eval, Act.put])) ?_)
    | (refine wpl_run (o := ⟨some 68, _, _, _, _, _⟩) (by simp [Region.wanted, yielded, Act.put]) (.int .i64 ((5 + 0 + 1 + R : Nat) : Int)) (Rec.run_addN (by rfl) (5 + 0 + 1) R (5 + 0 + 1 + R) rfl (by have := HRl.out; omega) (by simp [Act.eval, Act.put]) (by simp [Act.eval, Act.put])) ?_)
    | (refine wpl_run (o := ⟨some 69, _, _, _, _, _⟩) (by simp [Region.wanted, yielded, Act.put]) (.int .i64 (L : Int)) (Rec.run_addN (by rfl) (5 + 0 + 1 + R) 16 L (by have h := HL.out; rw [hq0.out] at h; exact h) (by have := HLl.out; omega) (by simp [Act.eval, Act.put]) (by simp [Act.eval, Act.put])) ?_)
    | (go_at_call 23; refine Hfeed.out.mono ?_; rintro e W5 ⟨rfl, A', c', br5, own5, mv5, at5⟩))
  rw [Nat.zero_add] at br5 own5 at5
  rw [List.nil_append, List.take_of_length_le (by rw [Lrc.out]; omega)] at own5
  obtain ⟨g, c6, e6, _, hg5, _⟩ := own5.form (by rw [Lrc.out]; exact HLl.out.2)
  rw [Lrc.out] at e6
  injection e6 with e6 _ e7
  subst e6 e7
  have hgW : g = W4.heap.size := by
    rcases at5 with h | h
    · cases h
    · injection h
  have hkg : (Value.slice Ar K.length cr).ownBlock ≠ some g := by
    rcases rd4.lk.own.size with h | ⟨g', h, _, hlt⟩
    · rw [h]; intro e; cases e
    · rw [h]; intro e; injection e; omega
  have rd5 : Rec.RdAt W5 gr glr (.slice (some ⟨g, 0, none⟩) L c') 0 false s Ar cr K V 0 := ⟨br5, mv5.blk rd4.lk.blk (rd4.lk.blk.ne_ rd4.br (by decide)) (by intro e; cases e), mv5.own rd4.lk.own (own_blk_ne rd4.lk.own.own rd4.br (by decide)) (by rcases rd4.lk.own.size with h | ⟨g', h, _, _⟩; exact .inr h; exact .inl (by rw [h]; intro e; cases e)), rd4.lk.iv12⟩
  have hB5 := mv5.below hB4 (by omega) (by intro g e; cases e) hB4.size
  have e0 : L - (5 + (m' + 1 + R + 16)) = 0 := by have := HL.out; omega
  refine (Rec.next_any n0 s hok2 Ar cr K V LK.out 0 (by decide) gr glr g L c' 0 false 23 tx [] m' P R W5 rd5 (by rw [Hrc.out, List.append_nil]; exact own5) HLl.out.1 Ltx.out (by have := Hml.out; omega) HPl.out HR.out.symm Ht0.out (.inl rfl) hkg).mono ?_
  rintro e W6 ⟨A2, rfl, hx6, rd6, own6, m6⟩
  rw [e0] at rd6
  have hsz4 := hB4.size
  have hB6 := m6.below hB5 (by omega) (by omega) (by omega) hB5.size
  have ht6 : ReadsB W6 W6.heap.size D 0 tx := (by have h := (show ReadsB W6 W6.heap.size D m' tx from ⟨htx.len, (htx.is.below hB6).more hB6.size⟩); rw [hq0.out] at h; exact h)
  have Hs1 := hd (run_toString (P := Try.prog) Try.underlying24 Try.underlying5 Try.underlying9 _ A2 m' m' tx hx6)
  have Hs2 := hd (run_toString (P := Try.prog) Try.underlying24 Try.underlying5 Try.underlying9 _ D 0 d tx ht6)
  clear own5 own6 mv5 br5 hrd4 own rd4 rd5 m6 hx6 ht6
  go_wp2_with (first
    | (refine wpl_run (o := ⟨some 102, _, _, _, _, _⟩) (by simp [Region.wanted, yielded, Act.put]) (.bool true) (run_eqT (by rfl) tx tx rfl (by simp [Act.eval, Act.put]) (by simp [Act.eval, Act.put]) _) ?_)
    | rw [Hs1.out]
    | rw [Hs2.out]
    | (go_at_call 25; refine (Rec.held_any gr (.pointer (some ⟨glr, 0, none⟩)) (some ⟨g, 0, none⟩) 0 c' 0 false 0 _ rd6.br).mono ?_; rintro e W7 ⟨rfl, hE7⟩))
  go_ret
  exact ⟨rfl, hB6.trans (hE7.mono hB6.size)⟩
theorem recordPads_any (call : Int) (A : Option Addr) (n c : Nat) (b : List UInt8) (s0 : UInt16) (t N : Int) (D : Option Addr) (m d : Nat) (text : List UInt8) (pad ct : UInt8) (w : World) (hr : ReadsB w w.heap.size A n b) (_ : n ≤ c) (hn : n ≤ 9223372036854775807) (ht : ReadsB w w.heap.size D m text) (hmd : m ≤ d) (_ : d ≤ 140737488351232) :
    Calls Try.prog 7 #[.agg (Rec.opc call (.slice A n c) s0 t N), .slice D m d, .int .u8 ((n8 pad : Nat) : Int), .int .u8 ((n8 ct : Nat) : Int)] w fun e w' => e = .returned (.bool true) ∧ Below w.heap.size w w' := by
  by_cases hq : 16384 < m
  · exact recordPads_G call A n c b s0 t N D m d text pad ct w hr hn ht hmd hq
  · by_cases h0 : 0 < m
    · exact recordPads_N call A n c b s0 t N D m d text pad ct w hr hn ht hmd hq h0
    · exact recordPads_Z call A n c b s0 t N D m d text pad ct w hr hn ht hmd (by omega)
end Go.Proofs.Ytbcboldepghgpaa
