/-
  The walk of SchedTranscripts.
-/
import Derived.Test.YtkacibgbpeeflaaDoorTrB
import Derived.Test.YtkacibgbpeeflaaDoorHeldP
import Derived.Deep.DeepCutAuto
set_option linter.unusedVariables false
set_option linter.unusedSimpArgs false
namespace Go.Proofs.YtkacibgbpeeflaaDoor
open Go.RowKit
theorem Off.own {Hot : Nat → Prop} {w w' : World} {B : Nat} {v : Value} {l : List UInt8} (h : Off Hot w w') (ho : OwnB w B v l) (hn : ∀ g, v.ownBlock = some g → ¬ Hot g) : OwnB w' B v l := by
  obtain ⟨h1, h2⟩ := ho.own
  refine ⟨h1, h2.imp id ?_⟩
  rintro ⟨g, cap, cur, rfl, h3, h4, h5⟩
  refine ⟨g, cap, cur, rfl, h3, ?_, h5⟩
  have hlt : g < w.heap.size := by
    rcases Nat.lt_or_ge g w.heap.size with h | h
    · exact h
    · rw [Array.getElem?_eq_none h] at h4; cases h4
  rw [h.block g hlt (hn g rfl)]; exact h4
theorem DigZ.off {Hot : Nat → Prop} {w w' : World} {g : Nat} {Zp : Nat → Prop} {h : Int} {l : List UInt8} (hd : DigZ w w.heap.size g Zp h l) (ho : Off Hot w w') (hg : ¬ Hot g) (hz : ∀ b, Zp b → ¬ Hot b) : DigZ w' w'.heap.size g Zp h l := by
  obtain ⟨A, c, h1, h2, h3, h4, h5⟩ := hd
  exact ⟨A, c, ho.blk h1 hg, ho.reads h2 (fun h0 ad e => hz _ (h5 h0 ad e).2), h3, h4, h5⟩
theorem Trans.off {Hot : Nat → Prop} {w w' : World} {t g1 g2 g3 : Nat} {Zp : Nat → Prop} {l : List UInt8} (h : Trans w t g1 g2 g3 Zp l) (ho : Off Hot w w') (ht : ¬ Hot t) (h1 : ¬ Hot g1) (h2 : ¬ Hot g2) (h3 : ¬ Hot g3) (hz : ∀ b, Zp b → ¬ Hot b) : Trans w' t g1 g2 g3 Zp l :=
  ⟨ho.blk h.box ht, h.d1.off ho h1 hz, h.d2.off ho h2 hz, h.d3.off ho h3 hz⟩
/-- Where the text of the reference's transcript may lie. -/
def Clear (t g1 g2 g3 u : Nat) : Nat → Prop := fun b => b ≠ t ∧ b ≠ g1 ∧ b ≠ g2 ∧ b ≠ g3 ∧ b ≠ u
/-- Both transcripts have taken in m. -/
structure Both (N : Nat) (w : World) (t u g1 g2 g3 : Nat) (m : List UInt8) : Prop where
  four : Four t g1 g2 g3
  ut : u ≠ t
  u1 : u ≠ g1
  u2 : u ≠ g2
  u3 : u ≠ g3
  nt : N ≤ t
  nu : N ≤ u
  n1 : N ≤ g1
  n2 : N ≤ g2
  n3 : N ≤ g3
  tr : Trans w t g1 g2 g3 (Away g1 g2 g3 u) m
  said : Said w u (Clear t g1 g2 g3 u) m
theorem Both.below {N : Nat} {w w' : World} {t u g1 g2 g3 : Nat} {m : List UInt8} (h : Both N w t u g1 g2 g3 m) (hb : Below w.heap.size w w') : Both N w' t u g1 g2 g3 m :=
  { h with tr := h.tr.below hb, said := h.said.below hb }
theorem OwnB.place {w : World} {B n c : Nat} {A : Option Addr} {l : List UInt8} (h : OwnB w B (.slice A n c) l) (hB : B < w.heap.size) : ∃ x, B ≤ x ∧ x < w.heap.size ∧ ∀ ad, A = some ad → ad = ⟨x, 0, none⟩ := by
  rcases h.own.2 with ⟨e, _⟩ | ⟨g, cap, cur, e, h3, h4, _⟩
  · injection e with e _ _; subst e
    exact ⟨B, Nat.le_refl _, hB, fun ad e => by cases e⟩
  · injection e with e _ _; subst e
    refine ⟨g, h3, ?_, fun ad e => by injection e with e; exact e.symm⟩
    rcases Nat.lt_or_ge g w.heap.size with h | h
    · exact h
    · rw [Array.getElem?_eq_none h] at h4; cases h4
theorem joined_le (ps : List Part) (k : Nat) : (joined (ps.take k)).length ≤ (joined ps).length := by
  induction ps generalizing k with
  | nil => simp
  | cons p r ih =>
    cases k with
    | zero => simp [joined]
    | succ k => have := ih k; simp only [List.take_succ_cons, joined, List.length_append]; omega

set_option maxHeartbeats 16000000 in
set_option maxRecDepth 100000 in
theorem tr_law (h : Int) (A1 : Option Addr) (n1 c1 : Nat) (ps : List Part) (rt : Int) (A3 : Option Addr) (n3 c3 : Nat) (prt : List UInt8) (w : World) (hp : Parts w w.heap.size A1 n1 ps) (hn1 : n1 ≤ 1048576) (hj : (joined ps).length ≤ 1048576) (hr3 : ReadsB w w.heap.size A3 n3 prt) (hn3 : n3 ≤ 1048576) (htb0 : Tabs w) :
    Calls Tryd.prog 4 #[.int .i64 h, .slice A1 n1 c1, .int .i64 rt, .slice A3 n3 c3] w fun e w' => e = .returned (.bool true) ∧ Below w.heap.size w w' := by
  have hw2 : 2 ≤ w.heap.size := htb0.2.lt
  have HJ := hd hj
  clear hj
  go_enter Tryd.func4, Tryd.ntmps4
  go_wp2_with (first | (go_at_call 11; refine (newTr_any w1).mono ?_; rintro e w2 ⟨t, g1, g2, g3, rfl, F2, ht2, hk1, hk2, hk3, T2, hB2⟩; have HT2 := hd (T2 (Away g1 g2 g3 w2.heap.size)); clear T2) | (go_at_call 6; refine (head19_any w htb0).mono ?_; rintro e w1 ⟨rfl, hw1⟩))
  have hs1 := hw1.size
  have hs2 := hB2.size
  have htl := HT2.out.box.lt
  have hl1 := HT2.out.d1.lt
  have hl2 := HT2.out.d2.lt
  have hl3 := HT2.out.d3.lt
  have hB12 := hw1.trans (hB2.mono hw1.size)
  obtain ⟨u, Hu⟩ : ∃ x, Hd (w2.heap.size = x) := ⟨_, ⟨rfl⟩⟩
  have hB3 : Below w2.heap.size w2 (w2.alloc (.cells #[.slice none 0 0] 35)) := (Below.refl _ _).alloc (Nat.le_refl _) _
  have hI0 := hd (show Both w.heap.size (w2.alloc (.cells #[.slice none 0 0] 35)) t w2.heap.size g1 g2 g3 [] from
    ⟨F2, by omega, by omega, by omega, by omega, by omega, by omega, by omega, by omega, by omega, HT2.out.below hB3, ⟨none, 0, Blk.nu rfl, ⟨rfl, Reads.none_⟩, fun h0 => by simp at h0⟩⟩)
  have HB0 := hd (hB12.trans (hB3.mono hB12.size))
  clear hB3 hB12 hB2 hw1 HT2 F2 ht2 hk1 hk2 hk3 hs1 hs2 htl hl1 hl2 hl3
  rw [Hu.out] at hI0
  rw [Hu.out]
  go_loopw [12, 13, 14] (fun i _ _ wr => ∃ k g1 g2 g3 m, k ≤ n1 ∧ i = .int .i64 ((k : Nat) : Int) ∧ Both w.heap.size wr t u g1 g2 g3 m ∧ m.length ≤ 68 + (joined (ps.take k)).length ∧ Below w.heap.size w wr) (fun i _ _ _ => (n1 - intOf i).toNat)
  case atStart => exact ⟨0, g1, g2, g3, [], by omega, rfl, hI0.out, by simp, HB0.out⟩
  case round =>
    obtain ⟨wo, rfl⟩ : ∃ wo : World, wo = wr := ⟨_, rfl⟩
    clear hI0 HB0 Hu
    obtain ⟨k, g1, g2, g3, m, hk, rfl, hI, hm, hB⟩ := hrel
    have HI := hd hI
    have HB := hd hB
    have Hm := hd hm
    clear hI hB hm
    by_cases hlt : k < n1
    · have t1 : (k : Int) < (n1 : Int) := by omega
      have t2 : (0 : Int) ≤ (k : Int) := by omega
      obtain ⟨ad, rfl, hab, hcw, hrw, hpn⟩ := hp.is k hlt
      have Hj := hd (joined_more ps k (by rw [hp.len]; exact hlt))
      have Hjl := hd (joined_le ps (k + 1))
      obtain ⟨p, Hp⟩ : ∃ p, Hd (part ps k = p) := ⟨_, ⟨rfl⟩⟩
      rw [Hp.out] at hcw hrw hpn Hj
      obtain ⟨PD, pn, pd, pt⟩ := p
      simp only at hcw hrw hpn Hj
      have Hpl := hd hrw.len
      have HM' := hd (show (m ++ pt).length ≤ 68 + (joined (ps.take (k + 1))).length ∧ (m ++ pt).length ≤ 1048644 ∧ pn ≤ 1048576 by
        have h1 := Hm.out
        have h2 := Hjl.out
        have h3 := HJ.out
        have h4 := Hpl.out
        rw [Hj.out] at h2 ⊢
        simp only [List.length_append] at *
        omega)
      have hpn1 : pn ≤ 1048576 := HM'.out.2.2
      have HCW := hd (fun W (hW : Below w.heap.size w W) => (hW.cell (p := ad.add k) (by rw [block_of_add]; exact hab)).trans hcw)
      have HRW := hd (fun W (hW : Below w.heap.size w W) => (⟨hrw.len, (hrw.is.below hW).more hW.size⟩ : ReadsB W W.heap.size PD pn pt))
      clear hpn hrw hcw
      have own0 : OwnB (wo.alloc (.cells #[] 5)) wo.heap.size (.slice (some ⟨wo.heap.size, 0, none⟩) 0 0) [] := OwnB.empty (Nat.le_refl _)
      have hE0 : Below wo.heap.size wo (wo.alloc (.cells #[] 5)) := (Below.refl _ _).alloc (Nat.le_refl _) _
      have hsr := HB.out.size
      have hc0 := HCW.out _ (HB.out.trans (hE0.mono hsr))
      have HRA := hd (HRW.out _ (HB.out.trans (hE0.mono hsr)))
      have HE0 := hd hE0
      have Own0 := hd own0
      clear hE0 own0
      go_upto_region 10 with (first | (at_builtin; refine wpl_appendB rfl _ _ rfl wo.heap.size _ [] rfl Own0.out _ PD pn pd pt rfl HRA.out (by rw [Hpl.out]; simp; omega) HE0.out.size ?_; intro v1 w1 own1 gr1 at1; rw [List.nil_append] at own1; have hB1 := below_appended HE0.out Own0.out gr1 (Nat.le_refl _) HE0.out.size; obtain ⟨Ao, co, eo⟩ := own1.slice; rw [Hpl.out] at eo; subst eo; have hs1 : wo.heap.size < w1.heap.size := Nat.lt_of_lt_of_le (by simp) gr1.size; clear gr1 at1))
      obtain ⟨x, hx1, hx2, hxa⟩ := own1.place hs1
      have HXA := hd hxa
      have Own1 := hd own1
      have HB1 := hd hB1
      have hIl : t < wo.heap.size ∧ g1 < wo.heap.size ∧ g2 < wo.heap.size ∧ g3 < wo.heap.size ∧ u < wo.heap.size := ⟨HI.out.tr.box.lt, HI.out.tr.d1.lt, HI.out.tr.d2.lt, HI.out.tr.d3.lt, by obtain ⟨_, _, h, _⟩ := HI.out.said; exact h.lt⟩
      have HT1 := hd ((HI.out.tr.newer x hx1).below hB1)
      have HU1 := hd (HI.out.said.below hB1)
      have hBw1 := HB.out.trans (hB1.mono hsr)
      have HBw1 := hd hBw1
      have HTb1 := hd (htb0.below hBw1)
      have hI2 := HI.out
      have hs1w := hBw1.size
      clear hB1 own1 hxa hBw1 hs1
      obtain ⟨It, Iu, Iu1, Iu2, Iu3, In1, In2, In3, In4, In5, -, -⟩ := hI2
      have HF := hd It
      clear It
      go_wp2_with (first | (go_at_call 13; refine (radd_any u _ m PD pn pd pt w2 HU2.out HR2.out (by have h := HM'.out.2.1; rw [List.length_append] at h; have := Hpl.out; omega)).mono ?_; rintro e w3 ⟨rfl, hU3, hO3⟩) | (go_at_call 12; refine (add_any t g1 g2 g3 _ m Ao pn co pt w1 HF.out HT1.out (fun b hb => ⟨⟨by omega, by omega, by omega, by omega⟩, by omega⟩) (fun b hb => ⟨hb.1.1, hb.1.2.1, hb.1.2.2.1⟩) ⟨Hpl.out, Own1.out.reads_any.2.is⟩ (by omega) (fun h0 ad e => by rw [HXA.out ad e]; exact ⟨by show x ≠ g1; omega, by show x ≠ g2; omega, by show x ≠ g3; omega⟩) HTb1.out ⟨by omega, by omega, by omega⟩).mono ?_; rintro e w2 ⟨rfl, hT2, hO2⟩; have hBw2 := HBw1.out.trans (hO2.below (by omega) (fun b hb => by rcases hb with h | h | h <;> omega)); have hc2 := HCW.out w2 hBw2; have HR2 := hd (HRW.out w2 hBw2); have HU2 := hd (HU1.out.off hO2 (Hot3.away (by omega) (by omega) (by omega)) (fun b hb => Hot3.away hb.2.1 hb.2.2.1 hb.2.2.2.1)); have HT2 := hd hT2; have HO2 := hd hO2; have HBw2 := hd hBw2; clear hT2 hO2 hBw2))
      have hs3 := hO3.size
      have hs2 := HO2.out.size
      have HOw := hd (show ∀ g, Value.ownBlock (.slice Ao pn co) = some g → g = x from fun g e => by
        cases hA : Ao with
        | none => rw [hA] at e; cases e
        | some ad' => rw [hA] at e; have e' : some ad'.block = some g := e; injection e' with e'; rw [HXA.out ad' hA] at e'; exact e'.symm)
      have Own3 := hd (hO3.own (HO2.out.own Own1.out (fun g e => by rw [HOw.out g e]; exact Hot3.away (by omega) (by omega) (by omega))) (fun g e => by rw [HOw.out g e]; omega))
      have HT3 := hd (HT2.out.off hO3 (by omega) (by omega) (by omega) (by omega) (fun b hb => hb.1.2.2.2))
      have HO3 := hd hO3
      have HU3 := hd hU3
      have HBw3 := hd (HBw2.out.trans (hO3.below (B := w.heap.size) (by omega) (fun b hb => by omega)))
      clear hO3 hU3
      go_loopw [14] (fun i wi => ∃ j l', j ≤ pn ∧ i = .int .i64 ((j : Nat) : Int) ∧ Hd (l'.length = pn ∧ OwnB wi wo.heap.size (.slice Ao pn co) l' ∧ Off (fun b => b = x) w3 wi)) (fun i _ => (pn - intOf i).toNat)
      case atStart => exact ⟨0, pt, by omega, rfl, hd ⟨Hpl.out, Own3.out, Off.refl _⟩⟩
      case round =>
        obtain ⟨j, l', hj, rfl, HL⟩ := hrel
        by_cases hjl : j < pn
        · have t3 : (j : Int) < (pn : Int) := by omega
          have t4 : (0 : Int) ≤ (j : Int) := by omega
          have w4 : IntKind.i64.wrap ((j : Int) + 1) = (j : Int) + 1 := IntWalk.i64_in _ (by omega)
          obtain ⟨g', cap, ef, h3, h4, h5⟩ := HL.out.2.1.form (by rw [HL.out.1]; omega)
          have hA : Ao = some ⟨x, 0, none⟩ := by injection ef with e1 e2 e3; rw [HXA.out _ e1] at e1; exact e1
          subst hA
          have own' := hd (show OwnB wr wo.heap.size (.slice (some ⟨x, 0, none⟩) l'.length co) l' by rw [HL.out.1]; exact HL.out.2.1)
          have hcj := own'.out.cell j (by rw [HL.out.1]; exact hjl)
          have hfj := own'.out.frozen j
          clear ef
          go_wp2
          go_roundw
          case rel => exact ⟨j + 1, l'.set j (nth l' j + 1), by omega, by congr 1 <;> omega, hd ⟨by rw [List.length_set]; exact HL.out.1, by have h := own'.out.set_ j (nth l' j + 1); rw [HL.out.1] at h; exact h, HL.out.2.2.trans (Off.of_grown (grew_setCell (World.grownBy.refl wr (some x)) j _) (fun k e => by injection e with e; exact e.symm))⟩⟩
          case measure => simp [intOf] <;> omega
        · obtain rfl : j = pn := by omega
          have t3 : ¬ (j : Int) < (j : Int) := by omega
          go_upto_if 60 with fail
          obtain ⟨w4, rfl⟩ : ∃ w4 : World, w4 = wr := ⟨_, rfl⟩
          have hO4 := HL.out.2.2
          have hs4 := hO4.size
          have HT4 := hd ((HT3.out.off hO4 (by omega) (by omega) (by omega) (by omega) (fun b hb => hb.2)).mono (fun b hb => hb.1))
          have HU4 := hd ((HU3.out.off (Zq := fun b => w2.heap.size ≤ b) hO4 (by omega) (fun b hb h => by omega)).mono (Zr := Clear t g1 g2 g3 u) (fun b _ hb => ⟨by omega, by omega, by omega, by omega, by omega⟩))
          have HBw4 := hd (HBw3.out.trans (hO4.below (B := w.heap.size) (by omega) (fun b hb => by omega)))
          clear hO4
          go_cut [] (fun wx => ∃ g1 g2 g3 m, Both w.heap.size wx t u g1 g2 g3 m ∧ Hd (m.length ≤ 68 + (joined (ps.take (k + 1))).length) ∧ Hd (m.length ≤ 1048644) ∧ Below w.heap.size w wx)
          case first =>
            have HM4 := hd HM'.out.1
            have HM5 := hd HM'.out.2.1
            obtain ⟨m4, H4⟩ : ∃ x, Hd (m ++ pt = x) := ⟨_, ⟨rfl⟩⟩
            rw [H4.out] at HT4 HU4 HM4 HM5
            have htl := HT4.out.box.lt
            have hl1 := HT4.out.d1.lt
            have hl2 := HT4.out.d2.lt
            have hl3 := HT4.out.d3.lt
            have hul : u < w4.heap.size := by obtain ⟨_, _, h, _⟩ := HU4.out; exact h.lt
            have HTb4 := hd (htb0.below HBw4.out)
            have HB4 := hd (show Both w.heap.size w4 t u g1 g2 g3 m4 from ⟨HF.out, Iu, Iu1, Iu2, Iu3, In1, In2, In3, In4, In5, HT4.out, HU4.out⟩)
            by_cases he : (k : Int) = rt
            · subst he
              by_cases hh : h = 1 ∨ h = 2 ∨ h = 3
              · have HH := hd hh
                clear hh
                go_wp2_with (first | (go_at_call 15; refine (rretry_some h HH.out u _ m4 w5 HU5.out (by have := HM5.out; omega)).mono ?_; rintro e w6 ⟨rfl, hU6, hO6⟩) | (go_at_call 14; refine (retry_some h HH.out u t g1 g2 g3 _ m4 w4 HT4.out HTb4.out (by omega) hul).mono ?_; rintro e w5 ⟨rfl, k1, k2, k3, F5, hk1, hk2, hk3, hT5, hO5⟩; have HU5 := hd (HU4.out.off hO5 Iu (fun b hb => hb.1)); have HT5 := hd hT5; have HO5 := hd hO5; have HF5 := hd F5; clear hT5 hO5 F5))
                go_meet
                have hs5 := HO5.out.size
                have k1l := HT5.out.d1.lt
                have k2l := HT5.out.d2.lt
                have k3l := HT5.out.d3.lt
                have hT6 := HT5.out.off hO6 (by omega) (by omega) (by omega) (by omega) (fun b hb => hb.2.2.2)
                have hU6' := hU6.mono (Zr := Clear t k1 k2 k3 u) (fun b _ hb => ⟨by omega, by omega, by omega, by omega, by omega⟩)
                have hlen : ([254, 0, 0] ++ Sched.count (Sha.sum h m4)).length ≤ 68 := by
                  rw [List.length_append, Sched.count_len, Sha.sum_len]
                  have := Mac.size_le h
                  simp; omega
                have h56 : Below w.heap.size w4 w6 := (HO5.out.below (by omega) (fun b hb => by omega)).trans (hO6.below (by omega) (fun b hb => by omega))
                exact ⟨k1, k2, k3, _, ⟨HF5.out, Iu, by omega, by omega, by omega, In1, In2, by omega, by omega, by omega, hT6, hU6'⟩, hd (by omega), hd (by omega), HBw4.out.trans h56⟩
              · have HN := hd hh
                clear hh
                go_wp2_with (first | (go_at_call 15; refine (rretry_none h HN.out u _ m4 w4 HU4.out (by have := HM5.out; omega)).mono ?_; rintro e w6 ⟨rfl, hB6⟩) | (go_at_call 14; refine (retry_none h HN.out _ w4).mono ?_; rintro e w5 ⟨rfl, rfl⟩))
                go_meet
                exact ⟨g1, g2, g3, m4, HB4.out.below hB6, HM4, HM5, HBw4.out.trans (hB6.mono (by omega))⟩
            · go_wp2
              go_meet
              exact ⟨g1, g2, g3, m4, HB4.out, HM4, HM5, HBw4.out⟩
          case rest =>
            clear HT3 HU3 HT4 HU4 HBw4 HBw3 HBw2 HBw1 HM' HF HT2 HU2 HU1 HT1 HI Hm
            obtain ⟨g1, g2, g3, m, hI, hmk, HL2, hBx⟩ := hcut
            have HI := hd hI
            have HL := HL2
            have HBx := hd hBx
            clear hI hBx HL2
            obtain ⟨wx, rfl⟩ : ∃ wx : World, wx = wc := ⟨_, rfl⟩
            obtain ⟨S1, HS1⟩ : ∃ x, Hd (Sha.sum h (m ++ prt) = x) := ⟨_, ⟨rfl⟩⟩
            obtain ⟨S2, HS2⟩ : ∃ x, Hd (Sha.sum h m = x) := ⟨_, ⟨rfl⟩⟩
            obtain ⟨S3, HS3⟩ : ∃ x, Hd (Sha.sum 2 m = x) := ⟨_, ⟨rfl⟩⟩
            have r3 : ReadsB wx wx.heap.size A3 n3 prt := ⟨hr3.len, (hr3.is.below HBx.out).more HBx.out.size⟩
            have htb := htb0.below HBx.out
            have hsx := HBx.out.size
            have wk : IntKind.i64.wrap ((k : Int) + 1) = (k : Int) + 1 := IntWalk.i64_in _ (by omega)
            go_upto_region 19 with fail
            refine p_start (Held wx [] []) (by kernel_rfl) (Held.nil (Below.refl _ _).drew) ?_
            refine p_take 0 (o := _) rfl (by kernel_rfl) (by kernel_rfl) (by kernel_rfl) (wanted_plain rfl) (.pointer (some ⟨t, 0, none⟩)) (fun _ _ _ h => h) (fun W hW => run_move (by rfl) (by simp [Act.eval]) W) ?_
            simp only [Act.put, List.getElem_toArray, List.getElem_cons_succ, List.getElem_cons_zero, List.setIfInBounds_toArray, List.set_cons_zero, List.set_cons_succ]
            refine p_take 1 (o := _) rfl (by kernel_rfl) (by kernel_rfl) (by kernel_rfl) (wanted_plain rfl) (.int .i64 h) (fun _ _ _ h => h) (fun W hW => run_move (by rfl) (by simp [Act.eval]) W) ?_
            simp only [Act.put, List.getElem_toArray, List.getElem_cons_succ, List.getElem_cons_zero, List.setIfInBounds_toArray, List.set_cons_zero, List.set_cons_succ]
            refine p_take 2 (o := _) rfl (by kernel_rfl) (by kernel_rfl) (by kernel_rfl) (wanted_plain rfl) (.slice A3 n3 c3) (fun _ _ _ h => h) (fun W hW => run_move (by rfl) (by simp [Act.eval]) W) ?_
            simp only [Act.put, List.getElem_toArray, List.getElem_cons_succ, List.getElem_cons_zero, List.setIfInBounds_toArray, List.set_cons_zero, List.set_cons_succ]
            refine p_take 5 (o := _) rfl (by kernel_rfl) (by kernel_rfl) (by kernel_rfl) (wanted_plain rfl) (.pointer (some ⟨u, 0, none⟩)) (fun _ _ _ h => h) (fun W hW => run_move (by rfl) (by simp [Act.eval]) W) ?_
            simp only [Act.put, List.getElem_toArray, List.getElem_cons_succ, List.getElem_cons_zero, List.setIfInBounds_toArray, List.set_cons_zero, List.set_cons_succ]
            refine p_take 6 (o := _) rfl (by kernel_rfl) (by kernel_rfl) (by kernel_rfl) (wanted_plain rfl) (.int .i64 h) (fun _ _ _ h => h) (fun W hW => run_move (by rfl) (by simp [Act.eval]) W) ?_
            simp only [Act.put, List.getElem_toArray, List.getElem_cons_succ, List.getElem_cons_zero, List.setIfInBounds_toArray, List.set_cons_zero, List.set_cons_succ]
            refine p_take 7 (o := _) rfl (by kernel_rfl) (by kernel_rfl) (by kernel_rfl) (wanted_plain rfl) (.slice A3 n3 c3) (fun _ _ _ h => h) (fun W hW => run_move (by rfl) (by simp [Act.eval]) W) ?_
            simp only [Act.put, List.getElem_toArray, List.getElem_cons_succ, List.getElem_cons_zero, List.setIfInBounds_toArray, List.set_cons_zero, List.set_cons_succ]
            refine p_one 3 (by kernel_rfl) (fun W hW _ => ?_)
            refine op_call (o := _) rfl (wanted_plain rfl) 16 _ _ rfl #[.pointer (some ⟨t, 0, none⟩), .int .i64 h, .slice A3 n3 c3] (by simp [Act.eval]) (enter_with _) ?_
            refine (with_any h t g1 g2 g3 _ m A3 n3 c3 prt W (HI.out.tr.below (hW.old)) (hW.reads0 r3) (by omega) (hW.tabs htb)).mono ?_
            rintro e W' ⟨v, rfl, own, hE⟩
            rw [HS1.out] at own
            obtain ⟨Aa, ca, e1⟩ := own.slice
            obtain ⟨na, Hna⟩ : ∃ x, Hd (List.length S1 = x) := ⟨_, ⟨rfl⟩⟩
            rw [Hna.out] at e1
            subst e1
            have hrd : ReadsB W' W'.heap.size Aa na S1 := ⟨Hna.out, own.reads_any.2.is⟩
            have hN : Held wx (⟨Aa, na, ca, S1⟩ :: []) [] W' := (hW.below hE).cons hrd
            refine ⟨_, rfl, Next.mk (Held wx (⟨Aa, na, ca, S1⟩ :: []) []) (fun _ => True) (fun _ h => h.tail) hN trivial ?_⟩
            clear hN hrd own hE hW
            simp only [Act.put, List.getElem_toArray, List.getElem_cons_succ, List.getElem_cons_zero, List.setIfInBounds_toArray, List.set_cons_zero, List.set_cons_succ]
            refine p_take 4 (o := _) rfl (by kernel_rfl) (by kernel_rfl) (by kernel_rfl) (wanted_plain rfl) (.string (str S1)) (fun _ _ _ h => h) (fun W hW => run_toStr (by rfl) Tryd.underlying23 Tryd.underlying5 Tryd.underlying9 _ Aa na ca S1 (by simp [Act.eval]) (hW.reads ⟨Aa, na, ca, S1⟩ (by simp))) ?_
            simp only [Act.put, List.getElem_toArray, List.getElem_cons_succ, List.getElem_cons_zero, List.setIfInBounds_toArray, List.set_cons_zero, List.set_cons_succ]
            refine p_one 8 (by kernel_rfl) (fun W hW _ => ?_)
            refine op_call (o := _) rfl (wanted_plain rfl) 17 _ _ rfl #[.pointer (some ⟨u, 0, none⟩), .int .i64 h, .slice A3 n3 c3] (by simp [Act.eval]) (rtr_enter_with _) ?_
            refine (rwith_any h u _ m A3 n3 c3 prt W (HI.out.said.below (hW.old)) (hW.reads0 r3) (by have := HL.out; omega)).mono ?_
            rintro e W' ⟨v, rfl, own, hE⟩
            rw [HS1.out] at own
            obtain ⟨Ab, cb, e1⟩ := own.slice
            obtain ⟨nb, Hnb⟩ : ∃ x, Hd (List.length S1 = x) := ⟨_, ⟨rfl⟩⟩
            rw [Hnb.out] at e1
            subst e1
            have hrd : ReadsB W' W'.heap.size Ab nb S1 := ⟨Hnb.out, own.reads_any.2.is⟩
            have hN : Held wx (⟨Ab, nb, cb, S1⟩ :: [⟨Aa, na, ca, S1⟩]) [] W' := (hW.below hE).cons hrd
            refine ⟨_, rfl, Next.mk (Held wx (⟨Ab, nb, cb, S1⟩ :: [⟨Aa, na, ca, S1⟩]) []) (fun _ => True) (fun _ h => h.tail) hN trivial ?_⟩
            clear hN hrd own hE hW
            simp only [Act.put, List.getElem_toArray, List.getElem_cons_succ, List.getElem_cons_zero, List.setIfInBounds_toArray, List.set_cons_zero, List.set_cons_succ]
            refine p_take 9 (o := _) rfl (by kernel_rfl) (by kernel_rfl) (by kernel_rfl) (wanted_plain rfl) (.string (str S1)) (fun _ _ _ h => h) (fun W hW => run_toStr (by rfl) Tryd.underlying23 Tryd.underlying5 Tryd.underlying9 _ Ab nb cb S1 (by simp [Act.eval]) (hW.reads ⟨Ab, nb, cb, S1⟩ (by simp))) ?_
            simp only [Act.put, List.getElem_toArray, List.getElem_cons_succ, List.getElem_cons_zero, List.setIfInBounds_toArray, List.set_cons_zero, List.set_cons_succ]
            refine p_take 10 (o := _) rfl (by kernel_rfl) (by kernel_rfl) (by kernel_rfl) (wanted_plain rfl) (.bool false) (fun _ _ _ h => h) (fun W hW => run_neqF (by rfl) S1 S1 (rfl) (by simp [Act.eval]) (by simp [Act.eval]) W) ?_
            simp only [Act.put, List.getElem_toArray, List.getElem_cons_succ, List.getElem_cons_zero, List.setIfInBounds_toArray, List.set_cons_zero, List.set_cons_succ]
            refine p_take 11 (o := _) rfl (by kernel_rfl) (by kernel_rfl) (by kernel_rfl) (wanted_plain rfl) (.bool false) (fun _ _ _ h => h) (fun W hW => run_move (by rfl) (by simp [Act.eval]) W) ?_
            simp only [Act.put, List.getElem_toArray, List.getElem_cons_succ, List.getElem_cons_zero, List.setIfInBounds_toArray, List.set_cons_zero, List.set_cons_succ]
            refine p_take 12 (o := _) rfl (by kernel_rfl) (by kernel_rfl) (by kernel_rfl) (by simp [Region.wanted, yielded]) (.pointer (some ⟨t, 0, none⟩)) (fun _ _ _ h => h) (fun W hW => run_move (by rfl) (by simp [Act.eval]) W) ?_
            simp only [Act.put, List.getElem_toArray, List.getElem_cons_succ, List.getElem_cons_zero, List.setIfInBounds_toArray, List.set_cons_zero, List.set_cons_succ]
            refine p_take 13 (o := _) rfl (by kernel_rfl) (by kernel_rfl) (by kernel_rfl) (by simp [Region.wanted, yielded]) (.int .i64 h) (fun _ _ _ h => h) (fun W hW => run_move (by rfl) (by simp [Act.eval]) W) ?_
            simp only [Act.put, List.getElem_toArray, List.getElem_cons_succ, List.getElem_cons_zero, List.setIfInBounds_toArray, List.set_cons_zero, List.set_cons_succ]
            refine p_take 16 (o := _) rfl (by kernel_rfl) (by kernel_rfl) (by kernel_rfl) (by simp [Region.wanted, yielded]) (.pointer (some ⟨u, 0, none⟩)) (fun _ _ _ h => h) (fun W hW => run_move (by rfl) (by simp [Act.eval]) W) ?_
            simp only [Act.put, List.getElem_toArray, List.getElem_cons_succ, List.getElem_cons_zero, List.setIfInBounds_toArray, List.set_cons_zero, List.set_cons_succ]
            refine p_take 17 (o := _) rfl (by kernel_rfl) (by kernel_rfl) (by kernel_rfl) (by simp [Region.wanted, yielded]) (.int .i64 h) (fun _ _ _ h => h) (fun W hW => run_move (by rfl) (by simp [Act.eval]) W) ?_
            simp only [Act.put, List.getElem_toArray, List.getElem_cons_succ, List.getElem_cons_zero, List.setIfInBounds_toArray, List.set_cons_zero, List.set_cons_succ]
            refine p_one 14 (by kernel_rfl) (fun W hW _ => ?_)
            refine op_call (o := _) rfl (by simp [Region.wanted, yielded]) 18 _ _ rfl #[.pointer (some ⟨t, 0, none⟩), .int .i64 h] (by simp [Act.eval]) (enter_sum _) ?_
            refine (tsum_any h t g1 g2 g3 _ m W (HI.out.tr.below (hW.old)) (hW.tabs htb)).mono ?_
            rintro e W' ⟨v, rfl, own, hE⟩
            rw [HS2.out] at own
            obtain ⟨Ac, cc, e1⟩ := own.slice
            obtain ⟨nc, Hnc⟩ : ∃ x, Hd (List.length S2 = x) := ⟨_, ⟨rfl⟩⟩
            rw [Hnc.out] at e1
            subst e1
            have hrd : ReadsB W' W'.heap.size Ac nc S2 := ⟨Hnc.out, own.reads_any.2.is⟩
            have hN : Held wx (⟨Ac, nc, cc, S2⟩ :: [⟨Ab, nb, cb, S1⟩, ⟨Aa, na, ca, S1⟩]) [] W' := (hW.below hE).cons hrd
            refine ⟨_, rfl, Next.mk (Held wx (⟨Ac, nc, cc, S2⟩ :: [⟨Ab, nb, cb, S1⟩, ⟨Aa, na, ca, S1⟩]) []) (fun _ => True) (fun _ h => h.tail) hN trivial ?_⟩
            clear hN hrd own hE hW
            simp only [Act.put, List.getElem_toArray, List.getElem_cons_succ, List.getElem_cons_zero, List.setIfInBounds_toArray, List.set_cons_zero, List.set_cons_succ]
            refine p_take 15 (o := _) rfl (by kernel_rfl) (by kernel_rfl) (by kernel_rfl) (by simp [Region.wanted, yielded]) (.string (str S2)) (fun _ _ _ h => h) (fun W hW => run_toStr (by rfl) Tryd.underlying23 Tryd.underlying5 Tryd.underlying9 _ Ac nc cc S2 (by simp [Act.eval]) (hW.reads ⟨Ac, nc, cc, S2⟩ (by simp))) ?_
            simp only [Act.put, List.getElem_toArray, List.getElem_cons_succ, List.getElem_cons_zero, List.setIfInBounds_toArray, List.set_cons_zero, List.set_cons_succ]
            refine p_one 18 (by kernel_rfl) (fun W hW _ => ?_)
            refine op_call (o := _) rfl (by simp [Region.wanted, yielded]) 19 _ _ rfl #[.pointer (some ⟨u, 0, none⟩), .int .i64 h] (by simp [Act.eval]) (rtr_enter_sum _) ?_
            refine (rsum_any h u _ m W (HI.out.said.below (hW.old)) (by have := HL.out; omega)).mono ?_
            rintro e W' ⟨v, rfl, own, hE⟩
            rw [HS2.out] at own
            obtain ⟨Ad, cd, e1⟩ := own.slice
            obtain ⟨nd, Hnd⟩ : ∃ x, Hd (List.length S2 = x) := ⟨_, ⟨rfl⟩⟩
            rw [Hnd.out] at e1
            subst e1
            have hrd : ReadsB W' W'.heap.size Ad nd S2 := ⟨Hnd.out, own.reads_any.2.is⟩
            have hN : Held wx (⟨Ad, nd, cd, S2⟩ :: [⟨Ac, nc, cc, S2⟩, ⟨Ab, nb, cb, S1⟩, ⟨Aa, na, ca, S1⟩]) [] W' := (hW.below hE).cons hrd
            refine ⟨_, rfl, Next.mk (Held wx (⟨Ad, nd, cd, S2⟩ :: [⟨Ac, nc, cc, S2⟩, ⟨Ab, nb, cb, S1⟩, ⟨Aa, na, ca, S1⟩]) []) (fun _ => True) (fun _ h => h.tail) hN trivial ?_⟩
            clear hN hrd own hE hW
            simp only [Act.put, List.getElem_toArray, List.getElem_cons_succ, List.getElem_cons_zero, List.setIfInBounds_toArray, List.set_cons_zero, List.set_cons_succ]
            refine p_take 19 (o := _) rfl (by kernel_rfl) (by kernel_rfl) (by kernel_rfl) (by simp [Region.wanted, yielded]) (.string (str S2)) (fun _ _ _ h => h) (fun W hW => run_toStr (by rfl) Tryd.underlying23 Tryd.underlying5 Tryd.underlying9 _ Ad nd cd S2 (by simp [Act.eval]) (hW.reads ⟨Ad, nd, cd, S2⟩ (by simp))) ?_
            simp only [Act.put, List.getElem_toArray, List.getElem_cons_succ, List.getElem_cons_zero, List.setIfInBounds_toArray, List.set_cons_zero, List.set_cons_succ]
            refine p_take 20 (o := _) rfl (by kernel_rfl) (by kernel_rfl) (by kernel_rfl) (by simp [Region.wanted, yielded]) (.bool false) (fun _ _ _ h => h) (fun W hW => run_neqF (by rfl) S2 S2 (rfl) (by simp [Act.eval]) (by simp [Act.eval]) W) ?_
            simp only [Act.put, List.getElem_toArray, List.getElem_cons_succ, List.getElem_cons_zero, List.setIfInBounds_toArray, List.set_cons_zero, List.set_cons_succ]
            refine p_take 21 (o := _) rfl (by kernel_rfl) (by kernel_rfl) (by kernel_rfl) (wanted_plain rfl) (.bool false) (fun _ _ _ h => h) (fun W hW => run_pick (b := false) (by rfl) (by simp [Act.eval]) (by simp [Act.eval]) W) ?_
            simp only [Act.put, List.getElem_toArray, List.getElem_cons_succ, List.getElem_cons_zero, List.setIfInBounds_toArray, List.set_cons_zero, List.set_cons_succ]
            refine p_take 22 (o := _) rfl (by kernel_rfl) (by kernel_rfl) (by kernel_rfl) (wanted_plain rfl) (.bool false) (fun _ _ _ h => h) (fun W hW => run_move (by rfl) (by simp [Act.eval]) W) ?_
            simp only [Act.put, List.getElem_toArray, List.getElem_cons_succ, List.getElem_cons_zero, List.setIfInBounds_toArray, List.set_cons_zero, List.set_cons_succ]
            refine p_take 23 (o := _) rfl (by kernel_rfl) (by kernel_rfl) (by kernel_rfl) (by simp [Region.wanted, yielded]) (.pointer (some ⟨t, 0, none⟩)) (fun _ _ _ h => h) (fun W hW => run_move (by rfl) (by simp [Act.eval]) W) ?_
            simp only [Act.put, List.getElem_toArray, List.getElem_cons_succ, List.getElem_cons_zero, List.setIfInBounds_toArray, List.set_cons_zero, List.set_cons_succ]
            refine p_take 26 (o := _) rfl (by kernel_rfl) (by kernel_rfl) (by kernel_rfl) (by simp [Region.wanted, yielded]) (.pointer (some ⟨u, 0, none⟩)) (fun _ _ _ h => h) (fun W hW => run_move (by rfl) (by simp [Act.eval]) W) ?_
            simp only [Act.put, List.getElem_toArray, List.getElem_cons_succ, List.getElem_cons_zero, List.setIfInBounds_toArray, List.set_cons_zero, List.set_cons_succ]
            refine p_one 24 (by kernel_rfl) (fun W hW _ => ?_)
            refine op_call (o := _) rfl (by simp [Region.wanted, yielded]) 18 _ _ rfl #[.pointer (some ⟨t, 0, none⟩), .int .i64 2] (by simp [Act.eval]) (enter_sum _) ?_
            refine (tsum_any 2 t g1 g2 g3 _ m W (HI.out.tr.below (hW.old)) (hW.tabs htb)).mono ?_
            rintro e W' ⟨v, rfl, own, hE⟩
            rw [HS3.out] at own
            obtain ⟨Ae, ce, e1⟩ := own.slice
            obtain ⟨ne, Hne⟩ : ∃ x, Hd (List.length S3 = x) := ⟨_, ⟨rfl⟩⟩
            rw [Hne.out] at e1
            subst e1
            have hrd : ReadsB W' W'.heap.size Ae ne S3 := ⟨Hne.out, own.reads_any.2.is⟩
            have hN : Held wx (⟨Ae, ne, ce, S3⟩ :: [⟨Ad, nd, cd, S2⟩, ⟨Ac, nc, cc, S2⟩, ⟨Ab, nb, cb, S1⟩, ⟨Aa, na, ca, S1⟩]) [] W' := (hW.below hE).cons hrd
            refine ⟨_, rfl, Next.mk (Held wx (⟨Ae, ne, ce, S3⟩ :: [⟨Ad, nd, cd, S2⟩, ⟨Ac, nc, cc, S2⟩, ⟨Ab, nb, cb, S1⟩, ⟨Aa, na, ca, S1⟩]) []) (fun _ => True) (fun _ h => h.tail) hN trivial ?_⟩
            clear hN hrd own hE hW
            simp only [Act.put, List.getElem_toArray, List.getElem_cons_succ, List.getElem_cons_zero, List.setIfInBounds_toArray, List.set_cons_zero, List.set_cons_succ]
            refine p_take 25 (o := _) rfl (by kernel_rfl) (by kernel_rfl) (by kernel_rfl) (by simp [Region.wanted, yielded]) (.string (str S3)) (fun _ _ _ h => h) (fun W hW => run_toStr (by rfl) Tryd.underlying23 Tryd.underlying5 Tryd.underlying9 _ Ae ne ce S3 (by simp [Act.eval]) (hW.reads ⟨Ae, ne, ce, S3⟩ (by simp))) ?_
            simp only [Act.put, List.getElem_toArray, List.getElem_cons_succ, List.getElem_cons_zero, List.setIfInBounds_toArray, List.set_cons_zero, List.set_cons_succ]
            refine p_one 27 (by kernel_rfl) (fun W hW _ => ?_)
            refine op_call (o := _) rfl (by simp [Region.wanted, yielded]) 19 _ _ rfl #[.pointer (some ⟨u, 0, none⟩), .int .i64 2] (by simp [Act.eval]) (rtr_enter_sum _) ?_
            refine (rsum_any 2 u _ m W (HI.out.said.below (hW.old)) (by have := HL.out; omega)).mono ?_
            rintro e W' ⟨v, rfl, own, hE⟩
            rw [HS3.out] at own
            obtain ⟨Af, cf, e1⟩ := own.slice
            obtain ⟨nf, Hnf⟩ : ∃ x, Hd (List.length S3 = x) := ⟨_, ⟨rfl⟩⟩
            rw [Hnf.out] at e1
            subst e1
            have hrd : ReadsB W' W'.heap.size Af nf S3 := ⟨Hnf.out, own.reads_any.2.is⟩
            have hN : Held wx (⟨Af, nf, cf, S3⟩ :: [⟨Ae, ne, ce, S3⟩, ⟨Ad, nd, cd, S2⟩, ⟨Ac, nc, cc, S2⟩, ⟨Ab, nb, cb, S1⟩, ⟨Aa, na, ca, S1⟩]) [] W' := (hW.below hE).cons hrd
            refine ⟨_, rfl, Next.mk (Held wx (⟨Af, nf, cf, S3⟩ :: [⟨Ae, ne, ce, S3⟩, ⟨Ad, nd, cd, S2⟩, ⟨Ac, nc, cc, S2⟩, ⟨Ab, nb, cb, S1⟩, ⟨Aa, na, ca, S1⟩]) []) (fun _ => True) (fun _ h => h.tail) hN trivial ?_⟩
            clear hN hrd own hE hW
            simp only [Act.put, List.getElem_toArray, List.getElem_cons_succ, List.getElem_cons_zero, List.setIfInBounds_toArray, List.set_cons_zero, List.set_cons_succ]
            refine p_take 28 (o := _) rfl (by kernel_rfl) (by kernel_rfl) (by kernel_rfl) (by simp [Region.wanted, yielded]) (.string (str S3)) (fun _ _ _ h => h) (fun W hW => run_toStr (by rfl) Tryd.underlying23 Tryd.underlying5 Tryd.underlying9 _ Af nf cf S3 (by simp [Act.eval]) (hW.reads ⟨Af, nf, cf, S3⟩ (by simp))) ?_
            simp only [Act.put, List.getElem_toArray, List.getElem_cons_succ, List.getElem_cons_zero, List.setIfInBounds_toArray, List.set_cons_zero, List.set_cons_succ]
            refine p_take 29 (o := _) rfl (by kernel_rfl) (by kernel_rfl) (by kernel_rfl) (by simp [Region.wanted, yielded]) (.bool false) (fun _ _ _ h => h) (fun W hW => run_neqF (by rfl) S3 S3 (rfl) (by simp [Act.eval]) (by simp [Act.eval]) W) ?_
            simp only [Act.put, List.getElem_toArray, List.getElem_cons_succ, List.getElem_cons_zero, List.setIfInBounds_toArray, List.set_cons_zero, List.set_cons_succ]
            refine p_take 30 (o := _) rfl (by kernel_rfl) (by kernel_rfl) (by kernel_rfl) (wanted_plain rfl) (.bool false) (fun _ _ _ h => h) (fun W hW => run_pick (b := false) (by rfl) (by simp [Act.eval]) (by simp [Act.eval]) W) ?_
            simp only [Act.put, List.getElem_toArray, List.getElem_cons_succ, List.getElem_cons_zero, List.setIfInBounds_toArray, List.set_cons_zero, List.set_cons_succ]
            refine p_done (by kernel_rfl) (fun W hW => ?_) _
            go_wp2
            go_roundw
            case rel => exact ⟨k + 1, g1, g2, g3, m, by omega, by congr 1 <;> omega, HI.out.below hW.old, hmk.out, HBx.out.trans (hW.old.mono hsx)⟩
            case measure => simp [intOf] <;> omega
    · have ek : ¬ (k : Int) < (n1 : Int) := by omega
      go_wp2
      go_ret
      exact ⟨rfl, HB.out⟩

theorem tr_all (h : Int) (A1 : Option Addr) (n1 c1 : Nat) (ps : List Part) (rt : Int) (A3 : Option Addr) (n3 c3 : Nat) (prt : List UInt8) (w : World) (hp : Parts w w.heap.size A1 n1 ps) (hn1 : n1 ≤ 1048576) (hj : (joined ps).length ≤ 1048576) (hr3 : ReadsB w w.heap.size A3 n3 prt) (hc3 : n3 ≤ c3) (hn3 : n3 ≤ 1048576) (htb0 : Tabs w) :
    Calls Tryd.prog 4 #[.int .i64 h, .slice A1 n1 c1, .int .i64 rt, .slice A3 n3 c3] w fun e w' => e = .returned (.bool true) ∧ Below w.heap.size w w' := tr_law h A1 n1 c1 ps rt A3 n3 c3 prt w hp hn1 hj hr3 hn3 htb0
end Go.Proofs.YtkacibgbpeeflaaDoor
