/-
  Times written, plain.
-/
import Derived.Test.YthkggeohdclffaaDoorTimD
import Derived.Test.YthkggeohdclffaaDoorDerB
set_option linter.unusedVariables false
set_option linter.unusedSimpArgs false
set_option maxRecDepth 100000
namespace Go.Proofs.YthkggeohdclffaaDoor
namespace Cal
/-- A number's two digits. -/
def d1 (x : Nat) : UInt8 := UInt8.ofNat (48 + x / 10)
def d0 (x : Nat) : UInt8 := UInt8.ofNat (48 + x % 10)
def dg (x : Nat) : List UInt8 := [d1 x, d0 x]
theorem n8_ofNat (k : Nat) (h : k < 256) : n8 (UInt8.ofNat k) = k := by
  unfold n8
  rw [UInt8.toNat_ofNat']
  omega
theorem d1_is (x : Nat) (h : x ≤ 99) : n8 (d1 x) = 48 + x / 10 := n8_ofNat _ (by omega)
theorem d0_is (x : Nat) : n8 (d0 x) = 48 + x % 10 := n8_ofNat _ (by omega)
theorem d1_digit (x : Nat) (h : x ≤ 99) : inSet digits (d1 x) = true := (digit_is _).2 (by rw [d1_is x h]; omega)
theorem d0_digit (x : Nat) : inSet digits (d0 x) = true := (digit_is _).2 (by rw [d0_is x]; omega)
theorem dg_back (x : Nat) (h : x ≤ 99) : 10 * dv (d1 x) + dv (d0 x) = x := by
  unfold dv
  rw [d1_is x h, d0_is x]
  omega
/-- Fourteen digits. -/
def wT (y m d h i s : Nat) : List UInt8 := [d1 (y / 100), d0 (y / 100), d1 (y % 100), d0 (y % 100), d1 m, d0 m, d1 d, d0 d, d1 h, d0 h, d1 i, d0 i, d1 s, d0 s]
theorem wT_len (y m d h i s : Nat) : (wT y m d h i s).length = 14 := rfl
theorem wT_digits {y m d h i s : Nat} (hy : y ≤ 9999) (hm : m ≤ 99) (hd : d ≤ 99) (hh : h ≤ 99) (hi : i ≤ 99) (hs : s ≤ 99) : allD (wT y m d h i s) := by
  intro c hc
  simp only [wT, List.mem_cons, List.not_mem_nil, or_false] at hc
  rcases hc with rfl | rfl | rfl | rfl | rfl | rfl | rfl | rfl | rfl | rfl | rfl | rfl | rfl | rfl
  · exact d1_digit _ (by omega)
  · exact d0_digit _
  · exact d1_digit _ (by omega)
  · exact d0_digit _
  · exact d1_digit _ hm
  · exact d0_digit _
  · exact d1_digit _ hd
  · exact d0_digit _
  · exact d1_digit _ hh
  · exact d0_digit _
  · exact d1_digit _ hi
  · exact d0_digit _
  · exact d1_digit _ hs
  · exact d0_digit _
theorem wT_six {y m d h i s : Nat} (hy : y ≤ 9999) (hm : m ≤ 99) (hd : d ≤ 99) (hh : h ≤ 99) (hi : i ≤ 99) (hs : s ≤ 99) :
    six (wT y m d h i s) 0 = y ∧ six (wT y m d h i s) 1 = m ∧ six (wT y m d h i s) 2 = d ∧ six (wT y m d h i s) 3 = h ∧ six (wT y m d h i s) 4 = i ∧ six (wT y m d h i s) 5 = s := by
  refine ⟨?_, dg_back m hm, dg_back d hd, dg_back h hh, dg_back i hi, dg_back s hs⟩
  have e1 := dg_back (y / 100) (by omega)
  have e2 := dg_back (y % 100) (by omega)
  have e3 : pr (wT y m d h i s) 0 = 10 * dv (d1 (y / 100)) + dv (d0 (y / 100)) := rfl
  have e4 : pr (wT y m d h i s) 1 = 10 * dv (d1 (y % 100)) + dv (d0 (y % 100)) := rfl
  unfold six
  rw [if_pos rfl, e3, e4, e1, e2]
  omega
/-- A time's day, 2180438 set on; its second within the day. -/
def dayN (t : Int) : Nat := (t / 86400 + 2180438).toNat
def secN (t : Int) : Nat := (t % 86400).toNat
/-- May it be written? -/
def InRange (t : Int) : Prop := -62135596800 ≤ t ∧ t ≤ 253402300799
theorem dayN_is {t : Int} (h : InRange t) : ((dayN t : Nat) : Int) = t / 86400 + 2180438 ∧ ((secN t : Nat) : Int) = t % 86400 ∧ secN t < 86400 ∧ 1461276 ≤ dayN t ∧ dayN t ≤ 5113334 := by
  obtain ⟨h1, h2⟩ := h
  unfold dayN secN
  omega
theorem jan_1 : jan 1 = 1461276 := by unfold jan N; rfl
theorem jan_10000 : jan 10000 = 5113335 := by unfold jan N; rfl
theorem dayN_date {t : Int} (h : InRange t) : 4000 ≤ zOf (dayN t) ∧ Valid (yOf (dayN t)) (mOf (dayN t)) (dOf (dayN t)) ∧ day (yOf (dayN t)) (mOf (dayN t)) (dOf (dayN t)) = dayN t ∧ 1 ≤ yOf (dayN t) ∧ yOf (dayN t) ≤ 9999 ∧ yInt (dayN t) = (yOf (dayN t) : Int) := by
  obtain ⟨_, _, _, h4, h5⟩ := dayN_is h
  have hz : 4000 ≤ zOf (dayN t) := z_of_ge (by have h6 := jan_1; unfold jan at h6; rw [show 1 + 3999 = 4000 from rfl] at h6; omega)
  obtain ⟨hv, hd⟩ := date_valid _ hz
  have hin := in_year hv
  rw [hd] at hin
  refine ⟨hz, hv, hd, ?_, ?_, ?_⟩
  · rcases Nat.eq_zero_or_pos (yOf (dayN t)) with h0 | h0
    · rw [h0] at hin
      have := jan_1
      rw [show 0 + 1 = 1 from rfl, this] at hin
      omega
    · exact h0
  · rcases Nat.lt_or_ge (yOf (dayN t)) 10000 with h0 | h0
    · omega
    · have := jan_mono 10000 (yOf (dayN t) - 10000)
      rw [show 10000 + (yOf (dayN t) - 10000) = yOf (dayN t) by omega, jan_10000] at this
      omega
  · unfold yInt yOf
    split <;> omega
/-- A time's digits. -/
def T14 (t : Int) : List UInt8 := wT (yOf (dayN t)) (mOf (dayN t)) (dOf (dayN t)) (secN t / 3600) (secN t / 60 % 60) (secN t % 60)
/-- A time, written. -/
def putT (t : Int) : List UInt8 := if 1950 ≤ yOf (dayN t) ∧ yOf (dayN t) < 2050 then Der.put 23 ((T14 t).drop 2 ++ [90]) else Der.put 24 (T14 t ++ [90])
theorem T14_len (t : Int) : (T14 t).length = 14 := rfl
theorem date_le {y m d : Nat} (h : Valid y m d) : m ≤ 12 ∧ d ≤ 31 := by
  obtain ⟨h1, h2, h3, h4⟩ := h
  refine ⟨h2, Nat.le_trans h4 ?_⟩
  unfold month
  split
  · omega
  · split
    · split <;> omega
    · omega
theorem T14_form {t : Int} (h : InRange t) : (1950 ≤ yOf (dayN t) ∧ yOf (dayN t) < 2050 → Form 23 ((T14 t).drop 2 ++ [90]) (T14 t)) ∧ Form 24 (T14 t ++ [90]) (T14 t) ∧ OK (T14 t) ∧ FIN (T14 t) = t := by
  obtain ⟨hz, hv, hd, hy1, hy2, _⟩ := dayN_date h
  obtain ⟨k1, k2, k3, _, _⟩ := dayN_is h
  obtain ⟨hm, hdd⟩ := date_le hv
  have hD : allD (T14 t) := wT_digits hy2 (by omega) (by omega) (by omega) (by omega) (by omega)
  have h6 := wT_six (y := yOf (dayN t)) (m := mOf (dayN t)) (d := dOf (dayN t)) (h := secN t / 3600) (i := secN t / 60 % 60) (s := secN t % 60) hy2 (by omega) (by omega) (by omega) (by omega) (by omega)
  have hok : OK (T14 t) := by
    unfold OK T14
    rw [h6.1, h6.2.1, h6.2.2.1, h6.2.2.2.1, h6.2.2.2.2.1, h6.2.2.2.2.2]
    exact ⟨hy1, hv, by omega, by omega, by omega⟩
  have hfin : FIN (T14 t) = t := by
    unfold FIN T14 fin
    rw [h6.1, h6.2.1, h6.2.2.1, h6.2.2.2.1, h6.2.2.2.2.1, h6.2.2.2.2.2, hd]
    omega
  refine ⟨fun hr => ⟨(T14 t).drop 2, rfl, fun c hc => hD c (List.mem_of_mem_drop hc), .inl ⟨rfl, rfl, ?_⟩⟩, ⟨T14 t, rfl, hD, .inr ⟨rfl, rfl, rfl⟩⟩, hok, hfin⟩
  have e0 : nth ((T14 t).drop 2) 0 = d1 (yOf (dayN t) % 100) := rfl
  have e1 : T14 t = [d1 (yOf (dayN t) / 100), d0 (yOf (dayN t) / 100)] ++ (T14 t).drop 2 := rfl
  rw [e0, d1_is _ (by omega)]
  rcases (show yOf (dayN t) / 100 = 19 ∨ yOf (dayN t) / 100 = 20 by omega) with h19 | h20
  · rw [if_pos (by omega)]
    rw [h19] at e1
    exact e1
  · rw [if_neg (by omega)]
    rw [h20] at e1
    exact e1
end Cal
end Go.Proofs.YthkggeohdclffaaDoor
