/-
  The field of 2^128 elements that Galois counter mode reckons in: products share out over XOR, may be turned round and grouped otherwise, have a 1 and no zero divisors. In plain Lean.
-/
import Derived.Test.YtbnhjgknffcjeaaMem
set_option linter.unusedVariables false
set_option linter.unusedSimpArgs false
namespace Go.Proofs.Ytbnhjgknffcjeaa
namespace Gf
abbrev B := BitVec 128
def R : B := 0xe1000000000000000000000000000000#128
def one : B := 0x80000000000000000000000000000000#128
/-- Times x: the highest bit is the coefficient of 1. -/
def up (x : B) : B := (x >>> 1) ^^^ (if x.getLsbD 0 then R else 0#128)
def co (x : B) (i : Nat) : Bool := x.getLsbD (127 - i)
def upN : Nat → B → B
  | 0, x => x
  | n + 1, x => up (upN n x)
def pick (b : Bool) (x : B) : B := if b then x else 0#128
def mulTo : Nat → B → B → B
  | 0, _, _ => 0#128
  | n + 1, a, b => mulTo n a b ^^^ pick (co b n) (upN n a)
def mul (a b : B) : B := mulTo 128 a b
theorem xor4 (a b c d : B) : (a ^^^ b) ^^^ (c ^^^ d) = (a ^^^ c) ^^^ (b ^^^ d) := by ac_rfl
theorem pick_xor (b : Bool) (x y : B) : pick b (x ^^^ y) = pick b x ^^^ pick b y := by cases b <;> simp [pick]
theorem pick_bit (b c : Bool) (x : B) : pick (b ^^ c) x = pick b x ^^^ pick c x := by cases b <;> cases c <;> simp [pick]
theorem pick_zero (b : Bool) : pick b 0#128 = 0#128 := by cases b <;> rfl
theorem up_eq (x : B) : up x = (x >>> 1) ^^^ pick (x.getLsbD 0) R := rfl
theorem up_xor (x y : B) : up (x ^^^ y) = up x ^^^ up y := by
  rw [up_eq, up_eq, up_eq, BitVec.ushiftRight_xor_distrib, BitVec.getLsbD_xor, pick_bit, xor4]
theorem up_zero : up 0#128 = 0#128 := rfl
theorem up_pick (b : Bool) (x : B) : up (pick b x) = pick b (up x) := by cases b <;> simp [pick, up_zero]
theorem co_xor (x y : B) (i : Nat) : co (x ^^^ y) i = (co x i ^^ co y i) := BitVec.getLsbD_xor
theorem co_zero (i : Nat) : co 0#128 i = false := BitVec.getLsbD_zero
theorem upN_xor (n : Nat) (x y : B) : upN n (x ^^^ y) = upN n x ^^^ upN n y := by
  induction n with
  | zero => rfl
  | succ n ih => rw [upN, ih, up_xor]; rfl
theorem upN_zero (n : Nat) : upN n 0#128 = 0#128 := by
  induction n with
  | zero => rfl
  | succ n ih => rw [upN, ih, up_zero]
theorem upN_up (n : Nat) (x : B) : upN n (up x) = up (upN n x) := by
  induction n with
  | zero => rfl
  | succ n ih => rw [upN, ih]; rfl
theorem upN_add (n m : Nat) (x : B) : upN (n + m) x = upN n (upN m x) := by
  induction n with
  | zero => rw [Nat.zero_add]; rfl
  | succ n ih => rw [Nat.succ_add, upN, ih]; rfl
theorem mulTo_xor_left (n : Nat) (a a' b : B) : mulTo n (a ^^^ a') b = mulTo n a b ^^^ mulTo n a' b := by
  induction n with
  | zero => simp [mulTo]
  | succ n ih => rw [mulTo, ih, upN_xor, pick_xor, xor4]; rfl
theorem mulTo_xor_right (n : Nat) (a b b' : B) : mulTo n a (b ^^^ b') = mulTo n a b ^^^ mulTo n a b' := by
  induction n with
  | zero => simp [mulTo]
  | succ n ih => rw [mulTo, ih, co_xor, pick_bit, xor4]; rfl
theorem mulTo_zero_left (n : Nat) (b : B) : mulTo n 0#128 b = 0#128 := by
  induction n with
  | zero => rfl
  | succ n ih => rw [mulTo, ih, upN_zero, pick_zero]; rfl
theorem mulTo_zero_right (n : Nat) (a : B) : mulTo n a 0#128 = 0#128 := by
  induction n with
  | zero => rfl
  | succ n ih => rw [mulTo, ih, co_zero]; simp [pick]
theorem mulTo_up (n : Nat) (a b : B) : mulTo n (up a) b = up (mulTo n a b) := by
  induction n with
  | zero => exact up_zero.symm
  | succ n ih => rw [mulTo, ih, upN_up, mulTo, up_xor, up_pick]
theorem mul_xor_left (a a' b : B) : mul (a ^^^ a') b = mul a b ^^^ mul a' b := mulTo_xor_left _ _ _ _
theorem mul_xor_right (a b b' : B) : mul a (b ^^^ b') = mul a b ^^^ mul a b' := mulTo_xor_right _ _ _ _
theorem mul_zero_left (b : B) : mul 0#128 b = 0#128 := mulTo_zero_left _ _
theorem mul_zero_right (a : B) : mul a 0#128 = 0#128 := mulTo_zero_right _ _
theorem mul_up (a b : B) : mul (up a) b = up (mul a b) := mulTo_up _ _ _
theorem base_step : ∀ k : Fin 127, up (BitVec.twoPow 128 (k.val + 1)) = BitVec.twoPow 128 k.val := by decide +kernel
theorem base (n : Nat) (h : n < 128) : upN n one = BitVec.twoPow 128 (127 - n) := by
  induction n with
  | zero => rfl
  | succ n ih =>
    rw [upN, ih (by omega)]
    have := base_step ⟨127 - (n + 1), by omega⟩
    rw [← this, show (127 - (n + 1)) + 1 = 127 - n by omega]
theorem mulTo_one_bit (n : Nat) (hn : n ≤ 128) (a : B) (j : Nat) (hj : j < 128) : (mulTo n one a).getLsbD j = (decide (127 < j + n) && a.getLsbD j) := by
  induction n with
  | zero => rw [mulTo]; simp; omega
  | succ n ih =>
    rw [mulTo, BitVec.getLsbD_xor, ih (by omega), base n (by omega), pick, co]
    by_cases h : a.getLsbD (127 - n)
    · rw [if_pos h, BitVec.getLsbD_twoPow]
      by_cases hjn : 127 - n = j
      · subst hjn
        rw [h]
        simp [show ¬ 127 < 127 - n + n by omega, show 127 < 127 - n + (n + 1) by omega, show 127 - n < 128 by omega]
      · by_cases h2 : 127 < j + n
        · simp [hjn, h2, show 127 < j + (n + 1) by omega]
        · simp [hjn, h2, show ¬ 127 < j + (n + 1) by omega]
    · rw [if_neg h]
      by_cases hjn : 127 - n = j
      · subst hjn
        simp at h
        simp [h]
      · by_cases h2 : 127 < j + n
        · simp [h2, show 127 < j + (n + 1) by omega]
        · simp [h2, show ¬ 127 < j + (n + 1) by omega]
theorem one_mul (a : B) : mul one a = a := by
  apply BitVec.eq_of_getLsbD_eq
  intro j hj
  rw [mul, mulTo_one_bit 128 (by omega) a j hj]
  simp [show 127 < j + 128 by omega]
/-- What holds of 0 and 1, and is kept by XOR and by 'times x', holds of all. -/
theorem gen {P : B → Prop} (h0 : P 0#128) (h1 : P one) (hx : ∀ a b, P a → P b → P (a ^^^ b)) (hu : ∀ a, P a → P (up a)) (a : B) : P a := by
  have hN : ∀ n, P (upN n one) := by
    intro n
    induction n with
    | zero => exact h1
    | succ n ih => exact hu _ ih
  have : ∀ n, P (mulTo n one a) := by
    intro n
    induction n with
    | zero => exact h0
    | succ n ih =>
      refine hx _ _ ih ?_
      cases co a n
      · exact h0
      · exact hN n
  have h := this 128
  rwa [show mulTo 128 one a = a from one_mul a] at h
theorem mul_one (a : B) : mul a one = a := by
  refine gen (P := fun a => mul a one = a) (mul_zero_left _) (one_mul _) (fun a b ha hb => ?_) (fun a ha => ?_) a
  · rw [mul_xor_left, ha, hb]
  · rw [mul_up, ha]
theorem mul_up_right (a b : B) : mul a (up b) = up (mul a b) := by
  refine gen (P := fun a => mul a (up b) = up (mul a b)) ?_ ?_ (fun a c ha hc => ?_) (fun a ha => ?_) a
  · rw [mul_zero_left, mul_zero_left, up_zero]
  · rw [one_mul, one_mul]
  · rw [mul_xor_left, ha, hc, mul_xor_left, up_xor]
  · rw [mul_up, ha, mul_up]
theorem mul_comm (a b : B) : mul a b = mul b a := by
  refine gen (P := fun b => mul a b = mul b a) ?_ ?_ (fun b c hb hc => ?_) (fun b hb => ?_) b
  · rw [mul_zero_left, mul_zero_right]
  · rw [one_mul, mul_one]
  · rw [mul_xor_left, mul_xor_right, hb, hc]
  · rw [mul_up, mul_up_right, hb]
theorem mul_assoc (a b c : B) : mul (mul a b) c = mul a (mul b c) := by
  refine gen (P := fun a => mul (mul a b) c = mul a (mul b c)) ?_ ?_ (fun a d ha hd => ?_) (fun a ha => ?_) a
  · rw [mul_zero_left, mul_zero_left, mul_zero_left]
  · rw [one_mul, one_mul]
  · rw [mul_xor_left, mul_xor_left, mul_xor_left, ha, hd]
  · rw [mul_up, mul_up, mul_up, ha]
def sq (a : B) : B := mul a a
theorem sq_xor (a b : B) : sq (a ^^^ b) = sq a ^^^ sq b := by
  rw [sq, mul_xor_left, mul_xor_right, mul_xor_right, mul_comm b a, show ∀ p q r : B, (p ^^^ q) ^^^ (q ^^^ r) = p ^^^ r from fun p q r => by
    rw [BitVec.xor_assoc, ← BitVec.xor_assoc q q r, BitVec.xor_self, BitVec.zero_xor]]
  rfl
theorem sq_zero : sq 0#128 = 0#128 := mul_zero_left _
theorem sq_one : sq one = one := one_mul _
theorem sq_mul (a b : B) : sq (mul a b) = mul (sq a) (sq b) := by
  unfold sq
  rw [mul_assoc, ← mul_assoc b a b, mul_comm b a, mul_assoc a b b, ← mul_assoc a a]
def sqN : Nat → B → B
  | 0, a => a
  | n + 1, a => sq (sqN n a)
theorem sqN_xor (n : Nat) (a b : B) : sqN n (a ^^^ b) = sqN n a ^^^ sqN n b := by
  induction n with
  | zero => rfl
  | succ n ih => rw [sqN, ih, sq_xor]; rfl
theorem sqN_zero (n : Nat) : sqN n 0#128 = 0#128 := by
  induction n with
  | zero => rfl
  | succ n ih => rw [sqN, ih, sq_zero]
theorem sqN_one (n : Nat) : sqN n one = one := by
  induction n with
  | zero => rfl
  | succ n ih => rw [sqN, ih, sq_one]
theorem sqN_mul (n : Nat) (a b : B) : sqN n (mul a b) = mul (sqN n a) (sqN n b) := by
  induction n with
  | zero => rfl
  | succ n ih => rw [sqN, ih, sq_mul]; rfl
/-- A sum of what f says, at the places where x has a one. -/
def lin (f : Nat → B) : Nat → B → B
  | 0, _ => 0#128
  | n + 1, x => lin f n x ^^^ pick (co x n) (f n)
theorem lin_xor (f : Nat → B) (n : Nat) (x y : B) : lin f n (x ^^^ y) = lin f n x ^^^ lin f n y := by
  induction n with
  | zero => simp [lin]
  | succ n ih => rw [lin, ih, co_xor, pick_bit, xor4]; rfl
theorem lin_zero (f : Nat → B) (n : Nat) : lin f n 0#128 = 0#128 := by
  induction n with
  | zero => rfl
  | succ n ih => rw [lin, ih, co_zero]; simp [pick]
theorem additive (F : B → B) (h0 : F 0#128 = 0#128) (hx : ∀ a b, F (a ^^^ b) = F a ^^^ F b) (a : B) : F a = lin (fun i => F (upN i one)) 128 a := by
  have : ∀ n, F (mulTo n one a) = lin (fun i => F (upN i one)) n a := by
    intro n
    induction n with
    | zero => exact h0
    | succ n ih =>
      rw [mulTo, hx, ih, lin]
      congr 1
      cases co a n
      · exact h0
      · rfl
  have h := this 128
  rwa [show mulTo 128 one a = a from one_mul a] at h
theorem lin_congr {f g : Nat → B} (n : Nat) (h : ∀ i, i < n → f i = g i) (x : B) : lin f n x = lin g n x := by
  induction n with
  | zero => rfl
  | succ n ih => rw [lin, ih fun i hi => h i (by omega), h n (by omega)]; rfl
theorem additive_eq {F G : B → B} (hF0 : F 0#128 = 0#128) (hF : ∀ a b, F (a ^^^ b) = F a ^^^ F b) (hG0 : G 0#128 = 0#128) (hG : ∀ a b, G (a ^^^ b) = G a ^^^ G b) (h : ∀ i, i < 128 → F (upN i one) = G (upN i one)) (a : B) : F a = G a := by
  rw [additive F hF0 hF, additive G hG0 hG]
  exact lin_congr 128 h a
-- the same on numbers, for the kernel
def linR : Nat → List Nat → Nat → Nat
  | n + 1, c :: l, x => Nat.xor (linR n l x) (cond (Nat.testBit x (127 - n)) c 0)
  | _, _, _ => 0
def upto (f : Nat → B) : Nat → List Nat
  | 0 => []
  | n + 1 => (f n).toNat :: upto f n
theorem lin_toNat (f : Nat → B) (n : Nat) (x : B) : (lin f n x).toNat = linR n (upto f n) x.toNat := by
  induction n with
  | zero => rfl
  | succ n ih =>
    rw [lin, BitVec.toNat_xor, ih, upto, linR]
    show (_ : Nat) ^^^ (_ : Nat) = (_ : Nat) ^^^ (_ : Nat)
    congr 1
    rw [pick, co, BitVec.getLsbD]
    cases x.toNat.testBit (127 - n) <;> rfl
def upR (x : Nat) : Nat := Nat.xor (x >>> 1) (cond (Nat.testBit x 0) 299076299051606071403356588563077529600 0)
theorem up_toNat (x : B) : (up x).toNat = upR x.toNat := by
  rw [up_eq, BitVec.toNat_xor, BitVec.toNat_ushiftRight, upR]
  show (_ : Nat) ^^^ (_ : Nat) = (_ : Nat) ^^^ (_ : Nat)
  congr 1
  rw [pick, BitVec.getLsbD]
  cases x.toNat.testBit 0 <;> rfl
def S : List Nat := [305763977405398929388903867835113013251, 37384537381450758925419573570384691214, 149538149525803035701678294281538764856, 225, 900, 3600, 14400, 57600, 230400, 921600, 3686400, 14745600, 58982400, 235929600, 943718400, 3774873600, 15099494400, 60397977600, 241591910400, 966367641600, 3865470566400, 15461882265600, 61847529062400, 247390116249600, 989560464998400, 3958241859993600, 15832967439974400, 63331869759897600, 253327479039590400, 1013309916158361600, 4053239664633446400, 16212958658533785600, 64851834634135142400, 259407338536540569600, 1037629354146162278400, 4150517416584649113600, 16602069666338596454400, 66408278665354385817600, 265633114661417543270400, 1062532458645670173081600, 4250129834582680692326400, 17000519338330722769305600, 68002077353322891077222400, 272008309413291564308889600, 1088033237653166257235558400, 4352132950612665028942233600, 17408531802450660115768934400, 69634127209802640463075737600, 278536508839210561852302950400, 1114146035356842247409211801600, 4456584141427368989636847206400, 17826336565709475958547388825600, 71305346262837903834189555302400, 285221385051351615336758221209600, 1140885540205406461347032884838400, 4563542160821625845388131539353600, 18254168643286503381552526157414400, 73016674573146013526210104629657600, 292066698292584054104840418518630400, 1168266793170336216419361674074521600, 4673067172681344865677446696298086400, 18692268690725379462709786785192345600, 74769074762901517850839147140769382400, 
  299076299051606071403356588563077529600, 2, 8, 32, 128, 512, 2048, 8192, 32768, 131072, 524288, 2097152, 8388608, 33554432, 134217728, 536870912, 2147483648, 8589934592, 34359738368, 137438953472, 549755813888, 2199023255552, 8796093022208, 35184372088832, 140737488355328, 562949953421312, 2251799813685248, 9007199254740992, 36028797018963968, 144115188075855872, 576460752303423488, 2305843009213693952, 9223372036854775808, 36893488147419103232, 147573952589676412928, 590295810358705651712, 2361183241434822606848, 9444732965739290427392, 37778931862957161709568, 151115727451828646838272, 604462909807314587353088, 2417851639229258349412352, 9671406556917033397649408, 38685626227668133590597632, 154742504910672534362390528, 618970019642690137449562112, 2475880078570760549798248448, 9903520314283042199192993792, 39614081257132168796771975168, 158456325028528675187087900672, 633825300114114700748351602688, 2535301200456458802993406410752, 10141204801825835211973625643008, 40564819207303340847894502572032, 162259276829213363391578010288128, 649037107316853453566312041152512, 2596148429267413814265248164610048, 10384593717069655257060992658440192, 41538374868278621028243970633760768, 166153499473114484112975882535043072, 664613997892457936451903530140172288, 2658455991569831745807614120560689152, 10633823966279326983230456482242756608, 42535295865117307932921825928971026432, 170141183460469231731687303715884105728]
def chkS : List Nat → Bool
  | [] => true
  | [a] => a == 170141183460469231731687303715884105728
  | a :: b :: l => a == upR (upR b) && chkS (b :: l)
theorem chkS_ok : ∀ (n : Nat) (l : List Nat), l.length = n → chkS l = true → l = upto (fun i => upN (2 * i) one) n
  | 0, [], _, _ => rfl
  | 1, [a], _, h => by
    have h : a = 170141183460469231731687303715884105728 := by simpa [chkS] using h
    rw [h]; rfl
  | n + 2, a :: b :: l, hl, h => by
    rw [chkS, Bool.and_eq_true] at h
    have ih := chkS_ok (n + 1) (b :: l) (by simpa using hl) h.2
    rw [ih, upto]
    congr 1
    have ha : a = upR (upR b) := by simpa using h.1
    have hb : b = (upN (2 * n) one).toNat := by rw [upto] at ih; injection ih
    rw [ha, hb, ← up_toNat, ← up_toNat]
    rfl
  | 0, _ :: _, hl, _ => by simp at hl
  | n + 1, [], hl, _ => by simp at hl
  | n + 2, [_], hl, _ => by simp at hl
theorem S_ok : S = upto (fun i => upN (2 * i) one) 128 := chkS_ok 128 S (by decide +kernel) (by decide +kernel)
theorem sq_base (i : Nat) : sq (upN i one) = upN (2 * i) one := by
  have : ∀ n x, mul (upN n one) x = upN n x := by
    intro n x
    induction n with
    | zero => exact one_mul x
    | succ n ih => rw [upN, mul_up, ih]; rfl
  rw [sq, this, ← upN_add, Nat.two_mul]
theorem sq_lin (x : B) : sq x = lin (fun i => upN (2 * i) one) 128 x := by
  rw [additive sq sq_zero sq_xor]
  exact lin_congr 128 (fun i _ => sq_base i) x
theorem sq_toNat (x : B) : (sq x).toNat = linR 128 S x.toNat := by rw [sq_lin, lin_toNat, S_ok]
def chain : List Nat := [85070591730234615865843651857942052864, 42535295865117307932921825928971026432, 10633823966279326983230456482242756608, 664613997892457936451903530140172288, 2596148429267413814265248164610048, 39614081257132168796771975168, 9223372036854775808, 299076299051606071403356588563077529600, 223320687885582936303096647119756328960, 181439622058466316765484364476618637312, 170808393606790959443136713929011494912, 170143779648512580402633737760820723712, 170141183500083312998042844553285730304, 128935115591136839677961803087095005184, 26521923513571051041719120380595011584, 2713827814269182967778813927160283136, 19892309668726792795704411864237637640, 299897182589127159334264933479155400801, 159959758286485747050506419494376347345, 60525571083703940089607738420903979245, 209028883661647972087190873557067101568, 244050288576999060854378104821219929480, 237124357734750947154885079710004979137, 241433926662288477711420685110953489857, 244676285958628288050097968055285260259, 207624115730074607518965360287154315741, 45542536947308703482228433553521892404, 196875341648970848998312455873843130148, 268802494694071371274580153178105082024, 203098531765952221901263434944936830931, 89635207793561493853031727954670226635, 17635536657554160223891345761552251654, 112489354486133924937594606953927062558, 103542367381657779604032134892329681779, 19099574584433948515609566233580374867, 62115640240044381482841550280024960971, 50391228177221979819227125881791319300, 
  163695713725096451390993957098536584760, 41734415099232896947411929953982010711, 234562838271090350528670298339903111163, 96139727577274542912306893714895809048, 28368503231412555867187261962821942245, 203416903988108335017923413065992258531, 214259016414980319051799350134543084407, 73761869416664513792330957753545523659, 24632501774629228702992643922598158118, 113456367860289333607009297114367807630, 160653902476767024414754363815833781237, 254556726520323479364746206855480305863, 4526227804035031471510524530990904287, 134786544889666418473682136460080270514, 291303763298723517696563179989188587186, 139812049077265991715376779331566419600, 260696688444144022815847602138927665670, 332355165341978746073769615818200980028, 317717234933355194415885652434082185071, 274610808979437739965964759769346097198, 28801240844297479428334315665000247021, 229841481223330373219039180653320414504, 140375587621047260250014972709801025785, 45391486184925167126930174384492543006, 123384984270966172455561567439734926201, 321794773840327928520107016027662330812, 70861984667100364040012540112209736303, 148340141898206687063724843373059155590, 221090557989910989731917926507314198846, 82107999243414323334944566005053956931, 54693193818181484431854231401205703879, 114536429382317831486454820622538248701, 115564013791287421977695069983604732462, 228926611396314964875483011635444102383, 74321643873517566600337472819924213644, 202229157046156339513618629722341687123, 
  157409786558764528257684997350612823395, 294563800109893142238943126137925063391, 260885161595022357435290198221328107578, 251031254701039333738288871179620003195, 93335358315670370022835900135914926392, 37022851862275889642258560040094869845, 157396171043600723384219653110421305181, 125152375311858254124736471056591340958, 204118166209598140060728681112589250131, 216285818026694108828300809445219224393, 244033976791019852612000492304906626208, 124253523478711657314458879051421582746, 293616368445771820056566621625277032043, 186639441330219146939608000567819265044, 37660355283750314002486891758976393534, 128624545538626592230258248048941663049, 46064705648526900308498297178837823146, 260036059617357365198688971228453385693, 291073779213099574970310706157201503772, 310785363655102026426914113103925009399, 272506523232356647620379317271510663777, 226218601711134272319338586873534916345, 247103177204134515436166145119768316982, 296059664219031399650613090778401687298, 177125429678148108093716318237016710788, 56547780582645960279259354298804941592, 83593973713936815885639057414611377989, 226778970597582024864124484835733948113, 191022259757708288983048059641732530789, 36571037404758589115503605558346024163, 33873532655115029667423043523058474335, 133442055764004579282253164311215922968, 269156978868230004550242805540229117255, 263077746039643153986979754687578242813, 167997739037989486942123477009247278, 245359703656536202643261748345171078861, 
  319669061538528860558562957135884659632, 93889542977846094186452460275144478876, 110569990996931783534670918714759856375, 227500060518238923954784790963950870243, 99606112796630066198039008929586982741, 174405506854454285586332880354897487229, 30197492982161167704480518383037698446, 247147745240409908531404287514350405079, 71492541200904486072911206743184881241, 73015403472221726317851518097686579468, 216919812705488069028661448664747747067, 209898397545949153745892400055909254160, 128865345721593477062749972881714209158, 220227872485849155213274304514117291316, 34003972662229264603835496269624822572, 98297600919465554377191492341797370083, 71019247396963060562882697576803300823, 120474473878528672766517451866316838489, 50130884412459684338974012517024680228, 85070591730234615865843651857942052864]
def chkC : List Nat → Bool
  | a :: b :: l => linR 128 S a == b && chkC (b :: l)
  | _ => true
theorem chkC_ok : ∀ (l : List Nat) (a : Nat) (x : B), chkC (a :: l) = true → x.toNat = a → ∀ n, n ≤ l.length → (a :: l)[n]? = some (sqN n x).toNat
  | _, a, x, _, hx, 0, _ => by rw [sqN, hx]; rfl
  | b :: l, a, x, h, hx, n + 1, hn => by
    rw [chkC, Bool.and_eq_true] at h
    have hb : linR 128 S a = b := by simpa using h.1
    have h2 := chkC_ok l b (sq x) h.2 (by rw [sq_toNat, hx, hb]) n (by simpa using hn)
    rw [show sqN (n + 1) x = sqN n (sq x) from by
      clear h2 hn
      induction n with
      | zero => rfl
      | succ n ih => rw [sqN, ih]; rfl]
    rw [← h2]; rfl
  | [], _, _, _, _, n + 1, hn => by simp at hn
def X : B := up one
theorem sqN_of (a : Nat) (l : List Nat) (h : chkC (a :: l) = true) (hl : l.length = 128) (h0 : X.toNat = a) (h1 : (a :: l)[128]? = some X.toNat) : sqN 128 X = X := by
  have h := chkC_ok l a X h h0 128 (by omega)
  have h2 := Option.some.inj (h1.symm.trans h)
  exact (BitVec.eq_of_toNat_eq h2).symm
theorem sqN_if (c : List Nat) (h : chkC c = true) (hl : c.length = 129) (h0 : c[0]? = some X.toNat) (h1 : c[128]? = some X.toNat) : sqN 128 X = X := by
  rcases c with _ | ⟨a, l⟩
  · simp at hl
  · exact sqN_of a l h (by simpa using hl) (by simpa using h0.symm) h1
theorem sqN_X : sqN 128 X = X := sqN_if chain (by decide +kernel) (by decide +kernel) (by decide +kernel) (by decide +kernel)
theorem up_X (a : B) : up a = mul X a := by rw [X, mul_up, one_mul]
theorem sqN_all (a : B) : sqN 128 a = a := by
  refine gen (P := fun a => sqN 128 a = a) (sqN_zero _) (sqN_one _) (fun a b ha hb => ?_) (fun a ha => ?_) a
  · rw [sqN_xor, ha, hb]
  · rw [up_X, sqN_mul, sqN_X, ha]
def K : List Nat := [0, 6161591008139076202154902373133594561, 71430717218983613641036104277415506289, 87518597585245962833849474628053070758, 72921817864677867521778898634038080609, 163309321578052146879237778733101511783, 126814247099887467207929949960147586332, 133487668004820722767044853458355047125, 108887185710678174598840578861931466132, 72978216601350599296199603180564021825, 126976600203468727039316187211004055892, 49689517519420395515082114066310337331, 12764899024296983899235621676887115841, 59792954277794326371429463258526948146, 275464514806027128612938827324864, 33882886127255646541338116557250298163, 133385434108064708788808215410435911893, 153238470225796905537047657204766862374, 127777348636302309636952298273557535380, 58594334107495617071392172125656399538, 5725366257701666555538562805218717057, 159324042485362592547018579093184240551, 149021274876537960721224429182834492454, 94333773739946854309780815578084996199, 161752945482599484730126084874801441767, 115575792119390728221592460023876181333, 133436244703473040169882794575366898389, 34751610155981195849944733847405496627, 100972845268357601278728964017462078439, 44935323831972008745566419208193456946, 132003651752985294974180122299820886164, 45594221442569777339127844318073854322, 100983558286137050684044238585428660711, 140308235276559149970208740923126577813, 92325303522414418149753570460923091879, 26944628100264108509229864938392397555, 81071795988965022717357904530596407232, 58275656592719279154056000246173111091, 
  51613027339492204128265575524803459891, 142140898696765075202304690604976981845, 53639910565545342273528145980335791795, 4726979706490419237355323591502507968, 161542955870533464563010084267448332775, 65334779303751560239471195525024588352, 122557457634345817322758110469731963540, 79569572988994598121356082874814992321, 9537274821874957483351388617584152641, 109427184872331881977228478262674814292, 96504253903287235160744645914913229863, 35809052500294759256374056413191545715, 63089105448741488643398279942380763954, 84108490886122099842324906724524496768, 161537358671016203777973217828391545831, 49921000058860506912943830473554996979, 113870918609522322281985099445019275925, 45994406431766860863727072382817147250, 6116654749483988959971426010360459777, 88394181539591460295416373139500891046, 93226277353508642900164249188457535015, 123506241354959402090274531190302866772, 72992884249465865451566362034747193217, 123492369307601207700488716387690115284, 67288019353279926038130604499846823936, 96617416833907240315124182200439430055, 6161591008139076220601646446843146177, 87518597585245962796955986480633967526, 163309321578052146805450802438263305319, 133487668004820722619470900868678634197, 72978216601350599591347508359916847681, 49689517519420396105377924425015989043, 59792954277794325190837842541115644722, 33882886127255648902521357992072905011, 153238470225796900814681174335121648678, 58594334107495626516125137864946826930, 159324042485362573657552647614603385767, 
  94333773739946892088712678535246705767, 115575792119390803779456185938199600469, 34751610155981346965672185676052334899, 44935323831971706514111515550899780402, 45594221442570381802037651632661207410, 140308235276560358896028355552301283989, 26944628100266526360869094196741809907, 58275656592714443450777541729474286387, 142140898696755403795747773571579332437, 4726979706471076424241489524707209152, 65334779303712874613243527391433990720, 79569572989071969373811419141996187585, 109427184872177139472317805728312423764, 35809052500604244266195401481916326771, 84108490886741069861967596861974058880, 49921000057622566873658450198655872755, 45994406429290980785156311833018898802, 88394181544543220452557894239097387942, 123506241345055881775991488991109872980, 123492369287794167071922631989304127700, 96617416873521321572256350997211405223, 87518597506017800282691648887090017190, 133487668163277047647999576055766534869, 49689517202507746048320574050840187699, 33882886761080949016636058740424507699, 58594332839845026287895736368243621554, 94333771204645691632253875541840295015, 34751615226583747878589791662865156403, 45594211301365579976202439659035564402, 26944648382676130012539518143993095923, 142140858131936196492406925677076760405, 65334698174074460006561831602428846656, 109427022612900310258954414150302135636, 84108166368187411435240813705953482624, 45993757392183663931702745520977746290, 123504943270841248069084356367027567956, 96614820725092054158442085749046795175, 
  133492860460135582475628106552095754965, 33893271354798018671893119733082947891, 94354540392079830942767997527157175399, 45552672926497301355174195688401803634, 142223934881672753734463413618344281941, 109593176112373424743067390032837178708, 46326064391129892899928697286047832434, 95950206727199596221990182218906622887, 32564043359013102798989312672802603315, 42894216934927469609366581567841114482, 114910088095513088234682618273958557012, 85316382760920269238759725736663866279, 64161864867486123575827494532326627698, 127851678626037577171681551665634892711, 42781086895802961305837899807692839847, 22349210433241643211303706255459310228]
def Kf (i : Nat) : B := BitVec.ofNat 128 (K.getD (127 - i) 0)
theorem K_ok : upto Kf 128 = K := by decide +kernel
def chkK : Nat → Nat → List Nat → Bool
  | n + 1, b, s :: l => (linR 128 K (Nat.xor s b) == b) && chkK n (b * 2) l
  | _, _, _ => true
theorem chkK_ok : ∀ (n : Nat) (f : Nat → B) (b : Nat), chkK n b (upto f n) = true → ∀ i, i < n → linR 128 K (Nat.xor (f i).toNat (b * 2 ^ (n - 1 - i))) = b * 2 ^ (n - 1 - i)
  | n + 1, f, b, h, i, hi => by
    rw [upto, chkK, Bool.and_eq_true] at h
    rcases Nat.lt_or_ge i n with hlt | hge
    · have := chkK_ok n f (b * 2) h.2 i hlt
      rwa [Nat.mul_assoc, ← Nat.pow_succ', show (n - 1 - i).succ = n + 1 - 1 - i by omega] at this
    · have : i = n := by omega
      subst this
      have := h.1
      simpa using this
theorem K_base (i : Nat) (h0 : 0 < i) (h : i < 128) : lin Kf 128 (sq (upN i one) ^^^ upN i one) = upN i one := by
  apply BitVec.eq_of_toNat_eq
  rw [lin_toNat, K_ok, BitVec.toNat_xor, sq_base, base i h, BitVec.toNat_twoPow_of_lt (by omega)]
  have hc : chkK 127 1 (upto (fun i => upN (2 * (i + 1)) one) 127) = true := by
    have hs : upto (fun i => upN (2 * (i + 1)) one) 127 = S.take 127 := by
      rw [S_ok]
      have : ∀ n, upto (fun i => upN (2 * (i + 1)) one) n = (upto (fun i => upN (2 * i) one) (n + 1)).take n := by
        intro n
        induction n with
        | zero => rfl
        | succ n ih =>
          rw [upto, ih]
          conv => rhs; rw [upto, List.take_succ_cons]
      exact this 127
    rw [hs]
    decide +kernel
  have := chkK_ok 127 _ 1 hc (i - 1) (by omega)
  rw [show i - 1 + 1 = i by omega, Nat.one_mul, show 127 - 1 - (i - 1) = 127 - i by omega] at this
  exact this
/-- What is its own square is 0 or 1. -/
theorem idem (e : B) (h : sq e = e) : e = 0#128 ∨ e = one := by
  have hF : ∀ a, lin Kf 128 (sq a ^^^ a) = a ^^^ pick (co a 0) one := by
    refine additive_eq (F := fun a => lin Kf 128 (sq a ^^^ a)) (G := fun a => a ^^^ pick (co a 0) one) ?_ (fun a b => ?_) rfl (fun a b => ?_) (fun i hi => ?_)
    · show lin Kf 128 (sq 0#128 ^^^ 0#128) = _
      rw [sq_zero, BitVec.xor_self, lin_zero]
    · show lin Kf 128 (sq (a ^^^ b) ^^^ (a ^^^ b)) = _
      rw [sq_xor, xor4, lin_xor]
    · show (a ^^^ b) ^^^ pick (co (a ^^^ b) 0) one = _
      rw [co_xor, pick_bit, xor4]
    · show lin Kf 128 (sq (upN i one) ^^^ upN i one) = upN i one ^^^ pick (co (upN i one) 0) one
      rcases Nat.eq_zero_or_pos i with rfl | h0
      · rw [upN, sq_one, BitVec.xor_self, lin_zero]; rfl
      · rw [K_base i h0 hi, co, base i hi, BitVec.getLsbD_twoPow]
        simp [pick, show ¬ 127 - i = 127 by omega]
  have h1 := hF e
  rw [h, BitVec.xor_self, lin_zero] at h1
  cases hc : co e 0
  · rw [hc, pick, if_neg (by decide), BitVec.xor_zero] at h1
    exact .inl h1.symm
  · rw [hc, pick, if_pos rfl] at h1
    refine .inr ?_
    have := congrArg (· ^^^ one) h1
    simp only [BitVec.zero_xor] at this
    rw [BitVec.xor_assoc, BitVec.xor_self, BitVec.xor_zero] at this
    exact this.symm
def prodTo : Nat → B → B
  | 0, _ => one
  | n + 1, a => mul (prodTo n a) (sqN n a)
theorem prodTo_mul (n : Nat) (a : B) : mul (prodTo n a) a = sqN n a := by
  induction n with
  | zero => exact one_mul a
  | succ n ih => rw [prodTo, mul_assoc, mul_comm (sqN n a) a, ← mul_assoc, ih]; rfl
theorem prodTo_has (n : Nat) (a : B) : ∃ f, prodTo (n + 1) a = mul a f := by
  induction n with
  | zero => exact ⟨one, by rw [prodTo, prodTo, one_mul, mul_one]; rfl⟩
  | succ n ih =>
    obtain ⟨f, hf⟩ := ih
    exact ⟨mul f (sqN (n + 1) a), by rw [prodTo, hf, mul_assoc]⟩
/-- There are no zero divisors. -/
theorem no_zero (a b : B) (h : mul a b = 0#128) : a = 0#128 ∨ b = 0#128 := by
  obtain ⟨f, hf⟩ := prodTo_has 127 a
  have ha := prodTo_mul 128 a
  rw [sqN_all] at ha
  have he : sq (prodTo 128 a) = prodTo 128 a := by
    rw [sq]
    conv => lhs; rhs; rw [hf]
    rw [← mul_assoc, ha, ← hf]
  rcases idem _ he with h0 | h1
  · left; rw [h0, mul_zero_left] at ha; exact ha.symm
  · right
    rw [hf] at h1
    rw [← one_mul b, ← h1, mul_assoc, mul_comm f b, ← mul_assoc, h, mul_zero_left]
end Gf
end Go.Proofs.Ytbnhjgknffcjeaa
