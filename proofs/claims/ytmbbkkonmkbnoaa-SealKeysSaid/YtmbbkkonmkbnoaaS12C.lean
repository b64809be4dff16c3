/- FieldMath, Field, FieldTab, FieldNib, FieldMul, FieldHash. -/
import Derived.Test.YtmbbkkonmkbnoaaS12A
import Derived.Test.YtmbbkkonmkbnoaaS12P
import Derived.Laws.CopyOwn
import Derived.Deep.RegionLaw
set_option linter.unusedVariables false
set_option linter.unusedSimpArgs false
namespace Go.Proofs.Ytmbbkkonmkbnoaa
namespace Fm
abbrev G := BitVec 128
def red : G := 299076299051606071403356588563077529600#128
def one : G := 170141183460469231731687303715884105728#128
def nx (v : G) : G := (v >>> 1) ^^^ (if v.getLsbD 0 then red else 0#128)
def nxn : Nat → G → G
  | 0, v => v
  | n + 1, v => nx (nxn n v)
def mulN : Nat → G → G → G
  | 0, _, _ => 0#128
  | n + 1, a, b => mulN n a b ^^^ (if a.getLsbD (127 - n) then nxn n b else 0#128)
def mul (a b : G) : G := mulN 128 a b
theorem xor4 (a b c d : G) : (a ^^^ b) ^^^ (c ^^^ d) = (a ^^^ c) ^^^ (b ^^^ d) := by
  rw [BitVec.xor_assoc, BitVec.xor_assoc, ← BitVec.xor_assoc b c d, BitVec.xor_comm b c, BitVec.xor_assoc c b d]
theorem ite_xor (p q : Bool) (x : G) : (if (p ^^ q) = true then x else 0#128) = (if p = true then x else 0#128) ^^^ (if q = true then x else 0#128) := by
  cases p <;> cases q <;> simp
theorem ite_xor2 (p : Bool) (x y : G) : (if p = true then x ^^^ y else 0#128) = (if p = true then x else 0#128) ^^^ (if p = true then y else 0#128) := by
  cases p <;> simp
theorem nx_xor (a b : G) : nx (a ^^^ b) = nx a ^^^ nx b := by
  unfold nx
  rw [BitVec.ushiftRight_xor_distrib, BitVec.getLsbD_xor, ite_xor, xor4]
theorem nxn_xor (n : Nat) (a b : G) : nxn n (a ^^^ b) = nxn n a ^^^ nxn n b := by
  induction n with
  | zero => rfl
  | succ n ih => simp only [nxn, ih, nx_xor]
theorem nx_zero : nx 0#128 = 0#128 := by decide
theorem nxn_nx (n : Nat) (a : G) : nxn n (nx a) = nx (nxn n a) := by
  induction n with
  | zero => rfl
  | succ n ih => simp only [nxn, ih]
theorem nxn_add (m n : Nat) (a : G) : nxn (m + n) a = nxn m (nxn n a) := by
  induction m with
  | zero => simp [nxn]
  | succ m ih => rw [Nat.succ_add]; simp only [nxn, ih]
theorem mulN_xor_left (n : Nat) (a a' b : G) : mulN n (a ^^^ a') b = mulN n a b ^^^ mulN n a' b := by
  induction n with
  | zero => simp [mulN]
  | succ n ih => simp only [mulN]; rw [ih, BitVec.getLsbD_xor, ite_xor, xor4]
theorem mulN_xor_right (n : Nat) (a b b' : G) : mulN n a (b ^^^ b') = mulN n a b ^^^ mulN n a b' := by
  induction n with
  | zero => simp [mulN]
  | succ n ih => simp only [mulN]; rw [ih, nxn_xor, ite_xor2, xor4]
theorem mul_xor_left (a a' b : G) : mul (a ^^^ a') b = mul a b ^^^ mul a' b := mulN_xor_left 128 a a' b
theorem mul_xor_right (a b b' : G) : mul a (b ^^^ b') = mul a b ^^^ mul a b' := mulN_xor_right 128 a b b'
/-- The elements of one bit. -/
theorem basis_all : ∀ i : Fin 128, nxn i.val one = BitVec.ofNat 128 (2 ^ (127 - i.val)) := by decide +kernel
theorem basis (i : Nat) (hi : i < 128) : nxn i one = BitVec.ofNat 128 (2 ^ (127 - i)) := basis_all ⟨i, hi⟩
theorem bit_pow (k j : Nat) (hk : k < 128) (hj : j < 128) : (BitVec.ofNat 128 (2 ^ k)).getLsbD j = decide (j = k) := by
  rw [BitVec.getLsbD_ofNat, Nat.testBit_two_pow]
  by_cases h : j = k
  · subst h; simp [hj]
  · have h' : ¬ k = j := fun e => h e.symm
    simp [h, h', hj]
theorem expand (a : G) (n : Nat) (hn : n ≤ 128) : ∀ j, j < 128 → (mulN n a one).getLsbD j = (decide (127 - j < n) && a.getLsbD j) := by
  induction n with
  | zero => intro j hj; simp [mulN]
  | succ n ih =>
    intro j hj
    simp only [mulN]
    rw [BitVec.getLsbD_xor, ih (by omega) j hj, basis n (by omega)]
    by_cases e : j = 127 - n
    · subst e
      have h1 : ¬ (127 - (127 - n) < n) := by omega
      have h2 : 127 - (127 - n) < n + 1 := by omega
      rw [decide_eq_false h1, decide_eq_true h2]
      cases h : a.getLsbD (127 - n)
      · simp
      · simp only [if_true, bit_pow _ _ hj hj]; simp
    · have h3 : decide (127 - j < n) = decide (127 - j < n + 1) := decide_eq_decide.2 ⟨fun _ => by omega, fun _ => by omega⟩
      rw [h3]
      cases h : a.getLsbD (127 - n)
      · simp
      · simp only [if_true, bit_pow (127 - n) j (by omega) hj, decide_eq_false e]; simp
theorem mul_one (a : G) : mul a one = a := by
  apply BitVec.eq_of_getLsbD_eq
  intro j hj
  unfold mul
  rw [expand a 128 (Nat.le_refl _) j hj, decide_eq_true (by omega)]; rfl
/-- Two additive functions that agree at one, x, .., x^127 are one. -/
theorem ext_lin {f g : G → G} (hf : ∀ a b, f (a ^^^ b) = f a ^^^ f b) (hg : ∀ a b, g (a ^^^ b) = g a ^^^ g b) (h : ∀ i, i < 128 → f (nxn i one) = g (nxn i one)) (a : G) : f a = g a := by
  have z : ∀ {f : G → G}, (∀ a b, f (a ^^^ b) = f a ^^^ f b) → f 0#128 = 0#128 := by
    intro f hf
    have := hf 0#128 0#128
    rw [BitVec.xor_self, BitVec.xor_self] at this
    exact this
  have key : ∀ n, n ≤ 128 → f (mulN n a one) = g (mulN n a one) := by
    intro n
    induction n with
    | zero => intro _; simp only [mulN]; rw [z hf, z hg]
    | succ n ih =>
      intro hn
      simp only [mulN]
      rw [hf, hg, ih (by omega)]
      cases h' : a.getLsbD (127 - n)
      · simp only [Bool.false_eq_true, if_false, z hf, z hg]
      · simp only [if_true, h n (by omega)]
  have := key 128 (Nat.le_refl _)
  have e : mulN 128 a one = a := mul_one a
  rwa [e] at this
theorem mulN_basis (n i : Nat) (hn : n ≤ 128) (hi : i < 128) (b : G) : mulN n (nxn i one) b = if i < n then nxn i b else 0#128 := by
  induction n with
  | zero => simp [mulN]
  | succ n ih =>
    simp only [mulN]
    rw [ih (by omega), basis i hi, bit_pow _ _ (by omega) (by omega)]
    by_cases e : i = n
    · subst e
      rw [if_neg (Nat.lt_irrefl i), if_pos (by simp), if_pos (by omega)]; simp
    · have h1 : ¬ (127 - n = 127 - i) := by omega
      rw [decide_eq_false h1]
      simp only [Bool.false_eq_true, if_false, BitVec.xor_zero]
      by_cases h2 : i < n
      · rw [if_pos h2, if_pos (by omega)]
      · rw [if_neg h2, if_neg (by omega)]
theorem mul_basis (i : Nat) (hi : i < 128) (b : G) : mul (nxn i one) b = nxn i b := by
  unfold mul; rw [mulN_basis 128 i (Nat.le_refl _) hi, if_pos hi]
theorem one_mul (b : G) : mul one b = b := mul_basis 0 (by omega) b
theorem mul_nx_right (a b : G) : mul a (nx b) = nx (mul a b) := by
  have key : ∀ n, mulN n a (nx b) = nx (mulN n a b) := by
    intro n
    induction n with
    | zero => simp only [mulN, nx_zero]
    | succ n ih =>
      simp only [mulN]
      rw [ih, nx_xor, nxn_nx]
      cases a.getLsbD (127 - n)
      · simp only [Bool.false_eq_true, if_false, nx_zero]
      · simp only [if_true]
  exact key 128
theorem mul_nxn_right (n : Nat) (a b : G) : mul a (nxn n b) = nxn n (mul a b) := by
  induction n with
  | zero => rfl
  | succ n ih => simp only [nxn]; rw [mul_nx_right, ih]
theorem mul_comm (a b : G) : mul a b = mul b a := by
  refine ext_lin (f := fun a => mul a b) (g := fun a => mul b a) (fun x y => mul_xor_left x y b) (fun x y => mul_xor_right b x y) (fun i hi => ?_) a
  show mul (nxn i one) b = mul b (nxn i one)
  rw [mul_basis i hi, mul_nxn_right, mul_one]
theorem mul_assoc (a b c : G) : mul (mul a b) c = mul a (mul b c) := by
  refine ext_lin (f := fun a => mul (mul a b) c) (g := fun a => mul a (mul b c)) (fun x y => ?_) (fun x y => mul_xor_left x y _) (fun i hi => ?_) a
  · show mul (mul (x ^^^ y) b) c = _
    rw [mul_xor_left, mul_xor_left]
  · show mul (mul (nxn i one) b) c = mul (nxn i one) (mul b c)
    rw [mul_basis i hi, mul_basis i hi, mul_comm (nxn i b) c, mul_nxn_right, mul_comm c b]
theorem mul_zero (a : G) : mul a 0#128 = 0#128 := by
  have := mul_xor_right a 0#128 0#128
  rw [BitVec.xor_self, BitVec.xor_self] at this
  exact this
theorem zero_mul (a : G) : mul 0#128 a = 0#128 := by rw [mul_comm, mul_zero]
def sq (a : G) : G := mul a a
def sqn : Nat → G → G
  | 0, a => a
  | n + 1, a => sq (sqn n a)
theorem sq_xor (a b : G) : sq (a ^^^ b) = sq a ^^^ sq b := by
  unfold sq
  rw [mul_xor_left, mul_xor_right, mul_xor_right, mul_comm b a, BitVec.xor_assoc, ← BitVec.xor_assoc (mul a b), BitVec.xor_self, BitVec.zero_xor]
theorem sq_mul (a b : G) : sq (mul a b) = mul (sq a) (sq b) := by
  unfold sq
  rw [mul_assoc, ← mul_assoc b a b, mul_comm b a, mul_assoc a b b, ← mul_assoc a a]
theorem sqn_xor (n : Nat) (a b : G) : sqn n (a ^^^ b) = sqn n a ^^^ sqn n b := by
  induction n with
  | zero => rfl
  | succ n ih => simp only [sqn, ih, sq_xor]
theorem sqn_mul (n : Nat) (a b : G) : sqn n (mul a b) = mul (sqn n a) (sqn n b) := by
  induction n with
  | zero => rfl
  | succ n ih => simp only [sqn, ih, sq_mul]
def force {α : Type} (x : Nat) (f : Nat → α) : α := match x with
  | 0 => f 0
  | k + 1 => f (k + 1)
theorem force_eq {α : Type} (x : Nat) (f : Nat → α) : force x f = f x := by cases x <;> rfl
def nxF (v : Nat) : Nat := (v / 2) ^^^ (v % 2 * 299076299051606071403356588563077529600)
def mulF : Nat → Nat → Nat → Nat → Nat
  | 0, _, _, acc => acc
  | n + 1, a, b, acc => force (nxF b) fun b' => force (acc ^^^ (a / 2 ^ n % 2 * b)) fun acc' => mulF n a b' acc'
def sqF (n : Nat) (a : Nat) : Nat := match n with
  | 0 => a
  | n + 1 => force (sqF n a) fun x => mulF 128 x x 0
theorem nxF_eq (v : G) : (nx v).toNat = nxF v.toNat := by
  unfold nx nxF
  rw [BitVec.toNat_xor, BitVec.toNat_ushiftRight, Nat.shiftRight_eq_div_pow, Nat.pow_one]
  congr 1
  rw [BitVec.getLsbD, Nat.testBit_zero]
  rcases Nat.mod_two_eq_zero_or_one v.toNat with h | h
  · rw [h]; simp
  · rw [h]; rfl
theorem bit_nat (a : G) (n : Nat) (b : G) : (if a.getLsbD n = true then b else 0#128).toNat = a.toNat / 2 ^ n % 2 * b.toNat := by
  rw [BitVec.getLsbD, Nat.testBit, Nat.shiftRight_eq_div_pow, Nat.and_comm, Nat.and_one_is_mod]
  rcases Nat.mod_two_eq_zero_or_one (a.toNat / 2 ^ n) with h | h
  · rw [h]; simp
  · rw [h]; simp
theorem mulF_eq (a b : G) : ∀ n, n ≤ 128 → mulF n a.toNat (nxn (128 - n) b).toNat (mulN (128 - n) a b).toNat = (mul a b).toNat := by
  intro n
  induction n with
  | zero => intro _; rfl
  | succ n ih =>
    intro hn
    simp only [mulF, force_eq]
    rw [← ih (by omega), show 128 - n = (128 - (n + 1)) + 1 by omega]
    simp only [nxn, mulN]
    rw [nxF_eq, BitVec.toNat_xor, bit_nat, show 127 - (128 - (n + 1)) = n by omega]
theorem mul_nat (a b : G) : (mul a b).toNat = mulF 128 a.toNat b.toNat 0 := (mulF_eq a b 128 (Nat.le_refl _)).symm
theorem sqF_eq (n : Nat) (a : G) : (sqn n a).toNat = sqF n a.toNat := by
  induction n with
  | zero => rfl
  | succ n ih => simp only [sqn, sqF, force_eq, sq]; rw [mul_nat, ih]
theorem sqF_x : sqF 128 85070591730234615865843651857942052864 = 85070591730234615865843651857942052864 := by decide +kernel
theorem sqn_x : sqn 128 (nx one) = nx one := by
  apply BitVec.eq_of_toNat_eq
  rw [sqF_eq]
  exact sqF_x
theorem mul_x (a : G) : mul (nx one) a = nx a := by rw [mul_comm, mul_nx_right, mul_one]
theorem sqn_one (n : Nat) : sqn n one = one := by
  induction n with
  | zero => rfl
  | succ n ih => simp only [sqn, ih, sq, mul_one]
/-- Squared 128 times, every element is itself. -/
theorem sqn_all (a : G) : sqn 128 a = a := by
  refine ext_lin (f := sqn 128) (g := fun a => a) (sqn_xor 128) (fun _ _ => rfl) (fun i _ => ?_) a
  show sqn 128 (nxn i one) = nxn i one
  induction i with
  | zero => exact sqn_one 128
  | succ i ih =>
    simp only [nxn]
    rw [← mul_x, sqn_mul, sqn_x, ih (by omega)]
def lins : List Nat := [
  22349210433241643211303706255459310228, 42781086895802961305837899807692839847, 127851678626037577171681551665634892711, 64161864867486123575827494532326627698,
  85316382760920269238759725736663866279, 114910088095513088234682618273958557012, 42894216934927469609366581567841114482, 32564043359013102798989312672802603315,
  95950206727199596221990182218906622887, 46326064391129892899928697286047832434, 109593176112373424743067390032837178708, 142223934881672753734463413618344281941,
  45552672926497301355174195688401803634, 94354540392079830942767997527157175399, 33893271354798018671893119733082947891, 133492860460135582475628106552095754965,
  96614820725092054158442085749046795175, 123504943270841248069084356367027567956, 45993757392183663931702745520977746290, 84108166368187411435240813705953482624,
  109427022612900310258954414150302135636, 65334698174074460006561831602428846656, 142140858131936196492406925677076760405, 26944648382676130012539518143993095923,
  45594211301365579976202439659035564402, 34751615226583747878589791662865156403, 94333771204645691632253875541840295015, 58594332839845026287895736368243621554,
  33882886761080949016636058740424507699, 49689517202507746048320574050840187699, 133487668163277047647999576055766534869, 87518597506017800282691648887090017190,
  96617416873521321572256350997211405223, 123492369287794167071922631989304127700, 123506241345055881775991488991109872980, 88394181544543220452557894239097387942,
  45994406429290980785156311833018898802, 49921000057622566873658450198655872755, 84108490886741069861967596861974058880, 35809052500604244266195401481916326771,
  109427184872177139472317805728312423764, 79569572989071969373811419141996187585, 65334779303712874613243527391433990720, 4726979706471076424241489524707209152,
  142140898696755403795747773571579332437, 58275656592714443450777541729474286387, 26944628100266526360869094196741809907, 140308235276560358896028355552301283989,
  45594221442570381802037651632661207410, 44935323831971706514111515550899780402, 34751610155981346965672185676052334899, 115575792119390803779456185938199600469,
  94333773739946892088712678535246705767, 159324042485362573657552647614603385767, 58594334107495626516125137864946826930, 153238470225796900814681174335121648678,
  33882886127255648902521357992072905011, 59792954277794325190837842541115644722, 49689517519420396105377924425015989043, 72978216601350599591347508359916847681,
  133487668004820722619470900868678634197, 163309321578052146805450802438263305319, 87518597585245962796955986480633967526, 6161591008139076220601646446843146177,
  96617416833907240315124182200439430055, 67288019353279926038130604499846823936, 123492369307601207700488716387690115284, 72992884249465865451566362034747193217,
  123506241354959402090274531190302866772, 93226277353508642900164249188457535015, 88394181539591460295416373139500891046, 6116654749483988959971426010360459777,
  45994406431766860863727072382817147250, 113870918609522322281985099445019275925, 49921000058860506912943830473554996979, 161537358671016203777973217828391545831,
  84108490886122099842324906724524496768, 63089105448741488643398279942380763954, 35809052500294759256374056413191545715, 96504253903287235160744645914913229863,
  109427184872331881977228478262674814292, 9537274821874957483351388617584152641, 79569572988994598121356082874814992321, 122557457634345817322758110469731963540,
  65334779303751560239471195525024588352, 161542955870533464563010084267448332775, 4726979706490419237355323591502507968, 53639910565545342273528145980335791795,
  142140898696765075202304690604976981845, 51613027339492204128265575524803459891, 58275656592719279154056000246173111091, 81071795988965022717357904530596407232,
  26944628100264108509229864938392397555, 92325303522414418149753570460923091879, 140308235276559149970208740923126577813, 100983558286137050684044238585428660711,
  45594221442569777339127844318073854322, 132003651752985294974180122299820886164, 44935323831972008745566419208193456946, 100972845268357601278728964017462078439,
  34751610155981195849944733847405496627, 133436244703473040169882794575366898389, 115575792119390728221592460023876181333, 161752945482599484730126084874801441767,
  94333773739946854309780815578084996199, 149021274876537960721224429182834492454, 159324042485362592547018579093184240551, 5725366257701666555538562805218717057,
  58594334107495617071392172125656399538, 127777348636302309636952298273557535380, 153238470225796905537047657204766862374, 133385434108064708788808215410435911893,
  33882886127255646541338116557250298163, 275464514806027128612938827324864, 59792954277794326371429463258526948146, 12764899024296983899235621676887115841,
  49689517519420395515082114066310337331, 126976600203468727039316187211004055892, 72978216601350599296199603180564021825, 108887185710678174598840578861931466132,
  133487668004820722767044853458355047125, 126814247099887467207929949960147586332, 163309321578052146879237778733101511783, 72921817864677867521778898634038080609,
  87518597585245962833849474628053070758, 71430717218983613641036104277415506289, 6161591008139076202154902373133594561, 0]
def linL : List Nat → Nat → G → G
  | [], _, _ => 0#128
  | c :: cs, k, w => (if w.getLsbD k then BitVec.ofNat 128 c else 0#128) ^^^ linL cs (k - 1) w
def linF : List Nat → Nat → Nat → Nat → Nat
  | [], _, _, acc => acc
  | c :: cs, k, w, acc => force (acc ^^^ (w / 2 ^ k % 2 * c)) fun acc' => linF cs (k - 1) w acc'
theorem linL_xor (l : List Nat) : ∀ (k : Nat) (a b : G), linL l k (a ^^^ b) = linL l k a ^^^ linL l k b := by
  induction l with
  | nil => intro k a b; simp [linL]
  | cons c cs ih => intro k a b; simp only [linL]; rw [ih, BitVec.getLsbD_xor, ite_xor, xor4]
theorem linF_eq (l : List Nat) : ∀ (k : Nat) (w : G) (acc : Nat), (∀ c ∈ l, c < 2 ^ 128) → linF l k w.toNat acc = acc ^^^ (linL l k w).toNat := by
  induction l with
  | nil => intro k w acc _; simp [linF, linL]
  | cons c cs ih =>
    intro k w acc h
    simp only [linF, force_eq, linL]
    rw [ih _ _ _ (fun c hc => h c (List.mem_cons_of_mem _ hc)), BitVec.toNat_xor, bit_nat, BitVec.toNat_ofNat, Nat.mod_eq_of_lt (h c (List.mem_cons_self ..)), Nat.xor_assoc]
theorem lins_lt : ∀ c ∈ lins, c < 2 ^ 128 := by decide +kernel
def linP (a : G) : G := linL lins 127 (sq a ^^^ a)
theorem lin_ok : (List.range 127).all (fun i => linF lins 127 (mulF 128 (2 ^ (126 - i)) (2 ^ (126 - i)) 0 ^^^ 2 ^ (126 - i)) 0 == 2 ^ (126 - i)) = true := by decide +kernel
theorem linP_all (a : G) : linP a = a ^^^ (if a.getLsbD 127 then one else 0#128) := by
  refine ext_lin (f := linP) (g := fun a => a ^^^ (if a.getLsbD 127 then one else 0#128)) (fun x y => ?_) (fun x y => ?_) (fun i hi => ?_) a
  · unfold linP; rw [sq_xor, xor4, linL_xor]
  · show (x ^^^ y) ^^^ _ = _; rw [BitVec.getLsbD_xor, ite_xor, xor4]
  · show linP (nxn i one) = nxn i one ^^^ _
    cases i with
    | zero =>
      have z : ∀ (l : List Nat) (k : Nat), linL l k 0#128 = 0#128 := by
        intro l
        induction l with
        | nil => intro k; rfl
        | cons c cs ih => intro k; simp only [linL]; rw [ih]; simp
      show linP one = one ^^^ _
      unfold linP sq
      rw [mul_one, BitVec.xor_self, z]
      decide +kernel
    | succ i =>
      rw [basis _ hi, bit_pow _ _ (by omega) (by omega), decide_eq_false (by omega)]
      simp only [Bool.false_eq_true, if_false, BitVec.xor_zero]
      have h := List.all_eq_true.1 lin_ok i (List.mem_range.2 (by omega))
      have h := eq_of_beq h
      have e : (BitVec.ofNat 128 (2 ^ (127 - (i + 1)))).toNat = 2 ^ (126 - i) := by
        rw [BitVec.toNat_ofNat, Nat.mod_eq_of_lt (Nat.pow_lt_pow_right (by omega) (by omega)), show 127 - (i + 1) = 126 - i by omega]
      apply BitVec.eq_of_toNat_eq
      unfold linP sq
      have h2 := linF_eq lins 127 (mul (BitVec.ofNat 128 (2 ^ (127 - (i + 1)))) (BitVec.ofNat 128 (2 ^ (127 - (i + 1)))) ^^^ BitVec.ofNat 128 (2 ^ (127 - (i + 1)))) 0 lins_lt
      rw [BitVec.toNat_xor, mul_nat, e, h, Nat.zero_xor] at h2
      rw [e]
      exact h2.symm
theorem sq_stays (a : G) (h : sq a = a) : a = 0#128 ∨ a = one := by
  have h1 := linP_all a
  have z : ∀ (l : List Nat) (k : Nat), linL l k 0#128 = 0#128 := by
    intro l
    induction l with
    | nil => intro k; rfl
    | cons c cs ih => intro k; simp only [linL]; rw [ih]; simp
  unfold linP at h1
  rw [h, BitVec.xor_self, z] at h1
  cases hb : a.getLsbD 127
  · left; rw [hb] at h1; simpa using h1.symm
  · right
    rw [hb] at h1
    simp only [if_true] at h1
    have := congrArg (fun x => x ^^^ one) h1
    simp only [BitVec.zero_xor] at this
    rw [BitVec.xor_assoc, BitVec.xor_self, BitVec.xor_zero] at this
    exact this.symm
/-- a to the power of 2^n - 1. -/
def pw : Nat → G → G
  | 0, _ => one
  | n + 1, a => mul a (sq (pw n a))
theorem mul_pw (n : Nat) (a : G) : mul a (pw n a) = sqn n a := by
  induction n with
  | zero => exact mul_one a
  | succ n ih =>
    simp only [pw, sqn]
    rw [← ih, sq_mul, ← mul_assoc]
    rfl
theorem inv_of (a : G) (h : a ≠ 0#128) : mul a (sq (pw 127 a)) = one := by
  have h1 : mul a (pw 128 a) = a := by rw [mul_pw, sqn_all]
  have h2 : sq (pw 128 a) = pw 128 a := by
    show mul (pw 128 a) (pw 128 a) = pw 128 a
    conv => lhs; arg 2; unfold pw
    rw [← mul_assoc, mul_comm (pw 128 a) a, h1]
    rfl
  rcases sq_stays _ h2 with e | e
  · rw [e, mul_zero] at h1; exact absurd h1.symm h
  · exact e
/-- No nought comes of others. -/
theorem no_zero (a b : G) : mul a b = 0#128 ↔ a = 0#128 ∨ b = 0#128 := by
  constructor
  · intro h
    by_cases ha : a = 0#128
    · exact .inl ha
    · right
      have h1 := inv_of a ha
      rw [← one_mul b, ← h1, mul_comm a, mul_assoc, h, mul_zero]
  · rintro (rfl | rfl)
    · exact zero_mul b
    · exact mul_zero a
end Fm
end Go.Proofs.Ytmbbkkonmkbnoaa
namespace Go.Proofs.Ytmbbkkonmkbnoaa
open Go.RowKit Go.Deep Fm
def hi (e : G) : Nat := e.toNat / 18446744073709551616
def lo (e : G) : Nat := e.toNat % 18446744073709551616
def mkE (h l : Nat) : G := BitVec.ofNat 128 (h * 18446744073709551616 + l)
def ev (e : G) : Value := .agg #[.int .u64 (hi e : Int), .int .u64 (lo e : Int)]
theorem hi_lt (e : G) : hi e < 18446744073709551616 := by
  have := e.isLt
  unfold hi
  exact Nat.div_lt_of_lt_mul (by simpa using this)
theorem lo_lt (e : G) : lo e < 18446744073709551616 := Nat.mod_lt _ (by omega)
theorem two128 : (2 : Nat) ^ 128 = 340282366920938463463374607431768211456 := by decide
theorem hi_mk {h l : Nat} (hh : h < 18446744073709551616) (hl : l < 18446744073709551616) : hi (mkE h l) = h := by
  unfold hi mkE
  rw [BitVec.toNat_ofNat, Nat.mod_eq_of_lt (by rw [two128]; omega)]; omega
theorem lo_mk {h l : Nat} (hh : h < 18446744073709551616) (hl : l < 18446744073709551616) : lo (mkE h l) = l := by
  unfold lo mkE
  rw [BitVec.toNat_ofNat, Nat.mod_eq_of_lt (show h * 18446744073709551616 + l < 2 ^ 128 by rw [two128]; omega)]; omega
theorem el_ext {a b : G} (h1 : hi a = hi b) (h2 : lo a = lo b) : a = b := by
  apply BitVec.eq_of_toNat_eq
  unfold hi lo at *
  omega
theorem hi_xor (a b : G) : hi (a ^^^ b) = hi a ^^^ hi b := by
  unfold hi
  rw [BitVec.toNat_xor, show (18446744073709551616 : Nat) = 2 ^ 64 by decide, Nat.xor_div_two_pow]
theorem lo_xor (a b : G) : lo (a ^^^ b) = lo a ^^^ lo b := by
  unfold lo
  rw [BitVec.toNat_xor, show (18446744073709551616 : Nat) = 2 ^ 64 by decide, Nat.xor_mod_two_pow]
theorem hi_nx (e : G) : hi (nx e) = (hi e / 2) ^^^ (lo e % 2 * 16212958658533785600) := by
  unfold hi lo
  rw [nxF_eq]
  unfold nxF
  rw [show (18446744073709551616 : Nat) = 2 ^ 64 by decide, Nat.xor_div_two_pow]
  congr 1
  · rw [Nat.div_div_eq_div_mul, Nat.div_div_eq_div_mul, Nat.mul_comm]
  · have : e.toNat % 2 ^ 64 % 2 = e.toNat % 2 := by omega
    rw [this]
    rcases Nat.mod_two_eq_zero_or_one e.toNat with h | h <;> rw [h]
theorem lo_nx (e : G) : lo (nx e) = lo e / 2 + hi e % 2 * 9223372036854775808 := by
  unfold hi lo
  rw [nxF_eq]
  unfold nxF
  rw [show (18446744073709551616 : Nat) = 2 ^ 64 by decide, Nat.xor_mod_two_pow]
  have h0 : e.toNat % 2 * 299076299051606071403356588563077529600 % 2 ^ 64 = 0 := by
    rcases Nat.mod_two_eq_zero_or_one e.toNat with h | h <;> rw [h]
  rw [h0, Nat.xor_zero]
  omega
theorem eAdd_any (a b : G) (w : World) : Calls Try.prog 160 #[ev a, ev b] w fun e w' => e = .returned (ev (a ^^^ b)) ∧ Ext No w w' := by
  refine (PGcmSeals.field_Element_Add.calls (hi a) (lo a) (hi b) (lo b) (hi (a ^^^ b)) (lo (a ^^^ b)) w ?_).mono ?_
  · unfold PGcmSeals.field_Element_Add.f
    rw [u64_xor_nat _ _ (hi_lt a) (hi_lt b), u64_xor_nat _ _ (lo_lt a) (lo_lt b), hi_xor, lo_xor]
  · rintro e w' ⟨rfl, hb⟩
    exact ⟨rfl, Ext.of_below hb⟩
theorem eNext_any (a : G) (w : World) : Calls Try.prog 159 #[ev a] w fun e w' => e = .returned (ev (nx a)) ∧ Ext No w w' := by
  refine (PGcmSeals.field_Element_next.calls (hi a) (lo a) (hi (nx a)) (lo (nx a)) w ?_).mono ?_
  · have h1 := hi_lt a
    have h2 := lo_lt a
    have e1 : ((hi a : Nat) : Int) / 2 = ((hi a / 2 : Nat) : Int) := by omega
    have e2 : ((lo a : Nat) : Int) / 2 = ((lo a / 2 : Nat) : Int) := by omega
    have e3 : IntKind.u64.wrap (((hi a : Nat) : Int) * 9223372036854775808) = ((hi a % 2 * 9223372036854775808 : Nat) : Int) := by rw [IntKind.wrap_u64]; omega
    have e4 : bits .and .u64 ((lo a : Nat) : Int) 1 = ((lo a % 2 : Nat) : Int) := by
      have := u64_and_nat (lo a) 1 h2 (by omega)
      rw [Nat.and_one_is_mod] at this
      exact this
    have e5 : (lo a / 2) ||| (hi a % 2 * 9223372036854775808) = lo a / 2 + hi a % 2 * 9223372036854775808 := by
      rw [Nat.or_comm, nat_join 63 _ _ (by rw [show (2 : Nat) ^ 63 = 9223372036854775808 by decide]; omega) (by rw [show (2 : Nat) ^ 63 = 9223372036854775808 by decide]; omega), Nat.add_comm]
    unfold PGcmSeals.field_Element_next.f
    rw [e1, e2, e3, e4, u64_or_nat _ _ (by omega) (by omega), e5, hi_nx, lo_nx]
    by_cases c : lo a % 2 = 1
    · rw [if_pos (by omega), c, Nat.one_mul]
      have := u64_xor_nat (hi a / 2) 16212958658533785600 (by omega) (by omega)
      rw [show ((16212958658533785600 : Nat) : Int) = 16212958658533785600 from rfl] at this
      rw [this]
    · have c0 : lo a % 2 = 0 := by omega
      rw [if_neg (by omega), c0, Nat.zero_mul, Nat.xor_zero]
  · rintro e w' ⟨rfl, hb⟩
    exact ⟨rfl, Ext.of_below hb⟩
def pad16 (l : List UInt8) : List UInt8 := (l ++ List.replicate 16 0).take 16
theorem pad16_length (l : List UInt8) : (pad16 l).length = 16 := by simp [pad16]
/-- The element of bytes. -/
def elL (l : List UInt8) : G := mkE (getL ((pad16 l).take 8)) (getL ((pad16 l).drop 8))
theorem size_u8 : (Try.prog.info? 5).map (·.size) = some 1 := by kernel_rfl
theorem copy16_src {w : World} {A : Option Addr} {l : List UInt8} {c : Nat} (h : Bs w Any (.slice A l.length c) l) :
    ((u8s l).take 16).length = Nat.min l.length 16 ∧
    (0 < ((u8s l).take 16).length → ∀ (W : World), Ext No w W → ∃ ad, A = some ad ∧ ∀ j v, ((u8s l).take 16)[j]? = some v → W.cell? (ad.add j) = some v) ∧
    0 + ((u8s l).take 16).length ≤ (List.replicate 16 (Value.int .u8 0)).length ∧ ∀ v ∈ (u8s l).take 16, v.oneCell' = true := by
  refine ⟨by rw [List.length_take, u8s_length]; exact Nat.min_comm _ _, fun h0 W hx => ?_, by rw [List.length_take]; simp; omega, fun v hv => u8s_one l v (List.mem_of_mem_take hv)⟩
  rw [List.length_take, u8s_length] at h0
  obtain ⟨_, A', c', e, _, _, hn⟩ := h.ext_no hx
  injection e with e1 _ e2
  obtain ⟨b, off, hA, _, hc⟩ := hn (by omega)
  refine ⟨⟨b, off, none⟩, e1.trans hA, fun j v hj => ?_⟩
  rw [show (⟨b, off, none⟩ : Addr).add j = ⟨b, off + j, none⟩ by unfold Addr.add; split <;> simp_all]
  refine hc j v ?_
  have hl : j < ((u8s l).take 16).length := (List.getElem?_eq_some_iff.1 hj).1
  rw [List.length_take] at hl
  rwa [List.getElem?_take_of_lt (by omega)] at hj
/-- A part of an array of bytes that is known whole. -/
theorem Bs.arr {w : World} {g : Nat} {t : TypeId} {L : List UInt8} (h : Blk w g t (u8s L).toArray) (a b c : Nat) {n : Nat} (hn : n = b - a) (hab : a ≤ b) (hb : b ≤ L.length) (hc : n ≤ c) (hm : c ≤ maxLen) :
    Bs w (fun k => k = g) (.slice (some ⟨g, a, none⟩) n c) ((L.take b).drop a) := by
  have e : ((L.take b).drop a).length = n := by rw [List.length_drop, List.length_take]; omega
  unfold Bs
  rw [e]
  refine ⟨by rw [u8s_length, e, Nat.mul_one], _, c, rfl, hc, hm, fun h0 => ⟨g, a, rfl, rfl, fun j u hu => ?_⟩⟩
  rw [h.cell]
  have hj : j < (u8s ((L.take b).drop a)).length := (List.getElem?_eq_some_iff.1 hu).1
  rw [u8s_length, e] at hj
  rw [List.getElem?_toArray, ← hu]
  unfold u8s
  rw [List.map_drop, List.map_take, List.getElem?_drop, List.getElem?_take_of_lt (by omega)]
theorem Ext.then_below {a b c : World} {B : Nat} (h : Ext No a b) (hb : Below B b c) (hB : a.heap.size ≤ B) : Ext No a c :=
  ⟨hb.os.trans h.os, hb.tape.trans h.tape, hb.output.trans h.output, Nat.le_trans h.size hb.size, fun k hk _ => (hb.block k (Nat.lt_of_lt_of_le hk hB)).trans (h.block k hk (fun h => h))⟩
theorem Blk.below_lt {a b : World} {B g : Nat} {t : TypeId} {cs : Array Value} (h : Blk a g t cs) (hb : Below B a b) (hg : g < B) : Blk b g t cs := (hb.block g hg).trans h
/-- Within From: the array's block, the result's block. -/
structure FrS (w0 : World) (L : List UInt8) (w : World) : Prop where
  b : Blk w (w0.heap.size + 1) 203 (u8s L).toArray
  r : ∃ u v, Blk w w0.heap.size 208 #[u, v]
  x : Ext No w0 w
section
variable {w0 w w' : World} {L : List UInt8}
theorem FrS.drew (h : Hid (FrS w0 L w)) : Hid (FrS w0 L w.drew) := ⟨h.out.b, h.out.r, h.out.x.drew⟩
theorem FrS.set2 (h : Hid (FrS w0 L w)) (u v : Value) : Hid (FrS w0 L ((w.setCell ⟨w0.heap.size, 0, none⟩ u).setCell ⟨w0.heap.size, 1, none⟩ v)) := by
  obtain ⟨x, y, hr⟩ := h.out.r
  refine ⟨Blk.far (Blk.far h.out.b (by simp) _) (by simp) _, ⟨_, _, Blk.set_ (Blk.set_ hr 0 u) 1 v⟩, ?_⟩
  refine Ext.setCell ?_ (by simp) _
  exact Ext.setCell h.out.x (by simp) _
theorem FrS.get1 (hL : L.length = 16) (h : Hid (FrS w0 L w)) : Calls Try.prog 138 #[.slice (some ⟨w0.heap.size + 1, 0, none⟩) 8 16] w fun e w' => e = .returned (.int .u64 (getL (L.take 8) : Int)) ∧ w = w' :=
  oGet_any _ (L.take 8) w (Bs.arr h.out.b 0 8 16 (n := 8) rfl (by omega) (by omega) (by omega) (by unfold maxLen; decide)).any
theorem FrS.get2 (hL : L.length = 16) (h : Hid (FrS w0 L w)) : Calls Try.prog 138 #[.slice (some ⟨w0.heap.size + 1, 8, none⟩) 8 8] w fun e w' => e = .returned (.int .u64 (getL (L.drop 8) : Int)) ∧ w = w' := by
  have := (Bs.arr h.out.b 8 16 8 (n := 8) rfl (by omega) (by omega) (by omega) (by unfold maxLen; decide)).any
  rw [List.take_of_length_le (by omega)] at this
  exact oGet_any _ (L.drop 8) w this
end
theorem splice16 (l : List UInt8) : splice (List.replicate 16 (Value.int .u8 0)) 0 ((u8s l).take 16) = u8s (pad16 l) := by
  have e : List.replicate 16 (Value.int .u8 0) = u8s (List.replicate 16 0) := by simp [u8s, u8v]
  unfold splice pad16
  rw [List.take_zero, List.nil_append, Nat.zero_add, List.length_take, u8s_length, e]
  unfold u8s
  rw [← List.map_take, ← List.map_drop, ← List.map_append]
  congr 1
  rw [List.take_append, List.drop_replicate, List.take_replicate]
  congr 2
  omega
set_option maxRecDepth 100000 in
set_option maxHeartbeats 1000000 in
theorem fFrom_any (v : Value) (l : List UInt8) (w : World) (h : Bs w Any v l) :
    Calls Try.prog 127 #[v] w fun e w' => e = .returned (ev (elL l)) ∧ Ext No w w' := by
  have hL1 := pad16_length l
  have hs := h
  obtain ⟨A, c, rfl, hc, hm, b, o, hA⟩ := h.slice
  have HP := Lib.hid (copy16_src hs)
  have HL := Lib.hid (getL_lt ((pad16 l).take 8))
  have HR := Lib.hid (getL_lt ((pad16 l).drop 8))
  have hx0 := ((Ext.refl No w).alloc (.cells #[.int .u64 0, .int .u64 0] 208)).alloc (.cells (List.replicate 16 (Value.int .u8 0)).toArray 203)
  have hb0 : Blk ((w.alloc (.cells #[.int .u64 0, .int .u64 0] 208)).alloc (.cells (List.replicate 16 (Value.int .u8 0)).toArray 203)) (w.heap.size + 1) 203 (List.replicate 16 (Value.int .u8 0)).toArray := by
    have := Blk.new (w.alloc (.cells #[.int .u64 0, .int .u64 0] 208)) 203 (List.replicate 16 (Value.int .u8 0)).toArray
    rw [World.size_alloc] at this
    exact this
  have he0 := (Blk.new w 208 #[.int .u64 0, .int .u64 0]).alloc (.cells (List.replicate 16 (Value.int .u8 0)).toArray 203)
  have HX0 := Lib.hid (And.intro hx0 (And.intro hb0 he0))
  clear hA h hs hx0 hb0 he0
  go_enter Try.func127, Try.ntmps127
  go_wp2_with ((with_reducible show wpList _ _ _ _ _ _); refine wpList_copy_splice (o := ⟨some 6, _, _, _, _, _⟩) rfl (.tmp 4) (.tmp 5) 22 22 rfl 5 Try.underlying22 size_u8 (some ⟨w.heap.size + 1, 0, none⟩) A 16 16 l.length c rfl rfl (w.heap.size + 1) 0 (List.replicate 16 (Value.int .u8 0)) 203 HX0.out.2.1 ((u8s l).take 16) HP.out.1 (fun h0 => ⟨rfl, HP.out.2.1 h0 _ HX0.out.1⟩) HP.out.2.2.1 HP.out.2.2.2 (w.heap.size + 1) _ (Below.refl _ _) (Nat.le_refl _) ?_; intro w1 hblk hbel)
  have hbk : Blk w1 (w.heap.size + 1) 203 (u8s (pad16 l)).toArray := by
    have := hblk.out
    rw [splice16] at this
    exact this
  have hx1 : Ext No w w1 := HX0.out.1.then_below hbel (by omega)
  have hr1 : Blk w1 w.heap.size 208 #[.int .u64 0, .int .u64 0] := HX0.out.2.2.below_lt hbel (by omega)
  have HF : Hid (FrS w (pad16 l) w1) := Lib.hid ⟨hbk, ⟨_, _, hr1⟩, hx1⟩
  have B1 := Blk.c2 hr1
  clear hbk hx1 hr1 HX0 hbel hblk
  go_region_held3 (fun w' => Hid (FrS w (pad16 l) w'))
    (first | assumption | exact HF | exact FrS.drew HF | exact FrS.drew (by assumption) | exact FrS.set2 (by assumption) _ _)
    (first
      | (go_at_call 138; with_reducible refine (FrS.get1 hL1 (by assumption)).mono ?_; rintro e w' ⟨rfl, rfl⟩)
      | (go_at_call 138; with_reducible refine (FrS.get2 hL1 (by assumption)).mono ?_; rintro e w' ⟨rfl, rfl⟩))
  have he : ev (elL l) = .agg #[.int .u64 (getL ((pad16 l).take 8) : Int), .int .u64 (getL ((pad16 l).drop 8) : Int)] := by
    unfold ev elL
    rw [hi_mk HL.out HR.out, lo_mk HL.out HR.out]
  have HE := Lib.hid he
  have hS := ‹Hid (FrS w (pad16 l) ((w1.setCell ⟨w.heap.size, 0, none⟩ (.int .u64 (getL ((pad16 l).take 8) : Int))).setCell ⟨w.heap.size, 1, none⟩ (.int .u64 (getL ((pad16 l).drop 8) : Int))).drew)›
  have hx := hS.out.x
  clear hS he HF HL HR HP
  generalize getL ((pad16 l).take 8) = x1 at *
  generalize getL ((pad16 l).drop 8) = x2 at *
  go_wp2
  exact bodyPost_ret (v := .agg #[.int .u64 (x1 : Int), .int .u64 (x2 : Int)]) (by simp [results, Try.results127, go_sem, B1]) rfl ⟨by rw [HE.out], hx⟩
def elB (e : G) : List UInt8 := putL (hi e) 8 ++ putL (lo e) 8
/-- Within a function whose parameter e was boxed. -/
structure BxS (w0 : World) (e : G) (w : World) : Prop where
  b : Blk w w0.heap.size 208 #[.int .u64 (hi e : Int), .int .u64 (lo e : Int)]
  x : Ext No w0 w
abbrev BxSS (w0 : World) (e : G) (w : World) : Prop := (w.cell? ⟨w0.heap.size, 0, none⟩ = some (.int .u64 (hi e : Int)) ∧ w.cell? ⟨w0.heap.size, 1, none⟩ = some (.int .u64 (lo e : Int))) ∧ Hid (BxS w0 e w)
section
variable {w0 w w' : World} {e : G}
theorem BxS.S (h : BxS w0 e w) : BxSS w0 e w := ⟨(Blk.c2 h.b).1, h⟩
theorem BxS.no (h : BxSS w0 e w) (hx : Ext No w w') : BxSS w0 e w' := BxS.S ⟨h.2.out.b.ext_no hx, h.2.out.x.trans hx⟩
theorem BxS.put (h : BxSS w0 e w) (n : Nat) (hn : n < 18446744073709551616) : Calls Try.prog 77 #[.int .u64 (n : Int), .int .i64 8] w fun e' w' => ∃ A c, e' = .returned (.slice A 8 c) ∧ (Own w' w.heap.size (.slice A 8 c) (putL n 8) ∧ Ext No w w') ∧ BxSS w0 e w' := by
  refine (oPut_any n 8 w (by omega) (by omega)).mono ?_
  rintro e' w' ⟨v, rfl, ho, hx⟩
  obtain ⟨A, c, rfl, _⟩ := ho.slice
  rw [putL_length] at ho ⊢
  exact ⟨A, c, rfl, ⟨ho, hx⟩, BxS.no h hx⟩
end
set_option maxRecDepth 100000 in
set_option maxHeartbeats 1000000 in
theorem eBytes_any (e : G) (w : World) : Calls Try.prog 165 #[ev e] w fun e' w' => ∃ A n c, e' = .returned (.slice A n c) ∧ Own w' w.heap.size (.slice A n c) (elB e) ∧ Ext No w w' := by
  have h1 := hi_lt e
  have h2 := lo_lt e
  have HB : Hid (BxS w e (w.alloc (.cells #[.int .u64 (hi e : Int), .int .u64 (lo e : Int)] 208))) := Lib.hid ⟨Blk.new w _ _, (Ext.refl No w).alloc _⟩
  have hpl := putL_length (hi e) 8
  have hpm := putL_length (lo e) 8
  have HLL := Lib.hid (And.intro hpl hpm)
  clear hpl hpm
  unfold ev
  go_enter Try.func165, Try.ntmps165
  go_wp2_with fail
  go_region_held3 (fun w' => (w'.cell? ⟨w.heap.size, 0, none⟩ = some (.int .u64 (hi e : Int)) ∧ w'.cell? ⟨w.heap.size, 1, none⟩ = some (.int .u64 (lo e : Int))) ∧ Hid (BxS w e w'))
    (first | assumption | exact BxS.S HB.out | exact BxS.no (BxS.S HB.out) (Ext.refl No _).drew | exact BxS.no (by assumption) (Ext.refl No _).drew | exact BxS.no (by assumption) ((Ext.refl No _).alloc _) | exact BxS.no (by assumption) hx3)
    (first
      | (go_at_call 77; with_reducible refine (BxS.put (by assumption) (hi e) h1).mono ?_; rintro e' w1 ⟨A1, c1, rfl, HO1, hS1⟩)
      | (go_at_call 77; with_reducible refine (BxS.put (by assumption) (lo e) h2).mono ?_; rintro e' w2 ⟨A2, c2, rfl, HO2, hS2⟩)
      | (go_at_call 65; refine (oJoin_any Any _ [putL (hi e) 8, putL (lo e) 8] _ (Parts.lit2 (HO1.1.any.ext_no HO2.2) HO2.1.any trivial) (by simp [HLL.out.1, HLL.out.2])).mono ?_; rintro e' w3 ⟨A, n, c, rfl, ho3, hx3⟩))
  have hS := ‹(w3.cell? ⟨w.heap.size, 0, none⟩ = some (.int .u64 (hi e : Int)) ∧ w3.cell? ⟨w.heap.size, 1, none⟩ = some (.int .u64 (lo e : Int))) ∧ Hid (BxS w e w3)›
  have hS1' := hS1.2.out.x.size
  have hs2' := HO2.2.size
  have HF : Hid (Own w3 w.heap.size (.slice A n c) (elB e) ∧ Ext No w w3) := Lib.hid ⟨by
    have := ho3.less (base' := w.heap.size) (by simp; omega)
    simpa [elB] using this, hS.2.out.x⟩
  clear hS ho3 hx3
  go_wp2
  go_ret
  exact ⟨A, n, c, rfl, HF.out.1, HF.out.2⟩
end Go.Proofs.Ytmbbkkonmkbnoaa
namespace Go.Proofs.Ytmbbkkonmkbnoaa
open Go.RowKit Go.Deep Fm
def tabC (b : Nat → G) (o : Nat → Nat) : Array Value := ((List.range 16).flatMap (fun j => [Value.int .u64 (hi (b j) : Int), Value.int .u64 (lo (b j) : Int)]) ++ (List.range 16).map (fun j => Value.int .u64 (o j : Int))).toArray
abbrev IsTb (w : World) (g : Nat) (b : Nat → G) (o : Nat → Nat) : Prop := Blk w g 242 (tabC b o)
theorem lt16 {j : Nat} (h : j < 16) : j = 0 ∨ j = 1 ∨ j = 2 ∨ j = 3 ∨ j = 4 ∨ j = 5 ∨ j = 6 ∨ j = 7 ∨ j = 8 ∨ j = 9 ∨ j = 10 ∨ j = 11 ∨ j = 12 ∨ j = 13 ∨ j = 14 ∨ j = 15 := by omega
theorem tabC_hi (b : Nat → G) (o : Nat → Nat) {j : Nat} (h : j < 16) : (tabC b o)[j * 2]? = some (.int .u64 (hi (b j) : Int)) := by
  rcases lt16 h with rfl | rfl | rfl | rfl | rfl | rfl | rfl | rfl | rfl | rfl | rfl | rfl | rfl | rfl | rfl | rfl <;> rfl
theorem tabC_lo (b : Nat → G) (o : Nat → Nat) {j : Nat} (h : j < 16) : (tabC b o)[j * 2 + 1]? = some (.int .u64 (lo (b j) : Int)) := by
  rcases lt16 h with rfl | rfl | rfl | rfl | rfl | rfl | rfl | rfl | rfl | rfl | rfl | rfl | rfl | rfl | rfl | rfl <;> rfl
theorem tabC_ov (b : Nat → G) (o : Nat → Nat) {j : Nat} (h : j < 16) : (tabC b o)[32 + j]? = some (.int .u64 (o j : Int)) := by
  rcases lt16 h with rfl | rfl | rfl | rfl | rfl | rfl | rfl | rfl | rfl | rfl | rfl | rfl | rfl | rfl | rfl | rfl <;> rfl
def upd1 {α : Type} (f : Nat → α) (j : Nat) (x : α) : Nat → α := fun i => if i = j then x else f i
theorem tabC_set (b : Nat → G) (o : Nat → Nat) (e : G) {j : Nat} (h : j < 16) : ((tabC b o).setIfInBounds (j * 2) (.int .u64 (hi e : Int))).setIfInBounds (j * 2 + 1) (.int .u64 (lo e : Int)) = tabC (upd1 b j e) o := by
  rcases lt16 h with rfl | rfl | rfl | rfl | rfl | rfl | rfl | rfl | rfl | rfl | rfl | rfl | rfl | rfl | rfl | rfl <;> rfl
theorem tabC_seto (b : Nat → G) (o : Nat → Nat) (x : Nat) {j : Nat} (h : j < 16) : (tabC b o).setIfInBounds (32 + j) (.int .u64 (x : Int)) = tabC b (upd1 o j x) := by
  rcases lt16 h with rfl | rfl | rfl | rfl | rfl | rfl | rfl | rfl | rfl | rfl | rfl | rfl | rfl | rfl | rfl | rfl <;> rfl
theorem tabC_zero : tabC (fun _ => 0#128) (fun _ => 0) = (List.replicate 48 (Value.int .u64 0)).toArray := by rfl
/-- What an element is, times four bits. -/
def tb (e : G) (j : Nat) : G := (if j.testBit 3 then e else 0#128) ^^^ (if j.testBit 2 then nx e else 0#128) ^^^ (if j.testBit 1 then nx (nx e) else 0#128) ^^^ (if j.testBit 0 then nx (nx (nx e)) else 0#128)
/-- What is left of four bits that went over the end. -/
def tov (j : Nat) : Nat := hi (nx (nx (nx (nx (mkE 0 j)))))
theorem tb_add (e : G) (i k : Nat) (hi_ : i = 2 ∨ i = 4 ∨ i = 8) (hk : k < i) : tb e i ^^^ tb e k = tb e (i + k) := by
  have : ∀ x : G, x ^^^ 0#128 = x := fun x => BitVec.xor_zero
  rcases hi_ with rfl | rfl | rfl
  · rcases (by omega : k = 0 ∨ k = 1) with rfl | rfl <;> simp [tb, Nat.testBit] <;> simp [BitVec.xor_assoc]
  · rcases (by omega : k = 0 ∨ k = 1 ∨ k = 2 ∨ k = 3) with rfl | rfl | rfl | rfl <;> simp [tb, Nat.testBit] <;> simp [BitVec.xor_assoc]
  · rcases (by omega : k = 0 ∨ k = 1 ∨ k = 2 ∨ k = 3 ∨ k = 4 ∨ k = 5 ∨ k = 6 ∨ k = 7) with rfl | rfl | rfl | rfl | rfl | rfl | rfl | rfl <;> simp [tb, Nat.testBit] <;> simp [BitVec.xor_assoc]
/-- Within Build: a table of which two entries are known. -/
structure TbS (w0 : World) (g j k : Nat) (x y : G) (o : Nat → Nat) (w : World) : Prop where
  t : ∃ b, IsTb w g b o ∧ b j = x ∧ b k = y
  x : Ext No w0 w
  g : w0.heap.size ≤ g
  jk : j < 16 ∧ k < 16
abbrev TbSS (w0 : World) (g j k : Nat) (x y : G) (o : Nat → Nat) (w : World) : Prop :=
  ((w.cell? ⟨g, j * 2, none⟩ = some (.int .u64 (hi x : Int)) ∧ w.cell? ⟨g, j * 2 + 1, none⟩ = some (.int .u64 (lo x : Int))) ∧ (w.cell? ⟨g, k * 2, none⟩ = some (.int .u64 (hi y : Int)) ∧ w.cell? ⟨g, k * 2 + 1, none⟩ = some (.int .u64 (lo y : Int)))) ∧ Hid (TbS w0 g j k x y o w)
section
variable {w0 w w' : World} {g j k : Nat} {x y : G} {o : Nat → Nat}
theorem TbS.S (h : TbS w0 g j k x y o w) : TbSS w0 g j k x y o w := by
  obtain ⟨b, hb, h1, h2⟩ := h.t
  subst h1 h2
  exact ⟨⟨⟨(hb.cell _).trans (tabC_hi b o h.jk.1), (hb.cell _).trans (tabC_lo b o h.jk.1)⟩, ⟨(hb.cell _).trans (tabC_hi b o h.jk.2), (hb.cell _).trans (tabC_lo b o h.jk.2)⟩⟩, h⟩
theorem TbS.no (h : TbSS w0 g j k x y o w) (hx : Ext No w w') : TbSS w0 g j k x y o w' :=
  let ⟨b, hb, h1, h2⟩ := h.2.out.t
  TbS.S ⟨⟨b, hb.ext_no hx, h1, h2⟩, h.2.out.x.trans hx, h.2.out.g, h.2.out.jk⟩
theorem IsTb.put {b : Nat → G} {i : Nat} (h : IsTb w g b o) (hi_ : i < 16) (e : G) : IsTb ((w.setCell ⟨g, i * 2, none⟩ (.int .u64 (hi e : Int))).setCell ⟨g, i * 2 + 1, none⟩ (.int .u64 (lo e : Int))) g (upd1 b i e) o := by
  have := Blk.set_ (Blk.set_ h (i * 2) (.int .u64 (hi e : Int))) (i * 2 + 1) (.int .u64 (lo e : Int))
  rw [tabC_set b o e hi_] at this
  exact this
theorem TbS.put (h : TbSS w0 g j k x y o w) (i : Nat) (hi_ : i < 16) (hij : i ≠ j) (hik : i ≠ k) (e : G) : TbSS w0 g j k x y o ((w.setCell ⟨g, i * 2, none⟩ (.int .u64 (hi e : Int))).setCell ⟨g, i * 2 + 1, none⟩ (.int .u64 (lo e : Int))) := by
  obtain ⟨b, hb, h1, h2⟩ := h.2.out.t
  refine TbS.S ⟨⟨_, hb.put hi_ e, by unfold upd1; rw [if_neg (fun h => hij h.symm), h1], by unfold upd1; rw [if_neg (fun h => hik h.symm), h2]⟩, ?_, h.2.out.g, h.2.out.jk⟩
  have hg := h.2.out.g
  refine Ext.setCell ?_ (fun h => by have h : g < w0.heap.size := h; omega) _
  exact Ext.setCell h.2.out.x (fun h => by have h : g < w0.heap.size := h; omega) _
theorem TbS.next (h : TbSS w0 g j k x y o w) : Calls Try.prog 159 #[.agg #[.int .u64 (hi x : Int), .int .u64 (lo x : Int)]] w fun e w' => e = .returned (.agg #[.int .u64 (hi (nx x) : Int), .int .u64 (lo (nx x) : Int)]) ∧ Ext No w w' ∧ TbSS w0 g j k x y o w' := by
  refine (eNext_any x w).mono ?_
  rintro e w' ⟨rfl, hx⟩
  exact ⟨rfl, hx, TbS.no h hx⟩
theorem TbS.add (h : TbSS w0 g j k x y o w) : Calls Try.prog 160 #[.agg #[.int .u64 (hi x : Int), .int .u64 (lo x : Int)], .agg #[.int .u64 (hi y : Int), .int .u64 (lo y : Int)]] w fun e w' => e = .returned (.agg #[.int .u64 (hi (x ^^^ y) : Int), .int .u64 (lo (x ^^^ y) : Int)]) ∧ Ext No w w' ∧ TbSS w0 g j k x y o w' := by
  refine (eAdd_any x y w).mono ?_
  rintro e w' ⟨rfl, hx⟩
  exact ⟨rfl, hx, TbS.no h hx⟩
end
/-- What loop 1 of Build has made: entries 8, .. down to 2 z. -/
def Bl1 (e : G) (b : Nat → G) (z : Nat) : Prop := b 0 = tb e 0 ∧ b 8 = tb e 8 ∧ (z < 4 → b 4 = tb e 4) ∧ (z < 2 → b 2 = tb e 2) ∧ (z < 1 → b 1 = tb e 1)
theorem tb_1248 (e : G) : tb e 8 = e ∧ tb e 4 = nx e ∧ tb e 2 = nx (nx e) ∧ tb e 1 = nx (nx (nx e)) ∧ tb e 0 = 0#128 := by
  refine ⟨?_, ?_, ?_, ?_, ?_⟩ <;> simp [tb, Nat.testBit]
theorem Bl1.step {e : G} {b : Nat → G} {z : Nat} (h : Bl1 e b z) (hz : z = 4 ∨ z = 2 ∨ z = 1) : Bl1 e (upd1 b z (nx (b (2 * z)))) (z / 2) ∧ b (2 * z) = tb e (2 * z) := by
  obtain ⟨t8, t4, t2, t1, t0⟩ := tb_1248 e
  obtain ⟨h0, h8, h4, h2, h1⟩ := h
  rcases hz with rfl | rfl | rfl
  · refine ⟨⟨h0, h8, fun _ => ?_, fun h => absurd h (by decide), fun h => absurd h (by decide)⟩, h8⟩
    show (if 4 = 4 then nx (b 8) else b 4) = _
    rw [if_pos rfl, h8, t8, t4]
  · refine ⟨⟨h0, h8, fun _ => h4 (by omega), fun _ => ?_, fun h => absurd h (by decide)⟩, h4 (by omega)⟩
    show (if 2 = 2 then nx (b 4) else b 2) = _
    rw [if_pos rfl, h4 (by omega), t4, t2]
  · refine ⟨⟨h0, h8, fun _ => h4 (by omega), fun _ => h2 (by omega), fun _ => ?_⟩, h2 (by omega)⟩
    show (if 1 = 1 then nx (b 2) else b 1) = _
    rw [if_pos rfl, h2 (by omega), t2, t1]
theorem eNext_agg (a : G) (w : World) : Calls Try.prog 159 #[.agg #[.int .u64 (hi a : Int), .int .u64 (lo a : Int)]] w fun e w' => e = .returned (.agg #[.int .u64 (hi (nx a) : Int), .int .u64 (lo (nx a) : Int)]) ∧ Ext No w w' := eNext_any a w
theorem tabC_congr {b b' : Nat → G} {o o' : Nat → Nat} (hb : ∀ j, j < 16 → b j = b' j) (ho : ∀ j, j < 16 → o j = o' j) : tabC b o = tabC b' o' := by
  unfold tabC
  rw [List.flatMap_def, List.flatMap_def, List.map_congr_left (g := fun j => [Value.int .u64 (hi (b' j) : Int), Value.int .u64 (lo (b' j) : Int)]) (fun j hj => by rw [hb j (List.mem_range.1 hj)]), List.map_congr_left (g := fun j => Value.int .u64 (o' j : Int)) (fun j hj => by rw [ho j (List.mem_range.1 hj)])]
theorem IsTb.puto {w : World} {g : Nat} {b : Nat → G} {o : Nat → Nat} {i : Nat} (h : IsTb w g b o) (hi_ : i < 16) (x : Nat) : IsTb (w.setCell ⟨g, 32 + i, none⟩ (.int .u64 (x : Int))) g b (upd1 o i x) := by
  have := Blk.set_ h (32 + i) (.int .u64 (x : Int))
  rw [tabC_seto b o x hi_] at this
  exact this
/-- What loop 2 of Build has made: the first n entries. -/
def Bl2 (e : G) (b : Nat → G) (n : Nat) : Prop := (∀ j, j < n → b j = tb e j) ∧ b 2 = tb e 2 ∧ b 4 = tb e 4 ∧ b 8 = tb e 8
theorem Bl1.to2 {e : G} {b : Nat → G} (h : Bl1 e b 0) : Bl2 e b 2 := by
  obtain ⟨h0, h8, h4, h2, h1⟩ := h
  refine ⟨fun j hj => ?_, h2 (by omega), h4 (by omega), h8⟩
  rcases (by omega : j = 0 ∨ j = 1) with rfl | rfl
  · exact h0
  · exact h1 (by omega)
theorem Bl2.step {e : G} {b : Nat → G} {z k : Nat} (h : Bl2 e b (z + k)) (hz : z = 2 ∨ z = 4 ∨ z = 8) (hk : 0 < k) (hkz : k < z) : Bl2 e (upd1 b (z + k) (b z ^^^ b k)) (z + (k + 1)) := by
  obtain ⟨h1, h2, h4, h8⟩ := h
  have e1 : b z ^^^ b k = tb e (z + k) := by
    rw [h1 z (by omega), h1 k (by omega), tb_add e z k hz hkz]
  rw [e1]
  refine ⟨fun j hj => ?_, ?_, ?_, ?_⟩
  · unfold upd1
    by_cases c : j = z + k
    · rw [if_pos c, c]
    · rw [if_neg c, h1 j (by omega)]
  · unfold upd1; rw [if_neg (by omega), h2]
  · unfold upd1
    by_cases c : 4 = z + k
    · rw [if_pos c, ← c]
    · rw [if_neg c, h4]
  · unfold upd1
    by_cases c : 8 = z + k
    · rw [if_pos c, ← c]
    · rw [if_neg c, h8]
set_option maxRecDepth 100000 in
set_option maxHeartbeats 4000000 in
theorem fBuild_any (e : G) (w : World) : Calls Try.prog 126 #[ev e] w fun e' w' => ∃ g, e' = .returned (.pointer (some ⟨g, 0, none⟩)) ∧ w.heap.size ≤ g ∧ IsTb w' g (tb e) tov ∧ Ext No w w' := by
  have h1 := hi_lt e
  have h2 := lo_lt e
  unfold ev
  go_enter Try.func126, Try.ntmps126
  go_wp2_with fail
  change Code.wp _ _ _ _ ((w.alloc (.cells #[.int .u64 (hi e : Int), .int .u64 (lo e : Int)] 208)).alloc (.cells (List.replicate 48 (Value.int .u64 0)).toArray 242))
  have hb0 : Blk ((w.alloc (.cells #[.int .u64 (hi e : Int), .int .u64 (lo e : Int)] 208)).alloc (.cells (List.replicate 48 (Value.int .u64 0)).toArray 242)) w.heap.size 208 #[.int .u64 (hi e : Int), .int .u64 (lo e : Int)] := (Blk.new w _ _).alloc _
  have ht0 : IsTb ((w.alloc (.cells #[.int .u64 (hi e : Int), .int .u64 (lo e : Int)] 208)).alloc (.cells (List.replicate 48 (Value.int .u64 0)).toArray 242)) (w.heap.size + 1) (fun _ => 0#128) (fun _ => 0) := by
    have := Blk.new (w.alloc (.cells #[.int .u64 (hi e : Int), .int .u64 (lo e : Int)] 208)) 242 (List.replicate 48 (Value.int .u64 0)).toArray
    rw [World.size_alloc, ← tabC_zero] at this
    exact this
  have hx0 := ((Ext.refl No w).alloc (.cells #[.int .u64 (hi e : Int), .int .u64 (lo e : Int)] 208)).alloc (.cells (List.replicate 48 (Value.int .u64 0)).toArray 242)
  generalize ((w.alloc (.cells #[.int .u64 (hi e : Int), .int .u64 (lo e : Int)] 208)).alloc (.cells (List.replicate 48 (Value.int .u64 0)).toArray 242)) = w2 at *
  have B := Blk.c2 hb0
  have t0 : w2.cell? ⟨w.heap.size + 1, 16, none⟩ = some (.int .u64 0) := ht0.cell 16
  have t1 : w2.cell? ⟨w.heap.size + 1, 17, none⟩ = some (.int .u64 0) := ht0.cell 17
  have f0 := Blk.frozen ht0 16
  have f1 := Blk.frozen ht0 17
  have hl := Blk.lt ht0
  have HI := Lib.hid (And.intro ht0 hx0)
  clear hb0 ht0 hx0
  go_region
  go_wp2_with fail
  have hg2 : w.heap.size ≤ w.heap.size + 1 := by omega
  generalize w.heap.size + 1 = g at *
  go_loopw [4] (fun i wr => ∃ (z : Nat) (zi : Int), ((z = 4 ∧ zi = 4) ∨ (z = 2 ∧ zi = 2) ∨ (z = 1 ∧ zi = 1) ∨ (z = 0 ∧ zi = 0)) ∧ i = .int .i64 zi ∧ ∃ b, Hid (IsTb wr g b (fun _ => 0)) ∧ Hid (Bl1 e b z) ∧ Hid (Ext No w wr)) (fun i _ => (intOf i).toNat)
  case atStart =>
    refine ⟨4, 4, .inl ⟨rfl, rfl⟩, rfl, upd1 (fun _ => 0#128) 8 e, Lib.hid (IsTb.put HI.out.1 (i := 8) (by omega) e), Lib.hid ⟨?_, ?_, fun h => absurd h (by decide), fun h => absurd h (by decide), fun h => absurd h (by decide)⟩, Lib.hid ?_⟩
    · rw [(tb_1248 e).2.2.2.2]; rfl
    · rw [(tb_1248 e).1]; rfl
    · repeat (first | with_reducible refine Ext.setCell ?_ (by simp; try omega) _ | with_reducible refine Ext.drew ?_ | with_reducible exact HI.out.2)
  case round =>
    clear HI t0 t1 f0 f1 hl B
    obtain ⟨z, zi, hz, rfl, b, HT, HB, HX⟩ := hrel
    have w8 : IntKind.i64.wrap 8 = 8 := by decide
    have w4 : IntKind.i64.wrap 4 = 4 := by decide
    have w2' : IntKind.i64.wrap 2 = 2 := by decide
    rcases (by omega : ((z = 4 ∧ zi = 4) ∨ (z = 2 ∧ zi = 2) ∨ (z = 1 ∧ zi = 1)) ∨ (z = 0 ∧ zi = 0)) with hz3 | ⟨rfl, rfl⟩
    · have HST := Lib.hid (HB.out.step (by omega))
      have HS0 := Lib.hid (TbS.S (w0 := w) (g := g) (j := 2 * z) (k := 2 * z) (x := b (2 * z)) (y := b (2 * z)) (o := fun _ => 0) (w := wr) ⟨⟨b, HT.out, rfl, rfl⟩, HX.out, hg2, by omega, by omega⟩)
      have f0 := Blk.frozen HT.out (z * 2)
      have f1 := Blk.frozen HT.out (z * 2 + 1)
      rcases hz3 with ⟨rfl, rfl⟩ | ⟨rfl, rfl⟩ | ⟨rfl, rfl⟩
      · go_wp2_with fail
        go_region_held3 (fun w' => ((w'.cell? ⟨g, 16, none⟩ = some (.int .u64 (hi (b 8) : Int)) ∧ w'.cell? ⟨g, 17, none⟩ = some (.int .u64 (lo (b 8) : Int))) ∧ (w'.cell? ⟨g, 16, none⟩ = some (.int .u64 (hi (b 8) : Int)) ∧ w'.cell? ⟨g, 17, none⟩ = some (.int .u64 (lo (b 8) : Int)))) ∧ Hid (TbS w g 8 8 (b 8) (b 8) (fun _ => 0) w'))
          (first | assumption | exact HS0.out | exact TbS.no HS0.out (Ext.refl No _).drew | exact TbS.no (w0 := w) (g := g) (o := fun _ => 0) (by assumption) (Ext.refl No _).drew | exact TbS.put (w0 := w) (g := g) (j := 8) (k := 8) (x := b 8) (y := b 8) (o := fun _ => 0) (by assumption) 4 (by omega) (by omega) (by omega) (nx (b 8)))
          (first | (go_at_call 159; refine (TbS.next (w0 := w) (g := g) (j := 8) (k := 8) (x := b 8) (y := b 8) (o := fun _ => 0) (by assumption)).mono ?_; rintro e' w1 ⟨rfl, hx1, hS1⟩; have HW1 := Lib.hid (hS1.2.out.x); have HT1 : Hid (IsTb w1 g b (fun _ => 0)) := Lib.hid (Blk.ext_no (by exact HT.out) hx1); have f2 : w1.frozen? ⟨g, 8, none⟩ = false := Blk.frozen HT1.out 8; have f3 : w1.frozen? ⟨g, 9, none⟩ = false := Blk.frozen HT1.out 9; have c2 : w1.cell? ⟨g, 8, none⟩ = _ := (Blk.cell HT1.out 8).trans (tabC_hi b _ (j := 4) (by omega)); have c3 : w1.cell? ⟨g, 9, none⟩ = _ := (Blk.cell HT1.out 9).trans (tabC_lo b _ (j := 4) (by omega)); have g1 := Blk.lt HT1.out))
        go_wp2
        go_roundw
        case rel => exact ⟨2, 2, by omega, rfl, _, Lib.hid (IsTb.put HT1.out (i := 4) (by omega) (nx (b 8))), Lib.hid HST.out.1, Lib.hid (by repeat (first | with_reducible refine Ext.setCell ?_ (by simp; try omega) _ | with_reducible refine Ext.drew ?_ | with_reducible exact HW1.out))⟩
        case measure => simp [intOf]
      · go_wp2_with fail
        go_region_held3 (fun w' => ((w'.cell? ⟨g, 8, none⟩ = some (.int .u64 (hi (b 4) : Int)) ∧ w'.cell? ⟨g, 9, none⟩ = some (.int .u64 (lo (b 4) : Int))) ∧ (w'.cell? ⟨g, 8, none⟩ = some (.int .u64 (hi (b 4) : Int)) ∧ w'.cell? ⟨g, 9, none⟩ = some (.int .u64 (lo (b 4) : Int)))) ∧ Hid (TbS w g 4 4 (b 4) (b 4) (fun _ => 0) w'))
          (first | assumption | exact HS0.out | exact TbS.no HS0.out (Ext.refl No _).drew | exact TbS.no (w0 := w) (g := g) (o := fun _ => 0) (by assumption) (Ext.refl No _).drew | exact TbS.put (w0 := w) (g := g) (j := 4) (k := 4) (x := b 4) (y := b 4) (o := fun _ => 0) (by assumption) 2 (by omega) (by omega) (by omega) (nx (b 4)))
          (first | (go_at_call 159; refine (TbS.next (w0 := w) (g := g) (j := 4) (k := 4) (x := b 4) (y := b 4) (o := fun _ => 0) (by assumption)).mono ?_; rintro e' w1 ⟨rfl, hx1, hS1⟩; have HW1 := Lib.hid (hS1.2.out.x); have HT1 : Hid (IsTb w1 g b (fun _ => 0)) := Lib.hid (Blk.ext_no (by exact HT.out) hx1); have f2 : w1.frozen? ⟨g, 4, none⟩ = false := Blk.frozen HT1.out 4; have f3 : w1.frozen? ⟨g, 5, none⟩ = false := Blk.frozen HT1.out 5; have c2 : w1.cell? ⟨g, 4, none⟩ = _ := (Blk.cell HT1.out 4).trans (tabC_hi b _ (j := 2) (by omega)); have c3 : w1.cell? ⟨g, 5, none⟩ = _ := (Blk.cell HT1.out 5).trans (tabC_lo b _ (j := 2) (by omega)); have g1 := Blk.lt HT1.out))
        go_wp2
        go_roundw
        case rel => exact ⟨1, 1, by omega, rfl, _, Lib.hid (IsTb.put HT1.out (i := 2) (by omega) (nx (b 4))), Lib.hid HST.out.1, Lib.hid (by repeat (first | with_reducible refine Ext.setCell ?_ (by simp; try omega) _ | with_reducible refine Ext.drew ?_ | with_reducible exact HW1.out))⟩
        case measure => simp [intOf]
      · go_wp2_with fail
        go_region_held3 (fun w' => ((w'.cell? ⟨g, 4, none⟩ = some (.int .u64 (hi (b 2) : Int)) ∧ w'.cell? ⟨g, 5, none⟩ = some (.int .u64 (lo (b 2) : Int))) ∧ (w'.cell? ⟨g, 4, none⟩ = some (.int .u64 (hi (b 2) : Int)) ∧ w'.cell? ⟨g, 5, none⟩ = some (.int .u64 (lo (b 2) : Int)))) ∧ Hid (TbS w g 2 2 (b 2) (b 2) (fun _ => 0) w'))
          (first | assumption | exact HS0.out | exact TbS.no HS0.out (Ext.refl No _).drew | exact TbS.no (w0 := w) (g := g) (o := fun _ => 0) (by assumption) (Ext.refl No _).drew | exact TbS.put (w0 := w) (g := g) (j := 2) (k := 2) (x := b 2) (y := b 2) (o := fun _ => 0) (by assumption) 1 (by omega) (by omega) (by omega) (nx (b 2)))
          (first | (go_at_call 159; refine (TbS.next (w0 := w) (g := g) (j := 2) (k := 2) (x := b 2) (y := b 2) (o := fun _ => 0) (by assumption)).mono ?_; rintro e' w1 ⟨rfl, hx1, hS1⟩; have HW1 := Lib.hid (hS1.2.out.x); have HT1 : Hid (IsTb w1 g b (fun _ => 0)) := Lib.hid (Blk.ext_no (by exact HT.out) hx1); have f2 : w1.frozen? ⟨g, 2, none⟩ = false := Blk.frozen HT1.out 2; have f3 : w1.frozen? ⟨g, 3, none⟩ = false := Blk.frozen HT1.out 3; have c2 : w1.cell? ⟨g, 2, none⟩ = _ := (Blk.cell HT1.out 2).trans (tabC_hi b _ (j := 1) (by omega)); have c3 : w1.cell? ⟨g, 3, none⟩ = _ := (Blk.cell HT1.out 3).trans (tabC_lo b _ (j := 1) (by omega)); have g1 := Blk.lt HT1.out))
        go_wp2
        go_roundw
        case rel => exact ⟨0, 0, by omega, rfl, _, Lib.hid (IsTb.put HT1.out (i := 1) (by omega) (nx (b 2))), Lib.hid HST.out.1, Lib.hid (by repeat (first | with_reducible refine Ext.setCell ?_ (by simp; try omega) _ | with_reducible refine Ext.drew ?_ | with_reducible exact HW1.out))⟩
        case measure => simp [intOf]
    · have HB0 := Lib.hid HB.out.to2
      go_wp2_with fail
      go_loopw [5] (fun i wr => ∃ (z : Nat) (zi : Int), ((z = 2 ∧ zi = 2) ∨ (z = 4 ∧ zi = 4) ∨ (z = 8 ∧ zi = 8) ∨ (z = 16 ∧ zi = 16)) ∧ i = .int .i64 zi ∧ ∃ b, Hid (IsTb wr g b (fun _ => 0)) ∧ Hid (Bl2 e b z) ∧ Hid (Ext No w wr)) (fun i _ => 16 - (intOf i).toNat)
      case atStart => exact ⟨2, 2, .inl ⟨rfl, rfl⟩, rfl, b, HT, HB0, HX⟩
      case round =>
        clear HT HB HX HB0
        obtain ⟨z, zi, hz, rfl, b, HT, HB, HX⟩ := hrel
        rcases hz with ⟨rfl, rfl⟩ | ⟨rfl, rfl⟩ | ⟨rfl, rfl⟩ | ⟨rfl, rfl⟩
        · have HB2a : Hid (Bl2 e b (2 + 1)) := Lib.hid ⟨fun j hj => by
            by_cases c : j = 2
            · rw [c]; exact HB.out.2.1
            · exact HB.out.1 j (by omega), HB.out.2⟩
          go_wp2_with fail
          go_loopw [6] (fun i wr => ∃ (k : Nat) (ki : Int), 1 ≤ k ∧ k ≤ 2 ∧ ki = k ∧ i = .int .i64 ki ∧ ∃ b, Hid (IsTb wr g b (fun _ => 0)) ∧ Hid (Bl2 e b (2 + k)) ∧ Hid (Ext No w wr)) (fun i _ => 2 - (intOf i).toNat)
          case atStart => exact ⟨1, 1, by omega, by omega, rfl, rfl, b, HT, Lib.hid HB2a.out, HX⟩
          case round =>
            clear HT HB HX HB2a
            obtain ⟨k, ki, hk1, hk2, hki, rfl, b, HT, HB, HX⟩ := hrel
            by_cases hkz : k < 2
            · have HST := Lib.hid (HB.out.step (by omega) (by omega) hkz)
              have HS0 := Lib.hid (TbS.S (w0 := w) (g := g) (j := 2) (k := k) (x := b 2) (y := b k) (o := fun _ => 0) (w := wr) ⟨⟨b, HT.out, rfl, rfl⟩, HX.out, hg2, by omega, by omega⟩)
              obtain ⟨rfl, rfl⟩ : k = 1 ∧ ki = 1 := by omega
              · clear hki hk1 hk2 hkz
                have ws : IntKind.i64.wrap 3 = 3 := by decide
                go_wp2_with fail
                go_region_held3 (fun w' => ((w'.cell? ⟨g, 4, none⟩ = some (.int .u64 (hi (b 2) : Int)) ∧ w'.cell? ⟨g, 5, none⟩ = some (.int .u64 (lo (b 2) : Int))) ∧ (w'.cell? ⟨g, 2, none⟩ = some (.int .u64 (hi (b 1) : Int)) ∧ w'.cell? ⟨g, 3, none⟩ = some (.int .u64 (lo (b 1) : Int)))) ∧ Hid (TbS w g 2 1 (b 2) (b 1) (fun _ => 0) w'))
                  (first | assumption | exact HS0.out | exact TbS.no HS0.out (Ext.refl No _).drew | exact TbS.no (w0 := w) (g := g) (o := fun _ => 0) (by assumption) (Ext.refl No _).drew | exact TbS.put (w0 := w) (g := g) (j := 2) (k := 1) (x := b 2) (y := b 1) (o := fun _ => 0) (by assumption) 3 (by omega) (by omega) (by omega) (b 2 ^^^ b 1))
                  (first | (go_at_call 160; refine (TbS.add (w0 := w) (g := g) (j := 2) (k := 1) (x := b 2) (y := b 1) (o := fun _ => 0) (by assumption)).mono ?_; rintro e' w1 ⟨rfl, hx1, hS1⟩; have HW1 := Lib.hid (hS1.2.out.x); have HT1 : Hid (IsTb w1 g b (fun _ => 0)) := Lib.hid (Blk.ext_no (by exact HT.out) hx1); have f2 : w1.frozen? ⟨g, 6, none⟩ = false := Blk.frozen HT1.out 6; have f3 : w1.frozen? ⟨g, 7, none⟩ = false := Blk.frozen HT1.out 7; have c2 : w1.cell? ⟨g, 6, none⟩ = _ := (Blk.cell HT1.out 6).trans (tabC_hi b _ (j := 3) (by omega)); have c3 : w1.cell? ⟨g, 7, none⟩ = _ := (Blk.cell HT1.out 7).trans (tabC_lo b _ (j := 3) (by omega)); have g1 := Blk.lt HT1.out))
                go_wp2
                go_roundw
                case rel => exact ⟨2, 2, by omega, by omega, by omega, rfl, _, Lib.hid (IsTb.put HT1.out (i := 3) (by omega) (b 2 ^^^ b 1)), Lib.hid HST.out, Lib.hid (by repeat (first | with_reducible refine Ext.setCell ?_ (by simp; try omega) _ | with_reducible refine Ext.drew ?_ | with_reducible exact HW1.out))⟩
                case measure => simp [intOf]
            · have hkk : k = 2 := by omega
              subst hkk
              subst hki
              go_wp2_with fail
              go_roundw
              case rel => exact ⟨4, 4, by omega, rfl, b, HT, Lib.hid HB.out, HX⟩
              case measure => simp [intOf]
        · have HB2a : Hid (Bl2 e b (4 + 1)) := Lib.hid ⟨fun j hj => by
            by_cases c : j = 4
            · rw [c]; exact HB.out.2.2.1
            · exact HB.out.1 j (by omega), HB.out.2⟩
          go_wp2_with fail
          go_loopw [6] (fun i wr => ∃ (k : Nat) (ki : Int), 1 ≤ k ∧ k ≤ 4 ∧ ki = k ∧ i = .int .i64 ki ∧ ∃ b, Hid (IsTb wr g b (fun _ => 0)) ∧ Hid (Bl2 e b (4 + k)) ∧ Hid (Ext No w wr)) (fun i _ => 4 - (intOf i).toNat)
          case atStart => exact ⟨1, 1, by omega, by omega, rfl, rfl, b, HT, Lib.hid HB2a.out, HX⟩
          case round =>
            clear HT HB HX HB2a
            obtain ⟨k, ki, hk1, hk2, hki, rfl, b, HT, HB, HX⟩ := hrel
            by_cases hkz : k < 4
            · have HST := Lib.hid (HB.out.step (by omega) (by omega) hkz)
              have HS0 := Lib.hid (TbS.S (w0 := w) (g := g) (j := 4) (k := k) (x := b 4) (y := b k) (o := fun _ => 0) (w := wr) ⟨⟨b, HT.out, rfl, rfl⟩, HX.out, hg2, by omega, by omega⟩)
              rcases (by omega : (k = 1 ∧ ki = 1) ∨ (k = 2 ∧ ki = 2) ∨ (k = 3 ∧ ki = 3)) with ⟨rfl, rfl⟩ | ⟨rfl, rfl⟩ | ⟨rfl, rfl⟩
              · clear hki hk1 hk2 hkz
                have ws : IntKind.i64.wrap 5 = 5 := by decide
                go_wp2_with fail
                go_region_held3 (fun w' => ((w'.cell? ⟨g, 8, none⟩ = some (.int .u64 (hi (b 4) : Int)) ∧ w'.cell? ⟨g, 9, none⟩ = some (.int .u64 (lo (b 4) : Int))) ∧ (w'.cell? ⟨g, 2, none⟩ = some (.int .u64 (hi (b 1) : Int)) ∧ w'.cell? ⟨g, 3, none⟩ = some (.int .u64 (lo (b 1) : Int)))) ∧ Hid (TbS w g 4 1 (b 4) (b 1) (fun _ => 0) w'))
                  (first | assumption | exact HS0.out | exact TbS.no HS0.out (Ext.refl No _).drew | exact TbS.no (w0 := w) (g := g) (o := fun _ => 0) (by assumption) (Ext.refl No _).drew | exact TbS.put (w0 := w) (g := g) (j := 4) (k := 1) (x := b 4) (y := b 1) (o := fun _ => 0) (by assumption) 5 (by omega) (by omega) (by omega) (b 4 ^^^ b 1))
                  (first | (go_at_call 160; refine (TbS.add (w0 := w) (g := g) (j := 4) (k := 1) (x := b 4) (y := b 1) (o := fun _ => 0) (by assumption)).mono ?_; rintro e' w1 ⟨rfl, hx1, hS1⟩; have HW1 := Lib.hid (hS1.2.out.x); have HT1 : Hid (IsTb w1 g b (fun _ => 0)) := Lib.hid (Blk.ext_no (by exact HT.out) hx1); have f2 : w1.frozen? ⟨g, 10, none⟩ = false := Blk.frozen HT1.out 10; have f3 : w1.frozen? ⟨g, 11, none⟩ = false := Blk.frozen HT1.out 11; have c2 : w1.cell? ⟨g, 10, none⟩ = _ := (Blk.cell HT1.out 10).trans (tabC_hi b _ (j := 5) (by omega)); have c3 : w1.cell? ⟨g, 11, none⟩ = _ := (Blk.cell HT1.out 11).trans (tabC_lo b _ (j := 5) (by omega)); have g1 := Blk.lt HT1.out))
                go_wp2
                go_roundw
                case rel => exact ⟨2, 2, by omega, by omega, by omega, rfl, _, Lib.hid (IsTb.put HT1.out (i := 5) (by omega) (b 4 ^^^ b 1)), Lib.hid HST.out, Lib.hid (by repeat (first | with_reducible refine Ext.setCell ?_ (by simp; try omega) _ | with_reducible refine Ext.drew ?_ | with_reducible exact HW1.out))⟩
                case measure => simp [intOf]
              · clear hki hk1 hk2 hkz
                have ws : IntKind.i64.wrap 6 = 6 := by decide
                go_wp2_with fail
                go_region_held3 (fun w' => ((w'.cell? ⟨g, 8, none⟩ = some (.int .u64 (hi (b 4) : Int)) ∧ w'.cell? ⟨g, 9, none⟩ = some (.int .u64 (lo (b 4) : Int))) ∧ (w'.cell? ⟨g, 4, none⟩ = some (.int .u64 (hi (b 2) : Int)) ∧ w'.cell? ⟨g, 5, none⟩ = some (.int .u64 (lo (b 2) : Int)))) ∧ Hid (TbS w g 4 2 (b 4) (b 2) (fun _ => 0) w'))
                  (first | assumption | exact HS0.out | exact TbS.no HS0.out (Ext.refl No _).drew | exact TbS.no (w0 := w) (g := g) (o := fun _ => 0) (by assumption) (Ext.refl No _).drew | exact TbS.put (w0 := w) (g := g) (j := 4) (k := 2) (x := b 4) (y := b 2) (o := fun _ => 0) (by assumption) 6 (by omega) (by omega) (by omega) (b 4 ^^^ b 2))
                  (first | (go_at_call 160; refine (TbS.add (w0 := w) (g := g) (j := 4) (k := 2) (x := b 4) (y := b 2) (o := fun _ => 0) (by assumption)).mono ?_; rintro e' w1 ⟨rfl, hx1, hS1⟩; have HW1 := Lib.hid (hS1.2.out.x); have HT1 : Hid (IsTb w1 g b (fun _ => 0)) := Lib.hid (Blk.ext_no (by exact HT.out) hx1); have f2 : w1.frozen? ⟨g, 12, none⟩ = false := Blk.frozen HT1.out 12; have f3 : w1.frozen? ⟨g, 13, none⟩ = false := Blk.frozen HT1.out 13; have c2 : w1.cell? ⟨g, 12, none⟩ = _ := (Blk.cell HT1.out 12).trans (tabC_hi b _ (j := 6) (by omega)); have c3 : w1.cell? ⟨g, 13, none⟩ = _ := (Blk.cell HT1.out 13).trans (tabC_lo b _ (j := 6) (by omega)); have g1 := Blk.lt HT1.out))
                go_wp2
                go_roundw
                case rel => exact ⟨3, 3, by omega, by omega, by omega, rfl, _, Lib.hid (IsTb.put HT1.out (i := 6) (by omega) (b 4 ^^^ b 2)), Lib.hid HST.out, Lib.hid (by repeat (first | with_reducible refine Ext.setCell ?_ (by simp; try omega) _ | with_reducible refine Ext.drew ?_ | with_reducible exact HW1.out))⟩
                case measure => simp [intOf]
              · clear hki hk1 hk2 hkz
                have ws : IntKind.i64.wrap 7 = 7 := by decide
                go_wp2_with fail
                go_region_held3 (fun w' => ((w'.cell? ⟨g, 8, none⟩ = some (.int .u64 (hi (b 4) : Int)) ∧ w'.cell? ⟨g, 9, none⟩ = some (.int .u64 (lo (b 4) : Int))) ∧ (w'.cell? ⟨g, 6, none⟩ = some (.int .u64 (hi (b 3) : Int)) ∧ w'.cell? ⟨g, 7, none⟩ = some (.int .u64 (lo (b 3) : Int)))) ∧ Hid (TbS w g 4 3 (b 4) (b 3) (fun _ => 0) w'))
                  (first | assumption | exact HS0.out | exact TbS.no HS0.out (Ext.refl No _).drew | exact TbS.no (w0 := w) (g := g) (o := fun _ => 0) (by assumption) (Ext.refl No _).drew | exact TbS.put (w0 := w) (g := g) (j := 4) (k := 3) (x := b 4) (y := b 3) (o := fun _ => 0) (by assumption) 7 (by omega) (by omega) (by omega) (b 4 ^^^ b 3))
                  (first | (go_at_call 160; refine (TbS.add (w0 := w) (g := g) (j := 4) (k := 3) (x := b 4) (y := b 3) (o := fun _ => 0) (by assumption)).mono ?_; rintro e' w1 ⟨rfl, hx1, hS1⟩; have HW1 := Lib.hid (hS1.2.out.x); have HT1 : Hid (IsTb w1 g b (fun _ => 0)) := Lib.hid (Blk.ext_no (by exact HT.out) hx1); have f2 : w1.frozen? ⟨g, 14, none⟩ = false := Blk.frozen HT1.out 14; have f3 : w1.frozen? ⟨g, 15, none⟩ = false := Blk.frozen HT1.out 15; have c2 : w1.cell? ⟨g, 14, none⟩ = _ := (Blk.cell HT1.out 14).trans (tabC_hi b _ (j := 7) (by omega)); have c3 : w1.cell? ⟨g, 15, none⟩ = _ := (Blk.cell HT1.out 15).trans (tabC_lo b _ (j := 7) (by omega)); have g1 := Blk.lt HT1.out))
                go_wp2
                go_roundw
                case rel => exact ⟨4, 4, by omega, by omega, by omega, rfl, _, Lib.hid (IsTb.put HT1.out (i := 7) (by omega) (b 4 ^^^ b 3)), Lib.hid HST.out, Lib.hid (by repeat (first | with_reducible refine Ext.setCell ?_ (by simp; try omega) _ | with_reducible refine Ext.drew ?_ | with_reducible exact HW1.out))⟩
                case measure => simp [intOf]
            · have hkk : k = 4 := by omega
              subst hkk
              subst hki
              go_wp2_with fail
              go_roundw
              case rel => exact ⟨8, 8, by omega, rfl, b, HT, Lib.hid HB.out, HX⟩
              case measure => simp [intOf]
        · have HB2a : Hid (Bl2 e b (8 + 1)) := Lib.hid ⟨fun j hj => by
            by_cases c : j = 8
            · rw [c]; exact HB.out.2.2.2
            · exact HB.out.1 j (by omega), HB.out.2⟩
          go_wp2_with fail
          go_loopw [6] (fun i wr => ∃ (k : Nat) (ki : Int), 1 ≤ k ∧ k ≤ 8 ∧ ki = k ∧ i = .int .i64 ki ∧ ∃ b, Hid (IsTb wr g b (fun _ => 0)) ∧ Hid (Bl2 e b (8 + k)) ∧ Hid (Ext No w wr)) (fun i _ => 8 - (intOf i).toNat)
          case atStart => exact ⟨1, 1, by omega, by omega, rfl, rfl, b, HT, Lib.hid HB2a.out, HX⟩
          case round =>
            clear HT HB HX HB2a
            obtain ⟨k, ki, hk1, hk2, hki, rfl, b, HT, HB, HX⟩ := hrel
            by_cases hkz : k < 8
            · have HST := Lib.hid (HB.out.step (by omega) (by omega) hkz)
              have HS0 := Lib.hid (TbS.S (w0 := w) (g := g) (j := 8) (k := k) (x := b 8) (y := b k) (o := fun _ => 0) (w := wr) ⟨⟨b, HT.out, rfl, rfl⟩, HX.out, hg2, by omega, by omega⟩)
              rcases (by omega : (k = 1 ∧ ki = 1) ∨ (k = 2 ∧ ki = 2) ∨ (k = 3 ∧ ki = 3) ∨ (k = 4 ∧ ki = 4) ∨ (k = 5 ∧ ki = 5) ∨ (k = 6 ∧ ki = 6) ∨ (k = 7 ∧ ki = 7)) with ⟨rfl, rfl⟩ | ⟨rfl, rfl⟩ | ⟨rfl, rfl⟩ | ⟨rfl, rfl⟩ | ⟨rfl, rfl⟩ | ⟨rfl, rfl⟩ | ⟨rfl, rfl⟩
              · clear hki hk1 hk2 hkz
                have ws : IntKind.i64.wrap 9 = 9 := by decide
                go_wp2_with fail
                go_region_held3 (fun w' => ((w'.cell? ⟨g, 16, none⟩ = some (.int .u64 (hi (b 8) : Int)) ∧ w'.cell? ⟨g, 17, none⟩ = some (.int .u64 (lo (b 8) : Int))) ∧ (w'.cell? ⟨g, 2, none⟩ = some (.int .u64 (hi (b 1) : Int)) ∧ w'.cell? ⟨g, 3, none⟩ = some (.int .u64 (lo (b 1) : Int)))) ∧ Hid (TbS w g 8 1 (b 8) (b 1) (fun _ => 0) w'))
                  (first | assumption | exact HS0.out | exact TbS.no HS0.out (Ext.refl No _).drew | exact TbS.no (w0 := w) (g := g) (o := fun _ => 0) (by assumption) (Ext.refl No _).drew | exact TbS.put (w0 := w) (g := g) (j := 8) (k := 1) (x := b 8) (y := b 1) (o := fun _ => 0) (by assumption) 9 (by omega) (by omega) (by omega) (b 8 ^^^ b 1))
                  (first | (go_at_call 160; refine (TbS.add (w0 := w) (g := g) (j := 8) (k := 1) (x := b 8) (y := b 1) (o := fun _ => 0) (by assumption)).mono ?_; rintro e' w1 ⟨rfl, hx1, hS1⟩; have HW1 := Lib.hid (hS1.2.out.x); have HT1 : Hid (IsTb w1 g b (fun _ => 0)) := Lib.hid (Blk.ext_no (by exact HT.out) hx1); have f2 : w1.frozen? ⟨g, 18, none⟩ = false := Blk.frozen HT1.out 18; have f3 : w1.frozen? ⟨g, 19, none⟩ = false := Blk.frozen HT1.out 19; have c2 : w1.cell? ⟨g, 18, none⟩ = _ := (Blk.cell HT1.out 18).trans (tabC_hi b _ (j := 9) (by omega)); have c3 : w1.cell? ⟨g, 19, none⟩ = _ := (Blk.cell HT1.out 19).trans (tabC_lo b _ (j := 9) (by omega)); have g1 := Blk.lt HT1.out))
                go_wp2
                go_roundw
                case rel => exact ⟨2, 2, by omega, by omega, by omega, rfl, _, Lib.hid (IsTb.put HT1.out (i := 9) (by omega) (b 8 ^^^ b 1)), Lib.hid HST.out, Lib.hid (by repeat (first | with_reducible refine Ext.setCell ?_ (by simp; try omega) _ | with_reducible refine Ext.drew ?_ | with_reducible exact HW1.out))⟩
                case measure => simp [intOf]
              · clear hki hk1 hk2 hkz
                have ws : IntKind.i64.wrap 10 = 10 := by decide
                go_wp2_with fail
                go_region_held3 (fun w' => ((w'.cell? ⟨g, 16, none⟩ = some (.int .u64 (hi (b 8) : Int)) ∧ w'.cell? ⟨g, 17, none⟩ = some (.int .u64 (lo (b 8) : Int))) ∧ (w'.cell? ⟨g, 4, none⟩ = some (.int .u64 (hi (b 2) : Int)) ∧ w'.cell? ⟨g, 5, none⟩ = some (.int .u64 (lo (b 2) : Int)))) ∧ Hid (TbS w g 8 2 (b 8) (b 2) (fun _ => 0) w'))
                  (first | assumption | exact HS0.out | exact TbS.no HS0.out (Ext.refl No _).drew | exact TbS.no (w0 := w) (g := g) (o := fun _ => 0) (by assumption) (Ext.refl No _).drew | exact TbS.put (w0 := w) (g := g) (j := 8) (k := 2) (x := b 8) (y := b 2) (o := fun _ => 0) (by assumption) 10 (by omega) (by omega) (by omega) (b 8 ^^^ b 2))
                  (first | (go_at_call 160; refine (TbS.add (w0 := w) (g := g) (j := 8) (k := 2) (x := b 8) (y := b 2) (o := fun _ => 0) (by assumption)).mono ?_; rintro e' w1 ⟨rfl, hx1, hS1⟩; have HW1 := Lib.hid (hS1.2.out.x); have HT1 : Hid (IsTb w1 g b (fun _ => 0)) := Lib.hid (Blk.ext_no (by exact HT.out) hx1); have f2 : w1.frozen? ⟨g, 20, none⟩ = false := Blk.frozen HT1.out 20; have f3 : w1.frozen? ⟨g, 21, none⟩ = false := Blk.frozen HT1.out 21; have c2 : w1.cell? ⟨g, 20, none⟩ = _ := (Blk.cell HT1.out 20).trans (tabC_hi b _ (j := 10) (by omega)); have c3 : w1.cell? ⟨g, 21, none⟩ = _ := (Blk.cell HT1.out 21).trans (tabC_lo b _ (j := 10) (by omega)); have g1 := Blk.lt HT1.out))
                go_wp2
                go_roundw
                case rel => exact ⟨3, 3, by omega, by omega, by omega, rfl, _, Lib.hid (IsTb.put HT1.out (i := 10) (by omega) (b 8 ^^^ b 2)), Lib.hid HST.out, Lib.hid (by repeat (first | with_reducible refine Ext.setCell ?_ (by simp; try omega) _ | with_reducible refine Ext.drew ?_ | with_reducible exact HW1.out))⟩
                case measure => simp [intOf]
              · clear hki hk1 hk2 hkz
                have ws : IntKind.i64.wrap 11 = 11 := by decide
                go_wp2_with fail
                go_region_held3 (fun w' => ((w'.cell? ⟨g, 16, none⟩ = some (.int .u64 (hi (b 8) : Int)) ∧ w'.cell? ⟨g, 17, none⟩ = some (.int .u64 (lo (b 8) : Int))) ∧ (w'.cell? ⟨g, 6, none⟩ = some (.int .u64 (hi (b 3) : Int)) ∧ w'.cell? ⟨g, 7, none⟩ = some (.int .u64 (lo (b 3) : Int)))) ∧ Hid (TbS w g 8 3 (b 8) (b 3) (fun _ => 0) w'))
                  (first | assumption | exact HS0.out | exact TbS.no HS0.out (Ext.refl No _).drew | exact TbS.no (w0 := w) (g := g) (o := fun _ => 0) (by assumption) (Ext.refl No _).drew | exact TbS.put (w0 := w) (g := g) (j := 8) (k := 3) (x := b 8) (y := b 3) (o := fun _ => 0) (by assumption) 11 (by omega) (by omega) (by omega) (b 8 ^^^ b 3))
                  (first | (go_at_call 160; refine (TbS.add (w0 := w) (g := g) (j := 8) (k := 3) (x := b 8) (y := b 3) (o := fun _ => 0) (by assumption)).mono ?_; rintro e' w1 ⟨rfl, hx1, hS1⟩; have HW1 := Lib.hid (hS1.2.out.x); have HT1 : Hid (IsTb w1 g b (fun _ => 0)) := Lib.hid (Blk.ext_no (by exact HT.out) hx1); have f2 : w1.frozen? ⟨g, 22, none⟩ = false := Blk.frozen HT1.out 22; have f3 : w1.frozen? ⟨g, 23, none⟩ = false := Blk.frozen HT1.out 23; have c2 : w1.cell? ⟨g, 22, none⟩ = _ := (Blk.cell HT1.out 22).trans (tabC_hi b _ (j := 11) (by omega)); have c3 : w1.cell? ⟨g, 23, none⟩ = _ := (Blk.cell HT1.out 23).trans (tabC_lo b _ (j := 11) (by omega)); have g1 := Blk.lt HT1.out))
                go_wp2
                go_roundw
                case rel => exact ⟨4, 4, by omega, by omega, by omega, rfl, _, Lib.hid (IsTb.put HT1.out (i := 11) (by omega) (b 8 ^^^ b 3)), Lib.hid HST.out, Lib.hid (by repeat (first | with_reducible refine Ext.setCell ?_ (by simp; try omega) _ | with_reducible refine Ext.drew ?_ | with_reducible exact HW1.out))⟩
                case measure => simp [intOf]
              · clear hki hk1 hk2 hkz
                have ws : IntKind.i64.wrap 12 = 12 := by decide
                go_wp2_with fail
                go_region_held3 (fun w' => ((w'.cell? ⟨g, 16, none⟩ = some (.int .u64 (hi (b 8) : Int)) ∧ w'.cell? ⟨g, 17, none⟩ = some (.int .u64 (lo (b 8) : Int))) ∧ (w'.cell? ⟨g, 8, none⟩ = some (.int .u64 (hi (b 4) : Int)) ∧ w'.cell? ⟨g, 9, none⟩ = some (.int .u64 (lo (b 4) : Int)))) ∧ Hid (TbS w g 8 4 (b 8) (b 4) (fun _ => 0) w'))
                  (first | assumption | exact HS0.out | exact TbS.no HS0.out (Ext.refl No _).drew | exact TbS.no (w0 := w) (g := g) (o := fun _ => 0) (by assumption) (Ext.refl No _).drew | exact TbS.put (w0 := w) (g := g) (j := 8) (k := 4) (x := b 8) (y := b 4) (o := fun _ => 0) (by assumption) 12 (by omega) (by omega) (by omega) (b 8 ^^^ b 4))
                  (first | (go_at_call 160; refine (TbS.add (w0 := w) (g := g) (j := 8) (k := 4) (x := b 8) (y := b 4) (o := fun _ => 0) (by assumption)).mono ?_; rintro e' w1 ⟨rfl, hx1, hS1⟩; have HW1 := Lib.hid (hS1.2.out.x); have HT1 : Hid (IsTb w1 g b (fun _ => 0)) := Lib.hid (Blk.ext_no (by exact HT.out) hx1); have f2 : w1.frozen? ⟨g, 24, none⟩ = false := Blk.frozen HT1.out 24; have f3 : w1.frozen? ⟨g, 25, none⟩ = false := Blk.frozen HT1.out 25; have c2 : w1.cell? ⟨g, 24, none⟩ = _ := (Blk.cell HT1.out 24).trans (tabC_hi b _ (j := 12) (by omega)); have c3 : w1.cell? ⟨g, 25, none⟩ = _ := (Blk.cell HT1.out 25).trans (tabC_lo b _ (j := 12) (by omega)); have g1 := Blk.lt HT1.out))
                go_wp2
                go_roundw
                case rel => exact ⟨5, 5, by omega, by omega, by omega, rfl, _, Lib.hid (IsTb.put HT1.out (i := 12) (by omega) (b 8 ^^^ b 4)), Lib.hid HST.out, Lib.hid (by repeat (first | with_reducible refine Ext.setCell ?_ (by simp; try omega) _ | with_reducible refine Ext.drew ?_ | with_reducible exact HW1.out))⟩
                case measure => simp [intOf]
              · clear hki hk1 hk2 hkz
                have ws : IntKind.i64.wrap 13 = 13 := by decide
                go_wp2_with fail
                go_region_held3 (fun w' => ((w'.cell? ⟨g, 16, none⟩ = some (.int .u64 (hi (b 8) : Int)) ∧ w'.cell? ⟨g, 17, none⟩ = some (.int .u64 (lo (b 8) : Int))) ∧ (w'.cell? ⟨g, 10, none⟩ = some (.int .u64 (hi (b 5) : Int)) ∧ w'.cell? ⟨g, 11, none⟩ = some (.int .u64 (lo (b 5) : Int)))) ∧ Hid (TbS w g 8 5 (b 8) (b 5) (fun _ => 0) w'))
                  (first | assumption | exact HS0.out | exact TbS.no HS0.out (Ext.refl No _).drew | exact TbS.no (w0 := w) (g := g) (o := fun _ => 0) (by assumption) (Ext.refl No _).drew | exact TbS.put (w0 := w) (g := g) (j := 8) (k := 5) (x := b 8) (y := b 5) (o := fun _ => 0) (by assumption) 13 (by omega) (by omega) (by omega) (b 8 ^^^ b 5))
                  (first | (go_at_call 160; refine (TbS.add (w0 := w) (g := g) (j := 8) (k := 5) (x := b 8) (y := b 5) (o := fun _ => 0) (by assumption)).mono ?_; rintro e' w1 ⟨rfl, hx1, hS1⟩; have HW1 := Lib.hid (hS1.2.out.x); have HT1 : Hid (IsTb w1 g b (fun _ => 0)) := Lib.hid (Blk.ext_no (by exact HT.out) hx1); have f2 : w1.frozen? ⟨g, 26, none⟩ = false := Blk.frozen HT1.out 26; have f3 : w1.frozen? ⟨g, 27, none⟩ = false := Blk.frozen HT1.out 27; have c2 : w1.cell? ⟨g, 26, none⟩ = _ := (Blk.cell HT1.out 26).trans (tabC_hi b _ (j := 13) (by omega)); have c3 : w1.cell? ⟨g, 27, none⟩ = _ := (Blk.cell HT1.out 27).trans (tabC_lo b _ (j := 13) (by omega)); have g1 := Blk.lt HT1.out))
                go_wp2
                go_roundw
                case rel => exact ⟨6, 6, by omega, by omega, by omega, rfl, _, Lib.hid (IsTb.put HT1.out (i := 13) (by omega) (b 8 ^^^ b 5)), Lib.hid HST.out, Lib.hid (by repeat (first | with_reducible refine Ext.setCell ?_ (by simp; try omega) _ | with_reducible refine Ext.drew ?_ | with_reducible exact HW1.out))⟩
                case measure => simp [intOf]
              · clear hki hk1 hk2 hkz
                have ws : IntKind.i64.wrap 14 = 14 := by decide
                go_wp2_with fail
                go_region_held3 (fun w' => ((w'.cell? ⟨g, 16, none⟩ = some (.int .u64 (hi (b 8) : Int)) ∧ w'.cell? ⟨g, 17, none⟩ = some (.int .u64 (lo (b 8) : Int))) ∧ (w'.cell? ⟨g, 12, none⟩ = some (.int .u64 (hi (b 6) : Int)) ∧ w'.cell? ⟨g, 13, none⟩ = some (.int .u64 (lo (b 6) : Int)))) ∧ Hid (TbS w g 8 6 (b 8) (b 6) (fun _ => 0) w'))
                  (first | assumption | exact HS0.out | exact TbS.no HS0.out (Ext.refl No _).drew | exact TbS.no (w0 := w) (g := g) (o := fun _ => 0) (by assumption) (Ext.refl No _).drew | exact TbS.put (w0 := w) (g := g) (j := 8) (k := 6) (x := b 8) (y := b 6) (o := fun _ => 0) (by assumption) 14 (by omega) (by omega) (by omega) (b 8 ^^^ b 6))
                  (first | (go_at_call 160; refine (TbS.add (w0 := w) (g := g) (j := 8) (k := 6) (x := b 8) (y := b 6) (o := fun _ => 0) (by assumption)).mono ?_; rintro e' w1 ⟨rfl, hx1, hS1⟩; have HW1 := Lib.hid (hS1.2.out.x); have HT1 : Hid (IsTb w1 g b (fun _ => 0)) := Lib.hid (Blk.ext_no (by exact HT.out) hx1); have f2 : w1.frozen? ⟨g, 28, none⟩ = false := Blk.frozen HT1.out 28; have f3 : w1.frozen? ⟨g, 29, none⟩ = false := Blk.frozen HT1.out 29; have c2 : w1.cell? ⟨g, 28, none⟩ = _ := (Blk.cell HT1.out 28).trans (tabC_hi b _ (j := 14) (by omega)); have c3 : w1.cell? ⟨g, 29, none⟩ = _ := (Blk.cell HT1.out 29).trans (tabC_lo b _ (j := 14) (by omega)); have g1 := Blk.lt HT1.out))
                go_wp2
                go_roundw
                case rel => exact ⟨7, 7, by omega, by omega, by omega, rfl, _, Lib.hid (IsTb.put HT1.out (i := 14) (by omega) (b 8 ^^^ b 6)), Lib.hid HST.out, Lib.hid (by repeat (first | with_reducible refine Ext.setCell ?_ (by simp; try omega) _ | with_reducible refine Ext.drew ?_ | with_reducible exact HW1.out))⟩
                case measure => simp [intOf]
              · clear hki hk1 hk2 hkz
                have ws : IntKind.i64.wrap 15 = 15 := by decide
                go_wp2_with fail
                go_region_held3 (fun w' => ((w'.cell? ⟨g, 16, none⟩ = some (.int .u64 (hi (b 8) : Int)) ∧ w'.cell? ⟨g, 17, none⟩ = some (.int .u64 (lo (b 8) : Int))) ∧ (w'.cell? ⟨g, 14, none⟩ = some (.int .u64 (hi (b 7) : Int)) ∧ w'.cell? ⟨g, 15, none⟩ = some (.int .u64 (lo (b 7) : Int)))) ∧ Hid (TbS w g 8 7 (b 8) (b 7) (fun _ => 0) w'))
                  (first | assumption | exact HS0.out | exact TbS.no HS0.out (Ext.refl No _).drew | exact TbS.no (w0 := w) (g := g) (o := fun _ => 0) (by assumption) (Ext.refl No _).drew | exact TbS.put (w0 := w) (g := g) (j := 8) (k := 7) (x := b 8) (y := b 7) (o := fun _ => 0) (by assumption) 15 (by omega) (by omega) (by omega) (b 8 ^^^ b 7))
                  (first | (go_at_call 160; refine (TbS.add (w0 := w) (g := g) (j := 8) (k := 7) (x := b 8) (y := b 7) (o := fun _ => 0) (by assumption)).mono ?_; rintro e' w1 ⟨rfl, hx1, hS1⟩; have HW1 := Lib.hid (hS1.2.out.x); have HT1 : Hid (IsTb w1 g b (fun _ => 0)) := Lib.hid (Blk.ext_no (by exact HT.out) hx1); have f2 : w1.frozen? ⟨g, 30, none⟩ = false := Blk.frozen HT1.out 30; have f3 : w1.frozen? ⟨g, 31, none⟩ = false := Blk.frozen HT1.out 31; have c2 : w1.cell? ⟨g, 30, none⟩ = _ := (Blk.cell HT1.out 30).trans (tabC_hi b _ (j := 15) (by omega)); have c3 : w1.cell? ⟨g, 31, none⟩ = _ := (Blk.cell HT1.out 31).trans (tabC_lo b _ (j := 15) (by omega)); have g1 := Blk.lt HT1.out))
                go_wp2
                go_roundw
                case rel => exact ⟨8, 8, by omega, by omega, by omega, rfl, _, Lib.hid (IsTb.put HT1.out (i := 15) (by omega) (b 8 ^^^ b 7)), Lib.hid HST.out, Lib.hid (by repeat (first | with_reducible refine Ext.setCell ?_ (by simp; try omega) _ | with_reducible refine Ext.drew ?_ | with_reducible exact HW1.out))⟩
                case measure => simp [intOf]
            · have hkk : k = 8 := by omega
              subst hkk
              subst hki
              go_wp2_with fail
              go_roundw
              case rel => exact ⟨16, 16, by omega, rfl, b, HT, Lib.hid HB.out, HX⟩
              case measure => simp [intOf]
        · have HBB := Lib.hid (fun j hj => HB.out.1 j hj)
          clear HB
          go_wp2_with fail
          go_loopw [62] (fun i wr => ∃ z : Nat, z ≤ 16 ∧ i = .int .i64 z ∧ ∃ o, Hid (IsTb wr g b o) ∧ Hid (∀ j, j < z → o j = tov j) ∧ Hid (Ext No w wr)) (fun i _ => 16 - (intOf i).toNat)
          case atStart => exact ⟨0, by omega, rfl, fun _ => 0, HT, Lib.hid (fun j hj => absurd hj (Nat.not_lt_zero _)), HX⟩
          case round =>
            clear HT HX
            obtain ⟨z, hz, rfl, o, HT, HO, HX⟩ := hrel
            by_cases hz16 : z < 16
            · have hgw := Blk.lt HT.out
              have hzb : decide ((z : Int) < 16) = true := decide_eq_true (by omega)
              go_wp2_with fail
              have hm0 : hi (mkE 0 z) = 0 := hi_mk (by omega) (by omega)
              have hm1 : lo (mkE 0 z) = z := lo_mk (by omega) (by omega)
              have HQ : Hid (Blk (wr.alloc (.cells #[.int .u64 0, .int .u64 (z : Int)] 208)) wr.heap.size 208 #[.int .u64 (hi (nxn 0 (mkE 0 z)) : Int), .int .u64 (lo (nxn 0 (mkE 0 z)) : Int)]) := Lib.hid (by
                show Blk _ _ _ #[.int .u64 (hi (mkE 0 z) : Int), .int .u64 (lo (mkE 0 z) : Int)]
                rw [hm0, hm1]; exact Blk.new _ _ _)
              have HT2 := Lib.hid (HT.out.alloc (.cells #[.int .u64 0, .int .u64 (z : Int)] 208))
              have HX2 := Lib.hid (HX.out.alloc (.cells #[.int .u64 0, .int .u64 (z : Int)] 208))
              have hwx : w.heap.size ≤ wr.heap.size := HX.out.size
              clear hm0 hm1 HT HX
              generalize wr.alloc (.cells #[.int .u64 0, .int .u64 (z : Int)] 208) = w3 at *
              generalize wr.heap.size = gx at *
              go_loopw [68] (fun i wq => ∃ y : Nat, y ≤ 4 ∧ i = .int .i64 y ∧ Hid (Blk wq gx 208 #[.int .u64 (hi (nxn y (mkE 0 z)) : Int), .int .u64 (lo (nxn y (mkE 0 z)) : Int)]) ∧ Hid (IsTb wq g b o) ∧ Hid (Ext No w wq)) (fun i _ => 4 - (intOf i).toNat)
              case atStart => exact ⟨0, by omega, rfl, HQ, HT2, HX2⟩
              case round =>
                clear HQ HT2 HX2
                obtain ⟨y, hy, rfl, HQ, HT2, HX2⟩ := hrel
                by_cases hy4 : y < 4
                · have Q := Blk.c2 HQ.out
                  go_wp2_with (go_at_call 159; refine (eNext_agg _ _).mono ?_; rintro e' w4 ⟨rfl, hx4⟩; have HQ4 := Lib.hid (HQ.out.ext_no hx4); have HT4 := Lib.hid (Blk.ext_no HT2.out hx4); have HX4 := Lib.hid (HX2.out.trans hx4); clear hx4; have Q4 := Blk.c2 HQ4.out)
                  go_roundw
                  case rel => exact ⟨y + 1, by omega, by go_num, Lib.hid (Blk.set_ (Blk.set_ HQ4.out 0 _) 1 _), Lib.hid (Blk.far (Blk.far HT4.out (by show g ≠ gx; omega) _) (by show g ≠ gx; omega) _), Lib.hid (by repeat (first | with_reducible refine Ext.setCell ?_ (fun h => by have h : gx < w.heap.size := h; omega) _ | with_reducible refine Ext.drew ?_ | with_reducible exact HX4.out))⟩
                  case measure => simp [intOf]; omega
                · have hye : y = 4 := by omega
                  subst hye
                  have Q := (Blk.c2 HQ.out).1
                  have c2 := (Blk.cell HT2.out (32 + z)).trans (tabC_ov b o (j := z) (by omega))
                  have f2 := Blk.frozen HT2.out (32 + z)
                  have g2 := Blk.lt HT2.out
                  have j0 : (0 : Int) ≤ (z : Int) := by omega
                  have j1 : (z : Int) < 16 := by omega
                  go_wp2_with fail
                  go_region
                  go_wp2
                  go_roundw
                  case rel => exact ⟨z + 1, by omega, by go_num, _, Lib.hid (IsTb.puto HT2.out (i := z) (by omega) (hi (nxn 4 (mkE 0 z)))), Lib.hid (fun j hj => by
                    unfold upd1
                    by_cases c : j = z
                    · rw [if_pos c, c]; rfl
                    · rw [if_neg c]; exact HO.out j (by omega)), Lib.hid (by repeat (first | with_reducible refine Ext.setCell ?_ (fun h => by have h : g < w.heap.size := h; omega) _ | with_reducible refine Ext.drew ?_ | with_reducible exact HX2.out))⟩
                  case measure => simp [intOf]; omega
            · have hze : z = 16 := by omega
              subst hze
              have HF : Hid (IsTb wr g (tb e) tov) := Lib.hid (by
                have := HT.out
                unfold IsTb at this
                rw [tabC_congr HBB.out HO.out] at this
                exact this)
              go_wp2
              go_ret
              exact ⟨g, rfl, hg2, HF.out, HX.out⟩
end Go.Proofs.Ytmbbkkonmkbnoaa
namespace Go.Proofs.Ytmbbkkonmkbnoaa
open Go.RowKit Go.Deep Fm
theorem xor8 (a a' b b' c c' d d' : G) : ((a ^^^ a') ^^^ (b ^^^ b') ^^^ (c ^^^ c') ^^^ (d ^^^ d')) = (a ^^^ b ^^^ c ^^^ d) ^^^ (a' ^^^ b' ^^^ c' ^^^ d') := by
  rw [xor4 a a' b b', xor4 (a ^^^ b) (a' ^^^ b') c c', xor4 (a ^^^ b ^^^ c) (a' ^^^ b' ^^^ c') d d']
theorem tb_xor (e : G) (j k : Nat) : tb e (j ^^^ k) = tb e j ^^^ tb e k := by
  unfold tb
  simp only [Nat.testBit_xor, ite_xor]
  rw [xor8]
theorem tb_zero (e : G) : tb e 0 = 0#128 := (tb_1248 e).2.2.2.2
/-- The s-th four bits, from the lowest on. -/
def nib (a : G) (s : Nat) : Nat := a.toNat / 16 ^ s % 16
theorem nib_lt (a : G) (s : Nat) : nib a s < 16 := Nat.mod_lt _ (by omega)
theorem nib_xor (a b : G) (s : Nat) : nib (a ^^^ b) s = nib a s ^^^ nib b s := by
  unfold nib
  have e : (16 : Nat) ^ s = 2 ^ (4 * s) := by rw [Nat.pow_mul]
  rw [e, BitVec.toNat_xor, Nat.xor_div_two_pow, show (16 : Nat) = 2 ^ 4 by decide, Nat.xor_mod_two_pow]
/-- The product behind s steps. -/
def ts (a b : G) : Nat → G
  | 0 => 0#128
  | s + 1 => nxn 4 (ts a b s) ^^^ tb b (nib a s)
theorem ts_xor (a a' b : G) (s : Nat) : ts (a ^^^ a') b s = ts a b s ^^^ ts a' b s := by
  induction s with
  | zero => simp [ts]
  | succ s ih => simp only [ts]; rw [ih, nxn_xor, nib_xor, tb_xor, xor4]
theorem nib_basis : ∀ m : Fin 128, ∀ s : Fin 32, 2 ^ m.val / 16 ^ s.val % 16 = if s.val = m.val / 4 then 2 ^ (m.val % 4) else 0 := by decide +kernel
theorem nib_pow {m s : Nat} (hm : m < 128) (hs : s < 32) : nib (BitVec.ofNat 128 (2 ^ m)) s = if s = m / 4 then 2 ^ (m % 4) else 0 := by
  unfold nib
  rw [BitVec.toNat_ofNat, Nat.mod_eq_of_lt (Nat.pow_lt_pow_right (by omega) hm)]
  exact nib_basis ⟨m, hm⟩ ⟨s, hs⟩
theorem nxn_zero (n : Nat) : nxn n 0#128 = 0#128 := by
  induction n with
  | zero => rfl
  | succ n ih => simp only [nxn, ih, nx_zero]
theorem tb_pow (e : G) (r : Nat) (hr : r < 4) : tb e (2 ^ r) = nxn (3 - r) e := by
  obtain ⟨t8, t4, t2, t1, _⟩ := tb_1248 e
  rcases (by omega : r = 0 ∨ r = 1 ∨ r = 2 ∨ r = 3) with rfl | rfl | rfl | rfl
  · exact t1
  · exact t2
  · exact t4
  · exact t8
theorem ts_basis (b : G) (m : Nat) (hm : m < 128) : ∀ s, s ≤ 32 → ts (BitVec.ofNat 128 (2 ^ m)) b s = if m / 4 < s then nxn (4 * s - 1 - m) b else 0#128 := by
  intro s
  induction s with
  | zero => intro _; rw [if_neg (by omega)]; rfl
  | succ s ih =>
    intro hs
    simp only [ts]
    rw [ih (by omega), nib_pow hm (by omega)]
    by_cases c : s = m / 4
    · rw [if_pos c, if_neg (by omega), if_pos (by omega), nxn_zero, BitVec.zero_xor, tb_pow b _ (by omega)]
      congr 1
      omega
    · rw [if_neg c, tb_zero, BitVec.xor_zero]
      by_cases c2 : m / 4 < s
      · rw [if_pos c2, if_pos (by omega), ← nxn_add]
        congr 1
        omega
      · rw [if_neg c2, if_neg (by omega), nxn_zero]
theorem ts_mul (a b : G) : ts a b 32 = mul a b := by
  refine ext_lin (f := fun a => ts a b 32) (g := fun a => mul a b) (fun x y => ts_xor x y b 32) (fun x y => mul_xor_left x y b) (fun i hi => ?_) a
  show ts (nxn i one) b 32 = mul (nxn i one) b
  rw [mul_basis i hi, basis i hi, ts_basis b (127 - i) (by omega) 32 (Nat.le_refl _), if_pos (by omega)]
  congr 1
  omega
theorem nx_even {v : G} (h : v.toNat % 2 = 0) : (nx v).toNat = v.toNat / 2 := by
  rw [nxF_eq]; unfold nxF; rw [h, Nat.zero_mul, Nat.xor_zero]
theorem nxn4_high {v : G} (h : v.toNat % 16 = 0) : (nxn 4 v).toNat = v.toNat / 16 := by
  have h1 := nx_even (v := v) (by omega)
  have h2 := nx_even (v := nx v) (by omega)
  have h3 := nx_even (v := nx (nx v)) (by omega)
  have h4 := nx_even (v := nx (nx (nx v))) (by omega)
  show (nx (nx (nx (nx v)))).toNat = _
  omega
theorem low_all : ∀ j : Fin 16, lo (nxn 4 (mkE 0 j.val)) = 0 := by decide +kernel
theorem xor_split (x : Nat) : (x / 16 * 16) ^^^ (x % 16) = x := by
  apply Nat.eq_of_testBit_eq
  intro i
  rw [Nat.testBit_xor, show (16 : Nat) = 2 ^ 4 by decide, Nat.testBit_mul_two_pow, Nat.testBit_div_two_pow, Nat.testBit_mod_two_pow]
  by_cases c : i < 4
  · simp [c, show ¬ 4 ≤ i by omega]
  · simp [c, show 4 ≤ i by omega, show i - 4 + 4 = i by omega]
theorem nxn4 (v : G) : hi (nxn 4 v) = hi v / 16 ^^^ tov (lo v % 16) ∧ lo (nxn 4 v) = lo v / 16 + hi v % 16 * 1152921504606846976 := by
  have hv := v.isLt
  rw [two128] at hv
  have e : v = BitVec.ofNat 128 (v.toNat / 16 * 16) ^^^ mkE 0 (lo v % 16) := by
    apply BitVec.eq_of_toNat_eq
    unfold mkE lo
    rw [BitVec.toNat_xor, BitVec.toNat_ofNat, BitVec.toNat_ofNat, Nat.mod_eq_of_lt (a := v.toNat / 16 * 16) (by rw [two128]; omega), Nat.mod_eq_of_lt (a := 0 * 18446744073709551616 + v.toNat % 18446744073709551616 % 16) (by rw [two128]; omega)]
    rw [show 0 * 18446744073709551616 + v.toNat % 18446744073709551616 % 16 = v.toNat % 16 by omega, xor_split]
  have hc : (nxn 4 (BitVec.ofNat 128 (v.toNat / 16 * 16))).toNat = v.toNat / 16 := by
    rw [nxn4_high] <;> rw [BitVec.toNat_ofNat, Nat.mod_eq_of_lt (a := v.toNat / 16 * 16) (by rw [two128]; omega)] <;> omega
  have hl := low_all ⟨lo v % 16, by omega⟩
  have h1 : nxn 4 v = nxn 4 (BitVec.ofNat 128 (v.toNat / 16 * 16)) ^^^ nxn 4 (mkE 0 (lo v % 16)) := by
    rw [← nxn_xor, ← e]
  rw [h1, hi_xor, lo_xor, hl, Nat.xor_zero]
  refine ⟨?_, ?_⟩
  · congr 1
    unfold hi
    rw [hc]; omega
  · unfold lo hi
    rw [hc]; omega
theorem nib_lo (a : G) (s : Nat) (hs : s < 16) : lo a / 16 ^ s % 16 = nib a s := by
  have h : ∀ s : Fin 16, ∀ d : Nat, d % 18446744073709551616 / 16 ^ s.val % 16 = d / 16 ^ s.val % 16 := by
    intro s d
    have h64 : (18446744073709551616 : Nat) = 16 ^ s.val * 16 ^ (16 - s.val) := by
      rw [← Nat.pow_add, show s.val + (16 - s.val) = 16 by omega]
    rw [h64, Nat.mod_mul_right_div_self]
    have : (16 : Nat) ^ (16 - s.val) = 16 * 16 ^ (15 - s.val) := by
      rw [Nat.mul_comm, ← Nat.pow_succ]; congr 1; omega
    rw [this, Nat.mod_mul_right_mod]
  exact h ⟨s, hs⟩ _
theorem nib_hi (a : G) (s : Nat) : hi a / 16 ^ s % 16 = nib a (16 + s) := by
  unfold hi nib
  rw [Nat.div_div_eq_div_mul, Nat.pow_add]
end Go.Proofs.Ytmbbkkonmkbnoaa
namespace Go.Proofs.Ytmbbkkonmkbnoaa
open Go.RowKit Go.Deep Fm
theorem shr_nib (x s k : Nat) (hx : x < 18446744073709551616) (hk : k = 4 * s) (hs : s < 16) : bits .and .u64 ((x : Int) / 2 ^ k) 15 = ((x / 16 ^ s % 16 : Nat) : Int) := by
  have h2 : ((x : Int) / 2 ^ (4 * s)) = ((x / 16 ^ s : Nat) : Int) := by
    rw [show (16 : Nat) ^ s = 2 ^ (4 * s) by rw [Nat.pow_mul]]
    norm_cast
  rw [hk, h2]
  have h3 : x / 16 ^ s < 18446744073709551616 := Nat.lt_of_le_of_lt (Nat.div_le_self _ _) hx
  have := u64_and_nat (x / 16 ^ s) 15 h3 (by omega)
  rw [show x / 16 ^ s &&& 15 = x / 16 ^ s % 16 from Nat.and_two_pow_sub_one_eq_mod _ 4] at this
  exact this
/-- Within Times: what is out, the table's entry n. -/
structure TmS (w0 : World) (go g n : Nat) (x : G) (b : G) (w : World) : Prop where
  p : ∃ u v, Blk w (go + 1 + 1) 208 #[u, v]
  q : ∃ u v, Blk w (go + 1) 208 #[u, v]
  t : IsTb w g (tb b) tov
  x : Ext No w0 w
theorem fAdd_agg (a b : G) (w : World) : Calls Try.prog 160 #[.agg #[.int .u64 (hi a : Int), .int .u64 (lo a : Int)], .agg #[.int .u64 (hi b : Int), .int .u64 (lo b : Int)]] w fun e w' => e = .returned (.agg #[.int .u64 (hi (a ^^^ b) : Int), .int .u64 (lo (a ^^^ b) : Int)]) ∧ Ext No w w' := eAdd_any a b w
set_option maxRecDepth 100000 in
set_option maxHeartbeats 2000000 in
theorem fTimesT_any (g : Nat) (a b : G) (w : World) (h : IsTb w g (tb b) tov) : Calls Try.prog 179 #[.pointer (some ⟨g, 0, none⟩), ev a] w fun e' w' => e' = .returned (ev (mul a b)) ∧ Ext No w w' := by
  have hg := h.lt
  have h1 := hi_lt a
  have h2 := lo_lt a
  have HT0 := Lib.hid h
  clear h
  unfold ev
  have i0 : ∀ (x y : Value) (W : World), (Instr.index 263 (.agg #[x, y]) (.int .i64 0)).run Try.prog W = .ok x W := fun _ _ _ => by kernel_rfl
  have i1 : ∀ (x y : Value) (W : World), (Instr.index 263 (.agg #[x, y]) (.int .i64 1)).run Try.prog W = .ok y W := fun _ _ _ => by kernel_rfl
  go_enter Try.func179, Try.ntmps179
  go_wp2_with fail
  have HP := Lib.hid (Blk.new (((w.alloc (.cells #[.int .u64 (hi a : Int), .int .u64 (lo a : Int)] 208)).alloc (.cells #[.int .u64 0, .int .u64 0] 208))) 208 #[.int .u64 0, .int .u64 0])
  have HQ := Lib.hid ((Blk.new (w.alloc (.cells #[.int .u64 (hi a : Int), .int .u64 (lo a : Int)] 208)) 208 #[.int .u64 0, .int .u64 0]).alloc (.cells #[.int .u64 0, .int .u64 0] 208))
  have HX := Lib.hid ((((Ext.refl No w).alloc (.cells #[.int .u64 (hi a : Int), .int .u64 (lo a : Int)] 208)).alloc (.cells #[.int .u64 0, .int .u64 0] 208)).alloc (.cells #[.int .u64 0, .int .u64 0] 208))
  have hs3 : (((w.alloc (.cells #[.int .u64 (hi a : Int), .int .u64 (lo a : Int)] 208)).alloc (.cells #[.int .u64 0, .int .u64 0] 208))).heap.size = w.heap.size + 2 := by simp
  have hs2 : (w.alloc (.cells #[.int .u64 (hi a : Int), .int .u64 (lo a : Int)] 208)).heap.size = w.heap.size + 1 := by simp
  rw [hs3, show w.heap.size + 2 = w.heap.size + 1 + 1 from rfl] at HP
  rw [hs2] at HQ
  clear hs3 hs2
  generalize (((w.alloc (.cells #[.int .u64 (hi a : Int), .int .u64 (lo a : Int)] 208)).alloc (.cells #[.int .u64 0, .int .u64 0] 208)).alloc (.cells #[.int .u64 0, .int .u64 0] 208)) = w2 at *
  generalize hgo : w.heap.size = go at *
  go_loopw [15] (fun i wr => ∃ (z : Nat) (zi : Int), ((z = 0 ∧ zi = 0) ∨ (z = 1 ∧ zi = 1) ∨ (z = 2 ∧ zi = 2)) ∧ i = .int .i64 zi ∧ Hid (Blk wr (go + 1 + 1) 208 #[.int .u64 (hi (ts a b (16 * z)) : Int), .int .u64 (lo (ts a b (16 * z)) : Int)]) ∧ Hid (∃ u v, Blk wr (go + 1) 208 #[u, v]) ∧ Hid (Ext No w wr)) (fun i _ => 2 - (intOf i).toNat)
  case atStart => exact ⟨0, 0, .inl ⟨rfl, rfl⟩, rfl, Lib.hid (by
    show Blk _ _ _ #[.int .u64 (hi 0#128 : Int), .int .u64 (lo 0#128 : Int)]
    rw [show hi 0#128 = 0 by decide, show lo 0#128 = 0 by decide]; exact HP.out), Lib.hid ⟨_, _, HQ.out⟩, HX⟩
  case round =>
    clear HP HQ HX
    obtain ⟨z, zi, hz, rfl, HP, HQ, HX⟩ := hrel
    rcases hz with ⟨rfl, rfl⟩ | ⟨rfl, rfl⟩ | ⟨rfl, rfl⟩
    · go_wp2_with fail
      go_loopw [8] (fun k wr => ∃ s : Nat, s ≤ 16 ∧ k = .int .i64 ((4 * s : Nat) : Int) ∧ Hid (Blk wr (go + 1 + 1) 208 #[.int .u64 (hi (ts a b s) : Int), .int .u64 (lo (ts a b s) : Int)]) ∧ Hid (∃ u v, Blk wr (go + 1) 208 #[u, v]) ∧ Hid (Ext No w wr)) (fun k _ => 64 - (intOf k).toNat)
      case atStart => exact ⟨0, by omega, rfl, HP, HQ, HX⟩
      case round =>
        clear HP HQ HX
        obtain ⟨s, hs, rfl, HP, HQ, HX⟩ := hrel
        obtain ⟨k4, hk4⟩ : ∃ k4, 4 * s = k4 := ⟨_, rfl⟩
        have hk1 : 4 * s ≤ k4 := by omega
        have hk2 : k4 ≤ 4 * s := by omega
        rw [hk4]
        clear hk4
        by_cases hs16 : s < 16
        · have HN := Lib.hid (nxn4 (ts a b s))
          have hol := lo_lt (ts a b s)
          have hoh := hi_lt (ts a b s)
          have e15 : bits .and .u64 ((lo (ts a b s) : Nat) : Int) 15 = ((lo (ts a b s) % 16 : Nat) : Int) := by
            have := u64_and_nat (lo (ts a b s)) 15 hol (by omega)
            rw [show lo (ts a b s) &&& 15 = lo (ts a b s) % 16 from Nat.and_two_pow_sub_one_eq_mod _ 4] at this
            exact this
          have hm0 : (0 : Int) ≤ ((lo (ts a b s) % 16 : Nat) : Int) := by omega
          have hm1 : ((lo (ts a b s) % 16 : Nat) : Int) < 16 := by omega
          have ct := (Blk.cell (HT0.out.ext_no HX.out) (32 + lo (ts a b s) % 16)).trans (tabC_ov (tb b) tov (j := lo (ts a b s) % 16) (by omega))
          have P := Blk.c2 HP.out
          have e1 : bits .xor .u64 (((hi (ts a b s) : Nat) : Int) / 16) ((tov (lo (ts a b s) % 16) : Nat) : Int) = ((hi (nxn 4 (ts a b s)) : Nat) : Int) := by
            have h3 : tov (lo (ts a b s) % 16) < 18446744073709551616 := hi_lt _
            rw [show ((hi (ts a b s) : Nat) : Int) / 16 = ((hi (ts a b s) / 16 : Nat) : Int) by omega, u64_xor_nat _ _ (by omega) h3, HN.out.1]
          have e2 : bits .or .u64 (((lo (ts a b s) : Nat) : Int) / 16) (IntKind.u64.wrap (((hi (ts a b s) : Nat) : Int) * 1152921504606846976)) = ((lo (nxn 4 (ts a b s)) : Nat) : Int) := by
            rw [show ((lo (ts a b s) : Nat) : Int) / 16 = ((lo (ts a b s) / 16 : Nat) : Int) by omega, show IntKind.u64.wrap (((hi (ts a b s) : Nat) : Int) * 1152921504606846976) = ((hi (ts a b s) % 16 * 1152921504606846976 : Nat) : Int) by rw [IntKind.wrap_u64]; omega, u64_or_nat _ _ (by omega) (by omega), HN.out.2, Nat.or_comm, nat_join 60 _ _ (by rw [show (2 : Nat) ^ 60 = 1152921504606846976 by decide]; omega) (by rw [show (2 : Nat) ^ 60 = 1152921504606846976 by decide]; omega), Nat.add_comm]
          have hog : g ≠ go + 1 + 1 := by omega
          generalize hm : lo (ts a b s) % 16 = m at *
          clear hm
          go_wp2_with fail
          go_region
          go_wp2_with fail
          have e3 := shr_nib (lo a) s k4 h2 (by omega) hs16
          have e3b : lo a / 16 ^ s % 16 = nib a s := nib_lo a s hs16
          rw [e3b] at e3
          have hn := nib_lt a s
          have n0 : (0 : Int) ≤ ((nib a s : Nat) : Int) := by omega
          have n1 : ((nib a s : Nat) : Int) < 16 := by omega
          have HS := Lib.hid (show ts a b (s + 1) = nxn 4 (ts a b s) ^^^ tb b (nib a s) from rfl)
          have HP5 : Hid (Blk ((((wr.setCell ⟨go + 1 + 1, 0, none⟩ (.int .u64 (((hi (ts a b s) : Nat) : Int) / 16))).setCell ⟨go + 1 + 1, 1, none⟩ (.int .u64 (lo (nxn 4 (ts a b s)) : Int))).setCell ⟨go + 1 + 1, 0, none⟩ (.int .u64 (hi (nxn 4 (ts a b s)) : Int))).drew) (go + 1 + 1) 208 #[.int .u64 (hi (nxn 4 (ts a b s)) : Int), .int .u64 (lo (nxn 4 (ts a b s)) : Int)]) := Lib.hid (Blk.set_ (Blk.set_ (Blk.set_ HP.out 0 _) 1 _) 0 _)
          have hx5 : Ext (One (go + 1 + 1)) wr ((((wr.setCell ⟨go + 1 + 1, 0, none⟩ (.int .u64 (((hi (ts a b s) : Nat) : Int) / 16))).setCell ⟨go + 1 + 1, 1, none⟩ (.int .u64 (lo (nxn 4 (ts a b s)) : Int))).setCell ⟨go + 1 + 1, 0, none⟩ (.int .u64 (hi (nxn 4 (ts a b s)) : Int))).drew) := by
            exact Ext.drew (Ext.setCell (S := One (go + 1 + 1)) (Ext.setCell (S := One (go + 1 + 1)) (Ext.setCell (S := One (go + 1 + 1)) (Ext.refl _ _) (fun _ => rfl) _) (fun _ => rfl) _) (fun _ => rfl) _)
          have HQ5 := Lib.hid (show ∃ u v, Blk _ (go + 1) 208 #[u, v] from let ⟨u, v, hq⟩ := HQ.out; ⟨u, v, hq.ext hx5 (fun h => by have h : go + 1 = go + 1 + 1 := h; omega)⟩)
          have HX5 := Lib.hid (HX.out.transS hx5 (fun i hi h => by have h : i = go + 1 + 1 := h; omega))
          clear hx5 HP HQ HX P e1 e2 HN ct
          generalize ((((wr.setCell ⟨go + 1 + 1, 0, none⟩ (.int .u64 (((hi (ts a b s) : Nat) : Int) / 16))).setCell ⟨go + 1 + 1, 1, none⟩ (.int .u64 (lo (nxn 4 (ts a b s)) : Int))).setCell ⟨go + 1 + 1, 0, none⟩ (.int .u64 (hi (nxn 4 (ts a b s)) : Int))).drew) = w5 at *
          have HT5 := Lib.hid (HT0.out.ext_no HX5.out)
          have c0 := (Blk.cell HT5.out (nib a s * 2)).trans (tabC_hi (tb b) tov hn)
          have c1 := (Blk.cell HT5.out (nib a s * 2 + 1)).trans (tabC_lo (tb b) tov hn)
          have P5 := Blk.c2 HP5.out
          have hS5 : Hid (TmS w go g (nib a s) (nxn 4 (ts a b s)) b w5) := Lib.hid ⟨⟨_, _, HP5.out⟩, HQ5.out, HT5.out, HX5.out⟩
          generalize nib a s = n at *
          generalize nxn 4 (ts a b s) = o4 at *
          go_region_with ((go_at_call 160; refine (fAdd_agg o4 (tb b n) _).mono ?_; rintro e' w6 ⟨rfl, hx6⟩; have HP6 := Lib.hid (Blk.ext_no (by exact HP5.out) hx6); have HQ6 := Lib.hid (show ∃ u v, Blk w6 (go + 1) 208 #[u, v] from let ⟨u, v, hq⟩ := HQ5.out; ⟨u, v, Blk.ext_no (by exact hq) hx6⟩); have HX6 := Lib.hid (HX5.out.drew.trans hx6); have P6 := Blk.c2 HP6.out))
          all_goals
            go_wp2
            go_roundw
            case rel => exact ⟨s + 1, by omega, by rw [show 4 * (s + 1) = k4 + 4 by omega]; go_num, Lib.hid (by rw [HS.out]; exact Blk.set_ (Blk.set_ HP6.out 0 _) 1 _), Lib.hid (let ⟨u, v, hq⟩ := HQ6.out; ⟨u, v, Blk.far (Blk.far hq (by show go + 1 ≠ go + 1 + 1; omega) _) (by show go + 1 ≠ go + 1 + 1; omega) _⟩), Lib.hid (by repeat (first | with_reducible refine Ext.setCell ?_ (fun h => by have h : go + 1 + 1 < w.heap.size := h; omega) _ | with_reducible refine Ext.drew ?_ | with_reducible exact HX6.out))⟩
            case measure => simp [intOf]; omega
        · have hse : s = 16 := by omega
          subst hse
          go_wp2_with fail
          go_roundw
          case rel => exact ⟨1, 1, by omega, rfl, HP, HQ, HX⟩
          case measure => simp [intOf]
    · go_wp2_with fail
      go_loopw [8] (fun k wr => ∃ s : Nat, s ≤ 16 ∧ k = .int .i64 ((4 * s : Nat) : Int) ∧ Hid (Blk wr (go + 1 + 1) 208 #[.int .u64 (hi (ts a b (16 + s)) : Int), .int .u64 (lo (ts a b (16 + s)) : Int)]) ∧ Hid (∃ u v, Blk wr (go + 1) 208 #[u, v]) ∧ Hid (Ext No w wr)) (fun k _ => 64 - (intOf k).toNat)
      case atStart => exact ⟨0, by omega, rfl, HP, HQ, HX⟩
      case round =>
        clear HP HQ HX
        obtain ⟨s, hs, rfl, HP, HQ, HX⟩ := hrel
        obtain ⟨k4, hk4⟩ : ∃ k4, 4 * s = k4 := ⟨_, rfl⟩
        have hk1 : 4 * s ≤ k4 := by omega
        have hk2 : k4 ≤ 4 * s := by omega
        rw [hk4]
        clear hk4
        by_cases hs16 : s < 16
        · have HN := Lib.hid (nxn4 (ts a b (16 + s)))
          have hol := lo_lt (ts a b (16 + s))
          have hoh := hi_lt (ts a b (16 + s))
          have e15 : bits .and .u64 ((lo (ts a b (16 + s)) : Nat) : Int) 15 = ((lo (ts a b (16 + s)) % 16 : Nat) : Int) := by
            have := u64_and_nat (lo (ts a b (16 + s))) 15 hol (by omega)
            rw [show lo (ts a b (16 + s)) &&& 15 = lo (ts a b (16 + s)) % 16 from Nat.and_two_pow_sub_one_eq_mod _ 4] at this
            exact this
          have hm0 : (0 : Int) ≤ ((lo (ts a b (16 + s)) % 16 : Nat) : Int) := by omega
          have hm1 : ((lo (ts a b (16 + s)) % 16 : Nat) : Int) < 16 := by omega
          have ct := (Blk.cell (HT0.out.ext_no HX.out) (32 + lo (ts a b (16 + s)) % 16)).trans (tabC_ov (tb b) tov (j := lo (ts a b (16 + s)) % 16) (by omega))
          have P := Blk.c2 HP.out
          have e1 : bits .xor .u64 (((hi (ts a b (16 + s)) : Nat) : Int) / 16) ((tov (lo (ts a b (16 + s)) % 16) : Nat) : Int) = ((hi (nxn 4 (ts a b (16 + s))) : Nat) : Int) := by
            have h3 : tov (lo (ts a b (16 + s)) % 16) < 18446744073709551616 := hi_lt _
            rw [show ((hi (ts a b (16 + s)) : Nat) : Int) / 16 = ((hi (ts a b (16 + s)) / 16 : Nat) : Int) by omega, u64_xor_nat _ _ (by omega) h3, HN.out.1]
          have e2 : bits .or .u64 (((lo (ts a b (16 + s)) : Nat) : Int) / 16) (IntKind.u64.wrap (((hi (ts a b (16 + s)) : Nat) : Int) * 1152921504606846976)) = ((lo (nxn 4 (ts a b (16 + s))) : Nat) : Int) := by
            rw [show ((lo (ts a b (16 + s)) : Nat) : Int) / 16 = ((lo (ts a b (16 + s)) / 16 : Nat) : Int) by omega, show IntKind.u64.wrap (((hi (ts a b (16 + s)) : Nat) : Int) * 1152921504606846976) = ((hi (ts a b (16 + s)) % 16 * 1152921504606846976 : Nat) : Int) by rw [IntKind.wrap_u64]; omega, u64_or_nat _ _ (by omega) (by omega), HN.out.2, Nat.or_comm, nat_join 60 _ _ (by rw [show (2 : Nat) ^ 60 = 1152921504606846976 by decide]; omega) (by rw [show (2 : Nat) ^ 60 = 1152921504606846976 by decide]; omega), Nat.add_comm]
          have hog : g ≠ go + 1 + 1 := by omega
          generalize hm : lo (ts a b (16 + s)) % 16 = m at *
          clear hm
          go_wp2_with fail
          go_region
          go_wp2_with fail
          have e3 := shr_nib (hi a) s k4 h1 (by omega) hs16
          have e3b : hi a / 16 ^ s % 16 = nib a (16 + s) := nib_hi a s
          rw [e3b] at e3
          have hn := nib_lt a (16 + s)
          have n0 : (0 : Int) ≤ ((nib a (16 + s) : Nat) : Int) := by omega
          have n1 : ((nib a (16 + s) : Nat) : Int) < 16 := by omega
          have HS := Lib.hid (show ts a b (16 + (s + 1)) = nxn 4 (ts a b (16 + s)) ^^^ tb b (nib a (16 + s)) from rfl)
          have HP5 : Hid (Blk ((((wr.setCell ⟨go + 1 + 1, 0, none⟩ (.int .u64 (((hi (ts a b (16 + s)) : Nat) : Int) / 16))).setCell ⟨go + 1 + 1, 1, none⟩ (.int .u64 (lo (nxn 4 (ts a b (16 + s))) : Int))).setCell ⟨go + 1 + 1, 0, none⟩ (.int .u64 (hi (nxn 4 (ts a b (16 + s))) : Int))).drew) (go + 1 + 1) 208 #[.int .u64 (hi (nxn 4 (ts a b (16 + s))) : Int), .int .u64 (lo (nxn 4 (ts a b (16 + s))) : Int)]) := Lib.hid (Blk.set_ (Blk.set_ (Blk.set_ HP.out 0 _) 1 _) 0 _)
          have hx5 : Ext (One (go + 1 + 1)) wr ((((wr.setCell ⟨go + 1 + 1, 0, none⟩ (.int .u64 (((hi (ts a b (16 + s)) : Nat) : Int) / 16))).setCell ⟨go + 1 + 1, 1, none⟩ (.int .u64 (lo (nxn 4 (ts a b (16 + s))) : Int))).setCell ⟨go + 1 + 1, 0, none⟩ (.int .u64 (hi (nxn 4 (ts a b (16 + s))) : Int))).drew) := by
            exact Ext.drew (Ext.setCell (S := One (go + 1 + 1)) (Ext.setCell (S := One (go + 1 + 1)) (Ext.setCell (S := One (go + 1 + 1)) (Ext.refl _ _) (fun _ => rfl) _) (fun _ => rfl) _) (fun _ => rfl) _)
          have HQ5 := Lib.hid (show ∃ u v, Blk _ (go + 1) 208 #[u, v] from let ⟨u, v, hq⟩ := HQ.out; ⟨u, v, hq.ext hx5 (fun h => by have h : go + 1 = go + 1 + 1 := h; omega)⟩)
          have HX5 := Lib.hid (HX.out.transS hx5 (fun i hi h => by have h : i = go + 1 + 1 := h; omega))
          clear hx5 HP HQ HX P e1 e2 HN ct
          generalize ((((wr.setCell ⟨go + 1 + 1, 0, none⟩ (.int .u64 (((hi (ts a b (16 + s)) : Nat) : Int) / 16))).setCell ⟨go + 1 + 1, 1, none⟩ (.int .u64 (lo (nxn 4 (ts a b (16 + s))) : Int))).setCell ⟨go + 1 + 1, 0, none⟩ (.int .u64 (hi (nxn 4 (ts a b (16 + s))) : Int))).drew) = w5 at *
          have HT5 := Lib.hid (HT0.out.ext_no HX5.out)
          have c0 := (Blk.cell HT5.out (nib a (16 + s) * 2)).trans (tabC_hi (tb b) tov hn)
          have c1 := (Blk.cell HT5.out (nib a (16 + s) * 2 + 1)).trans (tabC_lo (tb b) tov hn)
          have P5 := Blk.c2 HP5.out
          have hS5 : Hid (TmS w go g (nib a (16 + s)) (nxn 4 (ts a b (16 + s))) b w5) := Lib.hid ⟨⟨_, _, HP5.out⟩, HQ5.out, HT5.out, HX5.out⟩
          generalize nib a (16 + s) = n at *
          generalize nxn 4 (ts a b (16 + s)) = o4 at *
          go_region_with ((go_at_call 160; refine (fAdd_agg o4 (tb b n) _).mono ?_; rintro e' w6 ⟨rfl, hx6⟩; have HP6 := Lib.hid (Blk.ext_no (by exact HP5.out) hx6); have HQ6 := Lib.hid (show ∃ u v, Blk w6 (go + 1) 208 #[u, v] from let ⟨u, v, hq⟩ := HQ5.out; ⟨u, v, Blk.ext_no (by exact hq) hx6⟩); have HX6 := Lib.hid (HX5.out.drew.trans hx6); have P6 := Blk.c2 HP6.out))
          all_goals
            go_wp2
            go_roundw
            case rel => exact ⟨s + 1, by omega, by rw [show 4 * (s + 1) = k4 + 4 by omega]; go_num, Lib.hid (by rw [HS.out]; exact Blk.set_ (Blk.set_ HP6.out 0 _) 1 _), Lib.hid (let ⟨u, v, hq⟩ := HQ6.out; ⟨u, v, Blk.far (Blk.far hq (by show go + 1 ≠ go + 1 + 1; omega) _) (by show go + 1 ≠ go + 1 + 1; omega) _⟩), Lib.hid (by repeat (first | with_reducible refine Ext.setCell ?_ (fun h => by have h : go + 1 + 1 < w.heap.size := h; omega) _ | with_reducible refine Ext.drew ?_ | with_reducible exact HX6.out))⟩
            case measure => simp [intOf]; omega
        · have hse : s = 16 := by omega
          subst hse
          go_wp2_with fail
          go_roundw
          case rel => exact ⟨2, 2, by omega, rfl, HP, HQ, HX⟩
          case measure => simp [intOf]
    · have P := Blk.c2 HP.out
      have hq0 := HQ.out
      obtain ⟨u, v, hq⟩ := hq0
      have Q := Blk.c2 hq
      have HE := Lib.hid (show ts a b (16 * 2) = mul a b from ts_mul a b)
      have hx9 : Ext No w (((wr.setCell ⟨go + 1, 0, none⟩ (.int .u64 (hi (ts a b (16 * 2)) : Int))).setCell ⟨go + 1, 1, none⟩ (.int .u64 (lo (ts a b (16 * 2)) : Int)))) := by
        repeat (first | with_reducible refine Ext.setCell ?_ (fun h => by have h : go + 1 < w.heap.size := h; omega) _ | with_reducible refine Ext.drew ?_ | with_reducible exact HX.out)
      have HX9 := Lib.hid hx9
      clear hx9 HP HX hq HQ HT0
      generalize ts a b (16 * 2) = o9 at *
      go_wp2_with fail
      exact bodyPost_ret (v := .agg #[.int .u64 (hi o9 : Int), .int .u64 (lo o9 : Int)]) (by simp [results, Try.results179, go_sem, P, Q]) rfl ⟨by rw [HE.out], HX9.out⟩
end Go.Proofs.Ytmbbkkonmkbnoaa
namespace Go.Proofs.Ytmbbkkonmkbnoaa
open Go.RowKit Go.Deep Fm
theorem fBuild_agg (e : G) (w : World) : Calls Try.prog 126 #[.agg #[.int .u64 (hi e : Int), .int .u64 (lo e : Int)]] w fun e' w' => ∃ g, e' = .returned (.pointer (some ⟨g, 0, none⟩)) ∧ w.heap.size ≤ g ∧ IsTb w' g (tb e) tov ∧ Ext No w w' := fBuild_any e w
theorem fTimesT_agg (g : Nat) (a b : G) (w : World) (h : IsTb w g (tb b) tov) : Calls Try.prog 179 #[.pointer (some ⟨g, 0, none⟩), .agg #[.int .u64 (hi a : Int), .int .u64 (lo a : Int)]] w fun e' w' => e' = .returned (.agg #[.int .u64 (hi (mul a b) : Int), .int .u64 (lo (mul a b) : Int)]) ∧ Ext No w w' := fTimesT_any g a b w h
/-- A row of blocks: each one is added, and all multiplied. -/
def hashL (h : G) : Nat → G → List UInt8 → G
  | 0, from_, _ => from_
  | n + 1, from_, l => if l = [] then from_ else hashL h n (mul (from_ ^^^ elL (l.take 16)) h) (l.drop 16)
theorem hashL_nil (h : G) (n : Nat) (f : G) : hashL h n f [] = f := by cases n <;> simp [hashL]
theorem hashL_more (h : G) : ∀ (n m : Nat) (f : G) (l : List UInt8), l.length ≤ 16 * n → n ≤ m → hashL h m f l = hashL h n f l := by
  intro n
  induction n with
  | zero =>
    intro m f l hl _
    obtain rfl : l = [] := List.eq_nil_of_length_eq_zero (by omega)
    rw [hashL_nil, hashL_nil]
  | succ n ih =>
    intro m f l hl hm
    obtain ⟨m, rfl⟩ : ∃ m', m = m' + 1 := ⟨m - 1, by omega⟩
    simp only [hashL]
    by_cases c : l = []
    · rw [if_pos c, if_pos c]
    · rw [if_neg c, if_neg c, ih m _ _ (by rw [List.length_drop]; omega) (by omega)]
def hash (h f : G) (l : List UInt8) : G := hashL h l.length f l
theorem hash_nil (h f : G) : hash h f [] = f := rfl
theorem hash_step (h f : G) (l : List UInt8) (hl : l ≠ []) : hash h f l = hash h (mul (f ^^^ elL (l.take 16)) h) (l.drop 16) := by
  unfold hash
  have h0 : 0 < l.length := List.length_pos_iff.2 hl
  obtain ⟨n, hn⟩ : ∃ n, l.length = n + 1 := ⟨l.length - 1, by omega⟩
  rw [hn]
  simp only [hashL]
  rw [if_neg hl]
  exact hashL_more h (l.drop 16).length n _ _ (by omega) (by rw [List.length_drop]; omega)
section
variable {F : Nat → Prop} {w : World} {A : Option Addr} {n c k : Nat} {l : List UInt8}
theorem Bs.empty (w : World) (F : Nat → Prop) (A : Option Addr) {c : Nat} (hc : c ≤ maxLen) : Bs w F (.slice A 0 c) [] := ⟨rfl, A, c, rfl, Nat.zero_le _, hc, fun h => absurd h (Nat.lt_irrefl 0)⟩
theorem Bs.lt {v : Value} (h : Bs w F v l) : Bs w (fun b => F b ∧ b < w.heap.size) v l := by
  obtain ⟨h1, A, c, hv, h2, h3, h4⟩ := h
  refine ⟨h1, A, c, hv, h2, h3, fun h0 => ?_⟩
  obtain ⟨b, off, e, hf, hc⟩ := h4 h0
  exact ⟨b, off, e, ⟨hf, World.block_lt_of_cell? w _ (hc 0 _ (List.getElem?_eq_getElem (by rw [u8s_length]; exact h0)))⟩, hc⟩
theorem Bs.len (h : Bs w F (.slice A n c) l) : n = l.length := by
  obtain ⟨_, A', c', e, _⟩ := h
  injection e
/-- The first k bytes of a slice. -/
theorem Bs.head (h : Bs w F (.slice A n c) l) (hk : k ≤ l.length) : Bs w F (.slice A k c) (l.take k) := by
  have hl : (l.take k).length = k := by rw [List.length_take]; omega
  obtain ⟨h1, A', c', e, h2, h3, h4⟩ := h
  injection e with e1 e2 e3
  subst e1 e3
  unfold Bs
  rw [hl]
  refine ⟨by rw [u8s_length, hl, Nat.mul_one], A, c, rfl, by omega, h3, fun h0 => ?_⟩
  obtain ⟨b, off, hA, hF, hc⟩ := h4 (by omega)
  refine ⟨b, off, hA, hF, fun j u hu => hc j u ?_⟩
  have hj : j < (u8s (l.take k)).length := (List.getElem?_eq_some_iff.1 hu).1
  rw [u8s_length, hl] at hj
  unfold u8s at hu ⊢
  rwa [List.map_take, List.getElem?_take_of_lt hj] at hu
/-- The bytes behind the first k. -/
theorem Bs.rest {b off : Nat} (h : Bs w F (.slice (some ⟨b, off, none⟩) n c) l) (hk : k ≤ l.length) {A' : Option Addr} {m c' : Nat} (hm : m = l.length - k) (hA : k < l.length → A' = some ⟨b, off + k, none⟩) (hc' : m ≤ c') (hx : c' ≤ maxLen) : Bs w F (.slice A' m c') (l.drop k) := by
  have hl : (l.drop k).length = m := by rw [List.length_drop, hm]
  obtain ⟨h1, A0, c0, e, h2, h3, h4⟩ := h
  injection e with e1 e2 e3
  unfold Bs
  rw [hl]
  refine ⟨by rw [u8s_length, hl, Nat.mul_one], A', c', rfl, hc', hx, fun h0 => ?_⟩
  obtain ⟨b', off', hA0, hF, hc⟩ := h4 (by omega)
  rw [← e1] at hA0
  injection hA0 with hA0
  injection hA0 with hb ho
  subst hb ho
  refine ⟨b, off + k, hA (by omega), hF, fun j u hu => ?_⟩
  rw [Nat.add_assoc]
  refine hc (k + j) u ?_
  unfold u8s at hu ⊢
  rwa [List.map_drop, List.getElem?_drop] at hu
end
set_option maxRecDepth 100000 in
set_option maxHeartbeats 2000000 in
theorem fHashT_any (g : Nat) (h f : G) (v : Value) (l : List UInt8) (w : World) (ht : IsTb w g (tb h) tov) (hv : Bs w Any v l) : Calls Try.prog 164 #[.pointer (some ⟨g, 0, none⟩), ev f, v] w fun e' w' => e' = .returned (ev (hash h f l)) ∧ Ext No w w' := by
  obtain ⟨A, c, rfl, hc, hm, b, o, hA⟩ := hv.slice
  unfold maxLen at hm
  have HV := Lib.hid (hv.lt.mono fun b hb => hb.2)
  have HT := Lib.hid ht
  clear ht hA hv
  unfold ev
  go_enter Try.func164, Try.ntmps164
  go_wp2_with fail
  have HP := Lib.hid ((Blk.new w 208 #[.int .u64 (hi f : Int), .int .u64 (lo f : Int)]).alloc (.cells #[.int .u64 0, .int .u64 0] 208))
  have HQ := Lib.hid (Blk.new (w.alloc (.cells #[.int .u64 (hi f : Int), .int .u64 (lo f : Int)] 208)) 208 #[.int .u64 0, .int .u64 0])
  have HX := Lib.hid (((Ext.refl No w).alloc (.cells #[.int .u64 (hi f : Int), .int .u64 (lo f : Int)] 208)).alloc (.cells #[.int .u64 0, .int .u64 0] 208))
  rw [World.size_alloc] at HQ
  have HV1 := Lib.hid (HV.out.ext_no HX.out)
  have hgl : g < w.heap.size := Blk.lt HT.out
  generalize ((w.alloc (.cells #[.int .u64 (hi f : Int), .int .u64 (lo f : Int)] 208)).alloc (.cells #[.int .u64 0, .int .u64 0] 208)) = w2 at *
  generalize hgo : w.heap.size = go at *
  go_loopw [2] (fun s wr => ∃ (A : Option Addr) (c : Nat) (l' : List UInt8) (f' : G), s = .slice A l'.length c ∧ l'.length ≤ c ∧ c ≤ 9223372036854775807 ∧ Hid (Bs wr (fun b => b < go) (.slice A l'.length c) l') ∧ Hid (hash h f l = hash h f' l') ∧ Hid (Blk wr go 208 #[.int .u64 (hi f' : Int), .int .u64 (lo f' : Int)]) ∧ Hid (∃ u v, Blk wr (go + 1) 208 #[u, v]) ∧ Hid (Ext No w wr)) (fun s _ => match s with | .slice _ n _ => n | _ => 0)
  case atStart => exact ⟨A, c, l, f, rfl, hc, by omega, HV1, Lib.hid rfl, HP, Lib.hid ⟨_, _, HQ.out⟩, HX⟩
  case round =>
    clear HP HQ HX HV1 hc hm
    obtain ⟨A, c, l', f', rfl, hc, hm, HB, HE, HP, HQ, HX⟩ := hrel
    by_cases h0 : 0 < l'.length
    · obtain ⟨A', c', e', _, _, b', o', hA'⟩ := HB.out.slice
      obtain ⟨hA0, _, hbl, _⟩ := hA' 0 h0
      injection e' with e1 _ e3
      subst e1 e3 hA0
      clear hA'
      have P := Blk.c2 HP.out
      have HT2 := Lib.hid (HT.out.ext_no HX.out)
      rcases (by omega : 16 < l'.length ∨ l'.length ≤ 16) with hk | hk
      · have hst := hash_step h f' l' (by intro e; rw [e] at h0; exact absurd h0 (by simp))
        have HST := Lib.hid hst
        have HB1 := Lib.hid (HB.out.head (k := 16) (by omega))
        have HB2 := Lib.hid (HB.out.rest (k := 16) (by omega) (A' := some ⟨b', o' + 16, none⟩) (m := l'.length - 16) (c' := c - 16) rfl (fun _ => rfl) (by omega) (by unfold maxLen; omega))
        have hck : ¬ c = 16 := by omega
        clear hst
        go_wp2_with fail
        go_region_with ((first
          | (go_at_call 127; refine (fFrom_any _ (l'.take 16) _ (by exact HB1.out.any)).mono ?_; rintro e' w6 ⟨rfl, hx6⟩; have HX6 := Lib.hid (HX.out.drew.trans hx6); have HBX := Lib.hid (show Ext No wr w6 from (Ext.refl No wr).drew.trans hx6); have P6 := Blk.c2 (HP.out.ext_no HBX.out); clear hx6)
          | (go_at_call 160; refine (fAdd_agg f' (elL (l'.take 16)) _).mono ?_; rintro e' w7 ⟨rfl, hx7⟩; have HX7 := Lib.hid (HX6.out.trans hx7); have HBX7 := Lib.hid (HBX.out.trans hx7); clear hx7)
          | (go_at_call 179; refine (fTimesT_agg g (f' ^^^ elL (l'.take 16)) h _ (by exact HT2.out.ext_no HBX7.out)).mono ?_; rintro e' w8 ⟨rfl, hx8⟩; have HX8 := Lib.hid (HX7.out.trans hx8); have HBX8 := Lib.hid (HBX7.out.trans hx8); have HP8 := Lib.hid (HP.out.ext_no HBX8.out); have P8 := Blk.c2 HP8.out; clear hx8)))
        all_goals
          have HQ8 := Lib.hid (show ∃ u v, Blk w8 (go + 1) 208 #[u, v] from let ⟨u, v, hq⟩ := HQ.out; ⟨u, v, hq.ext_no HBX8.out⟩)
          clear P6 HX6 HBX HX7 HBX7 HP HQ HX HT2
          generalize mul (f' ^^^ elL (l'.take 16)) h = m9 at *
          go_wp2
          go_roundw
          case rel =>
            have hxs : Ext (One go) w8 ((w8.setCell ⟨go, 0, none⟩ (.int .u64 (hi m9 : Int))).setCell ⟨go, 1, none⟩ (.int .u64 (lo m9 : Int))) := Ext.setCell (S := One go) (Ext.setCell (S := One go) (Ext.refl _ _) (fun _ => rfl) _) (fun _ => rfl) _
            refine ⟨_, _, l'.drop 16, m9, by rw [List.length_drop], by rw [List.length_drop]; omega, by omega, Lib.hid ?_, Lib.hid (by rw [HE.out, HST.out]; try rw [hash_nil]), Lib.hid ?_, Lib.hid ?_, Lib.hid ?_⟩
            · have := (HB2.out.ext_no HBX8.out).ext hxs (fun b hb _ h => by have h : b = go := h; omega)
              rw [List.length_drop]
              exact this
            · exact Blk.set_ (Blk.set_ HP8.out 0 _) 1 _
            · obtain ⟨u, v, hq⟩ := HQ8.out
              exact ⟨u, v, hq.ext hxs (fun h => by have h : go + 1 = go := h; omega)⟩
            · exact HX8.out.transS hxs (fun i hi h => by have h : i = go := h; omega)
          case measure => first | (show l'.length - 16 < l'.length; omega) | (show 0 < l'.length; omega) | (simp; omega)
      · have hst := hash_step h f' l' (by intro e; rw [e] at h0; exact absurd h0 (by simp))
        have HST : Hid (hash h f' l' = mul (f' ^^^ elL l') h) := Lib.hid (by
          rw [List.take_of_length_le (by omega), List.drop_of_length_le (by omega), hash_nil] at hst
          exact hst)
        clear hst
        by_cases hck : c = l'.length
        · subst hck
          go_wp2_with fail
          go_region_with ((first
            | (go_at_call 127; refine (fFrom_any _ (l') _ (by exact HB.out.any)).mono ?_; rintro e' w6 ⟨rfl, hx6⟩; have HX6 := Lib.hid (HX.out.drew.trans hx6); have HBX := Lib.hid (show Ext No wr w6 from (Ext.refl No wr).drew.trans hx6); have P6 := Blk.c2 (HP.out.ext_no HBX.out); clear hx6)
            | (go_at_call 160; refine (fAdd_agg f' (elL (l')) _).mono ?_; rintro e' w7 ⟨rfl, hx7⟩; have HX7 := Lib.hid (HX6.out.trans hx7); have HBX7 := Lib.hid (HBX.out.trans hx7); clear hx7)
            | (go_at_call 179; refine (fTimesT_agg g (f' ^^^ elL (l')) h _ (by exact HT2.out.ext_no HBX7.out)).mono ?_; rintro e' w8 ⟨rfl, hx8⟩; have HX8 := Lib.hid (HX7.out.trans hx8); have HBX8 := Lib.hid (HBX7.out.trans hx8); have HP8 := Lib.hid (HP.out.ext_no HBX8.out); have P8 := Blk.c2 HP8.out; clear hx8)))
          all_goals
            have HQ8 := Lib.hid (show ∃ u v, Blk w8 (go + 1) 208 #[u, v] from let ⟨u, v, hq⟩ := HQ.out; ⟨u, v, hq.ext_no HBX8.out⟩)
            clear P6 HX6 HBX HX7 HBX7 HP HQ HX HT2
            generalize mul (f' ^^^ elL (l')) h = m9 at *
            go_wp2
            go_roundw
            case rel =>
              have hxs : Ext (One go) w8 ((w8.setCell ⟨go, 0, none⟩ (.int .u64 (hi m9 : Int))).setCell ⟨go, 1, none⟩ (.int .u64 (lo m9 : Int))) := Ext.setCell (S := One go) (Ext.setCell (S := One go) (Ext.refl _ _) (fun _ => rfl) _) (fun _ => rfl) _
              refine ⟨_, _, [], m9, rfl, Nat.zero_le _, by omega, Lib.hid (Bs.empty _ _ _ (by unfold maxLen; omega)), Lib.hid (by rw [HE.out, HST.out]; try rw [hash_nil]), Lib.hid ?_, Lib.hid ?_, Lib.hid ?_⟩
              · exact Blk.set_ (Blk.set_ HP8.out 0 _) 1 _
              · obtain ⟨u, v, hq⟩ := HQ8.out
                exact ⟨u, v, hq.ext hxs (fun h => by have h : go + 1 = go := h; omega)⟩
              · exact HX8.out.transS hxs (fun i hi h => by have h : i = go := h; omega)
            case measure => first | (show l'.length - 16 < l'.length; omega) | (show 0 < l'.length; omega) | (simp; omega)
        · have hck2 : ¬ l'.length = c := fun e => hck e.symm
          go_wp2_with fail
          go_region_with ((first
            | (go_at_call 127; refine (fFrom_any _ (l') _ (by exact HB.out.any)).mono ?_; rintro e' w6 ⟨rfl, hx6⟩; have HX6 := Lib.hid (HX.out.drew.trans hx6); have HBX := Lib.hid (show Ext No wr w6 from (Ext.refl No wr).drew.trans hx6); have P6 := Blk.c2 (HP.out.ext_no HBX.out); clear hx6)
            | (go_at_call 160; refine (fAdd_agg f' (elL (l')) _).mono ?_; rintro e' w7 ⟨rfl, hx7⟩; have HX7 := Lib.hid (HX6.out.trans hx7); have HBX7 := Lib.hid (HBX.out.trans hx7); clear hx7)
            | (go_at_call 179; refine (fTimesT_agg g (f' ^^^ elL (l')) h _ (by exact HT2.out.ext_no HBX7.out)).mono ?_; rintro e' w8 ⟨rfl, hx8⟩; have HX8 := Lib.hid (HX7.out.trans hx8); have HBX8 := Lib.hid (HBX7.out.trans hx8); have HP8 := Lib.hid (HP.out.ext_no HBX8.out); have P8 := Blk.c2 HP8.out; clear hx8)))
          all_goals
            have HQ8 := Lib.hid (show ∃ u v, Blk w8 (go + 1) 208 #[u, v] from let ⟨u, v, hq⟩ := HQ.out; ⟨u, v, hq.ext_no HBX8.out⟩)
            clear P6 HX6 HBX HX7 HBX7 HP HQ HX HT2
            generalize mul (f' ^^^ elL (l')) h = m9 at *
            go_wp2
            go_roundw
            case rel =>
              have hxs : Ext (One go) w8 ((w8.setCell ⟨go, 0, none⟩ (.int .u64 (hi m9 : Int))).setCell ⟨go, 1, none⟩ (.int .u64 (lo m9 : Int))) := Ext.setCell (S := One go) (Ext.setCell (S := One go) (Ext.refl _ _) (fun _ => rfl) _) (fun _ => rfl) _
              refine ⟨_, _, [], m9, rfl, Nat.zero_le _, by omega, Lib.hid (Bs.empty _ _ _ (by unfold maxLen; omega)), Lib.hid (by rw [HE.out, HST.out]; try rw [hash_nil]), Lib.hid ?_, Lib.hid ?_, Lib.hid ?_⟩
              · exact Blk.set_ (Blk.set_ HP8.out 0 _) 1 _
              · obtain ⟨u, v, hq⟩ := HQ8.out
                exact ⟨u, v, hq.ext hxs (fun h => by have h : go + 1 = go := h; omega)⟩
              · exact HX8.out.transS hxs (fun i hi h => by have h : i = go := h; omega)
            case measure => first | (show l'.length - 16 < l'.length; omega) | (show 0 < l'.length; omega) | (simp; omega)
    · have hl0 : l' = [] := List.eq_nil_of_length_eq_zero (by omega)
      have P := Blk.c2 HP.out
      have hq0 := HQ.out
      obtain ⟨u, v, hq⟩ := hq0
      have Q := Blk.c2 hq
      have HE2 : Hid (hash h f l = f') := Lib.hid (by rw [HE.out, hl0]; rfl)
      have HX9 := Lib.hid (HX.out)
      clear hq HQ HP HE hl0
      go_wp2_with fail
      exact bodyPost_ret (v := .agg #[.int .u64 (hi f' : Int), .int .u64 (lo f' : Int)]) (by simp [results, Try.results164, go_sem, P, Q]) rfl ⟨by rw [HE2.out], by repeat (first | with_reducible refine Ext.drew ?_ | with_reducible refine Ext.setCell ?_ (fun h => by have h : go + 1 < w.heap.size := h; omega) _ | with_reducible exact HX9.out)⟩
end Go.Proofs.Ytmbbkkonmkbnoaa
