/- Numbers of 128 bits, multiplied without carries: the ring's laws, and that there are no zero divisors. Plain Lean; no condition. -/
set_option linter.unusedVariables false
set_option linter.unusedSimpArgs false
namespace Go.Proofs.Ytljddghamgjfbaa
namespace Fm

abbrev G := BitVec 128
def red : G := 299076299051606071403356588563077529600#128
def one : G := 170141183460469231731687303715884105728#128
def nx (v : G) : G := (v >>> 1) ^^^ (if v.getLsbD 0 then red else 0#128)
def nxn : Nat → G → G
  | 0, v => v
  | n + 1, v => nx (nxn n v)
def mulN : Nat → G → G → G
  | 0, _, _ => 0#128
  | n + 1, a, b => mulN n a b ^^^ (if a.getLsbD (127 - n) then nxn n b else 0#128)
def mul (a b : G) : G := mulN 128 a b

theorem xor4 (a b c d : G) : (a ^^^ b) ^^^ (c ^^^ d) = (a ^^^ c) ^^^ (b ^^^ d) := by
  rw [BitVec.xor_assoc, BitVec.xor_assoc, ← BitVec.xor_assoc b c d, BitVec.xor_comm b c, BitVec.xor_assoc c b d]
theorem ite_xor (p q : Bool) (x : G) : (if (p ^^ q) = true then x else 0#128) = (if p = true then x else 0#128) ^^^ (if q = true then x else 0#128) := by
  cases p <;> cases q <;> simp
theorem ite_xor2 (p : Bool) (x y : G) : (if p = true then x ^^^ y else 0#128) = (if p = true then x else 0#128) ^^^ (if p = true then y else 0#128) := by
  cases p <;> simp
theorem nx_xor (a b : G) : nx (a ^^^ b) = nx a ^^^ nx b := by
  unfold nx
  rw [BitVec.ushiftRight_xor_distrib, BitVec.getLsbD_xor, ite_xor, xor4]
theorem nxn_xor (n : Nat) (a b : G) : nxn n (a ^^^ b) = nxn n a ^^^ nxn n b := by
  induction n with
  | zero => rfl
  | succ n ih => simp only [nxn, ih, nx_xor]
theorem nx_zero : nx 0#128 = 0#128 := by decide
theorem nxn_nx (n : Nat) (a : G) : nxn n (nx a) = nx (nxn n a) := by
  induction n with
  | zero => rfl
  | succ n ih => simp only [nxn, ih]
theorem nxn_add (m n : Nat) (a : G) : nxn (m + n) a = nxn m (nxn n a) := by
  induction m with
  | zero => simp [nxn]
  | succ m ih => rw [Nat.succ_add]; simp only [nxn, ih]
theorem mulN_xor_left (n : Nat) (a a' b : G) : mulN n (a ^^^ a') b = mulN n a b ^^^ mulN n a' b := by
  induction n with
  | zero => simp [mulN]
  | succ n ih => simp only [mulN]; rw [ih, BitVec.getLsbD_xor, ite_xor, xor4]
theorem mulN_xor_right (n : Nat) (a b b' : G) : mulN n a (b ^^^ b') = mulN n a b ^^^ mulN n a b' := by
  induction n with
  | zero => simp [mulN]
  | succ n ih => simp only [mulN]; rw [ih, nxn_xor, ite_xor2, xor4]
theorem mul_xor_left (a a' b : G) : mul (a ^^^ a') b = mul a b ^^^ mul a' b := mulN_xor_left 128 a a' b
theorem mul_xor_right (a b b' : G) : mul a (b ^^^ b') = mul a b ^^^ mul a b' := mulN_xor_right 128 a b b'

/-- The elements of one bit. -/
theorem basis_all : ∀ i : Fin 128, nxn i.val one = BitVec.ofNat 128 (2 ^ (127 - i.val)) := by decide +kernel
theorem basis (i : Nat) (hi : i < 128) : nxn i one = BitVec.ofNat 128 (2 ^ (127 - i)) := basis_all ⟨i, hi⟩
theorem bit_pow (k j : Nat) (hk : k < 128) (hj : j < 128) : (BitVec.ofNat 128 (2 ^ k)).getLsbD j = decide (j = k) := by
  rw [BitVec.getLsbD_ofNat, Nat.testBit_two_pow]
  by_cases h : j = k
  · subst h; simp [hj]
  · have h' : ¬ k = j := fun e => h e.symm
    simp [h, h', hj]
theorem expand (a : G) (n : Nat) (hn : n ≤ 128) : ∀ j, j < 128 → (mulN n a one).getLsbD j = (decide (127 - j < n) && a.getLsbD j) := by
  induction n with
  | zero => intro j hj; simp [mulN]
  | succ n ih =>
    intro j hj
    simp only [mulN]
    rw [BitVec.getLsbD_xor, ih (by omega) j hj, basis n (by omega)]
    by_cases e : j = 127 - n
    · subst e
      have h1 : ¬ (127 - (127 - n) < n) := by omega
      have h2 : 127 - (127 - n) < n + 1 := by omega
      rw [decide_eq_false h1, decide_eq_true h2]
      cases h : a.getLsbD (127 - n)
      · simp
      · simp only [if_true, bit_pow _ _ hj hj]; simp
    · have h3 : decide (127 - j < n) = decide (127 - j < n + 1) := decide_eq_decide.2 ⟨fun _ => by omega, fun _ => by omega⟩
      rw [h3]
      cases h : a.getLsbD (127 - n)
      · simp
      · simp only [if_true, bit_pow (127 - n) j (by omega) hj, decide_eq_false e]; simp
theorem mul_one (a : G) : mul a one = a := by
  apply BitVec.eq_of_getLsbD_eq
  intro j hj
  unfold mul
  rw [expand a 128 (Nat.le_refl _) j hj, decide_eq_true (by omega)]; rfl
/-- Two additive functions that agree at one, x, .., x^127 are one. -/
theorem ext_lin {f g : G → G} (hf : ∀ a b, f (a ^^^ b) = f a ^^^ f b) (hg : ∀ a b, g (a ^^^ b) = g a ^^^ g b) (h : ∀ i, i < 128 → f (nxn i one) = g (nxn i one)) (a : G) : f a = g a := by
  have z : ∀ {f : G → G}, (∀ a b, f (a ^^^ b) = f a ^^^ f b) → f 0#128 = 0#128 := by
    intro f hf
    have := hf 0#128 0#128
    rw [BitVec.xor_self, BitVec.xor_self] at this
    exact this
  have key : ∀ n, n ≤ 128 → f (mulN n a one) = g (mulN n a one) := by
    intro n
    induction n with
    | zero => intro _; simp only [mulN]; rw [z hf, z hg]
    | succ n ih =>
      intro hn
      simp only [mulN]
      rw [hf, hg, ih (by omega)]
      cases h' : a.getLsbD (127 - n)
      · simp only [Bool.false_eq_true, if_false, z hf, z hg]
      · simp only [if_true, h n (by omega)]
  have := key 128 (Nat.le_refl _)
  have e : mulN 128 a one = a := mul_one a
  rwa [e] at this
theorem mulN_basis (n i : Nat) (hn : n ≤ 128) (hi : i < 128) (b : G) : mulN n (nxn i one) b = if i < n then nxn i b else 0#128 := by
  induction n with
  | zero => simp [mulN]
  | succ n ih =>
    simp only [mulN]
    rw [ih (by omega), basis i hi, bit_pow _ _ (by omega) (by omega)]
    by_cases e : i = n
    · subst e
      rw [if_neg (Nat.lt_irrefl i), if_pos (by simp), if_pos (by omega)]; simp
    · have h1 : ¬ (127 - n = 127 - i) := by omega
      rw [decide_eq_false h1]
      simp only [Bool.false_eq_true, if_false, BitVec.xor_zero]
      by_cases h2 : i < n
      · rw [if_pos h2, if_pos (by omega)]
      · rw [if_neg h2, if_neg (by omega)]
theorem mul_basis (i : Nat) (hi : i < 128) (b : G) : mul (nxn i one) b = nxn i b := by
  unfold mul; rw [mulN_basis 128 i (Nat.le_refl _) hi, if_pos hi]
theorem one_mul (b : G) : mul one b = b := mul_basis 0 (by omega) b
theorem mul_nx_right (a b : G) : mul a (nx b) = nx (mul a b) := by
  have key : ∀ n, mulN n a (nx b) = nx (mulN n a b) := by
    intro n
    induction n with
    | zero => simp only [mulN, nx_zero]
    | succ n ih =>
      simp only [mulN]
      rw [ih, nx_xor, nxn_nx]
      cases a.getLsbD (127 - n)
      · simp only [Bool.false_eq_true, if_false, nx_zero]
      · simp only [if_true]
  exact key 128
theorem mul_nxn_right (n : Nat) (a b : G) : mul a (nxn n b) = nxn n (mul a b) := by
  induction n with
  | zero => rfl
  | succ n ih => simp only [nxn]; rw [mul_nx_right, ih]
theorem mul_comm (a b : G) : mul a b = mul b a := by
  refine ext_lin (f := fun a => mul a b) (g := fun a => mul b a) (fun x y => mul_xor_left x y b) (fun x y => mul_xor_right b x y) (fun i hi => ?_) a
  show mul (nxn i one) b = mul b (nxn i one)
  rw [mul_basis i hi, mul_nxn_right, mul_one]
theorem mul_assoc (a b c : G) : mul (mul a b) c = mul a (mul b c) := by
  refine ext_lin (f := fun a => mul (mul a b) c) (g := fun a => mul a (mul b c)) (fun x y => ?_) (fun x y => mul_xor_left x y _) (fun i hi => ?_) a
  · show mul (mul (x ^^^ y) b) c = _
    rw [mul_xor_left, mul_xor_left]
  · show mul (mul (nxn i one) b) c = mul (nxn i one) (mul b c)
    rw [mul_basis i hi, mul_basis i hi, mul_comm (nxn i b) c, mul_nxn_right, mul_comm c b]
theorem mul_zero (a : G) : mul a 0#128 = 0#128 := by
  have := mul_xor_right a 0#128 0#128
  rw [BitVec.xor_self, BitVec.xor_self] at this
  exact this
theorem zero_mul (a : G) : mul 0#128 a = 0#128 := by rw [mul_comm, mul_zero]

/-! ### Squares -/
def sq (a : G) : G := mul a a
def sqn : Nat → G → G
  | 0, a => a
  | n + 1, a => sq (sqn n a)
theorem sq_xor (a b : G) : sq (a ^^^ b) = sq a ^^^ sq b := by
  unfold sq
  rw [mul_xor_left, mul_xor_right, mul_xor_right, mul_comm b a, BitVec.xor_assoc, ← BitVec.xor_assoc (mul a b), BitVec.xor_self, BitVec.zero_xor]
theorem sq_mul (a b : G) : sq (mul a b) = mul (sq a) (sq b) := by
  unfold sq
  rw [mul_assoc, ← mul_assoc b a b, mul_comm b a, mul_assoc a b b, ← mul_assoc a a]
theorem sqn_xor (n : Nat) (a b : G) : sqn n (a ^^^ b) = sqn n a ^^^ sqn n b := by
  induction n with
  | zero => rfl
  | succ n ih => simp only [sqn, ih, sq_xor]
theorem sqn_mul (n : Nat) (a b : G) : sqn n (mul a b) = mul (sqn n a) (sqn n b) := by
  induction n with
  | zero => rfl
  | succ n ih => simp only [sqn, ih, sq_mul]

/-! ### Reckoned by the kernel -/
def force {α : Type} (x : Nat) (f : Nat → α) : α := match x with
  | 0 => f 0
  | k + 1 => f (k + 1)
theorem force_eq {α : Type} (x : Nat) (f : Nat → α) : force x f = f x := by cases x <;> rfl
def nxF (v : Nat) : Nat := (v / 2) ^^^ (v % 2 * 299076299051606071403356588563077529600)
def mulF : Nat → Nat → Nat → Nat → Nat
  | 0, _, _, acc => acc
  | n + 1, a, b, acc => force (nxF b) fun b' => force (acc ^^^ (a / 2 ^ n % 2 * b)) fun acc' => mulF n a b' acc'
def sqF (n : Nat) (a : Nat) : Nat := match n with
  | 0 => a
  | n + 1 => force (sqF n a) fun x => mulF 128 x x 0
theorem nxF_eq (v : G) : (nx v).toNat = nxF v.toNat := by
  unfold nx nxF
  rw [BitVec.toNat_xor, BitVec.toNat_ushiftRight, Nat.shiftRight_eq_div_pow, Nat.pow_one]
  congr 1
  rw [BitVec.getLsbD, Nat.testBit_zero]
  rcases Nat.mod_two_eq_zero_or_one v.toNat with h | h
  · rw [h]; simp
  · rw [h]; rfl
theorem bit_nat (a : G) (n : Nat) (b : G) : (if a.getLsbD n = true then b else 0#128).toNat = a.toNat / 2 ^ n % 2 * b.toNat := by
  rw [BitVec.getLsbD, Nat.testBit, Nat.shiftRight_eq_div_pow, Nat.and_comm, Nat.and_one_is_mod]
  rcases Nat.mod_two_eq_zero_or_one (a.toNat / 2 ^ n) with h | h
  · rw [h]; simp
  · rw [h]; simp
theorem mulF_eq (a b : G) : ∀ n, n ≤ 128 → mulF n a.toNat (nxn (128 - n) b).toNat (mulN (128 - n) a b).toNat = (mul a b).toNat := by
  intro n
  induction n with
  | zero => intro _; rfl
  | succ n ih =>
    intro hn
    simp only [mulF, force_eq]
    rw [← ih (by omega), show 128 - n = (128 - (n + 1)) + 1 by omega]
    simp only [nxn, mulN]
    rw [nxF_eq, BitVec.toNat_xor, bit_nat, show 127 - (128 - (n + 1)) = n by omega]
theorem mul_nat (a b : G) : (mul a b).toNat = mulF 128 a.toNat b.toNat 0 := (mulF_eq a b 128 (Nat.le_refl _)).symm
theorem sqF_eq (n : Nat) (a : G) : (sqn n a).toNat = sqF n a.toNat := by
  induction n with
  | zero => rfl
  | succ n ih => simp only [sqn, sqF, force_eq, sq]; rw [mul_nat, ih]
theorem sqF_x : sqF 128 85070591730234615865843651857942052864 = 85070591730234615865843651857942052864 := by decide +kernel
theorem sqn_x : sqn 128 (nx one) = nx one := by
  apply BitVec.eq_of_toNat_eq
  rw [sqF_eq]
  exact sqF_x
theorem mul_x (a : G) : mul (nx one) a = nx a := by rw [mul_comm, mul_nx_right, mul_one]
theorem sqn_one (n : Nat) : sqn n one = one := by
  induction n with
  | zero => rfl
  | succ n ih => simp only [sqn, ih, sq, mul_one]
/-- Squared 128 times, every element is itself. -/
theorem sqn_all (a : G) : sqn 128 a = a := by
  refine ext_lin (f := sqn 128) (g := fun a => a) (sqn_xor 128) (fun _ _ => rfl) (fun i _ => ?_) a
  show sqn 128 (nxn i one) = nxn i one
  induction i with
  | zero => exact sqn_one 128
  | succ i ih =>
    simp only [nxn]
    rw [← mul_x, sqn_mul, sqn_x, ih (by omega)]

/-! ### Squares that stay: nought and one alone -/
def lins : List Nat := [
  22349210433241643211303706255459310228, 42781086895802961305837899807692839847, 127851678626037577171681551665634892711, 64161864867486123575827494532326627698,
  85316382760920269238759725736663866279, 114910088095513088234682618273958557012, 42894216934927469609366581567841114482, 32564043359013102798989312672802603315,
  95950206727199596221990182218906622887, 46326064391129892899928697286047832434, 109593176112373424743067390032837178708, 142223934881672753734463413618344281941,
  45552672926497301355174195688401803634, 94354540392079830942767997527157175399, 33893271354798018671893119733082947891, 133492860460135582475628106552095754965,
  96614820725092054158442085749046795175, 123504943270841248069084356367027567956, 45993757392183663931702745520977746290, 84108166368187411435240813705953482624,
  109427022612900310258954414150302135636, 65334698174074460006561831602428846656, 142140858131936196492406925677076760405, 26944648382676130012539518143993095923,
  45594211301365579976202439659035564402, 34751615226583747878589791662865156403, 94333771204645691632253875541840295015, 58594332839845026287895736368243621554,
  33882886761080949016636058740424507699, 49689517202507746048320574050840187699, 133487668163277047647999576055766534869, 87518597506017800282691648887090017190,
  96617416873521321572256350997211405223, 123492369287794167071922631989304127700, 123506241345055881775991488991109872980, 88394181544543220452557894239097387942,
  45994406429290980785156311833018898802, 49921000057622566873658450198655872755, 84108490886741069861967596861974058880, 35809052500604244266195401481916326771,
  109427184872177139472317805728312423764, 79569572989071969373811419141996187585, 65334779303712874613243527391433990720, 4726979706471076424241489524707209152,
  142140898696755403795747773571579332437, 58275656592714443450777541729474286387, 26944628100266526360869094196741809907, 140308235276560358896028355552301283989,
  45594221442570381802037651632661207410, 44935323831971706514111515550899780402, 34751610155981346965672185676052334899, 115575792119390803779456185938199600469,
  94333773739946892088712678535246705767, 159324042485362573657552647614603385767, 58594334107495626516125137864946826930, 153238470225796900814681174335121648678,
  33882886127255648902521357992072905011, 59792954277794325190837842541115644722, 49689517519420396105377924425015989043, 72978216601350599591347508359916847681,
  133487668004820722619470900868678634197, 163309321578052146805450802438263305319, 87518597585245962796955986480633967526, 6161591008139076220601646446843146177,
  96617416833907240315124182200439430055, 67288019353279926038130604499846823936, 123492369307601207700488716387690115284, 72992884249465865451566362034747193217,
  123506241354959402090274531190302866772, 93226277353508642900164249188457535015, 88394181539591460295416373139500891046, 6116654749483988959971426010360459777,
  45994406431766860863727072382817147250, 113870918609522322281985099445019275925, 49921000058860506912943830473554996979, 161537358671016203777973217828391545831,
  84108490886122099842324906724524496768, 63089105448741488643398279942380763954, 35809052500294759256374056413191545715, 96504253903287235160744645914913229863,
  109427184872331881977228478262674814292, 9537274821874957483351388617584152641, 79569572988994598121356082874814992321, 122557457634345817322758110469731963540,
  65334779303751560239471195525024588352, 161542955870533464563010084267448332775, 4726979706490419237355323591502507968, 53639910565545342273528145980335791795,
  142140898696765075202304690604976981845, 51613027339492204128265575524803459891, 58275656592719279154056000246173111091, 81071795988965022717357904530596407232,
  26944628100264108509229864938392397555, 92325303522414418149753570460923091879, 140308235276559149970208740923126577813, 100983558286137050684044238585428660711,
  45594221442569777339127844318073854322, 132003651752985294974180122299820886164, 44935323831972008745566419208193456946, 100972845268357601278728964017462078439,
  34751610155981195849944733847405496627, 133436244703473040169882794575366898389, 115575792119390728221592460023876181333, 161752945482599484730126084874801441767,
  94333773739946854309780815578084996199, 149021274876537960721224429182834492454, 159324042485362592547018579093184240551, 5725366257701666555538562805218717057,
  58594334107495617071392172125656399538, 127777348636302309636952298273557535380, 153238470225796905537047657204766862374, 133385434108064708788808215410435911893,
  33882886127255646541338116557250298163, 275464514806027128612938827324864, 59792954277794326371429463258526948146, 12764899024296983899235621676887115841,
  49689517519420395515082114066310337331, 126976600203468727039316187211004055892, 72978216601350599296199603180564021825, 108887185710678174598840578861931466132,
  133487668004820722767044853458355047125, 126814247099887467207929949960147586332, 163309321578052146879237778733101511783, 72921817864677867521778898634038080609,
  87518597585245962833849474628053070758, 71430717218983613641036104277415506289, 6161591008139076202154902373133594561, 0]
def linL : List Nat → Nat → G → G
  | [], _, _ => 0#128
  | c :: cs, k, w => (if w.getLsbD k then BitVec.ofNat 128 c else 0#128) ^^^ linL cs (k - 1) w
def linF : List Nat → Nat → Nat → Nat → Nat
  | [], _, _, acc => acc
  | c :: cs, k, w, acc => force (acc ^^^ (w / 2 ^ k % 2 * c)) fun acc' => linF cs (k - 1) w acc'
theorem linL_xor (l : List Nat) : ∀ (k : Nat) (a b : G), linL l k (a ^^^ b) = linL l k a ^^^ linL l k b := by
  induction l with
  | nil => intro k a b; simp [linL]
  | cons c cs ih => intro k a b; simp only [linL]; rw [ih, BitVec.getLsbD_xor, ite_xor, xor4]
theorem linF_eq (l : List Nat) : ∀ (k : Nat) (w : G) (acc : Nat), (∀ c ∈ l, c < 2 ^ 128) → linF l k w.toNat acc = acc ^^^ (linL l k w).toNat := by
  induction l with
  | nil => intro k w acc _; simp [linF, linL]
  | cons c cs ih =>
    intro k w acc h
    simp only [linF, force_eq, linL]
    rw [ih _ _ _ (fun c hc => h c (List.mem_cons_of_mem _ hc)), BitVec.toNat_xor, bit_nat, BitVec.toNat_ofNat, Nat.mod_eq_of_lt (h c (List.mem_cons_self ..)), Nat.xor_assoc]
theorem lins_lt : ∀ c ∈ lins, c < 2 ^ 128 := by decide +kernel
def linP (a : G) : G := linL lins 127 (sq a ^^^ a)
theorem lin_ok : (List.range 127).all (fun i => linF lins 127 (mulF 128 (2 ^ (126 - i)) (2 ^ (126 - i)) 0 ^^^ 2 ^ (126 - i)) 0 == 2 ^ (126 - i)) = true := by decide +kernel
theorem linP_all (a : G) : linP a = a ^^^ (if a.getLsbD 127 then one else 0#128) := by
  refine ext_lin (f := linP) (g := fun a => a ^^^ (if a.getLsbD 127 then one else 0#128)) (fun x y => ?_) (fun x y => ?_) (fun i hi => ?_) a
  · unfold linP; rw [sq_xor, xor4, linL_xor]
  · show (x ^^^ y) ^^^ _ = _; rw [BitVec.getLsbD_xor, ite_xor, xor4]
  · show linP (nxn i one) = nxn i one ^^^ _
    cases i with
    | zero =>
      have z : ∀ (l : List Nat) (k : Nat), linL l k 0#128 = 0#128 := by
        intro l
        induction l with
        | nil => intro k; rfl
        | cons c cs ih => intro k; simp only [linL]; rw [ih]; simp
      show linP one = one ^^^ _
      unfold linP sq
      rw [mul_one, BitVec.xor_self, z]
      decide +kernel
    | succ i =>
      rw [basis _ hi, bit_pow _ _ (by omega) (by omega), decide_eq_false (by omega)]
      simp only [Bool.false_eq_true, if_false, BitVec.xor_zero]
      have h := List.all_eq_true.1 lin_ok i (List.mem_range.2 (by omega))
      have h := eq_of_beq h
      have e : (BitVec.ofNat 128 (2 ^ (127 - (i + 1)))).toNat = 2 ^ (126 - i) := by
        rw [BitVec.toNat_ofNat, Nat.mod_eq_of_lt (Nat.pow_lt_pow_right (by omega) (by omega)), show 127 - (i + 1) = 126 - i by omega]
      apply BitVec.eq_of_toNat_eq
      unfold linP sq
      have h2 := linF_eq lins 127 (mul (BitVec.ofNat 128 (2 ^ (127 - (i + 1)))) (BitVec.ofNat 128 (2 ^ (127 - (i + 1)))) ^^^ BitVec.ofNat 128 (2 ^ (127 - (i + 1)))) 0 lins_lt
      rw [BitVec.toNat_xor, mul_nat, e, h, Nat.zero_xor] at h2
      rw [e]
      exact h2.symm
theorem sq_stays (a : G) (h : sq a = a) : a = 0#128 ∨ a = one := by
  have h1 := linP_all a
  have z : ∀ (l : List Nat) (k : Nat), linL l k 0#128 = 0#128 := by
    intro l
    induction l with
    | nil => intro k; rfl
    | cons c cs ih => intro k; simp only [linL]; rw [ih]; simp
  unfold linP at h1
  rw [h, BitVec.xor_self, z] at h1
  cases hb : a.getLsbD 127
  · left; rw [hb] at h1; simpa using h1.symm
  · right
    rw [hb] at h1
    simp only [if_true] at h1
    have := congrArg (fun x => x ^^^ one) h1
    simp only [BitVec.zero_xor] at this
    rw [BitVec.xor_assoc, BitVec.xor_self, BitVec.xor_zero] at this
    exact this.symm
/-- a to the power of 2^n - 1. -/
def pw : Nat → G → G
  | 0, _ => one
  | n + 1, a => mul a (sq (pw n a))
theorem mul_pw (n : Nat) (a : G) : mul a (pw n a) = sqn n a := by
  induction n with
  | zero => exact mul_one a
  | succ n ih =>
    simp only [pw, sqn]
    rw [← ih, sq_mul, ← mul_assoc]
    rfl
theorem inv_of (a : G) (h : a ≠ 0#128) : mul a (sq (pw 127 a)) = one := by
  have h1 : mul a (pw 128 a) = a := by rw [mul_pw, sqn_all]
  have h2 : sq (pw 128 a) = pw 128 a := by
    show mul (pw 128 a) (pw 128 a) = pw 128 a
    conv => lhs; arg 2; unfold pw
    rw [← mul_assoc, mul_comm (pw 128 a) a, h1]
    rfl
  rcases sq_stays _ h2 with e | e
  · rw [e, mul_zero] at h1; exact absurd h1.symm h
  · exact e
/-- No nought comes of others. -/
theorem no_zero (a b : G) : mul a b = 0#128 ↔ a = 0#128 ∨ b = 0#128 := by
  constructor
  · intro h
    by_cases ha : a = 0#128
    · exact .inl ha
    · right
      have h1 := inv_of a ha
      rw [← one_mul b, ← h1, mul_comm a, mul_assoc, h, mul_zero]
  · rintro (rfl | rfl)
    · exact zero_mul b
    · exact mul_zero a
end Fm
end Go.Proofs.Ytljddghamgjfbaa
