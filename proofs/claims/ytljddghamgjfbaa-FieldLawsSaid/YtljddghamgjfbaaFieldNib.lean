/- The product by a table of four bits is the product bit by bit. Plain Lean; no condition. -/
import Derived.Test.YtljddghamgjfbaaFieldTab
set_option linter.unusedVariables false
set_option linter.unusedSimpArgs false
namespace Go.Proofs.Ytljddghamgjfbaa
open Go.RowKit Go.Deep Fm

theorem xor8 (a a' b b' c c' d d' : G) : ((a ^^^ a') ^^^ (b ^^^ b') ^^^ (c ^^^ c') ^^^ (d ^^^ d')) = (a ^^^ b ^^^ c ^^^ d) ^^^ (a' ^^^ b' ^^^ c' ^^^ d') := by
  rw [xor4 a a' b b', xor4 (a ^^^ b) (a' ^^^ b') c c', xor4 (a ^^^ b ^^^ c) (a' ^^^ b' ^^^ c') d d']
theorem tb_xor (e : G) (j k : Nat) : tb e (j ^^^ k) = tb e j ^^^ tb e k := by
  unfold tb
  simp only [Nat.testBit_xor, ite_xor]
  rw [xor8]
theorem tb_zero (e : G) : tb e 0 = 0#128 := (tb_1248 e).2.2.2.2
/-- The s-th four bits, from the lowest on. -/
def nib (a : G) (s : Nat) : Nat := a.toNat / 16 ^ s % 16
theorem nib_lt (a : G) (s : Nat) : nib a s < 16 := Nat.mod_lt _ (by omega)
theorem nib_xor (a b : G) (s : Nat) : nib (a ^^^ b) s = nib a s ^^^ nib b s := by
  unfold nib
  have e : (16 : Nat) ^ s = 2 ^ (4 * s) := by rw [Nat.pow_mul]
  rw [e, BitVec.toNat_xor, Nat.xor_div_two_pow, show (16 : Nat) = 2 ^ 4 by decide, Nat.xor_mod_two_pow]
/-- The product behind s steps. -/
def ts (a b : G) : Nat → G
  | 0 => 0#128
  | s + 1 => nxn 4 (ts a b s) ^^^ tb b (nib a s)
theorem ts_xor (a a' b : G) (s : Nat) : ts (a ^^^ a') b s = ts a b s ^^^ ts a' b s := by
  induction s with
  | zero => simp [ts]
  | succ s ih => simp only [ts]; rw [ih, nxn_xor, nib_xor, tb_xor, xor4]
theorem nib_basis : ∀ m : Fin 128, ∀ s : Fin 32, 2 ^ m.val / 16 ^ s.val % 16 = if s.val = m.val / 4 then 2 ^ (m.val % 4) else 0 := by decide +kernel
theorem nib_pow {m s : Nat} (hm : m < 128) (hs : s < 32) : nib (BitVec.ofNat 128 (2 ^ m)) s = if s = m / 4 then 2 ^ (m % 4) else 0 := by
  unfold nib
  rw [BitVec.toNat_ofNat, Nat.mod_eq_of_lt (Nat.pow_lt_pow_right (by omega) hm)]
  exact nib_basis ⟨m, hm⟩ ⟨s, hs⟩
theorem nxn_zero (n : Nat) : nxn n 0#128 = 0#128 := by
  induction n with
  | zero => rfl
  | succ n ih => simp only [nxn, ih, nx_zero]
theorem tb_pow (e : G) (r : Nat) (hr : r < 4) : tb e (2 ^ r) = nxn (3 - r) e := by
  obtain ⟨t8, t4, t2, t1, _⟩ := tb_1248 e
  rcases (by omega : r = 0 ∨ r = 1 ∨ r = 2 ∨ r = 3) with rfl | rfl | rfl | rfl
  · exact t1
  · exact t2
  · exact t4
  · exact t8
theorem ts_basis (b : G) (m : Nat) (hm : m < 128) : ∀ s, s ≤ 32 → ts (BitVec.ofNat 128 (2 ^ m)) b s = if m / 4 < s then nxn (4 * s - 1 - m) b else 0#128 := by
  intro s
  induction s with
  | zero => intro _; rw [if_neg (by omega)]; rfl
  | succ s ih =>
    intro hs
    simp only [ts]
    rw [ih (by omega), nib_pow hm (by omega)]
    by_cases c : s = m / 4
    · rw [if_pos c, if_neg (by omega), if_pos (by omega), nxn_zero, BitVec.zero_xor, tb_pow b _ (by omega)]
      congr 1
      omega
    · rw [if_neg c, tb_zero, BitVec.xor_zero]
      by_cases c2 : m / 4 < s
      · rw [if_pos c2, if_pos (by omega), ← nxn_add]
        congr 1
        omega
      · rw [if_neg c2, if_neg (by omega), nxn_zero]
theorem ts_mul (a b : G) : ts a b 32 = mul a b := by
  refine ext_lin (f := fun a => ts a b 32) (g := fun a => mul a b) (fun x y => ts_xor x y b 32) (fun x y => mul_xor_left x y b) (fun i hi => ?_) a
  show ts (nxn i one) b 32 = mul (nxn i one) b
  rw [mul_basis i hi, basis i hi, ts_basis b (127 - i) (by omega) 32 (Nat.le_refl _), if_pos (by omega)]
  congr 1
  omega

/-! ### Four steps at once -/
theorem nx_even {v : G} (h : v.toNat % 2 = 0) : (nx v).toNat = v.toNat / 2 := by
  rw [nxF_eq]; unfold nxF; rw [h, Nat.zero_mul, Nat.xor_zero]
theorem nxn4_high {v : G} (h : v.toNat % 16 = 0) : (nxn 4 v).toNat = v.toNat / 16 := by
  have h1 := nx_even (v := v) (by omega)
  have h2 := nx_even (v := nx v) (by omega)
  have h3 := nx_even (v := nx (nx v)) (by omega)
  have h4 := nx_even (v := nx (nx (nx v))) (by omega)
  show (nx (nx (nx (nx v)))).toNat = _
  omega
theorem low_all : ∀ j : Fin 16, lo (nxn 4 (mkE 0 j.val)) = 0 := by decide +kernel
theorem xor_split (x : Nat) : (x / 16 * 16) ^^^ (x % 16) = x := by
  apply Nat.eq_of_testBit_eq
  intro i
  rw [Nat.testBit_xor, show (16 : Nat) = 2 ^ 4 by decide, Nat.testBit_mul_two_pow, Nat.testBit_div_two_pow, Nat.testBit_mod_two_pow]
  by_cases c : i < 4
  · simp [c, show ¬ 4 ≤ i by omega]
  · simp [c, show 4 ≤ i by omega, show i - 4 + 4 = i by omega]
theorem nxn4 (v : G) : hi (nxn 4 v) = hi v / 16 ^^^ tov (lo v % 16) ∧ lo (nxn 4 v) = lo v / 16 + hi v % 16 * 1152921504606846976 := by
  have hv := v.isLt
  rw [two128] at hv
  have e : v = BitVec.ofNat 128 (v.toNat / 16 * 16) ^^^ mkE 0 (lo v % 16) := by
    apply BitVec.eq_of_toNat_eq
    unfold mkE lo
    rw [BitVec.toNat_xor, BitVec.toNat_ofNat, BitVec.toNat_ofNat, Nat.mod_eq_of_lt (a := v.toNat / 16 * 16) (by rw [two128]; omega), Nat.mod_eq_of_lt (a := 0 * 18446744073709551616 + v.toNat % 18446744073709551616 % 16) (by rw [two128]; omega)]
    rw [show 0 * 18446744073709551616 + v.toNat % 18446744073709551616 % 16 = v.toNat % 16 by omega, xor_split]
  have hc : (nxn 4 (BitVec.ofNat 128 (v.toNat / 16 * 16))).toNat = v.toNat / 16 := by
    rw [nxn4_high] <;> rw [BitVec.toNat_ofNat, Nat.mod_eq_of_lt (a := v.toNat / 16 * 16) (by rw [two128]; omega)] <;> omega
  have hl := low_all ⟨lo v % 16, by omega⟩
  have h1 : nxn 4 v = nxn 4 (BitVec.ofNat 128 (v.toNat / 16 * 16)) ^^^ nxn 4 (mkE 0 (lo v % 16)) := by
    rw [← nxn_xor, ← e]
  rw [h1, hi_xor, lo_xor, hl, Nat.xor_zero]
  refine ⟨?_, ?_⟩
  · congr 1
    unfold hi
    rw [hc]; omega
  · unfold lo hi
    rw [hc]; omega
theorem nib_lo (a : G) (s : Nat) (hs : s < 16) : lo a / 16 ^ s % 16 = nib a s := by
  have h : ∀ s : Fin 16, ∀ d : Nat, d % 18446744073709551616 / 16 ^ s.val % 16 = d / 16 ^ s.val % 16 := by
    intro s d
    have h64 : (18446744073709551616 : Nat) = 16 ^ s.val * 16 ^ (16 - s.val) := by
      rw [← Nat.pow_add, show s.val + (16 - s.val) = 16 by omega]
    rw [h64, Nat.mod_mul_right_div_self]
    have : (16 : Nat) ^ (16 - s.val) = 16 * 16 ^ (15 - s.val) := by
      rw [Nat.mul_comm, ← Nat.pow_succ]; congr 1; omega
    rw [this, Nat.mod_mul_right_mod]
  exact h ⟨s, hs⟩ _
theorem nib_hi (a : G) (s : Nat) : hi a / 16 ^ s % 16 = nib a (16 + s) := by
  unfold hi nib
  rw [Nat.div_div_eq_div_mul, Nat.pow_add]
end Go.Proofs.Ytljddghamgjfbaa
