/- Chapter 4's reference: products, inverses and boxes of bytes are the tables'. Plain Lean over the printed functions; no condition. -/
import Derived.Test.YtljddghamgjfbaaAesTab
import Derived.Test.YtljddghamgjfbaaPAesBlocksx2
import Derived.Laws.BitsAllLaws
set_option linter.unusedVariables false
set_option linter.unusedSimpArgs false
namespace Go.Proofs.Ytljddghamgjfbaa
open Go.RowKit Go.Proofs.YtljddghamgjfbaaW.PrintWords Go.Proofs.YtljddghamgjfbaaW.PrintLast Go.Proofs.YtljddghamgjfbaaW.PrintMore PAesBlocks Ae
namespace Ar

theorem w1 {k : Nat} (h : k < 1000000) : wrap64 ((k : Int) + 1) = ((k + 1 : Nat) : Int) := by unfold wrap64; omega
theorem bit_at (b i : Nat) (hb : b < 256) (hi : i < 8) : Go.bits .and .u8 (shr .u8 (b : Int) (i : Int)) 1 = ((Nat.land (b / 2 ^ i) 1 : Nat) : Int) := by
  have e : shr .u8 (b : Int) (i : Int) = ((b / 2 ^ i : Nat) : Int) := by
    unfold shr
    rw [Int.toNat_natCast, show min i (IntKind.bits .u8) = i from Nat.min_eq_left (by show i ≤ 8; omega)]
    simp
  rw [e, show (1 : Int) = ((1 : Nat) : Int) from rfl, u8_and_nat _ _ (Nat.lt_of_le_of_lt (Nat.div_le_self _ _) hb) (by omega)]
  rfl
theorem dbl_hi (x : Nat) (hx : x < 256) (h : 128 ≤ x) : Go.bits .xor .u8 (((x : Int) * 2) % 256) 27 = (dblN x : Int) := by
  rw [show ((x : Int) * 2 % 256) = ((x * 2 % 256 : Nat) : Int) by simp, show (27 : Int) = ((27 : Nat) : Int) from rfl, u8_xor_nat _ _ (by omega) (by omega)]
  unfold dblN
  rw [if_pos (by rw [Nat.ble_eq]; exact h)]
  rfl
theorem dbl_lo (x : Nat) (h : ¬ 128 ≤ x) : (((x : Int) * 2) % 256) = (dblN x : Int) := by
  unfold dblN
  rw [if_neg (by rw [Nat.ble_eq]; exact h)]
  omega
theorem times_l (b : Nat) (hb : b < 256) (m : Nat) : ∀ n x out : Nat, n ≤ 8 → x < 256 → out < 256 →
    deedboxref04_Times.l0 (n + 1 + m) (b : Int) (out : Int) (x : Int) ((8 - n : Nat) : Int) = some (tmK b n x out : Int)
  | 0, x, out, _, _, _ => by
    rw [show 0 + 1 + m = m + 1 by omega]
    simp only [deedboxref04_Times.l0]
    rw [if_neg (by omega)]
    rfl
  | n + 1, x, out, hn, hx, ho => by
    have hd := dbl_lt x hx
    have hxo : Nat.xor out x < 256 := Nat.xor_lt_two_pow (n := 8) ho hx
    rw [show n + 1 + 1 + m = (n + 1 + m) + 1 by omega]
    simp only [deedboxref04_Times.l0]
    rw [if_pos (by omega), if_pos (by omega), bit_at b (8 - (n + 1)) hb (by omega), w1 (by omega), show 8 - (n + 1) + 1 = 8 - n by omega]
    have hs : tmK b (n + 1) x out = tmK b n (dblN x) (if Nat.beq (Nat.land (b / 2 ^ (7 - n)) 1) 1 then Nat.xor out x else out) := rfl
    rw [show 8 - (n + 1) = 7 - n by omega]
    have hxx : Go.bits .xor .u8 (out : Int) (x : Int) = ((Nat.xor out x : Nat) : Int) := by rw [u8_xor_nat _ _ ho hx]; rfl
    by_cases c : Nat.land (b / 2 ^ (7 - n)) 1 = 1
    · have hs2 : tmK b (n + 1) x out = tmK b n (dblN x) (Nat.xor out x) := by rw [hs, if_pos (by rw [Nat.beq_eq]; exact c)]
      have c' : ((Nat.land (b / 2 ^ (7 - n)) 1 : Nat) : Int) = 1 := by exact_mod_cast c
      rw [hs2, if_pos c', hxx]
      by_cases h : 128 ≤ x
      · have h' : (x : Int) ≥ 128 := by omega
        rw [if_pos h', dbl_hi x hx h, times_l b hb m n _ _ (by omega) hd hxo]
      · have h' : ¬ (x : Int) ≥ 128 := by omega
        rw [if_neg h', dbl_lo x h, times_l b hb m n _ _ (by omega) hd hxo]
    · have hs2 : tmK b (n + 1) x out = tmK b n (dblN x) out := by rw [hs, if_neg (by rw [Nat.beq_eq]; exact c)]
      have c' : ¬ ((Nat.land (b / 2 ^ (7 - n)) 1 : Nat) : Int) = 1 := by intro h; exact c (by exact_mod_cast h)
      rw [hs2, if_neg c']
      by_cases h : 128 ≤ x
      · have h' : (x : Int) ≥ 128 := by omega
        rw [if_pos h', dbl_hi x hx h, times_l b hb m n _ _ (by omega) hd ho]
      · have h' : ¬ (x : Int) ≥ 128 := by omega
        rw [if_neg h', dbl_lo x h, times_l b hb m n _ _ (by omega) hd ho]
theorem times_f (a b k : Nat) (ha : a < 256) (hb : b < 256) (hk : 9 ≤ k) : deedboxref04_Times.f k (a : Int) (b : Int) = some (tmN a b : Int) := by
  obtain ⟨m, rfl⟩ : ∃ m, k = 8 + 1 + m := ⟨k - 9, by omega⟩
  unfold deedboxref04_Times.f tmN
  exact times_l b hb m 8 a 0 (by omega) ha (by omega)
theorem inv_l (c : Nat) (hc : c < 256) : ∀ d i k : Nat, i + d = (if c = 0 then 256 else invN c) → 0 < i → d + 10 ≤ k → deedboxref04_inverse.l0 k (c : Int) (i : Int) = some (invN c : Int)
  | 0, i, k, hi, h0, hk => by
    obtain ⟨k, rfl⟩ : ∃ m, k = m + 1 := ⟨k - 1, by omega⟩
    simp only [deedboxref04_inverse.l0]
    by_cases hz : c = 0
    · subst hz
      rw [if_pos rfl] at hi
      rw [if_neg (by omega)]
      rfl
    · rw [if_neg hz] at hi
      have hil := inv_lt c hc
      rw [if_pos (by omega), show ((i : Int) % 256) = (i : Int) by omega, times_f c i k hc (by omega) (by omega), Option.bind_some, if_pos (by exact_mod_cast (inv_first c i hc (by omega)).2 ⟨hz, by omega⟩), show i = invN c by omega]
  | d + 1, i, k, hi, h0, hk => by
    obtain ⟨k, rfl⟩ : ∃ m, k = m + 1 := ⟨k - 1, by omega⟩
    have hil := inv_lt c hc
    have hlt : i < 256 := by split at hi <;> omega
    have hne : tmN c i ≠ 1 := fun h => by
      have := (inv_first c i hc hlt).1 h
      rw [if_neg this.1] at hi
      omega
    simp only [deedboxref04_inverse.l0]
    rw [if_pos (by omega), show ((i : Int) % 256) = (i : Int) by omega, times_f c i k hc hlt (by omega), Option.bind_some, if_neg (by intro h; exact hne (by exact_mod_cast h)), w1 (by omega), inv_l c hc d (i + 1) k (by omega) (by omega) (by omega)]
theorem inv_pos (c : Nat) (h0 : c ≠ 0) (hc : c < 256) : 0 < invN c := by
  have := allN_at (p := fun c => Nat.beq c 0 || Nat.blt 0 (invN c)) (n := 256) (by decide +kernel) c hc
  simp at this
  omega
theorem inv_f (c k : Nat) (hc : c < 256) (hk : 300 ≤ k) : deedboxref04_inverse.f k (c : Int) = some (invN c : Int) := by
  unfold deedboxref04_inverse.f
  have hil := inv_lt c hc
  by_cases h0 : c = 0
  · exact inv_l c hc 255 1 k (by rw [if_pos h0]) (by omega) (by omega)
  · have := inv_pos c h0 hc
    exact inv_l c hc (invN c - 1) 1 k (by rw [if_neg h0]; omega) (by omega) (by omega)
set_option maxRecDepth 100000 in
theorem box_l9 (x : Nat) (hx : x < 256) : deedboxref04_Box.l0 9 (x : Int) 0 0 = some (sbK x 5 : Int) := by
  have := allN_at (p := fun x => deedboxref04_Box.l0 9 (x : Int) 0 0 == some (sbK x 5 : Int)) (n := 256) (by decide +kernel) x hx
  simpa using this
theorem box_f (c : Nat) (hc : c < 256) : deedboxref04_Box.f 300 (c : Int) = some (bxN c : Int) := by
  unfold deedboxref04_Box.f
  rw [inv_f c 300 hc (by omega), Option.bind_some, bx_eq c hc]
  exact at_rounds (fun k => (deedboxref04_Box.mono_l k) _ _ _) (by omega : 9 ≤ 300) (box_l9 (invN c) (inv_lt c hc))
end Ar
end Go.Proofs.Ytljddghamgjfbaa
