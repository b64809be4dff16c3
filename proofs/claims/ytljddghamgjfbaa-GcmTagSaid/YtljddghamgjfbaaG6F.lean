/- GRef. -/
import Derived.Test.YtljddghamgjfbaaG6B
import Derived.Test.YtljddghamgjfbaaG6Q
import Derived.Test.YtljddghamgjfbaaG6R
import Derived.Laws.BitsAllLaws
import Derived.Test.YtljddghamgjfbaaG6E
import Derived.Test.YtljddghamgjfbaaG6A
import Derived.StillTailTactics
set_option linter.unusedVariables false
set_option linter.unusedSimpArgs false
namespace Go.Proofs.Ytljddghamgjfbaa
open Go.RowKit Go.Proofs.YtljddghamgjfbaaW.PrintWords Go.Proofs.YtljddghamgjfbaaW.PrintLast Go.Proofs.YtljddghamgjfbaaW.PrintMore PGcmSeals Ae
namespace Ar
theorem w1 {k : Nat} (h : k < 1000000) : wrap64 ((k : Int) + 1) = ((k + 1 : Nat) : Int) := by unfold wrap64; omega
theorem bit_at (b i : Nat) (hb : b < 256) (hi : i < 8) : Go.bits .and .u8 (shr .u8 (b : Int) (i : Int)) 1 = ((Nat.land (b / 2 ^ i) 1 : Nat) : Int) := by
  have e : shr .u8 (b : Int) (i : Int) = ((b / 2 ^ i : Nat) : Int) := by
    unfold shr
    rw [Int.toNat_natCast, show min i (IntKind.bits .u8) = i from Nat.min_eq_left (by show i ≤ 8; omega)]
    simp
  rw [e, show (1 : Int) = ((1 : Nat) : Int) from rfl, u8_and_nat _ _ (Nat.lt_of_le_of_lt (Nat.div_le_self _ _) hb) (by omega)]
  rfl
theorem dbl_hi (x : Nat) (hx : x < 256) (h : 128 ≤ x) : Go.bits .xor .u8 (((x : Int) * 2) % 256) 27 = (dblN x : Int) := by
  rw [show ((x : Int) * 2 % 256) = ((x * 2 % 256 : Nat) : Int) by simp, show (27 : Int) = ((27 : Nat) : Int) from rfl, u8_xor_nat _ _ (by omega) (by omega)]
  unfold dblN
  rw [if_pos (by rw [Nat.ble_eq]; exact h)]
  rfl
theorem dbl_lo (x : Nat) (h : ¬ 128 ≤ x) : (((x : Int) * 2) % 256) = (dblN x : Int) := by
  unfold dblN
  rw [if_neg (by rw [Nat.ble_eq]; exact h)]
  omega
theorem times_l (b : Nat) (hb : b < 256) (m : Nat) : ∀ n x out : Nat, n ≤ 8 → x < 256 → out < 256 →
    deedboxref04_Times.l0 (n + 1 + m) (b : Int) (out : Int) (x : Int) ((8 - n : Nat) : Int) = some (tmK b n x out : Int)
  | 0, x, out, _, _, _ => by
    rw [show 0 + 1 + m = m + 1 by omega]
    simp only [deedboxref04_Times.l0]
    rw [if_neg (by omega)]
    rfl
  | n + 1, x, out, hn, hx, ho => by
    have hd := dbl_lt x hx
    have hxo : Nat.xor out x < 256 := Nat.xor_lt_two_pow (n := 8) ho hx
    rw [show n + 1 + 1 + m = (n + 1 + m) + 1 by omega]
    simp only [deedboxref04_Times.l0]
    rw [if_pos (by omega), if_pos (by omega), bit_at b (8 - (n + 1)) hb (by omega), w1 (by omega), show 8 - (n + 1) + 1 = 8 - n by omega]
    have hs : tmK b (n + 1) x out = tmK b n (dblN x) (if Nat.beq (Nat.land (b / 2 ^ (7 - n)) 1) 1 then Nat.xor out x else out) := rfl
    rw [show 8 - (n + 1) = 7 - n by omega]
    have hxx : Go.bits .xor .u8 (out : Int) (x : Int) = ((Nat.xor out x : Nat) : Int) := by rw [u8_xor_nat _ _ ho hx]; rfl
    by_cases c : Nat.land (b / 2 ^ (7 - n)) 1 = 1
    · have hs2 : tmK b (n + 1) x out = tmK b n (dblN x) (Nat.xor out x) := by rw [hs, if_pos (by rw [Nat.beq_eq]; exact c)]
      have c' : ((Nat.land (b / 2 ^ (7 - n)) 1 : Nat) : Int) = 1 := by exact_mod_cast c
      rw [hs2, if_pos c', hxx]
      by_cases h : 128 ≤ x
      · have h' : (x : Int) ≥ 128 := by omega
        rw [if_pos h', dbl_hi x hx h, times_l b hb m n _ _ (by omega) hd hxo]
      · have h' : ¬ (x : Int) ≥ 128 := by omega
        rw [if_neg h', dbl_lo x h, times_l b hb m n _ _ (by omega) hd hxo]
    · have hs2 : tmK b (n + 1) x out = tmK b n (dblN x) out := by rw [hs, if_neg (by rw [Nat.beq_eq]; exact c)]
      have c' : ¬ ((Nat.land (b / 2 ^ (7 - n)) 1 : Nat) : Int) = 1 := by intro h; exact c (by exact_mod_cast h)
      rw [hs2, if_neg c']
      by_cases h : 128 ≤ x
      · have h' : (x : Int) ≥ 128 := by omega
        rw [if_pos h', dbl_hi x hx h, times_l b hb m n _ _ (by omega) hd ho]
      · have h' : ¬ (x : Int) ≥ 128 := by omega
        rw [if_neg h', dbl_lo x h, times_l b hb m n _ _ (by omega) hd ho]
theorem times_f (a b k : Nat) (ha : a < 256) (hb : b < 256) (hk : 9 ≤ k) : deedboxref04_Times.f k (a : Int) (b : Int) = some (tmN a b : Int) := by
  obtain ⟨m, rfl⟩ : ∃ m, k = 8 + 1 + m := ⟨k - 9, by omega⟩
  unfold deedboxref04_Times.f tmN
  exact times_l b hb m 8 a 0 (by omega) ha (by omega)
theorem inv_l (c : Nat) (hc : c < 256) : ∀ d i k : Nat, i + d = (if c = 0 then 256 else invN c) → 0 < i → d + 10 ≤ k → deedboxref04_inverse.l0 k (c : Int) (i : Int) = some (invN c : Int)
  | 0, i, k, hi, h0, hk => by
    obtain ⟨k, rfl⟩ : ∃ m, k = m + 1 := ⟨k - 1, by omega⟩
    simp only [deedboxref04_inverse.l0]
    by_cases hz : c = 0
    · subst hz
      rw [if_pos rfl] at hi
      rw [if_neg (by omega)]
      rfl
    · rw [if_neg hz] at hi
      have hil := inv_lt c hc
      rw [if_pos (by omega), show ((i : Int) % 256) = (i : Int) by omega, times_f c i k hc (by omega) (by omega), Option.bind_some, if_pos (by exact_mod_cast (inv_first c i hc (by omega)).2 ⟨hz, by omega⟩), show i = invN c by omega]
  | d + 1, i, k, hi, h0, hk => by
    obtain ⟨k, rfl⟩ : ∃ m, k = m + 1 := ⟨k - 1, by omega⟩
    have hil := inv_lt c hc
    have hlt : i < 256 := by split at hi <;> omega
    have hne : tmN c i ≠ 1 := fun h => by
      have := (inv_first c i hc hlt).1 h
      rw [if_neg this.1] at hi
      omega
    simp only [deedboxref04_inverse.l0]
    rw [if_pos (by omega), show ((i : Int) % 256) = (i : Int) by omega, times_f c i k hc hlt (by omega), Option.bind_some, if_neg (by intro h; exact hne (by exact_mod_cast h)), w1 (by omega), inv_l c hc d (i + 1) k (by omega) (by omega) (by omega)]
theorem inv_pos (c : Nat) (h0 : c ≠ 0) (hc : c < 256) : 0 < invN c := by
  have := allN_at (p := fun c => Nat.beq c 0 || Nat.blt 0 (invN c)) (n := 256) (by decide +kernel) c hc
  simp at this
  omega
theorem inv_f (c k : Nat) (hc : c < 256) (hk : 300 ≤ k) : deedboxref04_inverse.f k (c : Int) = some (invN c : Int) := by
  unfold deedboxref04_inverse.f
  have hil := inv_lt c hc
  by_cases h0 : c = 0
  · exact inv_l c hc 255 1 k (by rw [if_pos h0]) (by omega) (by omega)
  · have := inv_pos c h0 hc
    exact inv_l c hc (invN c - 1) 1 k (by rw [if_neg h0]; omega) (by omega) (by omega)
set_option maxRecDepth 100000 in
theorem box_l9 (x : Nat) (hx : x < 256) : deedboxref04_Box.l0 9 (x : Int) 0 0 = some (sbK x 5 : Int) := by
  have := allN_at (p := fun x => deedboxref04_Box.l0 9 (x : Int) 0 0 == some (sbK x 5 : Int)) (n := 256) (by decide +kernel) x hx
  simpa using this
theorem box_f (c : Nat) (hc : c < 256) : deedboxref04_Box.f 300 (c : Int) = some (bxN c : Int) := by
  unfold deedboxref04_Box.f
  rw [inv_f c 300 hc (by omega), Option.bind_some, bx_eq c hc]
  exact at_rounds (fun k => (deedboxref04_Box.mono_l k) _ _ _) (by omega : 9 ≤ 300) (box_l9 (invN c) (inv_lt c hc))
end Ar
end Go.Proofs.Ytljddghamgjfbaa
namespace Go.Proofs.Ytljddghamgjfbaa
open Go.RowKit Go.Proofs.YtljddghamgjfbaaW.PrintWords Go.Proofs.YtljddghamgjfbaaW.PrintLast Go.Proofs.YtljddghamgjfbaaW.PrintMore PGcmSeals Ae
namespace Ar
/-- A loop that appends so much in each round. -/
theorem appl {F : Nat → List Int → Int → Option (List Int)} {R : Nat → List Int → Option (List Int)} (N c a0 K0 : Nat) (g : Nat → List Int) (hg : ∀ i, i < N → (g i).length ≤ c)
    (hst : ∀ k acc i, K0 ≤ k → i < N → acc.length ≤ c * i + a0 → F (k + 1) acc (i : Int) = F k (acc ++ g i) ((i + 1 : Nat) : Int))
    (hend : ∀ k acc, K0 ≤ k → F (k + 1) acc (N : Int) = R k acc) : ∀ n i m acc, i + n = N → K0 ≤ m → acc.length ≤ c * i + a0 → F (n + 1 + m) acc (i : Int) = R m (acc ++ (List.range' i n).flatMap g)
  | 0, i, m, acc, hi, hm, ha => by
    obtain rfl : i = N := by omega
    rw [show 0 + 1 + m = m + 1 by omega, hend m acc hm]
    simp
  | n + 1, i, m, acc, hi, hm, ha => by
    have hc := hg i (by omega)
    rw [show n + 1 + 1 + m = (n + 1 + m) + 1 by omega, hst _ _ _ (by omega) (by omega) ha, appl N c a0 K0 g hg hst hend n (i + 1) m _ (by omega) hm (by rw [List.length_append, Nat.mul_add]; omega), List.range'_succ, List.flatMap_cons, List.append_assoc]
theorem rd_g (l : List UInt8) (k : Nat) (h : k < l.length) : rd (i8 l) (k : Int) = ((l.getD k 0).toNat : Int) := by
  rw [rd_i8 h, List.getD_eq_getElem?_getD, List.getElem?_eq_getElem h]; rfl
theorem xor_i (a b : UInt8) : Go.bits .xor .u8 (a.toNat : Int) (b.toNat : Int) = ((a ^^^ b).toNat : Int) := by
  rw [u8_xor_nat _ _ a.toNat_lt b.toNat_lt, UInt8.toNat_xor]
theorem flat_one (f : Nat → UInt8) (l : List Nat) : (l.flatMap fun i => [((f i).toNat : Int)]) = i8 (l.map f) := by
  induction l with
  | nil => rfl
  | cons a l ih => rw [List.flatMap_cons, ih]; rfl
theorem xr_range (a b : List UInt8) (h : a.length = b.length) : xr a b = (List.range a.length).map fun i => a.getD i 0 ^^^ b.getD i 0 := by
  apply List.ext_getElem?
  intro i
  unfold xr
  rw [List.getElem?_zipWith, List.getElem?_map]
  by_cases hi : i < a.length
  · have e1 : a.getD i 0 = a[i] := by rw [List.getD_eq_getElem?_getD, List.getElem?_eq_getElem hi]; rfl
    have e2 : b.getD i 0 = b[i]'(by omega) := by rw [List.getD_eq_getElem?_getD, List.getElem?_eq_getElem (by omega)]; rfl
    rw [List.getElem?_range hi, List.getElem?_eq_getElem hi, List.getElem?_eq_getElem (l := b) (by omega), Option.map_some, e1, e2]
  · rw [List.getElem?_eq_none (l := a) (by omega), List.getElem?_eq_none (l := List.range a.length) (by simp; omega)]
    rfl
theorem both_f (a b : List UInt8) (h : a.length = b.length) (hs : a.length ≤ 1000) (k : Nat) (hk : a.length + 1 ≤ k) : deedboxref04_both.f k (i8 a) (i8 b) = some (i8 (xr a b)) := by
  obtain ⟨m, rfl⟩ : ∃ m, k = a.length + 1 + m := ⟨k - (a.length + 1), by omega⟩
  unfold deedboxref04_both.f
  have := appl (F := fun k acc i => deedboxref04_both.l0 k (i8 a) (i8 b) acc i) (R := fun _ acc => some acc) a.length 1 0 0 (fun i => [((a.getD i 0 ^^^ b.getD i 0).toNat : Int)]) (fun _ _ => Nat.le_refl _)
    (fun k acc i _ hi ha => by
      show deedboxref04_both.l0 (k + 1) _ _ _ _ = _
      simp only [deedboxref04_both.l0]
      rw [if_pos (by rw [i8_length]; omega), if_pos (by omega), if_pos (by rw [i8_length]; omega), if_pos (by omega), rd_g a i hi, rd_g b i (by omega), xor_i, w1 (by omega)])
    (fun k acc _ => by
      show deedboxref04_both.l0 (k + 1) _ _ _ _ = _
      simp only [deedboxref04_both.l0]
      rw [if_neg (by rw [i8_length]; omega)]) a.length 0 m [] (by omega) (by omega) (by simp)
  rw [show ((0 : Nat) : Int) = 0 from rfl] at this
  rw [this, List.nil_append, flat_one, ← List.range_eq_range', ← xr_range a b h]
theorem xr_zero (a : List UInt8) : True := trivial
def bxs : List UInt8 := (List.range 256).map fun c => UInt8.ofNat (bxN c)
theorem bxs_length : bxs.length = 256 := by unfold bxs; rw [List.length_map, List.length_range]
theorem bxs_get (c : UInt8) : bxs.getD c.toNat 0 = bx c := by
  unfold bxs
  rw [List.getD_eq_getElem?_getD, List.getElem?_map, List.getElem?_range c.toNat_lt]
  rfl
theorem box_k (c k : Nat) (hc : c < 256) (hk : 300 ≤ k) : deedboxref04_Box.f k (c : Int) = some (bxN c : Int) := at_rounds (fun k => deedboxref04_Box.mono _ k) hk (box_f c hc)
theorem boxes_f (k : Nat) (hk : 600 ≤ k) : deedboxref04_Boxes.f k = some (i8 bxs) := by
  obtain ⟨m, rfl⟩ : ∃ m, k = 256 + 1 + m := ⟨k - 257, by omega⟩
  unfold deedboxref04_Boxes.f
  have := appl (F := fun k acc i => deedboxref04_Boxes.l0 k acc i) (R := fun _ acc => some acc) 256 1 0 300 (fun i => [((UInt8.ofNat (bxN i)).toNat : Int)]) (fun _ _ => Nat.le_refl _)
    (fun k acc i hk hi ha => by
      show deedboxref04_Boxes.l0 (k + 1) _ _ = _
      simp only [deedboxref04_Boxes.l0]
      rw [if_pos (by omega), show ((i : Int) % 256) = (i : Int) by omega, box_k i k hi hk, Option.bind_some, if_pos (by omega), toNat_of (bx_lt i hi), w1 (by omega)])
    (fun k acc _ => by
      show deedboxref04_Boxes.l0 (k + 1) _ _ = _
      simp only [deedboxref04_Boxes.l0]
      rw [if_neg (by omega)]) 256 0 m [] (by omega) (by omega) (by simp)
  rw [show ((0 : Nat) : Int) = 0 from rfl] at this
  rw [this, List.nil_append, flat_one, ← List.range_eq_range']
  rfl
theorem sw (a b : Nat) (ha : a < 100000) (hb : b < 100000) : wrap64 ((a : Int) + (b : Int)) = ((a + b : Nat) : Int) := by unfold wrap64; omega
theorem m4 (a : Nat) (ha : a < 100000) : wrap64 (4 * (a : Int)) = ((4 * a : Nat) : Int) := by unfold wrap64; omega
theorem t4 (a : Nat) : Int.tmod (a : Int) 4 = ((a % 4 : Nat) : Int) := by rw [Int.tmod_eq_emod_of_nonneg (by omega)]; omega
theorem sk (a : Nat) (b : Nat) (z : Int) (hz : z = (b : Int)) (ha : a < 100000) (hb : b < 100000) : wrap64 ((a : Int) + z) = ((a + b : Nat) : Int) := by rw [hz]; exact sw a b ha hb
theorem shift_l1 (b : List UInt8) (hb : b.length = 16) (c : Nat) (hc : c < 4) (m : Nat) (acc : List Int) (ha : acc.length ≤ 1000) :
    deedboxref04_shifted.l1 (4 + 1 + m) (i8 bxs) (i8 b) acc (c : Int) 0 = deedboxref04_shifted.l0 m (i8 bxs) (i8 b) (acc ++ i8 ((List.range' 0 4).map fun r => bx (b.getD (4 * ((c + r) % 4) + r) 0))) ((c + 1 : Nat) : Int) := by
  have := appl (F := fun k acc i => deedboxref04_shifted.l1 k (i8 bxs) (i8 b) acc (c : Int) i) (R := fun k acc => deedboxref04_shifted.l0 k (i8 bxs) (i8 b) acc ((c + 1 : Nat) : Int)) 4 1 1000 0 (fun r => [((bx (b.getD (4 * ((c + r) % 4) + r) 0)).toNat : Int)]) (fun _ _ => Nat.le_refl _)
    (fun k acc r _ hr ha => by
      show deedboxref04_shifted.l1 (k + 1) _ _ _ _ _ = _
      simp only [deedboxref04_shifted.l1]
      have hidx : wrap64 (wrap64 (4 * Int.tmod (wrap64 ((c : Int) + (r : Int))) 4) + (r : Int)) = ((4 * ((c + r) % 4) + r : Nat) : Int) := by
        rw [sw c r (by omega) (by omega), t4, m4 _ (by omega), sw _ _ (by omega) (by omega)]
      have hlt : 4 * ((c + r) % 4) + r < b.length := by omega
      rw [hidx, rd_g b _ hlt]
      obtain ⟨x, hx⟩ : ∃ x, b.getD (4 * ((c + r) % 4) + r) 0 = x := ⟨_, rfl⟩
      rw [hx]
      have hxl := x.toNat_lt
      rw [if_pos (by omega), if_pos (by omega), if_pos (by rw [i8_length]; omega), if_pos (by omega), if_pos (by rw [i8_length, bxs_length]; omega), if_pos (by omega), rd_g bxs x.toNat (by rw [bxs_length]; omega), bxs_get, w1 (by omega)])
    (fun k acc _ => by
      show deedboxref04_shifted.l1 (k + 1) _ _ _ _ _ = _
      simp only [deedboxref04_shifted.l1]
      rw [if_neg (by omega), w1 (by omega)]) 4 0 m acc (by omega) (by omega) (by omega)
  rw [show ((0 : Nat) : Int) = 0 from rfl] at this
  rw [this, flat_one]
theorem outer4 {F : Nat → List Int → Int → Option (List Int)} (g : Nat → List Int) (hg : ∀ c, (g c).length = 4) (d K0 : Nat) (hst : ∀ c : Nat, c < 4 → ∀ m acc, K0 ≤ m → acc.length ≤ 1000 → F (m + d) acc (c : Int) = F m (acc ++ g c) ((c + 1 : Nat) : Int))
    (hend : ∀ m acc, F (m + 1) acc 4 = some acc) (m : Nat) (hm : K0 ≤ m) : F (m + 1 + d + d + d + d) [] 0 = some (g 0 ++ g 1 ++ g 2 ++ g 3) := by
  have e0 : F (m + 1 + d + d + d + d) [] 0 = F (m + 1 + d + d + d) ([] ++ g 0) 1 := hst 0 (by omega) _ _ (by omega) (by simp)
  have e1 : F (m + 1 + d + d + d) ([] ++ g 0) 1 = F (m + 1 + d + d) ([] ++ g 0 ++ g 1) 2 := hst 1 (by omega) _ _ (by omega) (by simp [hg])
  have e2 : F (m + 1 + d + d) ([] ++ g 0 ++ g 1) 2 = F (m + 1 + d) ([] ++ g 0 ++ g 1 ++ g 2) 3 := hst 2 (by omega) _ _ (by omega) (by simp [hg])
  have e3 : F (m + 1 + d) ([] ++ g 0 ++ g 1 ++ g 2) 3 = F (m + 1) ([] ++ g 0 ++ g 1 ++ g 2 ++ g 3) 4 := hst 3 (by omega) _ _ (by omega) (by simp [hg])
  rw [e0, e1, e2, e3, hend, List.nil_append]
def sg (b : List UInt8) (c : Nat) : List Int := i8 ((List.range' 0 4).map fun r => bx (b.getD (4 * ((c + r) % 4) + r) 0))
theorem gen_shf (F : Nat → UInt8) : i8 ((List.range' 0 4).map fun r => F (4 * ((0 + r) % 4) + r)) ++ i8 ((List.range' 0 4).map fun r => F (4 * ((1 + r) % 4) + r)) ++ i8 ((List.range' 0 4).map fun r => F (4 * ((2 + r) % 4) + r)) ++ i8 ((List.range' 0 4).map fun r => F (4 * ((3 + r) % 4) + r)) = i8 ((List.range 16).map fun i => F ((i + 4 * (i % 4)) % 16)) := rfl
theorem shf_four (b : List UInt8) : sg b 0 ++ sg b 1 ++ sg b 2 ++ sg b 3 = i8 (shf b) := gen_shf (fun i => bx (b.getD i 0))
theorem shift_f (b : List UInt8) (hb : b.length = 16) (k : Nat) (hk : 40 ≤ k) : deedboxref04_shifted.f k (i8 bxs) (i8 b) = some (i8 (shf b)) := by
  obtain ⟨m, rfl⟩ : ∃ m, k = m + 1 + 6 + 6 + 6 + 6 := ⟨k - 25, by omega⟩
  unfold deedboxref04_shifted.f
  rw [← shf_four]
  exact outer4 (F := fun k acc i => deedboxref04_shifted.l0 k (i8 bxs) (i8 b) acc i) (sg b) (fun c => by unfold sg; rw [i8_length]; rfl) 6 0 (fun c hc m acc _ ha => by
    show deedboxref04_shifted.l0 (m + 6) _ _ _ _ = _
    rw [show m + 6 = (4 + 1 + m) + 1 by omega]
    simp only [deedboxref04_shifted.l0]
    rw [if_pos (by omega), shift_l1 b hb c hc m acc ha]
    rfl) (fun m acc => by
    show deedboxref04_shifted.l0 (m + 1) _ _ _ _ = _
    simp only [deedboxref04_shifted.l0]
    rw [if_neg (by omega)]) m (by omega)
theorem tm2 (x : Nat) (hx : x < 256) : tmN x 2 = dblN x := by
  have := allN_at (p := fun x => Nat.beq (tmN x 2) (dblN x)) (n := 256) (by decide +kernel) x hx
  simpa using this
theorem tm3 (x : Nat) (hx : x < 256) : tmN x 3 = Nat.xor (dblN x) x := by
  have := allN_at (p := fun x => Nat.beq (tmN x 3) (Nat.xor (dblN x) x)) (n := 256) (by decide +kernel) x hx
  simpa using this
theorem db_xor (a b : UInt8) : db (a ^^^ b) = db a ^^^ db b := by
  have h : ∀ x, x < 256 → ∀ y, y < 256 → dblN (Nat.xor x y) = Nat.xor (dblN x) (dblN y) := fun x hx y hy => by
    have := allN_at (p := fun x => allN (fun y => Nat.beq (dblN (Nat.xor x y)) (Nat.xor (dblN x) (dblN y))) 256) (n := 256) (by decide +kernel) x hx
    have := allN_at this y hy
    simpa using this
  apply UInt8.toNat_inj.1
  rw [db_nat, UInt8.toNat_xor, UInt8.toNat_xor, db_nat, db_nat]
  exact h a.toNat a.toNat_lt b.toNat b.toNat_lt
theorem times2 (x : UInt8) (k : Nat) (hk : 9 ≤ k) : deedboxref04_Times.f k (x.toNat : Int) 2 = some ((db x).toNat : Int) := by
  rw [show (2 : Int) = ((2 : Nat) : Int) from rfl, times_f _ 2 k x.toNat_lt (by omega) hk, tm2 _ x.toNat_lt, db_nat]
theorem times3 (x : UInt8) (k : Nat) (hk : 9 ≤ k) : deedboxref04_Times.f k (x.toNat : Int) 3 = some ((db x ^^^ x).toNat : Int) := by
  rw [show (3 : Int) = ((3 : Nat) : Int) from rfl, times_f _ 3 k x.toNat_lt (by omega) hk, tm3 _ x.toNat_lt, UInt8.toNat_xor, db_nat]
  rfl
/-- The chapter's column: four bytes about one. -/
def mc (b : List UInt8) (c r : Nat) : UInt8 := db (b.getD (4 * c + r) 0) ^^^ (db (b.getD (4 * c + (r + 1) % 4) 0) ^^^ b.getD (4 * c + (r + 1) % 4) 0) ^^^ b.getD (4 * c + (r + 2) % 4) 0 ^^^ b.getD (4 * c + (r + 3) % 4) 0
theorem ix0 (c r : Nat) (hc : c < 4) (hr : r < 4) : wrap64 (wrap64 (4 * (c : Int)) + (r : Int)) = ((4 * c + r : Nat) : Int) := by rw [m4 _ (by omega), sw _ _ (by omega) (by omega)]
theorem ix (c r d : Nat) (z : Int) (hz : z = (d : Int)) (hc : c < 4) (hr : r < 4) (hd : d < 4) : wrap64 (wrap64 (4 * (c : Int)) + Int.tmod (wrap64 ((r : Int) + z)) 4) = ((4 * c + (r + d) % 4 : Nat) : Int) := by
  rw [hz, sw r d (by omega) (by omega), t4, m4 c (by omega), sw _ _ (by omega) (by omega)]
theorem mix_l1 (b : List UInt8) (hb : b.length = 16) (c : Nat) (hc : c < 4) (m : Nat) (hm : 9 ≤ m) (acc : List Int) (ha : acc.length ≤ 1000) :
    deedboxref04_mixed.l1 (4 + 1 + m) (i8 b) acc (c : Int) 0 = deedboxref04_mixed.l0 m (i8 b) (acc ++ i8 ((List.range' 0 4).map fun r => mc b c r)) ((c + 1 : Nat) : Int) := by
  have := appl (F := fun k acc i => deedboxref04_mixed.l1 k (i8 b) acc (c : Int) i) (R := fun k acc => deedboxref04_mixed.l0 k (i8 b) acc ((c + 1 : Nat) : Int)) 4 1 1000 9 (fun r => [((mc b c r).toNat : Int)]) (fun _ _ => Nat.le_refl _)
    (fun k acc r hk hr ha => by
      show deedboxref04_mixed.l1 (k + 1) _ _ _ _ = deedboxref04_mixed.l1 k (i8 b) (acc ++ [((mc b c r).toNat : Int)]) (c : Int) _
      simp only [deedboxref04_mixed.l1]
      have hl0 : 4 * c + r < b.length := by omega
      have hl1 : 4 * c + (r + 1) % 4 < b.length := by omega
      have hl2 : 4 * c + (r + 2) % 4 < b.length := by omega
      have hl3 : 4 * c + (r + 3) % 4 < b.length := by omega
      have hM : mc b c r = db (b.getD (4 * c + r) 0) ^^^ (db (b.getD (4 * c + (r + 1) % 4) 0) ^^^ b.getD (4 * c + (r + 1) % 4) 0) ^^^ b.getD (4 * c + (r + 2) % 4) 0 ^^^ b.getD (4 * c + (r + 3) % 4) 0 := rfl
      rw [ix0 c r hc hr, ix c r 1 1 rfl hc hr (by decide), ix c r 2 2 rfl hc hr (by decide), ix c r 3 3 rfl hc hr (by decide), rd_g b _ hl0, rd_g b _ hl1, rd_g b _ hl2, rd_g b _ hl3, times2 _ k hk, times3 _ k hk, Option.bind_some, Option.bind_some, i8_length, hM]
      generalize db (b.getD (4 * c + r) 0) = y0
      generalize db (b.getD (4 * c + (r + 1) % 4) 0) ^^^ b.getD (4 * c + (r + 1) % 4) 0 = y1
      generalize b.getD (4 * c + (r + 2) % 4) 0 = y2
      generalize b.getD (4 * c + (r + 3) % 4) 0 = y3
      rw [xor_i, xor_i, xor_i]
      rw [if_pos (by omega), if_pos (by omega), if_pos (by omega), if_pos (by omega), if_pos (by omega), if_pos (by omega), if_pos (by omega), if_pos (by omega), if_pos (by omega), if_pos (by omega), w1 (by omega)])
    (fun k acc _ => by
      show deedboxref04_mixed.l1 (k + 1) _ _ _ _ = _
      simp only [deedboxref04_mixed.l1]
      rw [if_neg (by omega), w1 (by omega)]) 4 0 m acc (by omega) hm (by omega)
  rw [show ((0 : Nat) : Int) = 0 from rfl] at this
  rw [this, flat_one]
def mg (b : List UInt8) (c : Nat) : List Int := i8 ((List.range' 0 4).map fun r => mc b c r)
theorem x5 (p q s t u v : UInt8) : p ^^^ (p ^^^ q ^^^ s ^^^ t) ^^^ (u ^^^ v) = u ^^^ (v ^^^ q) ^^^ s ^^^ t := by
  have h : ∀ X : UInt8, p ^^^ (p ^^^ X) = X := fun X => by rw [← UInt8.xor_assoc, UInt8.xor_self, UInt8.zero_xor]
  rw [show p ^^^ q ^^^ s ^^^ t = p ^^^ (q ^^^ s ^^^ t) by ac_rfl, h]
  ac_rfl
theorem mxa_gen (D : UInt8 → UInt8) (hD : ∀ a b, D (a ^^^ b) = D a ^^^ D b) (x0 x1 x2 x3 : UInt8) :
    (x0 ^^^ (x0 ^^^ x1 ^^^ x2 ^^^ x3) ^^^ D (x0 ^^^ x1) = D x0 ^^^ (D x1 ^^^ x1) ^^^ x2 ^^^ x3) ∧ (x1 ^^^ (x0 ^^^ x1 ^^^ x2 ^^^ x3) ^^^ D (x1 ^^^ x2) = D x1 ^^^ (D x2 ^^^ x2) ^^^ x3 ^^^ x0) ∧
    (x2 ^^^ (x0 ^^^ x1 ^^^ x2 ^^^ x3) ^^^ D (x2 ^^^ x3) = D x2 ^^^ (D x3 ^^^ x3) ^^^ x0 ^^^ x1) ∧ (x3 ^^^ (x0 ^^^ x1 ^^^ x2 ^^^ x3) ^^^ D (x3 ^^^ x0) = D x3 ^^^ (D x0 ^^^ x0) ^^^ x1 ^^^ x2) := by
  refine ⟨?_, ?_, ?_, ?_⟩
  · rw [hD]; exact x5 _ _ _ _ _ _
  · rw [hD, show x0 ^^^ x1 ^^^ x2 ^^^ x3 = x1 ^^^ x2 ^^^ x3 ^^^ x0 by ac_rfl]; exact x5 _ _ _ _ _ _
  · rw [hD, show x0 ^^^ x1 ^^^ x2 ^^^ x3 = x2 ^^^ x3 ^^^ x0 ^^^ x1 by ac_rfl]; exact x5 _ _ _ _ _ _
  · rw [hD, show x0 ^^^ x1 ^^^ x2 ^^^ x3 = x3 ^^^ x0 ^^^ x1 ^^^ x2 by ac_rfl]; exact x5 _ _ _ _ _ _
theorem mxa_mc (b : List UInt8) (c r : Nat) (hr : r < 4) : mxa b (4 * c) r = mc b c r := by
  have h := mxa_gen db db_xor (b.getD (4 * c) 0) (b.getD (4 * c + 1) 0) (b.getD (4 * c + 2) 0) (b.getD (4 * c + 3) 0)
  unfold mxa mc alx
  generalize db = D at *
  rcases (by omega : r = 0 ∨ r = 1 ∨ r = 2 ∨ r = 3) with rfl | rfl | rfl | rfl
  · exact h.1
  · exact h.2.1
  · exact h.2.2.1
  · exact h.2.2.2
theorem gen_mix (G : Nat → Nat → UInt8) : i8 ((List.range' 0 4).map fun r => G (4 * 0) r) ++ i8 ((List.range' 0 4).map fun r => G (4 * 1) r) ++ i8 ((List.range' 0 4).map fun r => G (4 * 2) r) ++ i8 ((List.range' 0 4).map fun r => G (4 * 3) r) = i8 ((List.range 16).map fun j => G (4 * (j / 4)) (j % 4)) := rfl
theorem mix_four (b : List UInt8) : mg b 0 ++ mg b 1 ++ mg b 2 ++ mg b 3 = i8 (mix b) := by
  have h : ∀ c, mg b c = i8 ((List.range' 0 4).map fun r => mxa b (4 * c) r) := fun c => by
    unfold mg
    congr 1
    exact List.map_congr_left fun r hr => (mxa_mc b c r (by have := List.mem_range'_1.1 hr; omega)).symm
  rw [h, h, h, h]
  exact gen_mix (mxa b)
theorem mix_f (b : List UInt8) (hb : b.length = 16) (k : Nat) (hk : 60 ≤ k) : deedboxref04_mixed.f k (i8 b) = some (i8 (mix b)) := by
  obtain ⟨m, rfl⟩ : ∃ m, k = m + 1 + 6 + 6 + 6 + 6 := ⟨k - 25, by omega⟩
  unfold deedboxref04_mixed.f
  rw [← mix_four]
  exact outer4 (F := fun k acc i => deedboxref04_mixed.l0 k (i8 b) acc i) (mg b) (fun c => by unfold mg; rw [i8_length]; rfl) 6 9 (fun c hc m acc hm ha => by
    show deedboxref04_mixed.l0 (m + 6) _ _ _ = _
    rw [show m + 6 = (4 + 1 + m) + 1 by omega]
    simp only [deedboxref04_mixed.l0]
    rw [if_pos (by omega), mix_l1 b hb c hc m hm acc ha]
    rfl) (fun m acc => by
    show deedboxref04_mixed.l0 (m + 1) _ _ _ = _
    simp only [deedboxref04_mixed.l0]
    rw [if_neg (by omega)]) m (by omega)
theorem take16 (l : List UInt8) (a : Nat) : (l.drop a).take 16 = ((l.take (a + 4)).drop a) ++ ((l.take (a + 4 + 4)).drop (a + 4)) ++ ((l.take (a + 8 + 4)).drop (a + 8)) ++ ((l.take (a + 12 + 4)).drop (a + 12)) := by
  have h : ∀ x, (l.take (x + 4)).drop x = (l.drop x).take 4 := fun x => by rw [List.drop_take]; congr 1; omega
  rw [h, h, h, h, show (16 : Nat) = 4 + (4 + (4 + 4)) from rfl, List.take_add, List.take_add, List.take_add, List.drop_drop, List.drop_drop, List.drop_drop, List.append_assoc, List.append_assoc]
theorem roundKey_g (W : List (List Int)) (KK : List UInt8) (hlen : W.length = 60) (hget : ∀ j : Nat, j < 60 → rd_L1 W (j : Int) = i8 ((KK.take (4 * j + 4)).drop (4 * j))) (hKL : KK.length = 240) (r : Nat) (hr : r < 15) (k : Nat) (hk : 20 ≤ k) : deedboxref04_roundKey.f k W (r : Int) = some (i8 (rk KK r)) := by
  obtain ⟨m, rfl⟩ : ∃ m, k = 4 + 1 + m := ⟨k - 5, by omega⟩
  have hl4 : ∀ j : Nat, j < 60 → ((KK.take (4 * j + 4)).drop (4 * j)).length = 4 := fun j hj => by
    rw [List.length_drop, List.length_take, hKL]; omega
  unfold deedboxref04_roundKey.f
  have := appl (F := fun k acc i => deedboxref04_roundKey.l0 k W (r : Int) acc i) (R := fun _ acc => some acc) 4 4 0 0 (fun i => i8 ((KK.take (4 * (4 * r + i) + 4)).drop (4 * (4 * r + i)))) (fun i hi => by rw [i8_length, hl4 _ (by omega)]; exact Nat.le_refl _)
    (fun k acc i _ hi ha => by
      show deedboxref04_roundKey.l0 (k + 1) _ _ _ _ = _
      simp only [deedboxref04_roundKey.l0]
      have hj : 4 * r + i < 60 := by omega
      have hll : acc.length + (i8 ((KK.take (4 * (4 * r + i) + 4)).drop (4 * (4 * r + i)))).length < 140737488355328 := by rw [i8_length, hl4 _ hj]; omega
      have hlt : ((4 * r + i : Nat) : Int) < (W.length : Int) := by rw [hlen]; omega
      rw [if_pos (by omega), m4 r (by omega), sw _ i (by omega) (by omega), if_pos (by omega), if_pos hlt, hget _ hj, if_pos hll, w1 (by omega)])
    (fun k acc _ => by
      show deedboxref04_roundKey.l0 (k + 1) _ _ _ _ = _
      simp only [deedboxref04_roundKey.l0]
      rw [if_neg (by omega)]) 4 0 m [] (by omega) (by omega) (by simp)
  rw [show ((0 : Nat) : Int) = 0 from rfl] at this
  rw [this, List.nil_append]
  have e : rk KK r = ((KK.take (4 * (4 * r + 0) + 4)).drop (4 * (4 * r + 0))) ++ (((KK.take (4 * (4 * r + 1) + 4)).drop (4 * (4 * r + 1))) ++ (((KK.take (4 * (4 * r + 2) + 4)).drop (4 * (4 * r + 2))) ++ ((KK.take (4 * (4 * r + 3) + 4)).drop (4 * (4 * r + 3))))) := by
    unfold rk
    rw [take16, List.append_assoc, List.append_assoc, show 4 * (4 * r + 0) = 16 * r by omega, show 4 * (4 * r + 1) = 16 * r + 4 by omega, show 4 * (4 * r + 2) = 16 * r + 8 by omega, show 4 * (4 * r + 3) = 16 * r + 12 by omega]
  rw [e, i8_append, i8_append, i8_append]
  simp only [List.range', List.flatMap_cons, List.flatMap_nil, List.append_nil, Nat.zero_add, Nat.reduceAdd]
theorem roundKey_f (WL : List (List UInt8)) (h60 : WL.length = 60) (h4 : ∀ x ∈ WL, x.length = 4) (r : Nat) (hr : r < 15) (k : Nat) (hk : 20 ≤ k) : deedboxref04_roundKey.f k (WL.map i8) (r : Int) = some (i8 (rk WL.flatten r)) := by
  refine roundKey_g _ _ (by rw [List.length_map, h60]) (fun j hj => ?_) (by rw [flat4 _ h4, h60]) r hr k hk
  have hl : j < WL.length := by rw [h60]; exact hj
  have hf := flat_at _ h4 j hl
  unfold rd_L1
  rw [Int.toNat_natCast, List.getD_eq_getElem?_getD, List.getElem?_map, List.getElem?_eq_getElem hl, hf]
  rfl
theorem block_l0 (WL : List (List UInt8)) (h60 : WL.length = 60) (h4 : ∀ x ∈ WL, x.length = 4) (KK : List UInt8) (hKK : WL.flatten = KK) (b : List UInt8) (hb : b.length = 16) : ∀ n r k : Nat, r + n = 13 → n + 100 ≤ k →
    deedboxref04_Block.l0 k (i8 bxs) (WL.map i8) (i8 (rnds KK b r)) ((r + 1 : Nat) : Int) = some (i8 (enc KK b))
  | 0, r, k, hr, hk => by
    obtain ⟨k, rfl⟩ : ∃ m, k = m + 1 := ⟨k - 1, by omega⟩
    obtain rfl : r = 13 := by omega
    have hkl : KK.length = 240 := by rw [← hKK, flat4 _ h4, h60]
    have hl := rnds_length KK b hkl hb 13 (by omega)
    have hrk := roundKey_f WL h60 h4 14 (by omega) k (by omega)
    rw [show ((14 : Nat) : Int) = 14 from rfl, hKK] at hrk
    simp only [deedboxref04_Block.l0]
    rw [if_neg (by omega), shift_f _ hl k (by omega), Option.bind_some, hrk, Option.bind_some, both_f _ _ (by rw [shf_length, rk_length _ _ hkl (by omega)]) (by rw [shf_length]; omega) k (by rw [shf_length]; omega), Option.bind_some]
    rfl
  | n + 1, r, k, hr, hk => by
    obtain ⟨k, rfl⟩ : ∃ m, k = m + 1 := ⟨k - 1, by omega⟩
    have hkl : KK.length = 240 := by rw [← hKK, flat4 _ h4, h60]
    have hl := rnds_length KK b hkl hb r (by omega)
    have hrk := roundKey_f WL h60 h4 (r + 1) (by omega) k (by omega)
    rw [hKK] at hrk
    simp only [deedboxref04_Block.l0]
    rw [if_pos (by omega), shift_f _ hl k (by omega), Option.bind_some, mix_f _ (shf_length _) k (by omega), Option.bind_some, hrk, Option.bind_some, both_f _ _ (by rw [mix_length, rk_length _ _ hkl (by omega)]) (by rw [mix_length]; omega) k (by rw [mix_length]; omega), Option.bind_some, w1 (by omega)]
    exact block_l0 WL h60 h4 KK hKK b hb n (r + 1) k (by omega) (by omega)
theorem block_f (WL : List (List UInt8)) (h60 : WL.length = 60) (h4 : ∀ x ∈ WL, x.length = 4) (KK : List UInt8) (hKK : WL.flatten = KK) (b : List UInt8) (hb : b.length = 16) (k : Nat) (hk : 200 ≤ k) : deedboxref04_Block.f k (i8 bxs) (WL.map i8) (i8 b) = some (i8 (enc KK b)) := by
  have hkl : KK.length = 240 := by rw [← hKK, flat4 _ h4, h60]
  have hrk := roundKey_f WL h60 h4 0 (by omega) k (by omega)
  rw [show ((0 : Nat) : Int) = 0 from rfl, hKK] at hrk
  unfold deedboxref04_Block.f
  rw [hrk, Option.bind_some, both_f _ _ (by rw [hb, rk_length _ _ hkl (by omega)]) (by omega) k (by omega), Option.bind_some]
  exact block_l0 WL h60 h4 KK hKK b hb 13 0 k (by omega) (by omega)
end Ar
end Go.Proofs.Ytljddghamgjfbaa
namespace Go.Proofs.Ytljddghamgjfbaa
open Go.RowKit Go.Deep Go.Proofs.YtljddghamgjfbaaW.PrintWords Ae
/-- Where a row of bytes may lie: in memory older than the call's, or in a block of bytes. -/
def FB (w : World) (base : Nat) : Nat → Prop := fun b => b < base ∨ ∃ cs, Blk w b 5 cs
theorem FB.no {w w' : World} {base b : Nat} (h : FB w base b) (hx : Ext No w w') : FB w' base b := h.imp id fun ⟨cs, hb⟩ => ⟨cs, hb.ext_no hx⟩
/-- v is a row, of the call's own, of rows of bytes. -/
def OwR (w : World) (base : Nat) (v : Value) (ls : List (List UInt8)) : Prop :=
  ∃ vs : List Value, w.ownsRow base 27 1 v ls.length vs ∧ ∀ i, (hi : i < ls.length) → ∃ u, vs[i]? = some u ∧ Bs w (FB w base) u ls[i]
section
variable {w w' : World} {base : Nat} {v : Value} {ls : List (List UInt8)}
theorem OwR.nil (w : World) (base : Nat) : OwR w base (.slice none 0 0) [] := ⟨[], World.ownsRow_nil w base _ 1, fun i hi => absurd hi (by simp)⟩
theorem OwR.no (h : OwR w base v ls) (hx : Ext No w w') : OwR w' base v ls := by
  obtain ⟨vs, ho, hr⟩ := h
  refine ⟨vs, ⟨ho.1, ?_⟩, fun i hi => ?_⟩
  · rcases ho.2 with h | ⟨g, cap, cur, hv, hg, hh, r⟩
    · exact .inl h
    · exact .inr ⟨g, cap, cur, hv, hg, (hx.block g (Array.getElem?_eq_some_iff.1 hh).1 (fun h => h)).trans hh, r⟩
  · obtain ⟨u, hu, hb⟩ := hr i hi
    exact ⟨u, hu, (hb.ext_no hx).mono fun b h => h.no hx⟩
theorem OwR.lt (h : OwR w base v ls) : ∀ k, v.ownBlock = some k → base ≤ k ∧ k < w.heap.size := by
  obtain ⟨vs, ho, _⟩ := h
  exact World.ownsRow.lt ho
theorem OwR.blk (h : OwR w base v ls) : ∀ k, v.ownBlock = some k → ∃ cs, Blk w k 27 cs := by
  obtain ⟨vs, ho, _⟩ := h
  intro k hk
  rcases ho.2 with ⟨rfl, _⟩ | ⟨g, cap, cur, rfl, _, hh, _⟩
  · cases hk
  · injection hk with hk; subst hk; exact ⟨cur, hh⟩
theorem OwR.slice (h : OwR w base v ls) : ∃ A c, v = .slice A ls.length c ∧ ls.length ≤ c ∧ c ≤ maxLen := by
  obtain ⟨vs, ho, _⟩ := h
  rcases ho.2 with ⟨rfl, h0⟩ | ⟨g, cap, cur, rfl, _, _, hc, hm, _⟩
  · exact ⟨none, 0, by rw [h0], by omega, Nat.zero_le _⟩
  · exact ⟨_, cap, rfl, hc, hm⟩
/-- One of the rows, where it lies. -/
theorem OwR.at_ (h : OwR w base v ls) {i : Nat} (hi : i < ls.length) : ∃ g c A' c', v = .slice (some ⟨g, 0, none⟩) ls.length c ∧ w.cell? ⟨g, i, none⟩ = some (.slice A' ls[i].length c') ∧ Bs w (FB w base) (.slice A' ls[i].length c') ls[i] := by
  obtain ⟨vs, ho, hr⟩ := h
  obtain ⟨u, hu, hb⟩ := hr i hi
  rcases ho.2 with ⟨rfl, h0⟩ | ⟨g, cap, cur, rfl, hbg, hh, hc, hm, hs, ht⟩
  · omega
  · obtain ⟨A', c', rfl, _⟩ := hb.slice
    refine ⟨g, cap, A', c', rfl, ?_, hb⟩
    have hb2 : Blk w g 27 cur := hh
    rw [hb2.cell, ← hu, ← ht, Nat.mul_one, List.getElem?_take_of_lt hi, Array.getElem?_toList]
theorem OwR.parts (h : OwR w base v ls) : Parts w Any v ls := by
  obtain ⟨vs, ho, hr⟩ := h
  exact ⟨vs, (Sl.of_own ho).mono fun _ _ => trivial, fun i hi => by
    obtain ⟨u, hu, hb⟩ := hr i hi
    exact ⟨u, hu, hb.any⟩⟩
end
theorem info_sl : (Try.prog.info? 27).map (fun i => (i.zero, i.size, i.bytes)) = some (some (.slice none 0 0), 1, 24) := by kernel_rfl
/-- append(v, u): one row more. -/
theorem app_row {w : World} {ops : Array Oper} {rest : List Oper} {o : Oper} {a : Act} {Q : Exit → Act → World → Prop} (s x : Operand)
    (ho : o.op = .call { callee := .builtin .append, args := #[s, x], argTypes := #[49, 49] }) (hgd : o.guard = none)
    (base : Nat) (v u : Value) (g : Nat) (ls : List (List UInt8)) (m : List UInt8) (hs : a.eval s = v) (hx : a.eval x = .slice (some ⟨g, 0, none⟩) 1 1) (hown : OwR w base v ls) (hl : Blk w g 27 #[u])
    (hu : Bs w (FB w base) u m) (hb : ls.length ≤ 100000) (hbase : base ≤ w.heap.size)
    (h : ∀ v' w', OwR w' base v' (ls ++ [m]) → w.grownBy w' v.ownBlock → wpList Try.prog ops Q rest (a.put o.dst v') w') : wpList Try.prog ops Q (o :: rest) a w := by
  have hown' := hown
  obtain ⟨vs, hr, hel⟩ := hown
  have hlen : vs.length = ls.length := by have := hr.1; rwa [Nat.mul_one] at this
  obtain ⟨A, c, rfl, _⟩ := hu.slice
  have hsl : Sl w Any 1 (.slice (some ⟨g, 0, none⟩) 1 1) 1 [.slice A m.length c] := ⟨rfl, _, 1, rfl, Nat.le_refl _, by unfold maxLen; decide, fun _ => ⟨g, 0, rfl, trivial, fun j y hy => by
    rw [Nat.zero_add, hl.cell]
    simpa using hy⟩⟩
  refine wpList_app hgd s x _ ho base 27 (.slice none 0 0) 1 24 Try.underlying49 info_sl rfl (by omega) v ls.length vs hs hr Any _ 1 [.slice A m.length c] hx hsl (fun y hy => by rw [List.mem_singleton.1 hy]; rfl) (by unfold maxLen; omega) (by omega) hbase ?_
  intro v' w' h2 h3 _
  have hfb : ∀ b, FB w base b → some b ≠ v.ownBlock := by
    intro b hb e
    rcases hb with hb | ⟨cs, hb⟩
    · have := (hown'.lt b e.symm).1; omega
    · obtain ⟨cs', hb'⟩ := hown'.blk b e.symm
      exact (hb.ne_ hb' (by decide)) rfl
  have hkeep : ∀ {y : Value} {l : List UInt8}, Bs w (FB w base) y l → Bs w' (FB w' base) y l := fun hy =>
    (Bs.ext hy ((Ext.refl (fun k => v.ownBlock = some k) w).grown h3 (fun k hk _ => hk)) (fun b hb _ e => hfb b hb e.symm)).mono fun b hb => by
      rcases hb with hb' | ⟨cs, hb'⟩
      · exact .inl hb'
      · exact .inr ⟨cs, hb'.grown h3 (hfb b (.inr ⟨cs, hb'⟩))⟩
  refine h v' w' ⟨vs ++ [.slice A m.length c], by rw [List.length_append]; exact h2, fun i hi => ?_⟩ h3
  rw [List.length_append, List.length_singleton] at hi
  by_cases e : i < ls.length
  · obtain ⟨u, hu', hb'⟩ := hel i e
    refine ⟨u, by rw [List.getElem?_append_left (by omega)]; exact hu', ?_⟩
    rw [List.getElem_append_left e]
    exact hkeep hb'
  · obtain rfl : i = ls.length := by omega
    refine ⟨_, by rw [List.getElem?_append_right (by omega), hlen, Nat.sub_self]; rfl, ?_⟩
    rw [List.getElem_append_right (by omega)]
    simpa using hkeep hu
end Go.Proofs.Ytljddghamgjfbaa
namespace Go.Proofs.Ytljddghamgjfbaa
open Go.RowKit Go.Deep Go.Proofs.YtljddghamgjfbaaW.PrintWords Ae
theorem bs_old {w : World} {F : Nat → Prop} {v : Value} {l : List UInt8} (h : Bs w F v l) : Bs w (fun b => b < w.heap.size) v l := by
  obtain ⟨h1, A, c, hv, hc, hm, hn⟩ := h
  refine ⟨h1, A, c, hv, hc, hm, fun h0 => ?_⟩
  obtain ⟨b, off, hA, _, hcell⟩ := hn h0
  exact ⟨b, off, hA, World.block_lt_of_cell? w _ (hcell 0 _ (u8s_get h0)), hcell⟩
theorem rBoth_any (v1 v2 : Value) (l m : List UInt8) (w : World) (h1 : Bs w Any v1 l) (h2 : Bs w Any v2 m) (hl : l.length = m.length) (hs : l.length ≤ 1000) :
    Calls Try.prog 88 #[v1, v2] w fun e w' => ∃ v', e = .returned v' ∧ Own w' w.heap.size v' (xr l m) ∧ Ext No w w' := by
  obtain ⟨A, c, rfl, -⟩ := h1.slice
  obtain ⟨A', c', rfl, -⟩ := h2.slice
  obtain ⟨a1, a2, a3⟩ := h1.C
  obtain ⟨b1, b2, b3⟩ := h2.C
  rw [a1, b1]
  refine (PGcmSeals.deedboxref04_both.calls (l.length + 1) A c (i8 l) A' c' (i8 m) (i8 (xr l m)) w a3 a2 b3 b2 (Ar.both_f l m hl hs _ (Nat.le_refl _))).mono ?_
  rintro e w' ⟨v', rfl, hr, hb⟩
  exact ⟨v', rfl, Own.of_R hr, Ext.of_below hb⟩
theorem rTimes_two (r : UInt8) (w : World) : Calls Try.prog 92 #[.int .u8 (r.toNat : Int), .int .u8 2] w fun e w' => e = .returned (.int .u8 ((db r).toNat : Int)) ∧ ∃ n, w' = w.drewN n := by
  refine (PGcmSeals.deedboxref04_Times.calls 20 _ _ _ w (Ar.times2 r 20 (by omega))).mono ?_
  rintro e w' ⟨rfl, n, rfl⟩
  exact ⟨rfl, n, rfl⟩
theorem lit4 (w : World) (a b c d : UInt8) {g : Nat} (hg : g = w.heap.size) : Bs (w.alloc (.cells #[.int .u8 (a.toNat : Int), .int .u8 (b.toNat : Int), .int .u8 (c.toNat : Int), .int .u8 (d.toNat : Int)] 5)) Any (.slice (some ⟨g, 0, none⟩) 4 4) [a, b, c, d] := by
  subst hg
  exact (bs_litN w [a, b, c, d] (by simp [maxLen])).any
set_option maxRecDepth 100000 in
set_option maxHeartbeats 4000000 in
theorem rWords_any (bv kv : Value) (key : List UInt8) (w : World) (hbx : Bs w Any bv Ar.bxs) (hk : Bs w Any kv key) (hl : key.length = 32) :
    Calls Try.prog 53 #[bv, kv] w fun e w' => ∃ v', e = .returned v' ∧ Parts w' Any v' (wds key 60) ∧ Ext No w w' := by
  obtain ⟨A, c, rfl, hc, hm, b, off, hcell⟩ := hk.slice
  obtain ⟨rfl, -⟩ := hcell 0 (by omega)
  obtain ⟨BA, bc, rfl, hbc, hbm, bb, bo, hbcell⟩ := hbx.slice
  obtain ⟨rfl, -⟩ := hbcell 0 (by rw [Ar.bxs_length]; omega)
  have HBX := Lib.hid (fun (wx : World) (hx : Ext No w wx) (x : UInt8) => show wx.cell? ⟨bb, bo + x.toNat, none⟩ = some (.int .u8 ((bx x).toNat : Int)) from by
    have h1 := (hbcell x.toNat (by rw [Ar.bxs_length]; exact x.toNat_lt)).2
    have h2 : Ar.bxs[x.toNat]'(by rw [Ar.bxs_length]; exact x.toNat_lt) = bx x := by
      have := Ar.bxs_get x
      rwa [List.getD_eq_getElem?_getD, List.getElem?_eq_getElem (by rw [Ar.bxs_length]; exact x.toNat_lt)] at this
    rw [h2] at h1
    exact (hx.cell (p := ⟨bb, bo + x.toNat, none⟩) (World.block_lt_of_cell? w _ h1.2.2) (fun h => h)).trans h1.2.2)
  rw [Ar.bxs_length] at hbc ⊢
  have HK := Lib.hid (bs_old hk)
  have HM := Lib.hid hm
  have HWG := Lib.hid (fun n i (hi : i < n) => show (wds key n).getD i [] = wrd key i from wds_get key hi)
  have HWL := Lib.hid (wds_length key)
  have HWS := Lib.hid (fun n => show wds key (n + 1) = wds key n ++ [wrd key n] from rfl)
  have HW0 : Hid (wds key 0 = []) := Lib.hid rfl
  obtain ⟨WF, hWF⟩ : ∃ f, wds key = f := ⟨_, rfl⟩
  have HFL := Lib.hid (wrd_len key hl)
  have HFO := Lib.hid (wrd_low key)
  have HFH := Lib.hid (wrd_high key)
  have hrc0 : ((rc 0).toNat : Int) = 1 := rfl
  have HRC0 := Lib.hid hrc0
  obtain ⟨wf, hwf⟩ : ∃ f, wrd key = f := ⟨_, rfl⟩
  simp only [hWF] at HWG HWL HWS HW0
  simp only [hwf] at HWG HWS HFL HFO HFH
  rw [show wds key 60 = WF 60 by rw [hWF]]
  rw [hl] at hc
  have HKL := Lib.hid hl
  have hm' : c ≤ 9223372036854775807 := by unfold maxLen at hm; omega
  have hbm' : bc ≤ 9223372036854775807 := by unfold maxLen at hbm; omega
  rw [hl]
  clear hWF hwf hrc0 hbx hk hcell hbcell hl hm hbm
  go_enter Try.func53, Try.ntmps53
  go_wp2_with fail
  go_loopw [5, 6] (fun v i wr => ∃ n : Nat, n ≤ 8 ∧ i = .int .i64 (n : Int) ∧ Hid (OwR wr w.heap.size v (WF n)) ∧ Hid (Ext No w wr)) (fun _ i _ => 8 - (intOf i).toNat)
  case atStart => exact ⟨0, by omega, rfl, Lib.hid (by rw [HW0.out]; exact OwR.nil _ _), Lib.hid (Ext.refl _ _)⟩
  case round =>
    obtain ⟨n, hn, rfl, HR, HX⟩ := hrel
    obtain ⟨vA, vc, rfl, hvc, hvm⟩ := HR.out.slice
    rw [HWL.out] at hvc HR ⊢
    by_cases hlt : n < 8
    · have HBS : Hid (Bs wr (FB wr w.heap.size) (.slice (some ⟨b, off + 4 * n, none⟩) 4 (c - 4 * n)) (wf n)) := Lib.hid (by
        have := (HK.out.ext_no HX.out).sub (i := 4 * n) (j := 4 * n + 4) (by omega) (by rw [HKL.out]; omega) (m := 4) (c' := c - 4 * n) (by omega) (by omega) (by have := HM.out; omega)
        rw [HFO.out n hlt]
        rw [List.drop_take, show 4 * n + 4 - 4 * n = 4 by omega] at this
        exact this.mono fun b hb => .inl hb)
      clear hvm
      go_wp2_with ((with_reducible show wpList _ _ _ (⟨some 23, _, _, _, _, _⟩ :: _) _ _); go_must (refine app_row (.tmp 14) (.tmp 22) rfl rfl w.heap.size (.slice vA n vc) (.slice (some ⟨b, off + 4 * n, none⟩) 4 (c - 4 * n)) wr.heap.size (WF n) (wf n) rfl rfl (HR.out.no ((Ext.refl No wr).alloc _)) (Blk.new wr _ _) ((HBS.out.ext_no ((Ext.refl No wr).alloc _)).mono (fun b hb => hb.no ((Ext.refl No wr).alloc _))) (by rw [HWL.out]; omega) (by have := HX.out.size; simp; omega) ?_); intro v2 w2 hr2 hg2; have HR2 : Hid (OwR w2 w.heap.size v2 (WF (n + 1))) := Lib.hid (by rw [HWS.out]; exact hr2); have HX2 : Hid (Ext No w w2) := Lib.hid ((HX.out.alloc _).grown hg2 (fun j hj hl => absurd hl (by have := (HR.out.lt j hj).1; omega))); clear hr2 hg2)
      go_roundw
      case rel => exact ⟨n + 1, by omega, by go_num, HR2, HX2⟩
      case measure => simp [intOf]; omega
    · obtain rfl : n = 8 := by omega
      go_wp2_with fail
      rw [show ((8 : Nat) : Int) = 8 from rfl]
      go_loopw [5, 7, 8] (fun v r i wr => ∃ n : Nat, 8 ≤ n ∧ n ≤ 60 ∧ i = .int .i64 (n : Int) ∧ r = .int .u8 ((rc ((n + 7) / 8 - 1)).toNat : Int) ∧ Hid (OwR wr w.heap.size v (WF n)) ∧ Hid (Ext No w wr)) (fun _ _ i _ => 60 - (intOf i).toNat)
      case atStart => exact ⟨8, by omega, by omega, rfl, by rw [show (8 + 7) / 8 - 1 = 0 from rfl, HRC0.out], HR, HX⟩
      case round =>
        clear HR HX
        obtain ⟨n, hn8, hn, rfl, rfl, HR, HX⟩ := hrel
        by_cases hlt : n < 60
        · obtain ⟨n1, hn1⟩ : ∃ x, n - 1 = x := ⟨_, rfl⟩
          obtain ⟨n8, hn8'⟩ : ∃ x, n - 8 = x := ⟨_, rfl⟩
          have hw := HFH.out n (by omega)
          rw [hn1, hn8'] at hw
          have hx := HFL.out n1
          have hy := HFL.out n8
          obtain ⟨g, c5, A1, c1, hv, e1, hb1⟩ := HR.out.at_ (i := n1) (by rw [HWL.out]; omega)
          obtain ⟨g', c5', A8, c8, hv', e8, hb8⟩ := HR.out.at_ (i := n8) (by rw [HWL.out]; omega)
          rw [hv] at hv'
          injection hv' with q1 q2 q3
          injection q1 with q1
          injection q1 with q1
          subst q1 q3
          have g1 : (WF n)[n1]'(by rw [HWL.out]; omega) = wf n1 := by
            have := HWG.out n n1 (by omega)
            rwa [List.getD_eq_getElem?_getD, List.getElem?_eq_getElem (by rw [HWL.out]; omega)] at this
          have g8 : (WF n)[n8]'(by rw [HWL.out]; omega) = wf n8 := by
            have := HWG.out n n8 (by omega)
            rwa [List.getD_eq_getElem?_getD, List.getElem?_eq_getElem (by rw [HWL.out]; omega)] at this
          rw [g1] at e1 hb1
          rw [g8] at e8 hb8
          rw [HWL.out] at hv
          subst hv
          have HNW0 : Hid (WF (n + 1) = WF n ++ [wf n]) := HWS.out n |> Lib.hid
          obtain ⟨X, hX⟩ : ∃ X, wf n1 = X := ⟨_, rfl⟩
          obtain ⟨Y, hY⟩ : ∃ Y, wf n8 = Y := ⟨_, rfl⟩
          obtain ⟨N, hN⟩ : ∃ N, wf n = N := ⟨_, rfl⟩
          rw [hX] at hx hw e1 hb1
          rw [hY] at hy hw e8 hb8
          rw [hN] at hw
          have HNW := Lib.hid hN
          rw [hy] at e8 hb8
          rw [hx] at e1 hb1
          obtain ⟨T, hT⟩ : ∃ T, tw n X = T := ⟨_, rfl⟩
          rw [hT] at hw
          have HNE := Lib.hid hw
          have HTE := Lib.hid hT
          have HYL := Lib.hid hy
          have HY := Lib.hid hb8.any
          have HX1' := Lib.hid hb1.any
          have r1 : (n : Int) - 1 = (n1 : Int) := by omega
          have r8 : (n : Int) - 8 = (n8 : Int) := by omega
          have hn1l : n1 < n := by omega
          have hn8l : n8 < n := by omega
          have HNS := Lib.hid (And.intro hn1 hn8')
          obtain ⟨r, hr⟩ : ∃ r, rc ((n + 7) / 8 - 1) = r := ⟨_, rfl⟩
          obtain ⟨hc5⟩ : n ≤ c5 ∧ True := by
            obtain ⟨_, _, ev, hle, _⟩ := HR.out.slice
            injection ev with _ _ ev3
            rw [HWL.out] at hle
            exact ⟨by omega, trivial⟩
          obtain ⟨x0, x1, x2, x3, rfl⟩ := four hx
          obtain ⟨XA, Xc, hXe, -, -, xb, xo, hxc⟩ := hb1.any.slice
          injection hXe with q1 _ q3
          subst q1 q3
          have c0 : wr.drew.cell? ⟨xb, xo, none⟩ = some (.int .u8 (x0.toNat : Int)) := (hxc 0 (by simp)).2.2.2
          have c1' : wr.drew.cell? ⟨xb, xo + 1, none⟩ = some (.int .u8 (x1.toNat : Int)) := (hxc 1 (by simp)).2.2.2
          have c2' : wr.drew.cell? ⟨xb, xo + 2, none⟩ = some (.int .u8 (x2.toNat : Int)) := (hxc 2 (by simp)).2.2.2
          have c3' : wr.drew.cell? ⟨xb, xo + 3, none⟩ = some (.int .u8 (x3.toNat : Int)) := (hxc 3 (by simp)).2.2.2
          obtain rfl := (hxc 0 (by simp)).1
          have u0 : (x0.toNat : Int) < 256 := by have := x0.toNat_lt; omega
          have u1 : (x1.toNat : Int) < 256 := by have := x1.toNat_lt; omega
          have u2 : (x2.toNat : Int) < 256 := by have := x2.toNat_lt; omega
          have u3 : (x3.toNat : Int) < 256 := by have := x3.toNat_lt; omega
          clear hw hX hY hN hT hx hy hb1 hb8 hn1 hn8' g1 g8 hxc
          by_cases h0 : n % 8 = 0
          · have t0 : ((n : Int) % 8 == 0) = true := by simp; omega
            have t4 : ((n : Int) % 8 == 4) = false := by simp; omega
            have hq : (n + 7) / 8 - 1 = n / 8 - 1 := by omega
            have HRR : Hid (rc ((n + 1 + 7) / 8 - 1) = db r) := Lib.hid (by rw [← hr, hq, show (n + 1 + 7) / 8 - 1 = (n / 8 - 1) + 1 by omega]; rfl)
            have HTX : Hid (T = [bx x1 ^^^ r, bx x2, bx x3, bx x0]) := Lib.hid (by rw [← HTE.out]; unfold tw; rw [if_pos h0, ← hr, hq]; rfl)
            have HTL : Hid (T.length = 4) := Lib.hid (by rw [HTX.out]; rfl)
            have d0 : wr.drew.cell? ⟨bb, bo + x0.toNat, none⟩ = _ := HBX.out wr HX.out x0
            have d1 : wr.drew.cell? ⟨bb, bo + x1.toNat, none⟩ = _ := HBX.out wr HX.out x1
            have d2 : wr.drew.cell? ⟨bb, bo + x2.toNat, none⟩ = _ := HBX.out wr HX.out x2
            have d3 : wr.drew.cell? ⟨bb, bo + x3.toNat, none⟩ = _ := HBX.out wr HX.out x3
            have xx := xor_u8 (bx x1) r
            have HDB := Lib.hid (fun wx => rTimes_two r wx)
            rw [hr]
            obtain ⟨d, hd⟩ : ∃ d, db r = d := ⟨_, rfl⟩
            rw [hd] at HDB HRR
            clear hr hq hd
            obtain ⟨y0, hy0⟩ : ∃ y, bx x0 = y := ⟨_, rfl⟩
            obtain ⟨y1, hy1⟩ : ∃ y, bx x1 = y := ⟨_, rfl⟩
            obtain ⟨y2, hy2⟩ : ∃ y, bx x2 = y := ⟨_, rfl⟩
            obtain ⟨y3, hy3⟩ : ∃ y, bx x3 = y := ⟨_, rfl⟩
            rw [hy0] at d0 HTX
            rw [hy1] at d1 HTX xx
            rw [hy2] at d2 HTX
            rw [hy3] at d3 HTX
            obtain ⟨z1, hz1⟩ : ∃ z, y1 ^^^ r = z := ⟨_, rfl⟩
            rw [hz1] at xx HTX
            clear hy0 hy1 hy2 hy3 hz1
            have HXD := Lib.hid HX.out.drew
            have e8d : wr.drew.cell? ⟨g, n8, none⟩ = some (.slice A8 4 c8) := e8
            clear e8
            have H5D := Lib.hid (show OwR wr.drew w.heap.size (.slice (some ⟨g, 0, none⟩) n c5) (WF n) from HR.out)
            have HYD := Lib.hid (show Bs wr.drew Any (.slice A8 4 c8) Y from HY.out)
            go_wp2_with fail
            go_still_tail 26, (by kernel_rfl)
            change wpList _ _ _ _ _ wr.drew
            generalize wr.drew = w1 at *
            have HT1 : Hid (Bs (w1.alloc (.cells #[.int .u8 (z1.toNat : Int), .int .u8 (y2.toNat : Int), .int .u8 (y3.toNat : Int), .int .u8 (y0.toNat : Int)] 5)) Any (.slice (some ⟨w1.heap.size, 0, none⟩) 4 4) T) := Lib.hid (by rw [HTX.out]; exact lit4 w1 z1 y2 y3 y0 rfl)
            have HX1 := Lib.hid (HXD.out.alloc (.cells #[.int .u8 (z1.toNat : Int), .int .u8 (y2.toNat : Int), .int .u8 (y3.toNat : Int), .int .u8 (y0.toNat : Int)] 5))
            have H51 := Lib.hid (H5D.out.no ((Ext.refl No w1).alloc (.cells #[.int .u8 (z1.toNat : Int), .int .u8 (y2.toNat : Int), .int .u8 (y3.toNat : Int), .int .u8 (y0.toNat : Int)] 5)))
            have HY1 := Lib.hid (HYD.out.ext_no ((Ext.refl No w1).alloc (.cells #[.int .u8 (z1.toNat : Int), .int .u8 (y2.toNat : Int), .int .u8 (y3.toNat : Int), .int .u8 (y0.toNat : Int)] 5)))
            have e81 : (w1.alloc (.cells #[.int .u8 (z1.toNat : Int), .int .u8 (y2.toNat : Int), .int .u8 (y3.toNat : Int), .int .u8 (y0.toNat : Int)] 5)).cell? ⟨g, n8, none⟩ = some (.slice A8 4 c8) := (Below.cell (Ext.below ((Ext.refl No w1).alloc _)) (World.block_lt_of_cell? w1 _ e8d)).trans e8d
            clear e8d d0 d1 d2 d3 xx c0 c1' c2' c3' u0 u1 u2 u3 e1
            go_wp2_with (go_at_call 92; go_must (generalize w1.alloc (.cells #[.int .u8 (z1.toNat : Int), .int .u8 (y2.toNat : Int), .int .u8 (y3.toNat : Int), .int .u8 (y0.toNat : Int)] 5) = wz at *; refine (HDB.out wz).mono ?_; rintro e6 w6 ⟨rfl, k6, rfl⟩; have HT2 := Lib.hid (HT1.out.drewN k6); have HX2 := Lib.hid (HX1.out.drewN k6); have H5 : Hid (OwR (wz.drewN k6) w.heap.size (.slice (some ⟨g, 0, none⟩) n c5) (WF n)) := Lib.hid H51.out; have HY2 := Lib.hid (HY1.out.drewN k6); have e82 : (wz.drewN k6).cell? ⟨g, n8, none⟩ = some (.slice A8 4 c8) := e81; have HBO := Lib.hid (rBoth_any (.slice A8 4 c8) (.slice (some ⟨w1.heap.size, 0, none⟩) 4 4) Y T (wz.drewN k6) HY2.out HT2.out (by rw [HYL.out, HTL.out]) (by rw [HYL.out]; omega)); rw [← HNE.out] at HBO; clear e81 HT1 HX1 H51 HY1))
            refine HBO.out.mono ?_
            rintro e8 w8 ⟨v8, rfl, ho8, hx8⟩
            obtain ⟨A9, c9, rfl, _⟩ := ho8.slice
            have HNL : Hid (N.length = 4) := Lib.hid (by rw [← HNW.out]; exact HFL.out n)
            rw [HNL.out] at ho8 ⊢
            have HO8 := Lib.hid ho8
            have H58 := Lib.hid (H5.out.no hx8)
            have HX8 := Lib.hid (HX2.out.trans hx8)
            clear ho8 hx8 HBO
            go_wp2_with ((with_reducible show wpList _ _ _ (⟨some 102, _, _, _, _, _⟩ :: _) _ _); go_must (refine app_row (.tmp 93) (.tmp 101) rfl rfl w.heap.size (.slice (some ⟨g, 0, none⟩) n c5) (.slice A9 4 c9) w8.heap.size (WF n) N rfl rfl (H58.out.no ((Ext.refl No w8).alloc _)) (Blk.new w8 _ _) ((HO8.out.bs.ext_no ((Ext.refl No w8).alloc _)).mono (fun b hb => .inr (by obtain ⟨_, _, cs, hh⟩ := hb; exact ⟨cs, hh.alloc _⟩))) (by rw [HWL.out]; omega) (by have := HX8.out.size; simp; omega) ?_); intro v9 w9 hr9 hg9; have HR9 : Hid (OwR w9 w.heap.size v9 (WF (n + 1))) := Lib.hid (by rw [HNW0.out, HNW.out]; exact hr9); have HX9 : Hid (Ext No w w9) := Lib.hid ((HX8.out.alloc _).grown hg9 (fun j hj hl => absurd hl (by have := (H58.out.lt j hj).1; omega))); clear hr9 hg9)
            go_roundw
            case rel => exact ⟨n + 1, by omega, by omega, by go_num, by rw [HRR.out], HR9, HX9⟩
            case measure => simp [intOf]; omega
          · have hrr : rc ((n + 1 + 7) / 8 - 1) = r := by rw [← hr, show (n + 1 + 7) / 8 - 1 = (n + 7) / 8 - 1 by omega]
            have HRR := Lib.hid hrr
            rw [hr]
            clear hr hrr
            have t0 : ((n : Int) % 8 == 0) = false := by simp; omega
            by_cases h4 : n % 8 = 4
            · have t4 : ((n : Int) % 8 == 4) = true := by simp; omega
              have HTX : Hid (T = [bx x0, bx x1, bx x2, bx x3]) := Lib.hid (by rw [← HTE.out]; unfold tw; rw [if_neg h0, if_pos h4]; rfl)
              have HTL : Hid (T.length = 4) := Lib.hid (by rw [HTX.out]; rfl)
              have d0 : wr.drew.cell? ⟨bb, bo + x0.toNat, none⟩ = _ := HBX.out wr HX.out x0
              have d1 : wr.drew.cell? ⟨bb, bo + x1.toNat, none⟩ = _ := HBX.out wr HX.out x1
              have d2 : wr.drew.cell? ⟨bb, bo + x2.toNat, none⟩ = _ := HBX.out wr HX.out x2
              have d3 : wr.drew.cell? ⟨bb, bo + x3.toNat, none⟩ = _ := HBX.out wr HX.out x3
              obtain ⟨y0, hy0⟩ : ∃ y, bx x0 = y := ⟨_, rfl⟩
              obtain ⟨y1, hy1⟩ : ∃ y, bx x1 = y := ⟨_, rfl⟩
              obtain ⟨y2, hy2⟩ : ∃ y, bx x2 = y := ⟨_, rfl⟩
              obtain ⟨y3, hy3⟩ : ∃ y, bx x3 = y := ⟨_, rfl⟩
              rw [hy0] at d0 HTX
              rw [hy1] at d1 HTX
              rw [hy2] at d2 HTX
              rw [hy3] at d3 HTX
              clear hy0 hy1 hy2 hy3
              have HXD := Lib.hid HX.out.drew
              have e8d : wr.drew.cell? ⟨g, n8, none⟩ = some (.slice A8 4 c8) := e8
              clear e8
              have H5D := Lib.hid (show OwR wr.drew w.heap.size (.slice (some ⟨g, 0, none⟩) n c5) (WF n) from HR.out)
              have HYD := Lib.hid (show Bs wr.drew Any (.slice A8 4 c8) Y from HY.out)
              go_wp2_with fail
              go_still_tail 24, (by kernel_rfl)
              change wpList _ _ _ _ _ wr.drew
              generalize wr.drew = w1 at *
              have HT2 : Hid (Bs (w1.alloc (.cells #[.int .u8 (y0.toNat : Int), .int .u8 (y1.toNat : Int), .int .u8 (y2.toNat : Int), .int .u8 (y3.toNat : Int)] 5)) Any (.slice (some ⟨w1.heap.size, 0, none⟩) 4 4) T) := Lib.hid (by rw [HTX.out]; exact lit4 w1 y0 y1 y2 y3 rfl)
              have HX2 := Lib.hid (HXD.out.alloc (.cells #[.int .u8 (y0.toNat : Int), .int .u8 (y1.toNat : Int), .int .u8 (y2.toNat : Int), .int .u8 (y3.toNat : Int)] 5))
              have H5 := Lib.hid (H5D.out.no ((Ext.refl No w1).alloc (.cells #[.int .u8 (y0.toNat : Int), .int .u8 (y1.toNat : Int), .int .u8 (y2.toNat : Int), .int .u8 (y3.toNat : Int)] 5)))
              have HY2 := Lib.hid (HYD.out.ext_no ((Ext.refl No w1).alloc (.cells #[.int .u8 (y0.toNat : Int), .int .u8 (y1.toNat : Int), .int .u8 (y2.toNat : Int), .int .u8 (y3.toNat : Int)] 5)))
              have e81 : (w1.alloc (.cells #[.int .u8 (y0.toNat : Int), .int .u8 (y1.toNat : Int), .int .u8 (y2.toNat : Int), .int .u8 (y3.toNat : Int)] 5)).cell? ⟨g, n8, none⟩ = some (.slice A8 4 c8) := (Below.cell (Ext.below ((Ext.refl No w1).alloc _)) (World.block_lt_of_cell? w1 _ e8d)).trans e8d
              clear e8d d0 d1 d2 d3 c0 c1' c2' c3' u0 u1 u2 u3 e1
              have HBO := Lib.hid (rBoth_any (.slice A8 4 c8) (.slice (some ⟨w1.heap.size, 0, none⟩) 4 4) Y T _ HY2.out HT2.out (by rw [HYL.out, HTL.out]) (by rw [HYL.out]; omega))
              rw [← HNE.out] at HBO
              go_wp2_with fail
              generalize w1.alloc (.cells #[.int .u8 (y0.toNat : Int), .int .u8 (y1.toNat : Int), .int .u8 (y2.toNat : Int), .int .u8 (y3.toNat : Int)] 5) = wz at *
              refine HBO.out.mono ?_
              rintro e8 w8 ⟨v8, rfl, ho8, hx8⟩
              obtain ⟨A9, c9, rfl, _⟩ := ho8.slice
              have HNL : Hid (N.length = 4) := Lib.hid (by rw [← HNW.out]; exact HFL.out n)
              rw [HNL.out] at ho8 ⊢
              have HO8 := Lib.hid ho8
              have H58 := Lib.hid (H5.out.no hx8)
              have HX8 := Lib.hid (HX2.out.trans hx8)
              clear ho8 hx8 HBO
              go_wp2_with ((with_reducible show wpList _ _ _ (⟨some 102, _, _, _, _, _⟩ :: _) _ _); go_must (refine app_row (.tmp 93) (.tmp 101) rfl rfl w.heap.size (.slice (some ⟨g, 0, none⟩) n c5) (.slice A9 4 c9) w8.heap.size (WF n) N rfl rfl (H58.out.no ((Ext.refl No w8).alloc _)) (Blk.new w8 _ _) ((HO8.out.bs.ext_no ((Ext.refl No w8).alloc _)).mono (fun b hb => .inr (by obtain ⟨_, _, cs, hh⟩ := hb; exact ⟨cs, hh.alloc _⟩))) (by rw [HWL.out]; omega) (by have := HX8.out.size; simp; omega) ?_); intro v9 w9 hr9 hg9; have HR9 : Hid (OwR w9 w.heap.size v9 (WF (n + 1))) := Lib.hid (by rw [HNW0.out, HNW.out]; exact hr9); have HX9 : Hid (Ext No w w9) := Lib.hid ((HX8.out.alloc _).grown hg9 (fun j hj hl => absurd hl (by have := (H58.out.lt j hj).1; omega))); clear hr9 hg9)
              go_roundw
              case rel => exact ⟨n + 1, by omega, by omega, by go_num, by rw [HRR.out], HR9, HX9⟩
              case measure => simp [intOf]; omega
            · have t4 : ((n : Int) % 8 == 4) = false := by simp; omega
              have HTX : Hid (T = [x0, x1, x2, x3]) := Lib.hid (by rw [← HTE.out]; unfold tw; rw [if_neg h0, if_neg h4])
              have HTL : Hid (T.length = 4) := Lib.hid (by rw [HTX.out]; rfl)
              have HX2 := HX
              have H5 : Hid (OwR wr w.heap.size (.slice (some ⟨g, 0, none⟩) n c5) (WF n)) := HR
              have HT2 : Hid (Bs wr Any (.slice (some ⟨xb, xo, none⟩) 4 c1) T) := Lib.hid (by rw [HTX.out]; exact HX1'.out)
              have HBO := Lib.hid (rBoth_any (.slice A8 4 c8) (.slice (some ⟨xb, xo, none⟩) 4 c1) Y T wr HY.out HT2.out (by rw [HYL.out, HTL.out]) (by rw [HYL.out]; omega))
              rw [← HNE.out] at HBO
              clear c0 c1' c2' c3' u0 u1 u2 u3
              go_wp2_with fail
              refine HBO.out.mono ?_
              rintro e8 w8 ⟨v8, rfl, ho8, hx8⟩
              obtain ⟨A9, c9, rfl, _⟩ := ho8.slice
              have HNL : Hid (N.length = 4) := Lib.hid (by rw [← HNW.out]; exact HFL.out n)
              rw [HNL.out] at ho8 ⊢
              have HO8 := Lib.hid ho8
              have H58 := Lib.hid (H5.out.no hx8)
              have HX8 := Lib.hid (HX2.out.trans hx8)
              clear ho8 hx8 HBO
              go_wp2_with ((with_reducible show wpList _ _ _ (⟨some 102, _, _, _, _, _⟩ :: _) _ _); go_must (refine app_row (.tmp 93) (.tmp 101) rfl rfl w.heap.size (.slice (some ⟨g, 0, none⟩) n c5) (.slice A9 4 c9) w8.heap.size (WF n) N rfl rfl (H58.out.no ((Ext.refl No w8).alloc _)) (Blk.new w8 _ _) ((HO8.out.bs.ext_no ((Ext.refl No w8).alloc _)).mono (fun b hb => .inr (by obtain ⟨_, _, cs, hh⟩ := hb; exact ⟨cs, hh.alloc _⟩))) (by rw [HWL.out]; omega) (by have := HX8.out.size; simp; omega) ?_); intro v9 w9 hr9 hg9; have HR9 : Hid (OwR w9 w.heap.size v9 (WF (n + 1))) := Lib.hid (by rw [HNW0.out, HNW.out]; exact hr9); have HX9 : Hid (Ext No w w9) := Lib.hid ((HX8.out.alloc _).grown hg9 (fun j hj hl => absurd hl (by have := (H58.out.lt j hj).1; omega))); clear hr9 hg9)
              go_roundw
              case rel => exact ⟨n + 1, by omega, by omega, by go_num, by rw [HRR.out], HR9, HX9⟩
              case measure => simp [intOf]; omega
        · obtain rfl : n = 60 := by omega
          obtain ⟨vA5, vc5, rfl, -⟩ := HR.out.slice
          go_wp2_with fail
          go_ret
          exact ⟨_, rfl, HR.out.parts, HX.out⟩
end Go.Proofs.Ytljddghamgjfbaa
