/- Chapter 4's reference: a block, sealed, is what package aes seals. Plain Lean over the printed functions; no condition. -/
import Derived.Test.YtljddghamgjfbaaAesNew
import Derived.Test.YtljddghamgjfbaaAesRef
import Derived.Test.YtljddghamgjfbaaPBridge
import Derived.Test.YtljddghamgjfbaaPAesBlocksx4
set_option linter.unusedVariables false
set_option linter.unusedSimpArgs false
namespace Go.Proofs.Ytljddghamgjfbaa
open Go.RowKit Go.Proofs.YtljddghamgjfbaaW.PrintWords Go.Proofs.YtljddghamgjfbaaW.PrintLast Go.Proofs.YtljddghamgjfbaaW.PrintMore PAesBlocks Ae
namespace Ar

/-- A loop that appends so much in each round. -/
theorem appl {F : Nat → List Int → Int → Option (List Int)} {R : Nat → List Int → Option (List Int)} (N c a0 K0 : Nat) (g : Nat → List Int) (hg : ∀ i, i < N → (g i).length ≤ c)
    (hst : ∀ k acc i, K0 ≤ k → i < N → acc.length ≤ c * i + a0 → F (k + 1) acc (i : Int) = F k (acc ++ g i) ((i + 1 : Nat) : Int))
    (hend : ∀ k acc, K0 ≤ k → F (k + 1) acc (N : Int) = R k acc) : ∀ n i m acc, i + n = N → K0 ≤ m → acc.length ≤ c * i + a0 → F (n + 1 + m) acc (i : Int) = R m (acc ++ (List.range' i n).flatMap g)
  | 0, i, m, acc, hi, hm, ha => by
    obtain rfl : i = N := by omega
    rw [show 0 + 1 + m = m + 1 by omega, hend m acc hm]
    simp
  | n + 1, i, m, acc, hi, hm, ha => by
    have hc := hg i (by omega)
    rw [show n + 1 + 1 + m = (n + 1 + m) + 1 by omega, hst _ _ _ (by omega) (by omega) ha, appl N c a0 K0 g hg hst hend n (i + 1) m _ (by omega) hm (by rw [List.length_append, Nat.mul_add]; omega), List.range'_succ, List.flatMap_cons, List.append_assoc]
theorem rd_g (l : List UInt8) (k : Nat) (h : k < l.length) : rd (i8 l) (k : Int) = ((l.getD k 0).toNat : Int) := by
  rw [rd_i8 h, List.getD_eq_getElem?_getD, List.getElem?_eq_getElem h]; rfl
theorem xor_i (a b : UInt8) : Go.bits .xor .u8 (a.toNat : Int) (b.toNat : Int) = ((a ^^^ b).toNat : Int) := by
  rw [u8_xor_nat _ _ a.toNat_lt b.toNat_lt, UInt8.toNat_xor]
theorem flat_one (f : Nat → UInt8) (l : List Nat) : (l.flatMap fun i => [((f i).toNat : Int)]) = i8 (l.map f) := by
  induction l with
  | nil => rfl
  | cons a l ih => rw [List.flatMap_cons, ih]; rfl
theorem xr_range (a b : List UInt8) (h : a.length = b.length) : xr a b = (List.range a.length).map fun i => a.getD i 0 ^^^ b.getD i 0 := by
  apply List.ext_getElem?
  intro i
  unfold xr
  rw [List.getElem?_zipWith, List.getElem?_map]
  by_cases hi : i < a.length
  · have e1 : a.getD i 0 = a[i] := by rw [List.getD_eq_getElem?_getD, List.getElem?_eq_getElem hi]; rfl
    have e2 : b.getD i 0 = b[i]'(by omega) := by rw [List.getD_eq_getElem?_getD, List.getElem?_eq_getElem (by omega)]; rfl
    rw [List.getElem?_range hi, List.getElem?_eq_getElem hi, List.getElem?_eq_getElem (l := b) (by omega), Option.map_some, e1, e2]
  · rw [List.getElem?_eq_none (l := a) (by omega), List.getElem?_eq_none (l := List.range a.length) (by simp; omega)]
    rfl
theorem both_f (a b : List UInt8) (h : a.length = b.length) (hs : a.length ≤ 1000) (k : Nat) (hk : a.length + 1 ≤ k) : deedboxref04_both.f k (i8 a) (i8 b) = some (i8 (xr a b)) := by
  obtain ⟨m, rfl⟩ : ∃ m, k = a.length + 1 + m := ⟨k - (a.length + 1), by omega⟩
  unfold deedboxref04_both.f
  have := appl (F := fun k acc i => deedboxref04_both.l0 k (i8 a) (i8 b) acc i) (R := fun _ acc => some acc) a.length 1 0 0 (fun i => [((a.getD i 0 ^^^ b.getD i 0).toNat : Int)]) (fun _ _ => Nat.le_refl _)
    (fun k acc i _ hi ha => by
      show deedboxref04_both.l0 (k + 1) _ _ _ _ = _
      simp only [deedboxref04_both.l0]
      rw [if_pos (by rw [i8_length]; omega), if_pos (by omega), if_pos (by rw [i8_length]; omega), if_pos (by omega), rd_g a i hi, rd_g b i (by omega), xor_i, w1 (by omega)])
    (fun k acc _ => by
      show deedboxref04_both.l0 (k + 1) _ _ _ _ = _
      simp only [deedboxref04_both.l0]
      rw [if_neg (by rw [i8_length]; omega)]) a.length 0 m [] (by omega) (by omega) (by simp)
  rw [show ((0 : Nat) : Int) = 0 from rfl] at this
  rw [this, List.nil_append, flat_one, ← List.range_eq_range', ← xr_range a b h]
theorem xr_zero (a : List UInt8) : True := trivial
/-! ### The boxes of all bytes -/
def bxs : List UInt8 := (List.range 256).map fun c => UInt8.ofNat (bxN c)
theorem bxs_length : bxs.length = 256 := by unfold bxs; rw [List.length_map, List.length_range]
theorem bxs_get (c : UInt8) : bxs.getD c.toNat 0 = bx c := by
  unfold bxs
  rw [List.getD_eq_getElem?_getD, List.getElem?_map, List.getElem?_range c.toNat_lt]
  rfl
theorem box_k (c k : Nat) (hc : c < 256) (hk : 300 ≤ k) : deedboxref04_Box.f k (c : Int) = some (bxN c : Int) := at_rounds (fun k => deedboxref04_Box.mono _ k) hk (box_f c hc)
theorem boxes_f (k : Nat) (hk : 600 ≤ k) : deedboxref04_Boxes.f k = some (i8 bxs) := by
  obtain ⟨m, rfl⟩ : ∃ m, k = 256 + 1 + m := ⟨k - 257, by omega⟩
  unfold deedboxref04_Boxes.f
  have := appl (F := fun k acc i => deedboxref04_Boxes.l0 k acc i) (R := fun _ acc => some acc) 256 1 0 300 (fun i => [((UInt8.ofNat (bxN i)).toNat : Int)]) (fun _ _ => Nat.le_refl _)
    (fun k acc i hk hi ha => by
      show deedboxref04_Boxes.l0 (k + 1) _ _ = _
      simp only [deedboxref04_Boxes.l0]
      rw [if_pos (by omega), show ((i : Int) % 256) = (i : Int) by omega, box_k i k hi hk, Option.bind_some, if_pos (by omega), toNat_of (bx_lt i hi), w1 (by omega)])
    (fun k acc _ => by
      show deedboxref04_Boxes.l0 (k + 1) _ _ = _
      simp only [deedboxref04_Boxes.l0]
      rw [if_neg (by omega)]) 256 0 m [] (by omega) (by omega) (by simp)
  rw [show ((0 : Nat) : Int) = 0 from rfl] at this
  rw [this, List.nil_append, flat_one, ← List.range_eq_range']
  rfl
/-! ### A block's rows, moved -/
theorem sw (a b : Nat) (ha : a < 100000) (hb : b < 100000) : wrap64 ((a : Int) + (b : Int)) = ((a + b : Nat) : Int) := by unfold wrap64; omega
theorem m4 (a : Nat) (ha : a < 100000) : wrap64 (4 * (a : Int)) = ((4 * a : Nat) : Int) := by unfold wrap64; omega
theorem t4 (a : Nat) : Int.tmod (a : Int) 4 = ((a % 4 : Nat) : Int) := by rw [Int.tmod_eq_emod_of_nonneg (by omega)]; omega
theorem sk (a : Nat) (b : Nat) (z : Int) (hz : z = (b : Int)) (ha : a < 100000) (hb : b < 100000) : wrap64 ((a : Int) + z) = ((a + b : Nat) : Int) := by rw [hz]; exact sw a b ha hb
theorem shift_l1 (b : List UInt8) (hb : b.length = 16) (c : Nat) (hc : c < 4) (m : Nat) (acc : List Int) (ha : acc.length ≤ 1000) :
    deedboxref04_shifted.l1 (4 + 1 + m) (i8 bxs) (i8 b) acc (c : Int) 0 = deedboxref04_shifted.l0 m (i8 bxs) (i8 b) (acc ++ i8 ((List.range' 0 4).map fun r => bx (b.getD (4 * ((c + r) % 4) + r) 0))) ((c + 1 : Nat) : Int) := by
  have := appl (F := fun k acc i => deedboxref04_shifted.l1 k (i8 bxs) (i8 b) acc (c : Int) i) (R := fun k acc => deedboxref04_shifted.l0 k (i8 bxs) (i8 b) acc ((c + 1 : Nat) : Int)) 4 1 1000 0 (fun r => [((bx (b.getD (4 * ((c + r) % 4) + r) 0)).toNat : Int)]) (fun _ _ => Nat.le_refl _)
    (fun k acc r _ hr ha => by
      show deedboxref04_shifted.l1 (k + 1) _ _ _ _ _ = _
      simp only [deedboxref04_shifted.l1]
      have hidx : wrap64 (wrap64 (4 * Int.tmod (wrap64 ((c : Int) + (r : Int))) 4) + (r : Int)) = ((4 * ((c + r) % 4) + r : Nat) : Int) := by
        rw [sw c r (by omega) (by omega), t4, m4 _ (by omega), sw _ _ (by omega) (by omega)]
      have hlt : 4 * ((c + r) % 4) + r < b.length := by omega
      rw [hidx, rd_g b _ hlt]
      obtain ⟨x, hx⟩ : ∃ x, b.getD (4 * ((c + r) % 4) + r) 0 = x := ⟨_, rfl⟩
      rw [hx]
      have hxl := x.toNat_lt
      rw [if_pos (by omega), if_pos (by omega), if_pos (by rw [i8_length]; omega), if_pos (by omega), if_pos (by rw [i8_length, bxs_length]; omega), if_pos (by omega), rd_g bxs x.toNat (by rw [bxs_length]; omega), bxs_get, w1 (by omega)])
    (fun k acc _ => by
      show deedboxref04_shifted.l1 (k + 1) _ _ _ _ _ = _
      simp only [deedboxref04_shifted.l1]
      rw [if_neg (by omega), w1 (by omega)]) 4 0 m acc (by omega) (by omega) (by omega)
  rw [show ((0 : Nat) : Int) = 0 from rfl] at this
  rw [this, flat_one]
theorem outer4 {F : Nat → List Int → Int → Option (List Int)} (g : Nat → List Int) (hg : ∀ c, (g c).length = 4) (d K0 : Nat) (hst : ∀ c : Nat, c < 4 → ∀ m acc, K0 ≤ m → acc.length ≤ 1000 → F (m + d) acc (c : Int) = F m (acc ++ g c) ((c + 1 : Nat) : Int))
    (hend : ∀ m acc, F (m + 1) acc 4 = some acc) (m : Nat) (hm : K0 ≤ m) : F (m + 1 + d + d + d + d) [] 0 = some (g 0 ++ g 1 ++ g 2 ++ g 3) := by
  have e0 : F (m + 1 + d + d + d + d) [] 0 = F (m + 1 + d + d + d) ([] ++ g 0) 1 := hst 0 (by omega) _ _ (by omega) (by simp)
  have e1 : F (m + 1 + d + d + d) ([] ++ g 0) 1 = F (m + 1 + d + d) ([] ++ g 0 ++ g 1) 2 := hst 1 (by omega) _ _ (by omega) (by simp [hg])
  have e2 : F (m + 1 + d + d) ([] ++ g 0 ++ g 1) 2 = F (m + 1 + d) ([] ++ g 0 ++ g 1 ++ g 2) 3 := hst 2 (by omega) _ _ (by omega) (by simp [hg])
  have e3 : F (m + 1 + d) ([] ++ g 0 ++ g 1 ++ g 2) 3 = F (m + 1) ([] ++ g 0 ++ g 1 ++ g 2 ++ g 3) 4 := hst 3 (by omega) _ _ (by omega) (by simp [hg])
  rw [e0, e1, e2, e3, hend, List.nil_append]
def sg (b : List UInt8) (c : Nat) : List Int := i8 ((List.range' 0 4).map fun r => bx (b.getD (4 * ((c + r) % 4) + r) 0))
theorem gen_shf (F : Nat → UInt8) : i8 ((List.range' 0 4).map fun r => F (4 * ((0 + r) % 4) + r)) ++ i8 ((List.range' 0 4).map fun r => F (4 * ((1 + r) % 4) + r)) ++ i8 ((List.range' 0 4).map fun r => F (4 * ((2 + r) % 4) + r)) ++ i8 ((List.range' 0 4).map fun r => F (4 * ((3 + r) % 4) + r)) = i8 ((List.range 16).map fun i => F ((i + 4 * (i % 4)) % 16)) := rfl
theorem shf_four (b : List UInt8) : sg b 0 ++ sg b 1 ++ sg b 2 ++ sg b 3 = i8 (shf b) := gen_shf (fun i => bx (b.getD i 0))
theorem shift_f (b : List UInt8) (hb : b.length = 16) (k : Nat) (hk : 40 ≤ k) : deedboxref04_shifted.f k (i8 bxs) (i8 b) = some (i8 (shf b)) := by
  obtain ⟨m, rfl⟩ : ∃ m, k = m + 1 + 6 + 6 + 6 + 6 := ⟨k - 25, by omega⟩
  unfold deedboxref04_shifted.f
  rw [← shf_four]
  exact outer4 (F := fun k acc i => deedboxref04_shifted.l0 k (i8 bxs) (i8 b) acc i) (sg b) (fun c => by unfold sg; rw [i8_length]; rfl) 6 0 (fun c hc m acc _ ha => by
    show deedboxref04_shifted.l0 (m + 6) _ _ _ _ = _
    rw [show m + 6 = (4 + 1 + m) + 1 by omega]
    simp only [deedboxref04_shifted.l0]
    rw [if_pos (by omega), shift_l1 b hb c hc m acc ha]
    rfl) (fun m acc => by
    show deedboxref04_shifted.l0 (m + 1) _ _ _ _ = _
    simp only [deedboxref04_shifted.l0]
    rw [if_neg (by omega)]) m (by omega)
/-! ### Columns, mixed -/
theorem tm2 (x : Nat) (hx : x < 256) : tmN x 2 = dblN x := by
  have := allN_at (p := fun x => Nat.beq (tmN x 2) (dblN x)) (n := 256) (by decide +kernel) x hx
  simpa using this
theorem tm3 (x : Nat) (hx : x < 256) : tmN x 3 = Nat.xor (dblN x) x := by
  have := allN_at (p := fun x => Nat.beq (tmN x 3) (Nat.xor (dblN x) x)) (n := 256) (by decide +kernel) x hx
  simpa using this
theorem db_xor (a b : UInt8) : db (a ^^^ b) = db a ^^^ db b := by
  have h : ∀ x, x < 256 → ∀ y, y < 256 → dblN (Nat.xor x y) = Nat.xor (dblN x) (dblN y) := fun x hx y hy => by
    have := allN_at (p := fun x => allN (fun y => Nat.beq (dblN (Nat.xor x y)) (Nat.xor (dblN x) (dblN y))) 256) (n := 256) (by decide +kernel) x hx
    have := allN_at this y hy
    simpa using this
  apply UInt8.toNat_inj.1
  rw [db_nat, UInt8.toNat_xor, UInt8.toNat_xor, db_nat, db_nat]
  exact h a.toNat a.toNat_lt b.toNat b.toNat_lt
theorem times2 (x : UInt8) (k : Nat) (hk : 9 ≤ k) : deedboxref04_Times.f k (x.toNat : Int) 2 = some ((db x).toNat : Int) := by
  rw [show (2 : Int) = ((2 : Nat) : Int) from rfl, times_f _ 2 k x.toNat_lt (by omega) hk, tm2 _ x.toNat_lt, db_nat]
theorem times3 (x : UInt8) (k : Nat) (hk : 9 ≤ k) : deedboxref04_Times.f k (x.toNat : Int) 3 = some ((db x ^^^ x).toNat : Int) := by
  rw [show (3 : Int) = ((3 : Nat) : Int) from rfl, times_f _ 3 k x.toNat_lt (by omega) hk, tm3 _ x.toNat_lt, UInt8.toNat_xor, db_nat]
  rfl
/-- The chapter's column: four bytes about one. -/
def mc (b : List UInt8) (c r : Nat) : UInt8 := db (b.getD (4 * c + r) 0) ^^^ (db (b.getD (4 * c + (r + 1) % 4) 0) ^^^ b.getD (4 * c + (r + 1) % 4) 0) ^^^ b.getD (4 * c + (r + 2) % 4) 0 ^^^ b.getD (4 * c + (r + 3) % 4) 0
theorem ix0 (c r : Nat) (hc : c < 4) (hr : r < 4) : wrap64 (wrap64 (4 * (c : Int)) + (r : Int)) = ((4 * c + r : Nat) : Int) := by rw [m4 _ (by omega), sw _ _ (by omega) (by omega)]
theorem ix (c r d : Nat) (z : Int) (hz : z = (d : Int)) (hc : c < 4) (hr : r < 4) (hd : d < 4) : wrap64 (wrap64 (4 * (c : Int)) + Int.tmod (wrap64 ((r : Int) + z)) 4) = ((4 * c + (r + d) % 4 : Nat) : Int) := by
  rw [hz, sw r d (by omega) (by omega), t4, m4 c (by omega), sw _ _ (by omega) (by omega)]
theorem mix_l1 (b : List UInt8) (hb : b.length = 16) (c : Nat) (hc : c < 4) (m : Nat) (hm : 9 ≤ m) (acc : List Int) (ha : acc.length ≤ 1000) :
    deedboxref04_mixed.l1 (4 + 1 + m) (i8 b) acc (c : Int) 0 = deedboxref04_mixed.l0 m (i8 b) (acc ++ i8 ((List.range' 0 4).map fun r => mc b c r)) ((c + 1 : Nat) : Int) := by
  have := appl (F := fun k acc i => deedboxref04_mixed.l1 k (i8 b) acc (c : Int) i) (R := fun k acc => deedboxref04_mixed.l0 k (i8 b) acc ((c + 1 : Nat) : Int)) 4 1 1000 9 (fun r => [((mc b c r).toNat : Int)]) (fun _ _ => Nat.le_refl _)
    (fun k acc r hk hr ha => by
      show deedboxref04_mixed.l1 (k + 1) _ _ _ _ = deedboxref04_mixed.l1 k (i8 b) (acc ++ [((mc b c r).toNat : Int)]) (c : Int) _
      simp only [deedboxref04_mixed.l1]
      have hl0 : 4 * c + r < b.length := by omega
      have hl1 : 4 * c + (r + 1) % 4 < b.length := by omega
      have hl2 : 4 * c + (r + 2) % 4 < b.length := by omega
      have hl3 : 4 * c + (r + 3) % 4 < b.length := by omega
      have hM : mc b c r = db (b.getD (4 * c + r) 0) ^^^ (db (b.getD (4 * c + (r + 1) % 4) 0) ^^^ b.getD (4 * c + (r + 1) % 4) 0) ^^^ b.getD (4 * c + (r + 2) % 4) 0 ^^^ b.getD (4 * c + (r + 3) % 4) 0 := rfl
      rw [ix0 c r hc hr, ix c r 1 1 rfl hc hr (by decide), ix c r 2 2 rfl hc hr (by decide), ix c r 3 3 rfl hc hr (by decide), rd_g b _ hl0, rd_g b _ hl1, rd_g b _ hl2, rd_g b _ hl3, times2 _ k hk, times3 _ k hk, Option.bind_some, Option.bind_some, i8_length, hM]
      generalize db (b.getD (4 * c + r) 0) = y0
      generalize db (b.getD (4 * c + (r + 1) % 4) 0) ^^^ b.getD (4 * c + (r + 1) % 4) 0 = y1
      generalize b.getD (4 * c + (r + 2) % 4) 0 = y2
      generalize b.getD (4 * c + (r + 3) % 4) 0 = y3
      rw [xor_i, xor_i, xor_i]
      rw [if_pos (by omega), if_pos (by omega), if_pos (by omega), if_pos (by omega), if_pos (by omega), if_pos (by omega), if_pos (by omega), if_pos (by omega), if_pos (by omega), if_pos (by omega), w1 (by omega)])
    (fun k acc _ => by
      show deedboxref04_mixed.l1 (k + 1) _ _ _ _ = _
      simp only [deedboxref04_mixed.l1]
      rw [if_neg (by omega), w1 (by omega)]) 4 0 m acc (by omega) hm (by omega)
  rw [show ((0 : Nat) : Int) = 0 from rfl] at this
  rw [this, flat_one]
def mg (b : List UInt8) (c : Nat) : List Int := i8 ((List.range' 0 4).map fun r => mc b c r)
theorem x5 (p q s t u v : UInt8) : p ^^^ (p ^^^ q ^^^ s ^^^ t) ^^^ (u ^^^ v) = u ^^^ (v ^^^ q) ^^^ s ^^^ t := by
  have h : ∀ X : UInt8, p ^^^ (p ^^^ X) = X := fun X => by rw [← UInt8.xor_assoc, UInt8.xor_self, UInt8.zero_xor]
  rw [show p ^^^ q ^^^ s ^^^ t = p ^^^ (q ^^^ s ^^^ t) by ac_rfl, h]
  ac_rfl
theorem mxa_gen (D : UInt8 → UInt8) (hD : ∀ a b, D (a ^^^ b) = D a ^^^ D b) (x0 x1 x2 x3 : UInt8) :
    (x0 ^^^ (x0 ^^^ x1 ^^^ x2 ^^^ x3) ^^^ D (x0 ^^^ x1) = D x0 ^^^ (D x1 ^^^ x1) ^^^ x2 ^^^ x3) ∧ (x1 ^^^ (x0 ^^^ x1 ^^^ x2 ^^^ x3) ^^^ D (x1 ^^^ x2) = D x1 ^^^ (D x2 ^^^ x2) ^^^ x3 ^^^ x0) ∧
    (x2 ^^^ (x0 ^^^ x1 ^^^ x2 ^^^ x3) ^^^ D (x2 ^^^ x3) = D x2 ^^^ (D x3 ^^^ x3) ^^^ x0 ^^^ x1) ∧ (x3 ^^^ (x0 ^^^ x1 ^^^ x2 ^^^ x3) ^^^ D (x3 ^^^ x0) = D x3 ^^^ (D x0 ^^^ x0) ^^^ x1 ^^^ x2) := by
  refine ⟨?_, ?_, ?_, ?_⟩
  · rw [hD]; exact x5 _ _ _ _ _ _
  · rw [hD, show x0 ^^^ x1 ^^^ x2 ^^^ x3 = x1 ^^^ x2 ^^^ x3 ^^^ x0 by ac_rfl]; exact x5 _ _ _ _ _ _
  · rw [hD, show x0 ^^^ x1 ^^^ x2 ^^^ x3 = x2 ^^^ x3 ^^^ x0 ^^^ x1 by ac_rfl]; exact x5 _ _ _ _ _ _
  · rw [hD, show x0 ^^^ x1 ^^^ x2 ^^^ x3 = x3 ^^^ x0 ^^^ x1 ^^^ x2 by ac_rfl]; exact x5 _ _ _ _ _ _
theorem mxa_mc (b : List UInt8) (c r : Nat) (hr : r < 4) : mxa b (4 * c) r = mc b c r := by
  have h := mxa_gen db db_xor (b.getD (4 * c) 0) (b.getD (4 * c + 1) 0) (b.getD (4 * c + 2) 0) (b.getD (4 * c + 3) 0)
  unfold mxa mc alx
  generalize db = D at *
  rcases (by omega : r = 0 ∨ r = 1 ∨ r = 2 ∨ r = 3) with rfl | rfl | rfl | rfl
  · exact h.1
  · exact h.2.1
  · exact h.2.2.1
  · exact h.2.2.2
theorem gen_mix (G : Nat → Nat → UInt8) : i8 ((List.range' 0 4).map fun r => G (4 * 0) r) ++ i8 ((List.range' 0 4).map fun r => G (4 * 1) r) ++ i8 ((List.range' 0 4).map fun r => G (4 * 2) r) ++ i8 ((List.range' 0 4).map fun r => G (4 * 3) r) = i8 ((List.range 16).map fun j => G (4 * (j / 4)) (j % 4)) := rfl
theorem mix_four (b : List UInt8) : mg b 0 ++ mg b 1 ++ mg b 2 ++ mg b 3 = i8 (mix b) := by
  have h : ∀ c, mg b c = i8 ((List.range' 0 4).map fun r => mxa b (4 * c) r) := fun c => by
    unfold mg
    congr 1
    exact List.map_congr_left fun r hr => (mxa_mc b c r (by have := List.mem_range'_1.1 hr; omega)).symm
  rw [h, h, h, h]
  exact gen_mix (mxa b)
theorem mix_f (b : List UInt8) (hb : b.length = 16) (k : Nat) (hk : 60 ≤ k) : deedboxref04_mixed.f k (i8 b) = some (i8 (mix b)) := by
  obtain ⟨m, rfl⟩ : ∃ m, k = m + 1 + 6 + 6 + 6 + 6 := ⟨k - 25, by omega⟩
  unfold deedboxref04_mixed.f
  rw [← mix_four]
  exact outer4 (F := fun k acc i => deedboxref04_mixed.l0 k (i8 b) acc i) (mg b) (fun c => by unfold mg; rw [i8_length]; rfl) 6 9 (fun c hc m acc hm ha => by
    show deedboxref04_mixed.l0 (m + 6) _ _ _ = _
    rw [show m + 6 = (4 + 1 + m) + 1 by omega]
    simp only [deedboxref04_mixed.l0]
    rw [if_pos (by omega), mix_l1 b hb c hc m hm acc ha]
    rfl) (fun m acc => by
    show deedboxref04_mixed.l0 (m + 1) _ _ _ = _
    simp only [deedboxref04_mixed.l0]
    rw [if_neg (by omega)]) m (by omega)
/-! ### A round's key, a block -/
theorem take16 (l : List UInt8) (a : Nat) : (l.drop a).take 16 = ((l.take (a + 4)).drop a) ++ ((l.take (a + 4 + 4)).drop (a + 4)) ++ ((l.take (a + 8 + 4)).drop (a + 8)) ++ ((l.take (a + 12 + 4)).drop (a + 12)) := by
  have h : ∀ x, (l.take (x + 4)).drop x = (l.drop x).take 4 := fun x => by rw [List.drop_take]; congr 1; omega
  rw [h, h, h, h, show (16 : Nat) = 4 + (4 + (4 + 4)) from rfl, List.take_add, List.take_add, List.take_add, List.drop_drop, List.drop_drop, List.drop_drop, List.append_assoc, List.append_assoc]
theorem roundKey_g (W : List (List Int)) (KK : List UInt8) (hlen : W.length = 60) (hget : ∀ j : Nat, j < 60 → rd_L1 W (j : Int) = i8 ((KK.take (4 * j + 4)).drop (4 * j))) (hKL : KK.length = 240) (r : Nat) (hr : r < 15) (k : Nat) (hk : 20 ≤ k) : deedboxref04_roundKey.f k W (r : Int) = some (i8 (rk KK r)) := by
  obtain ⟨m, rfl⟩ : ∃ m, k = 4 + 1 + m := ⟨k - 5, by omega⟩
  have hl4 : ∀ j : Nat, j < 60 → ((KK.take (4 * j + 4)).drop (4 * j)).length = 4 := fun j hj => by
    rw [List.length_drop, List.length_take, hKL]; omega
  unfold deedboxref04_roundKey.f
  have := appl (F := fun k acc i => deedboxref04_roundKey.l0 k W (r : Int) acc i) (R := fun _ acc => some acc) 4 4 0 0 (fun i => i8 ((KK.take (4 * (4 * r + i) + 4)).drop (4 * (4 * r + i)))) (fun i hi => by rw [i8_length, hl4 _ (by omega)]; exact Nat.le_refl _)
    (fun k acc i _ hi ha => by
      show deedboxref04_roundKey.l0 (k + 1) _ _ _ _ = _
      simp only [deedboxref04_roundKey.l0]
      have hj : 4 * r + i < 60 := by omega
      have hll : acc.length + (i8 ((KK.take (4 * (4 * r + i) + 4)).drop (4 * (4 * r + i)))).length < 140737488355328 := by rw [i8_length, hl4 _ hj]; omega
      have hlt : ((4 * r + i : Nat) : Int) < (W.length : Int) := by rw [hlen]; omega
      rw [if_pos (by omega), m4 r (by omega), sw _ i (by omega) (by omega), if_pos (by omega), if_pos hlt, hget _ hj, if_pos hll, w1 (by omega)])
    (fun k acc _ => by
      show deedboxref04_roundKey.l0 (k + 1) _ _ _ _ = _
      simp only [deedboxref04_roundKey.l0]
      rw [if_neg (by omega)]) 4 0 m [] (by omega) (by omega) (by simp)
  rw [show ((0 : Nat) : Int) = 0 from rfl] at this
  rw [this, List.nil_append]
  have e : rk KK r = ((KK.take (4 * (4 * r + 0) + 4)).drop (4 * (4 * r + 0))) ++ (((KK.take (4 * (4 * r + 1) + 4)).drop (4 * (4 * r + 1))) ++ (((KK.take (4 * (4 * r + 2) + 4)).drop (4 * (4 * r + 2))) ++ ((KK.take (4 * (4 * r + 3) + 4)).drop (4 * (4 * r + 3))))) := by
    unfold rk
    rw [take16, List.append_assoc, List.append_assoc, show 4 * (4 * r + 0) = 16 * r by omega, show 4 * (4 * r + 1) = 16 * r + 4 by omega, show 4 * (4 * r + 2) = 16 * r + 8 by omega, show 4 * (4 * r + 3) = 16 * r + 12 by omega]
  rw [e, i8_append, i8_append, i8_append]
  simp only [List.range', List.flatMap_cons, List.flatMap_nil, List.append_nil, Nat.zero_add, Nat.reduceAdd]
theorem roundKey_f (WL : List (List UInt8)) (h60 : WL.length = 60) (h4 : ∀ x ∈ WL, x.length = 4) (r : Nat) (hr : r < 15) (k : Nat) (hk : 20 ≤ k) : deedboxref04_roundKey.f k (WL.map i8) (r : Int) = some (i8 (rk WL.flatten r)) := by
  refine roundKey_g _ _ (by rw [List.length_map, h60]) (fun j hj => ?_) (by rw [flat4 _ h4, h60]) r hr k hk
  have hl : j < WL.length := by rw [h60]; exact hj
  have hf := flat_at _ h4 j hl
  unfold rd_L1
  rw [Int.toNat_natCast, List.getD_eq_getElem?_getD, List.getElem?_map, List.getElem?_eq_getElem hl, hf]
  rfl
theorem block_l0 (WL : List (List UInt8)) (h60 : WL.length = 60) (h4 : ∀ x ∈ WL, x.length = 4) (KK : List UInt8) (hKK : WL.flatten = KK) (b : List UInt8) (hb : b.length = 16) : ∀ n r k : Nat, r + n = 13 → n + 100 ≤ k →
    deedboxref04_Block.l0 k (i8 bxs) (WL.map i8) (i8 (rnds KK b r)) ((r + 1 : Nat) : Int) = some (i8 (enc KK b))
  | 0, r, k, hr, hk => by
    obtain ⟨k, rfl⟩ : ∃ m, k = m + 1 := ⟨k - 1, by omega⟩
    obtain rfl : r = 13 := by omega
    have hkl : KK.length = 240 := by rw [← hKK, flat4 _ h4, h60]
    have hl := rnds_length KK b hkl hb 13 (by omega)
    have hrk := roundKey_f WL h60 h4 14 (by omega) k (by omega)
    rw [show ((14 : Nat) : Int) = 14 from rfl, hKK] at hrk
    simp only [deedboxref04_Block.l0]
    rw [if_neg (by omega), shift_f _ hl k (by omega), Option.bind_some, hrk, Option.bind_some, both_f _ _ (by rw [shf_length, rk_length _ _ hkl (by omega)]) (by rw [shf_length]; omega) k (by rw [shf_length]; omega), Option.bind_some]
    rfl
  | n + 1, r, k, hr, hk => by
    obtain ⟨k, rfl⟩ : ∃ m, k = m + 1 := ⟨k - 1, by omega⟩
    have hkl : KK.length = 240 := by rw [← hKK, flat4 _ h4, h60]
    have hl := rnds_length KK b hkl hb r (by omega)
    have hrk := roundKey_f WL h60 h4 (r + 1) (by omega) k (by omega)
    rw [hKK] at hrk
    simp only [deedboxref04_Block.l0]
    rw [if_pos (by omega), shift_f _ hl k (by omega), Option.bind_some, mix_f _ (shf_length _) k (by omega), Option.bind_some, hrk, Option.bind_some, both_f _ _ (by rw [mix_length, rk_length _ _ hkl (by omega)]) (by rw [mix_length]; omega) k (by rw [mix_length]; omega), Option.bind_some, w1 (by omega)]
    exact block_l0 WL h60 h4 KK hKK b hb n (r + 1) k (by omega) (by omega)
theorem block_f (WL : List (List UInt8)) (h60 : WL.length = 60) (h4 : ∀ x ∈ WL, x.length = 4) (KK : List UInt8) (hKK : WL.flatten = KK) (b : List UInt8) (hb : b.length = 16) (k : Nat) (hk : 200 ≤ k) : deedboxref04_Block.f k (i8 bxs) (WL.map i8) (i8 b) = some (i8 (enc KK b)) := by
  have hkl : KK.length = 240 := by rw [← hKK, flat4 _ h4, h60]
  have hrk := roundKey_f WL h60 h4 0 (by omega) k (by omega)
  rw [show ((0 : Nat) : Int) = 0 from rfl, hKK] at hrk
  unfold deedboxref04_Block.f
  rw [hrk, Option.bind_some, both_f _ _ (by rw [hb, rk_length _ _ hkl (by omega)]) (by omega) k (by omega), Option.bind_some]
  exact block_l0 WL h60 h4 KK hKK b hb 13 0 k (by omega) (by omega)
end Ar
end Go.Proofs.Ytljddghamgjfbaa
