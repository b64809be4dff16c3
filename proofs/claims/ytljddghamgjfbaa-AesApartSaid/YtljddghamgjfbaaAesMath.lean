/- AES on bytes: words, blocks. Plain Lean; no condition. -/
import Derived.Test.YtljddghamgjfbaaAesTab
set_option linter.unusedVariables false
set_option linter.unusedSimpArgs false
namespace Go.Proofs.Ytljddghamgjfbaa
namespace Ae

/-! ### 3. Bytes -/
def bx (c : UInt8) : UInt8 := UInt8.ofNat (bxN c.toNat)
def db (c : UInt8) : UInt8 := UInt8.ofNat (dblN c.toNat)
theorem toNat_of {n : Nat} (h : n < 256) : (UInt8.ofNat n).toNat = n := by rw [UInt8.toNat_ofNat']; exact Nat.mod_eq_of_lt h
theorem bx_nat (c : UInt8) : (bx c).toNat = bxN c.toNat := toNat_of (bx_lt _ c.toNat_lt)
theorem db_nat (c : UInt8) : (db c).toNat = dblN c.toNat := toNat_of (dbl_lt _ c.toNat_lt)
/-- The tables' bytes. -/
def tbl : List UInt8 := (List.range 256).map (fun c => UInt8.ofNat (bxN c)) ++ (List.range 256).map (fun c => UInt8.ofNat (dblN c))
theorem tbl_length : tbl.length = 512 := by unfold tbl; rw [List.length_append, List.length_map, List.length_map, List.length_range]
theorem tbl_box (c : UInt8) : tbl[c.toNat]? = some (bx c) := by
  have := c.toNat_lt
  unfold tbl bx
  rw [List.getElem?_append_left (by rw [List.length_map, List.length_range]; omega), List.getElem?_map, List.getElem?_range (by omega)]
  rfl
theorem tbl_two (c : UInt8) : tbl[256 + c.toNat]? = some (db c) := by
  have := c.toNat_lt
  unfold tbl db
  rw [List.getElem?_append_right (by rw [List.length_map, List.length_range]; omega), List.length_map, List.length_range, Nat.add_sub_cancel_left, List.getElem?_map, List.getElem?_range (by omega)]
  rfl
/-! ### 4. Blocks -/
def xr (a b : List UInt8) : List UInt8 := List.zipWith (· ^^^ ·) a b
def shf (b : List UInt8) : List UInt8 := (List.range 16).map fun i => bx (b.getD ((i + 4 * (i % 4)) % 16) 0)
def alx (b : List UInt8) (i : Nat) : UInt8 := b.getD i 0 ^^^ b.getD (i + 1) 0 ^^^ b.getD (i + 2) 0 ^^^ b.getD (i + 3) 0
def mxa (b : List UInt8) (i k : Nat) : UInt8 := b.getD (i + k) 0 ^^^ alx b i ^^^ db (b.getD (i + k) 0 ^^^ b.getD (i + (k + 1) % 4) 0)
def mix (b : List UInt8) : List UInt8 := (List.range 16).map fun j => mxa b (4 * (j / 4)) (j % 4)
def rk (keys : List UInt8) (r : Nat) : List UInt8 := (keys.drop (16 * r)).take 16
def rnds (keys b : List UInt8) : Nat → List UInt8
  | 0 => xr b (rk keys 0)
  | r + 1 => xr (mix (shf (rnds keys b r))) (rk keys (r + 1))
def enc (keys b : List UInt8) : List UInt8 := xr (shf (rnds keys b 13)) (rk keys 14)
theorem xr_length (a b : List UInt8) : (xr a b).length = min a.length b.length := List.length_zipWith
theorem shf_length (b : List UInt8) : (shf b).length = 16 := by simp [shf]
theorem mix_length (b : List UInt8) : (mix b).length = 16 := by simp [mix]
theorem rk_length (keys : List UInt8) (r : Nat) (h : keys.length = 240) (hr : r < 15) : (rk keys r).length = 16 := by
  unfold rk; rw [List.length_take, List.length_drop]; omega
theorem rnds_length (keys b : List UInt8) (h : keys.length = 240) (hb : b.length = 16) (r : Nat) (hr : r < 15) : (rnds keys b r).length = 16 := by
  cases r with
  | zero => unfold rnds; rw [xr_length, rk_length _ _ h (by omega), hb]; rfl
  | succ r => unfold rnds; rw [xr_length, rk_length _ _ h hr, mix_length]; rfl
theorem enc_length (keys b : List UInt8) (h : keys.length = 240) : (enc keys b).length = 16 := by
  unfold enc; rw [xr_length, rk_length _ _ h (by omega), shf_length]; rfl
/-! ### 5. Words -/
def rc : Nat → UInt8
  | 0 => 1
  | k + 1 => db (rc k)
def tw (n : Nat) (x : List UInt8) : List UInt8 :=
  if n % 8 = 0 then [bx (x.getD 1 0) ^^^ rc (n / 8 - 1), bx (x.getD 2 0), bx (x.getD 3 0), bx (x.getD 0 0)] else if n % 8 = 4 then x.map bx else x
def nxtw (key : List UInt8) (n : Nat) (l : List (List UInt8)) : List UInt8 :=
  if n < 8 then (key.drop (4 * n)).take 4 else xr (l.getD (n - 8) []) (tw n (l.getD (n - 1) []))
def wds (key : List UInt8) : Nat → List (List UInt8)
  | 0 => []
  | n + 1 => wds key n ++ [nxtw key n (wds key n)]
def kys (key : List UInt8) : List UInt8 := (wds key 60).flatten
theorem wds_length (key : List UInt8) (n : Nat) : (wds key n).length = n := by
  induction n with
  | zero => rfl
  | succ n ih => simp only [wds]; rw [List.length_append, ih]; rfl
theorem wds_get (key : List UInt8) {i n : Nat} (h : i < n) : (wds key n).getD i [] = nxtw key i (wds key i) := by
  induction n with
  | zero => omega
  | succ n ih =>
    simp only [wds]
    rw [List.getD_eq_getElem?_getD]
    by_cases e : i = n
    · subst e
      rw [List.getElem?_append_right (by rw [wds_length]; omega), wds_length]
      simp
    · rw [List.getElem?_append_left (by rw [wds_length]; omega), ← List.getD_eq_getElem?_getD, ih (by omega)]
theorem tw_length (n : Nat) (x : List UInt8) (h : x.length = 4) : (tw n x).length = 4 := by
  unfold tw
  split
  · rfl
  · split
    · rw [List.length_map, h]
    · exact h
theorem nxtw_length (key : List UInt8) (h : key.length = 32) : ∀ n, (nxtw key n (wds key n)).length = 4
  | n => by
    unfold nxtw
    split
    · rw [List.length_take, List.length_drop]; omega
    · rw [wds_get key (by omega), wds_get key (by omega), xr_length, nxtw_length key h (n - 8), tw_length _ _ (nxtw_length key h (n - 1))]; rfl
theorem flat4 : ∀ (l : List (List UInt8)), (∀ x ∈ l, x.length = 4) → l.flatten.length = 4 * l.length
  | [], _ => rfl
  | x :: l, h => by
    rw [List.flatten_cons, List.length_append, flat4 l (fun y hy => h y (List.mem_cons_of_mem _ hy)), h x (List.mem_cons_self ..), List.length_cons]
    omega
theorem wds_four (key : List UInt8) (h : key.length = 32) (n : Nat) : ∀ x ∈ wds key n, x.length = 4 := by
  intro x hx
  obtain ⟨i, hi, rfl⟩ := List.mem_iff_getElem.1 hx
  have := wds_get key (i := i) (n := n) (by rw [wds_length] at hi; exact hi)
  rw [List.getD_eq_getElem?_getD, List.getElem?_eq_getElem hi] at this
  simp only [Option.getD_some] at this
  rw [this]
  exact nxtw_length key h i
theorem kys_length (key : List UInt8) (h : key.length = 32) : (kys key).length = 240 := by
  unfold kys; rw [flat4 _ (wds_four key h 60), wds_length]
theorem getL4 (a b c d : UInt8) : getL [a, b, c, d] = ((a.toNat * 256 + b.toNat) * 256 + c.toNat) * 256 + d.toNat := by
  have := a.toNat_lt; have := b.toNat_lt; have := c.toNat_lt; have := d.toNat_lt
  simp only [getL, List.foldl_cons, List.foldl_nil]
  omega
theorem four {l : List UInt8} (h : l.length = 4) : ∃ a b c d, l = [a, b, c, d] := by
  match l, h with
  | [a, b, c, d], _ => exact ⟨a, b, c, d, rfl⟩
theorem xor_step (p q x y : Nat) (hx : x < 256) (hy : y < 256) : (p * 256 + x) ^^^ (q * 256 + y) = (p ^^^ q) * 256 + (x ^^^ y) := by
  have hxy : x ^^^ y < 2 ^ 8 := Nat.xor_lt_two_pow (n := 8) hx hy
  apply Nat.eq_of_testBit_eq
  intro i
  rw [Nat.testBit_xor, Nat.mul_comm p, Nat.mul_comm q, Nat.mul_comm (p ^^^ q), show (256 : Nat) = 2 ^ 8 from rfl, Nat.testBit_two_pow_mul_add _ hx, Nat.testBit_two_pow_mul_add _ hy, Nat.testBit_two_pow_mul_add _ hxy]
  split
  · rw [Nat.testBit_xor]
  · rw [Nat.testBit_xor]
theorem getL_xr {x y : List UInt8} (hx : x.length = 4) (hy : y.length = 4) : getL x ^^^ getL y = getL (xr x y) := by
  obtain ⟨a, b, c, d, rfl⟩ := four hx
  obtain ⟨a', b', c', d', rfl⟩ := four hy
  show _ = getL [a ^^^ a', b ^^^ b', c ^^^ c', d ^^^ d']
  rw [getL4, getL4, getL4, xor_step _ _ _ _ d.toNat_lt d'.toNat_lt, xor_step _ _ _ _ c.toNat_lt c'.toNat_lt, xor_step _ _ _ _ b.toNat_lt b'.toNat_lt, UInt8.toNat_xor, UInt8.toNat_xor, UInt8.toNat_xor, UInt8.toNat_xor]
theorem getL4_lt {x : List UInt8} (hx : x.length = 4) : getL x < 4294967296 := by
  obtain ⟨a, b, c, d, rfl⟩ := four hx
  have := a.toNat_lt; have := b.toNat_lt; have := c.toNat_lt; have := d.toNat_lt
  rw [getL4]; omega
theorem putL_getL4 {x : List UInt8} (hx : x.length = 4) : putL (getL x) 4 = x := by
  obtain ⟨a, b, c, d, rfl⟩ := four hx
  have ha := a.toNat_lt; have hb := b.toNat_lt; have hc := c.toNat_lt; have hd := d.toNat_lt
  rw [getL4]
  have e : ∀ (z : UInt8) (n : Nat), n % 256 = z.toNat → UInt8.ofNat (n % 256) = z := fun z n h => by rw [h]; exact UInt8.ofNat_toNat
  simp only [putL, List.nil_append, List.cons_append]
  congr 1
  · exact e _ _ (by omega)
  · congr 1
    · exact e _ _ (by omega)
    · congr 1
      · exact e _ _ (by omega)
      · congr 1
        exact e _ _ (by omega)
end Ae
end Go.Proofs.Ytljddghamgjfbaa
