/- AesTab, AesMath, AesWalk, AesBlk, AesMix, AesNew. -/
import Derived.Test.YtmbbkkonmkbnoaaS12A
import Derived.Laws.BitsAllLaws
import Derived.Laws.Shifts
import Derived.StillTailTactics
import Derived.ChangeKeysEq
set_option linter.unusedVariables false
set_option linter.unusedSimpArgs false
namespace Go.Proofs.Ytmbbkkonmkbnoaa
namespace Ae
def dblN (c : Nat) : Nat := if Nat.ble 128 c then Nat.xor (c * 2 % 256) 27 else c * 2
def pwL : List Nat := [1, 3, 5, 15, 17, 51, 85, 255, 26, 46, 114, 150, 161, 248, 19, 53, 95, 225, 56, 72, 216, 115, 149, 164, 247, 2, 6, 10, 30, 34, 102, 170, 229, 52, 92, 228, 55, 89, 235, 38, 106, 190, 217, 112, 144, 171, 230, 49, 83, 245, 4, 12, 20, 60, 68, 204, 79, 209, 104, 184, 211, 110, 178, 205, 76, 212, 103, 169, 224, 59, 77, 215, 98, 166, 241, 8, 24, 40, 120, 136, 131, 158, 185, 208, 107, 189, 220, 127, 129, 152, 179, 206, 73, 219, 118, 154, 181, 196, 87, 249, 16, 48, 80, 240, 11, 29, 39, 105, 187, 214, 97, 163, 254, 25, 43, 125, 135, 146, 173, 236, 47, 113, 147, 174, 233, 32, 96, 160, 251, 22, 58, 78, 210, 109, 183, 194, 93, 231, 50, 86, 250, 21, 63, 65, 195, 94, 226, 61, 71, 201, 64, 192, 91, 237, 44, 116, 156, 191, 218, 117, 159, 186, 213, 100, 172, 239, 42, 126, 130, 157, 188, 223, 122, 142, 137, 128, 155, 182, 193, 88, 232, 35, 101, 175, 234, 37, 111, 177, 200, 67, 197, 84, 252, 31, 33, 99, 165, 244, 7, 9, 27, 45, 119, 153, 176, 203, 70, 202, 69, 207, 74, 222, 121, 139, 134, 145, 168, 227, 62, 66, 198, 81, 243, 14, 18, 54, 90, 238, 41, 123, 141, 140, 143, 138, 133, 148, 167, 242, 13, 23, 57, 75, 221, 124, 132, 151, 162, 253, 28, 36, 108, 180, 199, 82, 246]
def lgL : List Nat := [0, 0, 25, 1, 50, 2, 26, 198, 75, 199, 27, 104, 51, 238, 223, 3, 100, 4, 224, 14, 52, 141, 129, 239, 76, 113, 8, 200, 248, 105, 28, 193, 125, 194, 29, 181, 249, 185, 39, 106, 77, 228, 166, 114, 154, 201, 9, 120, 101, 47, 138, 5, 33, 15, 225, 36, 18, 240, 130, 69, 53, 147, 218, 142, 150, 143, 219, 189, 54, 208, 206, 148, 19, 92, 210, 241, 64, 70, 131, 56, 102, 221, 253, 48, 191, 6, 139, 98, 179, 37, 226, 152, 34, 136, 145, 16, 126, 110, 72, 195, 163, 182, 30, 66, 58, 107, 40, 84, 250, 133, 61, 186, 43, 121, 10, 21, 155, 159, 94, 202, 78, 212, 172, 229, 243, 115, 167, 87, 175, 88, 168, 80, 244, 234, 214, 116, 79, 174, 233, 213, 231, 230, 173, 232, 44, 215, 117, 122, 235, 22, 11, 245, 89, 203, 95, 176, 156, 169, 81, 160, 127, 12, 246, 111, 23, 196, 73, 236, 216, 67, 31, 45, 164, 118, 123, 183, 204, 187, 62, 90, 251, 96, 177, 134, 59, 82, 161, 108, 170, 85, 41, 157, 151, 178, 135, 144, 97, 190, 220, 252, 188, 149, 207, 205, 55, 63, 91, 209, 83, 57, 132, 60, 65, 162, 109, 71, 20, 42, 158, 93, 86, 242, 211, 171, 68, 17, 146, 217, 35, 32, 46, 137, 180, 124, 184, 38, 119, 153, 227, 165, 103, 74, 237, 222, 197, 49, 254, 24, 13, 99, 140, 128, 192, 247, 112, 7]
def bxL : List Nat := [99, 124, 119, 123, 242, 107, 111, 197, 48, 1, 103, 43, 254, 215, 171, 118, 202, 130, 201, 125, 250, 89, 71, 240, 173, 212, 162, 175, 156, 164, 114, 192, 183, 253, 147, 38, 54, 63, 247, 204, 52, 165, 229, 241, 113, 216, 49, 21, 4, 199, 35, 195, 24, 150, 5, 154, 7, 18, 128, 226, 235, 39, 178, 117, 9, 131, 44, 26, 27, 110, 90, 160, 82, 59, 214, 179, 41, 227, 47, 132, 83, 209, 0, 237, 32, 252, 177, 91, 106, 203, 190, 57, 74, 76, 88, 207, 208, 239, 170, 251, 67, 77, 51, 133, 69, 249, 2, 127, 80, 60, 159, 168, 81, 163, 64, 143, 146, 157, 56, 245, 188, 182, 218, 33, 16, 255, 243, 210, 205, 12, 19, 236, 95, 151, 68, 23, 196, 167, 126, 61, 100, 93, 25, 115, 96, 129, 79, 220, 34, 42, 144, 136, 70, 238, 184, 20, 222, 94, 11, 219, 224, 50, 58, 10, 73, 6, 36, 92, 194, 211, 172, 98, 145, 149, 228, 121, 231, 200, 55, 109, 141, 213, 78, 169, 108, 86, 244, 234, 101, 122, 174, 8, 186, 120, 37, 46, 28, 166, 180, 198, 232, 221, 116, 31, 75, 189, 139, 138, 112, 62, 181, 102, 72, 3, 246, 14, 97, 53, 87, 185, 134, 193, 29, 158, 225, 248, 152, 17, 105, 217, 142, 148, 155, 30, 135, 233, 206, 85, 40, 223, 140, 161, 137, 13, 191, 230, 66, 104, 65, 153, 45, 15, 176, 84, 187, 22]
def pwN (k : Nat) : Nat := pwL.getD k 0
def lgN (c : Nat) : Nat := lgL.getD c 0
def invN (c : Nat) : Nat := if c = 0 then 0 else pwN ((255 - lgN c) % 255)
/-- A byte turned so far. -/
def sbK (v : Nat) : Nat → Nat
  | 0 => 99
  | k + 1 => Nat.xor (sbK v k) (Nat.lor (v * 2 ^ k % 256) (v / 2 ^ (8 - k)))
def bxN (c : Nat) : Nat := bxL.getD c 0
/-- All below n. -/
def allN (p : Nat → Bool) : Nat → Bool
  | 0 => true
  | n + 1 => p n && allN p n
theorem allN_at {p : Nat → Bool} : ∀ {n : Nat}, allN p n = true → ∀ i, i < n → p i = true
  | 0, _, i, h => absurd h (Nat.not_lt_zero i)
  | n + 1, h, i, hi => by
    simp only [allN, Bool.and_eq_true] at h
    by_cases e : i = n
    · subst e; exact h.1
    · exact allN_at h.2 i (by omega)
set_option maxRecDepth 100000 in
theorem dbl_lt (c : Nat) (h : c < 256) : dblN c < 256 := by
  have := allN_at (p := fun c => Nat.blt (dblN c) 256) (n := 256) (by decide +kernel) c h
  simpa using this
theorem pw_step (k : Nat) (h : k < 254) : pwN (k + 1) = Nat.xor (pwN k) (dblN (pwN k)) := by
  have := allN_at (p := fun k => Nat.beq (pwN (k + 1)) (Nat.xor (pwN k) (dblN (pwN k)))) (n := 254) (by decide +kernel) k h
  simpa using this
theorem lg_pw (k : Nat) (h : k < 255) : lgN (pwN k) = k := by
  have := allN_at (p := fun k => Nat.beq (lgN (pwN k)) k) (n := 255) (by decide +kernel) k h
  simpa using this
theorem pw_lt (k : Nat) (h : k < 255) : 0 < pwN k ∧ pwN k < 256 := by
  have := allN_at (p := fun k => Nat.blt 0 (pwN k) && Nat.blt (pwN k) 256) (n := 255) (by decide +kernel) k h
  simpa using this
theorem pw_lg (c : Nat) (h0 : 0 < c) (h : c < 256) : pwN (lgN c) = c ∧ lgN c < 255 := by
  have := allN_at (p := fun c => Nat.beq c 0 || (Nat.beq (pwN (lgN c)) c && Nat.blt (lgN c) 255)) (n := 256) (by decide +kernel) c h
  simp at this
  omega
theorem inv_lt (c : Nat) (h : c < 256) : invN c < 256 := by
  have := allN_at (p := fun c => Nat.blt (invN c) 256) (n := 256) (by decide +kernel) c h
  simpa using this
theorem sbK_lt (v k : Nat) (h : v < 256) (hk : k < 6) : sbK v k < 256 := by
  have := allN_at (p := fun v => allN (fun k => Nat.blt (sbK v k) 256) 6) (n := 256) (by decide +kernel) v h
  have := allN_at this k hk
  simpa using this
theorem bx_eq (c : Nat) (h : c < 256) : bxN c = sbK (invN c) 5 := by
  have := allN_at (p := fun c => Nat.beq (bxN c) (sbK (invN c) 5)) (n := 256) (by decide +kernel) c h
  simpa using this
theorem bx_lt (c : Nat) (h : c < 256) : bxN c < 256 := by rw [bx_eq c h]; exact sbK_lt _ _ (inv_lt c h) (by omega)
def ibL : List Nat := [82, 9, 106, 213, 48, 54, 165, 56, 191, 64, 163, 158, 129, 243, 215, 251, 124, 227, 57, 130, 155, 47, 255, 135, 52, 142, 67, 68, 196, 222, 233, 203, 84, 123, 148, 50, 166, 194, 35, 61, 238, 76, 149, 11, 66, 250, 195, 78, 8, 46, 161, 102, 40, 217, 36, 178, 118, 91, 162, 73, 109, 139, 209, 37, 114, 248, 246, 100, 134, 104, 152, 22, 212, 164, 92, 204, 93, 101, 182, 146, 108, 112, 72, 80, 253, 237, 185, 218, 94, 21, 70, 87, 167, 141, 157, 132, 144, 216, 171, 0, 140, 188, 211, 10, 247, 228, 88, 5, 184, 179, 69, 6, 208, 44, 30, 143, 202, 63, 15, 2, 193, 175, 189, 3, 1, 19, 138, 107, 58, 145, 17, 65, 79, 103, 220, 234, 151, 242, 207, 206, 240, 180, 230, 115, 150, 172, 116, 34, 231, 173, 53, 133, 226, 249, 55, 232, 28, 117, 223, 110, 71, 241, 26, 113, 29, 41, 197, 137, 111, 183, 98, 14, 170, 24, 190, 27, 252, 86, 62, 75, 198, 210, 121, 32, 154, 219, 192, 254, 120, 205, 90, 244, 31, 221, 168, 51, 136, 7, 199, 49, 177, 18, 16, 89, 39, 128, 236, 95, 96, 81, 127, 169, 25, 181, 74, 13, 45, 229, 122, 159, 147, 201, 156, 239, 160, 224, 59, 77, 174, 42, 245, 176, 200, 235, 187, 60, 131, 83, 153, 97, 23, 43, 4, 126, 186, 119, 214, 38, 225, 105, 20, 99, 85, 33, 12, 125]
theorem bx_inj {a b : Nat} (ha : a < 256) (hb : b < 256) (h : bxN a = bxN b) : a = b := by
  have f : ∀ c, c < 256 → ibL.getD (bxN c) 0 = c := fun c hc => by
    have := allN_at (p := fun c => Nat.beq (ibL.getD (bxN c) 0) c) (n := 256) (by decide +kernel) c hc
    simpa using this
  rw [← f a ha, ← f b hb, h]
def tmK (b : Nat) : Nat → Nat → Nat → Nat
  | 0, x, out => out
  | n + 1, x, out => tmK b n (dblN x) (if Nat.beq (Nat.land (b / 2 ^ (7 - n)) 1) 1 then Nat.xor out x else out)
def tmN (a b : Nat) : Nat := tmK b 8 a 0
theorem inv_first (c i : Nat) (hc : c < 256) (hi : i < 256) : tmN c i = 1 ↔ c ≠ 0 ∧ i = invN c := by
  have := allN_at (p := fun c => allN (fun i => Nat.beq (tmN c i) 1 == (!(Nat.beq c 0) && Nat.beq i (invN c))) 256) (n := 256) (by decide +kernel) c hc
  have h := allN_at this i hi
  have h : (tmN c i).beq 1 = (!c.beq 0 && i.beq (invN c)) := by simpa using h
  have h2 : Nat.beq (tmN c i) 1 = true ↔ (!Nat.beq c 0 && Nat.beq i (invN c)) = true := by rw [h]
  rw [Nat.beq_eq] at h2
  rw [h2, Bool.and_eq_true, Nat.beq_eq, Bool.not_eq_true', ← Bool.not_eq_true, Nat.beq_eq]
end Ae
end Go.Proofs.Ytmbbkkonmkbnoaa
namespace Go.Proofs.Ytmbbkkonmkbnoaa
namespace Ae
def bx (c : UInt8) : UInt8 := UInt8.ofNat (bxN c.toNat)
def db (c : UInt8) : UInt8 := UInt8.ofNat (dblN c.toNat)
theorem toNat_of {n : Nat} (h : n < 256) : (UInt8.ofNat n).toNat = n := by rw [UInt8.toNat_ofNat']; exact Nat.mod_eq_of_lt h
theorem bx_nat (c : UInt8) : (bx c).toNat = bxN c.toNat := toNat_of (bx_lt _ c.toNat_lt)
theorem db_nat (c : UInt8) : (db c).toNat = dblN c.toNat := toNat_of (dbl_lt _ c.toNat_lt)
/-- The tables' bytes. -/
def tbl : List UInt8 := (List.range 256).map (fun c => UInt8.ofNat (bxN c)) ++ (List.range 256).map (fun c => UInt8.ofNat (dblN c))
theorem tbl_length : tbl.length = 512 := by unfold tbl; rw [List.length_append, List.length_map, List.length_map, List.length_range]
theorem tbl_box (c : UInt8) : tbl[c.toNat]? = some (bx c) := by
  have := c.toNat_lt
  unfold tbl bx
  rw [List.getElem?_append_left (by rw [List.length_map, List.length_range]; omega), List.getElem?_map, List.getElem?_range (by omega)]
  rfl
theorem tbl_two (c : UInt8) : tbl[256 + c.toNat]? = some (db c) := by
  have := c.toNat_lt
  unfold tbl db
  rw [List.getElem?_append_right (by rw [List.length_map, List.length_range]; omega), List.length_map, List.length_range, Nat.add_sub_cancel_left, List.getElem?_map, List.getElem?_range (by omega)]
  rfl
def xr (a b : List UInt8) : List UInt8 := List.zipWith (· ^^^ ·) a b
def shf (b : List UInt8) : List UInt8 := (List.range 16).map fun i => bx (b.getD ((i + 4 * (i % 4)) % 16) 0)
def alx (b : List UInt8) (i : Nat) : UInt8 := b.getD i 0 ^^^ b.getD (i + 1) 0 ^^^ b.getD (i + 2) 0 ^^^ b.getD (i + 3) 0
def mxa (b : List UInt8) (i k : Nat) : UInt8 := b.getD (i + k) 0 ^^^ alx b i ^^^ db (b.getD (i + k) 0 ^^^ b.getD (i + (k + 1) % 4) 0)
def mix (b : List UInt8) : List UInt8 := (List.range 16).map fun j => mxa b (4 * (j / 4)) (j % 4)
def rk (keys : List UInt8) (r : Nat) : List UInt8 := (keys.drop (16 * r)).take 16
def rnds (keys b : List UInt8) : Nat → List UInt8
  | 0 => xr b (rk keys 0)
  | r + 1 => xr (mix (shf (rnds keys b r))) (rk keys (r + 1))
def enc (keys b : List UInt8) : List UInt8 := xr (shf (rnds keys b 13)) (rk keys 14)
theorem xr_length (a b : List UInt8) : (xr a b).length = min a.length b.length := List.length_zipWith
theorem shf_length (b : List UInt8) : (shf b).length = 16 := by simp [shf]
theorem mix_length (b : List UInt8) : (mix b).length = 16 := by simp [mix]
theorem rk_length (keys : List UInt8) (r : Nat) (h : keys.length = 240) (hr : r < 15) : (rk keys r).length = 16 := by
  unfold rk; rw [List.length_take, List.length_drop]; omega
theorem rnds_length (keys b : List UInt8) (h : keys.length = 240) (hb : b.length = 16) (r : Nat) (hr : r < 15) : (rnds keys b r).length = 16 := by
  cases r with
  | zero => unfold rnds; rw [xr_length, rk_length _ _ h (by omega), hb]; rfl
  | succ r => unfold rnds; rw [xr_length, rk_length _ _ h hr, mix_length]; rfl
theorem enc_length (keys b : List UInt8) (h : keys.length = 240) : (enc keys b).length = 16 := by
  unfold enc; rw [xr_length, rk_length _ _ h (by omega), shf_length]; rfl
def rc : Nat → UInt8
  | 0 => 1
  | k + 1 => db (rc k)
def tw (n : Nat) (x : List UInt8) : List UInt8 :=
  if n % 8 = 0 then [bx (x.getD 1 0) ^^^ rc (n / 8 - 1), bx (x.getD 2 0), bx (x.getD 3 0), bx (x.getD 0 0)] else if n % 8 = 4 then x.map bx else x
def nxtw (key : List UInt8) (n : Nat) (l : List (List UInt8)) : List UInt8 :=
  if n < 8 then (key.drop (4 * n)).take 4 else xr (l.getD (n - 8) []) (tw n (l.getD (n - 1) []))
def wds (key : List UInt8) : Nat → List (List UInt8)
  | 0 => []
  | n + 1 => wds key n ++ [nxtw key n (wds key n)]
def kys (key : List UInt8) : List UInt8 := (wds key 60).flatten
theorem wds_length (key : List UInt8) (n : Nat) : (wds key n).length = n := by
  induction n with
  | zero => rfl
  | succ n ih => simp only [wds]; rw [List.length_append, ih]; rfl
theorem wds_get (key : List UInt8) {i n : Nat} (h : i < n) : (wds key n).getD i [] = nxtw key i (wds key i) := by
  induction n with
  | zero => omega
  | succ n ih =>
    simp only [wds]
    rw [List.getD_eq_getElem?_getD]
    by_cases e : i = n
    · subst e
      rw [List.getElem?_append_right (by rw [wds_length]; omega), wds_length]
      simp
    · rw [List.getElem?_append_left (by rw [wds_length]; omega), ← List.getD_eq_getElem?_getD, ih (by omega)]
theorem tw_length (n : Nat) (x : List UInt8) (h : x.length = 4) : (tw n x).length = 4 := by
  unfold tw
  split
  · rfl
  · split
    · rw [List.length_map, h]
    · exact h
theorem nxtw_length (key : List UInt8) (h : key.length = 32) : ∀ n, (nxtw key n (wds key n)).length = 4
  | n => by
    unfold nxtw
    split
    · rw [List.length_take, List.length_drop]; omega
    · rw [wds_get key (by omega), wds_get key (by omega), xr_length, nxtw_length key h (n - 8), tw_length _ _ (nxtw_length key h (n - 1))]; rfl
theorem flat4 : ∀ (l : List (List UInt8)), (∀ x ∈ l, x.length = 4) → l.flatten.length = 4 * l.length
  | [], _ => rfl
  | x :: l, h => by
    rw [List.flatten_cons, List.length_append, flat4 l (fun y hy => h y (List.mem_cons_of_mem _ hy)), h x (List.mem_cons_self ..), List.length_cons]
    omega
theorem wds_four (key : List UInt8) (h : key.length = 32) (n : Nat) : ∀ x ∈ wds key n, x.length = 4 := by
  intro x hx
  obtain ⟨i, hi, rfl⟩ := List.mem_iff_getElem.1 hx
  have := wds_get key (i := i) (n := n) (by rw [wds_length] at hi; exact hi)
  rw [List.getD_eq_getElem?_getD, List.getElem?_eq_getElem hi] at this
  simp only [Option.getD_some] at this
  rw [this]
  exact nxtw_length key h i
theorem kys_length (key : List UInt8) (h : key.length = 32) : (kys key).length = 240 := by
  unfold kys; rw [flat4 _ (wds_four key h 60), wds_length]
theorem getL4 (a b c d : UInt8) : getL [a, b, c, d] = ((a.toNat * 256 + b.toNat) * 256 + c.toNat) * 256 + d.toNat := by
  have := a.toNat_lt; have := b.toNat_lt; have := c.toNat_lt; have := d.toNat_lt
  simp only [getL, List.foldl_cons, List.foldl_nil]
  omega
theorem four {l : List UInt8} (h : l.length = 4) : ∃ a b c d, l = [a, b, c, d] := by
  match l, h with
  | [a, b, c, d], _ => exact ⟨a, b, c, d, rfl⟩
theorem xor_step (p q x y : Nat) (hx : x < 256) (hy : y < 256) : (p * 256 + x) ^^^ (q * 256 + y) = (p ^^^ q) * 256 + (x ^^^ y) := by
  have hxy : x ^^^ y < 2 ^ 8 := Nat.xor_lt_two_pow (n := 8) hx hy
  apply Nat.eq_of_testBit_eq
  intro i
  rw [Nat.testBit_xor, Nat.mul_comm p, Nat.mul_comm q, Nat.mul_comm (p ^^^ q), show (256 : Nat) = 2 ^ 8 from rfl, Nat.testBit_two_pow_mul_add _ hx, Nat.testBit_two_pow_mul_add _ hy, Nat.testBit_two_pow_mul_add _ hxy]
  split
  · rw [Nat.testBit_xor]
  · rw [Nat.testBit_xor]
theorem getL_xr {x y : List UInt8} (hx : x.length = 4) (hy : y.length = 4) : getL x ^^^ getL y = getL (xr x y) := by
  obtain ⟨a, b, c, d, rfl⟩ := four hx
  obtain ⟨a', b', c', d', rfl⟩ := four hy
  show _ = getL [a ^^^ a', b ^^^ b', c ^^^ c', d ^^^ d']
  rw [getL4, getL4, getL4, xor_step _ _ _ _ d.toNat_lt d'.toNat_lt, xor_step _ _ _ _ c.toNat_lt c'.toNat_lt, xor_step _ _ _ _ b.toNat_lt b'.toNat_lt, UInt8.toNat_xor, UInt8.toNat_xor, UInt8.toNat_xor, UInt8.toNat_xor]
theorem getL4_lt {x : List UInt8} (hx : x.length = 4) : getL x < 4294967296 := by
  obtain ⟨a, b, c, d, rfl⟩ := four hx
  have := a.toNat_lt; have := b.toNat_lt; have := c.toNat_lt; have := d.toNat_lt
  rw [getL4]; omega
theorem putL_getL4 {x : List UInt8} (hx : x.length = 4) : putL (getL x) 4 = x := by
  obtain ⟨a, b, c, d, rfl⟩ := four hx
  have ha := a.toNat_lt; have hb := b.toNat_lt; have hc := c.toNat_lt; have hd := d.toNat_lt
  rw [getL4]
  have e : ∀ (z : UInt8) (n : Nat), n % 256 = z.toNat → UInt8.ofNat (n % 256) = z := fun z n h => by rw [h]; exact UInt8.ofNat_toNat
  simp only [putL, List.nil_append, List.cons_append]
  congr 1
  · exact e _ _ (by omega)
  · congr 1
    · exact e _ _ (by omega)
    · congr 1
      · exact e _ _ (by omega)
      · congr 1
        exact e _ _ (by omega)
end Ae
end Go.Proofs.Ytmbbkkonmkbnoaa
namespace Go.Proofs.Ytmbbkkonmkbnoaa
open Go.RowKit Go.Deep Ae
set_option maxRecDepth 100000 in
theorem aDouble_any (c : UInt8) (w : World) : Calls Try.prog 114 #[.int .u8 (c.toNat : Int)] w fun e w' => e = .returned (.int .u8 ((db c).toNat : Int)) ∧ w = w' := by
  have hc := c.toNat_lt
  obtain ⟨d, hd⟩ : ∃ d, db c = d := ⟨_, rfl⟩
  rw [hd]
  have HD := Lib.hid hd
  clear hd
  by_cases h : 128 ≤ c.toNat
  · go_enter Try.func114, Try.ntmps114
    go_wp2
    go_ret
    refine ⟨congrArg (fun z => Ending.returned (Value.int .u8 z)) ?_, rfl⟩
    show bits .xor .u8 ((c.toNat : Int) * 2 % 256) 27 = _
    rw [← HD.out, db_nat, show ((c.toNat : Int) * 2 % 256) = ((c.toNat * 2 % 256 : Nat) : Int) by simp, show (27 : Int) = ((27 : Nat) : Int) from rfl, u8_xor_nat _ _ (by omega) (by omega)]
    unfold dblN
    rw [if_pos (by rw [Nat.ble_eq]; exact h)]
    rfl
  · go_enter Try.func114, Try.ntmps114
    go_wp2
    go_ret
    refine ⟨congrArg (fun z => Ending.returned (Value.int .u8 z)) ?_, rfl⟩
    show (c.toNat : Int) * 2 = _
    rw [← HD.out, db_nat]
    unfold dblN
    rw [if_neg (by rw [Nat.ble_eq]; exact h)]
    simp
/-- A table's block. -/
abbrev IsT (w : World) (g : Nat) : Prop := Blk w g 189 (u8s tbl).toArray
theorem z512 : Try.zeroCells189 = (u8s (List.replicate 512 0)).toArray := by kernel_rfl
theorem z256 : Try.zeroCells187 = (u8s (List.replicate 256 0)).toArray := by kernel_rfl
/-- A row of numbers as cells. -/
def iv (n : Nat) : Value := Value.int IntKind.i64 (n : Int)
def i64s (l : List Nat) : List Value := l.map iv
theorem i64s_length (l : List Nat) : (i64s l).length = l.length := by simp [i64s]
theorem i64s_get (l : List Nat) (i : Nat) (h : i < l.length) : (i64s l).toArray[i]? = some (.int .i64 ((l.getD i 0 : Nat) : Int)) := by
  simp [i64s, iv, h, List.getD_eq_getElem?_getD]
theorem i64s_set (l : List Nat) (i n : Nat) : (i64s l).toArray.setIfInBounds i (.int .i64 (n : Int)) = (i64s (l.set i n)).toArray := by
  simp [i64s, iv, List.map_set]
theorem zi256 : Try.zeroCells190 = (i64s (List.replicate 256 0)).toArray := by kernel_rfl
theorem xor_u8 (a x : UInt8) : bits .xor .u8 (a.toNat : Int) (x.toNat : Int) = ((a ^^^ x).toNat : Int) := by
  rw [u8_xor_nat _ _ a.toNat_lt x.toNat_lt, UInt8.toNat_xor]
/-- Within Build, loop 1. -/
structure Bd1 (w0 : World) (k : Nat) (c : UInt8) (w : World) : Prop where
  t : Blk w w0.heap.size 189 (u8s (List.replicate 512 0)).toArray
  p : ∃ P : List UInt8, P.length = 256 ∧ (∀ j, j < k → (P.getD j 0).toNat = pwN j) ∧ Blk w (w0.heap.size + 1) 187 (u8s P).toArray
  l : ∃ L : List Nat, L.length = 256 ∧ (∀ j, j < k → L.getD (pwN j) 0 = j) ∧ Blk w (w0.heap.size + 1 + 1) 190 (i64s L).toArray
  c : k < 255 → c.toNat = pwN k
  x : Ext No w0 w
theorem pw_inj {i j : Nat} (hi : i < 255) (hj : j < 255) (h : pwN i = pwN j) : i = j := by
  rw [← lg_pw i hi, ← lg_pw j hj, h]
theorem getD_set {α : Type} (l : List α) (i j : Nat) (x d : α) (h : i < l.length) : (l.set i x).getD j d = if i = j then x else l.getD j d := by
  rw [List.getD_eq_getElem?_getD, List.getElem?_set, List.getD_eq_getElem?_getD]
  by_cases e : i = j
  · rw [if_pos e, if_pos e, if_pos (by omega)]; rfl
  · rw [if_neg e, if_neg e]
theorem Bd1.step {w0 w : World} {k : Nat} {c : UInt8} (h : Bd1 w0 k c w) (hk : k < 255) :
    Bd1 w0 (k + 1) (c ^^^ db c) ((w.setCell ⟨w0.heap.size + 1, k, none⟩ (.int .u8 (c.toNat : Int))).setCell ⟨w0.heap.size + 1 + 1, c.toNat, none⟩ (.int .i64 (k : Int))) := by
  obtain ⟨P, hP, hP2, hP3⟩ := h.p
  obtain ⟨L, hL, hL2, hL3⟩ := h.l
  have hc := h.c hk
  have hcl := c.toNat_lt
  refine ⟨(h.t.far (by simp) _).far (by simp; omega) _, ⟨P.set k c, by rw [List.length_set, hP], fun j hj => ?_, ?_⟩, ⟨L.set c.toNat k, by rw [List.length_set, hL], fun j hj => ?_, ?_⟩, fun hk2 => ?_, ?_⟩
  · rw [getD_set _ _ _ _ _ (by omega)]
    by_cases e : k = j
    · subst e; rw [if_pos rfl, hc]
    · rw [if_neg e, hP2 j (by omega)]
  · have := (Blk.set_ hP3 k (.int .u8 (c.toNat : Int))).far (p := ⟨w0.heap.size + 1 + 1, c.toNat, none⟩) (by simp) (.int .i64 (k : Int))
    rwa [u8s_set] at this
  · rw [getD_set _ _ _ _ _ (by omega), hc]
    by_cases e : pwN k = pwN j
    · rw [if_pos e]; exact pw_inj hk (by omega) e
    · rw [if_neg e]
      refine hL2 j ?_
      have : j ≠ k := fun h => e (by rw [h])
      omega
  · have := Blk.set_ (hL3.far (p := ⟨w0.heap.size + 1, k, none⟩) (by simp) (.int .u8 (c.toNat : Int))) c.toNat (.int .i64 (k : Int))
    rwa [i64s_set] at this
  · rw [UInt8.toNat_xor, db_nat, hc, pw_step k (by omega)]; rfl
  · refine Ext.setCell (Ext.setCell h.x (fun h => ?_) _) (fun h => ?_) _
    · have h : w0.heap.size + 1 < w0.heap.size := h; omega
    · have h : w0.heap.size + 1 + 1 < w0.heap.size := h; omega
/-- Within Build, loop 2: so many boxes, so many doubles. -/
structure Bd2 (w0 : World) (k m : Nat) (w : World) : Prop where
  t : ∃ T : List UInt8, T.length = 512 ∧ (∀ j, j < k → (T.getD j 0).toNat = bxN j) ∧ (∀ j, j < m → (T.getD (256 + j) 0).toNat = dblN j) ∧ Blk w w0.heap.size 189 (u8s T).toArray
  p : ∃ P : List UInt8, P.length = 256 ∧ (∀ j, j < 255 → (P.getD j 0).toNat = pwN j) ∧ Blk w (w0.heap.size + 1) 187 (u8s P).toArray
  l : ∃ L : List Nat, L.length = 256 ∧ (∀ j, 0 < j → j < 256 → L.getD j 0 = lgN j) ∧ Blk w (w0.heap.size + 1 + 1) 190 (i64s L).toArray
  x : Ext No w0 w
theorem Bd2.drewN {w0 w : World} {k m : Nat} (h : Bd2 w0 k m w) (n : Nat) : Bd2 w0 k m (w.drewN n) := ⟨h.t, h.p, h.l, h.x.drewN n⟩
theorem Bd2.drew {w0 w : World} {k m : Nat} (h : Bd2 w0 k m w) : Bd2 w0 k m w.drew := ⟨h.t, h.p, h.l, h.x.drew⟩
theorem Bd1.to2 {w0 w : World} {c : UInt8} (h : Bd1 w0 255 c w) : Bd2 w0 0 0 w := by
  obtain ⟨P, hP, hP2, hP3⟩ := h.p
  obtain ⟨L, hL, hL2, hL3⟩ := h.l
  refine ⟨⟨List.replicate 512 0, List.length_replicate, fun j hj => by omega, fun j hj => by omega, h.t⟩, ⟨P, hP, hP2, hP3⟩, ⟨L, hL, fun j h0 hj => ?_, hL3⟩, h.x⟩
  have := pw_lg j h0 hj
  rw [← hL2 (lgN j) this.2, this.1]
theorem Bd2.two {w0 w : World} {k : Nat} (h : Bd2 w0 k k w) (hk : k < 256) : Bd2 w0 k (k + 1) (w.setCell ⟨w0.heap.size, 256 + k, none⟩ (.int .u8 (dblN k : Int))) := by
  obtain ⟨T, hT, hT1, hT2, hT3⟩ := h.t
  obtain ⟨P, hP, hP2, hP3⟩ := h.p
  obtain ⟨L, hL, hL2, hL3⟩ := h.l
  refine ⟨⟨T.set (256 + k) (UInt8.ofNat (dblN k)), by rw [List.length_set, hT], fun j hj => ?_, fun j hj => ?_, ?_⟩, ⟨P, hP, hP2, hP3.far (by simp) _⟩, ⟨L, hL, hL2, hL3.far (by simp; omega) _⟩, ?_⟩
  · rw [getD_set _ _ _ _ _ (by omega), if_neg (by omega)]
    exact hT1 j hj
  · rw [getD_set _ _ _ _ _ (by omega)]
    by_cases e : k = j
    · subst e
      rw [if_pos rfl, toNat_of (dbl_lt k hk)]
    · rw [if_neg (by omega)]
      exact hT2 j (by omega)
  · have := Blk.set_ hT3 (256 + k) (.int .u8 ((UInt8.ofNat (dblN k)).toNat : Int))
    rw [u8s_set, toNat_of (dbl_lt k hk)] at this
    exact this
  · exact Ext.setCell h.x (fun h => by have h : w0.heap.size < w0.heap.size := h; omega) _
theorem Bd2.box {w0 w : World} {k : Nat} (h : Bd2 w0 k (k + 1) w) (hk : k < 256) : Bd2 w0 (k + 1) (k + 1) (w.setCell ⟨w0.heap.size, k, none⟩ (.int .u8 (bxN k : Int))) := by
  obtain ⟨T, hT, hT1, hT2, hT3⟩ := h.t
  obtain ⟨P, hP, hP2, hP3⟩ := h.p
  obtain ⟨L, hL, hL2, hL3⟩ := h.l
  refine ⟨⟨T.set k (UInt8.ofNat (bxN k)), by rw [List.length_set, hT], fun j hj => ?_, fun j hj => ?_, ?_⟩, ⟨P, hP, hP2, hP3.far (by simp) _⟩, ⟨L, hL, hL2, hL3.far (by simp; omega) _⟩, ?_⟩
  · rw [getD_set _ _ _ _ _ (by omega)]
    by_cases e : k = j
    · subst e
      rw [if_pos rfl, toNat_of (bx_lt k hk)]
    · rw [if_neg (by omega)]
      exact hT1 j (by omega)
  · rw [getD_set _ _ _ _ _ (by omega), if_neg (by omega)]
    exact hT2 j hj
  · have := Blk.set_ hT3 k (.int .u8 ((UInt8.ofNat (bxN k)).toNat : Int))
    rw [u8s_set, toNat_of (bx_lt k hk)] at this
    exact this
  · exact Ext.setCell h.x (fun h => by have h : w0.heap.size < w0.heap.size := h; omega) _
theorem sbK_succ (v k : Nat) (hv : v < 256) (hk : k < 5) : bits .xor .u8 (sbK v k : Int) (bits .or .u8 ((v * 2 ^ k % 256 : Nat) : Int) ((v / 2 ^ (8 - k) : Nat) : Int)) = (sbK v (k + 1) : Int) := by
  have h1 : v / 2 ^ (8 - k) < 256 := Nat.lt_of_le_of_lt (Nat.div_le_self _ _) hv
  have h2 : v * 2 ^ k % 256 < 256 := Nat.mod_lt _ (by omega)
  rw [u8_or_nat _ _ h2 h1, u8_xor_nat _ _ (sbK_lt v k hv (by omega)) (Nat.or_lt_two_pow (n := 8) h2 h1)]
  rfl
theorem Bd2.done {w0 w : World} (h : Bd2 w0 256 256 w) : IsT w w0.heap.size := by
  obtain ⟨T, hT, hT1, hT2, hT3⟩ := h.t
  have : T = tbl := by
    apply List.ext_getElem?
    intro i
    by_cases h1 : i < 256
    · have h2 := tbl_box (UInt8.ofNat i)
      rw [toNat_of h1] at h2
      rw [h2, List.getElem?_eq_getElem (by omega)]
      congr 1
      have h3 := hT1 i h1
      rw [List.getD_eq_getElem?_getD, List.getElem?_eq_getElem (by omega)] at h3
      apply UInt8.toNat_inj.1
      rw [bx_nat, toNat_of h1]
      exact h3
    · by_cases h2 : i < 512
      · obtain ⟨j, rfl⟩ : ∃ j, i = 256 + j := ⟨i - 256, by omega⟩
        have h4 := tbl_two (UInt8.ofNat j)
        rw [toNat_of (by omega)] at h4
        rw [h4, List.getElem?_eq_getElem (by omega)]
        congr 1
        have h3 := hT2 j (by omega)
        rw [List.getD_eq_getElem?_getD, List.getElem?_eq_getElem (by omega)] at h3
        apply UInt8.toNat_inj.1
        rw [db_nat, toNat_of (by omega)]
        exact h3
      · rw [List.getElem?_eq_none (by omega), List.getElem?_eq_none (by rw [tbl_length]; omega)]
  show Blk w _ _ (u8s tbl).toArray
  rw [← this]
  exact hT3
set_option maxRecDepth 100000 in
set_option maxHeartbeats 4000000 in
theorem aBuild_any (w : World) : Calls Try.prog 62 #[] w fun e' w' => ∃ g, e' = .returned (pB g) ∧ w.heap.size ≤ g ∧ IsT w' g ∧ Ext No w w' := by
  go_enter Try.func62, Try.ntmps62
  go_wp2_with fail
  have HS : Hid (Bd1 w 0 1 (((w.alloc (.cells Try.zeroCells189 189)).alloc (.cells Try.zeroCells187 187)).alloc (.cells Try.zeroCells190 190))) := Lib.hid (by
    rw [z512, z256, zi256]
    refine ⟨((Blk.new w _ _).alloc _).alloc _, ⟨List.replicate 256 0, List.length_replicate, fun j hj => by omega, ?_⟩, ⟨List.replicate 256 0, List.length_replicate, fun j hj => by omega, ?_⟩, fun _ => rfl, (((Ext.refl No w).alloc _).alloc _).alloc _⟩
    · have := (Blk.new (w.alloc (.cells (u8s (List.replicate 512 0)).toArray 189)) 187 (u8s (List.replicate 256 0)).toArray).alloc (.cells (i64s (List.replicate 256 0)).toArray 190)
      rwa [World.size_alloc] at this
    · have := Blk.new ((w.alloc (.cells (u8s (List.replicate 512 0)).toArray 189)).alloc (.cells (u8s (List.replicate 256 0)).toArray 187)) 190 (i64s (List.replicate 256 0)).toArray
      rwa [World.size_alloc, World.size_alloc] at this)
  generalize (((w.alloc (.cells Try.zeroCells189 189)).alloc (.cells Try.zeroCells187 187)).alloc (.cells Try.zeroCells190 190)) = w1 at *
  go_loopw [4, 13] (fun x i wr => ∃ (k : Nat) (c : UInt8), k ≤ 255 ∧ i = .int .i64 (k : Int) ∧ x = .int .u8 (c.toNat : Int) ∧ Hid (Bd1 w k c wr)) (fun _ i _ => 255 - (intOf i).toNat)
  case atStart => exact ⟨0, 1, by omega, rfl, rfl, HS⟩
  case round =>
    obtain ⟨k, c, hk, rfl, rfl, HR⟩ := hrel
    clear HS
    by_cases hlt : k < 255
    · have hcl : (c.toNat : Int) < 256 := by have := c.toNat_lt; omega
      have HN := Lib.hid (HR.out.step hlt)
      have HXC := Lib.hid (xor_u8 c (db c))
      obtain ⟨P, hP, -, hP3⟩ := HR.out.p
      obtain ⟨L, hL, -, hL3⟩ := HR.out.l
      have e1 := (hP3.cell k).trans (u8s_get' P k (by omega))
      have f1 := hP3.frozen k
      have e2 := (hL3.cell c.toNat).trans (i64s_get L c.toNat (by have := c.toNat_lt; omega))
      have f2 := hL3.frozen c.toNat
      have HP3 := Lib.hid hP3
      have HL3 := Lib.hid hL3
      clear hP3 hL3 hP hL
      clear HR
      go_wp2_with fail
      generalize (wr.setCell ⟨w.heap.size + 1, k, none⟩ (.int .u8 (c.toNat : Int))).setCell ⟨w.heap.size + 1 + 1, c.toNat, none⟩ (.int .i64 (k : Int)) = w2 at *
      refine (aDouble_any c w2).mono ?_
      rintro e3 w3 ⟨rfl, rfl⟩
      obtain ⟨d, hd⟩ : ∃ d, db c = d := ⟨_, rfl⟩
      rw [hd] at HXC HN ⊢
      clear hd e1 e2 f1 f2
      go_wp2_with fail
      rw [HXC.out]
      go_roundw
      case rel => exact ⟨k + 1, c ^^^ d, by omega, by go_num, rfl, HN⟩
      case measure => simp [intOf]; omega
    · obtain rfl : k = 255 := by omega
      have HS2 := Lib.hid HR.out.to2
      clear HR
      go_wp2_with fail
      rw [show ((255 : Nat) : Int) = 255 from rfl]
      go_loopw [27] (fun i wr => ∃ (k : Nat), k ≤ 256 ∧ i = .int .i64 (k : Int) ∧ Hid (Bd2 w k k wr)) (fun i _ => 256 - (intOf i).toNat)
      case atStart => exact ⟨0, by omega, rfl, HS2⟩
      case round =>
        clear HS2
        obtain ⟨k, hk, rfl, HR⟩ := hrel
        by_cases hlt : k < 256
        · obtain ⟨T, hT, -, -, hT3⟩ := HR.out.t
          have e1 : wr.cell? ⟨w.heap.size, 256 + k, none⟩ = _ := (hT3.cell (256 + k)).trans (u8s_get' T (256 + k) (by omega))
          have f1 : wr.frozen? ⟨w.heap.size, 256 + k, none⟩ = _ := hT3.frozen (256 + k)
          have HN := Lib.hid (HR.out.two hlt).drew
          have HDB : Hid (∀ wx, Calls Try.prog 114 #[.int .u8 (k : Int)] wx fun e w' => e = .returned (.int .u8 (dblN k : Int)) ∧ wx = w') := Lib.hid (fun wx => by
            have := aDouble_any (UInt8.ofNat k) wx
            rwa [db_nat, toNat_of hlt] at this)
          clear hT hT3 HR
          go_wp2_with fail
          go_region_with (first | (go_at_call 114; refine (HDB.out _).mono ?_; rintro e3 w3 ⟨rfl, rfl⟩))
          generalize (wr.setCell ⟨w.heap.size, 256 + k, none⟩ (.int .u8 (dblN k : Int))).drew = w2 at *
          clear e1 f1
          obtain ⟨v, hv⟩ : ∃ v, invN k = v := ⟨_, rfl⟩
          have hvl : v < 256 := by rw [← hv]; exact inv_lt k hlt
          have HV := Lib.hid hv
          have HBX : Hid (bxN k = sbK v 5) := Lib.hid (by rw [bx_eq k hlt, hv])
          have HSB := Lib.hid (fun j => sbK_succ v j hvl)
          by_cases h0 : 0 < k
          · obtain ⟨a, ha⟩ : ∃ a, lgN k = a := ⟨_, rfl⟩
            have hal : a < 255 := by rw [← ha]; exact (pw_lg k h0 hlt).2
            have hiv : pwN ((255 - a) % 255) = v := by rw [← hv, ← ha]; unfold invN; rw [if_neg (by omega)]
            obtain ⟨b, hb⟩ : ∃ b, (255 - a) % 255 = b := ⟨_, rfl⟩
            have hbl : b < 255 := by omega
            rw [hb] at hiv
            obtain ⟨L, hL, hL2, hL3⟩ := HN.out.l
            obtain ⟨P, hP, hP2, hP3⟩ := HN.out.p
            have e1 : w2.cell? ⟨w.heap.size + 1 + 1, k, none⟩ = some (.int .i64 (a : Int)) := by rw [hL3.cell, i64s_get _ _ (by omega), hL2 k h0 hlt, ha]
            have e2 : w2.cell? ⟨w.heap.size + 1, b, none⟩ = some (.int .u8 (v : Int)) := by rw [hP3.cell, u8s_get' _ _ (by omega), hP2 b hbl, hiv]
            have hbi : (255 - (a : Int)) % 255 = (b : Int) := by omega
            have t1 : ((k : Int) != 0) = true := by simp; omega
            have t2 : ((k : Int) == 0) = false := by simp; omega
            clear hL hL2 hL3 hP hP2 hP3 ha hiv hb hv HDB
            go_wp2_with fail
            go_loopw [9, 48] (fun o j wr => ∃ (q : Nat) (qi : Int), ((q = 0 ∧ qi = 0) ∨ (q = 1 ∧ qi = 1) ∨ (q = 2 ∧ qi = 2) ∨ (q = 3 ∧ qi = 3) ∨ (q = 4 ∧ qi = 4) ∨ (q = 5 ∧ qi = 5)) ∧ j = .int .i64 qi ∧ o = .int .u8 (sbK v q : Int) ∧ Hid (Bd2 w k (k + 1) wr)) (fun _ j _ => 5 - (intOf j).toNat)
            case atStart => exact ⟨0, 0, .inl ⟨rfl, rfl⟩, rfl, rfl, HN⟩
            case round =>
              clear HN e1 e2 hbi t1 t2
              obtain ⟨q, qi, hq, rfl, rfl, HN⟩ := hrel
              rcases (by omega : ((q = 0 ∧ qi = 0) ∨ (q = 1 ∧ qi = 1) ∨ (q = 2 ∧ qi = 2) ∨ (q = 3 ∧ qi = 3) ∨ (q = 4 ∧ qi = 4)) ∨ (q = 5 ∧ qi = 5)) with h5 | ⟨rfl, rfl⟩
              · have hsl := sbK_lt v q hvl (by omega)
                rcases h5 with ⟨rfl, rfl⟩ | ⟨rfl, rfl⟩ | ⟨rfl, rfl⟩ | ⟨rfl, rfl⟩ | ⟨rfl, rfl⟩
                all_goals
                  clear hq
                · have HST : bits .xor .u8 (sbK v 0 : Int) (bits .or .u8 (v : Int) ((v : Int) / 256)) = (sbK v 1 : Int) := by
                    have h := HSB.out 0 (by omega)
                    rw [show ((v * 2 ^ 0 % 256 : Nat) : Int) = (v : Int) by omega, show ((v / 2 ^ (8 - 0) : Nat) : Int) = ((v : Int) / 256) by omega] at h
                    exact h
                  obtain ⟨s0, hs0⟩ : ∃ x, sbK v 0 = x := ⟨_, rfl⟩
                  obtain ⟨s1, hs1⟩ : ∃ x, sbK v 1 = x := ⟨_, rfl⟩
                  have HS1 := Lib.hid hs1
                  rw [hs0, hs1] at HST
                  rw [hs0]
                  clear hs0 hs1
                  go_wp2_with fail
                  go_quiet (fail)
                  go_wp2_with fail
                  go_roundw
                  case rel => exact ⟨1, 1, by omega, rfl, by rw [HS1.out], Lib.hid (HN.out.drewN _)⟩
                  case measure => simp [intOf]
                · have HST : bits .xor .u8 (sbK v 1 : Int) (bits .or .u8 ((v : Int) * 2 % 256) ((v : Int) / 128)) = (sbK v 2 : Int) := by
                    have h := HSB.out 1 (by omega)
                    rw [show ((v * 2 ^ 1 % 256 : Nat) : Int) = ((v : Int) * 2 % 256) by omega, show ((v / 2 ^ (8 - 1) : Nat) : Int) = ((v : Int) / 128) by omega] at h
                    exact h
                  obtain ⟨s0, hs0⟩ : ∃ x, sbK v 1 = x := ⟨_, rfl⟩
                  obtain ⟨s1, hs1⟩ : ∃ x, sbK v 2 = x := ⟨_, rfl⟩
                  have HS1 := Lib.hid hs1
                  rw [hs0, hs1] at HST
                  rw [hs0]
                  clear hs0 hs1
                  go_wp2_with fail
                  go_quiet (fail)
                  go_wp2_with fail
                  go_roundw
                  case rel => exact ⟨2, 2, by omega, rfl, by rw [HS1.out], Lib.hid (HN.out.drewN _)⟩
                  case measure => simp [intOf]
                · have HST : bits .xor .u8 (sbK v 2 : Int) (bits .or .u8 ((v : Int) * 4 % 256) ((v : Int) / 64)) = (sbK v 3 : Int) := by
                    have h := HSB.out 2 (by omega)
                    rw [show ((v * 2 ^ 2 % 256 : Nat) : Int) = ((v : Int) * 4 % 256) by omega, show ((v / 2 ^ (8 - 2) : Nat) : Int) = ((v : Int) / 64) by omega] at h
                    exact h
                  obtain ⟨s0, hs0⟩ : ∃ x, sbK v 2 = x := ⟨_, rfl⟩
                  obtain ⟨s1, hs1⟩ : ∃ x, sbK v 3 = x := ⟨_, rfl⟩
                  have HS1 := Lib.hid hs1
                  rw [hs0, hs1] at HST
                  rw [hs0]
                  clear hs0 hs1
                  go_wp2_with fail
                  go_quiet (fail)
                  go_wp2_with fail
                  go_roundw
                  case rel => exact ⟨3, 3, by omega, rfl, by rw [HS1.out], Lib.hid (HN.out.drewN _)⟩
                  case measure => simp [intOf]
                · have HST : bits .xor .u8 (sbK v 3 : Int) (bits .or .u8 ((v : Int) * 8 % 256) ((v : Int) / 32)) = (sbK v 4 : Int) := by
                    have h := HSB.out 3 (by omega)
                    rw [show ((v * 2 ^ 3 % 256 : Nat) : Int) = ((v : Int) * 8 % 256) by omega, show ((v / 2 ^ (8 - 3) : Nat) : Int) = ((v : Int) / 32) by omega] at h
                    exact h
                  obtain ⟨s0, hs0⟩ : ∃ x, sbK v 3 = x := ⟨_, rfl⟩
                  obtain ⟨s1, hs1⟩ : ∃ x, sbK v 4 = x := ⟨_, rfl⟩
                  have HS1 := Lib.hid hs1
                  rw [hs0, hs1] at HST
                  rw [hs0]
                  clear hs0 hs1
                  go_wp2_with fail
                  go_quiet (fail)
                  go_wp2_with fail
                  go_roundw
                  case rel => exact ⟨4, 4, by omega, rfl, by rw [HS1.out], Lib.hid (HN.out.drewN _)⟩
                  case measure => simp [intOf]
                · have HST : bits .xor .u8 (sbK v 4 : Int) (bits .or .u8 ((v : Int) * 16 % 256) ((v : Int) / 16)) = (sbK v 5 : Int) := by
                    have h := HSB.out 4 (by omega)
                    rw [show ((v * 2 ^ 4 % 256 : Nat) : Int) = ((v : Int) * 16 % 256) by omega, show ((v / 2 ^ (8 - 4) : Nat) : Int) = ((v : Int) / 16) by omega] at h
                    exact h
                  obtain ⟨s0, hs0⟩ : ∃ x, sbK v 4 = x := ⟨_, rfl⟩
                  obtain ⟨s1, hs1⟩ : ∃ x, sbK v 5 = x := ⟨_, rfl⟩
                  have HS1 := Lib.hid hs1
                  rw [hs0, hs1] at HST
                  rw [hs0]
                  clear hs0 hs1
                  go_wp2_with fail
                  go_quiet (fail)
                  go_wp2_with fail
                  go_roundw
                  case rel => exact ⟨5, 5, by omega, rfl, by rw [HS1.out], Lib.hid (HN.out.drewN _)⟩
                  case measure => simp [intOf]
              · obtain ⟨T, hT, -, -, hT3⟩ := HN.out.t
                have e1 := (hT3.cell k).trans (u8s_get' T k (by omega))
                have f1 := hT3.frozen k
                have HN2 := Lib.hid (HN.out.box hlt)
                obtain ⟨s5, hs5⟩ : ∃ x, sbK v 5 = x := ⟨_, rfl⟩
                rw [HBX.out, hs5] at HN2
                rw [hs5]
                clear hs5 hT hT3 hq HN
                go_wp2_with fail
                go_roundw
                case rel => exact ⟨k + 1, by omega, by go_num, HN2⟩
                case measure => simp [intOf]; omega
          · have hk0 : k = 0 := by omega
            obtain rfl : v = 0 := by rw [← HV.out, hk0]; rfl
            have t1 : ((k : Int) != 0) = false := by simp [hk0]
            have t2 : ((k : Int) == 0) = true := by simp [hk0]
            clear HDB hv hk0
            go_wp2_with fail
            clear t1 t2
            go_loopw [9, 48] (fun o j wr => ∃ (q : Nat) (qi : Int), ((q = 0 ∧ qi = 0) ∨ (q = 1 ∧ qi = 1) ∨ (q = 2 ∧ qi = 2) ∨ (q = 3 ∧ qi = 3) ∨ (q = 4 ∧ qi = 4) ∨ (q = 5 ∧ qi = 5)) ∧ j = .int .i64 qi ∧ o = .int .u8 (sbK 0 q : Int) ∧ Hid (Bd2 w k (k + 1) wr)) (fun _ j _ => 5 - (intOf j).toNat)
            case atStart => exact ⟨0, 0, .inl ⟨rfl, rfl⟩, rfl, rfl, HN⟩
            case round =>
              clear HN
              obtain ⟨q, qi, hq, rfl, rfl, HN⟩ := hrel
              rcases (by omega : ((q = 0 ∧ qi = 0) ∨ (q = 1 ∧ qi = 1) ∨ (q = 2 ∧ qi = 2) ∨ (q = 3 ∧ qi = 3) ∨ (q = 4 ∧ qi = 4)) ∨ (q = 5 ∧ qi = 5)) with h5 | ⟨rfl, rfl⟩
              · have hsl := sbK_lt 0 q (by omega) (by omega)
                rcases h5 with ⟨rfl, rfl⟩ | ⟨rfl, rfl⟩ | ⟨rfl, rfl⟩ | ⟨rfl, rfl⟩ | ⟨rfl, rfl⟩
                all_goals
                  clear hq
                · have HST : bits .xor .u8 (sbK 0 0 : Int) (bits .or .u8 0 0) = (sbK 0 1 : Int) := HSB.out 0 (by omega)
                  obtain ⟨s0, hs0⟩ : ∃ x, sbK 0 0 = x := ⟨_, rfl⟩
                  obtain ⟨s1, hs1⟩ : ∃ x, sbK 0 1 = x := ⟨_, rfl⟩
                  have HS1 := Lib.hid hs1
                  rw [hs0, hs1] at HST
                  rw [hs0]
                  clear hs0 hs1
                  go_wp2_with fail
                  go_quiet (fail)
                  go_wp2_with fail
                  go_roundw
                  case rel => exact ⟨1, 1, by omega, rfl, by rw [HS1.out], Lib.hid (HN.out.drewN _)⟩
                  case measure => simp [intOf]
                · have HST : bits .xor .u8 (sbK 0 1 : Int) (bits .or .u8 0 0) = (sbK 0 2 : Int) := HSB.out 1 (by omega)
                  obtain ⟨s0, hs0⟩ : ∃ x, sbK 0 1 = x := ⟨_, rfl⟩
                  obtain ⟨s1, hs1⟩ : ∃ x, sbK 0 2 = x := ⟨_, rfl⟩
                  have HS1 := Lib.hid hs1
                  rw [hs0, hs1] at HST
                  rw [hs0]
                  clear hs0 hs1
                  go_wp2_with fail
                  go_quiet (fail)
                  go_wp2_with fail
                  go_roundw
                  case rel => exact ⟨2, 2, by omega, rfl, by rw [HS1.out], Lib.hid (HN.out.drewN _)⟩
                  case measure => simp [intOf]
                · have HST : bits .xor .u8 (sbK 0 2 : Int) (bits .or .u8 0 0) = (sbK 0 3 : Int) := HSB.out 2 (by omega)
                  obtain ⟨s0, hs0⟩ : ∃ x, sbK 0 2 = x := ⟨_, rfl⟩
                  obtain ⟨s1, hs1⟩ : ∃ x, sbK 0 3 = x := ⟨_, rfl⟩
                  have HS1 := Lib.hid hs1
                  rw [hs0, hs1] at HST
                  rw [hs0]
                  clear hs0 hs1
                  go_wp2_with fail
                  go_quiet (fail)
                  go_wp2_with fail
                  go_roundw
                  case rel => exact ⟨3, 3, by omega, rfl, by rw [HS1.out], Lib.hid (HN.out.drewN _)⟩
                  case measure => simp [intOf]
                · have HST : bits .xor .u8 (sbK 0 3 : Int) (bits .or .u8 0 0) = (sbK 0 4 : Int) := HSB.out 3 (by omega)
                  obtain ⟨s0, hs0⟩ : ∃ x, sbK 0 3 = x := ⟨_, rfl⟩
                  obtain ⟨s1, hs1⟩ : ∃ x, sbK 0 4 = x := ⟨_, rfl⟩
                  have HS1 := Lib.hid hs1
                  rw [hs0, hs1] at HST
                  rw [hs0]
                  clear hs0 hs1
                  go_wp2_with fail
                  go_quiet (fail)
                  go_wp2_with fail
                  go_roundw
                  case rel => exact ⟨4, 4, by omega, rfl, by rw [HS1.out], Lib.hid (HN.out.drewN _)⟩
                  case measure => simp [intOf]
                · have HST : bits .xor .u8 (sbK 0 4 : Int) (bits .or .u8 0 0) = (sbK 0 5 : Int) := HSB.out 4 (by omega)
                  obtain ⟨s0, hs0⟩ : ∃ x, sbK 0 4 = x := ⟨_, rfl⟩
                  obtain ⟨s1, hs1⟩ : ∃ x, sbK 0 5 = x := ⟨_, rfl⟩
                  have HS1 := Lib.hid hs1
                  rw [hs0, hs1] at HST
                  rw [hs0]
                  clear hs0 hs1
                  go_wp2_with fail
                  go_quiet (fail)
                  go_wp2_with fail
                  go_roundw
                  case rel => exact ⟨5, 5, by omega, rfl, by rw [HS1.out], Lib.hid (HN.out.drewN _)⟩
                  case measure => simp [intOf]
              · obtain ⟨T, hT, -, -, hT3⟩ := HN.out.t
                have e1 := (hT3.cell k).trans (u8s_get' T k (by omega))
                have f1 := hT3.frozen k
                have HN2 := Lib.hid (HN.out.box hlt)
                obtain ⟨s5, hs5⟩ : ∃ x, sbK 0 5 = x := ⟨_, rfl⟩
                rw [HBX.out, hs5] at HN2
                rw [hs5]
                clear hs5 hT hT3 hq HN
                go_wp2_with fail
                go_roundw
                case rel => exact ⟨k + 1, by omega, by go_num, HN2⟩
                case measure => simp [intOf]; omega
        · obtain rfl : k = 256 := by omega
          go_wp2_with fail
          go_ret
          exact ⟨_, rfl, Nat.le_refl _, HR.out.done, HR.out.x⟩
end Go.Proofs.Ytmbbkkonmkbnoaa
namespace Go.Proofs.Ytmbbkkonmkbnoaa
open Go.RowKit Go.Deep Ae
theorem IsT.box {w : World} {g : Nat} (h : IsT w g) (c : UInt8) : w.cell? ⟨g, c.toNat, none⟩ = some (.int .u8 ((bx c).toNat : Int)) := by
  rw [h.cell, List.getElem?_toArray]; unfold u8s; rw [List.getElem?_map, tbl_box]; rfl
theorem IsT.two {w : World} {g : Nat} (h : IsT w g) (c : UInt8) : w.cell? ⟨g, 256 + c.toNat, none⟩ = some (.int .u8 ((db c).toNat : Int)) := by
  rw [h.cell, List.getElem?_toArray]; unfold u8s; rw [List.getElem?_map, tbl_two]; rfl
/-- A cipher's block: its table, its rounds' keys. -/
def ciC (tg : Nat) (K : List UInt8) : Array Value := (pB tg :: u8s K).toArray
structure IsC (w : World) (g tg : Nat) (K : List UInt8) : Prop where
  c : Blk w g 235 (ciC tg K)
  t : IsT w tg
  k : K.length = 240
theorem IsC.no {w w' : World} {g tg : Nat} {K : List UInt8} (h : IsC w g tg K) (hx : Ext No w w') : IsC w' g tg K := ⟨h.c.ext_no hx, h.t.ext_no hx, h.k⟩
theorem IsC.tab {w : World} {g tg : Nat} {K : List UInt8} (h : IsC w g tg K) : w.cell? ⟨g, 0, none⟩ = some (pB tg) := h.c.cell 0
theorem IsC.key {w : World} {g tg : Nat} {K : List UInt8} (h : IsC w g tg K) (i : Nat) (hi : i < 240) : w.cell? ⟨g, 1 + i, none⟩ = some (.int .u8 ((K.getD i 0).toNat : Int)) := by
  rw [h.c.cell, ← u8s_get' K i (by rw [h.k]; exact hi)]
  unfold ciC
  rw [List.getElem?_toArray, List.getElem?_toArray, Nat.add_comm, List.getElem?_cons_succ]
/-- Within a loop over a block's bytes: the first so many are done. -/
def upto (b r : List UInt8) (n : Nat) : List UInt8 := r.take n ++ b.drop n
theorem upto_length (b r : List UInt8) (n : Nat) (hb : b.length = 16) (hr : r.length = 16) : (upto b r n).length = 16 := by
  unfold upto; rw [List.length_append, List.length_take, List.length_drop]; omega
theorem upto_zero (b r : List UInt8) : upto b r 0 = b := by simp [upto]
theorem upto_all (b r : List UInt8) (hb : b.length = 16) (hr : r.length = 16) : upto b r 16 = r := by
  unfold upto; rw [List.take_of_length_le (by omega), List.drop_of_length_le (by omega), List.append_nil]
theorem upto_get (b r : List UInt8) (n : Nat) (hb : b.length = 16) (hr : r.length = 16) (hn : n < 16) : (upto b r n).getD n 0 = b.getD n 0 := by
  unfold upto
  rw [List.getD_eq_getElem?_getD, List.getD_eq_getElem?_getD, List.getElem?_append_right (by rw [List.length_take]; omega), List.length_take, List.getElem?_drop]
  congr 2; omega
theorem upto_set (b r : List UInt8) (n : Nat) (hb : b.length = 16) (hr : r.length = 16) (hn : n < 16) : (upto b r n).set n (r.getD n 0) = upto b r (n + 1) := by
  unfold upto
  rw [List.set_append_right _ _ (by rw [List.length_take]; omega), List.length_take, Nat.min_eq_left (by omega), Nat.sub_self, List.take_succ_eq_append_getElem (by omega), List.append_assoc, List.drop_eq_getElem_cons (by omega : n < b.length), List.set_cons_zero, List.singleton_append, List.getD_eq_getElem?_getD, List.getElem?_eq_getElem (by omega)]
  rfl
theorem und_16 : Try.prog.underlying 203 = some (.array 16 5) := by kernel_rfl
theorem size_16 : (Try.prog.info? 203).map (·.size) = some 16 := by kernel_rfl
theorem xr_get (a b : List UInt8) (i : Nat) (ha : a.length = 16) (hb : b.length = 16) (hi : i < 16) : (xr a b).getD i 0 = a.getD i 0 ^^^ b.getD i 0 := by
  unfold xr
  rw [List.getD_eq_getElem?_getD, List.getD_eq_getElem?_getD, List.getD_eq_getElem?_getD, List.getElem?_zipWith, List.getElem?_eq_getElem (by omega), List.getElem?_eq_getElem (by omega)]
  rfl
theorem rk_get (K : List UInt8) (r i : Nat) (hi : i < 16) : (rk K r).getD i 0 = K.getD (r * 16 + i) 0 := by
  unfold rk
  rw [List.getD_eq_getElem?_getD, List.getD_eq_getElem?_getD, List.getElem?_take_of_lt hi, List.getElem?_drop, Nat.mul_comm]
/-- A block of the call's own beside its result. -/
structure Two16 (w0 : World) (A B : List UInt8) (w : World) : Prop where
  a : Blk w w0.heap.size 203 (u8s A).toArray
  b : Blk w (w0.heap.size + 1) 203 (u8s B).toArray
  x : Ext No w0 w
theorem Two16.new (w : World) (A B : List UInt8) : Two16 w A B ((w.alloc (.cells (u8s A).toArray 203)).alloc (.cells (u8s B).toArray 203)) := by
  refine ⟨(Blk.new w _ _).alloc _, ?_, ((Ext.refl No w).alloc _).alloc _⟩
  have := Blk.new (w.alloc (.cells (u8s A).toArray 203)) 203 (u8s B).toArray
  rwa [World.size_alloc] at this
theorem Two16.drew {w0 w : World} {A B : List UInt8} (h : Two16 w0 A B w) : Two16 w0 A B w.drew := ⟨h.a, h.b, h.x.drew⟩
theorem Two16.drewN {w0 w : World} {A B : List UInt8} (h : Two16 w0 A B w) (n : Nat) : Two16 w0 A B (w.drewN n) := ⟨h.a, h.b, h.x.drewN n⟩
theorem Two16.setA {w0 w : World} {A B : List UInt8} (h : Two16 w0 A B w) (i : Nat) (c : UInt8) : Two16 w0 (A.set i c) B (w.setCell ⟨w0.heap.size, i, none⟩ (.int .u8 (c.toNat : Int))) := by
  have := Blk.set_ h.a i (.int .u8 (c.toNat : Int))
  rw [u8s_set] at this
  exact ⟨this, h.b.far (by simp) _, Ext.setCell h.x (fun h => by have h : w0.heap.size < w0.heap.size := h; omega) _⟩
set_option maxRecDepth 100000 in
set_option maxHeartbeats 1000000 in
theorem aAdd_any (g tg : Nat) (K b : List UInt8) (r : Nat) (w : World) (h : IsC w g tg K) (hb : b.length = 16) (hr : r < 15) : Calls Try.prog 156 #[pB g, .agg (u8s b).toArray, .int .i64 (r : Int)] w fun e w' => e = .returned (.agg (u8s (xr b (rk K r))).toArray) ∧ Ext No w w' := by
  have HC := Lib.hid h
  obtain ⟨R, hR⟩ : ∃ R, xr b (rk K r) = R := ⟨_, rfl⟩
  have HRL : Hid (R.length = 16) := Lib.hid (by rw [← hR, xr_length, rk_length _ _ h.k hr, hb]; rfl)
  have HRG : Hid (∀ i, i < 16 → R.getD i 0 = b.getD i 0 ^^^ K.getD (r * 16 + i) 0) := Lib.hid (fun i hi => by rw [← hR, xr_get _ _ _ hb (rk_length _ _ h.k hr) hi, rk_get _ _ _ hi])
  rw [hR]
  have HB := Lib.hid hb
  clear hR h hb
  go_enter Try.func156, Try.ntmps156
  go_wp2_with fail
  change Code.wp _ _ _ _ ((w.alloc (.cells (u8s b).toArray 203)).alloc (.cells (u8s (List.replicate 16 0)).toArray 203))
  have HS : Hid (Two16 w (upto b R 0) (List.replicate 16 0) ((w.alloc (.cells (u8s b).toArray 203)).alloc (.cells (u8s (List.replicate 16 0)).toArray 203))) := Lib.hid (by rw [upto_zero]; exact Two16.new w _ _)
  generalize (w.alloc (.cells (u8s b).toArray 203)).alloc (.cells (u8s (List.replicate 16 0)).toArray 203) = w1 at *
  go_loopw [8] (fun i wr => ∃ k : Nat, k ≤ 16 ∧ i = .int .i64 (k : Int) ∧ Hid (Two16 w (upto b R k) (List.replicate 16 0) wr)) (fun i _ => 16 - (intOf i).toNat)
  case atStart => exact ⟨0, by omega, rfl, HS⟩
  case round =>
    clear HS
    obtain ⟨k, hk, rfl, HR⟩ := hrel
    by_cases hlt : k < 16
    · have hbl : k < (upto b R k).length := by rw [upto_length _ _ _ HB.out HRL.out]; exact hlt
      have e1 : wr.drew.cell? ⟨w.heap.size, k, none⟩ = _ := (HR.out.a.cell k).trans (u8s_get' _ k hbl)
      rw [upto_get _ _ _ HB.out HRL.out hlt] at e1
      have f1 : wr.drew.frozen? ⟨w.heap.size, k, none⟩ = _ := HR.out.a.frozen k
      have e2 : wr.drew.cell? ⟨g, 1 + (r * 16 + k), none⟩ = _ := (HC.out.no HR.out.x).key (r * 16 + k) (by omega)
      rw [← Nat.add_assoc] at e2
      have HN := Lib.hid (HR.out.drew.setA k (R.getD k 0))
      have HX := HRG.out k hlt
      have HST := Lib.hid (upto_set b R k HB.out HRL.out hlt)
      rw [HST.out] at HN
      obtain ⟨a, ha⟩ : ∃ a, b.getD k 0 = a := ⟨_, rfl⟩
      obtain ⟨y, hy⟩ : ∃ y, K.getD (r * 16 + k) 0 = y := ⟨_, rfl⟩
      rw [ha] at e1
      rw [hy] at e2
      rw [HX, ha, hy] at HN
      have hxy := xor_u8 a y
      obtain ⟨z, hz⟩ : ∃ z, a ^^^ y = z := ⟨_, rfl⟩
      rw [hz] at hxy HN
      clear HX ha hy hz HST HR hbl
      have hr1 : (r : Int) < 15 := by omega
      go_wp2_with fail
      go_still_tail 13, (by kernel_rfl)
      change wpList _ _ _ _ _ wr.drew
      generalize wr.drew = w2 at *
      go_wp2_with fail
      go_roundw
      case rel => exact ⟨k + 1, by omega, by go_num, HN⟩
      case measure => simp [intOf]; omega
    · obtain rfl : k = 16 := by omega
      have HD : Hid (Two16 w R (List.replicate 16 0) wr) := Lib.hid (by have := HR.out; rwa [upto_all _ _ HB.out HRL.out] at this)
      have HSZ : Hid ((u8s R).toArray.size = 16) := Lib.hid (by rw [List.size_toArray, u8s_length, HRL.out])
      clear HR HC
      go_wp2_with (first
        | ((with_reducible show wpList _ _ _ (⟨some 25, _, _, _, _, _⟩ :: _) _ _); refine load_blk 203 (.tmp 4) rfl rfl HD.out.a rfl _ und_16 rfl (by rw [HSZ.out]; exact size_16) ?_)
        | ((with_reducible show wpList _ _ _ (⟨none, _, _, _, _, _⟩ :: _) _ _); refine store_blk 203 (.tmp 6) (.tmp 25) rfl rfl HD.out.b rfl rfl (by rw [HSZ.out]; rfl) (by rw [HSZ.out]; exact size_16) (u8s_one' _) ?_; intro w3 hb3 hx3; have HB3 := Lib.hid hb3; have HX3 := Lib.hid (HD.out.x.transS hx3 (fun i hi h => absurd hi (by have h' : i = w.heap.size + 1 := h; omega))); clear hb3 hx3))
      exact bodyPost_ret (v := .agg (u8s R).toArray) (ret_blk rfl HB3.out rfl _ und_16 rfl (by rw [HSZ.out]; exact size_16)) rfl ⟨rfl, HX3.out⟩
/-- A block of the call's own, its result, and another. -/
structure Three16 (w0 : World) (A B O : List UInt8) (w : World) : Prop where
  a : Blk w w0.heap.size 203 (u8s A).toArray
  b : Blk w (w0.heap.size + 1) 203 (u8s B).toArray
  o : Blk w (w0.heap.size + 1 + 1) 203 (u8s O).toArray
  x : Ext No w0 w
theorem Three16.new (w : World) (A B O : List UInt8) : Three16 w A B O (((w.alloc (.cells (u8s A).toArray 203)).alloc (.cells (u8s B).toArray 203)).alloc (.cells (u8s O).toArray 203)) := by
  have h := Two16.new w A B
  refine ⟨h.a.alloc _, h.b.alloc _, ?_, h.x.alloc _⟩
  have := Blk.new ((w.alloc (.cells (u8s A).toArray 203)).alloc (.cells (u8s B).toArray 203)) 203 (u8s O).toArray
  rwa [World.size_alloc, World.size_alloc] at this
theorem Three16.drew {w0 w : World} {A B O : List UInt8} (h : Three16 w0 A B O w) : Three16 w0 A B O w.drew := ⟨h.a, h.b, h.o, h.x.drew⟩
theorem Three16.drewN {w0 w : World} {A B O : List UInt8} (h : Three16 w0 A B O w) (n : Nat) : Three16 w0 A B O (w.drewN n) := ⟨h.a, h.b, h.o, h.x.drewN n⟩
theorem Three16.setO {w0 w : World} {A B O : List UInt8} (h : Three16 w0 A B O w) (i : Nat) (c : UInt8) : Three16 w0 A B (O.set i c) (w.setCell ⟨w0.heap.size + 1 + 1, i, none⟩ (.int .u8 (c.toNat : Int))) := by
  have := Blk.set_ h.o i (.int .u8 (c.toNat : Int))
  rw [u8s_set] at this
  exact ⟨h.a.far (by simp; omega) _, h.b.far (by simp) _, this, Ext.setCell h.x (fun h => by have h : w0.heap.size + 1 + 1 < w0.heap.size := h; omega) _⟩
theorem shf_get (b : List UInt8) (k : Nat) (h : k < 16) : (shf b).getD k 0 = bx (b.getD ((k + 4 * (k % 4)) % 16) 0) := by
  unfold shf
  rw [List.getD_eq_getElem?_getD, List.getElem?_map, List.getElem?_range h]
  rfl
set_option maxRecDepth 100000 in
set_option maxHeartbeats 1000000 in
theorem aShift_any (g tg : Nat) (K b : List UInt8) (w : World) (h : IsC w g tg K) (hb : b.length = 16) : Calls Try.prog 158 #[pB g, .agg (u8s b).toArray] w fun e w' => e = .returned (.agg (u8s (shf b)).toArray) ∧ Ext No w w' := by
  have HC := Lib.hid h
  have HRG := Lib.hid (shf_get b)
  have hrl := shf_length b
  obtain ⟨R, hR⟩ : ∃ R, shf b = R := ⟨_, rfl⟩
  rw [hR] at HRG hrl ⊢
  have HRL := Lib.hid hrl
  have HB := Lib.hid hb
  clear hR h hb hrl
  obtain ⟨Z, hZ⟩ : ∃ Z : List UInt8, List.replicate 16 0 = Z := ⟨_, rfl⟩
  have HZL : Hid (Z.length = 16) := Lib.hid (by rw [← hZ, List.length_replicate])
  have HS : Hid (Three16 w b (List.replicate 16 0) (upto Z R 0) (((w.alloc (.cells (u8s b).toArray 203)).alloc (.cells (u8s (List.replicate 16 0)).toArray 203)).alloc (.cells (u8s (List.replicate 16 0)).toArray 203))) := Lib.hid (by rw [upto_zero, ← hZ]; exact Three16.new w _ _ _)
  clear hZ
  go_enter Try.func158, Try.ntmps158
  go_wp2_with fail
  change Code.wp _ _ _ _ (((w.alloc (.cells (u8s b).toArray 203)).alloc (.cells (u8s (List.replicate 16 0)).toArray 203)).alloc (.cells (u8s (List.replicate 16 0)).toArray 203))
  generalize ((w.alloc (.cells (u8s b).toArray 203)).alloc (.cells (u8s (List.replicate 16 0)).toArray 203)).alloc (.cells (u8s (List.replicate 16 0)).toArray 203) = w1 at *
  go_loopw [7] (fun i wr => ∃ k : Nat, k ≤ 16 ∧ i = .int .i64 (k : Int) ∧ Hid (Three16 w b (List.replicate 16 0) (upto Z R k) wr)) (fun i _ => 16 - (intOf i).toNat)
  case atStart => exact ⟨0, by omega, rfl, HS⟩
  case round =>
    clear HS
    obtain ⟨k, hk, rfl, HR⟩ := hrel
    by_cases hlt : k < 16
    · have HG := HRG.out k hlt
      obtain ⟨k4, hk4⟩ : ∃ x, k % 4 = x := ⟨_, rfl⟩
      obtain ⟨p, hp⟩ : ∃ x, 4 * k4 = x := ⟨_, rfl⟩
      obtain ⟨s, hs⟩ : ∃ x, k + p = x := ⟨_, rfl⟩
      obtain ⟨m, hm⟩ : ∃ x, s % 16 = x := ⟨_, rfl⟩
      rw [hk4, hp, hs, hm] at HG
      have hml : m < 16 := by omega
      have i1 : ((k : Int)).tmod 4 = (k4 : Int) := by rw [Int.tmod_eq_emod_of_nonneg (by omega)]; omega
      have i2 : IntKind.i64.wrap (4 * (k4 : Int)) = (p : Int) := by rw [IntKind.wrap_i64]; omega
      have i3 : IntKind.i64.wrap ((k : Int) + (p : Int)) = (s : Int) := by rw [IntKind.wrap_i64]; omega
      have i4 : ((s : Int)).tmod 16 = (m : Int) := by rw [Int.tmod_eq_emod_of_nonneg (by omega)]; omega
      have hmi : (m : Int) < 16 := by omega
      have e0 : wr.drew.cell? ⟨g, 0, none⟩ = _ := (HC.out.no HR.out.x).tab
      have e1 : wr.drew.cell? ⟨w.heap.size, m, none⟩ = _ := (HR.out.a.cell m).trans (u8s_get' _ m (by rw [HB.out]; exact hml))
      have hol : k < (upto Z R k).length := by rw [upto_length _ _ _ HZL.out HRL.out]; exact hlt
      have e2 : wr.drew.cell? ⟨w.heap.size + 1 + 1, k, none⟩ = _ := (HR.out.o.cell k).trans (u8s_get' _ k hol)
      have f2 : wr.drew.frozen? ⟨w.heap.size + 1 + 1, k, none⟩ = _ := HR.out.o.frozen k
      have HN := Lib.hid (HR.out.drew.setO k (R.getD k 0))
      rw [upto_set Z R k HZL.out HRL.out hlt, HG] at HN
      obtain ⟨a, ha⟩ : ∃ a, b.getD m 0 = a := ⟨_, rfl⟩
      rw [ha] at e1 HN
      have e3 : wr.drew.cell? ⟨tg, a.toNat, none⟩ = _ := (HC.out.no HR.out.x).t.box a
      have hal : (a.toNat : Int) < 256 := by have := a.toNat_lt; omega
      obtain ⟨y, hy⟩ : ∃ y, bx a = y := ⟨_, rfl⟩
      rw [hy] at e3 HN
      clear HG hk4 hp hs hm ha hy HR hol
      go_wp2_with fail
      go_still_tail 18, (by kernel_rfl)
      change wpList _ _ _ _ _ wr.drew
      generalize wr.drew = w2 at *
      go_wp2_with fail
      go_roundw
      case rel => exact ⟨k + 1, by omega, by go_num, HN⟩
      case measure => simp [intOf]; omega
    · obtain rfl : k = 16 := by omega
      have HD : Hid (Three16 w b (List.replicate 16 0) R wr) := Lib.hid (by have := HR.out; rwa [upto_all _ _ HZL.out HRL.out] at this)
      have HSZ : Hid ((u8s R).toArray.size = 16) := Lib.hid (by rw [List.size_toArray, u8s_length, HRL.out])
      clear HR HC
      go_wp2_with (first
        | ((with_reducible show wpList _ _ _ (⟨some 29, _, _, _, _, _⟩ :: _) _ _); refine load_blk 203 (.tmp 5) rfl rfl HD.out.o rfl _ und_16 rfl (by rw [HSZ.out]; exact size_16) ?_)
        | ((with_reducible show wpList _ _ _ (⟨none, _, _, _, _, _⟩ :: _) _ _); refine store_blk 203 (.tmp 4) (.tmp 29) rfl rfl HD.out.b rfl rfl (by rw [HSZ.out]; rfl) (by rw [HSZ.out]; exact size_16) (u8s_one' _) ?_; intro w3 hb3 hx3; have HB3 := Lib.hid hb3; have HX3 := Lib.hid (HD.out.x.transS hx3 (fun i hi h => absurd hi (by have h' : i = w.heap.size + 1 := h; omega))); clear hb3 hx3))
      exact bodyPost_ret (v := .agg (u8s R).toArray) (ret_blk rfl HB3.out rfl _ und_16 rfl (by rw [HSZ.out]; exact size_16)) rfl ⟨rfl, HX3.out⟩
end Go.Proofs.Ytmbbkkonmkbnoaa
namespace Go.Proofs.Ytmbbkkonmkbnoaa
open Go.RowKit Go.Deep Ae
theorem mix_get (b : List UInt8) (i k : Nat) (h4 : i % 4 = 0) (hi : i < 16) (hk : k < 4) : (mix b).getD (i + k) 0 = mxa b i k := by
  unfold mix
  rw [List.getD_eq_getElem?_getD, List.getElem?_map, List.getElem?_range (by omega)]
  show mxa b (4 * ((i + k) / 4)) ((i + k) % 4) = _
  rw [show 4 * ((i + k) / 4) = i by omega, show (i + k) % 4 = k by omega]
set_option maxRecDepth 100000 in
set_option maxHeartbeats 1000000 in
theorem aMix_any (g tg : Nat) (K b : List UInt8) (w : World) (h : IsC w g tg K) (hb : b.length = 16) : Calls Try.prog 157 #[pB g, .agg (u8s b).toArray] w fun e w' => e = .returned (.agg (u8s (mix b)).toArray) ∧ Ext No w w' := by
  have HC := Lib.hid h
  have HRG := Lib.hid (mix_get b)
  have hrl := mix_length b
  obtain ⟨R, hR⟩ : ∃ R, mix b = R := ⟨_, rfl⟩
  rw [hR] at HRG hrl ⊢
  have HRL := Lib.hid hrl
  have HB := Lib.hid hb
  clear hR h hb hrl
  obtain ⟨Z, hZ⟩ : ∃ Z : List UInt8, List.replicate 16 0 = Z := ⟨_, rfl⟩
  have HZL : Hid (Z.length = 16) := Lib.hid (by rw [← hZ, List.length_replicate])
  have HS : Hid (Three16 w b (List.replicate 16 0) (upto Z R 0) (((w.alloc (.cells (u8s b).toArray 203)).alloc (.cells (u8s (List.replicate 16 0)).toArray 203)).alloc (.cells (u8s (List.replicate 16 0)).toArray 203))) := Lib.hid (by rw [upto_zero, ← hZ]; exact Three16.new w _ _ _)
  clear hZ
  go_enter Try.func157, Try.ntmps157
  go_wp2_with fail
  change Code.wp _ _ _ _ (((w.alloc (.cells (u8s b).toArray 203)).alloc (.cells (u8s (List.replicate 16 0)).toArray 203)).alloc (.cells (u8s (List.replicate 16 0)).toArray 203))
  generalize ((w.alloc (.cells (u8s b).toArray 203)).alloc (.cells (u8s (List.replicate 16 0)).toArray 203)).alloc (.cells (u8s (List.replicate 16 0)).toArray 203) = w1 at *
  go_loopw [6] (fun i wr => ∃ k : Nat, k ≤ 16 ∧ k % 4 = 0 ∧ i = .int .i64 (k : Int) ∧ Hid (Three16 w b (List.replicate 16 0) (upto Z R k) wr)) (fun i _ => 16 - (intOf i).toNat)
  case atStart => exact ⟨0, by omega, rfl, rfl, HS⟩
  case round =>
    clear HS
    obtain ⟨i, hi, hi4, rfl, HR⟩ := hrel
    by_cases hlt : i < 16
    · obtain ⟨i1, hi1⟩ : ∃ x, i + 1 = x := ⟨_, rfl⟩
      obtain ⟨i2, hi2⟩ : ∃ x, i + 2 = x := ⟨_, rfl⟩
      obtain ⟨i3, hi3⟩ : ∃ x, i + 3 = x := ⟨_, rfl⟩
      have t1 : IntKind.i64.wrap ((i : Int) + 1) = (i1 : Int) := by rw [IntKind.wrap_i64]; omega
      have t2 : IntKind.i64.wrap ((i : Int) + 2) = (i2 : Int) := by rw [IntKind.wrap_i64]; omega
      have t3 : IntKind.i64.wrap ((i : Int) + 3) = (i3 : Int) := by rw [IntKind.wrap_i64]; omega
      have l1 : (i1 : Int) < 16 := by omega
      have l2 : (i2 : Int) < 16 := by omega
      have l3 : (i3 : Int) < 16 := by omega
      have hbl := HB.out
      have e0 : wr.cell? ⟨w.heap.size, i, none⟩ = _ := (HR.out.a.cell i).trans (u8s_get' _ i (by omega))
      have e1 : wr.cell? ⟨w.heap.size, i1, none⟩ = _ := (HR.out.a.cell i1).trans (u8s_get' _ i1 (by omega))
      have e2 : wr.cell? ⟨w.heap.size, i2, none⟩ = _ := (HR.out.a.cell i2).trans (u8s_get' _ i2 (by omega))
      have e3 : wr.cell? ⟨w.heap.size, i3, none⟩ = _ := (HR.out.a.cell i3).trans (u8s_get' _ i3 (by omega))
      obtain ⟨A, hA⟩ : ∃ x, alx b i = x := ⟨_, rfl⟩
      have HG : Hid (∀ k, k < 4 → R.getD (i + k) 0 = b.getD (i + k) 0 ^^^ A ^^^ db (b.getD (i + k) 0 ^^^ b.getD (i + (k + 1) % 4) 0)) := Lib.hid (fun k hk => by rw [HRG.out i k hi4 hlt hk]; unfold mxa; rw [hA])
      unfold alx at hA
      rw [hi1, hi2, hi3] at hA
      obtain ⟨a0, h0⟩ : ∃ x, b.getD i 0 = x := ⟨_, rfl⟩
      obtain ⟨a1, h1⟩ : ∃ x, b.getD i1 0 = x := ⟨_, rfl⟩
      obtain ⟨a2, h2⟩ : ∃ x, b.getD i2 0 = x := ⟨_, rfl⟩
      obtain ⟨a3, h3⟩ : ∃ x, b.getD i3 0 = x := ⟨_, rfl⟩
      rw [h0] at e0 hA
      rw [h1] at e1 hA
      rw [h2] at e2 hA
      rw [h3] at e3 hA
      have x1 := xor_u8 a0 a1
      have x2 := xor_u8 (a0 ^^^ a1) a2
      have x3 := xor_u8 (a0 ^^^ a1 ^^^ a2) a3
      rw [hA] at x3
      obtain ⟨s1, hs1⟩ : ∃ x, a0 ^^^ a1 = x := ⟨_, rfl⟩
      rw [hs1] at x1 x2 x3
      obtain ⟨s2, hs2⟩ : ∃ x, s1 ^^^ a2 = x := ⟨_, rfl⟩
      rw [hs2] at x2 x3
      have HI4 := Lib.hid hi4
      clear hA h0 h1 h2 h3 hs1 hs2 hi1 hi2 hi3 hbl hi4
      go_wp2_with fail
      go_quiet (fail)
      clear e0 e1 e2 e3 x1 x2 x3 t1 t2 t3 l1 l2 l3
      have HR0 := Lib.hid (show Three16 w b (List.replicate 16 0) (upto Z R (i + 0)) (wr.drewN nq) from HR.out.drewN nq)
      clear HR
      go_wp2_with fail
      rw [show decide ((i : Int) < 16) = true from decide_eq_true (by omega)]
      go_loopw [31] (fun j wr => ∃ k : Nat, k ≤ 4 ∧ j = .int .i64 (k : Int) ∧ Hid (Three16 w b (List.replicate 16 0) (upto Z R (i + k)) wr)) (fun j _ => 4 - (intOf j).toNat)
      case atStart => exact ⟨0, by omega, rfl, HR0⟩
      case round =>
        clear HR0
        obtain ⟨k, hk, rfl, HR⟩ := hrel
        by_cases hlk : k < 4
        · have HGk := HG.out k hlk
          have hi4 := HI4.out
          obtain ⟨p, hp⟩ : ∃ x, i + k = x := ⟨_, rfl⟩
          obtain ⟨k1, hk1⟩ : ∃ x, k + 1 = x := ⟨_, rfl⟩
          obtain ⟨kn, hkn⟩ : ∃ x, k1 % 4 = x := ⟨_, rfl⟩
          obtain ⟨n, hn⟩ : ∃ x, i + kn = x := ⟨_, rfl⟩
          rw [hp, hk1, hkn, hn] at HGk
          rw [hp] at HR
          have hpl : p < 16 := by omega
          have t1 : IntKind.i64.wrap ((i : Int) + (k : Int)) = (p : Int) := by rw [IntKind.wrap_i64]; omega
          have t2 : IntKind.i64.wrap ((k : Int) + 1) = (k1 : Int) := by rw [IntKind.wrap_i64]; omega
          have t3 : (k1 : Int).tmod 4 = (kn : Int) := by rw [Int.tmod_eq_emod_of_nonneg (by omega)]; omega
          have t4 : IntKind.i64.wrap ((i : Int) + (kn : Int)) = (n : Int) := by rw [IntKind.wrap_i64]; omega
          have l1 : (p : Int) < 16 := by omega
          have l2 : (n : Int) < 16 := by omega
          have hbl := HB.out
          have e1 : wr.drew.cell? ⟨w.heap.size, p, none⟩ = _ := (HR.out.a.cell p).trans (u8s_get' _ p (by omega))
          have e2 : wr.drew.cell? ⟨w.heap.size, n, none⟩ = _ := (HR.out.a.cell n).trans (u8s_get' _ n (by omega))
          have hol : p < (upto Z R p).length := by rw [upto_length _ _ _ HZL.out HRL.out]; exact hpl
          have e3 : wr.drew.cell? ⟨w.heap.size + 1 + 1, p, none⟩ = _ := (HR.out.o.cell p).trans (u8s_get' _ p hol)
          have f3 : wr.drew.frozen? ⟨w.heap.size + 1 + 1, p, none⟩ = _ := HR.out.o.frozen p
          have e4 : wr.drew.cell? ⟨g, 0, none⟩ = _ := (HC.out.no HR.out.x).tab
          have HN := Lib.hid (HR.out.drew.setO p (R.getD p 0))
          rw [upto_set Z R p HZL.out HRL.out hpl, HGk] at HN
          obtain ⟨ap, hap⟩ : ∃ x, b.getD p 0 = x := ⟨_, rfl⟩
          obtain ⟨an, han⟩ : ∃ x, b.getD n 0 = x := ⟨_, rfl⟩
          rw [hap] at e1 HN
          rw [han] at e2 HN
          have x1 := xor_u8 ap A
          have x2 := xor_u8 ap an
          obtain ⟨c, hc⟩ : ∃ x, ap ^^^ an = x := ⟨_, rfl⟩
          rw [hc] at x2 HN
          have e5 : wr.drew.cell? ⟨tg, 256 + c.toNat, none⟩ = _ := (HC.out.no HR.out.x).t.two c
          have hcl : (c.toNat : Int) < 256 := by have := c.toNat_lt; omega
          obtain ⟨d, hd⟩ : ∃ x, db c = x := ⟨_, rfl⟩
          rw [hd] at e5 HN
          have x3 := xor_u8 (ap ^^^ A) d
          obtain ⟨y, hy⟩ : ∃ x, ap ^^^ A = x := ⟨_, rfl⟩
          rw [hy] at x1 x3 HN
          obtain ⟨z, hz⟩ : ∃ x, y ^^^ d = x := ⟨_, rfl⟩
          rw [hz] at x3 HN
          have HPE := Lib.hid (show p + 1 = i + (k + 1) by omega)
          rw [HPE.out] at HN
          clear HGk hp hk1 hkn hn hap han hc hd hy hz HR hol hbl hi4 HPE
          go_wp2_with fail
          go_still_tail 33, (by kernel_rfl)
          change wpList _ _ _ _ _ wr.drew
          generalize wr.drew = w2 at *
          clear t1 t2 t3 t4 x1 x2 x3 e1 e2 e4 e5
          go_wp2_with fail
          go_roundw
          case rel => exact ⟨k + 1, by omega, by go_num, HN⟩
          case measure => simp [intOf]; omega
        · obtain rfl : k = 4 := by omega
          have hi4 := HI4.out
          go_wp2_with fail
          go_roundw
          case rel => exact ⟨i + 4, by omega, by omega, by go_num, HR⟩
          case measure => simp [intOf]; omega
    · obtain rfl : i = 16 := by omega
      have HD : Hid (Three16 w b (List.replicate 16 0) R wr) := Lib.hid (by have := HR.out; rwa [upto_all _ _ HZL.out HRL.out] at this)
      have HSZ : Hid ((u8s R).toArray.size = 16) := Lib.hid (by rw [List.size_toArray, u8s_length, HRL.out])
      clear HR HC
      go_wp2_with (first
        | ((with_reducible show wpList _ _ _ (⟨some 68, _, _, _, _, _⟩ :: _) _ _); refine load_blk 203 (.tmp 5) rfl rfl HD.out.o rfl _ und_16 rfl (by rw [HSZ.out]; exact size_16) ?_)
        | ((with_reducible show wpList _ _ _ (⟨none, _, _, _, _, _⟩ :: _) _ _); refine store_blk 203 (.tmp 4) (.tmp 68) rfl rfl HD.out.b rfl rfl (by rw [HSZ.out]; rfl) (by rw [HSZ.out]; exact size_16) (u8s_one' _) ?_; intro w3 hb3 hx3; have HB3 := Lib.hid hb3; have HX3 := Lib.hid (HD.out.x.transS hx3 (fun i hi h => absurd hi (by have h' : i = w.heap.size + 1 := h; omega))); clear hb3 hx3))
      exact bodyPost_ret (v := .agg (u8s R).toArray) (ret_blk rfl HB3.out rfl _ und_16 rfl (by rw [HSZ.out]; exact size_16)) rfl ⟨rfl, HX3.out⟩
theorem Two16.no {w0 w w' : World} {A B : List UInt8} (h : Two16 w0 A B w) (hx : Ext No w w') : Two16 w0 A B w' := ⟨h.a.ext_no hx, h.b.ext_no hx, h.x.trans hx⟩
theorem Two16.putA {w0 w w' : World} {A B A' : List UInt8} (h : Two16 w0 A B w) (hb : Blk w' w0.heap.size 203 (u8s A').toArray) (hx : Ext (One w0.heap.size) w w') : Two16 w0 A' B w' :=
  ⟨hb, h.b.ext hx (fun h => by have h : w0.heap.size + 1 = w0.heap.size := h; omega), h.x.transS hx (fun i hi h => absurd hi (by have h' : i = w0.heap.size := h; omega))⟩
set_option maxRecDepth 100000 in
set_option maxHeartbeats 2000000 in
theorem aBlock_any (g tg : Nat) (K b : List UInt8) (w : World) (h : IsC w g tg K) (hb : b.length = 16) : Calls Try.prog 125 #[pB g, .agg (u8s b).toArray] w fun e w' => e = .returned (.agg (u8s (enc K b)).toArray) ∧ Ext No w w' := by
  have HC := Lib.hid h
  have HB := Lib.hid hb
  have HRN := Lib.hid (fun r (hr : r < 15) => rnds_length K b h.k hb r hr)
  have HF := Lib.hid (fun (wx : World) (hx : Ext No w wx) (x : List UInt8) (hx16 : x.length = 16) (r : Nat) (hr : r < 15) => aAdd_any g tg K x r wx (h.no hx) hx16 hr)
  have HM := Lib.hid (fun (wx : World) (hx : Ext No w wx) (x : List UInt8) (hx16 : x.length = 16) => aMix_any g tg K x wx (h.no hx) hx16)
  have HT := Lib.hid (fun (wx : World) (hx : Ext No w wx) (x : List UInt8) (hx16 : x.length = 16) => aShift_any g tg K x wx (h.no hx) hx16)
  have HS : Hid (Two16 w b (List.replicate 16 0) ((w.alloc (.cells (u8s b).toArray 203)).alloc (.cells (u8s (List.replicate 16 0)).toArray 203))) := Lib.hid (Two16.new w _ _)
  have HSB : Hid ((u8s b).toArray.size = 16) := Lib.hid (by rw [List.size_toArray, u8s_length, hb])
  have H0 : Hid (xr b (rk K 0) = rnds K b 0) := Lib.hid rfl
  obtain ⟨E, hE⟩ : ∃ E, enc K b = E := ⟨_, rfl⟩
  have HE := Lib.hid hE
  have HEL : Hid ((u8s E).toArray.size = 16) := Lib.hid (by rw [List.size_toArray, u8s_length, ← hE, enc_length K b h.k])
  rw [hE]
  clear h hb hE
  go_enter Try.func125, Try.ntmps125
  go_wp2_with ((with_reducible show wpList _ _ _ (⟨some 7, _, _, _, _, _⟩ :: _) _ _); go_must (change wpList _ _ _ _ _ ((w.alloc (.cells (u8s b).toArray 203)).alloc (.cells (u8s (List.replicate 16 0)).toArray 203)); refine load_blk 203 (.tmp 3) rfl rfl HS.out.a rfl _ und_16 rfl (by rw [HSB.out]; exact size_16) ?_; generalize (w.alloc (.cells (u8s b).toArray 203)).alloc (.cells (u8s (List.replicate 16 0)).toArray 203) = w1 at *))
  refine (HF.out w1 HS.out.x b HB.out 0 (by omega)).mono ?_
  rintro e2 w2 ⟨rfl, hx2⟩
  rw [H0.out]
  have HS2 := Lib.hid (HS.out.no hx2)
  have HL0 := HRN.out 0 (by omega)
  obtain ⟨x0, hx0⟩ : ∃ x, rnds K b 0 = x := ⟨_, rfl⟩
  rw [hx0] at HL0 ⊢
  have HX0 := Lib.hid hx0
  have HSZ0 : Hid ((u8s x0).toArray.size = 16) := Lib.hid (by rw [List.size_toArray, u8s_length, HL0])
  clear hx2 hx0 HL0 HS
  go_wp2_with ((with_reducible show wpList _ _ _ (⟨none, _, _, _, _, _⟩ :: _) _ _); refine store_blk 203 (.tmp 3) (.tmp 8) rfl rfl HS2.out.a rfl rfl (by rw [HSZ0.out, HSB.out]) (by rw [HSZ0.out]; exact size_16) (u8s_one' _) ?_; intro w3 hb3 hx3; have HS3 := Lib.hid (HS2.out.putA hb3 hx3); clear hb3 hx3)
  have HS4 : Hid (Two16 w (rnds K b 0) (List.replicate 16 0) w3) := Lib.hid (by rw [HX0.out]; exact HS3.out)
  clear HS3 HS2 H0
  go_loopw [5] (fun i wr => ∃ q : Nat, q ≤ 13 ∧ i = .int .i64 ((q + 1 : Nat) : Int) ∧ Hid (Two16 w (rnds K b q) (List.replicate 16 0) wr)) (fun i _ => 14 - (intOf i).toNat)
  case atStart => exact ⟨0, by omega, rfl, HS4⟩
  case round =>
    clear HS4
    obtain ⟨q, hq, rfl, HR⟩ := hrel
    have HL := HRN.out q (by omega)
    have HST : Hid (rnds K b (q + 1) = xr (mix (shf (rnds K b q))) (rk K (q + 1))) := Lib.hid rfl
    have HEQ : Hid (q = 13 → E = xr (shf (rnds K b q)) (rk K 14)) := Lib.hid (fun h => by rw [← HE.out, h]; rfl)
    obtain ⟨x, hx⟩ : ∃ x, rnds K b q = x := ⟨_, rfl⟩
    rw [hx] at HL HR HST HEQ
    have HXL := Lib.hid HL
    have HXS : Hid ((u8s x).toArray.size = 16) := Lib.hid (by rw [List.size_toArray, u8s_length, HL])
    have HSL := Lib.hid (shf_length x)
    obtain ⟨y, hy⟩ : ∃ y, shf x = y := ⟨_, rfl⟩
    have HTC := Lib.hid (HT.out wr HR.out.x x HXL.out)
    rw [hy] at HST HSL HTC HEQ
    clear hx hy HL
    by_cases hlt : q < 13
    · have hlt' : ((q + 1 : Nat) : Int) < 14 := by omega
      have HML := Lib.hid (mix_length y)
      obtain ⟨z, hz⟩ : ∃ z, mix y = z := ⟨_, rfl⟩
      have HMC := Lib.hid (fun (wx : World) (hx : Ext No w wx) => HM.out wx hx y HSL.out)
      have HNL := HRN.out (q + 1) (by omega)
      obtain ⟨n, hn⟩ : ∃ n, rnds K b (q + 1) = n := ⟨_, rfl⟩
      rw [hz] at HST HML HMC
      rw [hn] at HST HNL
      have HFC := Lib.hid (fun (wx : World) (hx : Ext No w wx) => HF.out wx hx z HML.out (q + 1) (by omega))
      rw [← HST.out] at HFC
      have HN := Lib.hid hn
      have HNS : Hid ((u8s n).toArray.size = 16) := Lib.hid (by rw [List.size_toArray, u8s_length, HNL])
      clear hz hn HNL HST HF HT HM
      go_wp2_with (first
        | ((with_reducible show wpList _ _ _ (⟨some 16, _, _, _, _, _⟩ :: _) _ _); refine load_blk 203 (.tmp 3) rfl rfl HR.out.a rfl _ und_16 rfl (by rw [HXS.out]; exact size_16) ?_)
        | (go_at_call 158; refine HTC.out.mono ?_; rintro e5 w5 ⟨rfl, hx5⟩; have HS5 := Lib.hid (HR.out.no hx5); clear hx5)
        | (go_at_call 157; refine (HMC.out _ HS5.out.x).mono ?_; rintro e6 w6 ⟨rfl, hx6⟩; have HS6 := Lib.hid (HS5.out.no hx6); clear hx6)
        | (go_at_call 156; refine (HFC.out _ HS6.out.x).mono ?_; rintro e7 w7 ⟨rfl, hx7⟩; have HS7 := Lib.hid (HS6.out.no hx7); clear hx7)
        | ((with_reducible show wpList _ _ _ (⟨none, _, _, _, _, _⟩ :: _) _ _); refine store_blk 203 (.tmp 3) (.tmp 20) rfl rfl HS7.out.a rfl rfl (by rw [HNS.out, HXS.out]) (by rw [HNS.out]; exact size_16) (u8s_one' _) ?_; intro w8 hb8 hx8; have HS8 := Lib.hid (HS7.out.putA hb8 hx8); clear hb8 hx8))
      go_roundw
      case rel => exact ⟨q + 1, by omega, by go_num, by rw [HN.out]; exact HS8⟩
      case measure => simp [intOf]; omega
    · obtain rfl : q = 13 := by omega
      have HEE := Lib.hid (HEQ.out rfl)
      have HFC := Lib.hid (fun (wx : World) (hx : Ext No w wx) => HF.out wx hx y HSL.out 14 (by omega))
      rw [← HEE.out] at HFC
      have HFC' : Hid (∀ (wx : World), Ext No w wx → Calls Try.prog 156 #[pB g, .agg (u8s y).toArray, .int .i64 14] wx fun e w' => e = .returned (.agg (u8s E).toArray) ∧ Ext No wx w') := Lib.hid HFC.out
      clear HEQ HST HFC HM HF HT
      go_wp2_with (first
        | ((with_reducible show wpList _ _ _ (⟨some 23, _, _, _, _, _⟩ :: _) _ _); refine load_blk 203 (.tmp 3) rfl rfl HR.out.a rfl _ und_16 rfl (by rw [HXS.out]; exact size_16) ?_)
        | (go_at_call 158; refine HTC.out.mono ?_; rintro e5 w5 ⟨rfl, hx5⟩; have HS5 := Lib.hid (HR.out.no hx5); clear hx5)
        | (go_at_call 156; refine (HFC'.out _ HS5.out.x).mono ?_; rintro e7 w7 ⟨rfl, hx7⟩; have HS7 := Lib.hid (HS5.out.no hx7); clear hx7)
        | ((with_reducible show wpList _ _ _ (⟨none, _, _, _, _, _⟩ :: _) _ _); refine store_blk 203 (.tmp 4) (.tmp 25) rfl rfl HS7.out.b rfl rfl (by rw [HEL.out]; rfl) (by rw [HEL.out]; exact size_16) (u8s_one' _) ?_; intro w8 hb8 hx8; have HB8 := Lib.hid hb8; have HX8 := Lib.hid (HS7.out.x.transS hx8 (fun i hi h => absurd hi (by have h' : i = w.heap.size + 1 := h; omega))); clear hb8 hx8))
      exact bodyPost_ret (v := .agg (u8s E).toArray) (ret_blk rfl HB8.out rfl _ und_16 rfl (by rw [HEL.out]; exact size_16)) rfl ⟨rfl, HX8.out⟩
end Go.Proofs.Ytmbbkkonmkbnoaa
namespace Go.Proofs.Ytmbbkkonmkbnoaa
open Go.RowKit Go.Deep Ae
theorem u32_and_255 (n : Nat) (h : n < 4294967296) : bits .and .u32 (n : Int) 255 = ((n % 256 : Nat) : Int) := by
  rw [show (255 : Int) = ((255 : Nat) : Int) from rfl, u32_and_nat _ _ h (by omega)]
  congr 1
  exact Nat.and_two_pow_sub_one_eq_mod n 8
theorem or_add (p q k : Nat) (h : q < 2 ^ k) : (p * 2 ^ k) ||| q = p * 2 ^ k + q := by
  rw [Nat.mul_comm, Nat.two_pow_add_eq_or_of_lt h]
theorem or4 (A B C D : UInt8) : bits .or .u32 (bits .or .u32 (bits .or .u32 ((A.toNat : Int) % 4294967296 * 16777216 % 4294967296) ((B.toNat : Int) % 4294967296 * 65536 % 4294967296)) ((C.toNat : Int) % 4294967296 * 256 % 4294967296)) ((D.toNat : Int) % 4294967296) = ((getL [A, B, C, D] : Nat) : Int) := by
  have ha := A.toNat_lt; have hb := B.toNat_lt; have hc := C.toNat_lt; have hd := D.toNat_lt
  rw [show ((A.toNat : Int) % 4294967296 * 16777216 % 4294967296) = ((A.toNat * 2 ^ 24 : Nat) : Int) by omega, show ((B.toNat : Int) % 4294967296 * 65536 % 4294967296) = ((B.toNat * 65536 : Nat) : Int) by omega,
    show ((C.toNat : Int) % 4294967296 * 256 % 4294967296) = ((C.toNat * 256 : Nat) : Int) by omega, show ((D.toNat : Int) % 4294967296) = ((D.toNat : Nat) : Int) by omega,
    u32_or_nat _ _ (by omega) (by omega), or_add _ _ 24 (by omega), show A.toNat * 2 ^ 24 + B.toNat * 65536 = (A.toNat * 256 + B.toNat) * 2 ^ 16 by omega,
    u32_or_nat _ _ (by omega) (by omega), or_add _ _ 16 (by omega), show (A.toNat * 256 + B.toNat) * 2 ^ 16 + C.toNat * 256 = ((A.toNat * 256 + B.toNat) * 256 + C.toNat) * 2 ^ 8 by omega,
    u32_or_nat _ _ (by omega) (by omega), or_add _ _ 8 (by omega), getL4]
set_option maxRecDepth 100000 in
set_option maxHeartbeats 2000000 in
theorem aWord_any (tg : Nat) (a b c d : UInt8) (w : World) (h : IsT w tg) : Calls Try.prog 155 #[pB tg, .int .u32 ((getL [a, b, c, d] : Nat) : Int)] w fun e w' => e = .returned (.int .u32 ((getL [bx a, bx b, bx c, bx d] : Nat) : Int)) ∧ ∃ n, w' = w.drewN n := by
  have ha := a.toNat_lt; have hb := b.toNat_lt; have hc := c.toNat_lt; have hd := d.toNat_lt
  rw [getL4 a b c d]
  obtain ⟨n, hn⟩ : ∃ n, ((a.toNat * 256 + b.toNat) * 256 + c.toNat) * 256 + d.toNat = n := ⟨_, rfl⟩
  rw [hn]
  have hnl : n < 4294967296 := by omega
  have e1 := h.box a
  have e2 := h.box b
  have e3 := h.box c
  have e4 := h.box d
  have q1 : (n : Int) / 16777216 = (a.toNat : Int) := by omega
  have q2 : bits .and .u32 ((n : Int) / 65536) 255 = (b.toNat : Int) := by
    rw [show (n : Int) / 65536 = ((n / 65536 : Nat) : Int) by omega, u32_and_255 _ (by omega)]; omega
  have q3 : bits .and .u32 ((n : Int) / 256) 255 = (c.toNat : Int) := by
    rw [show (n : Int) / 256 = ((n / 256 : Nat) : Int) by omega, u32_and_255 _ (by omega)]; omega
  have q4 : bits .and .u32 (n : Int) 255 = (d.toNat : Int) := by
    rw [u32_and_255 _ (by omega)]; omega
  have l1 : (a.toNat : Int) < 256 := by omega
  have l2 : (b.toNat : Int) < 256 := by omega
  have l3 : (c.toNat : Int) < 256 := by omega
  have l4 : (d.toNat : Int) < 256 := by omega
  obtain ⟨A, hA⟩ : ∃ x, bx a = x := ⟨_, rfl⟩
  obtain ⟨B, hB⟩ : ∃ x, bx b = x := ⟨_, rfl⟩
  obtain ⟨C, hC⟩ : ∃ x, bx c = x := ⟨_, rfl⟩
  obtain ⟨D, hD⟩ : ∃ x, bx d = x := ⟨_, rfl⟩
  rw [hA] at e1 ⊢
  rw [hB] at e2 ⊢
  rw [hC] at e3 ⊢
  rw [hD] at e4 ⊢
  obtain ⟨r, hr⟩ : ∃ r, getL [A, B, C, D] = r := ⟨_, rfl⟩
  rw [hr]
  have HR := Lib.hid hr
  clear hA hB hC hD hn h hr ha hb hc hd
  go_enter Try.func155, Try.ntmps155
  go_wp2_with fail
  go_quiet (fail)
  go_wp2_with fail
  go_ret
  exact ⟨congrArg (fun z => Ending.returned (Value.int .u32 z)) (by rw [← HR.out]; exact or4 A B C D), _, rfl⟩
/-- The words of a key. -/
def wrd (key : List UInt8) (j : Nat) : List UInt8 := nxtw key j (wds key j)
theorem wrd_len (key : List UInt8) (h : key.length = 32) (j : Nat) : (wrd key j).length = 4 := nxtw_length key h j
theorem wrd_low (key : List UInt8) (j : Nat) (h : j < 8) : wrd key j = (key.drop (4 * j)).take 4 := by unfold wrd nxtw; rw [if_pos h]
theorem wrd_high (key : List UInt8) (j : Nat) (h : 8 ≤ j) : wrd key j = xr (wrd key (j - 8)) (tw j (wrd key (j - 1))) := by
  show nxtw key j (wds key j) = _
  unfold nxtw
  rw [if_neg (by omega), wds_get key (by omega), wds_get key (by omega)]
  rfl
theorem wds_wrd (key : List UInt8) (n : Nat) : wds key n = (List.range n).map (wrd key) := by
  induction n with
  | zero => rfl
  | succ n ih =>
    simp only [wds]
    rw [List.range_succ, List.map_append, ← ih]
    rfl
theorem aNew_nil (kv : Value) (w : World) : Calls Try.prog 124 #[.pointer none, kv] w fun e w' => e = .returned (.tuple #[.pointer none, .int .i64 1]) ∧ Ext No w w' := by
  go_enter Try.func124, Try.ntmps124
  go_wp2_with fail
  go_ret2
  exact ⟨rfl, Ext.refl _ _⟩
theorem aNew_size (tg : Nat) (kv : Value) (key : List UInt8) (w : World) (h : Bs w Any kv key) (hl : key.length ≠ 32) : Calls Try.prog 124 #[pB tg, kv] w fun e w' => e = .returned (.tuple #[.pointer none, .int .i64 17]) ∧ Ext No w w' := by
  obtain ⟨A, c, rfl, hc, hm, -⟩ := h.slice
  have t1 : ((key.length : Int) == 32) = false := by simp; omega
  have t2 : ((key.length : Int) != 32) = true := by simp; omega
  clear h
  go_enter Try.func124, Try.ntmps124
  go_wp2_with fail
  go_ret2
  exact ⟨rfl, Ext.refl _ _⟩
theorem zc0 : Try.zeroCells235 = (Value.pointer none :: u8s (List.replicate 240 0)).toArray := by kernel_rfl
theorem zcC (tg : Nat) : Try.zeroCells235.setIfInBounds 0 (pB tg) = ciC tg (List.replicate 240 0) := by
  rw [zc0]
  unfold ciC
  rw [List.setIfInBounds_toArray, List.set_cons_zero]
theorem rot8 (a b c d : UInt8) : bits .or .u32 (((getL [a, b, c, d] : Nat) : Int) * 256 % 4294967296) (((getL [a, b, c, d] : Nat) : Int) / 16777216) = ((getL [b, c, d, a] : Nat) : Int) := by
  have ha := a.toNat_lt; have hb := b.toNat_lt; have hc := c.toNat_lt; have hd := d.toNat_lt
  rw [getL4, getL4]
  rw [show (((((a.toNat * 256 + b.toNat) * 256 + c.toNat) * 256 + d.toNat : Nat) : Int) * 256 % 4294967296) = ((((b.toNat * 256 + c.toNat) * 256 + d.toNat) * 2 ^ 8 : Nat) : Int) by omega,
    show ((((a.toNat * 256 + b.toNat) * 256 + c.toNat) * 256 + d.toNat : Nat) : Int) / 16777216 = (a.toNat : Int) by omega, u32_or_nat _ _ (by omega) (by omega), or_add _ _ 8 (by omega)]
theorem xor_top (a b c d r : UInt8) : bits .xor .u32 ((getL [a, b, c, d] : Nat) : Int) ((r.toNat : Int) % 4294967296 * 16777216 % 4294967296) = ((getL [a ^^^ r, b, c, d] : Nat) : Int) := by
  have hr := r.toNat_lt
  have e : ((r.toNat : Int) % 4294967296 * 16777216 % 4294967296) = ((getL [r, 0, 0, 0] : Nat) : Int) := by rw [getL4]; simp; omega
  rw [e, u32_xor_nat _ _ (getL4_lt rfl) (getL4_lt rfl), getL_xr rfl rfl]
  show ((getL [a ^^^ r, b ^^^ 0, c ^^^ 0, d ^^^ 0] : Nat) : Int) = _
  simp
/-- Within New, loop 1: so many words are made. -/
structure Nw (w0 : World) (tg : Nat) (key : List UInt8) (n : Nat) (w : World) : Prop where
  c : Blk w w0.heap.size 235 (ciC tg (List.replicate 240 0))
  l : ∃ L : List Nat, L.length = 60 ∧ (∀ j, j < n → L.getD j 0 = getL (wrd key j)) ∧ Blk w (w0.heap.size + 1) 236 (u32s L).toArray
  x : Ext No w0 w
theorem Nw.drewN {w0 w : World} {tg n : Nat} {key : List UInt8} (h : Nw w0 tg key n w) (k : Nat) : Nw w0 tg key n (w.drewN k) := ⟨h.c, h.l, h.x.drewN k⟩
theorem Nw.no {w0 w w' : World} {tg n : Nat} {key : List UInt8} (h : Nw w0 tg key n w) (hx : Ext No w w') : Nw w0 tg key n w' := by
  obtain ⟨L, h1, h2, h3⟩ := h.l
  exact ⟨h.c.ext_no hx, ⟨L, h1, h2, h3.ext_no hx⟩, h.x.trans hx⟩
theorem Nw.put {w0 w : World} {tg n : Nat} {key : List UInt8} (h : Nw w0 tg key n w) (hn : n < 60) : Nw w0 tg key (n + 1) (w.setCell ⟨w0.heap.size + 1, n, none⟩ (.int .u32 ((getL (wrd key n) : Nat) : Int))) := by
  obtain ⟨L, h1, h2, h3⟩ := h.l
  refine ⟨h.c.far (by simp) _, ⟨L.set n (getL (wrd key n)), by rw [List.length_set, h1], fun j hj => ?_, ?_⟩, Ext.setCell h.x (fun h => by have h : w0.heap.size + 1 < w0.heap.size := h; omega) _⟩
  · rw [getD_set _ _ _ _ _ (by omega)]
    by_cases e : n = j
    · subst e; rw [if_pos rfl]
    · rw [if_neg e, h2 j (by omega)]
  · have := Blk.set_ h3 n (.int .u32 ((getL (wrd key n) : Nat) : Int))
    rwa [u32s_set] at this
theorem Nw.get {w0 w : World} {tg n j : Nat} {key : List UInt8} (h : Nw w0 tg key n w) (hn : n ≤ 60) (hj : j < n) : w.cell? ⟨w0.heap.size + 1, j, none⟩ = some (.int .u32 ((getL (wrd key j) : Nat) : Int)) := by
  obtain ⟨L, h1, h2, h3⟩ := h.l
  rw [h3.cell, u32s_get _ _ (by omega), h2 j hj]
theorem Nw.at_ {w0 w : World} {tg n j : Nat} {key : List UInt8} (h : Nw w0 tg key n w) (hj : j < 60) : (∃ v, w.cell? ⟨w0.heap.size + 1, j, none⟩ = some v) ∧ w.frozen? ⟨w0.heap.size + 1, j, none⟩ = false := by
  obtain ⟨L, h1, h2, h3⟩ := h.l
  exact ⟨⟨_, (h3.cell j).trans (u32s_get _ _ (by omega))⟩, h3.frozen j⟩
theorem und_60 : Try.prog.underlying 236 = some (.array 60 55) := by kernel_rfl
theorem size_60 : (Try.prog.info? 236).map (·.size) = some 60 := by kernel_rfl
theorem info_w32 : (Try.prog.info? 55).map (fun i => (i.zero, i.size, i.bytes)) = some (some (.int .u32 0), 1, 4) := by kernel_rfl
theorem run_idx60 (AL : Array Value) (n : Nat) (v : Value) (w : World) (hn : n < 60) (h : AL[n]? = some v) : (Instr.index 236 (.agg AL) (.int .i64 (n : Int))).run Try.prog w = .ok v w := by
  have hp := run_part_plain (P := Try.prog) (e := 55) (w := w) (by kernel_rfl) (xs := AL) (off := n * 1) (by rw [Nat.mul_one]; exact h)
  obtain ⟨i, hi, hz0, hz1, hz2⟩ := info_parts info_w32
  rw [Nat.mul_one] at hp
  simp [Instr.index, run_underlying und_60, asIntOf, sizeOf, typeInfo, hi, hz1, hn, hp]
theorem setL_cons (x : Value) (vs : List Value) : ∀ (l : List Value) (o : Nat), setL (x :: l).toArray (o + 1) vs = (x :: (setL l.toArray o vs).toList).toArray := by
  induction vs with
  | nil => intro l o; simp [setL]
  | cons v r ih =>
    intro l o
    simp only [setL]
    rw [List.setIfInBounds_toArray, List.set_cons_succ, ih, List.setIfInBounds_toArray]
theorem setL_ci (tg : Nat) (M m : List UInt8) (off : Nat) (h : off + m.length ≤ M.length) : setL (ciC tg M) (1 + off) (u8s m) = ciC tg (M.take off ++ m ++ M.drop (off + m.length)) := by
  unfold ciC
  rw [Nat.add_comm 1 off, setL_cons, setL_u8s _ _ _ h]
/-- Within New, loop 2: so many words are laid as keys. -/
def upK (K : List UInt8) (n : Nat) : List UInt8 := K.take (4 * n) ++ List.replicate (240 - 4 * n) 0
structure Kw (w0 : World) (tg : Nat) (K : List UInt8) (n : Nat) (w : World) : Prop where
  c : Blk w w0.heap.size 235 (ciC tg (upK K n))
  x : Ext No w0 w
theorem upK_length (K : List UInt8) (n : Nat) (h : K.length = 240) (hn : n ≤ 60) : (upK K n).length = 240 := by
  unfold upK; rw [List.length_append, List.length_take, List.length_replicate]; omega
theorem upK_next (K M m : List UInt8) (n : Nat) (h : K.length = 240) (hn : n < 60) (hm : (K.take (4 * n + 4)).drop (4 * n) = m) (hM : M = upK K n ∨ M = upK K (n + 1)) : M.take (4 * n) ++ m ++ M.drop (4 * n + 4) = upK K (n + 1) := by
  have e1 : K.take (4 * n + 4) = K.take (4 * n) ++ m := by
    rw [← hm, List.drop_take, show 4 * n + 4 - 4 * n = 4 by omega, List.take_add]
  have l1 : (K.take (4 * n)).length = 4 * n := by rw [List.length_take]; omega
  have l2 : (K.take (4 * n + 4)).length = 4 * n + 4 := by rw [List.length_take]; omega
  have e2 : upK K (n + 1) = K.take (4 * n) ++ m ++ List.replicate (240 - (4 * n + 4)) 0 := by
    unfold upK; rw [show 4 * (n + 1) = 4 * n + 4 by omega, e1]
  rw [e2]
  rcases hM with rfl | rfl
  · unfold upK
    rw [List.take_append_of_le_length (by omega), List.take_of_length_le (by omega), List.drop_append, List.drop_of_length_le (by omega), List.nil_append, l1, List.drop_replicate]
    congr 2; omega
  · have d2 : (K.take (4 * n) ++ m ++ List.replicate (240 - (4 * n + 4)) 0).drop (4 * n + 4) = List.replicate (240 - (4 * n + 4)) 0 := by
      rw [← e1, List.drop_append, List.drop_of_length_le (by omega), List.nil_append, l2, Nat.sub_self, List.drop_zero]
    have t2 : (K.take (4 * n) ++ m ++ List.replicate (240 - (4 * n + 4)) 0).take (4 * n) = K.take (4 * n) := by
      rw [List.append_assoc, List.take_append_of_le_length (by omega), List.take_of_length_le (by omega)]
    rw [e2, t2, d2]
theorem upK_all (K : List UInt8) (h : K.length = 240) : upK K 60 = K := by
  unfold upK; rw [List.take_of_length_le (by omega)]; simp
theorem flat_at : ∀ (l : List (List UInt8)), (∀ x ∈ l, x.length = 4) → ∀ j, (hj : j < l.length) → (l.flatten.take (4 * j + 4)).drop (4 * j) = l[j]
  | [], _, j, hj => absurd hj (by simp)
  | x :: l, h, 0, _ => by
    have hx := h x (List.mem_cons_self ..)
    rw [List.flatten_cons, List.take_append_of_le_length (by omega), List.take_of_length_le (by omega)]
    rfl
  | x :: l, h, j + 1, hj => by
    have hx := h x (List.mem_cons_self ..)
    rw [List.flatten_cons, List.take_append, List.take_of_length_le (by omega : x.length ≤ 4 * (j + 1) + 4), List.drop_append, List.drop_of_length_le (by omega), List.nil_append, hx,
      show 4 * (j + 1) + 4 - 4 = 4 * j + 4 by omega, show 4 * (j + 1) - 4 = 4 * j by omega]
    exact flat_at l (fun y hy => h y (List.mem_cons_of_mem _ hy)) j (by simpa using hj)
theorem kys_at (key : List UInt8) (h : key.length = 32) (j : Nat) (hj : j < 60) : ((kys key).take (4 * j + 4)).drop (4 * j) = wrd key j := by
  unfold kys
  have hl : j < (wds key 60).length := by rw [wds_length]; exact hj
  rw [flat_at _ (wds_four key h 60) j hl]
  have := wds_get key (i := j) (n := 60) hj
  rw [List.getD_eq_getElem?_getD, List.getElem?_eq_getElem hl] at this
  exact this
theorem mid_not_ty {w : World} {g : Nat} {t : TypeId} {rv : Value} {l : List UInt8} {cs : Array Value} (h : Mid w rv l) (hb : Blk w g t cs) (ht : 5 ≠ t) : ¬ rv.ownBlock = some g := by
  intro e
  obtain ⟨_, cs', h'⟩ := h.blk g e
  exact (h'.ne_ hb ht) rfl
/-- What each operation of the copy leaves. -/
def FK (gc tg n xv q4 r4 p4 : Nat) (K : List UInt8) : Nat → Value → World → Prop
  | 0, v, _ => v = pB gc
  | 1, v, _ => v = .int .i64 (n : Int)
  | 2, v, _ => v = .int .i64 (q4 : Int)
  | 3, v, _ => v = pB gc
  | 4, v, _ => v = .pointer (some ⟨gc, 1, none⟩)
  | 5, v, _ => v = .pointer (some ⟨gc, 1 + q4 * 16, none⟩)
  | 6, v, _ => v = .int .i64 (n : Int)
  | 7, v, _ => v = .int .i64 (r4 : Int)
  | 8, v, _ => v = .int .i64 (p4 : Int)
  | 9, v, _ => v = .slice (some ⟨gc, 1 + q4 * 16 + p4, none⟩) (16 - p4) (16 - p4)
  | 10, v, _ => v = .int .u32 (xv : Int)
  | 11, v, _ => v = .int .u64 (xv : Int)
  | 12, v, w => Mid w v (putL xv 4)
  | 13, _, w => Blk w gc 235 (ciC tg (upK K (n + 1)))
  | _, _, _ => True
theorem FK.no {gc tg n xv q4 r4 p4 : Nat} {K : List UInt8} {w w' : World} (hx : Ext No w w') : ∀ j v, FK gc tg n xv q4 r4 p4 K j v w → FK gc tg n xv q4 r4 p4 K j v w' := by
  intro j v H
  match j, H with
  | 0, H | 1, H | 2, H | 3, H | 4, H | 5, H | 6, H | 7, H | 8, H | 9, H | 10, H | 11, H => exact H
  | 12, H => exact H.ext_no hx
  | 13, H => exact Blk.ext_no H hx
  | m + 14, _ => trivial
set_option maxRecDepth 100000 in
set_option maxHeartbeats 1000000 in
theorem aNew_any (tg : Nat) (kv : Value) (key : List UInt8) (w : World) (h : Bs w Any kv key) (hl : key.length = 32) (ht : IsT w tg) :
    Calls Try.prog 124 #[pB tg, kv] w fun e w' => ∃ g, e = .returned (.tuple #[pB g, .int .i64 0]) ∧ w.heap.size ≤ g ∧ IsC w' g tg (kys key) ∧ Ext No w w' := by
  obtain ⟨A, c, rfl, hc, hm, b, off, hcell⟩ := h.slice
  obtain ⟨rfl, -⟩ := hcell 0 (by omega)
  have HK := Lib.hid h
  have HT := Lib.hid ht
  have HL := Lib.hid hl
  have hm' : c ≤ 9223372036854775807 := by unfold maxLen at hm; omega
  rw [hl] at hc ⊢
  have HM := Lib.hid hm
  clear h ht hcell hl hm
  have HS : Hid (Nw w tg key 0 ((w.alloc (.cells (Try.zeroCells235.setIfInBounds 0 (pB tg)) 235)).alloc (.cells (u32s (List.replicate 60 0)).toArray 236))) := Lib.hid (by
    rw [zcC]
    refine ⟨(Blk.new w _ _).alloc _, ⟨List.replicate 60 0, List.length_replicate, fun j hj => by omega, ?_⟩, ((Ext.refl No w).alloc _).alloc _⟩
    have := Blk.new (w.alloc (.cells (ciC tg (List.replicate 240 0)) 235)) 236 (u32s (List.replicate 60 0)).toArray
    rwa [World.size_alloc] at this)
  have HKL := Lib.hid (kys_length key HL.out)
  have HKW : Hid (∀ j, j < 60 → ((kys key).take (4 * j + 4)).drop (4 * j) = wrd key j) := Lib.hid (fun j hj => kys_at key HL.out j hj)
  obtain ⟨KK, hKK⟩ : ∃ K, kys key = K := ⟨_, rfl⟩
  rw [hKK] at HKL HKW ⊢
  clear hKK
  have HRC0 : Hid (((rc 0).toNat : Int) = 1) := Lib.hid rfl
  go_enter Try.func124, Try.ntmps124
  go_wp2_with fail
  change Code.wp _ _ _ _ ((w.alloc (.cells (Try.zeroCells235.setIfInBounds 0 (pB tg)) 235)).alloc (.cells (u32s (List.replicate 60 0)).toArray 236))
  generalize (w.alloc (.cells (Try.zeroCells235.setIfInBounds 0 (pB tg)) 235)).alloc (.cells (u32s (List.replicate 60 0)).toArray 236) = w1 at *
  generalize Try.zeroCells235.setIfInBounds 0 (pB tg) = czz at *
  go_loopw [8, 21] (fun r i wr => ∃ n : Nat, n ≤ 60 ∧ i = .int .i64 (n : Int) ∧ r = .int .u8 ((rc ((n + 7) / 8 - 1)).toNat : Int) ∧ Hid (Nw w tg key n wr)) (fun _ i _ => 60 - (intOf i).toNat)
  case atStart => exact ⟨0, by omega, rfl, by rw [show (0 + 7) / 8 - 1 = 0 from rfl, HRC0.out], HS⟩
  case round =>
    clear HS
    obtain ⟨n, hn, rfl, rfl, HR⟩ := hrel
    by_cases hlt : n < 60
    · obtain ⟨⟨ov, e0⟩, f0⟩ := HR.out.at_ hlt
      have HN := Lib.hid (fun k => (HR.out.drewN k).put hlt)
      obtain ⟨r, hr⟩ : ∃ r, rc ((n + 7) / 8 - 1) = r := ⟨_, rfl⟩
      have hl := HL.out
      by_cases h8 : n < 8
      · have hrr : rc ((n + 1 + 7) / 8 - 1) = r := by rw [← hr, show (n + 1 + 7) / 8 - 1 = 0 by omega, show (n + 7) / 8 - 1 = 0 by omega]
        have HRR := Lib.hid hrr
        rw [hr]
        have HBS : Hid (Bs wr Any (.slice (some ⟨b, off + 4 * n, none⟩) 4 (c - 4 * n)) (wrd key n)) := Lib.hid (by
          have := (HK.out.ext_no HR.out.x).sub (i := 4 * n) (j := 4 * n + 4) (by omega) (by omega) (m := 4) (c' := c - 4 * n) (by omega) (by omega) (by have := HM.out; omega)
          rw [wrd_low key n h8]
          rwa [List.drop_take, show 4 * n + 4 - 4 * n = 4 by omega] at this)
        obtain ⟨N, hN⟩ : ∃ N, wrd key n = N := ⟨_, rfl⟩
        rw [hN] at HN HBS
        have hNl := getL4_lt (x := N) (by rw [← hN]; exact wrd_len key hl n)
        obtain ⟨v, hv⟩ : ∃ v, getL N = v := ⟨_, rfl⟩
        have HG := Lib.hid (fun u hu => oGet_any u N wr hu)
        rw [hv] at HN hNl HG
        have cv : (v : Int) % 4294967296 = (v : Int) := by omega
        clear hr hrr hN hv hl
        go_wp2_with fail
        refine (HG.out _ HBS.out).mono ?_
        rintro e1 w1 ⟨rfl, rfl⟩
        go_wp2_with fail
        have HN0 : Hid (Nw w tg key (n + 1) (wr.setCell ⟨w.heap.size + 1, n, none⟩ (.int .u32 (v : Int)))) := Lib.hid (HN.out 0)
        go_roundw
        case rel => exact ⟨n + 1, by omega, by go_num, by rw [HRR.out], HN0⟩
        case measure => simp [intOf]; omega
      · obtain ⟨n1, hn1⟩ : ∃ x, n - 1 = x := ⟨_, rfl⟩
        obtain ⟨n8, hn8⟩ : ∃ x, n - 8 = x := ⟨_, rfl⟩
        have hw := wrd_high key n (by omega)
        rw [hn1, hn8] at hw
        have hx := wrd_len key hl n1
        have hy := wrd_len key hl n8
        have e1 := HR.out.get hn (j := n1) (by omega)
        have e8 := HR.out.get hn (j := n8) (by omega)
        obtain ⟨X, hX⟩ : ∃ X, wrd key n1 = X := ⟨_, rfl⟩
        obtain ⟨Y, hY⟩ : ∃ Y, wrd key n8 = Y := ⟨_, rfl⟩
        rw [hX] at hx hw e1
        rw [hY] at hy hw e8
        have r1 : (n : Int) - 1 = (n1 : Int) := by omega
        have r8 : (n : Int) - 8 = (n8 : Int) := by omega
        have hXl := getL4_lt hx
        have hYl := getL4_lt hy
        have htl := tw_length n X hx
        have hTl := getL4_lt htl
        have hxr := getL_xr hy htl
        rw [← hw] at hxr
        obtain ⟨T, hT⟩ : ∃ T, tw n X = T := ⟨_, rfl⟩
        rw [hT] at hxr hTl htl
        have HTE := Lib.hid hT
        obtain ⟨N, hN⟩ : ∃ N, getL (wrd key n) = N := ⟨_, rfl⟩
        rw [hN] at HN hxr
        have f3 : bits .xor .u32 ((getL Y : Nat) : Int) ((getL T : Nat) : Int) = (N : Int) := by rw [u32_xor_nat _ _ hYl hTl, hxr]
        obtain ⟨tv, htv⟩ : ∃ x, getL T = x := ⟨_, rfl⟩
        obtain ⟨yv, hyv⟩ : ∃ x, getL Y = x := ⟨_, rfl⟩
        rw [htv] at f3 hTl
        rw [hyv] at f3 e8 hYl
        have HTV := Lib.hid htv
        have HX := Lib.hid hx
        have hn1l : n1 < 60 := by omega
        have hn8l : n8 < 60 := by omega
        have HNS := Lib.hid (And.intro hn1 hn8)
        clear hw hX hY hN hxr htl hT htv hyv hx hy hn1 hn8
        obtain ⟨x0, x1, x2, x3, rfl⟩ := four HX.out
        by_cases h0 : n % 8 = 0
        · have t0 : ((n : Int) % 8 == 0) = true := by simp; omega
          have t4 : ((n : Int) % 8 == 4) = false := by simp; omega
          have hq : (n + 7) / 8 - 1 = n / 8 - 1 := by omega
          have HRR : Hid (rc ((n + 1 + 7) / 8 - 1) = db r) := Lib.hid (by rw [← hr, hq, show (n + 1 + 7) / 8 - 1 = (n / 8 - 1) + 1 by omega]; rfl)
          have hTX : T = [bx x1 ^^^ r, bx x2, bx x3, bx x0] := by rw [← HTE.out]; unfold tw; rw [if_pos h0, ← hr, hq]; rfl
          have f1 := rot8 x0 x1 x2 x3
          have f2 := xor_top (bx x1) (bx x2) (bx x3) (bx x0) r
          rw [← hTX, HTV.out] at f2
          obtain ⟨xv, hxv⟩ : ∃ x, getL [x0, x1, x2, x3] = x := ⟨_, rfl⟩
          rw [hxv] at f1 e1 hXl
          have HWD := Lib.hid (aWord_any tg x1 x2 x3 x0 wr (HT.out.ext_no HR.out.x))
          obtain ⟨rv, hrv⟩ : ∃ x, getL [x1, x2, x3, x0] = x := ⟨_, rfl⟩
          obtain ⟨bv, hbv⟩ : ∃ x, getL [bx x1, bx x2, bx x3, bx x0] = x := ⟨_, rfl⟩
          rw [hrv] at f1 HWD
          rw [hbv] at HWD f2
          have HDB := Lib.hid (fun wx => aDouble_any r wx)
          rw [hr]
          obtain ⟨d, hd⟩ : ∃ d, db r = d := ⟨_, rfl⟩
          rw [hd] at HDB HRR
          clear hr hTX hxv hrv hbv hq hd
          go_wp2_with (first
            | (go_at_call 155; refine HWD.out.mono ?_; rintro e4 w4 ⟨rfl, k4, rfl⟩)
            | (go_at_call 114; refine (HDB.out _).mono ?_; rintro e5 w5 ⟨rfl, rfl⟩))
          have HN0 : Hid (Nw w tg key (n + 1) ((wr.drewN k4).setCell ⟨w.heap.size + 1, n, none⟩ (.int .u32 (N : Int)))) := Lib.hid (HN.out k4)
          go_roundw
          case rel => exact ⟨n + 1, by omega, by go_num, by rw [HRR.out], HN0⟩
          case measure => simp [intOf]; omega
        · have hrr : rc ((n + 1 + 7) / 8 - 1) = r := by rw [← hr, show (n + 1 + 7) / 8 - 1 = (n + 7) / 8 - 1 by omega]
          have HRR := Lib.hid hrr
          rw [hr]
          clear hr hrr
          have t0 : ((n : Int) % 8 == 0) = false := by simp; omega
          by_cases h4 : n % 8 = 4
          · have t4 : ((n : Int) % 8 == 4) = true := by simp; omega
            have hTX : T = [bx x0, bx x1, bx x2, bx x3] := by rw [← HTE.out]; unfold tw; rw [if_neg h0, if_pos h4]; rfl
            have HWD := Lib.hid (aWord_any tg x0 x1 x2 x3 wr (HT.out.ext_no HR.out.x))
            rw [← hTX, HTV.out] at HWD
            obtain ⟨xv, hxv⟩ : ∃ x, getL [x0, x1, x2, x3] = x := ⟨_, rfl⟩
            rw [hxv] at e1 hXl HWD
            clear hTX hxv
            go_wp2_with (go_at_call 155; refine HWD.out.mono ?_; rintro e4 w4 ⟨rfl, k4, rfl⟩)
            have HN0 : Hid (Nw w tg key (n + 1) ((wr.drewN k4).setCell ⟨w.heap.size + 1, n, none⟩ (.int .u32 (N : Int)))) := Lib.hid (HN.out k4)
            go_roundw
            case rel => exact ⟨n + 1, by omega, by go_num, by rw [HRR.out], HN0⟩
            case measure => simp [intOf]; omega
          · have t4 : ((n : Int) % 8 == 4) = false := by simp; omega
            have HTX : Hid (T = [x0, x1, x2, x3]) := Lib.hid (by rw [← HTE.out]; unfold tw; rw [if_neg h0, if_neg h4])
            rw [← HTX.out, HTV.out] at e1 hXl
            go_wp2_with fail
            have HN0 : Hid (Nw w tg key (n + 1) (wr.setCell ⟨w.heap.size + 1, n, none⟩ (.int .u32 (N : Int)))) := Lib.hid (HN.out 0)
            go_roundw
            case rel => exact ⟨n + 1, by omega, by go_num, by rw [HRR.out], HN0⟩
            case measure => simp [intOf]; omega
    · obtain rfl : n = 60 := by omega
      obtain ⟨L, h1, h2, h3⟩ := HR.out.l
      obtain ⟨AL, hAL⟩ : ∃ a, (u32s L).toArray = a := ⟨_, rfl⟩
      have hall : AL.size = 60 := by rw [← hAL, List.size_toArray, u32s_length, h1]
      have HLL := Lib.hid hall
      have HLG : Hid (∀ j, j < 60 → AL[j]? = some (.int .u32 ((getL (wrd key j) : Nat) : Int))) := Lib.hid (fun j hj => by rw [← hAL, u32s_get L j (by omega), h2 j hj])
      rw [hAL] at h3
      have HLB := Lib.hid h3
      have HS : Hid (Kw w tg KK 0 wr) := Lib.hid ⟨by unfold upK; simpa using HR.out.c, HR.out.x⟩
      obtain ⟨r, hr⟩ : ∃ r, rc ((60 + 7) / 8 - 1) = r := ⟨_, rfl⟩
      rw [hr]
      clear h1 h2 h3 hr hAL hall
      go_wp2_with ((with_reducible show wpList _ _ _ (⟨some 72, _, _, _, _, _⟩ :: _) _ _); refine load_blk 236 (.tmp 7) rfl rfl HLB.out rfl _ und_60 rfl (by rw [HLL.out]; exact size_60) ?_)
      go_loopw [73] (fun i wr => ∃ n : Nat, n ≤ 60 ∧ i = .int .i64 (n : Int) ∧ Hid (Kw w tg KK n wr)) (fun i _ => 60 - (intOf i).toNat)
      case atStart => exact ⟨0, by omega, rfl, HS⟩
      case round =>
        clear HS HR
        obtain ⟨n, hn, rfl, HR⟩ := hrel
        by_cases hlt : n < 60
        · obtain ⟨xv, hxv⟩ : ∃ x, getL (wrd key n) = x := ⟨_, rfl⟩
          have hix := HLG.out n hlt
          have hxl := getL4_lt (wrd_len key HL.out n)
          have HPL := Lib.hid (putL_getL4 (wrd_len key HL.out n))
          rw [hxv] at hix hxl HPL
          have hsz := HLL.out
          have HXV := Lib.hid hxv
          have hrun := run_idx60 AL n _ wr hlt hix
          clear hxv hix hsz
          have HUP := Lib.hid (fun M hM => upK_next KK M (putL xv 4) n HKL.out hlt (by rw [HKW.out n hlt, HPL.out]) hM)

          go_wp2_with fail
          have hdec : decide ((n : Int) < 60) = true := by simp; omega
          rw [hdec]
          clear hdec
          obtain ⟨q4, hq4⟩ : ∃ x, n / 4 = x := ⟨_, rfl⟩
          obtain ⟨r4, hr4⟩ : ∃ x, n % 4 = x := ⟨_, rfl⟩
          obtain ⟨p4, hp4⟩ : ∃ x, 4 * r4 = x := ⟨_, rfl⟩
          refine RF.region (vs := fun | 0 => u77 | 1 => u78 | 2 => u79 | 3 => u80 | 4 => u81 | 5 => u82 | 6 => u83 | 7 => u84 | 8 => u85 | 9 => u86 | 10 => u87 | 11 => u88 | 12 => u89 | 13 => u90 | _ => undef) rfl (fun vs => ((pB tg) :: (Value.slice (some ⟨b, off, none⟩) 32 c) :: undef :: undef :: (Value.pointer none) :: (Value.int IntKind.i64 0) :: (Value.pointer (some ⟨w.heap.size, 0, none⟩)) :: (Value.pointer (some ⟨w.heap.size + 1, 0, none⟩)) :: (Value.int IntKind.u8 (r.toNat : Int)) :: u9 :: u10 :: (Value.int IntKind.i64 (n : Int)) :: (Value.int IntKind.u32 (xv : Int)) :: (pB tg) :: (Value.bool false) :: (Value.slice (some ⟨b, off, none⟩) 32 c) :: (Value.int IntKind.i64 32) :: (Value.bool false) :: (pB tg) :: (Value.agg czz) :: (Value.pointer (some ⟨w.heap.size, 0, none⟩)) :: (Value.int IntKind.i64 60) :: (Value.bool false) :: u23 :: u24 :: u25 :: u26 :: u27 :: u28 :: u29 :: u30 :: u31 :: u32 :: u33 :: u34 :: u35 :: u36 :: u37 :: u38 :: u39 :: u40 :: u41 :: u42 :: u43 :: u44 :: u45 :: u46 :: u47 :: u48 :: u49 :: u50 :: u51 :: u52 :: u53 :: u54 :: u55 :: u56 :: u57 :: u58 :: u59 :: u60 :: u61 :: u62 :: u63 :: u64 :: u65 :: u66 :: u67 :: u68 :: u69 :: u70 :: u71 :: (Value.agg AL) :: (Value.int IntKind.i64 (n : Int)) :: (Value.bool true) :: (Value.int IntKind.i64 (n : Int)) :: (Value.int IntKind.u32 (xv : Int)) :: (vs 0) :: (vs 1) :: (vs 2) :: (vs 3) :: (vs 4) :: (vs 5) :: (vs 6) :: (vs 7) :: (vs 8) :: (vs 9) :: (vs 10) :: (vs 11) :: (vs 12) :: (vs 13) :: u91 :: undef :: []).toArray)
            (FK w.heap.size tg n xv q4 r4 p4 KK) (fun vs wx => Ext No w wx ∧ (Blk wx w.heap.size 235 (ciC tg (upK KK n)) ∨ Blk wx w.heap.size 235 (ciC tg (upK KK (n + 1))))) rfl (by kernel_rfl) ?_ ?_ ?_
          · exact ⟨HR.out.x.drew, .inl HR.out.c.drew⟩
          · refine ⟨⟨⟨⟨⟨⟨⟨⟨⟨⟨⟨⟨⟨⟨trivial, ?_⟩, ?_⟩, ?_⟩, ?_⟩, ?_⟩, ?_⟩, ?_⟩, ?_⟩, ?_⟩, ?_⟩, ?_⟩, ?_⟩, ?_⟩, ?_⟩
            all_goals refine RF.Step.plain rfl rfl (fun vs wx hG hv hd K hK => ?_)
            · go_simp
              exact hK _ _ hG rfl (fun _ _ h => h)
            · go_simp
              exact hK _ _ hG rfl (fun _ _ h => h)
            · have h3 : vs 1 = .int .i64 (n : Int) := hd.1
              have hw1 : (n : Int) / 4 = (q4 : Int) := by omega
              have hw2 : IntKind.i64.wrap (q4 : Int) = (q4 : Int) := by rw [IntKind.wrap_i64]; omega
              go_simp
              have h4 := hK _ _ hG rfl (fun _ _ h => h)
              first | simpa only [RF.upd, h3, Nat.reduceEqDiff, if_true, if_false, reduceIte] using h4 | (simp only [RF.upd, h3, Nat.reduceEqDiff, if_true, if_false, reduceIte] at h4 ⊢; exact h4)
            · have h3 : vs 0 = pB w.heap.size := hd.1
              go_simp
              have h4 := hK _ _ hG rfl (fun _ _ h => h)
              first | simpa only [RF.upd, h3, Nat.reduceEqDiff, if_true, if_false, reduceIte] using h4 | (simp only [RF.upd, h3, Nat.reduceEqDiff, if_true, if_false, reduceIte] at h4 ⊢; exact h4)
            · have h3 : vs 3 = pB w.heap.size := hd.1
              go_simp
              have h4 := hK _ _ hG rfl (fun _ _ h => h)
              first | simpa only [RF.upd, h3, Nat.reduceEqDiff, if_true, if_false, reduceIte] using h4 | (simp only [RF.upd, h3, Nat.reduceEqDiff, if_true, if_false, reduceIte] at h4 ⊢; exact h4)
            · have h3 : vs 4 = .pointer (some ⟨w.heap.size, 1, none⟩) := hd.1
              have h2 : vs 2 = .int .i64 (q4 : Int) := hd.2.1
              have hq : (q4 : Int) < 15 := by omega
              go_simp
              have h4 := hK _ _ hG rfl (fun _ _ h => h)
              first | simpa only [RF.upd, h3, h2, Nat.reduceEqDiff, if_true, if_false, reduceIte] using h4 | (simp only [RF.upd, h3, h2, Nat.reduceEqDiff, if_true, if_false, reduceIte] at h4 ⊢; exact h4)
            · go_simp
              exact hK _ _ hG rfl (fun _ _ h => h)
            · have h3 : vs 6 = .int .i64 (n : Int) := hd.1
              have hw2 : (n : Int) % 4 = (r4 : Int) := by omega
              have hw3 : (n : Int).tmod 4 = (r4 : Int) := by rw [Int.tmod_eq_emod_of_nonneg (by omega)]; omega
              go_simp
              have h4 := hK _ _ hG rfl (fun _ _ h => h)
              first | simpa only [RF.upd, h3, Nat.reduceEqDiff, if_true, if_false, reduceIte] using h4 | (simp only [RF.upd, h3, Nat.reduceEqDiff, if_true, if_false, reduceIte] at h4 ⊢; exact h4)
            · have h3 : vs 7 = .int .i64 (r4 : Int) := hd.1
              have hw2 : IntKind.i64.wrap (4 * (r4 : Int)) = (p4 : Int) := by rw [IntKind.wrap_i64]; omega
              go_simp
              have h4 := hK _ _ hG rfl (fun _ _ h => h)
              first | simpa only [RF.upd, h3, Nat.reduceEqDiff, if_true, if_false, reduceIte] using h4 | (simp only [RF.upd, h3, Nat.reduceEqDiff, if_true, if_false, reduceIte] at h4 ⊢; exact h4)
            · have h3 : vs 5 = .pointer (some ⟨w.heap.size, 1 + q4 * 16, none⟩) := hd.1
              have h2 : vs 8 = .int .i64 (p4 : Int) := hd.2.1
              have hp1 : p4 < 16 := by omega
              have hp2 : (p4 : Int) ≤ 16 := by omega
              have hp3 : ¬ (16 = p4) := by omega
              go_simp
              have h4 := hK _ _ hG rfl (fun _ _ h => h)
              first | simpa only [RF.upd, h3, h2, Nat.reduceEqDiff, if_true, if_false, reduceIte] using h4 | (simp only [RF.upd, h3, h2, Nat.reduceEqDiff, if_true, if_false, reduceIte] at h4 ⊢; exact h4)
            · go_simp
              exact hK _ _ hG rfl (fun _ _ h => h)
            · have h3 : vs 10 = .int .u32 (xv : Int) := hd.1
              have hwk : IntKind.u64.wrap (xv : Int) = (xv : Int) := by rw [IntKind.wrap_u64]; omega
              go_simp
              have h4 := hK _ _ hG rfl (fun _ _ h => h)
              first | simpa only [RF.upd, h3, Nat.reduceEqDiff, if_true, if_false, reduceIte] using h4 | (simp only [RF.upd, h3, Nat.reduceEqDiff, if_true, if_false, reduceIte] at h4 ⊢; exact h4)
            · have h3 : vs 11 = .int .u64 (xv : Int) := hd.1
              have hp := oPut_any xv 4 wx (by omega) (by omega)
              rw [show ((4 : Nat) : Int) = 4 from rfl] at hp
              go_simp
              with_reducible refine hp.mono ?_
              rintro e' w' ⟨v', rfl, ho, hx⟩
              have h4 := hK _ _ ⟨hG.1.trans hx, hG.2.imp (fun h => h.ext_no hx) (fun h => h.ext_no hx)⟩ (Mid.of_own ho) (fun j _ h => FK.no hx j _ h)
              simpa only [RF.upd, h3, Nat.reduceEqDiff, if_true, if_false, reduceIte] using h4
            · have h2 : vs 9 = .slice (some ⟨w.heap.size, 1 + q4 * 16 + p4, none⟩) (16 - p4) (16 - p4) := hd.1
              have h5 : Mid wx (vs 12) (putL xv 4) := hd.2.1
              rw [show 1 + q4 * 16 + p4 = 1 + 4 * n by omega] at h2
              have hpl : (u8s (putL xv 4)).take (16 - p4) = u8s (putL xv 4) := List.take_of_length_le (by rw [u8s_length, putL_length]; omega)
              have hnb : ∀ {cs : Array Value}, Blk wx w.heap.size 235 cs → ¬ (vs 12).ownBlock = some w.heap.size := fun hb => mid_not_ty h5 hb (by decide)
              obtain ⟨L, hL1, hL2, hbL⟩ : ∃ L : List UInt8, L.length = 240 ∧ L.take (4 * n) ++ putL xv 4 ++ L.drop (4 * n + 4) = upK KK (n + 1) ∧ Blk wx w.heap.size 235 (ciC tg L) := by
                rcases hG.2 with hb | hb
                · exact ⟨_, upK_length KK n HKL.out (by omega), HUP.out _ (.inl rfl), hb⟩
                · exact ⟨_, upK_length KK (n + 1) HKL.out (by omega), HUP.out _ (.inr rfl), hb⟩
              refine wp_copy_bs (.tmp 86) (.tmp 89) rfl hbL h2 rfl h5.bs (by unfold ciC; rw [List.size_toArray, List.length_cons, u8s_length, hL1]; omega) ?_
              intro w' hb' hx'
              rw [hpl, setL_ci _ _ _ _ (by rw [putL_length, hL1]; omega), putL_length, hL2] at hb'
              refine hK _ _ ⟨hG.1.transS hx' (fun i hi h => absurd hi (by have h' : i = w.heap.size := h; omega)), .inr hb'⟩ hb' (fun j hj h => ?_)
              match j, h with
              | 0, h | 1, h | 2, h | 3, h | 4, h | 5, h | 6, h | 7, h | 8, h | 9, h | 10, h | 11, h => exact h
              | 12, h => exact Mid.ext h hx' (fun b e k => hnb hbL (by rw [← (show b = w.heap.size from k)]; exact e))
              | 13, h => exact absurd rfl hj
              | m + 14, _ => trivial
          · intro vs wx hG hF
            have hb : Blk wx w.heap.size 235 (ciC tg (upK KK (n + 1))) := hF 13 (by decide)
            clear hF
            have HN2 : Hid (Kw w tg KK (n + 1) wx) := Lib.hid ⟨hb, hG.1⟩
            clear hG hb hrun
            go_wp2_with fail
            go_roundw
            case rel => exact ⟨n + 1, by omega, by go_num, HN2⟩
            case measure => simp [intOf]; omega
        · obtain rfl : n = 60 := by omega
          have HF := Lib.hid (show IsC wr w.heap.size tg KK from ⟨by have := HR.out.c; rwa [upK_all _ HKL.out] at this, HT.out.ext_no HR.out.x, HKL.out⟩)
          go_wp2_with fail
          go_ret2
          exact ⟨_, rfl, Nat.le_refl _, HF.out, HR.out.x⟩
end Go.Proofs.Ytmbbkkonmkbnoaa
