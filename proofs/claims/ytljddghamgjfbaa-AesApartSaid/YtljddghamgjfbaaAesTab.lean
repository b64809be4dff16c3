/- AES: the tables of bytes. Plain Lean; no condition. -/
import Derived.Test.YtljddghamgjfbaaOctet
set_option linter.unusedVariables false
set_option linter.unusedSimpArgs false
namespace Go.Proofs.Ytljddghamgjfbaa
namespace Ae

/-! ### 1. Bytes, as numbers -/
def dblN (c : Nat) : Nat := if Nat.ble 128 c then Nat.xor (c * 2 % 256) 27 else c * 2
def pwL : List Nat := [1, 3, 5, 15, 17, 51, 85, 255, 26, 46, 114, 150, 161, 248, 19, 53, 95, 225, 56, 72, 216, 115, 149, 164, 247, 2, 6, 10, 30, 34, 102, 170, 229, 52, 92, 228, 55, 89, 235, 38, 106, 190, 217, 112, 144, 171, 230, 49, 83, 245, 4, 12, 20, 60, 68, 204, 79, 209, 104, 184, 211, 110, 178, 205, 76, 212, 103, 169, 224, 59, 77, 215, 98, 166, 241, 8, 24, 40, 120, 136, 131, 158, 185, 208, 107, 189, 220, 127, 129, 152, 179, 206, 73, 219, 118, 154, 181, 196, 87, 249, 16, 48, 80, 240, 11, 29, 39, 105, 187, 214, 97, 163, 254, 25, 43, 125, 135, 146, 173, 236, 47, 113, 147, 174, 233, 32, 96, 160, 251, 22, 58, 78, 210, 109, 183, 194, 93, 231, 50, 86, 250, 21, 63, 65, 195, 94, 226, 61, 71, 201, 64, 192, 91, 237, 44, 116, 156, 191, 218, 117, 159, 186, 213, 100, 172, 239, 42, 126, 130, 157, 188, 223, 122, 142, 137, 128, 155, 182, 193, 88, 232, 35, 101, 175, 234, 37, 111, 177, 200, 67, 197, 84, 252, 31, 33, 99, 165, 244, 7, 9, 27, 45, 119, 153, 176, 203, 70, 202, 69, 207, 74, 222, 121, 139, 134, 145, 168, 227, 62, 66, 198, 81, 243, 14, 18, 54, 90, 238, 41, 123, 141, 140, 143, 138, 133, 148, 167, 242, 13, 23, 57, 75, 221, 124, 132, 151, 162, 253, 28, 36, 108, 180, 199, 82, 246]
def lgL : List Nat := [0, 0, 25, 1, 50, 2, 26, 198, 75, 199, 27, 104, 51, 238, 223, 3, 100, 4, 224, 14, 52, 141, 129, 239, 76, 113, 8, 200, 248, 105, 28, 193, 125, 194, 29, 181, 249, 185, 39, 106, 77, 228, 166, 114, 154, 201, 9, 120, 101, 47, 138, 5, 33, 15, 225, 36, 18, 240, 130, 69, 53, 147, 218, 142, 150, 143, 219, 189, 54, 208, 206, 148, 19, 92, 210, 241, 64, 70, 131, 56, 102, 221, 253, 48, 191, 6, 139, 98, 179, 37, 226, 152, 34, 136, 145, 16, 126, 110, 72, 195, 163, 182, 30, 66, 58, 107, 40, 84, 250, 133, 61, 186, 43, 121, 10, 21, 155, 159, 94, 202, 78, 212, 172, 229, 243, 115, 167, 87, 175, 88, 168, 80, 244, 234, 214, 116, 79, 174, 233, 213, 231, 230, 173, 232, 44, 215, 117, 122, 235, 22, 11, 245, 89, 203, 95, 176, 156, 169, 81, 160, 127, 12, 246, 111, 23, 196, 73, 236, 216, 67, 31, 45, 164, 118, 123, 183, 204, 187, 62, 90, 251, 96, 177, 134, 59, 82, 161, 108, 170, 85, 41, 157, 151, 178, 135, 144, 97, 190, 220, 252, 188, 149, 207, 205, 55, 63, 91, 209, 83, 57, 132, 60, 65, 162, 109, 71, 20, 42, 158, 93, 86, 242, 211, 171, 68, 17, 146, 217, 35, 32, 46, 137, 180, 124, 184, 38, 119, 153, 227, 165, 103, 74, 237, 222, 197, 49, 254, 24, 13, 99, 140, 128, 192, 247, 112, 7]
def bxL : List Nat := [99, 124, 119, 123, 242, 107, 111, 197, 48, 1, 103, 43, 254, 215, 171, 118, 202, 130, 201, 125, 250, 89, 71, 240, 173, 212, 162, 175, 156, 164, 114, 192, 183, 253, 147, 38, 54, 63, 247, 204, 52, 165, 229, 241, 113, 216, 49, 21, 4, 199, 35, 195, 24, 150, 5, 154, 7, 18, 128, 226, 235, 39, 178, 117, 9, 131, 44, 26, 27, 110, 90, 160, 82, 59, 214, 179, 41, 227, 47, 132, 83, 209, 0, 237, 32, 252, 177, 91, 106, 203, 190, 57, 74, 76, 88, 207, 208, 239, 170, 251, 67, 77, 51, 133, 69, 249, 2, 127, 80, 60, 159, 168, 81, 163, 64, 143, 146, 157, 56, 245, 188, 182, 218, 33, 16, 255, 243, 210, 205, 12, 19, 236, 95, 151, 68, 23, 196, 167, 126, 61, 100, 93, 25, 115, 96, 129, 79, 220, 34, 42, 144, 136, 70, 238, 184, 20, 222, 94, 11, 219, 224, 50, 58, 10, 73, 6, 36, 92, 194, 211, 172, 98, 145, 149, 228, 121, 231, 200, 55, 109, 141, 213, 78, 169, 108, 86, 244, 234, 101, 122, 174, 8, 186, 120, 37, 46, 28, 166, 180, 198, 232, 221, 116, 31, 75, 189, 139, 138, 112, 62, 181, 102, 72, 3, 246, 14, 97, 53, 87, 185, 134, 193, 29, 158, 225, 248, 152, 17, 105, 217, 142, 148, 155, 30, 135, 233, 206, 85, 40, 223, 140, 161, 137, 13, 191, 230, 66, 104, 65, 153, 45, 15, 176, 84, 187, 22]
def pwN (k : Nat) : Nat := pwL.getD k 0
def lgN (c : Nat) : Nat := lgL.getD c 0
def invN (c : Nat) : Nat := if c = 0 then 0 else pwN ((255 - lgN c) % 255)
/-- A byte turned so far. -/
def sbK (v : Nat) : Nat → Nat
  | 0 => 99
  | k + 1 => Nat.xor (sbK v k) (Nat.lor (v * 2 ^ k % 256) (v / 2 ^ (8 - k)))
def bxN (c : Nat) : Nat := bxL.getD c 0
/-- All below n. -/
def allN (p : Nat → Bool) : Nat → Bool
  | 0 => true
  | n + 1 => p n && allN p n
theorem allN_at {p : Nat → Bool} : ∀ {n : Nat}, allN p n = true → ∀ i, i < n → p i = true
  | 0, _, i, h => absurd h (Nat.not_lt_zero i)
  | n + 1, h, i, hi => by
    simp only [allN, Bool.and_eq_true] at h
    by_cases e : i = n
    · subst e; exact h.1
    · exact allN_at h.2 i (by omega)
set_option maxRecDepth 100000 in
theorem dbl_lt (c : Nat) (h : c < 256) : dblN c < 256 := by
  have := allN_at (p := fun c => Nat.blt (dblN c) 256) (n := 256) (by decide +kernel) c h
  simpa using this
theorem pw_step (k : Nat) (h : k < 254) : pwN (k + 1) = Nat.xor (pwN k) (dblN (pwN k)) := by
  have := allN_at (p := fun k => Nat.beq (pwN (k + 1)) (Nat.xor (pwN k) (dblN (pwN k)))) (n := 254) (by decide +kernel) k h
  simpa using this
theorem lg_pw (k : Nat) (h : k < 255) : lgN (pwN k) = k := by
  have := allN_at (p := fun k => Nat.beq (lgN (pwN k)) k) (n := 255) (by decide +kernel) k h
  simpa using this
theorem pw_lt (k : Nat) (h : k < 255) : 0 < pwN k ∧ pwN k < 256 := by
  have := allN_at (p := fun k => Nat.blt 0 (pwN k) && Nat.blt (pwN k) 256) (n := 255) (by decide +kernel) k h
  simpa using this
theorem pw_lg (c : Nat) (h0 : 0 < c) (h : c < 256) : pwN (lgN c) = c ∧ lgN c < 255 := by
  have := allN_at (p := fun c => Nat.beq c 0 || (Nat.beq (pwN (lgN c)) c && Nat.blt (lgN c) 255)) (n := 256) (by decide +kernel) c h
  simp at this
  omega
theorem inv_lt (c : Nat) (h : c < 256) : invN c < 256 := by
  have := allN_at (p := fun c => Nat.blt (invN c) 256) (n := 256) (by decide +kernel) c h
  simpa using this
theorem sbK_lt (v k : Nat) (h : v < 256) (hk : k < 6) : sbK v k < 256 := by
  have := allN_at (p := fun v => allN (fun k => Nat.blt (sbK v k) 256) 6) (n := 256) (by decide +kernel) v h
  have := allN_at this k hk
  simpa using this
theorem bx_eq (c : Nat) (h : c < 256) : bxN c = sbK (invN c) 5 := by
  have := allN_at (p := fun c => Nat.beq (bxN c) (sbK (invN c) 5)) (n := 256) (by decide +kernel) c h
  simpa using this
theorem bx_lt (c : Nat) (h : c < 256) : bxN c < 256 := by rw [bx_eq c h]; exact sbK_lt _ _ (inv_lt c h) (by omega)
def ibL : List Nat := [82, 9, 106, 213, 48, 54, 165, 56, 191, 64, 163, 158, 129, 243, 215, 251, 124, 227, 57, 130, 155, 47, 255, 135, 52, 142, 67, 68, 196, 222, 233, 203, 84, 123, 148, 50, 166, 194, 35, 61, 238, 76, 149, 11, 66, 250, 195, 78, 8, 46, 161, 102, 40, 217, 36, 178, 118, 91, 162, 73, 109, 139, 209, 37, 114, 248, 246, 100, 134, 104, 152, 22, 212, 164, 92, 204, 93, 101, 182, 146, 108, 112, 72, 80, 253, 237, 185, 218, 94, 21, 70, 87, 167, 141, 157, 132, 144, 216, 171, 0, 140, 188, 211, 10, 247, 228, 88, 5, 184, 179, 69, 6, 208, 44, 30, 143, 202, 63, 15, 2, 193, 175, 189, 3, 1, 19, 138, 107, 58, 145, 17, 65, 79, 103, 220, 234, 151, 242, 207, 206, 240, 180, 230, 115, 150, 172, 116, 34, 231, 173, 53, 133, 226, 249, 55, 232, 28, 117, 223, 110, 71, 241, 26, 113, 29, 41, 197, 137, 111, 183, 98, 14, 170, 24, 190, 27, 252, 86, 62, 75, 198, 210, 121, 32, 154, 219, 192, 254, 120, 205, 90, 244, 31, 221, 168, 51, 136, 7, 199, 49, 177, 18, 16, 89, 39, 128, 236, 95, 96, 81, 127, 169, 25, 181, 74, 13, 45, 229, 122, 159, 147, 201, 156, 239, 160, 224, 59, 77, 174, 42, 245, 176, 200, 235, 187, 60, 131, 83, 153, 97, 23, 43, 4, 126, 186, 119, 214, 38, 225, 105, 20, 99, 85, 33, 12, 125]
theorem bx_inj {a b : Nat} (ha : a < 256) (hb : b < 256) (h : bxN a = bxN b) : a = b := by
  have f : ∀ c, c < 256 → ibL.getD (bxN c) 0 = c := fun c hc => by
    have := allN_at (p := fun c => Nat.beq (ibL.getD (bxN c) 0) c) (n := 256) (by decide +kernel) c hc
    simpa using this
  rw [← f a ha, ← f b hb, h]
/-! ### 2. The reference's product -/
def tmK (b : Nat) : Nat → Nat → Nat → Nat
  | 0, x, out => out
  | n + 1, x, out => tmK b n (dblN x) (if Nat.beq (Nat.land (b / 2 ^ (7 - n)) 1) 1 then Nat.xor out x else out)
def tmN (a b : Nat) : Nat := tmK b 8 a 0
theorem inv_first (c i : Nat) (hc : c < 256) (hi : i < 256) : tmN c i = 1 ↔ c ≠ 0 ∧ i = invN c := by
  have := allN_at (p := fun c => allN (fun i => Nat.beq (tmN c i) 1 == (!(Nat.beq c 0) && Nat.beq i (invN c))) 256) (n := 256) (by decide +kernel) c hc
  have h := allN_at this i hi
  have h : (tmN c i).beq 1 = (!c.beq 0 && i.beq (invN c)) := by simpa using h
  have h2 : Nat.beq (tmN c i) 1 = true ↔ (!Nat.beq c 0 && Nat.beq i (invN c)) = true := by rw [h]
  rw [Nat.beq_eq] at h2
  rw [h2, Bool.and_eq_true, Nat.beq_eq, Bool.not_eq_true', ← Bool.not_eq_true, Nat.beq_eq]
end Ae
end Go.Proofs.Ytljddghamgjfbaa
