/- AES: unlike blocks stay unlike. Plain Lean; no condition. -/
import Derived.Test.YtljddghamgjfbaaAesEnc
set_option linter.unusedVariables false
set_option linter.unusedSimpArgs false
namespace Go.Proofs.Ytljddghamgjfbaa
open Ae Ar
namespace Ai

theorem xc (x y : UInt8) : x ^^^ (x ^^^ y) = y := by rw [← UInt8.xor_assoc, UInt8.xor_self, UInt8.zero_xor]
theorem xl (x y z : UInt8) : x ^^^ (y ^^^ z) = y ^^^ (x ^^^ z) := by rw [← UInt8.xor_assoc, UInt8.xor_comm x y, UInt8.xor_assoc]
theorem xinj {a b k : UInt8} (h : a ^^^ k = b ^^^ k) : a = b := by
  have := congrArg (fun z => k ^^^ z) h
  simp only [UInt8.xor_comm _ k, xc] at this
  exact this
/-- A byte of a column, mixed. -/
def cm (D : UInt8 → UInt8) (x0 x1 x2 x3 : UInt8) : UInt8 := D x0 ^^^ (D x1 ^^^ x1) ^^^ x2 ^^^ x3
theorem cm2 (D : UInt8 → UInt8) (hD : ∀ a b, D (a ^^^ b) = D a ^^^ D b) (x0 x1 x2 x3 : UInt8) :
    cm D (cm D x0 x1 x2 x3) (cm D x1 x2 x3 x0) (cm D x2 x3 x0 x1) (cm D x3 x0 x1 x2) = D (D x0) ^^^ x0 ^^^ D (D x2) := by
  unfold cm
  simp only [hD, UInt8.xor_assoc]
  generalize D (D x0) = p0
  generalize D (D x1) = p1
  generalize D (D x2) = p2
  generalize D (D x3) = p3
  generalize D x0 = q0
  generalize D x1 = q1
  generalize D x2 = q2
  generalize D x3 = q3
  simp only [xl, UInt8.xor_comm, xc, UInt8.xor_self, UInt8.xor_zero, UInt8.zero_xor]
theorem dd4 (D : UInt8 → UInt8) (hD : ∀ a b, D (a ^^^ b) = D a ^^^ D b) (x0 x2 : UInt8) :
    D (D (D (D x0) ^^^ x0 ^^^ D (D x2))) ^^^ (D (D x0) ^^^ x0 ^^^ D (D x2)) ^^^ D (D (D (D x2) ^^^ x2 ^^^ D (D x0))) = x0 := by
  simp only [hD, UInt8.xor_assoc]
  generalize D (D (D (D x0))) = p0
  generalize D (D (D (D x2))) = p2
  generalize D (D x0) = q0
  generalize D (D x2) = q2
  simp only [xl, UInt8.xor_comm, xc, UInt8.xor_self, UInt8.xor_zero, UInt8.zero_xor]
/-- A column is known from what it becomes. -/
theorem col_inj (D : UInt8 → UInt8) (hD : ∀ a b, D (a ^^^ b) = D a ^^^ D b) {x0 x1 x2 x3 y0 y1 y2 y3 : UInt8}
    (h0 : cm D x0 x1 x2 x3 = cm D y0 y1 y2 y3) (h1 : cm D x1 x2 x3 x0 = cm D y1 y2 y3 y0) (h2 : cm D x2 x3 x0 x1 = cm D y2 y3 y0 y1) (h3 : cm D x3 x0 x1 x2 = cm D y3 y0 y1 y2) : x0 = y0 ∧ x1 = y1 ∧ x2 = y2 ∧ x3 = y3 := by
  have e0 : D (D x0) ^^^ x0 ^^^ D (D x2) = D (D y0) ^^^ y0 ^^^ D (D y2) := by rw [← cm2 D hD x0 x1 x2 x3, ← cm2 D hD y0 y1 y2 y3, h0, h1, h2, h3]
  have e1 : D (D x1) ^^^ x1 ^^^ D (D x3) = D (D y1) ^^^ y1 ^^^ D (D y3) := by rw [← cm2 D hD x1 x2 x3 x0, ← cm2 D hD y1 y2 y3 y0, h0, h1, h2, h3]
  have e2 : D (D x2) ^^^ x2 ^^^ D (D x0) = D (D y2) ^^^ y2 ^^^ D (D y0) := by rw [← cm2 D hD x2 x3 x0 x1, ← cm2 D hD y2 y3 y0 y1, h0, h1, h2, h3]
  have e3 : D (D x3) ^^^ x3 ^^^ D (D x1) = D (D y3) ^^^ y3 ^^^ D (D y1) := by rw [← cm2 D hD x3 x0 x1 x2, ← cm2 D hD y3 y0 y1 y2, h0, h1, h2, h3]
  refine ⟨?_, ?_, ?_, ?_⟩
  · rw [← dd4 D hD x0 x2, e0, e2, dd4 D hD y0 y2]
  · rw [← dd4 D hD x1 x3, e1, e3, dd4 D hD y1 y3]
  · rw [← dd4 D hD x2 x0, e2, e0, dd4 D hD y2 y0]
  · rw [← dd4 D hD x3 x1, e3, e1, dd4 D hD y3 y1]
theorem ext16 {a b : List UInt8} (ha : a.length = 16) (hb : b.length = 16) (h : ∀ i, i < 16 → a.getD i 0 = b.getD i 0) : a = b := by
  apply List.ext_getElem?
  intro i
  by_cases hi : i < 16
  · have := h i hi
    rw [List.getD_eq_getElem?_getD, List.getD_eq_getElem?_getD, List.getElem?_eq_getElem (by omega), List.getElem?_eq_getElem (by omega)] at this
    rw [List.getElem?_eq_getElem (by omega), List.getElem?_eq_getElem (by omega)]
    exact congrArg some this
  · rw [List.getElem?_eq_none (by omega), List.getElem?_eq_none (by omega)]
theorem xr_inj {a b k : List UInt8} (ha : a.length = 16) (hb : b.length = 16) (hk : k.length = 16) (h : xr a k = xr b k) : a = b :=
  ext16 ha hb fun i hi => by
    have h1 := xr_get a k i ha hk hi
    rw [h, xr_get b k i hb hk hi] at h1
    exact (xinj h1).symm
theorem bxu_inj {a b : UInt8} (h : bx a = bx b) : a = b := by
  apply UInt8.toNat_inj.1
  apply bx_inj a.toNat_lt b.toNat_lt
  rw [← bx_nat, ← bx_nat, h]
theorem shf_inj {a b : List UInt8} (ha : a.length = 16) (hb : b.length = 16) (h : shf a = shf b) : a = b :=
  ext16 ha hb fun j hj => by
    have h1 := shf_get a ((j + 12 * (j % 4)) % 16) (by omega)
    rw [h, shf_get b _ (by omega), show ((j + 12 * (j % 4)) % 16 + 4 * ((j + 12 * (j % 4)) % 16 % 4)) % 16 = j by omega] at h1
    exact (bxu_inj h1).symm
theorem mix_inj {a b : List UInt8} (ha : a.length = 16) (hb : b.length = 16) (h : mix a = mix b) : a = b := by
  have hc : ∀ c, c < 4 → a.getD (4 * c) 0 = b.getD (4 * c) 0 ∧ a.getD (4 * c + 1) 0 = b.getD (4 * c + 1) 0 ∧ a.getD (4 * c + 2) 0 = b.getD (4 * c + 2) 0 ∧ a.getD (4 * c + 3) 0 = b.getD (4 * c + 3) 0 := fun c hc => by
    have e : ∀ r, r < 4 → mc a c r = mc b c r := fun r hr => by
      rw [← mxa_mc a c r hr, ← mxa_mc b c r hr, ← mix_get a (4 * c) r (by omega) (by omega) hr, ← mix_get b (4 * c) r (by omega) (by omega) hr, h]
    have e0 := e 0 (by omega)
    have e1 := e 1 (by omega)
    have e2 := e 2 (by omega)
    have e3 := e 3 (by omega)
    unfold mc at e0 e1 e2 e3
    have hd := db_xor
    generalize db = D at *
    exact col_inj D hd e0 e1 e2 e3
  refine ext16 ha hb fun i hi => ?_
  have h4 := hc (i / 4) (by omega)
  rcases (by omega : i = 4 * (i / 4) ∨ i = 4 * (i / 4) + 1 ∨ i = 4 * (i / 4) + 2 ∨ i = 4 * (i / 4) + 3) with e | e | e | e
  · rw [e]; exact h4.1
  · rw [e]; exact h4.2.1
  · rw [e]; exact h4.2.2.1
  · rw [e]; exact h4.2.2.2
theorem rnds_inj {K a b : List UInt8} (hK : K.length = 240) (ha : a.length = 16) (hb : b.length = 16) : ∀ r, r < 15 → rnds K a r = rnds K b r → a = b
  | 0, _, h => xr_inj ha hb (rk_length K 0 hK (by omega)) h
  | r + 1, hr, h => rnds_inj hK ha hb r (by omega) (shf_inj (rnds_length K a hK ha r (by omega)) (rnds_length K b hK hb r (by omega)) (mix_inj (shf_length _) (shf_length _) (xr_inj (mix_length _) (mix_length _) (rk_length K (r + 1) hK hr) h)))
theorem enc_inj {K a b : List UInt8} (hK : K.length = 240) (ha : a.length = 16) (hb : b.length = 16) (h : enc K a = enc K b) : a = b :=
  rnds_inj hK ha hb 13 (by omega) (shf_inj (rnds_length K a hK ha 13 (by omega)) (rnds_length K b hK hb 13 (by omega)) (xr_inj (shf_length _) (shf_length _) (rk_length K 14 hK (by omega)) h))
end Ai
end Go.Proofs.Ytljddghamgjfbaa
