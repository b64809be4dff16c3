/- Between rows of bytes and the print's kinds. -/
import Derived.Test.YtljddghamgjfbaaBytes
import Derived.Test.YtljddghamgjfbaaPGcmSealsx0
set_option linter.unusedVariables false
set_option linter.unusedSimpArgs false
namespace Go.Proofs.Ytljddghamgjfbaa
open Go.RowKit Go.Deep Go.Proofs.YtljddghamgjfbaaW.PrintWords

def i8 (l : List UInt8) : List Int := l.map fun b => (b.toNat : Int)
theorem i8_length (l : List UInt8) : (i8 l).length = l.length := by simp [i8]
theorem i8_append (l m : List UInt8) : i8 (l ++ m) = i8 l ++ i8 m := by simp [i8]
theorem i8_get {l : List UInt8} {k : Nat} (h : k < l.length) : (i8 l)[k]? = some (l[k].toNat : Int) := by simp [i8, h]
theorem rd_i8 {l : List UInt8} {k : Nat} (h : k < l.length) : rd (i8 l) (k : Int) = (l[k].toNat : Int) := by
  unfold rd; rw [Int.toNat_natCast]; simp [i8, h]
theorem u8s_i8 (l : List UInt8) : u8s l = (i8 l).map (Value.int .u8) := by simp [u8s, u8v, i8]
theorem i8_inj {l m : List UInt8} (h : i8 l = i8 m) : l = m := by
  unfold i8 at h
  exact (List.map_inj_right (fun a b h => UInt8.toNat_inj.1 (by exact_mod_cast h))).1 h
theorem Bs.C {w : World} {F : Nat → Prop} {A : Option Addr} {n c : Nat} {l : List UInt8} (h : Bs w F (.slice A n c) l) : n = (i8 l).length ∧ (i8 l).length ≤ c ∧ Kd.C (Kd.int .u8) w A (i8 l).length (i8 l) := by
  obtain ⟨h1, A', c', e, h2, h3, h4⟩ := h
  injection e with e1 e2 e3
  subst e1 e3
  rw [i8_length]
  refine ⟨e2, h2, by rw [i8_length], by unfold maxLen at h3; omega, fun h0 => ?_⟩
  obtain ⟨b, off, hA, _, hc⟩ := h4 h0
  refine ⟨⟨b, off, none⟩, hA, fun j p hp => ⟨[.int .u8 p], rfl, rfl, fun i u hu => ?_⟩⟩
  have hj : j < (i8 l).length := (List.getElem?_eq_some_iff.1 hp).1
  cases i with
  | zero =>
    have : Value.int .u8 p = u := by simpa using hu
    subst this
    rw [show (⟨b, off, none⟩ : Addr).add (j * (Kd.int .u8).sz + 0) = ⟨b, off + j, none⟩ by show Addr.add _ (j * 1 + 0) = _; unfold Addr.add; split <;> simp_all]
    refine hc j _ ?_
    rw [u8s_i8, List.getElem?_map, hp]; rfl
  | succ i => simp at hu
theorem Own.of_R {w : World} {base : Nat} {ok : Nat → Prop} {v : Value} {l : List UInt8} (h : Kd.R (Kd.int .u8) 5 w base ok v (i8 l)) : Own w base v l := by
  obtain ⟨_, inner, ho, hr⟩ := h
  have hl : inner.length = l.length := by have := hr.1; rw [i8_length] at this; simpa [Kd.int, Kd.scalar] using this
  have : inner = u8s l := by
    apply List.ext_getElem?
    intro j
    by_cases hj : j < l.length
    · have h2 := hr.2 j _ (i8_get hj)
      have h3 : (inner.drop (j * 1)).take 1 = [Value.int .u8 (l[j].toNat : Int)] := h2
      rw [Nat.mul_one, List.drop_eq_getElem_cons (by omega : j < inner.length)] at h3
      have h5 := congrArg List.head? h3
      rw [List.take_succ_cons] at h5
      have h4 := Option.some.inj h5
      rw [List.getElem?_eq_getElem (by omega : j < inner.length), h4, u8s_get hj]
    · rw [List.getElem?_eq_none (by omega), List.getElem?_eq_none (by rw [u8s_length]; omega)]
  rw [i8_length, this] at ho
  exact ho
end Go.Proofs.Ytljddghamgjfbaa
