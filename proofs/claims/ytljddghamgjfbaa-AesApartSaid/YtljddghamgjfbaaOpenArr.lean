/- Arrays of bytes that read as data, opened. -/
import Derived.Test.YtljddghamgjfbaaOpenBytes
import Derived.ChangeArms
set_option linter.unusedVariables false
set_option linter.unusedSimpArgs false
namespace Go.Proofs.Ytljddghamgjfbaa
open Go.RowKit Go.Deep Go.ChangeShapes Go.WideShapes

theorem Rd.array {P : Program} {w : World} {t e : TypeId} {n : Nat} {cs : List Value} (ht : P.underlying t = some (.array n e)) (h : Rd P w t cs) :
    cs.length = P.cellsOf t ∧ ∀ i, i < n → Rd P w e ((cs.drop (i * P.cellsOf e)).take (P.cellsOf e)) := by
  obtain ⟨H, enc, base, spare, held, fuel, x, h⟩ := h
  cases fuel with
  | zero => simp [DataW.trod] at h
  | succ m =>
    unfold DataW.trod at h
    rw [ht] at h
    split at h <;> simp_all
    obtain ⟨hl, xs, hp, hd⟩ := h
    intro i hi
    have := mapM_some_get hp i i (by simp [hi])
    have hlen := mapM_some_length hp
    rw [List.length_range] at hlen
    exact ⟨H, enc, base, spare, held, m, xs[i]'(by omega), by rw [this]; exact List.getElem?_eq_getElem (by omega)⟩
set_option maxRecDepth 100000 in
/-- An array of bytes that reads as data. -/
theorem bytesN_of {W : World} {t : TypeId} {n : Nat} {v : Value} {r : Reach} {base : Nat} (ht : Try.prog.underlying t = some (.array n 5)) (hc : Try.prog.cellsOf t = n) (ok : Value.okWide Try.prog W r base t v) (u : Rd Try.prog W t v.cells.toList) : ∃ l : List UInt8, l.length = n ∧ v = .agg (u8s l).toArray := by
  have hC : Try.prog.cellsOf 5 = 1 := by kernel_rfl
  simp only [Value.okWide, ht] at ok
  obtain ⟨cs, rfl, hsz, _⟩ := ok
  obtain ⟨_, hi⟩ := Rd.array ht u
  rw [hC] at hi
  rw [hc] at hsz
  have hcs : (Value.agg cs).cells.toList = cs.toList := rfl
  rw [hcs] at hi
  have hbyte : ∀ i, (h : i < n) → ∃ x : UInt8, cs[i]? = some (.int .u8 (x.toNat : Int)) := by
    intro i hlt
    have h1 := hi i hlt
    rw [Nat.mul_one, List.drop_eq_getElem_cons (by simpa [hsz] using hlt), List.take_succ_cons, List.take_zero] at h1
    obtain ⟨m, hm, hw⟩ := Rd.int Try.underlying5 h1
    have hb := bounds_u8 hw
    simp only [List.cons.injEq, and_true] at hm
    refine ⟨UInt8.ofNat m.toNat, ?_⟩
    have e : ((UInt8.ofNat m.toNat).toNat : Int) = m := by
      rw [UInt8.toNat_ofNat']
      have : m.toNat % 2 ^ 8 = m.toNat := Nat.mod_eq_of_lt (by have := hb.2; have := hb.1; omega)
      rw [this]; have := hb.1; omega
    rw [e, ← hm, Array.getElem_toList, Array.getElem?_eq_getElem (by omega)]
  obtain ⟨f, hf⟩ : ∃ f : Nat → UInt8, ∀ i, i < n → cs[i]? = some (.int .u8 ((f i).toNat : Int)) :=
    ⟨fun i => if h : i < n then (hbyte i h).choose else 0, fun i hlt => by
      simp only [hlt, dif_pos]
      exact (hbyte i hlt).choose_spec⟩
  have hcs2 : cs = (u8s ((List.range n).map f)).toArray := ?_
  · exact ⟨(List.range n).map f, by simp, by rw [hcs2]⟩
  apply Array.ext_getElem?
  intro i
  by_cases hlt : i < n
  · rw [hf i hlt]
    simp [u8s, u8v, hlt]
  · rw [Array.getElem?_eq_none (by omega), Array.getElem?_eq_none (by simp [u8s]; omega)]
end Go.Proofs.Ytljddghamgjfbaa
