/- Arguments that read as data, opened: what each type's cells are. Plain lemmas over any program; no condition. -/
import Derived.Test.YtlfhfomidkadiaaMem
set_option linter.unusedVariables false
set_option linter.unusedSimpArgs false
namespace Go.Proofs.Ytlfhfomidkadiaa
open Go.RowKit Go.ChangeShapes Go.WideShapes Go.Deep

/-- The cells cs read as data of type t in w. -/
def Rd (P : Program) (w : World) (t : TypeId) (cs : List Value) : Prop :=
  ∃ (H : Type) (enc : TypeId × Value → H) (base : Nat) (spare : Nat → Bool) (held : Bool) (fuel : Nat) (x : DataW H × List MemPlace), DataW.trod enc P w base spare held fuel t cs = some x

section
variable {P : Program} {w : World} {t e : TypeId} {cs : List Value}
theorem Rd.of {H : Type} {enc : TypeId × Value → H} {base : Nat} {spare : Nat → Bool} {held : Bool} {v : Value} {d : DataW H} {ps : List MemPlace} (h : DataW.Trod enc P w base spare held t v d ps) : Rd P w t v.cells.toList := by
  obtain ⟨fuel, hf⟩ := h
  exact ⟨H, enc, base, spare, held, fuel, _, hf⟩
theorem Rd.int {k : IntKind} (ht : P.underlying t = some (.int k)) (h : Rd P w t cs) : ∃ n, cs = [.int k n] ∧ (Lit.int k n).wf = true := by
  obtain ⟨H, enc, base, spare, held, fuel, x, h⟩ := h
  obtain ⟨n, rfl, _, hw⟩ := DataW.trod_int ht h
  exact ⟨n, rfl, hw⟩
theorem Rd.bool (ht : P.underlying t = some .bool) (h : Rd P w t cs) : ∃ b, cs = [.bool b] := by
  obtain ⟨H, enc, base, spare, held, fuel, x, h⟩ := h
  obtain ⟨b, rfl, _⟩ := DataW.trod_bool ht h
  exact ⟨b, rfl⟩
theorem Rd.string (ht : P.underlying t = some .string) (h : Rd P w t cs) : ∃ s : ByteArray, cs = [.string s] ∧ s.size ≤ maxLen := by
  obtain ⟨H, enc, base, spare, held, fuel, x, h⟩ := h
  obtain ⟨s, rfl, hs, _⟩ := DataW.trod_string ht h
  exact ⟨s, rfl, by assumption⟩
theorem Rd.struct {fs : Array Field} (ht : P.underlying t = some (.struct fs)) (h : Rd P w t cs) :
    cs.length = P.cellsOf t ∧ ∀ (i : Nat) (f : Field), fs[i]? = some f → Rd P w f.type ((cs.drop f.offset).take (P.cellsOf f.type)) := by
  obtain ⟨H, enc, base, spare, held, fuel, x, h⟩ := h
  obtain ⟨xs, n, _, _, hl, hxl, hf⟩ := DataW.trod_struct ht h
  refine ⟨hl, fun i f hi => ?_⟩
  have hlt : i < fs.size := (Array.getElem?_eq_some_iff.1 hi).1
  exact ⟨H, enc, base, spare, held, n, xs[i]'(by omega), by rw [hf i f hi]; exact List.getElem?_eq_getElem (by omega)⟩
theorem addr_add (b off n : Nat) : (⟨b, off, none⟩ : Addr).add n = ⟨b, off + n, none⟩ := by unfold Addr.add; split <;> simp_all
theorem addr_spot {w : World} {a : Addr} {v : Value} (h : w.cell? a = some v) : a.spot = none := by
  unfold World.cell? at h
  split at h
  · split at h
    · cases h
    · rename_i hs; simpa using hs
  · cases h
theorem Rd.slice (ht : P.underlying t = some (.slice e)) (hC : 0 < P.cellsOf e) (h : Rd P w t cs) :
    ∃ A len cap, cs = [.slice A len cap] ∧ len ≤ cap ∧ cap ≤ maxLen ∧ (A = none → len = 0) ∧ ∃ b off, ∀ i, i < len → A = some ⟨b, off, none⟩ ∧ ∃ cs', cs'.length = P.cellsOf e ∧
      (∀ j u, cs'[j]? = some u → w.cell? ⟨b, off + i * P.cellsOf e + j, none⟩ = some u) ∧ Rd P w e cs' := by
  obtain ⟨H, enc, base, spare, held, fuel, x, h⟩ := h
  rcases open_slice ht h with ⟨rfl, _⟩ | ⟨a, len, cap, m, n, D, Pl, rfl, hb, hl, hm, hmm, hx, hi⟩
  · exact ⟨none, 0, 0, rfl, Nat.le_refl _, Nat.zero_le _, fun _ => rfl, 0, 0, fun i hi => absurd hi (Nat.not_lt_zero _)⟩
  · refine ⟨some a, len, cap, rfl, hl, hm, (fun h => by cases h), a.block, a.off, fun i hlt => ?_⟩
    have hlm : len ≤ m := by rw [hmm]; split <;> omega
    have hsp : a.spot = none := by
      obtain ⟨cs0, h0, _⟩ := hi 0 (by omega)
      obtain ⟨_, hl0, hc0⟩ := World.cells?_some h0
      have := hc0 0 hC
      rw [List.getElem?_eq_getElem (by omega)] at this
      have h2 := addr_spot this
      simpa [Addr.add] using h2
    obtain ⟨b, off, sp⟩ := a
    simp only at hsp
    subst hsp
    refine ⟨rfl, ?_⟩
    obtain ⟨cs', hc, ht'⟩ := hi i (by omega)
    obtain ⟨_, hcl, hcc⟩ := World.cells?_some hc
    refine ⟨cs', hcl, fun j u hu => ?_, H, enc, base, spare, held, n, _, ht'⟩
    have hj : j < cs'.length := (List.getElem?_eq_some_iff.1 hu).1
    have := hcc j (by omega)
    rw [addr_add, addr_add] at this
    exact this.trans hu
end

section
variable {P : Program} {w : World} {t : TypeId} {v : Value} {r : Reach} {base : Nat}
theorem Rd.int_val {k : IntKind} (ht : P.underlying t = some (.int k)) (ok : Value.okWide P w r base t v) (h : Rd P w t v.cells.toList) : ∃ n, v = .int k n ∧ (Lit.int k n).wf = true := by
  obtain ⟨H, enc, base', spare, held, fuel, x, hx⟩ := h
  obtain ⟨n, rfl, _, _, hw⟩ := open_int ht ok ⟨fuel, hx⟩
  exact ⟨n, rfl, hw⟩
theorem Rd.bool_val (ht : P.underlying t = some .bool) (ok : Value.okWide P w r base t v) (h : Rd P w t v.cells.toList) : ∃ b, v = .bool b := by
  obtain ⟨H, enc, base', spare, held, fuel, x, hx⟩ := h
  obtain ⟨b, rfl, _⟩ := open_bool ht ok ⟨fuel, hx⟩
  exact ⟨b, rfl⟩
end
end Go.Proofs.Ytlfhfomidkadiaa
