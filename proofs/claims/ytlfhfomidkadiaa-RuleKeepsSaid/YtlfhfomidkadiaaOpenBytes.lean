/- Slices of bytes and the acts of chapter 10, opened. -/
import Derived.Test.YtlfhfomidkadiaaOpen
import Derived.Test.YtlfhfomidkadiaaBytes
set_option linter.unusedVariables false
set_option linter.unusedSimpArgs false
namespace Go.Proofs.Ytlfhfomidkadiaa
open Go.RowKit Go.ChangeShapes Go.WideShapes Go.Deep

/-- A slice of bytes that reads as data reads as a list of bytes. -/
theorem bytes_of {W : World} {cs : List Value} (h : Rd Try.prog W 46 cs) : ∃ A c l, cs = [.slice A (List.length l) c] ∧ Bs W (fun b => b < W.heap.size) (.slice A (List.length l) c) l := by
  have hC : Try.prog.cellsOf 5 = 1 := by kernel_rfl
  obtain ⟨A, len, cap, hcs, hl, hcm, hA0, b, off, hi⟩ := Rd.slice Try.underlying46 (by rw [hC]; omega) h
  have hbyte : ∀ i, i < len → ∃ x : UInt8, W.cell? ⟨b, off + i, none⟩ = some (.int .u8 (x.toNat : Int)) := by
    intro i hlt
    obtain ⟨_, cs', hcl, hcell, hrd⟩ := hi i hlt
    obtain ⟨n, rfl, hw⟩ := Rd.int Try.underlying5 hrd
    have hb := bounds_u8 hw
    have := hcell 0 _ rfl
    rw [hC] at this
    simp only [Nat.mul_one, Nat.add_zero] at this
    refine ⟨UInt8.ofNat n.toNat, ?_⟩
    have e : ((UInt8.ofNat n.toNat).toNat : Int) = n := by
      rw [UInt8.toNat_ofNat']
      have : n.toNat % 2 ^ 8 = n.toNat := Nat.mod_eq_of_lt (by have := hb.2; have := hb.1; omega)
      rw [this]; omega
    rw [this, e]
  have hx : ∃ f : Nat → UInt8, ∀ i, i < len → W.cell? ⟨b, off + i, none⟩ = some (.int .u8 ((f i).toNat : Int)) :=
    ⟨fun i => if hi : i < len then (hbyte i hi).choose else 0, fun i hlt => by
      simp only [hlt, dif_pos]
      exact (hbyte i hlt).choose_spec⟩
  obtain ⟨f, hf⟩ := hx
  have hll : ((List.range len).map f).length = len := by simp
  refine ⟨A, cap, (List.range len).map f, by rw [hll]; exact hcs, ?_⟩
  rw [hll]
  refine ⟨by simp [u8s], A, cap, by rw [hll], by rw [hll]; exact hl, hcm, fun h0 => ?_⟩
  rw [hll] at h0
  refine ⟨b, off, (hi 0 h0).1, World.block_lt_of_cell? W _ (hf 0 h0), fun j u hu => ?_⟩
  have hj : j < len := by have := (List.getElem?_eq_some_iff.1 hu).1; simpa [u8s] using this
  rw [hf j hj]
  simpa [u8s, u8v, hj] using hu
end Go.Proofs.Ytlfhfomidkadiaa
