/- Rows of versions, opened. -/
import Derived.Test.YtlfhfomidkadiaaOpenBytes
import Derived.Test.YtlfhfomidkadiaaVer
set_option linter.unusedVariables false
set_option linter.unusedSimpArgs false
namespace Go.Proofs.Ytlfhfomidkadiaa
open Go.RowKit Go.ChangeShapes Go.WideShapes Go.Deep

theorem cons_of {n : Nat} {cs : List Value} (h : cs.length = n + 1) : ∃ a t, cs = a :: t ∧ t.length = n := by
  cases cs with
  | nil => simp at h
  | cons a t => exact ⟨a, t, rfl, by simpa using h⟩
theorem int_one {W : World} {a : Value} (h : Rd Try.prog W 3 [a]) : ∃ n : Int, a = .int .i64 n ∧ (-9223372036854775808 ≤ n ∧ n ≤ 9223372036854775807) := by
  obtain ⟨n, e, hw⟩ := Rd.int Try.underlying3 h
  injection e with e
  exact ⟨n, e, bounds_i64 hw⟩
theorem bool_one {W : World} {a : Value} (h : Rd Try.prog W 4 [a]) : ∃ b : Bool, a = .bool b := by
  obtain ⟨b, e⟩ := Rd.bool Try.underlying4 h
  injection e with e
  exact ⟨b, e⟩
theorem bytes_one {W : World} {a : Value} (h : Rd Try.prog W 46 [a]) : ∃ A c l, a = .slice A (List.length l) c ∧ Bs W (fun b => b < W.heap.size) (.slice A (List.length l) c) l := by
  obtain ⟨A, c, l, e, hb⟩ := bytes_of h
  injection e with e
  exact ⟨A, c, l, e, hb⟩
theorem ver_of {W : World} {cs : List Value} (h : Rd Try.prog W 55 cs) : ∃ x : Vr, cs = x.cs ∧ Vr.Ok W (fun b => b < W.heap.size) x := by
  have hCi : Try.prog.cellsOf 3 = 1 := by kernel_rfl
  have hCb : Try.prog.cellsOf 4 = 1 := by kernel_rfl
  have hCs : Try.prog.cellsOf 46 = 1 := by kernel_rfl
  have hCl : Try.prog.cellsOf 53 = 3 := by kernel_rfl
  have hCv : Try.prog.cellsOf 55 = 11 := by kernel_rfl
  obtain ⟨hl, hf⟩ := Rd.struct Try.underlying55 h
  rw [hCv] at hl
  obtain ⟨a0, s0, rfl, l0⟩ := cons_of hl
  obtain ⟨a1, s1, rfl, l1⟩ := cons_of l0
  obtain ⟨a2, s2, rfl, l2⟩ := cons_of l1
  obtain ⟨a3, s3, rfl, l3⟩ := cons_of l2
  obtain ⟨a4, s4, rfl, l4⟩ := cons_of l3
  obtain ⟨a5, s5, rfl, l5⟩ := cons_of l4
  obtain ⟨a6, s6, rfl, l6⟩ := cons_of l5
  obtain ⟨a7, s7, rfl, l7⟩ := cons_of l6
  obtain ⟨a8, s8, rfl, l8⟩ := cons_of l7
  obtain ⟨a9, s9, rfl, l9⟩ := cons_of l8
  obtain ⟨a10, s10, rfl, l10⟩ := cons_of l9
  obtain rfl : s10 = [] := List.length_eq_zero_iff.1 l10
  have f0 : Rd Try.prog W 3 [a0] := by
    have h : Rd Try.prog W 3 (List.take (Try.prog.cellsOf 3) (List.drop 0 [a0, a1, a2, a3, a4, a5, a6, a7, a8, a9, a10])) := hf 0 _ rfl
    rw [hCi] at h
    exact h
  have f1 : Rd Try.prog W 4 [a1] := by
    have h : Rd Try.prog W 4 (List.take (Try.prog.cellsOf 4) (List.drop 1 [a0, a1, a2, a3, a4, a5, a6, a7, a8, a9, a10])) := hf 1 _ rfl
    rw [hCb] at h
    exact h
  have f2 : Rd Try.prog W 4 [a2] := by
    have h : Rd Try.prog W 4 (List.take (Try.prog.cellsOf 4) (List.drop 2 [a0, a1, a2, a3, a4, a5, a6, a7, a8, a9, a10])) := hf 2 _ rfl
    rw [hCb] at h
    exact h
  have f3 : Rd Try.prog W 3 [a3] := by
    have h : Rd Try.prog W 3 (List.take (Try.prog.cellsOf 3) (List.drop 3 [a0, a1, a2, a3, a4, a5, a6, a7, a8, a9, a10])) := hf 3 _ rfl
    rw [hCi] at h
    exact h
  have f4 : Rd Try.prog W 3 [a4] := by
    have h : Rd Try.prog W 3 (List.take (Try.prog.cellsOf 3) (List.drop 4 [a0, a1, a2, a3, a4, a5, a6, a7, a8, a9, a10])) := hf 4 _ rfl
    rw [hCi] at h
    exact h
  have f5 : Rd Try.prog W 3 [a5] := by
    have h : Rd Try.prog W 3 (List.take (Try.prog.cellsOf 3) (List.drop 5 [a0, a1, a2, a3, a4, a5, a6, a7, a8, a9, a10])) := hf 5 _ rfl
    rw [hCi] at h
    exact h
  have f6 : Rd Try.prog W 46 [a6] := by
    have h : Rd Try.prog W 46 (List.take (Try.prog.cellsOf 46) (List.drop 6 [a0, a1, a2, a3, a4, a5, a6, a7, a8, a9, a10])) := hf 6 _ rfl
    rw [hCs] at h
    exact h
  have f7 : Rd Try.prog W 46 [a7] := by
    have h : Rd Try.prog W 46 (List.take (Try.prog.cellsOf 46) (List.drop 7 [a0, a1, a2, a3, a4, a5, a6, a7, a8, a9, a10])) := hf 7 _ rfl
    rw [hCs] at h
    exact h
  have f8 : Rd Try.prog W 53 [a8, a9, a10] := by
    have h : Rd Try.prog W 53 (List.take (Try.prog.cellsOf 53) (List.drop 8 [a0, a1, a2, a3, a4, a5, a6, a7, a8, a9, a10])) := hf 8 _ rfl
    rw [hCl] at h
    exact h
  obtain ⟨gl, gf⟩ := Rd.struct Try.underlying53 f8
  have g0 : Rd Try.prog W 3 [a8] := by
    have h : Rd Try.prog W 3 (List.take (Try.prog.cellsOf 3) (List.drop 0 [a8, a9, a10])) := gf 0 _ rfl
    rw [hCi] at h
    exact h
  have g1 : Rd Try.prog W 46 [a9] := by
    have h : Rd Try.prog W 46 (List.take (Try.prog.cellsOf 46) (List.drop 1 [a8, a9, a10])) := gf 1 _ rfl
    rw [hCs] at h
    exact h
  have g2 : Rd Try.prog W 46 [a10] := by
    have h : Rd Try.prog W 46 (List.take (Try.prog.cellsOf 46) (List.drop 2 [a8, a9, a10])) := gf 2 _ rfl
    rw [hCs] at h
    exact h
  obtain ⟨n0, rfl, b0⟩ := int_one f0
  obtain ⟨n1, rfl⟩ := bool_one f1
  obtain ⟨n2, rfl⟩ := bool_one f2
  obtain ⟨n3, rfl, b3⟩ := int_one f3
  obtain ⟨n4, rfl, b4⟩ := int_one f4
  obtain ⟨n5, rfl, b5⟩ := int_one f5
  obtain ⟨mA, mc, md, rfl, b6⟩ := bytes_one f6
  obtain ⟨tA, tc, td, rfl, b7⟩ := bytes_one f7
  obtain ⟨n8, rfl, b8⟩ := int_one g0
  obtain ⟨nA, nc, nd, rfl, b9⟩ := bytes_one g1
  obtain ⟨wA, wc, wd, rfl, b10⟩ := bytes_one g2
  exact ⟨⟨n0, n1, n2, n3, n4, n5, mA, mc, md, tA, tc, td, n8, nA, nc, nd, wA, wc, wd⟩, rfl, b6, b7, b9, b10, b0, b5⟩
/-- A slice of versions that reads as data. -/
theorem vers_of {W : World} {cs : List Value} (h : Rd Try.prog W 50 cs) : ∃ A c ls, cs = [.slice A (List.length ls) c] ∧ Vs W Any W.heap.size (.slice A (List.length ls) c) ls := by
  have hC : Try.prog.cellsOf 55 = 11 := by kernel_rfl
  obtain ⟨A, len, cap, hcs, hl, hcm, hA0, b, off, hi⟩ := Rd.slice Try.underlying50 (by rw [hC]; omega) h
  have hrow : ∀ i, i < len → ∃ x : Vr, (∀ j u, x.cs[j]? = some u → W.cell? ⟨b, off + i * 11 + j, none⟩ = some u) ∧ Vr.Ok W (fun b => b < W.heap.size) x := by
    intro i hlt
    obtain ⟨_, cs', hcl, hcell, hrd⟩ := hi i hlt
    obtain ⟨x, rfl, hx⟩ := ver_of hrd
    rw [hC] at hcell
    exact ⟨x, hcell, hx⟩
  have hx : ∃ f : Nat → Vr, ∀ i, i < len → (∀ j u, (f i).cs[j]? = some u → W.cell? ⟨b, off + i * 11 + j, none⟩ = some u) ∧ Vr.Ok W (fun b => b < W.heap.size) (f i) :=
    ⟨fun i => if hi : i < len then (hrow i hi).choose else Vr.zero, fun i hlt => by
      simp only [hlt, dif_pos]
      exact (hrow i hlt).choose_spec⟩
  obtain ⟨f, hf⟩ := hx
  have hll : ((List.range len).map f).length = len := by simp
  refine ⟨A, cap, (List.range len).map f, by rw [hll]; exact hcs, ?_⟩
  refine ⟨⟨by rw [vcs_length], A, cap, rfl, by rw [hll]; exact hl, hcm, fun h0 => ?_⟩, fun x hx => ?_⟩
  · rw [hll] at h0
    refine ⟨b, off, (hi 0 h0).1, trivial, fun j u hu => ?_⟩
    have hj : j < len * 11 := by
      have := (List.getElem?_eq_some_iff.1 hu).1
      rwa [vcs_length, hll] at this
    have hq : j / 11 < len := by omega
    have e : j = j / 11 * 11 + j % 11 := by omega
    have hr : j % 11 < 11 := by omega
    rw [e] at hu ⊢
    rw [vcs_get _ _ _ (by rw [hll]; exact hq) hr] at hu
    rw [← Nat.add_assoc]
    refine (hf (j / 11) hq).1 _ u ?_
    simpa using hu
  · obtain ⟨i, hi', rfl⟩ := List.mem_map.1 hx
    exact (hf i (List.mem_range.1 hi')).2
end Go.Proofs.Ytlfhfomidkadiaa
