/- Rows of rows of bytes, opened; Short. -/
import Derived.Test.YtljddghamgjfbaaOpenBytes
import Derived.Test.YtljddghamgjfbaaOctet
set_option linter.unusedVariables false
set_option linter.unusedSimpArgs false
namespace Go.Proofs.Ytljddghamgjfbaa
open Go.RowKit Go.ChangeShapes Go.WideShapes Go.Deep

theorem parts_of {W : World} {cs : List Value} (h : Rd Try.prog W 49 cs) : ∃ A c ls, cs = [.slice A (List.length ls) c] ∧ Parts W (fun b => b < W.heap.size) (.slice A (List.length ls) c) ls := by
  have hC : Try.prog.cellsOf 27 = 1 := by kernel_rfl
  obtain ⟨A, len, cap, hcs, hl, hcm, hA0, b, off, hi⟩ := Rd.slice Try.underlying49 (by rw [hC]; omega) h
  have hrow : ∀ i, i < len → ∃ (u : Value) (l : List UInt8), W.cell? ⟨b, off + i, none⟩ = some u ∧ Bs W (fun b => b < W.heap.size) u l := by
    intro i hlt
    obtain ⟨_, cs', hcl, hcell, hrd⟩ := hi i hlt
    obtain ⟨A', c', l, rfl, hb⟩ := bytes_of hrd
    have := hcell 0 _ rfl
    rw [hC] at this
    simp only [Nat.mul_one, Nat.add_zero] at this
    exact ⟨_, l, this, hb⟩
  have hx : ∃ (f : Nat → Value) (g : Nat → List UInt8), ∀ i, i < len → W.cell? ⟨b, off + i, none⟩ = some (f i) ∧ Bs W (fun b => b < W.heap.size) (f i) (g i) :=
    ⟨fun i => if hi : i < len then (hrow i hi).choose else undef, fun i => if hi : i < len then (hrow i hi).choose_spec.choose else [], fun i hlt => by
      simp only [hlt, dif_pos]
      exact (hrow i hlt).choose_spec.choose_spec⟩
  obtain ⟨f, g, hf⟩ := hx
  have hll : ((List.range len).map g).length = len := by simp
  refine ⟨A, cap, (List.range len).map g, by rw [hll]; exact hcs, ?_⟩
  rw [hll]
  refine ⟨(List.range len).map f, ⟨by simp, A, cap, by rw [hll], by rw [hll]; exact hl, hcm, fun h0 => ?_⟩, fun i hlt => ?_⟩
  · rw [hll] at h0
    refine ⟨b, off, (hi 0 h0).1, World.block_lt_of_cell? W _ (hf 0 h0).1, fun j u hu => ?_⟩
    have hj : j < len := by have := (List.getElem?_eq_some_iff.1 hu).1; simpa using this
    rw [(hf j hj).1]
    simpa [hj] using hu
  · have hlt' : i < len := by simpa using hlt
    exact ⟨f i, by simp [hlt'], by simpa using (hf i hlt').2⟩
set_option maxRecDepth 100000 in
set_option maxHeartbeats 1000000 in
theorem short_any (F : Nat → Prop) (v : Value) (ls : List (List UInt8)) (w : World) (h : Parts w F v ls) :
    Calls Try.prog 40 #[v] w fun e w' => Ext No w w' ∧ (e = .returned (.int .i64 1) ∨ (e = .returned (.int .i64 0) ∧ ls.length ≤ 40 ∧ ls.flatten.length ≤ 6000)) := by
  obtain ⟨A, c, rfl, hc, hm, b, o, hA⟩ := h.slice
  unfold maxLen at hm
  have HA := Lib.hid hA
  have HF := Lib.hid (flat_take ls)
  clear hA h
  by_cases h40 : 40 < ls.length
  · go_enter Try.func40, Try.ntmps40
    go_wp2_with fail
    go_ret
    exact ⟨Ext.refl _ _, .inl rfl⟩
  · go_enter Try.func40, Try.ntmps40
    go_wp2_with fail
    go_loopw [3, 4] (fun n i wr => ∃ k z : Nat, k ≤ ls.length ∧ i = .int .i64 ((k : Nat) : Int) ∧ n = .int .i64 ((z : Nat) : Int) ∧ z ≤ 6000 ∧ Hid ((ls.take k).flatten.length = z) ∧ ∃ n, wr = w.drewN n) (fun _ i _ => ls.length - (intOf i).toNat)
    case atStart => exact ⟨0, 0, by omega, rfl, rfl, by omega, Lib.hid rfl, 0, rfl⟩
    case round =>
      obtain ⟨k, z, hk, rfl, rfl, hz, HZ, nd, rfl⟩ := hrel
      by_cases hlt : k < ls.length
      · obtain ⟨A', c', rfl, -, hcell, -⟩ := HA.out k hlt
        have hcell' : (w.drewN nd).cell? ⟨b, o + k, none⟩ = some (.slice A' ls[k].length c') := hcell
        have HS := Lib.hid (HF.out k hlt)
        obtain ⟨len, hlen⟩ : ∃ x, ls[k].length = x := ⟨_, rfl⟩
        rw [hlen] at hcell hcell'
        have HLEN := Lib.hid hlen
        clear hlen
        by_cases h3 : 3000 < len
        · go_wp2_with fail
          go_ret
          exact ⟨(Ext.refl No w).drewN nd, .inl rfl⟩
        · by_cases h6 : 6000 < z + len
          · go_wp2_with fail
            go_ret
            exact ⟨(Ext.refl No w).drewN nd, .inl rfl⟩
          · go_wp2_with fail
            refine ⟨⟨k + 1, z + len, by omega, by go_num, by go_num, by omega, Lib.hid (by rw [HS.out, List.length_append, HZ.out, HLEN.out]), nd, rfl⟩, by simp [intOf]; omega⟩
      · obtain rfl : k = ls.length := by omega
        go_wp2_with fail
        go_ret
        exact ⟨(Ext.refl No w).drewN nd, .inr ⟨rfl, by omega, by have := HZ.out; rw [List.take_length] at this; omega⟩⟩
end Go.Proofs.Ytljddghamgjfbaa
