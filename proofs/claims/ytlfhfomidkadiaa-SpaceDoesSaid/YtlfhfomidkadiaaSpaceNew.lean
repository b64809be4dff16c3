/- The blocks that are taken: New. -/
import Derived.Test.YtlfhfomidkadiaaSpaceSet
import Derived.Deep.OwnRows
set_option linter.unusedVariables false
set_option linter.unusedSimpArgs false
namespace Go.Proofs.Ytlfhfomidkadiaa
open Go.RowKit Go.Deep

/-- May there be such a space? -/
def okNew (n first : Int) : Prop := 1 ≤ n ∧ n ≤ 4096 ∧ 0 ≤ first ∧ first ≤ n
theorem info_bool : (Try.prog.info? 4).map (fun i => (i.zero, i.size, i.bytes)) = some (some (.bool false), 1, 1) := by kernel_rfl
theorem bools_made (m : Nat) : madeCells #[Value.bool false] m = ((List.replicate m false).map Value.bool).toArray := by
  apply Array.ext'
  rw [toList_madeCells_one]
  simp
set_option maxHeartbeats 400000 in
theorem spNew_no (n first : Int) (w : World) (h : ¬ okNew n first) :
    Calls Try.prog 11 #[.int .i64 n, .int .i64 first] w fun e w' => e = .returned (.tuple #[.pointer none, .int .i64 2]) ∧ Ext No w w' := by
  unfold okNew at h
  by_cases h1 : n < 1
  · clear h
    go_enter Try.func11, Try.ntmps11
    go_wp2
    go_ret2
    exact ⟨rfl, Ext.refl _ _⟩
  by_cases h2 : 4096 < n
  · clear h
    go_enter Try.func11, Try.ntmps11
    go_wp2
    go_ret2
    exact ⟨rfl, Ext.refl _ _⟩
  by_cases h3 : first < 0
  · clear h
    go_enter Try.func11, Try.ntmps11
    go_wp2
    go_ret2
    exact ⟨rfl, Ext.refl _ _⟩
  have h4 : n < first := by omega
  clear h
  go_enter Try.func11, Try.ntmps11
  go_wp2
  go_ret2
  exact ⟨rfl, Ext.refl _ _⟩

set_option maxRecDepth 100000 in
set_option maxHeartbeats 1000000 in
theorem spNew_ok (n first : Nat) (w : World) (h : okNew n first) :
    Calls Try.prog 11 #[.int .i64 (n : Int), .int .i64 (first : Int)] w fun e w' => e = .returned (.tuple #[ptr (w.heap.size + 1), .int .i64 0]) ∧ IsSp w' (w.heap.size + 1) w.heap.size n first (fillRun (List.replicate n false) 0 first true) ∧ Ext No w w' := by
  obtain ⟨h1, h2, h3, h4⟩ := h
  have e1 : ¬ (n : Int) < 1 := by omega
  have e2 : ¬ (4096 : Int) < (n : Int) := by omega
  have e3 : ¬ (first : Int) < 0 := by omega
  have e4 : ¬ (n : Int) < (first : Int) := by omega
  have hfn : first ≤ n := by omega
  have hn2 : n ≤ 4096 := by omega
  have hmk := fun W => run_make_row' (P := Try.prog) 28 4 (.bool false) 1 Try.underlying28 info_bool rfl .i64 .i64 n (by omega) (by omega) W
  clear h1 h2 h3 h4
  go_enter Try.func11, Try.ntmps11
  go_wp2
  have hi0 : Blk ((w.alloc (.cells (madeCells #[.bool false] n) 4)).alloc (.cells #[.int .i64 (first : Int), .slice (some ⟨w.heap.size, 0, none⟩) n n] 82)) (w.heap.size + 1) 82 #[.int .i64 (first : Int), .slice (some ⟨w.heap.size, 0, none⟩) n n] := by
    have := Blk.new (w.alloc (.cells (madeCells #[.bool false] n) 4)) 82 #[.int .i64 (first : Int), .slice (some ⟨w.heap.size, 0, none⟩) n n]
    rw [World.size_alloc] at this
    exact this
  have hi1 : Bools ((w.alloc (.cells (madeCells #[.bool false] n) 4)).alloc (.cells #[.int .i64 (first : Int), .slice (some ⟨w.heap.size, 0, none⟩) n n] 82)) w.heap.size (List.replicate n false) := by
    refine ⟨_, (Blk.new w _ _).alloc _, fun k hk => ?_⟩
    rw [bools_made]
    simp at hk
    simp [hk]
  have hi2 : Ext No w ((w.alloc (.cells (madeCells #[.bool false] n) 4)).alloc (.cells #[.int .i64 (first : Int), .slice (some ⟨w.heap.size, 0, none⟩) n n] 82)) := ((Ext.refl No w).alloc _).alloc _
  have HI := Lib.hid (And.intro hi0 (And.intro hi1 hi2))
  clear hi0 hi1 hi2 hmk
  go_loopw [29] (fun i wr => ∃ k : Nat, k ≤ first ∧ i = .int .i64 k ∧ Hid (Blk wr (w.heap.size + 1) 82 #[.int .i64 (first : Int), .slice (some ⟨w.heap.size, 0, none⟩) n n]) ∧ Hid (Bools wr w.heap.size (fillRun (List.replicate n false) 0 k true)) ∧ Hid (Ext No w wr)) (fun i _ => first - (intOf i).toNat)
  case atStart => exact ⟨0, by omega, rfl, Lib.hid HI.out.1, Lib.hid (by rw [fillRun_zero]; exact HI.out.2.1), Lib.hid HI.out.2.2⟩
  case round =>
    obtain ⟨k, hk, rfl, HB, HR, HX⟩ := hrel
    clear HI
    have B := Blk.c2 HB.out
    by_cases hlt : k < first
    · have hfl : (fillRun (List.replicate n false) 0 k true).length = n := by rw [fillRun_length (by simp; omega)]; simp
      obtain ⟨z, cl⟩ : ∃ z, wr.cell? ⟨w.heap.size, k, none⟩ = some (.bool z) := ⟨_, HR.out.cell (k := k) (by omega)⟩
      have cf := HR.out.frozen (k := k)
      have hbl := HR.out.lt
      have f0 : (0 : Int) ≤ (k : Int) := by omega
      have f1 : (k : Int) < (n : Int) := by omega
      have HFL := Lib.hid hfl
      clear hfl
      go_wp2
      go_roundw
      case rel =>
        refine ⟨k + 1, by omega, by go_num, Lib.hid (HB.out.far (by simp) _), Lib.hid ?_, Lib.hid (HX.out.setCell (by simp) _)⟩
        have hs := HR.out.set (k := k) (by rw [HFL.out]; omega) true
        have e := fillRun_succ (L := List.replicate n false) (a := 0) (i := k) (t := true) (by simp; omega)
        rw [Nat.zero_add] at e
        rw [e] at hs
        exact hs
      case measure => simp [intOf]; omega
    · obtain rfl : k = first := by omega
      go_wp2
      go_ret2
      have hfl : (fillRun (List.replicate n false) 0 k true).length = n := by rw [fillRun_length (by simp; omega)]; simp
      refine ⟨rfl, ⟨by rw [hfl]; exact HB.out, by rw [hfl]; exact Nat.le_refl _, by unfold maxLen; omega, by omega, HR.out⟩, HX.out⟩
end Go.Proofs.Ytlfhfomidkadiaa
