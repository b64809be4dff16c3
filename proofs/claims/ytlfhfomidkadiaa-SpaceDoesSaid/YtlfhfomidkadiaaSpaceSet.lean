/- The blocks that are taken: set, Mark, Give. -/
import Derived.Test.YtlfhfomidkadiaaSpace
set_option linter.unusedVariables false
set_option linter.unusedSimpArgs false
namespace Go.Proofs.Ytlfhfomidkadiaa
open Go.RowKit Go.Deep

/-- A row in which the first i of a run from a on are t. -/
def fillRun (L : List Bool) (a i : Nat) (t : Bool) : List Bool := L.take a ++ List.replicate i t ++ L.drop (a + i)
theorem fillRun_length {L : List Bool} {a i : Nat} {t : Bool} (h : a + i ≤ L.length) : (fillRun L a i t).length = L.length := by simp [fillRun]; omega
theorem fillRun_zero (L : List Bool) (a : Nat) (t : Bool) : fillRun L a 0 t = L := by simp [fillRun]
theorem fillRun_get {L : List Bool} {a i k : Nat} {t : Bool} (h : a + i ≤ L.length) (hk : k < L.length) : (fillRun L a i t)[k]? = some (if a ≤ k ∧ k < a + i then t else L[k]) := by
  unfold fillRun
  have h1 : (L.take a).length = a := by simp; omega
  by_cases c1 : k < a
  · rw [if_neg (by omega), List.append_assoc, List.getElem?_append_left (by omega), List.getElem?_take_of_lt c1, List.getElem?_eq_getElem hk]
  · by_cases c2 : k < a + i
    · rw [if_pos (by omega), List.append_assoc, List.getElem?_append_right (by omega), List.getElem?_append_left (by simp; omega), h1, List.getElem?_replicate, if_pos (by omega)]
    · rw [if_neg (by omega), List.getElem?_append_right (by simp; omega), List.getElem?_drop]
      have : a + i + (k - (L.take a ++ List.replicate i t).length) = k := by simp; omega
      rw [this, List.getElem?_eq_getElem hk]
theorem fillRun_succ {L : List Bool} {a i : Nat} {t : Bool} (h : a + (i + 1) ≤ L.length) : (fillRun L a i t).set (a + i) t = fillRun L a (i + 1) t := by
  apply List.ext_getElem?
  intro k
  by_cases hk : k < L.length
  · rw [List.getElem?_set, fillRun_get (by omega) hk, fillRun_get h hk, fillRun_length (by omega)]
    by_cases c : a + i = k
    · subst c; rw [if_pos rfl, if_pos hk, if_pos (by omega)]
    · rw [if_neg c]
      by_cases c2 : a ≤ k ∧ k < a + i
      · rw [if_pos c2, if_pos (by omega)]
      · rw [if_neg c2, if_neg (by omega)]
  · rw [List.getElem?_eq_none (by rw [List.length_set, fillRun_length (by omega)]; omega), List.getElem?_eq_none (by rw [fillRun_length h]; omega)]

theorem wrap64_add2 {a k : Nat} (h : a + k ≤ 9223372036854775807) : wrap64 ((a : Int) + (k : Int)) = ((a + k : Nat) : Int) := by
  unfold wrap64; omega
set_option maxHeartbeats 400000 in
theorem spSet_range (g b c : Nat) (first at_ n code : Int) (t : Bool) (L : List Bool) (w : World) (h : IsSp w g b c first L) (hr : ¬ okRun first L at_ n) :
    Calls Try.prog 49 #[ptr g, .int .i64 at_, .int .i64 n, .bool t, .int .i64 code] w fun e w' => e = .returned (.int .i64 2) ∧ Ext No w w' := by
  have H := Lib.hid (spWithin_no g b c first at_ n L w h hr)
  clear h hr
  go_enter Try.func49, Try.ntmps49
  go_wp2_with (go_at_call 60; refine H.out.mono ?_; rintro e w' ⟨rfl, rfl⟩)
  go_ret
  exact ⟨rfl, Ext.refl _ _⟩

set_option maxRecDepth 100000 in
set_option maxHeartbeats 1000000 in
theorem spSet_wrong (g b c a m : Nat) (first code : Int) (t : Bool) (L : List Bool) (w : World) (h : IsSp w g b c first L) (hr : okRun first L a m) (hc : t ∈ (L.drop a).take m) :
    Calls Try.prog 49 #[ptr g, .int .i64 (a : Int), .int .i64 (m : Int), .bool t, .int .i64 code] w fun e w' => e = .returned (.int .i64 code) ∧ Ext No w w' := by
  have hlm : L.length ≤ 2 ^ 63 - 1 := by have := h.2.1; have := h.2.2.1; unfold maxLen at *; omega
  have B := Blk.c2 h.1
  have H := Lib.hid (spWithin_ok g b c first a m L w h hr)
  obtain ⟨h1, h2, h3, h4⟩ := hr
  have hM : ((L.drop a).take m).length = m := by simp; omega
  have HC := slContains_any b a (c - a) ((L.drop a).take m) t w (by rw [hM]; omega) (fun k hk => by
    rw [hM] at hk
    have := h.2.2.2.2.cell (k := a + k) (by omega)
    simpa using this)
  rw [hM, List.contains_eq_mem, decide_eq_true hc] at HC
  have HC := Lib.hid HC
  have hcl := h.2.1
  have hw : wrap64 ((a : Int) + (m : Int)) = ((a + m : Nat) : Int) := by unfold wrap64; omega
  have e1 : (a : Int) ≤ ((a + m : Nat) : Int) := by omega
  have e2 : ((a + m : Nat) : Int) ≤ (L.length : Int) := by omega
  have e3 : ((a + m : Nat) : Int) ≤ (c : Int) := by omega
  have e4 : (0 : Int) ≤ ((a + m : Nat) : Int) := by omega
  have e5 : (0 : Int) ≤ (a : Int) := by omega
  have e6 : a + m - a = m := by omega
  have e7 : ¬ c = a := by omega
  clear h h1 h2 h3 h4 hc hM
  go_enter Try.func49, Try.ntmps49
  go_wp2_with (first
    | (go_at_call 60; refine H.out.mono ?_; rintro e w' ⟨rfl, rfl⟩)
    | (go_at_call 61; refine HC.out.mono ?_; rintro e w' ⟨rfl, nd, rfl⟩))
  go_ret
  exact ⟨rfl, (Ext.refl _ _).drewN _⟩

set_option maxRecDepth 100000 in
set_option maxHeartbeats 1000000 in
theorem spSet_do (g b c a m : Nat) (first code : Int) (t : Bool) (L : List Bool) (w : World) (h : IsSp w g b c first L) (hr : okRun first L a m) (hc : t ∉ (L.drop a).take m) :
    Calls Try.prog 49 #[ptr g, .int .i64 (a : Int), .int .i64 (m : Int), .bool t, .int .i64 code] w fun e w' => e = .returned (.int .i64 0) ∧ IsSp w' g b c first (fillRun L a m t) ∧ Ext (One b) w w' := by
  have hlm : L.length ≤ 2 ^ 63 - 1 := by have := h.2.1; have := h.2.2.1; unfold maxLen at *; omega
  have B := Blk.c2 h.1
  have H := Lib.hid (spWithin_ok g b c first a m L w h hr)
  obtain ⟨h1, h2, h3, h4⟩ := hr
  have hM : ((L.drop a).take m).length = m := by simp; omega
  have HC := slContains_any b a (c - a) ((L.drop a).take m) t w (by rw [hM]; omega) (fun k hk => by
    rw [hM] at hk
    have := h.2.2.2.2.cell (k := a + k) (by omega)
    simpa using this)
  rw [hM, List.contains_eq_mem, decide_eq_false hc] at HC
  have HC := Lib.hid HC
  have hcl := h.2.1
  have hw : wrap64 ((a : Int) + (m : Int)) = ((a + m : Nat) : Int) := by unfold wrap64; omega
  have e1 : (a : Int) ≤ ((a + m : Nat) : Int) := by omega
  have e2 : ((a + m : Nat) : Int) ≤ (L.length : Int) := by omega
  have e3 : ((a + m : Nat) : Int) ≤ (c : Int) := by omega
  have e4 : (0 : Int) ≤ ((a + m : Nat) : Int) := by omega
  have e5 : (0 : Int) ≤ (a : Int) := by omega
  have e6 : a + m - a = m := by omega
  have e7 : ¬ c = a := by omega
  have HS := Lib.hid h
  have ham : a + m ≤ L.length := by omega
  clear h h1 h2 h3 h4 hc hM
  go_enter Try.func49, Try.ntmps49
  go_wp2_with (first
    | (go_at_call 60; refine H.out.mono ?_; rintro e w' ⟨rfl, rfl⟩)
    | (go_at_call 61; refine HC.out.mono ?_; rintro e w' ⟨rfl, nd, rfl⟩))
  go_loopw [33] (fun i wr => ∃ k : Nat, k ≤ m ∧ i = .int .i64 k ∧ Hid (Blk wr g 82 #[.int .i64 first, .slice (some ⟨b, 0, none⟩) L.length c]) ∧ Hid (Bools wr b (fillRun L a k t)) ∧ Hid (Ext (One b) w wr)) (fun i _ => m - (intOf i).toNat)
  case atStart => exact ⟨0, by omega, rfl, Lib.hid (Blk.drewN HS.out.1 nd), Lib.hid (by rw [fillRun_zero]; exact HS.out.2.2.2.2.ext ((Ext.refl No w).drewN nd) (fun h => h)), Lib.hid ((Ext.refl _ _).drewN _)⟩
  case round =>
    obtain ⟨k, hk, rfl, HB, HR, HX⟩ := hrel
    clear B hw
    have B := Blk.c2 HB.out
    by_cases hlt : k < m
    · have hfl : (fillRun L a k t).length = L.length := fillRun_length (by omega)
      obtain ⟨z, cl⟩ : ∃ z, wr.cell? ⟨b, a + k, none⟩ = some (.bool z) := ⟨_, HR.out.cell (k := a + k) (by omega)⟩
      have cf := HR.out.frozen (k := a + k)
      have hbl := HR.out.lt
      have f0 : (0 : Int) ≤ ((a + k : Nat) : Int) := by omega
      have f1 : ((a + k : Nat) : Int) < (L.length : Int) := by omega
      have hbg : g ≠ b := fun h => HS.out.2.2.2.1 h.symm
      have HFL := Lib.hid hfl
      clear hfl
      have hw2 : wrap64 ((a : Int) + (k : Int)) = ((a + k : Nat) : Int) := wrap64_add2 (by omega)
      go_wp2
      go_roundw
      case rel =>
        refine ⟨k + 1, by omega, by go_num, Lib.hid (HB.out.far hbg _), Lib.hid ?_, Lib.hid (HX.out.setCell (fun _ => rfl) _)⟩
        rw [← fillRun_succ (by omega)]
        exact HR.out.set (by rw [HFL.out]; omega) t
      case measure => simp [intOf]; omega
    · obtain rfl : k = m := by omega
      go_wp2
      go_ret
      have hfl : (fillRun L a k t).length = L.length := fillRun_length ham
      refine ⟨rfl, ⟨?_, ?_, HS.out.2.2.1, HS.out.2.2.2.1, HR.out⟩, HX.out⟩
      · rw [hfl]; exact HB.out
      · rw [hfl]; exact HS.out.2.1

/-- Mark and Give: a run that isn't there. -/
theorem spMark_range (g b c : Nat) (first at_ n : Int) (L : List Bool) (w : World) (h : IsSp w g b c first L) (hr : ¬ okRun first L at_ n) :
    Calls Try.prog 18 #[ptr g, .int .i64 at_, .int .i64 n] w fun e w' => e = .returned (.int .i64 2) ∧ Ext No w w' := by
  have H := Lib.hid (spSet_range g b c first at_ n 10 true L w h hr)
  clear h hr
  go_enter Try.func18, Try.ntmps18
  go_wp2_with (go_at_call 49; refine H.out.mono ?_; rintro e w' ⟨rfl, hx⟩)
  go_ret
  exact ⟨rfl, hx⟩
theorem spGive_range (g b c : Nat) (first at_ n : Int) (L : List Bool) (w : World) (h : IsSp w g b c first L) (hr : ¬ okRun first L at_ n) :
    Calls Try.prog 20 #[ptr g, .int .i64 at_, .int .i64 n] w fun e w' => e = .returned (.int .i64 2) ∧ Ext No w w' := by
  have H := Lib.hid (spSet_range g b c first at_ n 9 false L w h hr)
  clear h hr
  go_enter Try.func20, Try.ntmps20
  go_wp2_with (go_at_call 49; refine H.out.mono ?_; rintro e w' ⟨rfl, hx⟩)
  go_ret
  exact ⟨rfl, hx⟩
theorem spMark_wrong (g b c a m : Nat) (first : Int) (L : List Bool) (w : World) (h : IsSp w g b c first L) (hr : okRun first L a m) (hc : true ∈ (L.drop a).take m) :
    Calls Try.prog 18 #[ptr g, .int .i64 (a : Int), .int .i64 (m : Int)] w fun e w' => e = .returned (.int .i64 10) ∧ Ext No w w' := by
  have H := Lib.hid (spSet_wrong g b c a m first 10 true L w h hr hc)
  clear h hr hc
  go_enter Try.func18, Try.ntmps18
  go_wp2_with (go_at_call 49; refine H.out.mono ?_; rintro e w' ⟨rfl, hx⟩)
  go_ret
  exact ⟨rfl, hx⟩
theorem spGive_wrong (g b c a m : Nat) (first : Int) (L : List Bool) (w : World) (h : IsSp w g b c first L) (hr : okRun first L a m) (hc : false ∈ (L.drop a).take m) :
    Calls Try.prog 20 #[ptr g, .int .i64 (a : Int), .int .i64 (m : Int)] w fun e w' => e = .returned (.int .i64 9) ∧ Ext No w w' := by
  have H := Lib.hid (spSet_wrong g b c a m first 9 false L w h hr hc)
  clear h hr hc
  go_enter Try.func20, Try.ntmps20
  go_wp2_with (go_at_call 49; refine H.out.mono ?_; rintro e w' ⟨rfl, hx⟩)
  go_ret
  exact ⟨rfl, hx⟩
theorem spMark_do (g b c a m : Nat) (first : Int) (L : List Bool) (w : World) (h : IsSp w g b c first L) (hr : okRun first L a m) (hc : true ∉ (L.drop a).take m) :
    Calls Try.prog 18 #[ptr g, .int .i64 (a : Int), .int .i64 (m : Int)] w fun e w' => e = .returned (.int .i64 0) ∧ IsSp w' g b c first (fillRun L a m true) ∧ Ext (One b) w w' := by
  have H := Lib.hid (spSet_do g b c a m first 10 true L w h hr hc)
  clear h hr hc
  go_enter Try.func18, Try.ntmps18
  go_wp2_with (go_at_call 49; refine H.out.mono ?_; rintro e w' ⟨rfl, hs, hx⟩; have HH := Lib.hid (And.intro hs hx); clear hs hx)
  go_ret
  exact ⟨rfl, HH.out.1, HH.out.2⟩
theorem spGive_do (g b c a m : Nat) (first : Int) (L : List Bool) (w : World) (h : IsSp w g b c first L) (hr : okRun first L a m) (hc : false ∉ (L.drop a).take m) :
    Calls Try.prog 20 #[ptr g, .int .i64 (a : Int), .int .i64 (m : Int)] w fun e w' => e = .returned (.int .i64 0) ∧ IsSp w' g b c first (fillRun L a m false) ∧ Ext (One b) w w' := by
  have H := Lib.hid (spSet_do g b c a m first 9 false L w h hr hc)
  clear h hr hc
  go_enter Try.func20, Try.ntmps20
  go_wp2_with (go_at_call 49; refine H.out.mono ?_; rintro e w' ⟨rfl, hs, hx⟩; have HH := Lib.hid (And.intro hs hx); clear hs hx)
  go_ret
  exact ⟨rfl, HH.out.1, HH.out.2⟩
end Go.Proofs.Ytlfhfomidkadiaa
