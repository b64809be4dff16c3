/- Package slices: IndexFunc, ContainsFunc on versions, by a closure that captures one variable. -/
import Derived.Test.YtlfhfomidkadiaaRuleFn
import Derived.IntWalk
import Derived.Test.YtlfhfomidkadiaaRegFacts
set_option linter.unusedVariables false
set_option linter.unusedSimpArgs false
namespace Go.Proofs.Ytlfhfomidkadiaa
open Go.RowKit Go.Deep

/-- A whole version is loaded out of a row. -/
theorem ver_load {w : World} {b o : Nat} {x : Vr} (h : w.rangeAt b o x.cs) : (Instr.loadAt 55 (.pointer (some ⟨b, o, none⟩))).run Try.prog w = .ok (.agg x.cs.toArray) w :=
  run_loadAt_mid w b o 55 x.cs _ h Try.underlying55 rfl size_ver
theorem range_ext {S : Nat → Prop} {w w' : World} {b o : Nat} {cs : List Value} (h : w.rangeAt b o cs) (he : Ext S w w') (hb : b < w.heap.size) (hn : ¬ S b) : w'.rangeAt b o cs := fun j v hv => (he.cell (p := ⟨b, o + j, none⟩) hb hn).trans (h j v hv)
def idxI (ls : List Vr) (p : Vr → Bool) : Int := match ls.findIdx? p with | some i => (i : Int) | none => -1
theorem idxI_at {ls : List Vr} {p : Vr → Bool} {k : Nat} (hk : k < ls.length) (h : ∀ i, (hi : i < ls.length) → i < k → p ls[i] = false) (hp : p ls[k] = true) : idxI ls p = (k : Int) := by
  have : ls.findIdx? p = some k := by
    rw [List.findIdx?_eq_some_iff_getElem]
    exact ⟨hk, hp, fun j hj => by have := h j (by omega) hj; simp [this]⟩
  unfold idxI; rw [this]
theorem idxI_none {ls : List Vr} {p : Vr → Bool} (h : ∀ i, (hi : i < ls.length) → p ls[i] = false) : idxI ls p = -1 := by
  have : ls.findIdx? p = none := by
    rw [List.findIdx?_eq_none_iff]
    intro x hx
    obtain ⟨i, hi, rfl⟩ := List.getElem_of_mem hx
    exact h i hi
  unfold idxI; rw [this]
set_option maxRecDepth 100000 in
set_option maxHeartbeats 1000000 in
theorem iIdx_any (f : Nat) (cap : Value) (p : Vr → Bool) (B : Nat) (lv : Value) (ls : List Vr) (w : World) (hk : ∀ (x : Value) (W : World), (callFunc f #[x, cap]).run Try.prog W = .ok (.enter f #[x, cap]) W) (hl : Vs w Any B lv ls) (hll : ls.length ≤ 1000000)
    (hcl : ∀ x ∈ ls, ∀ wx, Ext No w wx → Calls Try.prog f #[.agg x.cs.toArray, cap] wx fun e w' => e = .returned (.bool (p x)) ∧ Ext No wx w') :
    Calls Try.prog 50 #[lv, .func (.func f) #[] #[cap]] w fun e w' => e = .returned (.int .i64 (idxI ls p)) ∧ Ext No w w' := by
  obtain ⟨A, c, rfl, hc, hm, b, off, hrow⟩ := hl.slice
  have HR := Lib.hid hrow
  have HC := Lib.hid hcl
  have HX0 := Lib.hid (Ext.refl No w)
  clear hl hrow hcl
  go_enter Try.func50, Try.ntmps50
  go_wp2_with fail
  go_loopw [8] (fun i wr => ∃ k : Nat, k ≤ ls.length ∧ i = .int .i64 (k : Int) ∧ Hid (∀ j, (hj : j < ls.length) → j < k → p ls[j] = false) ∧ Hid (Ext No w wr)) (fun i _ => ls.length - (intOf i).toNat)
  case atStart => exact ⟨0, by omega, rfl, Lib.hid (fun j hj h => absurd h (by omega)), HX0⟩
  case round =>
    clear HX0
    obtain ⟨k, hkl, rfl, HF, HX⟩ := hrel
    by_cases hlt : k < ls.length
    · obtain ⟨rfl, -, hb, hr, -⟩ := HR.out k hlt
      have e1 := Lib.hid (range_ext hr HX.out hb (fun h => h))
      have HCK := Lib.hid (HC.out ls[k] (List.getElem_mem hlt) wr HX.out)
      have HN : Hid (p ls[k] = false → ∀ j, (hj : j < ls.length) → j < k + 1 → p ls[j] = false) := Lib.hid (fun h0 j hj h => by
        by_cases e : j = k
        · subst e; exact h0
        · exact HF.out j hj (by omega))
      have HY : Hid (p ls[k] = true → idxI ls p = (k : Int)) := Lib.hid (fun h0 => idxI_at hlt HF.out h0)
      obtain ⟨x, hx⟩ : ∃ x, ls[k] = x := ⟨_, rfl⟩
      rw [hx] at e1 HCK HN HY
      obtain ⟨q, hq⟩ : ∃ q, p x = q := ⟨_, rfl⟩
      rw [hq] at HCK HN HY
      clear hr hx hq
      go_wp2_with ((with_reducible show wpList _ _ _ (⟨some 15, _, _, _, _, _⟩ :: _) _ _); refine wpList_load_mid rfl 55 (.tmp 14) rfl b (off + k * 11) rfl x.cs _ e1.out Try.underlying55 rfl size_ver ?_)
      refine HCK.out.mono ?_
      rintro e w1 ⟨rfl, hx1⟩
      have HX1 := Lib.hid (HX.out.trans hx1)
      clear hx1 e1
      cases q with
      | true =>
        go_wp2_with fail
        go_ret
        exact ⟨by rw [show idxI ls p = (k : Int) by have h := HY.out; simpa using h]; rfl, HX1.out⟩
      | false =>
        go_wp2_with fail
        go_roundw
        case rel => exact ⟨k + 1, by omega, by go_num, Lib.hid (by have h := HN.out; simpa using h), HX1⟩
        case measure => simp [intOf]; omega
    · have HE : Hid (idxI ls p = -1) := Lib.hid (idxI_none (fun i hi => HF.out i hi (by omega)))
      go_wp2_with fail
      go_ret
      exact ⟨by rw [HE.out]; rfl, HX.out⟩
theorem iHas_any (f : Nat) (cap : Value) (p : Vr → Bool) (B : Nat) (lv : Value) (ls : List Vr) (w : World) (hk : ∀ (x : Value) (W : World), (callFunc f #[x, cap]).run Try.prog W = .ok (.enter f #[x, cap]) W) (hl : Vs w Any B lv ls) (hll : ls.length ≤ 1000000)
    (hcl : ∀ x ∈ ls, ∀ wx, Ext No w wx → Calls Try.prog f #[.agg x.cs.toArray, cap] wx fun e w' => e = .returned (.bool (p x)) ∧ Ext No wx w') :
    Calls Try.prog 55 #[lv, .func (.func f) #[] #[cap]] w fun e w' => e = .returned (.bool (ls.any p)) ∧ Ext No w w' := by
  have HI := Lib.hid (iIdx_any f cap p B lv ls w hk hl hll hcl)
  have HA : Hid (decide (0 ≤ idxI ls p) = ls.any p) := Lib.hid (by
    unfold idxI
    cases h : ls.findIdx? p with
    | none =>
      rw [List.findIdx?_eq_none_iff] at h
      simp only
      rw [decide_eq_false (by omega)]
      symm
      rw [← Bool.not_eq_true, List.any_eq_true]
      rintro ⟨x, hx, hp⟩
      rw [h x hx] at hp; cases hp
    | some i =>
      rw [List.findIdx?_eq_some_iff_getElem] at h
      obtain ⟨hi, hp, _⟩ := h
      simp only
      rw [decide_eq_true (by omega)]
      symm
      rw [List.any_eq_true]
      exact ⟨_, List.getElem_mem hi, hp⟩)
  clear hl hcl
  obtain ⟨i, hi⟩ : ∃ i, idxI ls p = i := ⟨_, rfl⟩
  rw [hi] at HI HA
  clear hi
  go_enter Try.func55, Try.ntmps55
  go_wp2_with (go_at_call 50; refine HI.out.mono ?_; rintro e w1 ⟨rfl, hx1⟩; have HX1 := Lib.hid hx1; clear hx1)
  go_ret
  exact ⟨by rw [← HA.out]; rfl, HX1.out⟩
/-- Pick's test: what each operation leaves. -/
def FPk (x : Vr) (id : Int) : Nat → Value → World → Prop
  | 0, v, _ => v = .agg x.cs.toArray
  | 1, v, _ => v = .int .i64 (idV x)
  | 2, v, _ => v = .int .i64 id
  | 3, v, _ => v = .bool (idV x == id)
  | 4, v, _ => v = .bool (idV x == id)
  | _, _, _ => True
theorem FPk.no {x : Vr} {id : Int} {w w' : World} : ∀ j v, FPk x id j v w → FPk x id j v w' := by
  intro j v H
  match j, H with
  | 0, H | 1, H | 2, H | 3, H | 4, H => exact H
  | m + 5, _ => trivial
/-- Pick's test. -/
theorem rPick1_any (x : Vr) (g : Nat) (id : Int) (w : World) (hg : Blk w g 3 #[.int .i64 id]) : Calls Try.prog 51 #[.agg x.cs.toArray, .pointer (some ⟨g, 0, none⟩)] w fun e w' => e = .returned (.bool (idV x == id)) ∧ Ext No w w' := by
  have hx0 : Ext No w (w.alloc (.cells x.cs.toArray 55)) := (Ext.refl No w).alloc _
  have HX0 := Lib.hid hx0
  have HB := Lib.hid (Blk.new w 55 x.cs.toArray)
  have HG := Lib.hid (hg.ext_no hx0)
  clear hg hx0
  go_enter Try.func51, Try.ntmps51
  go_wp2_with fail
  generalize w.alloc (.cells x.cs.toArray 55) = w1 at *
  refine RF.region (vs := fun | 4 => Value.bool false | _ => undef) rfl (fun vs => ((Value.agg x.cs.toArray) :: (Value.pointer (some ⟨g, 0, none⟩)) :: (Value.pointer (some ⟨w.heap.size, 0, none⟩)) :: (vs 4) :: (vs 0) :: (vs 1) :: (vs 2) :: (vs 3) :: []).toArray)
    (FPk x id) (fun _ wz => Ext No w1 wz) rfl (by kernel_rfl) ?_ ?_ ?_
  · exact (Ext.refl No w1).drew
  · refine ⟨⟨⟨⟨⟨trivial, ?_⟩, ?_⟩, ?_⟩, ?_⟩, ?_⟩
    · refine RF.Step.plain rfl rfl (fun vs wx hG hv hd K hK => ?_)
      refine wp_load_row 55 (.tmp 2) rfl _ rfl _ _ _ _ (HB.out.ext_no hG) Try.underlying55 rfl size_ver ?_
      exact hK _ _ hG rfl (fun _ _ h => h)
    · refine RF.Step.plain rfl rfl (fun vs wx hG hv hd K hK => ?_)
      have h0 : vs 0 = .agg x.cs.toArray := by first | exact hd.1 | exact hd.2.1 | exact hd.2.2.1 | exact hd.2.2.2.1 | exact hd.2.2.2.2.1
      go_simp
      refine (rId_any x wx).mono ?_
      rintro e w' ⟨rfl, hx⟩
      have h4 := hK _ _ (Ext.trans hG hx) rfl (fun j _ h => FPk.no j _ h)
      first | (simpa only [RF.upd, h0, Nat.reduceEqDiff, if_true, if_false, reduceIte] using h4) | (simp only [RF.upd, h0, Nat.reduceEqDiff, if_true, if_false, reduceIte] at h4 ⊢; exact h4)
    · refine RF.Step.plain rfl rfl (fun vs wx hG hv hd K hK => ?_)
      have c0 := (HG.out.ext_no hG).cell 0
      go_simp
      exact hK _ _ hG rfl (fun _ _ h => h)
    · refine RF.Step.plain rfl rfl (fun vs wx hG hv hd K hK => ?_)
      have h0 : vs 1 = .int .i64 (idV x) := by first | exact hd.1 | exact hd.2.1 | exact hd.2.2.1 | exact hd.2.2.2.1 | exact hd.2.2.2.2.1
      have h1 : vs 2 = .int .i64 id := by first | exact hd.1 | exact hd.2.1 | exact hd.2.2.1 | exact hd.2.2.2.1 | exact hd.2.2.2.2.1
      go_simp
      have h4 := hK _ _ hG rfl (fun _ _ h => h)
      first | (simpa only [RF.upd, h0, h1, Nat.reduceEqDiff, if_true, if_false, reduceIte] using h4) | (simp only [RF.upd, h0, h1, Nat.reduceEqDiff, if_true, if_false, reduceIte] at h4 ⊢; exact h4)
    · refine RF.Step.plain rfl rfl (fun vs wx hG hv hd K hK => ?_)
      have h0 : vs 3 = .bool (idV x == id) := by first | exact hd.1 | exact hd.2.1 | exact hd.2.2.1 | exact hd.2.2.2.1 | exact hd.2.2.2.2.1
      go_simp
      have h4 := hK _ _ hG rfl (fun _ _ h => h)
      first | (simpa only [RF.upd, h0, Nat.reduceEqDiff, if_true, if_false, reduceIte] using h4) | (simp only [RF.upd, h0, Nat.reduceEqDiff, if_true, if_false, reduceIte] at h4 ⊢; exact h4)
  · intro vs w2 hG hF
    have h4 : vs 4 = .bool (idV x == id) := hF 4 (by decide)
    have HX := Lib.hid (HX0.out.trans hG)
    rw [h4]
    clear hG hF h4
    go_wp2_with fail
    go_ret
    exact ⟨rfl, HX.out⟩
theorem enters_pick (x cap : Value) : ∀ W : World, (callFunc 51 #[x, cap]).run Try.prog W = .ok (.enter 51 #[x, cap]) W := fun W => by kernel_rfl
theorem enters_apply (x cap : Value) : ∀ W : World, (callFunc 56 #[x, cap]).run Try.prog W = .ok (.enter 56 #[x, cap]) W := fun W => by kernel_rfl
/-- Apply's test. -/
theorem rApply1_any (x y : Vr) (g : Nat) (w : World) (hg : Blk w g 55 y.cs.toArray) : Calls Try.prog 56 #[.agg x.cs.toArray, .pointer (some ⟨g, 0, none⟩)] w fun e w' => e = .returned (.bool (x.seq == y.seq)) ∧ Ext No w w' := by
  have hx0 : Ext No w (w.alloc (.cells x.cs.toArray 55)) := (Ext.refl No w).alloc _
  have HX0 := Lib.hid hx0
  obtain ⟨c0, -, -, -⟩ := ver_cells w x
  have d0 : (w.alloc (.cells x.cs.toArray 55)).cell? ⟨g, 0, none⟩ = some (.int .i64 y.seq) := (hg.ext_no hx0).cell 0
  clear hg hx0
  go_enter Try.func56, Try.ntmps56
  go_wp2_with fail
  go_ret
  exact ⟨rfl, HX0.out⟩
end Go.Proofs.Ytlfhfomidkadiaa
