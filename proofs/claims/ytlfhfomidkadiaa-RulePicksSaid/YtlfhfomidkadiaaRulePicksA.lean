/- Which version is asked for, whether it is held, may be held, and whether a bucket may turn. No condition. -/
import Derived.Test.YtlfhfomidkadiaaRuleOnP
set_option linter.unusedVariables false
set_option linter.unusedSimpArgs false
namespace Go.Proofs.Ytlfhfomidkadiaa
open Go.RowKit Go.Deep

def V5pk0 (ls : List Vr) (x : Vr) (A : Option Addr) (b o c k : Nat) : Nat → Value
  | 0 => Value.bool false
  | 1 => Value.int .i64 (-1)
  | 2 => Value.bool false
  | 3 => Value.bool false
  | 4 => Value.bool false
  | 5 => Value.bool false
  | 6 => Value.bool false
  | 7 => undef
  | 8 => undef
  | 9 => undef
  | 10 => undef
  | 11 => undef
  | 12 => undef
  | 13 => undef
  | 14 => Value.bool false
  | 15 => Value.bool false
  | _ => undef
def V8pk0 (ls : List Vr) (y : Vr) (A : Option Addr) (b o c k : Nat) : Nat → Value
  | 0 => Value.bool false
  | 1 => Value.slice A ls.length c
  | 2 => Value.int .i64 (ls.length : Int)
  | 3 => Value.bool false
  | 4 => Value.bool false
  | 5 => undef
  | 6 => undef
  | 7 => undef
  | 8 => undef
  | 9 => undef
  | 10 => Value.bool false
  | 11 => Value.bool false
  | 12 => Value.bool false
  | 13 => Value.bool false
  | 14 => Value.bool false
  | 15 => undef
  | 16 => undef
  | 17 => undef
  | 18 => undef
  | 19 => undef
  | 20 => undef
  | 21 => Value.bool false
  | 22 => Value.bool false
  | _ => undef
def V10pk0 (x : Vr) (now ut fr tt : Int) (gx : Nat) : Nat → Value
  | 0 => Value.agg x.cs.toArray
  | 1 => Value.int .i64 now
  | 2 => Value.bool (heldV x now)
  | 3 => Value.pointer (some ⟨gx, 5, none⟩)
  | 4 => Value.int .i64 x.til
  | 5 => Value.int .i64 now
  | 6 => Value.bool (decide (now < x.til))
  | 7 => Value.bool true
  | 8 => Value.bool true
  | 9 => Value.agg x.cs.toArray
  | 10 => Value.int .i64 ut
  | 11 => Value.int .i64 (holdC x ut)
  | 12 => Value.agg x.cs.toArray
  | 13 => Value.int .i64 ut
  | 14 => Value.int .i64 (holdC x ut)
  | 15 => Value.bool true
  | 16 => Value.bool true
  | 17 => Value.bool true
  | 18 => Value.int .i64 fr
  | 19 => Value.int .i64 tt
  | 20 => Value.int .i64 (turnC fr tt)
  | 21 => Value.int .i64 fr
  | 22 => Value.int .i64 tt
  | 23 => Value.int .i64 (turnC fr tt)
  | 24 => Value.bool true
  | 25 => Value.bool true
  | 26 => Value.bool true
  | 27 => Value.agg x.cs.toArray
  | 28 => Value.int .i64 (idV x)
  | 29 => Value.agg x.cs.toArray
  | 30 => Value.int .i64 (idV x)
  | 31 => Value.bool true
  | 32 => Value.bool true
  | 33 => Value.bool true
  | 34 => Value.bool true
  | 35 => Value.bool true
  | 36 => Value.bool true
  | _ => undef
set_option pp.deepTerms true in
set_option pp.maxSteps 1000000 in
set_option maxRecDepth 100000 in
set_option maxHeartbeats 16000000 in
theorem pk0 (lv : Value) (ls : List Vr) (id now ut fr tt : Int) (W : World) (hl : Vs W Any W.heap.size lv ls) (hR : Right ls) (hpos : ls.length = 0) (hf : fnd ls id = none) :
    Calls Try.prog 6 #[lv, .int .i64 id, .int .i64 now, .int .i64 ut, .int .i64 fr, .int .i64 tt] W fun e W' => e = .returned (.bool true) ∧ Ext No W W' := by
  obtain ⟨A, c, rfl, hc, hm, b, o, hrow⟩ := hl.slice
  unfold maxLen at hm
  have HL := Lib.hid hl
  have HX0 := Lib.hid (Ext.refl No W)
  have h30 : ls.length ≤ 30 := hR.len
  have HR := Lib.hid hR
  have HOKX := Lib.hid (got_ok hl id)
  have HOKY := Lib.hid (got_ok hl (-1))
  have HGI : Hid (fndI ls id = -1) := Lib.hid (by unfold fndI; rw [hf])
  have HGQ : Hid (isV ls id = false) := Lib.hid (by unfold isV; rw [pick_none hf]; rfl)
  have hf1 : fnd ls (-1) = none := by unfold fnd; rw [if_pos (by decide), if_pos hpos]
  have HGZ : Hid ((isV ls (-1) && !(gotV ls (-1)).mrk) = false) := Lib.hid (by unfold isV; rw [pick_none hf1]; rfl)
  have t0 : decide ((0 : Int) < (ls.length : Int)) = false := decide_eq_false (by omega)
  have t0' : decide (0 < ls.length) = false := decide_eq_false (by omega)
  clear hf1 hpos
  obtain ⟨x, hx⟩ : ∃ x, gotV ls id = x := ⟨_, rfl⟩
  obtain ⟨y, hy⟩ : ∃ y, gotV ls (-1) = y := ⟨_, rfl⟩
  rw [hx] at HOKX
  rw [hy] at HOKY HGZ
  have HGX := Lib.hid hx
  have HGY := Lib.hid hy
  clear hl hrow hR hf hx hy
  go_enter Try.func6, Try.ntmps6
  go_wp2_with (first
    | (go_at_call 24; (with_reducible refine (lRight_t _ ls W.heap.size _ HL.out HR.out).mono ?_); rintro e_ w1 ⟨rfl, hx⟩; have HL_1 := Lib.hid (HL.out.ext_no hx); have HOKX_1 := Lib.hid (HOKX.out.ext_no hx); have HOKY_1 := Lib.hid (HOKY.out.ext_no hx); have HXx1 := Lib.hid (HX0.out.trans hx); clear hx)
    | (go_at_call 26; (with_reducible refine (rPick_any _ ls id W.heap.size _ HL_1.out (by omega)).mono ?_); rintro e_ w2 ⟨rfl, hx⟩; have HL_2 := Lib.hid (HL_1.out.ext_no hx); have HOKX_2 := Lib.hid (HOKX_1.out.ext_no hx); have HOKY_2 := Lib.hid (HOKY_1.out.ext_no hx); have HXx2 := Lib.hid (HXx1.out.trans hx); rw [HGX.out, HGQ.out]; clear hx)
    | ((with_reducible show wpList _ _ _ (⟨none, .store 55 (.tmp 13) (.tmp 26), _, _, _, _⟩ :: _) _ _); go_must ((change wpList _ _ _ _ _ (w2.alloc (.cells Vr.zero.cs.toArray 55))); refine store_blk (cs' := x.cs.toArray) 55 (.tmp 13) (.tmp 26) rfl rfl (Blk.new w2 55 Vr.zero.cs.toArray) rfl rfl rfl size_ver (cs_one' x) ?_); intro w3 hb hx; have hxx : Ext No w2 w3 := ((Ext.refl No w2).alloc _).transS hx (fun i hi e => by have e : i = w2.heap.size := e; omega); have HL_3 := Lib.hid (HL_2.out.ext_no hxx); have HOKX_3 := Lib.hid (HOKX_2.out.ext_no hxx); have HOKY_3 := Lib.hid (HOKY_2.out.ext_no hxx); have HXx3 := Lib.hid (HXx2.out.trans hxx); have HBX_3 := Lib.hid hb; clear hb hx hxx)
    | (go_at_call 27; (with_reducible refine (rfFind_any _ ls id W.heap.size _ HL_3.out (by omega)).mono ?_); rintro e_ w4 ⟨rfl, hx⟩; have HL_4 := Lib.hid (HL_3.out.ext_no hx); have HOKX_4 := Lib.hid (HOKX_3.out.ext_no hx); have HOKY_4 := Lib.hid (HOKY_3.out.ext_no hx); have HBX_4 := Lib.hid (HBX_3.out.ext_no hx); have HXx4 := Lib.hid (HXx3.out.trans hx); rw [HGI.out]; clear hx))
  refine RF.region (vs := fun _ => undef) rfl (fun vs => ((Value.slice A ls.length c) :: (Value.int .i64 id) :: (Value.int .i64 now) :: (Value.int .i64 ut) :: (Value.int .i64 fr) :: (Value.int .i64 tt) :: undef :: undef :: undef :: undef :: undef :: undef :: (Value.bool false) :: (Value.pointer (some ⟨w2.heap.size, 0, none⟩)) :: (Value.bool false) :: (Value.int .i64 (-1)) :: undef :: undef :: (Value.slice A ls.length c) :: (Value.bool true) :: (Value.bool false) :: undef :: (Value.tuple #[Value.agg x.cs.toArray, Value.bool false]) :: (Value.slice A ls.length c) :: (Value.int .i64 id) :: (Value.tuple #[Value.agg x.cs.toArray, Value.bool false]) :: (Value.agg x.cs.toArray) :: (Value.bool false) :: (Value.slice A ls.length c) :: (Value.int .i64 id) :: (Value.int .i64 (-1)) :: (vs 0) :: (vs 1) :: (vs 2) :: (vs 3) :: (vs 4) :: (vs 5) :: (vs 6) :: (vs 7) :: (vs 8) :: (vs 9) :: (vs 10) :: (vs 11) :: (vs 12) :: (vs 13) :: (vs 14) :: (vs 15) :: undef :: undef :: undef :: undef :: undef :: undef :: undef :: undef :: undef :: undef :: undef :: undef :: undef :: undef :: undef :: undef :: undef :: undef :: undef :: undef :: undef :: undef :: undef :: undef :: undef :: undef :: undef :: undef :: undef :: undef :: undef :: undef :: undef :: undef :: undef :: undef :: undef :: undef :: undef :: undef :: undef :: undef :: undef :: undef :: undef :: undef :: undef :: undef :: undef :: undef :: undef :: undef :: undef :: undef :: undef :: undef :: undef :: undef :: undef :: undef :: undef :: undef :: undef :: undef :: []).toArray)
    (fun j v _ => v = V5pk0 ls x A b o c 0 j) (fun _ wz => Ext No w4 wz) rfl (by kernel_rfl) ?_ ?_ ?_
  · exact (Ext.refl No w4).drew
  · refine ⟨⟨⟨⟨⟨⟨⟨⟨⟨⟨⟨⟨⟨⟨⟨⟨trivial, ?_⟩, ?_⟩, ?_⟩, ?_⟩, ?_⟩, ?_⟩, ?_⟩, ?_⟩, ?_⟩, ?_⟩, ?_⟩, ?_⟩, ?_⟩, ?_⟩, ?_⟩, ?_⟩
    · refine RF.Step.plain rfl rfl (fun vs wx hG hv hd K hK => ?_)
      have HG0 := Lib.hid hG
      clear hG
      go_simp
      have h4 := hK _ _ HG0.out rfl (fun _ _ h => h)
      first | exact h4 | (simpa only [RF.upd, Nat.reduceEqDiff, if_true, if_false, reduceIte] using h4) | (simp only [RF.upd, Nat.reduceEqDiff, if_true, if_false, reduceIte] at h4 ⊢; exact h4)
    · refine RF.Step.plain rfl rfl (fun vs wx hG hv hd K hK => ?_)
      have HG0 := Lib.hid hG
      clear hG
      go_simp
      have h4 := hK _ _ HG0.out rfl (fun _ _ h => h)
      first | exact h4 | (simpa only [RF.upd, Nat.reduceEqDiff, if_true, if_false, reduceIte] using h4) | (simp only [RF.upd, Nat.reduceEqDiff, if_true, if_false, reduceIte] at h4 ⊢; exact h4)
    · refine RF.Step.plain rfl rfl (fun vs wx hG hv hd K hK => ?_)
      have h0 : vs 1 = Value.int .i64 (-1) := by first | exact hd.1 | exact hd.2.1 | exact hd.2.2.1 | exact hd.2.2.2.1 | exact hd.2.2.2.2.1
      have HG0 := Lib.hid hG
      clear hG
      go_simp
      have h4 := hK _ _ HG0.out rfl (fun _ _ h => h)
      first | exact h4 | (simpa only [RF.upd, h0, Nat.reduceEqDiff, if_true, if_false, reduceIte] using h4) | (simp only [RF.upd, h0, Nat.reduceEqDiff, if_true, if_false, reduceIte] at h4 ⊢; exact h4)
    · refine RF.Step.plain rfl rfl (fun vs wx hG hv hd K hK => ?_)
      have h0 : vs 0 = Value.bool false := by first | exact hd.1 | exact hd.2.1 | exact hd.2.2.1 | exact hd.2.2.2.1 | exact hd.2.2.2.2.1
      have h1 : vs 2 = Value.bool false := by first | exact hd.1 | exact hd.2.1 | exact hd.2.2.1 | exact hd.2.2.2.1 | exact hd.2.2.2.2.1
      have HG0 := Lib.hid hG
      clear hG
      go_simp
      have h4 := hK _ _ HG0.out rfl (fun _ _ h => h)
      first | exact h4 | (simpa only [RF.upd, h0, h1, Nat.reduceEqDiff, if_true, if_false, reduceIte] using h4) | (simp only [RF.upd, h0, h1, Nat.reduceEqDiff, if_true, if_false, reduceIte] at h4 ⊢; exact h4)
    · refine RF.Step.plain rfl rfl (fun vs wx hG hv hd K hK => ?_)
      have h0 : vs 3 = Value.bool false := by first | exact hd.1 | exact hd.2.1 | exact hd.2.2.1 | exact hd.2.2.2.1 | exact hd.2.2.2.2.1
      have HG0 := Lib.hid hG
      clear hG
      go_simp
      have h4 := hK _ _ HG0.out rfl (fun _ _ h => h)
      first | exact h4 | (simpa only [RF.upd, h0, Nat.reduceEqDiff, if_true, if_false, reduceIte] using h4) | (simp only [RF.upd, h0, Nat.reduceEqDiff, if_true, if_false, reduceIte] at h4 ⊢; exact h4)
    · refine RF.Step.guarded rfl (fun vs wx hG hv hd => ?_) (fun vs wx hG hv hd K hK => ?_)
      · have h0 : vs 4 = Value.bool false := by first | exact hd.1 | exact hd.2.1 | exact hd.2.2.1 | exact hd.2.2.2.1 | exact hd.2.2.2.2.1
        simp [Region.wanted, yielded, h0]
      · have HG0 := Lib.hid hG
        clear hG
        go_simp
        have h4 := hK _ _ HG0.out rfl (fun _ _ h => h)
        first | exact h4 | (simpa only [RF.upd, Nat.reduceEqDiff, if_true, if_false, reduceIte] using h4) | (simp only [RF.upd, Nat.reduceEqDiff, if_true, if_false, reduceIte] at h4 ⊢; exact h4)
    · refine RF.Step.guarded rfl (fun vs wx hG hv hd => ?_) (fun vs wx hG hv hd K hK => ?_)
      · have h0 : vs 4 = Value.bool false := by first | exact hd.1 | exact hd.2.1 | exact hd.2.2.1 | exact hd.2.2.2.1 | exact hd.2.2.2.2.1
        simp [Region.wanted, yielded, h0]
      · have h0 : vs 5 = Value.bool false := by first | exact hd.1 | exact hd.2.1 | exact hd.2.2.1 | exact hd.2.2.2.1 | exact hd.2.2.2.2.1
        have HG0 := Lib.hid hG
        clear hG
        go_simp
        have h4 := hK _ _ HG0.out rfl (fun _ _ h => h)
        first | exact h4 | (simpa only [RF.upd, h0, Nat.reduceEqDiff, if_true, if_false, reduceIte] using h4) | (simp only [RF.upd, h0, Nat.reduceEqDiff, if_true, if_false, reduceIte] at h4 ⊢; exact h4)
    · refine RF.Step.skip rfl (fun vs wx hG hv hd => ?_) (fun _ => rfl) (fun vs wx hG hv hd => ⟨hG, rfl⟩)
      have h0 : vs 6 = Value.bool false := by first | exact hd.1 | exact hd.2.1 | exact hd.2.2.1 | exact hd.2.2.2.1 | exact hd.2.2.2.2.1
      simp [Region.wanted, yielded, h0]
    · refine RF.Step.skip rfl (fun vs wx hG hv hd => ?_) (fun _ => rfl) (fun vs wx hG hv hd => ⟨hG, rfl⟩)
      have h0 : vs 6 = Value.bool false := by first | exact hd.1 | exact hd.2.1 | exact hd.2.2.1 | exact hd.2.2.2.1 | exact hd.2.2.2.2.1
      simp [Region.wanted, yielded, h0]
    · refine RF.Step.skip rfl (fun vs wx hG hv hd => ?_) (fun _ => rfl) (fun vs wx hG hv hd => ⟨hG, rfl⟩)
      have h0 : vs 6 = Value.bool false := by first | exact hd.1 | exact hd.2.1 | exact hd.2.2.1 | exact hd.2.2.2.1 | exact hd.2.2.2.2.1
      simp [Region.wanted, yielded, h0]
    · refine RF.Step.skip rfl (fun vs wx hG hv hd => ?_) (fun _ => rfl) (fun vs wx hG hv hd => ⟨hG, rfl⟩)
      have h0 : vs 6 = Value.bool false := by first | exact hd.1 | exact hd.2.1 | exact hd.2.2.1 | exact hd.2.2.2.1 | exact hd.2.2.2.2.1
      simp [Region.wanted, yielded, h0]
    · refine RF.Step.skip rfl (fun vs wx hG hv hd => ?_) (fun _ => rfl) (fun vs wx hG hv hd => ⟨hG, rfl⟩)
      have h0 : vs 6 = Value.bool false := by first | exact hd.1 | exact hd.2.1 | exact hd.2.2.1 | exact hd.2.2.2.1 | exact hd.2.2.2.2.1
      simp [Region.wanted, yielded, h0]
    · refine RF.Step.skip rfl (fun vs wx hG hv hd => ?_) (fun _ => rfl) (fun vs wx hG hv hd => ⟨hG, rfl⟩)
      have h0 : vs 6 = Value.bool false := by first | exact hd.1 | exact hd.2.1 | exact hd.2.2.1 | exact hd.2.2.2.1 | exact hd.2.2.2.2.1
      simp [Region.wanted, yielded, h0]
    · refine RF.Step.skip rfl (fun vs wx hG hv hd => ?_) (fun _ => rfl) (fun vs wx hG hv hd => ⟨hG, rfl⟩)
      have h0 : vs 6 = Value.bool false := by first | exact hd.1 | exact hd.2.1 | exact hd.2.2.1 | exact hd.2.2.2.1 | exact hd.2.2.2.2.1
      simp [Region.wanted, yielded, h0]
    · refine RF.Step.guarded rfl (fun vs wx hG hv hd => ?_) (fun vs wx hG hv hd K hK => ?_)
      · have h0 : vs 4 = Value.bool false := by first | exact hd.1 | exact hd.2.1 | exact hd.2.2.1 | exact hd.2.2.2.1 | exact hd.2.2.2.2.1
        simp [Region.wanted, yielded, h0]
      · have h0 : vs 6 = Value.bool false := by first | exact hd.1 | exact hd.2.1 | exact hd.2.2.1 | exact hd.2.2.2.1 | exact hd.2.2.2.2.1
        have h1 : vs 13 = undef := by first | exact hd.1 | exact hd.2.1 | exact hd.2.2.1 | exact hd.2.2.2.1 | exact hd.2.2.2.2.1
        have HG0 := Lib.hid hG
        clear hG
        go_simp
        have h4 := hK _ _ HG0.out rfl (fun _ _ h => h)
        first | exact h4 | (simpa only [RF.upd, h0, h1, Nat.reduceEqDiff, if_true, if_false, reduceIte] using h4) | (simp only [RF.upd, h0, h1, Nat.reduceEqDiff, if_true, if_false, reduceIte] at h4 ⊢; exact h4)
    · refine RF.Step.plain rfl rfl (fun vs wx hG hv hd K hK => ?_)
      have h0 : vs 4 = Value.bool false := by first | exact hd.1 | exact hd.2.1 | exact hd.2.2.1 | exact hd.2.2.2.1 | exact hd.2.2.2.2.1
      have h1 : vs 14 = Value.bool false := by first | exact hd.1 | exact hd.2.1 | exact hd.2.2.1 | exact hd.2.2.2.1 | exact hd.2.2.2.2.1
      have HG0 := Lib.hid hG
      clear hG
      go_simp
      have h4 := hK _ _ HG0.out rfl (fun _ _ h => h)
      first | exact h4 | (simpa only [RF.upd, h0, h1, Nat.reduceEqDiff, if_true, if_false, reduceIte] using h4) | (simp only [RF.upd, h0, h1, Nat.reduceEqDiff, if_true, if_false, reduceIte] at h4 ⊢; exact h4)
  · intro vsA wA hG hF
    have hz : vsA 15 = Value.bool false := hF 15 (by decide)
    have HXA := Lib.hid (HXx4.out.trans hG)
    have HL_A := Lib.hid (HL_4.out.ext_no hG)
    have HOKX_A := Lib.hid (HOKX_4.out.ext_no hG)
    have HOKY_A := Lib.hid (HOKY_4.out.ext_no hG)
    have HBX_A := Lib.hid (HBX_4.out.ext_no hG)
    rw [hz]
    clear hF hG hz
    go_wp2_with (first
      | (go_at_call 29; (with_reducible refine (rThere_any _ ls W.heap.size _ HL_A.out (by omega)).mono ?_); rintro e_ w11 ⟨rfl, hx⟩; have HL_11 := Lib.hid (HL_A.out.ext_no hx); have HOKX_11 := Lib.hid (HOKX_A.out.ext_no hx); have HOKY_11 := Lib.hid (HOKY_A.out.ext_no hx); have HBX_11 := Lib.hid (HBX_A.out.ext_no hx); have HXx11 := Lib.hid (HXA.out.trans hx); rw [HGY.out, HGZ.out]; clear hx)
      | ((with_reducible show wpList _ _ _ (⟨none, .store 55 (.tmp 16) (.tmp 50), _, _, _, _⟩ :: _) _ _); go_must ((change wpList _ _ _ _ _ (w11.alloc (.cells Vr.zero.cs.toArray 55))); refine store_blk (cs' := y.cs.toArray) 55 (.tmp 16) (.tmp 50) rfl rfl (Blk.new w11 55 Vr.zero.cs.toArray) rfl rfl rfl size_ver (cs_one' y) ?_); intro w12 hb hx; have hxx : Ext No w11 w12 := ((Ext.refl No w11).alloc _).transS hx (fun i hi e => by have e : i = w11.heap.size := e; omega); have HL_12 := Lib.hid (HL_11.out.ext_no hxx); have HOKX_12 := Lib.hid (HOKX_11.out.ext_no hxx); have HOKY_12 := Lib.hid (HOKY_11.out.ext_no hxx); have HBX_12 := Lib.hid (HBX_11.out.ext_no hxx); have HXx12 := Lib.hid (HXx11.out.trans hxx); have HBY_12 := Lib.hid hb; clear hb hx hxx))
    refine RF.region (vs := fun _ => undef) rfl (fun vs => ((Value.slice A ls.length c) :: (Value.int .i64 id) :: (Value.int .i64 now) :: (Value.int .i64 ut) :: (Value.int .i64 fr) :: (Value.int .i64 tt) :: undef :: undef :: undef :: undef :: undef :: undef :: (Value.bool false) :: (Value.pointer (some ⟨w2.heap.size, 0, none⟩)) :: (Value.bool false) :: (Value.int .i64 (-1)) :: (Value.pointer (some ⟨w11.heap.size, 0, none⟩)) :: (Value.bool false) :: (Value.slice A ls.length c) :: (Value.bool true) :: (Value.bool false) :: undef :: (Value.tuple #[Value.agg x.cs.toArray, Value.bool false]) :: (Value.slice A ls.length c) :: (Value.int .i64 id) :: (Value.tuple #[Value.agg x.cs.toArray, Value.bool false]) :: (Value.agg x.cs.toArray) :: (Value.bool false) :: (Value.slice A ls.length c) :: (Value.int .i64 id) :: (Value.int .i64 (-1)) :: (vsA 0) :: (vsA 1) :: (vsA 2) :: (vsA 3) :: (vsA 4) :: (vsA 5) :: (vsA 6) :: (vsA 7) :: (vsA 8) :: (vsA 9) :: (vsA 10) :: (vsA 11) :: (vsA 12) :: (vsA 13) :: (vsA 14) :: (Value.bool false) :: (Value.tuple #[Value.agg y.cs.toArray, Value.bool false]) :: (Value.slice A ls.length c) :: (Value.tuple #[Value.agg y.cs.toArray, Value.bool false]) :: (Value.agg y.cs.toArray) :: (Value.bool false) :: (vs 0) :: (vs 1) :: (vs 2) :: (vs 3) :: (vs 4) :: (vs 5) :: (vs 6) :: (vs 7) :: (vs 8) :: (vs 9) :: (vs 10) :: (vs 11) :: (vs 12) :: (vs 13) :: (vs 14) :: (vs 15) :: (vs 16) :: (vs 17) :: (vs 18) :: (vs 19) :: (vs 20) :: (vs 21) :: (vs 22) :: undef :: undef :: undef :: undef :: undef :: undef :: undef :: undef :: undef :: undef :: undef :: undef :: undef :: undef :: undef :: undef :: undef :: undef :: undef :: undef :: undef :: undef :: undef :: undef :: undef :: undef :: undef :: undef :: undef :: undef :: undef :: undef :: undef :: undef :: undef :: undef :: []).toArray)
      (fun j v _ => v = V8pk0 ls y A b o c 0 j) (fun _ wz => Ext No w12 wz) rfl (by kernel_rfl) ?_ ?_ ?_
    · exact (Ext.refl No w12).drew
    · refine ⟨⟨⟨⟨⟨⟨⟨⟨⟨⟨⟨⟨⟨⟨⟨⟨⟨⟨⟨⟨⟨⟨⟨trivial, ?_⟩, ?_⟩, ?_⟩, ?_⟩, ?_⟩, ?_⟩, ?_⟩, ?_⟩, ?_⟩, ?_⟩, ?_⟩, ?_⟩, ?_⟩, ?_⟩, ?_⟩, ?_⟩, ?_⟩, ?_⟩, ?_⟩, ?_⟩, ?_⟩, ?_⟩, ?_⟩
      · refine RF.Step.plain rfl rfl (fun vs wx hG hv hd K hK => ?_)
        have HG0 := Lib.hid hG
        clear hG
        go_simp
        have h4 := hK _ _ HG0.out rfl (fun _ _ h => h)
        first | exact h4 | (simpa only [RF.upd, Nat.reduceEqDiff, if_true, if_false, reduceIte] using h4) | (simp only [RF.upd, Nat.reduceEqDiff, if_true, if_false, reduceIte] at h4 ⊢; exact h4)
      · refine RF.Step.plain rfl rfl (fun vs wx hG hv hd K hK => ?_)
        have HG0 := Lib.hid hG
        clear hG
        go_simp
        have h4 := hK _ _ HG0.out rfl (fun _ _ h => h)
        first | exact h4 | (simpa only [RF.upd, Nat.reduceEqDiff, if_true, if_false, reduceIte] using h4) | (simp only [RF.upd, Nat.reduceEqDiff, if_true, if_false, reduceIte] at h4 ⊢; exact h4)
      · refine RF.Step.plain rfl rfl (fun vs wx hG hv hd K hK => ?_)
        have h0 : vs 1 = Value.slice A ls.length c := by first | exact hd.1 | exact hd.2.1 | exact hd.2.2.1 | exact hd.2.2.2.1 | exact hd.2.2.2.2.1
        have HG0 := Lib.hid hG
        clear hG
        go_simp
        have h4 := hK _ _ HG0.out rfl (fun _ _ h => h)
        first | exact h4 | (simpa only [RF.upd, h0, Nat.reduceEqDiff, if_true, if_false, reduceIte] using h4) | (simp only [RF.upd, h0, Nat.reduceEqDiff, if_true, if_false, reduceIte] at h4 ⊢; exact h4)
      · refine RF.Step.plain rfl rfl (fun vs wx hG hv hd K hK => ?_)
        have h0 : vs 2 = Value.int .i64 (ls.length : Int) := by first | exact hd.1 | exact hd.2.1 | exact hd.2.2.1 | exact hd.2.2.2.1 | exact hd.2.2.2.2.1
        have HG0 := Lib.hid hG
        clear hG
        go_simp
        have h4 := hK _ _ HG0.out rfl (fun _ _ h => h)
        first | exact h4 | (simpa only [RF.upd, h0, Nat.reduceEqDiff, if_true, if_false, reduceIte] using h4) | (simp only [RF.upd, h0, Nat.reduceEqDiff, if_true, if_false, reduceIte] at h4 ⊢; exact h4)
      · refine RF.Step.plain rfl rfl (fun vs wx hG hv hd K hK => ?_)
        have h0 : vs 3 = Value.bool false := by first | exact hd.1 | exact hd.2.1 | exact hd.2.2.1 | exact hd.2.2.2.1 | exact hd.2.2.2.2.1
        have HG0 := Lib.hid hG
        clear hG
        go_simp
        have h4 := hK _ _ HG0.out rfl (fun _ _ h => h)
        first | exact h4 | (simpa only [RF.upd, h0, Nat.reduceEqDiff, if_true, if_false, reduceIte] using h4) | (simp only [RF.upd, h0, Nat.reduceEqDiff, if_true, if_false, reduceIte] at h4 ⊢; exact h4)
      · refine RF.Step.skip rfl (fun vs wx hG hv hd => ?_) (fun _ => rfl) (fun vs wx hG hv hd => ⟨hG, rfl⟩)
        have h0 : vs 4 = Value.bool false := by first | exact hd.1 | exact hd.2.1 | exact hd.2.2.1 | exact hd.2.2.2.1 | exact hd.2.2.2.2.1
        simp [Region.wanted, yielded, h0]
      · refine RF.Step.skip rfl (fun vs wx hG hv hd => ?_) (fun _ => rfl) (fun vs wx hG hv hd => ⟨hG, rfl⟩)
        have h0 : vs 4 = Value.bool false := by first | exact hd.1 | exact hd.2.1 | exact hd.2.2.1 | exact hd.2.2.2.1 | exact hd.2.2.2.2.1
        simp [Region.wanted, yielded, h0]
      · refine RF.Step.skip rfl (fun vs wx hG hv hd => ?_) (fun _ => rfl) (fun vs wx hG hv hd => ⟨hG, rfl⟩)
        have h0 : vs 4 = Value.bool false := by first | exact hd.1 | exact hd.2.1 | exact hd.2.2.1 | exact hd.2.2.2.1 | exact hd.2.2.2.2.1
        simp [Region.wanted, yielded, h0]
      · refine RF.Step.skip rfl (fun vs wx hG hv hd => ?_) (fun _ => rfl) (fun vs wx hG hv hd => ⟨hG, rfl⟩)
        have h0 : vs 4 = Value.bool false := by first | exact hd.1 | exact hd.2.1 | exact hd.2.2.1 | exact hd.2.2.2.1 | exact hd.2.2.2.2.1
        simp [Region.wanted, yielded, h0]
      · refine RF.Step.skip rfl (fun vs wx hG hv hd => ?_) (fun _ => rfl) (fun vs wx hG hv hd => ⟨hG, rfl⟩)
        have h0 : vs 4 = Value.bool false := by first | exact hd.1 | exact hd.2.1 | exact hd.2.2.1 | exact hd.2.2.2.1 | exact hd.2.2.2.2.1
        simp [Region.wanted, yielded, h0]
      · refine RF.Step.plain rfl rfl (fun vs wx hG hv hd K hK => ?_)
        have h0 : vs 4 = Value.bool false := by first | exact hd.1 | exact hd.2.1 | exact hd.2.2.1 | exact hd.2.2.2.1 | exact hd.2.2.2.2.1
        have h1 : vs 9 = undef := by first | exact hd.1 | exact hd.2.1 | exact hd.2.2.1 | exact hd.2.2.2.1 | exact hd.2.2.2.2.1
        have HG0 := Lib.hid hG
        clear hG
        go_simp
        have h4 := hK _ _ HG0.out rfl (fun _ _ h => h)
        first | exact h4 | (simpa only [RF.upd, h0, h1, Nat.reduceEqDiff, if_true, if_false, reduceIte] using h4) | (simp only [RF.upd, h0, h1, Nat.reduceEqDiff, if_true, if_false, reduceIte] at h4 ⊢; exact h4)
      · refine RF.Step.plain rfl rfl (fun vs wx hG hv hd K hK => ?_)
        have h0 : vs 0 = Value.bool false := by first | exact hd.1 | exact hd.2.1 | exact hd.2.2.1 | exact hd.2.2.2.1 | exact hd.2.2.2.2.1
        have h1 : vs 10 = Value.bool false := by first | exact hd.1 | exact hd.2.1 | exact hd.2.2.1 | exact hd.2.2.2.1 | exact hd.2.2.2.2.1
        have HG0 := Lib.hid hG
        clear hG
        go_simp
        have h4 := hK _ _ HG0.out rfl (fun _ _ h => h)
        first | exact h4 | (simpa only [RF.upd, h0, h1, Nat.reduceEqDiff, if_true, if_false, reduceIte] using h4) | (simp only [RF.upd, h0, h1, Nat.reduceEqDiff, if_true, if_false, reduceIte] at h4 ⊢; exact h4)
      · refine RF.Step.plain rfl rfl (fun vs wx hG hv hd K hK => ?_)
        have h0 : vs 11 = Value.bool false := by first | exact hd.1 | exact hd.2.1 | exact hd.2.2.1 | exact hd.2.2.2.1 | exact hd.2.2.2.2.1
        have HG0 := Lib.hid hG
        clear hG
        go_simp
        have h4 := hK _ _ HG0.out rfl (fun _ _ h => h)
        first | exact h4 | (simpa only [RF.upd, h0, Nat.reduceEqDiff, if_true, if_false, reduceIte] using h4) | (simp only [RF.upd, h0, Nat.reduceEqDiff, if_true, if_false, reduceIte] at h4 ⊢; exact h4)
      · refine RF.Step.guarded rfl (fun vs wx hG hv hd => ?_) (fun vs wx hG hv hd K hK => ?_)
        · have h0 : vs 12 = Value.bool false := by first | exact hd.1 | exact hd.2.1 | exact hd.2.2.1 | exact hd.2.2.2.1 | exact hd.2.2.2.2.1
          simp [Region.wanted, yielded, h0]
        · have HG0 := Lib.hid hG
          clear hG
          go_simp
          have h4 := hK _ _ HG0.out rfl (fun _ _ h => h)
          first | exact h4 | (simpa only [RF.upd, Nat.reduceEqDiff, if_true, if_false, reduceIte] using h4) | (simp only [RF.upd, Nat.reduceEqDiff, if_true, if_false, reduceIte] at h4 ⊢; exact h4)
      · refine RF.Step.guarded rfl (fun vs wx hG hv hd => ?_) (fun vs wx hG hv hd K hK => ?_)
        · have h0 : vs 12 = Value.bool false := by first | exact hd.1 | exact hd.2.1 | exact hd.2.2.1 | exact hd.2.2.2.1 | exact hd.2.2.2.2.1
          simp [Region.wanted, yielded, h0]
        · have h0 : vs 13 = Value.bool false := by first | exact hd.1 | exact hd.2.1 | exact hd.2.2.1 | exact hd.2.2.2.1 | exact hd.2.2.2.2.1
          have HG0 := Lib.hid hG
          clear hG
          go_simp
          have h4 := hK _ _ HG0.out rfl (fun _ _ h => h)
          first | exact h4 | (simpa only [RF.upd, h0, Nat.reduceEqDiff, if_true, if_false, reduceIte] using h4) | (simp only [RF.upd, h0, Nat.reduceEqDiff, if_true, if_false, reduceIte] at h4 ⊢; exact h4)
      · refine RF.Step.skip rfl (fun vs wx hG hv hd => ?_) (fun _ => rfl) (fun vs wx hG hv hd => ⟨hG, rfl⟩)
        have h0 : vs 14 = Value.bool false := by first | exact hd.1 | exact hd.2.1 | exact hd.2.2.1 | exact hd.2.2.2.1 | exact hd.2.2.2.2.1
        simp [Region.wanted, yielded, h0]
      · refine RF.Step.skip rfl (fun vs wx hG hv hd => ?_) (fun _ => rfl) (fun vs wx hG hv hd => ⟨hG, rfl⟩)
        have h0 : vs 14 = Value.bool false := by first | exact hd.1 | exact hd.2.1 | exact hd.2.2.1 | exact hd.2.2.2.1 | exact hd.2.2.2.2.1
        simp [Region.wanted, yielded, h0]
      · refine RF.Step.skip rfl (fun vs wx hG hv hd => ?_) (fun _ => rfl) (fun vs wx hG hv hd => ⟨hG, rfl⟩)
        have h0 : vs 14 = Value.bool false := by first | exact hd.1 | exact hd.2.1 | exact hd.2.2.1 | exact hd.2.2.2.1 | exact hd.2.2.2.2.1
        simp [Region.wanted, yielded, h0]
      · refine RF.Step.skip rfl (fun vs wx hG hv hd => ?_) (fun _ => rfl) (fun vs wx hG hv hd => ⟨hG, rfl⟩)
        have h0 : vs 14 = Value.bool false := by first | exact hd.1 | exact hd.2.1 | exact hd.2.2.1 | exact hd.2.2.2.1 | exact hd.2.2.2.2.1
        simp [Region.wanted, yielded, h0]
      · refine RF.Step.skip rfl (fun vs wx hG hv hd => ?_) (fun _ => rfl) (fun vs wx hG hv hd => ⟨hG, rfl⟩)
        have h0 : vs 14 = Value.bool false := by first | exact hd.1 | exact hd.2.1 | exact hd.2.2.1 | exact hd.2.2.2.1 | exact hd.2.2.2.2.1
        simp [Region.wanted, yielded, h0]
      · refine RF.Step.skip rfl (fun vs wx hG hv hd => ?_) (fun _ => rfl) (fun vs wx hG hv hd => ⟨hG, rfl⟩)
        have h0 : vs 14 = Value.bool false := by first | exact hd.1 | exact hd.2.1 | exact hd.2.2.1 | exact hd.2.2.2.1 | exact hd.2.2.2.2.1
        simp [Region.wanted, yielded, h0]
      · refine RF.Step.guarded rfl (fun vs wx hG hv hd => ?_) (fun vs wx hG hv hd K hK => ?_)
        · have h0 : vs 12 = Value.bool false := by first | exact hd.1 | exact hd.2.1 | exact hd.2.2.1 | exact hd.2.2.2.1 | exact hd.2.2.2.2.1
          simp [Region.wanted, yielded, h0]
        · have h0 : vs 14 = Value.bool false := by first | exact hd.1 | exact hd.2.1 | exact hd.2.2.1 | exact hd.2.2.2.1 | exact hd.2.2.2.2.1
          have h1 : vs 20 = undef := by first | exact hd.1 | exact hd.2.1 | exact hd.2.2.1 | exact hd.2.2.2.1 | exact hd.2.2.2.2.1
          have HG0 := Lib.hid hG
          clear hG
          go_simp
          have h4 := hK _ _ HG0.out rfl (fun _ _ h => h)
          first | exact h4 | (simpa only [RF.upd, h0, h1, Nat.reduceEqDiff, if_true, if_false, reduceIte] using h4) | (simp only [RF.upd, h0, h1, Nat.reduceEqDiff, if_true, if_false, reduceIte] at h4 ⊢; exact h4)
      · refine RF.Step.plain rfl rfl (fun vs wx hG hv hd K hK => ?_)
        have h0 : vs 12 = Value.bool false := by first | exact hd.1 | exact hd.2.1 | exact hd.2.2.1 | exact hd.2.2.2.1 | exact hd.2.2.2.2.1
        have h1 : vs 21 = Value.bool false := by first | exact hd.1 | exact hd.2.1 | exact hd.2.2.1 | exact hd.2.2.2.1 | exact hd.2.2.2.2.1
        have HG0 := Lib.hid hG
        clear hG
        go_simp
        have h4 := hK _ _ HG0.out rfl (fun _ _ h => h)
        first | exact h4 | (simpa only [RF.upd, h0, h1, Nat.reduceEqDiff, if_true, if_false, reduceIte] using h4) | (simp only [RF.upd, h0, h1, Nat.reduceEqDiff, if_true, if_false, reduceIte] at h4 ⊢; exact h4)
    · intro vsB wB hG hF
      have hz : vsB 22 = Value.bool false := hF 22 (by decide)
      have HXB := Lib.hid (HXx12.out.trans hG)
      have HBX_B := Lib.hid (HBX_12.out.ext_no hG)
      rw [hz]
      clear hF hG hz
      go_wp2_with fail
      refine RF.region (vs := fun | 36 => Value.bool false | _ => undef) rfl (fun vs => ((Value.slice A ls.length c) :: (Value.int .i64 id) :: (Value.int .i64 now) :: (Value.int .i64 ut) :: (Value.int .i64 fr) :: (Value.int .i64 tt) :: undef :: undef :: undef :: undef :: undef :: undef :: (vs 36) :: (Value.pointer (some ⟨w2.heap.size, 0, none⟩)) :: (Value.bool false) :: (Value.int .i64 (-1)) :: (Value.pointer (some ⟨w11.heap.size, 0, none⟩)) :: (Value.bool false) :: (Value.slice A ls.length c) :: (Value.bool true) :: (Value.bool false) :: undef :: (Value.tuple #[Value.agg x.cs.toArray, Value.bool false]) :: (Value.slice A ls.length c) :: (Value.int .i64 id) :: (Value.tuple #[Value.agg x.cs.toArray, Value.bool false]) :: (Value.agg x.cs.toArray) :: (Value.bool false) :: (Value.slice A ls.length c) :: (Value.int .i64 id) :: (Value.int .i64 (-1)) :: (vsA 0) :: (vsA 1) :: (vsA 2) :: (vsA 3) :: (vsA 4) :: (vsA 5) :: (vsA 6) :: (vsA 7) :: (vsA 8) :: (vsA 9) :: (vsA 10) :: (vsA 11) :: (vsA 12) :: (vsA 13) :: (vsA 14) :: (Value.bool false) :: (Value.tuple #[Value.agg y.cs.toArray, Value.bool false]) :: (Value.slice A ls.length c) :: (Value.tuple #[Value.agg y.cs.toArray, Value.bool false]) :: (Value.agg y.cs.toArray) :: (Value.bool false) :: (vsB 0) :: (vsB 1) :: (vsB 2) :: (vsB 3) :: (vsB 4) :: (vsB 5) :: (vsB 6) :: (vsB 7) :: (vsB 8) :: (vsB 9) :: (vsB 10) :: (vsB 11) :: (vsB 12) :: (vsB 13) :: (vsB 14) :: (vsB 15) :: (vsB 16) :: (vsB 17) :: (vsB 18) :: (vsB 19) :: (vsB 20) :: (vsB 21) :: (Value.bool false) :: (vs 0) :: (vs 1) :: (vs 2) :: (vs 3) :: (vs 4) :: (vs 5) :: (vs 6) :: (vs 7) :: (vs 8) :: (vs 9) :: (vs 10) :: (vs 11) :: (vs 12) :: (vs 13) :: (vs 14) :: (vs 15) :: (vs 16) :: (vs 17) :: (vs 18) :: (vs 19) :: (vs 20) :: (vs 21) :: (vs 22) :: (vs 23) :: (vs 24) :: (vs 25) :: (vs 26) :: (vs 27) :: (vs 28) :: (vs 29) :: (vs 30) :: (vs 31) :: (vs 32) :: (vs 33) :: (vs 34) :: (vs 35) :: []).toArray)
        (fun j v _ => v = V10pk0 x now ut fr tt w2.heap.size j) (fun _ wz => Ext No wB wz) rfl (by kernel_rfl) ?_ ?_ ?_
      · exact (Ext.refl No wB).drew
      · refine ⟨⟨⟨⟨⟨⟨⟨⟨⟨⟨⟨⟨⟨⟨⟨⟨⟨⟨⟨⟨⟨⟨⟨⟨⟨⟨⟨⟨⟨⟨⟨⟨⟨⟨⟨⟨⟨trivial, ?_⟩, ?_⟩, ?_⟩, ?_⟩, ?_⟩, ?_⟩, ?_⟩, ?_⟩, ?_⟩, ?_⟩, ?_⟩, ?_⟩, ?_⟩, ?_⟩, ?_⟩, ?_⟩, ?_⟩, ?_⟩, ?_⟩, ?_⟩, ?_⟩, ?_⟩, ?_⟩, ?_⟩, ?_⟩, ?_⟩, ?_⟩, ?_⟩, ?_⟩, ?_⟩, ?_⟩, ?_⟩, ?_⟩, ?_⟩, ?_⟩, ?_⟩, ?_⟩
        · refine RF.Step.plain rfl rfl (fun vs wx hG hv hd K hK => ?_)
          refine wp_load_row 55 (.tmp 13) rfl _ (by first | rfl | exact h0) _ _ _ _ (HBX_B.out.ext_no hG) Try.underlying55 rfl size_ver ?_
          exact hK _ _ hG rfl (fun _ _ h => h)
        · refine RF.Step.plain rfl rfl (fun vs wx hG hv hd K hK => ?_)
          have HG0 := Lib.hid hG
          clear hG
          go_simp
          have h4 := hK _ _ HG0.out rfl (fun _ _ h => h)
          first | exact h4 | (simpa only [RF.upd, Nat.reduceEqDiff, if_true, if_false, reduceIte] using h4) | (simp only [RF.upd, Nat.reduceEqDiff, if_true, if_false, reduceIte] at h4 ⊢; exact h4)
        · refine RF.Step.plain rfl rfl (fun vs wx hG hv hd K hK => ?_)
          have h0 : vs 0 = Value.agg x.cs.toArray := by first | exact hd.1 | exact hd.2.1 | exact hd.2.2.1 | exact hd.2.2.2.1 | exact hd.2.2.2.2.1
          have h1 : vs 1 = Value.int .i64 now := by first | exact hd.1 | exact hd.2.1 | exact hd.2.2.1 | exact hd.2.2.2.1 | exact hd.2.2.2.2.1
          go_simp
          refine (rHeld_any x now wx).mono ?_
          rintro e w' ⟨rfl, hx⟩
          have h4 := hK _ _ (Ext.trans hG hx) rfl (fun _ _ h => h)
          first | exact h4 | (simpa only [RF.upd, h0, h1, Nat.reduceEqDiff, if_true, if_false, reduceIte] using h4) | (simp only [RF.upd, h0, h1, Nat.reduceEqDiff, if_true, if_false, reduceIte] at h4 ⊢; exact h4)
        · refine RF.Step.plain rfl rfl (fun vs wx hG hv hd K hK => ?_)
          have HG0 := Lib.hid hG
          clear hG
          go_simp
          have h4 := hK _ _ HG0.out rfl (fun _ _ h => h)
          first | exact h4 | (simpa only [RF.upd, Nat.reduceEqDiff, if_true, if_false, reduceIte] using h4) | (simp only [RF.upd, Nat.reduceEqDiff, if_true, if_false, reduceIte] at h4 ⊢; exact h4)
        · refine RF.Step.plain rfl rfl (fun vs wx hG hv hd K hK => ?_)
          have h0 : vs 3 = Value.pointer (some ⟨w2.heap.size, 5, none⟩) := by first | exact hd.1 | exact hd.2.1 | exact hd.2.2.1 | exact hd.2.2.2.1 | exact hd.2.2.2.2.1
          have q5 : wx.cell? ⟨w2.heap.size, 5, none⟩ = some (.int .i64 x.til) := (HBX_B.out.ext_no hG).cell 5
          have HG0 := Lib.hid hG
          clear hG
          go_simp
          have h4 := hK _ _ HG0.out rfl (fun _ _ h => h)
          first | exact h4 | (simpa only [RF.upd, h0, Nat.reduceEqDiff, if_true, if_false, reduceIte] using h4) | (simp only [RF.upd, h0, Nat.reduceEqDiff, if_true, if_false, reduceIte] at h4 ⊢; exact h4)
        · refine RF.Step.plain rfl rfl (fun vs wx hG hv hd K hK => ?_)
          have HG0 := Lib.hid hG
          clear hG
          go_simp
          have h4 := hK _ _ HG0.out rfl (fun _ _ h => h)
          first | exact h4 | (simpa only [RF.upd, Nat.reduceEqDiff, if_true, if_false, reduceIte] using h4) | (simp only [RF.upd, Nat.reduceEqDiff, if_true, if_false, reduceIte] at h4 ⊢; exact h4)
        · refine RF.Step.plain rfl rfl (fun vs wx hG hv hd K hK => ?_)
          have h0 : vs 4 = Value.int .i64 x.til := by first | exact hd.1 | exact hd.2.1 | exact hd.2.2.1 | exact hd.2.2.2.1 | exact hd.2.2.2.2.1
          have h1 : vs 5 = Value.int .i64 now := by first | exact hd.1 | exact hd.2.1 | exact hd.2.2.1 | exact hd.2.2.2.1 | exact hd.2.2.2.2.1
          have HG0 := Lib.hid hG
          clear hG
          go_simp
          have h4 := hK _ _ HG0.out rfl (fun _ _ h => h)
          first | exact h4 | (simpa only [RF.upd, h0, h1, Nat.reduceEqDiff, if_true, if_false, reduceIte] using h4) | (simp only [RF.upd, h0, h1, Nat.reduceEqDiff, if_true, if_false, reduceIte] at h4 ⊢; exact h4)
        · refine RF.Step.plain rfl rfl (fun vs wx hG hv hd K hK => ?_)
          have h0 : vs 2 = Value.bool (heldV x now) := by first | exact hd.1 | exact hd.2.1 | exact hd.2.2.1 | exact hd.2.2.2.1 | exact hd.2.2.2.2.1
          have h1 : vs 6 = Value.bool (decide (now < x.til)) := by first | exact hd.1 | exact hd.2.1 | exact hd.2.2.1 | exact hd.2.2.2.1 | exact hd.2.2.2.2.1
          have hh : (heldV x now == decide (now < x.til)) = true := by simp [heldV]
          have HG0 := Lib.hid hG
          clear hG
          go_simp
          have h4 := hK _ _ HG0.out rfl (fun _ _ h => h)
          first | exact h4 | (simpa only [RF.upd, h0, h1, Nat.reduceEqDiff, if_true, if_false, reduceIte] using h4) | (simp only [RF.upd, h0, h1, Nat.reduceEqDiff, if_true, if_false, reduceIte] at h4 ⊢; exact h4)
        · refine RF.Step.plain rfl rfl (fun vs wx hG hv hd K hK => ?_)
          have h0 : vs 7 = Value.bool true := by first | exact hd.1 | exact hd.2.1 | exact hd.2.2.1 | exact hd.2.2.2.1 | exact hd.2.2.2.2.1
          have HG0 := Lib.hid hG
          clear hG
          go_simp
          have h4 := hK _ _ HG0.out rfl (fun _ _ h => h)
          first | exact h4 | (simpa only [RF.upd, h0, Nat.reduceEqDiff, if_true, if_false, reduceIte] using h4) | (simp only [RF.upd, h0, Nat.reduceEqDiff, if_true, if_false, reduceIte] at h4 ⊢; exact h4)
        · refine RF.Step.guarded rfl (fun vs wx hG hv hd => ?_) (fun vs wx hG hv hd K hK => ?_)
          · have h0 : vs 8 = Value.bool true := by first | exact hd.1 | exact hd.2.1 | exact hd.2.2.1 | exact hd.2.2.2.1 | exact hd.2.2.2.2.1
            simp [Region.wanted, yielded, h0]
          · refine wp_load_row 55 (.tmp 13) rfl _ (by first | rfl | exact h0) _ _ _ _ (HBX_B.out.ext_no hG) Try.underlying55 rfl size_ver ?_
            exact hK _ _ hG rfl (fun _ _ h => h)
        · refine RF.Step.guarded rfl (fun vs wx hG hv hd => ?_) (fun vs wx hG hv hd K hK => ?_)
          · have h0 : vs 8 = Value.bool true := by first | exact hd.1 | exact hd.2.1 | exact hd.2.2.1 | exact hd.2.2.2.1 | exact hd.2.2.2.2.1
            simp [Region.wanted, yielded, h0]
          · have HG0 := Lib.hid hG
            clear hG
            go_simp
            have h4 := hK _ _ HG0.out rfl (fun _ _ h => h)
            first | exact h4 | (simpa only [RF.upd, Nat.reduceEqDiff, if_true, if_false, reduceIte] using h4) | (simp only [RF.upd, Nat.reduceEqDiff, if_true, if_false, reduceIte] at h4 ⊢; exact h4)
        · refine RF.Step.guarded rfl (fun vs wx hG hv hd => ?_) (fun vs wx hG hv hd K hK => ?_)
          · have h0 : vs 8 = Value.bool true := by first | exact hd.1 | exact hd.2.1 | exact hd.2.2.1 | exact hd.2.2.2.1 | exact hd.2.2.2.2.1
            simp [Region.wanted, yielded, h0]
          · have h0 : vs 9 = Value.agg x.cs.toArray := by first | exact hd.1 | exact hd.2.1 | exact hd.2.2.1 | exact hd.2.2.2.1 | exact hd.2.2.2.2.1
            have h1 : vs 10 = Value.int .i64 ut := by first | exact hd.1 | exact hd.2.1 | exact hd.2.2.1 | exact hd.2.2.2.1 | exact hd.2.2.2.2.1
            go_simp
            refine (rHold_any x ut wx).mono ?_
            rintro e w' ⟨rfl, hx⟩
            have h4 := hK _ _ (Ext.trans hG hx) rfl (fun _ _ h => h)
            first | exact h4 | (simpa only [RF.upd, h0, h1, Nat.reduceEqDiff, if_true, if_false, reduceIte] using h4) | (simp only [RF.upd, h0, h1, Nat.reduceEqDiff, if_true, if_false, reduceIte] at h4 ⊢; exact h4)
        · refine RF.Step.guarded rfl (fun vs wx hG hv hd => ?_) (fun vs wx hG hv hd K hK => ?_)
          · have h0 : vs 8 = Value.bool true := by first | exact hd.1 | exact hd.2.1 | exact hd.2.2.1 | exact hd.2.2.2.1 | exact hd.2.2.2.2.1
            simp [Region.wanted, yielded, h0]
          · refine wp_load_row 55 (.tmp 13) rfl _ (by first | rfl | exact h0) _ _ _ _ (HBX_B.out.ext_no hG) Try.underlying55 rfl size_ver ?_
            exact hK _ _ hG rfl (fun _ _ h => h)
        · refine RF.Step.guarded rfl (fun vs wx hG hv hd => ?_) (fun vs wx hG hv hd K hK => ?_)
          · have h0 : vs 8 = Value.bool true := by first | exact hd.1 | exact hd.2.1 | exact hd.2.2.1 | exact hd.2.2.2.1 | exact hd.2.2.2.2.1
            simp [Region.wanted, yielded, h0]
          · have HG0 := Lib.hid hG
            clear hG
            go_simp
            have h4 := hK _ _ HG0.out rfl (fun _ _ h => h)
            first | exact h4 | (simpa only [RF.upd, Nat.reduceEqDiff, if_true, if_false, reduceIte] using h4) | (simp only [RF.upd, Nat.reduceEqDiff, if_true, if_false, reduceIte] at h4 ⊢; exact h4)
        · refine RF.Step.guarded rfl (fun vs wx hG hv hd => ?_) (fun vs wx hG hv hd K hK => ?_)
          · have h0 : vs 8 = Value.bool true := by first | exact hd.1 | exact hd.2.1 | exact hd.2.2.1 | exact hd.2.2.2.1 | exact hd.2.2.2.2.1
            simp [Region.wanted, yielded, h0]
          · have h0 : vs 12 = Value.agg x.cs.toArray := by first | exact hd.1 | exact hd.2.1 | exact hd.2.2.1 | exact hd.2.2.2.1 | exact hd.2.2.2.2.1
            have h1 : vs 13 = Value.int .i64 ut := by first | exact hd.1 | exact hd.2.1 | exact hd.2.2.1 | exact hd.2.2.2.1 | exact hd.2.2.2.2.1
            go_simp
            refine (rfHold_any x ut wx).mono ?_
            rintro e w' ⟨rfl, hx⟩
            have h4 := hK _ _ (Ext.trans hG hx) rfl (fun _ _ h => h)
            first | exact h4 | (simpa only [RF.upd, h0, h1, Nat.reduceEqDiff, if_true, if_false, reduceIte] using h4) | (simp only [RF.upd, h0, h1, Nat.reduceEqDiff, if_true, if_false, reduceIte] at h4 ⊢; exact h4)
        · refine RF.Step.guarded rfl (fun vs wx hG hv hd => ?_) (fun vs wx hG hv hd K hK => ?_)
          · have h0 : vs 8 = Value.bool true := by first | exact hd.1 | exact hd.2.1 | exact hd.2.2.1 | exact hd.2.2.2.1 | exact hd.2.2.2.2.1
            simp [Region.wanted, yielded, h0]
          · have h0 : vs 11 = Value.int .i64 (holdC x ut) := by first | exact hd.1 | exact hd.2.1 | exact hd.2.2.1 | exact hd.2.2.2.1 | exact hd.2.2.2.2.1
            have h1 : vs 14 = Value.int .i64 (holdC x ut) := by first | exact hd.1 | exact hd.2.1 | exact hd.2.2.1 | exact hd.2.2.2.1 | exact hd.2.2.2.2.1
            have HG0 := Lib.hid hG
            clear hG
            go_simp
            have h4 := hK _ _ HG0.out rfl (fun _ _ h => h)
            first | exact h4 | (simpa only [RF.upd, h0, h1, Nat.reduceEqDiff, if_true, if_false, reduceIte] using h4) | (simp only [RF.upd, h0, h1, Nat.reduceEqDiff, if_true, if_false, reduceIte] at h4 ⊢; exact h4)
        · refine RF.Step.plain rfl rfl (fun vs wx hG hv hd K hK => ?_)
          have h0 : vs 8 = Value.bool true := by first | exact hd.1 | exact hd.2.1 | exact hd.2.2.1 | exact hd.2.2.2.1 | exact hd.2.2.2.2.1
          have h1 : vs 15 = Value.bool true := by first | exact hd.1 | exact hd.2.1 | exact hd.2.2.1 | exact hd.2.2.2.1 | exact hd.2.2.2.2.1
          have HG0 := Lib.hid hG
          clear hG
          go_simp
          have h4 := hK _ _ HG0.out rfl (fun _ _ h => h)
          first | exact h4 | (simpa only [RF.upd, h0, h1, Nat.reduceEqDiff, if_true, if_false, reduceIte] using h4) | (simp only [RF.upd, h0, h1, Nat.reduceEqDiff, if_true, if_false, reduceIte] at h4 ⊢; exact h4)
        · refine RF.Step.plain rfl rfl (fun vs wx hG hv hd K hK => ?_)
          have h0 : vs 16 = Value.bool true := by first | exact hd.1 | exact hd.2.1 | exact hd.2.2.1 | exact hd.2.2.2.1 | exact hd.2.2.2.2.1
          have HG0 := Lib.hid hG
          clear hG
          go_simp
          have h4 := hK _ _ HG0.out rfl (fun _ _ h => h)
          first | exact h4 | (simpa only [RF.upd, h0, Nat.reduceEqDiff, if_true, if_false, reduceIte] using h4) | (simp only [RF.upd, h0, Nat.reduceEqDiff, if_true, if_false, reduceIte] at h4 ⊢; exact h4)
        · refine RF.Step.guarded rfl (fun vs wx hG hv hd => ?_) (fun vs wx hG hv hd K hK => ?_)
          · have h0 : vs 17 = Value.bool true := by first | exact hd.1 | exact hd.2.1 | exact hd.2.2.1 | exact hd.2.2.2.1 | exact hd.2.2.2.2.1
            simp [Region.wanted, yielded, h0]
          · have HG0 := Lib.hid hG
            clear hG
            go_simp
            have h4 := hK _ _ HG0.out rfl (fun _ _ h => h)
            first | exact h4 | (simpa only [RF.upd, Nat.reduceEqDiff, if_true, if_false, reduceIte] using h4) | (simp only [RF.upd, Nat.reduceEqDiff, if_true, if_false, reduceIte] at h4 ⊢; exact h4)
        · refine RF.Step.guarded rfl (fun vs wx hG hv hd => ?_) (fun vs wx hG hv hd K hK => ?_)
          · have h0 : vs 17 = Value.bool true := by first | exact hd.1 | exact hd.2.1 | exact hd.2.2.1 | exact hd.2.2.2.1 | exact hd.2.2.2.2.1
            simp [Region.wanted, yielded, h0]
          · have HG0 := Lib.hid hG
            clear hG
            go_simp
            have h4 := hK _ _ HG0.out rfl (fun _ _ h => h)
            first | exact h4 | (simpa only [RF.upd, Nat.reduceEqDiff, if_true, if_false, reduceIte] using h4) | (simp only [RF.upd, Nat.reduceEqDiff, if_true, if_false, reduceIte] at h4 ⊢; exact h4)
        · refine RF.Step.guarded rfl (fun vs wx hG hv hd => ?_) (fun vs wx hG hv hd K hK => ?_)
          · have h0 : vs 17 = Value.bool true := by first | exact hd.1 | exact hd.2.1 | exact hd.2.2.1 | exact hd.2.2.2.1 | exact hd.2.2.2.2.1
            simp [Region.wanted, yielded, h0]
          · have h0 : vs 18 = Value.int .i64 fr := by first | exact hd.1 | exact hd.2.1 | exact hd.2.2.1 | exact hd.2.2.2.1 | exact hd.2.2.2.2.1
            have h1 : vs 19 = Value.int .i64 tt := by first | exact hd.1 | exact hd.2.1 | exact hd.2.2.1 | exact hd.2.2.2.1 | exact hd.2.2.2.2.1
            go_simp
            refine (rTurn_any fr tt wx).mono ?_
            rintro e w' ⟨rfl, hx⟩
            have h4 := hK _ _ (Ext.trans hG hx) rfl (fun _ _ h => h)
            first | exact h4 | (simpa only [RF.upd, h0, h1, Nat.reduceEqDiff, if_true, if_false, reduceIte] using h4) | (simp only [RF.upd, h0, h1, Nat.reduceEqDiff, if_true, if_false, reduceIte] at h4 ⊢; exact h4)
        · refine RF.Step.guarded rfl (fun vs wx hG hv hd => ?_) (fun vs wx hG hv hd K hK => ?_)
          · have h0 : vs 17 = Value.bool true := by first | exact hd.1 | exact hd.2.1 | exact hd.2.2.1 | exact hd.2.2.2.1 | exact hd.2.2.2.2.1
            simp [Region.wanted, yielded, h0]
          · have HG0 := Lib.hid hG
            clear hG
            go_simp
            have h4 := hK _ _ HG0.out rfl (fun _ _ h => h)
            first | exact h4 | (simpa only [RF.upd, Nat.reduceEqDiff, if_true, if_false, reduceIte] using h4) | (simp only [RF.upd, Nat.reduceEqDiff, if_true, if_false, reduceIte] at h4 ⊢; exact h4)
        · refine RF.Step.guarded rfl (fun vs wx hG hv hd => ?_) (fun vs wx hG hv hd K hK => ?_)
          · have h0 : vs 17 = Value.bool true := by first | exact hd.1 | exact hd.2.1 | exact hd.2.2.1 | exact hd.2.2.2.1 | exact hd.2.2.2.2.1
            simp [Region.wanted, yielded, h0]
          · have HG0 := Lib.hid hG
            clear hG
            go_simp
            have h4 := hK _ _ HG0.out rfl (fun _ _ h => h)
            first | exact h4 | (simpa only [RF.upd, Nat.reduceEqDiff, if_true, if_false, reduceIte] using h4) | (simp only [RF.upd, Nat.reduceEqDiff, if_true, if_false, reduceIte] at h4 ⊢; exact h4)
        · refine RF.Step.guarded rfl (fun vs wx hG hv hd => ?_) (fun vs wx hG hv hd K hK => ?_)
          · have h0 : vs 17 = Value.bool true := by first | exact hd.1 | exact hd.2.1 | exact hd.2.2.1 | exact hd.2.2.2.1 | exact hd.2.2.2.2.1
            simp [Region.wanted, yielded, h0]
          · have h0 : vs 21 = Value.int .i64 fr := by first | exact hd.1 | exact hd.2.1 | exact hd.2.2.1 | exact hd.2.2.2.1 | exact hd.2.2.2.2.1
            have h1 : vs 22 = Value.int .i64 tt := by first | exact hd.1 | exact hd.2.1 | exact hd.2.2.1 | exact hd.2.2.2.1 | exact hd.2.2.2.2.1
            go_simp
            refine (rfTurn_any fr tt wx).mono ?_
            rintro e w' ⟨rfl, hx⟩
            have h4 := hK _ _ (Ext.trans hG hx) rfl (fun _ _ h => h)
            first | exact h4 | (simpa only [RF.upd, h0, h1, Nat.reduceEqDiff, if_true, if_false, reduceIte] using h4) | (simp only [RF.upd, h0, h1, Nat.reduceEqDiff, if_true, if_false, reduceIte] at h4 ⊢; exact h4)
        · refine RF.Step.guarded rfl (fun vs wx hG hv hd => ?_) (fun vs wx hG hv hd K hK => ?_)
          · have h0 : vs 17 = Value.bool true := by first | exact hd.1 | exact hd.2.1 | exact hd.2.2.1 | exact hd.2.2.2.1 | exact hd.2.2.2.2.1
            simp [Region.wanted, yielded, h0]
          · have h0 : vs 20 = Value.int .i64 (turnC fr tt) := by first | exact hd.1 | exact hd.2.1 | exact hd.2.2.1 | exact hd.2.2.2.1 | exact hd.2.2.2.2.1
            have h1 : vs 23 = Value.int .i64 (turnC fr tt) := by first | exact hd.1 | exact hd.2.1 | exact hd.2.2.1 | exact hd.2.2.2.1 | exact hd.2.2.2.2.1
            have HG0 := Lib.hid hG
            clear hG
            go_simp
            have h4 := hK _ _ HG0.out rfl (fun _ _ h => h)
            first | exact h4 | (simpa only [RF.upd, h0, h1, Nat.reduceEqDiff, if_true, if_false, reduceIte] using h4) | (simp only [RF.upd, h0, h1, Nat.reduceEqDiff, if_true, if_false, reduceIte] at h4 ⊢; exact h4)
        · refine RF.Step.plain rfl rfl (fun vs wx hG hv hd K hK => ?_)
          have h0 : vs 17 = Value.bool true := by first | exact hd.1 | exact hd.2.1 | exact hd.2.2.1 | exact hd.2.2.2.1 | exact hd.2.2.2.2.1
          have h1 : vs 24 = Value.bool true := by first | exact hd.1 | exact hd.2.1 | exact hd.2.2.1 | exact hd.2.2.2.1 | exact hd.2.2.2.2.1
          have HG0 := Lib.hid hG
          clear hG
          go_simp
          have h4 := hK _ _ HG0.out rfl (fun _ _ h => h)
          first | exact h4 | (simpa only [RF.upd, h0, h1, Nat.reduceEqDiff, if_true, if_false, reduceIte] using h4) | (simp only [RF.upd, h0, h1, Nat.reduceEqDiff, if_true, if_false, reduceIte] at h4 ⊢; exact h4)
        · refine RF.Step.plain rfl rfl (fun vs wx hG hv hd K hK => ?_)
          have h0 : vs 25 = Value.bool true := by first | exact hd.1 | exact hd.2.1 | exact hd.2.2.1 | exact hd.2.2.2.1 | exact hd.2.2.2.2.1
          have HG0 := Lib.hid hG
          clear hG
          go_simp
          have h4 := hK _ _ HG0.out rfl (fun _ _ h => h)
          first | exact h4 | (simpa only [RF.upd, h0, Nat.reduceEqDiff, if_true, if_false, reduceIte] using h4) | (simp only [RF.upd, h0, Nat.reduceEqDiff, if_true, if_false, reduceIte] at h4 ⊢; exact h4)
        · refine RF.Step.guarded rfl (fun vs wx hG hv hd => ?_) (fun vs wx hG hv hd K hK => ?_)
          · have h0 : vs 26 = Value.bool true := by first | exact hd.1 | exact hd.2.1 | exact hd.2.2.1 | exact hd.2.2.2.1 | exact hd.2.2.2.2.1
            simp [Region.wanted, yielded, h0]
          · refine wp_load_row 55 (.tmp 13) rfl _ (by first | rfl | exact h0) _ _ _ _ (HBX_B.out.ext_no hG) Try.underlying55 rfl size_ver ?_
            exact hK _ _ hG rfl (fun _ _ h => h)
        · refine RF.Step.guarded rfl (fun vs wx hG hv hd => ?_) (fun vs wx hG hv hd K hK => ?_)
          · have h0 : vs 26 = Value.bool true := by first | exact hd.1 | exact hd.2.1 | exact hd.2.2.1 | exact hd.2.2.2.1 | exact hd.2.2.2.2.1
            simp [Region.wanted, yielded, h0]
          · have h0 : vs 27 = Value.agg x.cs.toArray := by first | exact hd.1 | exact hd.2.1 | exact hd.2.2.1 | exact hd.2.2.2.1 | exact hd.2.2.2.2.1
            go_simp
            refine (rId_any x wx).mono ?_
            rintro e w' ⟨rfl, hx⟩
            have h4 := hK _ _ (Ext.trans hG hx) rfl (fun _ _ h => h)
            first | exact h4 | (simpa only [RF.upd, h0, Nat.reduceEqDiff, if_true, if_false, reduceIte] using h4) | (simp only [RF.upd, h0, Nat.reduceEqDiff, if_true, if_false, reduceIte] at h4 ⊢; exact h4)
        · refine RF.Step.guarded rfl (fun vs wx hG hv hd => ?_) (fun vs wx hG hv hd K hK => ?_)
          · have h0 : vs 26 = Value.bool true := by first | exact hd.1 | exact hd.2.1 | exact hd.2.2.1 | exact hd.2.2.2.1 | exact hd.2.2.2.2.1
            simp [Region.wanted, yielded, h0]
          · refine wp_load_row 55 (.tmp 13) rfl _ (by first | rfl | exact h0) _ _ _ _ (HBX_B.out.ext_no hG) Try.underlying55 rfl size_ver ?_
            exact hK _ _ hG rfl (fun _ _ h => h)
        · refine RF.Step.guarded rfl (fun vs wx hG hv hd => ?_) (fun vs wx hG hv hd K hK => ?_)
          · have h0 : vs 26 = Value.bool true := by first | exact hd.1 | exact hd.2.1 | exact hd.2.2.1 | exact hd.2.2.2.1 | exact hd.2.2.2.2.1
            simp [Region.wanted, yielded, h0]
          · have h0 : vs 29 = Value.agg x.cs.toArray := by first | exact hd.1 | exact hd.2.1 | exact hd.2.2.1 | exact hd.2.2.2.1 | exact hd.2.2.2.2.1
            go_simp
            refine (rfId_any x wx).mono ?_
            rintro e w' ⟨rfl, hx⟩
            have h4 := hK _ _ (Ext.trans hG hx) rfl (fun _ _ h => h)
            first | exact h4 | (simpa only [RF.upd, h0, Nat.reduceEqDiff, if_true, if_false, reduceIte] using h4) | (simp only [RF.upd, h0, Nat.reduceEqDiff, if_true, if_false, reduceIte] at h4 ⊢; exact h4)
        · refine RF.Step.guarded rfl (fun vs wx hG hv hd => ?_) (fun vs wx hG hv hd K hK => ?_)
          · have h0 : vs 26 = Value.bool true := by first | exact hd.1 | exact hd.2.1 | exact hd.2.2.1 | exact hd.2.2.2.1 | exact hd.2.2.2.2.1
            simp [Region.wanted, yielded, h0]
          · have h0 : vs 28 = Value.int .i64 (idV x) := by first | exact hd.1 | exact hd.2.1 | exact hd.2.2.1 | exact hd.2.2.2.1 | exact hd.2.2.2.2.1
            have h1 : vs 30 = Value.int .i64 (idV x) := by first | exact hd.1 | exact hd.2.1 | exact hd.2.2.1 | exact hd.2.2.2.1 | exact hd.2.2.2.2.1
            have HG0 := Lib.hid hG
            clear hG
            go_simp
            have h4 := hK _ _ HG0.out rfl (fun _ _ h => h)
            first | exact h4 | (simpa only [RF.upd, h0, h1, Nat.reduceEqDiff, if_true, if_false, reduceIte] using h4) | (simp only [RF.upd, h0, h1, Nat.reduceEqDiff, if_true, if_false, reduceIte] at h4 ⊢; exact h4)
        · refine RF.Step.plain rfl rfl (fun vs wx hG hv hd K hK => ?_)
          have h0 : vs 26 = Value.bool true := by first | exact hd.1 | exact hd.2.1 | exact hd.2.2.1 | exact hd.2.2.2.1 | exact hd.2.2.2.2.1
          have h1 : vs 31 = Value.bool true := by first | exact hd.1 | exact hd.2.1 | exact hd.2.2.1 | exact hd.2.2.2.1 | exact hd.2.2.2.2.1
          have HG0 := Lib.hid hG
          clear hG
          go_simp
          have h4 := hK _ _ HG0.out rfl (fun _ _ h => h)
          first | exact h4 | (simpa only [RF.upd, h0, h1, Nat.reduceEqDiff, if_true, if_false, reduceIte] using h4) | (simp only [RF.upd, h0, h1, Nat.reduceEqDiff, if_true, if_false, reduceIte] at h4 ⊢; exact h4)
        · refine RF.Step.plain rfl rfl (fun vs wx hG hv hd K hK => ?_)
          have h0 : vs 32 = Value.bool true := by first | exact hd.1 | exact hd.2.1 | exact hd.2.2.1 | exact hd.2.2.2.1 | exact hd.2.2.2.2.1
          have HG0 := Lib.hid hG
          clear hG
          go_simp
          have h4 := hK _ _ HG0.out rfl (fun _ _ h => h)
          first | exact h4 | (simpa only [RF.upd, h0, Nat.reduceEqDiff, if_true, if_false, reduceIte] using h4) | (simp only [RF.upd, h0, Nat.reduceEqDiff, if_true, if_false, reduceIte] at h4 ⊢; exact h4)
        · refine RF.Step.guarded rfl (fun vs wx hG hv hd => ?_) (fun vs wx hG hv hd K hK => ?_)
          · have h0 : vs 33 = Value.bool true := by first | exact hd.1 | exact hd.2.1 | exact hd.2.2.1 | exact hd.2.2.2.1 | exact hd.2.2.2.2.1
            simp [Region.wanted, yielded, h0]
          · go_simp
            refine (lWorks wx).mono ?_
            rintro e w' ⟨rfl, hx⟩
            have h4 := hK _ _ (Ext.trans hG hx) rfl (fun _ _ h => h)
            first | exact h4 | (simpa only [RF.upd, Nat.reduceEqDiff, if_true, if_false, reduceIte] using h4) | (simp only [RF.upd, Nat.reduceEqDiff, if_true, if_false, reduceIte] at h4 ⊢; exact h4)
        · refine RF.Step.plain rfl rfl (fun vs wx hG hv hd K hK => ?_)
          have h0 : vs 33 = Value.bool true := by first | exact hd.1 | exact hd.2.1 | exact hd.2.2.1 | exact hd.2.2.2.1 | exact hd.2.2.2.2.1
          have h1 : vs 34 = Value.bool true := by first | exact hd.1 | exact hd.2.1 | exact hd.2.2.1 | exact hd.2.2.2.1 | exact hd.2.2.2.2.1
          have HG0 := Lib.hid hG
          clear hG
          go_simp
          have h4 := hK _ _ HG0.out rfl (fun _ _ h => h)
          first | exact h4 | (simpa only [RF.upd, h0, h1, Nat.reduceEqDiff, if_true, if_false, reduceIte] using h4) | (simp only [RF.upd, h0, h1, Nat.reduceEqDiff, if_true, if_false, reduceIte] at h4 ⊢; exact h4)
        · refine RF.Step.plain rfl rfl (fun vs wx hG hv hd K hK => ?_)
          have h0 : vs 35 = Value.bool true := by first | exact hd.1 | exact hd.2.1 | exact hd.2.2.1 | exact hd.2.2.2.1 | exact hd.2.2.2.2.1
          have HG0 := Lib.hid hG
          clear hG
          go_simp
          have h4 := hK _ _ HG0.out rfl (fun _ _ h => h)
          first | exact h4 | (simpa only [RF.upd, h0, Nat.reduceEqDiff, if_true, if_false, reduceIte] using h4) | (simp only [RF.upd, h0, Nat.reduceEqDiff, if_true, if_false, reduceIte] at h4 ⊢; exact h4)
      · intro vsC wC hG hF
        have hz : vsC 36 = Value.bool true := hF 36 (by decide)
        have HXC := Lib.hid (HXB.out.trans hG)
        rw [hz]
        clear hF hG hz
        go_wp2_with fail
        go_ret
        exact ⟨rfl, HXC.out⟩
def V5pk1 (ls : List Vr) (x : Vr) (A : Option Addr) (b o c k : Nat) : Nat → Value
  | 0 => Value.bool false
  | 1 => Value.int .i64 (-1)
  | 2 => Value.bool false
  | 3 => Value.bool false
  | 4 => Value.bool false
  | 5 => Value.bool false
  | 6 => Value.bool false
  | 7 => undef
  | 8 => undef
  | 9 => undef
  | 10 => undef
  | 11 => undef
  | 12 => undef
  | 13 => undef
  | 14 => Value.bool false
  | 15 => Value.bool false
  | _ => undef
def V8pk1 (ls : List Vr) (y : Vr) (A : Option Addr) (b o c k : Nat) : Nat → Value
  | 0 => Value.bool true
  | 1 => Value.slice (some ⟨b, o, none⟩) ls.length c
  | 2 => Value.int .i64 (ls.length : Int)
  | 3 => Value.bool true
  | 4 => Value.bool true
  | 5 => Value.slice (some ⟨b, o, none⟩) ls.length c
  | 6 => Value.pointer (some ⟨b, o, none⟩)
  | 7 => Value.pointer (some ⟨b, o + 2, none⟩)
  | 8 => Value.bool false
  | 9 => Value.bool true
  | 10 => Value.bool true
  | 11 => Value.bool false
  | 12 => Value.bool false
  | 13 => Value.bool true
  | 14 => Value.bool true
  | 15 => Value.agg y.cs.toArray
  | 16 => Value.slice (some ⟨b, o, none⟩) ls.length c
  | 17 => Value.pointer (some ⟨b, o, none⟩)
  | 18 => Value.agg y.cs.toArray
  | 19 => Value.bool true
  | 20 => Value.bool false
  | 21 => Value.bool false
  | 22 => Value.bool false
  | _ => undef
def V10pk1 (x : Vr) (now ut fr tt : Int) (gx : Nat) : Nat → Value
  | 0 => Value.agg x.cs.toArray
  | 1 => Value.int .i64 now
  | 2 => Value.bool (heldV x now)
  | 3 => Value.pointer (some ⟨gx, 5, none⟩)
  | 4 => Value.int .i64 x.til
  | 5 => Value.int .i64 now
  | 6 => Value.bool (decide (now < x.til))
  | 7 => Value.bool true
  | 8 => Value.bool true
  | 9 => Value.agg x.cs.toArray
  | 10 => Value.int .i64 ut
  | 11 => Value.int .i64 (holdC x ut)
  | 12 => Value.agg x.cs.toArray
  | 13 => Value.int .i64 ut
  | 14 => Value.int .i64 (holdC x ut)
  | 15 => Value.bool true
  | 16 => Value.bool true
  | 17 => Value.bool true
  | 18 => Value.int .i64 fr
  | 19 => Value.int .i64 tt
  | 20 => Value.int .i64 (turnC fr tt)
  | 21 => Value.int .i64 fr
  | 22 => Value.int .i64 tt
  | 23 => Value.int .i64 (turnC fr tt)
  | 24 => Value.bool true
  | 25 => Value.bool true
  | 26 => Value.bool true
  | 27 => Value.agg x.cs.toArray
  | 28 => Value.int .i64 (idV x)
  | 29 => Value.agg x.cs.toArray
  | 30 => Value.int .i64 (idV x)
  | 31 => Value.bool true
  | 32 => Value.bool true
  | 33 => Value.bool true
  | 34 => Value.bool true
  | 35 => Value.bool true
  | 36 => Value.bool true
  | _ => undef
set_option pp.deepTerms true in
set_option pp.maxSteps 1000000 in
set_option maxRecDepth 100000 in
set_option maxHeartbeats 16000000 in
theorem pk1 (lv : Value) (ls : List Vr) (id now ut fr tt : Int) (W : World) (hl : Vs W Any W.heap.size lv ls) (hR : Right ls) (hpos : 0 < ls.length) (hf : fnd ls id = none) (hmk : (gotV ls (-1)).mrk = false) :
    Calls Try.prog 6 #[lv, .int .i64 id, .int .i64 now, .int .i64 ut, .int .i64 fr, .int .i64 tt] W fun e W' => e = .returned (.bool true) ∧ Ext No W W' := by
  obtain ⟨A, c, rfl, hc, hm, b, o, hrow⟩ := hl.slice
  unfold maxLen at hm
  have HL := Lib.hid hl
  have HX0 := Lib.hid (Ext.refl No W)
  have h30 : ls.length ≤ 30 := hR.len
  have HR := Lib.hid hR
  have HOKX := Lib.hid (got_ok hl id)
  have HOKY := Lib.hid (got_ok hl (-1))
  have HGI : Hid (fndI ls id = -1) := Lib.hid (by unfold fndI; rw [hf])
  have HGQ : Hid (isV ls id = false) := Lib.hid (by unfold isV; rw [pick_none hf]; rfl)
  have hn0 : ¬ ls.length = 0 := by omega
  have hf1 : fnd ls (-1) = some 0 := by unfold fnd; rw [if_pos (by decide), if_neg hn0]
  have hgy : gotV ls (-1) = ls[0] := by unfold gotV; rw [pick_at hf1]; rfl
  have HGZ : Hid ((isV ls (-1) && !(gotV ls (-1)).mrk) = true) := Lib.hid (by unfold isV; rw [pick_at hf1, hmk]; rfl)
  obtain ⟨hA0, -, hbl0, hr0, -⟩ := hrow 0 hpos
  have HE0 : Hid (∀ (wx : World), Ext No W wx → wx.rangeAt b o (gotV ls (-1)).cs) := Lib.hid (fun wx hx => by
    have h := range_ext hr0 hx hbl0 (fun h => h)
    rw [hgy]
    simpa using h)
  subst hA0
  have t0 : (0 : Int) < (ls.length : Int) := by omega
  clear hr0 hgy hf1 hn0
  obtain ⟨x, hx⟩ : ∃ x, gotV ls id = x := ⟨_, rfl⟩
  obtain ⟨y, hy⟩ : ∃ y, gotV ls (-1) = y := ⟨_, rfl⟩
  rw [hx] at HOKX
  rw [hy] at HOKY HGZ HE0 hmk
  have HGX := Lib.hid hx
  have HGY := Lib.hid hy
  have HMK := Lib.hid hmk
  clear hl hrow hR hf hx hy hmk
  go_enter Try.func6, Try.ntmps6
  go_wp2_with (first
    | (go_at_call 24; (with_reducible refine (lRight_t _ ls W.heap.size _ HL.out HR.out).mono ?_); rintro e_ w1 ⟨rfl, hx⟩; have HL_1 := Lib.hid (HL.out.ext_no hx); have HOKX_1 := Lib.hid (HOKX.out.ext_no hx); have HOKY_1 := Lib.hid (HOKY.out.ext_no hx); have HXx1 := Lib.hid (HX0.out.trans hx); clear hx)
    | (go_at_call 26; (with_reducible refine (rPick_any _ ls id W.heap.size _ HL_1.out (by omega)).mono ?_); rintro e_ w2 ⟨rfl, hx⟩; have HL_2 := Lib.hid (HL_1.out.ext_no hx); have HOKX_2 := Lib.hid (HOKX_1.out.ext_no hx); have HOKY_2 := Lib.hid (HOKY_1.out.ext_no hx); have HXx2 := Lib.hid (HXx1.out.trans hx); rw [HGX.out, HGQ.out]; clear hx)
    | ((with_reducible show wpList _ _ _ (⟨none, .store 55 (.tmp 13) (.tmp 26), _, _, _, _⟩ :: _) _ _); go_must ((change wpList _ _ _ _ _ (w2.alloc (.cells Vr.zero.cs.toArray 55))); refine store_blk (cs' := x.cs.toArray) 55 (.tmp 13) (.tmp 26) rfl rfl (Blk.new w2 55 Vr.zero.cs.toArray) rfl rfl rfl size_ver (cs_one' x) ?_); intro w3 hb hx; have hxx : Ext No w2 w3 := ((Ext.refl No w2).alloc _).transS hx (fun i hi e => by have e : i = w2.heap.size := e; omega); have HL_3 := Lib.hid (HL_2.out.ext_no hxx); have HOKX_3 := Lib.hid (HOKX_2.out.ext_no hxx); have HOKY_3 := Lib.hid (HOKY_2.out.ext_no hxx); have HXx3 := Lib.hid (HXx2.out.trans hxx); have HBX_3 := Lib.hid hb; clear hb hx hxx)
    | (go_at_call 27; (with_reducible refine (rfFind_any _ ls id W.heap.size _ HL_3.out (by omega)).mono ?_); rintro e_ w4 ⟨rfl, hx⟩; have HL_4 := Lib.hid (HL_3.out.ext_no hx); have HOKX_4 := Lib.hid (HOKX_3.out.ext_no hx); have HOKY_4 := Lib.hid (HOKY_3.out.ext_no hx); have HBX_4 := Lib.hid (HBX_3.out.ext_no hx); have HXx4 := Lib.hid (HXx3.out.trans hx); rw [HGI.out]; clear hx))
  refine RF.region (vs := fun _ => undef) rfl (fun vs => ((Value.slice (some ⟨b, o, none⟩) ls.length c) :: (Value.int .i64 id) :: (Value.int .i64 now) :: (Value.int .i64 ut) :: (Value.int .i64 fr) :: (Value.int .i64 tt) :: undef :: undef :: undef :: undef :: undef :: undef :: (Value.bool false) :: (Value.pointer (some ⟨w2.heap.size, 0, none⟩)) :: (Value.bool false) :: (Value.int .i64 (-1)) :: undef :: undef :: (Value.slice (some ⟨b, o, none⟩) ls.length c) :: (Value.bool true) :: (Value.bool false) :: undef :: (Value.tuple #[Value.agg x.cs.toArray, Value.bool false]) :: (Value.slice (some ⟨b, o, none⟩) ls.length c) :: (Value.int .i64 id) :: (Value.tuple #[Value.agg x.cs.toArray, Value.bool false]) :: (Value.agg x.cs.toArray) :: (Value.bool false) :: (Value.slice (some ⟨b, o, none⟩) ls.length c) :: (Value.int .i64 id) :: (Value.int .i64 (-1)) :: (vs 0) :: (vs 1) :: (vs 2) :: (vs 3) :: (vs 4) :: (vs 5) :: (vs 6) :: (vs 7) :: (vs 8) :: (vs 9) :: (vs 10) :: (vs 11) :: (vs 12) :: (vs 13) :: (vs 14) :: (vs 15) :: undef :: undef :: undef :: undef :: undef :: undef :: undef :: undef :: undef :: undef :: undef :: undef :: undef :: undef :: undef :: undef :: undef :: undef :: undef :: undef :: undef :: undef :: undef :: undef :: undef :: undef :: undef :: undef :: undef :: undef :: undef :: undef :: undef :: undef :: undef :: undef :: undef :: undef :: undef :: undef :: undef :: undef :: undef :: undef :: undef :: undef :: undef :: undef :: undef :: undef :: undef :: undef :: undef :: undef :: undef :: undef :: undef :: undef :: undef :: undef :: undef :: undef :: undef :: undef :: []).toArray)
    (fun j v _ => v = V5pk1 ls x none b o c 0 j) (fun _ wz => Ext No w4 wz) rfl (by kernel_rfl) ?_ ?_ ?_
  · exact (Ext.refl No w4).drew
  · refine ⟨⟨⟨⟨⟨⟨⟨⟨⟨⟨⟨⟨⟨⟨⟨⟨trivial, ?_⟩, ?_⟩, ?_⟩, ?_⟩, ?_⟩, ?_⟩, ?_⟩, ?_⟩, ?_⟩, ?_⟩, ?_⟩, ?_⟩, ?_⟩, ?_⟩, ?_⟩, ?_⟩
    · refine RF.Step.plain rfl rfl (fun vs wx hG hv hd K hK => ?_)
      have HG0 := Lib.hid hG
      clear hG
      go_simp
      have h4 := hK _ _ HG0.out rfl (fun _ _ h => h)
      first | exact h4 | (simpa only [RF.upd, Nat.reduceEqDiff, if_true, if_false, reduceIte] using h4) | (simp only [RF.upd, Nat.reduceEqDiff, if_true, if_false, reduceIte] at h4 ⊢; exact h4)
    · refine RF.Step.plain rfl rfl (fun vs wx hG hv hd K hK => ?_)
      have HG0 := Lib.hid hG
      clear hG
      go_simp
      have h4 := hK _ _ HG0.out rfl (fun _ _ h => h)
      first | exact h4 | (simpa only [RF.upd, Nat.reduceEqDiff, if_true, if_false, reduceIte] using h4) | (simp only [RF.upd, Nat.reduceEqDiff, if_true, if_false, reduceIte] at h4 ⊢; exact h4)
    · refine RF.Step.plain rfl rfl (fun vs wx hG hv hd K hK => ?_)
      have h0 : vs 1 = Value.int .i64 (-1) := by first | exact hd.1 | exact hd.2.1 | exact hd.2.2.1 | exact hd.2.2.2.1 | exact hd.2.2.2.2.1
      have HG0 := Lib.hid hG
      clear hG
      go_simp
      have h4 := hK _ _ HG0.out rfl (fun _ _ h => h)
      first | exact h4 | (simpa only [RF.upd, h0, Nat.reduceEqDiff, if_true, if_false, reduceIte] using h4) | (simp only [RF.upd, h0, Nat.reduceEqDiff, if_true, if_false, reduceIte] at h4 ⊢; exact h4)
    · refine RF.Step.plain rfl rfl (fun vs wx hG hv hd K hK => ?_)
      have h0 : vs 0 = Value.bool false := by first | exact hd.1 | exact hd.2.1 | exact hd.2.2.1 | exact hd.2.2.2.1 | exact hd.2.2.2.2.1
      have h1 : vs 2 = Value.bool false := by first | exact hd.1 | exact hd.2.1 | exact hd.2.2.1 | exact hd.2.2.2.1 | exact hd.2.2.2.2.1
      have HG0 := Lib.hid hG
      clear hG
      go_simp
      have h4 := hK _ _ HG0.out rfl (fun _ _ h => h)
      first | exact h4 | (simpa only [RF.upd, h0, h1, Nat.reduceEqDiff, if_true, if_false, reduceIte] using h4) | (simp only [RF.upd, h0, h1, Nat.reduceEqDiff, if_true, if_false, reduceIte] at h4 ⊢; exact h4)
    · refine RF.Step.plain rfl rfl (fun vs wx hG hv hd K hK => ?_)
      have h0 : vs 3 = Value.bool false := by first | exact hd.1 | exact hd.2.1 | exact hd.2.2.1 | exact hd.2.2.2.1 | exact hd.2.2.2.2.1
      have HG0 := Lib.hid hG
      clear hG
      go_simp
      have h4 := hK _ _ HG0.out rfl (fun _ _ h => h)
      first | exact h4 | (simpa only [RF.upd, h0, Nat.reduceEqDiff, if_true, if_false, reduceIte] using h4) | (simp only [RF.upd, h0, Nat.reduceEqDiff, if_true, if_false, reduceIte] at h4 ⊢; exact h4)
    · refine RF.Step.guarded rfl (fun vs wx hG hv hd => ?_) (fun vs wx hG hv hd K hK => ?_)
      · have h0 : vs 4 = Value.bool false := by first | exact hd.1 | exact hd.2.1 | exact hd.2.2.1 | exact hd.2.2.2.1 | exact hd.2.2.2.2.1
        simp [Region.wanted, yielded, h0]
      · have HG0 := Lib.hid hG
        clear hG
        go_simp
        have h4 := hK _ _ HG0.out rfl (fun _ _ h => h)
        first | exact h4 | (simpa only [RF.upd, Nat.reduceEqDiff, if_true, if_false, reduceIte] using h4) | (simp only [RF.upd, Nat.reduceEqDiff, if_true, if_false, reduceIte] at h4 ⊢; exact h4)
    · refine RF.Step.guarded rfl (fun vs wx hG hv hd => ?_) (fun vs wx hG hv hd K hK => ?_)
      · have h0 : vs 4 = Value.bool false := by first | exact hd.1 | exact hd.2.1 | exact hd.2.2.1 | exact hd.2.2.2.1 | exact hd.2.2.2.2.1
        simp [Region.wanted, yielded, h0]
      · have h0 : vs 5 = Value.bool false := by first | exact hd.1 | exact hd.2.1 | exact hd.2.2.1 | exact hd.2.2.2.1 | exact hd.2.2.2.2.1
        have HG0 := Lib.hid hG
        clear hG
        go_simp
        have h4 := hK _ _ HG0.out rfl (fun _ _ h => h)
        first | exact h4 | (simpa only [RF.upd, h0, Nat.reduceEqDiff, if_true, if_false, reduceIte] using h4) | (simp only [RF.upd, h0, Nat.reduceEqDiff, if_true, if_false, reduceIte] at h4 ⊢; exact h4)
    · refine RF.Step.skip rfl (fun vs wx hG hv hd => ?_) (fun _ => rfl) (fun vs wx hG hv hd => ⟨hG, rfl⟩)
      have h0 : vs 6 = Value.bool false := by first | exact hd.1 | exact hd.2.1 | exact hd.2.2.1 | exact hd.2.2.2.1 | exact hd.2.2.2.2.1
      simp [Region.wanted, yielded, h0]
    · refine RF.Step.skip rfl (fun vs wx hG hv hd => ?_) (fun _ => rfl) (fun vs wx hG hv hd => ⟨hG, rfl⟩)
      have h0 : vs 6 = Value.bool false := by first | exact hd.1 | exact hd.2.1 | exact hd.2.2.1 | exact hd.2.2.2.1 | exact hd.2.2.2.2.1
      simp [Region.wanted, yielded, h0]
    · refine RF.Step.skip rfl (fun vs wx hG hv hd => ?_) (fun _ => rfl) (fun vs wx hG hv hd => ⟨hG, rfl⟩)
      have h0 : vs 6 = Value.bool false := by first | exact hd.1 | exact hd.2.1 | exact hd.2.2.1 | exact hd.2.2.2.1 | exact hd.2.2.2.2.1
      simp [Region.wanted, yielded, h0]
    · refine RF.Step.skip rfl (fun vs wx hG hv hd => ?_) (fun _ => rfl) (fun vs wx hG hv hd => ⟨hG, rfl⟩)
      have h0 : vs 6 = Value.bool false := by first | exact hd.1 | exact hd.2.1 | exact hd.2.2.1 | exact hd.2.2.2.1 | exact hd.2.2.2.2.1
      simp [Region.wanted, yielded, h0]
    · refine RF.Step.skip rfl (fun vs wx hG hv hd => ?_) (fun _ => rfl) (fun vs wx hG hv hd => ⟨hG, rfl⟩)
      have h0 : vs 6 = Value.bool false := by first | exact hd.1 | exact hd.2.1 | exact hd.2.2.1 | exact hd.2.2.2.1 | exact hd.2.2.2.2.1
      simp [Region.wanted, yielded, h0]
    · refine RF.Step.skip rfl (fun vs wx hG hv hd => ?_) (fun _ => rfl) (fun vs wx hG hv hd => ⟨hG, rfl⟩)
      have h0 : vs 6 = Value.bool false := by first | exact hd.1 | exact hd.2.1 | exact hd.2.2.1 | exact hd.2.2.2.1 | exact hd.2.2.2.2.1
      simp [Region.wanted, yielded, h0]
    · refine RF.Step.skip rfl (fun vs wx hG hv hd => ?_) (fun _ => rfl) (fun vs wx hG hv hd => ⟨hG, rfl⟩)
      have h0 : vs 6 = Value.bool false := by first | exact hd.1 | exact hd.2.1 | exact hd.2.2.1 | exact hd.2.2.2.1 | exact hd.2.2.2.2.1
      simp [Region.wanted, yielded, h0]
    · refine RF.Step.guarded rfl (fun vs wx hG hv hd => ?_) (fun vs wx hG hv hd K hK => ?_)
      · have h0 : vs 4 = Value.bool false := by first | exact hd.1 | exact hd.2.1 | exact hd.2.2.1 | exact hd.2.2.2.1 | exact hd.2.2.2.2.1
        simp [Region.wanted, yielded, h0]
      · have h0 : vs 6 = Value.bool false := by first | exact hd.1 | exact hd.2.1 | exact hd.2.2.1 | exact hd.2.2.2.1 | exact hd.2.2.2.2.1
        have h1 : vs 13 = undef := by first | exact hd.1 | exact hd.2.1 | exact hd.2.2.1 | exact hd.2.2.2.1 | exact hd.2.2.2.2.1
        have HG0 := Lib.hid hG
        clear hG
        go_simp
        have h4 := hK _ _ HG0.out rfl (fun _ _ h => h)
        first | exact h4 | (simpa only [RF.upd, h0, h1, Nat.reduceEqDiff, if_true, if_false, reduceIte] using h4) | (simp only [RF.upd, h0, h1, Nat.reduceEqDiff, if_true, if_false, reduceIte] at h4 ⊢; exact h4)
    · refine RF.Step.plain rfl rfl (fun vs wx hG hv hd K hK => ?_)
      have h0 : vs 4 = Value.bool false := by first | exact hd.1 | exact hd.2.1 | exact hd.2.2.1 | exact hd.2.2.2.1 | exact hd.2.2.2.2.1
      have h1 : vs 14 = Value.bool false := by first | exact hd.1 | exact hd.2.1 | exact hd.2.2.1 | exact hd.2.2.2.1 | exact hd.2.2.2.2.1
      have HG0 := Lib.hid hG
      clear hG
      go_simp
      have h4 := hK _ _ HG0.out rfl (fun _ _ h => h)
      first | exact h4 | (simpa only [RF.upd, h0, h1, Nat.reduceEqDiff, if_true, if_false, reduceIte] using h4) | (simp only [RF.upd, h0, h1, Nat.reduceEqDiff, if_true, if_false, reduceIte] at h4 ⊢; exact h4)
  · intro vsA wA hG hF
    have hz : vsA 15 = Value.bool false := hF 15 (by decide)
    have HXA := Lib.hid (HXx4.out.trans hG)
    have HL_A := Lib.hid (HL_4.out.ext_no hG)
    have HOKX_A := Lib.hid (HOKX_4.out.ext_no hG)
    have HOKY_A := Lib.hid (HOKY_4.out.ext_no hG)
    have HBX_A := Lib.hid (HBX_4.out.ext_no hG)
    rw [hz]
    clear hF hG hz
    go_wp2_with (first
      | (go_at_call 29; (with_reducible refine (rThere_any _ ls W.heap.size _ HL_A.out (by omega)).mono ?_); rintro e_ w11 ⟨rfl, hx⟩; have HL_11 := Lib.hid (HL_A.out.ext_no hx); have HOKX_11 := Lib.hid (HOKX_A.out.ext_no hx); have HOKY_11 := Lib.hid (HOKY_A.out.ext_no hx); have HBX_11 := Lib.hid (HBX_A.out.ext_no hx); have HXx11 := Lib.hid (HXA.out.trans hx); rw [HGY.out, HGZ.out]; clear hx)
      | ((with_reducible show wpList _ _ _ (⟨none, .store 55 (.tmp 16) (.tmp 50), _, _, _, _⟩ :: _) _ _); go_must ((change wpList _ _ _ _ _ (w11.alloc (.cells Vr.zero.cs.toArray 55))); refine store_blk (cs' := y.cs.toArray) 55 (.tmp 16) (.tmp 50) rfl rfl (Blk.new w11 55 Vr.zero.cs.toArray) rfl rfl rfl size_ver (cs_one' y) ?_); intro w12 hb hx; have hxx : Ext No w11 w12 := ((Ext.refl No w11).alloc _).transS hx (fun i hi e => by have e : i = w11.heap.size := e; omega); have HL_12 := Lib.hid (HL_11.out.ext_no hxx); have HOKX_12 := Lib.hid (HOKX_11.out.ext_no hxx); have HOKY_12 := Lib.hid (HOKY_11.out.ext_no hxx); have HBX_12 := Lib.hid (HBX_11.out.ext_no hxx); have HXx12 := Lib.hid (HXx11.out.trans hxx); have HBY_12 := Lib.hid hb; clear hb hx hxx))
    refine RF.region (vs := fun _ => undef) rfl (fun vs => ((Value.slice (some ⟨b, o, none⟩) ls.length c) :: (Value.int .i64 id) :: (Value.int .i64 now) :: (Value.int .i64 ut) :: (Value.int .i64 fr) :: (Value.int .i64 tt) :: undef :: undef :: undef :: undef :: undef :: undef :: (Value.bool false) :: (Value.pointer (some ⟨w2.heap.size, 0, none⟩)) :: (Value.bool false) :: (Value.int .i64 (-1)) :: (Value.pointer (some ⟨w11.heap.size, 0, none⟩)) :: (Value.bool true) :: (Value.slice (some ⟨b, o, none⟩) ls.length c) :: (Value.bool true) :: (Value.bool false) :: undef :: (Value.tuple #[Value.agg x.cs.toArray, Value.bool false]) :: (Value.slice (some ⟨b, o, none⟩) ls.length c) :: (Value.int .i64 id) :: (Value.tuple #[Value.agg x.cs.toArray, Value.bool false]) :: (Value.agg x.cs.toArray) :: (Value.bool false) :: (Value.slice (some ⟨b, o, none⟩) ls.length c) :: (Value.int .i64 id) :: (Value.int .i64 (-1)) :: (vsA 0) :: (vsA 1) :: (vsA 2) :: (vsA 3) :: (vsA 4) :: (vsA 5) :: (vsA 6) :: (vsA 7) :: (vsA 8) :: (vsA 9) :: (vsA 10) :: (vsA 11) :: (vsA 12) :: (vsA 13) :: (vsA 14) :: (Value.bool false) :: (Value.tuple #[Value.agg y.cs.toArray, Value.bool true]) :: (Value.slice (some ⟨b, o, none⟩) ls.length c) :: (Value.tuple #[Value.agg y.cs.toArray, Value.bool true]) :: (Value.agg y.cs.toArray) :: (Value.bool true) :: (vs 0) :: (vs 1) :: (vs 2) :: (vs 3) :: (vs 4) :: (vs 5) :: (vs 6) :: (vs 7) :: (vs 8) :: (vs 9) :: (vs 10) :: (vs 11) :: (vs 12) :: (vs 13) :: (vs 14) :: (vs 15) :: (vs 16) :: (vs 17) :: (vs 18) :: (vs 19) :: (vs 20) :: (vs 21) :: (vs 22) :: undef :: undef :: undef :: undef :: undef :: undef :: undef :: undef :: undef :: undef :: undef :: undef :: undef :: undef :: undef :: undef :: undef :: undef :: undef :: undef :: undef :: undef :: undef :: undef :: undef :: undef :: undef :: undef :: undef :: undef :: undef :: undef :: undef :: undef :: undef :: undef :: []).toArray)
      (fun j v _ => v = V8pk1 ls y none b o c 0 j) (fun _ wz => Ext No w12 wz) rfl (by kernel_rfl) ?_ ?_ ?_
    · exact (Ext.refl No w12).drew
    · refine ⟨⟨⟨⟨⟨⟨⟨⟨⟨⟨⟨⟨⟨⟨⟨⟨⟨⟨⟨⟨⟨⟨⟨trivial, ?_⟩, ?_⟩, ?_⟩, ?_⟩, ?_⟩, ?_⟩, ?_⟩, ?_⟩, ?_⟩, ?_⟩, ?_⟩, ?_⟩, ?_⟩, ?_⟩, ?_⟩, ?_⟩, ?_⟩, ?_⟩, ?_⟩, ?_⟩, ?_⟩, ?_⟩, ?_⟩
      · refine RF.Step.plain rfl rfl (fun vs wx hG hv hd K hK => ?_)
        have HG0 := Lib.hid hG
        clear hG
        go_simp
        have h4 := hK _ _ HG0.out rfl (fun _ _ h => h)
        first | exact h4 | (simpa only [RF.upd, Nat.reduceEqDiff, if_true, if_false, reduceIte] using h4) | (simp only [RF.upd, Nat.reduceEqDiff, if_true, if_false, reduceIte] at h4 ⊢; exact h4)
      · refine RF.Step.plain rfl rfl (fun vs wx hG hv hd K hK => ?_)
        have HG0 := Lib.hid hG
        clear hG
        go_simp
        have h4 := hK _ _ HG0.out rfl (fun _ _ h => h)
        first | exact h4 | (simpa only [RF.upd, Nat.reduceEqDiff, if_true, if_false, reduceIte] using h4) | (simp only [RF.upd, Nat.reduceEqDiff, if_true, if_false, reduceIte] at h4 ⊢; exact h4)
      · refine RF.Step.plain rfl rfl (fun vs wx hG hv hd K hK => ?_)
        have h0 : vs 1 = Value.slice (some ⟨b, o, none⟩) ls.length c := by first | exact hd.1 | exact hd.2.1 | exact hd.2.2.1 | exact hd.2.2.2.1 | exact hd.2.2.2.2.1
        have HG0 := Lib.hid hG
        clear hG
        go_simp
        have h4 := hK _ _ HG0.out rfl (fun _ _ h => h)
        first | exact h4 | (simpa only [RF.upd, h0, Nat.reduceEqDiff, if_true, if_false, reduceIte] using h4) | (simp only [RF.upd, h0, Nat.reduceEqDiff, if_true, if_false, reduceIte] at h4 ⊢; exact h4)
      · refine RF.Step.plain rfl rfl (fun vs wx hG hv hd K hK => ?_)
        have h0 : vs 2 = Value.int .i64 (ls.length : Int) := by first | exact hd.1 | exact hd.2.1 | exact hd.2.2.1 | exact hd.2.2.2.1 | exact hd.2.2.2.2.1
        have HG0 := Lib.hid hG
        clear hG
        go_simp
        have h4 := hK _ _ HG0.out rfl (fun _ _ h => h)
        first | exact h4 | (simpa only [RF.upd, h0, Nat.reduceEqDiff, if_true, if_false, reduceIte] using h4) | (simp only [RF.upd, h0, Nat.reduceEqDiff, if_true, if_false, reduceIte] at h4 ⊢; exact h4)
      · refine RF.Step.plain rfl rfl (fun vs wx hG hv hd K hK => ?_)
        have h0 : vs 3 = Value.bool true := by first | exact hd.1 | exact hd.2.1 | exact hd.2.2.1 | exact hd.2.2.2.1 | exact hd.2.2.2.2.1
        have HG0 := Lib.hid hG
        clear hG
        go_simp
        have h4 := hK _ _ HG0.out rfl (fun _ _ h => h)
        first | exact h4 | (simpa only [RF.upd, h0, Nat.reduceEqDiff, if_true, if_false, reduceIte] using h4) | (simp only [RF.upd, h0, Nat.reduceEqDiff, if_true, if_false, reduceIte] at h4 ⊢; exact h4)
      · refine RF.Step.guarded rfl (fun vs wx hG hv hd => ?_) (fun vs wx hG hv hd K hK => ?_)
        · have h0 : vs 4 = Value.bool true := by first | exact hd.1 | exact hd.2.1 | exact hd.2.2.1 | exact hd.2.2.2.1 | exact hd.2.2.2.2.1
          simp [Region.wanted, yielded, h0]
        · have HG0 := Lib.hid hG
          clear hG
          go_simp
          have h4 := hK _ _ HG0.out rfl (fun _ _ h => h)
          first | exact h4 | (simpa only [RF.upd, Nat.reduceEqDiff, if_true, if_false, reduceIte] using h4) | (simp only [RF.upd, Nat.reduceEqDiff, if_true, if_false, reduceIte] at h4 ⊢; exact h4)
      · refine RF.Step.guarded rfl (fun vs wx hG hv hd => ?_) (fun vs wx hG hv hd K hK => ?_)
        · have h0 : vs 4 = Value.bool true := by first | exact hd.1 | exact hd.2.1 | exact hd.2.2.1 | exact hd.2.2.2.1 | exact hd.2.2.2.2.1
          simp [Region.wanted, yielded, h0]
        · have h0 : vs 5 = Value.slice (some ⟨b, o, none⟩) ls.length c := by first | exact hd.1 | exact hd.2.1 | exact hd.2.2.1 | exact hd.2.2.2.1 | exact hd.2.2.2.2.1
          have HG0 := Lib.hid hG
          clear hG
          go_simp
          have h4 := hK _ _ HG0.out rfl (fun _ _ h => h)
          first | exact h4 | (simpa only [RF.upd, h0, Nat.reduceEqDiff, if_true, if_false, reduceIte] using h4) | (simp only [RF.upd, h0, Nat.reduceEqDiff, if_true, if_false, reduceIte] at h4 ⊢; exact h4)
      · refine RF.Step.guarded rfl (fun vs wx hG hv hd => ?_) (fun vs wx hG hv hd K hK => ?_)
        · have h0 : vs 4 = Value.bool true := by first | exact hd.1 | exact hd.2.1 | exact hd.2.2.1 | exact hd.2.2.2.1 | exact hd.2.2.2.2.1
          simp [Region.wanted, yielded, h0]
        · have h0 : vs 6 = Value.pointer (some ⟨b, o, none⟩) := by first | exact hd.1 | exact hd.2.1 | exact hd.2.2.1 | exact hd.2.2.2.1 | exact hd.2.2.2.2.1
          have HG0 := Lib.hid hG
          clear hG
          go_simp
          have h4 := hK _ _ HG0.out rfl (fun _ _ h => h)
          first | exact h4 | (simpa only [RF.upd, h0, Nat.reduceEqDiff, if_true, if_false, reduceIte] using h4) | (simp only [RF.upd, h0, Nat.reduceEqDiff, if_true, if_false, reduceIte] at h4 ⊢; exact h4)
      · refine RF.Step.guarded rfl (fun vs wx hG hv hd => ?_) (fun vs wx hG hv hd K hK => ?_)
        · have h0 : vs 4 = Value.bool true := by first | exact hd.1 | exact hd.2.1 | exact hd.2.2.1 | exact hd.2.2.2.1 | exact hd.2.2.2.2.1
          simp [Region.wanted, yielded, h0]
        · have h0 : vs 7 = Value.pointer (some ⟨b, o + 2, none⟩) := by first | exact hd.1 | exact hd.2.1 | exact hd.2.2.1 | exact hd.2.2.2.1 | exact hd.2.2.2.2.1
          have q2 : wx.cell? ⟨b, o + 2, none⟩ = some (.bool y.mrk) := (HE0.out wx (HXx12.out.trans hG)) 2 _ rfl
          rw [HMK.out] at q2
          have HG0 := Lib.hid hG
          clear hG
          go_simp
          have h4 := hK _ _ HG0.out rfl (fun _ _ h => h)
          first | exact h4 | (simpa only [RF.upd, h0, Nat.reduceEqDiff, if_true, if_false, reduceIte] using h4) | (simp only [RF.upd, h0, Nat.reduceEqDiff, if_true, if_false, reduceIte] at h4 ⊢; exact h4)
      · refine RF.Step.guarded rfl (fun vs wx hG hv hd => ?_) (fun vs wx hG hv hd K hK => ?_)
        · have h0 : vs 4 = Value.bool true := by first | exact hd.1 | exact hd.2.1 | exact hd.2.2.1 | exact hd.2.2.2.1 | exact hd.2.2.2.2.1
          simp [Region.wanted, yielded, h0]
        · have h0 : vs 8 = Value.bool false := by first | exact hd.1 | exact hd.2.1 | exact hd.2.2.1 | exact hd.2.2.2.1 | exact hd.2.2.2.2.1
          have HG0 := Lib.hid hG
          clear hG
          go_simp
          have h4 := hK _ _ HG0.out rfl (fun _ _ h => h)
          first | exact h4 | (simpa only [RF.upd, h0, Nat.reduceEqDiff, if_true, if_false, reduceIte] using h4) | (simp only [RF.upd, h0, Nat.reduceEqDiff, if_true, if_false, reduceIte] at h4 ⊢; exact h4)
      · refine RF.Step.plain rfl rfl (fun vs wx hG hv hd K hK => ?_)
        have h0 : vs 4 = Value.bool true := by first | exact hd.1 | exact hd.2.1 | exact hd.2.2.1 | exact hd.2.2.2.1 | exact hd.2.2.2.2.1
        have h1 : vs 9 = Value.bool true := by first | exact hd.1 | exact hd.2.1 | exact hd.2.2.1 | exact hd.2.2.2.1 | exact hd.2.2.2.2.1
        have HG0 := Lib.hid hG
        clear hG
        go_simp
        have h4 := hK _ _ HG0.out rfl (fun _ _ h => h)
        first | exact h4 | (simpa only [RF.upd, h0, h1, Nat.reduceEqDiff, if_true, if_false, reduceIte] using h4) | (simp only [RF.upd, h0, h1, Nat.reduceEqDiff, if_true, if_false, reduceIte] at h4 ⊢; exact h4)
      · refine RF.Step.plain rfl rfl (fun vs wx hG hv hd K hK => ?_)
        have h0 : vs 0 = Value.bool true := by first | exact hd.1 | exact hd.2.1 | exact hd.2.2.1 | exact hd.2.2.2.1 | exact hd.2.2.2.2.1
        have h1 : vs 10 = Value.bool true := by first | exact hd.1 | exact hd.2.1 | exact hd.2.2.1 | exact hd.2.2.2.1 | exact hd.2.2.2.2.1
        have HG0 := Lib.hid hG
        clear hG
        go_simp
        have h4 := hK _ _ HG0.out rfl (fun _ _ h => h)
        first | exact h4 | (simpa only [RF.upd, h0, h1, Nat.reduceEqDiff, if_true, if_false, reduceIte] using h4) | (simp only [RF.upd, h0, h1, Nat.reduceEqDiff, if_true, if_false, reduceIte] at h4 ⊢; exact h4)
      · refine RF.Step.plain rfl rfl (fun vs wx hG hv hd K hK => ?_)
        have h0 : vs 11 = Value.bool false := by first | exact hd.1 | exact hd.2.1 | exact hd.2.2.1 | exact hd.2.2.2.1 | exact hd.2.2.2.2.1
        have HG0 := Lib.hid hG
        clear hG
        go_simp
        have h4 := hK _ _ HG0.out rfl (fun _ _ h => h)
        first | exact h4 | (simpa only [RF.upd, h0, Nat.reduceEqDiff, if_true, if_false, reduceIte] using h4) | (simp only [RF.upd, h0, Nat.reduceEqDiff, if_true, if_false, reduceIte] at h4 ⊢; exact h4)
      · refine RF.Step.guarded rfl (fun vs wx hG hv hd => ?_) (fun vs wx hG hv hd K hK => ?_)
        · have h0 : vs 12 = Value.bool false := by first | exact hd.1 | exact hd.2.1 | exact hd.2.2.1 | exact hd.2.2.2.1 | exact hd.2.2.2.2.1
          simp [Region.wanted, yielded, h0]
        · have HG0 := Lib.hid hG
          clear hG
          go_simp
          have h4 := hK _ _ HG0.out rfl (fun _ _ h => h)
          first | exact h4 | (simpa only [RF.upd, Nat.reduceEqDiff, if_true, if_false, reduceIte] using h4) | (simp only [RF.upd, Nat.reduceEqDiff, if_true, if_false, reduceIte] at h4 ⊢; exact h4)
      · refine RF.Step.guarded rfl (fun vs wx hG hv hd => ?_) (fun vs wx hG hv hd K hK => ?_)
        · have h0 : vs 12 = Value.bool false := by first | exact hd.1 | exact hd.2.1 | exact hd.2.2.1 | exact hd.2.2.2.1 | exact hd.2.2.2.2.1
          simp [Region.wanted, yielded, h0]
        · have h0 : vs 13 = Value.bool true := by first | exact hd.1 | exact hd.2.1 | exact hd.2.2.1 | exact hd.2.2.2.1 | exact hd.2.2.2.2.1
          have HG0 := Lib.hid hG
          clear hG
          go_simp
          have h4 := hK _ _ HG0.out rfl (fun _ _ h => h)
          first | exact h4 | (simpa only [RF.upd, h0, Nat.reduceEqDiff, if_true, if_false, reduceIte] using h4) | (simp only [RF.upd, h0, Nat.reduceEqDiff, if_true, if_false, reduceIte] at h4 ⊢; exact h4)
      · refine RF.Step.guarded rfl (fun vs wx hG hv hd => ?_) (fun vs wx hG hv hd K hK => ?_)
        · have h0 : vs 14 = Value.bool true := by first | exact hd.1 | exact hd.2.1 | exact hd.2.2.1 | exact hd.2.2.2.1 | exact hd.2.2.2.2.1
          simp [Region.wanted, yielded, h0]
        · refine wp_load_row 55 (.tmp 16) rfl _ (by first | rfl | exact h0) _ _ _ _ (HBY_12.out.ext_no hG) Try.underlying55 rfl size_ver ?_
          exact hK _ _ hG rfl (fun _ _ h => h)
      · refine RF.Step.guarded rfl (fun vs wx hG hv hd => ?_) (fun vs wx hG hv hd K hK => ?_)
        · have h0 : vs 14 = Value.bool true := by first | exact hd.1 | exact hd.2.1 | exact hd.2.2.1 | exact hd.2.2.2.1 | exact hd.2.2.2.2.1
          simp [Region.wanted, yielded, h0]
        · have HG0 := Lib.hid hG
          clear hG
          go_simp
          have h4 := hK _ _ HG0.out rfl (fun _ _ h => h)
          first | exact h4 | (simpa only [RF.upd, Nat.reduceEqDiff, if_true, if_false, reduceIte] using h4) | (simp only [RF.upd, Nat.reduceEqDiff, if_true, if_false, reduceIte] at h4 ⊢; exact h4)
      · refine RF.Step.guarded rfl (fun vs wx hG hv hd => ?_) (fun vs wx hG hv hd K hK => ?_)
        · have h0 : vs 14 = Value.bool true := by first | exact hd.1 | exact hd.2.1 | exact hd.2.2.1 | exact hd.2.2.2.1 | exact hd.2.2.2.2.1
          simp [Region.wanted, yielded, h0]
        · have h0 : vs 16 = Value.slice (some ⟨b, o, none⟩) ls.length c := by first | exact hd.1 | exact hd.2.1 | exact hd.2.2.1 | exact hd.2.2.2.1 | exact hd.2.2.2.2.1
          have HG0 := Lib.hid hG
          clear hG
          go_simp
          have h4 := hK _ _ HG0.out rfl (fun _ _ h => h)
          first | exact h4 | (simpa only [RF.upd, h0, Nat.reduceEqDiff, if_true, if_false, reduceIte] using h4) | (simp only [RF.upd, h0, Nat.reduceEqDiff, if_true, if_false, reduceIte] at h4 ⊢; exact h4)
      · refine RF.Step.guarded rfl (fun vs wx hG hv hd => ?_) (fun vs wx hG hv hd K hK => ?_)
        · have h0 : vs 14 = Value.bool true := by first | exact hd.1 | exact hd.2.1 | exact hd.2.2.1 | exact hd.2.2.2.1 | exact hd.2.2.2.2.1
          simp [Region.wanted, yielded, h0]
        · have h0 : vs 17 = Value.pointer (some ⟨b, o, none⟩) := by first | exact hd.1 | exact hd.2.1 | exact hd.2.2.1 | exact hd.2.2.2.1 | exact hd.2.2.2.2.1
          refine wp_load_mid 55 (.tmp 69) rfl (b) (o) (by show vs 17 = _; exact h0) y.cs _ (HE0.out wx (HXx12.out.trans hG)) Try.underlying55 rfl size_ver ?_
          exact hK _ _ hG rfl (fun _ _ h => h)
      · refine RF.Step.guarded rfl (fun vs wx hG hv hd => ?_) (fun vs wx hG hv hd K hK => ?_)
        · have h0 : vs 14 = Value.bool true := by first | exact hd.1 | exact hd.2.1 | exact hd.2.2.1 | exact hd.2.2.2.1 | exact hd.2.2.2.2.1
          simp [Region.wanted, yielded, h0]
        · have h0 : vs 15 = Value.agg y.cs.toArray := by first | exact hd.1 | exact hd.2.1 | exact hd.2.2.1 | exact hd.2.2.2.1 | exact hd.2.2.2.2.1
          have h1 : vs 18 = Value.agg y.cs.toArray := by first | exact hd.1 | exact hd.2.1 | exact hd.2.2.1 | exact hd.2.2.2.1 | exact hd.2.2.2.2.1
          go_simp
          refine (sVer_self y W.heap.size wx (HOKY_12.out.ext_no hG)).mono ?_
          rintro e w' ⟨rfl, hx⟩
          have h4 := hK _ _ (Ext.trans hG hx) rfl (fun _ _ h => h)
          first | exact h4 | (simpa only [RF.upd, h0, h1, Nat.reduceEqDiff, if_true, if_false, reduceIte] using h4) | (simp only [RF.upd, h0, h1, Nat.reduceEqDiff, if_true, if_false, reduceIte] at h4 ⊢; exact h4)
      · refine RF.Step.guarded rfl (fun vs wx hG hv hd => ?_) (fun vs wx hG hv hd K hK => ?_)
        · have h0 : vs 14 = Value.bool true := by first | exact hd.1 | exact hd.2.1 | exact hd.2.2.1 | exact hd.2.2.2.1 | exact hd.2.2.2.2.1
          simp [Region.wanted, yielded, h0]
        · have h0 : vs 19 = Value.bool true := by first | exact hd.1 | exact hd.2.1 | exact hd.2.2.1 | exact hd.2.2.2.1 | exact hd.2.2.2.2.1
          have HG0 := Lib.hid hG
          clear hG
          go_simp
          have h4 := hK _ _ HG0.out rfl (fun _ _ h => h)
          first | exact h4 | (simpa only [RF.upd, h0, Nat.reduceEqDiff, if_true, if_false, reduceIte] using h4) | (simp only [RF.upd, h0, Nat.reduceEqDiff, if_true, if_false, reduceIte] at h4 ⊢; exact h4)
      · refine RF.Step.guarded rfl (fun vs wx hG hv hd => ?_) (fun vs wx hG hv hd K hK => ?_)
        · have h0 : vs 12 = Value.bool false := by first | exact hd.1 | exact hd.2.1 | exact hd.2.2.1 | exact hd.2.2.2.1 | exact hd.2.2.2.2.1
          simp [Region.wanted, yielded, h0]
        · have h0 : vs 14 = Value.bool true := by first | exact hd.1 | exact hd.2.1 | exact hd.2.2.1 | exact hd.2.2.2.1 | exact hd.2.2.2.2.1
          have h1 : vs 20 = Value.bool false := by first | exact hd.1 | exact hd.2.1 | exact hd.2.2.1 | exact hd.2.2.2.1 | exact hd.2.2.2.2.1
          have HG0 := Lib.hid hG
          clear hG
          go_simp
          have h4 := hK _ _ HG0.out rfl (fun _ _ h => h)
          first | exact h4 | (simpa only [RF.upd, h0, h1, Nat.reduceEqDiff, if_true, if_false, reduceIte] using h4) | (simp only [RF.upd, h0, h1, Nat.reduceEqDiff, if_true, if_false, reduceIte] at h4 ⊢; exact h4)
      · refine RF.Step.plain rfl rfl (fun vs wx hG hv hd K hK => ?_)
        have h0 : vs 12 = Value.bool false := by first | exact hd.1 | exact hd.2.1 | exact hd.2.2.1 | exact hd.2.2.2.1 | exact hd.2.2.2.2.1
        have h1 : vs 21 = Value.bool false := by first | exact hd.1 | exact hd.2.1 | exact hd.2.2.1 | exact hd.2.2.2.1 | exact hd.2.2.2.2.1
        have HG0 := Lib.hid hG
        clear hG
        go_simp
        have h4 := hK _ _ HG0.out rfl (fun _ _ h => h)
        first | exact h4 | (simpa only [RF.upd, h0, h1, Nat.reduceEqDiff, if_true, if_false, reduceIte] using h4) | (simp only [RF.upd, h0, h1, Nat.reduceEqDiff, if_true, if_false, reduceIte] at h4 ⊢; exact h4)
    · intro vsB wB hG hF
      have hz : vsB 22 = Value.bool false := hF 22 (by decide)
      have HXB := Lib.hid (HXx12.out.trans hG)
      have HBX_B := Lib.hid (HBX_12.out.ext_no hG)
      rw [hz]
      clear hF hG hz
      go_wp2_with fail
      refine RF.region (vs := fun | 36 => Value.bool false | _ => undef) rfl (fun vs => ((Value.slice (some ⟨b, o, none⟩) ls.length c) :: (Value.int .i64 id) :: (Value.int .i64 now) :: (Value.int .i64 ut) :: (Value.int .i64 fr) :: (Value.int .i64 tt) :: undef :: undef :: undef :: undef :: undef :: undef :: (vs 36) :: (Value.pointer (some ⟨w2.heap.size, 0, none⟩)) :: (Value.bool false) :: (Value.int .i64 (-1)) :: (Value.pointer (some ⟨w11.heap.size, 0, none⟩)) :: (Value.bool true) :: (Value.slice (some ⟨b, o, none⟩) ls.length c) :: (Value.bool true) :: (Value.bool false) :: undef :: (Value.tuple #[Value.agg x.cs.toArray, Value.bool false]) :: (Value.slice (some ⟨b, o, none⟩) ls.length c) :: (Value.int .i64 id) :: (Value.tuple #[Value.agg x.cs.toArray, Value.bool false]) :: (Value.agg x.cs.toArray) :: (Value.bool false) :: (Value.slice (some ⟨b, o, none⟩) ls.length c) :: (Value.int .i64 id) :: (Value.int .i64 (-1)) :: (vsA 0) :: (vsA 1) :: (vsA 2) :: (vsA 3) :: (vsA 4) :: (vsA 5) :: (vsA 6) :: (vsA 7) :: (vsA 8) :: (vsA 9) :: (vsA 10) :: (vsA 11) :: (vsA 12) :: (vsA 13) :: (vsA 14) :: (Value.bool false) :: (Value.tuple #[Value.agg y.cs.toArray, Value.bool true]) :: (Value.slice (some ⟨b, o, none⟩) ls.length c) :: (Value.tuple #[Value.agg y.cs.toArray, Value.bool true]) :: (Value.agg y.cs.toArray) :: (Value.bool true) :: (vsB 0) :: (vsB 1) :: (vsB 2) :: (vsB 3) :: (vsB 4) :: (vsB 5) :: (vsB 6) :: (vsB 7) :: (vsB 8) :: (vsB 9) :: (vsB 10) :: (vsB 11) :: (vsB 12) :: (vsB 13) :: (vsB 14) :: (vsB 15) :: (vsB 16) :: (vsB 17) :: (vsB 18) :: (vsB 19) :: (vsB 20) :: (vsB 21) :: (Value.bool false) :: (vs 0) :: (vs 1) :: (vs 2) :: (vs 3) :: (vs 4) :: (vs 5) :: (vs 6) :: (vs 7) :: (vs 8) :: (vs 9) :: (vs 10) :: (vs 11) :: (vs 12) :: (vs 13) :: (vs 14) :: (vs 15) :: (vs 16) :: (vs 17) :: (vs 18) :: (vs 19) :: (vs 20) :: (vs 21) :: (vs 22) :: (vs 23) :: (vs 24) :: (vs 25) :: (vs 26) :: (vs 27) :: (vs 28) :: (vs 29) :: (vs 30) :: (vs 31) :: (vs 32) :: (vs 33) :: (vs 34) :: (vs 35) :: []).toArray)
        (fun j v _ => v = V10pk1 x now ut fr tt w2.heap.size j) (fun _ wz => Ext No wB wz) rfl (by kernel_rfl) ?_ ?_ ?_
      · exact (Ext.refl No wB).drew
      · refine ⟨⟨⟨⟨⟨⟨⟨⟨⟨⟨⟨⟨⟨⟨⟨⟨⟨⟨⟨⟨⟨⟨⟨⟨⟨⟨⟨⟨⟨⟨⟨⟨⟨⟨⟨⟨⟨trivial, ?_⟩, ?_⟩, ?_⟩, ?_⟩, ?_⟩, ?_⟩, ?_⟩, ?_⟩, ?_⟩, ?_⟩, ?_⟩, ?_⟩, ?_⟩, ?_⟩, ?_⟩, ?_⟩, ?_⟩, ?_⟩, ?_⟩, ?_⟩, ?_⟩, ?_⟩, ?_⟩, ?_⟩, ?_⟩, ?_⟩, ?_⟩, ?_⟩, ?_⟩, ?_⟩, ?_⟩, ?_⟩, ?_⟩, ?_⟩, ?_⟩, ?_⟩, ?_⟩
        · refine RF.Step.plain rfl rfl (fun vs wx hG hv hd K hK => ?_)
          refine wp_load_row 55 (.tmp 13) rfl _ (by first | rfl | exact h0) _ _ _ _ (HBX_B.out.ext_no hG) Try.underlying55 rfl size_ver ?_
          exact hK _ _ hG rfl (fun _ _ h => h)
        · refine RF.Step.plain rfl rfl (fun vs wx hG hv hd K hK => ?_)
          have HG0 := Lib.hid hG
          clear hG
          go_simp
          have h4 := hK _ _ HG0.out rfl (fun _ _ h => h)
          first | exact h4 | (simpa only [RF.upd, Nat.reduceEqDiff, if_true, if_false, reduceIte] using h4) | (simp only [RF.upd, Nat.reduceEqDiff, if_true, if_false, reduceIte] at h4 ⊢; exact h4)
        · refine RF.Step.plain rfl rfl (fun vs wx hG hv hd K hK => ?_)
          have h0 : vs 0 = Value.agg x.cs.toArray := by first | exact hd.1 | exact hd.2.1 | exact hd.2.2.1 | exact hd.2.2.2.1 | exact hd.2.2.2.2.1
          have h1 : vs 1 = Value.int .i64 now := by first | exact hd.1 | exact hd.2.1 | exact hd.2.2.1 | exact hd.2.2.2.1 | exact hd.2.2.2.2.1
          go_simp
          refine (rHeld_any x now wx).mono ?_
          rintro e w' ⟨rfl, hx⟩
          have h4 := hK _ _ (Ext.trans hG hx) rfl (fun _ _ h => h)
          first | exact h4 | (simpa only [RF.upd, h0, h1, Nat.reduceEqDiff, if_true, if_false, reduceIte] using h4) | (simp only [RF.upd, h0, h1, Nat.reduceEqDiff, if_true, if_false, reduceIte] at h4 ⊢; exact h4)
        · refine RF.Step.plain rfl rfl (fun vs wx hG hv hd K hK => ?_)
          have HG0 := Lib.hid hG
          clear hG
          go_simp
          have h4 := hK _ _ HG0.out rfl (fun _ _ h => h)
          first | exact h4 | (simpa only [RF.upd, Nat.reduceEqDiff, if_true, if_false, reduceIte] using h4) | (simp only [RF.upd, Nat.reduceEqDiff, if_true, if_false, reduceIte] at h4 ⊢; exact h4)
        · refine RF.Step.plain rfl rfl (fun vs wx hG hv hd K hK => ?_)
          have h0 : vs 3 = Value.pointer (some ⟨w2.heap.size, 5, none⟩) := by first | exact hd.1 | exact hd.2.1 | exact hd.2.2.1 | exact hd.2.2.2.1 | exact hd.2.2.2.2.1
          have q5 : wx.cell? ⟨w2.heap.size, 5, none⟩ = some (.int .i64 x.til) := (HBX_B.out.ext_no hG).cell 5
          have HG0 := Lib.hid hG
          clear hG
          go_simp
          have h4 := hK _ _ HG0.out rfl (fun _ _ h => h)
          first | exact h4 | (simpa only [RF.upd, h0, Nat.reduceEqDiff, if_true, if_false, reduceIte] using h4) | (simp only [RF.upd, h0, Nat.reduceEqDiff, if_true, if_false, reduceIte] at h4 ⊢; exact h4)
        · refine RF.Step.plain rfl rfl (fun vs wx hG hv hd K hK => ?_)
          have HG0 := Lib.hid hG
          clear hG
          go_simp
          have h4 := hK _ _ HG0.out rfl (fun _ _ h => h)
          first | exact h4 | (simpa only [RF.upd, Nat.reduceEqDiff, if_true, if_false, reduceIte] using h4) | (simp only [RF.upd, Nat.reduceEqDiff, if_true, if_false, reduceIte] at h4 ⊢; exact h4)
        · refine RF.Step.plain rfl rfl (fun vs wx hG hv hd K hK => ?_)
          have h0 : vs 4 = Value.int .i64 x.til := by first | exact hd.1 | exact hd.2.1 | exact hd.2.2.1 | exact hd.2.2.2.1 | exact hd.2.2.2.2.1
          have h1 : vs 5 = Value.int .i64 now := by first | exact hd.1 | exact hd.2.1 | exact hd.2.2.1 | exact hd.2.2.2.1 | exact hd.2.2.2.2.1
          have HG0 := Lib.hid hG
          clear hG
          go_simp
          have h4 := hK _ _ HG0.out rfl (fun _ _ h => h)
          first | exact h4 | (simpa only [RF.upd, h0, h1, Nat.reduceEqDiff, if_true, if_false, reduceIte] using h4) | (simp only [RF.upd, h0, h1, Nat.reduceEqDiff, if_true, if_false, reduceIte] at h4 ⊢; exact h4)
        · refine RF.Step.plain rfl rfl (fun vs wx hG hv hd K hK => ?_)
          have h0 : vs 2 = Value.bool (heldV x now) := by first | exact hd.1 | exact hd.2.1 | exact hd.2.2.1 | exact hd.2.2.2.1 | exact hd.2.2.2.2.1
          have h1 : vs 6 = Value.bool (decide (now < x.til)) := by first | exact hd.1 | exact hd.2.1 | exact hd.2.2.1 | exact hd.2.2.2.1 | exact hd.2.2.2.2.1
          have hh : (heldV x now == decide (now < x.til)) = true := by simp [heldV]
          have HG0 := Lib.hid hG
          clear hG
          go_simp
          have h4 := hK _ _ HG0.out rfl (fun _ _ h => h)
          first | exact h4 | (simpa only [RF.upd, h0, h1, Nat.reduceEqDiff, if_true, if_false, reduceIte] using h4) | (simp only [RF.upd, h0, h1, Nat.reduceEqDiff, if_true, if_false, reduceIte] at h4 ⊢; exact h4)
        · refine RF.Step.plain rfl rfl (fun vs wx hG hv hd K hK => ?_)
          have h0 : vs 7 = Value.bool true := by first | exact hd.1 | exact hd.2.1 | exact hd.2.2.1 | exact hd.2.2.2.1 | exact hd.2.2.2.2.1
          have HG0 := Lib.hid hG
          clear hG
          go_simp
          have h4 := hK _ _ HG0.out rfl (fun _ _ h => h)
          first | exact h4 | (simpa only [RF.upd, h0, Nat.reduceEqDiff, if_true, if_false, reduceIte] using h4) | (simp only [RF.upd, h0, Nat.reduceEqDiff, if_true, if_false, reduceIte] at h4 ⊢; exact h4)
        · refine RF.Step.guarded rfl (fun vs wx hG hv hd => ?_) (fun vs wx hG hv hd K hK => ?_)
          · have h0 : vs 8 = Value.bool true := by first | exact hd.1 | exact hd.2.1 | exact hd.2.2.1 | exact hd.2.2.2.1 | exact hd.2.2.2.2.1
            simp [Region.wanted, yielded, h0]
          · refine wp_load_row 55 (.tmp 13) rfl _ (by first | rfl | exact h0) _ _ _ _ (HBX_B.out.ext_no hG) Try.underlying55 rfl size_ver ?_
            exact hK _ _ hG rfl (fun _ _ h => h)
        · refine RF.Step.guarded rfl (fun vs wx hG hv hd => ?_) (fun vs wx hG hv hd K hK => ?_)
          · have h0 : vs 8 = Value.bool true := by first | exact hd.1 | exact hd.2.1 | exact hd.2.2.1 | exact hd.2.2.2.1 | exact hd.2.2.2.2.1
            simp [Region.wanted, yielded, h0]
          · have HG0 := Lib.hid hG
            clear hG
            go_simp
            have h4 := hK _ _ HG0.out rfl (fun _ _ h => h)
            first | exact h4 | (simpa only [RF.upd, Nat.reduceEqDiff, if_true, if_false, reduceIte] using h4) | (simp only [RF.upd, Nat.reduceEqDiff, if_true, if_false, reduceIte] at h4 ⊢; exact h4)
        · refine RF.Step.guarded rfl (fun vs wx hG hv hd => ?_) (fun vs wx hG hv hd K hK => ?_)
          · have h0 : vs 8 = Value.bool true := by first | exact hd.1 | exact hd.2.1 | exact hd.2.2.1 | exact hd.2.2.2.1 | exact hd.2.2.2.2.1
            simp [Region.wanted, yielded, h0]
          · have h0 : vs 9 = Value.agg x.cs.toArray := by first | exact hd.1 | exact hd.2.1 | exact hd.2.2.1 | exact hd.2.2.2.1 | exact hd.2.2.2.2.1
            have h1 : vs 10 = Value.int .i64 ut := by first | exact hd.1 | exact hd.2.1 | exact hd.2.2.1 | exact hd.2.2.2.1 | exact hd.2.2.2.2.1
            go_simp
            refine (rHold_any x ut wx).mono ?_
            rintro e w' ⟨rfl, hx⟩
            have h4 := hK _ _ (Ext.trans hG hx) rfl (fun _ _ h => h)
            first | exact h4 | (simpa only [RF.upd, h0, h1, Nat.reduceEqDiff, if_true, if_false, reduceIte] using h4) | (simp only [RF.upd, h0, h1, Nat.reduceEqDiff, if_true, if_false, reduceIte] at h4 ⊢; exact h4)
        · refine RF.Step.guarded rfl (fun vs wx hG hv hd => ?_) (fun vs wx hG hv hd K hK => ?_)
          · have h0 : vs 8 = Value.bool true := by first | exact hd.1 | exact hd.2.1 | exact hd.2.2.1 | exact hd.2.2.2.1 | exact hd.2.2.2.2.1
            simp [Region.wanted, yielded, h0]
          · refine wp_load_row 55 (.tmp 13) rfl _ (by first | rfl | exact h0) _ _ _ _ (HBX_B.out.ext_no hG) Try.underlying55 rfl size_ver ?_
            exact hK _ _ hG rfl (fun _ _ h => h)
        · refine RF.Step.guarded rfl (fun vs wx hG hv hd => ?_) (fun vs wx hG hv hd K hK => ?_)
          · have h0 : vs 8 = Value.bool true := by first | exact hd.1 | exact hd.2.1 | exact hd.2.2.1 | exact hd.2.2.2.1 | exact hd.2.2.2.2.1
            simp [Region.wanted, yielded, h0]
          · have HG0 := Lib.hid hG
            clear hG
            go_simp
            have h4 := hK _ _ HG0.out rfl (fun _ _ h => h)
            first | exact h4 | (simpa only [RF.upd, Nat.reduceEqDiff, if_true, if_false, reduceIte] using h4) | (simp only [RF.upd, Nat.reduceEqDiff, if_true, if_false, reduceIte] at h4 ⊢; exact h4)
        · refine RF.Step.guarded rfl (fun vs wx hG hv hd => ?_) (fun vs wx hG hv hd K hK => ?_)
          · have h0 : vs 8 = Value.bool true := by first | exact hd.1 | exact hd.2.1 | exact hd.2.2.1 | exact hd.2.2.2.1 | exact hd.2.2.2.2.1
            simp [Region.wanted, yielded, h0]
          · have h0 : vs 12 = Value.agg x.cs.toArray := by first | exact hd.1 | exact hd.2.1 | exact hd.2.2.1 | exact hd.2.2.2.1 | exact hd.2.2.2.2.1
            have h1 : vs 13 = Value.int .i64 ut := by first | exact hd.1 | exact hd.2.1 | exact hd.2.2.1 | exact hd.2.2.2.1 | exact hd.2.2.2.2.1
            go_simp
            refine (rfHold_any x ut wx).mono ?_
            rintro e w' ⟨rfl, hx⟩
            have h4 := hK _ _ (Ext.trans hG hx) rfl (fun _ _ h => h)
            first | exact h4 | (simpa only [RF.upd, h0, h1, Nat.reduceEqDiff, if_true, if_false, reduceIte] using h4) | (simp only [RF.upd, h0, h1, Nat.reduceEqDiff, if_true, if_false, reduceIte] at h4 ⊢; exact h4)
        · refine RF.Step.guarded rfl (fun vs wx hG hv hd => ?_) (fun vs wx hG hv hd K hK => ?_)
          · have h0 : vs 8 = Value.bool true := by first | exact hd.1 | exact hd.2.1 | exact hd.2.2.1 | exact hd.2.2.2.1 | exact hd.2.2.2.2.1
            simp [Region.wanted, yielded, h0]
          · have h0 : vs 11 = Value.int .i64 (holdC x ut) := by first | exact hd.1 | exact hd.2.1 | exact hd.2.2.1 | exact hd.2.2.2.1 | exact hd.2.2.2.2.1
            have h1 : vs 14 = Value.int .i64 (holdC x ut) := by first | exact hd.1 | exact hd.2.1 | exact hd.2.2.1 | exact hd.2.2.2.1 | exact hd.2.2.2.2.1
            have HG0 := Lib.hid hG
            clear hG
            go_simp
            have h4 := hK _ _ HG0.out rfl (fun _ _ h => h)
            first | exact h4 | (simpa only [RF.upd, h0, h1, Nat.reduceEqDiff, if_true, if_false, reduceIte] using h4) | (simp only [RF.upd, h0, h1, Nat.reduceEqDiff, if_true, if_false, reduceIte] at h4 ⊢; exact h4)
        · refine RF.Step.plain rfl rfl (fun vs wx hG hv hd K hK => ?_)
          have h0 : vs 8 = Value.bool true := by first | exact hd.1 | exact hd.2.1 | exact hd.2.2.1 | exact hd.2.2.2.1 | exact hd.2.2.2.2.1
          have h1 : vs 15 = Value.bool true := by first | exact hd.1 | exact hd.2.1 | exact hd.2.2.1 | exact hd.2.2.2.1 | exact hd.2.2.2.2.1
          have HG0 := Lib.hid hG
          clear hG
          go_simp
          have h4 := hK _ _ HG0.out rfl (fun _ _ h => h)
          first | exact h4 | (simpa only [RF.upd, h0, h1, Nat.reduceEqDiff, if_true, if_false, reduceIte] using h4) | (simp only [RF.upd, h0, h1, Nat.reduceEqDiff, if_true, if_false, reduceIte] at h4 ⊢; exact h4)
        · refine RF.Step.plain rfl rfl (fun vs wx hG hv hd K hK => ?_)
          have h0 : vs 16 = Value.bool true := by first | exact hd.1 | exact hd.2.1 | exact hd.2.2.1 | exact hd.2.2.2.1 | exact hd.2.2.2.2.1
          have HG0 := Lib.hid hG
          clear hG
          go_simp
          have h4 := hK _ _ HG0.out rfl (fun _ _ h => h)
          first | exact h4 | (simpa only [RF.upd, h0, Nat.reduceEqDiff, if_true, if_false, reduceIte] using h4) | (simp only [RF.upd, h0, Nat.reduceEqDiff, if_true, if_false, reduceIte] at h4 ⊢; exact h4)
        · refine RF.Step.guarded rfl (fun vs wx hG hv hd => ?_) (fun vs wx hG hv hd K hK => ?_)
          · have h0 : vs 17 = Value.bool true := by first | exact hd.1 | exact hd.2.1 | exact hd.2.2.1 | exact hd.2.2.2.1 | exact hd.2.2.2.2.1
            simp [Region.wanted, yielded, h0]
          · have HG0 := Lib.hid hG
            clear hG
            go_simp
            have h4 := hK _ _ HG0.out rfl (fun _ _ h => h)
            first | exact h4 | (simpa only [RF.upd, Nat.reduceEqDiff, if_true, if_false, reduceIte] using h4) | (simp only [RF.upd, Nat.reduceEqDiff, if_true, if_false, reduceIte] at h4 ⊢; exact h4)
        · refine RF.Step.guarded rfl (fun vs wx hG hv hd => ?_) (fun vs wx hG hv hd K hK => ?_)
          · have h0 : vs 17 = Value.bool true := by first | exact hd.1 | exact hd.2.1 | exact hd.2.2.1 | exact hd.2.2.2.1 | exact hd.2.2.2.2.1
            simp [Region.wanted, yielded, h0]
          · have HG0 := Lib.hid hG
            clear hG
            go_simp
            have h4 := hK _ _ HG0.out rfl (fun _ _ h => h)
            first | exact h4 | (simpa only [RF.upd, Nat.reduceEqDiff, if_true, if_false, reduceIte] using h4) | (simp only [RF.upd, Nat.reduceEqDiff, if_true, if_false, reduceIte] at h4 ⊢; exact h4)
        · refine RF.Step.guarded rfl (fun vs wx hG hv hd => ?_) (fun vs wx hG hv hd K hK => ?_)
          · have h0 : vs 17 = Value.bool true := by first | exact hd.1 | exact hd.2.1 | exact hd.2.2.1 | exact hd.2.2.2.1 | exact hd.2.2.2.2.1
            simp [Region.wanted, yielded, h0]
          · have h0 : vs 18 = Value.int .i64 fr := by first | exact hd.1 | exact hd.2.1 | exact hd.2.2.1 | exact hd.2.2.2.1 | exact hd.2.2.2.2.1
            have h1 : vs 19 = Value.int .i64 tt := by first | exact hd.1 | exact hd.2.1 | exact hd.2.2.1 | exact hd.2.2.2.1 | exact hd.2.2.2.2.1
            go_simp
            refine (rTurn_any fr tt wx).mono ?_
            rintro e w' ⟨rfl, hx⟩
            have h4 := hK _ _ (Ext.trans hG hx) rfl (fun _ _ h => h)
            first | exact h4 | (simpa only [RF.upd, h0, h1, Nat.reduceEqDiff, if_true, if_false, reduceIte] using h4) | (simp only [RF.upd, h0, h1, Nat.reduceEqDiff, if_true, if_false, reduceIte] at h4 ⊢; exact h4)
        · refine RF.Step.guarded rfl (fun vs wx hG hv hd => ?_) (fun vs wx hG hv hd K hK => ?_)
          · have h0 : vs 17 = Value.bool true := by first | exact hd.1 | exact hd.2.1 | exact hd.2.2.1 | exact hd.2.2.2.1 | exact hd.2.2.2.2.1
            simp [Region.wanted, yielded, h0]
          · have HG0 := Lib.hid hG
            clear hG
            go_simp
            have h4 := hK _ _ HG0.out rfl (fun _ _ h => h)
            first | exact h4 | (simpa only [RF.upd, Nat.reduceEqDiff, if_true, if_false, reduceIte] using h4) | (simp only [RF.upd, Nat.reduceEqDiff, if_true, if_false, reduceIte] at h4 ⊢; exact h4)
        · refine RF.Step.guarded rfl (fun vs wx hG hv hd => ?_) (fun vs wx hG hv hd K hK => ?_)
          · have h0 : vs 17 = Value.bool true := by first | exact hd.1 | exact hd.2.1 | exact hd.2.2.1 | exact hd.2.2.2.1 | exact hd.2.2.2.2.1
            simp [Region.wanted, yielded, h0]
          · have HG0 := Lib.hid hG
            clear hG
            go_simp
            have h4 := hK _ _ HG0.out rfl (fun _ _ h => h)
            first | exact h4 | (simpa only [RF.upd, Nat.reduceEqDiff, if_true, if_false, reduceIte] using h4) | (simp only [RF.upd, Nat.reduceEqDiff, if_true, if_false, reduceIte] at h4 ⊢; exact h4)
        · refine RF.Step.guarded rfl (fun vs wx hG hv hd => ?_) (fun vs wx hG hv hd K hK => ?_)
          · have h0 : vs 17 = Value.bool true := by first | exact hd.1 | exact hd.2.1 | exact hd.2.2.1 | exact hd.2.2.2.1 | exact hd.2.2.2.2.1
            simp [Region.wanted, yielded, h0]
          · have h0 : vs 21 = Value.int .i64 fr := by first | exact hd.1 | exact hd.2.1 | exact hd.2.2.1 | exact hd.2.2.2.1 | exact hd.2.2.2.2.1
            have h1 : vs 22 = Value.int .i64 tt := by first | exact hd.1 | exact hd.2.1 | exact hd.2.2.1 | exact hd.2.2.2.1 | exact hd.2.2.2.2.1
            go_simp
            refine (rfTurn_any fr tt wx).mono ?_
            rintro e w' ⟨rfl, hx⟩
            have h4 := hK _ _ (Ext.trans hG hx) rfl (fun _ _ h => h)
            first | exact h4 | (simpa only [RF.upd, h0, h1, Nat.reduceEqDiff, if_true, if_false, reduceIte] using h4) | (simp only [RF.upd, h0, h1, Nat.reduceEqDiff, if_true, if_false, reduceIte] at h4 ⊢; exact h4)
        · refine RF.Step.guarded rfl (fun vs wx hG hv hd => ?_) (fun vs wx hG hv hd K hK => ?_)
          · have h0 : vs 17 = Value.bool true := by first | exact hd.1 | exact hd.2.1 | exact hd.2.2.1 | exact hd.2.2.2.1 | exact hd.2.2.2.2.1
            simp [Region.wanted, yielded, h0]
          · have h0 : vs 20 = Value.int .i64 (turnC fr tt) := by first | exact hd.1 | exact hd.2.1 | exact hd.2.2.1 | exact hd.2.2.2.1 | exact hd.2.2.2.2.1
            have h1 : vs 23 = Value.int .i64 (turnC fr tt) := by first | exact hd.1 | exact hd.2.1 | exact hd.2.2.1 | exact hd.2.2.2.1 | exact hd.2.2.2.2.1
            have HG0 := Lib.hid hG
            clear hG
            go_simp
            have h4 := hK _ _ HG0.out rfl (fun _ _ h => h)
            first | exact h4 | (simpa only [RF.upd, h0, h1, Nat.reduceEqDiff, if_true, if_false, reduceIte] using h4) | (simp only [RF.upd, h0, h1, Nat.reduceEqDiff, if_true, if_false, reduceIte] at h4 ⊢; exact h4)
        · refine RF.Step.plain rfl rfl (fun vs wx hG hv hd K hK => ?_)
          have h0 : vs 17 = Value.bool true := by first | exact hd.1 | exact hd.2.1 | exact hd.2.2.1 | exact hd.2.2.2.1 | exact hd.2.2.2.2.1
          have h1 : vs 24 = Value.bool true := by first | exact hd.1 | exact hd.2.1 | exact hd.2.2.1 | exact hd.2.2.2.1 | exact hd.2.2.2.2.1
          have HG0 := Lib.hid hG
          clear hG
          go_simp
          have h4 := hK _ _ HG0.out rfl (fun _ _ h => h)
          first | exact h4 | (simpa only [RF.upd, h0, h1, Nat.reduceEqDiff, if_true, if_false, reduceIte] using h4) | (simp only [RF.upd, h0, h1, Nat.reduceEqDiff, if_true, if_false, reduceIte] at h4 ⊢; exact h4)
        · refine RF.Step.plain rfl rfl (fun vs wx hG hv hd K hK => ?_)
          have h0 : vs 25 = Value.bool true := by first | exact hd.1 | exact hd.2.1 | exact hd.2.2.1 | exact hd.2.2.2.1 | exact hd.2.2.2.2.1
          have HG0 := Lib.hid hG
          clear hG
          go_simp
          have h4 := hK _ _ HG0.out rfl (fun _ _ h => h)
          first | exact h4 | (simpa only [RF.upd, h0, Nat.reduceEqDiff, if_true, if_false, reduceIte] using h4) | (simp only [RF.upd, h0, Nat.reduceEqDiff, if_true, if_false, reduceIte] at h4 ⊢; exact h4)
        · refine RF.Step.guarded rfl (fun vs wx hG hv hd => ?_) (fun vs wx hG hv hd K hK => ?_)
          · have h0 : vs 26 = Value.bool true := by first | exact hd.1 | exact hd.2.1 | exact hd.2.2.1 | exact hd.2.2.2.1 | exact hd.2.2.2.2.1
            simp [Region.wanted, yielded, h0]
          · refine wp_load_row 55 (.tmp 13) rfl _ (by first | rfl | exact h0) _ _ _ _ (HBX_B.out.ext_no hG) Try.underlying55 rfl size_ver ?_
            exact hK _ _ hG rfl (fun _ _ h => h)
        · refine RF.Step.guarded rfl (fun vs wx hG hv hd => ?_) (fun vs wx hG hv hd K hK => ?_)
          · have h0 : vs 26 = Value.bool true := by first | exact hd.1 | exact hd.2.1 | exact hd.2.2.1 | exact hd.2.2.2.1 | exact hd.2.2.2.2.1
            simp [Region.wanted, yielded, h0]
          · have h0 : vs 27 = Value.agg x.cs.toArray := by first | exact hd.1 | exact hd.2.1 | exact hd.2.2.1 | exact hd.2.2.2.1 | exact hd.2.2.2.2.1
            go_simp
            refine (rId_any x wx).mono ?_
            rintro e w' ⟨rfl, hx⟩
            have h4 := hK _ _ (Ext.trans hG hx) rfl (fun _ _ h => h)
            first | exact h4 | (simpa only [RF.upd, h0, Nat.reduceEqDiff, if_true, if_false, reduceIte] using h4) | (simp only [RF.upd, h0, Nat.reduceEqDiff, if_true, if_false, reduceIte] at h4 ⊢; exact h4)
        · refine RF.Step.guarded rfl (fun vs wx hG hv hd => ?_) (fun vs wx hG hv hd K hK => ?_)
          · have h0 : vs 26 = Value.bool true := by first | exact hd.1 | exact hd.2.1 | exact hd.2.2.1 | exact hd.2.2.2.1 | exact hd.2.2.2.2.1
            simp [Region.wanted, yielded, h0]
          · refine wp_load_row 55 (.tmp 13) rfl _ (by first | rfl | exact h0) _ _ _ _ (HBX_B.out.ext_no hG) Try.underlying55 rfl size_ver ?_
            exact hK _ _ hG rfl (fun _ _ h => h)
        · refine RF.Step.guarded rfl (fun vs wx hG hv hd => ?_) (fun vs wx hG hv hd K hK => ?_)
          · have h0 : vs 26 = Value.bool true := by first | exact hd.1 | exact hd.2.1 | exact hd.2.2.1 | exact hd.2.2.2.1 | exact hd.2.2.2.2.1
            simp [Region.wanted, yielded, h0]
          · have h0 : vs 29 = Value.agg x.cs.toArray := by first | exact hd.1 | exact hd.2.1 | exact hd.2.2.1 | exact hd.2.2.2.1 | exact hd.2.2.2.2.1
            go_simp
            refine (rfId_any x wx).mono ?_
            rintro e w' ⟨rfl, hx⟩
            have h4 := hK _ _ (Ext.trans hG hx) rfl (fun _ _ h => h)
            first | exact h4 | (simpa only [RF.upd, h0, Nat.reduceEqDiff, if_true, if_false, reduceIte] using h4) | (simp only [RF.upd, h0, Nat.reduceEqDiff, if_true, if_false, reduceIte] at h4 ⊢; exact h4)
        · refine RF.Step.guarded rfl (fun vs wx hG hv hd => ?_) (fun vs wx hG hv hd K hK => ?_)
          · have h0 : vs 26 = Value.bool true := by first | exact hd.1 | exact hd.2.1 | exact hd.2.2.1 | exact hd.2.2.2.1 | exact hd.2.2.2.2.1
            simp [Region.wanted, yielded, h0]
          · have h0 : vs 28 = Value.int .i64 (idV x) := by first | exact hd.1 | exact hd.2.1 | exact hd.2.2.1 | exact hd.2.2.2.1 | exact hd.2.2.2.2.1
            have h1 : vs 30 = Value.int .i64 (idV x) := by first | exact hd.1 | exact hd.2.1 | exact hd.2.2.1 | exact hd.2.2.2.1 | exact hd.2.2.2.2.1
            have HG0 := Lib.hid hG
            clear hG
            go_simp
            have h4 := hK _ _ HG0.out rfl (fun _ _ h => h)
            first | exact h4 | (simpa only [RF.upd, h0, h1, Nat.reduceEqDiff, if_true, if_false, reduceIte] using h4) | (simp only [RF.upd, h0, h1, Nat.reduceEqDiff, if_true, if_false, reduceIte] at h4 ⊢; exact h4)
        · refine RF.Step.plain rfl rfl (fun vs wx hG hv hd K hK => ?_)
          have h0 : vs 26 = Value.bool true := by first | exact hd.1 | exact hd.2.1 | exact hd.2.2.1 | exact hd.2.2.2.1 | exact hd.2.2.2.2.1
          have h1 : vs 31 = Value.bool true := by first | exact hd.1 | exact hd.2.1 | exact hd.2.2.1 | exact hd.2.2.2.1 | exact hd.2.2.2.2.1
          have HG0 := Lib.hid hG
          clear hG
          go_simp
          have h4 := hK _ _ HG0.out rfl (fun _ _ h => h)
          first | exact h4 | (simpa only [RF.upd, h0, h1, Nat.reduceEqDiff, if_true, if_false, reduceIte] using h4) | (simp only [RF.upd, h0, h1, Nat.reduceEqDiff, if_true, if_false, reduceIte] at h4 ⊢; exact h4)
        · refine RF.Step.plain rfl rfl (fun vs wx hG hv hd K hK => ?_)
          have h0 : vs 32 = Value.bool true := by first | exact hd.1 | exact hd.2.1 | exact hd.2.2.1 | exact hd.2.2.2.1 | exact hd.2.2.2.2.1
          have HG0 := Lib.hid hG
          clear hG
          go_simp
          have h4 := hK _ _ HG0.out rfl (fun _ _ h => h)
          first | exact h4 | (simpa only [RF.upd, h0, Nat.reduceEqDiff, if_true, if_false, reduceIte] using h4) | (simp only [RF.upd, h0, Nat.reduceEqDiff, if_true, if_false, reduceIte] at h4 ⊢; exact h4)
        · refine RF.Step.guarded rfl (fun vs wx hG hv hd => ?_) (fun vs wx hG hv hd K hK => ?_)
          · have h0 : vs 33 = Value.bool true := by first | exact hd.1 | exact hd.2.1 | exact hd.2.2.1 | exact hd.2.2.2.1 | exact hd.2.2.2.2.1
            simp [Region.wanted, yielded, h0]
          · go_simp
            refine (lWorks wx).mono ?_
            rintro e w' ⟨rfl, hx⟩
            have h4 := hK _ _ (Ext.trans hG hx) rfl (fun _ _ h => h)
            first | exact h4 | (simpa only [RF.upd, Nat.reduceEqDiff, if_true, if_false, reduceIte] using h4) | (simp only [RF.upd, Nat.reduceEqDiff, if_true, if_false, reduceIte] at h4 ⊢; exact h4)
        · refine RF.Step.plain rfl rfl (fun vs wx hG hv hd K hK => ?_)
          have h0 : vs 33 = Value.bool true := by first | exact hd.1 | exact hd.2.1 | exact hd.2.2.1 | exact hd.2.2.2.1 | exact hd.2.2.2.2.1
          have h1 : vs 34 = Value.bool true := by first | exact hd.1 | exact hd.2.1 | exact hd.2.2.1 | exact hd.2.2.2.1 | exact hd.2.2.2.2.1
          have HG0 := Lib.hid hG
          clear hG
          go_simp
          have h4 := hK _ _ HG0.out rfl (fun _ _ h => h)
          first | exact h4 | (simpa only [RF.upd, h0, h1, Nat.reduceEqDiff, if_true, if_false, reduceIte] using h4) | (simp only [RF.upd, h0, h1, Nat.reduceEqDiff, if_true, if_false, reduceIte] at h4 ⊢; exact h4)
        · refine RF.Step.plain rfl rfl (fun vs wx hG hv hd K hK => ?_)
          have h0 : vs 35 = Value.bool true := by first | exact hd.1 | exact hd.2.1 | exact hd.2.2.1 | exact hd.2.2.2.1 | exact hd.2.2.2.2.1
          have HG0 := Lib.hid hG
          clear hG
          go_simp
          have h4 := hK _ _ HG0.out rfl (fun _ _ h => h)
          first | exact h4 | (simpa only [RF.upd, h0, Nat.reduceEqDiff, if_true, if_false, reduceIte] using h4) | (simp only [RF.upd, h0, Nat.reduceEqDiff, if_true, if_false, reduceIte] at h4 ⊢; exact h4)
      · intro vsC wC hG hF
        have hz : vsC 36 = Value.bool true := hF 36 (by decide)
        have HXC := Lib.hid (HXB.out.trans hG)
        rw [hz]
        clear hF hG hz
        go_wp2_with fail
        go_ret
        exact ⟨rfl, HXC.out⟩
def V5pk2 (ls : List Vr) (x : Vr) (A : Option Addr) (b o c k : Nat) : Nat → Value
  | 0 => Value.bool false
  | 1 => Value.int .i64 (-1)
  | 2 => Value.bool false
  | 3 => Value.bool false
  | 4 => Value.bool false
  | 5 => Value.bool false
  | 6 => Value.bool false
  | 7 => undef
  | 8 => undef
  | 9 => undef
  | 10 => undef
  | 11 => undef
  | 12 => undef
  | 13 => undef
  | 14 => Value.bool false
  | 15 => Value.bool false
  | _ => undef
def V8pk2 (ls : List Vr) (y : Vr) (A : Option Addr) (b o c k : Nat) : Nat → Value
  | 0 => Value.bool false
  | 1 => Value.slice (some ⟨b, o, none⟩) ls.length c
  | 2 => Value.int .i64 (ls.length : Int)
  | 3 => Value.bool true
  | 4 => Value.bool true
  | 5 => Value.slice (some ⟨b, o, none⟩) ls.length c
  | 6 => Value.pointer (some ⟨b, o, none⟩)
  | 7 => Value.pointer (some ⟨b, o + 2, none⟩)
  | 8 => Value.bool true
  | 9 => Value.bool false
  | 10 => Value.bool false
  | 11 => Value.bool false
  | 12 => Value.bool false
  | 13 => Value.bool false
  | 14 => Value.bool false
  | 15 => undef
  | 16 => undef
  | 17 => undef
  | 18 => undef
  | 19 => undef
  | 20 => undef
  | 21 => Value.bool false
  | 22 => Value.bool false
  | _ => undef
def V10pk2 (x : Vr) (now ut fr tt : Int) (gx : Nat) : Nat → Value
  | 0 => Value.agg x.cs.toArray
  | 1 => Value.int .i64 now
  | 2 => Value.bool (heldV x now)
  | 3 => Value.pointer (some ⟨gx, 5, none⟩)
  | 4 => Value.int .i64 x.til
  | 5 => Value.int .i64 now
  | 6 => Value.bool (decide (now < x.til))
  | 7 => Value.bool true
  | 8 => Value.bool true
  | 9 => Value.agg x.cs.toArray
  | 10 => Value.int .i64 ut
  | 11 => Value.int .i64 (holdC x ut)
  | 12 => Value.agg x.cs.toArray
  | 13 => Value.int .i64 ut
  | 14 => Value.int .i64 (holdC x ut)
  | 15 => Value.bool true
  | 16 => Value.bool true
  | 17 => Value.bool true
  | 18 => Value.int .i64 fr
  | 19 => Value.int .i64 tt
  | 20 => Value.int .i64 (turnC fr tt)
  | 21 => Value.int .i64 fr
  | 22 => Value.int .i64 tt
  | 23 => Value.int .i64 (turnC fr tt)
  | 24 => Value.bool true
  | 25 => Value.bool true
  | 26 => Value.bool true
  | 27 => Value.agg x.cs.toArray
  | 28 => Value.int .i64 (idV x)
  | 29 => Value.agg x.cs.toArray
  | 30 => Value.int .i64 (idV x)
  | 31 => Value.bool true
  | 32 => Value.bool true
  | 33 => Value.bool true
  | 34 => Value.bool true
  | 35 => Value.bool true
  | 36 => Value.bool true
  | _ => undef
set_option pp.deepTerms true in
set_option pp.maxSteps 1000000 in
set_option maxRecDepth 100000 in
set_option maxHeartbeats 16000000 in
theorem pk2 (lv : Value) (ls : List Vr) (id now ut fr tt : Int) (W : World) (hl : Vs W Any W.heap.size lv ls) (hR : Right ls) (hpos : 0 < ls.length) (hf : fnd ls id = none) (hmk : (gotV ls (-1)).mrk = true) :
    Calls Try.prog 6 #[lv, .int .i64 id, .int .i64 now, .int .i64 ut, .int .i64 fr, .int .i64 tt] W fun e W' => e = .returned (.bool true) ∧ Ext No W W' := by
  obtain ⟨A, c, rfl, hc, hm, b, o, hrow⟩ := hl.slice
  unfold maxLen at hm
  have HL := Lib.hid hl
  have HX0 := Lib.hid (Ext.refl No W)
  have h30 : ls.length ≤ 30 := hR.len
  have HR := Lib.hid hR
  have HOKX := Lib.hid (got_ok hl id)
  have HOKY := Lib.hid (got_ok hl (-1))
  have HGI : Hid (fndI ls id = -1) := Lib.hid (by unfold fndI; rw [hf])
  have HGQ : Hid (isV ls id = false) := Lib.hid (by unfold isV; rw [pick_none hf]; rfl)
  have hn0 : ¬ ls.length = 0 := by omega
  have hf1 : fnd ls (-1) = some 0 := by unfold fnd; rw [if_pos (by decide), if_neg hn0]
  have hgy : gotV ls (-1) = ls[0] := by unfold gotV; rw [pick_at hf1]; rfl
  have HGZ : Hid ((isV ls (-1) && !(gotV ls (-1)).mrk) = false) := Lib.hid (by unfold isV; rw [pick_at hf1, hmk]; rfl)
  obtain ⟨hA0, -, hbl0, hr0, -⟩ := hrow 0 hpos
  have HE0 : Hid (∀ (wx : World), Ext No W wx → wx.rangeAt b o (gotV ls (-1)).cs) := Lib.hid (fun wx hx => by
    have h := range_ext hr0 hx hbl0 (fun h => h)
    rw [hgy]
    simpa using h)
  subst hA0
  have t0 : (0 : Int) < (ls.length : Int) := by omega
  clear hr0 hgy hf1 hn0
  obtain ⟨x, hx⟩ : ∃ x, gotV ls id = x := ⟨_, rfl⟩
  obtain ⟨y, hy⟩ : ∃ y, gotV ls (-1) = y := ⟨_, rfl⟩
  rw [hx] at HOKX
  rw [hy] at HOKY HGZ HE0 hmk
  have HGX := Lib.hid hx
  have HGY := Lib.hid hy
  have HMK := Lib.hid hmk
  clear hl hrow hR hf hx hy hmk
  go_enter Try.func6, Try.ntmps6
  go_wp2_with (first
    | (go_at_call 24; (with_reducible refine (lRight_t _ ls W.heap.size _ HL.out HR.out).mono ?_); rintro e_ w1 ⟨rfl, hx⟩; have HL_1 := Lib.hid (HL.out.ext_no hx); have HOKX_1 := Lib.hid (HOKX.out.ext_no hx); have HOKY_1 := Lib.hid (HOKY.out.ext_no hx); have HXx1 := Lib.hid (HX0.out.trans hx); clear hx)
    | (go_at_call 26; (with_reducible refine (rPick_any _ ls id W.heap.size _ HL_1.out (by omega)).mono ?_); rintro e_ w2 ⟨rfl, hx⟩; have HL_2 := Lib.hid (HL_1.out.ext_no hx); have HOKX_2 := Lib.hid (HOKX_1.out.ext_no hx); have HOKY_2 := Lib.hid (HOKY_1.out.ext_no hx); have HXx2 := Lib.hid (HXx1.out.trans hx); rw [HGX.out, HGQ.out]; clear hx)
    | ((with_reducible show wpList _ _ _ (⟨none, .store 55 (.tmp 13) (.tmp 26), _, _, _, _⟩ :: _) _ _); go_must ((change wpList _ _ _ _ _ (w2.alloc (.cells Vr.zero.cs.toArray 55))); refine store_blk (cs' := x.cs.toArray) 55 (.tmp 13) (.tmp 26) rfl rfl (Blk.new w2 55 Vr.zero.cs.toArray) rfl rfl rfl size_ver (cs_one' x) ?_); intro w3 hb hx; have hxx : Ext No w2 w3 := ((Ext.refl No w2).alloc _).transS hx (fun i hi e => by have e : i = w2.heap.size := e; omega); have HL_3 := Lib.hid (HL_2.out.ext_no hxx); have HOKX_3 := Lib.hid (HOKX_2.out.ext_no hxx); have HOKY_3 := Lib.hid (HOKY_2.out.ext_no hxx); have HXx3 := Lib.hid (HXx2.out.trans hxx); have HBX_3 := Lib.hid hb; clear hb hx hxx)
    | (go_at_call 27; (with_reducible refine (rfFind_any _ ls id W.heap.size _ HL_3.out (by omega)).mono ?_); rintro e_ w4 ⟨rfl, hx⟩; have HL_4 := Lib.hid (HL_3.out.ext_no hx); have HOKX_4 := Lib.hid (HOKX_3.out.ext_no hx); have HOKY_4 := Lib.hid (HOKY_3.out.ext_no hx); have HBX_4 := Lib.hid (HBX_3.out.ext_no hx); have HXx4 := Lib.hid (HXx3.out.trans hx); rw [HGI.out]; clear hx))
  refine RF.region (vs := fun _ => undef) rfl (fun vs => ((Value.slice (some ⟨b, o, none⟩) ls.length c) :: (Value.int .i64 id) :: (Value.int .i64 now) :: (Value.int .i64 ut) :: (Value.int .i64 fr) :: (Value.int .i64 tt) :: undef :: undef :: undef :: undef :: undef :: undef :: (Value.bool false) :: (Value.pointer (some ⟨w2.heap.size, 0, none⟩)) :: (Value.bool false) :: (Value.int .i64 (-1)) :: undef :: undef :: (Value.slice (some ⟨b, o, none⟩) ls.length c) :: (Value.bool true) :: (Value.bool false) :: undef :: (Value.tuple #[Value.agg x.cs.toArray, Value.bool false]) :: (Value.slice (some ⟨b, o, none⟩) ls.length c) :: (Value.int .i64 id) :: (Value.tuple #[Value.agg x.cs.toArray, Value.bool false]) :: (Value.agg x.cs.toArray) :: (Value.bool false) :: (Value.slice (some ⟨b, o, none⟩) ls.length c) :: (Value.int .i64 id) :: (Value.int .i64 (-1)) :: (vs 0) :: (vs 1) :: (vs 2) :: (vs 3) :: (vs 4) :: (vs 5) :: (vs 6) :: (vs 7) :: (vs 8) :: (vs 9) :: (vs 10) :: (vs 11) :: (vs 12) :: (vs 13) :: (vs 14) :: (vs 15) :: undef :: undef :: undef :: undef :: undef :: undef :: undef :: undef :: undef :: undef :: undef :: undef :: undef :: undef :: undef :: undef :: undef :: undef :: undef :: undef :: undef :: undef :: undef :: undef :: undef :: undef :: undef :: undef :: undef :: undef :: undef :: undef :: undef :: undef :: undef :: undef :: undef :: undef :: undef :: undef :: undef :: undef :: undef :: undef :: undef :: undef :: undef :: undef :: undef :: undef :: undef :: undef :: undef :: undef :: undef :: undef :: undef :: undef :: undef :: undef :: undef :: undef :: undef :: undef :: []).toArray)
    (fun j v _ => v = V5pk2 ls x none b o c 0 j) (fun _ wz => Ext No w4 wz) rfl (by kernel_rfl) ?_ ?_ ?_
  · exact (Ext.refl No w4).drew
  · refine ⟨⟨⟨⟨⟨⟨⟨⟨⟨⟨⟨⟨⟨⟨⟨⟨trivial, ?_⟩, ?_⟩, ?_⟩, ?_⟩, ?_⟩, ?_⟩, ?_⟩, ?_⟩, ?_⟩, ?_⟩, ?_⟩, ?_⟩, ?_⟩, ?_⟩, ?_⟩, ?_⟩
    · refine RF.Step.plain rfl rfl (fun vs wx hG hv hd K hK => ?_)
      have HG0 := Lib.hid hG
      clear hG
      go_simp
      have h4 := hK _ _ HG0.out rfl (fun _ _ h => h)
      first | exact h4 | (simpa only [RF.upd, Nat.reduceEqDiff, if_true, if_false, reduceIte] using h4) | (simp only [RF.upd, Nat.reduceEqDiff, if_true, if_false, reduceIte] at h4 ⊢; exact h4)
    · refine RF.Step.plain rfl rfl (fun vs wx hG hv hd K hK => ?_)
      have HG0 := Lib.hid hG
      clear hG
      go_simp
      have h4 := hK _ _ HG0.out rfl (fun _ _ h => h)
      first | exact h4 | (simpa only [RF.upd, Nat.reduceEqDiff, if_true, if_false, reduceIte] using h4) | (simp only [RF.upd, Nat.reduceEqDiff, if_true, if_false, reduceIte] at h4 ⊢; exact h4)
    · refine RF.Step.plain rfl rfl (fun vs wx hG hv hd K hK => ?_)
      have h0 : vs 1 = Value.int .i64 (-1) := by first | exact hd.1 | exact hd.2.1 | exact hd.2.2.1 | exact hd.2.2.2.1 | exact hd.2.2.2.2.1
      have HG0 := Lib.hid hG
      clear hG
      go_simp
      have h4 := hK _ _ HG0.out rfl (fun _ _ h => h)
      first | exact h4 | (simpa only [RF.upd, h0, Nat.reduceEqDiff, if_true, if_false, reduceIte] using h4) | (simp only [RF.upd, h0, Nat.reduceEqDiff, if_true, if_false, reduceIte] at h4 ⊢; exact h4)
    · refine RF.Step.plain rfl rfl (fun vs wx hG hv hd K hK => ?_)
      have h0 : vs 0 = Value.bool false := by first | exact hd.1 | exact hd.2.1 | exact hd.2.2.1 | exact hd.2.2.2.1 | exact hd.2.2.2.2.1
      have h1 : vs 2 = Value.bool false := by first | exact hd.1 | exact hd.2.1 | exact hd.2.2.1 | exact hd.2.2.2.1 | exact hd.2.2.2.2.1
      have HG0 := Lib.hid hG
      clear hG
      go_simp
      have h4 := hK _ _ HG0.out rfl (fun _ _ h => h)
      first | exact h4 | (simpa only [RF.upd, h0, h1, Nat.reduceEqDiff, if_true, if_false, reduceIte] using h4) | (simp only [RF.upd, h0, h1, Nat.reduceEqDiff, if_true, if_false, reduceIte] at h4 ⊢; exact h4)
    · refine RF.Step.plain rfl rfl (fun vs wx hG hv hd K hK => ?_)
      have h0 : vs 3 = Value.bool false := by first | exact hd.1 | exact hd.2.1 | exact hd.2.2.1 | exact hd.2.2.2.1 | exact hd.2.2.2.2.1
      have HG0 := Lib.hid hG
      clear hG
      go_simp
      have h4 := hK _ _ HG0.out rfl (fun _ _ h => h)
      first | exact h4 | (simpa only [RF.upd, h0, Nat.reduceEqDiff, if_true, if_false, reduceIte] using h4) | (simp only [RF.upd, h0, Nat.reduceEqDiff, if_true, if_false, reduceIte] at h4 ⊢; exact h4)
    · refine RF.Step.guarded rfl (fun vs wx hG hv hd => ?_) (fun vs wx hG hv hd K hK => ?_)
      · have h0 : vs 4 = Value.bool false := by first | exact hd.1 | exact hd.2.1 | exact hd.2.2.1 | exact hd.2.2.2.1 | exact hd.2.2.2.2.1
        simp [Region.wanted, yielded, h0]
      · have HG0 := Lib.hid hG
        clear hG
        go_simp
        have h4 := hK _ _ HG0.out rfl (fun _ _ h => h)
        first | exact h4 | (simpa only [RF.upd, Nat.reduceEqDiff, if_true, if_false, reduceIte] using h4) | (simp only [RF.upd, Nat.reduceEqDiff, if_true, if_false, reduceIte] at h4 ⊢; exact h4)
    · refine RF.Step.guarded rfl (fun vs wx hG hv hd => ?_) (fun vs wx hG hv hd K hK => ?_)
      · have h0 : vs 4 = Value.bool false := by first | exact hd.1 | exact hd.2.1 | exact hd.2.2.1 | exact hd.2.2.2.1 | exact hd.2.2.2.2.1
        simp [Region.wanted, yielded, h0]
      · have h0 : vs 5 = Value.bool false := by first | exact hd.1 | exact hd.2.1 | exact hd.2.2.1 | exact hd.2.2.2.1 | exact hd.2.2.2.2.1
        have HG0 := Lib.hid hG
        clear hG
        go_simp
        have h4 := hK _ _ HG0.out rfl (fun _ _ h => h)
        first | exact h4 | (simpa only [RF.upd, h0, Nat.reduceEqDiff, if_true, if_false, reduceIte] using h4) | (simp only [RF.upd, h0, Nat.reduceEqDiff, if_true, if_false, reduceIte] at h4 ⊢; exact h4)
    · refine RF.Step.skip rfl (fun vs wx hG hv hd => ?_) (fun _ => rfl) (fun vs wx hG hv hd => ⟨hG, rfl⟩)
      have h0 : vs 6 = Value.bool false := by first | exact hd.1 | exact hd.2.1 | exact hd.2.2.1 | exact hd.2.2.2.1 | exact hd.2.2.2.2.1
      simp [Region.wanted, yielded, h0]
    · refine RF.Step.skip rfl (fun vs wx hG hv hd => ?_) (fun _ => rfl) (fun vs wx hG hv hd => ⟨hG, rfl⟩)
      have h0 : vs 6 = Value.bool false := by first | exact hd.1 | exact hd.2.1 | exact hd.2.2.1 | exact hd.2.2.2.1 | exact hd.2.2.2.2.1
      simp [Region.wanted, yielded, h0]
    · refine RF.Step.skip rfl (fun vs wx hG hv hd => ?_) (fun _ => rfl) (fun vs wx hG hv hd => ⟨hG, rfl⟩)
      have h0 : vs 6 = Value.bool false := by first | exact hd.1 | exact hd.2.1 | exact hd.2.2.1 | exact hd.2.2.2.1 | exact hd.2.2.2.2.1
      simp [Region.wanted, yielded, h0]
    · refine RF.Step.skip rfl (fun vs wx hG hv hd => ?_) (fun _ => rfl) (fun vs wx hG hv hd => ⟨hG, rfl⟩)
      have h0 : vs 6 = Value.bool false := by first | exact hd.1 | exact hd.2.1 | exact hd.2.2.1 | exact hd.2.2.2.1 | exact hd.2.2.2.2.1
      simp [Region.wanted, yielded, h0]
    · refine RF.Step.skip rfl (fun vs wx hG hv hd => ?_) (fun _ => rfl) (fun vs wx hG hv hd => ⟨hG, rfl⟩)
      have h0 : vs 6 = Value.bool false := by first | exact hd.1 | exact hd.2.1 | exact hd.2.2.1 | exact hd.2.2.2.1 | exact hd.2.2.2.2.1
      simp [Region.wanted, yielded, h0]
    · refine RF.Step.skip rfl (fun vs wx hG hv hd => ?_) (fun _ => rfl) (fun vs wx hG hv hd => ⟨hG, rfl⟩)
      have h0 : vs 6 = Value.bool false := by first | exact hd.1 | exact hd.2.1 | exact hd.2.2.1 | exact hd.2.2.2.1 | exact hd.2.2.2.2.1
      simp [Region.wanted, yielded, h0]
    · refine RF.Step.skip rfl (fun vs wx hG hv hd => ?_) (fun _ => rfl) (fun vs wx hG hv hd => ⟨hG, rfl⟩)
      have h0 : vs 6 = Value.bool false := by first | exact hd.1 | exact hd.2.1 | exact hd.2.2.1 | exact hd.2.2.2.1 | exact hd.2.2.2.2.1
      simp [Region.wanted, yielded, h0]
    · refine RF.Step.guarded rfl (fun vs wx hG hv hd => ?_) (fun vs wx hG hv hd K hK => ?_)
      · have h0 : vs 4 = Value.bool false := by first | exact hd.1 | exact hd.2.1 | exact hd.2.2.1 | exact hd.2.2.2.1 | exact hd.2.2.2.2.1
        simp [Region.wanted, yielded, h0]
      · have h0 : vs 6 = Value.bool false := by first | exact hd.1 | exact hd.2.1 | exact hd.2.2.1 | exact hd.2.2.2.1 | exact hd.2.2.2.2.1
        have h1 : vs 13 = undef := by first | exact hd.1 | exact hd.2.1 | exact hd.2.2.1 | exact hd.2.2.2.1 | exact hd.2.2.2.2.1
        have HG0 := Lib.hid hG
        clear hG
        go_simp
        have h4 := hK _ _ HG0.out rfl (fun _ _ h => h)
        first | exact h4 | (simpa only [RF.upd, h0, h1, Nat.reduceEqDiff, if_true, if_false, reduceIte] using h4) | (simp only [RF.upd, h0, h1, Nat.reduceEqDiff, if_true, if_false, reduceIte] at h4 ⊢; exact h4)
    · refine RF.Step.plain rfl rfl (fun vs wx hG hv hd K hK => ?_)
      have h0 : vs 4 = Value.bool false := by first | exact hd.1 | exact hd.2.1 | exact hd.2.2.1 | exact hd.2.2.2.1 | exact hd.2.2.2.2.1
      have h1 : vs 14 = Value.bool false := by first | exact hd.1 | exact hd.2.1 | exact hd.2.2.1 | exact hd.2.2.2.1 | exact hd.2.2.2.2.1
      have HG0 := Lib.hid hG
      clear hG
      go_simp
      have h4 := hK _ _ HG0.out rfl (fun _ _ h => h)
      first | exact h4 | (simpa only [RF.upd, h0, h1, Nat.reduceEqDiff, if_true, if_false, reduceIte] using h4) | (simp only [RF.upd, h0, h1, Nat.reduceEqDiff, if_true, if_false, reduceIte] at h4 ⊢; exact h4)
  · intro vsA wA hG hF
    have hz : vsA 15 = Value.bool false := hF 15 (by decide)
    have HXA := Lib.hid (HXx4.out.trans hG)
    have HL_A := Lib.hid (HL_4.out.ext_no hG)
    have HOKX_A := Lib.hid (HOKX_4.out.ext_no hG)
    have HOKY_A := Lib.hid (HOKY_4.out.ext_no hG)
    have HBX_A := Lib.hid (HBX_4.out.ext_no hG)
    rw [hz]
    clear hF hG hz
    go_wp2_with (first
      | (go_at_call 29; (with_reducible refine (rThere_any _ ls W.heap.size _ HL_A.out (by omega)).mono ?_); rintro e_ w11 ⟨rfl, hx⟩; have HL_11 := Lib.hid (HL_A.out.ext_no hx); have HOKX_11 := Lib.hid (HOKX_A.out.ext_no hx); have HOKY_11 := Lib.hid (HOKY_A.out.ext_no hx); have HBX_11 := Lib.hid (HBX_A.out.ext_no hx); have HXx11 := Lib.hid (HXA.out.trans hx); rw [HGY.out, HGZ.out]; clear hx)
      | ((with_reducible show wpList _ _ _ (⟨none, .store 55 (.tmp 16) (.tmp 50), _, _, _, _⟩ :: _) _ _); go_must ((change wpList _ _ _ _ _ (w11.alloc (.cells Vr.zero.cs.toArray 55))); refine store_blk (cs' := y.cs.toArray) 55 (.tmp 16) (.tmp 50) rfl rfl (Blk.new w11 55 Vr.zero.cs.toArray) rfl rfl rfl size_ver (cs_one' y) ?_); intro w12 hb hx; have hxx : Ext No w11 w12 := ((Ext.refl No w11).alloc _).transS hx (fun i hi e => by have e : i = w11.heap.size := e; omega); have HL_12 := Lib.hid (HL_11.out.ext_no hxx); have HOKX_12 := Lib.hid (HOKX_11.out.ext_no hxx); have HOKY_12 := Lib.hid (HOKY_11.out.ext_no hxx); have HBX_12 := Lib.hid (HBX_11.out.ext_no hxx); have HXx12 := Lib.hid (HXx11.out.trans hxx); have HBY_12 := Lib.hid hb; clear hb hx hxx))
    refine RF.region (vs := fun _ => undef) rfl (fun vs => ((Value.slice (some ⟨b, o, none⟩) ls.length c) :: (Value.int .i64 id) :: (Value.int .i64 now) :: (Value.int .i64 ut) :: (Value.int .i64 fr) :: (Value.int .i64 tt) :: undef :: undef :: undef :: undef :: undef :: undef :: (Value.bool false) :: (Value.pointer (some ⟨w2.heap.size, 0, none⟩)) :: (Value.bool false) :: (Value.int .i64 (-1)) :: (Value.pointer (some ⟨w11.heap.size, 0, none⟩)) :: (Value.bool false) :: (Value.slice (some ⟨b, o, none⟩) ls.length c) :: (Value.bool true) :: (Value.bool false) :: undef :: (Value.tuple #[Value.agg x.cs.toArray, Value.bool false]) :: (Value.slice (some ⟨b, o, none⟩) ls.length c) :: (Value.int .i64 id) :: (Value.tuple #[Value.agg x.cs.toArray, Value.bool false]) :: (Value.agg x.cs.toArray) :: (Value.bool false) :: (Value.slice (some ⟨b, o, none⟩) ls.length c) :: (Value.int .i64 id) :: (Value.int .i64 (-1)) :: (vsA 0) :: (vsA 1) :: (vsA 2) :: (vsA 3) :: (vsA 4) :: (vsA 5) :: (vsA 6) :: (vsA 7) :: (vsA 8) :: (vsA 9) :: (vsA 10) :: (vsA 11) :: (vsA 12) :: (vsA 13) :: (vsA 14) :: (Value.bool false) :: (Value.tuple #[Value.agg y.cs.toArray, Value.bool false]) :: (Value.slice (some ⟨b, o, none⟩) ls.length c) :: (Value.tuple #[Value.agg y.cs.toArray, Value.bool false]) :: (Value.agg y.cs.toArray) :: (Value.bool false) :: (vs 0) :: (vs 1) :: (vs 2) :: (vs 3) :: (vs 4) :: (vs 5) :: (vs 6) :: (vs 7) :: (vs 8) :: (vs 9) :: (vs 10) :: (vs 11) :: (vs 12) :: (vs 13) :: (vs 14) :: (vs 15) :: (vs 16) :: (vs 17) :: (vs 18) :: (vs 19) :: (vs 20) :: (vs 21) :: (vs 22) :: undef :: undef :: undef :: undef :: undef :: undef :: undef :: undef :: undef :: undef :: undef :: undef :: undef :: undef :: undef :: undef :: undef :: undef :: undef :: undef :: undef :: undef :: undef :: undef :: undef :: undef :: undef :: undef :: undef :: undef :: undef :: undef :: undef :: undef :: undef :: undef :: []).toArray)
      (fun j v _ => v = V8pk2 ls y none b o c 0 j) (fun _ wz => Ext No w12 wz) rfl (by kernel_rfl) ?_ ?_ ?_
    · exact (Ext.refl No w12).drew
    · refine ⟨⟨⟨⟨⟨⟨⟨⟨⟨⟨⟨⟨⟨⟨⟨⟨⟨⟨⟨⟨⟨⟨⟨trivial, ?_⟩, ?_⟩, ?_⟩, ?_⟩, ?_⟩, ?_⟩, ?_⟩, ?_⟩, ?_⟩, ?_⟩, ?_⟩, ?_⟩, ?_⟩, ?_⟩, ?_⟩, ?_⟩, ?_⟩, ?_⟩, ?_⟩, ?_⟩, ?_⟩, ?_⟩, ?_⟩
      · refine RF.Step.plain rfl rfl (fun vs wx hG hv hd K hK => ?_)
        have HG0 := Lib.hid hG
        clear hG
        go_simp
        have h4 := hK _ _ HG0.out rfl (fun _ _ h => h)
        first | exact h4 | (simpa only [RF.upd, Nat.reduceEqDiff, if_true, if_false, reduceIte] using h4) | (simp only [RF.upd, Nat.reduceEqDiff, if_true, if_false, reduceIte] at h4 ⊢; exact h4)
      · refine RF.Step.plain rfl rfl (fun vs wx hG hv hd K hK => ?_)
        have HG0 := Lib.hid hG
        clear hG
        go_simp
        have h4 := hK _ _ HG0.out rfl (fun _ _ h => h)
        first | exact h4 | (simpa only [RF.upd, Nat.reduceEqDiff, if_true, if_false, reduceIte] using h4) | (simp only [RF.upd, Nat.reduceEqDiff, if_true, if_false, reduceIte] at h4 ⊢; exact h4)
      · refine RF.Step.plain rfl rfl (fun vs wx hG hv hd K hK => ?_)
        have h0 : vs 1 = Value.slice (some ⟨b, o, none⟩) ls.length c := by first | exact hd.1 | exact hd.2.1 | exact hd.2.2.1 | exact hd.2.2.2.1 | exact hd.2.2.2.2.1
        have HG0 := Lib.hid hG
        clear hG
        go_simp
        have h4 := hK _ _ HG0.out rfl (fun _ _ h => h)
        first | exact h4 | (simpa only [RF.upd, h0, Nat.reduceEqDiff, if_true, if_false, reduceIte] using h4) | (simp only [RF.upd, h0, Nat.reduceEqDiff, if_true, if_false, reduceIte] at h4 ⊢; exact h4)
      · refine RF.Step.plain rfl rfl (fun vs wx hG hv hd K hK => ?_)
        have h0 : vs 2 = Value.int .i64 (ls.length : Int) := by first | exact hd.1 | exact hd.2.1 | exact hd.2.2.1 | exact hd.2.2.2.1 | exact hd.2.2.2.2.1
        have HG0 := Lib.hid hG
        clear hG
        go_simp
        have h4 := hK _ _ HG0.out rfl (fun _ _ h => h)
        first | exact h4 | (simpa only [RF.upd, h0, Nat.reduceEqDiff, if_true, if_false, reduceIte] using h4) | (simp only [RF.upd, h0, Nat.reduceEqDiff, if_true, if_false, reduceIte] at h4 ⊢; exact h4)
      · refine RF.Step.plain rfl rfl (fun vs wx hG hv hd K hK => ?_)
        have h0 : vs 3 = Value.bool true := by first | exact hd.1 | exact hd.2.1 | exact hd.2.2.1 | exact hd.2.2.2.1 | exact hd.2.2.2.2.1
        have HG0 := Lib.hid hG
        clear hG
        go_simp
        have h4 := hK _ _ HG0.out rfl (fun _ _ h => h)
        first | exact h4 | (simpa only [RF.upd, h0, Nat.reduceEqDiff, if_true, if_false, reduceIte] using h4) | (simp only [RF.upd, h0, Nat.reduceEqDiff, if_true, if_false, reduceIte] at h4 ⊢; exact h4)
      · refine RF.Step.guarded rfl (fun vs wx hG hv hd => ?_) (fun vs wx hG hv hd K hK => ?_)
        · have h0 : vs 4 = Value.bool true := by first | exact hd.1 | exact hd.2.1 | exact hd.2.2.1 | exact hd.2.2.2.1 | exact hd.2.2.2.2.1
          simp [Region.wanted, yielded, h0]
        · have HG0 := Lib.hid hG
          clear hG
          go_simp
          have h4 := hK _ _ HG0.out rfl (fun _ _ h => h)
          first | exact h4 | (simpa only [RF.upd, Nat.reduceEqDiff, if_true, if_false, reduceIte] using h4) | (simp only [RF.upd, Nat.reduceEqDiff, if_true, if_false, reduceIte] at h4 ⊢; exact h4)
      · refine RF.Step.guarded rfl (fun vs wx hG hv hd => ?_) (fun vs wx hG hv hd K hK => ?_)
        · have h0 : vs 4 = Value.bool true := by first | exact hd.1 | exact hd.2.1 | exact hd.2.2.1 | exact hd.2.2.2.1 | exact hd.2.2.2.2.1
          simp [Region.wanted, yielded, h0]
        · have h0 : vs 5 = Value.slice (some ⟨b, o, none⟩) ls.length c := by first | exact hd.1 | exact hd.2.1 | exact hd.2.2.1 | exact hd.2.2.2.1 | exact hd.2.2.2.2.1
          have HG0 := Lib.hid hG
          clear hG
          go_simp
          have h4 := hK _ _ HG0.out rfl (fun _ _ h => h)
          first | exact h4 | (simpa only [RF.upd, h0, Nat.reduceEqDiff, if_true, if_false, reduceIte] using h4) | (simp only [RF.upd, h0, Nat.reduceEqDiff, if_true, if_false, reduceIte] at h4 ⊢; exact h4)
      · refine RF.Step.guarded rfl (fun vs wx hG hv hd => ?_) (fun vs wx hG hv hd K hK => ?_)
        · have h0 : vs 4 = Value.bool true := by first | exact hd.1 | exact hd.2.1 | exact hd.2.2.1 | exact hd.2.2.2.1 | exact hd.2.2.2.2.1
          simp [Region.wanted, yielded, h0]
        · have h0 : vs 6 = Value.pointer (some ⟨b, o, none⟩) := by first | exact hd.1 | exact hd.2.1 | exact hd.2.2.1 | exact hd.2.2.2.1 | exact hd.2.2.2.2.1
          have HG0 := Lib.hid hG
          clear hG
          go_simp
          have h4 := hK _ _ HG0.out rfl (fun _ _ h => h)
          first | exact h4 | (simpa only [RF.upd, h0, Nat.reduceEqDiff, if_true, if_false, reduceIte] using h4) | (simp only [RF.upd, h0, Nat.reduceEqDiff, if_true, if_false, reduceIte] at h4 ⊢; exact h4)
      · refine RF.Step.guarded rfl (fun vs wx hG hv hd => ?_) (fun vs wx hG hv hd K hK => ?_)
        · have h0 : vs 4 = Value.bool true := by first | exact hd.1 | exact hd.2.1 | exact hd.2.2.1 | exact hd.2.2.2.1 | exact hd.2.2.2.2.1
          simp [Region.wanted, yielded, h0]
        · have h0 : vs 7 = Value.pointer (some ⟨b, o + 2, none⟩) := by first | exact hd.1 | exact hd.2.1 | exact hd.2.2.1 | exact hd.2.2.2.1 | exact hd.2.2.2.2.1
          have q2 : wx.cell? ⟨b, o + 2, none⟩ = some (.bool y.mrk) := (HE0.out wx (HXx12.out.trans hG)) 2 _ rfl
          rw [HMK.out] at q2
          have HG0 := Lib.hid hG
          clear hG
          go_simp
          have h4 := hK _ _ HG0.out rfl (fun _ _ h => h)
          first | exact h4 | (simpa only [RF.upd, h0, Nat.reduceEqDiff, if_true, if_false, reduceIte] using h4) | (simp only [RF.upd, h0, Nat.reduceEqDiff, if_true, if_false, reduceIte] at h4 ⊢; exact h4)
      · refine RF.Step.guarded rfl (fun vs wx hG hv hd => ?_) (fun vs wx hG hv hd K hK => ?_)
        · have h0 : vs 4 = Value.bool true := by first | exact hd.1 | exact hd.2.1 | exact hd.2.2.1 | exact hd.2.2.2.1 | exact hd.2.2.2.2.1
          simp [Region.wanted, yielded, h0]
        · have h0 : vs 8 = Value.bool true := by first | exact hd.1 | exact hd.2.1 | exact hd.2.2.1 | exact hd.2.2.2.1 | exact hd.2.2.2.2.1
          have HG0 := Lib.hid hG
          clear hG
          go_simp
          have h4 := hK _ _ HG0.out rfl (fun _ _ h => h)
          first | exact h4 | (simpa only [RF.upd, h0, Nat.reduceEqDiff, if_true, if_false, reduceIte] using h4) | (simp only [RF.upd, h0, Nat.reduceEqDiff, if_true, if_false, reduceIte] at h4 ⊢; exact h4)
      · refine RF.Step.plain rfl rfl (fun vs wx hG hv hd K hK => ?_)
        have h0 : vs 4 = Value.bool true := by first | exact hd.1 | exact hd.2.1 | exact hd.2.2.1 | exact hd.2.2.2.1 | exact hd.2.2.2.2.1
        have h1 : vs 9 = Value.bool false := by first | exact hd.1 | exact hd.2.1 | exact hd.2.2.1 | exact hd.2.2.2.1 | exact hd.2.2.2.2.1
        have HG0 := Lib.hid hG
        clear hG
        go_simp
        have h4 := hK _ _ HG0.out rfl (fun _ _ h => h)
        first | exact h4 | (simpa only [RF.upd, h0, h1, Nat.reduceEqDiff, if_true, if_false, reduceIte] using h4) | (simp only [RF.upd, h0, h1, Nat.reduceEqDiff, if_true, if_false, reduceIte] at h4 ⊢; exact h4)
      · refine RF.Step.plain rfl rfl (fun vs wx hG hv hd K hK => ?_)
        have h0 : vs 0 = Value.bool false := by first | exact hd.1 | exact hd.2.1 | exact hd.2.2.1 | exact hd.2.2.2.1 | exact hd.2.2.2.2.1
        have h1 : vs 10 = Value.bool false := by first | exact hd.1 | exact hd.2.1 | exact hd.2.2.1 | exact hd.2.2.2.1 | exact hd.2.2.2.2.1
        have HG0 := Lib.hid hG
        clear hG
        go_simp
        have h4 := hK _ _ HG0.out rfl (fun _ _ h => h)
        first | exact h4 | (simpa only [RF.upd, h0, h1, Nat.reduceEqDiff, if_true, if_false, reduceIte] using h4) | (simp only [RF.upd, h0, h1, Nat.reduceEqDiff, if_true, if_false, reduceIte] at h4 ⊢; exact h4)
      · refine RF.Step.plain rfl rfl (fun vs wx hG hv hd K hK => ?_)
        have h0 : vs 11 = Value.bool false := by first | exact hd.1 | exact hd.2.1 | exact hd.2.2.1 | exact hd.2.2.2.1 | exact hd.2.2.2.2.1
        have HG0 := Lib.hid hG
        clear hG
        go_simp
        have h4 := hK _ _ HG0.out rfl (fun _ _ h => h)
        first | exact h4 | (simpa only [RF.upd, h0, Nat.reduceEqDiff, if_true, if_false, reduceIte] using h4) | (simp only [RF.upd, h0, Nat.reduceEqDiff, if_true, if_false, reduceIte] at h4 ⊢; exact h4)
      · refine RF.Step.guarded rfl (fun vs wx hG hv hd => ?_) (fun vs wx hG hv hd K hK => ?_)
        · have h0 : vs 12 = Value.bool false := by first | exact hd.1 | exact hd.2.1 | exact hd.2.2.1 | exact hd.2.2.2.1 | exact hd.2.2.2.2.1
          simp [Region.wanted, yielded, h0]
        · have HG0 := Lib.hid hG
          clear hG
          go_simp
          have h4 := hK _ _ HG0.out rfl (fun _ _ h => h)
          first | exact h4 | (simpa only [RF.upd, Nat.reduceEqDiff, if_true, if_false, reduceIte] using h4) | (simp only [RF.upd, Nat.reduceEqDiff, if_true, if_false, reduceIte] at h4 ⊢; exact h4)
      · refine RF.Step.guarded rfl (fun vs wx hG hv hd => ?_) (fun vs wx hG hv hd K hK => ?_)
        · have h0 : vs 12 = Value.bool false := by first | exact hd.1 | exact hd.2.1 | exact hd.2.2.1 | exact hd.2.2.2.1 | exact hd.2.2.2.2.1
          simp [Region.wanted, yielded, h0]
        · have h0 : vs 13 = Value.bool false := by first | exact hd.1 | exact hd.2.1 | exact hd.2.2.1 | exact hd.2.2.2.1 | exact hd.2.2.2.2.1
          have HG0 := Lib.hid hG
          clear hG
          go_simp
          have h4 := hK _ _ HG0.out rfl (fun _ _ h => h)
          first | exact h4 | (simpa only [RF.upd, h0, Nat.reduceEqDiff, if_true, if_false, reduceIte] using h4) | (simp only [RF.upd, h0, Nat.reduceEqDiff, if_true, if_false, reduceIte] at h4 ⊢; exact h4)
      · refine RF.Step.skip rfl (fun vs wx hG hv hd => ?_) (fun _ => rfl) (fun vs wx hG hv hd => ⟨hG, rfl⟩)
        have h0 : vs 14 = Value.bool false := by first | exact hd.1 | exact hd.2.1 | exact hd.2.2.1 | exact hd.2.2.2.1 | exact hd.2.2.2.2.1
        simp [Region.wanted, yielded, h0]
      · refine RF.Step.skip rfl (fun vs wx hG hv hd => ?_) (fun _ => rfl) (fun vs wx hG hv hd => ⟨hG, rfl⟩)
        have h0 : vs 14 = Value.bool false := by first | exact hd.1 | exact hd.2.1 | exact hd.2.2.1 | exact hd.2.2.2.1 | exact hd.2.2.2.2.1
        simp [Region.wanted, yielded, h0]
      · refine RF.Step.skip rfl (fun vs wx hG hv hd => ?_) (fun _ => rfl) (fun vs wx hG hv hd => ⟨hG, rfl⟩)
        have h0 : vs 14 = Value.bool false := by first | exact hd.1 | exact hd.2.1 | exact hd.2.2.1 | exact hd.2.2.2.1 | exact hd.2.2.2.2.1
        simp [Region.wanted, yielded, h0]
      · refine RF.Step.skip rfl (fun vs wx hG hv hd => ?_) (fun _ => rfl) (fun vs wx hG hv hd => ⟨hG, rfl⟩)
        have h0 : vs 14 = Value.bool false := by first | exact hd.1 | exact hd.2.1 | exact hd.2.2.1 | exact hd.2.2.2.1 | exact hd.2.2.2.2.1
        simp [Region.wanted, yielded, h0]
      · refine RF.Step.skip rfl (fun vs wx hG hv hd => ?_) (fun _ => rfl) (fun vs wx hG hv hd => ⟨hG, rfl⟩)
        have h0 : vs 14 = Value.bool false := by first | exact hd.1 | exact hd.2.1 | exact hd.2.2.1 | exact hd.2.2.2.1 | exact hd.2.2.2.2.1
        simp [Region.wanted, yielded, h0]
      · refine RF.Step.skip rfl (fun vs wx hG hv hd => ?_) (fun _ => rfl) (fun vs wx hG hv hd => ⟨hG, rfl⟩)
        have h0 : vs 14 = Value.bool false := by first | exact hd.1 | exact hd.2.1 | exact hd.2.2.1 | exact hd.2.2.2.1 | exact hd.2.2.2.2.1
        simp [Region.wanted, yielded, h0]
      · refine RF.Step.guarded rfl (fun vs wx hG hv hd => ?_) (fun vs wx hG hv hd K hK => ?_)
        · have h0 : vs 12 = Value.bool false := by first | exact hd.1 | exact hd.2.1 | exact hd.2.2.1 | exact hd.2.2.2.1 | exact hd.2.2.2.2.1
          simp [Region.wanted, yielded, h0]
        · have h0 : vs 14 = Value.bool false := by first | exact hd.1 | exact hd.2.1 | exact hd.2.2.1 | exact hd.2.2.2.1 | exact hd.2.2.2.2.1
          have h1 : vs 20 = undef := by first | exact hd.1 | exact hd.2.1 | exact hd.2.2.1 | exact hd.2.2.2.1 | exact hd.2.2.2.2.1
          have HG0 := Lib.hid hG
          clear hG
          go_simp
          have h4 := hK _ _ HG0.out rfl (fun _ _ h => h)
          first | exact h4 | (simpa only [RF.upd, h0, h1, Nat.reduceEqDiff, if_true, if_false, reduceIte] using h4) | (simp only [RF.upd, h0, h1, Nat.reduceEqDiff, if_true, if_false, reduceIte] at h4 ⊢; exact h4)
      · refine RF.Step.plain rfl rfl (fun vs wx hG hv hd K hK => ?_)
        have h0 : vs 12 = Value.bool false := by first | exact hd.1 | exact hd.2.1 | exact hd.2.2.1 | exact hd.2.2.2.1 | exact hd.2.2.2.2.1
        have h1 : vs 21 = Value.bool false := by first | exact hd.1 | exact hd.2.1 | exact hd.2.2.1 | exact hd.2.2.2.1 | exact hd.2.2.2.2.1
        have HG0 := Lib.hid hG
        clear hG
        go_simp
        have h4 := hK _ _ HG0.out rfl (fun _ _ h => h)
        first | exact h4 | (simpa only [RF.upd, h0, h1, Nat.reduceEqDiff, if_true, if_false, reduceIte] using h4) | (simp only [RF.upd, h0, h1, Nat.reduceEqDiff, if_true, if_false, reduceIte] at h4 ⊢; exact h4)
    · intro vsB wB hG hF
      have hz : vsB 22 = Value.bool false := hF 22 (by decide)
      have HXB := Lib.hid (HXx12.out.trans hG)
      have HBX_B := Lib.hid (HBX_12.out.ext_no hG)
      rw [hz]
      clear hF hG hz
      go_wp2_with fail
      refine RF.region (vs := fun | 36 => Value.bool false | _ => undef) rfl (fun vs => ((Value.slice (some ⟨b, o, none⟩) ls.length c) :: (Value.int .i64 id) :: (Value.int .i64 now) :: (Value.int .i64 ut) :: (Value.int .i64 fr) :: (Value.int .i64 tt) :: undef :: undef :: undef :: undef :: undef :: undef :: (vs 36) :: (Value.pointer (some ⟨w2.heap.size, 0, none⟩)) :: (Value.bool false) :: (Value.int .i64 (-1)) :: (Value.pointer (some ⟨w11.heap.size, 0, none⟩)) :: (Value.bool false) :: (Value.slice (some ⟨b, o, none⟩) ls.length c) :: (Value.bool true) :: (Value.bool false) :: undef :: (Value.tuple #[Value.agg x.cs.toArray, Value.bool false]) :: (Value.slice (some ⟨b, o, none⟩) ls.length c) :: (Value.int .i64 id) :: (Value.tuple #[Value.agg x.cs.toArray, Value.bool false]) :: (Value.agg x.cs.toArray) :: (Value.bool false) :: (Value.slice (some ⟨b, o, none⟩) ls.length c) :: (Value.int .i64 id) :: (Value.int .i64 (-1)) :: (vsA 0) :: (vsA 1) :: (vsA 2) :: (vsA 3) :: (vsA 4) :: (vsA 5) :: (vsA 6) :: (vsA 7) :: (vsA 8) :: (vsA 9) :: (vsA 10) :: (vsA 11) :: (vsA 12) :: (vsA 13) :: (vsA 14) :: (Value.bool false) :: (Value.tuple #[Value.agg y.cs.toArray, Value.bool false]) :: (Value.slice (some ⟨b, o, none⟩) ls.length c) :: (Value.tuple #[Value.agg y.cs.toArray, Value.bool false]) :: (Value.agg y.cs.toArray) :: (Value.bool false) :: (vsB 0) :: (vsB 1) :: (vsB 2) :: (vsB 3) :: (vsB 4) :: (vsB 5) :: (vsB 6) :: (vsB 7) :: (vsB 8) :: (vsB 9) :: (vsB 10) :: (vsB 11) :: (vsB 12) :: (vsB 13) :: (vsB 14) :: (vsB 15) :: (vsB 16) :: (vsB 17) :: (vsB 18) :: (vsB 19) :: (vsB 20) :: (vsB 21) :: (Value.bool false) :: (vs 0) :: (vs 1) :: (vs 2) :: (vs 3) :: (vs 4) :: (vs 5) :: (vs 6) :: (vs 7) :: (vs 8) :: (vs 9) :: (vs 10) :: (vs 11) :: (vs 12) :: (vs 13) :: (vs 14) :: (vs 15) :: (vs 16) :: (vs 17) :: (vs 18) :: (vs 19) :: (vs 20) :: (vs 21) :: (vs 22) :: (vs 23) :: (vs 24) :: (vs 25) :: (vs 26) :: (vs 27) :: (vs 28) :: (vs 29) :: (vs 30) :: (vs 31) :: (vs 32) :: (vs 33) :: (vs 34) :: (vs 35) :: []).toArray)
        (fun j v _ => v = V10pk2 x now ut fr tt w2.heap.size j) (fun _ wz => Ext No wB wz) rfl (by kernel_rfl) ?_ ?_ ?_
      · exact (Ext.refl No wB).drew
      · refine ⟨⟨⟨⟨⟨⟨⟨⟨⟨⟨⟨⟨⟨⟨⟨⟨⟨⟨⟨⟨⟨⟨⟨⟨⟨⟨⟨⟨⟨⟨⟨⟨⟨⟨⟨⟨⟨trivial, ?_⟩, ?_⟩, ?_⟩, ?_⟩, ?_⟩, ?_⟩, ?_⟩, ?_⟩, ?_⟩, ?_⟩, ?_⟩, ?_⟩, ?_⟩, ?_⟩, ?_⟩, ?_⟩, ?_⟩, ?_⟩, ?_⟩, ?_⟩, ?_⟩, ?_⟩, ?_⟩, ?_⟩, ?_⟩, ?_⟩, ?_⟩, ?_⟩, ?_⟩, ?_⟩, ?_⟩, ?_⟩, ?_⟩, ?_⟩, ?_⟩, ?_⟩, ?_⟩
        · refine RF.Step.plain rfl rfl (fun vs wx hG hv hd K hK => ?_)
          refine wp_load_row 55 (.tmp 13) rfl _ (by first | rfl | exact h0) _ _ _ _ (HBX_B.out.ext_no hG) Try.underlying55 rfl size_ver ?_
          exact hK _ _ hG rfl (fun _ _ h => h)
        · refine RF.Step.plain rfl rfl (fun vs wx hG hv hd K hK => ?_)
          have HG0 := Lib.hid hG
          clear hG
          go_simp
          have h4 := hK _ _ HG0.out rfl (fun _ _ h => h)
          first | exact h4 | (simpa only [RF.upd, Nat.reduceEqDiff, if_true, if_false, reduceIte] using h4) | (simp only [RF.upd, Nat.reduceEqDiff, if_true, if_false, reduceIte] at h4 ⊢; exact h4)
        · refine RF.Step.plain rfl rfl (fun vs wx hG hv hd K hK => ?_)
          have h0 : vs 0 = Value.agg x.cs.toArray := by first | exact hd.1 | exact hd.2.1 | exact hd.2.2.1 | exact hd.2.2.2.1 | exact hd.2.2.2.2.1
          have h1 : vs 1 = Value.int .i64 now := by first | exact hd.1 | exact hd.2.1 | exact hd.2.2.1 | exact hd.2.2.2.1 | exact hd.2.2.2.2.1
          go_simp
          refine (rHeld_any x now wx).mono ?_
          rintro e w' ⟨rfl, hx⟩
          have h4 := hK _ _ (Ext.trans hG hx) rfl (fun _ _ h => h)
          first | exact h4 | (simpa only [RF.upd, h0, h1, Nat.reduceEqDiff, if_true, if_false, reduceIte] using h4) | (simp only [RF.upd, h0, h1, Nat.reduceEqDiff, if_true, if_false, reduceIte] at h4 ⊢; exact h4)
        · refine RF.Step.plain rfl rfl (fun vs wx hG hv hd K hK => ?_)
          have HG0 := Lib.hid hG
          clear hG
          go_simp
          have h4 := hK _ _ HG0.out rfl (fun _ _ h => h)
          first | exact h4 | (simpa only [RF.upd, Nat.reduceEqDiff, if_true, if_false, reduceIte] using h4) | (simp only [RF.upd, Nat.reduceEqDiff, if_true, if_false, reduceIte] at h4 ⊢; exact h4)
        · refine RF.Step.plain rfl rfl (fun vs wx hG hv hd K hK => ?_)
          have h0 : vs 3 = Value.pointer (some ⟨w2.heap.size, 5, none⟩) := by first | exact hd.1 | exact hd.2.1 | exact hd.2.2.1 | exact hd.2.2.2.1 | exact hd.2.2.2.2.1
          have q5 : wx.cell? ⟨w2.heap.size, 5, none⟩ = some (.int .i64 x.til) := (HBX_B.out.ext_no hG).cell 5
          have HG0 := Lib.hid hG
          clear hG
          go_simp
          have h4 := hK _ _ HG0.out rfl (fun _ _ h => h)
          first | exact h4 | (simpa only [RF.upd, h0, Nat.reduceEqDiff, if_true, if_false, reduceIte] using h4) | (simp only [RF.upd, h0, Nat.reduceEqDiff, if_true, if_false, reduceIte] at h4 ⊢; exact h4)
        · refine RF.Step.plain rfl rfl (fun vs wx hG hv hd K hK => ?_)
          have HG0 := Lib.hid hG
          clear hG
          go_simp
          have h4 := hK _ _ HG0.out rfl (fun _ _ h => h)
          first | exact h4 | (simpa only [RF.upd, Nat.reduceEqDiff, if_true, if_false, reduceIte] using h4) | (simp only [RF.upd, Nat.reduceEqDiff, if_true, if_false, reduceIte] at h4 ⊢; exact h4)
        · refine RF.Step.plain rfl rfl (fun vs wx hG hv hd K hK => ?_)
          have h0 : vs 4 = Value.int .i64 x.til := by first | exact hd.1 | exact hd.2.1 | exact hd.2.2.1 | exact hd.2.2.2.1 | exact hd.2.2.2.2.1
          have h1 : vs 5 = Value.int .i64 now := by first | exact hd.1 | exact hd.2.1 | exact hd.2.2.1 | exact hd.2.2.2.1 | exact hd.2.2.2.2.1
          have HG0 := Lib.hid hG
          clear hG
          go_simp
          have h4 := hK _ _ HG0.out rfl (fun _ _ h => h)
          first | exact h4 | (simpa only [RF.upd, h0, h1, Nat.reduceEqDiff, if_true, if_false, reduceIte] using h4) | (simp only [RF.upd, h0, h1, Nat.reduceEqDiff, if_true, if_false, reduceIte] at h4 ⊢; exact h4)
        · refine RF.Step.plain rfl rfl (fun vs wx hG hv hd K hK => ?_)
          have h0 : vs 2 = Value.bool (heldV x now) := by first | exact hd.1 | exact hd.2.1 | exact hd.2.2.1 | exact hd.2.2.2.1 | exact hd.2.2.2.2.1
          have h1 : vs 6 = Value.bool (decide (now < x.til)) := by first | exact hd.1 | exact hd.2.1 | exact hd.2.2.1 | exact hd.2.2.2.1 | exact hd.2.2.2.2.1
          have hh : (heldV x now == decide (now < x.til)) = true := by simp [heldV]
          have HG0 := Lib.hid hG
          clear hG
          go_simp
          have h4 := hK _ _ HG0.out rfl (fun _ _ h => h)
          first | exact h4 | (simpa only [RF.upd, h0, h1, Nat.reduceEqDiff, if_true, if_false, reduceIte] using h4) | (simp only [RF.upd, h0, h1, Nat.reduceEqDiff, if_true, if_false, reduceIte] at h4 ⊢; exact h4)
        · refine RF.Step.plain rfl rfl (fun vs wx hG hv hd K hK => ?_)
          have h0 : vs 7 = Value.bool true := by first | exact hd.1 | exact hd.2.1 | exact hd.2.2.1 | exact hd.2.2.2.1 | exact hd.2.2.2.2.1
          have HG0 := Lib.hid hG
          clear hG
          go_simp
          have h4 := hK _ _ HG0.out rfl (fun _ _ h => h)
          first | exact h4 | (simpa only [RF.upd, h0, Nat.reduceEqDiff, if_true, if_false, reduceIte] using h4) | (simp only [RF.upd, h0, Nat.reduceEqDiff, if_true, if_false, reduceIte] at h4 ⊢; exact h4)
        · refine RF.Step.guarded rfl (fun vs wx hG hv hd => ?_) (fun vs wx hG hv hd K hK => ?_)
          · have h0 : vs 8 = Value.bool true := by first | exact hd.1 | exact hd.2.1 | exact hd.2.2.1 | exact hd.2.2.2.1 | exact hd.2.2.2.2.1
            simp [Region.wanted, yielded, h0]
          · refine wp_load_row 55 (.tmp 13) rfl _ (by first | rfl | exact h0) _ _ _ _ (HBX_B.out.ext_no hG) Try.underlying55 rfl size_ver ?_
            exact hK _ _ hG rfl (fun _ _ h => h)
        · refine RF.Step.guarded rfl (fun vs wx hG hv hd => ?_) (fun vs wx hG hv hd K hK => ?_)
          · have h0 : vs 8 = Value.bool true := by first | exact hd.1 | exact hd.2.1 | exact hd.2.2.1 | exact hd.2.2.2.1 | exact hd.2.2.2.2.1
            simp [Region.wanted, yielded, h0]
          · have HG0 := Lib.hid hG
            clear hG
            go_simp
            have h4 := hK _ _ HG0.out rfl (fun _ _ h => h)
            first | exact h4 | (simpa only [RF.upd, Nat.reduceEqDiff, if_true, if_false, reduceIte] using h4) | (simp only [RF.upd, Nat.reduceEqDiff, if_true, if_false, reduceIte] at h4 ⊢; exact h4)
        · refine RF.Step.guarded rfl (fun vs wx hG hv hd => ?_) (fun vs wx hG hv hd K hK => ?_)
          · have h0 : vs 8 = Value.bool true := by first | exact hd.1 | exact hd.2.1 | exact hd.2.2.1 | exact hd.2.2.2.1 | exact hd.2.2.2.2.1
            simp [Region.wanted, yielded, h0]
          · have h0 : vs 9 = Value.agg x.cs.toArray := by first | exact hd.1 | exact hd.2.1 | exact hd.2.2.1 | exact hd.2.2.2.1 | exact hd.2.2.2.2.1
            have h1 : vs 10 = Value.int .i64 ut := by first | exact hd.1 | exact hd.2.1 | exact hd.2.2.1 | exact hd.2.2.2.1 | exact hd.2.2.2.2.1
            go_simp
            refine (rHold_any x ut wx).mono ?_
            rintro e w' ⟨rfl, hx⟩
            have h4 := hK _ _ (Ext.trans hG hx) rfl (fun _ _ h => h)
            first | exact h4 | (simpa only [RF.upd, h0, h1, Nat.reduceEqDiff, if_true, if_false, reduceIte] using h4) | (simp only [RF.upd, h0, h1, Nat.reduceEqDiff, if_true, if_false, reduceIte] at h4 ⊢; exact h4)
        · refine RF.Step.guarded rfl (fun vs wx hG hv hd => ?_) (fun vs wx hG hv hd K hK => ?_)
          · have h0 : vs 8 = Value.bool true := by first | exact hd.1 | exact hd.2.1 | exact hd.2.2.1 | exact hd.2.2.2.1 | exact hd.2.2.2.2.1
            simp [Region.wanted, yielded, h0]
          · refine wp_load_row 55 (.tmp 13) rfl _ (by first | rfl | exact h0) _ _ _ _ (HBX_B.out.ext_no hG) Try.underlying55 rfl size_ver ?_
            exact hK _ _ hG rfl (fun _ _ h => h)
        · refine RF.Step.guarded rfl (fun vs wx hG hv hd => ?_) (fun vs wx hG hv hd K hK => ?_)
          · have h0 : vs 8 = Value.bool true := by first | exact hd.1 | exact hd.2.1 | exact hd.2.2.1 | exact hd.2.2.2.1 | exact hd.2.2.2.2.1
            simp [Region.wanted, yielded, h0]
          · have HG0 := Lib.hid hG
            clear hG
            go_simp
            have h4 := hK _ _ HG0.out rfl (fun _ _ h => h)
            first | exact h4 | (simpa only [RF.upd, Nat.reduceEqDiff, if_true, if_false, reduceIte] using h4) | (simp only [RF.upd, Nat.reduceEqDiff, if_true, if_false, reduceIte] at h4 ⊢; exact h4)
        · refine RF.Step.guarded rfl (fun vs wx hG hv hd => ?_) (fun vs wx hG hv hd K hK => ?_)
          · have h0 : vs 8 = Value.bool true := by first | exact hd.1 | exact hd.2.1 | exact hd.2.2.1 | exact hd.2.2.2.1 | exact hd.2.2.2.2.1
            simp [Region.wanted, yielded, h0]
          · have h0 : vs 12 = Value.agg x.cs.toArray := by first | exact hd.1 | exact hd.2.1 | exact hd.2.2.1 | exact hd.2.2.2.1 | exact hd.2.2.2.2.1
            have h1 : vs 13 = Value.int .i64 ut := by first | exact hd.1 | exact hd.2.1 | exact hd.2.2.1 | exact hd.2.2.2.1 | exact hd.2.2.2.2.1
            go_simp
            refine (rfHold_any x ut wx).mono ?_
            rintro e w' ⟨rfl, hx⟩
            have h4 := hK _ _ (Ext.trans hG hx) rfl (fun _ _ h => h)
            first | exact h4 | (simpa only [RF.upd, h0, h1, Nat.reduceEqDiff, if_true, if_false, reduceIte] using h4) | (simp only [RF.upd, h0, h1, Nat.reduceEqDiff, if_true, if_false, reduceIte] at h4 ⊢; exact h4)
        · refine RF.Step.guarded rfl (fun vs wx hG hv hd => ?_) (fun vs wx hG hv hd K hK => ?_)
          · have h0 : vs 8 = Value.bool true := by first | exact hd.1 | exact hd.2.1 | exact hd.2.2.1 | exact hd.2.2.2.1 | exact hd.2.2.2.2.1
            simp [Region.wanted, yielded, h0]
          · have h0 : vs 11 = Value.int .i64 (holdC x ut) := by first | exact hd.1 | exact hd.2.1 | exact hd.2.2.1 | exact hd.2.2.2.1 | exact hd.2.2.2.2.1
            have h1 : vs 14 = Value.int .i64 (holdC x ut) := by first | exact hd.1 | exact hd.2.1 | exact hd.2.2.1 | exact hd.2.2.2.1 | exact hd.2.2.2.2.1
            have HG0 := Lib.hid hG
            clear hG
            go_simp
            have h4 := hK _ _ HG0.out rfl (fun _ _ h => h)
            first | exact h4 | (simpa only [RF.upd, h0, h1, Nat.reduceEqDiff, if_true, if_false, reduceIte] using h4) | (simp only [RF.upd, h0, h1, Nat.reduceEqDiff, if_true, if_false, reduceIte] at h4 ⊢; exact h4)
        · refine RF.Step.plain rfl rfl (fun vs wx hG hv hd K hK => ?_)
          have h0 : vs 8 = Value.bool true := by first | exact hd.1 | exact hd.2.1 | exact hd.2.2.1 | exact hd.2.2.2.1 | exact hd.2.2.2.2.1
          have h1 : vs 15 = Value.bool true := by first | exact hd.1 | exact hd.2.1 | exact hd.2.2.1 | exact hd.2.2.2.1 | exact hd.2.2.2.2.1
          have HG0 := Lib.hid hG
          clear hG
          go_simp
          have h4 := hK _ _ HG0.out rfl (fun _ _ h => h)
          first | exact h4 | (simpa only [RF.upd, h0, h1, Nat.reduceEqDiff, if_true, if_false, reduceIte] using h4) | (simp only [RF.upd, h0, h1, Nat.reduceEqDiff, if_true, if_false, reduceIte] at h4 ⊢; exact h4)
        · refine RF.Step.plain rfl rfl (fun vs wx hG hv hd K hK => ?_)
          have h0 : vs 16 = Value.bool true := by first | exact hd.1 | exact hd.2.1 | exact hd.2.2.1 | exact hd.2.2.2.1 | exact hd.2.2.2.2.1
          have HG0 := Lib.hid hG
          clear hG
          go_simp
          have h4 := hK _ _ HG0.out rfl (fun _ _ h => h)
          first | exact h4 | (simpa only [RF.upd, h0, Nat.reduceEqDiff, if_true, if_false, reduceIte] using h4) | (simp only [RF.upd, h0, Nat.reduceEqDiff, if_true, if_false, reduceIte] at h4 ⊢; exact h4)
        · refine RF.Step.guarded rfl (fun vs wx hG hv hd => ?_) (fun vs wx hG hv hd K hK => ?_)
          · have h0 : vs 17 = Value.bool true := by first | exact hd.1 | exact hd.2.1 | exact hd.2.2.1 | exact hd.2.2.2.1 | exact hd.2.2.2.2.1
            simp [Region.wanted, yielded, h0]
          · have HG0 := Lib.hid hG
            clear hG
            go_simp
            have h4 := hK _ _ HG0.out rfl (fun _ _ h => h)
            first | exact h4 | (simpa only [RF.upd, Nat.reduceEqDiff, if_true, if_false, reduceIte] using h4) | (simp only [RF.upd, Nat.reduceEqDiff, if_true, if_false, reduceIte] at h4 ⊢; exact h4)
        · refine RF.Step.guarded rfl (fun vs wx hG hv hd => ?_) (fun vs wx hG hv hd K hK => ?_)
          · have h0 : vs 17 = Value.bool true := by first | exact hd.1 | exact hd.2.1 | exact hd.2.2.1 | exact hd.2.2.2.1 | exact hd.2.2.2.2.1
            simp [Region.wanted, yielded, h0]
          · have HG0 := Lib.hid hG
            clear hG
            go_simp
            have h4 := hK _ _ HG0.out rfl (fun _ _ h => h)
            first | exact h4 | (simpa only [RF.upd, Nat.reduceEqDiff, if_true, if_false, reduceIte] using h4) | (simp only [RF.upd, Nat.reduceEqDiff, if_true, if_false, reduceIte] at h4 ⊢; exact h4)
        · refine RF.Step.guarded rfl (fun vs wx hG hv hd => ?_) (fun vs wx hG hv hd K hK => ?_)
          · have h0 : vs 17 = Value.bool true := by first | exact hd.1 | exact hd.2.1 | exact hd.2.2.1 | exact hd.2.2.2.1 | exact hd.2.2.2.2.1
            simp [Region.wanted, yielded, h0]
          · have h0 : vs 18 = Value.int .i64 fr := by first | exact hd.1 | exact hd.2.1 | exact hd.2.2.1 | exact hd.2.2.2.1 | exact hd.2.2.2.2.1
            have h1 : vs 19 = Value.int .i64 tt := by first | exact hd.1 | exact hd.2.1 | exact hd.2.2.1 | exact hd.2.2.2.1 | exact hd.2.2.2.2.1
            go_simp
            refine (rTurn_any fr tt wx).mono ?_
            rintro e w' ⟨rfl, hx⟩
            have h4 := hK _ _ (Ext.trans hG hx) rfl (fun _ _ h => h)
            first | exact h4 | (simpa only [RF.upd, h0, h1, Nat.reduceEqDiff, if_true, if_false, reduceIte] using h4) | (simp only [RF.upd, h0, h1, Nat.reduceEqDiff, if_true, if_false, reduceIte] at h4 ⊢; exact h4)
        · refine RF.Step.guarded rfl (fun vs wx hG hv hd => ?_) (fun vs wx hG hv hd K hK => ?_)
          · have h0 : vs 17 = Value.bool true := by first | exact hd.1 | exact hd.2.1 | exact hd.2.2.1 | exact hd.2.2.2.1 | exact hd.2.2.2.2.1
            simp [Region.wanted, yielded, h0]
          · have HG0 := Lib.hid hG
            clear hG
            go_simp
            have h4 := hK _ _ HG0.out rfl (fun _ _ h => h)
            first | exact h4 | (simpa only [RF.upd, Nat.reduceEqDiff, if_true, if_false, reduceIte] using h4) | (simp only [RF.upd, Nat.reduceEqDiff, if_true, if_false, reduceIte] at h4 ⊢; exact h4)
        · refine RF.Step.guarded rfl (fun vs wx hG hv hd => ?_) (fun vs wx hG hv hd K hK => ?_)
          · have h0 : vs 17 = Value.bool true := by first | exact hd.1 | exact hd.2.1 | exact hd.2.2.1 | exact hd.2.2.2.1 | exact hd.2.2.2.2.1
            simp [Region.wanted, yielded, h0]
          · have HG0 := Lib.hid hG
            clear hG
            go_simp
            have h4 := hK _ _ HG0.out rfl (fun _ _ h => h)
            first | exact h4 | (simpa only [RF.upd, Nat.reduceEqDiff, if_true, if_false, reduceIte] using h4) | (simp only [RF.upd, Nat.reduceEqDiff, if_true, if_false, reduceIte] at h4 ⊢; exact h4)
        · refine RF.Step.guarded rfl (fun vs wx hG hv hd => ?_) (fun vs wx hG hv hd K hK => ?_)
          · have h0 : vs 17 = Value.bool true := by first | exact hd.1 | exact hd.2.1 | exact hd.2.2.1 | exact hd.2.2.2.1 | exact hd.2.2.2.2.1
            simp [Region.wanted, yielded, h0]
          · have h0 : vs 21 = Value.int .i64 fr := by first | exact hd.1 | exact hd.2.1 | exact hd.2.2.1 | exact hd.2.2.2.1 | exact hd.2.2.2.2.1
            have h1 : vs 22 = Value.int .i64 tt := by first | exact hd.1 | exact hd.2.1 | exact hd.2.2.1 | exact hd.2.2.2.1 | exact hd.2.2.2.2.1
            go_simp
            refine (rfTurn_any fr tt wx).mono ?_
            rintro e w' ⟨rfl, hx⟩
            have h4 := hK _ _ (Ext.trans hG hx) rfl (fun _ _ h => h)
            first | exact h4 | (simpa only [RF.upd, h0, h1, Nat.reduceEqDiff, if_true, if_false, reduceIte] using h4) | (simp only [RF.upd, h0, h1, Nat.reduceEqDiff, if_true, if_false, reduceIte] at h4 ⊢; exact h4)
        · refine RF.Step.guarded rfl (fun vs wx hG hv hd => ?_) (fun vs wx hG hv hd K hK => ?_)
          · have h0 : vs 17 = Value.bool true := by first | exact hd.1 | exact hd.2.1 | exact hd.2.2.1 | exact hd.2.2.2.1 | exact hd.2.2.2.2.1
            simp [Region.wanted, yielded, h0]
          · have h0 : vs 20 = Value.int .i64 (turnC fr tt) := by first | exact hd.1 | exact hd.2.1 | exact hd.2.2.1 | exact hd.2.2.2.1 | exact hd.2.2.2.2.1
            have h1 : vs 23 = Value.int .i64 (turnC fr tt) := by first | exact hd.1 | exact hd.2.1 | exact hd.2.2.1 | exact hd.2.2.2.1 | exact hd.2.2.2.2.1
            have HG0 := Lib.hid hG
            clear hG
            go_simp
            have h4 := hK _ _ HG0.out rfl (fun _ _ h => h)
            first | exact h4 | (simpa only [RF.upd, h0, h1, Nat.reduceEqDiff, if_true, if_false, reduceIte] using h4) | (simp only [RF.upd, h0, h1, Nat.reduceEqDiff, if_true, if_false, reduceIte] at h4 ⊢; exact h4)
        · refine RF.Step.plain rfl rfl (fun vs wx hG hv hd K hK => ?_)
          have h0 : vs 17 = Value.bool true := by first | exact hd.1 | exact hd.2.1 | exact hd.2.2.1 | exact hd.2.2.2.1 | exact hd.2.2.2.2.1
          have h1 : vs 24 = Value.bool true := by first | exact hd.1 | exact hd.2.1 | exact hd.2.2.1 | exact hd.2.2.2.1 | exact hd.2.2.2.2.1
          have HG0 := Lib.hid hG
          clear hG
          go_simp
          have h4 := hK _ _ HG0.out rfl (fun _ _ h => h)
          first | exact h4 | (simpa only [RF.upd, h0, h1, Nat.reduceEqDiff, if_true, if_false, reduceIte] using h4) | (simp only [RF.upd, h0, h1, Nat.reduceEqDiff, if_true, if_false, reduceIte] at h4 ⊢; exact h4)
        · refine RF.Step.plain rfl rfl (fun vs wx hG hv hd K hK => ?_)
          have h0 : vs 25 = Value.bool true := by first | exact hd.1 | exact hd.2.1 | exact hd.2.2.1 | exact hd.2.2.2.1 | exact hd.2.2.2.2.1
          have HG0 := Lib.hid hG
          clear hG
          go_simp
          have h4 := hK _ _ HG0.out rfl (fun _ _ h => h)
          first | exact h4 | (simpa only [RF.upd, h0, Nat.reduceEqDiff, if_true, if_false, reduceIte] using h4) | (simp only [RF.upd, h0, Nat.reduceEqDiff, if_true, if_false, reduceIte] at h4 ⊢; exact h4)
        · refine RF.Step.guarded rfl (fun vs wx hG hv hd => ?_) (fun vs wx hG hv hd K hK => ?_)
          · have h0 : vs 26 = Value.bool true := by first | exact hd.1 | exact hd.2.1 | exact hd.2.2.1 | exact hd.2.2.2.1 | exact hd.2.2.2.2.1
            simp [Region.wanted, yielded, h0]
          · refine wp_load_row 55 (.tmp 13) rfl _ (by first | rfl | exact h0) _ _ _ _ (HBX_B.out.ext_no hG) Try.underlying55 rfl size_ver ?_
            exact hK _ _ hG rfl (fun _ _ h => h)
        · refine RF.Step.guarded rfl (fun vs wx hG hv hd => ?_) (fun vs wx hG hv hd K hK => ?_)
          · have h0 : vs 26 = Value.bool true := by first | exact hd.1 | exact hd.2.1 | exact hd.2.2.1 | exact hd.2.2.2.1 | exact hd.2.2.2.2.1
            simp [Region.wanted, yielded, h0]
          · have h0 : vs 27 = Value.agg x.cs.toArray := by first | exact hd.1 | exact hd.2.1 | exact hd.2.2.1 | exact hd.2.2.2.1 | exact hd.2.2.2.2.1
            go_simp
            refine (rId_any x wx).mono ?_
            rintro e w' ⟨rfl, hx⟩
            have h4 := hK _ _ (Ext.trans hG hx) rfl (fun _ _ h => h)
            first | exact h4 | (simpa only [RF.upd, h0, Nat.reduceEqDiff, if_true, if_false, reduceIte] using h4) | (simp only [RF.upd, h0, Nat.reduceEqDiff, if_true, if_false, reduceIte] at h4 ⊢; exact h4)
        · refine RF.Step.guarded rfl (fun vs wx hG hv hd => ?_) (fun vs wx hG hv hd K hK => ?_)
          · have h0 : vs 26 = Value.bool true := by first | exact hd.1 | exact hd.2.1 | exact hd.2.2.1 | exact hd.2.2.2.1 | exact hd.2.2.2.2.1
            simp [Region.wanted, yielded, h0]
          · refine wp_load_row 55 (.tmp 13) rfl _ (by first | rfl | exact h0) _ _ _ _ (HBX_B.out.ext_no hG) Try.underlying55 rfl size_ver ?_
            exact hK _ _ hG rfl (fun _ _ h => h)
        · refine RF.Step.guarded rfl (fun vs wx hG hv hd => ?_) (fun vs wx hG hv hd K hK => ?_)
          · have h0 : vs 26 = Value.bool true := by first | exact hd.1 | exact hd.2.1 | exact hd.2.2.1 | exact hd.2.2.2.1 | exact hd.2.2.2.2.1
            simp [Region.wanted, yielded, h0]
          · have h0 : vs 29 = Value.agg x.cs.toArray := by first | exact hd.1 | exact hd.2.1 | exact hd.2.2.1 | exact hd.2.2.2.1 | exact hd.2.2.2.2.1
            go_simp
            refine (rfId_any x wx).mono ?_
            rintro e w' ⟨rfl, hx⟩
            have h4 := hK _ _ (Ext.trans hG hx) rfl (fun _ _ h => h)
            first | exact h4 | (simpa only [RF.upd, h0, Nat.reduceEqDiff, if_true, if_false, reduceIte] using h4) | (simp only [RF.upd, h0, Nat.reduceEqDiff, if_true, if_false, reduceIte] at h4 ⊢; exact h4)
        · refine RF.Step.guarded rfl (fun vs wx hG hv hd => ?_) (fun vs wx hG hv hd K hK => ?_)
          · have h0 : vs 26 = Value.bool true := by first | exact hd.1 | exact hd.2.1 | exact hd.2.2.1 | exact hd.2.2.2.1 | exact hd.2.2.2.2.1
            simp [Region.wanted, yielded, h0]
          · have h0 : vs 28 = Value.int .i64 (idV x) := by first | exact hd.1 | exact hd.2.1 | exact hd.2.2.1 | exact hd.2.2.2.1 | exact hd.2.2.2.2.1
            have h1 : vs 30 = Value.int .i64 (idV x) := by first | exact hd.1 | exact hd.2.1 | exact hd.2.2.1 | exact hd.2.2.2.1 | exact hd.2.2.2.2.1
            have HG0 := Lib.hid hG
            clear hG
            go_simp
            have h4 := hK _ _ HG0.out rfl (fun _ _ h => h)
            first | exact h4 | (simpa only [RF.upd, h0, h1, Nat.reduceEqDiff, if_true, if_false, reduceIte] using h4) | (simp only [RF.upd, h0, h1, Nat.reduceEqDiff, if_true, if_false, reduceIte] at h4 ⊢; exact h4)
        · refine RF.Step.plain rfl rfl (fun vs wx hG hv hd K hK => ?_)
          have h0 : vs 26 = Value.bool true := by first | exact hd.1 | exact hd.2.1 | exact hd.2.2.1 | exact hd.2.2.2.1 | exact hd.2.2.2.2.1
          have h1 : vs 31 = Value.bool true := by first | exact hd.1 | exact hd.2.1 | exact hd.2.2.1 | exact hd.2.2.2.1 | exact hd.2.2.2.2.1
          have HG0 := Lib.hid hG
          clear hG
          go_simp
          have h4 := hK _ _ HG0.out rfl (fun _ _ h => h)
          first | exact h4 | (simpa only [RF.upd, h0, h1, Nat.reduceEqDiff, if_true, if_false, reduceIte] using h4) | (simp only [RF.upd, h0, h1, Nat.reduceEqDiff, if_true, if_false, reduceIte] at h4 ⊢; exact h4)
        · refine RF.Step.plain rfl rfl (fun vs wx hG hv hd K hK => ?_)
          have h0 : vs 32 = Value.bool true := by first | exact hd.1 | exact hd.2.1 | exact hd.2.2.1 | exact hd.2.2.2.1 | exact hd.2.2.2.2.1
          have HG0 := Lib.hid hG
          clear hG
          go_simp
          have h4 := hK _ _ HG0.out rfl (fun _ _ h => h)
          first | exact h4 | (simpa only [RF.upd, h0, Nat.reduceEqDiff, if_true, if_false, reduceIte] using h4) | (simp only [RF.upd, h0, Nat.reduceEqDiff, if_true, if_false, reduceIte] at h4 ⊢; exact h4)
        · refine RF.Step.guarded rfl (fun vs wx hG hv hd => ?_) (fun vs wx hG hv hd K hK => ?_)
          · have h0 : vs 33 = Value.bool true := by first | exact hd.1 | exact hd.2.1 | exact hd.2.2.1 | exact hd.2.2.2.1 | exact hd.2.2.2.2.1
            simp [Region.wanted, yielded, h0]
          · go_simp
            refine (lWorks wx).mono ?_
            rintro e w' ⟨rfl, hx⟩
            have h4 := hK _ _ (Ext.trans hG hx) rfl (fun _ _ h => h)
            first | exact h4 | (simpa only [RF.upd, Nat.reduceEqDiff, if_true, if_false, reduceIte] using h4) | (simp only [RF.upd, Nat.reduceEqDiff, if_true, if_false, reduceIte] at h4 ⊢; exact h4)
        · refine RF.Step.plain rfl rfl (fun vs wx hG hv hd K hK => ?_)
          have h0 : vs 33 = Value.bool true := by first | exact hd.1 | exact hd.2.1 | exact hd.2.2.1 | exact hd.2.2.2.1 | exact hd.2.2.2.2.1
          have h1 : vs 34 = Value.bool true := by first | exact hd.1 | exact hd.2.1 | exact hd.2.2.1 | exact hd.2.2.2.1 | exact hd.2.2.2.2.1
          have HG0 := Lib.hid hG
          clear hG
          go_simp
          have h4 := hK _ _ HG0.out rfl (fun _ _ h => h)
          first | exact h4 | (simpa only [RF.upd, h0, h1, Nat.reduceEqDiff, if_true, if_false, reduceIte] using h4) | (simp only [RF.upd, h0, h1, Nat.reduceEqDiff, if_true, if_false, reduceIte] at h4 ⊢; exact h4)
        · refine RF.Step.plain rfl rfl (fun vs wx hG hv hd K hK => ?_)
          have h0 : vs 35 = Value.bool true := by first | exact hd.1 | exact hd.2.1 | exact hd.2.2.1 | exact hd.2.2.2.1 | exact hd.2.2.2.2.1
          have HG0 := Lib.hid hG
          clear hG
          go_simp
          have h4 := hK _ _ HG0.out rfl (fun _ _ h => h)
          first | exact h4 | (simpa only [RF.upd, h0, Nat.reduceEqDiff, if_true, if_false, reduceIte] using h4) | (simp only [RF.upd, h0, Nat.reduceEqDiff, if_true, if_false, reduceIte] at h4 ⊢; exact h4)
      · intro vsC wC hG hF
        have hz : vsC 36 = Value.bool true := hF 36 (by decide)
        have HXC := Lib.hid (HXB.out.trans hG)
        rw [hz]
        clear hF hG hz
        go_wp2_with fail
        go_ret
        exact ⟨rfl, HXC.out⟩
end Go.Proofs.Ytlfhfomidkadiaa
