/- Reference 26: ahead, bare, Put, Delete, Remove. -/
import Derived.Test.YtlfhfomidkadiaaRuleRef
set_option linter.unusedVariables false
set_option linter.unusedSimpArgs false
namespace Go.Proofs.Ytlfhfomidkadiaa
open Go.RowKit Go.Deep

theorem ret_tmp3 {P : Program} {fn : Func} {p q r : Tmp} (h : fn.results = #[.tmp p, .tmp q, .tmp r]) {tmps : Array Value} {w : World} : (results fn tmps).run P w = .ok (.tuple #[tmps.getD p undef, tmps.getD q undef, tmps.getD r undef]) w := by
  simp [results, h]
theorem OwnV.lit {w : World} {B base : Nat} {x : Vr} (h : Vr.Ok w (fun b => b < B) x) (hb : base ≤ w.heap.size) : OwnV (w.alloc (.cells x.cs.toArray 55)) base B (.slice (some ⟨w.heap.size, 0, none⟩) 1 1) [x] := by
  refine ⟨⟨by rw [vcs_length], .inr ⟨w.heap.size, 1, x.cs.toArray, rfl, hb, Blk.new w _ _, Nat.le_refl _, by simp [maxLen], rfl, ?_⟩⟩, fun y hy => ?_⟩
  · simp [vcs, Vr.cs]
  · obtain rfl : y = x := by simpa using hy
    exact h.ext_no ((Ext.refl _ _).alloc _)
def aheadV (v : Vr) (n m : Bool) : Vr := { v with nul := n, mrk := m }
theorem aheadV_cs (v : Vr) (n m : Bool) : (v.cs.toArray.setIfInBounds 1 (.bool n)).setIfInBounds 2 (.bool m) = (aheadV v n m).cs.toArray := rfl
set_option maxRecDepth 100000 in
set_option maxHeartbeats 1000000 in
theorem rfAhead_any (lv : Value) (ls : List Vr) (v : Vr) (n m : Bool) (B : Nat) (w : World) (hl : Vs w Any B lv ls) (hll : ls.length ≤ 1000) (hv : Vr.Ok w (fun b => b < B) v) (hBw : B ≤ w.heap.size) :
    Calls Try.prog 57 #[lv, .agg v.cs.toArray, .bool n, .bool m] w fun e w' => ∃ ov, e = .returned ov ∧ Vs w' Any B ov (ahead ls v n m) ∧ Ext No w w' := by
  have HL := Lib.hid hl
  have HB := Lib.hid (Blk.new w 55 v.cs.toArray)
  have hz := Blk.new (w.alloc (.cells v.cs.toArray 55)) 55 Vr.zero.cs.toArray
  rw [World.size_alloc] at hz
  have HZ := Lib.hid hz
  have HX := Lib.hid (((Ext.refl No w).alloc (.cells v.cs.toArray 55)).alloc (.cells Vr.zero.cs.toArray 55))
  have HV := Lib.hid hv
  obtain ⟨vn, hvn⟩ : ∃ x, aheadV v n m = x := ⟨_, rfl⟩
  have HVO : Hid (Vr.Ok w (fun b => b < B) vn) := Lib.hid (by rw [← hvn]; exact ⟨hv.m, hv.t, hv.n, hv.w, hv.b⟩)
  have HVN := Lib.hid hvn
  have hcl : vn.cs.length = 11 := rfl
  clear hl hz hv hvn
  go_enter Try.func57, Try.ntmps57
  go_wp2_with (first
    | ((with_reducible show wpList _ _ _ (⟨some 11, _, _, _, _, _⟩ :: _) _ _); refine load_blk 55 (.tmp 5) rfl rfl HB.out rfl _ Try.underlying55 rfl size_ver ?_)
    | ((with_reducible show wpList _ _ _ (⟨none, .store 55 (.tmp 9) (.tmp 11), _, _, _, _⟩ :: _) _ _); go_must ((change wpList _ _ _ _ _ ((w.alloc (.cells v.cs.toArray 55)).alloc (.cells Vr.zero.cs.toArray 55))); refine store_blk 55 (.tmp 9) (.tmp 11) rfl rfl HZ.out rfl rfl rfl size_ver (cs_one' v) ?_); intro w1 hb1 hx1; have HX1 := Lib.hid (HX.out.transS hx1 (fun i hi e => by have e : i = w.heap.size + 1 := e; omega)); have HB1 := Lib.hid hb1; have q1 : w1.cell? ⟨w.heap.size + 1, 1, none⟩ = some (.bool v.nul) := hb1.cell 1; have q2 : w1.cell? ⟨w.heap.size + 1, 2, none⟩ = some (.bool v.mrk) := hb1.cell 2; have f1 := hb1.frozen 1; have f2 := hb1.frozen 2; clear hb1 hx1)
    | ((with_reducible show wpList _ _ _ (⟨some 16, _, _, _, _, _⟩ :: _) _ _); go_must ((change wpList _ _ _ _ _ ((w1.setCell ⟨w.heap.size + 1, 1, none⟩ (.bool n)).setCell ⟨w.heap.size + 1, 2, none⟩ (.bool m))); have hb3 := (HB1.out.set_ 1 (.bool n)).set_ 2 (.bool m); rw [aheadV_cs, HVN.out] at hb3; have hx3 : Ext No w ((w1.setCell ⟨w.heap.size + 1, 1, none⟩ (.bool n)).setCell ⟨w.heap.size + 1, 2, none⟩ (.bool m)) := (HX1.out.setCell (p := ⟨w.heap.size + 1, 1, none⟩) (fun h => by have h : w.heap.size + 1 < w.heap.size := h; omega) _).setCell (p := ⟨w.heap.size + 1, 2, none⟩) (fun h => by have h : w.heap.size + 1 < w.heap.size := h; omega) _; generalize ((w1.setCell ⟨w.heap.size + 1, 1, none⟩ (.bool n)).setCell ⟨w.heap.size + 1, 2, none⟩ (.bool m)) = w3 at hb3 hx3 ⊢; have HX3 := Lib.hid hx3; refine load_blk 55 (.tmp 9) rfl rfl hb3 rfl _ Try.underlying55 rfl size_ver ?_; clear hb3 hx3 q1 q2 f1 f2))
    | (at_builtin; go_must (rw [fold_cs]; refine app_vers (.tmp 18) (.tmp 19) rfl rfl w.heap.size B _ _ [vn] ls rfl rfl (OwnV.lit (HVO.out.ext_no HX3.out) HX3.out.size) (HL.out.ext_no (HX3.out.alloc _)) (by simp; omega) (by rw [World.size_alloc]; have := HX3.out.size; omega) hBw ?_); intro v4 w4 ho4 hx4; have HO4 := Lib.hid ho4; have HX4 := Lib.hid ((HX3.out.alloc _).transS hx4 (fun j hj e => by have := ((OwnV.lit (HVO.out.ext_no HX3.out) HX3.out.size).lt j e).1; omega)); clear ho4 hx4))
  go_ret
  refine ⟨_, rfl, ?_, HX4.out⟩
  have h := HO4.out.vs
  rw [← HVN.out] at h
  exact h
theorem bareR_none {ls : List Vr} {now : Int} (h : fnd ls 0 = none) : bareR ls now = (ls, 0) := by unfold bareR; rw [h]
theorem bareR_some {ls : List Vr} {now : Int} {i : Nat} (h : fnd ls 0 = some i) : bareR ls now = if heldV (ls[i]'(fnd_lt h)) now then (ls, 14) else (ls.eraseIdx i, 0) := by
  unfold bareR; rw [h]
  have e : ls.getD i Vr.zero = ls[i]'(fnd_lt h) := by rw [List.getD_eq_getElem?_getD, List.getElem?_eq_getElem (fnd_lt h)]; rfl
  simp only [e]
theorem remR_none {ls : List Vr} {id now : Int} (h : fnd ls id = none) : remR ls id now = (ls, 9) := by unfold remR; rw [h]
theorem remR_some {ls : List Vr} {id now : Int} {i : Nat} (h : fnd ls id = some i) : remR ls id now = if id < 0 then (ls, 9) else if heldV (ls[i]'(fnd_lt h)) now then (ls, 14) else (ls.eraseIdx i, 0) := by
  unfold remR; rw [h]
  have e : ls.getD i Vr.zero = ls[i]'(fnd_lt h) := by rw [List.getD_eq_getElem?_getD, List.getElem?_eq_getElem (fnd_lt h)]; rfl
  simp only [e]
set_option maxRecDepth 100000 in
set_option maxHeartbeats 1000000 in
theorem rfBare_any (lv : Value) (ls : List Vr) (now : Int) (B : Nat) (w : World) (hl : Vs w Any B lv ls) (hll : ls.length ≤ 1000) (hBw : B ≤ w.heap.size) :
    Calls Try.prog 58 #[lv, .int .i64 now] w fun e w' => ∃ ov, e = .returned (.tuple #[ov, .int .i64 (bareR ls now).2]) ∧ Vs w' Any B ov (bareR ls now).1 ∧ Ext No w w' := by
  have HL := Lib.hid hl
  have HF := Lib.hid (rfFind_any lv ls 0 B w hl (by omega))
  obtain ⟨A, c, rfl, hc, hm, b, off, hrow⟩ := hl.slice
  have HR := Lib.hid hrow
  clear hl hrow
  cases hf : fnd ls 0 with
  | none =>
    have HI : Hid (fndI ls 0 = -1) := Lib.hid (by unfold fndI; rw [hf])
    rw [bareR_none hf]
    clear hf
    go_enter Try.func58, Try.ntmps58
    go_wp2_with (go_at_call 27; go_must (refine HF.out.mono ?_); rintro e1 w1 ⟨rfl, hx1⟩; rw [HI.out]; have HX1 := Lib.hid hx1; have HL1 := Lib.hid (HL.out.ext_no hx1); clear hx1)
    go_ret2
    exact ⟨_, rfl, HL1.out, HX1.out⟩
  | some i =>
    have HI : Hid (fndI ls 0 = (i : Int)) := Lib.hid (by unfold fndI; rw [hf])
    have hlt := fnd_lt hf
    obtain ⟨rfl, -, hb, hr, -⟩ := HR.out i hlt
    have HC := Lib.hid (fun (wx : World) (hx : Ext No w wx) => (range_ext hr hx hb (fun h => h)) 5 _ rfl)
    rw [bareR_some hf]
    obtain ⟨x, hx⟩ : ∃ x, ls[i] = x := ⟨_, rfl⟩
    rw [hx] at HC ⊢
    clear hf hr hx
    have t0 : (i : Int) < (ls.length : Int) := by omega
    by_cases hh : now < x.til
    · rw [if_pos (show heldV x now = true from decide_eq_true hh)]
      go_enter Try.func58, Try.ntmps58
      go_wp2_with (go_at_call 27; go_must (refine HF.out.mono ?_); rintro e1 w1 ⟨rfl, hx1⟩; rw [HI.out]; have HX1 := Lib.hid hx1; have HL1 := Lib.hid (HL.out.ext_no hx1); have c5 : w1.cell? ⟨b, off + i * 11 + 5, none⟩ = some (.int .i64 x.til) := HC.out w1 hx1; clear hx1)
      go_ret2
      exact ⟨_, rfl, HL1.out, HX1.out⟩
    · rw [if_neg (show ¬ heldV x now = true by unfold heldV; rw [decide_eq_true_eq]; exact hh)]
      go_enter Try.func58, Try.ntmps58
      go_wp2_with (first
        | (go_at_call 27; go_must (refine HF.out.mono ?_); rintro e1 w1 ⟨rfl, hx1⟩; rw [HI.out]; have HX1 := Lib.hid hx1; have HL1 := Lib.hid (HL.out.ext_no hx1); have c5 : w1.cell? ⟨b, off + i * 11 + 5, none⟩ = some (.int .i64 x.til) := HC.out w1 hx1; clear hx1)
        | (go_at_call 59; go_must (refine (rfWithout_any _ ls i B w1 HL1.out hll hlt (Nat.le_trans hBw HX1.out.size)).mono ?_); rintro e2 w2 ⟨ov, rfl, ho2, hx2⟩; have HO2 := Lib.hid ho2; have HX2 := Lib.hid (HX1.out.trans hx2); clear ho2 hx2 c5))
      go_ret2
      exact ⟨_, rfl, HO2.out.vs, HX2.out⟩
set_option maxRecDepth 100000 in
set_option maxHeartbeats 1000000 in
theorem rfRemove_any (lv : Value) (ls : List Vr) (id now : Int) (B : Nat) (w : World) (hl : Vs w Any B lv ls) (hll : ls.length ≤ 1000) (hBw : B ≤ w.heap.size) :
    Calls Try.prog 45 #[lv, .int .i64 id, .int .i64 now] w fun e w' => ∃ ov, e = .returned (.tuple #[ov, .int .i64 (remR ls id now).2]) ∧ Vs w' Any B ov (remR ls id now).1 ∧ Ext No w w' := by
  have HL := Lib.hid hl
  have HF := Lib.hid (rfFind_any lv ls id B w hl (by omega))
  obtain ⟨A, c, rfl, hc, hm, b, off, hrow⟩ := hl.slice
  have HR := Lib.hid hrow
  clear hl hrow
  cases hf : fnd ls id with
  | none =>
    have HI : Hid (fndI ls id = -1) := Lib.hid (by unfold fndI; rw [hf])
    rw [remR_none hf]
    clear hf
    go_enter Try.func45, Try.ntmps45
    go_wp2_with (go_at_call 27; go_must (refine HF.out.mono ?_); rintro e1 w1 ⟨rfl, hx1⟩; rw [HI.out]; have HX1 := Lib.hid hx1; have HL1 := Lib.hid (HL.out.ext_no hx1); clear hx1)
    go_ret2
    exact ⟨_, rfl, HL1.out, HX1.out⟩
  | some i =>
    have HI : Hid (fndI ls id = (i : Int)) := Lib.hid (by unfold fndI; rw [hf])
    have hlt := fnd_lt hf
    obtain ⟨rfl, -, hb, hr, -⟩ := HR.out i hlt
    have HC := Lib.hid (fun (wx : World) (hx : Ext No w wx) => (range_ext hr hx hb (fun h => h)) 5 _ rfl)
    rw [remR_some hf]
    obtain ⟨x, hx⟩ : ∃ x, ls[i] = x := ⟨_, rfl⟩
    rw [hx] at HC ⊢
    clear hf hr hx
    have t0 : (i : Int) < (ls.length : Int) := by omega
    by_cases hid : id < 0
    · rw [if_pos hid]
      go_enter Try.func45, Try.ntmps45
      go_wp2_with (go_at_call 27; go_must (refine HF.out.mono ?_); rintro e1 w1 ⟨rfl, hx1⟩; rw [HI.out]; have HX1 := Lib.hid hx1; have HL1 := Lib.hid (HL.out.ext_no hx1); clear hx1)
      go_ret2
      exact ⟨_, rfl, HL1.out, HX1.out⟩
    · rw [if_neg hid]
      by_cases hh : now < x.til
      · rw [if_pos (show heldV x now = true from decide_eq_true hh)]
        go_enter Try.func45, Try.ntmps45
        go_wp2_with (go_at_call 27; go_must (refine HF.out.mono ?_); rintro e1 w1 ⟨rfl, hx1⟩; rw [HI.out]; have HX1 := Lib.hid hx1; have HL1 := Lib.hid (HL.out.ext_no hx1); have c5 : w1.cell? ⟨b, off + i * 11 + 5, none⟩ = some (.int .i64 x.til) := HC.out w1 hx1; clear hx1)
        go_ret2
        exact ⟨_, rfl, HL1.out, HX1.out⟩
      · rw [if_neg (show ¬ heldV x now = true by unfold heldV; rw [decide_eq_true_eq]; exact hh)]
        go_enter Try.func45, Try.ntmps45
        go_wp2_with (first
          | (go_at_call 27; go_must (refine HF.out.mono ?_); rintro e1 w1 ⟨rfl, hx1⟩; rw [HI.out]; have HX1 := Lib.hid hx1; have HL1 := Lib.hid (HL.out.ext_no hx1); have c5 : w1.cell? ⟨b, off + i * 11 + 5, none⟩ = some (.int .i64 x.til) := HC.out w1 hx1; clear hx1)
          | (go_at_call 59; go_must (refine (rfWithout_any _ ls i B w1 HL1.out hll hlt (Nat.le_trans hBw HX1.out.size)).mono ?_); rintro e2 w2 ⟨ov, rfl, ho2, hx2⟩; have HO2 := Lib.hid ho2; have HX2 := Lib.hid (HX1.out.trans hx2); clear ho2 hx2 c5))
        go_ret2
        exact ⟨_, rfl, HO2.out.vs, HX2.out⟩
theorem bareR_len (ls : List Vr) (now : Int) : (bareR ls now).1.length ≤ ls.length := by
  cases hf : fnd ls 0 with
  | none => rw [bareR_none hf]; exact Nat.le_refl _
  | some i =>
    rw [bareR_some hf]
    split
    · exact Nat.le_refl _
    · exact List.length_eraseIdx_le _ _
set_option maxRecDepth 100000 in
set_option maxHeartbeats 1000000 in
theorem rfPut_any (lv : Value) (ls : List Vr) (st now : Int) (v : Vr) (B : Nat) (w : World) (hl : Vs w Any B lv ls) (hll : ls.length ≤ 1000) (hv : Vr.Ok w (fun b => b < B) v) (hBw : B ≤ w.heap.size) :
    Calls Try.prog 42 #[lv, .int .i64 st, .int .i64 now, .agg v.cs.toArray] w fun e w' => ∃ ov, e = .returned (.tuple #[ov, .int .i64 (putR ls st now v).2]) ∧ Vs w' Any B ov (putR ls st now v).1 ∧ Ext No w w' := by
  have HL := Lib.hid hl
  have hx0 : Ext No w (w.alloc (.cells v.cs.toArray 55)) := (Ext.refl No w).alloc _
  have HB := Lib.hid (Blk.new w 55 v.cs.toArray)
  have HL0 := Lib.hid (hl.ext_no hx0)
  have HV0 := Lib.hid (hv.ext_no hx0)
  have HBW : Hid (B ≤ (w.alloc (.cells v.cs.toArray 55)).heap.size) := Lib.hid (Nat.le_trans hBw hx0.size)
  have HX0 := Lib.hid hx0
  have HM := Lib.hid (bareR_len ls now)
  clear hl hx0 hv
  by_cases hs : st = 1
  · rw [show putR ls st now v = (ahead ls v false false, 0) by unfold putR; rw [if_pos hs]]
    subst hs
    go_enter Try.func42, Try.ntmps42
    go_wp2_with (first
      | ((with_reducible show wpList _ _ _ (⟨some 15, _, _, _, _, _⟩ :: _) _ _); refine load_blk 55 (.tmp 7) rfl rfl HB.out rfl _ Try.underlying55 rfl size_ver ?_)
      | (go_at_call 57; go_must (refine (rfAhead_any _ ls v false false B _ HL0.out hll HV0.out HBW.out).mono ?_); rintro e3 w3 ⟨ov3, rfl, hv3, hx3⟩; have HO3 := Lib.hid hv3; have HX3 := Lib.hid (HX0.out.trans hx3); clear hv3 hx3))
    go_ret2
    exact ⟨_, rfl, HO3.out, HX3.out⟩
  · have t1 : (st == 1) = false := by rw [beq_eq_false_iff_ne]; exact hs
    obtain ⟨cc, hcc⟩ : ∃ c, (bareR ls now).2 = c := ⟨_, rfl⟩
    have HC := Lib.hid hcc
    by_cases h0 : cc = 0
    · rw [show putR ls st now v = (ahead (bareR ls now).1 v true false, 0) by unfold putR; rw [if_neg hs, if_pos (hcc.trans h0)]]
      subst h0
      clear hcc
      go_enter Try.func42, Try.ntmps42
      go_wp2_with (first
        | (go_at_call 58; go_must (refine (rfBare_any lv ls now B _ HL0.out hll HBW.out).mono ?_); rintro e1 w1 ⟨ov1, rfl, hv1, hx1⟩; rw [HC.out]; have HO1 := Lib.hid hv1; have HX1 := Lib.hid (HX0.out.trans hx1); have HB1 := Lib.hid (HB.out.ext_no hx1); have HV1 := Lib.hid (HV0.out.ext_no hx1); have HL1 := Lib.hid (HL0.out.ext_no hx1); clear hv1 hx1)
        | ((with_reducible show wpList _ _ _ (⟨some 28, _, _, _, _, _⟩ :: _) _ _); refine load_blk 55 (.tmp 7) rfl rfl HB1.out rfl _ Try.underlying55 rfl size_ver ?_)
        | (go_at_call 57; go_must (refine (rfAhead_any _ (bareR ls now).1 v true false B w1 HO1.out (Nat.le_trans HM.out hll) HV1.out (Nat.le_trans hBw HX1.out.size)).mono ?_); rintro e3 w3 ⟨ov3, rfl, hv3, hx3⟩; have HO3 := Lib.hid hv3; have HX3 := Lib.hid (HX1.out.trans hx3); clear hv3 hx3))
      go_ret2
      exact ⟨_, rfl, HO3.out, HX3.out⟩
    · rw [show putR ls st now v = (ls, (bareR ls now).2) by unfold putR; rw [if_neg hs, if_neg (by rw [hcc]; exact h0)], hcc]
      have t2 : (cc == 0) = false := by rw [beq_eq_false_iff_ne]; exact h0
      have t3 : (cc != 0) = true := by rw [bne_iff_ne]; exact h0
      clear hcc
      go_enter Try.func42, Try.ntmps42
      go_wp2_with (first
        | (go_at_call 58; go_must (refine (rfBare_any lv ls now B _ HL0.out hll HBW.out).mono ?_); rintro e1 w1 ⟨ov1, rfl, hv1, hx1⟩; rw [HC.out]; have HO1 := Lib.hid hv1; have HX1 := Lib.hid (HX0.out.trans hx1); have HB1 := Lib.hid (HB.out.ext_no hx1); have HV1 := Lib.hid (HV0.out.ext_no hx1); have HL1 := Lib.hid (HL0.out.ext_no hx1); clear hv1 hx1))
      go_ret2
      exact ⟨_, rfl, HL1.out, HX1.out⟩
set_option maxRecDepth 100000 in
set_option maxHeartbeats 1000000 in
theorem rfDelete_any (lv : Value) (ls : List Vr) (st now : Int) (v : Vr) (B : Nat) (w : World) (hl : Vs w Any B lv ls) (hll : ls.length ≤ 1000) (hv : Vr.Ok w (fun b => b < B) v) (hBw : B ≤ w.heap.size) :
    Calls Try.prog 43 #[lv, .int .i64 st, .int .i64 now, .agg v.cs.toArray] w fun e w' => ∃ ov, e = .returned (.tuple #[ov, .bool (delR ls st now v).2.1, .int .i64 (delR ls st now v).2.2]) ∧ Vs w' Any B ov (delR ls st now v).1 ∧ Ext No w w' := by
  have HL := Lib.hid hl
  have hx0 : Ext No w (w.alloc (.cells v.cs.toArray 55)) := (Ext.refl No w).alloc _
  have HB := Lib.hid (Blk.new w 55 v.cs.toArray)
  have HL0 := Lib.hid (hl.ext_no hx0)
  have HV0 := Lib.hid (hv.ext_no hx0)
  have HBW : Hid (B ≤ (w.alloc (.cells v.cs.toArray 55)).heap.size) := Lib.hid (Nat.le_trans hBw hx0.size)
  have HX0 := Lib.hid hx0
  have HM := Lib.hid (bareR_len ls now)
  clear hl hx0 hv
  obtain ⟨cc, hcc⟩ : ∃ c, (bareR ls now).2 = c := ⟨_, rfl⟩
  have HC := Lib.hid hcc
  by_cases hz : st = 0
  · by_cases h0 : cc = 0
    · rw [show delR ls st now v = ((bareR ls now).1, false, 0) by unfold delR; rw [if_pos (Or.inl hz), if_pos (hcc.trans h0), if_pos hz]]
      subst h0 hz
      clear hcc
      go_enter Try.func43, Try.ntmps43
      go_wp2_with (first
        | (go_at_call 58; go_must (refine (rfBare_any lv ls now B _ HL0.out hll HBW.out).mono ?_); rintro e1 w1 ⟨ov1, rfl, hv1, hx1⟩; rw [HC.out]; have HO1 := Lib.hid hv1; have HX1 := Lib.hid (HX0.out.trans hx1); have HB1 := Lib.hid (HB.out.ext_no hx1); have HV1 := Lib.hid (HV0.out.ext_no hx1); have HL1 := Lib.hid (HL0.out.ext_no hx1); clear hv1 hx1))
      refine bodyPost_ret (ret_tmp3 rfl) rfl ?_
      exact ⟨_, rfl, HO1.out, HX1.out⟩
    · rw [show delR ls st now v = (ls, false, (bareR ls now).2) by unfold delR; rw [if_pos (Or.inl hz), if_neg (by rw [hcc]; exact h0)], hcc]
      have t2 : (cc == 0) = false := by rw [beq_eq_false_iff_ne]; exact h0
      have t3 : (cc != 0) = true := by rw [bne_iff_ne]; exact h0
      subst hz
      clear hcc
      go_enter Try.func43, Try.ntmps43
      go_wp2_with (first
        | (go_at_call 58; go_must (refine (rfBare_any lv ls now B _ HL0.out hll HBW.out).mono ?_); rintro e1 w1 ⟨ov1, rfl, hv1, hx1⟩; rw [HC.out]; have HO1 := Lib.hid hv1; have HX1 := Lib.hid (HX0.out.trans hx1); have HB1 := Lib.hid (HB.out.ext_no hx1); have HV1 := Lib.hid (HV0.out.ext_no hx1); have HL1 := Lib.hid (HL0.out.ext_no hx1); clear hv1 hx1))
      refine bodyPost_ret (ret_tmp3 rfl) rfl ?_
      exact ⟨_, rfl, HL1.out, HX1.out⟩
  · have t1 : (st == 0) = false := by rw [beq_eq_false_iff_ne]; exact hz
    have t1' : (st != 0) = true := by rw [bne_iff_ne]; exact hz
    by_cases h2 : st = 2
    · by_cases h0 : cc = 0
      · rw [show delR ls st now v = (ahead (bareR ls now).1 v true true, true, 0) by unfold delR; rw [if_pos (Or.inr h2), if_pos (hcc.trans h0), if_neg hz]]
        subst h0 h2
        clear hcc
        go_enter Try.func43, Try.ntmps43
        go_wp2_with (first
          | (go_at_call 58; go_must (refine (rfBare_any lv ls now B _ HL0.out hll HBW.out).mono ?_); rintro e1 w1 ⟨ov1, rfl, hv1, hx1⟩; rw [HC.out]; have HO1 := Lib.hid hv1; have HX1 := Lib.hid (HX0.out.trans hx1); have HB1 := Lib.hid (HB.out.ext_no hx1); have HV1 := Lib.hid (HV0.out.ext_no hx1); have HL1 := Lib.hid (HL0.out.ext_no hx1); clear hv1 hx1)
          | ((with_reducible show wpList _ _ _ (⟨some 36, _, _, _, _, _⟩ :: _) _ _); refine load_blk 55 (.tmp 7) rfl rfl HB1.out rfl _ Try.underlying55 rfl size_ver ?_)
          | (go_at_call 57; go_must (refine (rfAhead_any _ (bareR ls now).1 v true true B w1 HO1.out (Nat.le_trans HM.out hll) HV1.out (Nat.le_trans hBw HX1.out.size)).mono ?_); rintro e3 w3 ⟨ov3, rfl, hv3, hx3⟩; have HO3 := Lib.hid hv3; have HX3 := Lib.hid (HX1.out.trans hx3); clear hv3 hx3))
        refine bodyPost_ret (ret_tmp3 rfl) rfl ?_
        exact ⟨_, rfl, HO3.out, HX3.out⟩
      · rw [show delR ls st now v = (ls, false, (bareR ls now).2) by unfold delR; rw [if_pos (Or.inr h2), if_neg (by rw [hcc]; exact h0)], hcc]
        have t2 : (cc == 0) = false := by rw [beq_eq_false_iff_ne]; exact h0
        have t3 : (cc != 0) = true := by rw [bne_iff_ne]; exact h0
        subst h2
        clear hcc
        go_enter Try.func43, Try.ntmps43
        go_wp2_with (first
          | (go_at_call 58; go_must (refine (rfBare_any lv ls now B _ HL0.out hll HBW.out).mono ?_); rintro e1 w1 ⟨ov1, rfl, hv1, hx1⟩; rw [HC.out]; have HO1 := Lib.hid hv1; have HX1 := Lib.hid (HX0.out.trans hx1); have HB1 := Lib.hid (HB.out.ext_no hx1); have HV1 := Lib.hid (HV0.out.ext_no hx1); have HL1 := Lib.hid (HL0.out.ext_no hx1); clear hv1 hx1))
        refine bodyPost_ret (ret_tmp3 rfl) rfl ?_
        exact ⟨_, rfl, HL1.out, HX1.out⟩
    · rw [show delR ls st now v = (ahead ls v false true, true, 0) by unfold delR; rw [if_neg (by omega)]]
      have t2 : (st == 2) = false := by rw [beq_eq_false_iff_ne]; exact h2
      have t2' : (st != 2) = true := by rw [bne_iff_ne]; exact h2
      clear hcc
      go_enter Try.func43, Try.ntmps43
      go_wp2_with (first
        | ((with_reducible show wpList _ _ _ (⟨some 20, _, _, _, _, _⟩ :: _) _ _); refine load_blk 55 (.tmp 7) rfl rfl HB.out rfl _ Try.underlying55 rfl size_ver ?_)
        | (go_at_call 57; go_must (refine (rfAhead_any _ ls v false true B _ HL0.out hll HV0.out HBW.out).mono ?_); rintro e3 w3 ⟨ov3, rfl, hv3, hx3⟩; have HO3 := Lib.hid hv3; have HX3 := Lib.hid (HX0.out.trans hx3); clear hv3 hx3))
      refine bodyPost_ret (ret_tmp3 rfl) rfl ?_
      exact ⟨_, rfl, HO3.out, HX3.out⟩
end Go.Proofs.Ytlfhfomidkadiaa
