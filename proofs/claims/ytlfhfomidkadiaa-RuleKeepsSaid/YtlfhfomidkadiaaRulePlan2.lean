/- Package rule: Remove, Put, Delete. -/
import Derived.Test.YtlfhfomidkadiaaRulePlan
set_option linter.unusedVariables false
set_option linter.unusedSimpArgs false
namespace Go.Proofs.Ytlfhfomidkadiaa
open Go.RowKit Go.Deep

theorem Vs.apart {w : World} {F : Nat → Prop} {B : Nat} {v : Value} {ls : List Vr} (h : Vs w F B v ls) {g : Nat} {t : TypeId} {cs : Array Value} (hb : Blk w g t cs) (hs : cs.size ≤ 10) : Vs w (fun b => b < w.heap.size ∧ b ≠ g) B v ls := by
  obtain ⟨⟨h1, A, c, hv, hc, hm, hn⟩, hok⟩ := h
  refine ⟨⟨h1, A, c, hv, hc, hm, fun h0 => ?_⟩, hok⟩
  obtain ⟨b, off, hA, _, hcell⟩ := hn h0
  have h10 := hcell 10 ((vcs ls)[10]'(by rw [vcs_length]; omega)) (List.getElem?_eq_getElem _)
  refine ⟨b, off, hA, ⟨World.block_lt_of_cell? w _ h10, ?_⟩, hcell⟩
  rintro rfl
  rw [hb.cell (off + 10), Array.getElem?_eq_none (by omega)] at h10
  cases h10
theorem Vs.both {w : World} {F G : Nat → Prop} {B : Nat} {v : Value} {ls : List Vr} (h : Vs w F B v ls) (h' : Vs w G B v ls) : Vs w (fun b => F b ∧ G b) B v ls := by
  obtain ⟨⟨h1, A, c, hv, hc, hm, hn⟩, hok⟩ := h
  obtain ⟨⟨_, A', c', hv', _, _, hn'⟩, _⟩ := h'
  rw [hv] at hv'
  injection hv' with e1 e2 e3
  subst e1 e3
  refine ⟨⟨h1, A, c, hv, hc, hm, fun h0 => ?_⟩, hok⟩
  obtain ⟨b, off, hA, hF, hcell⟩ := hn h0
  obtain ⟨b', off', hA', hG, _⟩ := hn' h0
  rw [hA] at hA'
  injection hA' with hA'
  injection hA' with e4
  subst e4
  exact ⟨b, off, hA, ⟨hF, hG⟩, hcell⟩
theorem remP_eq (ls : List Vr) (id now : Int) : remP ls id now = if isV ls id then (if id < 0 then (plNone, 9) else if heldV (gotV ls id) now then (plNone, 14) else (⟨[gotV ls id], false, false, false⟩, 0)) else (plNone, 9) := by
  unfold remP isV gotV
  cases pickV ls id <;> rfl
set_option maxRecDepth 100000 in
set_option maxHeartbeats 1000000 in
theorem rRemove_any (lv : Value) (ls : List Vr) (id now : Int) (B : Nat) (w : World) (hl : Vs w Any B lv ls) (hll : ls.length ≤ 1000000) (hBw : B ≤ w.heap.size) :
    Calls Try.prog 44 #[lv, .int .i64 id, .int .i64 now] w fun e w' => ∃ v, e = .returned (.tuple #[v, .int .i64 (remP ls id now).2]) ∧ IsPl w' B v (remP ls id now).1 ∧ Ext No w w' := by
  have hx0 : Ext No w (w.alloc (.cells zP 67)) := (Ext.refl No w).alloc _
  have HP := Lib.hid (rPick_any lv ls id B _ (hl.ext_no hx0) hll)
  have HZ := Lib.hid (Blk.new w 67 zP)
  have HX := Lib.hid hx0
  have HO := Lib.hid (got_ok hl id)
  have hbp := remP_eq ls id now
  obtain ⟨w0, hw0⟩ : ∃ x, w.alloc (.cells zP 67) = x := ⟨_, rfl⟩
  rw [hw0] at HP HZ HX
  have HW := Lib.hid hw0
  obtain ⟨x, hx⟩ : ∃ x, gotV ls id = x := ⟨_, rfl⟩
  obtain ⟨q, hq⟩ : ∃ q, isV ls id = q := ⟨_, rfl⟩
  have HH := Lib.hid (fun wx => rHeld_any x now wx)
  rw [hx, hq] at HP hbp
  rw [hx] at HO
  obtain ⟨hd, hhd⟩ : ∃ h, heldV x now = h := ⟨_, rfl⟩
  rw [hhd] at hbp HH
  rw [hbp]
  clear hl hx0 hw0 hx hq hbp hhd
  cases q with
  | false =>
    go_enter Try.func44, Try.ntmps44
    go_wp2_with (first
      | (go_at_call 26; go_must ((change Calls _ _ _ (w.alloc (.cells zP 67)) _); rw [HW.out]; refine HP.out.mono ?_); rintro e1 w1 ⟨rfl, hx1⟩; have HX1 := Lib.hid (HX.out.trans hx1); have HZ1 := Lib.hid (HZ.out.ext_no hx1); have HV1 := Lib.hid (Blk.new w1 55 Vr.zero.cs.toArray); have HZ2 := Lib.hid (HZ1.out.alloc (.cells Vr.zero.cs.toArray 55)); have HX2 := Lib.hid (HX1.out.alloc (.cells Vr.zero.cs.toArray 55)); have HLT : Hid (w.heap.size < w1.heap.size) := Lib.hid (by have := HZ1.out.lt; exact this); clear hx1)
      | ((with_reducible show wpList _ _ _ (⟨none, .store 55 _ _, _, _, _, _⟩ :: _) _ _); go_must ((change wpList _ _ _ _ _ (w1.alloc (.cells Vr.zero.cs.toArray 55))); refine store_blk 55 (.tmp 8) (.tmp 14) rfl rfl HV1.out rfl rfl rfl size_ver (cs_one' x) ?_); intro w3 hb3 hx3; have HB3 := Lib.hid hb3; have HZ3 := Lib.hid (HZ2.out.ext hx3 (fun e => by have e : w.heap.size = w1.heap.size := e; have := HLT.out; omega)); have HX3 := Lib.hid (HX2.out.transS hx3 (fun i hi e => by have e : i = w1.heap.size := e; have := HX1.out.size; omega)); clear hb3 hx3)
      | ((with_reducible show wpList _ _ _ (⟨none, .store 67 _ _, _, _, _, _⟩ :: _) _ _); go_must (refine store_blk 67 (.tmp 6) (.tmp 23) rfl rfl HZ3.out rfl (cs' := zP) rfl rfl size_plan (one4 _ rfl _ _ _) ?_); intro w5 hb5 hx5; have HB5 := Lib.hid hb5; have HX5 := Lib.hid (HX3.out.transS hx5 (fun i hi e => by have e : i = w.heap.size := e; omega)); clear hb5 hx5))
    exact bodyPost_ret (ret_blk2 rfl HB5.out rfl _ Try.underlying67 rfl size_plan) rfl ⟨_, rfl, IsPl.none _ _, HX5.out⟩
  | true =>
    by_cases hid : id < 0
    · rw [if_pos rfl, if_pos hid]
      go_enter Try.func44, Try.ntmps44
      go_wp2_with (first
        | (go_at_call 26; go_must ((change Calls _ _ _ (w.alloc (.cells zP 67)) _); rw [HW.out]; refine HP.out.mono ?_); rintro e1 w1 ⟨rfl, hx1⟩; have HX1 := Lib.hid (HX.out.trans hx1); have HZ1 := Lib.hid (HZ.out.ext_no hx1); have HV1 := Lib.hid (Blk.new w1 55 Vr.zero.cs.toArray); have HZ2 := Lib.hid (HZ1.out.alloc (.cells Vr.zero.cs.toArray 55)); have HX2 := Lib.hid (HX1.out.alloc (.cells Vr.zero.cs.toArray 55)); have HLT : Hid (w.heap.size < w1.heap.size) := Lib.hid (by have := HZ1.out.lt; exact this); clear hx1)
        | ((with_reducible show wpList _ _ _ (⟨none, .store 55 _ _, _, _, _, _⟩ :: _) _ _); go_must ((change wpList _ _ _ _ _ (w1.alloc (.cells Vr.zero.cs.toArray 55))); refine store_blk 55 (.tmp 8) (.tmp 14) rfl rfl HV1.out rfl rfl rfl size_ver (cs_one' x) ?_); intro w3 hb3 hx3; have HB3 := Lib.hid hb3; have HZ3 := Lib.hid (HZ2.out.ext hx3 (fun e => by have e : w.heap.size = w1.heap.size := e; have := HLT.out; omega)); have HX3 := Lib.hid (HX2.out.transS hx3 (fun i hi e => by have e : i = w1.heap.size := e; have := HX1.out.size; omega)); clear hb3 hx3)
        | ((with_reducible show wpList _ _ _ (⟨none, .store 67 _ _, _, _, _, _⟩ :: _) _ _); go_must (refine store_blk 67 (.tmp 6) (.tmp 23) rfl rfl HZ3.out rfl (cs' := zP) rfl rfl size_plan (one4 _ rfl _ _ _) ?_); intro w5 hb5 hx5; have HB5 := Lib.hid hb5; have HX5 := Lib.hid (HX3.out.transS hx5 (fun i hi e => by have e : i = w.heap.size := e; omega)); clear hb5 hx5))
      exact bodyPost_ret (ret_blk2 rfl HB5.out rfl _ Try.underlying67 rfl size_plan) rfl ⟨_, rfl, IsPl.none _ _, HX5.out⟩
    · rw [if_pos rfl, if_neg hid]
      cases hd with
      | true =>
        go_enter Try.func44, Try.ntmps44
        go_wp2_with (first
          | (go_at_call 26; go_must ((change Calls _ _ _ (w.alloc (.cells zP 67)) _); rw [HW.out]; refine HP.out.mono ?_); rintro e1 w1 ⟨rfl, hx1⟩; have HX1 := Lib.hid (HX.out.trans hx1); have HZ1 := Lib.hid (HZ.out.ext_no hx1); have HV1 := Lib.hid (Blk.new w1 55 Vr.zero.cs.toArray); have HZ2 := Lib.hid (HZ1.out.alloc (.cells Vr.zero.cs.toArray 55)); have HX2 := Lib.hid (HX1.out.alloc (.cells Vr.zero.cs.toArray 55)); have HLT : Hid (w.heap.size < w1.heap.size) := Lib.hid (by have := HZ1.out.lt; exact this); clear hx1)
          | ((with_reducible show wpList _ _ _ (⟨none, .store 55 _ _, _, _, _, _⟩ :: _) _ _); go_must ((change wpList _ _ _ _ _ (w1.alloc (.cells Vr.zero.cs.toArray 55))); refine store_blk 55 (.tmp 8) (.tmp 14) rfl rfl HV1.out rfl rfl rfl size_ver (cs_one' x) ?_); intro w3 hb3 hx3; have HB3 := Lib.hid hb3; have HZ3 := Lib.hid (HZ2.out.ext hx3 (fun e => by have e : w.heap.size = w1.heap.size := e; have := HLT.out; omega)); have HX3 := Lib.hid (HX2.out.transS hx3 (fun i hi e => by have e : i = w1.heap.size := e; have := HX1.out.size; omega)); clear hb3 hx3)
          | ((with_reducible show wpList _ _ _ (⟨some 25, _, _, _, _, _⟩ :: _) _ _); refine load_blk 55 (.tmp 8) rfl rfl HB3.out rfl _ Try.underlying55 rfl size_ver ?_)
          | (go_at_call 30; refine (HH.out w3).mono ?_; rintro e4 w4 ⟨rfl, hx4⟩; have HX4 := Lib.hid (HX3.out.trans hx4); have HBV := Lib.hid (HB3.out.ext_no hx4); have HZ4 := Lib.hid (HZ3.out.ext_no hx4); clear hx4)
          | ((with_reducible show wpList _ _ _ (⟨none, .store 67 _ _, _, _, _, _⟩ :: _) _ _); go_must (refine store_blk 67 (.tmp 6) (.tmp 28) rfl rfl HZ4.out rfl (cs' := zP) rfl rfl size_plan (one4 _ rfl _ _ _) ?_); intro w5 hb5 hx5; have HB5 := Lib.hid hb5; have HX5 := Lib.hid (HX4.out.transS hx5 (fun i hi e => by have e : i = w.heap.size := e; omega)); clear hb5 hx5))
        exact bodyPost_ret (ret_blk2 rfl HB5.out rfl _ Try.underlying67 rfl size_plan) rfl ⟨_, rfl, IsPl.none _ _, HX5.out⟩
      | false =>
        have hcl : x.cs.length = 11 := rfl
        go_enter Try.func44, Try.ntmps44
        go_wp2_with (first
          | (go_at_call 26; go_must ((change Calls _ _ _ (w.alloc (.cells zP 67)) _); rw [HW.out]; refine HP.out.mono ?_); rintro e1 w1 ⟨rfl, hx1⟩; have HX1 := Lib.hid (HX.out.trans hx1); have HZ1 := Lib.hid (HZ.out.ext_no hx1); have HV1 := Lib.hid (Blk.new w1 55 Vr.zero.cs.toArray); have HZ2 := Lib.hid (HZ1.out.alloc (.cells Vr.zero.cs.toArray 55)); have HX2 := Lib.hid (HX1.out.alloc (.cells Vr.zero.cs.toArray 55)); have HLT : Hid (w.heap.size < w1.heap.size) := Lib.hid (by have := HZ1.out.lt; exact this); clear hx1)
          | ((with_reducible show wpList _ _ _ (⟨none, .store 55 _ _, _, _, _, _⟩ :: _) _ _); go_must ((change wpList _ _ _ _ _ (w1.alloc (.cells Vr.zero.cs.toArray 55))); refine store_blk 55 (.tmp 8) (.tmp 14) rfl rfl HV1.out rfl rfl rfl size_ver (cs_one' x) ?_); intro w3 hb3 hx3; have HB3 := Lib.hid hb3; have HZ3 := Lib.hid (HZ2.out.ext hx3 (fun e => by have e : w.heap.size = w1.heap.size := e; have := HLT.out; omega)); have HX3 := Lib.hid (HX2.out.transS hx3 (fun i hi e => by have e : i = w1.heap.size := e; have := HX1.out.size; omega)); have hx33 := Lib.hid hx3; clear hb3 hx3)
          | ((with_reducible show wpList _ _ _ (⟨some 25, _, _, _, _, _⟩ :: _) _ _); refine load_blk 55 (.tmp 8) rfl rfl HB3.out rfl _ Try.underlying55 rfl size_ver ?_)
          | (go_at_call 30; go_must (refine (HH.out w3).mono ?_; rintro e4 w4 ⟨rfl, hx4⟩; have HX4 := Lib.hid (HX3.out.trans hx4); have HBV := Lib.hid (HB3.out.ext_no hx4); have HZ4 := Lib.hid (HZ3.out.ext_no hx4); have HX14 := Lib.hid ((((Ext.refl No w1).alloc (.cells Vr.zero.cs.toArray 55)).transS hx33.out (fun i hi e => by have e : i = w1.heap.size := e; omega)).trans hx4); clear hx4))
          | ((with_reducible show wpList _ _ _ (⟨some 29, _, _, _, _, _⟩ :: _) _ _); go_must (refine load_blk 55 (.tmp 8) rfl rfl HBV.out rfl _ Try.underlying55 rfl size_ver ?_; have HS : Hid (Vs (w4.alloc (.cells x.cs.toArray 55)) (fun b => b = w4.heap.size) B (.slice (some ⟨w4.heap.size, 0, none⟩) 1 1) [x]) := Lib.hid (Vs.lit1' (HO.out.ext_no HX4.out))))
          | ((with_reducible show wpList _ _ _ (⟨none, .store 67 _ _, _, _, _, _⟩ :: _) _ _); go_must (rw [fold_cs]; refine store_blk 67 (.tmp 6) (.tmp 31) rfl rfl (HZ4.out.alloc _) rfl (cs' := #[.slice (some ⟨w4.heap.size, 0, none⟩) 1 1, .bool false, .bool false, .bool false]) rfl rfl size_plan (one4 _ rfl _ _ _) ?_); intro w5 hb5 hx5; have HB5 := Lib.hid hb5; have HS5 := Lib.hid ((HS.out.far hx5 (fun b hb e => by have e : b = w.heap.size := e; have hb : b = w4.heap.size := hb; have := HLT.out; have := HX14.out.size; omega) (fun b hb e => by have e : b = w.heap.size := e; omega)).any); have HX5 := Lib.hid ((HX4.out.alloc _).transS hx5 (fun i hi e => by have e : i = w.heap.size := e; omega)); clear hb5 hx5))
        exact bodyPost_ret (ret_blk2 rfl HB5.out rfl _ Try.underlying67 rfl size_plan) rfl ⟨_, rfl, ⟨_, rfl, HS5.out⟩, HX5.out⟩

set_option maxRecDepth 100000 in
set_option maxHeartbeats 1000000 in
theorem rPut_any (lv : Value) (ls : List Vr) (st now : Int) (B : Nat) (w : World) (hl : Vs w Any B lv ls) (hll : ls.length ≤ 1000000) (hBw : B ≤ w.heap.size) :
    Calls Try.prog 38 #[lv, .int .i64 st, .int .i64 now] w fun e w' => ∃ v, e = .returned (.tuple #[v, .int .i64 (putP ls st now).2]) ∧ IsPl w' B v (putP ls st now).1 ∧ Ext No w w' := by
  have hx0 : Ext No w (w.alloc (.cells zP 67)) := (Ext.refl No w).alloc _
  have HP := Lib.hid (rBare_any lv ls now B _ (hl.ext_no hx0) hll (by have := hx0.size; omega))
  have HZ := Lib.hid (Blk.new w 67 zP)
  have HX := Lib.hid hx0
  obtain ⟨w0, hw0⟩ : ∃ x, w.alloc (.cells zP 67) = x := ⟨_, rfl⟩
  rw [hw0] at HP HZ HX
  have HW := Lib.hid hw0
  unfold putP
  obtain ⟨bp, hbp⟩ : ∃ b, bareP ls now = b := ⟨_, rfl⟩
  rw [hbp] at HP ⊢
  obtain ⟨p, c⟩ := bp
  simp only at HP ⊢
  clear hl hx0 hw0 hbp
  by_cases hs : st = 1
  · rw [if_pos hs]
    subst hs
    go_enter Try.func38, Try.ntmps38
    go_wp2_with ((with_reducible show wpList _ _ _ (⟨none, .store 67 _ _, _, _, _, _⟩ :: _) _ _); go_must ((change wpList _ _ _ _ _ (w.alloc (.cells zP 67))); rw [HW.out]; refine store_blk 67 (.tmp 6) (.tmp 12) rfl rfl HZ.out rfl (cs' := #[.slice none 0 0, .bool true, .bool false, .bool false]) rfl rfl size_plan (one4 _ rfl _ _ _) ?_); intro w5 hb5 hx5; have HB5 := Lib.hid hb5; have HX5 := Lib.hid (HX.out.transS hx5 (fun i hi e => by have e : i = w.heap.size := e; omega)); clear hb5 hx5)
    exact bodyPost_ret (ret_blk2 rfl HB5.out rfl _ Try.underlying67 rfl size_plan) rfl ⟨_, rfl, ⟨_, rfl, Vs.nil _ _ _⟩, HX5.out⟩
  · rw [if_neg hs]
    have t0 : (st == 1) = false := by simpa using hs
    by_cases hc : c = 0
    · rw [if_pos hc]
      subst hc
      go_enter Try.func38, Try.ntmps38
      go_wp2_with (first
        | (go_at_call 54; go_must ((change Calls _ _ _ (w.alloc (.cells zP 67)) _); rw [HW.out]; refine HP.out.mono ?_); rintro e1 w1 ⟨v1, rfl, ⟨gv, rfl, hgv⟩, hx1⟩; obtain ⟨gA, gc, rfl, -⟩ := hgv.slice; have HGV := Lib.hid (hgv.apart (HZ.out.ext_no hx1) (by decide)); have HX1 := Lib.hid (HX.out.trans hx1); have HZ1 := Lib.hid (HZ.out.ext_no hx1); have HV1 := Lib.hid (Blk.new w1 67 zP); have HZ2 := Lib.hid (HZ1.out.alloc (.cells zP 67)); have HX2 := Lib.hid (HX1.out.alloc (.cells zP 67)); have HLT : Hid (w.heap.size < w1.heap.size) := Lib.hid (by have := HZ1.out.lt; exact this); clear hx1 hgv)
        | ((with_reducible show wpList _ _ _ (⟨none, .store 67 (.tmp 8) (.tmp 17), _, _, _, _⟩ :: _) _ _); go_must ((change wpList _ _ _ _ _ (w1.alloc (.cells zP 67))); refine store_blk 67 (.tmp 8) (.tmp 17) rfl rfl HV1.out rfl (cs' := #[.slice gA p.gone.length gc, .bool p.comes, .bool p.nul, .bool p.mrk]) rfl rfl size_plan (one4 _ rfl _ _ _) ?_); intro w3 hb3 hx3; have q3 := Blk.c4 hb3; have HB3 := Lib.hid hb3; have HZ3 := Lib.hid (HZ2.out.ext hx3 (fun e => by have e : w.heap.size = w1.heap.size := e; have := HLT.out; omega)); have HX3 := Lib.hid (HX2.out.transS hx3 (fun i hi e => by have e : i = w1.heap.size := e; have := HX1.out.size; omega)); have hx13 : Ext No w1 w3 := ((Ext.refl No w1).alloc _).transS hx3 (fun i hi e => by have e : i = w1.heap.size := e; omega); have HX13 := Lib.hid hx13; clear hb3 hx3 hx13)
        | ((with_reducible show wpList _ _ _ (⟨some 25, _, _, _, _, _⟩ :: _) _ _); have HB4 : Hid (Blk ((w3.setCell ⟨w1.heap.size, 1, none⟩ (.bool true)).setCell ⟨w1.heap.size, 2, none⟩ (.bool true)) w1.heap.size 67 #[.slice gA p.gone.length gc, .bool true, .bool true, .bool p.mrk]) := Lib.hid ((HB3.out.set_ 1 _).set_ 2 _); have hx34 : Ext (One w1.heap.size) w3 ((w3.setCell ⟨w1.heap.size, 1, none⟩ (.bool true)).setCell ⟨w1.heap.size, 2, none⟩ (.bool true)) := Ext.setCell (p := ⟨w1.heap.size, 2, none⟩) (Ext.setCell (p := ⟨w1.heap.size, 1, none⟩) (Ext.refl (One w1.heap.size) w3) (fun _ => rfl) _) (fun _ => rfl) _; have HZ4 := Lib.hid (HZ3.out.ext hx34 (fun e => by have e : w.heap.size = w1.heap.size := e; have := HLT.out; omega)); have HX4 := Lib.hid (HX3.out.transS hx34 (fun i hi e => by have e : i = w1.heap.size := e; have := HX1.out.size; omega)); have HX14 := Lib.hid (HX13.out.transS hx34 (fun i hi e => by have e : i = w1.heap.size := e; omega)); clear hx34 q3; go_must (generalize ((w3.setCell ⟨w1.heap.size, 1, none⟩ (.bool true)).setCell ⟨w1.heap.size, 2, none⟩ (.bool true)) = w4 at *; refine load_blk 67 (.tmp 8) rfl rfl HB4.out rfl _ Try.underlying67 rfl size_plan ?_))
        | ((with_reducible show wpList _ _ _ (⟨none, .store 67 (.tmp 6) (.tmp 25), _, _, _, _⟩ :: _) _ _); go_must (refine store_blk 67 (.tmp 6) (.tmp 25) rfl rfl HZ4.out rfl (cs' := #[.slice gA p.gone.length gc, .bool true, .bool true, .bool p.mrk]) rfl rfl size_plan (one4 _ rfl _ _ _) ?_); intro w5 hb5 hx5; have HB5 := Lib.hid hb5; have HX5 := Lib.hid (HX4.out.transS hx5 (fun i hi e => by have e : i = w.heap.size := e; omega)); have hx45 := Lib.hid hx5; clear hb5 hx5))
      have hgv5 : Vs w5 Any B (.slice gA p.gone.length gc) p.gone := ((HGV.out.far HX14.out (fun _ _ h => h) (fun _ _ h => h)).far hx45.out (fun b hb e => hb.2 e) (fun b hb e => by have e : b = w.heap.size := e; omega)).any
      exact bodyPost_ret (ret_blk2 rfl HB5.out rfl _ Try.underlying67 rfl size_plan) rfl ⟨_, rfl, ⟨_, rfl, hgv5⟩, HX5.out⟩

    · rw [if_neg hc]
      have t1 : (c != 0) = true := by simpa using hc
      go_enter Try.func38, Try.ntmps38
      go_wp2_with (first
        | (go_at_call 54; go_must ((change Calls _ _ _ (w.alloc (.cells zP 67)) _); rw [HW.out]; refine HP.out.mono ?_); rintro e1 w1 ⟨v1, rfl, ⟨gv, rfl, hgv⟩, hx1⟩; obtain ⟨gA, gc, rfl, -⟩ := hgv.slice; have HGV := Lib.hid hgv; have HX1 := Lib.hid (HX.out.trans hx1); have HZ1 := Lib.hid (HZ.out.ext_no hx1); have HV1 := Lib.hid (Blk.new w1 67 zP); have HZ2 := Lib.hid (HZ1.out.alloc (.cells zP 67)); have HX2 := Lib.hid (HX1.out.alloc (.cells zP 67)); have HLT : Hid (w.heap.size < w1.heap.size) := Lib.hid (by have := HZ1.out.lt; exact this); clear hx1 hgv)
        | ((with_reducible show wpList _ _ _ (⟨none, .store 67 (.tmp 8) (.tmp 17), _, _, _, _⟩ :: _) _ _); go_must ((change wpList _ _ _ _ _ (w1.alloc (.cells zP 67))); refine store_blk 67 (.tmp 8) (.tmp 17) rfl rfl HV1.out rfl (cs' := #[.slice gA p.gone.length gc, .bool p.comes, .bool p.nul, .bool p.mrk]) rfl rfl size_plan (one4 _ rfl _ _ _) ?_); intro w3 hb3 hx3; have q3 := Blk.c4 hb3; have HB3 := Lib.hid hb3; have HZ3 := Lib.hid (HZ2.out.ext hx3 (fun e => by have e : w.heap.size = w1.heap.size := e; have := HLT.out; omega)); have HX3 := Lib.hid (HX2.out.transS hx3 (fun i hi e => by have e : i = w1.heap.size := e; have := HX1.out.size; omega)); have hx13 : Ext No w1 w3 := ((Ext.refl No w1).alloc _).transS hx3 (fun i hi e => by have e : i = w1.heap.size := e; omega); have HX13 := Lib.hid hx13; clear hb3 hx3 hx13)
        | ((with_reducible show wpList _ _ _ (⟨none, .store 67 (.tmp 6) (.tmp 21), _, _, _, _⟩ :: _) _ _); go_must (refine store_blk 67 (.tmp 6) (.tmp 21) rfl rfl HZ3.out rfl (cs' := zP) rfl rfl size_plan (one4 _ rfl _ _ _) ?_); intro w5 hb5 hx5; have HB5 := Lib.hid hb5; have HX5 := Lib.hid (HX3.out.transS hx5 (fun i hi e => by have e : i = w.heap.size := e; omega)); have hx45 := Lib.hid hx5; clear hb5 hx5))
      exact bodyPost_ret (ret_blk2 rfl HB5.out rfl _ Try.underlying67 rfl size_plan) rfl ⟨_, rfl, IsPl.none _ _, HX5.out⟩

set_option maxRecDepth 100000 in
set_option maxHeartbeats 1000000 in
theorem rDelete_any (lv : Value) (ls : List Vr) (st now : Int) (B : Nat) (w : World) (hl : Vs w Any B lv ls) (hll : ls.length ≤ 1000000) (hBw : B ≤ w.heap.size) :
    Calls Try.prog 39 #[lv, .int .i64 st, .int .i64 now] w fun e w' => ∃ v, e = .returned (.tuple #[v, .int .i64 (delP ls st now).2]) ∧ IsPl w' B v (delP ls st now).1 ∧ Ext No w w' := by
  have hx0 : Ext No w ((w.alloc (.cells zP 67)).alloc (.cells zP 67)) := ((Ext.refl No w).alloc _).alloc _
  have HP := Lib.hid (rBare_any lv ls now B _ (hl.ext_no hx0) hll (by have := hx0.size; omega))
  have HZ : Hid (Blk ((w.alloc (.cells zP 67)).alloc (.cells zP 67)) w.heap.size 67 zP) := Lib.hid ((Blk.new w 67 zP).alloc _)
  have HZ8 : Hid (Blk ((w.alloc (.cells zP 67)).alloc (.cells zP 67)) (w.heap.size + 1) 67 zP) := Lib.hid (by
    have := Blk.new (w.alloc (.cells zP 67)) 67 zP
    simpa using this)
  have HX := Lib.hid hx0
  obtain ⟨w0, hw0⟩ : ∃ x, ((w.alloc (.cells zP 67)).alloc (.cells zP 67)) = x := ⟨_, rfl⟩
  rw [hw0] at HP HZ HZ8 HX
  have HW := Lib.hid hw0
  unfold delP
  obtain ⟨bp, hbp⟩ : ∃ b, bareP ls now = b := ⟨_, rfl⟩
  rw [hbp] at HP ⊢
  obtain ⟨p, c⟩ := bp
  simp only at HP ⊢
  clear hl hx0 hw0 hbp
  by_cases hs : st = 0 ∨ st = 2
  · rw [if_pos hs]
    have HX1S : Hid (w.heap.size ≤ w.heap.size) := Lib.hid (Nat.le_refl _)
    by_cases hc : c = 0
    · rw [if_pos hc]
      subst hc
      by_cases hz : st = 0
      · rw [if_pos hz]
        subst hz
        clear hs
        go_enter Try.func39, Try.ntmps39
        go_wp2_with (first
          | (go_at_call 54; go_must ((change Calls _ _ _ ((w.alloc (.cells zP 67)).alloc (.cells zP 67)) _); rw [HW.out]; refine HP.out.mono ?_); rintro e1 w1 ⟨v1, rfl, ⟨gv, rfl, hgv⟩, hx1⟩; obtain ⟨gA, gc, rfl, -⟩ := hgv.slice; have HGV := Lib.hid hgv; have HGN := Lib.hid hx1; have HX1 := Lib.hid (HX.out.trans hx1); have HZ1 := Lib.hid (HZ.out.ext_no hx1); have HY1 := Lib.hid (HZ8.out.ext_no hx1); have HV1 := Lib.hid (Blk.new w1 67 zP); have HLT : Hid (w.heap.size + 1 < w1.heap.size) := Lib.hid (by have := HY1.out.lt; exact this); clear hx1 hgv)
          | ((with_reducible show wpList _ _ _ (⟨none, .store 67 (.tmp 9) (.tmp 20), _, _, _, _⟩ :: _) _ _); go_must ((change wpList _ _ _ _ _ (w1.alloc (.cells zP 67))); refine store_blk 67 (.tmp 9) (.tmp 20) rfl rfl HV1.out rfl (cs' := #[.slice gA p.gone.length gc, .bool p.comes, .bool p.nul, .bool p.mrk]) rfl rfl size_plan (one4 _ rfl _ _ _) ?_); intro w3 hb3 hx3; have HB3 := Lib.hid hb3; have HZ3 := Lib.hid ((HZ1.out.alloc _).ext hx3 (fun e => by have e : w.heap.size = w1.heap.size := e; have := HLT.out; omega)); have HY3 := Lib.hid ((HY1.out.alloc _).ext hx3 (fun e => by have e : w.heap.size + 1 = w1.heap.size := e; have := HLT.out; omega)); have HX3 := Lib.hid ((HX1.out.alloc _).transS hx3 (fun i hi e => by have e : i = w1.heap.size := e; have := HLT.out; omega)); have HX13 := Lib.hid (((Ext.refl No w1).alloc _).transS hx3 (fun i hi e => by have e : i = w1.heap.size := e; omega)); clear hb3 hx3)
          | ((with_reducible show wpList _ _ _ (⟨some 26, _, _, _, _, _⟩ :: _) _ _); refine load_blk 67 (.tmp 9) rfl rfl HB3.out rfl _ Try.underlying67 rfl size_plan ?_)
          | ((with_reducible show wpList _ _ _ (⟨none, .store 67 (.tmp 8) (.tmp 26), _, _, _, _⟩ :: _) _ _); go_must (refine store_blk 67 (.tmp 8) (.tmp 26) rfl rfl HY3.out rfl (cs' := #[.slice gA p.gone.length gc, .bool p.comes, .bool p.nul, .bool p.mrk]) rfl rfl size_plan (one4 _ rfl _ _ _) ?_); intro w4 hb4 hx4; have q4 := Blk.c4 hb4; have HB4 := Lib.hid hb4; have HZ4 := Lib.hid (HZ3.out.ext hx4 (fun e => by have e : w.heap.size = w.heap.size + 1 := e; omega)); have HX4 := Lib.hid (HX3.out.transS hx4 (fun i hi e => by have e : i = w.heap.size + 1 := e; omega)); have HE4 := Lib.hid hx4; clear hb4 hx4)
          | ((with_reducible show wpList _ _ _ (⟨some 29, _, _, _, _, _⟩ :: _) _ _); clear q4; refine load_blk 67 (.tmp 8) rfl rfl HB4.out rfl _ Try.underlying67 rfl size_plan ?_)
          | ((with_reducible show wpList _ _ _ (⟨none, .store 67 (.tmp 6) (.tmp 29), _, _, _, _⟩ :: _) _ _); go_must (refine store_blk 67 (.tmp 6) (.tmp 29) rfl rfl HZ4.out rfl (cs' := #[.slice gA p.gone.length gc, .bool p.comes, .bool p.nul, .bool p.mrk]) rfl rfl size_plan (one4 _ rfl _ _ _) ?_); intro w5 hb5 hx5; have HB5 := Lib.hid hb5; have HE5 := Lib.hid hx5; have HX5 := Lib.hid (HX4.out.transS hx5 (fun i hi e => by have e : i = w.heap.size := e; omega)); clear hb5 hx5))
        have hgv5 : Vs w5 Any B (.slice gA p.gone.length gc) p.gone := by
          have hg0 := (HGV.out.apart (HZ1.out) (by decide))
          have hg1 := (HGV.out.apart (HY1.out) (by decide))
          have h3 := (hg0.both hg1).far HX13.out (fun _ _ h => h) (fun _ _ h => h)
          have h4 := h3.far HE4.out (fun b hb e => hb.2.2 e) (fun b hb e => by have e : b = w.heap.size + 1 := e; omega)
          exact (h4.far HE5.out (fun b hb e => hb.1.2 e) (fun b hb e => by have e : b = w.heap.size := e; omega)).any
        exact bodyPost_ret (ret_blk2 rfl HB5.out rfl _ Try.underlying67 rfl size_plan) rfl ⟨_, rfl, ⟨_, rfl, hgv5⟩, HX5.out⟩
      · rw [if_neg hz]
        obtain rfl : st = 2 := by omega
        clear hs hz
        go_enter Try.func39, Try.ntmps39
        go_wp2_with (first
          | (go_at_call 54; go_must ((change Calls _ _ _ ((w.alloc (.cells zP 67)).alloc (.cells zP 67)) _); rw [HW.out]; refine HP.out.mono ?_); rintro e1 w1 ⟨v1, rfl, ⟨gv, rfl, hgv⟩, hx1⟩; obtain ⟨gA, gc, rfl, -⟩ := hgv.slice; have HGV := Lib.hid hgv; have HGN := Lib.hid hx1; have HX1 := Lib.hid (HX.out.trans hx1); have HZ1 := Lib.hid (HZ.out.ext_no hx1); have HY1 := Lib.hid (HZ8.out.ext_no hx1); have HV1 := Lib.hid (Blk.new w1 67 zP); have HLT : Hid (w.heap.size + 1 < w1.heap.size) := Lib.hid (by have := HY1.out.lt; exact this); clear hx1 hgv)
          | ((with_reducible show wpList _ _ _ (⟨none, .store 67 (.tmp 9) (.tmp 20), _, _, _, _⟩ :: _) _ _); go_must ((change wpList _ _ _ _ _ (w1.alloc (.cells zP 67))); refine store_blk 67 (.tmp 9) (.tmp 20) rfl rfl HV1.out rfl (cs' := #[.slice gA p.gone.length gc, .bool p.comes, .bool p.nul, .bool p.mrk]) rfl rfl size_plan (one4 _ rfl _ _ _) ?_); intro w3 hb3 hx3; have HB3 := Lib.hid hb3; have HZ3 := Lib.hid ((HZ1.out.alloc _).ext hx3 (fun e => by have e : w.heap.size = w1.heap.size := e; have := HLT.out; omega)); have HY3 := Lib.hid ((HY1.out.alloc _).ext hx3 (fun e => by have e : w.heap.size + 1 = w1.heap.size := e; have := HLT.out; omega)); have HX3 := Lib.hid ((HX1.out.alloc _).transS hx3 (fun i hi e => by have e : i = w1.heap.size := e; have := HLT.out; omega)); have HX13 := Lib.hid (((Ext.refl No w1).alloc _).transS hx3 (fun i hi e => by have e : i = w1.heap.size := e; omega)); clear hb3 hx3)
          | ((with_reducible show wpList _ _ _ (⟨some 26, _, _, _, _, _⟩ :: _) _ _); refine load_blk 67 (.tmp 9) rfl rfl HB3.out rfl _ Try.underlying67 rfl size_plan ?_)
          | ((with_reducible show wpList _ _ _ (⟨none, .store 67 (.tmp 8) (.tmp 26), _, _, _, _⟩ :: _) _ _); go_must (refine store_blk 67 (.tmp 8) (.tmp 26) rfl rfl HY3.out rfl (cs' := #[.slice gA p.gone.length gc, .bool p.comes, .bool p.nul, .bool p.mrk]) rfl rfl size_plan (one4 _ rfl _ _ _) ?_); intro w4 hb4 hx4; have q4 := Blk.c4 hb4; have HB4 := Lib.hid hb4; have HZ4 := Lib.hid (HZ3.out.ext hx4 (fun e => by have e : w.heap.size = w.heap.size + 1 := e; omega)); have HX4 := Lib.hid (HX3.out.transS hx4 (fun i hi e => by have e : i = w.heap.size + 1 := e; omega)); have HE4 := Lib.hid hx4; clear hb4 hx4)
          | ((with_reducible show wpList _ _ _ (⟨some 33, _, _, _, _, _⟩ :: _) _ _); have HB6 : Hid (Blk (((w4.setCell ⟨w.heap.size + 1, 2, none⟩ (.bool true)).setCell ⟨w.heap.size + 1, 1, none⟩ (.bool true)).setCell ⟨w.heap.size + 1, 3, none⟩ (.bool true)) (w.heap.size + 1) 67 #[.slice gA p.gone.length gc, .bool true, .bool true, .bool true]) := Lib.hid (((HB4.out.set_ 2 _).set_ 1 _).set_ 3 _); have hx46 : Ext (One (w.heap.size + 1)) w4 (((w4.setCell ⟨w.heap.size + 1, 2, none⟩ (.bool true)).setCell ⟨w.heap.size + 1, 1, none⟩ (.bool true)).setCell ⟨w.heap.size + 1, 3, none⟩ (.bool true)) := Ext.setCell (p := ⟨w.heap.size + 1, 3, none⟩) (Ext.setCell (p := ⟨w.heap.size + 1, 1, none⟩) (Ext.setCell (p := ⟨w.heap.size + 1, 2, none⟩) (Ext.refl (One (w.heap.size + 1)) w4) (fun _ => rfl) _) (fun _ => rfl) _) (fun _ => rfl) _; have HZ6 := Lib.hid (HZ4.out.ext hx46 (fun e => by have e : w.heap.size = w.heap.size + 1 := e; omega)); have HX6 := Lib.hid (HX4.out.transS hx46 (fun i hi e => by have e : i = w.heap.size + 1 := e; omega)); have HE46 := Lib.hid (HE4.out.trans hx46); clear hx46 q4; go_must (generalize (((w4.setCell ⟨w.heap.size + 1, 2, none⟩ (.bool true)).setCell ⟨w.heap.size + 1, 1, none⟩ (.bool true)).setCell ⟨w.heap.size + 1, 3, none⟩ (.bool true)) = w6 at *; refine load_blk 67 (.tmp 8) rfl rfl HB6.out rfl _ Try.underlying67 rfl size_plan ?_))
          | ((with_reducible show wpList _ _ _ (⟨none, .store 67 (.tmp 6) (.tmp 33), _, _, _, _⟩ :: _) _ _); go_must (refine store_blk 67 (.tmp 6) (.tmp 33) rfl rfl HZ6.out rfl (cs' := #[.slice gA p.gone.length gc, .bool true, .bool true, .bool true]) rfl rfl size_plan (one4 _ rfl _ _ _) ?_); intro w5 hb5 hx5; have HB5 := Lib.hid hb5; have HE5 := Lib.hid hx5; have HX5 := Lib.hid (HX6.out.transS hx5 (fun i hi e => by have e : i = w.heap.size := e; omega)); clear hb5 hx5))
        have hgv5 : Vs w5 Any B (.slice gA p.gone.length gc) p.gone := by
          have hg0 := (HGV.out.apart (HZ1.out) (by decide))
          have hg1 := (HGV.out.apart (HY1.out) (by decide))
          have h3 := (hg0.both hg1).far HX13.out (fun _ _ h => h) (fun _ _ h => h)
          have h4 := h3.far HE46.out (fun b hb e => hb.2.2 e) (fun b hb e => by have e : b = w.heap.size + 1 := e; omega)
          exact (h4.far HE5.out (fun b hb e => hb.1.2 e) (fun b hb e => by have e : b = w.heap.size := e; omega)).any
        exact bodyPost_ret (ret_blk2 rfl HB5.out rfl _ Try.underlying67 rfl size_plan) rfl ⟨_, rfl, ⟨_, rfl, hgv5⟩, HX5.out⟩
    · rw [if_neg hc]
      have t1 : (c != 0) = true := by simpa using hc
      rcases hs with rfl | rfl
      all_goals
        go_enter Try.func39, Try.ntmps39
        go_wp2_with (first
          | (go_at_call 54; go_must ((change Calls _ _ _ ((w.alloc (.cells zP 67)).alloc (.cells zP 67)) _); rw [HW.out]; refine HP.out.mono ?_); rintro e1 w1 ⟨v1, rfl, ⟨gv, rfl, hgv⟩, hx1⟩; obtain ⟨gA, gc, rfl, -⟩ := hgv.slice; have HGV := Lib.hid hgv; have HGN := Lib.hid hx1; have HX1 := Lib.hid (HX.out.trans hx1); have HZ1 := Lib.hid (HZ.out.ext_no hx1); have HY1 := Lib.hid (HZ8.out.ext_no hx1); have HV1 := Lib.hid (Blk.new w1 67 zP); have HLT : Hid (w.heap.size + 1 < w1.heap.size) := Lib.hid (by have := HY1.out.lt; exact this); clear hx1 hgv)
          | ((with_reducible show wpList _ _ _ (⟨none, .store 67 (.tmp 9) (.tmp 20), _, _, _, _⟩ :: _) _ _); go_must ((change wpList _ _ _ _ _ (w1.alloc (.cells zP 67))); refine store_blk 67 (.tmp 9) (.tmp 20) rfl rfl HV1.out rfl (cs' := #[.slice gA p.gone.length gc, .bool p.comes, .bool p.nul, .bool p.mrk]) rfl rfl size_plan (one4 _ rfl _ _ _) ?_); intro w3 hb3 hx3; have HB3 := Lib.hid hb3; have HZ3 := Lib.hid ((HZ1.out.alloc _).ext hx3 (fun e => by have e : w.heap.size = w1.heap.size := e; have := HLT.out; omega)); have HY3 := Lib.hid ((HY1.out.alloc _).ext hx3 (fun e => by have e : w.heap.size + 1 = w1.heap.size := e; have := HLT.out; omega)); have HX3 := Lib.hid ((HX1.out.alloc _).transS hx3 (fun i hi e => by have e : i = w1.heap.size := e; have := HLT.out; omega)); have HX13 := Lib.hid (((Ext.refl No w1).alloc _).transS hx3 (fun i hi e => by have e : i = w1.heap.size := e; omega)); clear hb3 hx3)
          | ((with_reducible show wpList _ _ _ (⟨none, .store 67 (.tmp 6) (.tmp 24), _, _, _, _⟩ :: _) _ _); go_must (refine store_blk 67 (.tmp 6) (.tmp 24) rfl rfl HZ3.out rfl (cs' := zP) rfl rfl size_plan (one4 _ rfl _ _ _) ?_); intro w5 hb5 hx5; have HB5 := Lib.hid hb5; have HX5 := Lib.hid (HX3.out.transS hx5 (fun i hi e => by have e : i = w.heap.size := e; omega)); clear hb5 hx5))
        exact bodyPost_ret (ret_blk2 rfl HB5.out rfl _ Try.underlying67 rfl size_plan) rfl ⟨_, rfl, IsPl.none _ _, HX5.out⟩
  · rw [if_neg hs]
    have t0 : (st == 0) = false := by rw [beq_eq_false_iff_ne]; omega
    have t2 : (st == 2) = false := by rw [beq_eq_false_iff_ne]; omega
    have HB8 : Hid (Blk (((w.alloc (.cells zP 67)).alloc (.cells #[.slice none 0 0, .bool true, .bool false, .bool true] 67))) (w.heap.size + 1) 67 #[.slice none 0 0, .bool true, .bool false, .bool true]) := Lib.hid (by
      have := Blk.new (w.alloc (.cells zP 67)) 67 #[.slice none 0 0, .bool true, .bool false, .bool true]
      simpa using this)
    have HZ6 : Hid (Blk (((w.alloc (.cells zP 67)).alloc (.cells #[.slice none 0 0, .bool true, .bool false, .bool true] 67))) w.heap.size 67 zP) := Lib.hid ((Blk.new w 67 zP).alloc _)
    have HX8 : Hid (Ext No w (((w.alloc (.cells zP 67)).alloc (.cells #[.slice none 0 0, .bool true, .bool false, .bool true] 67)))) := Lib.hid (((Ext.refl No w).alloc _).alloc _)
    obtain ⟨w8, hw8⟩ : ∃ x, ((w.alloc (.cells zP 67)).alloc (.cells #[.slice none 0 0, .bool true, .bool false, .bool true] 67)) = x := ⟨_, rfl⟩
    rw [hw8] at HB8 HZ6 HX8
    have HW8 := Lib.hid hw8
    clear hw8 hs
    go_enter Try.func39, Try.ntmps39
    go_wp2_with (first
      | ((with_reducible show wpList _ _ _ (⟨some 33, _, _, _, _, _⟩ :: _) _ _); go_must ((change wpList _ _ _ _ _ (((w.alloc (.cells zP 67)).alloc (.cells #[.slice none 0 0, .bool true, .bool false, .bool true] 67)))); rw [HW8.out]; refine load_blk 67 (.tmp 8) rfl rfl HB8.out rfl _ Try.underlying67 rfl size_plan ?_))
      | ((with_reducible show wpList _ _ _ (⟨none, .store 67 (.tmp 6) (.tmp 33), _, _, _, _⟩ :: _) _ _); go_must (refine store_blk 67 (.tmp 6) (.tmp 33) rfl rfl HZ6.out rfl (cs' := #[.slice none 0 0, .bool true, .bool false, .bool true]) rfl rfl size_plan (one4 _ rfl _ _ _) ?_); intro w5 hb5 hx5; have HB5 := Lib.hid hb5; have HX5 := Lib.hid (HX8.out.transS hx5 (fun i hi e => by have e : i = w.heap.size := e; omega)); clear hb5 hx5))
    exact bodyPost_ret (ret_blk2 rfl HB5.out rfl _ Try.underlying67 rfl size_plan) rfl ⟨_, rfl, ⟨_, rfl, Vs.nil _ _ _⟩, HX5.out⟩
end Go.Proofs.Ytlfhfomidkadiaa
