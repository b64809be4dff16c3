/- Package rule: Pick, There. -/
import Derived.Test.YtlfhfomidkadiaaRuleIdx
set_option linter.unusedVariables false
set_option linter.unusedSimpArgs false
namespace Go.Proofs.Ytlfhfomidkadiaa
open Go.RowKit Go.Deep

theorem zero_one : ∀ v ∈ Vr.zero.cs.toArray.toList, v.oneCell' = true := by intro v hv; exact Vr.zero.cs_one v (by simpa using hv)
theorem cs_one' (x : Vr) : ∀ v ∈ x.cs.toArray.toList, v.oneCell' = true := by intro v hv; exact x.cs_one v (by simpa using hv)
/-- What is picked, and whether there is one. -/
def gotV (ls : List Vr) (id : Int) : Vr := (pickV ls id).getD Vr.zero
def isV (ls : List Vr) (id : Int) : Bool := (pickV ls id).isSome
theorem idxI_eq (ls : List Vr) (id : Int) (h : ¬ id < 0) : idxI ls (fun v => idV v == id) = (match fnd ls id with | some i => (i : Int) | none => -1) := by
  unfold idxI fnd; rw [if_neg h]; cases List.findIdx? (fun v => idV v == id) ls <;> rfl
set_option maxRecDepth 100000 in
set_option maxHeartbeats 1000000 in
theorem rPick_any (lv : Value) (ls : List Vr) (id : Int) (B : Nat) (w : World) (hl : Vs w Any B lv ls) (hll : ls.length ≤ 1000000) :
    Calls Try.prog 26 #[lv, .int .i64 id] w fun e w' => e = .returned (.tuple #[.agg (gotV ls id).cs.toArray, .bool (isV ls id)]) ∧ Ext No w w' := by
  obtain ⟨A, c, rfl, hc, hm, b, off, hrow⟩ := hl.slice
  have HL := Lib.hid hl
  have HR := Lib.hid hrow
  have hz : Blk ((w.alloc (.cells #[.int .i64 id] 3)).alloc (.cells Vr.zero.cs.toArray 55)) (w.heap.size + 1) 55 Vr.zero.cs.toArray := by
    have := Blk.new (w.alloc (.cells #[.int .i64 id] 3)) 55 Vr.zero.cs.toArray
    simpa using this
  have hi : Blk ((w.alloc (.cells #[.int .i64 id] 3)).alloc (.cells Vr.zero.cs.toArray 55)) w.heap.size 3 #[.int .i64 id] := (Blk.new w 3 _).alloc _
  have hx : Ext No w ((w.alloc (.cells #[.int .i64 id] 3)).alloc (.cells Vr.zero.cs.toArray 55)) := ((Ext.refl No w).alloc _).alloc _
  have HZ := Lib.hid hz
  have HI := Lib.hid hi
  have HX := Lib.hid hx
  have i0 := hi.cell 0
  obtain ⟨w0, hw0⟩ : ∃ x, (w.alloc (.cells #[.int .i64 id] 3)).alloc (.cells Vr.zero.cs.toArray 55) = x := ⟨_, rfl⟩
  rw [hw0] at HZ HI HX i0
  have HW := Lib.hid hw0
  clear hl hrow hz hi hx hw0
  by_cases hid : id < 0
  · by_cases h0 : ls.length = 0
    · have HG : Hid (gotV ls id = Vr.zero ∧ isV ls id = false) := Lib.hid (by unfold gotV isV pickV fnd; rw [if_pos hid, if_pos h0]; exact ⟨rfl, rfl⟩)
      have t0 : ((ls.length : Int) == 0) = true := by rw [h0]; rfl
      clear h0
      go_enter Try.func26, Try.ntmps26
      go_wp2_with fail
      change bodyPost _ _ _ _ _ ((w.alloc (.cells #[.int .i64 id] 3)).alloc (.cells Vr.zero.cs.toArray 55))
      rw [HW.out]
      refine bodyPost_ret (ret_blk2 rfl HZ.out rfl _ Try.underlying55 rfl size_ver) rfl ⟨?_, HX.out⟩
      rw [HG.out.1, HG.out.2]; rfl
    · have hlt : 0 < ls.length := by omega
      obtain ⟨rfl, -, hb, hr, -⟩ := HR.out 0 hlt
      have HG : Hid (gotV ls id = ls[0] ∧ isV ls id = true) := Lib.hid (by
        have hf : fnd ls id = some 0 := by unfold fnd; rw [if_pos hid, if_neg h0]
        have := pick_at hf
        unfold gotV isV; rw [this]; exact ⟨rfl, rfl⟩)
      have HE := Lib.hid (range_ext hr (HX.out) hb (fun h => h))
      have t0 : ((ls.length : Int) == 0) = false := by rw [beq_eq_false_iff_ne]; omega
      have t1 : (0 : Int) < (ls.length : Int) := by omega
      obtain ⟨x, hx⟩ : ∃ x, ls[0] = x := ⟨_, rfl⟩
      rw [hx] at HE HG
      clear hr hx h0
      go_enter Try.func26, Try.ntmps26
      go_wp2_with (first
        | ((with_reducible show wpList _ _ _ (⟨some 15, _, _, _, _, _⟩ :: _) _ _); go_must ((change wpList _ _ _ _ _ ((w.alloc (.cells #[.int .i64 id] 3)).alloc (.cells Vr.zero.cs.toArray 55))); rw [HW.out]; refine wpList_load_mid rfl 55 (.tmp 14) rfl b (off + 0 * 11) rfl x.cs _ HE.out Try.underlying55 rfl size_ver ?_))
        | ((with_reducible show wpList _ _ _ (⟨none, _, _, _, _, _⟩ :: _) _ _); go_must (refine store_blk 55 (.tmp 4) (.tmp 15) rfl rfl HZ.out rfl rfl rfl size_ver (cs_one' x) ?_); intro w1 hb1 hx1; have HB1 := Lib.hid hb1; have HX1 := Lib.hid (HX.out.transS hx1 (fun i hi e => by have e : i = w.heap.size + 1 := e; omega)); clear hb1 hx1))
      refine bodyPost_ret (ret_blk2 rfl HB1.out rfl _ Try.underlying55 rfl size_ver) rfl ⟨?_, HX1.out⟩
      rw [HG.out.1, HG.out.2]; rfl
  · have hmf : ∀ (fn : Fn) (first cap : Array Value) (w : World), (Instr.makeFunc fn first cap).run Try.prog w = .ok (.func fn first cap) w := fun _ _ _ _ => rfl
    have HCI := Lib.hid (iIdx_any 51 (.pointer (some ⟨w.heap.size, 0, none⟩)) (fun v => idV v == id) B (.slice A ls.length c) ls w0 (fun x => enters_pick x _) (HL.out.ext_no HX.out) hll (fun x _ wx hx => rPick1_any x w.heap.size id wx (HI.out.ext_no hx)))
    have hix := idxI_eq ls id hid
    obtain ⟨fi, hfi⟩ : ∃ f, fnd ls id = f := ⟨_, rfl⟩
    rw [hfi] at hix
    rw [hix] at HCI
    clear hix
    cases fi with
    | none =>
      have HG : Hid (gotV ls id = Vr.zero ∧ isV ls id = false) := Lib.hid (by unfold gotV isV; rw [pick_none hfi]; exact ⟨rfl, rfl⟩)
      have HCJ : Hid (Calls Try.prog 50 #[.slice A ls.length c, .func (.func 51) #[] #[.pointer (some ⟨w.heap.size, 0, none⟩)]] w0 fun e w' => e = .returned (.int .i64 (-1)) ∧ Ext No w0 w') := HCI
      clear hfi HCI
      go_enter Try.func26, Try.ntmps26
      go_wp2_with (first
        | (go_at_call 50; go_must ((change Calls _ _ _ ((w.alloc (.cells #[.int .i64 id] 3)).alloc (.cells Vr.zero.cs.toArray 55)) _); rw [HW.out]; refine HCJ.out.mono ?_); rintro e1 w1 ⟨rfl, hx1⟩; have HX1 := Lib.hid (HX.out.trans hx1); have HZ1 := Lib.hid (HZ.out.ext_no hx1); clear hx1)
        | ((with_reducible show wpList _ _ _ (⟨none, _, _, _, _, _⟩ :: _) _ _); go_must (refine store_blk 55 (.tmp 4) (.tmp 21) rfl rfl HZ1.out rfl (cs' := Vr.zero.cs.toArray) rfl rfl size_ver zero_one ?_); intro w2 hb2 hx2; have HB2 := Lib.hid hb2; have HX2 := Lib.hid (HX1.out.transS hx2 (fun i hi e => by have e : i = w.heap.size + 1 := e; omega)); clear hb2 hx2))
      refine bodyPost_ret (ret_blk2 rfl HB2.out rfl _ Try.underlying55 rfl size_ver) rfl ⟨?_, HX2.out⟩
      rw [HG.out.1, HG.out.2]; rfl
    | some i =>
      have hlt := fnd_lt hfi
      obtain ⟨rfl, -, hb, hr, -⟩ := HR.out i hlt
      have HG : Hid (gotV ls id = ls[i] ∧ isV ls id = true) := Lib.hid (by unfold gotV isV; rw [pick_at hfi]; exact ⟨rfl, rfl⟩)
      have HCJ : Hid (Calls Try.prog 50 #[.slice (some ⟨b, off, none⟩) ls.length c, .func (.func 51) #[] #[.pointer (some ⟨w.heap.size, 0, none⟩)]] w0 fun e w' => e = .returned (.int .i64 (i : Int)) ∧ Ext No w0 w') := HCI
      have HRW := Lib.hid (fun (wx : World) (hx : Ext No w0 wx) => range_ext hr (HX.out.trans hx) hb (fun h => h))
      have t1 : (i : Int) < (ls.length : Int) := by omega
      obtain ⟨x, hx⟩ : ∃ x, ls[i] = x := ⟨_, rfl⟩
      rw [hx] at HRW HG
      clear hfi HCI hr hx
      go_enter Try.func26, Try.ntmps26
      go_wp2_with (first
        | (go_at_call 50; go_must ((change Calls _ _ _ ((w.alloc (.cells #[.int .i64 id] 3)).alloc (.cells Vr.zero.cs.toArray 55)) _); rw [HW.out]; refine HCJ.out.mono ?_); rintro e1 w1 ⟨rfl, hx1⟩; have HX1 := Lib.hid (HX.out.trans hx1); have HZ1 := Lib.hid (HZ.out.ext_no hx1); have HE1 := Lib.hid (HRW.out w1 hx1); clear hx1)
        | ((with_reducible show wpList _ _ _ (⟨some 25, _, _, _, _, _⟩ :: _) _ _); go_must (refine wpList_load_mid rfl 55 (.tmp 24) rfl b (off + i * 11) rfl x.cs _ HE1.out Try.underlying55 rfl size_ver ?_))
        | ((with_reducible show wpList _ _ _ (⟨none, _, _, _, _, _⟩ :: _) _ _); go_must (refine store_blk 55 (.tmp 4) (.tmp 25) rfl rfl HZ1.out rfl rfl rfl size_ver (cs_one' x) ?_); intro w2 hb2 hx2; have HB2 := Lib.hid hb2; have HX2 := Lib.hid (HX1.out.transS hx2 (fun i hi e => by have e : i = w.heap.size + 1 := e; omega)); clear hb2 hx2))
      refine bodyPost_ret (ret_blk2 rfl HB2.out rfl _ Try.underlying55 rfl size_ver) rfl ⟨?_, HX2.out⟩
      rw [HG.out.1, HG.out.2]; rfl
end Go.Proofs.Ytlfhfomidkadiaa
