/- Package rule: bare, Put, Delete, Remove. -/
import Derived.Test.YtlfhfomidkadiaaRuleThere
set_option linter.unusedVariables false
set_option linter.unusedSimpArgs false
namespace Go.Proofs.Ytlfhfomidkadiaa
open Go.RowKit Go.Deep

/-- A plan, as a value. -/
def IsPl (w : World) (B : Nat) (v : Value) (p : Pl) : Prop := ∃ gv, v = .agg #[gv, .bool p.comes, .bool p.nul, .bool p.mrk] ∧ Vs w Any B gv p.gone
theorem IsPl.no {w w' : World} {B : Nat} {v : Value} {p : Pl} (h : IsPl w B v p) (hx : Ext No w w') : IsPl w' B v p := by
  obtain ⟨gv, e, h⟩ := h
  exact ⟨gv, e, h.ext_no hx⟩
theorem IsPl.none (w : World) (B : Nat) : IsPl w B (.agg #[.slice none 0 0, .bool false, .bool false, .bool false]) plNone := ⟨_, rfl, Vs.nil w Any B⟩
theorem size_plan : (Try.prog.info? 67).map (·.size) = some 4 := by kernel_rfl
abbrev zP : Array Value := #[.slice none 0 0, .bool false, .bool false, .bool false]
theorem one4 (gv : Value) (h : gv.oneCell' = true) (a b c : Bool) : ∀ v ∈ (#[gv, .bool a, .bool b, .bool c] : Array Value).toList, v.oneCell' = true := by
  intro v hv
  simp only [List.mem_cons, List.not_mem_nil, or_false] at hv
  rcases hv with rfl | rfl | rfl | rfl
  · exact h
  · rfl
  · rfl
  · rfl
theorem got_ok {lv : Value} {ls : List Vr} {B : Nat} {w : World} (h : Vs w Any B lv ls) (id : Int) : Vr.Ok w (fun b => b < B) (gotV ls id) := by
  unfold gotV
  cases hp : pickV ls id with
  | none => exact Vr.Ok.zero w _
  | some v =>
    unfold pickV at hp
    cases hf : fnd ls id with
    | none => rw [hf] at hp; cases hp
    | some i => rw [hf, Option.bind_some] at hp; exact h.2 v (List.mem_of_getElem? hp)
theorem bareP_eq (ls : List Vr) (now : Int) : bareP ls now = if isV ls 0 then (if heldV (gotV ls 0) now then (plNone, 14) else (⟨[gotV ls 0], false, false, false⟩, 0)) else (plNone, 0) := by
  unfold bareP isV gotV
  cases pickV ls 0 <;> rfl
/-- A version's cells, laid for a call. -/
theorem fold_cs (x : Vr) : List.foldl (fun (cs : Array Value) (x : Value × Nat) => cs.setIfInBounds x.snd x.fst) #[.int .i64 0, .bool false, .bool false, .int .i64 0, .int .i64 0, .int .i64 0, .slice none 0 0, .slice none 0 0, .int .i64 0, .slice none 0 0, .slice none 0 0] x.cs.zipIdx = x.cs.toArray := by
  unfold Vr.cs
  simp [List.zipIdx]
theorem Vs.lit1' {w : World} {B : Nat} {x : Vr} (h : Vr.Ok w (fun b => b < B) x) : Vs (w.alloc (.cells x.cs.toArray 55)) (fun b => b = w.heap.size) B (.slice (some ⟨w.heap.size, 0, none⟩) 1 1) [x] := by
  refine ⟨⟨by rw [vcs_length], _, _, rfl, Nat.le_refl _, by simp [maxLen], fun _ => ⟨w.heap.size, 0, rfl, rfl, fun j u hu => ?_⟩⟩, fun y hy => ?_⟩
  · rw [Nat.zero_add, (Blk.new w 55 x.cs.toArray).cell j]
    have : vcs [x] = x.cs := by simp [vcs]
    rw [this] at hu
    simpa using hu
  · obtain rfl : y = x := by simpa using hy
    exact h.ext_no ((Ext.refl _ _).alloc _)
/-- A row apart from a block that is written, whose versions' slices lie apart from it, too. -/
theorem Vs.far {S : Nat → Prop} {w w' : World} {F : Nat → Prop} {B : Nat} {v : Value} {ls : List Vr} (h : Vs w F B v ls) (hx : Ext S w w') (hF : ∀ b, F b → ¬ S b) (hB : ∀ b, b < B → ¬ S b) : Vs w' F B v ls :=
  ⟨Sl.ext h.1 hx (fun b hb _ => hF b hb), fun x hm => (h.2 x hm).ext hx (fun b hb _ => hB b hb)⟩
set_option maxRecDepth 100000 in
set_option maxHeartbeats 1000000 in
theorem rBare_any (lv : Value) (ls : List Vr) (now : Int) (B : Nat) (w : World) (hl : Vs w Any B lv ls) (hll : ls.length ≤ 1000000) (hBw : B ≤ w.heap.size) :
    Calls Try.prog 54 #[lv, .int .i64 now] w fun e w' => ∃ v, e = .returned (.tuple #[v, .int .i64 (bareP ls now).2]) ∧ IsPl w' B v (bareP ls now).1 ∧ Ext No w w' := by
  have hx0 : Ext No w (w.alloc (.cells zP 67)) := (Ext.refl No w).alloc _
  have HP := Lib.hid (rPick_any lv ls 0 B _ (hl.ext_no hx0) hll)
  have HZ := Lib.hid (Blk.new w 67 zP)
  have HX := Lib.hid hx0
  have HO := Lib.hid (got_ok hl 0)
  have hbp := bareP_eq ls now
  obtain ⟨w0, hw0⟩ : ∃ x, w.alloc (.cells zP 67) = x := ⟨_, rfl⟩
  rw [hw0] at HP HZ HX
  have HW := Lib.hid hw0
  obtain ⟨x, hx⟩ : ∃ x, gotV ls 0 = x := ⟨_, rfl⟩
  obtain ⟨q, hq⟩ : ∃ q, isV ls 0 = q := ⟨_, rfl⟩
  have HH := Lib.hid (fun wx => rHeld_any x now wx)
  rw [hx, hq] at HP hbp
  rw [hx] at HO
  obtain ⟨hd, hhd⟩ : ∃ h, heldV x now = h := ⟨_, rfl⟩
  rw [hhd] at hbp HH
  rw [hbp]
  clear hl hx0 hw0 hx hq hbp hhd
  cases q with
  | false =>
    go_enter Try.func54, Try.ntmps54
    go_wp2_with (first
      | (go_at_call 26; go_must ((change Calls _ _ _ (w.alloc (.cells zP 67)) _); rw [HW.out]; refine HP.out.mono ?_); rintro e1 w1 ⟨rfl, hx1⟩; have HX1 := Lib.hid (HX.out.trans hx1); have HZ1 := Lib.hid (HZ.out.ext_no hx1); have HV1 := Lib.hid (Blk.new w1 55 Vr.zero.cs.toArray); have HZ2 := Lib.hid (HZ1.out.alloc (.cells Vr.zero.cs.toArray 55)); have HX2 := Lib.hid (HX1.out.alloc (.cells Vr.zero.cs.toArray 55)); have HLT : Hid (w.heap.size < w1.heap.size) := Lib.hid (by have := HZ1.out.lt; exact this); clear hx1)
      | ((with_reducible show wpList _ _ _ (⟨none, .store 55 _ _, _, _, _, _⟩ :: _) _ _); go_must ((change wpList _ _ _ _ _ (w1.alloc (.cells Vr.zero.cs.toArray 55))); refine store_blk 55 (.tmp 6) (.tmp 11) rfl rfl HV1.out rfl rfl rfl size_ver (cs_one' x) ?_); intro w3 hb3 hx3; have HB3 := Lib.hid hb3; have HZ3 := Lib.hid (HZ2.out.ext hx3 (fun e => by have e : w.heap.size = w1.heap.size := e; have := HLT.out; omega)); have HX3 := Lib.hid (HX2.out.transS hx3 (fun i hi e => by have e : i = w1.heap.size := e; have := HX1.out.size; omega)); clear hb3 hx3)
      | ((with_reducible show wpList _ _ _ (⟨none, .store 67 _ _, _, _, _, _⟩ :: _) _ _); go_must (refine store_blk 67 (.tmp 4) (.tmp 16) rfl rfl HZ3.out rfl (cs' := zP) rfl rfl size_plan (one4 _ rfl _ _ _) ?_); intro w5 hb5 hx5; have HB5 := Lib.hid hb5; have HX5 := Lib.hid (HX3.out.transS hx5 (fun i hi e => by have e : i = w.heap.size := e; omega)); clear hb5 hx5))
    exact bodyPost_ret (ret_blk2 rfl HB5.out rfl _ Try.underlying67 rfl size_plan) rfl ⟨_, rfl, IsPl.none _ _, HX5.out⟩
  | true =>
    cases hd with
    | true =>
      go_enter Try.func54, Try.ntmps54
      go_wp2_with (first
        | (go_at_call 26; go_must ((change Calls _ _ _ (w.alloc (.cells zP 67)) _); rw [HW.out]; refine HP.out.mono ?_); rintro e1 w1 ⟨rfl, hx1⟩; have HX1 := Lib.hid (HX.out.trans hx1); have HZ1 := Lib.hid (HZ.out.ext_no hx1); have HV1 := Lib.hid (Blk.new w1 55 Vr.zero.cs.toArray); have HZ2 := Lib.hid (HZ1.out.alloc (.cells Vr.zero.cs.toArray 55)); have HX2 := Lib.hid (HX1.out.alloc (.cells Vr.zero.cs.toArray 55)); have HLT : Hid (w.heap.size < w1.heap.size) := Lib.hid (by have := HZ1.out.lt; exact this); clear hx1)
        | ((with_reducible show wpList _ _ _ (⟨none, .store 55 _ _, _, _, _, _⟩ :: _) _ _); go_must ((change wpList _ _ _ _ _ (w1.alloc (.cells Vr.zero.cs.toArray 55))); refine store_blk 55 (.tmp 6) (.tmp 11) rfl rfl HV1.out rfl rfl rfl size_ver (cs_one' x) ?_); intro w3 hb3 hx3; have HB3 := Lib.hid hb3; have HZ3 := Lib.hid (HZ2.out.ext hx3 (fun e => by have e : w.heap.size = w1.heap.size := e; have := HLT.out; omega)); have HX3 := Lib.hid (HX2.out.transS hx3 (fun i hi e => by have e : i = w1.heap.size := e; have := HX1.out.size; omega)); clear hb3 hx3)
        | ((with_reducible show wpList _ _ _ (⟨some 18, _, _, _, _, _⟩ :: _) _ _); refine load_blk 55 (.tmp 6) rfl rfl HB3.out rfl _ Try.underlying55 rfl size_ver ?_)
        | (go_at_call 30; refine (HH.out w3).mono ?_; rintro e4 w4 ⟨rfl, hx4⟩; have HX4 := Lib.hid (HX3.out.trans hx4); have HBV := Lib.hid (HB3.out.ext_no hx4); have HZ4 := Lib.hid (HZ3.out.ext_no hx4); clear hx4)
        | ((with_reducible show wpList _ _ _ (⟨none, .store 67 _ _, _, _, _, _⟩ :: _) _ _); go_must (refine store_blk 67 (.tmp 4) (.tmp 21) rfl rfl HZ4.out rfl (cs' := zP) rfl rfl size_plan (one4 _ rfl _ _ _) ?_); intro w5 hb5 hx5; have HB5 := Lib.hid hb5; have HX5 := Lib.hid (HX4.out.transS hx5 (fun i hi e => by have e : i = w.heap.size := e; omega)); clear hb5 hx5))
      exact bodyPost_ret (ret_blk2 rfl HB5.out rfl _ Try.underlying67 rfl size_plan) rfl ⟨_, rfl, IsPl.none _ _, HX5.out⟩
    | false =>
      have hcl : x.cs.length = 11 := rfl
      go_enter Try.func54, Try.ntmps54
      go_wp2_with (first
        | (go_at_call 26; go_must ((change Calls _ _ _ (w.alloc (.cells zP 67)) _); rw [HW.out]; refine HP.out.mono ?_); rintro e1 w1 ⟨rfl, hx1⟩; have HX1 := Lib.hid (HX.out.trans hx1); have HZ1 := Lib.hid (HZ.out.ext_no hx1); have HV1 := Lib.hid (Blk.new w1 55 Vr.zero.cs.toArray); have HZ2 := Lib.hid (HZ1.out.alloc (.cells Vr.zero.cs.toArray 55)); have HX2 := Lib.hid (HX1.out.alloc (.cells Vr.zero.cs.toArray 55)); have HLT : Hid (w.heap.size < w1.heap.size) := Lib.hid (by have := HZ1.out.lt; exact this); clear hx1)
        | ((with_reducible show wpList _ _ _ (⟨none, .store 55 _ _, _, _, _, _⟩ :: _) _ _); go_must ((change wpList _ _ _ _ _ (w1.alloc (.cells Vr.zero.cs.toArray 55))); refine store_blk 55 (.tmp 6) (.tmp 11) rfl rfl HV1.out rfl rfl rfl size_ver (cs_one' x) ?_); intro w3 hb3 hx3; have HB3 := Lib.hid hb3; have HZ3 := Lib.hid (HZ2.out.ext hx3 (fun e => by have e : w.heap.size = w1.heap.size := e; have := HLT.out; omega)); have HX3 := Lib.hid (HX2.out.transS hx3 (fun i hi e => by have e : i = w1.heap.size := e; have := HX1.out.size; omega)); have hx33 := Lib.hid hx3; clear hb3 hx3)
        | ((with_reducible show wpList _ _ _ (⟨some 18, _, _, _, _, _⟩ :: _) _ _); refine load_blk 55 (.tmp 6) rfl rfl HB3.out rfl _ Try.underlying55 rfl size_ver ?_)
        | (go_at_call 30; go_must (refine (HH.out w3).mono ?_; rintro e4 w4 ⟨rfl, hx4⟩; have HX4 := Lib.hid (HX3.out.trans hx4); have HBV := Lib.hid (HB3.out.ext_no hx4); have HZ4 := Lib.hid (HZ3.out.ext_no hx4); have HX14 := Lib.hid ((((Ext.refl No w1).alloc (.cells Vr.zero.cs.toArray 55)).transS hx33.out (fun i hi e => by have e : i = w1.heap.size := e; omega)).trans hx4); clear hx4))
        | ((with_reducible show wpList _ _ _ (⟨some 22, _, _, _, _, _⟩ :: _) _ _); go_must (refine load_blk 55 (.tmp 6) rfl rfl HBV.out rfl _ Try.underlying55 rfl size_ver ?_; have HS : Hid (Vs (w4.alloc (.cells x.cs.toArray 55)) (fun b => b = w4.heap.size) B (.slice (some ⟨w4.heap.size, 0, none⟩) 1 1) [x]) := Lib.hid (Vs.lit1' (HO.out.ext_no HX4.out))))
        | ((with_reducible show wpList _ _ _ (⟨none, .store 67 _ _, _, _, _, _⟩ :: _) _ _); go_must (rw [fold_cs]; refine store_blk 67 (.tmp 4) (.tmp 24) rfl rfl (HZ4.out.alloc _) rfl (cs' := #[.slice (some ⟨w4.heap.size, 0, none⟩) 1 1, .bool false, .bool false, .bool false]) rfl rfl size_plan (one4 _ rfl _ _ _) ?_); intro w5 hb5 hx5; have HB5 := Lib.hid hb5; have HS5 := Lib.hid ((HS.out.far hx5 (fun b hb e => by have e : b = w.heap.size := e; have hb : b = w4.heap.size := hb; have := HLT.out; have := HX14.out.size; omega) (fun b hb e => by have e : b = w.heap.size := e; omega)).any); have HX5 := Lib.hid ((HX4.out.alloc _).transS hx5 (fun i hi e => by have e : i = w.heap.size := e; omega)); clear hb5 hx5))
      exact bodyPost_ret (ret_blk2 rfl HB5.out rfl _ Try.underlying67 rfl size_plan) rfl ⟨_, rfl, ⟨_, rfl, HS5.out⟩, HX5.out⟩
end Go.Proofs.Ytlfhfomidkadiaa
