/- Law 26: works. -/
import Derived.Test.YtlfhfomidkadiaaRuleRight
set_option linter.unusedVariables false
set_option linter.unusedSimpArgs false
namespace Go.Proofs.Ytlfhfomidkadiaa
open Go.RowKit Go.Deep

def wA : Vr := { Vr.zero with seq := 1, til := 5 }
def wB : Vr := { Vr.zero with seq := 1, til := 5, nul := true }
def wC : Vr := { Vr.zero with seq := 2 }
def wD : Vr := { Vr.zero with seq := 2, mrk := true }
theorem wOk (w : World) (F : Nat → Prop) : Vr.Ok w F wA ∧ Vr.Ok w F wC :=
  ⟨⟨Bs.nil w F, Bs.nil w F, Bs.nil w F, Bs.nil w F, by simp [wA, Vr.zero]⟩, ⟨Bs.nil w F, Bs.nil w F, Bs.nil w F, Bs.nil w F, by simp [wC, Vr.zero]⟩⟩
theorem vs_one {w : World} {F : Nat → Prop} {B : Nat} {v : Value} {ls : List Vr} (h : Vs w F B v ls) : v.oneCell' = true := by
  obtain ⟨A, c, rfl, -⟩ := h.slice
  rfl
theorem wPut1 (w : World) : Calls Try.prog 38 #[.slice none 0 0, .int .i64 0, .int .i64 0] w fun e w' => ∃ gv, e = .returned (.tuple #[.agg #[gv, .bool true, .bool true, .bool false], .int .i64 0]) ∧ Vs w' Any 0 gv [] ∧ Ext No w w' :=
  (rPut_any (.slice none 0 0) [] 0 0 0 w (Vs.nil w Any 0) (by simp) (Nat.zero_le _)).mono (by rintro e w' ⟨v, rfl, ⟨gv, rfl, h⟩, hx⟩; exact ⟨gv, rfl, h, hx⟩)
theorem wApply1 (gv : Value) (w : World) (h : Vs w Any 0 gv []) : Calls Try.prog 40 #[.slice none 0 0, .agg #[gv, .bool true, .bool true, .bool false], .agg #[.int .i64 1, .bool false, .bool false, .int .i64 0, .int .i64 0, .int .i64 5, .slice none 0 0, .slice none 0 0, .int .i64 0, .slice none 0 0, .slice none 0 0]] w fun e w' => ∃ b c, e = .returned (.slice (some ⟨b, 0, none⟩) 1 c) ∧ Vs w' Any 0 (.slice (some ⟨b, 0, none⟩) 1 c) [wB] ∧ Ext No w w' :=
  (rApply_any (.slice none 0 0) _ [] ⟨[], true, true, false⟩ wA 0 w (Vs.nil w Any 0) (by simp) ⟨gv, rfl, h⟩ (by simp) (wOk w _).1 (Nat.zero_le _)).mono (by
    rintro e w' ⟨ov, rfl, ho, hx⟩
    have ho' : OwnV w' w.heap.size 0 ov [wB] := ho
    obtain ⟨⟨_, ⟨rfl, h0⟩ | ⟨g, cap, cur, rfl, _⟩⟩, _⟩ := id ho'
    · simp at h0
    · exact ⟨g, cap, rfl, ho'.vs, hx⟩)
theorem wPut2 (lv : Value) (w : World) (h : Vs w Any 0 lv [wB]) : Calls Try.prog 38 #[lv, .int .i64 2, .int .i64 4] w fun e w' => ∃ gv, e = .returned (.tuple #[.agg #[gv, .bool false, .bool false, .bool false], .int .i64 14]) ∧ gv.oneCell' = true ∧ Ext No w w' :=
  (rPut_any lv [wB] 2 4 0 w h (by simp) (Nat.zero_le _)).mono (by rintro e w' ⟨v, rfl, ⟨gv, rfl, h⟩, hx⟩; exact ⟨gv, rfl, vs_one h, hx⟩)
theorem wDel (lv : Value) (w : World) (h : Vs w Any 0 lv [wB]) : Calls Try.prog 39 #[lv, .int .i64 1, .int .i64 4] w fun e w' => ∃ gv, e = .returned (.tuple #[.agg #[gv, .bool true, .bool false, .bool true], .int .i64 0]) ∧ Vs w' Any 0 gv [] ∧ Ext No w w' :=
  (rDelete_any lv [wB] 1 4 0 w h (by simp) (Nat.zero_le _)).mono (by rintro e w' ⟨v, rfl, ⟨gv, rfl, h⟩, hx⟩; exact ⟨gv, rfl, h, hx⟩)
theorem wApply2 (lv gv : Value) (w : World) (hl : Vs w Any 0 lv [wB]) (h : Vs w Any 0 gv []) : Calls Try.prog 40 #[lv, .agg #[gv, .bool true, .bool false, .bool true], .agg #[.int .i64 2, .bool false, .bool false, .int .i64 0, .int .i64 0, .int .i64 0, .slice none 0 0, .slice none 0 0, .int .i64 0, .slice none 0 0, .slice none 0 0]] w fun e w' => ∃ b c, e = .returned (.slice (some ⟨b, 0, none⟩) 2 c) ∧ Vs w' Any 0 (.slice (some ⟨b, 0, none⟩) 2 c) [wD, wB] ∧ w'.rangeAt b 0 wD.cs ∧ b < w'.heap.size ∧ Ext No w w' :=
  (rApply_any lv _ [wB] ⟨[], true, false, true⟩ wC 0 w hl (by simp) ⟨gv, rfl, h⟩ (by simp) (wOk w _).2 (Nat.zero_le _)).mono (by
    rintro e w' ⟨ov, rfl, ho, hx⟩
    have ho' : OwnV w' w.heap.size 0 ov [wD, wB] := ho
    obtain ⟨⟨_, ⟨rfl, h0⟩ | ⟨g, cap, cur, rfl, _⟩⟩, _⟩ := id ho'
    · simp at h0
    · obtain ⟨A, c, e, -, -, b, off, hrow⟩ := ho'.vs.slice
      injection e with e1 e2 e3
      obtain ⟨e4, -, hb, hr, -⟩ := hrow 0 (by simp)
      rw [e4] at e1
      injection e1 with e1
      injection e1 with e5 e6
      subst e5 e6
      exact ⟨g, cap, rfl, ho'.vs, hr, hb, hx⟩)
theorem wThere (mv : Value) (w : World) (h : Vs w Any 0 mv [wD, wB]) : Calls Try.prog 29 #[mv] w fun e w' => e = .returned (.tuple #[.agg wD.cs.toArray, .bool false]) ∧ Ext No w w' :=
  (rThere_any mv [wD, wB] 0 w h (by simp)).mono (by rintro e w' ⟨rfl, hx⟩; exact ⟨rfl, hx⟩)
theorem wPick (mv : Value) (w : World) (h : Vs w Any 0 mv [wD, wB]) : Calls Try.prog 26 #[mv, .int .i64 0] w fun e w' => e = .returned (.tuple #[.agg wB.cs.toArray, .bool true]) ∧ Ext No w w' :=
  (rPick_any mv [wD, wB] 0 0 w h (by simp)).mono (by rintro e w' ⟨rfl, hx⟩; exact ⟨rfl, hx⟩)
theorem wId (w : World) : Calls Try.prog 35 #[.agg wD.cs.toArray] w fun e w' => e = .returned (.int .i64 2) ∧ Ext No w w' := (rId_any wD w).mono (by rintro e w' ⟨rfl, hx⟩; exact ⟨rfl, hx⟩)
theorem wHeld4 (w : World) : Calls Try.prog 30 #[.agg wB.cs.toArray, .int .i64 4] w fun e w' => e = .returned (.bool true) ∧ Ext No w w' := (rHeld_any wB 4 w).mono (by rintro e w' ⟨rfl, hx⟩; exact ⟨rfl, hx⟩)
theorem wHeld5 (w : World) : Calls Try.prog 30 #[.agg wB.cs.toArray, .int .i64 5] w fun e w' => e = .returned (.bool false) ∧ Ext No w w' := (rHeld_any wB 5 w).mono (by rintro e w' ⟨rfl, hx⟩; exact ⟨rfl, hx⟩)
theorem wHold (w : World) : Calls Try.prog 31 #[.agg wB.cs.toArray, .int .i64 4] w fun e w' => e = .returned (.int .i64 14) ∧ Ext No w w' := (rHold_any wB 4 w).mono (by rintro e w' ⟨rfl, hx⟩; exact ⟨rfl, hx⟩)
theorem wTurn (w : World) : Calls Try.prog 33 #[.int .i64 1, .int .i64 0] w fun e w' => e = .returned (.int .i64 15) ∧ Ext No w w' := (rTurn_any 1 0 w).mono (by rintro e w' ⟨rfl, hx⟩; exact ⟨rfl, hx⟩)
theorem wCells {w : World} {g : Nat} (h : Blk w g 55 wB.cs.toArray) : w.cell? ⟨g, 0, none⟩ = some (.int .i64 1) := h.cell 0
set_option pp.deepTerms true in
set_option pp.maxSteps 1000000 in
set_option maxRecDepth 100000 in
set_option maxHeartbeats 4000000 in
theorem lWorks (w : World) : Calls Try.prog 25 #[] w fun e w' => e = .returned (.bool true) ∧ Ext No w w' := by
  have HX0 := Lib.hid (Ext.refl No w)
  go_enter Try.func25, Try.ntmps25
  go_wp2_with (first
    | (go_at_call 38; (with_reducible refine (wPut1 _).mono ?_); rintro e w1 ⟨gv1, rfl, hg1, hx1⟩; have HG1 := Lib.hid hg1; have HX1 := Lib.hid (HX0.out.trans hx1); have HN1 := Lib.hid (Blk.new w1 67 zP); clear hg1 hx1)
    | ((with_reducible show wpList _ _ _ (⟨none, .store 67 (.tmp 1) (.tmp 15), _, _, _, _⟩ :: _) _ _); go_must ((change wpList _ _ _ _ _ (w1.alloc (.cells zP 67))); refine store_blk (cs' := #[gv1, .bool true, .bool true, .bool false]) 67 (.tmp 1) (.tmp 15) rfl rfl HN1.out rfl rfl rfl size_plan (one4 _ (vs_one HG1.out) _ _ _) ?_); intro w2 hb hx; have hxx : Ext No w1 w2 := ((Ext.refl No w1).alloc _).transS hx (fun i hi e => by have e : i = w1.heap.size := e; omega); have HX2 := Lib.hid (HX1.out.trans hxx); have HB2 := Lib.hid hb; have HG2 := Lib.hid (HG1.out.ext_no hxx); clear hxx; clear hb hx)
    | ((with_reducible show wpList _ _ _ (⟨some 17, _, _, _, _, _⟩ :: _) _ _); refine load_blk 67 (.tmp 1) rfl rfl HB2.out rfl _ Try.underlying67 rfl size_plan ?_)
    | (go_at_call 40; (with_reducible refine (wApply1 gv1 _ HG2.out).mono ?_); rintro e w3 ⟨b3, c3, rfl, hl3, hx3⟩; have HL3 := Lib.hid hl3; have HX3 := Lib.hid (HX2.out.trans hx3); have HB23 := Lib.hid (HB2.out.ext_no hx3); clear hl3 hx3)
    | (go_at_call 38; (with_reducible refine (wPut2 _ _ HL3.out).mono ?_); rintro e w4 ⟨gv4, rfl, ho4, hx4⟩; have HO4 := Lib.hid ho4; clear ho4; have HL4 := Lib.hid (HL3.out.ext_no hx4); have HX4 := Lib.hid (HX3.out.trans hx4); have HB24 := Lib.hid (HB23.out.ext_no hx4); have HN4 := Lib.hid (Blk.new w4 67 zP); clear hx4)
    | ((with_reducible show wpList _ _ _ (⟨none, .store 67 (.tmp 4) (.tmp 23), _, _, _, _⟩ :: _) _ _); go_must ((change wpList _ _ _ _ _ (w4.alloc (.cells zP 67))); refine store_blk (cs' := #[gv4, .bool false, .bool false, .bool false]) 67 (.tmp 4) (.tmp 23) rfl rfl HN4.out rfl rfl rfl size_plan (one4 _ HO4.out _ _ _) ?_); intro w5 hb hx; have hxx : Ext No w4 w5 := ((Ext.refl No w4).alloc _).transS hx (fun i hi e => by have e : i = w4.heap.size := e; omega); have HX5 := Lib.hid (HX4.out.trans hxx); have HB5 := Lib.hid hb; have HL5 := Lib.hid (HL4.out.ext_no hxx); have HB25 := Lib.hid (HB24.out.ext_no hxx); clear hxx; clear hb hx)
    | (go_at_call 39; (with_reducible refine (wDel _ _ HL5.out).mono ?_); rintro e w6 ⟨gv6, rfl, hg6, hx6⟩; have HG6 := Lib.hid hg6; have HL6 := Lib.hid (HL5.out.ext_no hx6); have HX6 := Lib.hid (HX5.out.trans hx6); have HB26 := Lib.hid (HB25.out.ext_no hx6); have HN6 := Lib.hid (Blk.new w6 67 zP); clear hg6 hx6)
    | ((with_reducible show wpList _ _ _ (⟨none, .store 67 (.tmp 6) (.tmp 28), _, _, _, _⟩ :: _) _ _); go_must ((change wpList _ _ _ _ _ (w6.alloc (.cells zP 67))); refine store_blk (cs' := #[gv6, .bool true, .bool false, .bool true]) 67 (.tmp 6) (.tmp 28) rfl rfl HN6.out rfl rfl rfl size_plan (one4 _ (vs_one HG6.out) _ _ _) ?_); intro w7 hb hx; have hxx : Ext No w6 w7 := ((Ext.refl No w6).alloc _).transS hx (fun i hi e => by have e : i = w6.heap.size := e; omega); have HX7 := Lib.hid (HX6.out.trans hxx); have HB7 := Lib.hid hb; have HG7 := Lib.hid (HG6.out.ext_no hxx); have HL7 := Lib.hid (HL6.out.ext_no hxx); have HB27 := Lib.hid (HB26.out.ext_no hxx); clear hxx; clear hb hx)
    | ((with_reducible show wpList _ _ _ (⟨some 31, _, _, _, _, _⟩ :: _) _ _); refine load_blk 67 (.tmp 6) rfl rfl HB7.out rfl _ Try.underlying67 rfl size_plan ?_)
    | (go_at_call 40; (with_reducible refine (wApply2 _ gv6 _ HL7.out HG7.out).mono ?_); rintro e w8 ⟨b8, c8, rfl, hl8, hr8, hb8, hx8⟩; have HL8 := Lib.hid hl8; have HR8 := Lib.hid hr8; have HB8' := Lib.hid hb8; have HX8 := Lib.hid (HX7.out.trans hx8); have HB28 := Lib.hid (HB27.out.ext_no hx8); have HB78 := Lib.hid (HB7.out.ext_no hx8); clear hl8 hr8 hb8 hx8)
    | (go_at_call 29; (with_reducible refine (wThere _ _ HL8.out).mono ?_); rintro e w9 ⟨rfl, hx9⟩; have HL9 := Lib.hid (HL8.out.ext_no hx9); have HR9 := Lib.hid (range_ext HR8.out hx9 HB8'.out (fun h => h)); have HX9 := Lib.hid (HX8.out.trans hx9); have HB29 := Lib.hid (HB28.out.ext_no hx9); have HB79 := Lib.hid (HB78.out.ext_no hx9); have HS9 := Lib.hid (Nat.lt_of_lt_of_le HB8'.out hx9.size); have HN9 := Lib.hid (Blk.new w9 55 Vr.zero.cs.toArray); clear hx9)
    | ((with_reducible show wpList _ _ _ (⟨none, .store 55 (.tmp 9) (.tmp 37), _, _, _, _⟩ :: _) _ _); go_must ((change wpList _ _ _ _ _ (w9.alloc (.cells Vr.zero.cs.toArray 55))); refine store_blk (cs' := wD.cs.toArray) 55 (.tmp 9) (.tmp 37) rfl rfl HN9.out rfl rfl rfl size_ver (cs_one' wD) ?_); intro w10 hb hx; have hxx : Ext No w9 w10 := ((Ext.refl No w9).alloc _).transS hx (fun i hi e => by have e : i = w9.heap.size := e; omega); have HX10 := Lib.hid (HX9.out.trans hxx); have HB10 := Lib.hid hb; have HL10 := Lib.hid (HL9.out.ext_no hxx); have HR10 := Lib.hid (range_ext HR9.out hxx HS9.out (fun h => h)); have HB210 := Lib.hid (HB29.out.ext_no hxx); have HB710 := Lib.hid (HB79.out.ext_no hxx); have HS10 := Lib.hid (Nat.lt_of_lt_of_le HS9.out hxx.size); clear hxx; clear hb hx)
    | (go_at_call 26; (with_reducible refine (wPick _ _ HL10.out).mono ?_); rintro e w11 ⟨rfl, hx11⟩; have HR11 := Lib.hid (range_ext HR10.out hx11 HS10.out (fun h => h)); have HX11 := Lib.hid (HX10.out.trans hx11); have HB211 := Lib.hid (HB210.out.ext_no hx11); have HB711 := Lib.hid (HB710.out.ext_no hx11); have HS11 := Lib.hid (Nat.lt_of_lt_of_le HS10.out hx11.size); have HN11 := Lib.hid (Blk.new w11 55 Vr.zero.cs.toArray); clear hx11)
    | ((with_reducible show wpList _ _ _ (⟨none, .store 55 (.tmp 11) (.tmp 42), _, _, _, _⟩ :: _) _ _); go_must ((change wpList _ _ _ _ _ (w11.alloc (.cells Vr.zero.cs.toArray 55))); refine store_blk (cs' := wB.cs.toArray) 55 (.tmp 11) (.tmp 42) rfl rfl HN11.out rfl rfl rfl size_ver (cs_one' wB) ?_); intro w12 hb hx; have hxx : Ext No w11 w12 := ((Ext.refl No w11).alloc _).transS hx (fun i hi e => by have e : i = w11.heap.size := e; omega); have HX12 := Lib.hid (HX11.out.trans hxx); have HB12 := Lib.hid hb; have HR12 := Lib.hid (range_ext HR11.out hxx HS11.out (fun h => h)); have HS12 := Lib.hid (Nat.lt_of_lt_of_le HS11.out hxx.size); have q2 := (HB211.out.ext_no hxx).c4; have q7 := (HB711.out.ext_no hxx).c4; have q0 : w12.cell? ⟨w11.heap.size, 0, none⟩ = some (.int .i64 1) := hb.cell 0; clear hxx; clear hb hx)
    | ((with_reducible show wpList _ _ _ (⟨some 87, _, _, _, _, _⟩ :: _) _ _); go_must (refine list_want (by first | rfl | simp [Region.wanted, yielded]) (fun K hK => ?_); refine wp_load_mid 55 (.tmp 86) rfl b8 0 rfl wD.cs _ HR12.out Try.underlying55 rfl size_ver (hK _ _ ?_); clear hK K))
    | (go_at_call 35; (with_reducible refine (wId _).mono ?_); rintro e w13 ⟨rfl, hx13⟩; have HX13 := Lib.hid (HX12.out.trans hx13); have HB13 := Lib.hid (HB12.out.ext_no hx13); clear hx13)
    | ((with_reducible show wpList _ _ _ (⟨some 92, _, _, _, _, _⟩ :: _) _ _); go_must (refine list_want (by first | rfl | simp [Region.wanted, yielded]) (fun K hK => ?_); refine wp_load_row 55 (.tmp 11) rfl _ rfl _ _ _ _ HB13.out Try.underlying55 rfl size_ver (hK _ _ ?_); clear hK K))
    | (go_at_call 30; (with_reducible refine (wHeld4 _).mono ?_); rintro e w14 ⟨rfl, hx14⟩; have HX14 := Lib.hid (HX13.out.trans hx14); have HB14 := Lib.hid (HB13.out.ext_no hx14); clear hx14)
    | ((with_reducible show wpList _ _ _ (⟨some 96, _, _, _, _, _⟩ :: _) _ _); go_must (refine list_want (by first | rfl | simp [Region.wanted, yielded]) (fun K hK => ?_); refine wp_load_row 55 (.tmp 11) rfl _ rfl _ _ _ _ HB14.out Try.underlying55 rfl size_ver (hK _ _ ?_); clear hK K))
    | (go_at_call 30; (with_reducible refine (wHeld5 _).mono ?_); rintro e w15 ⟨rfl, hx15⟩; have HX15 := Lib.hid (HX14.out.trans hx15); have HB15 := Lib.hid (HB14.out.ext_no hx15); clear hx15)
    | ((with_reducible show wpList _ _ _ (⟨some 101, _, _, _, _, _⟩ :: _) _ _); go_must (refine list_want (by first | rfl | simp [Region.wanted, yielded]) (fun K hK => ?_); refine wp_load_row 55 (.tmp 11) rfl _ rfl _ _ _ _ HB15.out Try.underlying55 rfl size_ver (hK _ _ ?_); clear hK K))
    | (go_at_call 31; (with_reducible refine (wHold _).mono ?_); rintro e w16 ⟨rfl, hx16⟩; have HX16 := Lib.hid (HX15.out.trans hx16); clear hx16)
    | (go_at_call 33; (with_reducible refine (wTurn _).mono ?_); rintro e w17 ⟨rfl, hx17⟩; have HX17 := Lib.hid (HX16.out.trans hx17); clear hx17))
  go_ret
  exact ⟨rfl, HX17.out⟩
end Go.Proofs.Ytlfhfomidkadiaa
