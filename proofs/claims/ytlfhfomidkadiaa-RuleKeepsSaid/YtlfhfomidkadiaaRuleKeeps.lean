/- What is held stays. No condition. -/
import Derived.Test.YtlfhfomidkadiaaRuleDoesP
import Derived.Test.YtlfhfomidkadiaaRegLate
set_option linter.unusedVariables false
set_option linter.unusedSimpArgs false
namespace Go.Proofs.Ytlfhfomidkadiaa
open Go.RowKit Go.Deep

def V24t (ls : List Vr) (x y : Vr) (LF : Nat → List Vr) (gR b o c bi oi ci i j k : Nat) : Nat → Value
  | 0 => Value.bool true
  | 1 => Value.bool true
  | 2 => undef
  | 3 => undef
  | 4 => undef
  | 5 => undef
  | 6 => undef
  | 7 => undef
  | 8 => undef
  | 9 => undef
  | 10 => undef
  | 11 => undef
  | 12 => undef
  | 13 => undef
  | 14 => Value.bool true
  | 15 => Value.bool true
  | _ => undef
def V24f (ls : List Vr) (x y : Vr) (LF : Nat → List Vr) (gR b o c bi oi ci i j k : Nat) : Nat → Value
  | 0 => Value.bool false
  | 1 => Value.bool false
  | 2 => Value.slice (some ⟨gR, 0, none⟩) 3 3
  | 3 => Value.int .i64 (i : Int)
  | 4 => Value.pointer (some ⟨gR, i, none⟩)
  | 5 => Value.slice (some ⟨bi, oi, none⟩) (LF i).length ci
  | 6 => Value.int .i64 (j : Int)
  | 7 => Value.pointer (some ⟨bi, oi + j * 11, none⟩)
  | 8 => Value.agg y.cs.toArray
  | 9 => Value.slice (some ⟨b, o, none⟩) ls.length c
  | 10 => Value.int .i64 (k : Int)
  | 11 => Value.pointer (some ⟨b, o + k * 11, none⟩)
  | 12 => Value.agg x.cs.toArray
  | 13 => Value.bool (svB y x)
  | 14 => Value.bool (svB y x)
  | 15 => Value.bool (svB y x)
  | _ => undef
/-- What the three rows are good for. -/
def Kp3 (w : World) (B g : Nat) (ls : List Vr) (now : Int) (LF : Nat → List Vr) : Prop :=
  ∀ i, i < 3 → ∃ A c, w.cell? ⟨g, i, none⟩ = some (.slice A (LF i).length c) ∧ Vs w Any B (.slice A (LF i).length c) (LF i) ∧ (LF i).length ≤ 31 ∧ (ls.length < 30 → Right (LF i)) ∧ ∀ x ∈ ls, heldV x now = true → x ∈ LF i
theorem okV_seq {s : Int} (h : 1 ≤ s) : okV (seqV s) = true := by unfold okV seqV; simp [h, Vr.zero]
theorem Kp3.of {w : World} {B g : Nat} {ls : List Vr} {now s : Int} {p1 p2 p3 : Pl} {a1 a2 a3 : Value} (hR : Right ls) (hlt : ∀ x ∈ ls, x.seq < s) (h1 : Fair ls now p1) (h2 : Fair ls now p2) (h3 : Fair ls now p3) (hb : Blk w g 50 #[a1, a2, a3])
    (v1 : Vs w Any B a1 (appP ls p1 (seqV s))) (v2 : Vs w Any B a2 (appP ls p2 (seqV s))) (v3 : Vs w Any B a3 (appP ls p3 (seqV s))) (hs : 1 ≤ s) :
    Kp3 w B g ls now (fun i => if i = 0 then appP ls p1 (seqV s) else if i = 1 then appP ls p2 (seqV s) else appP ls p3 (seqV s)) := by
  have one : ∀ (p : Pl) (a : Value) (i : Nat), Fair ls now p → Vs w Any B a (appP ls p (seqV s)) → w.cell? ⟨g, i, none⟩ = some a → ∃ A c, w.cell? ⟨g, i, none⟩ = some (.slice A (appP ls p (seqV s)).length c) ∧ Vs w Any B (.slice A (appP ls p (seqV s)).length c) (appP ls p (seqV s)) ∧ (appP ls p (seqV s)).length ≤ 31 ∧ (ls.length < 30 → Right (appP ls p (seqV s))) ∧ ∀ x ∈ ls, heldV x now = true → x ∈ appP ls p (seqV s) := by
    intro p a i hf hv hc
    obtain ⟨A, c, rfl, -⟩ := hv.slice
    refine ⟨A, c, hc, hv, ?_, fun hl => right_app hR hl hf (okV_seq hs) hlt, fun x hx hh => kept hR.fall hf _ hx hh⟩
    have := app_len ls p (seqV s)
    have := hR.len
    omega
  intro i hi
  match i, hi with
  | 0, _ => exact one p1 a1 0 h1 v1 (hb.cell 0)
  | 1, _ => exact one p2 a2 1 h2 v2 (hb.cell 1)
  | 2, _ => exact one p3 a3 2 h3 v3 (hb.cell 2)
/-- Three rows, laid in a row. -/
def Rows3 (B : Nat) (L1 L2 L3 : List Vr) (v : Value) (w : World) : Prop := ∃ g a1 a2 a3, v = .slice (some ⟨g, 0, none⟩) 3 3 ∧ Blk w g 50 #[a1, a2, a3] ∧ Vs w Any B a1 L1 ∧ Vs w Any B a2 L2 ∧ Vs w Any B a3 L3
theorem Rows3.no {B : Nat} {L1 L2 L3 : List Vr} {v : Value} {w w' : World} (hx : Ext No w w') (h : Rows3 B L1 L2 L3 v w) : Rows3 B L1 L2 L3 v w' := by
  obtain ⟨g, a1, a2, a3, e, hb, h1, h2, h3⟩ := h
  exact ⟨g, a1, a2, a3, e, hb.ext_no hx, h1.ext_no hx, h2.ext_no hx, h3.ext_no hx⟩
def FKp (B : Nat) (lsv : Value) (p1 p2 p3 : Array Value) (v : Vr) (L1 L2 L3 : List Vr) : Nat → Value → World → Prop
  | 0, u, _ => u = lsv
  | 1, u, _ => u = .agg p1
  | 2, u, _ => u = .agg v.cs.toArray
  | 3, u, w => Vs w Any B u L1
  | 4, u, _ => u = lsv
  | 5, u, _ => u = .agg p2
  | 6, u, _ => u = .agg v.cs.toArray
  | 7, u, w => Vs w Any B u L2
  | 8, u, _ => u = lsv
  | 9, u, _ => u = .agg p3
  | 10, u, _ => u = .agg v.cs.toArray
  | 11, u, w => Vs w Any B u L3
  | 12, u, w => Rows3 B L1 L2 L3 u w
  | 13, u, w => Rows3 B L1 L2 L3 u w
  | _, _, _ => True
theorem FKp.no {B : Nat} {lsv : Value} {p1 p2 p3 : Array Value} {v : Vr} {L1 L2 L3 : List Vr} {w w' : World} (hx : Ext No w w') : ∀ j u, FKp B lsv p1 p2 p3 v L1 L2 L3 j u w → FKp B lsv p1 p2 p3 v L1 L2 L3 j u w' := by
  intro j u h
  match j, h with
  | 0, h | 1, h | 2, h | 4, h | 5, h | 6, h | 8, h | 9, h | 10, h => exact h
  | 3, h | 7, h | 11, h => exact Vs.ext_no h hx
  | 12, h | 13, h => exact Rows3.no hx h
  | m + 14, _ => trivial
set_option pp.deepTerms true in
set_option pp.maxSteps 1000000 in
set_option maxRecDepth 100000 in
set_option maxHeartbeats 8000000 in
theorem keeps26_any (lv : Value) (ls : List Vr) (st id now : Int) (hst : 0 ≤ st ∧ st ≤ 255) (W : World) (hl : Vs W Any W.heap.size lv ls) :
    Calls Try.prog 9 #[lv, .int .u8 st, .int .i64 id, .int .i64 now] W fun e W' => e = .returned (.bool true) ∧ Ext No W W' := by
  obtain ⟨A, c, rfl, hc, hm, b, o, hrow⟩ := hl.slice
  unfold maxLen at hm
  have HL := Lib.hid hl
  have HX0 := Lib.hid (Ext.refl No W)
  by_cases hR : Right ls
  · have h30 : ls.length ≤ 30 := hR.len
    have HR := Lib.hid hR
    have HROW := Lib.hid hrow
    clear hl hrow hR
    go_enter Try.func9, Try.ntmps9
    go_wp2_with (first
      | (go_at_call 24; (with_reducible refine (lRight_t _ ls W.heap.size _ HL.out HR.out).mono ?_); rintro e_ w1 ⟨rfl, hx⟩; have HL_1 := Lib.hid (HL.out.ext_no hx); have HXx1 := Lib.hid (HX0.out.trans hx); clear hx))
    refine (onBehind _ ls W.heap.size _ HL_1.out HR.out).mono ?_
    rintro e_ w2 ⟨s, rfl, ⟨hs, hlt⟩, hx⟩
    have HL_2 := Lib.hid (HL_1.out.ext_no hx)
    have HXx2 := Lib.hid (HXx1.out.trans hx)
    have HV_2 := Lib.hid (ok_seqV w2 (fun b => b < W.heap.size) hs)
    have HLT := Lib.hid hlt
    clear hx hlt
    by_cases hs1 : s < 1
    · go_wp2_with (first
        | ((with_reducible show wpList _ _ _ (⟨none, .store 55 (.tmp 9) (.tmp 27), _, _, _, _⟩ :: _) _ _); go_must ((change wpList _ _ _ _ _ (w2.alloc (.cells Vr.zero.cs.toArray 55))); refine store_blk (cs' := (seqV s).cs.toArray) 55 (.tmp 9) (.tmp 27) rfl rfl (Blk.new w2 55 Vr.zero.cs.toArray) rfl rfl rfl size_ver (cs_one' (seqV s)) ?_); intro w3 hb hx; have hxx : Ext No w2 w3 := ((Ext.refl No w2).alloc _).transS hx (fun i hi e => by have e : i = w2.heap.size := e; omega); have HL_3 := Lib.hid (HL_2.out.ext_no hxx); have HV_3 := Lib.hid (HV_2.out.ext_no hxx); have HXx3 := Lib.hid (HXx2.out.trans hxx); have HBV_3 := Lib.hid hb; have q0 : w3.cell? ⟨w2.heap.size, 0, none⟩ = some (.int .i64 s) := hb.cell 0; clear hb hx hxx)
        | (go_at_call 25; (with_reducible refine (lWorks _).mono ?_); rintro e_ w4 ⟨rfl, hx⟩; have HL_4 := Lib.hid (HL_3.out.ext_no hx); have HV_4 := Lib.hid (HV_3.out.ext_no hx); have HBV_4 := Lib.hid (HBV_3.out.ext_no hx); have HXx4 := Lib.hid (HXx3.out.trans hx); clear hx))
      go_ret
      exact ⟨rfl, HXx4.out⟩
    · obtain ⟨E, hE⟩ : ∃ E, IntKind.i64.wrap (st.tmod 3) = E := ⟨_, rfl⟩
      obtain ⟨⟨⟨g1, c1, n1, m1⟩, e⟩, h1⟩ : ∃ x, putP ls (st % 3) now = x := ⟨_, rfl⟩
      obtain ⟨⟨⟨g2, c2, n2, m2⟩, f⟩, h2⟩ : ∃ x, delP ls (st % 3) now = x := ⟨_, rfl⟩
      obtain ⟨⟨⟨g3, c3, n3, m3⟩, g⟩, h3⟩ : ∃ x, remP ls id now = x := ⟨_, rfl⟩
      clear hE
      have H1 := Lib.hid h1
      have H2 := Lib.hid h2
      have H3 := Lib.hid h3
      have HG1L : Hid (g1.length ≤ 1) := Lib.hid (by have := put_gone ls (st % 3) now; rwa [h1] at this)
      have HG2L : Hid (g2.length ≤ 1) := Lib.hid (by have := del_gone ls (st % 3) now; rwa [h2] at this)
      have HG3L : Hid (g3.length ≤ 1) := Lib.hid (by have := rem_gone ls id now; rwa [h3] at this)
      have HF1 : Hid (Fair ls now ⟨g1, c1, n1, m1⟩) := Lib.hid (by have := put_fair HR.out (st % 3) now; rwa [h1] at this)
      have HF2 : Hid (Fair ls now ⟨g2, c2, n2, m2⟩) := Lib.hid (by have := del_fair HR.out (st % 3) now; rwa [h2] at this)
      have HF3 : Hid (Fair ls now ⟨g3, c3, n3, m3⟩) := Lib.hid (by have := rem_fair HR.out id now; rwa [h3] at this)
      clear h1 h2 h3
      go_wp2_with (first
        | ((with_reducible show wpList _ _ _ (⟨none, .store 55 (.tmp 9) (.tmp 27), _, _, _, _⟩ :: _) _ _); go_must ((change wpList _ _ _ _ _ (w2.alloc (.cells Vr.zero.cs.toArray 55))); refine store_blk (cs' := (seqV s).cs.toArray) 55 (.tmp 9) (.tmp 27) rfl rfl (Blk.new w2 55 Vr.zero.cs.toArray) rfl rfl rfl size_ver (cs_one' (seqV s)) ?_); intro w3 hb hx; have hxx : Ext No w2 w3 := ((Ext.refl No w2).alloc _).transS hx (fun i hi e => by have e : i = w2.heap.size := e; omega); have HL_3 := Lib.hid (HL_2.out.ext_no hxx); have HV_3 := Lib.hid (HV_2.out.ext_no hxx); have HXx3 := Lib.hid (HXx2.out.trans hxx); have HBV_3 := Lib.hid hb; have q0 : w3.cell? ⟨w2.heap.size, 0, none⟩ = some (.int .i64 s) := hb.cell 0; clear hb hx hxx)
        | (go_at_call 38; (with_reducible refine (dPut H1.out HL_3.out (by omega) (Nat.le_trans (Nat.le_refl _) HXx3.out.size)).mono ?_); rintro e_ w4 ⟨gv1, rfl, hg, hx⟩; have HL_4 := Lib.hid (HL_3.out.ext_no hx); have HV_4 := Lib.hid (HV_3.out.ext_no hx); have HBV_4 := Lib.hid (HBV_3.out.ext_no hx); have HXx4 := Lib.hid (HXx3.out.trans hx); have HG1_4 := Lib.hid hg; clear hx hg)
        | ((with_reducible show wpList _ _ _ (⟨none, .store 67 (.tmp 11) (.tmp 40), _, _, _, _⟩ :: _) _ _); go_must ((change wpList _ _ _ _ _ (w4.alloc (.cells zP 67))); refine store_blk (cs' := #[gv1, .bool c1, .bool n1, .bool m1]) 67 (.tmp 11) (.tmp 40) rfl rfl (Blk.new w4 67 zP) rfl rfl rfl size_plan (one4 _ (vs_one HG1_4.out) _ _ _) ?_); intro w5 hb hx; have hxx : Ext No w4 w5 := ((Ext.refl No w4).alloc _).transS hx (fun i hi e => by have e : i = w4.heap.size := e; omega); have HL_5 := Lib.hid (HL_4.out.ext_no hxx); have HV_5 := Lib.hid (HV_4.out.ext_no hxx); have HBV_5 := Lib.hid (HBV_4.out.ext_no hxx); have HG1_5 := Lib.hid (HG1_4.out.ext_no hxx); have HXx5 := Lib.hid (HXx4.out.trans hxx); have HP1_5 := Lib.hid hb; clear hb hx hxx)
        | (go_at_call 39; (with_reducible refine (dDel H2.out HL_5.out (by omega) (Nat.le_trans (Nat.le_refl _) HXx5.out.size)).mono ?_); rintro e_ w6 ⟨gv2, rfl, hg, hx⟩; have HL_6 := Lib.hid (HL_5.out.ext_no hx); have HV_6 := Lib.hid (HV_5.out.ext_no hx); have HBV_6 := Lib.hid (HBV_5.out.ext_no hx); have HG1_6 := Lib.hid (HG1_5.out.ext_no hx); have HP1_6 := Lib.hid (HP1_5.out.ext_no hx); have HXx6 := Lib.hid (HXx5.out.trans hx); have HG2_6 := Lib.hid hg; clear hx hg)
        | ((with_reducible show wpList _ _ _ (⟨none, .store 67 (.tmp 13) (.tmp 47), _, _, _, _⟩ :: _) _ _); go_must ((change wpList _ _ _ _ _ (w6.alloc (.cells zP 67))); refine store_blk (cs' := #[gv2, .bool c2, .bool n2, .bool m2]) 67 (.tmp 13) (.tmp 47) rfl rfl (Blk.new w6 67 zP) rfl rfl rfl size_plan (one4 _ (vs_one HG2_6.out) _ _ _) ?_); intro w7 hb hx; have hxx : Ext No w6 w7 := ((Ext.refl No w6).alloc _).transS hx (fun i hi e => by have e : i = w6.heap.size := e; omega); have HL_7 := Lib.hid (HL_6.out.ext_no hxx); have HV_7 := Lib.hid (HV_6.out.ext_no hxx); have HBV_7 := Lib.hid (HBV_6.out.ext_no hxx); have HG1_7 := Lib.hid (HG1_6.out.ext_no hxx); have HP1_7 := Lib.hid (HP1_6.out.ext_no hxx); have HG2_7 := Lib.hid (HG2_6.out.ext_no hxx); have HXx7 := Lib.hid (HXx6.out.trans hxx); have HP2_7 := Lib.hid hb; clear hb hx hxx)
        | (go_at_call 44; (with_reducible refine (dRem H3.out HL_7.out (by omega) (Nat.le_trans (Nat.le_refl _) HXx7.out.size)).mono ?_); rintro e_ w8 ⟨gv3, rfl, hg, hx⟩; have HL_8 := Lib.hid (HL_7.out.ext_no hx); have HV_8 := Lib.hid (HV_7.out.ext_no hx); have HBV_8 := Lib.hid (HBV_7.out.ext_no hx); have HG1_8 := Lib.hid (HG1_7.out.ext_no hx); have HP1_8 := Lib.hid (HP1_7.out.ext_no hx); have HG2_8 := Lib.hid (HG2_7.out.ext_no hx); have HP2_8 := Lib.hid (HP2_7.out.ext_no hx); have HXx8 := Lib.hid (HXx7.out.trans hx); have HG3_8 := Lib.hid hg; clear hx hg)
        | ((with_reducible show wpList _ _ _ (⟨none, .store 67 (.tmp 15) (.tmp 54), _, _, _, _⟩ :: _) _ _); go_must ((change wpList _ _ _ _ _ (w8.alloc (.cells zP 67))); refine store_blk (cs' := #[gv3, .bool c3, .bool n3, .bool m3]) 67 (.tmp 15) (.tmp 54) rfl rfl (Blk.new w8 67 zP) rfl rfl rfl size_plan (one4 _ (vs_one HG3_8.out) _ _ _) ?_); intro w9 hb hx; have hxx : Ext No w8 w9 := ((Ext.refl No w8).alloc _).transS hx (fun i hi e => by have e : i = w8.heap.size := e; omega); have HL_9 := Lib.hid (HL_8.out.ext_no hxx); have HV_9 := Lib.hid (HV_8.out.ext_no hxx); have HBV_9 := Lib.hid (HBV_8.out.ext_no hxx); have HG1_9 := Lib.hid (HG1_8.out.ext_no hxx); have HP1_9 := Lib.hid (HP1_8.out.ext_no hxx); have HG2_9 := Lib.hid (HG2_8.out.ext_no hxx); have HP2_9 := Lib.hid (HP2_8.out.ext_no hxx); have HG3_9 := Lib.hid (HG3_8.out.ext_no hxx); have HXx9 := Lib.hid (HXx8.out.trans hxx); have HP3_9 := Lib.hid hb; clear hb hx hxx))
      refine RF.region (vs := fun _ => undef) rfl (fun vs => ((Value.slice A ls.length c) :: (Value.int IntKind.u8 st) :: (Value.int IntKind.i64 id) :: (Value.int IntKind.i64 now) :: undef :: undef :: undef :: undef :: (Value.bool false) :: (Value.pointer (some ⟨w2.heap.size, 0, none⟩)) :: (Value.int IntKind.i64 (st % 3)) :: (Value.pointer (some ⟨w4.heap.size, 0, none⟩)) :: (Value.int IntKind.i64 e) :: (Value.pointer (some ⟨w6.heap.size, 0, none⟩)) :: (Value.int IntKind.i64 f) :: (Value.pointer (some ⟨w8.heap.size, 0, none⟩)) :: (Value.int IntKind.i64 g) :: (vs 13) :: undef :: undef :: undef :: undef :: (Value.slice A ls.length c) :: (Value.bool true) :: (Value.bool false) :: undef :: (Value.slice A ls.length c) :: (Value.agg (seqV s).cs.toArray) :: (Value.pointer (some ⟨w2.heap.size, 0, none⟩)) :: (Value.int IntKind.i64 s) :: (Value.bool (decide (s < 1))) :: undef :: (Value.int IntKind.u8 st) :: (Value.int IntKind.i64 st) :: (Value.int IntKind.i64 (st % 3)) :: (Value.tuple #[Value.agg #[gv1, Value.bool c1, Value.bool n1, Value.bool m1], Value.int IntKind.i64 e]) :: (Value.slice A ls.length c) :: (Value.int IntKind.i64 (st % 3)) :: (Value.int IntKind.i64 now) :: (Value.tuple #[Value.agg #[gv1, Value.bool c1, Value.bool n1, Value.bool m1], Value.int IntKind.i64 e]) :: (Value.agg #[gv1, Value.bool c1, Value.bool n1, Value.bool m1]) :: (Value.int IntKind.i64 e) :: (Value.tuple #[Value.agg #[gv2, Value.bool c2, Value.bool n2, Value.bool m2], Value.int IntKind.i64 f]) :: (Value.slice A ls.length c) :: (Value.int IntKind.i64 (st % 3)) :: (Value.int IntKind.i64 now) :: (Value.tuple #[Value.agg #[gv2, Value.bool c2, Value.bool n2, Value.bool m2], Value.int IntKind.i64 f]) :: (Value.agg #[gv2, Value.bool c2, Value.bool n2, Value.bool m2]) :: (Value.int IntKind.i64 f) :: (Value.tuple #[Value.agg #[gv3, Value.bool c3, Value.bool n3, Value.bool m3], Value.int IntKind.i64 g]) :: (Value.slice A ls.length c) :: (Value.int IntKind.i64 id) :: (Value.int IntKind.i64 now) :: (Value.tuple #[Value.agg #[gv3, Value.bool c3, Value.bool n3, Value.bool m3], Value.int IntKind.i64 g]) :: (Value.agg #[gv3, Value.bool c3, Value.bool n3, Value.bool m3]) :: (Value.int IntKind.i64 g) :: (vs 0) :: (vs 1) :: (vs 2) :: (vs 3) :: (vs 4) :: (vs 5) :: (vs 6) :: (vs 7) :: (vs 8) :: (vs 9) :: (vs 10) :: (vs 11) :: (vs 12) :: undef :: undef :: undef :: undef :: undef :: undef :: undef :: undef :: undef :: undef :: undef :: undef :: undef :: undef :: undef :: undef :: undef :: undef :: undef :: undef :: undef :: undef :: undef :: undef :: undef :: undef :: undef :: undef :: undef :: undef :: undef :: undef :: undef :: undef :: undef :: undef :: undef :: undef :: undef :: undef :: undef :: undef :: undef :: undef :: undef :: undef :: undef :: undef :: undef :: undef :: undef :: undef :: undef :: undef :: undef :: undef :: undef :: []).toArray)
        (FKp W.heap.size (Value.slice A ls.length c) #[gv1, .bool c1, .bool n1, .bool m1] #[gv2, .bool c2, .bool n2, .bool m2] #[gv3, .bool c3, .bool n3, .bool m3] (seqV s) (appP ls ⟨g1, c1, n1, m1⟩ (seqV s)) (appP ls ⟨g2, c2, n2, m2⟩ (seqV s)) (appP ls ⟨g3, c3, n3, m3⟩ (seqV s))) (fun _ wz => Ext No w9 wz) rfl (by kernel_rfl) ?_ ?_ ?_
      · exact (Ext.refl No w9).drew
      · refine ⟨⟨⟨⟨⟨⟨⟨⟨⟨⟨⟨⟨⟨⟨trivial, ?_⟩, ?_⟩, ?_⟩, ?_⟩, ?_⟩, ?_⟩, ?_⟩, ?_⟩, ?_⟩, ?_⟩, ?_⟩, ?_⟩, ?_⟩, ?_⟩
        · refine RF.Step.plain rfl rfl (fun vs wx hG hv hd K hK => ?_)
          go_simp
          exact hK _ _ hG rfl (fun _ _ h => h)
        · refine RF.Step.plain rfl rfl (fun vs wx hG hv hd K hK => ?_)
          refine wp_load_row 67 (.tmp 11) rfl _ rfl _ _ _ _ (HP1_9.out.ext_no hG) Try.underlying67 rfl size_plan ?_
          exact hK _ _ hG rfl (fun _ _ h => h)
        · refine RF.Step.plain rfl rfl (fun vs wx hG hv hd K hK => ?_)
          refine wp_load_row 55 (.tmp 9) rfl _ rfl _ _ _ _ (HBV_9.out.ext_no hG) Try.underlying55 rfl size_ver ?_
          exact hK _ _ hG rfl (fun _ _ h => h)
        · refine RF.Step.plain rfl rfl (fun vs wx hG hv hd K hK => ?_)
          have h0 : vs 0 = Value.slice A ls.length c := by first | exact hd.1 | exact hd.2.1 | exact hd.2.2.1 | exact hd.2.2.2.1 | exact hd.2.2.2.2.1
          have h1 : vs 1 = Value.agg #[gv1, .bool c1, .bool n1, .bool m1] := by first | exact hd.1 | exact hd.2.1 | exact hd.2.2.1 | exact hd.2.2.2.1 | exact hd.2.2.2.2.1
          have h2 : vs 2 = Value.agg (seqV s).cs.toArray := by first | exact hd.1 | exact hd.2.1 | exact hd.2.2.1 | exact hd.2.2.2.1 | exact hd.2.2.2.2.1
          go_simp
          refine (dApp (ls := ls) (g := g1) (gv := gv1) (v := seqV s) (HG1_9.out.ext_no hG) HG1L.out (HL_9.out.ext_no hG) (by omega) (HV_9.out.ext_no hG) (Nat.le_trans HXx9.out.size hG.size)).mono ?_
          rintro e w' ⟨ov, rfl, ho, hx⟩
          have h4 := hK ov _ (Ext.trans hG hx) ho (fun j _ h => FKp.no hx j _ h)
          first | exact h4 | (simpa only [RF.upd, h0, h1, h2, Nat.reduceEqDiff, if_true, if_false, reduceIte] using h4) | (simp only [RF.upd, h0, h1, h2, Nat.reduceEqDiff, if_true, if_false, reduceIte] at h4 ⊢; exact h4)
        · refine RF.Step.plain rfl rfl (fun vs wx hG hv hd K hK => ?_)
          go_simp
          exact hK _ _ hG rfl (fun _ _ h => h)
        · refine RF.Step.plain rfl rfl (fun vs wx hG hv hd K hK => ?_)
          refine wp_load_row 67 (.tmp 13) rfl _ rfl _ _ _ _ (HP2_9.out.ext_no hG) Try.underlying67 rfl size_plan ?_
          exact hK _ _ hG rfl (fun _ _ h => h)
        · refine RF.Step.plain rfl rfl (fun vs wx hG hv hd K hK => ?_)
          refine wp_load_row 55 (.tmp 9) rfl _ rfl _ _ _ _ (HBV_9.out.ext_no hG) Try.underlying55 rfl size_ver ?_
          exact hK _ _ hG rfl (fun _ _ h => h)
        · refine RF.Step.plain rfl rfl (fun vs wx hG hv hd K hK => ?_)
          have h0 : vs 4 = Value.slice A ls.length c := by first | exact hd.1 | exact hd.2.1 | exact hd.2.2.1 | exact hd.2.2.2.1 | exact hd.2.2.2.2.1
          have h1 : vs 5 = Value.agg #[gv2, .bool c2, .bool n2, .bool m2] := by first | exact hd.1 | exact hd.2.1 | exact hd.2.2.1 | exact hd.2.2.2.1 | exact hd.2.2.2.2.1
          have h2 : vs 6 = Value.agg (seqV s).cs.toArray := by first | exact hd.1 | exact hd.2.1 | exact hd.2.2.1 | exact hd.2.2.2.1 | exact hd.2.2.2.2.1
          go_simp
          refine (dApp (ls := ls) (g := g2) (gv := gv2) (v := seqV s) (HG2_9.out.ext_no hG) HG2L.out (HL_9.out.ext_no hG) (by omega) (HV_9.out.ext_no hG) (Nat.le_trans HXx9.out.size hG.size)).mono ?_
          rintro e w' ⟨ov, rfl, ho, hx⟩
          have h4 := hK ov _ (Ext.trans hG hx) ho (fun j _ h => FKp.no hx j _ h)
          first | exact h4 | (simpa only [RF.upd, h0, h1, h2, Nat.reduceEqDiff, if_true, if_false, reduceIte] using h4) | (simp only [RF.upd, h0, h1, h2, Nat.reduceEqDiff, if_true, if_false, reduceIte] at h4 ⊢; exact h4)
        · refine RF.Step.plain rfl rfl (fun vs wx hG hv hd K hK => ?_)
          go_simp
          exact hK _ _ hG rfl (fun _ _ h => h)
        · refine RF.Step.plain rfl rfl (fun vs wx hG hv hd K hK => ?_)
          refine wp_load_row 67 (.tmp 15) rfl _ rfl _ _ _ _ (HP3_9.out.ext_no hG) Try.underlying67 rfl size_plan ?_
          exact hK _ _ hG rfl (fun _ _ h => h)
        · refine RF.Step.plain rfl rfl (fun vs wx hG hv hd K hK => ?_)
          refine wp_load_row 55 (.tmp 9) rfl _ rfl _ _ _ _ (HBV_9.out.ext_no hG) Try.underlying55 rfl size_ver ?_
          exact hK _ _ hG rfl (fun _ _ h => h)
        · refine RF.Step.plain rfl rfl (fun vs wx hG hv hd K hK => ?_)
          have h0 : vs 8 = Value.slice A ls.length c := by first | exact hd.1 | exact hd.2.1 | exact hd.2.2.1 | exact hd.2.2.2.1 | exact hd.2.2.2.2.1
          have h1 : vs 9 = Value.agg #[gv3, .bool c3, .bool n3, .bool m3] := by first | exact hd.1 | exact hd.2.1 | exact hd.2.2.1 | exact hd.2.2.2.1 | exact hd.2.2.2.2.1
          have h2 : vs 10 = Value.agg (seqV s).cs.toArray := by first | exact hd.1 | exact hd.2.1 | exact hd.2.2.1 | exact hd.2.2.2.1 | exact hd.2.2.2.2.1
          go_simp
          refine (dApp (ls := ls) (g := g3) (gv := gv3) (v := seqV s) (HG3_9.out.ext_no hG) HG3L.out (HL_9.out.ext_no hG) (by omega) (HV_9.out.ext_no hG) (Nat.le_trans HXx9.out.size hG.size)).mono ?_
          rintro e w' ⟨ov, rfl, ho, hx⟩
          have h4 := hK ov _ (Ext.trans hG hx) ho (fun j _ h => FKp.no hx j _ h)
          first | exact h4 | (simpa only [RF.upd, h0, h1, h2, Nat.reduceEqDiff, if_true, if_false, reduceIte] using h4) | (simp only [RF.upd, h0, h1, h2, Nat.reduceEqDiff, if_true, if_false, reduceIte] at h4 ⊢; exact h4)
        · refine RF.Step.plain rfl rfl (fun vs wx hG hv hd K hK => ?_)
          have h0 : Vs wx Any W.heap.size (vs 3) (appP ls ⟨g1, c1, n1, m1⟩ (seqV s)) := by first | exact hd.1 | exact hd.2.1 | exact hd.2.2.1 | exact hd.2.2.2.1 | exact hd.2.2.2.2.1
          obtain ⟨A0, k0, e0, -⟩ := h0.slice
          have hx0 := h0.ext_no ((Ext.refl No wx).alloc (.cells #[vs 3, vs 7, vs 11] 50))
          have h1 : Vs wx Any W.heap.size (vs 7) (appP ls ⟨g2, c2, n2, m2⟩ (seqV s)) := by first | exact hd.1 | exact hd.2.1 | exact hd.2.2.1 | exact hd.2.2.2.1 | exact hd.2.2.2.2.1
          obtain ⟨A1, k1, e1, -⟩ := h1.slice
          have hx1 := h1.ext_no ((Ext.refl No wx).alloc (.cells #[vs 3, vs 7, vs 11] 50))
          have h2 : Vs wx Any W.heap.size (vs 11) (appP ls ⟨g3, c3, n3, m3⟩ (seqV s)) := by first | exact hd.1 | exact hd.2.1 | exact hd.2.2.1 | exact hd.2.2.2.1 | exact hd.2.2.2.2.1
          obtain ⟨A2, k2, e2, -⟩ := h2.slice
          have hx2 := h2.ext_no ((Ext.refl No wx).alloc (.cells #[vs 3, vs 7, vs 11] 50))
          have HH := Lib.hid (And.intro h0 (And.intro h1 h2))
          have HHx := Lib.hid (And.intro hx0 (And.intro hx1 hx2))
          clear h0 h1 h2 hx0 hx1 hx2
          go_simp
          have h4 := hK (.slice (some ⟨wx.heap.size, 0, none⟩) 3 3) (wx.alloc (.cells #[vs 3, vs 7, vs 11] 50)) (Ext.alloc hG _) ⟨wx.heap.size, _, _, _, rfl, Blk.new _ _ _, HHx.out.1, HHx.out.2.1, HHx.out.2.2⟩ (fun j _ h => FKp.no ((Ext.refl No wx).alloc _) j _ h)
          first | exact h4 | (simpa only [RF.upd, e0, e1, e2, Nat.reduceEqDiff, if_true, if_false, reduceIte] using h4) | (simp only [RF.upd, e0, e1, e2, Nat.reduceEqDiff, if_true, if_false, reduceIte] at h4 ⊢; exact h4)
        · refine RF.Step.plain rfl rfl (fun vs wx hG hv hd K hK => ?_)
          have h0 : Rows3 W.heap.size (appP ls ⟨g1, c1, n1, m1⟩ (seqV s)) (appP ls ⟨g2, c2, n2, m2⟩ (seqV s)) (appP ls ⟨g3, c3, n3, m3⟩ (seqV s)) (vs 12) wx := by first | exact hd.1 | exact hd.2.1 | exact hd.2.2.1 | exact hd.2.2.2.1 | exact hd.2.2.2.2.1
          go_simp
          exact hK _ _ hG h0 (fun _ _ h => h)
      · intro vsA wA hG hF
        have hall : Rows3 W.heap.size (appP ls ⟨g1, c1, n1, m1⟩ (seqV s)) (appP ls ⟨g2, c2, n2, m2⟩ (seqV s)) (appP ls ⟨g3, c3, n3, m3⟩ (seqV s)) (vsA 13) wA := hF 13 (by decide)
        have h1s : 1 ≤ s := by omega
        obtain ⟨gR, LF, e17, hgl, hK3⟩ : ∃ gR LF, vsA 13 = .slice (some ⟨gR, 0, none⟩) 3 3 ∧ gR < wA.heap.size ∧ Kp3 wA W.heap.size gR ls now LF := by
          obtain ⟨g, a1, a2, a3, e17, hgb, hr1, hr2, hr3⟩ := hall
          exact ⟨g, fun i => if i = 0 then (appP ls ⟨g1, c1, n1, m1⟩ (seqV s)) else if i = 1 then (appP ls ⟨g2, c2, n2, m2⟩ (seqV s)) else (appP ls ⟨g3, c3, n3, m3⟩ (seqV s)), e17, hgb.lt, Kp3.of HR.out (HLT.out h1s) HF1.out HF2.out HF3.out hgb hr1 hr2 hr3 h1s⟩
        have HXA := Lib.hid (HXx9.out.trans hG)
        have HLA := Lib.hid (HL_9.out.ext_no hG)
        have HK3 := Lib.hid hK3
        rw [e17]
        clear hall hF hG hK3 e17 h1s
        have hw0 : IntKind.i64.wrap 3 = 3 := rfl
        go_wp2
        go_loopw [18] (fun iv wr => ∃ i : Nat, i ≤ 3 ∧ iv = .int .i64 i ∧ Ext No wA wr) (fun iv _ => 3 - (intOf iv).toNat)
        case atStart => exact ⟨0, by omega, rfl, Ext.refl No wA⟩
        case round =>
          obtain ⟨i, hi, rfl, hx⟩ := hrel
          by_cases hlt : i < 3
          · obtain ⟨Ai, ci, hcell, hvs, hlen, hrt, hkp⟩ := HK3.out i hlt
            have hcell1 : wr.cell? ⟨gR, i, none⟩ = some (.slice Ai (LF i).length ci) := (hx.cell (p := ⟨gR, i, none⟩) hgl (fun h => h)).trans hcell
            obtain ⟨A0_, c0_, e0_, -, -, bi, oi, hrowi⟩ := hvs.slice
            injection e0_ with e1_ e2_ e3_
            subst e1_ e3_
            have HRI := Lib.hid hrowi
            have HV := Lib.hid hvs
            have HXW := Lib.hid hx
            have HKP := Lib.hid hkp
            have HLEN := Lib.hid hlen
            have HCELL := Lib.hid hcell
            clear hvs hx hkp hcell hrowi e2_
            obtain ⟨wB, hBx, HBX⟩ : ∃ wB, Ext No wA wB ∧ True := ⟨wr, HXW.out, trivial⟩
            clear hBx HBX wB
            have i0 : (0 : Int) ≤ (i : Int) := by omega
            have i3 : (i : Int) < 3 := by omega
            by_cases h3 : ls.length < 30
            · have d3 : decide ((ls.length : Int) < 30) = true := decide_eq_true (by omega)
              have HRT := Lib.hid (hrt h3)
              clear hrt
              go_wp2_with (first
                | (go_at_call 24; (with_reducible refine (lRight_t _ (LF i) W.heap.size _ (HV.out.ext_no HXW.out) HRT.out).mono ?_); rintro e_ wB ⟨rfl, hx1⟩; have HXB := Lib.hid (HXW.out.trans hx1); clear hx1))
              go_loopw [19] (fun kv wr => ∃ k : Nat, k ≤ ls.length ∧ kv = .int .i64 k ∧ Ext No wA wr) (fun kv _ => ls.length - (intOf kv).toNat)
              case atStart => exact ⟨0, by omega, rfl, HXB.out⟩
              case round =>
                obtain ⟨k, hk, rfl, hx⟩ := hrel
                have HXY := Lib.hid hx
                clear hx
                by_cases hkl : k < ls.length
                · obtain ⟨hA0, -, hbl, hr, -⟩ := HROW.out k hkl
                  have hbA : b < wA.heap.size := Nat.lt_of_lt_of_le hbl HXA.out.size
                  have HR0 := Lib.hid (fun (wx : World) (hx : Ext No wA wx) => range_ext hr (HXA.out.trans hx) hbl (fun h => h))
                  subst hA0
                  have q5 : wr.cell? ⟨b, o + k * 11 + 5, none⟩ = some (.int .i64 ls[k].til) := HR0.out wr HXY.out 5 _ rfl
                  have k0 : (0 : Int) ≤ (k : Int) := by omega
                  have k1 : (k : Int) < (ls.length : Int) := by omega
                  by_cases hh : ls[k].til ≤ now
                  · clear hr
                    go_wp2
                    go_roundw
                    case rel => exact ⟨k + 1, by omega, by go_num, HXY.out⟩
                    case measure => simp [intOf]; omega
                  · have HH : Hid (ls[k] ∈ LF i) := Lib.hid (HKP.out _ (List.getElem_mem hkl) (by unfold heldV; simp; omega))
                    obtain ⟨x, hxe⟩ : ∃ x, ls[k] = x := ⟨_, rfl⟩
                    have HXO := Lib.hid (Vr.Ok.ext_no (HROW.out k hkl).2.2.2.2 HXA.out)
                    rw [hxe] at HH HR0 q5 hh HXO
                    clear hr hxe
                    go_wp2
                    go_loopw [20, 21] (fun mv jv wr => ∃ j : Nat, ∃ m : Bool, j ≤ (LF i).length ∧ jv = .int .i64 j ∧ mv = .bool m ∧ Hid (((LF i).take j).any (fun y => svB y x) = m) ∧ Ext No wA wr) (fun mv jv _ => (LF i).length - (intOf jv).toNat)
                    case atStart => exact ⟨0, false, by omega, rfl, rfl, Lib.hid rfl, HXY.out⟩
                    case round =>
                      obtain ⟨j, m, hj, rfl, rfl, HM, hx⟩ := hrel
                      have cR : wr.cell? ⟨gR, i, none⟩ = some (.slice Ai (LF i).length ci) := (hx.cell (p := ⟨gR, i, none⟩) hgl (fun h => h)).trans HCELL.out
                      have HXR := Lib.hid hx
                      clear hx
                      have hl31 := HLEN.out
                      by_cases hjl : j < (LF i).length
                      · obtain ⟨hA1, -, hbl1, hr1, hy⟩ := HRI.out j hjl
                        have HYO := Lib.hid hy
                        have HR1 := Lib.hid (fun (wx : World) (hx : Ext No wA wx) => range_ext hr1 hx hbl1 (fun h => h))
                        obtain ⟨y, hye⟩ : ∃ y, (LF i)[j] = y := ⟨_, rfl⟩
                        have HTK : Hid ((LF i).take (j + 1) = (LF i).take j ++ [y]) := Lib.hid (by rw [← hye, List.take_succ_eq_append_getElem hjl])
                        rw [hye] at HR1 HYO
                        subst hA1
                        have j0 : (0 : Int) ≤ (j : Int) := by omega
                        have j1 : (j : Int) < ((LF i).length : Int) := by omega
                        have HQ1 := Lib.hid (fun (wx : World) (hx : Ext No wr wx) => HR1.out wx (HXR.out.trans hx))
                        have HQ0 := Lib.hid (fun (wx : World) (hx : Ext No wr wx) => HR0.out wx (HXR.out.trans hx))
                        have HQC : Hid (∀ (wx : World), Ext No wr wx → wx.cell? ⟨gR, i, none⟩ = some (.slice (some ⟨bi, oi, none⟩) (LF i).length ci)) := Lib.hid (fun wx hx => (hx.cell (p := ⟨gR, i, none⟩) (Nat.lt_of_lt_of_le hgl HXR.out.size) (fun h => h)).trans cR)
                        have HOY := Lib.hid (HYO.out.ext_no HXR.out)
                        have HOX := Lib.hid (HXO.out.ext_no HXR.out)
                        clear hr1 hy hye
                        cases m with
                        | true =>
                          go_wp2_with fail
                          refine RF.regionL (vs := fun | 0 => u108 | 1 => u109 | 2 => u110 | 3 => u111 | 4 => u112 | 5 => u113 | 6 => u114 | 7 => u115 | 8 => u116 | 9 => u117 | 10 => u118 | 11 => u119 | 12 => u120 | 13 => u121 | 14 => u122 | 15 => Value.bool true | _ => undef) rfl (fun vs => ((Value.slice (some ⟨b, o, none⟩) ls.length c) :: (Value.int IntKind.u8 st) :: (Value.int IntKind.i64 id) :: (Value.int IntKind.i64 now) :: undef :: undef :: undef :: undef :: u8 :: (Value.pointer (some ⟨w2.heap.size, 0, none⟩)) :: (Value.int IntKind.i64 (st % 3)) :: (Value.pointer (some ⟨w4.heap.size, 0, none⟩)) :: (Value.int IntKind.i64 e) :: (Value.pointer (some ⟨w6.heap.size, 0, none⟩)) :: (Value.int IntKind.i64 f) :: (Value.pointer (some ⟨w8.heap.size, 0, none⟩)) :: (Value.int IntKind.i64 g) :: (Value.slice (some ⟨gR, 0, none⟩) 3 3) :: (Value.int IntKind.i64 (i : Int)) :: (Value.int IntKind.i64 (k : Int)) :: (vs 15) :: (Value.int IntKind.i64 (j : Int)) :: (Value.slice (some ⟨b, o, none⟩) ls.length c) :: (Value.bool true) :: (Value.bool false) :: undef :: (Value.slice (some ⟨b, o, none⟩) ls.length c) :: (Value.agg (seqV s).cs.toArray) :: (Value.pointer (some ⟨w2.heap.size, 0, none⟩)) :: (Value.int IntKind.i64 s) :: (Value.bool (decide (s < 1))) :: undef :: (Value.int IntKind.u8 st) :: (Value.int IntKind.i64 st) :: (Value.int IntKind.i64 (st % 3)) :: (Value.tuple #[Value.agg #[gv1, Value.bool c1, Value.bool n1, Value.bool m1], Value.int IntKind.i64 e]) :: (Value.slice (some ⟨b, o, none⟩) ls.length c) :: (Value.int IntKind.i64 (st % 3)) :: (Value.int IntKind.i64 now) :: (Value.tuple #[Value.agg #[gv1, Value.bool c1, Value.bool n1, Value.bool m1], Value.int IntKind.i64 e]) :: (Value.agg #[gv1, Value.bool c1, Value.bool n1, Value.bool m1]) :: (Value.int IntKind.i64 e) :: (Value.tuple #[Value.agg #[gv2, Value.bool c2, Value.bool n2, Value.bool m2], Value.int IntKind.i64 f]) :: (Value.slice (some ⟨b, o, none⟩) ls.length c) :: (Value.int IntKind.i64 (st % 3)) :: (Value.int IntKind.i64 now) :: (Value.tuple #[Value.agg #[gv2, Value.bool c2, Value.bool n2, Value.bool m2], Value.int IntKind.i64 f]) :: (Value.agg #[gv2, Value.bool c2, Value.bool n2, Value.bool m2]) :: (Value.int IntKind.i64 f) :: (Value.tuple #[Value.agg #[gv3, Value.bool c3, Value.bool n3, Value.bool m3], Value.int IntKind.i64 g]) :: (Value.slice (some ⟨b, o, none⟩) ls.length c) :: (Value.int IntKind.i64 id) :: (Value.int IntKind.i64 now) :: (Value.tuple #[Value.agg #[gv3, Value.bool c3, Value.bool n3, Value.bool m3], Value.int IntKind.i64 g]) :: (Value.agg #[gv3, Value.bool c3, Value.bool n3, Value.bool m3]) :: (Value.int IntKind.i64 g) :: (vsA 0) :: (vsA 1) :: (vsA 2) :: (vsA 3) :: (vsA 4) :: (vsA 5) :: (vsA 6) :: (vsA 7) :: (vsA 8) :: (vsA 9) :: (vsA 10) :: (vsA 11) :: (vsA 12) :: (Value.int IntKind.i64 (i : Int)) :: (Value.slice (some ⟨gR, 0, none⟩) 3 3) :: (Value.int IntKind.i64 3) :: (Value.bool true) :: u73 :: u74 :: (Value.slice (some ⟨b, o, none⟩) ls.length c) :: (Value.int IntKind.i64 (ls.length : Int)) :: (Value.bool true) :: (Value.bool true) :: (Value.slice (some ⟨gR, 0, none⟩) 3 3) :: (Value.int IntKind.i64 (i : Int)) :: (Value.pointer (some ⟨gR, i, none⟩)) :: (Value.slice (some ⟨bi, oi, none⟩) (LF i).length ci) :: (Value.bool true) :: (Value.bool false) :: (Value.bool false) :: (Value.int IntKind.i64 (k : Int)) :: (Value.slice (some ⟨b, o, none⟩) ls.length c) :: (Value.int IntKind.i64 (ls.length : Int)) :: (Value.bool true) :: u90 :: u91 :: (Value.slice (some ⟨b, o, none⟩) ls.length c) :: (Value.int IntKind.i64 (k : Int)) :: (Value.pointer (some ⟨b, o + k * 11, none⟩)) :: (Value.pointer (some ⟨b, o + k * 11 + 5, none⟩)) :: (Value.int IntKind.i64 x.til) :: (Value.int IntKind.i64 now) :: (Value.bool false) :: (Value.int IntKind.i64 (j : Int)) :: (Value.slice (some ⟨gR, 0, none⟩) 3 3) :: (Value.int IntKind.i64 (i : Int)) :: (Value.pointer (some ⟨gR, i, none⟩)) :: (Value.slice (some ⟨bi, oi, none⟩) (LF i).length ci) :: (Value.int IntKind.i64 ↑(LF i).length) :: (Value.bool true) :: u106 :: u107 :: (vs 0) :: (vs 1) :: (vs 2) :: (vs 3) :: (vs 4) :: (vs 5) :: (vs 6) :: (vs 7) :: (vs 8) :: (vs 9) :: (vs 10) :: (vs 11) :: (vs 12) :: (vs 13) :: (vs 14) :: u123 :: u124 :: undef :: []).toArray)
                            (fun j_ v _ => v = V24t ls x y LF gR b o c bi oi ci i j k j_) (fun _ wz => Ext No wr wz) 15 rfl (by kernel_rfl) ?_ ?_ ?_
                          · exact (Ext.refl No wr).drew
                          · refine ⟨⟨⟨⟨⟨⟨⟨⟨⟨⟨⟨⟨⟨⟨⟨⟨trivial, ?_⟩, ?_⟩, ?_⟩, ?_⟩, ?_⟩, ?_⟩, ?_⟩, ?_⟩, ?_⟩, ?_⟩, ?_⟩, ?_⟩, ?_⟩, ?_⟩, ?_⟩, ?_⟩
                            · refine RF.StepL.plain rfl rfl rfl (fun vs wx hG hv hl hd K hK => ?_)
                              have hl0 : vs 15 = Value.bool true := hl
                              have HG0 := Lib.hid hG
                              clear hG
                              go_simp
                              have h4 := hK _ _ HG0.out rfl (fun _ _ h => h)
                              first | exact h4 | (simpa only [RF.upd, hl0, Nat.reduceEqDiff, if_true, if_false, reduceIte] using h4) | (simp only [RF.upd, hl0, Nat.reduceEqDiff, if_true, if_false, reduceIte] at h4 ⊢; exact h4)
                            · refine RF.Step.late ?_
                              refine RF.Step.plain rfl rfl (fun vs wx hG hv hd K hK => ?_)
                              have h0 : vs 0 = Value.bool true := by first | exact hd.1 | exact hd.2.1 | exact hd.2.2.1 | exact hd.2.2.2.1 | exact hd.2.2.2.2.1
                              have HG0 := Lib.hid hG
                              clear hG
                              go_simp
                              have h4 := hK _ _ HG0.out rfl (fun _ _ h => h)
                              first | exact h4 | (simpa only [RF.upd, h0, Nat.reduceEqDiff, if_true, if_false, reduceIte] using h4) | (simp only [RF.upd, h0, Nat.reduceEqDiff, if_true, if_false, reduceIte] at h4 ⊢; exact h4)
                            · refine RF.Step.late ?_
                              refine RF.Step.skip rfl (fun vs wx hG hv hd => ?_) (fun _ => rfl) (fun vs wx hG hv hd => ⟨hG, rfl⟩)
                              have h0 : vs 1 = Value.bool true := by first | exact hd.1 | exact hd.2.1 | exact hd.2.2.1 | exact hd.2.2.2.1 | exact hd.2.2.2.2.1
                              simp [Region.wanted, yielded, h0]
                            · refine RF.Step.late ?_
                              refine RF.Step.skip rfl (fun vs wx hG hv hd => ?_) (fun _ => rfl) (fun vs wx hG hv hd => ⟨hG, rfl⟩)
                              have h0 : vs 1 = Value.bool true := by first | exact hd.1 | exact hd.2.1 | exact hd.2.2.1 | exact hd.2.2.2.1 | exact hd.2.2.2.2.1
                              simp [Region.wanted, yielded, h0]
                            · refine RF.Step.late ?_
                              refine RF.Step.skip rfl (fun vs wx hG hv hd => ?_) (fun _ => rfl) (fun vs wx hG hv hd => ⟨hG, rfl⟩)
                              have h0 : vs 1 = Value.bool true := by first | exact hd.1 | exact hd.2.1 | exact hd.2.2.1 | exact hd.2.2.2.1 | exact hd.2.2.2.2.1
                              simp [Region.wanted, yielded, h0]
                            · refine RF.Step.late ?_
                              refine RF.Step.skip rfl (fun vs wx hG hv hd => ?_) (fun _ => rfl) (fun vs wx hG hv hd => ⟨hG, rfl⟩)
                              have h0 : vs 1 = Value.bool true := by first | exact hd.1 | exact hd.2.1 | exact hd.2.2.1 | exact hd.2.2.2.1 | exact hd.2.2.2.2.1
                              simp [Region.wanted, yielded, h0]
                            · refine RF.Step.late ?_
                              refine RF.Step.skip rfl (fun vs wx hG hv hd => ?_) (fun _ => rfl) (fun vs wx hG hv hd => ⟨hG, rfl⟩)
                              have h0 : vs 1 = Value.bool true := by first | exact hd.1 | exact hd.2.1 | exact hd.2.2.1 | exact hd.2.2.2.1 | exact hd.2.2.2.2.1
                              simp [Region.wanted, yielded, h0]
                            · refine RF.Step.late ?_
                              refine RF.Step.skip rfl (fun vs wx hG hv hd => ?_) (fun _ => rfl) (fun vs wx hG hv hd => ⟨hG, rfl⟩)
                              have h0 : vs 1 = Value.bool true := by first | exact hd.1 | exact hd.2.1 | exact hd.2.2.1 | exact hd.2.2.2.1 | exact hd.2.2.2.2.1
                              simp [Region.wanted, yielded, h0]
                            · refine RF.Step.late ?_
                              refine RF.Step.skip rfl (fun vs wx hG hv hd => ?_) (fun _ => rfl) (fun vs wx hG hv hd => ⟨hG, rfl⟩)
                              have h0 : vs 1 = Value.bool true := by first | exact hd.1 | exact hd.2.1 | exact hd.2.2.1 | exact hd.2.2.2.1 | exact hd.2.2.2.2.1
                              simp [Region.wanted, yielded, h0]
                            · refine RF.Step.late ?_
                              refine RF.Step.skip rfl (fun vs wx hG hv hd => ?_) (fun _ => rfl) (fun vs wx hG hv hd => ⟨hG, rfl⟩)
                              have h0 : vs 1 = Value.bool true := by first | exact hd.1 | exact hd.2.1 | exact hd.2.2.1 | exact hd.2.2.2.1 | exact hd.2.2.2.2.1
                              simp [Region.wanted, yielded, h0]
                            · refine RF.Step.late ?_
                              refine RF.Step.skip rfl (fun vs wx hG hv hd => ?_) (fun _ => rfl) (fun vs wx hG hv hd => ⟨hG, rfl⟩)
                              have h0 : vs 1 = Value.bool true := by first | exact hd.1 | exact hd.2.1 | exact hd.2.2.1 | exact hd.2.2.2.1 | exact hd.2.2.2.2.1
                              simp [Region.wanted, yielded, h0]
                            · refine RF.Step.late ?_
                              refine RF.Step.skip rfl (fun vs wx hG hv hd => ?_) (fun _ => rfl) (fun vs wx hG hv hd => ⟨hG, rfl⟩)
                              have h0 : vs 1 = Value.bool true := by first | exact hd.1 | exact hd.2.1 | exact hd.2.2.1 | exact hd.2.2.2.1 | exact hd.2.2.2.2.1
                              simp [Region.wanted, yielded, h0]
                            · refine RF.Step.late ?_
                              refine RF.Step.skip rfl (fun vs wx hG hv hd => ?_) (fun _ => rfl) (fun vs wx hG hv hd => ⟨hG, rfl⟩)
                              have h0 : vs 1 = Value.bool true := by first | exact hd.1 | exact hd.2.1 | exact hd.2.2.1 | exact hd.2.2.2.1 | exact hd.2.2.2.2.1
                              simp [Region.wanted, yielded, h0]
                            · refine RF.Step.late ?_
                              refine RF.Step.skip rfl (fun vs wx hG hv hd => ?_) (fun _ => rfl) (fun vs wx hG hv hd => ⟨hG, rfl⟩)
                              have h0 : vs 1 = Value.bool true := by first | exact hd.1 | exact hd.2.1 | exact hd.2.2.1 | exact hd.2.2.2.1 | exact hd.2.2.2.2.1
                              simp [Region.wanted, yielded, h0]
                            · refine RF.Step.late ?_
                              refine RF.Step.plain rfl rfl (fun vs wx hG hv hd K hK => ?_)
                              have h0 : vs 1 = Value.bool true := by first | exact hd.1 | exact hd.2.1 | exact hd.2.2.1 | exact hd.2.2.2.1 | exact hd.2.2.2.2.1
                              have h1 : vs 13 = undef := by first | exact hd.1 | exact hd.2.1 | exact hd.2.2.1 | exact hd.2.2.2.1 | exact hd.2.2.2.2.1
                              have HG0 := Lib.hid hG
                              clear hG
                              go_simp
                              have h4 := hK _ _ HG0.out rfl (fun _ _ h => h)
                              first | exact h4 | (simpa only [RF.upd, h0, h1, Nat.reduceEqDiff, if_true, if_false, reduceIte] using h4) | (simp only [RF.upd, h0, h1, Nat.reduceEqDiff, if_true, if_false, reduceIte] at h4 ⊢; exact h4)
                            · refine RF.Step.late ?_
                              refine RF.Step.plain rfl rfl (fun vs wx hG hv hd K hK => ?_)
                              have h0 : vs 14 = Value.bool true := by first | exact hd.1 | exact hd.2.1 | exact hd.2.2.1 | exact hd.2.2.2.1 | exact hd.2.2.2.2.1
                              have HG0 := Lib.hid hG
                              clear hG
                              go_simp
                              have h4 := hK _ _ HG0.out rfl (fun _ _ h => h)
                              first | exact h4 | (simpa only [RF.upd, h0, Nat.reduceEqDiff, if_true, if_false, reduceIte] using h4) | (simp only [RF.upd, h0, Nat.reduceEqDiff, if_true, if_false, reduceIte] at h4 ⊢; exact h4)
                          · intro vsB wB hG hF
                            have hz : vsB 15 = Value.bool true := hF 15 (by decide)
                            have HXB2 := Lib.hid (HXR.out.trans hG)
                            have HMT : Hid (((LF i).take (j + 1)).any (fun y => svB y x) = true) := Lib.hid (by rw [HTK.out, List.any_append, HM.out]; rfl)
                            rw [hz]
                            clear hz hF hG
                            go_wp2
                            go_roundw
                            case rel => exact ⟨j + 1, true, by omega, by go_num, rfl, HMT, HXB2.out⟩
                            case measure => simp [intOf]; omega
                        | false =>
                          go_wp2_with fail
                          refine RF.regionL (vs := fun | 0 => u108 | 1 => u109 | 2 => u110 | 3 => u111 | 4 => u112 | 5 => u113 | 6 => u114 | 7 => u115 | 8 => u116 | 9 => u117 | 10 => u118 | 11 => u119 | 12 => u120 | 13 => u121 | 14 => u122 | 15 => Value.bool false | _ => undef) rfl (fun vs => ((Value.slice (some ⟨b, o, none⟩) ls.length c) :: (Value.int IntKind.u8 st) :: (Value.int IntKind.i64 id) :: (Value.int IntKind.i64 now) :: undef :: undef :: undef :: undef :: u8 :: (Value.pointer (some ⟨w2.heap.size, 0, none⟩)) :: (Value.int IntKind.i64 (st % 3)) :: (Value.pointer (some ⟨w4.heap.size, 0, none⟩)) :: (Value.int IntKind.i64 e) :: (Value.pointer (some ⟨w6.heap.size, 0, none⟩)) :: (Value.int IntKind.i64 f) :: (Value.pointer (some ⟨w8.heap.size, 0, none⟩)) :: (Value.int IntKind.i64 g) :: (Value.slice (some ⟨gR, 0, none⟩) 3 3) :: (Value.int IntKind.i64 (i : Int)) :: (Value.int IntKind.i64 (k : Int)) :: (vs 15) :: (Value.int IntKind.i64 (j : Int)) :: (Value.slice (some ⟨b, o, none⟩) ls.length c) :: (Value.bool true) :: (Value.bool false) :: undef :: (Value.slice (some ⟨b, o, none⟩) ls.length c) :: (Value.agg (seqV s).cs.toArray) :: (Value.pointer (some ⟨w2.heap.size, 0, none⟩)) :: (Value.int IntKind.i64 s) :: (Value.bool (decide (s < 1))) :: undef :: (Value.int IntKind.u8 st) :: (Value.int IntKind.i64 st) :: (Value.int IntKind.i64 (st % 3)) :: (Value.tuple #[Value.agg #[gv1, Value.bool c1, Value.bool n1, Value.bool m1], Value.int IntKind.i64 e]) :: (Value.slice (some ⟨b, o, none⟩) ls.length c) :: (Value.int IntKind.i64 (st % 3)) :: (Value.int IntKind.i64 now) :: (Value.tuple #[Value.agg #[gv1, Value.bool c1, Value.bool n1, Value.bool m1], Value.int IntKind.i64 e]) :: (Value.agg #[gv1, Value.bool c1, Value.bool n1, Value.bool m1]) :: (Value.int IntKind.i64 e) :: (Value.tuple #[Value.agg #[gv2, Value.bool c2, Value.bool n2, Value.bool m2], Value.int IntKind.i64 f]) :: (Value.slice (some ⟨b, o, none⟩) ls.length c) :: (Value.int IntKind.i64 (st % 3)) :: (Value.int IntKind.i64 now) :: (Value.tuple #[Value.agg #[gv2, Value.bool c2, Value.bool n2, Value.bool m2], Value.int IntKind.i64 f]) :: (Value.agg #[gv2, Value.bool c2, Value.bool n2, Value.bool m2]) :: (Value.int IntKind.i64 f) :: (Value.tuple #[Value.agg #[gv3, Value.bool c3, Value.bool n3, Value.bool m3], Value.int IntKind.i64 g]) :: (Value.slice (some ⟨b, o, none⟩) ls.length c) :: (Value.int IntKind.i64 id) :: (Value.int IntKind.i64 now) :: (Value.tuple #[Value.agg #[gv3, Value.bool c3, Value.bool n3, Value.bool m3], Value.int IntKind.i64 g]) :: (Value.agg #[gv3, Value.bool c3, Value.bool n3, Value.bool m3]) :: (Value.int IntKind.i64 g) :: (vsA 0) :: (vsA 1) :: (vsA 2) :: (vsA 3) :: (vsA 4) :: (vsA 5) :: (vsA 6) :: (vsA 7) :: (vsA 8) :: (vsA 9) :: (vsA 10) :: (vsA 11) :: (vsA 12) :: (Value.int IntKind.i64 (i : Int)) :: (Value.slice (some ⟨gR, 0, none⟩) 3 3) :: (Value.int IntKind.i64 3) :: (Value.bool true) :: u73 :: u74 :: (Value.slice (some ⟨b, o, none⟩) ls.length c) :: (Value.int IntKind.i64 (ls.length : Int)) :: (Value.bool true) :: (Value.bool true) :: (Value.slice (some ⟨gR, 0, none⟩) 3 3) :: (Value.int IntKind.i64 (i : Int)) :: (Value.pointer (some ⟨gR, i, none⟩)) :: (Value.slice (some ⟨bi, oi, none⟩) (LF i).length ci) :: (Value.bool true) :: (Value.bool false) :: (Value.bool false) :: (Value.int IntKind.i64 (k : Int)) :: (Value.slice (some ⟨b, o, none⟩) ls.length c) :: (Value.int IntKind.i64 (ls.length : Int)) :: (Value.bool true) :: u90 :: u91 :: (Value.slice (some ⟨b, o, none⟩) ls.length c) :: (Value.int IntKind.i64 (k : Int)) :: (Value.pointer (some ⟨b, o + k * 11, none⟩)) :: (Value.pointer (some ⟨b, o + k * 11 + 5, none⟩)) :: (Value.int IntKind.i64 x.til) :: (Value.int IntKind.i64 now) :: (Value.bool false) :: (Value.int IntKind.i64 (j : Int)) :: (Value.slice (some ⟨gR, 0, none⟩) 3 3) :: (Value.int IntKind.i64 (i : Int)) :: (Value.pointer (some ⟨gR, i, none⟩)) :: (Value.slice (some ⟨bi, oi, none⟩) (LF i).length ci) :: (Value.int IntKind.i64 ↑(LF i).length) :: (Value.bool true) :: u106 :: u107 :: (vs 0) :: (vs 1) :: (vs 2) :: (vs 3) :: (vs 4) :: (vs 5) :: (vs 6) :: (vs 7) :: (vs 8) :: (vs 9) :: (vs 10) :: (vs 11) :: (vs 12) :: (vs 13) :: (vs 14) :: u123 :: u124 :: undef :: []).toArray)
                            (fun j_ v _ => v = V24f ls x y LF gR b o c bi oi ci i j k j_) (fun _ wz => Ext No wr wz) 15 rfl (by kernel_rfl) ?_ ?_ ?_
                          · exact (Ext.refl No wr).drew
                          · refine ⟨⟨⟨⟨⟨⟨⟨⟨⟨⟨⟨⟨⟨⟨⟨⟨trivial, ?_⟩, ?_⟩, ?_⟩, ?_⟩, ?_⟩, ?_⟩, ?_⟩, ?_⟩, ?_⟩, ?_⟩, ?_⟩, ?_⟩, ?_⟩, ?_⟩, ?_⟩, ?_⟩
                            · refine RF.StepL.plain rfl rfl rfl (fun vs wx hG hv hl hd K hK => ?_)
                              have hl0 : vs 15 = Value.bool false := hl
                              have HG0 := Lib.hid hG
                              clear hG
                              go_simp
                              have h4 := hK _ _ HG0.out rfl (fun _ _ h => h)
                              first | exact h4 | (simpa only [RF.upd, hl0, Nat.reduceEqDiff, if_true, if_false, reduceIte] using h4) | (simp only [RF.upd, hl0, Nat.reduceEqDiff, if_true, if_false, reduceIte] at h4 ⊢; exact h4)
                            · refine RF.Step.late ?_
                              refine RF.Step.plain rfl rfl (fun vs wx hG hv hd K hK => ?_)
                              have h0 : vs 0 = Value.bool false := by first | exact hd.1 | exact hd.2.1 | exact hd.2.2.1 | exact hd.2.2.2.1 | exact hd.2.2.2.2.1
                              have HG0 := Lib.hid hG
                              clear hG
                              go_simp
                              have h4 := hK _ _ HG0.out rfl (fun _ _ h => h)
                              first | exact h4 | (simpa only [RF.upd, h0, Nat.reduceEqDiff, if_true, if_false, reduceIte] using h4) | (simp only [RF.upd, h0, Nat.reduceEqDiff, if_true, if_false, reduceIte] at h4 ⊢; exact h4)
                            · refine RF.Step.late ?_
                              refine RF.Step.guarded rfl (fun vs wx hG hv hd => ?_) (fun vs wx hG hv hd K hK => ?_)
                              · have h0 : vs 1 = Value.bool false := by first | exact hd.1 | exact hd.2.1 | exact hd.2.2.1 | exact hd.2.2.2.1 | exact hd.2.2.2.2.1
                                simp [Region.wanted, yielded, h0]
                              · have HG0 := Lib.hid hG
                                clear hG
                                go_simp
                                have h4 := hK _ _ HG0.out rfl (fun _ _ h => h)
                                first | exact h4 | (simpa only [RF.upd, Nat.reduceEqDiff, if_true, if_false, reduceIte] using h4) | (simp only [RF.upd, Nat.reduceEqDiff, if_true, if_false, reduceIte] at h4 ⊢; exact h4)
                            · refine RF.Step.late ?_
                              refine RF.Step.guarded rfl (fun vs wx hG hv hd => ?_) (fun vs wx hG hv hd K hK => ?_)
                              · have h0 : vs 1 = Value.bool false := by first | exact hd.1 | exact hd.2.1 | exact hd.2.2.1 | exact hd.2.2.2.1 | exact hd.2.2.2.2.1
                                simp [Region.wanted, yielded, h0]
                              · have HG0 := Lib.hid hG
                                clear hG
                                go_simp
                                have h4 := hK _ _ HG0.out rfl (fun _ _ h => h)
                                first | exact h4 | (simpa only [RF.upd, Nat.reduceEqDiff, if_true, if_false, reduceIte] using h4) | (simp only [RF.upd, Nat.reduceEqDiff, if_true, if_false, reduceIte] at h4 ⊢; exact h4)
                            · refine RF.Step.late ?_
                              refine RF.Step.guarded rfl (fun vs wx hG hv hd => ?_) (fun vs wx hG hv hd K hK => ?_)
                              · have h0 : vs 1 = Value.bool false := by first | exact hd.1 | exact hd.2.1 | exact hd.2.2.1 | exact hd.2.2.2.1 | exact hd.2.2.2.2.1
                                simp [Region.wanted, yielded, h0]
                              · have h0 : vs 2 = Value.slice (some ⟨gR, 0, none⟩) 3 3 := by first | exact hd.1 | exact hd.2.1 | exact hd.2.2.1 | exact hd.2.2.2.1 | exact hd.2.2.2.2.1
                                have h1 : vs 3 = Value.int .i64 (i : Int) := by first | exact hd.1 | exact hd.2.1 | exact hd.2.2.1 | exact hd.2.2.2.1 | exact hd.2.2.2.2.1
                                have HG0 := Lib.hid hG
                                clear hG
                                go_simp
                                have h4 := hK _ _ HG0.out rfl (fun _ _ h => h)
                                first | exact h4 | (simpa only [RF.upd, h0, h1, Nat.reduceEqDiff, if_true, if_false, reduceIte] using h4) | (simp only [RF.upd, h0, h1, Nat.reduceEqDiff, if_true, if_false, reduceIte] at h4 ⊢; exact h4)
                            · refine RF.Step.late ?_
                              refine RF.Step.guarded rfl (fun vs wx hG hv hd => ?_) (fun vs wx hG hv hd K hK => ?_)
                              · have h0 : vs 1 = Value.bool false := by first | exact hd.1 | exact hd.2.1 | exact hd.2.2.1 | exact hd.2.2.2.1 | exact hd.2.2.2.2.1
                                simp [Region.wanted, yielded, h0]
                              · have h0 : vs 4 = Value.pointer (some ⟨gR, i, none⟩) := by first | exact hd.1 | exact hd.2.1 | exact hd.2.2.1 | exact hd.2.2.2.1 | exact hd.2.2.2.2.1
                                have cc := HQC.out wx hG
                                have HG0 := Lib.hid hG
                                clear hG
                                go_simp
                                have h4 := hK _ _ HG0.out rfl (fun _ _ h => h)
                                first | exact h4 | (simpa only [RF.upd, h0, Nat.reduceEqDiff, if_true, if_false, reduceIte] using h4) | (simp only [RF.upd, h0, Nat.reduceEqDiff, if_true, if_false, reduceIte] at h4 ⊢; exact h4)
                            · refine RF.Step.late ?_
                              refine RF.Step.guarded rfl (fun vs wx hG hv hd => ?_) (fun vs wx hG hv hd K hK => ?_)
                              · have h0 : vs 1 = Value.bool false := by first | exact hd.1 | exact hd.2.1 | exact hd.2.2.1 | exact hd.2.2.2.1 | exact hd.2.2.2.2.1
                                simp [Region.wanted, yielded, h0]
                              · have HG0 := Lib.hid hG
                                clear hG
                                go_simp
                                have h4 := hK _ _ HG0.out rfl (fun _ _ h => h)
                                first | exact h4 | (simpa only [RF.upd, Nat.reduceEqDiff, if_true, if_false, reduceIte] using h4) | (simp only [RF.upd, Nat.reduceEqDiff, if_true, if_false, reduceIte] at h4 ⊢; exact h4)
                            · refine RF.Step.late ?_
                              refine RF.Step.guarded rfl (fun vs wx hG hv hd => ?_) (fun vs wx hG hv hd K hK => ?_)
                              · have h0 : vs 1 = Value.bool false := by first | exact hd.1 | exact hd.2.1 | exact hd.2.2.1 | exact hd.2.2.2.1 | exact hd.2.2.2.2.1
                                simp [Region.wanted, yielded, h0]
                              · have h0 : vs 5 = Value.slice (some ⟨bi, oi, none⟩) (LF i).length ci := by first | exact hd.1 | exact hd.2.1 | exact hd.2.2.1 | exact hd.2.2.2.1 | exact hd.2.2.2.2.1
                                have h1 : vs 6 = Value.int .i64 (j : Int) := by first | exact hd.1 | exact hd.2.1 | exact hd.2.2.1 | exact hd.2.2.2.1 | exact hd.2.2.2.2.1
                                have HG0 := Lib.hid hG
                                clear hG
                                go_simp
                                have h4 := hK _ _ HG0.out rfl (fun _ _ h => h)
                                first | exact h4 | (simpa only [RF.upd, h0, h1, Nat.reduceEqDiff, if_true, if_false, reduceIte] using h4) | (simp only [RF.upd, h0, h1, Nat.reduceEqDiff, if_true, if_false, reduceIte] at h4 ⊢; exact h4)
                            · refine RF.Step.late ?_
                              refine RF.Step.guarded rfl (fun vs wx hG hv hd => ?_) (fun vs wx hG hv hd K hK => ?_)
                              · have h0 : vs 1 = Value.bool false := by first | exact hd.1 | exact hd.2.1 | exact hd.2.2.1 | exact hd.2.2.2.1 | exact hd.2.2.2.2.1
                                simp [Region.wanted, yielded, h0]
                              · have h0 : vs 7 = Value.pointer (some ⟨bi, oi + j * 11, none⟩) := by first | exact hd.1 | exact hd.2.1 | exact hd.2.2.1 | exact hd.2.2.2.1 | exact hd.2.2.2.2.1
                                refine wp_load_mid 55 (.tmp 115) rfl (bi) (oi + j * 11) (by show vs 7 = _; exact h0) y.cs _ (HQ1.out wx hG) Try.underlying55 rfl size_ver ?_
                                exact hK _ _ hG rfl (fun _ _ h => h)
                            · refine RF.Step.late ?_
                              refine RF.Step.guarded rfl (fun vs wx hG hv hd => ?_) (fun vs wx hG hv hd K hK => ?_)
                              · have h0 : vs 1 = Value.bool false := by first | exact hd.1 | exact hd.2.1 | exact hd.2.2.1 | exact hd.2.2.2.1 | exact hd.2.2.2.2.1
                                simp [Region.wanted, yielded, h0]
                              · have HG0 := Lib.hid hG
                                clear hG
                                go_simp
                                have h4 := hK _ _ HG0.out rfl (fun _ _ h => h)
                                first | exact h4 | (simpa only [RF.upd, Nat.reduceEqDiff, if_true, if_false, reduceIte] using h4) | (simp only [RF.upd, Nat.reduceEqDiff, if_true, if_false, reduceIte] at h4 ⊢; exact h4)
                            · refine RF.Step.late ?_
                              refine RF.Step.guarded rfl (fun vs wx hG hv hd => ?_) (fun vs wx hG hv hd K hK => ?_)
                              · have h0 : vs 1 = Value.bool false := by first | exact hd.1 | exact hd.2.1 | exact hd.2.2.1 | exact hd.2.2.2.1 | exact hd.2.2.2.2.1
                                simp [Region.wanted, yielded, h0]
                              · have HG0 := Lib.hid hG
                                clear hG
                                go_simp
                                have h4 := hK _ _ HG0.out rfl (fun _ _ h => h)
                                first | exact h4 | (simpa only [RF.upd, Nat.reduceEqDiff, if_true, if_false, reduceIte] using h4) | (simp only [RF.upd, Nat.reduceEqDiff, if_true, if_false, reduceIte] at h4 ⊢; exact h4)
                            · refine RF.Step.late ?_
                              refine RF.Step.guarded rfl (fun vs wx hG hv hd => ?_) (fun vs wx hG hv hd K hK => ?_)
                              · have h0 : vs 1 = Value.bool false := by first | exact hd.1 | exact hd.2.1 | exact hd.2.2.1 | exact hd.2.2.2.1 | exact hd.2.2.2.2.1
                                simp [Region.wanted, yielded, h0]
                              · have h0 : vs 9 = Value.slice (some ⟨b, o, none⟩) ls.length c := by first | exact hd.1 | exact hd.2.1 | exact hd.2.2.1 | exact hd.2.2.2.1 | exact hd.2.2.2.2.1
                                have h1 : vs 10 = Value.int .i64 (k : Int) := by first | exact hd.1 | exact hd.2.1 | exact hd.2.2.1 | exact hd.2.2.2.1 | exact hd.2.2.2.2.1
                                have HG0 := Lib.hid hG
                                clear hG
                                go_simp
                                have h4 := hK _ _ HG0.out rfl (fun _ _ h => h)
                                first | exact h4 | (simpa only [RF.upd, h0, h1, Nat.reduceEqDiff, if_true, if_false, reduceIte] using h4) | (simp only [RF.upd, h0, h1, Nat.reduceEqDiff, if_true, if_false, reduceIte] at h4 ⊢; exact h4)
                            · refine RF.Step.late ?_
                              refine RF.Step.guarded rfl (fun vs wx hG hv hd => ?_) (fun vs wx hG hv hd K hK => ?_)
                              · have h0 : vs 1 = Value.bool false := by first | exact hd.1 | exact hd.2.1 | exact hd.2.2.1 | exact hd.2.2.2.1 | exact hd.2.2.2.2.1
                                simp [Region.wanted, yielded, h0]
                              · have h0 : vs 11 = Value.pointer (some ⟨b, o + k * 11, none⟩) := by first | exact hd.1 | exact hd.2.1 | exact hd.2.2.1 | exact hd.2.2.2.1 | exact hd.2.2.2.2.1
                                refine wp_load_mid 55 (.tmp 119) rfl (b) (o + k * 11) (by show vs 11 = _; exact h0) x.cs _ (HQ0.out wx hG) Try.underlying55 rfl size_ver ?_
                                exact hK _ _ hG rfl (fun _ _ h => h)
                            · refine RF.Step.late ?_
                              refine RF.Step.guarded rfl (fun vs wx hG hv hd => ?_) (fun vs wx hG hv hd K hK => ?_)
                              · have h0 : vs 1 = Value.bool false := by first | exact hd.1 | exact hd.2.1 | exact hd.2.2.1 | exact hd.2.2.2.1 | exact hd.2.2.2.2.1
                                simp [Region.wanted, yielded, h0]
                              · have h0 : vs 8 = Value.agg y.cs.toArray := by first | exact hd.1 | exact hd.2.1 | exact hd.2.2.1 | exact hd.2.2.2.1 | exact hd.2.2.2.2.1
                                have h1 : vs 12 = Value.agg x.cs.toArray := by first | exact hd.1 | exact hd.2.1 | exact hd.2.2.1 | exact hd.2.2.2.1 | exact hd.2.2.2.2.1
                                go_simp
                                refine (sVer_any y x W.heap.size wx (HOY.out.ext_no hG) (HOX.out.ext_no hG)).mono ?_
                                rintro e_ w' ⟨rfl, hx⟩
                                have h4 := hK _ _ (Ext.trans hG hx) rfl (fun _ _ h => h)
                                first | exact h4 | (simpa only [RF.upd, h0, h1, Nat.reduceEqDiff, if_true, if_false, reduceIte] using h4) | (simp only [RF.upd, h0, h1, Nat.reduceEqDiff, if_true, if_false, reduceIte] at h4 ⊢; exact h4)
                            · refine RF.Step.late ?_
                              refine RF.Step.plain rfl rfl (fun vs wx hG hv hd K hK => ?_)
                              have h0 : vs 1 = Value.bool false := by first | exact hd.1 | exact hd.2.1 | exact hd.2.2.1 | exact hd.2.2.2.1 | exact hd.2.2.2.2.1
                              have h1 : vs 13 = Value.bool (svB y x) := by first | exact hd.1 | exact hd.2.1 | exact hd.2.2.1 | exact hd.2.2.2.1 | exact hd.2.2.2.2.1
                              have HG0 := Lib.hid hG
                              clear hG
                              go_simp
                              have h4 := hK _ _ HG0.out rfl (fun _ _ h => h)
                              first | exact h4 | (simpa only [RF.upd, h0, h1, Nat.reduceEqDiff, if_true, if_false, reduceIte] using h4) | (simp only [RF.upd, h0, h1, Nat.reduceEqDiff, if_true, if_false, reduceIte] at h4 ⊢; exact h4)
                            · refine RF.Step.late ?_
                              refine RF.Step.plain rfl rfl (fun vs wx hG hv hd K hK => ?_)
                              have h0 : vs 14 = Value.bool (svB y x) := by first | exact hd.1 | exact hd.2.1 | exact hd.2.2.1 | exact hd.2.2.2.1 | exact hd.2.2.2.2.1
                              have HG0 := Lib.hid hG
                              clear hG
                              go_simp
                              have h4 := hK _ _ HG0.out rfl (fun _ _ h => h)
                              first | exact h4 | (simpa only [RF.upd, h0, Nat.reduceEqDiff, if_true, if_false, reduceIte] using h4) | (simp only [RF.upd, h0, Nat.reduceEqDiff, if_true, if_false, reduceIte] at h4 ⊢; exact h4)
                          · intro vsB wB hG hF
                            have hz : vsB 15 = Value.bool (svB y x) := hF 15 (by decide)
                            have HXB2 := Lib.hid (HXR.out.trans hG)
                            have HMT : Hid (((LF i).take (j + 1)).any (fun y => svB y x) = svB y x) := Lib.hid (by rw [HTK.out, List.any_append, HM.out]; simp)
                            rw [hz]
                            clear hz hF hG
                            obtain ⟨p, hp⟩ : ∃ p, svB y x = p := ⟨_, rfl⟩
                            rw [hp] at HMT
                            rw [hp]
                            clear hp
                            go_wp2
                            go_roundw
                            case rel => exact ⟨j + 1, p, by omega, by go_num, rfl, HMT, HXB2.out⟩
                            case measure => simp [intOf]; omega
                      · obtain rfl : j = (LF i).length := by omega
                        obtain rfl : m = true := by
                          have h1 := HM.out
                          rw [List.take_length] at h1
                          rw [← h1, List.any_eq_true]
                          exact ⟨x, HH.out, svB_self x⟩
                        go_wp2
                        go_roundw
                        case rel => exact ⟨k + 1, by omega, by go_num, HXR.out⟩
                        case measure => simp [intOf]; omega
                · obtain rfl : k = ls.length := by omega
                  go_wp2
                  go_roundw
                  case rel => exact ⟨i + 1, by omega, by go_num, HXY.out⟩
                  case measure => simp [intOf]; omega
            · have d3 : decide ((ls.length : Int) < 30) = false := decide_eq_false (by omega)
              clear hrt
              go_wp2
              go_loopw [19] (fun kv wr => ∃ k : Nat, k ≤ ls.length ∧ kv = .int .i64 k ∧ Ext No wA wr) (fun kv _ => ls.length - (intOf kv).toNat)
              case atStart => exact ⟨0, by omega, rfl, HXW.out⟩
              case round =>
                obtain ⟨k, hk, rfl, hx⟩ := hrel
                have HXY := Lib.hid hx
                clear hx
                by_cases hkl : k < ls.length
                · obtain ⟨hA0, -, hbl, hr, -⟩ := HROW.out k hkl
                  have hbA : b < wA.heap.size := Nat.lt_of_lt_of_le hbl HXA.out.size
                  have HR0 := Lib.hid (fun (wx : World) (hx : Ext No wA wx) => range_ext hr (HXA.out.trans hx) hbl (fun h => h))
                  subst hA0
                  have q5 : wr.cell? ⟨b, o + k * 11 + 5, none⟩ = some (.int .i64 ls[k].til) := HR0.out wr HXY.out 5 _ rfl
                  have k0 : (0 : Int) ≤ (k : Int) := by omega
                  have k1 : (k : Int) < (ls.length : Int) := by omega
                  by_cases hh : ls[k].til ≤ now
                  · clear hr
                    go_wp2
                    go_roundw
                    case rel => exact ⟨k + 1, by omega, by go_num, HXY.out⟩
                    case measure => simp [intOf]; omega
                  · have HH : Hid (ls[k] ∈ LF i) := Lib.hid (HKP.out _ (List.getElem_mem hkl) (by unfold heldV; simp; omega))
                    obtain ⟨x, hxe⟩ : ∃ x, ls[k] = x := ⟨_, rfl⟩
                    have HXO := Lib.hid (Vr.Ok.ext_no (HROW.out k hkl).2.2.2.2 HXA.out)
                    rw [hxe] at HH HR0 q5 hh HXO
                    clear hr hxe
                    go_wp2
                    go_loopw [20, 21] (fun mv jv wr => ∃ j : Nat, ∃ m : Bool, j ≤ (LF i).length ∧ jv = .int .i64 j ∧ mv = .bool m ∧ Hid (((LF i).take j).any (fun y => svB y x) = m) ∧ Ext No wA wr) (fun mv jv _ => (LF i).length - (intOf jv).toNat)
                    case atStart => exact ⟨0, false, by omega, rfl, rfl, Lib.hid rfl, HXY.out⟩
                    case round =>
                      obtain ⟨j, m, hj, rfl, rfl, HM, hx⟩ := hrel
                      have cR : wr.cell? ⟨gR, i, none⟩ = some (.slice Ai (LF i).length ci) := (hx.cell (p := ⟨gR, i, none⟩) hgl (fun h => h)).trans HCELL.out
                      have HXR := Lib.hid hx
                      clear hx
                      have hl31 := HLEN.out
                      by_cases hjl : j < (LF i).length
                      · obtain ⟨hA1, -, hbl1, hr1, hy⟩ := HRI.out j hjl
                        have HYO := Lib.hid hy
                        have HR1 := Lib.hid (fun (wx : World) (hx : Ext No wA wx) => range_ext hr1 hx hbl1 (fun h => h))
                        obtain ⟨y, hye⟩ : ∃ y, (LF i)[j] = y := ⟨_, rfl⟩
                        have HTK : Hid ((LF i).take (j + 1) = (LF i).take j ++ [y]) := Lib.hid (by rw [← hye, List.take_succ_eq_append_getElem hjl])
                        rw [hye] at HR1 HYO
                        subst hA1
                        have j0 : (0 : Int) ≤ (j : Int) := by omega
                        have j1 : (j : Int) < ((LF i).length : Int) := by omega
                        have HQ1 := Lib.hid (fun (wx : World) (hx : Ext No wr wx) => HR1.out wx (HXR.out.trans hx))
                        have HQ0 := Lib.hid (fun (wx : World) (hx : Ext No wr wx) => HR0.out wx (HXR.out.trans hx))
                        have HQC : Hid (∀ (wx : World), Ext No wr wx → wx.cell? ⟨gR, i, none⟩ = some (.slice (some ⟨bi, oi, none⟩) (LF i).length ci)) := Lib.hid (fun wx hx => (hx.cell (p := ⟨gR, i, none⟩) (Nat.lt_of_lt_of_le hgl HXR.out.size) (fun h => h)).trans cR)
                        have HOY := Lib.hid (HYO.out.ext_no HXR.out)
                        have HOX := Lib.hid (HXO.out.ext_no HXR.out)
                        clear hr1 hy hye
                        cases m with
                        | true =>
                          go_wp2_with fail
                          refine RF.regionL (vs := fun | 0 => u108 | 1 => u109 | 2 => u110 | 3 => u111 | 4 => u112 | 5 => u113 | 6 => u114 | 7 => u115 | 8 => u116 | 9 => u117 | 10 => u118 | 11 => u119 | 12 => u120 | 13 => u121 | 14 => u122 | 15 => Value.bool true | _ => undef) rfl (fun vs => ((Value.slice (some ⟨b, o, none⟩) ls.length c) :: (Value.int IntKind.u8 st) :: (Value.int IntKind.i64 id) :: (Value.int IntKind.i64 now) :: undef :: undef :: undef :: undef :: u8 :: (Value.pointer (some ⟨w2.heap.size, 0, none⟩)) :: (Value.int IntKind.i64 (st % 3)) :: (Value.pointer (some ⟨w4.heap.size, 0, none⟩)) :: (Value.int IntKind.i64 e) :: (Value.pointer (some ⟨w6.heap.size, 0, none⟩)) :: (Value.int IntKind.i64 f) :: (Value.pointer (some ⟨w8.heap.size, 0, none⟩)) :: (Value.int IntKind.i64 g) :: (Value.slice (some ⟨gR, 0, none⟩) 3 3) :: (Value.int IntKind.i64 (i : Int)) :: (Value.int IntKind.i64 (k : Int)) :: (vs 15) :: (Value.int IntKind.i64 (j : Int)) :: (Value.slice (some ⟨b, o, none⟩) ls.length c) :: (Value.bool true) :: (Value.bool false) :: undef :: (Value.slice (some ⟨b, o, none⟩) ls.length c) :: (Value.agg (seqV s).cs.toArray) :: (Value.pointer (some ⟨w2.heap.size, 0, none⟩)) :: (Value.int IntKind.i64 s) :: (Value.bool (decide (s < 1))) :: undef :: (Value.int IntKind.u8 st) :: (Value.int IntKind.i64 st) :: (Value.int IntKind.i64 (st % 3)) :: (Value.tuple #[Value.agg #[gv1, Value.bool c1, Value.bool n1, Value.bool m1], Value.int IntKind.i64 e]) :: (Value.slice (some ⟨b, o, none⟩) ls.length c) :: (Value.int IntKind.i64 (st % 3)) :: (Value.int IntKind.i64 now) :: (Value.tuple #[Value.agg #[gv1, Value.bool c1, Value.bool n1, Value.bool m1], Value.int IntKind.i64 e]) :: (Value.agg #[gv1, Value.bool c1, Value.bool n1, Value.bool m1]) :: (Value.int IntKind.i64 e) :: (Value.tuple #[Value.agg #[gv2, Value.bool c2, Value.bool n2, Value.bool m2], Value.int IntKind.i64 f]) :: (Value.slice (some ⟨b, o, none⟩) ls.length c) :: (Value.int IntKind.i64 (st % 3)) :: (Value.int IntKind.i64 now) :: (Value.tuple #[Value.agg #[gv2, Value.bool c2, Value.bool n2, Value.bool m2], Value.int IntKind.i64 f]) :: (Value.agg #[gv2, Value.bool c2, Value.bool n2, Value.bool m2]) :: (Value.int IntKind.i64 f) :: (Value.tuple #[Value.agg #[gv3, Value.bool c3, Value.bool n3, Value.bool m3], Value.int IntKind.i64 g]) :: (Value.slice (some ⟨b, o, none⟩) ls.length c) :: (Value.int IntKind.i64 id) :: (Value.int IntKind.i64 now) :: (Value.tuple #[Value.agg #[gv3, Value.bool c3, Value.bool n3, Value.bool m3], Value.int IntKind.i64 g]) :: (Value.agg #[gv3, Value.bool c3, Value.bool n3, Value.bool m3]) :: (Value.int IntKind.i64 g) :: (vsA 0) :: (vsA 1) :: (vsA 2) :: (vsA 3) :: (vsA 4) :: (vsA 5) :: (vsA 6) :: (vsA 7) :: (vsA 8) :: (vsA 9) :: (vsA 10) :: (vsA 11) :: (vsA 12) :: (Value.int IntKind.i64 (i : Int)) :: (Value.slice (some ⟨gR, 0, none⟩) 3 3) :: (Value.int IntKind.i64 3) :: (Value.bool true) :: u73 :: u74 :: (Value.slice (some ⟨b, o, none⟩) ls.length c) :: (Value.int IntKind.i64 (ls.length : Int)) :: (Value.bool false) :: (Value.bool false) :: undef :: undef :: undef :: undef :: undef :: undef :: (Value.bool false) :: (Value.int IntKind.i64 (k : Int)) :: (Value.slice (some ⟨b, o, none⟩) ls.length c) :: (Value.int IntKind.i64 (ls.length : Int)) :: (Value.bool true) :: u90 :: u91 :: (Value.slice (some ⟨b, o, none⟩) ls.length c) :: (Value.int IntKind.i64 (k : Int)) :: (Value.pointer (some ⟨b, o + k * 11, none⟩)) :: (Value.pointer (some ⟨b, o + k * 11 + 5, none⟩)) :: (Value.int IntKind.i64 x.til) :: (Value.int IntKind.i64 now) :: (Value.bool false) :: (Value.int IntKind.i64 (j : Int)) :: (Value.slice (some ⟨gR, 0, none⟩) 3 3) :: (Value.int IntKind.i64 (i : Int)) :: (Value.pointer (some ⟨gR, i, none⟩)) :: (Value.slice (some ⟨bi, oi, none⟩) (LF i).length ci) :: (Value.int IntKind.i64 ↑(LF i).length) :: (Value.bool true) :: u106 :: u107 :: (vs 0) :: (vs 1) :: (vs 2) :: (vs 3) :: (vs 4) :: (vs 5) :: (vs 6) :: (vs 7) :: (vs 8) :: (vs 9) :: (vs 10) :: (vs 11) :: (vs 12) :: (vs 13) :: (vs 14) :: u123 :: u124 :: undef :: []).toArray)
                            (fun j_ v _ => v = V24t ls x y LF gR b o c bi oi ci i j k j_) (fun _ wz => Ext No wr wz) 15 rfl (by kernel_rfl) ?_ ?_ ?_
                          · exact (Ext.refl No wr).drew
                          · refine ⟨⟨⟨⟨⟨⟨⟨⟨⟨⟨⟨⟨⟨⟨⟨⟨trivial, ?_⟩, ?_⟩, ?_⟩, ?_⟩, ?_⟩, ?_⟩, ?_⟩, ?_⟩, ?_⟩, ?_⟩, ?_⟩, ?_⟩, ?_⟩, ?_⟩, ?_⟩, ?_⟩
                            · refine RF.StepL.plain rfl rfl rfl (fun vs wx hG hv hl hd K hK => ?_)
                              have hl0 : vs 15 = Value.bool true := hl
                              have HG0 := Lib.hid hG
                              clear hG
                              go_simp
                              have h4 := hK _ _ HG0.out rfl (fun _ _ h => h)
                              first | exact h4 | (simpa only [RF.upd, hl0, Nat.reduceEqDiff, if_true, if_false, reduceIte] using h4) | (simp only [RF.upd, hl0, Nat.reduceEqDiff, if_true, if_false, reduceIte] at h4 ⊢; exact h4)
                            · refine RF.Step.late ?_
                              refine RF.Step.plain rfl rfl (fun vs wx hG hv hd K hK => ?_)
                              have h0 : vs 0 = Value.bool true := by first | exact hd.1 | exact hd.2.1 | exact hd.2.2.1 | exact hd.2.2.2.1 | exact hd.2.2.2.2.1
                              have HG0 := Lib.hid hG
                              clear hG
                              go_simp
                              have h4 := hK _ _ HG0.out rfl (fun _ _ h => h)
                              first | exact h4 | (simpa only [RF.upd, h0, Nat.reduceEqDiff, if_true, if_false, reduceIte] using h4) | (simp only [RF.upd, h0, Nat.reduceEqDiff, if_true, if_false, reduceIte] at h4 ⊢; exact h4)
                            · refine RF.Step.late ?_
                              refine RF.Step.skip rfl (fun vs wx hG hv hd => ?_) (fun _ => rfl) (fun vs wx hG hv hd => ⟨hG, rfl⟩)
                              have h0 : vs 1 = Value.bool true := by first | exact hd.1 | exact hd.2.1 | exact hd.2.2.1 | exact hd.2.2.2.1 | exact hd.2.2.2.2.1
                              simp [Region.wanted, yielded, h0]
                            · refine RF.Step.late ?_
                              refine RF.Step.skip rfl (fun vs wx hG hv hd => ?_) (fun _ => rfl) (fun vs wx hG hv hd => ⟨hG, rfl⟩)
                              have h0 : vs 1 = Value.bool true := by first | exact hd.1 | exact hd.2.1 | exact hd.2.2.1 | exact hd.2.2.2.1 | exact hd.2.2.2.2.1
                              simp [Region.wanted, yielded, h0]
                            · refine RF.Step.late ?_
                              refine RF.Step.skip rfl (fun vs wx hG hv hd => ?_) (fun _ => rfl) (fun vs wx hG hv hd => ⟨hG, rfl⟩)
                              have h0 : vs 1 = Value.bool true := by first | exact hd.1 | exact hd.2.1 | exact hd.2.2.1 | exact hd.2.2.2.1 | exact hd.2.2.2.2.1
                              simp [Region.wanted, yielded, h0]
                            · refine RF.Step.late ?_
                              refine RF.Step.skip rfl (fun vs wx hG hv hd => ?_) (fun _ => rfl) (fun vs wx hG hv hd => ⟨hG, rfl⟩)
                              have h0 : vs 1 = Value.bool true := by first | exact hd.1 | exact hd.2.1 | exact hd.2.2.1 | exact hd.2.2.2.1 | exact hd.2.2.2.2.1
                              simp [Region.wanted, yielded, h0]
                            · refine RF.Step.late ?_
                              refine RF.Step.skip rfl (fun vs wx hG hv hd => ?_) (fun _ => rfl) (fun vs wx hG hv hd => ⟨hG, rfl⟩)
                              have h0 : vs 1 = Value.bool true := by first | exact hd.1 | exact hd.2.1 | exact hd.2.2.1 | exact hd.2.2.2.1 | exact hd.2.2.2.2.1
                              simp [Region.wanted, yielded, h0]
                            · refine RF.Step.late ?_
                              refine RF.Step.skip rfl (fun vs wx hG hv hd => ?_) (fun _ => rfl) (fun vs wx hG hv hd => ⟨hG, rfl⟩)
                              have h0 : vs 1 = Value.bool true := by first | exact hd.1 | exact hd.2.1 | exact hd.2.2.1 | exact hd.2.2.2.1 | exact hd.2.2.2.2.1
                              simp [Region.wanted, yielded, h0]
                            · refine RF.Step.late ?_
                              refine RF.Step.skip rfl (fun vs wx hG hv hd => ?_) (fun _ => rfl) (fun vs wx hG hv hd => ⟨hG, rfl⟩)
                              have h0 : vs 1 = Value.bool true := by first | exact hd.1 | exact hd.2.1 | exact hd.2.2.1 | exact hd.2.2.2.1 | exact hd.2.2.2.2.1
                              simp [Region.wanted, yielded, h0]
                            · refine RF.Step.late ?_
                              refine RF.Step.skip rfl (fun vs wx hG hv hd => ?_) (fun _ => rfl) (fun vs wx hG hv hd => ⟨hG, rfl⟩)
                              have h0 : vs 1 = Value.bool true := by first | exact hd.1 | exact hd.2.1 | exact hd.2.2.1 | exact hd.2.2.2.1 | exact hd.2.2.2.2.1
                              simp [Region.wanted, yielded, h0]
                            · refine RF.Step.late ?_
                              refine RF.Step.skip rfl (fun vs wx hG hv hd => ?_) (fun _ => rfl) (fun vs wx hG hv hd => ⟨hG, rfl⟩)
                              have h0 : vs 1 = Value.bool true := by first | exact hd.1 | exact hd.2.1 | exact hd.2.2.1 | exact hd.2.2.2.1 | exact hd.2.2.2.2.1
                              simp [Region.wanted, yielded, h0]
                            · refine RF.Step.late ?_
                              refine RF.Step.skip rfl (fun vs wx hG hv hd => ?_) (fun _ => rfl) (fun vs wx hG hv hd => ⟨hG, rfl⟩)
                              have h0 : vs 1 = Value.bool true := by first | exact hd.1 | exact hd.2.1 | exact hd.2.2.1 | exact hd.2.2.2.1 | exact hd.2.2.2.2.1
                              simp [Region.wanted, yielded, h0]
                            · refine RF.Step.late ?_
                              refine RF.Step.skip rfl (fun vs wx hG hv hd => ?_) (fun _ => rfl) (fun vs wx hG hv hd => ⟨hG, rfl⟩)
                              have h0 : vs 1 = Value.bool true := by first | exact hd.1 | exact hd.2.1 | exact hd.2.2.1 | exact hd.2.2.2.1 | exact hd.2.2.2.2.1
                              simp [Region.wanted, yielded, h0]
                            · refine RF.Step.late ?_
                              refine RF.Step.skip rfl (fun vs wx hG hv hd => ?_) (fun _ => rfl) (fun vs wx hG hv hd => ⟨hG, rfl⟩)
                              have h0 : vs 1 = Value.bool true := by first | exact hd.1 | exact hd.2.1 | exact hd.2.2.1 | exact hd.2.2.2.1 | exact hd.2.2.2.2.1
                              simp [Region.wanted, yielded, h0]
                            · refine RF.Step.late ?_
                              refine RF.Step.plain rfl rfl (fun vs wx hG hv hd K hK => ?_)
                              have h0 : vs 1 = Value.bool true := by first | exact hd.1 | exact hd.2.1 | exact hd.2.2.1 | exact hd.2.2.2.1 | exact hd.2.2.2.2.1
                              have h1 : vs 13 = undef := by first | exact hd.1 | exact hd.2.1 | exact hd.2.2.1 | exact hd.2.2.2.1 | exact hd.2.2.2.2.1
                              have HG0 := Lib.hid hG
                              clear hG
                              go_simp
                              have h4 := hK _ _ HG0.out rfl (fun _ _ h => h)
                              first | exact h4 | (simpa only [RF.upd, h0, h1, Nat.reduceEqDiff, if_true, if_false, reduceIte] using h4) | (simp only [RF.upd, h0, h1, Nat.reduceEqDiff, if_true, if_false, reduceIte] at h4 ⊢; exact h4)
                            · refine RF.Step.late ?_
                              refine RF.Step.plain rfl rfl (fun vs wx hG hv hd K hK => ?_)
                              have h0 : vs 14 = Value.bool true := by first | exact hd.1 | exact hd.2.1 | exact hd.2.2.1 | exact hd.2.2.2.1 | exact hd.2.2.2.2.1
                              have HG0 := Lib.hid hG
                              clear hG
                              go_simp
                              have h4 := hK _ _ HG0.out rfl (fun _ _ h => h)
                              first | exact h4 | (simpa only [RF.upd, h0, Nat.reduceEqDiff, if_true, if_false, reduceIte] using h4) | (simp only [RF.upd, h0, Nat.reduceEqDiff, if_true, if_false, reduceIte] at h4 ⊢; exact h4)
                          · intro vsB wB hG hF
                            have hz : vsB 15 = Value.bool true := hF 15 (by decide)
                            have HXB2 := Lib.hid (HXR.out.trans hG)
                            have HMT : Hid (((LF i).take (j + 1)).any (fun y => svB y x) = true) := Lib.hid (by rw [HTK.out, List.any_append, HM.out]; rfl)
                            rw [hz]
                            clear hz hF hG
                            go_wp2
                            go_roundw
                            case rel => exact ⟨j + 1, true, by omega, by go_num, rfl, HMT, HXB2.out⟩
                            case measure => simp [intOf]; omega
                        | false =>
                          go_wp2_with fail
                          refine RF.regionL (vs := fun | 0 => u108 | 1 => u109 | 2 => u110 | 3 => u111 | 4 => u112 | 5 => u113 | 6 => u114 | 7 => u115 | 8 => u116 | 9 => u117 | 10 => u118 | 11 => u119 | 12 => u120 | 13 => u121 | 14 => u122 | 15 => Value.bool false | _ => undef) rfl (fun vs => ((Value.slice (some ⟨b, o, none⟩) ls.length c) :: (Value.int IntKind.u8 st) :: (Value.int IntKind.i64 id) :: (Value.int IntKind.i64 now) :: undef :: undef :: undef :: undef :: u8 :: (Value.pointer (some ⟨w2.heap.size, 0, none⟩)) :: (Value.int IntKind.i64 (st % 3)) :: (Value.pointer (some ⟨w4.heap.size, 0, none⟩)) :: (Value.int IntKind.i64 e) :: (Value.pointer (some ⟨w6.heap.size, 0, none⟩)) :: (Value.int IntKind.i64 f) :: (Value.pointer (some ⟨w8.heap.size, 0, none⟩)) :: (Value.int IntKind.i64 g) :: (Value.slice (some ⟨gR, 0, none⟩) 3 3) :: (Value.int IntKind.i64 (i : Int)) :: (Value.int IntKind.i64 (k : Int)) :: (vs 15) :: (Value.int IntKind.i64 (j : Int)) :: (Value.slice (some ⟨b, o, none⟩) ls.length c) :: (Value.bool true) :: (Value.bool false) :: undef :: (Value.slice (some ⟨b, o, none⟩) ls.length c) :: (Value.agg (seqV s).cs.toArray) :: (Value.pointer (some ⟨w2.heap.size, 0, none⟩)) :: (Value.int IntKind.i64 s) :: (Value.bool (decide (s < 1))) :: undef :: (Value.int IntKind.u8 st) :: (Value.int IntKind.i64 st) :: (Value.int IntKind.i64 (st % 3)) :: (Value.tuple #[Value.agg #[gv1, Value.bool c1, Value.bool n1, Value.bool m1], Value.int IntKind.i64 e]) :: (Value.slice (some ⟨b, o, none⟩) ls.length c) :: (Value.int IntKind.i64 (st % 3)) :: (Value.int IntKind.i64 now) :: (Value.tuple #[Value.agg #[gv1, Value.bool c1, Value.bool n1, Value.bool m1], Value.int IntKind.i64 e]) :: (Value.agg #[gv1, Value.bool c1, Value.bool n1, Value.bool m1]) :: (Value.int IntKind.i64 e) :: (Value.tuple #[Value.agg #[gv2, Value.bool c2, Value.bool n2, Value.bool m2], Value.int IntKind.i64 f]) :: (Value.slice (some ⟨b, o, none⟩) ls.length c) :: (Value.int IntKind.i64 (st % 3)) :: (Value.int IntKind.i64 now) :: (Value.tuple #[Value.agg #[gv2, Value.bool c2, Value.bool n2, Value.bool m2], Value.int IntKind.i64 f]) :: (Value.agg #[gv2, Value.bool c2, Value.bool n2, Value.bool m2]) :: (Value.int IntKind.i64 f) :: (Value.tuple #[Value.agg #[gv3, Value.bool c3, Value.bool n3, Value.bool m3], Value.int IntKind.i64 g]) :: (Value.slice (some ⟨b, o, none⟩) ls.length c) :: (Value.int IntKind.i64 id) :: (Value.int IntKind.i64 now) :: (Value.tuple #[Value.agg #[gv3, Value.bool c3, Value.bool n3, Value.bool m3], Value.int IntKind.i64 g]) :: (Value.agg #[gv3, Value.bool c3, Value.bool n3, Value.bool m3]) :: (Value.int IntKind.i64 g) :: (vsA 0) :: (vsA 1) :: (vsA 2) :: (vsA 3) :: (vsA 4) :: (vsA 5) :: (vsA 6) :: (vsA 7) :: (vsA 8) :: (vsA 9) :: (vsA 10) :: (vsA 11) :: (vsA 12) :: (Value.int IntKind.i64 (i : Int)) :: (Value.slice (some ⟨gR, 0, none⟩) 3 3) :: (Value.int IntKind.i64 3) :: (Value.bool true) :: u73 :: u74 :: (Value.slice (some ⟨b, o, none⟩) ls.length c) :: (Value.int IntKind.i64 (ls.length : Int)) :: (Value.bool false) :: (Value.bool false) :: undef :: undef :: undef :: undef :: undef :: undef :: (Value.bool false) :: (Value.int IntKind.i64 (k : Int)) :: (Value.slice (some ⟨b, o, none⟩) ls.length c) :: (Value.int IntKind.i64 (ls.length : Int)) :: (Value.bool true) :: u90 :: u91 :: (Value.slice (some ⟨b, o, none⟩) ls.length c) :: (Value.int IntKind.i64 (k : Int)) :: (Value.pointer (some ⟨b, o + k * 11, none⟩)) :: (Value.pointer (some ⟨b, o + k * 11 + 5, none⟩)) :: (Value.int IntKind.i64 x.til) :: (Value.int IntKind.i64 now) :: (Value.bool false) :: (Value.int IntKind.i64 (j : Int)) :: (Value.slice (some ⟨gR, 0, none⟩) 3 3) :: (Value.int IntKind.i64 (i : Int)) :: (Value.pointer (some ⟨gR, i, none⟩)) :: (Value.slice (some ⟨bi, oi, none⟩) (LF i).length ci) :: (Value.int IntKind.i64 ↑(LF i).length) :: (Value.bool true) :: u106 :: u107 :: (vs 0) :: (vs 1) :: (vs 2) :: (vs 3) :: (vs 4) :: (vs 5) :: (vs 6) :: (vs 7) :: (vs 8) :: (vs 9) :: (vs 10) :: (vs 11) :: (vs 12) :: (vs 13) :: (vs 14) :: u123 :: u124 :: undef :: []).toArray)
                            (fun j_ v _ => v = V24f ls x y LF gR b o c bi oi ci i j k j_) (fun _ wz => Ext No wr wz) 15 rfl (by kernel_rfl) ?_ ?_ ?_
                          · exact (Ext.refl No wr).drew
                          · refine ⟨⟨⟨⟨⟨⟨⟨⟨⟨⟨⟨⟨⟨⟨⟨⟨trivial, ?_⟩, ?_⟩, ?_⟩, ?_⟩, ?_⟩, ?_⟩, ?_⟩, ?_⟩, ?_⟩, ?_⟩, ?_⟩, ?_⟩, ?_⟩, ?_⟩, ?_⟩, ?_⟩
                            · refine RF.StepL.plain rfl rfl rfl (fun vs wx hG hv hl hd K hK => ?_)
                              have hl0 : vs 15 = Value.bool false := hl
                              have HG0 := Lib.hid hG
                              clear hG
                              go_simp
                              have h4 := hK _ _ HG0.out rfl (fun _ _ h => h)
                              first | exact h4 | (simpa only [RF.upd, hl0, Nat.reduceEqDiff, if_true, if_false, reduceIte] using h4) | (simp only [RF.upd, hl0, Nat.reduceEqDiff, if_true, if_false, reduceIte] at h4 ⊢; exact h4)
                            · refine RF.Step.late ?_
                              refine RF.Step.plain rfl rfl (fun vs wx hG hv hd K hK => ?_)
                              have h0 : vs 0 = Value.bool false := by first | exact hd.1 | exact hd.2.1 | exact hd.2.2.1 | exact hd.2.2.2.1 | exact hd.2.2.2.2.1
                              have HG0 := Lib.hid hG
                              clear hG
                              go_simp
                              have h4 := hK _ _ HG0.out rfl (fun _ _ h => h)
                              first | exact h4 | (simpa only [RF.upd, h0, Nat.reduceEqDiff, if_true, if_false, reduceIte] using h4) | (simp only [RF.upd, h0, Nat.reduceEqDiff, if_true, if_false, reduceIte] at h4 ⊢; exact h4)
                            · refine RF.Step.late ?_
                              refine RF.Step.guarded rfl (fun vs wx hG hv hd => ?_) (fun vs wx hG hv hd K hK => ?_)
                              · have h0 : vs 1 = Value.bool false := by first | exact hd.1 | exact hd.2.1 | exact hd.2.2.1 | exact hd.2.2.2.1 | exact hd.2.2.2.2.1
                                simp [Region.wanted, yielded, h0]
                              · have HG0 := Lib.hid hG
                                clear hG
                                go_simp
                                have h4 := hK _ _ HG0.out rfl (fun _ _ h => h)
                                first | exact h4 | (simpa only [RF.upd, Nat.reduceEqDiff, if_true, if_false, reduceIte] using h4) | (simp only [RF.upd, Nat.reduceEqDiff, if_true, if_false, reduceIte] at h4 ⊢; exact h4)
                            · refine RF.Step.late ?_
                              refine RF.Step.guarded rfl (fun vs wx hG hv hd => ?_) (fun vs wx hG hv hd K hK => ?_)
                              · have h0 : vs 1 = Value.bool false := by first | exact hd.1 | exact hd.2.1 | exact hd.2.2.1 | exact hd.2.2.2.1 | exact hd.2.2.2.2.1
                                simp [Region.wanted, yielded, h0]
                              · have HG0 := Lib.hid hG
                                clear hG
                                go_simp
                                have h4 := hK _ _ HG0.out rfl (fun _ _ h => h)
                                first | exact h4 | (simpa only [RF.upd, Nat.reduceEqDiff, if_true, if_false, reduceIte] using h4) | (simp only [RF.upd, Nat.reduceEqDiff, if_true, if_false, reduceIte] at h4 ⊢; exact h4)
                            · refine RF.Step.late ?_
                              refine RF.Step.guarded rfl (fun vs wx hG hv hd => ?_) (fun vs wx hG hv hd K hK => ?_)
                              · have h0 : vs 1 = Value.bool false := by first | exact hd.1 | exact hd.2.1 | exact hd.2.2.1 | exact hd.2.2.2.1 | exact hd.2.2.2.2.1
                                simp [Region.wanted, yielded, h0]
                              · have h0 : vs 2 = Value.slice (some ⟨gR, 0, none⟩) 3 3 := by first | exact hd.1 | exact hd.2.1 | exact hd.2.2.1 | exact hd.2.2.2.1 | exact hd.2.2.2.2.1
                                have h1 : vs 3 = Value.int .i64 (i : Int) := by first | exact hd.1 | exact hd.2.1 | exact hd.2.2.1 | exact hd.2.2.2.1 | exact hd.2.2.2.2.1
                                have HG0 := Lib.hid hG
                                clear hG
                                go_simp
                                have h4 := hK _ _ HG0.out rfl (fun _ _ h => h)
                                first | exact h4 | (simpa only [RF.upd, h0, h1, Nat.reduceEqDiff, if_true, if_false, reduceIte] using h4) | (simp only [RF.upd, h0, h1, Nat.reduceEqDiff, if_true, if_false, reduceIte] at h4 ⊢; exact h4)
                            · refine RF.Step.late ?_
                              refine RF.Step.guarded rfl (fun vs wx hG hv hd => ?_) (fun vs wx hG hv hd K hK => ?_)
                              · have h0 : vs 1 = Value.bool false := by first | exact hd.1 | exact hd.2.1 | exact hd.2.2.1 | exact hd.2.2.2.1 | exact hd.2.2.2.2.1
                                simp [Region.wanted, yielded, h0]
                              · have h0 : vs 4 = Value.pointer (some ⟨gR, i, none⟩) := by first | exact hd.1 | exact hd.2.1 | exact hd.2.2.1 | exact hd.2.2.2.1 | exact hd.2.2.2.2.1
                                have cc := HQC.out wx hG
                                have HG0 := Lib.hid hG
                                clear hG
                                go_simp
                                have h4 := hK _ _ HG0.out rfl (fun _ _ h => h)
                                first | exact h4 | (simpa only [RF.upd, h0, Nat.reduceEqDiff, if_true, if_false, reduceIte] using h4) | (simp only [RF.upd, h0, Nat.reduceEqDiff, if_true, if_false, reduceIte] at h4 ⊢; exact h4)
                            · refine RF.Step.late ?_
                              refine RF.Step.guarded rfl (fun vs wx hG hv hd => ?_) (fun vs wx hG hv hd K hK => ?_)
                              · have h0 : vs 1 = Value.bool false := by first | exact hd.1 | exact hd.2.1 | exact hd.2.2.1 | exact hd.2.2.2.1 | exact hd.2.2.2.2.1
                                simp [Region.wanted, yielded, h0]
                              · have HG0 := Lib.hid hG
                                clear hG
                                go_simp
                                have h4 := hK _ _ HG0.out rfl (fun _ _ h => h)
                                first | exact h4 | (simpa only [RF.upd, Nat.reduceEqDiff, if_true, if_false, reduceIte] using h4) | (simp only [RF.upd, Nat.reduceEqDiff, if_true, if_false, reduceIte] at h4 ⊢; exact h4)
                            · refine RF.Step.late ?_
                              refine RF.Step.guarded rfl (fun vs wx hG hv hd => ?_) (fun vs wx hG hv hd K hK => ?_)
                              · have h0 : vs 1 = Value.bool false := by first | exact hd.1 | exact hd.2.1 | exact hd.2.2.1 | exact hd.2.2.2.1 | exact hd.2.2.2.2.1
                                simp [Region.wanted, yielded, h0]
                              · have h0 : vs 5 = Value.slice (some ⟨bi, oi, none⟩) (LF i).length ci := by first | exact hd.1 | exact hd.2.1 | exact hd.2.2.1 | exact hd.2.2.2.1 | exact hd.2.2.2.2.1
                                have h1 : vs 6 = Value.int .i64 (j : Int) := by first | exact hd.1 | exact hd.2.1 | exact hd.2.2.1 | exact hd.2.2.2.1 | exact hd.2.2.2.2.1
                                have HG0 := Lib.hid hG
                                clear hG
                                go_simp
                                have h4 := hK _ _ HG0.out rfl (fun _ _ h => h)
                                first | exact h4 | (simpa only [RF.upd, h0, h1, Nat.reduceEqDiff, if_true, if_false, reduceIte] using h4) | (simp only [RF.upd, h0, h1, Nat.reduceEqDiff, if_true, if_false, reduceIte] at h4 ⊢; exact h4)
                            · refine RF.Step.late ?_
                              refine RF.Step.guarded rfl (fun vs wx hG hv hd => ?_) (fun vs wx hG hv hd K hK => ?_)
                              · have h0 : vs 1 = Value.bool false := by first | exact hd.1 | exact hd.2.1 | exact hd.2.2.1 | exact hd.2.2.2.1 | exact hd.2.2.2.2.1
                                simp [Region.wanted, yielded, h0]
                              · have h0 : vs 7 = Value.pointer (some ⟨bi, oi + j * 11, none⟩) := by first | exact hd.1 | exact hd.2.1 | exact hd.2.2.1 | exact hd.2.2.2.1 | exact hd.2.2.2.2.1
                                refine wp_load_mid 55 (.tmp 115) rfl (bi) (oi + j * 11) (by show vs 7 = _; exact h0) y.cs _ (HQ1.out wx hG) Try.underlying55 rfl size_ver ?_
                                exact hK _ _ hG rfl (fun _ _ h => h)
                            · refine RF.Step.late ?_
                              refine RF.Step.guarded rfl (fun vs wx hG hv hd => ?_) (fun vs wx hG hv hd K hK => ?_)
                              · have h0 : vs 1 = Value.bool false := by first | exact hd.1 | exact hd.2.1 | exact hd.2.2.1 | exact hd.2.2.2.1 | exact hd.2.2.2.2.1
                                simp [Region.wanted, yielded, h0]
                              · have HG0 := Lib.hid hG
                                clear hG
                                go_simp
                                have h4 := hK _ _ HG0.out rfl (fun _ _ h => h)
                                first | exact h4 | (simpa only [RF.upd, Nat.reduceEqDiff, if_true, if_false, reduceIte] using h4) | (simp only [RF.upd, Nat.reduceEqDiff, if_true, if_false, reduceIte] at h4 ⊢; exact h4)
                            · refine RF.Step.late ?_
                              refine RF.Step.guarded rfl (fun vs wx hG hv hd => ?_) (fun vs wx hG hv hd K hK => ?_)
                              · have h0 : vs 1 = Value.bool false := by first | exact hd.1 | exact hd.2.1 | exact hd.2.2.1 | exact hd.2.2.2.1 | exact hd.2.2.2.2.1
                                simp [Region.wanted, yielded, h0]
                              · have HG0 := Lib.hid hG
                                clear hG
                                go_simp
                                have h4 := hK _ _ HG0.out rfl (fun _ _ h => h)
                                first | exact h4 | (simpa only [RF.upd, Nat.reduceEqDiff, if_true, if_false, reduceIte] using h4) | (simp only [RF.upd, Nat.reduceEqDiff, if_true, if_false, reduceIte] at h4 ⊢; exact h4)
                            · refine RF.Step.late ?_
                              refine RF.Step.guarded rfl (fun vs wx hG hv hd => ?_) (fun vs wx hG hv hd K hK => ?_)
                              · have h0 : vs 1 = Value.bool false := by first | exact hd.1 | exact hd.2.1 | exact hd.2.2.1 | exact hd.2.2.2.1 | exact hd.2.2.2.2.1
                                simp [Region.wanted, yielded, h0]
                              · have h0 : vs 9 = Value.slice (some ⟨b, o, none⟩) ls.length c := by first | exact hd.1 | exact hd.2.1 | exact hd.2.2.1 | exact hd.2.2.2.1 | exact hd.2.2.2.2.1
                                have h1 : vs 10 = Value.int .i64 (k : Int) := by first | exact hd.1 | exact hd.2.1 | exact hd.2.2.1 | exact hd.2.2.2.1 | exact hd.2.2.2.2.1
                                have HG0 := Lib.hid hG
                                clear hG
                                go_simp
                                have h4 := hK _ _ HG0.out rfl (fun _ _ h => h)
                                first | exact h4 | (simpa only [RF.upd, h0, h1, Nat.reduceEqDiff, if_true, if_false, reduceIte] using h4) | (simp only [RF.upd, h0, h1, Nat.reduceEqDiff, if_true, if_false, reduceIte] at h4 ⊢; exact h4)
                            · refine RF.Step.late ?_
                              refine RF.Step.guarded rfl (fun vs wx hG hv hd => ?_) (fun vs wx hG hv hd K hK => ?_)
                              · have h0 : vs 1 = Value.bool false := by first | exact hd.1 | exact hd.2.1 | exact hd.2.2.1 | exact hd.2.2.2.1 | exact hd.2.2.2.2.1
                                simp [Region.wanted, yielded, h0]
                              · have h0 : vs 11 = Value.pointer (some ⟨b, o + k * 11, none⟩) := by first | exact hd.1 | exact hd.2.1 | exact hd.2.2.1 | exact hd.2.2.2.1 | exact hd.2.2.2.2.1
                                refine wp_load_mid 55 (.tmp 119) rfl (b) (o + k * 11) (by show vs 11 = _; exact h0) x.cs _ (HQ0.out wx hG) Try.underlying55 rfl size_ver ?_
                                exact hK _ _ hG rfl (fun _ _ h => h)
                            · refine RF.Step.late ?_
                              refine RF.Step.guarded rfl (fun vs wx hG hv hd => ?_) (fun vs wx hG hv hd K hK => ?_)
                              · have h0 : vs 1 = Value.bool false := by first | exact hd.1 | exact hd.2.1 | exact hd.2.2.1 | exact hd.2.2.2.1 | exact hd.2.2.2.2.1
                                simp [Region.wanted, yielded, h0]
                              · have h0 : vs 8 = Value.agg y.cs.toArray := by first | exact hd.1 | exact hd.2.1 | exact hd.2.2.1 | exact hd.2.2.2.1 | exact hd.2.2.2.2.1
                                have h1 : vs 12 = Value.agg x.cs.toArray := by first | exact hd.1 | exact hd.2.1 | exact hd.2.2.1 | exact hd.2.2.2.1 | exact hd.2.2.2.2.1
                                go_simp
                                refine (sVer_any y x W.heap.size wx (HOY.out.ext_no hG) (HOX.out.ext_no hG)).mono ?_
                                rintro e_ w' ⟨rfl, hx⟩
                                have h4 := hK _ _ (Ext.trans hG hx) rfl (fun _ _ h => h)
                                first | exact h4 | (simpa only [RF.upd, h0, h1, Nat.reduceEqDiff, if_true, if_false, reduceIte] using h4) | (simp only [RF.upd, h0, h1, Nat.reduceEqDiff, if_true, if_false, reduceIte] at h4 ⊢; exact h4)
                            · refine RF.Step.late ?_
                              refine RF.Step.plain rfl rfl (fun vs wx hG hv hd K hK => ?_)
                              have h0 : vs 1 = Value.bool false := by first | exact hd.1 | exact hd.2.1 | exact hd.2.2.1 | exact hd.2.2.2.1 | exact hd.2.2.2.2.1
                              have h1 : vs 13 = Value.bool (svB y x) := by first | exact hd.1 | exact hd.2.1 | exact hd.2.2.1 | exact hd.2.2.2.1 | exact hd.2.2.2.2.1
                              have HG0 := Lib.hid hG
                              clear hG
                              go_simp
                              have h4 := hK _ _ HG0.out rfl (fun _ _ h => h)
                              first | exact h4 | (simpa only [RF.upd, h0, h1, Nat.reduceEqDiff, if_true, if_false, reduceIte] using h4) | (simp only [RF.upd, h0, h1, Nat.reduceEqDiff, if_true, if_false, reduceIte] at h4 ⊢; exact h4)
                            · refine RF.Step.late ?_
                              refine RF.Step.plain rfl rfl (fun vs wx hG hv hd K hK => ?_)
                              have h0 : vs 14 = Value.bool (svB y x) := by first | exact hd.1 | exact hd.2.1 | exact hd.2.2.1 | exact hd.2.2.2.1 | exact hd.2.2.2.2.1
                              have HG0 := Lib.hid hG
                              clear hG
                              go_simp
                              have h4 := hK _ _ HG0.out rfl (fun _ _ h => h)
                              first | exact h4 | (simpa only [RF.upd, h0, Nat.reduceEqDiff, if_true, if_false, reduceIte] using h4) | (simp only [RF.upd, h0, Nat.reduceEqDiff, if_true, if_false, reduceIte] at h4 ⊢; exact h4)
                          · intro vsB wB hG hF
                            have hz : vsB 15 = Value.bool (svB y x) := hF 15 (by decide)
                            have HXB2 := Lib.hid (HXR.out.trans hG)
                            have HMT : Hid (((LF i).take (j + 1)).any (fun y => svB y x) = svB y x) := Lib.hid (by rw [HTK.out, List.any_append, HM.out]; simp)
                            rw [hz]
                            clear hz hF hG
                            obtain ⟨p, hp⟩ : ∃ p, svB y x = p := ⟨_, rfl⟩
                            rw [hp] at HMT
                            rw [hp]
                            clear hp
                            go_wp2
                            go_roundw
                            case rel => exact ⟨j + 1, p, by omega, by go_num, rfl, HMT, HXB2.out⟩
                            case measure => simp [intOf]; omega
                      · obtain rfl : j = (LF i).length := by omega
                        obtain rfl : m = true := by
                          have h1 := HM.out
                          rw [List.take_length] at h1
                          rw [← h1, List.any_eq_true]
                          exact ⟨x, HH.out, svB_self x⟩
                        go_wp2
                        go_roundw
                        case rel => exact ⟨k + 1, by omega, by go_num, HXR.out⟩
                        case measure => simp [intOf]; omega
                · obtain rfl : k = ls.length := by omega
                  go_wp2
                  go_roundw
                  case rel => exact ⟨i + 1, by omega, by go_num, HXY.out⟩
                  case measure => simp [intOf]; omega
          · obtain rfl : i = 3 := by omega
            have HXW := Lib.hid hx
            clear hx
            go_wp2_with (first
              | (go_at_call 25; (with_reducible refine (lWorks _).mono ?_); rintro e_ wZ ⟨rfl, hx1⟩; have HXZ := Lib.hid (HXW.out.trans hx1); clear hx1))
            go_ret
            exact ⟨rfl, HXA.out.trans HXZ.out⟩
  · have HR := Lib.hid hR
    clear hR
    go_enter Try.func9, Try.ntmps9
    go_wp2_with (first
      | (go_at_call 24; (with_reducible refine (lRight_f _ ls W.heap.size _ HL.out HR.out).mono ?_); rintro e_ w1 ⟨rfl, hx⟩; have HL_1 := Lib.hid (HL.out.ext_no hx); have HXx1 := Lib.hid (HX0.out.trans hx); clear hx)
      | (go_at_call 25; (with_reducible refine (lWorks _).mono ?_); rintro e_ w2 ⟨rfl, hx⟩; have HL_2 := Lib.hid (HL_1.out.ext_no hx); have HXx2 := Lib.hid (HXx1.out.trans hx); clear hx))
    go_ret
    exact ⟨rfl, HXx2.out⟩
theorem walk_RuleKeeps (W : World) (v0 v1 v2 v3 : Value) (u0 : Rd Try.prog W 50 v0.cells.toList) (u1 : Rd Try.prog W 5 v1.cells.toList) (u2 : Rd Try.prog W 3 v2.cells.toList) (u3 : Rd Try.prog W 3 v3.cells.toList)
    {r : Reach} {base : Nat} (ok0 : Value.okWide Try.prog W r base 50 v0) (ok1 : Value.okWide Try.prog W r base 5 v1) (ok2 : Value.okWide Try.prog W r base 3 v2) (ok3 : Value.okWide Try.prog W r base 3 v3) :
    Calls Try.prog 9 #[v0, v1, v2, v3] W fun e W' => e = .returned (.bool true) ∧ Ext No W W' := by
  obtain ⟨a1, rfl, h1⟩ := Rd.int_val Try.underlying5 ok1 u1
  obtain ⟨a2, rfl, -⟩ := Rd.int_val Try.underlying3 ok2 u2
  obtain ⟨a3, rfl, -⟩ := Rd.int_val Try.underlying3 ok3 u3
  obtain ⟨ls, hl⟩ := vers_val u0 ok0
  exact keeps26_any v0 ls a1 a2 a3 (by simpa [Lit.wf, show IntKind.u8.min = 0 from by decide, show IntKind.u8.max = 255 from by decide] using h1) W hl
end Go.Proofs.Ytlfhfomidkadiaa
