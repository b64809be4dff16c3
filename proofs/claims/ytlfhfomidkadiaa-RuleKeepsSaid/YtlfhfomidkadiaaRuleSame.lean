/- Reference 24: SameLock, SameVersion. -/
import Derived.Test.YtlfhfomidkadiaaRuleRef2
import Derived.BigQuiet
set_option linter.unusedVariables false
set_option linter.unusedSimpArgs false
namespace Go.Proofs.Ytlfhfomidkadiaa
open Go.RowKit Go.Deep

theorem list_want {P : Program} {ops : Array Oper} {Q : Exit → Act → World → Prop} {a : Act} {w : World} {rest : List Oper} {o : Oper} (hw : Region.wanted o (yielded ops a.tmps) = true)
    (h : ∀ K : Act → World → Prop, (∀ a w, wpList P ops Q rest a w → K a w) → o.wp P a w K Q) : wpList P ops Q (o :: rest) a w :=
  wpList_step fun K hK => by rw [if_pos hw]; exact h K hK
theorem rSame_ext (v1 v2 : Value) (l1 l2 : List UInt8) (q : Bool) (hq : decide (l1 = l2) = q) (w : World) (h1 : Bs w Any v1 l1) (h2 : Bs w Any v2 l2) :
    Calls Try.prog 52 #[v1, v2] w fun e w' => e = .returned (.bool q) ∧ Ext No w w' :=
  (rSame_any v1 v2 l1 l2 w h1 h2).mono (by rintro e w' ⟨rfl, n, rfl⟩; exact ⟨by rw [hq], (Ext.refl No w).drewN n⟩)
def Vr.lk (x : Vr) : Array Value := #[.int .i64 x.gen, .slice x.nA x.nd.length x.nc, .slice x.wA x.wd.length x.wc]
theorem size_lock : (Try.prog.info? 53).map (·.size) = some 3 := by kernel_rfl
def lkB (a b : Vr) : Bool := a.gen == b.gen && decide (a.nd = b.nd) && decide (a.wd = b.wd)
set_option maxRecDepth 100000 in
set_option maxHeartbeats 1000000 in
theorem sLock_any (x y : Vr) (B : Nat) (w : World) (hx : Vr.Ok w (fun b => b < B) x) (hy : Vr.Ok w (fun b => b < B) y) :
    Calls Try.prog 53 #[.agg x.lk, .agg y.lk] w fun e w' => e = .returned (.bool (lkB x y)) ∧ Ext No w w' := by
  have HX := Lib.hid (((Ext.refl No w).alloc (.cells x.lk 53)).alloc (.cells y.lk 53))
  have hb1 := (Blk.new w 53 x.lk).alloc (.cells y.lk 53)
  have hb2 := Blk.new (w.alloc (.cells x.lk 53)) 53 y.lk
  rw [World.size_alloc] at hb2
  have q1 := hb1.c3
  have q2 := hb2.c3
  have HB1 := Lib.hid hb1
  have HB2 := Lib.hid hb2
  have HXV := Lib.hid hx
  have HYV := Lib.hid hy
  clear hx hy hb1 hb2
  obtain ⟨p1, h1⟩ : ∃ p, (x.gen == y.gen) = p := ⟨_, rfl⟩
  obtain ⟨p2, h2⟩ : ∃ p, decide (x.nd = y.nd) = p := ⟨_, rfl⟩
  obtain ⟨p3, h3⟩ : ∃ p, decide (x.wd = y.wd) = p := ⟨_, rfl⟩
  unfold lkB
  rw [h1, h2, h3]
  have T2 := Lib.hid h2
  have T3 := Lib.hid h3
  clear h2 h3
  cases p1 with
  | false =>
    go_enter Try.func53, Try.ntmps53
    go_wp2_with fail
    go_ret
    exact ⟨rfl, HX.out⟩
  | true =>
    cases p2 with
    | false =>
      go_enter Try.func53, Try.ntmps53
      go_wp2_with (first
        | (go_at_call 52; (with_reducible refine (rSame_ext _ _ x.nd y.nd _ T2.out _ (HXV.out.n.any.ext_no HX.out) (HYV.out.n.any.ext_no HX.out)).mono ?_); rintro e1 w1 ⟨rfl, hx1⟩; have HX1 := Lib.hid (HX.out.trans hx1); have r1 := (HB1.out.ext_no hx1).c3; have r2 := (HB2.out.ext_no hx1).c3; clear hx1))
      go_ret
      exact ⟨rfl, HX1.out⟩
    | true =>
      go_enter Try.func53, Try.ntmps53
      go_wp2_with (first
        | (go_at_call 52; (with_reducible refine (rSame_ext _ _ x.nd y.nd _ T2.out _ (HXV.out.n.any.ext_no HX.out) (HYV.out.n.any.ext_no HX.out)).mono ?_); rintro e1 w1 ⟨rfl, hx1⟩; have HX1 := Lib.hid (HX.out.trans hx1); have r1 := (HB1.out.ext_no hx1).c3; have r2 := (HB2.out.ext_no hx1).c3; clear hx1)
        | (go_at_call 52; (with_reducible refine (rSame_ext _ _ x.wd y.wd _ T3.out _ (HXV.out.w.any.ext_no HX1.out) (HYV.out.w.any.ext_no HX1.out)).mono ?_); rintro e2 w2 ⟨rfl, hx2⟩; have HX2 := Lib.hid (HX1.out.trans hx2); clear hx2))
      go_ret
      exact ⟨by cases p3 <;> rfl, HX2.out⟩
/-- What the walk reads of a version's block. -/
theorem ver_q {w : World} {g : Nat} {x : Vr} (h : Blk w g 55 x.cs.toArray) : w.cell? ⟨g, 0, none⟩ = some (.int .i64 x.seq) ∧ w.cell? ⟨g, 1, none⟩ = some (.bool x.nul) ∧ w.cell? ⟨g, 2, none⟩ = some (.bool x.mrk) ∧ w.cell? ⟨g, 3, none⟩ = some (.int .i64 x.at_) ∧ w.cell? ⟨g, 4, none⟩ = some (.int .i64 x.size) ∧ w.cell? ⟨g, 5, none⟩ = some (.int .i64 x.til) ∧ w.cell? ⟨g, 6, none⟩ = some (.slice x.mA x.md.length x.mc) ∧ w.cell? ⟨g, 7, none⟩ = some (.slice x.tA x.td.length x.tc) :=
  ⟨h.cell 0, h.cell 1, h.cell 2, h.cell 3, h.cell 4, h.cell 5, h.cell 6, h.cell 7⟩
theorem lk_range {w : World} {g : Nat} {x : Vr} (h : Blk w g 55 x.cs.toArray) : w.rangeAt g 8 x.lk.toList := by
  intro j v hv
  match j, hv with
  | 0, hv => cases hv; exact h.cell 8
  | 1, hv => cases hv; exact h.cell 9
  | 2, hv => cases hv; exact h.cell 10
  | j + 3, hv => simp [Vr.lk] at hv
set_option maxRecDepth 100000 in
set_option maxHeartbeats 2000000 in
theorem sVer_any (x y : Vr) (B : Nat) (w : World) (hx : Vr.Ok w (fun b => b < B) x) (hy : Vr.Ok w (fun b => b < B) y) :
    Calls Try.prog 28 #[.agg x.cs.toArray, .agg y.cs.toArray] w fun e w' => e = .returned (.bool (svB x y)) ∧ Ext No w w' := by
  have HX := Lib.hid (((Ext.refl No w).alloc (.cells x.cs.toArray 55)).alloc (.cells y.cs.toArray 55))
  have hb1 := (Blk.new w 55 x.cs.toArray).alloc (.cells y.cs.toArray 55)
  have hb2 := Blk.new (w.alloc (.cells x.cs.toArray 55)) 55 y.cs.toArray
  rw [World.size_alloc] at hb2
  have q1 := ver_q hb1
  have q2 := ver_q hb2
  have HB1 := Lib.hid hb1
  have HB2 := Lib.hid hb2
  have HXV := Lib.hid hx
  have HYV := Lib.hid hy
  clear hx hy hb1 hb2
  obtain ⟨p0, h0⟩ : ∃ p, (x.seq == y.seq) = p := ⟨_, rfl⟩
  obtain ⟨p1, h1⟩ : ∃ p, (x.nul == y.nul) = p := ⟨_, rfl⟩
  obtain ⟨p2, h2⟩ : ∃ p, (x.mrk == y.mrk) = p := ⟨_, rfl⟩
  obtain ⟨p3, h3⟩ : ∃ p, (x.at_ == y.at_) = p := ⟨_, rfl⟩
  obtain ⟨p4, h4⟩ : ∃ p, (x.size == y.size) = p := ⟨_, rfl⟩
  obtain ⟨p5, h5⟩ : ∃ p, (x.til == y.til) = p := ⟨_, rfl⟩
  obtain ⟨p6, h6⟩ : ∃ p, decide (x.md = y.md) = p := ⟨_, rfl⟩
  obtain ⟨p7, h7⟩ : ∃ p, decide (x.td = y.td) = p := ⟨_, rfl⟩
  obtain ⟨p8, h8⟩ : ∃ p, lkB x y = p := ⟨_, rfl⟩
  have HR : svB x y = (p0 && p1 && p2 && p3 && p4 && p5 && p6 && p7 && p8) := by unfold svB; rw [h0, h1, h2, h3, h4, h5, h6, h7, ← h8]; rfl
  rw [HR]
  have T6 := Lib.hid h6
  have T7 := Lib.hid h7
  have T8 := Lib.hid h8
  clear h6 h7 h8 HR
  cases p0 with
  | false =>
    go_enter Try.func28, Try.ntmps28
    go_wp2_with fail
    go_ret
    exact ⟨rfl, HX.out⟩
  | true =>
    cases p1 with
    | false =>
      go_enter Try.func28, Try.ntmps28
      go_wp2_with fail
      go_ret
      exact ⟨rfl, HX.out⟩
    | true =>
      cases p2 with
      | false =>
        go_enter Try.func28, Try.ntmps28
        go_wp2_with fail
        go_ret
        exact ⟨rfl, HX.out⟩
      | true =>
        cases p3 with
        | false =>
          go_enter Try.func28, Try.ntmps28
          go_wp2_with fail
          go_ret
          exact ⟨rfl, HX.out⟩
        | true =>
          cases p4 with
          | false =>
            go_enter Try.func28, Try.ntmps28
            go_wp2_with fail
            go_ret
            exact ⟨rfl, HX.out⟩
          | true =>
            cases p5 with
            | false =>
              go_enter Try.func28, Try.ntmps28
              go_wp2_with fail
              go_ret
              exact ⟨rfl, HX.out⟩
            | true =>
              cases p6 with
              | false =>
                go_enter Try.func28, Try.ntmps28
                go_wp2_with (first
                  | (go_at_call 52; (with_reducible refine (rSame_ext _ _ x.md y.md _ T6.out _ (HXV.out.m.any.ext_no HX.out) (HYV.out.m.any.ext_no HX.out)).mono ?_); rintro e1 w1 ⟨rfl, hx1⟩; have HX1 := Lib.hid (HX.out.trans hx1); have HB11 := Lib.hid (HB1.out.ext_no hx1); have HB21 := Lib.hid (HB2.out.ext_no hx1); have r1 := ver_q (HB1.out.ext_no hx1); have r2 := ver_q (HB2.out.ext_no hx1); clear hx1))
                go_ret
                exact ⟨rfl, HX1.out⟩
              | true =>
                cases p7 with
                | false =>
                  go_enter Try.func28, Try.ntmps28
                  go_wp2_with (first
                    | (go_at_call 52; (with_reducible refine (rSame_ext _ _ x.md y.md _ T6.out _ (HXV.out.m.any.ext_no HX.out) (HYV.out.m.any.ext_no HX.out)).mono ?_); rintro e1 w1 ⟨rfl, hx1⟩; have HX1 := Lib.hid (HX.out.trans hx1); have HB11 := Lib.hid (HB1.out.ext_no hx1); have HB21 := Lib.hid (HB2.out.ext_no hx1); have r1 := ver_q (HB1.out.ext_no hx1); have r2 := ver_q (HB2.out.ext_no hx1); clear hx1)
                    | (go_at_call 52; (with_reducible refine (rSame_ext _ _ x.td y.td _ T7.out _ (HXV.out.t.any.ext_no HX1.out) (HYV.out.t.any.ext_no HX1.out)).mono ?_); rintro e2 w2 ⟨rfl, hx2⟩; have HX2 := Lib.hid (HX1.out.trans hx2); have HK1 := Lib.hid (lk_range (HB11.out.ext_no hx2)); have HK2 := Lib.hid (lk_range (HB21.out.ext_no hx2)); clear hx2))
                  go_ret
                  exact ⟨rfl, HX2.out⟩
                | true =>
                  go_enter Try.func28, Try.ntmps28
                  go_wp2_with (first
                    | (go_at_call 52; (with_reducible refine (rSame_ext _ _ x.md y.md _ T6.out _ (HXV.out.m.any.ext_no HX.out) (HYV.out.m.any.ext_no HX.out)).mono ?_); rintro e1 w1 ⟨rfl, hx1⟩; have HX1 := Lib.hid (HX.out.trans hx1); have HB11 := Lib.hid (HB1.out.ext_no hx1); have HB21 := Lib.hid (HB2.out.ext_no hx1); have r1 := ver_q (HB1.out.ext_no hx1); have r2 := ver_q (HB2.out.ext_no hx1); clear hx1)
                    | (go_at_call 52; (with_reducible refine (rSame_ext _ _ x.td y.td _ T7.out _ (HXV.out.t.any.ext_no HX1.out) (HYV.out.t.any.ext_no HX1.out)).mono ?_); rintro e2 w2 ⟨rfl, hx2⟩; have HX2 := Lib.hid (HX1.out.trans hx2); have HK1 := Lib.hid (lk_range (HB11.out.ext_no hx2)); have HK2 := Lib.hid (lk_range (HB21.out.ext_no hx2)); clear hx2)
                    | ((with_reducible show wpList _ _ _ (⟨some 61, _, _, _, _, _⟩ :: _) _ _); go_must (refine list_want (by first | rfl | simp [Region.wanted, yielded]) (fun K hK => ?_); refine wp_load_mid 53 (.tmp 60) rfl (w.heap.size) 8 rfl x.lk.toList _ HK1.out Try.underlying53 rfl size_lock (hK _ _ ?_); clear hK K))
                    | ((with_reducible show wpList _ _ _ (⟨some 63, _, _, _, _, _⟩ :: _) _ _); go_must (refine list_want (by first | rfl | simp [Region.wanted, yielded]) (fun K hK => ?_); refine wp_load_mid 53 (.tmp 62) rfl (w.heap.size + 1) 8 rfl y.lk.toList _ HK2.out Try.underlying53 rfl size_lock (hK _ _ ?_); clear hK K))
                    | (go_at_call 53; go_must (refine (sLock_any x y B w2 (HXV.out.ext_no HX2.out) (HYV.out.ext_no HX2.out)).mono ?_); rintro e3 w3 ⟨rfl, hx3⟩; rw [T8.out]; have HX3 := Lib.hid (HX2.out.trans hx3); clear hx3))
                  go_ret
                  exact ⟨by cases p8 <;> rfl, HX3.out⟩
end Go.Proofs.Ytlfhfomidkadiaa
