/- Package rule: Apply. -/
import Derived.Test.YtlfhfomidkadiaaRulePlan2
set_option linter.unusedVariables false
set_option linter.unusedSimpArgs false
namespace Go.Proofs.Ytlfhfomidkadiaa
open Go.RowKit Go.Deep

theorem OwnV.no {w w' : World} {base B : Nat} {v : Value} {ls : List Vr} (h : OwnV w base B v ls) (hx : Ext No w w') : OwnV w' base B v ls := h.ext (S := No) hx
theorem Vs.old {w : World} {F : Nat → Prop} {B : Nat} {v : Value} {ls : List Vr} (h : Vs w F B v ls) : Vs w (fun b => b < w.heap.size) B v ls := by
  obtain ⟨⟨h1, A, c, hv, hc, hm, hn⟩, hok⟩ := h
  refine ⟨⟨h1, A, c, hv, hc, hm, fun h0 => ?_⟩, hok⟩
  obtain ⟨b, off, hA, hF, hcell⟩ := hn h0
  exact ⟨b, off, hA, World.block_lt_of_cell? w _ (hcell 0 ((vcs ls)[0]'(by rw [vcs_length]; omega)) (List.getElem?_eq_getElem _)), hcell⟩
/-- The version that comes, marked: what each operation leaves. -/
def FAp (p : Pl) (g4 g5 : Nat) : Nat → Value → World → Prop
  | 0, v, _ => v = .pointer (some ⟨g4, 2, none⟩)
  | 1, v, _ => v = .bool p.nul
  | 2, v, _ => v = .pointer (some ⟨g4, 3, none⟩)
  | 3, v, _ => v = .bool p.mrk
  | 4, v, _ => v = .pointer (some ⟨g5, 1, none⟩)
  | 5, v, _ => v = undef
  | 6, v, _ => v = .pointer (some ⟨g5, 2, none⟩)
  | 7, v, _ => v = undef
  | _, _, _ => True
theorem FAp.no {p : Pl} {g4 g5 : Nat} {w w' : World} : ∀ j v, FAp p g4 g5 j v w → FAp p g4 g5 j v w' := by
  intro j v H
  match j, H with
  | 0, H | 1, H | 2, H | 3, H | 4, H | 5, H | 6, H | 7, H => exact H
  | m + 8, _ => trivial
def GAp (w1 : World) (cs4 : Array Value) (v : Vr) (p : Pl) (g4 g5 : Nat) (v5 v7 : Value) (w : World) : Prop :=
  Ext (One g5) w1 w ∧ Blk w g4 67 cs4 ∧ ∃ a b, Blk w g5 55 ({ v with nul := a, mrk := b } : Vr).cs.toArray ∧ (v5 = undef → a = p.nul) ∧ (v7 = undef → b = p.mrk)
set_option pp.deepTerms true in
set_option pp.maxSteps 1000000 in
set_option maxRecDepth 100000 in
set_option maxHeartbeats 2000000 in
theorem rApply_any (lv pv : Value) (ls : List Vr) (p : Pl) (v : Vr) (B : Nat) (w : World) (hl : Vs w Any B lv ls) (hll : ls.length ≤ 1000) (hp : IsPl w B pv p) (hgl : p.gone.length ≤ 1000) (hv : Vr.Ok w (fun b => b < B) v) (hBw : B ≤ w.heap.size) :
    Calls Try.prog 40 #[lv, pv, .agg v.cs.toArray] w fun e w' => ∃ ov, e = .returned ov ∧ OwnV w' w.heap.size B ov (appP ls p v) ∧ Ext No w w' := by
  obtain ⟨gone, cm, nl, mk⟩ := p
  obtain ⟨gv, rfl, hgv⟩ := hp
  simp only at hgv hgl ⊢
  obtain ⟨gA, gc, rfl, -⟩ := hgv.slice
  obtain ⟨A, c, rfl, hc, hm, b, off, hrow⟩ := (hl.old).slice
  unfold maxLen at hm
  have HL := Lib.hid hrow
  have HG := Lib.hid hgv.old
  have HV := Lib.hid hv
  clear hl hgv hrow hv
  cases cm with
  | false =>
    have hx0 : Ext No w ((w.alloc (.cells #[.slice gA gone.length gc, .bool false, .bool nl, .bool mk] 67)).alloc (.cells v.cs.toArray 55)) := ((Ext.refl No w).alloc _).alloc _
    have H4 : Hid (Blk ((w.alloc (.cells #[.slice gA gone.length gc, .bool false, .bool nl, .bool mk] 67)).alloc (.cells v.cs.toArray 55)) w.heap.size 67 #[.slice gA gone.length gc, .bool false, .bool nl, .bool mk]) := Lib.hid ((Blk.new w _ _).alloc _)
    have H5 : Hid (Blk ((w.alloc (.cells #[.slice gA gone.length gc, .bool false, .bool nl, .bool mk] 67)).alloc (.cells v.cs.toArray 55)) (w.heap.size + 1) 55 v.cs.toArray) := Lib.hid (by
      have := Blk.new (w.alloc (.cells #[.slice gA gone.length gc, .bool false, .bool nl, .bool mk] 67)) 55 v.cs.toArray
      simpa using this)
    have HX := Lib.hid hx0
    obtain ⟨w0, hw0⟩ : ∃ x, ((w.alloc (.cells #[.slice gA gone.length gc, .bool false, .bool nl, .bool mk] 67)).alloc (.cells v.cs.toArray 55)) = x := ⟨_, rfl⟩
    rw [hw0] at H4 H5 HX
    have HW := Lib.hid hw0
    clear hx0 hw0
    go_enter Try.func40, Try.ntmps40
    go_wp2_with fail
    change Code.wp _ _ _ _ ((w.alloc (.cells #[.slice gA gone.length gc, .bool false, .bool nl, .bool mk] 67)).alloc (.cells v.cs.toArray 55))
    rw [HW.out]
    have HO0 := Lib.hid (OwnV.nil w0 w.heap.size B)
    go_loopw [7, 24] (fun ov i wr => ∃ k : Nat, k ≤ ls.length ∧ i = .int .i64 (k : Int) ∧ Hid (OwnV wr w.heap.size B ov (([] : List Vr) ++ (ls.take k).filter (keepP ⟨gone, false, nl, mk⟩))) ∧ Hid (Ext No w wr) ∧ Hid (Blk wr w.heap.size 67 #[.slice gA gone.length gc, .bool false, .bool nl, .bool mk])) (fun _ i _ => ls.length - (intOf i).toNat)
    case atStart => exact ⟨0, by omega, rfl, Lib.hid (by simpa using HO0.out), HX, H4⟩
    case round =>
      clear HO0 HX H4
      obtain ⟨k, hk, rfl, HO, HX, H4⟩ := hrel
      obtain ⟨oA, oc, he, -⟩ := HO.out.slice
      obtain ⟨on, hon⟩ : ∃ n, (([] : List Vr) ++ (ls.take k).filter (keepP ⟨gone, false, nl, mk⟩)).length = n := ⟨_, rfl⟩
      rw [hon] at he
      obtain rfl := he
      clear hon
      by_cases hlt : k < ls.length
      · obtain ⟨rfl, -, hb, hr, hok⟩ := HL.out k hlt
        have HE := Lib.hid (range_ext hr HX.out hb (fun h => h))
        have HOK := Lib.hid (hok.ext_no HX.out)
        have HT : Hid (ls.take (k + 1) = ls.take k ++ [ls[k]]) := Lib.hid (List.take_succ_eq_append_getElem hlt)
        have HFL : Hid (((ls.take k).filter (keepP ⟨gone, false, nl, mk⟩)).length ≤ 1000) := Lib.hid (by have h1 := List.length_filter_le (keepP ⟨gone, false, nl, mk⟩) (ls.take k); rw [List.length_take] at h1; omega)
        have HSZ := Lib.hid HX.out.size
        obtain ⟨x, hx⟩ : ∃ x, ls[k] = x := ⟨_, rfl⟩
        rw [hx] at HE HOK HT
        have hcl : x.cs.length = 11 := rfl
        obtain ⟨q, hq⟩ : ∃ q, gone.any (fun g => g.seq == x.seq) = q := ⟨_, rfl⟩
        have HKP : Hid (keepP ⟨gone, false, nl, mk⟩ x = !q) := Lib.hid (by unfold keepP; rw [hq])
        have HQ := Lib.hid hq
        clear hr hok hx hq
        have hmf : ∀ (fn : Fn) (first cap : Array Value) (w : World), (Instr.makeFunc fn first cap).run Try.prog w = .ok (.func fn first cap) w := fun _ _ _ _ => rfl
        have HN : Hid (Blk (wr.alloc (.cells Vr.zero.cs.toArray 55)) wr.heap.size 55 Vr.zero.cs.toArray) := Lib.hid (Blk.new wr _ _)
        cases q with
        | true =>
          go_wp2_with (first
            | ((with_reducible show wpList _ _ _ (⟨some 27, _, _, _, _, _⟩ :: _) _ _); refine wpList_load_mid rfl 55 (.tmp 26) rfl b (off + k * 11) rfl x.cs _ HE.out Try.underlying55 rfl size_ver ?_)
            | ((with_reducible show wpList _ _ _ (⟨none, .store 55 (.tmp 9) (.tmp 27), _, _, _, _⟩ :: _) _ _); go_must ((change wpList _ _ _ _ _ (wr.alloc (.cells Vr.zero.cs.toArray 55))); refine store_blk 55 (.tmp 9) (.tmp 27) rfl rfl HN.out rfl rfl rfl size_ver (cs_one' x) ?_); intro w1 hb1 hx1; have hxr1 : Ext No wr w1 := ((Ext.refl No wr).alloc _).transS hx1 (fun i hi e => by have e : i = wr.heap.size := e; omega); have HB1 := Lib.hid hb1; have HXR1 := Lib.hid hxr1; have HX1 := Lib.hid (HX.out.trans hxr1); have h41 := H4.out.ext_no hxr1; have H41 := Lib.hid h41; have q41 := Blk.c4 h41; clear hb1 hx1 hxr1 h41)
            | (go_at_call 55; go_must (refine (iHas_any 56 (.pointer (some ⟨wr.heap.size, 0, none⟩)) (fun g => g.seq == x.seq) B _ gone w1 (fun y => enters_apply y _) ((HG.out.ext_no HX1.out).any) (by omega) (fun y _ wx hx => rApply1_any y x wr.heap.size wx (HB1.out.ext_no hx))).mono ?_); rintro e2 w2 ⟨rfl, hx2⟩; rw [HQ.out]; have HX2 := Lib.hid (HX1.out.trans hx2); have HXR2 := Lib.hid (HXR1.out.trans hx2); have HB2 := Lib.hid (HB1.out.ext_no hx2); have H42 := Lib.hid (H41.out.ext_no hx2); clear hx2 q41))
          go_roundw
          case rel => exact ⟨k + 1, by omega, by go_num, Lib.hid (by rw [HT.out, List.filter_append, List.filter_cons_of_neg (by rw [HKP.out]; simp)]; simpa using (HO.out.no HXR2.out)), HX2, H42⟩
          case measure => simp [intOf]; omega
        | false =>
          go_wp2_with (first
            | ((with_reducible show wpList _ _ _ (⟨some 27, _, _, _, _, _⟩ :: _) _ _); refine wpList_load_mid rfl 55 (.tmp 26) rfl b (off + k * 11) rfl x.cs _ HE.out Try.underlying55 rfl size_ver ?_)
            | ((with_reducible show wpList _ _ _ (⟨none, .store 55 (.tmp 9) (.tmp 27), _, _, _, _⟩ :: _) _ _); go_must ((change wpList _ _ _ _ _ (wr.alloc (.cells Vr.zero.cs.toArray 55))); refine store_blk 55 (.tmp 9) (.tmp 27) rfl rfl HN.out rfl rfl rfl size_ver (cs_one' x) ?_); intro w1 hb1 hx1; have hxr1 : Ext No wr w1 := ((Ext.refl No wr).alloc _).transS hx1 (fun i hi e => by have e : i = wr.heap.size := e; omega); have HB1 := Lib.hid hb1; have HXR1 := Lib.hid hxr1; have HX1 := Lib.hid (HX.out.trans hxr1); have h41 := H4.out.ext_no hxr1; have H41 := Lib.hid h41; have q41 := Blk.c4 h41; clear hb1 hx1 hxr1 h41)
            | (go_at_call 55; go_must (refine (iHas_any 56 (.pointer (some ⟨wr.heap.size, 0, none⟩)) (fun g => g.seq == x.seq) B _ gone w1 (fun y => enters_apply y _) ((HG.out.ext_no HX1.out).any) (by omega) (fun y _ wx hx => rApply1_any y x wr.heap.size wx (HB1.out.ext_no hx))).mono ?_); rintro e2 w2 ⟨rfl, hx2⟩; rw [HQ.out]; have HX2 := Lib.hid (HX1.out.trans hx2); have HXR2 := Lib.hid (HXR1.out.trans hx2); have HB2 := Lib.hid (HB1.out.ext_no hx2); have H42 := Lib.hid (H41.out.ext_no hx2); clear hx2 q41)
            | ((with_reducible show wpList _ _ _ (⟨some 34, _, _, _, _, _⟩ :: _) _ _); refine load_blk 55 (.tmp 9) rfl rfl HB2.out rfl _ Try.underlying55 rfl size_ver ?_)
            | (at_builtin; go_must (rw [fold_cs]; refine app_vers (.tmp 33) (.tmp 35) rfl rfl w.heap.size B _ _ (([] : List Vr) ++ (ls.take k).filter (keepP ⟨gone, false, nl, mk⟩)) [x] rfl rfl ((HO.out.no HXR2.out).no ((Ext.refl No w2).alloc _)) (Vs.lit1 (HOK.out.ext_no HXR2.out)) (by rw [List.length_append]; have := HFL.out; simp; omega) (by rw [World.size_alloc]; have := HX2.out.size; omega) hBw ?_); intro v3 w3 ho3 hx3; have HO3 := Lib.hid ho3; have HX3 := Lib.hid ((HX2.out.alloc _).transS hx3 (fun i hi e => by have := ((HO.out.no HXR2.out).lt i e).1; omega)); have H43 := Lib.hid ((H42.out.alloc _).ext hx3 (fun e => by obtain ⟨cs, hcs⟩ := (HO.out.no HXR2.out).blk _ e; exact absurd rfl (hcs.ne_ H42.out (by decide)))); clear ho3 hx3))
          go_roundw
          case rel => exact ⟨k + 1, by omega, by go_num, Lib.hid (by rw [HT.out, List.filter_append, List.filter_cons_of_pos (by rw [HKP.out]; rfl), List.filter_nil, ← List.append_assoc]; exact HO3.out), HX3, H43⟩
          case measure => simp [intOf]; omega
      · obtain rfl : k = ls.length := by omega
        have HE : Hid (OwnV wr w.heap.size B (.slice oA on oc) (appP ls ⟨gone, false, nl, mk⟩ v)) := Lib.hid (by have h := HO.out; rw [List.take_length] at h; exact h)
        go_wp2_with fail
        go_ret
        exact ⟨_, rfl, HE.out, HX.out⟩
  | true =>
    have hx0 : Ext No w ((w.alloc (.cells #[.slice gA gone.length gc, .bool true, .bool nl, .bool mk] 67)).alloc (.cells v.cs.toArray 55)) := ((Ext.refl No w).alloc _).alloc _
    have H4 : Hid (Blk ((w.alloc (.cells #[.slice gA gone.length gc, .bool true, .bool nl, .bool mk] 67)).alloc (.cells v.cs.toArray 55)) w.heap.size 67 #[.slice gA gone.length gc, .bool true, .bool nl, .bool mk]) := Lib.hid ((Blk.new w _ _).alloc _)
    have H5 : Hid (Blk ((w.alloc (.cells #[.slice gA gone.length gc, .bool true, .bool nl, .bool mk] 67)).alloc (.cells v.cs.toArray 55)) (w.heap.size + 1) 55 v.cs.toArray) := Lib.hid (by
      have := Blk.new (w.alloc (.cells #[.slice gA gone.length gc, .bool true, .bool nl, .bool mk] 67)) 55 v.cs.toArray
      simpa using this)
    have HX := Lib.hid hx0
    obtain ⟨w0, hw0⟩ : ∃ x, ((w.alloc (.cells #[.slice gA gone.length gc, .bool true, .bool nl, .bool mk] 67)).alloc (.cells v.cs.toArray 55)) = x := ⟨_, rfl⟩
    rw [hw0] at H4 H5 HX
    have HW := Lib.hid hw0
    clear hx0 hw0
    go_enter Try.func40, Try.ntmps40
    have q4 := Blk.c4 H4.out
    go_wp2_with fail
    change Code.wp _ _ _ _ ((w.alloc (.cells #[.slice gA gone.length gc, .bool true, .bool nl, .bool mk] 67)).alloc (.cells v.cs.toArray 55))
    rw [HW.out]
    clear q4
    refine RF.region (vs := fun | 5 => Value.bool false | 7 => Value.bool false | _ => undef) rfl (fun vs => ((Value.slice A ls.length c) :: (Value.agg #[.slice gA gone.length gc, .bool true, .bool nl, .bool mk]) :: (Value.agg v.cs.toArray) :: undef :: (Value.pointer (some ⟨w.heap.size, 0, none⟩)) :: (Value.pointer (some ⟨w.heap.size + 1, 0, none⟩)) :: (Value.slice none 0 0) :: (Value.slice none 0 0) :: undef :: undef :: (Value.pointer (some ⟨w.heap.size, 1, none⟩)) :: (Value.bool true) :: (vs 0) :: (vs 1) :: (vs 2) :: (vs 3) :: (vs 4) :: (vs 6) :: undef :: undef :: undef :: undef :: undef :: undef :: undef :: undef :: undef :: undef :: undef :: undef :: undef :: undef :: undef :: undef :: undef :: undef :: undef :: undef :: undef :: []).toArray)
      (FAp ⟨gone, true, nl, mk⟩ w.heap.size (w.heap.size + 1)) (fun vs wz => GAp w0 #[.slice gA gone.length gc, .bool true, .bool nl, .bool mk] v ⟨gone, true, nl, mk⟩ w.heap.size (w.heap.size + 1) (vs 5) (vs 7) wz) rfl (by kernel_rfl) ?_ ?_ ?_
    · exact ⟨(Ext.refl _ w0).drew, H4.out, v.nul, v.mrk, H5.out, (fun e => by cases e), (fun e => by cases e)⟩
    · refine ⟨⟨⟨⟨⟨⟨⟨⟨trivial, ?_⟩, ?_⟩, ?_⟩, ?_⟩, ?_⟩, ?_⟩, ?_⟩, ?_⟩
      · refine RF.Step.plain rfl rfl (fun vs wx hG hv hd K hK => ?_)
        go_simp
        exact hK _ _ hG rfl (fun _ _ h => h)
      · refine RF.Step.plain rfl rfl (fun vs wx hG hv hd K hK => ?_)
        have h0 : vs 0 = .pointer (some ⟨w.heap.size, 2, none⟩) := by first | exact hd.1 | exact hd.2.1 | exact hd.2.2.1 | exact hd.2.2.2.1 | exact hd.2.2.2.2.1
        have c0 : wx.cell? ⟨w.heap.size, 2, none⟩ = some (.bool nl) := hG.2.1.cell 2
        have HG0 := Lib.hid hG
        clear hG
        go_simp
        have h4 := hK _ _ HG0.out rfl (fun _ _ h => h)
        first | (simpa only [RF.upd, h0, Nat.reduceEqDiff, if_true, if_false, reduceIte] using h4) | (simp only [RF.upd, h0, Nat.reduceEqDiff, if_true, if_false, reduceIte] at h4 ⊢; exact h4)
      · refine RF.Step.plain rfl rfl (fun vs wx hG hv hd K hK => ?_)
        go_simp
        exact hK _ _ hG rfl (fun _ _ h => h)
      · refine RF.Step.plain rfl rfl (fun vs wx hG hv hd K hK => ?_)
        have h0 : vs 2 = .pointer (some ⟨w.heap.size, 3, none⟩) := by first | exact hd.1 | exact hd.2.1 | exact hd.2.2.1 | exact hd.2.2.2.1 | exact hd.2.2.2.2.1
        have c0 : wx.cell? ⟨w.heap.size, 3, none⟩ = some (.bool mk) := hG.2.1.cell 3
        have HG0 := Lib.hid hG
        clear hG
        go_simp
        have h4 := hK _ _ HG0.out rfl (fun _ _ h => h)
        first | (simpa only [RF.upd, h0, Nat.reduceEqDiff, if_true, if_false, reduceIte] using h4) | (simp only [RF.upd, h0, Nat.reduceEqDiff, if_true, if_false, reduceIte] at h4 ⊢; exact h4)
      · refine RF.Step.plain rfl rfl (fun vs wx hG hv hd K hK => ?_)
        go_simp
        exact hK _ _ hG rfl (fun _ _ h => h)
      · refine RF.Step.plain rfl rfl (fun vs wx hG hv hd K hK => ?_)
        have h0 : vs 4 = .pointer (some ⟨w.heap.size + 1, 1, none⟩) := by first | exact hd.1 | exact hd.2.1 | exact hd.2.2.1 | exact hd.2.2.2.1 | exact hd.2.2.2.2.1
        have h1 : vs 1 = .bool nl := by first | exact hd.1 | exact hd.2.1 | exact hd.2.2.1 | exact hd.2.2.2.1 | exact hd.2.2.2.2.1
        obtain ⟨hg1, hg2, a, b', hg3, hg4, hg5⟩ := hG
        have c0 : (wx.cell? ⟨w.heap.size + 1, 1, none⟩).isSome = true := by rw [hg3.cell 1]; rfl
        obtain ⟨z, hz⟩ := Option.isSome_iff_exists.1 c0
        have f0 := hg3.frozen 1
        have hx6 : Ext (One (w.heap.size + 1)) wx (wx.setCell ⟨w.heap.size + 1, 1, none⟩ (.bool nl)) := Ext.setCell (p := ⟨w.heap.size + 1, 1, none⟩) (Ext.refl (One (w.heap.size + 1)) wx) (fun _ => rfl) _
        have HG0 : Hid (GAp w0 #[.slice gA gone.length gc, .bool true, .bool nl, .bool mk] v ⟨gone, true, nl, mk⟩ w.heap.size (w.heap.size + 1) undef (vs 7) (wx.setCell ⟨w.heap.size + 1, 1, none⟩ (.bool nl))) := Lib.hid ⟨hg1.trans hx6, hg2.ext hx6 (fun e => by have e : w.heap.size = w.heap.size + 1 := e; omega), nl, b', hg3.set_ 1 (.bool nl), (fun _ => rfl), hg5⟩
        clear c0 hg1 hg2 hg3 hg4 hg5 hx6
        go_simp
        have h4 := hK undef _ HG0.out rfl (fun j _ h => FAp.no j _ h)
        first | (simpa only [RF.upd, h0, h1, Nat.reduceEqDiff, if_true, if_false, reduceIte] using h4) | (simp only [RF.upd, h0, h1, Nat.reduceEqDiff, if_true, if_false, reduceIte] at h4 ⊢; exact h4)
      · refine RF.Step.plain rfl rfl (fun vs wx hG hv hd K hK => ?_)
        go_simp
        exact hK _ _ hG rfl (fun _ _ h => h)
      · refine RF.Step.plain rfl rfl (fun vs wx hG hv hd K hK => ?_)
        have h0 : vs 6 = .pointer (some ⟨w.heap.size + 1, 2, none⟩) := by first | exact hd.1 | exact hd.2.1 | exact hd.2.2.1 | exact hd.2.2.2.1 | exact hd.2.2.2.2.1
        have h1 : vs 3 = .bool mk := by first | exact hd.1 | exact hd.2.1 | exact hd.2.2.1 | exact hd.2.2.2.1 | exact hd.2.2.2.2.1
        obtain ⟨hg1, hg2, a, b', hg3, hg4, hg5⟩ := hG
        have c0 : (wx.cell? ⟨w.heap.size + 1, 2, none⟩).isSome = true := by rw [hg3.cell 2]; rfl
        obtain ⟨z, hz⟩ := Option.isSome_iff_exists.1 c0
        have f0 := hg3.frozen 2
        have hx6 : Ext (One (w.heap.size + 1)) wx (wx.setCell ⟨w.heap.size + 1, 2, none⟩ (.bool mk)) := Ext.setCell (p := ⟨w.heap.size + 1, 2, none⟩) (Ext.refl (One (w.heap.size + 1)) wx) (fun _ => rfl) _
        have HG0 : Hid (GAp w0 #[.slice gA gone.length gc, .bool true, .bool nl, .bool mk] v ⟨gone, true, nl, mk⟩ w.heap.size (w.heap.size + 1) (vs 5) undef (wx.setCell ⟨w.heap.size + 1, 2, none⟩ (.bool mk))) := Lib.hid ⟨hg1.trans hx6, hg2.ext hx6 (fun e => by have e : w.heap.size = w.heap.size + 1 := e; omega), a, mk, hg3.set_ 2 (.bool mk), hg4, (fun _ => rfl)⟩
        clear c0 hg1 hg2 hg3 hg4 hg5 hx6
        go_simp
        have h4 := hK undef _ HG0.out rfl (fun j _ h => FAp.no j _ h)
        first | (simpa only [RF.upd, h0, h1, Nat.reduceEqDiff, if_true, if_false, reduceIte] using h4) | (simp only [RF.upd, h0, h1, Nat.reduceEqDiff, if_true, if_false, reduceIte] at h4 ⊢; exact h4)
    · intro vs w1 hG hF
      obtain ⟨hg1, hg2, a, b', hg3, hg4, hg5⟩ := hG
      rw [show a = nl from hg4 (hF 5 (by decide)), show b' = mk from hg5 (hF 7 (by decide))] at hg3
      obtain ⟨vn, hvn⟩ : ∃ x : Vr, ({ v with nul := nl, mrk := mk } : Vr) = x := ⟨_, rfl⟩
      have hvo : Vr.Ok w (fun b => b < B) vn := by rw [← hvn]; exact ⟨HV.out.m, HV.out.t, HV.out.n, HV.out.w, HV.out.b⟩
      have HVN := Lib.hid hvn
      rw [hvn] at hg3
      have hx1 : Ext No w w1 := HX.out.transS hg1 (fun i hi e => by have e : i = w.heap.size + 1 := e; omega)
      have HVO := Lib.hid (hvo.ext_no hx1)
      have HX1 := Lib.hid hx1
      have HB1 := Lib.hid hg3
      have H41 := Lib.hid hg2
      have hcl : vn.cs.length = 11 := rfl
      clear hF hg1 hg2 hg3 hg4 hg5 hvn hvo hx1 HX H4 H5
      go_wp2_with (first
        | ((with_reducible show wpList _ _ _ (⟨some 19, _, _, _, _, _⟩ :: _) _ _); refine load_blk 55 (.tmp 5) rfl rfl HB1.out rfl _ Try.underlying55 rfl size_ver ?_)
        | (at_builtin; go_must (rw [fold_cs]; refine app_vers (.tmp 18) (.tmp 20) rfl rfl w.heap.size B _ _ [] [vn] rfl rfl (OwnV.nil _ _ _) (Vs.lit1 HVO.out) (by simp) (by rw [World.size_alloc]; have := HX1.out.size; omega) hBw ?_); intro v2 w2 ho2 hx2; have HO2 : Hid (OwnV w2 w.heap.size B v2 [vn]) := Lib.hid (by simpa using ho2); have HX2 := Lib.hid ((HX1.out.alloc _).transS hx2 (fun i hi e => by cases (show (none : Option Nat) = some i from e))); have H42 := Lib.hid ((H41.out.alloc _).ext hx2 (fun e => by cases (show (none : Option Nat) = some _ from e))); clear ho2 hx2))
      obtain ⟨oA0, oc0, he0, -⟩ := HO2.out.slice
      obtain rfl : v2 = .slice oA0 1 oc0 := he0
      clear hcl
      go_loopw [7, 24] (fun ov i wr => ∃ k : Nat, k ≤ ls.length ∧ i = .int .i64 (k : Int) ∧ Hid (OwnV wr w.heap.size B ov ([vn] ++ (ls.take k).filter (keepP ⟨gone, true, nl, mk⟩))) ∧ Hid (Ext No w wr) ∧ Hid (Blk wr w.heap.size 67 #[.slice gA gone.length gc, .bool true, .bool nl, .bool mk])) (fun _ i _ => ls.length - (intOf i).toNat)
      case atStart => exact ⟨0, by omega, rfl, Lib.hid (by simpa using HO2.out), HX2, H42⟩
      case round =>
        clear HO2 HX2 H42
        obtain ⟨k, hk, rfl, HO, HX, H4⟩ := hrel
        obtain ⟨oA, oc, he, -⟩ := HO.out.slice
        obtain ⟨on, hon⟩ : ∃ n, ([vn] ++ (ls.take k).filter (keepP ⟨gone, true, nl, mk⟩)).length = n := ⟨_, rfl⟩
        rw [hon] at he
        obtain rfl := he
        clear hon
        by_cases hlt : k < ls.length
        · obtain ⟨rfl, -, hb, hr, hok⟩ := HL.out k hlt
          have HE := Lib.hid (range_ext hr HX.out hb (fun h => h))
          have HOK := Lib.hid (hok.ext_no HX.out)
          have HT : Hid (ls.take (k + 1) = ls.take k ++ [ls[k]]) := Lib.hid (List.take_succ_eq_append_getElem hlt)
          have HFL : Hid (((ls.take k).filter (keepP ⟨gone, true, nl, mk⟩)).length ≤ 1000) := Lib.hid (by have h1 := List.length_filter_le (keepP ⟨gone, true, nl, mk⟩) (ls.take k); rw [List.length_take] at h1; omega)
          have HSZ := Lib.hid HX.out.size
          obtain ⟨x, hx⟩ : ∃ x, ls[k] = x := ⟨_, rfl⟩
          rw [hx] at HE HOK HT
          have hcl : x.cs.length = 11 := rfl
          obtain ⟨q, hq⟩ : ∃ q, gone.any (fun g => g.seq == x.seq) = q := ⟨_, rfl⟩
          have HKP : Hid (keepP ⟨gone, true, nl, mk⟩ x = !q) := Lib.hid (by unfold keepP; rw [hq])
          have HQ := Lib.hid hq
          clear hr hok hx hq
          have hmf : ∀ (fn : Fn) (first cap : Array Value) (w : World), (Instr.makeFunc fn first cap).run Try.prog w = .ok (.func fn first cap) w := fun _ _ _ _ => rfl
          have HN : Hid (Blk (wr.alloc (.cells Vr.zero.cs.toArray 55)) wr.heap.size 55 Vr.zero.cs.toArray) := Lib.hid (Blk.new wr _ _)
          cases q with
          | true =>
            go_wp2_with (first
              | ((with_reducible show wpList _ _ _ (⟨some 27, _, _, _, _, _⟩ :: _) _ _); refine wpList_load_mid rfl 55 (.tmp 26) rfl b (off + k * 11) rfl x.cs _ HE.out Try.underlying55 rfl size_ver ?_)
              | ((with_reducible show wpList _ _ _ (⟨none, .store 55 (.tmp 9) (.tmp 27), _, _, _, _⟩ :: _) _ _); go_must ((change wpList _ _ _ _ _ (wr.alloc (.cells Vr.zero.cs.toArray 55))); refine store_blk 55 (.tmp 9) (.tmp 27) rfl rfl HN.out rfl rfl rfl size_ver (cs_one' x) ?_); intro w1 hb1 hx1; have hxr1 : Ext No wr w1 := ((Ext.refl No wr).alloc _).transS hx1 (fun i hi e => by have e : i = wr.heap.size := e; omega); have HB1 := Lib.hid hb1; have HXR1 := Lib.hid hxr1; have HX1 := Lib.hid (HX.out.trans hxr1); have h41 := H4.out.ext_no hxr1; have H41 := Lib.hid h41; have q41 := Blk.c4 h41; clear hb1 hx1 hxr1 h41)
              | (go_at_call 55; go_must (refine (iHas_any 56 (.pointer (some ⟨wr.heap.size, 0, none⟩)) (fun g => g.seq == x.seq) B _ gone w1 (fun y => enters_apply y _) ((HG.out.ext_no HX1.out).any) (by omega) (fun y _ wx hx => rApply1_any y x wr.heap.size wx (HB1.out.ext_no hx))).mono ?_); rintro e2 w2 ⟨rfl, hx2⟩; rw [HQ.out]; have HX2 := Lib.hid (HX1.out.trans hx2); have HXR2 := Lib.hid (HXR1.out.trans hx2); have HB2 := Lib.hid (HB1.out.ext_no hx2); have H42 := Lib.hid (H41.out.ext_no hx2); clear hx2 q41))
            go_roundw
            case rel => exact ⟨k + 1, by omega, by go_num, Lib.hid (by rw [HT.out, List.filter_append, List.filter_cons_of_neg (by rw [HKP.out]; simp)]; simpa using (HO.out.no HXR2.out)), HX2, H42⟩
            case measure => simp [intOf]; omega
          | false =>
            go_wp2_with (first
              | ((with_reducible show wpList _ _ _ (⟨some 27, _, _, _, _, _⟩ :: _) _ _); refine wpList_load_mid rfl 55 (.tmp 26) rfl b (off + k * 11) rfl x.cs _ HE.out Try.underlying55 rfl size_ver ?_)
              | ((with_reducible show wpList _ _ _ (⟨none, .store 55 (.tmp 9) (.tmp 27), _, _, _, _⟩ :: _) _ _); go_must ((change wpList _ _ _ _ _ (wr.alloc (.cells Vr.zero.cs.toArray 55))); refine store_blk 55 (.tmp 9) (.tmp 27) rfl rfl HN.out rfl rfl rfl size_ver (cs_one' x) ?_); intro w1 hb1 hx1; have hxr1 : Ext No wr w1 := ((Ext.refl No wr).alloc _).transS hx1 (fun i hi e => by have e : i = wr.heap.size := e; omega); have HB1 := Lib.hid hb1; have HXR1 := Lib.hid hxr1; have HX1 := Lib.hid (HX.out.trans hxr1); have h41 := H4.out.ext_no hxr1; have H41 := Lib.hid h41; have q41 := Blk.c4 h41; clear hb1 hx1 hxr1 h41)
              | (go_at_call 55; go_must (refine (iHas_any 56 (.pointer (some ⟨wr.heap.size, 0, none⟩)) (fun g => g.seq == x.seq) B _ gone w1 (fun y => enters_apply y _) ((HG.out.ext_no HX1.out).any) (by omega) (fun y _ wx hx => rApply1_any y x wr.heap.size wx (HB1.out.ext_no hx))).mono ?_); rintro e2 w2 ⟨rfl, hx2⟩; rw [HQ.out]; have HX2 := Lib.hid (HX1.out.trans hx2); have HXR2 := Lib.hid (HXR1.out.trans hx2); have HB2 := Lib.hid (HB1.out.ext_no hx2); have H42 := Lib.hid (H41.out.ext_no hx2); clear hx2 q41)
              | ((with_reducible show wpList _ _ _ (⟨some 34, _, _, _, _, _⟩ :: _) _ _); refine load_blk 55 (.tmp 9) rfl rfl HB2.out rfl _ Try.underlying55 rfl size_ver ?_)
              | (at_builtin; go_must (rw [fold_cs]; refine app_vers (.tmp 33) (.tmp 35) rfl rfl w.heap.size B _ _ ([vn] ++ (ls.take k).filter (keepP ⟨gone, true, nl, mk⟩)) [x] rfl rfl ((HO.out.no HXR2.out).no ((Ext.refl No w2).alloc _)) (Vs.lit1 (HOK.out.ext_no HXR2.out)) (by rw [List.length_append]; have := HFL.out; simp; omega) (by rw [World.size_alloc]; have := HX2.out.size; omega) hBw ?_); intro v3 w3 ho3 hx3; have HO3 := Lib.hid ho3; have HX3 := Lib.hid ((HX2.out.alloc _).transS hx3 (fun i hi e => by have := ((HO.out.no HXR2.out).lt i e).1; omega)); have H43 := Lib.hid ((H42.out.alloc _).ext hx3 (fun e => by obtain ⟨cs, hcs⟩ := (HO.out.no HXR2.out).blk _ e; exact absurd rfl (hcs.ne_ H42.out (by decide)))); clear ho3 hx3))
            go_roundw
            case rel => exact ⟨k + 1, by omega, by go_num, Lib.hid (by rw [HT.out, List.filter_append, List.filter_cons_of_pos (by rw [HKP.out]; rfl), List.filter_nil, ← List.append_assoc]; exact HO3.out), HX3, H43⟩
            case measure => simp [intOf]; omega
        · obtain rfl : k = ls.length := by omega
          have HE : Hid (OwnV wr w.heap.size B (.slice oA on oc) (appP ls ⟨gone, true, nl, mk⟩ v)) := Lib.hid (by have h := HO.out; rw [List.take_length] at h; show OwnV _ _ _ _ ([({ v with nul := nl, mrk := mk } : Vr)] ++ _); rw [HVN.out]; exact h)
          go_wp2_with fail
          go_ret
          exact ⟨_, rfl, HE.out, HX.out⟩
end Go.Proofs.Ytlfhfomidkadiaa
