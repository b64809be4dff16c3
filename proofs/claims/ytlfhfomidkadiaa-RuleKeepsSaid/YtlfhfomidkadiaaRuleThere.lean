/- Package rule: There. -/
import Derived.Test.YtlfhfomidkadiaaRulePick
import Derived.Test.YtlfhfomidkadiaaRegGuard
set_option linter.unusedVariables false
set_option linter.unusedSimpArgs false
namespace Go.Proofs.Ytlfhfomidkadiaa
open Go.RowKit Go.Deep

/-- A whole array or struct is stored: for a region's operation. -/
theorem wp_store_blk' {P : Program} {o : Oper} {a : Act} {w : World} {K : Act → World → Prop} {Q : Exit → Act → World → Prop} {g : Nat} {t : TypeId} {cs cs' : Array Value} (ty : TypeId) (x y : Operand) (ho : o.op = .store ty x y) (hb : Blk w g t cs) (hx : a.eval x = pB g) (hy : a.eval y = .agg cs') (hs : cs'.size = cs.size) (hi : (P.info? ty).map (·.size) = some cs'.size)
    (h1 : ∀ v ∈ cs'.toList, v.oneCell' = true) (h : ∀ w', Blk w' g t cs' → Ext (One g) w w' → K (a.put o.dst undef) w') : o.wp P a w K Q := by
  refine wp_store_mid ty x y ho g 0 cs' hx hy (fun j hj => ⟨?_, hb.frozen _⟩) hi (by simpa using all_oneCell_toArray (cs := cs'.toList) h1) (h _ ?_ (Ext.sets _ _ (Ext.refl _ w) (fun _ => rfl)))
  · rw [Nat.zero_add, hb.cell, Array.getElem?_eq_getElem (by omega)]; rfl
  · have := hb.sets cs'.toList 0
    rw [setL_all _ _ (by simpa using hs)] at this
    simpa using this
/-- There: what each operation leaves. -/
def FTh (x : Vr) (q : Bool) (g4 : Nat) : Nat → Value → World → Prop
  | 0, v, _ => v = .agg x.cs.toArray
  | 1, v, _ => v = .bool q
  | 2, v, _ => v = .bool q
  | 3, v, _ => v = if q then .pointer (some ⟨g4, 2, none⟩) else undef
  | 4, v, _ => v = if q then .bool x.mrk else undef
  | 5, v, _ => v = if q then .bool (!x.mrk) else undef
  | 6, v, _ => v = .bool (q && !x.mrk)
  | 7, v, _ => v = undef
  | 8, v, _ => v = .bool (q && !x.mrk)
  | _, _, _ => True
theorem FTh.no {x : Vr} {q : Bool} {g4 : Nat} {w w' : World} : ∀ j v, FTh x q g4 j v w → FTh x q g4 j v w' := by
  intro j v H
  match j, H with
  | 0, H | 1, H | 2, H | 3, H | 4, H | 5, H | 6, H | 7, H | 8, H => exact H
  | m + 9, _ => trivial
def GTh (w1 : World) (x : Vr) (g2 g4 : Nat) (v7 : Value) (w : World) : Prop :=
  Ext (One g2) w1 w ∧ Blk w g4 55 x.cs.toArray ∧ ∃ cs : Array Value, cs.size = 11 ∧ Blk w g2 55 cs ∧ (v7 = undef → cs = x.cs.toArray)
set_option maxRecDepth 100000 in
set_option maxHeartbeats 1000000 in
theorem rThere_any (lv : Value) (ls : List Vr) (B : Nat) (w : World) (hl : Vs w Any B lv ls) (hll : ls.length ≤ 1000000) :
    Calls Try.prog 29 #[lv] w fun e w' => e = .returned (.tuple #[.agg (gotV ls (-1)).cs.toArray, .bool (isV ls (-1) && !(gotV ls (-1)).mrk)]) ∧ Ext No w w' := by
  have hz := Blk.new w 55 Vr.zero.cs.toArray
  have hx0 : Ext No w (w.alloc (.cells Vr.zero.cs.toArray 55)) := (Ext.refl No w).alloc _
  have HP := Lib.hid (rPick_any lv ls (-1) B _ (hl.ext_no hx0) hll)
  have HZ := Lib.hid hz
  have HX := Lib.hid hx0
  obtain ⟨w0, hw0⟩ : ∃ x, w.alloc (.cells Vr.zero.cs.toArray 55) = x := ⟨_, rfl⟩
  rw [hw0] at HP HZ HX
  have HW := Lib.hid hw0
  obtain ⟨x, hx⟩ : ∃ x, gotV ls (-1) = x := ⟨_, rfl⟩
  obtain ⟨q, hq⟩ : ∃ q, isV ls (-1) = q := ⟨_, rfl⟩
  rw [hx, hq] at HP ⊢
  clear hl hz hx0 hw0 hx hq
  go_enter Try.func29, Try.ntmps29
  go_wp2_with (first
    | (go_at_call 26; go_must ((change Calls _ _ _ (w.alloc (.cells Vr.zero.cs.toArray 55)) _); rw [HW.out]; refine HP.out.mono ?_); rintro e1 w1 ⟨rfl, hx1⟩; have HX1 := Lib.hid (HX.out.trans hx1); have HZ1 := Lib.hid (HZ.out.ext_no hx1); have HV1 := Lib.hid (Blk.new w1 55 Vr.zero.cs.toArray); have HZ2 := Lib.hid (HZ1.out.alloc (.cells Vr.zero.cs.toArray 55)); have HX2 := Lib.hid (HX1.out.alloc (.cells Vr.zero.cs.toArray 55)); have HLT : Hid (w.heap.size < w1.heap.size) := Lib.hid (by have := HZ1.out.lt; exact this); clear hx1)
    | ((with_reducible show wpList _ _ _ (⟨none, _, _, _, _, _⟩ :: _) _ _); go_must ((change wpList _ _ _ _ _ (w1.alloc (.cells Vr.zero.cs.toArray 55))); refine store_blk 55 (.tmp 4) (.tmp 9) rfl rfl HV1.out rfl rfl rfl size_ver (cs_one' x) ?_); intro w3 hb3 hx3; have HB3 := Lib.hid hb3; have HZ3 := Lib.hid (HZ2.out.ext hx3 (fun e => by have e : w.heap.size = w1.heap.size := e; have := HLT.out; omega)); have HX3 := Lib.hid (HX2.out.transS hx3 (fun i hi e => by have e : i = w1.heap.size := e; have := HX1.out.size; omega)); clear hb3 hx3))
  cases q with
  | true =>
    refine RF.region (vs := fun | 7 => Value.bool false | 8 => Value.bool false | _ => undef) rfl (fun vs => (lv :: undef :: (Value.pointer (some ⟨w.heap.size, 0, none⟩)) :: (vs 8) :: (Value.pointer (some ⟨w1.heap.size, 0, none⟩)) :: (Value.bool true) :: (Value.tuple #[Value.agg x.cs.toArray, Value.bool true]) :: lv :: (Value.tuple #[Value.agg x.cs.toArray, Value.bool true]) :: (Value.agg x.cs.toArray) :: (Value.bool true) :: (vs 0) :: (vs 1) :: (vs 2) :: (vs 3) :: (vs 4) :: (vs 5) :: (vs 6) :: []).toArray)
      (FTh x true w1.heap.size) (fun vs wz => GTh w3 x w.heap.size w1.heap.size (vs 7) wz) rfl (by kernel_rfl) ?_ ?_ ?_
    · exact ⟨(Ext.refl _ w3).drew, HB3.out, _, rfl, HZ3.out, fun e => by cases e⟩
    · refine ⟨⟨⟨⟨⟨⟨⟨⟨⟨trivial, ?_⟩, ?_⟩, ?_⟩, ?_⟩, ?_⟩, ?_⟩, ?_⟩, ?_⟩, ?_⟩
      · refine RF.Step.plain rfl rfl (fun vs wx hG hv hd K hK => ?_)
        refine wp_load_row 55 (.tmp 4) rfl _ rfl _ _ _ _ hG.2.1 Try.underlying55 rfl size_ver ?_
        exact hK _ _ hG rfl (fun _ _ h => h)
      · refine RF.Step.plain rfl rfl (fun vs wx hG hv hd K hK => ?_)
        go_simp
        exact hK _ _ hG rfl (fun _ _ h => h)
      · refine RF.Step.plain rfl rfl (fun vs wx hG hv hd K hK => ?_)
        have h0 : vs 1 = .bool true := by first | exact hd.1 | exact hd.2.1 | exact hd.2.2.1 | exact hd.2.2.2.1 | exact hd.2.2.2.2.1
        go_simp
        have h4 := hK _ _ hG rfl (fun _ _ h => h)
        first | (simpa only [RF.upd, h0, Nat.reduceEqDiff, if_true, if_false, reduceIte] using h4) | (simp only [RF.upd, h0, Nat.reduceEqDiff, if_true, if_false, reduceIte] at h4 ⊢; exact h4)
      · refine RF.Step.guarded rfl (fun vs wx hG hv hd => ?_) (fun vs wx hG hv hd K hK => ?_)
        · have h0 : vs 2 = .bool true := by first | exact hd.1 | exact hd.2.1 | exact hd.2.2.1 | exact hd.2.2.2.1 | exact hd.2.2.2.2.1
          simp [Region.wanted, yielded, h0]
        · go_simp
          exact hK _ _ hG rfl (fun _ _ h => h)
      · refine RF.Step.guarded rfl (fun vs wx hG hv hd => ?_) (fun vs wx hG hv hd K hK => ?_)
        · have h0 : vs 2 = .bool true := by first | exact hd.1 | exact hd.2.1 | exact hd.2.2.1 | exact hd.2.2.2.1 | exact hd.2.2.2.2.1
          simp [Region.wanted, yielded, h0]
        · have h0 : vs 3 = .pointer (some ⟨w1.heap.size, 2, none⟩) := by first | exact hd.1 | exact hd.2.1 | exact hd.2.2.1 | exact hd.2.2.2.1 | exact hd.2.2.2.2.1
          have c2 : wx.cell? ⟨w1.heap.size, 2, none⟩ = some (.bool x.mrk) := hG.2.1.cell 2
          have HG := Lib.hid hG
          clear hG
          go_simp
          have h4 := hK _ _ HG.out rfl (fun _ _ h => h)
          first | (simpa only [RF.upd, h0, Nat.reduceEqDiff, if_true, if_false, reduceIte] using h4) | (simp only [RF.upd, h0, Nat.reduceEqDiff, if_true, if_false, reduceIte] at h4 ⊢; exact h4)
      · refine RF.Step.guarded rfl (fun vs wx hG hv hd => ?_) (fun vs wx hG hv hd K hK => ?_)
        · have h0 : vs 2 = .bool true := by first | exact hd.1 | exact hd.2.1 | exact hd.2.2.1 | exact hd.2.2.2.1 | exact hd.2.2.2.2.1
          simp [Region.wanted, yielded, h0]
        · have h0 : vs 4 = .bool x.mrk := by first | exact hd.1 | exact hd.2.1 | exact hd.2.2.1 | exact hd.2.2.2.1 | exact hd.2.2.2.2.1
          go_simp
          have h4 := hK _ _ hG rfl (fun _ _ h => h)
          first | (simpa only [RF.upd, h0, Nat.reduceEqDiff, if_true, if_false, reduceIte] using h4) | (simp only [RF.upd, h0, Nat.reduceEqDiff, if_true, if_false, reduceIte] at h4 ⊢; exact h4)
      · refine RF.Step.plain rfl rfl (fun vs wx hG hv hd K hK => ?_)
        have h0 : vs 2 = .bool true := by first | exact hd.1 | exact hd.2.1 | exact hd.2.2.1 | exact hd.2.2.2.1 | exact hd.2.2.2.2.1
        have h1 : vs 5 = .bool (!x.mrk) := by first | exact hd.1 | exact hd.2.1 | exact hd.2.2.1 | exact hd.2.2.2.1 | exact hd.2.2.2.2.1
        go_simp
        have h4 := hK _ _ hG (by show _ = Value.bool (true && !x.mrk); rw [Bool.true_and]) (fun _ _ h => h)
        first | (simpa only [RF.upd, h0, h1, Nat.reduceEqDiff, if_true, if_false, reduceIte] using h4) | (simp only [RF.upd, h0, h1, Nat.reduceEqDiff, if_true, if_false, reduceIte] at h4 ⊢; exact h4)
      · refine RF.Step.plain rfl rfl (fun vs wx hG hv hd K hK => ?_)
        have h0 : vs 0 = .agg x.cs.toArray := by first | exact hd.1 | exact hd.2.1 | exact hd.2.2.1 | exact hd.2.2.2.1 | exact hd.2.2.2.2.1
        obtain ⟨hg1, hg2, cs, hg3, hg4, hg5⟩ := hG
        refine wp_store_blk' (cs' := x.cs.toArray) 55 (.tmp 2) (.tmp 11) rfl hg4 rfl (by show vs 0 = _; exact h0) (by rw [hg3]; rfl) size_ver (cs_one' x) (fun w' hb hx => ?_)
        exact hK undef w' ⟨hg1.trans hx, hg2.ext hx (fun e => by have e : w1.heap.size = w.heap.size := e; have := HLT.out; omega), _, rfl, hb, fun _ => rfl⟩ rfl (fun j _ h => FTh.no j _ h)
      · refine RF.Step.plain rfl rfl (fun vs wx hG hv hd K hK => ?_)
        have h0 : vs 6 = .bool (true && !x.mrk) := by first | exact hd.1 | exact hd.2.1 | exact hd.2.2.1 | exact hd.2.2.2.1 | exact hd.2.2.2.2.1
        go_simp
        have h4 := hK _ _ hG rfl (fun _ _ h => h)
        first | (simpa only [RF.upd, h0, Nat.reduceEqDiff, if_true, if_false, reduceIte] using h4) | (simp only [RF.upd, h0, Nat.reduceEqDiff, if_true, if_false, reduceIte] at h4 ⊢; exact h4)
    · intro vs w4 hG hF
      obtain ⟨hg1, hg2, cs, hg3, hg4, hg5⟩ := hG
      obtain rfl := hg5 (hF 7 (by decide))
      have h8 : vs 8 = .bool (true && !x.mrk) := hF 8 (by decide)
      have HX4 := Lib.hid (HX3.out.transS hg1 (fun i hi e => by have e : i = w.heap.size := e; omega))
      have HB4 := Lib.hid hg4
      clear hF hg1 hg2 hg3 hg4 hg5
      rw [h8]
      go_wp2_with fail
      exact bodyPost_ret (ret_blk2 rfl HB4.out rfl _ Try.underlying55 rfl size_ver) rfl ⟨rfl, HX4.out⟩
  | false =>
    refine RF.region (vs := fun | 7 => Value.bool false | 8 => Value.bool false | _ => undef) rfl (fun vs => (lv :: undef :: (Value.pointer (some ⟨w.heap.size, 0, none⟩)) :: (vs 8) :: (Value.pointer (some ⟨w1.heap.size, 0, none⟩)) :: (Value.bool false) :: (Value.tuple #[Value.agg x.cs.toArray, Value.bool false]) :: lv :: (Value.tuple #[Value.agg x.cs.toArray, Value.bool false]) :: (Value.agg x.cs.toArray) :: (Value.bool false) :: (vs 0) :: (vs 1) :: (vs 2) :: (vs 3) :: (vs 4) :: (vs 5) :: (vs 6) :: []).toArray)
      (FTh x false w1.heap.size) (fun vs wz => GTh w3 x w.heap.size w1.heap.size (vs 7) wz) rfl (by kernel_rfl) ?_ ?_ ?_
    · exact ⟨(Ext.refl _ w3).drew, HB3.out, _, rfl, HZ3.out, fun e => by cases e⟩
    · refine ⟨⟨⟨⟨⟨⟨⟨⟨⟨trivial, ?_⟩, ?_⟩, ?_⟩, ?_⟩, ?_⟩, ?_⟩, ?_⟩, ?_⟩, ?_⟩
      · refine RF.Step.plain rfl rfl (fun vs wx hG hv hd K hK => ?_)
        refine wp_load_row 55 (.tmp 4) rfl _ rfl _ _ _ _ hG.2.1 Try.underlying55 rfl size_ver ?_
        exact hK _ _ hG rfl (fun _ _ h => h)
      · refine RF.Step.plain rfl rfl (fun vs wx hG hv hd K hK => ?_)
        go_simp
        exact hK _ _ hG rfl (fun _ _ h => h)
      · refine RF.Step.plain rfl rfl (fun vs wx hG hv hd K hK => ?_)
        have h0 : vs 1 = .bool false := by first | exact hd.1 | exact hd.2.1 | exact hd.2.2.1 | exact hd.2.2.2.1 | exact hd.2.2.2.2.1
        go_simp
        have h4 := hK _ _ hG rfl (fun _ _ h => h)
        first | (simpa only [RF.upd, h0, Nat.reduceEqDiff, if_true, if_false, reduceIte] using h4) | (simp only [RF.upd, h0, Nat.reduceEqDiff, if_true, if_false, reduceIte] at h4 ⊢; exact h4)
      · refine RF.Step.skip rfl (fun vs wx hG hv hd => ?_) (fun _ => rfl) (fun vs wx hG hv hd => ⟨hG, rfl⟩)
        have h0 : vs 2 = .bool false := by first | exact hd.1 | exact hd.2.1 | exact hd.2.2.1 | exact hd.2.2.2.1 | exact hd.2.2.2.2.1
        simp [Region.wanted, yielded, h0]
      · refine RF.Step.skip rfl (fun vs wx hG hv hd => ?_) (fun _ => rfl) (fun vs wx hG hv hd => ⟨hG, rfl⟩)
        have h0 : vs 2 = .bool false := by first | exact hd.1 | exact hd.2.1 | exact hd.2.2.1 | exact hd.2.2.2.1 | exact hd.2.2.2.2.1
        simp [Region.wanted, yielded, h0]
      · refine RF.Step.skip rfl (fun vs wx hG hv hd => ?_) (fun _ => rfl) (fun vs wx hG hv hd => ⟨hG, rfl⟩)
        have h0 : vs 2 = .bool false := by first | exact hd.1 | exact hd.2.1 | exact hd.2.2.1 | exact hd.2.2.2.1 | exact hd.2.2.2.2.1
        simp [Region.wanted, yielded, h0]
      · refine RF.Step.plain rfl rfl (fun vs wx hG hv hd K hK => ?_)
        have h0 : vs 2 = .bool false := by first | exact hd.1 | exact hd.2.1 | exact hd.2.2.1 | exact hd.2.2.2.1 | exact hd.2.2.2.2.1
        go_simp
        have h4 := hK _ _ hG (by show _ = Value.bool (false && !x.mrk); rw [Bool.false_and]) (fun _ _ h => h)
        first | (simpa only [RF.upd, h0, Nat.reduceEqDiff, if_true, if_false, reduceIte] using h4) | (simp only [RF.upd, h0, Nat.reduceEqDiff, if_true, if_false, reduceIte] at h4 ⊢; exact h4)
      · refine RF.Step.plain rfl rfl (fun vs wx hG hv hd K hK => ?_)
        have h0 : vs 0 = .agg x.cs.toArray := by first | exact hd.1 | exact hd.2.1 | exact hd.2.2.1 | exact hd.2.2.2.1 | exact hd.2.2.2.2.1
        obtain ⟨hg1, hg2, cs, hg3, hg4, hg5⟩ := hG
        refine wp_store_blk' (cs' := x.cs.toArray) 55 (.tmp 2) (.tmp 11) rfl hg4 rfl (by show vs 0 = _; exact h0) (by rw [hg3]; rfl) size_ver (cs_one' x) (fun w' hb hx => ?_)
        exact hK undef w' ⟨hg1.trans hx, hg2.ext hx (fun e => by have e : w1.heap.size = w.heap.size := e; have := HLT.out; omega), _, rfl, hb, fun _ => rfl⟩ rfl (fun j _ h => FTh.no j _ h)
      · refine RF.Step.plain rfl rfl (fun vs wx hG hv hd K hK => ?_)
        have h0 : vs 6 = .bool (false && !x.mrk) := by first | exact hd.1 | exact hd.2.1 | exact hd.2.2.1 | exact hd.2.2.2.1 | exact hd.2.2.2.2.1
        go_simp
        have h4 := hK _ _ hG rfl (fun _ _ h => h)
        first | (simpa only [RF.upd, h0, Nat.reduceEqDiff, if_true, if_false, reduceIte] using h4) | (simp only [RF.upd, h0, Nat.reduceEqDiff, if_true, if_false, reduceIte] at h4 ⊢; exact h4)
    · intro vs w4 hG hF
      obtain ⟨hg1, hg2, cs, hg3, hg4, hg5⟩ := hG
      obtain rfl := hg5 (hF 7 (by decide))
      have h8 : vs 8 = .bool (false && !x.mrk) := hF 8 (by decide)
      have HX4 := Lib.hid (HX3.out.transS hg1 (fun i hi e => by have e : i = w.heap.size := e; omega))
      have HB4 := Lib.hid hg4
      clear hF hg1 hg2 hg3 hg4 hg5
      rw [h8]
      go_wp2_with fail
      exact bodyPost_ret (ret_blk2 rfl HB4.out rfl _ Try.underlying55 rfl size_ver) rfl ⟨rfl, HX4.out⟩
end Go.Proofs.Ytlfhfomidkadiaa
