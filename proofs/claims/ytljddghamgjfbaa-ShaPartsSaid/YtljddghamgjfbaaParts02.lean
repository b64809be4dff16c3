/- The laws of chapter 2: ShaParts. -/
import Derived.Test.YtljddghamgjfbaaLaw02
import Derived.Test.YtljddghamgjfbaaOpenParts
import Derived.Test.YtljddghamgjfbaaArrEq
set_option linter.unusedVariables false
set_option linter.unusedSimpArgs false
namespace Go.Proofs.Ytljddghamgjfbaa
open Go.RowKit Go.Deep Sh Rs

/-- Within ShaParts: the state, all bytes so far. -/
structure PaS (w0 : World) (g : Nat) (rv av : Value) (m a : List UInt8) (w : World) : Prop where
  st : St w g rv m
  aw : Own w w0.heap.size av a
  x : Ext No w0 w
  lg : w0.heap.size ≤ g
  lr : ∀ k, rv.ownBlock = some k → w0.heap.size ≤ k
  ap : ∀ k, av.ownBlock = some k → ¬ rv.ownBlock = some k
section
variable {w0 w w' : World} {g : Nat} {rv av rv' av' : Value} {m a x : List UInt8}
theorem PaS.no (h : PaS w0 g rv av m a w) (hx : Ext No w w') : PaS w0 g rv av m a w' :=
  ⟨⟨h.st.st.ext_no hx, h.st.rm.ext_no hx⟩, h.aw.ext_no hx, h.x.trans hx, h.lg, h.lr, h.ap⟩
theorem PaS.write (h : PaS w0 g rv av m a w) (hs : St w' g rv' (m ++ x)) (hx : Ext (Foot g rv) w w') (hr : rv'.ownBlock = rv.ownBlock ∨ ∃ j, rv'.ownBlock = some j ∧ w.heap.size ≤ j) : PaS w0 g rv' av (m ++ x) a w' := by
  have hlg := h.lg
  have hsz := h.x.size
  refine ⟨hs, h.aw.ext hx (fun b hb hf => ?_), h.x.transS hx (fun i hi hf => ?_), h.lg, fun k hk => ?_, fun k hk hk' => ?_⟩
  · rcases hf with e | e
    · exact (Mid.of_own h.aw).not_st h.st.st (e ▸ hb)
    · exact h.ap b hb e
  · rcases hf with e | e
    · omega
    · have := h.lr i e; omega
  · rcases hr with e | ⟨j, e, hj⟩
    · rw [e] at hk; exact h.lr k hk
    · rw [e] at hk; injection hk with hk; omega
  · rcases hr with e | ⟨j, e, hj⟩
    · rw [e] at hk'; exact h.ap k hk hk'
    · rw [e] at hk'; injection hk' with hk'; have := (h.aw.lt k hk).2; omega
theorem PaS.app (h : PaS w0 g rv av m a w) (hs : Own w' w0.heap.size av' (a ++ x)) (hg : w.grownBy w' av.ownBlock) (hat : av'.ownBlock = av.ownBlock ∨ av'.ownBlock = some w.heap.size) : PaS w0 g rv av' m (a ++ x) w' := by
  have he : Ext (fun k => av.ownBlock = some k) w w' := (Ext.refl _ w).grown hg (fun k hk _ => hk)
  refine ⟨⟨h.st.st.ext he ((Mid.of_own h.aw).not_st h.st.st), h.st.rm.ext he (fun b hb ha => h.ap b ha hb)⟩, hs, h.x.transS he (fun i hi ha => absurd hi (by have := (h.aw.lt i ha).1; omega)), h.lg, h.lr, fun k hk hk' => ?_⟩
  rcases hat with e | e
  · rw [e] at hk; exact h.ap k hk hk'
  · rw [e] at hk; injection hk with hk; have := (h.st.rm.blk k hk').1; omega
end
/-- The like, with a sum in a block. -/
structure QP (w0 : World) (g : Nat) (rv av : Value) (m : List UInt8) (g3 : Nat) (D : List UInt8) (w : World) : Prop where
  p : PaS w0 g rv av m m w
  d : Blk w g3 45 (u8s D).toArray
section
variable {w0 w w' : World} {g g3 : Nat} {rv av : Value} {m D : List UInt8}
theorem QP.no (h : Hid (QP w0 g rv av m g3 D w)) (hx : Ext No w w') : Hid (QP w0 g rv av m g3 D w') := Lib.hid ⟨h.out.p.no hx, h.out.d.ext_no hx⟩
theorem QP.sum (h : Hid (QP w0 g rv av m g3 D w)) (hm : m.length < 1000000) (hD : sha m = D) : Calls Try.prog 39 #[av] w fun e w' => ∃ v, e = .returned v ∧ Hid (Bs w' Any v D) ∧ Hid (QP w0 g rv av m g3 D w') := by
  refine (rSum_any av m w h.out.p.aw.any hm).mono ?_
  rintro e w' ⟨v, rfl, hb, hx⟩
  exact ⟨v, rfl, Lib.hid (hD ▸ hb), QP.no h hx⟩
theorem QP.same (h : Hid (QP w0 g rv av m g3 D w)) (hD : D.length = 32) (v2 : Value) (h2 : Bs w Any v2 D) : Calls Try.prog 27 #[.slice (some ⟨g3, 0, none⟩) 32 32, v2] w fun e w' => e = .returned (.bool true) ∧ Hid (QP w0 g rv av m g3 D w') := by
  refine (lSame _ v2 D w (Bs.whole' h.out.d (n := 32) (c := 32) hD.symm (Nat.le_refl _) (by unfold maxLen; decide)).any h2).mono ?_
  rintro e w' ⟨rfl, hx⟩
  exact ⟨rfl, QP.no h hx⟩
end
/-- What each operation of the last line leaves. -/
def F17 (g g3 : Nat) (av : Value) (D : List UInt8) : Nat → Value → World → Prop
  | 0, v, _ => v = .agg (u8s D).toArray
  | 1, v, _ => v = .agg (u8s D).toArray
  | 4, v, _ => v = .agg (u8s D).toArray
  | 6, v, _ => v = .agg (u8s D).toArray
  | 5, v, _ => v = pB g
  | 10, v, _ => v = .slice (some ⟨g3, 0, none⟩) 32 32
  | 11, v, _ => v = av
  | 12, v, w => Hid (Bs w Any v D)
  | _, v, _ => v = .bool true
theorem F17.no {g g3 : Nat} {av : Value} {D : List UInt8} {w w' : World} (hx : Ext No w w') (j : Nat) (v : Value) (h : F17 g g3 av D j v w) : F17 g g3 av D j v w' := by
  unfold F17 at h ⊢
  split at h <;> first | exact h | exact Lib.hid (h.out.ext_no hx)
set_option maxRecDepth 100000 in
set_option maxHeartbeats 4000000 in
theorem parts02 (v : Value) (ls : List (List UInt8)) (w : World) (h : Parts w (fun b => b < w.heap.size) v ls) : Calls Try.prog 8 #[v] w fun e' w' => e' = .returned (.bool true) ∧ Ext No w w' := by
  obtain ⟨A, c, rfl, hc, hm, b, o, hA⟩ := h.slice
  unfold maxLen at hm
  have HA := Lib.hid hA
  have HF := Lib.hid (flat_take ls)
  have HE := Lib.hid (flen_le ls)
  have HP := Lib.hid h
  clear hA h
  go_enter Try.func8, Try.ntmps8
  go_wp2_with fail
  refine (short_any _ _ ls w HP.out).mono ?_
  rintro e1 w1 ⟨hx1, h1⟩
  have HX1 := Lib.hid hx1
  clear hx1
  rcases h1 with rfl | ⟨rfl, h40, h6⟩
  · go_wp2_with (go_at_call 37; refine (works02 _).mono ?_; rintro e2 w2 ⟨rfl, hx2⟩; have HX2 := Lib.hid (HX1.out.trans hx2); clear hx2)
    go_ret
    exact ⟨rfl, HX2.out⟩
  · have HB := Lib.hid h6
    clear h6
    by_cases h12 : 12 < ls.length
    · go_wp2_with (go_at_call 37; refine (works02 _).mono ?_; rintro e2 w2 ⟨rfl, hx2⟩; have HX2 := Lib.hid (HX1.out.trans hx2); clear hx2)
      go_ret
      exact ⟨rfl, HX2.out⟩
    · go_wp2_with fail
      refine (shaNew_any _).mono ?_
      rintro e2 w2 ⟨rfl, rfl⟩
      have hst : PaS w w1.heap.size (.slice none 0 0) (.slice none 0 0) [] [] (w1.alloc (.cells (V8cs h0 (.slice none 0 0) 0) 111)) :=
        ⟨⟨Blk.new w1 _ _, Mid.nil _⟩, Own.nil _ _, HX1.out.alloc _, HX1.out.size, (fun k hk => by cases hk), (fun k hk => by cases hk)⟩
      have HS0 := Lib.hid hst
      clear hst
      generalize w1.alloc (.cells (V8cs h0 (.slice none 0 0) 0) 111) = w2 at *
      generalize w1.heap.size = g at *
      clear HX1
      go_wp2_with fail
      have hdec : decide (12 < (ls.length : Int)) = false := decide_eq_false (by omega)
      rw [hdec]
      clear hdec
      go_loopw [4, 5] (fun av i wr => ∃ (k : Nat) (rv : Value), k ≤ ls.length ∧ i = .int .i64 ((k : Nat) : Int) ∧ Hid (PaS w g rv av (ls.take k).flatten (ls.take k).flatten wr)) (fun _ i _ => ls.length - (intOf i).toNat)
      case atStart => exact ⟨0, _, by omega, rfl, HS0⟩
      case round =>
        obtain ⟨k, rv, hk, rfl, HK⟩ := hrel
        clear HS0
        by_cases hlt : k < ls.length
        · obtain ⟨A', c', rfl, ⟨_, hbl⟩, e1, hbs⟩ := HA.out k hlt
          have e2 : wr.cell? ⟨b, o + k, none⟩ = _ := (HK.out.x.cell (p := ⟨b, o + k, none⟩) hbl (fun h => h)).trans e1
          have HC := Lib.hid (fun (wx : World) (hx : Ext No w wx) => (hx.cell (p := ⟨b, o + k, none⟩) hbl (fun h => h)).trans e1)
          have HBS := Lib.hid hbs
          have HBW := Lib.hid ((hbs.ext_no HK.out.x).mono (F' := fun j => j ≠ g) (fun j hj e => by have := HK.out.lg; omega))
          have hlen : (ls.take k).flatten.length + ls[k].length ≤ 6000 := by
            have h1 := HE.out (k + 1)
            unfold flen at h1
            rw [HF.out k hlt, List.length_append] at h1
            have := HB.out
            omega
          have HLN := Lib.hid hlen
          have HT := Lib.hid (HF.out k hlt)
          obtain ⟨L, hL⟩ : ∃ L, ls[k] = L := ⟨_, rfl⟩
          rw [hL] at HT HLN HBW HBS HC e2
          obtain ⟨M0, hM0⟩ : ∃ M, (ls.take k).flatten = M := ⟨_, rfl⟩
          rw [hM0] at HT HLN HK
          have HLN2 : Hid ((M0 ++ L).length ≤ 6000) := Lib.hid (by rw [List.length_append]; exact HLN.out)
          have HSL := Lib.hid (sha_length (M0 ++ L))
          obtain ⟨M1, hM1⟩ : ∃ M, M0 ++ L = M := ⟨_, rfl⟩
          obtain ⟨D, hD⟩ : ∃ D, sha (M0 ++ L) = D := ⟨_, rfl⟩
          have HD := Lib.hid hD
          rw [hD] at HSL
          have HDL := Lib.hid (show (u8s D).toArray.size = 32 by rw [List.size_toArray, u8s_length]; exact HSL.out)
          clear e1 hbs hlen hL hM0 hD hM1
          have hk64 : (k : Int) ≤ 12 := by omega
          go_wp2_with (first
            | (go_at_call 42; refine (shaWrite_any g rv M0 L _ wr HK.out.st HBW.out (by have := HLN.out; omega)).mono ?_; rintro e5 w5 ⟨rfl, rv5, hs5, hx5, hr5⟩; have HK5 := Lib.hid (HK.out.write hs5 hx5 hr5); have e3 := HC.out w5 HK5.out.x; clear hs5 hx5 hr5)
            | (at_builtin; go_must (refine app_bytes (.tmp 33) (.tmp 37) rfl rfl w.heap.size u4 _ _ L rfl rfl HK5.out.aw _ (HBS.out.ext_no HK5.out.x) (by have := HLN.out; omega) HK5.out.x.size ?_); intro v6 w6 ho6 hg6 hat6; have HK6 := Lib.hid (HK5.out.app ho6 hg6 hat6); clear ho6 hg6 hat6 e3)
            | (go_at_call 43; refine (shaSum_any g rv5 (M0 ++ L) w6 HK6.out.st (by have := HLN2.out; omega)).mono ?_; rintro e7 w7 ⟨rfl, hx7⟩; rw [HD.out]; have HK7 := Lib.hid (HK6.out.no hx7); have HB3 := Lib.hid (Blk.new w7 45 (u8s (List.replicate 32 0)).toArray); have HK8 := Lib.hid (HK7.out.no ((Ext.refl No w7).alloc (.cells (u8s (List.replicate 32 0)).toArray 45))); clear hx7)
            | ((with_reducible show wpList _ _ _ _ _ _); refine store_blk (o := ⟨none, _, _, _, _, _⟩) 45 (.tmp 6) (.tmp 40) rfl rfl HB3.out rfl rfl (by rw [HDL.out]; rfl) (by rw [HDL.out]; exact size_b32) (u8s_one' _) ?_; intro w9 hb9 hx9; have HQ : Hid (QP w g rv5 v6 (M0 ++ L) w7.heap.size D w9) := Lib.hid ⟨HK7.out.no (((Ext.refl No w7).alloc _).transS hx9 (fun i hi h => absurd hi (by have h' : i = w7.heap.size := h; omega))), hb9⟩; clear hb9 hx9))
          clear HK7 HK8 HB3 HK6 HK5 HK
          have HML := Lib.hid (show (M0 ++ L).length < 1000000 by have := HLN2.out; omega)
          by_cases h4 : (k : Int) % 4 = 3
          · have hd4 : ((k : Int).tmod 4 == 3) = true := by rw [Int.tmod_eq_emod_of_nonneg (by omega), h4]; rfl
            go_region_held3 (fun w' => Hid (QP w g rv5 v6 (M0 ++ L) w7.heap.size D w'))
              (first | assumption | exact HQ | exact QP.no HQ (Ext.refl No _).drew | exact QP.no (by assumption) (Ext.refl No _).drew)
              (first
              | (go_at_call 39; refine (QP.sum (w0 := w) (g := g) (rv := rv5) (m := M0 ++ L) (g3 := w7.heap.size) (D := D) (by assumption) HML.out HD.out).mono ?_; rintro e10 w10 ⟨v10, rfl, HS10, hQ10⟩)
              | (go_at_call 27; refine (QP.same (w0 := w) (g := g) (rv := rv5) (av := v6) (m := M0 ++ L) (g3 := w7.heap.size) (D := D) (by assumption) HSL.out _ HS10.out).mono ?_; rintro e11 w11 ⟨rfl, hQ11⟩))
            have HQF := Lib.hid hQ11.out.p
            clear hQ10 hQ11 hd4
            go_wp2_with fail
            go_roundw
            case rel => exact ⟨k + 1, rv5, by omega, by go_num, by rw [HT.out]; exact HQF⟩
            case measure => simp [intOf]; omega
          · have hd4 : ((k : Int).tmod 4 == 3) = false := by rw [Int.tmod_eq_emod_of_nonneg (by omega)]; exact beq_false_of_ne h4
            go_quiet (fail)
            clear hd4
            go_wp2_with fail
            go_roundw
            case rel => exact ⟨k + 1, rv5, by omega, by go_num, by rw [HT.out]; exact Lib.hid (HQ.out.p.no ((Ext.refl No _).drewN _))⟩
            case measure => simp [intOf]; omega
        · obtain rfl : k = ls.length := by omega
          rw [List.take_length] at HK
          obtain ⟨M, hM⟩ : ∃ M, ls.flatten = M := ⟨_, rfl⟩
          rw [hM] at HK HB
          have HOF := Lib.hid (fun (wx : World) (hx : Ext No w wx) => shaOf_any _ _ ls wx (HP.out.ext_no hx) (by rw [hM]; have := HB.out; omega))
          rw [hM] at HOF
          have HML := Lib.hid (show M.length < 1000000 by have := HB.out; omega)
          have HSL := Lib.hid (sha_length M)
          obtain ⟨D, hD⟩ : ∃ D, sha M = D := ⟨_, rfl⟩
          rw [hD] at HSL HOF
          have HD := Lib.hid hD
          have HDL := Lib.hid (show (u8s D).toArray.size = 32 by rw [List.size_toArray, u8s_length]; exact HSL.out)
          clear hD hM
          go_wp2_with (first
            | (go_at_call 43; refine (shaSum_any g rv M wr HK.out.st (by have := HB.out; omega)).mono ?_; rintro e7 w7 ⟨rfl, hx7⟩; rw [HD.out]; have HK7 := Lib.hid (HK.out.no hx7); have HB3 := Lib.hid (Blk.new w7 45 (u8s (List.replicate 32 0)).toArray); clear hx7)
            | ((with_reducible show wpList _ _ _ _ _ _); refine store_blk (o := ⟨none, _, _, _, _, _⟩) 45 (.tmp 7) (.tmp 52) rfl rfl HB3.out rfl rfl (by rw [HDL.out]; rfl) (by rw [HDL.out]; exact size_b32) (u8s_one' _) ?_; intro w9 hb9 hx9; have HQ : Hid (QP w g rv u4 M w7.heap.size D w9) := Lib.hid ⟨HK7.out.no (((Ext.refl No w7).alloc _).transS hx9 (fun i hi h => absurd hi (by have h' : i = w7.heap.size := h; omega))), hb9⟩; clear hb9 hx9)
            | (go_at_call 38; refine (HOF.out _ HQ.out.p.x).mono ?_; rintro e10 w10 ⟨rfl, hx10⟩; have HQ10 := QP.no HQ hx10; have HB4 := Lib.hid (Blk.new w10 45 (u8s (List.replicate 32 0)).toArray); clear hx10)
            | ((with_reducible show wpList _ _ _ _ _ _); refine store_blk (o := ⟨none, _, _, _, _, _⟩) 45 (.tmp 8) (.tmp 54) rfl rfl HB4.out rfl rfl (by rw [HDL.out]; rfl) (by rw [HDL.out]; exact size_b32) (u8s_one' _) ?_; intro w11 hb11 hx11; have HQ11 : Hid (QP w g rv u4 M w7.heap.size D w11 ∧ Blk w11 w10.heap.size 45 (u8s D).toArray) := Lib.hid ⟨(QP.no HQ10 (((Ext.refl No w10).alloc _).transS hx11 (fun i hi h => absurd hi (by have h' : i = w10.heap.size := h; omega)))).out, hb11⟩; clear hb11 hx11))
          clear HB3 HB4 HK7 HQ HQ10 HOF HK
          obtain ⟨g3, hg3⟩ : ∃ x, w7.heap.size = x := ⟨_, rfl⟩
          obtain ⟨g4, hg4⟩ : ∃ x, w10.heap.size = x := ⟨_, rfl⟩
          rw [hg3, hg4] at HQ11
          rw [hg3, hg4]
          clear hg3 hg4
          have hq := fun wx : World => run_eql_u8s 45 32 und_b32 D HSL.out wx
          refine RF.region (vs := fun k => if k = 18 then u2 else undef) rfl (fun vs => ((Value.slice A ls.length c) :: undef :: (vs 18) :: (pB g) :: u4 :: (Value.int IntKind.i64 (ls.length : Int)) :: u6 :: (Value.pointer (some { block := g3, off := 0 })) :: (Value.pointer (some { block := g4, off := 0 })) :: (Value.slice A ls.length c) :: (Value.int IntKind.i64 0) :: (Value.bool false) :: (Value.bool false) :: (Value.slice A ls.length c) :: (Value.int IntKind.i64 (ls.length : Int)) :: (Value.bool false) :: (Value.bool false) :: undef :: (pB g) :: (pB g) :: (Value.bool false) :: (Value.int IntKind.i64 (ls.length : Int)) :: (Value.slice A ls.length c) :: (Value.int IntKind.i64 (ls.length : Int)) :: (Value.bool false) :: u25 :: u26 :: u27 :: u28 :: u29 :: u30 :: u31 :: u32 :: u33 :: u34 :: u35 :: u36 :: u37 :: u38 :: u39 :: u40 :: u41 :: u42 :: u43 :: u44 :: u45 :: u46 :: u47 :: u48 :: u49 :: u50 :: (pB g) :: (Value.agg (u8s D).toArray) :: (Value.slice A ls.length c) :: (Value.agg (u8s D).toArray) :: (vs 0) :: (vs 1) :: (vs 2) :: (vs 3) :: (vs 4) :: (vs 5) :: (vs 6) :: (vs 7) :: (vs 8) :: (vs 9) :: (vs 10) :: (vs 11) :: (vs 12) :: (vs 13) :: (vs 14) :: (vs 15) :: (vs 16) :: (vs 17) :: []).toArray)
            (F17 g g3 u4 D) (fun vs wx => Hid (QP w g rv u4 M g3 D wx ∧ Blk wx g4 45 (u8s D).toArray)) rfl (by kernel_rfl) ?_ ?_ ?_
          · exact Lib.hid ⟨(QP.no (Lib.hid HQ11.out.1) (Ext.refl No _).drew).out, HQ11.out.2⟩
          · refine ⟨⟨⟨⟨⟨⟨⟨⟨⟨⟨⟨⟨⟨⟨⟨⟨⟨⟨⟨trivial, ?_⟩, ?_⟩, ?_⟩, ?_⟩, ?_⟩, ?_⟩, ?_⟩, ?_⟩, ?_⟩, ?_⟩, ?_⟩, ?_⟩, ?_⟩, ?_⟩, ?_⟩, ?_⟩, ?_⟩, ?_⟩, ?_⟩
            · refine RF.Step.plain rfl rfl (fun vs wx hG hv hd K hK => ?_)
              refine wp_load_row 45 (.tmp 7) rfl g3 rfl 45 (u8s D).toArray (0, 0) _ hG.out.1.d und_b32 rfl (by rw [HDL.out]; exact size_b32) ?_
              have hk4 := hK (.agg (u8s D).toArray) wx hG rfl (fun _ _ h => h)
              go_simp
              simpa only [RF.upd, Nat.reduceEqDiff, if_true, if_false, reduceIte] using hk4
            · refine RF.Step.plain rfl rfl (fun vs wx hG hv hd K hK => ?_)
              refine wp_load_row 45 (.tmp 8) rfl g4 rfl 45 (u8s D).toArray (0, 0) _ hG.out.2 und_b32 rfl (by rw [HDL.out]; exact size_b32) ?_
              have hk4 := hK (.agg (u8s D).toArray) wx hG rfl (fun _ _ h => h)
              go_simp
              simpa only [RF.upd, Nat.reduceEqDiff, if_true, if_false, reduceIte] using hk4
            · refine RF.Step.plain rfl rfl (fun vs wx hG hv hd K hK => ?_)
              have h0 : vs 0 = .agg (u8s D).toArray := by first | exact hd.1 | exact hd.2.1 | exact hd.2.2.1 | exact hd.2.2.2.1 | exact hd.2.2.2.2.1
              have h1 : vs 1 = .agg (u8s D).toArray := by first | exact hd.1 | exact hd.2.1 | exact hd.2.2.1 | exact hd.2.2.2.1 | exact hd.2.2.2.2.1
              have hqx := hq wx
              go_simp
              have hk4 := hK (.bool true) wx hG rfl (fun _ _ h => h)
              simpa only [RF.upd, Nat.reduceEqDiff, if_true, if_false, reduceIte, h0, h1] using hk4
            · refine RF.Step.plain rfl rfl (fun vs wx hG hv hd K hK => ?_)
              have h2 : vs 2 = .bool true := by first | exact hd.1 | exact hd.2.1 | exact hd.2.2.1 | exact hd.2.2.2.1 | exact hd.2.2.2.2.1
              go_simp
              have hk4 := hK (.bool true) wx hG rfl (fun _ _ h => h)
              simpa only [RF.upd, Nat.reduceEqDiff, if_true, if_false, reduceIte, h2] using hk4
            · refine RF.Step.guarded rfl (fun vs wx hG hv hd => ?_) (fun vs wx hG hv hd K hK => ?_)
              · have h3 : vs 3 = .bool true := by first | exact hd.1 | exact hd.2.1 | exact hd.2.2.1 | exact hd.2.2.2.1 | exact hd.2.2.2.2.1
                simp [Region.wanted, yielded, h3]
              have h3 : vs 3 = .bool true := by first | exact hd.1 | exact hd.2.1 | exact hd.2.2.1 | exact hd.2.2.2.1 | exact hd.2.2.2.2.1
              refine wp_load_row 45 (.tmp 7) rfl g3 rfl 45 (u8s D).toArray (0, 0) _ hG.out.1.d und_b32 rfl (by rw [HDL.out]; exact size_b32) ?_
              have hk4 := hK (.agg (u8s D).toArray) wx hG rfl (fun _ _ h => h)
              go_simp
              simpa only [RF.upd, Nat.reduceEqDiff, if_true, if_false, reduceIte, h3] using hk4
            · refine RF.Step.guarded rfl (fun vs wx hG hv hd => ?_) (fun vs wx hG hv hd K hK => ?_)
              · have h3 : vs 3 = .bool true := by first | exact hd.1 | exact hd.2.1 | exact hd.2.2.1 | exact hd.2.2.2.1 | exact hd.2.2.2.2.1
                simp [Region.wanted, yielded, h3]
              have h3 : vs 3 = .bool true := by first | exact hd.1 | exact hd.2.1 | exact hd.2.2.1 | exact hd.2.2.2.1 | exact hd.2.2.2.2.1
              go_simp
              have hk4 := hK (pB g) wx hG rfl (fun _ _ h => h)
              simpa only [RF.upd, Nat.reduceEqDiff, if_true, if_false, reduceIte, h3] using hk4
            · refine RF.Step.guarded rfl (fun vs wx hG hv hd => ?_) (fun vs wx hG hv hd K hK => ?_)
              · have h3 : vs 3 = .bool true := by first | exact hd.1 | exact hd.2.1 | exact hd.2.2.1 | exact hd.2.2.2.1 | exact hd.2.2.2.2.1
                simp [Region.wanted, yielded, h3]
              have h5 : vs 5 = pB g := by first | exact hd.1 | exact hd.2.1 | exact hd.2.2.1 | exact hd.2.2.2.1 | exact hd.2.2.2.2.1
              have h3 : vs 3 = .bool true := by first | exact hd.1 | exact hd.2.1 | exact hd.2.2.1 | exact hd.2.2.2.1 | exact hd.2.2.2.2.1
              go_simp
              refine (shaSum_any g rv M wx hG.out.1.p.st (by have := HB.out; omega)).mono ?_
              rintro e w' ⟨rfl, hx⟩
              rw [HD.out]
              have hk4 := hK (.agg (u8s D).toArray) w' (Lib.hid ⟨(QP.no (Lib.hid hG.out.1) hx).out, hG.out.2.ext_no hx⟩) rfl (fun j _ h => F17.no hx j _ h)
              go_simp
              simpa only [RF.upd, Nat.reduceEqDiff, if_true, if_false, reduceIte, h5, h3] using hk4
            · refine RF.Step.guarded rfl (fun vs wx hG hv hd => ?_) (fun vs wx hG hv hd K hK => ?_)
              · have h3 : vs 3 = .bool true := by first | exact hd.1 | exact hd.2.1 | exact hd.2.2.1 | exact hd.2.2.2.1 | exact hd.2.2.2.2.1
                simp [Region.wanted, yielded, h3]
              have h4 : vs 4 = .agg (u8s D).toArray := by first | exact hd.1 | exact hd.2.1 | exact hd.2.2.1 | exact hd.2.2.2.1 | exact hd.2.2.2.2.1
              have h6 : vs 6 = .agg (u8s D).toArray := by first | exact hd.1 | exact hd.2.1 | exact hd.2.2.1 | exact hd.2.2.2.1 | exact hd.2.2.2.2.1
              have h3 : vs 3 = .bool true := by first | exact hd.1 | exact hd.2.1 | exact hd.2.2.1 | exact hd.2.2.2.1 | exact hd.2.2.2.2.1
              have hqx := hq wx
              go_simp
              have hk4 := hK (.bool true) wx hG rfl (fun _ _ h => h)
              simpa only [RF.upd, Nat.reduceEqDiff, if_true, if_false, reduceIte, h4, h6, h3] using hk4
            · refine RF.Step.plain rfl rfl (fun vs wx hG hv hd K hK => ?_)
              have h3 : vs 3 = .bool true := by first | exact hd.1 | exact hd.2.1 | exact hd.2.2.1 | exact hd.2.2.2.1 | exact hd.2.2.2.2.1
              have h7 : vs 7 = .bool true := by first | exact hd.1 | exact hd.2.1 | exact hd.2.2.1 | exact hd.2.2.2.1 | exact hd.2.2.2.2.1
              go_simp
              have hk4 := hK (.bool true) wx hG rfl (fun _ _ h => h)
              simpa only [RF.upd, Nat.reduceEqDiff, if_true, if_false, reduceIte, h3, h7] using hk4
            · refine RF.Step.plain rfl rfl (fun vs wx hG hv hd K hK => ?_)
              have h8 : vs 8 = .bool true := by first | exact hd.1 | exact hd.2.1 | exact hd.2.2.1 | exact hd.2.2.2.1 | exact hd.2.2.2.2.1
              have h6 : vs 6 = .agg (u8s D).toArray := by first | exact hd.1 | exact hd.2.1 | exact hd.2.2.1 | exact hd.2.2.2.1 | exact hd.2.2.2.2.1
              go_simp
              have hk4 := hK (.bool true) wx hG rfl (fun _ _ h => h)
              simpa only [RF.upd, Nat.reduceEqDiff, if_true, if_false, reduceIte, h8, h6] using hk4
            · refine RF.Step.guarded rfl (fun vs wx hG hv hd => ?_) (fun vs wx hG hv hd K hK => ?_)
              · have h9 : vs 9 = .bool true := by first | exact hd.1 | exact hd.2.1 | exact hd.2.2.1 | exact hd.2.2.2.1 | exact hd.2.2.2.2.1
                simp [Region.wanted, yielded, h9]
              have h9 : vs 9 = .bool true := by first | exact hd.1 | exact hd.2.1 | exact hd.2.2.1 | exact hd.2.2.2.1 | exact hd.2.2.2.2.1
              go_simp
              have hk4 := hK (.slice (some ⟨g3, 0, none⟩) 32 32) wx hG rfl (fun _ _ h => h)
              simpa only [RF.upd, Nat.reduceEqDiff, if_true, if_false, reduceIte, h9] using hk4
            · refine RF.Step.guarded rfl (fun vs wx hG hv hd => ?_) (fun vs wx hG hv hd K hK => ?_)
              · have h9 : vs 9 = .bool true := by first | exact hd.1 | exact hd.2.1 | exact hd.2.2.1 | exact hd.2.2.2.1 | exact hd.2.2.2.2.1
                simp [Region.wanted, yielded, h9]
              have h9 : vs 9 = .bool true := by first | exact hd.1 | exact hd.2.1 | exact hd.2.2.1 | exact hd.2.2.2.1 | exact hd.2.2.2.2.1
              go_simp
              have hk4 := hK (u4) wx hG rfl (fun _ _ h => h)
              simpa only [RF.upd, Nat.reduceEqDiff, if_true, if_false, reduceIte, h9] using hk4
            · refine RF.Step.guarded rfl (fun vs wx hG hv hd => ?_) (fun vs wx hG hv hd K hK => ?_)
              · have h9 : vs 9 = .bool true := by first | exact hd.1 | exact hd.2.1 | exact hd.2.2.1 | exact hd.2.2.2.1 | exact hd.2.2.2.2.1
                simp [Region.wanted, yielded, h9]
              have h11 : vs 11 = u4 := by first | exact hd.1 | exact hd.2.1 | exact hd.2.2.1 | exact hd.2.2.2.1 | exact hd.2.2.2.2.1
              have h9 : vs 9 = .bool true := by first | exact hd.1 | exact hd.2.1 | exact hd.2.2.1 | exact hd.2.2.2.1 | exact hd.2.2.2.2.1
              go_simp
              refine (rSum_any u4 M wx hG.out.1.p.aw.any HML.out).mono ?_
              rintro e w' ⟨v12, rfl, hb12, hx⟩
              rw [HD.out] at hb12
              have hk4 := hK v12 w' (Lib.hid ⟨(QP.no (Lib.hid hG.out.1) hx).out, hG.out.2.ext_no hx⟩) (Lib.hid hb12) (fun j _ h => F17.no hx j _ h)
              go_simp
              simpa only [RF.upd, Nat.reduceEqDiff, if_true, if_false, reduceIte, h11, h9] using hk4
            · refine RF.Step.guarded rfl (fun vs wx hG hv hd => ?_) (fun vs wx hG hv hd K hK => ?_)
              · have h9 : vs 9 = .bool true := by first | exact hd.1 | exact hd.2.1 | exact hd.2.2.1 | exact hd.2.2.2.1 | exact hd.2.2.2.2.1
                simp [Region.wanted, yielded, h9]
              have h10 : vs 10 = .slice (some ⟨g3, 0, none⟩) 32 32 := by first | exact hd.1 | exact hd.2.1 | exact hd.2.2.1 | exact hd.2.2.2.1 | exact hd.2.2.2.2.1
              have h9 : vs 9 = .bool true := by first | exact hd.1 | exact hd.2.1 | exact hd.2.2.1 | exact hd.2.2.2.1 | exact hd.2.2.2.2.1
              have h12 : Hid (Bs wx Any (vs 12) D) := by first | exact hd.1 | exact hd.2.1 | exact hd.2.2.1 | exact hd.2.2.2.1 | exact hd.2.2.2.2.1
              go_simp
              refine (lSame _ _ D wx (Bs.whole' hG.out.1.d (n := 32) (c := 32) HSL.out.symm (Nat.le_refl _) (by unfold maxLen; decide)).any h12.out).mono ?_
              rintro e w' ⟨rfl, hx⟩
              have hk4 := hK (.bool true) w' (Lib.hid ⟨(QP.no (Lib.hid hG.out.1) hx).out, hG.out.2.ext_no hx⟩) rfl (fun j _ h => F17.no hx j _ h)
              go_simp
              simpa only [RF.upd, Nat.reduceEqDiff, if_true, if_false, reduceIte, h10, h9] using hk4
            · refine RF.Step.plain rfl rfl (fun vs wx hG hv hd K hK => ?_)
              have h9 : vs 9 = .bool true := by first | exact hd.1 | exact hd.2.1 | exact hd.2.2.1 | exact hd.2.2.2.1 | exact hd.2.2.2.2.1
              have h13 : vs 13 = .bool true := by first | exact hd.1 | exact hd.2.1 | exact hd.2.2.1 | exact hd.2.2.2.1 | exact hd.2.2.2.2.1
              go_simp
              have hk4 := hK (.bool true) wx hG rfl (fun _ _ h => h)
              simpa only [RF.upd, Nat.reduceEqDiff, if_true, if_false, reduceIte, h9, h13] using hk4
            · refine RF.Step.plain rfl rfl (fun vs wx hG hv hd K hK => ?_)
              have h14 : vs 14 = .bool true := by first | exact hd.1 | exact hd.2.1 | exact hd.2.2.1 | exact hd.2.2.2.1 | exact hd.2.2.2.2.1
              have h13 : vs 13 = .bool true := by first | exact hd.1 | exact hd.2.1 | exact hd.2.2.1 | exact hd.2.2.2.1 | exact hd.2.2.2.2.1
              go_simp
              have hk4 := hK (.bool true) wx hG rfl (fun _ _ h => h)
              simpa only [RF.upd, Nat.reduceEqDiff, if_true, if_false, reduceIte, h14, h13] using hk4
            · refine RF.Step.guarded rfl (fun vs wx hG hv hd => ?_) (fun vs wx hG hv hd K hK => ?_)
              · have h15 : vs 15 = .bool true := by first | exact hd.1 | exact hd.2.1 | exact hd.2.2.1 | exact hd.2.2.2.1 | exact hd.2.2.2.2.1
                simp [Region.wanted, yielded, h15]
              have h15 : vs 15 = .bool true := by first | exact hd.1 | exact hd.2.1 | exact hd.2.2.1 | exact hd.2.2.2.1 | exact hd.2.2.2.2.1
              go_simp
              refine (works02 wx).mono ?_
              rintro e w' ⟨rfl, hx⟩
              have hk4 := hK (.bool true) w' (Lib.hid ⟨(QP.no (Lib.hid hG.out.1) hx).out, hG.out.2.ext_no hx⟩) rfl (fun j _ h => F17.no hx j _ h)
              go_simp
              simpa only [RF.upd, Nat.reduceEqDiff, if_true, if_false, reduceIte, h15] using hk4
            · refine RF.Step.plain rfl rfl (fun vs wx hG hv hd K hK => ?_)
              have h15 : vs 15 = .bool true := by first | exact hd.1 | exact hd.2.1 | exact hd.2.2.1 | exact hd.2.2.2.1 | exact hd.2.2.2.2.1
              have h16 : vs 16 = .bool true := by first | exact hd.1 | exact hd.2.1 | exact hd.2.2.1 | exact hd.2.2.2.1 | exact hd.2.2.2.2.1
              go_simp
              have hk4 := hK (.bool true) wx hG rfl (fun _ _ h => h)
              simpa only [RF.upd, Nat.reduceEqDiff, if_true, if_false, reduceIte, h15, h16] using hk4
            · refine RF.Step.plain rfl rfl (fun vs wx hG hv hd K hK => ?_)
              have h17 : vs 17 = .bool true := by first | exact hd.1 | exact hd.2.1 | exact hd.2.2.1 | exact hd.2.2.2.1 | exact hd.2.2.2.2.1
              go_simp
              have hk4 := hK (.bool true) wx hG rfl (fun _ _ h => h)
              simpa only [RF.upd, Nat.reduceEqDiff, if_true, if_false, reduceIte, h17] using hk4
          · intro vs wx hG hF
            have h18 : vs 18 = .bool true := hF 18 (by decide)
            have HXF := Lib.hid hG.out.1.p.x
            clear hG hF
            go_wp2_with fail
            go_ret
            exact ⟨by rw [h18]; rfl, HXF.out⟩
open Go.ChangeShapes Go.WideShapes in
set_option maxRecDepth 100000 in
theorem walk_ShaParts (W : World) (v0 : Value) (u0 : Rd Try.prog W 49 v0.cells.toList)
    {r : Reach} {base : Nat} (ok0 : Value.okWide Try.prog W r base 49 v0) :
    Calls Try.prog 8 #[v0] W fun e W' => e = .returned (.bool true) ∧ Ext No W W' := by
  obtain ⟨A, len, cap, rfl⟩ := okWide_slice Try.underlying49 ok0
  obtain ⟨A', c', ls, he, hb⟩ := parts_of u0
  have he : [Value.slice A len cap] = [.slice A' ls.length c'] := he
  simp only [List.cons.injEq, Value.slice.injEq, and_true] at he
  obtain ⟨rfl, rfl, rfl⟩ := he
  exact parts02 _ ls W hb
end Go.Proofs.Ytljddghamgjfbaa
