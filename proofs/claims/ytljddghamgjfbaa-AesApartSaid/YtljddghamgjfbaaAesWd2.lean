/- Chapter 4's reference: Words. -/
import Derived.Test.YtljddghamgjfbaaAesWds
set_option linter.unusedVariables false
set_option linter.unusedSimpArgs false
namespace Go.Proofs.Ytljddghamgjfbaa
open Go.RowKit Go.Deep Go.Proofs.YtljddghamgjfbaaW.PrintWords Ae

theorem bs_old {w : World} {F : Nat → Prop} {v : Value} {l : List UInt8} (h : Bs w F v l) : Bs w (fun b => b < w.heap.size) v l := by
  obtain ⟨h1, A, c, hv, hc, hm, hn⟩ := h
  refine ⟨h1, A, c, hv, hc, hm, fun h0 => ?_⟩
  obtain ⟨b, off, hA, _, hcell⟩ := hn h0
  exact ⟨b, off, hA, World.block_lt_of_cell? w _ (hcell 0 _ (u8s_get h0)), hcell⟩
theorem rBoth_any (v1 v2 : Value) (l m : List UInt8) (w : World) (h1 : Bs w Any v1 l) (h2 : Bs w Any v2 m) (hl : l.length = m.length) (hs : l.length ≤ 1000) :
    Calls Try.prog 88 #[v1, v2] w fun e w' => ∃ v', e = .returned v' ∧ Own w' w.heap.size v' (xr l m) ∧ Ext No w w' := by
  obtain ⟨A, c, rfl, -⟩ := h1.slice
  obtain ⟨A', c', rfl, -⟩ := h2.slice
  obtain ⟨a1, a2, a3⟩ := h1.C
  obtain ⟨b1, b2, b3⟩ := h2.C
  rw [a1, b1]
  refine (PAesBlocks.deedboxref04_both.calls (l.length + 1) A c (i8 l) A' c' (i8 m) (i8 (xr l m)) w a3 a2 b3 b2 (Ar.both_f l m hl hs _ (Nat.le_refl _))).mono ?_
  rintro e w' ⟨v', rfl, hr, hb⟩
  exact ⟨v', rfl, Own.of_R hr, Ext.of_below hb⟩
theorem rTimes_two (r : UInt8) (w : World) : Calls Try.prog 92 #[.int .u8 (r.toNat : Int), .int .u8 2] w fun e w' => e = .returned (.int .u8 ((db r).toNat : Int)) ∧ ∃ n, w' = w.drewN n := by
  refine (PAesBlocks.deedboxref04_Times.calls 20 _ _ _ w (Ar.times2 r 20 (by omega))).mono ?_
  rintro e w' ⟨rfl, n, rfl⟩
  exact ⟨rfl, n, rfl⟩
theorem lit4 (w : World) (a b c d : UInt8) {g : Nat} (hg : g = w.heap.size) : Bs (w.alloc (.cells #[.int .u8 (a.toNat : Int), .int .u8 (b.toNat : Int), .int .u8 (c.toNat : Int), .int .u8 (d.toNat : Int)] 5)) Any (.slice (some ⟨g, 0, none⟩) 4 4) [a, b, c, d] := by
  subst hg
  exact (bs_litN w [a, b, c, d] (by simp [maxLen])).any
set_option maxRecDepth 100000 in
set_option maxHeartbeats 4000000 in
theorem rWords_any (bv kv : Value) (key : List UInt8) (w : World) (hbx : Bs w Any bv Ar.bxs) (hk : Bs w Any kv key) (hl : key.length = 32) :
    Calls Try.prog 53 #[bv, kv] w fun e w' => ∃ v', e = .returned v' ∧ Parts w' Any v' (wds key 60) ∧ Ext No w w' := by
  obtain ⟨A, c, rfl, hc, hm, b, off, hcell⟩ := hk.slice
  obtain ⟨rfl, -⟩ := hcell 0 (by omega)
  obtain ⟨BA, bc, rfl, hbc, hbm, bb, bo, hbcell⟩ := hbx.slice
  obtain ⟨rfl, -⟩ := hbcell 0 (by rw [Ar.bxs_length]; omega)
  have HBX := Lib.hid (fun (wx : World) (hx : Ext No w wx) (x : UInt8) => show wx.cell? ⟨bb, bo + x.toNat, none⟩ = some (.int .u8 ((bx x).toNat : Int)) from by
    have h1 := (hbcell x.toNat (by rw [Ar.bxs_length]; exact x.toNat_lt)).2
    have h2 : Ar.bxs[x.toNat]'(by rw [Ar.bxs_length]; exact x.toNat_lt) = bx x := by
      have := Ar.bxs_get x
      rwa [List.getD_eq_getElem?_getD, List.getElem?_eq_getElem (by rw [Ar.bxs_length]; exact x.toNat_lt)] at this
    rw [h2] at h1
    exact (hx.cell (p := ⟨bb, bo + x.toNat, none⟩) (World.block_lt_of_cell? w _ h1.2.2) (fun h => h)).trans h1.2.2)
  rw [Ar.bxs_length] at hbc ⊢
  have HK := Lib.hid (bs_old hk)
  have HM := Lib.hid hm
  have HWG := Lib.hid (fun n i (hi : i < n) => show (wds key n).getD i [] = wrd key i from wds_get key hi)
  have HWL := Lib.hid (wds_length key)
  have HWS := Lib.hid (fun n => show wds key (n + 1) = wds key n ++ [wrd key n] from rfl)
  have HW0 : Hid (wds key 0 = []) := Lib.hid rfl
  obtain ⟨WF, hWF⟩ : ∃ f, wds key = f := ⟨_, rfl⟩
  have HFL := Lib.hid (wrd_len key hl)
  have HFO := Lib.hid (wrd_low key)
  have HFH := Lib.hid (wrd_high key)
  have hrc0 : ((rc 0).toNat : Int) = 1 := rfl
  have HRC0 := Lib.hid hrc0
  obtain ⟨wf, hwf⟩ : ∃ f, wrd key = f := ⟨_, rfl⟩
  simp only [hWF] at HWG HWL HWS HW0
  simp only [hwf] at HWG HWS HFL HFO HFH
  rw [show wds key 60 = WF 60 by rw [hWF]]
  rw [hl] at hc
  have HKL := Lib.hid hl
  have hm' : c ≤ 9223372036854775807 := by unfold maxLen at hm; omega
  have hbm' : bc ≤ 9223372036854775807 := by unfold maxLen at hbm; omega
  rw [hl]
  clear hWF hwf hrc0 hbx hk hcell hbcell hl hm hbm
  go_enter Try.func53, Try.ntmps53
  go_wp2_with fail
  go_loopw [5, 6] (fun v i wr => ∃ n : Nat, n ≤ 8 ∧ i = .int .i64 (n : Int) ∧ Hid (OwR wr w.heap.size v (WF n)) ∧ Hid (Ext No w wr)) (fun _ i _ => 8 - (intOf i).toNat)
  case atStart => exact ⟨0, by omega, rfl, Lib.hid (by rw [HW0.out]; exact OwR.nil _ _), Lib.hid (Ext.refl _ _)⟩
  case round =>
    obtain ⟨n, hn, rfl, HR, HX⟩ := hrel
    obtain ⟨vA, vc, rfl, hvc, hvm⟩ := HR.out.slice
    rw [HWL.out] at hvc HR ⊢
    by_cases hlt : n < 8
    · have HBS : Hid (Bs wr (FB wr w.heap.size) (.slice (some ⟨b, off + 4 * n, none⟩) 4 (c - 4 * n)) (wf n)) := Lib.hid (by
        have := (HK.out.ext_no HX.out).sub (i := 4 * n) (j := 4 * n + 4) (by omega) (by rw [HKL.out]; omega) (m := 4) (c' := c - 4 * n) (by omega) (by omega) (by have := HM.out; omega)
        rw [HFO.out n hlt]
        rw [List.drop_take, show 4 * n + 4 - 4 * n = 4 by omega] at this
        exact this.mono fun b hb => .inl hb)
      clear hvm
      go_wp2_with ((with_reducible show wpList _ _ _ (⟨some 23, _, _, _, _, _⟩ :: _) _ _); go_must (refine app_row (.tmp 14) (.tmp 22) rfl rfl w.heap.size (.slice vA n vc) (.slice (some ⟨b, off + 4 * n, none⟩) 4 (c - 4 * n)) wr.heap.size (WF n) (wf n) rfl rfl (HR.out.no ((Ext.refl No wr).alloc _)) (Blk.new wr _ _) ((HBS.out.ext_no ((Ext.refl No wr).alloc _)).mono (fun b hb => hb.no ((Ext.refl No wr).alloc _))) (by rw [HWL.out]; omega) (by have := HX.out.size; simp; omega) ?_); intro v2 w2 hr2 hg2; have HR2 : Hid (OwR w2 w.heap.size v2 (WF (n + 1))) := Lib.hid (by rw [HWS.out]; exact hr2); have HX2 : Hid (Ext No w w2) := Lib.hid ((HX.out.alloc _).grown hg2 (fun j hj hl => absurd hl (by have := (HR.out.lt j hj).1; omega))); clear hr2 hg2)
      go_roundw
      case rel => exact ⟨n + 1, by omega, by go_num, HR2, HX2⟩
      case measure => simp [intOf]; omega
    · obtain rfl : n = 8 := by omega
      go_wp2_with fail
      rw [show ((8 : Nat) : Int) = 8 from rfl]
      go_loopw [5, 7, 8] (fun v r i wr => ∃ n : Nat, 8 ≤ n ∧ n ≤ 60 ∧ i = .int .i64 (n : Int) ∧ r = .int .u8 ((rc ((n + 7) / 8 - 1)).toNat : Int) ∧ Hid (OwR wr w.heap.size v (WF n)) ∧ Hid (Ext No w wr)) (fun _ _ i _ => 60 - (intOf i).toNat)
      case atStart => exact ⟨8, by omega, by omega, rfl, by rw [show (8 + 7) / 8 - 1 = 0 from rfl, HRC0.out], HR, HX⟩
      case round =>
        clear HR HX
        obtain ⟨n, hn8, hn, rfl, rfl, HR, HX⟩ := hrel
        by_cases hlt : n < 60
        · obtain ⟨n1, hn1⟩ : ∃ x, n - 1 = x := ⟨_, rfl⟩
          obtain ⟨n8, hn8'⟩ : ∃ x, n - 8 = x := ⟨_, rfl⟩
          have hw := HFH.out n (by omega)
          rw [hn1, hn8'] at hw
          have hx := HFL.out n1
          have hy := HFL.out n8
          obtain ⟨g, c5, A1, c1, hv, e1, hb1⟩ := HR.out.at_ (i := n1) (by rw [HWL.out]; omega)
          obtain ⟨g', c5', A8, c8, hv', e8, hb8⟩ := HR.out.at_ (i := n8) (by rw [HWL.out]; omega)
          rw [hv] at hv'
          injection hv' with q1 q2 q3
          injection q1 with q1
          injection q1 with q1
          subst q1 q3
          have g1 : (WF n)[n1]'(by rw [HWL.out]; omega) = wf n1 := by
            have := HWG.out n n1 (by omega)
            rwa [List.getD_eq_getElem?_getD, List.getElem?_eq_getElem (by rw [HWL.out]; omega)] at this
          have g8 : (WF n)[n8]'(by rw [HWL.out]; omega) = wf n8 := by
            have := HWG.out n n8 (by omega)
            rwa [List.getD_eq_getElem?_getD, List.getElem?_eq_getElem (by rw [HWL.out]; omega)] at this
          rw [g1] at e1 hb1
          rw [g8] at e8 hb8
          rw [HWL.out] at hv
          subst hv
          have HNW0 : Hid (WF (n + 1) = WF n ++ [wf n]) := HWS.out n |> Lib.hid
          obtain ⟨X, hX⟩ : ∃ X, wf n1 = X := ⟨_, rfl⟩
          obtain ⟨Y, hY⟩ : ∃ Y, wf n8 = Y := ⟨_, rfl⟩
          obtain ⟨N, hN⟩ : ∃ N, wf n = N := ⟨_, rfl⟩
          rw [hX] at hx hw e1 hb1
          rw [hY] at hy hw e8 hb8
          rw [hN] at hw
          have HNW := Lib.hid hN
          rw [hy] at e8 hb8
          rw [hx] at e1 hb1
          obtain ⟨T, hT⟩ : ∃ T, tw n X = T := ⟨_, rfl⟩
          rw [hT] at hw
          have HNE := Lib.hid hw
          have HTE := Lib.hid hT
          have HYL := Lib.hid hy
          have HY := Lib.hid hb8.any
          have HX1' := Lib.hid hb1.any
          have r1 : (n : Int) - 1 = (n1 : Int) := by omega
          have r8 : (n : Int) - 8 = (n8 : Int) := by omega
          have hn1l : n1 < n := by omega
          have hn8l : n8 < n := by omega
          have HNS := Lib.hid (And.intro hn1 hn8')
          obtain ⟨r, hr⟩ : ∃ r, rc ((n + 7) / 8 - 1) = r := ⟨_, rfl⟩
          obtain ⟨hc5⟩ : n ≤ c5 ∧ True := by
            obtain ⟨_, _, ev, hle, _⟩ := HR.out.slice
            injection ev with _ _ ev3
            rw [HWL.out] at hle
            exact ⟨by omega, trivial⟩
          obtain ⟨x0, x1, x2, x3, rfl⟩ := four hx
          obtain ⟨XA, Xc, hXe, -, -, xb, xo, hxc⟩ := hb1.any.slice
          injection hXe with q1 _ q3
          subst q1 q3
          have c0 : wr.drew.cell? ⟨xb, xo, none⟩ = some (.int .u8 (x0.toNat : Int)) := (hxc 0 (by simp)).2.2.2
          have c1' : wr.drew.cell? ⟨xb, xo + 1, none⟩ = some (.int .u8 (x1.toNat : Int)) := (hxc 1 (by simp)).2.2.2
          have c2' : wr.drew.cell? ⟨xb, xo + 2, none⟩ = some (.int .u8 (x2.toNat : Int)) := (hxc 2 (by simp)).2.2.2
          have c3' : wr.drew.cell? ⟨xb, xo + 3, none⟩ = some (.int .u8 (x3.toNat : Int)) := (hxc 3 (by simp)).2.2.2
          obtain rfl := (hxc 0 (by simp)).1
          have u0 : (x0.toNat : Int) < 256 := by have := x0.toNat_lt; omega
          have u1 : (x1.toNat : Int) < 256 := by have := x1.toNat_lt; omega
          have u2 : (x2.toNat : Int) < 256 := by have := x2.toNat_lt; omega
          have u3 : (x3.toNat : Int) < 256 := by have := x3.toNat_lt; omega
          clear hw hX hY hN hT hx hy hb1 hb8 hn1 hn8' g1 g8 hxc
          by_cases h0 : n % 8 = 0
          · have t0 : ((n : Int) % 8 == 0) = true := by simp; omega
            have t4 : ((n : Int) % 8 == 4) = false := by simp; omega
            have hq : (n + 7) / 8 - 1 = n / 8 - 1 := by omega
            have HRR : Hid (rc ((n + 1 + 7) / 8 - 1) = db r) := Lib.hid (by rw [← hr, hq, show (n + 1 + 7) / 8 - 1 = (n / 8 - 1) + 1 by omega]; rfl)
            have HTX : Hid (T = [bx x1 ^^^ r, bx x2, bx x3, bx x0]) := Lib.hid (by rw [← HTE.out]; unfold tw; rw [if_pos h0, ← hr, hq]; rfl)
            have HTL : Hid (T.length = 4) := Lib.hid (by rw [HTX.out]; rfl)
            have d0 : wr.drew.cell? ⟨bb, bo + x0.toNat, none⟩ = _ := HBX.out wr HX.out x0
            have d1 : wr.drew.cell? ⟨bb, bo + x1.toNat, none⟩ = _ := HBX.out wr HX.out x1
            have d2 : wr.drew.cell? ⟨bb, bo + x2.toNat, none⟩ = _ := HBX.out wr HX.out x2
            have d3 : wr.drew.cell? ⟨bb, bo + x3.toNat, none⟩ = _ := HBX.out wr HX.out x3
            have xx := xor_u8 (bx x1) r
            have HDB := Lib.hid (fun wx => rTimes_two r wx)
            rw [hr]
            obtain ⟨d, hd⟩ : ∃ d, db r = d := ⟨_, rfl⟩
            rw [hd] at HDB HRR
            clear hr hq hd
            obtain ⟨y0, hy0⟩ : ∃ y, bx x0 = y := ⟨_, rfl⟩
            obtain ⟨y1, hy1⟩ : ∃ y, bx x1 = y := ⟨_, rfl⟩
            obtain ⟨y2, hy2⟩ : ∃ y, bx x2 = y := ⟨_, rfl⟩
            obtain ⟨y3, hy3⟩ : ∃ y, bx x3 = y := ⟨_, rfl⟩
            rw [hy0] at d0 HTX
            rw [hy1] at d1 HTX xx
            rw [hy2] at d2 HTX
            rw [hy3] at d3 HTX
            obtain ⟨z1, hz1⟩ : ∃ z, y1 ^^^ r = z := ⟨_, rfl⟩
            rw [hz1] at xx HTX
            clear hy0 hy1 hy2 hy3 hz1
            have HXD := Lib.hid HX.out.drew
            have e8d : wr.drew.cell? ⟨g, n8, none⟩ = some (.slice A8 4 c8) := e8
            clear e8
            have H5D := Lib.hid (show OwR wr.drew w.heap.size (.slice (some ⟨g, 0, none⟩) n c5) (WF n) from HR.out)
            have HYD := Lib.hid (show Bs wr.drew Any (.slice A8 4 c8) Y from HY.out)
            go_wp2_with fail
            go_still_tail 26, (by kernel_rfl)
            change wpList _ _ _ _ _ wr.drew
            generalize wr.drew = w1 at *
            have HT1 : Hid (Bs (w1.alloc (.cells #[.int .u8 (z1.toNat : Int), .int .u8 (y2.toNat : Int), .int .u8 (y3.toNat : Int), .int .u8 (y0.toNat : Int)] 5)) Any (.slice (some ⟨w1.heap.size, 0, none⟩) 4 4) T) := Lib.hid (by rw [HTX.out]; exact lit4 w1 z1 y2 y3 y0 rfl)
            have HX1 := Lib.hid (HXD.out.alloc (.cells #[.int .u8 (z1.toNat : Int), .int .u8 (y2.toNat : Int), .int .u8 (y3.toNat : Int), .int .u8 (y0.toNat : Int)] 5))
            have H51 := Lib.hid (H5D.out.no ((Ext.refl No w1).alloc (.cells #[.int .u8 (z1.toNat : Int), .int .u8 (y2.toNat : Int), .int .u8 (y3.toNat : Int), .int .u8 (y0.toNat : Int)] 5)))
            have HY1 := Lib.hid (HYD.out.ext_no ((Ext.refl No w1).alloc (.cells #[.int .u8 (z1.toNat : Int), .int .u8 (y2.toNat : Int), .int .u8 (y3.toNat : Int), .int .u8 (y0.toNat : Int)] 5)))
            have e81 : (w1.alloc (.cells #[.int .u8 (z1.toNat : Int), .int .u8 (y2.toNat : Int), .int .u8 (y3.toNat : Int), .int .u8 (y0.toNat : Int)] 5)).cell? ⟨g, n8, none⟩ = some (.slice A8 4 c8) := (Below.cell (Ext.below ((Ext.refl No w1).alloc _)) (World.block_lt_of_cell? w1 _ e8d)).trans e8d
            clear e8d d0 d1 d2 d3 xx c0 c1' c2' c3' u0 u1 u2 u3 e1
            go_wp2_with (go_at_call 92; go_must (generalize w1.alloc (.cells #[.int .u8 (z1.toNat : Int), .int .u8 (y2.toNat : Int), .int .u8 (y3.toNat : Int), .int .u8 (y0.toNat : Int)] 5) = wz at *; refine (HDB.out wz).mono ?_; rintro e6 w6 ⟨rfl, k6, rfl⟩; have HT2 := Lib.hid (HT1.out.drewN k6); have HX2 := Lib.hid (HX1.out.drewN k6); have H5 : Hid (OwR (wz.drewN k6) w.heap.size (.slice (some ⟨g, 0, none⟩) n c5) (WF n)) := Lib.hid H51.out; have HY2 := Lib.hid (HY1.out.drewN k6); have e82 : (wz.drewN k6).cell? ⟨g, n8, none⟩ = some (.slice A8 4 c8) := e81; have HBO := Lib.hid (rBoth_any (.slice A8 4 c8) (.slice (some ⟨w1.heap.size, 0, none⟩) 4 4) Y T (wz.drewN k6) HY2.out HT2.out (by rw [HYL.out, HTL.out]) (by rw [HYL.out]; omega)); rw [← HNE.out] at HBO; clear e81 HT1 HX1 H51 HY1))
            refine HBO.out.mono ?_
            rintro e8 w8 ⟨v8, rfl, ho8, hx8⟩
            obtain ⟨A9, c9, rfl, _⟩ := ho8.slice
            have HNL : Hid (N.length = 4) := Lib.hid (by rw [← HNW.out]; exact HFL.out n)
            rw [HNL.out] at ho8 ⊢
            have HO8 := Lib.hid ho8
            have H58 := Lib.hid (H5.out.no hx8)
            have HX8 := Lib.hid (HX2.out.trans hx8)
            clear ho8 hx8 HBO
            go_wp2_with ((with_reducible show wpList _ _ _ (⟨some 102, _, _, _, _, _⟩ :: _) _ _); go_must (refine app_row (.tmp 93) (.tmp 101) rfl rfl w.heap.size (.slice (some ⟨g, 0, none⟩) n c5) (.slice A9 4 c9) w8.heap.size (WF n) N rfl rfl (H58.out.no ((Ext.refl No w8).alloc _)) (Blk.new w8 _ _) ((HO8.out.bs.ext_no ((Ext.refl No w8).alloc _)).mono (fun b hb => .inr (by obtain ⟨_, _, cs, hh⟩ := hb; exact ⟨cs, hh.alloc _⟩))) (by rw [HWL.out]; omega) (by have := HX8.out.size; simp; omega) ?_); intro v9 w9 hr9 hg9; have HR9 : Hid (OwR w9 w.heap.size v9 (WF (n + 1))) := Lib.hid (by rw [HNW0.out, HNW.out]; exact hr9); have HX9 : Hid (Ext No w w9) := Lib.hid ((HX8.out.alloc _).grown hg9 (fun j hj hl => absurd hl (by have := (H58.out.lt j hj).1; omega))); clear hr9 hg9)
            go_roundw
            case rel => exact ⟨n + 1, by omega, by omega, by go_num, by rw [HRR.out], HR9, HX9⟩
            case measure => simp [intOf]; omega
          · have hrr : rc ((n + 1 + 7) / 8 - 1) = r := by rw [← hr, show (n + 1 + 7) / 8 - 1 = (n + 7) / 8 - 1 by omega]
            have HRR := Lib.hid hrr
            rw [hr]
            clear hr hrr
            have t0 : ((n : Int) % 8 == 0) = false := by simp; omega
            by_cases h4 : n % 8 = 4
            · have t4 : ((n : Int) % 8 == 4) = true := by simp; omega
              have HTX : Hid (T = [bx x0, bx x1, bx x2, bx x3]) := Lib.hid (by rw [← HTE.out]; unfold tw; rw [if_neg h0, if_pos h4]; rfl)
              have HTL : Hid (T.length = 4) := Lib.hid (by rw [HTX.out]; rfl)
              have d0 : wr.drew.cell? ⟨bb, bo + x0.toNat, none⟩ = _ := HBX.out wr HX.out x0
              have d1 : wr.drew.cell? ⟨bb, bo + x1.toNat, none⟩ = _ := HBX.out wr HX.out x1
              have d2 : wr.drew.cell? ⟨bb, bo + x2.toNat, none⟩ = _ := HBX.out wr HX.out x2
              have d3 : wr.drew.cell? ⟨bb, bo + x3.toNat, none⟩ = _ := HBX.out wr HX.out x3
              obtain ⟨y0, hy0⟩ : ∃ y, bx x0 = y := ⟨_, rfl⟩
              obtain ⟨y1, hy1⟩ : ∃ y, bx x1 = y := ⟨_, rfl⟩
              obtain ⟨y2, hy2⟩ : ∃ y, bx x2 = y := ⟨_, rfl⟩
              obtain ⟨y3, hy3⟩ : ∃ y, bx x3 = y := ⟨_, rfl⟩
              rw [hy0] at d0 HTX
              rw [hy1] at d1 HTX
              rw [hy2] at d2 HTX
              rw [hy3] at d3 HTX
              clear hy0 hy1 hy2 hy3
              have HXD := Lib.hid HX.out.drew
              have e8d : wr.drew.cell? ⟨g, n8, none⟩ = some (.slice A8 4 c8) := e8
              clear e8
              have H5D := Lib.hid (show OwR wr.drew w.heap.size (.slice (some ⟨g, 0, none⟩) n c5) (WF n) from HR.out)
              have HYD := Lib.hid (show Bs wr.drew Any (.slice A8 4 c8) Y from HY.out)
              go_wp2_with fail
              go_still_tail 24, (by kernel_rfl)
              change wpList _ _ _ _ _ wr.drew
              generalize wr.drew = w1 at *
              have HT2 : Hid (Bs (w1.alloc (.cells #[.int .u8 (y0.toNat : Int), .int .u8 (y1.toNat : Int), .int .u8 (y2.toNat : Int), .int .u8 (y3.toNat : Int)] 5)) Any (.slice (some ⟨w1.heap.size, 0, none⟩) 4 4) T) := Lib.hid (by rw [HTX.out]; exact lit4 w1 y0 y1 y2 y3 rfl)
              have HX2 := Lib.hid (HXD.out.alloc (.cells #[.int .u8 (y0.toNat : Int), .int .u8 (y1.toNat : Int), .int .u8 (y2.toNat : Int), .int .u8 (y3.toNat : Int)] 5))
              have H5 := Lib.hid (H5D.out.no ((Ext.refl No w1).alloc (.cells #[.int .u8 (y0.toNat : Int), .int .u8 (y1.toNat : Int), .int .u8 (y2.toNat : Int), .int .u8 (y3.toNat : Int)] 5)))
              have HY2 := Lib.hid (HYD.out.ext_no ((Ext.refl No w1).alloc (.cells #[.int .u8 (y0.toNat : Int), .int .u8 (y1.toNat : Int), .int .u8 (y2.toNat : Int), .int .u8 (y3.toNat : Int)] 5)))
              have e81 : (w1.alloc (.cells #[.int .u8 (y0.toNat : Int), .int .u8 (y1.toNat : Int), .int .u8 (y2.toNat : Int), .int .u8 (y3.toNat : Int)] 5)).cell? ⟨g, n8, none⟩ = some (.slice A8 4 c8) := (Below.cell (Ext.below ((Ext.refl No w1).alloc _)) (World.block_lt_of_cell? w1 _ e8d)).trans e8d
              clear e8d d0 d1 d2 d3 c0 c1' c2' c3' u0 u1 u2 u3 e1
              have HBO := Lib.hid (rBoth_any (.slice A8 4 c8) (.slice (some ⟨w1.heap.size, 0, none⟩) 4 4) Y T _ HY2.out HT2.out (by rw [HYL.out, HTL.out]) (by rw [HYL.out]; omega))
              rw [← HNE.out] at HBO
              go_wp2_with fail
              generalize w1.alloc (.cells #[.int .u8 (y0.toNat : Int), .int .u8 (y1.toNat : Int), .int .u8 (y2.toNat : Int), .int .u8 (y3.toNat : Int)] 5) = wz at *
              refine HBO.out.mono ?_
              rintro e8 w8 ⟨v8, rfl, ho8, hx8⟩
              obtain ⟨A9, c9, rfl, _⟩ := ho8.slice
              have HNL : Hid (N.length = 4) := Lib.hid (by rw [← HNW.out]; exact HFL.out n)
              rw [HNL.out] at ho8 ⊢
              have HO8 := Lib.hid ho8
              have H58 := Lib.hid (H5.out.no hx8)
              have HX8 := Lib.hid (HX2.out.trans hx8)
              clear ho8 hx8 HBO
              go_wp2_with ((with_reducible show wpList _ _ _ (⟨some 102, _, _, _, _, _⟩ :: _) _ _); go_must (refine app_row (.tmp 93) (.tmp 101) rfl rfl w.heap.size (.slice (some ⟨g, 0, none⟩) n c5) (.slice A9 4 c9) w8.heap.size (WF n) N rfl rfl (H58.out.no ((Ext.refl No w8).alloc _)) (Blk.new w8 _ _) ((HO8.out.bs.ext_no ((Ext.refl No w8).alloc _)).mono (fun b hb => .inr (by obtain ⟨_, _, cs, hh⟩ := hb; exact ⟨cs, hh.alloc _⟩))) (by rw [HWL.out]; omega) (by have := HX8.out.size; simp; omega) ?_); intro v9 w9 hr9 hg9; have HR9 : Hid (OwR w9 w.heap.size v9 (WF (n + 1))) := Lib.hid (by rw [HNW0.out, HNW.out]; exact hr9); have HX9 : Hid (Ext No w w9) := Lib.hid ((HX8.out.alloc _).grown hg9 (fun j hj hl => absurd hl (by have := (H58.out.lt j hj).1; omega))); clear hr9 hg9)
              go_roundw
              case rel => exact ⟨n + 1, by omega, by omega, by go_num, by rw [HRR.out], HR9, HX9⟩
              case measure => simp [intOf]; omega
            · have t4 : ((n : Int) % 8 == 4) = false := by simp; omega
              have HTX : Hid (T = [x0, x1, x2, x3]) := Lib.hid (by rw [← HTE.out]; unfold tw; rw [if_neg h0, if_neg h4])
              have HTL : Hid (T.length = 4) := Lib.hid (by rw [HTX.out]; rfl)
              have HX2 := HX
              have H5 : Hid (OwR wr w.heap.size (.slice (some ⟨g, 0, none⟩) n c5) (WF n)) := HR
              have HT2 : Hid (Bs wr Any (.slice (some ⟨xb, xo, none⟩) 4 c1) T) := Lib.hid (by rw [HTX.out]; exact HX1'.out)
              have HBO := Lib.hid (rBoth_any (.slice A8 4 c8) (.slice (some ⟨xb, xo, none⟩) 4 c1) Y T wr HY.out HT2.out (by rw [HYL.out, HTL.out]) (by rw [HYL.out]; omega))
              rw [← HNE.out] at HBO
              clear c0 c1' c2' c3' u0 u1 u2 u3
              go_wp2_with fail
              refine HBO.out.mono ?_
              rintro e8 w8 ⟨v8, rfl, ho8, hx8⟩
              obtain ⟨A9, c9, rfl, _⟩ := ho8.slice
              have HNL : Hid (N.length = 4) := Lib.hid (by rw [← HNW.out]; exact HFL.out n)
              rw [HNL.out] at ho8 ⊢
              have HO8 := Lib.hid ho8
              have H58 := Lib.hid (H5.out.no hx8)
              have HX8 := Lib.hid (HX2.out.trans hx8)
              clear ho8 hx8 HBO
              go_wp2_with ((with_reducible show wpList _ _ _ (⟨some 102, _, _, _, _, _⟩ :: _) _ _); go_must (refine app_row (.tmp 93) (.tmp 101) rfl rfl w.heap.size (.slice (some ⟨g, 0, none⟩) n c5) (.slice A9 4 c9) w8.heap.size (WF n) N rfl rfl (H58.out.no ((Ext.refl No w8).alloc _)) (Blk.new w8 _ _) ((HO8.out.bs.ext_no ((Ext.refl No w8).alloc _)).mono (fun b hb => .inr (by obtain ⟨_, _, cs, hh⟩ := hb; exact ⟨cs, hh.alloc _⟩))) (by rw [HWL.out]; omega) (by have := HX8.out.size; simp; omega) ?_); intro v9 w9 hr9 hg9; have HR9 : Hid (OwR w9 w.heap.size v9 (WF (n + 1))) := Lib.hid (by rw [HNW0.out, HNW.out]; exact hr9); have HX9 : Hid (Ext No w w9) := Lib.hid ((HX8.out.alloc _).grown hg9 (fun j hj hl => absurd hl (by have := (H58.out.lt j hj).1; omega))); clear hr9 hg9)
              go_roundw
              case rel => exact ⟨n + 1, by omega, by omega, by go_num, by rw [HRR.out], HR9, HX9⟩
              case measure => simp [intOf]; omega
        · obtain rfl : n = 60 := by omega
          obtain ⟨vA5, vc5, rfl, -⟩ := HR.out.slice
          go_wp2_with fail
          go_ret
          exact ⟨_, rfl, HR.out.parts, HX.out⟩
end Go.Proofs.Ytljddghamgjfbaa
