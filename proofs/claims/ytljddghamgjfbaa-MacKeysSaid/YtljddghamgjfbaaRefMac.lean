/- Chapter 3's reference: turned, Of. -/
import Derived.Test.YtljddghamgjfbaaMac
import Derived.Test.YtljddghamgjfbaaRefShaSum
set_option linter.unusedVariables false
set_option linter.unusedSimpArgs false
namespace Go.Proofs.Ytljddghamgjfbaa
open Go.RowKit Go.Deep Go.Proofs.YtljddghamgjfbaaW.PrintWords Sh Rs

theorem kx_step (key : List UInt8) (x : UInt8) (j : Nat) (h : j < 64) : (kx key x).take (j + 1) = (kx key x).take j ++ [if j < (kshort key).length then (kshort key).getD j 0 ^^^ x else x] := by
  have hl : j < (kx key x).length := by rw [kx_len]; exact h
  rw [List.take_succ_eq_append_getElem hl]
  congr 2
  simp only [kx, kbl, List.getElem_map, List.getElem_append]
  split
  · next hj => rw [List.getD_eq_getElem?_getD, List.getElem?_eq_getElem hj]; rfl
  · next hj => rw [List.getElem_replicate]; simp
set_option maxRecDepth 100000 in
set_option maxHeartbeats 4000000 in
theorem rTurned_any (v : Value) (key : List UInt8) (x : UInt8) (w : World) (h : Bs w Any v key) (hb : key.length < 1000000) : Calls Try.prog 94 #[v, .int .u8 (x.toNat : Int)] w fun e w' => ∃ v', e = .returned v' ∧ Own w' w.heap.size v' (kx key x) ∧ Ext No w w' := by
  obtain ⟨A, c, rfl, hc, hmx, -⟩ := h.slice
  unfold maxLen at hmx
  have HK := Lib.hid h
  clear h
  go_enter Try.func94, Try.ntmps94
  by_cases hl : 64 < key.length
  · have hks : kshort key = sha key := by unfold kshort; rw [if_pos hl]
    have HSM := Lib.hid (rSum_any (.slice A key.length c) key w HK.out hb)
    have HSL := Lib.hid (sha_length key)
    obtain ⟨D, hD⟩ : ∃ D, sha key = D := ⟨_, rfl⟩
    rw [hD] at hks HSM HSL
    have HKS := Lib.hid hks
    clear hD hks
    go_wp2_with (go_at_call 39; refine HSM.out.mono ?_; rintro e4 w4 ⟨bv, rfl, hb4, hx4⟩; obtain ⟨bA, bc, eb, -⟩ := hb4.slice; rw [HSL.out] at eb; subst eb; have HB4 := Lib.hid hb4; have HX5 := Lib.hid hx4; clear hb4 hx4)
    obtain ⟨w5, hw5⟩ : ∃ x, w4 = x := ⟨_, rfl⟩
    rw [hw5] at HB4 HX5
    have HB5 := HB4
    have HG5 := Lib.hid HX5.out.size
    clear HSM
    go_loopw [6, 7] (fun y i wr => ∃ j : Nat, j ≤ 64 ∧ i = .int .i64 ((j : Nat) : Int) ∧ Hid (Own wr w5.heap.size y ((kx key x).take j)) ∧ Hid (Ext No w5 wr)) (fun _ i _ => 64 - (intOf i).toNat)
    case atStart => exact ⟨0, by omega, rfl, Lib.hid (Own.nil _ _), Lib.hid (by rw [hw5]; exact Ext.refl _ _)⟩
    case round =>
      obtain ⟨j, hj, rfl, HY, HX⟩ := hrel
      by_cases hlt : j < 64
      · have HXW := Lib.hid (HX5.out.trans HX.out)
        by_cases hlb : j < 32
        · obtain ⟨A', c', e', -, -, b', o', hh⟩ := (HB5.out.ext_no HX.out).slice
          injection e' with e1 e2 e3
          obtain ⟨h1, _, _, hcl⟩ := hh j (by first | exact hlb | omega)
          rw [h1] at e1
          subst e1 e3
          have HS := Lib.hid (kx_step key x j hlt)
          have hgk : (kshort key).getD j 0 = D[j]'(by first | exact hlb | omega) := by rw [HKS.out, List.getD_eq_getElem?_getD, List.getElem?_eq_getElem (by have := HSL.out; omega)]; rfl
          rw [if_pos (by rw [HKS.out, HSL.out]; exact hlb), hgk] at HS
          have hxb := xor_b (D[j]'(by first | exact hlb | omega)) x
          obtain ⟨kb, hkb⟩ : ∃ b, D[j]'(by first | exact hlb | omega) = b := ⟨_, rfl⟩
          rw [hkb] at hcl hxb HS
          obtain ⟨xb, hxbe⟩ : ∃ b, kb ^^^ x = b := ⟨_, rfl⟩
          rw [hxbe] at hxb HS
          have HXB := Lib.hid hxb
          have HTL : Hid (((kx key x).take j).length ≤ 64) := Lib.hid (by rw [List.length_take]; omega)
          clear hh hgk hkb hxbe h1 e2
          go_wp2_with (at_builtin; go_must (refine app_bytes (.tmp 22) (.tmp 29) rfl rfl w5.heap.size u6 _ _ [xb] rfl rfl (HY.out.alloc _) _ (bs_lit1' wr _ xb (by first | exact HXB.out | rfl)) (by have := HTL.out; simp only [List.length_singleton]; omega) (by have := HX.out.size; simp; omega) ?_); intro v6 w6 ho6 hg6 hat6; have HY6 := Lib.hid ho6; have HX6 : Hid (Ext No w5 w6) := Lib.hid ((HX.out.alloc _).grown hg6 (fun i hi hl => absurd hl (by have := (HY.out.lt i hi).1; have := HG5.out; omega))); clear ho6 hg6 hat6)
          go_roundw
          case rel => exact ⟨j + 1, by omega, by go_num, by rw [HS.out]; exact HY6, HX6⟩
          case measure => simp [intOf]; omega
        · have HS := Lib.hid (kx_step key x j hlt)
          rw [if_neg (by rw [HKS.out, HSL.out]; exact hlb)] at HS
          have HTL : Hid (((kx key x).take j).length ≤ 64) := Lib.hid (by rw [List.length_take]; omega)
          go_wp2_with (at_builtin; go_must (refine app_bytes (.tmp 31) (.tmp 33) rfl rfl w5.heap.size u6 _ _ [x] rfl rfl (HY.out.alloc _) _ (bs_lit1' wr _ x rfl) (by have := HTL.out; simp only [List.length_singleton]; omega) (by have := HX.out.size; simp; omega) ?_); intro v6 w6 ho6 hg6 hat6; have HY6 := Lib.hid ho6; have HX6 : Hid (Ext No w5 w6) := Lib.hid ((HX.out.alloc _).grown hg6 (fun i hi hl => absurd hl (by have := (HY.out.lt i hi).1; have := HG5.out; omega))); clear ho6 hg6 hat6)
          go_roundw
          case rel => exact ⟨j + 1, by omega, by go_num, by rw [HS.out]; exact HY6, HX6⟩
          case measure => simp [intOf]; omega
      · obtain rfl : j = 64 := by omega
        go_wp2_with fail
        go_ret
        exact ⟨_, rfl, by rw [← List.take_of_length_le (l := kx key x) (i := 64) (by rw [kx_len]; omega)]; exact HY.out.less HG5.out, HX5.out.trans HX.out⟩
  · have hks : kshort key = key := by unfold kshort; rw [if_neg hl]
    have HKS := Lib.hid hks
    clear hks
    go_wp2_with fail
    obtain ⟨w5, hw5⟩ : ∃ x, w = x := ⟨_, rfl⟩
    have HB5 : Hid (Bs w5 Any (.slice A key.length c) key) := Lib.hid (by rw [← hw5]; exact HK.out)
    have HX5 : Hid (Ext No w w5) := Lib.hid (by rw [← hw5]; exact Ext.refl _ _)
    have HG5 := Lib.hid HX5.out.size
    go_loopw [6, 7] (fun y i wr => ∃ j : Nat, j ≤ 64 ∧ i = .int .i64 ((j : Nat) : Int) ∧ Hid (Own wr w5.heap.size y ((kx key x).take j)) ∧ Hid (Ext No w5 wr)) (fun _ i _ => 64 - (intOf i).toNat)
    case atStart => exact ⟨0, by omega, rfl, Lib.hid (Own.nil _ _), Lib.hid (by rw [hw5]; exact Ext.refl _ _)⟩
    case round =>
      obtain ⟨j, hj, rfl, HY, HX⟩ := hrel
      by_cases hlt : j < 64
      · have HXW := Lib.hid (HX5.out.trans HX.out)
        by_cases hlb : j < key.length
        · obtain ⟨A', c', e', -, -, b', o', hh⟩ := (HB5.out.ext_no HX.out).slice
          injection e' with e1 e2 e3
          obtain ⟨h1, _, _, hcl⟩ := hh j (by first | exact hlb | omega)
          rw [h1] at e1
          subst e1 e3
          have HS := Lib.hid (kx_step key x j hlt)
          have hgk : (kshort key).getD j 0 = key[j]'(by first | exact hlb | omega) := by rw [HKS.out, List.getD_eq_getElem?_getD, List.getElem?_eq_getElem (by omega)]; rfl
          rw [if_pos (by rw [HKS.out]; exact hlb), hgk] at HS
          have hxb := xor_b (key[j]'(by first | exact hlb | omega)) x
          obtain ⟨kb, hkb⟩ : ∃ b, key[j]'(by first | exact hlb | omega) = b := ⟨_, rfl⟩
          rw [hkb] at hcl hxb HS
          obtain ⟨xb, hxbe⟩ : ∃ b, kb ^^^ x = b := ⟨_, rfl⟩
          rw [hxbe] at hxb HS
          have HXB := Lib.hid hxb
          have HTL : Hid (((kx key x).take j).length ≤ 64) := Lib.hid (by rw [List.length_take]; omega)
          clear hh hgk hkb hxbe h1 e2
          go_wp2_with (at_builtin; go_must (refine app_bytes (.tmp 22) (.tmp 29) rfl rfl w5.heap.size u6 _ _ [xb] rfl rfl (HY.out.alloc _) _ (bs_lit1' wr _ xb (by first | exact HXB.out | rfl)) (by have := HTL.out; simp only [List.length_singleton]; omega) (by have := HX.out.size; simp; omega) ?_); intro v6 w6 ho6 hg6 hat6; have HY6 := Lib.hid ho6; have HX6 : Hid (Ext No w5 w6) := Lib.hid ((HX.out.alloc _).grown hg6 (fun i hi hl => absurd hl (by have := (HY.out.lt i hi).1; have := HG5.out; omega))); clear ho6 hg6 hat6)
          go_roundw
          case rel => exact ⟨j + 1, by omega, by go_num, by rw [HS.out]; exact HY6, HX6⟩
          case measure => simp [intOf]; omega
        · have HS := Lib.hid (kx_step key x j hlt)
          rw [if_neg (by rw [HKS.out]; exact hlb)] at HS
          have HTL : Hid (((kx key x).take j).length ≤ 64) := Lib.hid (by rw [List.length_take]; omega)
          go_wp2_with (at_builtin; go_must (refine app_bytes (.tmp 31) (.tmp 33) rfl rfl w5.heap.size u6 _ _ [x] rfl rfl (HY.out.alloc _) _ (bs_lit1' wr _ x rfl) (by have := HTL.out; simp only [List.length_singleton]; omega) (by have := HX.out.size; simp; omega) ?_); intro v6 w6 ho6 hg6 hat6; have HY6 := Lib.hid ho6; have HX6 : Hid (Ext No w5 w6) := Lib.hid ((HX.out.alloc _).grown hg6 (fun i hi hl => absurd hl (by have := (HY.out.lt i hi).1; have := HG5.out; omega))); clear ho6 hg6 hat6)
          go_roundw
          case rel => exact ⟨j + 1, by omega, by go_num, by rw [HS.out]; exact HY6, HX6⟩
          case measure => simp [intOf]; omega
      · obtain rfl : j = 64 := by omega
        go_wp2_with fail
        go_ret
        exact ⟨_, rfl, by rw [← List.take_of_length_le (l := kx key x) (i := 64) (by rw [kx_len]; omega)]; exact HY.out.less HG5.out, HX5.out.trans HX.out⟩
set_option maxRecDepth 100000 in
set_option maxHeartbeats 4000000 in
theorem rMacOf_own (kv tv : Value) (key text : List UInt8) (w : World) (hk : Bs w Any kv key) (ht : Bs w Any tv text) (hb : key.length < 1000000) (hb2 : text.length < 900000) : Calls Try.prog 56 #[kv, tv] w fun e w' => ∃ v', e = .returned v' ∧ Own w' w.heap.size v' (hmac key text) ∧ Ext No w w' := by
  have HT1 : Hid (∀ (wx : World), Ext No w wx → Calls Try.prog 94 #[kv, .int .u8 54] wx fun e w' => ∃ v', e = .returned v' ∧ Own w' wx.heap.size v' (kx key 54) ∧ Ext No wx w') := Lib.hid (fun wx hx => by
    have := rTurned_any kv key 54 wx (hk.ext_no hx) hb
    rwa [show (((54 : UInt8).toNat : Nat) : Int) = 54 from rfl] at this)
  have HT2 : Hid (∀ (wx : World), Ext No w wx → Calls Try.prog 94 #[kv, .int .u8 92] wx fun e w' => ∃ v', e = .returned v' ∧ Own w' wx.heap.size v' (kx key 92) ∧ Ext No wx w') := Lib.hid (fun wx hx => by
    have := rTurned_any kv key 92 wx (hk.ext_no hx) hb
    rwa [show (((92 : UInt8).toNat : Nat) : Int) = 92 from rfl] at this)
  have HTX := Lib.hid ht
  have HTL := Lib.hid hb2
  obtain ⟨D1, hD1⟩ : ∃ D, sha (kx key 54 ++ text) = D := ⟨_, rfl⟩
  obtain ⟨D2, hD2⟩ : ∃ D, sha (kx key 92 ++ D1) = D := ⟨_, rfl⟩
  have HDM : Hid (hmac key text = D2) := Lib.hid (by unfold hmac; rw [hD1, hD2])
  have HDL1 : Hid (D1.length = 32) := Lib.hid (by rw [← hD1]; exact sha_length _)
  have HD1 := Lib.hid hD1
  have HD2 := Lib.hid hD2
  have HX0 := Lib.hid (Ext.refl No w)
  clear hD1 hD2 hk ht hb hb2
  go_enter Try.func56, Try.ntmps56
  go_wp2_with (first
    | (go_at_call 94; (with_reducible refine (HT1.out _ HX0.out).mono ?_); rintro e1 w1 ⟨v1, rfl, ho1, hx1⟩; have HO1 := Lib.hid ho1; have HX1 := Lib.hid hx1; clear ho1 hx1)
    | (at_builtin; (refine app_bytes (.tmp 7) (.tmp 8) rfl rfl w.heap.size v1 _ _ text rfl rfl HO1.out _ (HTX.out.ext_no HX1.out) (by rw [kx_len]; have := HTL.out; omega) HX1.out.size ?_); intro v2 w2 ho2 hg2 hat2; have HO2 := Lib.hid ho2.any; have HX2 : Hid (Ext No w w2) := Lib.hid (HX1.out.grown hg2 (fun i hi hl => absurd hl (by have := (HO1.out.lt i hi).1; omega))); clear ho2 hg2 hat2)
    | (go_at_call 39; (with_reducible refine (rSum_any v2 _ w2 HO2.out (by rw [List.length_append, kx_len]; have := HTL.out; omega)).mono ?_); rintro e3 w3 ⟨v3, rfl, hb3, hx3⟩; rw [HD1.out] at hb3; have HB3 := Lib.hid hb3; have HX3 := Lib.hid (HX2.out.trans hx3); clear hb3 hx3)
    | (go_at_call 94; (with_reducible refine (HT2.out _ HX3.out).mono ?_); rintro e4 w4 ⟨v4, rfl, ho4, hx4⟩; have HO4 := Lib.hid ho4; have HX4 := Lib.hid hx4; have HX4' := Lib.hid (HX3.out.trans hx4); clear ho4 hx4)
    | (at_builtin; (refine app_bytes (.tmp 12) (.tmp 13) rfl rfl w3.heap.size v4 _ _ D1 rfl rfl HO4.out _ (HB3.out.ext_no HX4.out) (by rw [kx_len]; have := HDL1.out; omega) HX4.out.size ?_); intro v5 w5 ho5 hg5 hat5; have HO5 := Lib.hid ho5.any; have HX5 : Hid (Ext No w w5) := Lib.hid (HX4'.out.grown hg5 (fun i hi hl => absurd hl (by have := (HO4.out.lt i hi).1; have := HX3.out.size; omega))); clear ho5 hg5 hat5)
    | (go_at_call 39; (with_reducible refine (rSum_own v5 _ w5 HO5.out (by rw [List.length_append, kx_len]; have := HDL1.out; omega)).mono ?_); rintro e6 w6 ⟨v6, rfl, hb6, hx6⟩; rw [HD2.out] at hb6; have hb6 := hb6.less HX5.out.size; have HB6 := Lib.hid hb6; have HX6 := Lib.hid (HX5.out.trans hx6); clear hb6 hx6))
  go_ret
  exact ⟨_, rfl, by rw [HDM.out]; exact HB6.out, HX6.out⟩
theorem rMacOf_any (kv tv : Value) (key text : List UInt8) (w : World) (hk : Bs w Any kv key) (ht : Bs w Any tv text) (hb : key.length < 1000000) (hb2 : text.length < 900000) : Calls Try.prog 56 #[kv, tv] w fun e w' => ∃ v', e = .returned v' ∧ Bs w' Any v' (hmac key text) ∧ Ext No w w' :=
  (rMacOf_own kv tv key text w hk ht hb hb2).mono fun _ _ ⟨v', e, ho, hx⟩ => ⟨v', e, ho.any, hx⟩
end Go.Proofs.Ytljddghamgjfbaa
