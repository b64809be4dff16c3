/- The laws of chapter 3: Derive, works. -/
import Derived.Test.YtljddghamgjfbaaMac
import Derived.Test.YtljddghamgjfbaaLaw02
set_option linter.unusedVariables false
set_option linter.unusedSimpArgs false
namespace Go.Proofs.Ytljddghamgjfbaa
open Go.RowKit Go.Deep Go.Proofs.YtljddghamgjfbaaW.PrintWords Sh Rs

set_option maxRecDepth 100000 in
set_option maxHeartbeats 4000000 in
theorem mDerive_any (tv sv v : Value) (n : Int) (text salt : List UInt8) (ls : List (List UInt8)) (w : World) (ht : Bs w Any tv text) (hs : Bs w Any sv salt) (hb1 : text.length ≤ 1000000) (hb2 : salt.length ≤ 1000000) (h : Parts w Any v ls) (hl : ls.length ≤ 100000) (hb : ls.flatten.length ≤ 900000) :
    Calls Try.prog 61 #[tv, sv, .int .i64 n, v] w fun e w' => ∃ v', e = .returned v' ∧ Bs w' Any v' (expandI (hmac salt text) n ls.flatten) ∧ Ext No w w' := by
  have HE := Lib.hid (mExtract_any sv tv salt text w hs ht hb2 hb1)
  have HP := Lib.hid h
  have HB := Lib.hid hb
  have hdl := hmac_len salt text
  obtain ⟨D, hD⟩ : ∃ D, hmac salt text = D := ⟨_, rfl⟩
  rw [hD] at HE hdl ⊢
  have HDL := Lib.hid hdl
  clear ht hs h hb hD hdl
  go_enter Try.func61, Try.ntmps61
  go_wp2_with (first
    | (go_at_call 58; refine HE.out.mono ?_; rintro e1 w1 ⟨A1, c1, rfl, hb1', hx1⟩; have HB1 := Lib.hid hb1'; have HX1 := Lib.hid hx1; clear hb1' hx1)
    | (go_at_call 59; refine (mExpand_any _ v n D ls w1 HB1.out (by have := HDL.out; omega) (HP.out.ext_no HX1.out) hl HB.out).mono ?_; rintro e2 w2 ⟨v2, rfl, hb2', hx2⟩; have HB2 := Lib.hid hb2'; have HX2 := Lib.hid (HX1.out.trans hx2); clear hb2' hx2))
  go_ret
  exact ⟨_, rfl, HB2.out, HX2.out⟩
abbrev s03 : ByteArray := ⟨#[53, 98, 100, 99, 99, 49, 52, 54, 98, 102, 54, 48, 55, 53, 52, 101, 54, 97, 48, 52, 50, 52, 50, 54, 48, 56, 57, 53, 55, 53, 99, 55, 53, 97, 48, 48, 51, 102, 48, 56, 57, 100, 50, 55, 51, 57, 56, 51, 57, 100, 101, 99, 53, 56, 98, 57, 54, 52, 101, 99, 51, 56, 52, 51]⟩
theorem hex03 : PMacKeys.octet_Hex.f 40 (i8 (hmac [74, 101, 102, 101] ([119, 104, 97, 116, 32, 100, 111, 32, 121, 97, 32, 119, 97, 110, 116, 32] ++ [102, 111, 114, 32, 110, 111, 116, 104, 105, 110, 103, 63]))) = some s03 := by kernel_rfl
theorem Parts.none (w : World) : Parts w Any (.slice none 0 0) [] := ⟨[], Sl.nil w Any 1, fun i hi => absurd hi (by simp)⟩
theorem expandI_len (key info : List UInt8) (m : Nat) (h : m ≤ 8160) : (expandI key (m : Int) info).length = m := by
  unfold expandI
  rw [if_neg (by omega), expand_len]; omega
theorem mExpand_len (kv : Value) (key : List UInt8) (m : Nat) (h : m ≤ 8160) (w : World) (hk : Bs w Any kv key) (hkb : key.length ≤ 1000000) :
    Calls Try.prog 59 #[kv, .int .i64 (m : Int), .slice none 0 0] w fun e w' => ∃ A c, e = .returned (.slice A m c) ∧ Ext No w w' := by
  refine (mExpand_any kv (.slice none 0 0) (m : Int) key [] w hk hkb (Parts.none w) (by simp) (by simp)).mono ?_
  rintro e w' ⟨v', rfl, hb, hx⟩
  obtain ⟨A, c, rfl, -⟩ := hb.slice
  rw [expandI_len _ _ _ h]
  exact ⟨A, c, rfl, hx⟩
theorem mDerive_len (m : Nat) (h : m ≤ 8160) (w : World) :
    Calls Try.prog 61 #[.slice none 0 0, .slice none 0 0, .int .i64 (m : Int), .slice none 0 0] w fun e w' => ∃ A c, e = .returned (.slice A m c) ∧ Ext No w w' := by
  refine (mDerive_any (.slice none 0 0) (.slice none 0 0) (.slice none 0 0) (m : Int) [] [] [] w (Bs.nil _ _) (Bs.nil _ _) (by simp) (by simp) (Parts.none w) (by simp) (by simp)).mono ?_
  rintro e w' ⟨v', rfl, hb, hx⟩
  obtain ⟨A, c, rfl, -⟩ := hb.slice
  rw [expandI_len _ _ _ h]
  exact ⟨A, c, rfl, hx⟩
set_option maxRecDepth 100000 in
set_option maxHeartbeats 4000000 in
theorem works03 (w : World) : Calls Try.prog 54 #[] w fun e' w' => e' = .returned (.bool true) ∧ Ext No w w' := by
  have hcv := run_conv_new #[.int .u8 74, .int .u8 101, .int .u8 102, .int .u8 101] 4 4
  have hcv2 := run_conv_new #[.int .u8 119, .int .u8 104, .int .u8 97, .int .u8 116, .int .u8 32, .int .u8 100, .int .u8 111, .int .u8 32, .int .u8 121, .int .u8 97, .int .u8 32, .int .u8 119, .int .u8 97, .int .u8 110, .int .u8 116, .int .u8 32] 16 16
  have hcv3 := run_conv_new #[.int .u8 102, .int .u8 111, .int .u8 114, .int .u8 32, .int .u8 110, .int .u8 111, .int .u8 116, .int .u8 104, .int .u8 105, .int .u8 110, .int .u8 103, .int .u8 63] 12 12
  have hcv4 := run_conv_new #[.int .u8 107] 1 1
  obtain ⟨wa, hwa⟩ : ∃ x, strLit w #[.int .u8 74, .int .u8 101, .int .u8 102, .int .u8 101] = x := ⟨_, rfl⟩
  have hs1 : wa.heap.size = w.heap.size + 1 := by rw [← hwa]; simp
  have hx1 : Ext No w wa := by rw [← hwa]; exact (Ext.refl No w).strLit _
  have hb1 : Bs wa Any (.slice (some ⟨w.heap.size, 0, none⟩) 4 4) [74, 101, 102, 101] := by rw [← hwa]; exact (bs_strLit w [74, 101, 102, 101] (by unfold maxLen; decide) rfl).any
  have hb2 : Bs (strLit wa #[.int .u8 119, .int .u8 104, .int .u8 97, .int .u8 116, .int .u8 32, .int .u8 100, .int .u8 111, .int .u8 32, .int .u8 121, .int .u8 97, .int .u8 32, .int .u8 119, .int .u8 97, .int .u8 110, .int .u8 116, .int .u8 32]) Any (.slice (some ⟨wa.heap.size, 0, none⟩) 16 16) [119, 104, 97, 116, 32, 100, 111, 32, 121, 97, 32, 119, 97, 110, 116, 32] := (bs_strLit wa [119, 104, 97, 116, 32, 100, 111, 32, 121, 97, 32, 119, 97, 110, 116, 32] (by unfold maxLen; decide) rfl).any
  have hb3 : Bs (strLit (strLit wa #[.int .u8 119, .int .u8 104, .int .u8 97, .int .u8 116, .int .u8 32, .int .u8 100, .int .u8 111, .int .u8 32, .int .u8 121, .int .u8 97, .int .u8 32, .int .u8 119, .int .u8 97, .int .u8 110, .int .u8 116, .int .u8 32]) #[.int .u8 102, .int .u8 111, .int .u8 114, .int .u8 32, .int .u8 110, .int .u8 111, .int .u8 116, .int .u8 104, .int .u8 105, .int .u8 110, .int .u8 103, .int .u8 63]) Any (.slice (some ⟨wa.heap.size + 1, 0, none⟩) 12 12) [102, 111, 114, 32, 110, 111, 116, 104, 105, 110, 103, 63] := (bs_strLit (strLit wa #[.int .u8 119, .int .u8 104, .int .u8 97, .int .u8 116, .int .u8 32, .int .u8 100, .int .u8 111, .int .u8 32, .int .u8 121, .int .u8 97, .int .u8 32, .int .u8 119, .int .u8 97, .int .u8 110, .int .u8 116, .int .u8 32]) [102, 111, 114, 32, 110, 111, 116, 104, 105, 110, 103, 63] (by unfold maxLen; decide) (by simp)).any
  have hx2 := ((Ext.refl No wa).strLit #[.int .u8 119, .int .u8 104, .int .u8 97, .int .u8 116, .int .u8 32, .int .u8 100, .int .u8 111, .int .u8 32, .int .u8 121, .int .u8 97, .int .u8 32, .int .u8 119, .int .u8 97, .int .u8 110, .int .u8 116, .int .u8 32]).strLit #[.int .u8 102, .int .u8 111, .int .u8 114, .int .u8 32, .int .u8 110, .int .u8 111, .int .u8 116, .int .u8 104, .int .u8 105, .int .u8 110, .int .u8 103, .int .u8 63]
  have hx3 := hx2.alloc (.cells #[.slice (some ⟨wa.heap.size, 0, none⟩) 16 16, .slice (some ⟨wa.heap.size + 1, 0, none⟩) 12 12] 27)
  have hp := Parts.lit2 (F := Any) (g := wa.heap.size + 1 + 1) (hb2.ext_no ((Ext.refl No _).strLit #[.int .u8 102, .int .u8 111, .int .u8 114, .int .u8 32, .int .u8 110, .int .u8 111, .int .u8 116, .int .u8 104, .int .u8 105, .int .u8 110, .int .u8 103, .int .u8 63])) hb3 trivial (by simp)
  have HOF := Lib.hid (mOf_any _ _ _ _ _ (hb1.ext_no hx3) (by decide) hp (by decide) (by decide))
  have hhx := hex03
  rw [show ([[119, 104, 97, 116, 32, 100, 111, 32, 121, 97, 32, 119, 97, 110, 116, 32], [102, 111, 114, 32, 110, 111, 116, 104, 105, 110, 103, 63]] : List (List UInt8)).flatten = [119, 104, 97, 116, 32, 100, 111, 32, 121, 97, 32, 119, 97, 110, 116, 32] ++ [102, 111, 114, 32, 110, 111, 116, 104, 105, 110, 103, 63] by simp] at HOF
  have hdl := hmac_len [74, 101, 102, 101] ([119, 104, 97, 116, 32, 100, 111, 32, 121, 97, 32, 119, 97, 110, 116, 32] ++ [102, 111, 114, 32, 110, 111, 116, 104, 105, 110, 103, 63])
  obtain ⟨D, hD⟩ : ∃ D, hmac [74, 101, 102, 101] ([119, 104, 97, 116, 32, 100, 111, 32, 121, 97, 32, 119, 97, 110, 116, 32] ++ [102, 111, 114, 32, 110, 111, 116, 104, 105, 110, 103, 63]) = D := ⟨_, rfl⟩
  rw [hD] at hhx HOF hdl
  have HHX := Lib.hid hhx
  have HDL := Lib.hid (show (u8s D).toArray.size = 32 by rw [List.size_toArray, u8s_length]; exact hdl)
  have HDE := Lib.hid hdl
  have HX1 := Lib.hid (hx1.trans hx3)
  clear hD hhx hdl hp hb1 hb2 hb3 hx1 hx2 hx3 hs1
  go_enter Try.func54, Try.ntmps54
  go_wp2_with fail
  refine HOF.out.mono ?_
  rintro e2 w2 ⟨rfl, hx2⟩
  have HX2 := Lib.hid (HX1.out.trans hx2)
  clear HOF HX1 hx2 hcv hcv2 hcv3
  have HB3 := Lib.hid (Blk.new w2 45 (u8s (List.replicate 32 0)).toArray)
  have HX3 := Lib.hid (HX2.out.alloc (.cells (u8s (List.replicate 32 0)).toArray 45))
  go_wp2_with (first
    | ((with_reducible show wpList _ _ _ _ _ _); refine store_blk (o := ⟨none, _, _, _, _, _⟩) 45 (.tmp 1) (.tmp 9) rfl rfl HB3.out rfl rfl (by rw [HDL.out]; rfl) (by rw [HDL.out]; exact size_b32) (u8s_one' _) ?_; intro w9 hb9 hx9; have HB9 := Lib.hid (Bs.whole' hb9 (n := 32) (c := 32) HDE.out.symm (Nat.le_refl _) (by unfold maxLen; decide)).any; have HX9 := Lib.hid (HX3.out.transS hx9 (fun i hi h => absurd hi (by have h' : i = w2.heap.size := h; have := HX2.out.size; omega))); clear hb9 hx9)
    | (go_at_call 75; refine (lHex _ D 40 s03 w9 HB9.out HHX.out).mono ?_; rintro e10 w10 ⟨rfl, hx10⟩; have HX10 := Lib.hid (HX9.out.trans hx10); have HX11 := Lib.hid (HX10.out.strLit #[.int .u8 107]); have HB11 : Hid (Bs (strLit w10 #[.int .u8 107]) Any (.slice (some ⟨w10.heap.size, 0, none⟩) 1 1) [107]) := Lib.hid (bs_strLit w10 [107] (by unfold maxLen; decide) rfl).any; clear hx10)
    | (go_at_call 59; refine (mExpand_len _ [107] 40 (by decide) _ HB11.out (by decide)).mono ?_; rintro e12 w12 ⟨A12, c12, rfl, hx12⟩; have HX12 := Lib.hid (HX11.out.trans hx12); clear hx12)
    | (go_at_call 58; refine (mExtract_any (.slice none 0 0) (.slice none 0 0) [] [] w12 (Bs.nil _ _) (Bs.nil _ _) (by decide) (by decide)).mono ?_; rintro e13 w13 ⟨A13, c13, rfl, -, hx13⟩; have HX13 := Lib.hid (HX12.out.trans hx13); clear hx13)
    | (go_at_call 61; refine (mDerive_len 3 (by decide) w13).mono ?_; rintro e14 w14 ⟨A14, c14, rfl, hx14⟩; have HX14 := Lib.hid (HX13.out.trans hx14); clear hx14))
  go_ret
  exact ⟨rfl, HX14.out⟩
end Go.Proofs.Ytljddghamgjfbaa
