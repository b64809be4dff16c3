/- The laws of chapter 2: works. -/
import Derived.Test.YtljddghamgjfbaaRefShaSum
import Derived.Test.YtljddghamgjfbaaLit
import Derived.Test.YtljddghamgjfbaaOpenBytes
set_option linter.unusedVariables false
set_option linter.unusedSimpArgs false
namespace Go.Proofs.Ytljddghamgjfbaa
open Go.RowKit Go.Deep Go.Proofs.YtljddghamgjfbaaW.PrintWords Sh Rs

abbrev s02 : ByteArray := ⟨#[98, 97, 55, 56, 49, 54, 98, 102, 56, 102, 48, 49, 99, 102, 101, 97, 52, 49, 52, 49, 52, 48, 100, 101, 53, 100, 97, 101, 50, 50, 50, 51, 98, 48, 48, 51, 54, 49, 97, 51, 57, 54, 49, 55, 55, 97, 57, 99, 98, 52, 49, 48, 102, 102, 54, 49, 102, 50, 48, 48, 49, 53, 97, 100]⟩
theorem hex02 : PMacKeys.octet_Hex.f 40 (i8 (sha [97, 98, 99])) = some s02 := by kernel_rfl
theorem lHex (v : Value) (l : List UInt8) (k : Nat) (s : ByteArray) (w : World) (h : Bs w Any v l) (hf : PMacKeys.octet_Hex.f k (i8 l) = some s) : Calls Try.prog 75 #[v] w fun e w' => e = .returned (.string s) ∧ Ext No w w' := by
  obtain ⟨A, c, rfl, -⟩ := h.slice
  obtain ⟨h1, h2, h3⟩ := h.C
  rw [h1]
  refine (PMacKeys.octet_Hex.calls k A c (i8 l) s w h3 h2 hf).mono ?_
  rintro e w' ⟨rfl, hx⟩
  exact ⟨rfl, Ext.of_below hx⟩
theorem lSame (v1 v2 : Value) (l : List UInt8) (w : World) (h1 : Bs w Any v1 l) (h2 : Bs w Any v2 l) :
    Calls Try.prog 27 #[v1, v2] w fun e w' => e = .returned (.bool true) ∧ Ext No w w' := by
  refine (rSame_any v1 v2 l l w h1 h2).mono ?_
  rintro e w' ⟨rfl, n, rfl⟩
  exact ⟨by rw [decide_eq_true rfl], (Ext.refl No w).drewN n⟩
set_option maxRecDepth 100000 in
set_option maxHeartbeats 1000000 in
theorem works02 (w : World) : Calls Try.prog 37 #[] w fun e' w' => e' = .returned (.bool true) ∧ Ext No w w' := by
  have hcv := run_conv_new #[.int .u8 97] 1 1
  have hcv2 := run_conv_new #[.int .u8 98, .int .u8 99] 2 2
  have hx1 : Ext No w _ := (((Ext.refl No w).strLit #[.int .u8 97]).strLit #[.int .u8 98, .int .u8 99]).alloc (.cells #[.slice (some ⟨w.heap.size, 0, none⟩) 1 1, .slice (some ⟨w.heap.size + 1, 0, none⟩) 2 2] 27)
  have hb1 : Bs (strLit w #[.int .u8 97]) Any (.slice (some ⟨w.heap.size, 0, none⟩) 1 1) [97] := (bs_strLit w [97] (by unfold maxLen; decide) rfl).any
  have hb2 : Bs (strLit (strLit w #[.int .u8 97]) #[.int .u8 98, .int .u8 99]) Any (.slice (some ⟨w.heap.size + 1, 0, none⟩) 2 2) [98, 99] := (bs_strLit (strLit w #[.int .u8 97]) [98, 99] (by unfold maxLen; decide) (by simp)).any
  have hp := Parts.lit2 (g := w.heap.size + 1 + 1) (hb1.ext_no ((Ext.refl No _).strLit #[.int .u8 98, .int .u8 99])) hb2 trivial (by simp)
  have HOF := Lib.hid (shaOf_any Any _ _ _ hp (by decide))
  have hhx := hex02
  rw [show ([[97], [98, 99]] : List (List UInt8)).flatten = [97, 98, 99] from rfl] at HOF
  have hdl : (sha [97, 98, 99]).length = 32 := sha_length _
  obtain ⟨D, hD⟩ : ∃ D, sha [97, 98, 99] = D := ⟨_, rfl⟩
  rw [hD] at hhx HOF hdl
  have HHX := Lib.hid hhx
  have HDL := Lib.hid (show (u8s D).toArray.size = 32 by rw [List.size_toArray, u8s_length]; exact hdl)
  have HDE := Lib.hid hdl
  have HX1 := Lib.hid hx1
  clear hD hhx hdl hp hb1 hb2 hx1
  go_enter Try.func37, Try.ntmps37
  go_wp2_with fail
  refine HOF.out.mono ?_
  rintro e2 w2 ⟨rfl, hx2⟩
  have HX2 := Lib.hid (HX1.out.trans hx2)
  clear HOF HX1 hx2 hcv hcv2
  have HB3 := Lib.hid (Blk.new w2 45 (u8s (List.replicate 32 0)).toArray)
  have HX3 := Lib.hid (HX2.out.alloc (.cells (u8s (List.replicate 32 0)).toArray 45))
  go_wp2_with ((with_reducible show wpList _ _ _ _ _ _); refine store_blk (o := ⟨none, _, _, _, _, _⟩) 45 (.tmp 1) (.tmp 7) rfl rfl HB3.out rfl rfl (by rw [HDL.out]; rfl) (by rw [HDL.out]; exact size_b32) (u8s_one' _) ?_; intro w9 hb9 hx9; have HB9 := Lib.hid hb9; have HX9 := Lib.hid (HX3.out.transS hx9 (fun i hi h => absurd hi (by have h' : i = w2.heap.size := h; have := HX2.out.size; omega))); clear hb9 hx9)
  have HBS := Lib.hid (Bs.whole' HB9.out (n := 32) (c := 32) HDE.out.symm (Nat.le_refl _) (by unfold maxLen; decide)).any
  refine (lHex _ D 40 s02 w9 HBS.out HHX.out).mono ?_
  rintro e10 w10 ⟨rfl, hx10⟩
  have HX10 := Lib.hid (HX9.out.trans hx10)
  clear hx10
  go_wp2_with fail
  go_ret
  exact ⟨rfl, HX10.out⟩
/-- Ahead of the last line: the sum in its block, the bytes. -/
structure Q02 (w0 : World) (g : Nat) (D : List UInt8) (bv : Value) (m : List UInt8) (w : World) : Prop where
  d : Blk w g 45 (u8s D).toArray
  b : Bs w Any bv m
  x : Ext No w0 w
section
variable {w0 w w' : World} {g : Nat} {D m : List UInt8} {bv : Value}
theorem Q02.no (h : Hid (Q02 w0 g D bv m w)) (hx : Ext No w w') : Hid (Q02 w0 g D bv m w') := Lib.hid ⟨h.out.d.ext_no hx, h.out.b.ext_no hx, h.out.x.trans hx⟩
theorem Q02.sum (h : Hid (Q02 w0 g D bv m w)) (hm : m.length < 1000000) (hD : sha m = D) : Calls Try.prog 39 #[bv] w fun e w' => ∃ v, e = .returned v ∧ Hid (Bs w' Any v D) ∧ Hid (Q02 w0 g D bv m w') := by
  refine (rSum_any bv m w h.out.b hm).mono ?_
  rintro e w' ⟨v, rfl, hb, hx⟩
  exact ⟨v, rfl, Lib.hid (hD ▸ hb), Q02.no h hx⟩
theorem Q02.same (h : Hid (Q02 w0 g D bv m w)) (hD : D.length = 32) (v2 : Value) (h2 : Bs w Any v2 D) : Calls Try.prog 27 #[.slice (some ⟨g, 0, none⟩) 32 32, v2] w fun e w' => e = .returned (.bool true) ∧ Hid (Q02 w0 g D bv m w') := by
  refine (lSame _ v2 D w (Bs.whole' h.out.d (n := 32) (c := 32) hD.symm (Nat.le_refl _) (by unfold maxLen; decide)).any h2).mono ?_
  rintro e w' ⟨rfl, hx⟩
  exact ⟨rfl, Q02.no h hx⟩
theorem Q02.works (h : Hid (Q02 w0 g D bv m w)) : Calls Try.prog 37 #[] w fun e w' => e = .returned (.bool true) ∧ Hid (Q02 w0 g D bv m w') := by
  refine (works02 w).mono ?_
  rintro e w' ⟨rfl, hx⟩
  exact ⟨rfl, Q02.no h hx⟩
end
set_option maxRecDepth 100000 in
set_option maxHeartbeats 1000000 in
theorem sums02 (v : Value) (m : List UInt8) (w : World) (h : Bs w Any v m) : Calls Try.prog 7 #[v] w fun e' w' => e' = .returned (.bool true) ∧ Ext No w w' := by
  obtain ⟨A, c, rfl, hc, hmx, -⟩ := h.slice
  unfold maxLen at hmx
  have HB := Lib.hid h
  clear h
  by_cases hlen : 2000 < m.length
  · go_enter Try.func7, Try.ntmps7
    go_wp2_with (go_at_call 37; refine (works02 _).mono ?_; rintro e1 w1 ⟨rfl, hx1⟩; have HX1 := Lib.hid hx1; clear hx1)
    go_ret
    exact ⟨rfl, HX1.out⟩
  · have hp := Parts.lit1 (g := w.heap.size) HB.out trivial rfl
    have HOF := Lib.hid (shaOf_any Any _ _ _ hp (by simp; omega))
    have hfl : ([m] : List (List UInt8)).flatten = m := by simp
    rw [hfl] at HOF
    have hdl : (sha m).length = 32 := sha_length _
    have HML := Lib.hid (show m.length < 1000000 by omega)
    obtain ⟨D, hD⟩ : ∃ D, sha m = D := ⟨_, rfl⟩
    rw [hD] at HOF hdl
    have HD := Lib.hid hD
    have HDL := Lib.hid (show (u8s D).toArray.size = 32 by rw [List.size_toArray, u8s_length]; exact hdl)
    have HDE := Lib.hid hdl
    have HX1 := Lib.hid ((Ext.refl No w).alloc (.cells #[.slice A m.length c] 27))
    clear hD hdl hp hfl
    go_enter Try.func7, Try.ntmps7
    go_wp2_with fail
    refine HOF.out.mono ?_
    rintro e2 w2 ⟨rfl, hx2⟩
    have HX2 := Lib.hid (HX1.out.trans hx2)
    clear HOF HX1 hx2
    have HB3 := Lib.hid (Blk.new w2 45 (u8s (List.replicate 32 0)).toArray)
    have HX3 := Lib.hid (HX2.out.alloc (.cells (u8s (List.replicate 32 0)).toArray 45))
    go_wp2_with ((with_reducible show wpList _ _ _ _ _ _); refine store_blk (o := ⟨none, _, _, _, _, _⟩) 45 (.tmp 3) (.tmp 10) rfl rfl HB3.out rfl rfl (by rw [HDL.out]; rfl) (by rw [HDL.out]; exact size_b32) (u8s_one' _) ?_; intro w9 hb9 hx9; have HX9 := Lib.hid (HX3.out.transS hx9 (fun i hi h => absurd hi (by have h' : i = w2.heap.size := h; have := HX2.out.size; omega))); have HQ : Hid (Q02 w w2.heap.size D (.slice A m.length c) m w9) := Lib.hid ⟨hb9, HB.out.ext_no HX9.out, HX9.out⟩; clear hb9 hx9)
    clear HX2 HX3 HB3 HX9
    go_region_held3 (fun w' => Hid (Q02 w w2.heap.size D (.slice A m.length c) m w'))
      (first | assumption | exact HQ | exact Q02.no HQ (Ext.refl No _).drew | exact Q02.no (by assumption) (Ext.refl No _).drew)
      (first
      | (go_at_call 39; refine (Q02.sum (w0 := w) (g := w2.heap.size) (D := D) (m := m) (by assumption) HML.out HD.out).mono ?_; rintro e10 w10 ⟨v10, rfl, HS10, hQ10⟩)
      | (go_at_call 27; refine (Q02.same (w0 := w) (g := w2.heap.size) (D := D) (m := m) (bv := .slice A m.length c) (by assumption) HDE.out _ HS10.out).mono ?_; rintro e11 w11 ⟨rfl, hQ11⟩)
      | (go_at_call 37; refine (Q02.works (w0 := w) (g := w2.heap.size) (D := D) (m := m) (bv := .slice A m.length c) (by assumption)).mono ?_; rintro e12 w12 ⟨rfl, hQ12⟩))
    have HXF := Lib.hid hQ12.out.x
    clear hQ10 hQ11 hQ12
    go_wp2
    go_ret
    exact ⟨rfl, HXF.out⟩
open Go.ChangeShapes Go.WideShapes in
set_option maxRecDepth 100000 in
theorem walk_ShaSums (W : World) (v0 : Value) (u0 : Rd Try.prog W 27 v0.cells.toList)
    {r : Reach} {base : Nat} (ok0 : Value.okWide Try.prog W r base 27 v0) :
    Calls Try.prog 7 #[v0] W fun e W' => e = .returned (.bool true) ∧ Ext No W W' := by
  obtain ⟨A, len, cap, rfl⟩ := okWide_slice Try.underlying27 ok0
  obtain ⟨A', c', b, he, hb⟩ := bytes_of u0
  have he : [Value.slice A len cap] = [.slice A' b.length c'] := he
  simp only [List.cons.injEq, Value.slice.injEq, and_true] at he
  obtain ⟨rfl, rfl, rfl⟩ := he
  exact sums02 _ b W hb.any
end Go.Proofs.Ytljddghamgjfbaa
