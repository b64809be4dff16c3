/- The laws of chapter 3: the reference's Join; MacSums. -/
import Derived.Test.YtljddghamgjfbaaLaw03
import Derived.Test.YtljddghamgjfbaaRefMac
import Derived.Test.YtljddghamgjfbaaOpenParts
set_option linter.unusedVariables false
set_option linter.unusedSimpArgs false
namespace Go.Proofs.Ytljddghamgjfbaa
open Go.RowKit Go.Deep Go.Proofs.YtljddghamgjfbaaW.PrintWords Sh Rs

set_option maxRecDepth 100000 in
set_option maxHeartbeats 1000000 in
theorem rJoin_any (F : Nat → Prop) (v : Value) (ls : List (List UInt8)) (w : World) (h : Parts w F v ls) (hb : ls.flatten.length ≤ 140737488351232) :
    Calls Try.prog 57 #[v] w fun e w' => ∃ v', e = .returned v' ∧ Own w' w.heap.size v' ls.flatten ∧ Ext No w w' := by
  obtain ⟨A, c, rfl, hc, hm, b, o, hA⟩ := h.slice
  unfold maxLen at hm
  have HA := Lib.hid hA
  have HF := Lib.hid (flat_take ls)
  have HE := Lib.hid (flen_le ls)
  have HB := Lib.hid hb
  clear hA h hb
  go_enter Try.func57, Try.ntmps57
  go_wp2_with fail
  go_loopw [3, 4] (fun v i wr => ∃ k : Nat, k ≤ ls.length ∧ i = .int .i64 ((k : Nat) : Int) ∧ Hid (Own wr w.heap.size v (ls.take k).flatten) ∧ Hid (Ext No w wr)) (fun _ i _ => ls.length - (intOf i).toNat)
  case atStart => exact ⟨0, by omega, rfl, Lib.hid (Own.nil _ _), Lib.hid (Ext.refl _ _)⟩
  case round =>
    obtain ⟨k, hk, rfl, HO, HX⟩ := hrel
    by_cases hlt : k < ls.length
    · obtain ⟨A', c', rfl, ⟨_, hbl⟩, e1, hbs⟩ := HA.out k hlt
      have e2 : wr.cell? ⟨b, o + k, none⟩ = _ := (HX.out.cell (p := ⟨b, o + k, none⟩) hbl (fun h => h)).trans e1
      have HBS := Lib.hid (hbs.ext_no HX.out)
      have h4 : (ls.take k).flatten.length + ls[k].length ≤ 140737488351232 := by
        have h1 := HE.out (k + 1)
        unfold flen at h1
        rw [HF.out k hlt, List.length_append] at h1
        have := HB.out
        omega
      have H2 := Lib.hid (HF.out k hlt)
      have H4 := Lib.hid h4
      clear h4 e1 hbs
      go_wp2_with (at_builtin; refine app_bytes (.tmp 11) (.tmp 15) rfl rfl w.heap.size u3 _ _ _ rfl rfl HO.out _ HBS.out (by have := H4.out; omega) HX.out.size ?_; intro v' w2 hown2 hg2 hat2; have HO2 := Lib.hid hown2; have HX2 : Hid (Ext No w w2) := Lib.hid (HX.out.grown hg2 (fun j hj hl => absurd hl (by have := (HO.out.lt j hj).1; omega))); clear hown2 hg2 hat2)
      go_roundw
      case rel => exact ⟨k + 1, by omega, by go_num, by rw [H2.out]; exact HO2, HX2⟩
      case measure => simp [intOf]; omega
    · obtain rfl : k = ls.length := by omega
      rw [List.take_length] at HO
      go_wp2_with fail
      go_ret
      exact ⟨_, rfl, HO.out, HX.out⟩
/-- Ahead of the last line: the sum in its block, the key, the parts. -/
structure Q03 (w0 : World) (g : Nat) (D : List UInt8) (kv v : Value) (key : List UInt8) (ls : List (List UInt8)) (w : World) : Prop where
  d : Blk w g 45 (u8s D).toArray
  k : Bs w Any kv key
  p : Parts w Any v ls
  x : Ext No w0 w
section
variable {w0 w w' : World} {g : Nat} {D key : List UInt8} {kv v : Value} {ls : List (List UInt8)}
theorem Q03.no (h : Hid (Q03 w0 g D kv v key ls w)) (hx : Ext No w w') : Hid (Q03 w0 g D kv v key ls w') := Lib.hid ⟨h.out.d.ext_no hx, h.out.k.ext_no hx, h.out.p.ext_no hx, h.out.x.trans hx⟩
theorem Q03.join (h : Hid (Q03 w0 g D kv v key ls w)) (hl : ls.flatten.length ≤ 6000) : Calls Try.prog 57 #[v] w fun e w' => ∃ jv, e = .returned jv ∧ Hid (Bs w' Any jv ls.flatten) ∧ Hid (Q03 w0 g D kv v key ls w') := by
  refine (rJoin_any Any v ls w h.out.p (by omega)).mono ?_
  rintro e w' ⟨jv, rfl, hb, hx⟩
  exact ⟨jv, rfl, Lib.hid hb.any, Q03.no h hx⟩
theorem Q03.of (h : Hid (Q03 w0 g D kv v key ls w)) (hl : ls.flatten.length ≤ 6000) (hk : key.length ≤ 300) (hD : hmac key ls.flatten = D) (jv : Value) (hj : Bs w Any jv ls.flatten) : Calls Try.prog 56 #[kv, jv] w fun e w' => ∃ rv, e = .returned rv ∧ Hid (Bs w' Any rv D) ∧ Hid (Q03 w0 g D kv v key ls w') := by
  refine (rMacOf_any kv jv key ls.flatten w h.out.k hj (by omega) (by omega)).mono ?_
  rintro e w' ⟨rv, rfl, hb, hx⟩
  exact ⟨rv, rfl, Lib.hid (hD ▸ hb), Q03.no h hx⟩
theorem Q03.same (h : Hid (Q03 w0 g D kv v key ls w)) (hD : D.length = 32) (v2 : Value) (h2 : Bs w Any v2 D) : Calls Try.prog 27 #[.slice (some ⟨g, 0, none⟩) 32 32, v2] w fun e w' => e = .returned (.bool true) ∧ Hid (Q03 w0 g D kv v key ls w') := by
  refine (lSame _ v2 D w (Bs.whole' h.out.d (n := 32) (c := 32) hD.symm (Nat.le_refl _) (by unfold maxLen; decide)).any h2).mono ?_
  rintro e w' ⟨rfl, hx⟩
  exact ⟨rfl, Q03.no h hx⟩
theorem Q03.works (h : Hid (Q03 w0 g D kv v key ls w)) : Calls Try.prog 54 #[] w fun e w' => e = .returned (.bool true) ∧ Hid (Q03 w0 g D kv v key ls w') := by
  refine (works03 w).mono ?_
  rintro e w' ⟨rfl, hx⟩
  exact ⟨rfl, Q03.no h hx⟩
end
set_option maxRecDepth 100000 in
set_option maxHeartbeats 4000000 in
theorem sums03 (kv v : Value) (key : List UInt8) (ls : List (List UInt8)) (w : World) (hk : Bs w Any kv key) (h : Parts w Any v ls) : Calls Try.prog 14 #[kv, v] w fun e' w' => e' = .returned (.bool true) ∧ Ext No w w' := by
  obtain ⟨kA, kc, rfl, -⟩ := hk.slice
  obtain ⟨A, c, rfl, -⟩ := h.slice
  have HK := Lib.hid hk
  have HP := Lib.hid h
  clear hk h
  by_cases h3 : 300 < key.length
  · go_enter Try.func14, Try.ntmps14
    go_wp2_with (go_at_call 54; refine (works03 _).mono ?_; rintro e2 w2 ⟨rfl, hx2⟩; have HX2 := Lib.hid hx2; clear hx2)
    go_ret
    exact ⟨rfl, HX2.out⟩
  · go_enter Try.func14, Try.ntmps14
    go_wp2_with fail
    refine (short_any _ _ ls w HP.out).mono ?_
    rintro e1 w1 ⟨hx1, h1⟩
    have HX1 := Lib.hid hx1
    clear hx1
    rcases h1 with rfl | ⟨rfl, h40, h6⟩
    · go_wp2_with (go_at_call 54; refine (works03 _).mono ?_; rintro e2 w2 ⟨rfl, hx2⟩; have HX2 := Lib.hid (HX1.out.trans hx2); clear hx2)
      go_ret
      exact ⟨rfl, HX2.out⟩
    · have HB := Lib.hid h6
      have HOF := Lib.hid (mOf_any _ _ key ls w1 (HK.out.ext_no HX1.out) (by omega) (HP.out.ext_no HX1.out) (by omega) (by omega))
      have HKL := Lib.hid (show key.length ≤ 300 by omega)
      have hdl := hmac_len key ls.flatten
      obtain ⟨D, hD⟩ : ∃ D, hmac key ls.flatten = D := ⟨_, rfl⟩
      rw [hD] at HOF hdl
      have HD := Lib.hid hD
      have HDL := Lib.hid (show (u8s D).toArray.size = 32 by rw [List.size_toArray, u8s_length]; exact hdl)
      have HDE := Lib.hid hdl
      clear hD hdl h6
      go_wp2_with fail
      refine HOF.out.mono ?_
      rintro e2 w2 ⟨rfl, hx2⟩
      have HX2 := Lib.hid (HX1.out.trans hx2)
      clear HOF HX1 hx2
      have HB3 := Lib.hid (Blk.new w2 45 (u8s (List.replicate 32 0)).toArray)
      have HX3 := Lib.hid (HX2.out.alloc (.cells (u8s (List.replicate 32 0)).toArray 45))
      go_wp2_with ((with_reducible show wpList _ _ _ _ _ _); refine store_blk (o := ⟨none, _, _, _, _, _⟩) 45 (.tmp 5) (.tmp 17) rfl rfl HB3.out rfl rfl (by rw [HDL.out]; rfl) (by rw [HDL.out]; exact size_b32) (u8s_one' _) ?_; intro w9 hb9 hx9; have HX9 := Lib.hid (HX3.out.transS hx9 (fun i hi h => absurd hi (by have h' : i = w2.heap.size := h; have := HX2.out.size; omega))); have HQ : Hid (Q03 w w2.heap.size D (.slice kA key.length kc) (.slice A ls.length c) key ls w9) := Lib.hid ⟨hb9, HK.out.ext_no HX9.out, HP.out.ext_no HX9.out, HX9.out⟩; clear hb9 hx9)
      clear HX2 HX3 HB3 HX9
      go_region_held3 (fun w' => Hid (Q03 w w2.heap.size D (.slice kA key.length kc) (.slice A ls.length c) key ls w'))
        (first | assumption | exact HQ | exact Q03.no HQ (Ext.refl No _).drew | exact Q03.no (by assumption) (Ext.refl No _).drew)
        (first
        | (go_at_call 57; refine (Q03.join (w0 := w) (g := w2.heap.size) (D := D) (kv := .slice kA key.length kc) (key := key) (ls := ls) (by assumption) HB.out).mono ?_; rintro e10 w10 ⟨v10, rfl, HS10, hQ10⟩)
        | (go_at_call 56; refine (Q03.of (w0 := w) (g := w2.heap.size) (D := D) (v := .slice A ls.length c) (key := key) (ls := ls) (by assumption) HB.out HKL.out HD.out _ HS10.out).mono ?_; rintro e11 w11 ⟨v11, rfl, HS11, hQ11⟩)
        | (go_at_call 27; refine (Q03.same (w0 := w) (g := w2.heap.size) (D := D) (kv := .slice kA key.length kc) (v := .slice A ls.length c) (key := key) (ls := ls) (by assumption) HDE.out _ HS11.out).mono ?_; rintro e12 w12 ⟨rfl, hQ12⟩)
        | (go_at_call 54; refine (Q03.works (w0 := w) (g := w2.heap.size) (D := D) (kv := .slice kA key.length kc) (v := .slice A ls.length c) (key := key) (ls := ls) (by assumption)).mono ?_; rintro e13 w13 ⟨rfl, hQ13⟩))
      have HXF := Lib.hid hQ13.out.x
      clear hQ10 hQ11 hQ12 hQ13
      go_wp2
      go_ret
      exact ⟨rfl, HXF.out⟩
open Go.ChangeShapes Go.WideShapes in
set_option maxRecDepth 100000 in
theorem walk_MacSums (W : World) (v0 v1 : Value) (u0 : Rd Try.prog W 27 v0.cells.toList) (u1 : Rd Try.prog W 49 v1.cells.toList)
    {r : Reach} {base : Nat} (ok0 : Value.okWide Try.prog W r base 27 v0) (ok1 : Value.okWide Try.prog W r base 49 v1) :
    Calls Try.prog 14 #[v0, v1] W fun e W' => e = .returned (.bool true) ∧ Ext No W W' := by
  obtain ⟨A, len, cap, rfl⟩ := okWide_slice Try.underlying27 ok0
  obtain ⟨A', c', b, he, hb⟩ := bytes_of u0
  have he : [Value.slice A len cap] = [.slice A' b.length c'] := he
  simp only [List.cons.injEq, Value.slice.injEq, and_true] at he
  obtain ⟨rfl, rfl, rfl⟩ := he
  obtain ⟨A3, len3, cap3, rfl⟩ := okWide_slice Try.underlying49 ok1
  obtain ⟨A3', c3', b3, he3, hb3⟩ := parts_of u1
  have he3 : [Value.slice A3 len3 cap3] = [.slice A3' b3.length c3'] := he3
  simp only [List.cons.injEq, Value.slice.injEq, and_true] at he3
  obtain ⟨rfl, rfl, rfl⟩ := he3
  exact sums03 _ _ b b3 W hb.any (hb3.mono fun _ _ => trivial)
end Go.Proofs.Ytljddghamgjfbaa
