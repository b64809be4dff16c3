/- The laws of chapter 3: the reference's Join, Expand, Derive; MacKeys. -/
import Derived.Test.YtljddghamgjfbaaLaw03
import Derived.Test.YtljddghamgjfbaaRefMac
import Derived.Test.YtljddghamgjfbaaOpenParts
set_option linter.unusedVariables false
set_option linter.unusedSimpArgs false
namespace Go.Proofs.Ytljddghamgjfbaa
open Go.RowKit Go.Deep Go.Proofs.YtljddghamgjfbaaW.PrintWords Sh Rs

set_option maxRecDepth 100000 in
set_option maxHeartbeats 1000000 in
theorem rJoin_any (F : Nat → Prop) (v : Value) (ls : List (List UInt8)) (w : World) (h : Parts w F v ls) (hb : ls.flatten.length ≤ 140737488351232) :
    Calls Try.prog 57 #[v] w fun e w' => ∃ v', e = .returned v' ∧ Own w' w.heap.size v' ls.flatten ∧ Ext No w w' := by
  obtain ⟨A, c, rfl, hc, hm, b, o, hA⟩ := h.slice
  unfold maxLen at hm
  have HA := Lib.hid hA
  have HF := Lib.hid (flat_take ls)
  have HE := Lib.hid (flen_le ls)
  have HB := Lib.hid hb
  clear hA h hb
  go_enter Try.func57, Try.ntmps57
  go_wp2_with fail
  go_loopw [3, 4] (fun v i wr => ∃ k : Nat, k ≤ ls.length ∧ i = .int .i64 ((k : Nat) : Int) ∧ Hid (Own wr w.heap.size v (ls.take k).flatten) ∧ Hid (Ext No w wr)) (fun _ i _ => ls.length - (intOf i).toNat)
  case atStart => exact ⟨0, by omega, rfl, Lib.hid (Own.nil _ _), Lib.hid (Ext.refl _ _)⟩
  case round =>
    obtain ⟨k, hk, rfl, HO, HX⟩ := hrel
    by_cases hlt : k < ls.length
    · obtain ⟨A', c', rfl, ⟨_, hbl⟩, e1, hbs⟩ := HA.out k hlt
      have e2 : wr.cell? ⟨b, o + k, none⟩ = _ := (HX.out.cell (p := ⟨b, o + k, none⟩) hbl (fun h => h)).trans e1
      have HBS := Lib.hid (hbs.ext_no HX.out)
      have h4 : (ls.take k).flatten.length + ls[k].length ≤ 140737488351232 := by
        have h1 := HE.out (k + 1)
        unfold flen at h1
        rw [HF.out k hlt, List.length_append] at h1
        have := HB.out
        omega
      have H2 := Lib.hid (HF.out k hlt)
      have H4 := Lib.hid h4
      clear h4 e1 hbs
      go_wp2_with (at_builtin; refine app_bytes (.tmp 11) (.tmp 15) rfl rfl w.heap.size u3 _ _ _ rfl rfl HO.out _ HBS.out (by have := H4.out; omega) HX.out.size ?_; intro v' w2 hown2 hg2 hat2; have HO2 := Lib.hid hown2; have HX2 : Hid (Ext No w w2) := Lib.hid (HX.out.grown hg2 (fun j hj hl => absurd hl (by have := (HO.out.lt j hj).1; omega))); clear hown2 hg2 hat2)
      go_roundw
      case rel => exact ⟨k + 1, by omega, by go_num, by rw [H2.out]; exact HO2, HX2⟩
      case measure => simp [intOf]; omega
    · obtain rfl : k = ls.length := by omega
      rw [List.take_length] at HO
      go_wp2_with fail
      go_ret
      exact ⟨_, rfl, HO.out, HX.out⟩
/-- Ahead of the last line: the sum in its block, the key, the parts. -/
structure Q03 (w0 : World) (g : Nat) (D : List UInt8) (kv v : Value) (key : List UInt8) (ls : List (List UInt8)) (w : World) : Prop where
  d : Blk w g 45 (u8s D).toArray
  k : Bs w Any kv key
  p : Parts w Any v ls
  x : Ext No w0 w
section
variable {w0 w w' : World} {g : Nat} {D key : List UInt8} {kv v : Value} {ls : List (List UInt8)}
theorem Q03.no (h : Hid (Q03 w0 g D kv v key ls w)) (hx : Ext No w w') : Hid (Q03 w0 g D kv v key ls w') := Lib.hid ⟨h.out.d.ext_no hx, h.out.k.ext_no hx, h.out.p.ext_no hx, h.out.x.trans hx⟩
theorem Q03.join (h : Hid (Q03 w0 g D kv v key ls w)) (hl : ls.flatten.length ≤ 6000) : Calls Try.prog 57 #[v] w fun e w' => ∃ jv, e = .returned jv ∧ Hid (Bs w' Any jv ls.flatten) ∧ Hid (Q03 w0 g D kv v key ls w') := by
  refine (rJoin_any Any v ls w h.out.p (by omega)).mono ?_
  rintro e w' ⟨jv, rfl, hb, hx⟩
  exact ⟨jv, rfl, Lib.hid hb.any, Q03.no h hx⟩
theorem Q03.of (h : Hid (Q03 w0 g D kv v key ls w)) (hl : ls.flatten.length ≤ 6000) (hk : key.length ≤ 300) (hD : hmac key ls.flatten = D) (jv : Value) (hj : Bs w Any jv ls.flatten) : Calls Try.prog 56 #[kv, jv] w fun e w' => ∃ rv, e = .returned rv ∧ Hid (Bs w' Any rv D) ∧ Hid (Q03 w0 g D kv v key ls w') := by
  refine (rMacOf_any kv jv key ls.flatten w h.out.k hj (by omega) (by omega)).mono ?_
  rintro e w' ⟨rv, rfl, hb, hx⟩
  exact ⟨rv, rfl, Lib.hid (hD ▸ hb), Q03.no h hx⟩
theorem Q03.same (h : Hid (Q03 w0 g D kv v key ls w)) (hD : D.length = 32) (v2 : Value) (h2 : Bs w Any v2 D) : Calls Try.prog 27 #[.slice (some ⟨g, 0, none⟩) 32 32, v2] w fun e w' => e = .returned (.bool true) ∧ Hid (Q03 w0 g D kv v key ls w') := by
  refine (lSame _ v2 D w (Bs.whole' h.out.d (n := 32) (c := 32) hD.symm (Nat.le_refl _) (by unfold maxLen; decide)).any h2).mono ?_
  rintro e w' ⟨rfl, hx⟩
  exact ⟨rfl, Q03.no h hx⟩
theorem Q03.works (h : Hid (Q03 w0 g D kv v key ls w)) : Calls Try.prog 54 #[] w fun e w' => e = .returned (.bool true) ∧ Hid (Q03 w0 g D kv v key ls w') := by
  refine (works03 w).mono ?_
  rintro e w' ⟨rfl, hx⟩
  exact ⟨rfl, Q03.no h hx⟩
end
set_option maxRecDepth 100000 in
set_option maxHeartbeats 4000000 in
theorem sums03 (kv v : Value) (key : List UInt8) (ls : List (List UInt8)) (w : World) (hk : Bs w Any kv key) (h : Parts w Any v ls) : Calls Try.prog 14 #[kv, v] w fun e' w' => e' = .returned (.bool true) ∧ Ext No w w' := by
  obtain ⟨kA, kc, rfl, -⟩ := hk.slice
  obtain ⟨A, c, rfl, -⟩ := h.slice
  have HK := Lib.hid hk
  have HP := Lib.hid h
  clear hk h
  by_cases h3 : 300 < key.length
  · go_enter Try.func14, Try.ntmps14
    go_wp2_with (go_at_call 54; refine (works03 _).mono ?_; rintro e2 w2 ⟨rfl, hx2⟩; have HX2 := Lib.hid hx2; clear hx2)
    go_ret
    exact ⟨rfl, HX2.out⟩
  · go_enter Try.func14, Try.ntmps14
    go_wp2_with fail
    refine (short_any _ _ ls w HP.out).mono ?_
    rintro e1 w1 ⟨hx1, h1⟩
    have HX1 := Lib.hid hx1
    clear hx1
    rcases h1 with rfl | ⟨rfl, h40, h6⟩
    · go_wp2_with (go_at_call 54; refine (works03 _).mono ?_; rintro e2 w2 ⟨rfl, hx2⟩; have HX2 := Lib.hid (HX1.out.trans hx2); clear hx2)
      go_ret
      exact ⟨rfl, HX2.out⟩
    · have HB := Lib.hid h6
      have HOF := Lib.hid (mOf_any _ _ key ls w1 (HK.out.ext_no HX1.out) (by omega) (HP.out.ext_no HX1.out) (by omega) (by omega))
      have HKL := Lib.hid (show key.length ≤ 300 by omega)
      have hdl := hmac_len key ls.flatten
      obtain ⟨D, hD⟩ : ∃ D, hmac key ls.flatten = D := ⟨_, rfl⟩
      rw [hD] at HOF hdl
      have HD := Lib.hid hD
      have HDL := Lib.hid (show (u8s D).toArray.size = 32 by rw [List.size_toArray, u8s_length]; exact hdl)
      have HDE := Lib.hid hdl
      clear hD hdl h6
      go_wp2_with fail
      refine HOF.out.mono ?_
      rintro e2 w2 ⟨rfl, hx2⟩
      have HX2 := Lib.hid (HX1.out.trans hx2)
      clear HOF HX1 hx2
      have HB3 := Lib.hid (Blk.new w2 45 (u8s (List.replicate 32 0)).toArray)
      have HX3 := Lib.hid (HX2.out.alloc (.cells (u8s (List.replicate 32 0)).toArray 45))
      go_wp2_with ((with_reducible show wpList _ _ _ _ _ _); refine store_blk (o := ⟨none, _, _, _, _, _⟩) 45 (.tmp 5) (.tmp 17) rfl rfl HB3.out rfl rfl (by rw [HDL.out]; rfl) (by rw [HDL.out]; exact size_b32) (u8s_one' _) ?_; intro w9 hb9 hx9; have HX9 := Lib.hid (HX3.out.transS hx9 (fun i hi h => absurd hi (by have h' : i = w2.heap.size := h; have := HX2.out.size; omega))); have HQ : Hid (Q03 w w2.heap.size D (.slice kA key.length kc) (.slice A ls.length c) key ls w9) := Lib.hid ⟨hb9, HK.out.ext_no HX9.out, HP.out.ext_no HX9.out, HX9.out⟩; clear hb9 hx9)
      clear HX2 HX3 HB3 HX9
      go_region_held3 (fun w' => Hid (Q03 w w2.heap.size D (.slice kA key.length kc) (.slice A ls.length c) key ls w'))
        (first | assumption | exact HQ | exact Q03.no HQ (Ext.refl No _).drew | exact Q03.no (by assumption) (Ext.refl No _).drew)
        (first
        | (go_at_call 57; refine (Q03.join (w0 := w) (g := w2.heap.size) (D := D) (kv := .slice kA key.length kc) (key := key) (ls := ls) (by assumption) HB.out).mono ?_; rintro e10 w10 ⟨v10, rfl, HS10, hQ10⟩)
        | (go_at_call 56; refine (Q03.of (w0 := w) (g := w2.heap.size) (D := D) (v := .slice A ls.length c) (key := key) (ls := ls) (by assumption) HB.out HKL.out HD.out _ HS10.out).mono ?_; rintro e11 w11 ⟨v11, rfl, HS11, hQ11⟩)
        | (go_at_call 27; refine (Q03.same (w0 := w) (g := w2.heap.size) (D := D) (kv := .slice kA key.length kc) (v := .slice A ls.length c) (key := key) (ls := ls) (by assumption) HDE.out _ HS11.out).mono ?_; rintro e12 w12 ⟨rfl, hQ12⟩)
        | (go_at_call 54; refine (Q03.works (w0 := w) (g := w2.heap.size) (D := D) (kv := .slice kA key.length kc) (v := .slice A ls.length c) (key := key) (ls := ls) (by assumption)).mono ?_; rintro e13 w13 ⟨rfl, hQ13⟩))
      have HXF := Lib.hid hQ13.out.x
      clear hQ10 hQ11 hQ12 hQ13
      go_wp2
      go_ret
      exact ⟨rfl, HXF.out⟩
open Go.ChangeShapes Go.WideShapes in
set_option maxRecDepth 100000 in
theorem walk_MacSums (W : World) (v0 v1 : Value) (u0 : Rd Try.prog W 27 v0.cells.toList) (u1 : Rd Try.prog W 49 v1.cells.toList)
    {r : Reach} {base : Nat} (ok0 : Value.okWide Try.prog W r base 27 v0) (ok1 : Value.okWide Try.prog W r base 49 v1) :
    Calls Try.prog 14 #[v0, v1] W fun e W' => e = .returned (.bool true) ∧ Ext No W W' := by
  obtain ⟨A, len, cap, rfl⟩ := okWide_slice Try.underlying27 ok0
  obtain ⟨A', c', b, he, hb⟩ := bytes_of u0
  have he : [Value.slice A len cap] = [.slice A' b.length c'] := he
  simp only [List.cons.injEq, Value.slice.injEq, and_true] at he
  obtain ⟨rfl, rfl, rfl⟩ := he
  obtain ⟨A3, len3, cap3, rfl⟩ := okWide_slice Try.underlying49 ok1
  obtain ⟨A3', c3', b3, he3, hb3⟩ := parts_of u1
  have he3 : [Value.slice A3 len3 cap3] = [.slice A3' b3.length c3'] := he3
  simp only [List.cons.injEq, Value.slice.injEq, and_true] at he3
  obtain ⟨rfl, rfl, rfl⟩ := he3
  exact sums03 _ _ b b3 W hb.any (hb3.mono fun _ _ => trivial)
end Go.Proofs.Ytljddghamgjfbaa
namespace Go.Proofs.Ytljddghamgjfbaa
open Go.RowKit Go.Deep Go.Proofs.YtljddghamgjfbaaW.PrintWords Sh Rs

structure ExR (w0 : World) (iv ov lv : Value) (key info : List UInt8) (k : Nat) (w : World) : Prop where
  j : Bs w Any iv info
  o : Own w w0.heap.size ov (hkO key info k)
  l : Bs w Any lv (hkT key info k)
  x : Ext No w0 w
set_option maxRecDepth 100000 in
set_option maxHeartbeats 4000000 in
theorem rExpand_any (kv iv : Value) (n : Int) (key info : List UInt8) (w : World) (hk : Bs w Any kv key) (hkb : key.length < 1000000) (h : Bs w Any iv info) (hb : info.length ≤ 800000) :
    Calls Try.prog 60 #[kv, .int .i64 n, iv] w fun e w' => ∃ v', e = .returned v' ∧ Bs w' Any v' (expandI key n info) ∧ Ext No w w' := by
  obtain ⟨iA, ic, rfl, hic, him, -⟩ := h.slice
  obtain ⟨kA, kc, rfl, hkc, hkm, -⟩ := hk.slice
  have HK := Lib.hid hk
  have HI := Lib.hid h
  have HLB := Lib.hid hb
  have HKB := Lib.hid hkb
  clear hk h hb hkb
  by_cases h0 : n < 0
  · have he : expandI key n info = [] := by unfold expandI; rw [if_pos (.inl h0)]
    rw [he]
    clear he
    go_enter Try.func60, Try.ntmps60
    go_wp2_with fail
    go_ret
    exact ⟨_, rfl, Bs.nil _ _, Ext.refl _ _⟩
  · by_cases h8 : 8160 < n
    · have he : expandI key n info = [] := by unfold expandI; rw [if_pos (.inr h8)]
      rw [he]
      clear he
      go_enter Try.func60, Try.ntmps60
      go_wp2_with fail
      go_ret
      exact ⟨_, rfl, Bs.nil _ _, Ext.refl _ _⟩
    · obtain ⟨m, rfl⟩ : ∃ m : Nat, n = (m : Int) := ⟨n.toNat, by omega⟩
      have he : expandI key (m : Int) info = expand key m info := by unfold expandI; rw [if_neg (by omega)]; rfl
      rw [he]
      clear he
      have HS : Hid (ExR w (.slice iA info.length ic) (.slice none 0 0) (.slice none 0 0) key info 0 w) := Lib.hid ⟨HI.out, Own.nil _ _, Bs.nil _ _, Ext.refl _ _⟩
      go_enter Try.func60, Try.ntmps60
      go_wp2_with fail
      go_loopw [7, 8, 9] (fun ov lv i wr => ∃ (k : Nat), 32 * k < m + 32 ∧ i = .int .i64 ((k + 1 : Nat) : Int) ∧ Hid (ExR w (.slice iA info.length ic) ov lv key info k wr)) (fun ov _ _ _ => m + 32 - (match ov with | .slice _ n _ => n | _ => 0))
      case atStart => exact ⟨0, by omega, rfl, HS⟩
      case round =>
        obtain ⟨k, hk, rfl, HR⟩ := hrel
        clear HS
        have hol := hkO_len key info k
        obtain ⟨oA, oc, eo, -⟩ := HR.out.o.slice
        rw [hol] at eo
        subst eo
        obtain ⟨lA, lc, rfl, -⟩ := Bs.slice HR.out.l
        have HOL := Lib.hid hol
        clear hol
        by_cases hlt : 32 * k < m
        · have hlt' : 32 * (k : Int) < (m : Int) := by omega
          obtain ⟨ib, hib⟩ : ∃ b, UInt8.ofNat (k + 1) = b := ⟨_, rfl⟩
          have HIB : Hid (((k + 1 : Nat) : Int) = (ib.toNat : Int)) := Lib.hid (by rw [← hib]; rw [UInt8.toNat_ofNat_of_lt' (by show k + 1 < 256; omega)])
          obtain ⟨T, hT⟩ : ∃ T, hkT key info k = T := ⟨_, rfl⟩
          have HTL : Hid (T.length ≤ 32) := Lib.hid (by rw [← hT]; cases k with | zero => exact Nat.zero_le _ | succ k => rw [hkT_len]; exact Nat.le_refl _)
          have HT1 : Hid (hkT key info (k + 1) = hmac key (T ++ info ++ [ib])) := Lib.hid (by rw [← hT, ← hib]; rfl)
          rw [hT]
          have HT' := Lib.hid hT
          clear hib hT
          have hb3 := bs_lit1' wr ((k : Int) + 1) ib (by have := HIB.out; omega) (g := wr.heap.size) rfl
          have hx3 := (Ext.refl No wr).alloc (.cells #[.int .u8 ((k : Int) + 1)] 5)
          have hlast : Bs wr Any (.slice lA T.length lc) T := by have := HR.out.l; rw [HT'.out] at this; exact this
          have hp := Parts.lit3 (F := Any) (g := wr.heap.size + 1) (hlast.ext_no hx3) (HR.out.j.ext_no hx3) hb3.any trivial (by simp)
          have hx4 := hx3.alloc (.cells #[.slice lA T.length lc, .slice iA info.length ic, .slice (some ⟨wr.heap.size, 0, none⟩) 1 1] 27)
          have HJ := Lib.hid (rJoin_any Any _ _ _ hp (by simp; have := HTL.out; have := HLB.out; omega))
          rw [show ([T, info, [ib]] : List (List UInt8)).flatten = T ++ info ++ [ib] by simp] at HJ
          have hdl := hmac_len key (T ++ info ++ [ib])
          obtain ⟨D, hD⟩ : ∃ D, hmac key (T ++ info ++ [ib]) = D := ⟨_, rfl⟩
          rw [hD] at hdl HT1
          have HD := Lib.hid hD
          have HDE := Lib.hid hdl
          have HX4 := Lib.hid hx4
          have HTI : Hid ((T ++ info ++ [ib]).length < 900000) := Lib.hid (by simp; have := HTL.out; have := HLB.out; omega)
          obtain ⟨M, hM⟩ : ∃ M, T ++ info ++ [ib] = M := ⟨_, rfl⟩
          rw [hM] at HJ HD HTI
          clear hD hdl hp hb3 hx3 hx4 hlast hM
          go_wp2_with fail
          refine HJ.out.mono ?_
          rintro e5 w5 ⟨v5, rfl, ho5, hx5⟩
          have HO5 := Lib.hid ho5.any
          have HX5 := Lib.hid (HX4.out.trans hx5)
          clear ho5 hx5 HJ HX4
          go_wp2_with fail
          refine (rMacOf_own _ v5 key M w5 (HK.out.ext_no (HR.out.x.trans HX5.out)) HO5.out HKB.out HTI.out).mono ?_
          rintro e6 w6 ⟨v6, rfl, hb6, hx6⟩
          rw [HD.out] at hb6
          obtain ⟨A6, c6, rfl, -⟩ := hb6.any.slice
          have HB6 := Lib.hid hb6.any
          have HL6 := Lib.hid (fun k hk => (hb6.lt k hk).1)
          have HOW6 := Lib.hid hb6
          have HZ5 := Lib.hid HX5.out.size
          have HX6 := Lib.hid (HX5.out.trans hx6)
          have HO6 := Lib.hid (HR.out.o.ext_no HX6.out)
          clear hb6 hx6 HX5 HO5
          go_wp2_with (at_builtin; (refine app_bytes (.tmp 31) (.tmp 32) rfl rfl w.heap.size (.slice oA (32 * k) oc) _ _ D rfl rfl HO6.out _ HB6.out (by rw [HDE.out, HOL.out]; omega) (HR.out.x.trans HX6.out).size ?_); intro v7 w7 ho7 hg7 hat7; have HO7 := Lib.hid ho7; have HG7 := Lib.hid hg7; clear ho7 hg7 hat7)
          have HR7 : Hid (ExR w (.slice iA info.length ic) v7 (.slice A6 D.length c6) key info (k + 1) w7) := Lib.hid (by
            have hx67 : Ext (fun i => (Value.slice oA (32 * k) oc).ownBlock = some i) w6 w7 := (Ext.refl _ w6).grown HG7.out (fun k hk _ => hk)
            have hx07 : Ext No w w7 := (HR.out.x.trans HX6.out).grown HG7.out (fun i hi hl => absurd hl (by have := (HO6.out.lt i hi).1; omega))
            refine ⟨HI.out.ext_no hx07, ?_, ?_, hx07⟩
            · show Own w7 w.heap.size v7 (hkO key info k ++ hkT key info (k + 1)); rw [HT1.out]; exact HO7.out
            · rw [HT1.out]; exact Bs.any (HOW6.out.bs.ext ((Ext.refl (fun i => (Value.slice oA (32 * k) oc).ownBlock = some i) w6).grown HG7.out (fun k hk _ => hk)) (fun b hb _ h => by have := (HR.out.o.lt b h).2; have := hb.1; have := HZ5.out; omega)))
          have HOL7 := Lib.hid (hkO_len key info (k + 1))
          obtain ⟨oA7, oc7, eo7, -⟩ := HR7.out.o.slice
          rw [HOL7.out] at eo7
          subst eo7
          go_roundw
          case rel => exact ⟨k + 1, by omega, by go_num, HR7⟩
          case measure => show m + 32 - 32 * (k + 1) < m + 32 - 32 * k; omega
        · have hn : ¬ 32 * (k : Int) < (m : Int) := by omega
          have hb8 : m ≤ 32 * k := by omega
          have HEX : Hid (expand key m info = (hkO key info k).take m) := Lib.hid (by
            unfold expand
            rw [show (m + 31) / 32 = k by omega])
          have HRX := Lib.hid HR.out.x
          rcases HR.out.o.2 with ⟨e, e0⟩ | ⟨g, cap, cur, e, hgb, hblk, hcap, hmax, -⟩
          · injection e with e1 e2 e3
            obtain rfl : k = 0 := by omega
            obtain rfl : m = 0 := by omega
            subst e1 e3
            have HE0 : Hid (expand key 0 info = []) := Lib.hid (by rw [HEX.out, List.take_zero])
            clear hb8 HEX e2 e0 hn
            go_wp2_with fail
            go_ret
            exact ⟨_, rfl, by rw [HE0.out]; exact Bs.nil _ _, HRX.out⟩
          · injection e with e1 e2 e3
            subst e1
            have HBF := Lib.hid HR.out.o.any
            have HCB : Hid (m ≤ oc ∧ oc ≤ maxLen) := Lib.hid ⟨by have := HOL.out; omega, by omega⟩
            have hmo : m ≤ oc := HCB.out.1
            have hcm : oc ≤ 9223372036854775807 := by have := HCB.out.2; unfold maxLen at this; omega
            clear e2 e3 hblk hcap hmax hgb
            have HRS : Hid (Bs wr Any (.slice (some ⟨g, 0, none⟩) m oc) (expand key m info)) := Lib.hid (by
              have := HBF.out.sub (i := 0) (j := m) (Nat.zero_le _) (by rw [HOL.out]; omega) (m := m) (c' := oc) (by omega) (by have := HCB.out; omega) (by have := HCB.out; omega)
              rwa [List.drop_zero, ← HEX.out] at this)
            clear hb8
            go_wp2_with fail
            go_ret
            exact ⟨_, rfl, HRS.out, HRX.out⟩
theorem rDerive_any (tv sv iv : Value) (n : Int) (text salt info : List UInt8) (w : World) (ht : Bs w Any tv text) (hs : Bs w Any sv salt) (h : Bs w Any iv info) (h1 : text.length < 900000) (h2 : salt.length < 1000000) (hb : info.length ≤ 800000) :
    Calls Try.prog 62 #[tv, sv, .int .i64 n, iv] w fun e w' => ∃ v', e = .returned v' ∧ Bs w' Any v' (expandI (hmac salt text) n info) ∧ Ext No w w' := by
  have HT := Lib.hid ht
  have HS := Lib.hid hs
  have HI := Lib.hid h
  have hdl := hmac_len salt text
  obtain ⟨D, hD⟩ : ∃ D, hmac salt text = D := ⟨_, rfl⟩
  rw [hD] at hdl ⊢
  have HD := Lib.hid hD
  have HDE := Lib.hid hdl
  have HL := Lib.hid (And.intro h1 (And.intro h2 hb))
  clear ht hs h hD hdl h1 h2 hb
  go_enter Try.func62, Try.ntmps62
  go_wp2_with fail
  refine (rMacOf_any sv tv salt text w HS.out HT.out HL.out.2.1 HL.out.1).mono ?_
  rintro e1 w1 ⟨v1, rfl, hb1, hx1⟩
  rw [HD.out] at hb1
  have HB1 := Lib.hid hb1
  have HX1 := Lib.hid hx1
  clear hb1 hx1
  go_wp2_with fail
  refine (rExpand_any v1 iv n D info w1 HB1.out (by rw [HDE.out]; omega) (HI.out.ext_no HX1.out) HL.out.2.2).mono ?_
  rintro e2 w2 ⟨v2, rfl, hb2, hx2⟩
  have HB2 := Lib.hid hb2
  have HX2 := Lib.hid (HX1.out.trans hx2)
  clear hb2 hx2
  go_wp2_with fail
  go_ret
  exact ⟨_, rfl, HB2.out, HX2.out⟩
end Go.Proofs.Ytljddghamgjfbaa
namespace Go.Proofs.Ytljddghamgjfbaa
open Go.RowKit Go.Deep Go.Proofs.YtljddghamgjfbaaW.PrintWords Sh Rs

set_option maxRecDepth 100000 in
set_option maxHeartbeats 2000000 in
theorem keys03 (tv sv v : Value) (text salt : List UInt8) (n : Int) (ls : List (List UInt8)) (w : World) (ht : Bs w Any tv text) (hs : Bs w Any sv salt) (h : Parts w Any v ls) (hn1 : -9223372036854775808 ≤ n) (hn2 : n ≤ 9223372036854775807) :
    Calls Try.prog 15 #[tv, sv, .int .i64 n, v] w fun e' w' => e' = .returned (.bool true) ∧ Ext No w w' := by
  obtain ⟨tA, tc, rfl, -⟩ := ht.slice
  obtain ⟨sA, sc, rfl, -⟩ := hs.slice
  obtain ⟨A, c, rfl, -⟩ := h.slice
  have HT := Lib.hid ht
  have HS := Lib.hid hs
  have HP := Lib.hid h
  clear ht hs h
  by_cases h1 : 300 < text.length
  · go_enter Try.func15, Try.ntmps15
    go_wp2_with (go_at_call 54; refine (works03 _).mono ?_; rintro e2 w2 ⟨rfl, hx2⟩; have HX2 := Lib.hid hx2; clear hx2)
    go_ret
    exact ⟨rfl, HX2.out⟩
  by_cases h2 : 300 < salt.length
  · go_enter Try.func15, Try.ntmps15
    go_wp2_with (go_at_call 54; refine (works03 _).mono ?_; rintro e2 w2 ⟨rfl, hx2⟩; have HX2 := Lib.hid hx2; clear hx2)
    go_ret
    exact ⟨rfl, HX2.out⟩
  go_enter Try.func15, Try.ntmps15
  go_wp2_with fail
  refine (short_any _ _ ls w HP.out).mono ?_
  rintro e1 w1 ⟨hx1, h3⟩
  have HX1 := Lib.hid hx1
  clear hx1
  rcases h3 with rfl | ⟨rfl, h40, h6⟩
  · go_wp2_with (go_at_call 54; refine (works03 _).mono ?_; rintro e2 w2 ⟨rfl, hx2⟩; have HX2 := Lib.hid (HX1.out.trans hx2); clear hx2)
    go_ret
    exact ⟨rfl, HX2.out⟩
  have HB := Lib.hid h6
  have H40 := Lib.hid h40
  clear h6 h40
  by_cases h5 : 700 < n ∧ n ≤ 8160
  · obtain ⟨h4, h5⟩ := h5
    go_wp2_with (go_at_call 54; refine (works03 _).mono ?_; rintro e2 w2 ⟨rfl, hx2⟩; have HX2 := Lib.hid (HX1.out.trans hx2); clear hx2)
    go_ret
    exact ⟨rfl, HX2.out⟩
  have HJ := Lib.hid (rJoin_any Any _ ls w1 (HP.out.ext_no HX1.out) (by have := HB.out; omega))
  obtain ⟨I, hI⟩ : ∃ I, ls.flatten = I := ⟨_, rfl⟩
  obtain ⟨D, hD⟩ : ∃ D, hmac salt text = D := ⟨_, rfl⟩
  have hdl := hmac_len salt text
  have HF1 := Lib.hid (fun (wx : World) (hx : Ext No w wx) => mExtract_any (.slice sA salt.length sc) (.slice tA text.length tc) salt text wx (HS.out.ext_no hx) (HT.out.ext_no hx) (by omega) (by omega))
  have HF2 := Lib.hid (fun (wx : World) (hx : Ext No w wx) => rMacOf_any (.slice sA salt.length sc) (.slice tA text.length tc) salt text wx (HS.out.ext_no hx) (HT.out.ext_no hx) (by omega) (by omega))
  have HF3 := Lib.hid (fun (wx : World) (hx : Ext No w wx) => mExpand_any (.slice tA text.length tc) (.slice A ls.length c) n text ls wx (HT.out.ext_no hx) (by omega) (HP.out.ext_no hx) (by have := H40.out; omega) (by have := HB.out; omega))
  have HF4 := Lib.hid (fun (wx : World) (hx : Ext No w wx) (iv : Value) (hi : Bs wx Any iv I) => rExpand_any (.slice tA text.length tc) iv n text I wx (HT.out.ext_no hx) (by omega) hi (by rw [← hI]; have := HB.out; omega))
  have HF5 := Lib.hid (fun (wx : World) (hx : Ext No w wx) => mDerive_any (.slice tA text.length tc) (.slice sA salt.length sc) (.slice A ls.length c) n text salt ls wx (HT.out.ext_no hx) (HS.out.ext_no hx) (by omega) (by omega) (HP.out.ext_no hx) (by have := H40.out; omega) (by have := HB.out; omega))
  have HF6 := Lib.hid (fun (wx : World) (hx : Ext No w wx) (iv : Value) (hi : Bs wx Any iv I) => rDerive_any (.slice tA text.length tc) (.slice sA salt.length sc) iv n text salt I wx (HT.out.ext_no hx) (HS.out.ext_no hx) hi (by omega) (by omega) (by rw [← hI]; have := HB.out; omega))
  obtain ⟨E1, hE1⟩ : ∃ E, expandI text n I = E := ⟨_, rfl⟩
  obtain ⟨E2, hE2⟩ : ∃ E, expandI D n I = E := ⟨_, rfl⟩
  rw [hI] at HJ HF3 HF5
  rw [hD] at HF1 HF2 HF5 HF6 hdl
  rw [hE1] at HF3 HF4
  rw [hE2] at HF5 HF6
  have HIL : Hid (I.length ≤ 6000) := Lib.hid (by rw [← hI]; exact HB.out)
  clear hI hD hE1 hE2 hdl
  rcases (by omega : ¬ 700 < n ∨ (700 < n ∧ ¬ n ≤ 8160)) with h4 | ⟨h4, h4b⟩
  all_goals
    clear h5
    go_wp2_with fail
    refine HJ.out.mono ?_
    rintro e2 w2 ⟨jv, rfl, hj2, hx2⟩
    obtain ⟨jA, jc, rfl, -⟩ := hj2.any.slice
    have HJ2 := Lib.hid hj2.any
    have HX2 := Lib.hid (HX1.out.trans hx2)
    clear hj2 hx2
    by_cases h7 : 400 < I.length
    · go_wp2_with (go_at_call 54; refine (works03 _).mono ?_; rintro e3 w3 ⟨rfl, hx3⟩; have HX3 := Lib.hid (HX2.out.trans hx3); clear hx3)
      go_ret
      exact ⟨rfl, HX3.out⟩
    · go_wp2_with (first
        | (go_at_call 58; (with_reducible refine (HF1.out w2 HX2.out).mono ?_); rintro e3 w3 ⟨A3, c3, rfl, hb3, hx3⟩; have HB3 := Lib.hid hb3; have HX3 := Lib.hid (HX2.out.trans hx3); have HJ3 := Lib.hid (HJ2.out.ext_no hx3); clear hb3 hx3)
        | (go_at_call 56; (with_reducible refine (HF2.out w3 HX3.out).mono ?_); rintro e4 w4 ⟨v4, rfl, hb4, hx4⟩; have HB4 := Lib.hid hb4; have HB3' := Lib.hid (HB3.out.ext_no hx4); have HX4 := Lib.hid (HX3.out.trans hx4); have HJ4 := Lib.hid (HJ3.out.ext_no hx4); clear hb4 hx4)
        | (go_at_call 27; (with_reducible refine (lSame _ _ D w4 HB3'.out HB4.out).mono ?_); rintro e5 w5 ⟨rfl, hx5⟩; have HX5 := Lib.hid (HX4.out.trans hx5); have HJ5 := Lib.hid (HJ4.out.ext_no hx5); clear hx5)
        | (go_at_call 59; (with_reducible refine (HF3.out w5 HX5.out).mono ?_); rintro e6 w6 ⟨v6, rfl, hb6, hx6⟩; have HB6 := Lib.hid hb6; have HX6 := Lib.hid (HX5.out.trans hx6); have HJ6 := Lib.hid (HJ5.out.ext_no hx6); clear hb6 hx6)
        | (go_at_call 60; (with_reducible refine (HF4.out w6 HX6.out _ HJ6.out).mono ?_); rintro e7 w7 ⟨v7, rfl, hb7, hx7⟩; have HB7 := Lib.hid hb7; have HB6' := Lib.hid (HB6.out.ext_no hx7); have HX7 := Lib.hid (HX6.out.trans hx7); have HJ7 := Lib.hid (HJ6.out.ext_no hx7); clear hb7 hx7)
        | (go_at_call 27; (with_reducible refine (lSame _ _ E1 w7 HB6'.out HB7.out).mono ?_); rintro e8 w8 ⟨rfl, hx8⟩; have HX8 := Lib.hid (HX7.out.trans hx8); have HJ8 := Lib.hid (HJ7.out.ext_no hx8); clear hx8)
        | (go_at_call 61; (with_reducible refine (HF5.out w8 HX8.out).mono ?_); rintro e9 w9 ⟨v9, rfl, hb9, hx9⟩; have HB9 := Lib.hid hb9; have HX9 := Lib.hid (HX8.out.trans hx9); have HJ9 := Lib.hid (HJ8.out.ext_no hx9); clear hb9 hx9)
        | (go_at_call 62; (with_reducible refine (HF6.out w9 HX9.out _ HJ9.out).mono ?_); rintro e10 w10 ⟨v10, rfl, hb10, hx10⟩; have HB10 := Lib.hid hb10; have HB9' := Lib.hid (HB9.out.ext_no hx10); have HX10 := Lib.hid (HX9.out.trans hx10); clear hb10 hx10)
        | (go_at_call 27; (with_reducible refine (lSame _ _ E2 w10 HB9'.out HB10.out).mono ?_); rintro e11 w11 ⟨rfl, hx11⟩; have HX11 := Lib.hid (HX10.out.trans hx11); clear hx11)
        | (go_at_call 54; refine (works03 w11).mono ?_; rintro e12 w12 ⟨rfl, hx12⟩; have HX12 := Lib.hid (HX11.out.trans hx12); clear hx12))
      go_ret
      exact ⟨rfl, HX12.out⟩
open Go.ChangeShapes Go.WideShapes in
set_option maxRecDepth 100000 in
theorem walk_MacKeys (W : World) (v0 v1 v2 v3 : Value) (u0 : Rd Try.prog W 27 v0.cells.toList) (u1 : Rd Try.prog W 27 v1.cells.toList) (u2 : Rd Try.prog W 3 v2.cells.toList) (u3 : Rd Try.prog W 49 v3.cells.toList)
    {r : Reach} {base : Nat} (ok0 : Value.okWide Try.prog W r base 27 v0) (ok1 : Value.okWide Try.prog W r base 27 v1) (ok2 : Value.okWide Try.prog W r base 3 v2) (ok3 : Value.okWide Try.prog W r base 49 v3) :
    Calls Try.prog 15 #[v0, v1, v2, v3] W fun e W' => e = .returned (.bool true) ∧ Ext No W W' := by
  obtain ⟨A, len, cap, rfl⟩ := okWide_slice Try.underlying27 ok0
  obtain ⟨A', c', b, he, hb⟩ := bytes_of u0
  have he : [Value.slice A len cap] = [.slice A' b.length c'] := he
  simp only [List.cons.injEq, Value.slice.injEq, and_true] at he
  obtain ⟨rfl, rfl, rfl⟩ := he
  obtain ⟨A1, len1, cap1, rfl⟩ := okWide_slice Try.underlying27 ok1
  obtain ⟨A1', c1', b1, he1, hb1⟩ := bytes_of u1
  have he1 : [Value.slice A1 len1 cap1] = [.slice A1' b1.length c1'] := he1
  simp only [List.cons.injEq, Value.slice.injEq, and_true] at he1
  obtain ⟨rfl, rfl, rfl⟩ := he1
  obtain ⟨A3, len3, cap3, rfl⟩ := okWide_slice Try.underlying49 ok3
  obtain ⟨A3', c3', b3, he3, hb3⟩ := parts_of u3
  have he3 : [Value.slice A3 len3 cap3] = [.slice A3' b3.length c3'] := he3
  simp only [List.cons.injEq, Value.slice.injEq, and_true] at he3
  obtain ⟨rfl, rfl, rfl⟩ := he3
  obtain ⟨n, rfl, hn⟩ := Rd.int_val Try.underlying3 ok2 u2
  have hbd := bounds_i64 hn
  exact keys03 _ _ _ b b1 n b3 W hb.any hb1.any (hb3.mono fun _ _ => trivial) (by omega) (by omega)
end Go.Proofs.Ytljddghamgjfbaa
