/- The laws of chapter 4: AesBlocks. -/
import Derived.Test.YtljddghamgjfbaaLaw04
import Derived.Test.YtljddghamgjfbaaAesWd2
import Derived.Test.YtljddghamgjfbaaOpenArr
import Derived.Deep.RegionHeld3
set_option linter.unusedVariables false
set_option linter.unusedSimpArgs false
namespace Go.Proofs.Ytljddghamgjfbaa
open Go.RowKit Go.Deep Go.Proofs.YtljddghamgjfbaaW.PrintWords Go.Proofs.YtljddghamgjfbaaW.PrintLast Go.Proofs.YtljddghamgjfbaaW.PrintMore Ae Ar

/-- A key of 32 bytes, of any ones, repeated. -/
def k32 (b : List UInt8) : List UInt8 := (List.range 32).map fun i => if b.length = 0 then 0 else b.getD (i % b.length) 0
theorem k32_length (b : List UInt8) : (k32 b).length = 32 := by simp [k32]
theorem key32_f (b : List UInt8) (k : Nat) (hk : 40 ≤ k) : PAesBlocks.deedboxlaw04_key32.f k (i8 b) = some (i8 (k32 b)) := by
  obtain ⟨m, rfl⟩ : ∃ m, k = 32 + 1 + m := ⟨k - 33, by omega⟩
  unfold PAesBlocks.deedboxlaw04_key32.f
  have := appl (F := fun k acc i => PAesBlocks.deedboxlaw04_key32.l0 k (i8 b) acc i) (R := fun _ acc => some acc) 32 1 0 0 (fun i => [((if b.length = 0 then (0 : UInt8) else b.getD (i % b.length) 0).toNat : Int)]) (fun _ _ => Nat.le_refl _)
    (fun k acc i _ hi ha => by
      show PAesBlocks.deedboxlaw04_key32.l0 (k + 1) _ _ _ = PAesBlocks.deedboxlaw04_key32.l0 k (i8 b) (acc ++ [((if b.length = 0 then (0 : UInt8) else b.getD (i % b.length) 0).toNat : Int)]) _
      simp only [PAesBlocks.deedboxlaw04_key32.l0]
      rw [i8_length]
      by_cases h0 : b.length = 0
      · rw [if_pos (by omega), if_neg (by omega), if_pos (by omega), if_pos h0, w1 (by omega)]
        rfl
      · have hlt : i % b.length < b.length := Nat.mod_lt _ (by omega)
        have ht : Int.tmod (i : Int) (b.length : Int) = ((i % b.length : Nat) : Int) := by rw [Int.tmod_eq_emod_of_nonneg (by omega)]; rfl
        rw [if_pos (by omega), if_pos (by omega), if_neg (by omega), ht, if_pos (by omega), if_pos (by omega), if_pos (by omega), rd_g b _ hlt, if_neg h0, w1 (by omega)])
    (fun k acc _ => by
      show PAesBlocks.deedboxlaw04_key32.l0 (k + 1) _ _ _ = _
      simp only [PAesBlocks.deedboxlaw04_key32.l0]
      rw [if_neg (by omega)]) 32 0 m [] (by omega) (by omega) (by simp)
  rw [show ((0 : Nat) : Int) = 0 from rfl] at this
  rw [this, List.nil_append, flat_one, ← List.range_eq_range']
  rfl
theorem rKey32_any (v : Value) (b : List UInt8) (w : World) (h : Bs w Any v b) : Calls Try.prog 48 #[v] w fun e w' => ∃ v', e = .returned v' ∧ Own w' w.heap.size v' (k32 b) ∧ Ext No w w' := by
  obtain ⟨A, c, rfl, -⟩ := h.slice
  obtain ⟨a1, a2, a3⟩ := h.C
  rw [a1]
  refine (PAesBlocks.deedboxlaw04_key32.calls 40 A c (i8 b) (i8 (k32 b)) w a3 a2 (key32_f b 40 (by omega))).mono ?_
  rintro e w' ⟨v', rfl, hr, hb⟩
  exact ⟨v', rfl, Own.of_R hr, Ext.of_below hb⟩
theorem rBoxes_any (w : World) : Calls Try.prog 51 #[] w fun e w' => ∃ v', e = .returned v' ∧ Own w' w.heap.size v' bxs ∧ Ext No w w' := by
  refine (PAesBlocks.deedboxref04_Boxes.calls 600 (i8 bxs) w (boxes_f 600 (by omega))).mono ?_
  rintro e w' ⟨v', rfl, hr, hb⟩
  exact ⟨v', rfl, Own.of_R hr, Ext.of_below hb⟩
theorem Parts.C {w : World} {F : Nat → Prop} {A : Option Addr} {n c : Nat} {ls : List (List UInt8)} (h : Parts w F (.slice A n c) ls) : n = (ls.map i8).length ∧ (ls.map i8).length ≤ c ∧ Kd.C (Kd.slice 5 (Kd.int .u8)) w A (ls.map i8).length (ls.map i8) := by
  obtain ⟨A', c', e, h2, h3, b, off, hh⟩ := h.slice
  injection e with e1 e2 e3
  subst e1 e3
  rw [List.length_map]
  refine ⟨e2, h2, by rw [List.length_map], by unfold maxLen at h3; omega, fun h0 => ?_⟩
  refine ⟨⟨b, off, none⟩, (hh 0 h0).choose_spec.choose_spec.1, fun j p hp => ?_⟩
  have hj : j < ls.length := by have := (List.getElem?_eq_some_iff.1 hp).1; rwa [List.length_map] at this
  rw [List.getElem?_map, List.getElem?_eq_getElem hj] at hp
  injection hp with hp
  subst hp
  obtain ⟨A2, c2, _, _, hcell, hb⟩ := hh j hj
  obtain ⟨a1, a2, a3⟩ := hb.C
  refine ⟨[.slice A2 ls[j].length c2], rfl, ⟨A2, c2, by rw [i8_length], a2, a3⟩, fun i u hu => ?_⟩
  cases i with
  | zero =>
    have : Value.slice A2 ls[j].length c2 = u := by simpa using hu
    subst this
    rw [show (⟨b, off, none⟩ : Addr).add (j * (Kd.slice 5 (Kd.int .u8)).sz + 0) = ⟨b, off + j, none⟩ by show Addr.add _ (j * 1 + 0) = _; unfold Addr.add; split <;> simp_all]
    exact hcell
  | succ i => simp at hu
theorem rBlock_any (bv wv xv : Value) (WL : List (List UInt8)) (h60 : WL.length = 60) (h4 : ∀ x ∈ WL, x.length = 4) (KK : List UInt8) (hKK : WL.flatten = KK) (b : List UInt8) (hb : b.length = 16) (w : World) (h1 : Bs w Any bv bxs) (h2 : Parts w Any wv WL) (h3 : Bs w Any xv b) :
    Calls Try.prog 52 #[bv, wv, xv] w fun e w' => ∃ v', e = .returned v' ∧ Own w' w.heap.size v' (enc KK b) ∧ Ext No w w' := by
  obtain ⟨A1, c1, rfl, -⟩ := h1.slice
  obtain ⟨A2, c2, rfl, -⟩ := h2.slice
  obtain ⟨A3, c3, rfl, -⟩ := h3.slice
  obtain ⟨a1, a2, a3⟩ := h1.C
  obtain ⟨b1, b2, b3⟩ := h2.C
  obtain ⟨d1, d2, d3⟩ := h3.C
  rw [a1, b1, d1]
  refine (PAesBlocks.deedboxref04_Block.calls 200 A1 c1 (i8 bxs) A2 c2 (WL.map i8) A3 c3 (i8 b) (i8 (enc KK b)) w a3 a2 b3 b2 d3 d2 (block_f WL h60 h4 KK hKK b hb 200 (by omega))).mono ?_
  rintro e w' ⟨v', rfl, hr, hb⟩
  exact ⟨v', rfl, Own.of_R hr, Ext.of_below hb⟩
theorem lSame4 (v1 v2 : Value) (l : List UInt8) (w : World) (h1 : Bs w Any v1 l) (h2 : Bs w Any v2 l) :
    Calls Try.prog 27 #[v1, v2] w fun e w' => e = .returned (.bool true) ∧ Ext No w w' := by
  refine (rSame_any v1 v2 l l w h1 h2).mono ?_
  rintro e w' ⟨rfl, n, rfl⟩
  exact ⟨by simp, (Ext.refl No w).drewN n⟩
/-- Ahead of the last line: the block sealed, the block, the key, the boxes. -/
structure Q4 (w0 : World) (g3 g8 : Nat) (b D key BX : List UInt8) (bv kv : Value) (w : World) : Prop where
  x : Blk w g8 22 (u8s D).toArray
  b : Blk w g3 22 (u8s b).toArray
  k : Bs w Any kv key
  o : Bs w Any bv BX
  e : Ext No w0 w
section
variable {w0 w w' : World} {g3 g8 : Nat} {b D key BX : List UInt8} {bv kv : Value}
theorem Q4.no (h : Hid (Q4 w0 g3 g8 b D key BX bv kv w)) (hx : Ext No w w') : Hid (Q4 w0 g3 g8 b D key BX bv kv w') := Lib.hid ⟨h.out.x.ext_no hx, h.out.b.ext_no hx, h.out.k.ext_no hx, h.out.o.ext_no hx, h.out.e.trans hx⟩
theorem Q4.words (h : Hid (Q4 w0 g3 g8 b D key BX bv kv w)) (hk : key.length = 32) (hBX : bxs = BX) (WF : Nat → List (List UInt8)) (hW : wds key = WF) (WL : List (List UInt8)) (hWL : WF 60 = WL) : Calls Try.prog 53 #[bv, kv] w fun e w' => ∃ wv, e = .returned wv ∧ Hid (Parts w' Any wv WL) ∧ Hid (Q4 w0 g3 g8 b D key BX bv kv w') := by
  refine (rWords_any bv kv key w (hBX ▸ h.out.o) h.out.k hk).mono ?_
  rintro e w' ⟨wv, rfl, hp, hx⟩
  exact ⟨wv, rfl, Lib.hid (by rwa [hW, hWL] at hp), Q4.no h hx⟩
theorem Q4.block (h : Hid (Q4 w0 g3 g8 b D key BX bv kv w)) (hBX : bxs = BX) (WL : List (List UInt8)) (h60 : WL.length = 60) (h4 : ∀ x ∈ WL, x.length = 4) (KK : List UInt8) (hKK : WL.flatten = KK) (hb : b.length = 16) (hD : enc KK b = D) (wv : Value) (hp : Parts w Any wv WL) :
    Calls Try.prog 52 #[bv, wv, .slice (some ⟨g3, 0, none⟩) 16 16] w fun e w' => ∃ rv, e = .returned rv ∧ Hid (Bs w' Any rv D) ∧ Hid (Q4 w0 g3 g8 b D key BX bv kv w') := by
  refine (rBlock_any bv wv _ WL h60 h4 KK hKK b hb w (hBX ▸ h.out.o) hp (Bs.whole' h.out.b (n := 16) (c := 16) hb.symm (Nat.le_refl _) (by unfold maxLen; decide)).any).mono ?_
  rintro e w' ⟨rv, rfl, hr, hx⟩
  exact ⟨rv, rfl, Lib.hid (hD ▸ hr.any), Q4.no h hx⟩
theorem Q4.same (h : Hid (Q4 w0 g3 g8 b D key BX bv kv w)) (hD : D.length = 16) (v2 : Value) (h2 : Bs w Any v2 D) : Calls Try.prog 27 #[.slice (some ⟨g8, 0, none⟩) 16 16, v2] w fun e w' => e = .returned (.bool true) ∧ Hid (Q4 w0 g3 g8 b D key BX bv kv w') := by
  refine (lSame4 _ v2 D w (Bs.whole' h.out.x (n := 16) (c := 16) hD.symm (Nat.le_refl _) (by unfold maxLen; decide)).any h2).mono ?_
  rintro e w' ⟨rfl, hx⟩
  exact ⟨rfl, Q4.no h hx⟩
theorem Q4.works (h : Hid (Q4 w0 g3 g8 b D key BX bv kv w)) : Calls Try.prog 47 #[] w fun e w' => e = .returned (.bool true) ∧ Hid (Q4 w0 g3 g8 b D key BX bv kv w') := by
  refine (works04 w).mono ?_
  rintro e w' ⟨rfl, hx⟩
  exact ⟨rfl, Q4.no h hx⟩
end
set_option maxRecDepth 100000 in
set_option maxHeartbeats 1000000 in
theorem blocks04 (kv : Value) (k b : List UInt8) (w : World) (hk : Bs w Any kv k) (hb : b.length = 16) : Calls Try.prog 11 #[kv, .agg (u8s b).toArray] w fun e' w' => e' = .returned (.bool true) ∧ Ext No w w' := by
  obtain ⟨kA, kc, rfl, -⟩ := hk.slice
  by_cases h1 : 100 < k.length
  · go_enter Try.func11, Try.ntmps11
    go_wp2_with (go_at_call 47; refine (works04 _).mono ?_; rintro e2 w2 ⟨rfl, hx2⟩; have HX2 := Lib.hid hx2; clear hx2)
    go_ret
    exact ⟨rfl, ((Ext.refl No w).alloc _).trans HX2.out⟩
  · have HB0 := Lib.hid (Blk.new w 22 (u8s b).toArray)
    have HX0 := Lib.hid ((Ext.refl No w).alloc (.cells (u8s b).toArray 22))
    have HKC := Lib.hid (rKey32_any (.slice kA k.length kc) k _ (hk.ext_no HX0.out))
    have hkl := k32_length k
    obtain ⟨key, hkey⟩ : ∃ x, k32 k = x := ⟨_, rfl⟩
    rw [hkey] at HKC hkl
    have HKL := Lib.hid hkl
    have HBO := Lib.hid (fun wx => rBoxes_any wx)
    have hbl := bxs_length
    obtain ⟨BX, hBX⟩ : ∃ x, bxs = x := ⟨_, rfl⟩
    rw [hBX] at HBO hbl
    have HBXE := Lib.hid hBX
    have HBXL := Lib.hid hbl
    clear hBX hbl
    have HNC := Lib.hid (fun (tg : Nat) (v : Value) (wx : World) (h : Bs wx Any v key) (ht : IsT wx tg) => aNew_any tg v key wx h hkl ht)
    have hkk := kys_length key hkl
    have h60 := wds_length key 60
    have h4 := wds_four key hkl 60
    have hkf : (wds key 60).flatten = kys key := rfl
    obtain ⟨WF, hWF⟩ : ∃ x, wds key = x := ⟨_, rfl⟩
    obtain ⟨KK, hKK⟩ : ∃ x, kys key = x := ⟨_, rfl⟩
    rw [hWF] at h60 h4 hkf
    obtain ⟨WL, hWL⟩ : ∃ x, WF 60 = x := ⟨_, rfl⟩
    rw [hWL] at h60 h4 hkf
    rw [hKK] at hkk HNC hkf
    have HBC := Lib.hid (fun (g tg : Nat) (wx : World) (h : IsC wx g tg KK) => aBlock_any g tg KK b wx h hb)
    have hdl := enc_length KK b hkk
    obtain ⟨D, hD⟩ : ∃ x, enc KK b = x := ⟨_, rfl⟩
    rw [hD] at HBC hdl
    have HBL := Lib.hid hb
    have HBS : Hid ((u8s b).toArray.size = 16) := Lib.hid (by rw [List.size_toArray, u8s_length, hb])
    have HDS : Hid ((u8s D).toArray.size = 16) := Lib.hid (by rw [List.size_toArray, u8s_length, hdl])
    have HDL := Lib.hid hdl
    have HD := Lib.hid hD
    have H60 := Lib.hid h60
    have H4 := Lib.hid h4
    have HKF := Lib.hid hkf
    have HWL := Lib.hid hWL
    have HWF := Lib.hid hWF
    clear hk hb hkey hkl hkk h60 h4 hkf hWL hWF hKK hdl hD
    go_enter Try.func11, Try.ntmps11
    go_wp2_with (first
      | (go_at_call 48; refine HKC.out.mono ?_; rintro e1 w1 ⟨v1, rfl, ho1, hx1⟩; obtain ⟨A1, c1, rfl, -⟩ := ho1.slice; have HK1 := Lib.hid ho1.any; have HX1 := Lib.hid (HX0.out.trans hx1); have HB1 := Lib.hid (HB0.out.ext_no hx1); clear ho1 hx1)
      | (go_at_call 44; refine (aBuild_any w1).mono ?_; rintro e2 w2 ⟨tg, rfl, hg2, ht2, hx2⟩; have HT2 := Lib.hid ht2; have HX2 := Lib.hid (HX1.out.trans hx2); have HK2 := Lib.hid (HK1.out.ext_no hx2); have HB2 := Lib.hid (HB1.out.ext_no hx2); clear hg2 ht2 hx2)
      | (go_at_call 49; refine (HNC.out tg _ w2 HK2.out HT2.out).mono ?_; rintro e3 w3 ⟨gc, rfl, hg3, hc3, hx3⟩; have HC3 := Lib.hid hc3; have HX3 := Lib.hid (HX2.out.trans hx3); have HK3 := Lib.hid (HK2.out.ext_no hx3); have HB3 := Lib.hid (HB2.out.ext_no hx3); clear hg3 hc3 hx3)
      | ((with_reducible show wpList _ _ _ (⟨some 29, _, _, _, _, _⟩ :: _) _ _); refine load_blk 22 (.tmp 3) rfl rfl HB3.out rfl _ und_16 rfl (by rw [HBS.out]; exact size_16) ?_)
      | (go_at_call 50; refine (HBC.out gc tg w3 HC3.out).mono ?_; rintro e4 w4 ⟨rfl, hx4⟩; have HX4 := Lib.hid (HX3.out.trans hx4); have HK4 := Lib.hid (HK3.out.ext_no hx4); have HB4 := Lib.hid (HB3.out.ext_no hx4); have HR4 := Lib.hid (Blk.new w4 22 (u8s (List.replicate 16 0)).toArray); clear hx4)
      | ((with_reducible show wpList _ _ _ (⟨none, _, _, _, _, _⟩ :: _) _ _); go_must (refine store_blk 22 (.tmp 8) (.tmp 30) rfl rfl HR4.out rfl rfl (by rw [HDS.out]; rfl) (by rw [HDS.out]; exact size_16) (u8s_one' _) ?_); intro w5 hb5 hx5; have HR5 := Lib.hid hb5; have hx45 : Ext No w4 w5 := ((Ext.refl No w4).alloc _).transS hx5 (fun i hi h => absurd hi (by have h' : i = w4.heap.size := h; omega)); have HX5 := Lib.hid (HX4.out.trans hx45); have HK5 := Lib.hid (HK4.out.ext_no hx45); have HB5 := Lib.hid (HB4.out.ext_no hx45); clear hb5 hx5 hx45)
      | (go_at_call 51; refine (HBO.out w5).mono ?_; rintro e6 w6 ⟨v6, rfl, ho6, hx6⟩; obtain ⟨A6, c6, rfl, -⟩ := ho6.slice; have HQ : Hid (Q4 w w.heap.size w4.heap.size b D key BX (.slice A6 BX.length c6) (.slice A1 key.length c1) w6) := Lib.hid ⟨HR5.out.ext_no hx6, HB5.out.ext_no hx6, HK5.out.ext_no hx6, ho6.any, HX5.out.trans hx6⟩; clear ho6 hx6))
    clear HX0 HB0 HX1 HB1 HK1 HX2 HB2 HK2 HT2 HC3 HX3 HB3 HK3 HX4 HB4 HK4 HR4 HX5 HB5 HK5 HR5 HKC HNC HBC HBO
    go_region_held3 (fun w' => Hid (Q4 w w.heap.size w4.heap.size b D key BX (.slice A6 BX.length c6) (.slice A1 key.length c1) w'))
      (first | assumption | exact HQ | exact Q4.no HQ (Ext.refl No _).drew | exact Q4.no (by assumption) (Ext.refl No _).drew)
      (first
      | (go_at_call 53; refine (Q4.words (w0 := w) (g3 := w.heap.size) (g8 := w4.heap.size) (b := b) (D := D) (key := key) (BX := BX) (bv := .slice A6 BX.length c6) (kv := .slice A1 key.length c1) (by assumption) HKL.out HBXE.out WF HWF.out WL HWL.out).mono ?_; rintro e10 w10 ⟨v10, rfl, HS10, hQ10⟩)
      | (go_at_call 52; refine (Q4.block (w0 := w) (g3 := w.heap.size) (g8 := w4.heap.size) (b := b) (D := D) (key := key) (BX := BX) (bv := .slice A6 BX.length c6) (kv := .slice A1 key.length c1) (by assumption) HBXE.out WL H60.out H4.out KK HKF.out HBL.out HD.out _ HS10.out).mono ?_; rintro e11 w11 ⟨v11, rfl, HS11, hQ11⟩)
      | (go_at_call 27; refine (Q4.same (w0 := w) (g3 := w.heap.size) (g8 := w4.heap.size) (b := b) (D := D) (key := key) (BX := BX) (bv := .slice A6 BX.length c6) (kv := .slice A1 key.length c1) (by assumption) HDL.out _ HS11.out).mono ?_; rintro e12 w12 ⟨rfl, hQ12⟩)
      | (go_at_call 47; refine (Q4.works (w0 := w) (g3 := w.heap.size) (g8 := w4.heap.size) (b := b) (D := D) (key := key) (BX := BX) (bv := .slice A6 BX.length c6) (kv := .slice A1 key.length c1) (by assumption)).mono ?_; rintro e13 w13 ⟨rfl, hQ13⟩))
    have HXF := Lib.hid hQ13.out.e
    clear hQ10 hQ11 hQ12 hQ13
    go_wp2
    go_ret
    exact ⟨rfl, HXF.out⟩
open Go.ChangeShapes Go.WideShapes in
set_option maxRecDepth 100000 in
theorem walk_AesBlocks (W : World) (v0 v1 : Value) (u0 : Rd Try.prog W 27 v0.cells.toList) (u1 : Rd Try.prog W 22 v1.cells.toList)
    {r : Reach} {base : Nat} (ok0 : Value.okWide Try.prog W r base 27 v0) (ok1 : Value.okWide Try.prog W r base 22 v1) :
    Calls Try.prog 11 #[v0, v1] W fun e W' => e = .returned (.bool true) ∧ Ext No W W' := by
  obtain ⟨A, len, cap, rfl⟩ := okWide_slice Try.underlying27 ok0
  obtain ⟨A', c', b, he, hb⟩ := bytes_of u0
  have he : [Value.slice A len cap] = [.slice A' b.length c'] := he
  simp only [List.cons.injEq, Value.slice.injEq, and_true] at he
  obtain ⟨rfl, rfl, rfl⟩ := he
  obtain ⟨l, hl, rfl⟩ := bytesN_of und_16 (by kernel_rfl) ok1 u1
  exact blocks04 _ b l W hb.any hl
end Go.Proofs.Ytljddghamgjfbaa
