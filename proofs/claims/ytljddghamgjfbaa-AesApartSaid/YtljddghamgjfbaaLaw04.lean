/- The laws of chapter 4: works; AesKeys, AesBoxes. -/
import Derived.Test.YtljddghamgjfbaaAesNew
import Derived.Test.YtljddghamgjfbaaPBridge
import Derived.Test.YtljddghamgjfbaaPAesBlocksx1
set_option linter.unusedVariables false
set_option linter.unusedSimpArgs false
namespace Go.Proofs.Ytljddghamgjfbaa
open Go.RowKit Go.Deep Go.Proofs.YtljddghamgjfbaaW.PrintWords Ae

def fl (N : Nat) (f : Nat → UInt8) (n : Nat) : List UInt8 := (List.range N).map fun i => if i < n then f i else 0
theorem fl_length (N : Nat) (f : Nat → UInt8) (n : Nat) : (fl N f n).length = N := by simp [fl]
theorem fl_set (N : Nat) (f : Nat → UInt8) (n : Nat) (h : n < N) : (fl N f n).set n (f n) = fl N f (n + 1) := by
  unfold fl
  apply List.ext_getElem?
  intro i
  rw [List.getElem?_set, List.length_map, List.length_range, List.getElem?_map, List.getElem?_map]
  by_cases hi : i < N
  · rw [List.getElem?_range hi]
    by_cases e : n = i
    · subst e; simp [hi]
    · simp only [if_neg e, Option.map_some]
      by_cases h2 : i < n
      · rw [if_pos h2, if_pos (by omega)]
      · rw [if_neg h2, if_neg (by omega)]
  · rw [List.getElem?_eq_none (l := List.range N) (by simp; omega)]
    by_cases e : n = i
    · omega
    · rw [if_neg e]; rfl
theorem fl_zero (N : Nat) (f : Nat → UInt8) : fl N f 0 = List.replicate N 0 := by
  unfold fl
  apply List.ext_getElem?
  intro i
  rw [List.getElem?_map, List.getElem?_replicate]
  by_cases hi : i < N
  · rw [List.getElem?_range hi, if_pos hi]; rfl
  · rw [List.getElem?_eq_none (by simp; omega), if_neg hi]; rfl
def k04 : List UInt8 := fl 32 UInt8.ofNat 32
def b04 : List UInt8 := fl 16 (fun i => UInt8.ofNat (17 * i)) 16
abbrev s04 : ByteArray := ⟨#[56, 101, 97, 50, 98, 55, 99, 97, 53, 49, 54, 55, 52, 53, 98, 102, 101, 97, 102, 99, 52, 57, 57, 48, 52, 98, 52, 57, 54, 48, 56, 57]⟩
theorem hex04 : PAesBlocks.octet_Hex.f 20 (i8 (enc (kys k04) b04)) = some s04 := by kernel_rfl
theorem bx_zero : bx 0 = 99 := by kernel_rfl
theorem mk32 (W : World) : (Instr.makeSlice 27 (.int .i64 32) (.int .i64 32)).run Try.prog W = .ok (.slice (some ⟨W.heap.size, 0, none⟩) 32 32) (W.alloc (.cells (u8s (List.replicate 32 0)).toArray 5)) := by
  have e : (madeCells #[Value.int .u8 0] 32).toList = u8s (List.replicate 32 0) := by rw [toList_madeCells_one]; simp [u8s, u8v]
  have e2 : madeCells #[Value.int .u8 0] 32 = (u8s (List.replicate 32 0)).toArray := by rw [← e]
  rw [← e2]
  exact run_make_row' (P := Try.prog) 27 5 (.int .u8 0) 1 Try.underlying27 info_u8 rfl .i64 .i64 32 (by omega) (by omega) W
theorem lHex4 (v : Value) (l : List UInt8) (k : Nat) (s : ByteArray) (w : World) (h : Bs w Any v l) (hf : PAesBlocks.octet_Hex.f k (i8 l) = some s) : Calls Try.prog 75 #[v] w fun e w' => e = .returned (.string s) ∧ Ext No w w' := by
  obtain ⟨A, c, rfl, -⟩ := h.slice
  obtain ⟨h1, h2, h3⟩ := h.C
  rw [h1]
  refine (PAesBlocks.octet_Hex.calls k A c (i8 l) s w h3 h2 hf).mono ?_
  rintro e w' ⟨rfl, hx⟩
  exact ⟨rfl, Ext.of_below hx⟩
/-- Within works: the tables, the key so far, the cipher. -/
structure W4 (w0 : World) (tg gk : Nat) (K : List UInt8) (w : World) : Prop where
  t : IsT w tg
  k : Blk w gk 5 (u8s K).toArray
  g : w0.heap.size ≤ gk
  x : Ext No w0 w
theorem W4.no {w0 w w' : World} {tg gk : Nat} {K : List UInt8} (h : W4 w0 tg gk K w) (hx : Ext No w w') : W4 w0 tg gk K w' := ⟨h.t.ext_no hx, h.k.ext_no hx, h.g, h.x.trans hx⟩
theorem W4.put {w0 w : World} {tg gk : Nat} {K : List UInt8} (h : W4 w0 tg gk K w) (i : Nat) (c : UInt8) : W4 w0 tg gk (K.set i c) (w.setCell ⟨gk, i, none⟩ (.int .u8 (c.toNat : Int))) := by
  have := Blk.set_ h.k i (.int .u8 (c.toNat : Int))
  rw [u8s_set] at this
  exact ⟨h.t.far (h.t.ne_ h.k (by decide)) _, this, h.g, Ext.setCell h.x (fun hh => by have hh : gk < w0.heap.size := hh; have := h.g; omega) _⟩
theorem W4.bs {w0 w : World} {tg gk : Nat} {K : List UInt8} (h : W4 w0 tg gk K w) (hl : K.length = 32) : Bs w Any (.slice (some ⟨gk, 0, none⟩) 32 32) K := (Bs.whole' h.k (n := 32) (c := 32) hl.symm (Nat.le_refl _) (by unfold maxLen; decide)).any
/-- .. and the block so far. -/
structure W5 (w0 : World) (tg gc gb : Nat) (KK B : List UInt8) (w : World) : Prop where
  c : IsC w gc tg KK
  b : Blk w gb 22 (u8s B).toArray
  g : w0.heap.size ≤ gb
  x : Ext No w0 w
theorem W5.no {w0 w w' : World} {tg gc gb : Nat} {KK B : List UInt8} (h : W5 w0 tg gc gb KK B w) (hx : Ext No w w') : W5 w0 tg gc gb KK B w' := ⟨h.c.no hx, h.b.ext_no hx, h.g, h.x.trans hx⟩
theorem W5.put {w0 w : World} {tg gc gb : Nat} {KK B : List UInt8} (h : W5 w0 tg gc gb KK B w) (i : Nat) (c : UInt8) : W5 w0 tg gc gb KK (B.set i c) (w.setCell ⟨gb, i, none⟩ (.int .u8 (c.toNat : Int))) := by
  have := Blk.set_ h.b i (.int .u8 (c.toNat : Int))
  rw [u8s_set] at this
  exact ⟨⟨h.c.c.far (h.c.c.ne_ h.b (by decide)) _, h.c.t.far (h.c.t.ne_ h.b (by decide)) _, h.c.k⟩, this, h.g, Ext.setCell h.x (fun hh => by have hh : gb < w0.heap.size := hh; have := h.g; omega) _⟩
set_option maxRecDepth 100000 in
set_option maxHeartbeats 2000000 in
theorem works04 (w : World) : Calls Try.prog 47 #[] w fun e' w' => e' = .returned (.bool true) ∧ Ext No w w' := by
  have hhx := hex04
  have hk1 := fl_length 32 UInt8.ofNat
  have hk2 := fl_set 32 UInt8.ofNat
  have hk3 := fl_zero 32 UInt8.ofNat
  have hb1 := fl_length 16 (fun i => UInt8.ofNat (17 * i))
  have hb2 := fl_set 16 (fun i => UInt8.ofNat (17 * i))
  have hb3 := fl_zero 16 (fun i => UInt8.ofNat (17 * i))
  unfold k04 b04 at hhx
  obtain ⟨kf, hkf⟩ : ∃ f, fl 32 UInt8.ofNat = f := ⟨_, rfl⟩
  obtain ⟨bf, hbf⟩ : ∃ f, fl 16 (fun i => UInt8.ofNat (17 * i)) = f := ⟨_, rfl⟩
  rw [hkf] at hhx hk1 hk2 hk3
  rw [hbf] at hhx hb1 hb2 hb3
  obtain ⟨K, hK⟩ : ∃ K, kf 32 = K := ⟨_, rfl⟩
  obtain ⟨B, hB⟩ : ∃ B, bf 16 = B := ⟨_, rfl⟩
  rw [hK, hB] at hhx
  have hkl : K.length = 32 := by rw [← hK]; exact hk1 32
  have hbl : B.length = 16 := by rw [← hB]; exact hb1 16
  have hkk := kys_length K hkl
  have HNC := Lib.hid (fun (tg : Nat) (kv : Value) (wx : World) (h : Bs wx Any kv K) (ht : IsT wx tg) => aNew_any tg kv K wx h hkl ht)
  obtain ⟨KK, hKK⟩ : ∃ x, kys K = x := ⟨_, rfl⟩
  rw [hKK] at hhx hkk HNC
  have hdl := enc_length KK B hkk
  have HBC := Lib.hid (fun (g tg : Nat) (wx : World) (h : IsC wx g tg KK) => aBlock_any g tg KK B wx h hbl)
  obtain ⟨D, hD⟩ : ∃ x, enc KK B = x := ⟨_, rfl⟩
  rw [hD] at hhx hdl HBC
  have HHX := Lib.hid hhx
  have HDS : Hid ((u8s D).toArray.size = 16) := Lib.hid (by rw [List.size_toArray, u8s_length, hdl])
  have HDL := Lib.hid hdl
  have HK1 := Lib.hid hk1
  have HK2 := Lib.hid hk2
  have HK3 := Lib.hid hk3
  have HB1 := Lib.hid hb1
  have HB2 := Lib.hid hb2
  have HB3 := Lib.hid hb3
  have HKE := Lib.hid hK
  have HBE := Lib.hid hB
  have HKL := Lib.hid hkl
  have hmk := mk32
  obtain ⟨Z, hZ⟩ : ∃ Z : List UInt8, List.replicate 32 0 = Z := ⟨_, rfl⟩
  rw [hZ] at hmk
  have HZ := Lib.hid (hk3.trans hZ)
  have HZB : Hid ((bx 0).toNat = 99) := Lib.hid (by rw [bx_zero]; rfl)
  clear hhx hk1 hk2 hk3 hb1 hb2 hb3 hK hB hkl hbl hkk hKK hdl hD hkf hbf hZ
  go_enter Try.func47, Try.ntmps47
  go_wp2_with (go_at_call 44; refine (aBuild_any w).mono ?_; rintro e1 w1 ⟨tg, rfl, hg1, ht1, hx1⟩; have HT1 := Lib.hid ht1; have HX1 := Lib.hid hx1; have HG1 := Lib.hid hg1; clear ht1 hx1 hg1)
  have HS : Hid (W4 w tg w1.heap.size (kf 0) (w1.alloc (.cells (u8s Z).toArray 5))) := Lib.hid (by
    rw [HZ.out]
    exact ⟨HT1.out.alloc _, Blk.new w1 _ _, HX1.out.size, HX1.out.alloc _⟩)
  clear HT1 HX1 HG1 hmk
  generalize w1.alloc (.cells (u8s Z).toArray 5) = w2 at *
  generalize w1.heap.size = gk at *
  go_loopw [3] (fun i wr => ∃ n : Nat, n ≤ 32 ∧ i = .int .i64 (n : Int) ∧ Hid (W4 w tg gk (kf n) wr)) (fun i _ => 32 - (intOf i).toNat)
  case atStart => exact ⟨0, by omega, rfl, HS⟩
  case round =>
    clear HS
    obtain ⟨n, hn, rfl, HR⟩ := hrel
    by_cases hlt : n < 32
    · have e1 := (HR.out.k.cell n).trans (u8s_get' _ n (by rw [HK1.out]; exact hlt))
      have f1 := HR.out.k.frozen n
      have HN := Lib.hid (HR.out.put n (UInt8.ofNat n))
      rw [HK2.out n hlt, toNat_of (by omega)] at HN
      clear HR
      go_wp2_with fail
      go_roundw
      case rel => exact ⟨n + 1, by omega, by go_num, HN⟩
      case measure => simp [intOf]; omega
    · obtain rfl : n = 32 := by omega
      have HR2 : Hid (W4 w tg gk K wr) := Lib.hid (by have := HR.out; rwa [HKE.out] at this)
      clear HR HK1 HK2 HK3
      have HNS := Lib.hid (fun (wx : World) (hx : Ext No wr wx) => aNew_size tg (.slice (some ⟨gk, 0, none⟩) 31 32) ((K.take 31).drop 0) wx (((HR2.out.no hx).bs HKL.out).sub (i := 0) (j := 31) (by omega) (by rw [HKL.out]; omega) (m := 31) (c' := 32) (by omega) (by omega) (by unfold maxLen; decide)) (by rw [List.length_drop, List.length_take, HKL.out]; omega))
      go_wp2_with (first
        | (go_at_call 49; (with_reducible refine (HNC.out tg _ wr (HR2.out.bs HKL.out) HR2.out.t).mono ?_); rintro e3 w3 ⟨gc, rfl, hg3, hc3, hx3⟩; have HC3 := Lib.hid hc3; have HX3 := Lib.hid hx3; clear hg3 hc3 hx3)
        | (go_at_call 49; (with_reducible refine (HNS.out w3 HX3.out).mono ?_); rintro e4 w4 ⟨rfl, hx4⟩; have HX4 := Lib.hid hx4; clear hx4)
        | (go_at_call 49; (with_reducible refine (aNew_nil _ w4).mono ?_); rintro e5 w5 ⟨rfl, hx5⟩; have HX5 := Lib.hid hx5; clear hx5))
      change Code.wp _ _ _ _ (w5.alloc (.cells (u8s (List.replicate 16 0)).toArray 22))
      have HX35 := Lib.hid (HX4.out.trans HX5.out)
      have HS5 : Hid (W5 w tg gc w5.heap.size KK (bf 0) (w5.alloc (.cells (u8s (List.replicate 16 0)).toArray 22))) := Lib.hid (by
        rw [HB3.out]
        have hx := HR2.out.x.trans (HX3.out.trans HX35.out)
        exact ⟨(HC3.out.no HX35.out).no ((Ext.refl No w5).alloc _), Blk.new w5 _ _, hx.size, hx.alloc _⟩)
      clear HX35 HX3 HX4 HX5 HC3 HR2 HNS HNC
      generalize w5.alloc (.cells (u8s (List.replicate 16 0)).toArray 22) = w6 at *
      generalize w5.heap.size = gb at *
      go_loopw [11] (fun i wr => ∃ n : Nat, n ≤ 16 ∧ i = .int .i64 (n : Int) ∧ Hid (W5 w tg gc gb KK (bf n) wr)) (fun i _ => 16 - (intOf i).toNat)
      case atStart => exact ⟨0, by omega, rfl, HS5⟩
      case round =>
        clear HS5
        obtain ⟨n, hn, rfl, HR⟩ := hrel
        by_cases hlt : n < 16
        · have e1 := (HR.out.b.cell n).trans (u8s_get' _ n (by rw [HB1.out]; exact hlt))
          have f1 := HR.out.b.frozen n
          have HN := Lib.hid (HR.out.put n (UInt8.ofNat (17 * n)))
          rw [HB2.out n hlt, toNat_of (by omega)] at HN
          clear HR
          go_wp2_with fail
          go_roundw
          case rel => exact ⟨n + 1, by omega, by go_num, HN⟩
          case measure => simp [intOf]; omega
        · obtain rfl : n = 16 := by omega
          have HR2 : Hid (W5 w tg gc gb KK B wr) := Lib.hid (by have := HR.out; rwa [HBE.out] at this)
          have HBS : Hid ((u8s B).toArray.size = 16) := Lib.hid (by rw [← HBE.out, List.size_toArray, u8s_length, HB1.out])
          clear HR HB1 HB2 HB3
          have HZ16 : Hid ((u8s (List.replicate 16 0)).toArray.size = 16) := Lib.hid (by simp [u8s_length])
          obtain ⟨Z6, hZ6⟩ : ∃ Z : List UInt8, List.replicate 16 0 = Z := ⟨_, rfl⟩
          have HZ6 := Lib.hid hZ6
          clear hZ6
          go_wp2_with (first
            | ((with_reducible show wpList _ _ _ (⟨some 56, _, _, _, _, _⟩ :: _) _ _); refine load_blk 22 (.tmp 10) rfl rfl HR2.out.b rfl _ und_16 rfl (by rw [HBS.out]; exact size_16) ?_)
            | (go_at_call 50; refine (HBC.out gc tg wr HR2.out.c).mono ?_; rintro e7 w7 ⟨rfl, hx7⟩; have HS7 := Lib.hid (HR2.out.no hx7); have HB8 : Hid (Blk (w7.alloc (.cells (u8s (List.replicate 16 0)).toArray 22)) w7.heap.size 22 (u8s (List.replicate 16 0)).toArray) := Lib.hid (Blk.new w7 _ _); have HS8 := Lib.hid (HS7.out.no ((Ext.refl No w7).alloc (.cells (u8s (List.replicate 16 0)).toArray 22))); clear hx7)
            | ((with_reducible show wpList _ _ _ (⟨none, _, _, _, _, _⟩ :: _) _ _); refine store_blk 22 (.tmp 12) (.tmp 57) rfl rfl HB8.out rfl rfl (by rw [HDS.out]; rfl) (by rw [HDS.out]; exact size_16) (u8s_one' _) ?_; intro w9 hb9 hx9; have HB9 := Lib.hid (Bs.whole' hb9 (n := 16) (c := 16) HDL.out.symm (Nat.le_refl _) (by unfold maxLen; decide)).any; have HX9 : Hid (Ext No w7 w9) := Lib.hid (((Ext.refl No w7).alloc _).transS hx9 (fun i hi h => absurd hi (by have h' : i = w7.heap.size := h; omega))); clear hb9 hx9)
            | (go_at_call 75; refine (lHex4 _ D 20 s04 w9 HB9.out HHX.out).mono ?_; rintro e10 w10 ⟨rfl, hx10⟩; have HX10 := Lib.hid (HX9.out.trans hx10); clear hx10)
            | (go_at_call 45; refine (aBox_any tg 0 w10 (HS7.out.c.t.ext_no HX10.out)).mono ?_; rintro e11 w11 ⟨rfl, hx11⟩; rw [HZB.out]; have HX11 := Lib.hid (HX10.out.trans hx11); clear hx11))
          go_ret
          exact ⟨rfl, HS7.out.x.trans HX11.out⟩
end Go.Proofs.Ytljddghamgjfbaa
