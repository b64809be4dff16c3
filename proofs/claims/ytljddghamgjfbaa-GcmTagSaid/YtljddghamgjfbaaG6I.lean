/- GcmBackP, Back06. -/
import Derived.Test.YtljddghamgjfbaaG6H
import Derived.Test.YtljddghamgjfbaaG6G
import Derived.Test.YtljddghamgjfbaaG6A
set_option linter.unusedVariables false
set_option linter.unusedSimpArgs false
namespace Go.Proofs.Ytljddghamgjfbaa
open Go.RowKit Ae Fm
/-- A byte of a stream. -/
def sby (KK nonce b : List UInt8) (i : Nat) : UInt8 := b.getD i 0 ^^^ (kst KK nonce (2 + i / 16)).getD (i % 16) 0
theorem strK_range (KK nonce b : List UInt8) (hk : KK.length = 240) (k : Nat) : strK KK nonce b k = (List.range (min (16 * k) b.length)).map (sby KK nonce b) := by
  induction k with
  | zero => simp [strK]
  | succ k ih =>
    unfold strK
    have hcl := chk_length b k
    have hkl := kst_length KK nonce (2 + k) hk
    obtain ⟨c, hc⟩ : ∃ c, (chk b k).length = c := ⟨_, rfl⟩
    rw [hc] at hcl
    have hm : min (16 * (k + 1)) b.length = min (16 * k) b.length + c := by omega
    rw [ih, hm, List.range_add, List.map_append, List.map_map, hc, Ar.xr_range _ _ (by rw [List.length_take, hc, hkl]; omega), hc]
    congr 1
    apply List.map_congr_left
    intro j hj
    have hj : j < c := by simpa using hj
    have h16 : min (16 * k) b.length = 16 * k := by omega
    have e1 : (chk b k).getD j 0 = b.getD (16 * k + j) 0 := by
      unfold chk
      rw [List.getD_eq_getElem?_getD, List.getD_eq_getElem?_getD, List.getElem?_take, if_pos (by omega), List.getElem?_drop]
    have e2 : ((kst KK nonce (2 + k)).take c).getD j 0 = (kst KK nonce (2 + k)).getD j 0 := by
      rw [List.getD_eq_getElem?_getD, List.getD_eq_getElem?_getD, List.getElem?_take, if_pos hj]
    show _ = sby KK nonce b (min (16 * k) b.length + j)
    unfold sby
    rw [e1, e2, h16, show (16 * k + j) / 16 = k by omega, show (16 * k + j) % 16 = j by omega]
theorem strm_range (KK nonce b : List UInt8) (hk : KK.length = 240) : strm KK nonce b = (List.range b.length).map (sby KK nonce b) := by
  unfold strm
  rw [strK_range KK nonce b hk, show min (16 * ((b.length + 15) / 16)) b.length = b.length by omega]
theorem strm_twice (KK nonce b : List UInt8) (hk : KK.length = 240) : strm KK nonce (strm KK nonce b) = b := by
  have hl := strm_length KK nonce b hk
  rw [strm_range KK nonce (strm KK nonce b) hk, hl]
  apply List.ext_getElem?
  intro i
  by_cases hi : i < b.length
  · rw [List.getElem?_map, List.getElem?_range hi, Option.map_some, List.getElem?_eq_getElem hi]
    congr 1
    unfold sby
    rw [strm_range KK nonce b hk, List.getD_eq_getElem?_getD, List.getElem?_map, List.getElem?_range hi, Option.map_some, Option.getD_some]
    unfold sby
    rw [UInt8.xor_assoc, UInt8.xor_self, UInt8.xor_zero, List.getD_eq_getElem?_getD, List.getElem?_eq_getElem hi]
    rfl
  · rw [List.getElem?_eq_none (by simp; omega), List.getElem?_eq_none (by omega)]
section
variable (KK nonce : List UInt8) (h : G) (a : List UInt8) (hk : KK.length = 240) (hn : nonce.length = 12)
include hk hn
theorem open_seal (b : List UInt8) : openL KK nonce h a (sealL KK nonce h a b) = (b, 0) := by
  obtain ⟨h1, h2, h3⟩ := seal_parts KK nonce h a b hk
  unfold openL
  rw [if_pos hn, if_neg (by omega), h2, h3, if_pos rfl, strm_twice KK nonce b hk]
theorem seal_open (s : List UInt8) (ho : (openL KK nonce h a s).2 = 0) : sealL KK nonce h a (openL KK nonce h a s).1 = s := by
  unfold openL at ho ⊢
  rw [if_pos hn] at ho ⊢
  by_cases h16 : s.length < 16
  · rw [if_pos h16] at ho; cases ho
  · rw [if_neg h16] at ho ⊢
    by_cases ht : tagL KK nonce h a (s.take (s.length - 16)) = s.drop (s.length - 16)
    · rw [if_pos ht]
      unfold sealL
      rw [strm_twice _ _ _ hk, ht, List.take_append_drop]
    · rw [if_neg ht] at ho; cases ho
omit hk hn in
theorem open_none (s : List UInt8) (ho : (openL KK nonce h a s).2 ≠ 0) : (openL KK nonce h a s).1 = [] := by
  unfold openL at ho ⊢
  by_cases hn : nonce.length = 12
  · rw [if_pos hn] at ho ⊢
    by_cases h16 : s.length < 16
    · rw [if_pos h16]
    · rw [if_neg h16] at ho ⊢
      by_cases ht : tagL KK nonce h a (s.take (s.length - 16)) = s.drop (s.length - 16)
      · rw [if_pos ht] at ho; exact absurd rfl ho
      · rw [if_neg ht]
  · rw [if_neg hn]
omit hk in
theorem open_turned (b : List UInt8) (hk : KK.length = 240) (i : Nat) (hi : i < 16) (x : UInt8) (hx : x ≠ 0) :
    openL KK nonce h a ((sealL KK nonce h a b).set (b.length + i) ((sealL KK nonce h a b).getD (b.length + i) 0 ^^^ x)) = ([], 6) := by
  have hsl := strm_length KK nonce b hk
  have htl := tagL_length KK nonce h a (strm KK nonce b) hk
  obtain ⟨h1, h2, h3⟩ := seal_parts KK nonce h a b hk
  unfold openL
  rw [if_pos hn, List.length_set, if_neg (by omega), h1, Nat.add_sub_cancel]
  have e1 : ((sealL KK nonce h a b).set (b.length + i) ((sealL KK nonce h a b).getD (b.length + i) 0 ^^^ x)).take b.length = strm KK nonce b := by
    rw [List.take_set, List.set_eq_of_length_le (by rw [List.length_take]; omega), ← h2, h1, Nat.add_sub_cancel]
  rw [e1, if_neg]
  intro hc
  have h4 := congrArg (fun l => l.getD i 0) hc
  have e2 : (sealL KK nonce h a b).getD (b.length + i) 0 = (tagL KK nonce h a (strm KK nonce b)).getD i 0 := by
    rw [← h3, h1, Nat.add_sub_cancel, List.getD_eq_getElem?_getD, List.getD_eq_getElem?_getD, List.getElem?_drop]
  rw [List.getD_eq_getElem?_getD (l := List.drop _ _), List.getElem?_drop, List.getElem?_set_self (by omega), Option.getD_some, e2] at h4
  apply hx
  have h5 : (tagL KK nonce h a (strm KK nonce b)).getD i 0 ^^^ ((tagL KK nonce h a (strm KK nonce b)).getD i 0 ^^^ x) = (tagL KK nonce h a (strm KK nonce b)).getD i 0 ^^^ (tagL KK nonce h a (strm KK nonce b)).getD i 0 := by rw [← h4]
  rwa [← UInt8.xor_assoc, UInt8.xor_self, UInt8.zero_xor] at h5
end
end Go.Proofs.Ytljddghamgjfbaa
namespace Go.Proofs.Ytljddghamgjfbaa
open Go.RowKit Go.Deep Go.Proofs.YtljddghamgjfbaaW.PrintWords Go.Proofs.YtljddghamgjfbaaW.PrintLast Go.Proofs.YtljddghamgjfbaaW.PrintMore Ae Fm Rt
theorem und_12 : Try.prog.underlying 90 = some (.array 12 5) := by kernel_rfl
/-- The nonce's own block. -/
theorem bs_n12 {w : World} {g : Nat} {nonce : List UInt8} (h : Blk w g 90 (u8s nonce).toArray) (hn : nonce.length = 12) : Bs w Any (.slice (some ⟨g, 0, none⟩) 12 12) nonce :=
  (Bs.whole' h (n := 12) (c := 12) hn.symm (Nat.le_refl _) (by unfold maxLen; decide)).any
set_option maxRecDepth 100000 in
set_option maxHeartbeats 2000000 in
theorem back06 (kv av tv ov : Value) (key nonce a b o : List UInt8) (w : World) (hk : Bs w Any kv key) (hn : nonce.length = 12) (ha : Bs w Any av a) (hb : Bs w Any tv b) (ho : Bs w Any ov o) : Calls Try.prog 20 #[kv, .agg (u8s nonce).toArray, av, tv, ov] w fun e' w' => e' = .returned (.bool true) ∧ Ext No w w' := by
  obtain ⟨kA, kc, rfl, -⟩ := hk.slice
  obtain ⟨aA, ac, rfl, -⟩ := ha.slice
  obtain ⟨tA, tc, rfl, -⟩ := hb.slice
  obtain ⟨oA, oc, rfl, -⟩ := ho.slice
  have hx0 : Ext No w (w.alloc (.cells (u8s nonce).toArray 90)) := (Ext.refl No w).alloc _
  have hn0 := bs_n12 (Blk.new w 90 (u8s nonce).toArray) hn
  have hk := hk.ext_no hx0
  have ha := ha.ext_no hx0
  have hb := hb.ext_no hx0
  have ho := ho.ext_no hx0
  have HX0 := Lib.hid hx0
  clear hx0
  by_cases hall : key.length ≤ 100 ∧ a.length ≤ 200 ∧ b.length ≤ 200 ∧ o.length ≤ 200
  · obtain ⟨h1, h2, h3, h4⟩ := hall
    obtain ⟨w0, hw0⟩ : ∃ x, w.alloc (.cells (u8s nonce).toArray 90) = x := ⟨_, rfl⟩
    rw [hw0] at hk hn0 ha hb ho HX0
    have HW0 := Lib.hid hw0
    have HK := Lib.hid (fun (wx : World) (hx : Ext No w0 wx) => rKey32_any (.slice kA key.length kc) key wx (hk.ext_no hx))
    have hkl := k32_length key
    obtain ⟨K, hK⟩ : ∃ x, k32 key = x := ⟨_, rfl⟩
    rw [hK] at HK hkl
    have HN := Lib.hid (fun (tg : Nat) (v : Value) (wx : World) (h : Bs wx Any v K) (ht : IsT wx tg) => gNew_any tg v K wx h hkl ht)
    have hkk := kys_length K hkl
    obtain ⟨KK, hKK⟩ : ∃ x, kys K = x := ⟨_, rfl⟩
    rw [hKK] at HN hkk
    obtain ⟨H, hH⟩ : ∃ x, hOf16 KK = x := ⟨_, rfl⟩
    rw [hH] at HN
    have hos := open_seal KK nonce H a hkk hn b
    have hso := seal_open KK nonce H a hkk hn o
    have hon := open_none KK nonce H a o
    have hsl := (seal_parts KK nonce H a b hkk).1
    have HS := Lib.hid (fun (g gc tg gh : Nat) (wx : World) (hx : Ext No w0 wx) (hg : IsG wx g gc tg gh KK H) => gSeal_any g gc tg gh KK H _ _ _ nonce a b wx hg (hn0.ext_no hx) hn (ha.ext_no hx) (by omega) (hb.ext_no hx) (by omega))
    have HO := Lib.hid (fun (g gc tg gh : Nat) (wx : World) (sv : Value) (hx : Ext No w0 wx) (hg : IsG wx g gc tg gh KK H) (hs : Bs wx Any sv (sealL KK nonce H a b)) => gOpen_all g gc tg gh KK H _ _ sv nonce a _ wx hg (hn0.ext_no hx) (ha.ext_no hx) (by omega) hs (by omega))
    simp only [hos] at HO
    have HP := Lib.hid (fun (g gc tg gh : Nat) (wx : World) (hx : Ext No w0 wx) (hg : IsG wx g gc tg gh KK H) => gOpen_all g gc tg gh KK H _ _ _ nonce a o wx hg (hn0.ext_no hx) (ha.ext_no hx) (by omega) (ho.ext_no hx) (by omega))
    have hol : (openL KK nonce H a o).1.length ≤ 200 := by
      by_cases hc : (openL KK nonce H a o).2 = 0
      · have h5 := (seal_parts KK nonce H a (openL KK nonce H a o).1 hkk).1
        rw [hso hc] at h5; omega
      · rw [hon hc]; simp
    have HT := Lib.hid (fun (g gc tg gh : Nat) (wx : World) (xv : Value) (hx : Ext No w0 wx) (hg : IsG wx g gc tg gh KK H) (hv : Bs wx Any xv (openL KK nonce H a o).1) => gSeal_any g gc tg gh KK H _ _ xv nonce a _ wx hg (hn0.ext_no hx) hn (ha.ext_no hx) (by omega) hv (by omega))
    have HB := Lib.hid hb
    have HO0 := Lib.hid ho
    obtain ⟨SL, hSL⟩ : ∃ x, sealL KK nonce H a b = x := ⟨_, rfl⟩
    rw [hSL] at HS HO hsl
    have hlen : ((SL.length : Int) != (b.length : Int) + 16) = false := by rw [hsl]; simp
    have HSL := Lib.hid hsl
    by_cases hc : (openL KK nonce H a o).2 = 0
    · simp only [hso hc] at HT
      simp only [hc] at HP
      obtain ⟨OL, hOL⟩ : ∃ x, (openL KK nonce H a o).1 = x := ⟨_, rfl⟩
      rw [hOL] at HP HT
      clear hk hn0 ha hb ho hK hkl hkk hKK hH hos hso hon hol hSL hsl hc hOL hn
      go_enter Try.func20, Try.ntmps20
      go_wp2_with (first
        | (go_at_call 44; (try rw [HW0.out]); refine (aBuild_any _).mono ?_; rintro e1 w1 ⟨tg, rfl, hg1, ht1, hx1⟩; have HT1 := Lib.hid ht1; have HX1 := Lib.hid hx1; clear ht1 hx1 hg1)
        | (go_at_call 65; (with_reducible refine (HK.out w1 HX1.out).mono ?_); rintro e2 w2 ⟨v2, rfl, ho2, hx2⟩; have HK2 := Lib.hid ho2.any; have HT2 := Lib.hid (HT1.out.ext_no hx2); have HX2 := Lib.hid (HX1.out.trans hx2); clear ho2 hx2)
        | (go_at_call 64; refine (HN.out tg _ w2 HK2.out HT2.out).mono ?_; rintro e3 w3 ⟨g, gc, gh, rfl, hg3, hi3, hx3⟩; have HI3 := Lib.hid hi3; have HX3 := Lib.hid (HX2.out.trans hx3); clear hg3 hi3 hx3)
        | (go_at_call 66; (with_reducible refine (HS.out g gc tg gh w3 HX3.out HI3.out).mono ?_); rintro e4 w4 ⟨v4, rfl, ho4, hx4⟩; have HS4 := Lib.hid ho4.any; obtain ⟨A4, c4, rfl, -⟩ := ho4.slice; have HI4 := Lib.hid (HI3.out.no hx4); have HX4 := Lib.hid (HX3.out.trans hx4); clear ho4 hx4)
        | (go_at_call 69; (with_reducible refine (HO.out g gc tg gh w4 _ HX4.out HI4.out HS4.out).mono ?_); rintro e5 w5 ⟨v5, rfl, ho5, hx5⟩; have HS5 := Lib.hid ho5.any; have HI5 := Lib.hid (HI4.out.no hx5); have HX5 := Lib.hid (HX4.out.trans hx5); clear ho5 hx5)
        | (go_at_call 27; (with_reducible refine (lSame6 _ _ b b w5 HS5.out (HB.out.ext_no HX5.out) true (by simp)).mono ?_); rintro e6 w6 ⟨rfl, hx6⟩; have HI6 := Lib.hid (HI5.out.no hx6); have HX6 := Lib.hid (HX5.out.trans hx6); clear hx6)
        | (go_at_call 69; (with_reducible refine (HP.out g gc tg gh w6 HX6.out HI6.out).mono ?_); rintro e7 w7 ⟨v7, rfl, ho7, hx7⟩; have HS7 := Lib.hid ho7.any; have HI7 := Lib.hid (HI6.out.no hx7); have HX7 := Lib.hid (HX6.out.trans hx7); clear ho7 hx7)
        | (go_at_call 66; (with_reducible refine (HT.out g gc tg gh w7 _ HX7.out HI7.out HS7.out).mono ?_); rintro e8 w8 ⟨v8, rfl, ho8, hx8⟩; have HS8 := Lib.hid ho8.any; have HX8 := Lib.hid (HX7.out.trans hx8); clear ho8 hx8)
        | (go_at_call 27; (with_reducible refine (lSame6 _ _ o o w8 HS8.out (HO0.out.ext_no HX8.out) true (by simp)).mono ?_); rintro e9 w9 ⟨rfl, hx9⟩; have HX9 := Lib.hid (HX8.out.trans hx9); clear hx9)
        | (go_at_call 63; refine (works06 _).mono ?_; rintro e10 w10 ⟨rfl, hx10⟩; have HX10 := Lib.hid (HX9.out.trans hx10); clear hx10))
      go_ret
      exact ⟨rfl, HX0.out.trans HX10.out⟩
    · have h0 := hon hc
      simp only [h0] at HP
      have htc : (((openL KK nonce H a o).2 : Int) != 0) = true := by simp; omega
      obtain ⟨OC, hOC⟩ : ∃ x : Int, ((openL KK nonce H a o).2 : Int) = x := ⟨_, rfl⟩
      rw [hOC] at HP htc
      clear hk hn0 ha hb ho hK hkl hkk hKK hH hos hso hon hol hSL hsl hc h0 hn HT hOC
      go_enter Try.func20, Try.ntmps20
      go_wp2_with (first
        | (go_at_call 44; (try rw [HW0.out]); refine (aBuild_any _).mono ?_; rintro e1 w1 ⟨tg, rfl, hg1, ht1, hx1⟩; have HT1 := Lib.hid ht1; have HX1 := Lib.hid hx1; clear ht1 hx1 hg1)
        | (go_at_call 65; (with_reducible refine (HK.out w1 HX1.out).mono ?_); rintro e2 w2 ⟨v2, rfl, ho2, hx2⟩; have HK2 := Lib.hid ho2.any; have HT2 := Lib.hid (HT1.out.ext_no hx2); have HX2 := Lib.hid (HX1.out.trans hx2); clear ho2 hx2)
        | (go_at_call 64; refine (HN.out tg _ w2 HK2.out HT2.out).mono ?_; rintro e3 w3 ⟨g, gc, gh, rfl, hg3, hi3, hx3⟩; have HI3 := Lib.hid hi3; have HX3 := Lib.hid (HX2.out.trans hx3); clear hg3 hi3 hx3)
        | (go_at_call 66; (with_reducible refine (HS.out g gc tg gh w3 HX3.out HI3.out).mono ?_); rintro e4 w4 ⟨v4, rfl, ho4, hx4⟩; have HS4 := Lib.hid ho4.any; obtain ⟨A4, c4, rfl, -⟩ := ho4.slice; have HI4 := Lib.hid (HI3.out.no hx4); have HX4 := Lib.hid (HX3.out.trans hx4); clear ho4 hx4)
        | (go_at_call 69; (with_reducible refine (HO.out g gc tg gh w4 _ HX4.out HI4.out HS4.out).mono ?_); rintro e5 w5 ⟨v5, rfl, ho5, hx5⟩; have HS5 := Lib.hid ho5.any; have HI5 := Lib.hid (HI4.out.no hx5); have HX5 := Lib.hid (HX4.out.trans hx5); clear ho5 hx5)
        | (go_at_call 27; (with_reducible refine (lSame6 _ _ b b w5 HS5.out (HB.out.ext_no HX5.out) true (by simp)).mono ?_); rintro e6 w6 ⟨rfl, hx6⟩; have HI6 := Lib.hid (HI5.out.no hx6); have HX6 := Lib.hid (HX5.out.trans hx6); clear hx6)
        | (go_at_call 69; (with_reducible refine (HP.out g gc tg gh w6 HX6.out HI6.out).mono ?_); rintro e7 w7 ⟨v7, rfl, ho7, hx7⟩; obtain ⟨A7, c7, rfl, -⟩ := ho7.slice; have HX7 := Lib.hid (HX6.out.trans hx7); clear ho7 hx7)
        | (go_at_call 63; refine (works06 _).mono ?_; rintro e10 w10 ⟨rfl, hx10⟩; have HX10 := Lib.hid (HX7.out.trans hx10); clear hx10))
      go_ret
      exact ⟨rfl, HX0.out.trans HX10.out⟩
  · have hany : 100 < key.length ∨ 200 < a.length ∨ 200 < b.length ∨ 200 < o.length := by omega
    clear hk hn ha hb hall ho hn0
    have HA := Lib.hid hany
    clear hany
    go_enter Try.func20, Try.ntmps20
    go_wp2_with (first
      | (go_at_call 63; refine (works06 _).mono ?_; rintro e2 w2 ⟨rfl, hx2⟩; have HX2 := Lib.hid hx2; clear hx2)
      | (exfalso; have := HA.out; omega))
    all_goals (go_ret; exact ⟨rfl, HX0.out.trans HX2.out⟩)
open Go.ChangeShapes Go.WideShapes in
set_option maxRecDepth 100000 in
theorem walk_GcmBack (W : World) (v0 v1 v2 v3 v4 : Value) (u0 : Rd Try.prog W 27 v0.cells.toList) (u1 : Rd Try.prog W 90 v1.cells.toList) (u2 : Rd Try.prog W 27 v2.cells.toList) (u3 : Rd Try.prog W 27 v3.cells.toList) (u4 : Rd Try.prog W 27 v4.cells.toList)
    {r : Reach} {base : Nat} (ok0 : Value.okWide Try.prog W r base 27 v0) (ok1 : Value.okWide Try.prog W r base 90 v1) (ok2 : Value.okWide Try.prog W r base 27 v2) (ok3 : Value.okWide Try.prog W r base 27 v3) (ok4 : Value.okWide Try.prog W r base 27 v4) :
    Calls Try.prog 20 #[v0, v1, v2, v3, v4] W fun e W' => e = .returned (.bool true) ∧ Ext No W W' := by
  obtain ⟨A0, c0, l0, rfl, h0⟩ := bytes_val u0 ok0
  obtain ⟨l, hl, rfl⟩ := bytesN_of und_12 (by kernel_rfl) ok1 u1
  obtain ⟨A2, c2, l2, rfl, h2⟩ := bytes_val u2 ok2
  obtain ⟨A3, c3, l3, rfl, h3⟩ := bytes_val u3 ok3
  obtain ⟨A4, c4, l4, rfl, h4⟩ := bytes_val u4 ok4
  exact back06 _ _ _ _ l0 l l2 l3 l4 W h0.any hl h2.any h3.any h4.any
end Go.Proofs.Ytljddghamgjfbaa
