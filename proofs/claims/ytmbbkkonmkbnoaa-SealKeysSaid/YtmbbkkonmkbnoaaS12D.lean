/- GcmCtr, GcmNew, OctXor, GcmStr, GcmTag, GcmSeal, OctSame, GcmOpen, GcmTwice. -/
import Derived.Test.YtmbbkkonmkbnoaaS12B
import Derived.Test.YtmbbkkonmkbnoaaS12C
import Derived.Deep.OwnRows
import Derived.Deep.RegionLaw
set_option linter.unusedVariables false
set_option linter.unusedSimpArgs false
namespace Go.Proofs.Ytmbbkkonmkbnoaa
open Go.RowKit Go.Deep Ae
/-- What each operation of the second copy leaves. -/
def FN (gb n : Nat) (L : List UInt8) : Nat → Value → World → Prop
  | 0, v, _ => v = .slice (some ⟨gb, 12, none⟩) 4 4
  | 1, v, _ => v = .int .u32 (n : Int)
  | 2, v, _ => v = .int .u64 (n : Int)
  | 3, v, w => Mid w v (putL n 4)
  | 4, _, w => Blk w gb 203 (u8s L).toArray
  | _, _, _ => True
theorem FN.no {gb n : Nat} {L : List UInt8} {w w' : World} (hx : Ext No w w') : ∀ j v, FN gb n L j v w → FN gb n L j v w' := by
  intro j v H
  match j, H with
  | 0, H | 1, H | 2, H => exact H
  | 3, H => exact H.ext_no hx
  | 4, H => exact Blk.ext_no H hx
  | m + 5, _ => trivial
set_option maxRecDepth 100000 in
set_option maxHeartbeats 2000000 in
theorem gCounter_any (v : Value) (nonce : List UInt8) (n : Nat) (w : World) (h : Bs w Any v nonce) (hl : nonce.length = 12) (hn : n < 4294967296) : Calls Try.prog 161 #[v, .int .u32 (n : Int)] w fun e w' => e = .returned (.agg (u8s (nonce ++ putL n 4)).toArray) ∧ Ext No w w' := by
  obtain ⟨A, c, rfl, -⟩ := h.slice
  have HN : Hid (Bs w Any (.slice A 12 c) nonce) := Lib.hid (by rw [← hl]; exact h)
  have HLN := Lib.hid hl
  rw [hl]
  have hL1 : (nonce ++ List.replicate 4 (0 : UInt8)).length = 16 := by rw [List.length_append, hl, List.length_replicate]
  have hL2 : (nonce ++ putL n 4).length = 16 := by rw [List.length_append, hl, putL_length]
  have hc1 : setL (u8s (List.replicate 16 0)).toArray 0 ((u8s nonce).take 16) = (u8s (nonce ++ List.replicate 4 0)).toArray := by
    rw [List.take_of_length_le (by rw [u8s_length]; omega), setL_u8s _ _ _ (by rw [List.length_replicate]; omega), List.take_zero, List.nil_append, Nat.zero_add, List.drop_replicate, hl]
  have hc2 : ∀ L : List UInt8, L = nonce ++ List.replicate 4 0 ∨ L = nonce ++ putL n 4 → L.take 12 ++ putL n 4 ++ L.drop 16 = nonce ++ putL n 4 := by
    intro L hL
    have e : L.take 12 = nonce ∧ L.drop 16 = [] := by
      rcases hL with rfl | rfl
      · exact ⟨by rw [List.take_append_of_le_length (by omega), List.take_of_length_le (by omega)], List.drop_of_length_le (by omega)⟩
      · exact ⟨by rw [List.take_append_of_le_length (by omega), List.take_of_length_le (by omega)], List.drop_of_length_le (by omega)⟩
    rw [e.1, e.2, List.append_nil]
  obtain ⟨L1, h1⟩ : ∃ L, nonce ++ List.replicate 4 (0 : UInt8) = L := ⟨_, rfl⟩
  obtain ⟨L2, h2⟩ : ∃ L, nonce ++ putL n 4 = L := ⟨_, rfl⟩
  rw [h1] at hL1 hc1 hc2
  rw [h2] at hL2 hc2 ⊢
  have HL1 := Lib.hid hL1
  have HL2 := Lib.hid hL2
  have HC1 := Lib.hid hc1
  have HC2 := Lib.hid hc2
  have HSZ : Hid ((u8s L2).toArray.size = 16) := Lib.hid (by rw [List.size_toArray, u8s_length, hL2])
  have HS := Lib.hid (Two16.new w (List.replicate 16 0) (List.replicate 16 0))
  have HZL : Hid ((u8s (List.replicate 16 0)).toArray.size = 16) := Lib.hid (by rw [List.size_toArray, u8s_length, List.length_replicate])
  clear h hl h1 h2 hL1 hL2 hc1 hc2
  go_enter Try.func161, Try.ntmps161
  go_wp2_with ((with_reducible show wpList _ _ _ (⟨some 8, _, _, _, _, _⟩ :: _) _ _); go_must (change wpList _ _ _ _ _ ((w.alloc (.cells (u8s (List.replicate 16 0)).toArray 203)).alloc (.cells (u8s (List.replicate 16 0)).toArray 203)); refine copy_bs rfl (.tmp 6) (.tmp 7) rfl HS.out.b rfl rfl (HN.out.ext_no HS.out.x) (by rw [HZL.out]; omega) ?_); intro w2 hb2 hx2; rw [HC1.out] at hb2; rw [show goInt ((Nat.min nonce.length 16 : Nat) : Int) = .int .i64 12 by rw [HLN.out]; rfl]; have HB2 := Lib.hid hb2; have HA2 := Lib.hid (HS.out.a.ext hx2 (fun h => by have h' : w.heap.size = w.heap.size + 1 := h; omega)); have HX2 := Lib.hid (HS.out.x.transS hx2 (fun i hi h => absurd hi (by have h' : i = w.heap.size + 1 := h; omega))); clear hb2 hx2)
  change Code.wp _ _ _ ⟨(fun vs => ((Value.slice A 12 c) :: (Value.int IntKind.u32 (n : Int)) :: undef :: undef :: (Value.pointer (some ⟨w.heap.size, 0, none⟩)) :: (Value.pointer (some ⟨w.heap.size + 1, 0, none⟩)) :: (Value.slice (some ⟨w.heap.size + 1, 0, none⟩) 16 16) :: (Value.slice A 12 c) :: (Value.int IntKind.i64 12) :: (vs 0) :: (vs 1) :: (vs 2) :: (vs 3) :: (vs 4) :: undef :: []).toArray) (fun _ => undef), []⟩ w2
  refine RF.region (vs := fun _ => undef) rfl (fun vs => ((Value.slice A 12 c) :: (Value.int IntKind.u32 (n : Int)) :: undef :: undef :: (Value.pointer (some ⟨w.heap.size, 0, none⟩)) :: (Value.pointer (some ⟨w.heap.size + 1, 0, none⟩)) :: (Value.slice (some ⟨w.heap.size + 1, 0, none⟩) 16 16) :: (Value.slice A 12 c) :: (Value.int IntKind.i64 12) :: (vs 0) :: (vs 1) :: (vs 2) :: (vs 3) :: (vs 4) :: undef :: []).toArray)
    (FN (w.heap.size + 1) n L2) (fun vs wx => Ext No w wx ∧ Blk wx w.heap.size 203 (u8s (List.replicate 16 0)).toArray ∧ (Blk wx (w.heap.size + 1) 203 (u8s L1).toArray ∨ Blk wx (w.heap.size + 1) 203 (u8s L2).toArray)) rfl (by kernel_rfl) ?_ ?_ ?_
  · exact ⟨HX2.out.drew, HA2.out.drew, .inl HB2.out.drew⟩
  · refine ⟨⟨⟨⟨⟨trivial, ?_⟩, ?_⟩, ?_⟩, ?_⟩, ?_⟩
    all_goals refine RF.Step.plain rfl rfl (fun vs wx hG hv hd K hK => ?_)
    · go_simp
      exact hK _ _ hG rfl (fun _ _ h => h)
    · go_simp
      exact hK _ _ hG rfl (fun _ _ h => h)
    · have h3 : vs 1 = .int .u32 (n : Int) := hd.1
      have hwk : IntKind.u64.wrap (n : Int) = (n : Int) := by rw [IntKind.wrap_u64]; omega
      go_simp
      have h4 := hK _ _ hG rfl (fun _ _ h => h)
      first | (simpa only [RF.upd, h3, Nat.reduceEqDiff, if_true, if_false, reduceIte] using h4) | (simp only [RF.upd, h3, Nat.reduceEqDiff, if_true, if_false, reduceIte] at h4 ⊢; exact h4)
    · have h3 : vs 2 = .int .u64 (n : Int) := hd.1
      have hp := oPut_any n 4 wx (by omega) (by omega)
      rw [show ((4 : Nat) : Int) = 4 from rfl] at hp
      go_simp
      with_reducible refine hp.mono ?_
      rintro e' w' ⟨v', rfl, ho, hx⟩
      have h4 := hK _ _ ⟨hG.1.trans hx, hG.2.1.ext_no hx, hG.2.2.imp (fun h => h.ext_no hx) (fun h => h.ext_no hx)⟩ (Mid.of_own ho) (fun j _ h => FN.no hx j _ h)
      simpa only [RF.upd, h3, Nat.reduceEqDiff, if_true, if_false, reduceIte] using h4
    · have h2 : vs 0 = .slice (some ⟨w.heap.size + 1, 12, none⟩) 4 4 := hd.1
      have h5 : Mid wx (vs 3) (putL n 4) := hd.2.1
      have hpl : (u8s (putL n 4)).take 4 = u8s (putL n 4) := List.take_of_length_le (by rw [u8s_length, putL_length]; omega)
      have hnb : ∀ {cs : Array Value}, Blk wx (w.heap.size + 1) 203 cs → ¬ (vs 3).ownBlock = some (w.heap.size + 1) := fun hb => mid_not_ty h5 hb (by decide)
      obtain ⟨L, hL1, hL2, hbL⟩ : ∃ L : List UInt8, L.length = 16 ∧ L.take 12 ++ putL n 4 ++ L.drop 16 = L2 ∧ Blk wx (w.heap.size + 1) 203 (u8s L).toArray := by
        rcases hG.2.2 with hb | hb
        · exact ⟨_, HL1.out, HC2.out _ (.inl rfl), hb⟩
        · exact ⟨_, HL2.out, HC2.out _ (.inr rfl), hb⟩
      refine wp_copy_bs (.tmp 9) (.tmp 12) rfl hbL h2 rfl h5.bs (by rw [List.size_toArray, u8s_length, hL1]; omega) ?_
      intro w' hb' hx'
      rw [hpl, setL_u8s _ _ _ (by rw [putL_length, hL1]; omega), putL_length, hL2] at hb'
      refine hK _ _ ⟨hG.1.transS hx' (fun i hi h => absurd hi (by have h' : i = w.heap.size + 1 := h; omega)), hG.2.1.ext hx' (fun h => by have h' : w.heap.size = w.heap.size + 1 := h; omega), .inr hb'⟩ hb' (fun j hj h => ?_)
      match j, h with
      | 0, h | 1, h | 2, h => exact h
      | 3, h => exact Mid.ext h hx' (fun b e k => hnb hbL (by rw [← (show b = w.heap.size + 1 from k)]; exact e))
      | 4, h => exact absurd rfl hj
      | m + 5, _ => trivial
  · intro vs wx hG hF
    have HB3 : Hid (Blk wx (w.heap.size + 1) 203 (u8s L2).toArray) := hF 4 (by decide)
    have HA3 := Lib.hid hG.2.1
    have HX3 := Lib.hid hG.1
    clear hG hF
    go_wp2_with (first
      | ((with_reducible show wpList _ _ _ (⟨some 14, _, _, _, _, _⟩ :: _) _ _); refine load_blk 203 (.tmp 5) rfl rfl HB3.out rfl _ und_16 rfl (by rw [HSZ.out]; exact size_16) ?_)
      | ((with_reducible show wpList _ _ _ (⟨none, _, _, _, _, _⟩ :: _) _ _); refine store_blk 203 (.tmp 4) (.tmp 14) rfl rfl HA3.out rfl rfl (by rw [HSZ.out, HZL.out]) (by rw [HSZ.out]; exact size_16) (u8s_one' _) ?_; intro w4 hb4 hx4; have HB4 := Lib.hid hb4; have HX4 := Lib.hid (HX3.out.transS hx4 (fun i hi h => absurd hi (by have h' : i = w.heap.size := h; omega))); clear hb4 hx4))
    exact bodyPost_ret (v := .agg (u8s L2).toArray) (ret_blk rfl HB4.out rfl _ und_16 rfl (by rw [HSZ.out]; exact size_16)) rfl ⟨rfl, HX4.out⟩
end Go.Proofs.Ytmbbkkonmkbnoaa
namespace Go.Proofs.Ytmbbkkonmkbnoaa
open Go.RowKit Go.Deep Ae Fm
/-- A key, ready: its cipher, its element's table. -/
structure IsG (w : World) (g gc tg gh : Nat) (KK : List UInt8) (h : G) : Prop where
  g : Blk w g 211 #[pB gc, pB gh]
  c : IsC w gc tg KK
  h : IsTb w gh (tb h) tov
theorem IsG.no {w w' : World} {g gc tg gh : Nat} {KK : List UInt8} {h : G} (H : IsG w g gc tg gh KK h) (hx : Ext No w w') : IsG w' g gc tg gh KK h := ⟨H.g.ext_no hx, H.c.no hx, H.h.ext_no hx⟩
/-- A key's element. -/
def hOf16 (KK : List UInt8) : G := elL (enc KK (List.replicate 16 0))
theorem gNew_size (tg : Nat) (kv : Value) (key : List UInt8) (w : World) (h : Bs w Any kv key) (hl : key.length ≠ 32) : Calls Try.prog 80 #[pB tg, kv] w fun e w' => e = .returned (.tuple #[.pointer none, .int .i64 17]) ∧ Ext No w w' := by
  have HC := Lib.hid (aNew_size tg kv key w h hl)
  clear h
  go_enter Try.func80, Try.ntmps80
  go_wp2_with (go_at_call 124; refine HC.out.mono ?_; rintro e1 w1 ⟨rfl, hx1⟩; have HX1 := Lib.hid hx1; clear hx1)
  go_ret2
  exact ⟨rfl, HX1.out⟩
set_option maxRecDepth 100000 in
set_option maxHeartbeats 2000000 in
theorem gNew_any (tg : Nat) (kv : Value) (key : List UInt8) (w : World) (h : Bs w Any kv key) (hl : key.length = 32) (ht : IsT w tg) :
    Calls Try.prog 80 #[pB tg, kv] w fun e w' => ∃ g gc gh, e = .returned (.tuple #[pB g, .int .i64 0]) ∧ w.heap.size ≤ g ∧ IsG w' g gc tg gh (kys key) (hOf16 (kys key)) ∧ Ext No w w' := by
  have HC := Lib.hid (aNew_any tg kv key w h hl ht)
  have hkk := kys_length key hl
  obtain ⟨KK, hKK⟩ : ∃ x, kys key = x := ⟨_, rfl⟩
  rw [hKK] at HC hkk ⊢
  have HB := Lib.hid (fun (g : Nat) (wx : World) (h : IsC wx g tg KK) => aBlock_any g tg KK (List.replicate 16 0) wx h (by simp))
  have hdl := enc_length KK (List.replicate 16 0) hkk
  have hHE : hOf16 KK = elL (enc KK (List.replicate 16 0)) := rfl
  obtain ⟨D, hD⟩ : ∃ x, enc KK (List.replicate 16 0) = x := ⟨_, rfl⟩
  rw [hD] at HB hdl hHE
  have HDS : Hid ((u8s D).toArray.size = 16) := Lib.hid (by rw [List.size_toArray, u8s_length, hdl])
  have HDL := Lib.hid hdl
  obtain ⟨E, hE⟩ : ∃ x, hOf16 KK = x := ⟨_, rfl⟩
  rw [hE] at hHE ⊢
  have HHE := Lib.hid hHE
  clear h hl ht hkk hKK hdl hD hE hHE
  go_enter Try.func80, Try.ntmps80
  go_wp2_with (first
    | (go_at_call 124; refine HC.out.mono ?_; rintro e1 w1 ⟨gc, rfl, hg1, hc1, hx1⟩; have HC1 := Lib.hid hc1; have HX1 := Lib.hid hx1; clear hg1 hc1 hx1)
    | (go_at_call 125; go_must (refine (HB.out gc w1 HC1.out).mono ?_; rintro e2 w2 ⟨rfl, hx2⟩; have HX2 := Lib.hid (HX1.out.trans hx2); have HC2 := Lib.hid (HC1.out.no hx2); have HR2 := Lib.hid (Blk.new w2 203 (u8s (List.replicate 16 0)).toArray); clear hx2))
    | ((with_reducible show wpList _ _ _ (⟨none, _, _, _, _, _⟩ :: _) _ _); go_must (refine store_blk 203 (.tmp 8) (.tmp 20) rfl rfl HR2.out rfl rfl (by rw [HDS.out]; rfl) (by rw [HDS.out]; exact size_16) (u8s_one' _) ?_); intro w3 hb3 hx3; have HB3 := Lib.hid (Bs.whole' hb3 (n := 16) (c := 16) HDL.out.symm (Nat.le_refl _) (by unfold maxLen; decide)).any; have hx23 : Ext No w2 w3 := ((Ext.refl No w2).alloc _).transS hx3 (fun i hi h => absurd hi (by have h' : i = w2.heap.size := h; omega)); have HX3 := Lib.hid (HX2.out.trans hx23); have HC3 := Lib.hid (HC2.out.no hx23); clear hb3 hx3 hx23)
    | (go_at_call 127; go_must (refine (fFrom_any _ D w3 HB3.out).mono ?_; rintro e4 w4 ⟨rfl, hx4⟩; rw [← HHE.out]; have HX4 := Lib.hid (HX3.out.trans hx4); have HC4 := Lib.hid (HC3.out.no hx4); clear hx4))
    | (go_at_call 126; go_must (refine (fBuild_any E w4).mono ?_; rintro e5 w5 ⟨gh, rfl, hg5, ht5, hx5⟩; have HX5 := Lib.hid (HX4.out.trans hx5); have HC5 := Lib.hid (HC4.out.no hx5); have HT5 := Lib.hid ht5; clear hg5 ht5 hx5)))
  go_ret2
  exact ⟨_, gc, gh, rfl, HX5.out.size, ⟨Blk.new w5 _ _, HC5.out.no ((Ext.refl No w5).alloc _), HT5.out.alloc _⟩, HX5.out.alloc _⟩
end Go.Proofs.Ytmbbkkonmkbnoaa
namespace Go.Proofs.Ytmbbkkonmkbnoaa
open Go.RowKit Go.Deep Ae
theorem made_u8 (n : Nat) : madeCells #[.int .u8 0] n = (u8s (List.replicate n 0)).toArray := by
  have e : (madeCells #[Value.int .u8 0] n).toList = u8s (List.replicate n 0) := by rw [toList_madeCells_one]; simp [u8s, u8v]
  rw [← e]
theorem mk_u8 (n : Nat) (hn : n ≤ 1000000) (W : World) : (Instr.makeSlice 22 (.int .i64 (n : Int)) (.int .i64 (n : Int))).run Try.prog W = .ok (.slice (some ⟨W.heap.size, 0, none⟩) n n) (W.alloc (.cells (u8s (List.replicate n 0)).toArray 5)) := by
  rw [← made_u8]
  exact run_make_row' (P := Try.prog) 22 5 (.int .u8 0) 1 Try.underlying22 info_u8 rfl .i64 .i64 n (by omega) (by omega) W
/-- Two rows, as far as the first one goes. -/
def xz (a b : List UInt8) (n : Nat) : List UInt8 := xr (a.take n) (b.take n) ++ List.replicate (a.length - n) 0
theorem xz_length (a b : List UInt8) (n : Nat) (hn : n ≤ a.length) (hb : a.length ≤ b.length) : (xz a b n).length = a.length := by
  unfold xz; rw [List.length_append, xr_length, List.length_take, List.length_take, List.length_replicate]; omega
theorem xr_take (a b : List UInt8) (n : Nat) (ha : n < a.length) (hb : n < b.length) : (xr (a.take n) (b.take n) ++ List.replicate (a.length - n) 0).set n (a.getD n 0 ^^^ b.getD n 0) = xr (a.take (n + 1)) (b.take (n + 1)) ++ List.replicate (a.length - (n + 1)) 0 := by
  have h1 : (xr (a.take n) (b.take n)).length = n := by rw [xr_length, List.length_take, List.length_take]; omega
  have h2 : xr (a.take (n + 1)) (b.take (n + 1)) = xr (a.take n) (b.take n) ++ [a.getD n 0 ^^^ b.getD n 0] := by
    unfold xr
    rw [List.take_succ_eq_append_getElem ha, List.take_succ_eq_append_getElem hb, List.zipWith_append (by rw [List.length_take, List.length_take]; omega), List.getD_eq_getElem?_getD, List.getD_eq_getElem?_getD, List.getElem?_eq_getElem ha, List.getElem?_eq_getElem hb]
    rfl
  rw [h2, List.set_append_right _ _ (by omega), h1, Nat.sub_self, show a.length - n = (a.length - (n + 1)) + 1 by omega, List.replicate_succ, List.set_cons_zero, List.append_assoc]
  rfl
set_option maxRecDepth 100000 in
set_option maxHeartbeats 1000000 in
theorem oXor_any (v1 v2 : Value) (l m : List UInt8) (w : World) (h1 : Bs w Any v1 l) (h2 : Bs w Any v2 m) (hlm : l.length ≤ m.length) (hl : l.length ≤ 1000000) :
    Calls Try.prog 162 #[v1, v2] w fun e w' => ∃ v', e = .returned v' ∧ Own w' w.heap.size v' (xr l (m.take l.length)) ∧ Ext No w w' := by
  obtain ⟨A, c, rfl, hc, hcm, ba, oa, hA⟩ := h1.slice
  obtain ⟨B, d, rfl, hd, hdm, bb, ob, hB⟩ := h2.slice
  have hmk := mk_u8 l.length hl
  have H1 := Lib.hid h1
  have H2 := Lib.hid h2
  obtain ⟨Z, hZ⟩ : ∃ Z : List UInt8, List.replicate l.length 0 = Z := ⟨_, rfl⟩
  rw [hZ] at hmk
  clear h1 h2 hA hB
  have hmin : (min (l.length : Int) (m.length : Int)) = (l.length : Int) := by omega
  unfold maxLen at hcm hdm
  go_enter Try.func162, Try.ntmps162
  go_wp2_with fail
  have HS : Hid (Blk (w.alloc (.cells (u8s Z).toArray 5)) w.heap.size 5 (u8s (xz l m 0)).toArray) := Lib.hid (by
    have e : xz l m 0 = Z := by unfold xz; rw [← hZ]; simp [xr]
    rw [e]
    exact Blk.new w _ _)
  have HX0 := Lib.hid ((Ext.refl No w).alloc (.cells (u8s Z).toArray 5))
  have hdl : (l.length : Int) ≤ (m.length : Int) := by omega
  clear hmk hmin
  generalize w.alloc (.cells (u8s Z).toArray 5) = w1 at *
  go_loopw [15] (fun i wr => ∃ n : Nat, n ≤ l.length ∧ i = .int .i64 (n : Int) ∧ Hid (Blk wr w.heap.size 5 (u8s (xz l m n)).toArray) ∧ Hid (Ext No w wr)) (fun i _ => l.length - (intOf i).toNat)
  case atStart => exact ⟨0, by omega, rfl, HS, HX0⟩
  case round =>
    clear HS HX0 hZ
    obtain ⟨n, hn, rfl, HB, HX⟩ := hrel
    by_cases hlt : n < l.length
    · obtain ⟨A', c', ea, -, -, ba, oa, hA⟩ := (H1.out.ext_no HX.out).slice
      obtain ⟨B', d', eb, -, -, bb, ob, hB⟩ := (H2.out.ext_no HX.out).slice
      injection ea with q1 _ q2
      injection eb with q3 _ q4
      obtain ⟨ra, -, -, e1⟩ := hA n hlt
      obtain ⟨rb, -, -, e2⟩ := hB n (by omega)
      rw [ra] at q1
      rw [rb] at q3
      subst q1 q2 q3 q4
      have e1' : wr.drew.cell? ⟨ba, oa + n, none⟩ = some (.int .u8 ((l.getD n 0).toNat : Int)) := by rw [List.getD_eq_getElem?_getD, List.getElem?_eq_getElem hlt]; exact e1
      have e2' : wr.drew.cell? ⟨bb, ob + n, none⟩ = some (.int .u8 ((m.getD n 0).toNat : Int)) := by rw [List.getD_eq_getElem?_getD, List.getElem?_eq_getElem (by omega)]; exact e2
      have e3 : wr.drew.cell? ⟨w.heap.size, n, none⟩ = _ := (HB.out.cell n).trans (u8s_get' _ n (by rw [xz_length _ _ _ hn hlm]; exact hlt))
      have f3 : wr.drew.frozen? ⟨w.heap.size, n, none⟩ = _ := HB.out.frozen n
      have hset := Blk.set_ (show Blk wr.drew w.heap.size 5 (u8s (xz l m n)).toArray from HB.out) n (.int .u8 ((l.getD n 0 ^^^ m.getD n 0).toNat : Int))
      rw [u8s_set] at hset
      have HN : Hid (Blk (wr.drew.setCell ⟨w.heap.size, n, none⟩ (.int .u8 ((l.getD n 0 ^^^ m.getD n 0).toNat : Int))) w.heap.size 5 (u8s (xz l m (n + 1))).toArray) := Lib.hid (by
        have e := xr_take l m n hlt (by omega)
        unfold xz at hset ⊢
        rwa [e] at hset)
      have HXN := Lib.hid (Ext.setCell (p := ⟨w.heap.size, n, none⟩) HX.out.drew (fun h => by have h : w.heap.size < w.heap.size := h; omega) (.int .u8 ((l.getD n 0 ^^^ m.getD n 0).toNat : Int)))
      have hnm : (n : Int) < (m.length : Int) := by omega
      obtain ⟨x, hx⟩ : ∃ x, l.getD n 0 = x := ⟨_, rfl⟩
      obtain ⟨y, hy⟩ : ∃ y, m.getD n 0 = y := ⟨_, rfl⟩
      have hxy := xor_u8 x y
      rw [hx] at e1' HN HXN
      rw [hy] at e2' HN HXN
      obtain ⟨z, hz⟩ : ∃ z, x ^^^ y = z := ⟨_, rfl⟩
      rw [hz] at hxy HN HXN
      clear e1 e2 hset hx hy hz ra rb hA hB HB HX
      go_wp2_with fail
      go_still_tail 12, (by kernel_rfl)
      change wpList _ _ _ _ _ wr.drew
      generalize wr.drew = w2 at *
      clear hxy
      go_wp2_with fail
      go_roundw
      case rel => exact ⟨n + 1, by omega, by go_num, HN, HXN⟩
      case measure => simp [intOf]; omega
    · obtain rfl : n = l.length := by omega
      have HE : Hid (xz l m l.length = xr l (m.take l.length)) := Lib.hid (by unfold xz; rw [List.take_length, Nat.sub_self]; simp)
      have HL := Lib.hid (xz_length l m l.length (Nat.le_refl _) hlm)
      have HO : Hid (Own wr w.heap.size (.slice (some ⟨w.heap.size, 0, none⟩) l.length l.length) (xz l m l.length)) := Lib.hid (by
        have hl' := HL.out
        refine ⟨by rw [u8s_length, Nat.mul_one], .inr ⟨w.heap.size, l.length, _, by rw [hl'], Nat.le_refl _, HB.out, by rw [hl']; exact Nat.le_refl _, by unfold maxLen; omega, by rw [List.size_toArray, u8s_length, hl', Nat.mul_one], ?_⟩⟩
        rw [List.take_of_length_le (by simp [u8s_length])])
      rw [HE.out] at HO
      clear HB HL HE
      go_wp2_with fail
      go_ret
      exact ⟨_, rfl, HO.out, HX.out⟩
end Go.Proofs.Ytmbbkkonmkbnoaa
namespace Go.Proofs.Ytmbbkkonmkbnoaa
open Go.RowKit Go.Deep Ae Fm
/-- The block of a number, behind a nonce, sealed. -/
def kst (KK nonce : List UInt8) (n : Nat) : List UInt8 := enc KK (nonce ++ putL n 4)
def chk (b : List UInt8) (k : Nat) : List UInt8 := (b.drop (16 * k)).take 16
/-- The text, bit by bit with the blocks of numbers from 2 on: of the first so many blocks. -/
def strK (KK nonce b : List UInt8) : Nat → List UInt8
  | 0 => []
  | k + 1 => strK KK nonce b k ++ xr (chk b k) ((kst KK nonce (2 + k)).take (chk b k).length)
def strm (KK nonce b : List UInt8) : List UInt8 := strK KK nonce b ((b.length + 15) / 16)
theorem kst_length (KK nonce : List UInt8) (n : Nat) (h : KK.length = 240) : (kst KK nonce n).length = 16 := enc_length KK _ h
theorem chk_length (b : List UInt8) (k : Nat) : (chk b k).length = min 16 (b.length - 16 * k) := by unfold chk; rw [List.length_take, List.length_drop]
theorem strK_length (KK nonce b : List UInt8) (h : KK.length = 240) (k : Nat) : (strK KK nonce b k).length = min (16 * k) b.length := by
  induction k with
  | zero => simp [strK]
  | succ k ih =>
    unfold strK
    rw [List.length_append, ih, xr_length, List.length_take, kst_length _ _ _ h, chk_length]
    omega
theorem bs_old' {w : World} {F : Nat → Prop} {v : Value} {l : List UInt8} (h : Bs w F v l) : Bs w (fun b => b < w.heap.size) v l := by
  obtain ⟨h1, A, c, hv, hc, hm, hn⟩ := h
  refine ⟨h1, A, c, hv, hc, hm, fun h0 => ?_⟩
  obtain ⟨b, off, hA, _, hcell⟩ := hn h0
  exact ⟨b, off, hA, World.block_lt_of_cell? w _ (hcell 0 _ (u8s_get h0)), hcell⟩
/-- A whole array is stored: for a region's operation. -/
theorem wp_store_blk' {P : Program} {o : Oper} {a : Act} {w : World} {K : Act → World → Prop} {Q : Exit → Act → World → Prop} {g : Nat} {t : TypeId} {cs cs' : Array Value} (ty : TypeId) (x y : Operand) (ho : o.op = .store ty x y) (hb : Blk w g t cs) (hx : a.eval x = pB g) (hy : a.eval y = .agg cs') (hs : cs'.size = cs.size) (hi : (P.info? ty).map (·.size) = some cs'.size)
    (h1 : ∀ v ∈ cs'.toList, v.oneCell' = true) (h : ∀ w', Blk w' g t cs' → Ext (One g) w w' → K (a.put o.dst undef) w') : o.wp P a w K Q := by
  refine wp_store_mid ty x y ho g 0 cs' hx hy (fun j hj => ⟨?_, hb.frozen _⟩) hi (by simpa using all_oneCell_toArray (cs := cs'.toList) h1) (h _ ?_ (Ext.sets _ _ (Ext.refl _ w) (fun _ => rfl)))
  · rw [Nat.zero_add, hb.cell, Array.getElem?_eq_getElem (by omega)]; rfl
  · have := hb.sets cs'.toList 0
    rw [setL_all _ _ (by simpa using hs)] at this
    simpa using this
/-- One round's block: what each operation leaves. -/
def FS (wb g gc n : Nat) (nv : Value) (CB EB : List UInt8) : Nat → Value → World → Prop
  | 0, v, _ => v = pB g
  | 1, v, _ => v = pB g
  | 2, v, _ => v = pB g
  | 3, v, _ => v = pB gc
  | 4, v, _ => v = nv
  | 5, v, _ => v = .int .u32 (n : Int)
  | 6, v, _ => v = .agg (u8s CB).toArray
  | 7, v, _ => v = .agg (u8s EB).toArray
  | 8, v, w => ∃ gx cs, v = pB gx ∧ wb ≤ gx ∧ Blk w gx 203 cs ∧ cs.size = 16
  | 9, v, _ => v = undef
  | _, _, _ => True
theorem FS.no {wb g gc n : Nat} {nv : Value} {CB EB : List UInt8} {w w' : World} (hx : Ext No w w') : ∀ j v, FS wb g gc n nv CB EB j v w → FS wb g gc n nv CB EB j v w' := by
  intro j v H
  match j, H with
  | 0, H | 1, H | 2, H | 3, H | 4, H | 5, H | 6, H | 7, H | 9, H => exact H
  | 8, ⟨gx, cs, h1, h2, h3, h4⟩ => exact ⟨gx, cs, h1, h2, h3.ext_no hx, h4⟩
  | m + 10, _ => trivial
/-- .. and the world: what was there; the block, once it is stored. -/
def GS (w0 : World) (EB : List UInt8) (v8 v9 : Value) (w : World) : Prop := Ext No w0 w ∧ (v9 = undef → ∃ gx, v8 = pB gx ∧ w0.heap.size ≤ gx ∧ Blk w gx 203 (u8s EB).toArray)
theorem GS.no {w0 w w' : World} {EB : List UInt8} {v8 v9 : Value} (h : GS w0 EB v8 v9 w) (hx : Ext No w w') : GS w0 EB v8 v9 w' := ⟨h.1.trans hx, fun e => by
  obtain ⟨gx, h1, h2, h3⟩ := h.2 e
  exact ⟨gx, h1, h2, h3.ext_no hx⟩⟩
set_option maxRecDepth 100000 in
set_option maxHeartbeats 4000000 in
theorem gStream_any (g gc tg gh : Nat) (KK : List UInt8) (h : G) (nv bv : Value) (nonce b : List UInt8) (w : World) (hg : IsG w g gc tg gh KK h) (hn : Bs w Any nv nonce) (hnl : nonce.length = 12) (hb : Bs w Any bv b) (hbl : b.length ≤ 100000) :
    Calls Try.prog 128 #[pB g, nv, bv] w fun e w' => ∃ v', e = .returned v' ∧ Own w' w.heap.size v' (strm KK nonce b) ∧ Ext No w w' := by
  obtain ⟨nA, nc, rfl, -⟩ := hn.slice
  obtain ⟨bA, bc, rfl, hbc, hbm, -⟩ := hb.slice
  unfold maxLen at hbm
  have hkk := hg.c.k
  have HG := Lib.hid hg
  have HN := Lib.hid hn
  have HB := Lib.hid (bs_old' hb)
  have HNL := Lib.hid hnl
  have HKK := Lib.hid hkk
  have HSL := Lib.hid (strK_length KK nonce b hkk)
  obtain ⟨SF, hSF⟩ : ∃ f, strK KK nonce b = f := ⟨_, rfl⟩
  have HSF := Lib.hid hSF
  obtain ⟨i0, hi, hz0, hz1, hz2⟩ := info_parts info_u8
  rw [hSF] at HSL
  clear hg hn hb hnl hkk hSF
  go_enter Try.func128, Try.ntmps128
  go_wp2_with (at_make; refine wpList_make_own _ rfl _ _ _ rfl w.heap.size 5 i0 (.int .u8 0) 1 Try.underlying22 hi hz0 hz1 .i64 .i64 _ b.length rfl rfl rfl (by rw [hz2]; omega) (by unfold maxLen; omega) (Nat.le_refl _) ?_; intro w1 hown hgrow; have HO1 : Hid (Own w1 w.heap.size (.slice (some ⟨w.heap.size, 0, none⟩) 0 b.length) []) := Lib.hid hown; have HX1 : Hid (Ext No w w1) := Lib.hid ((Ext.refl No w).grown hgrow (fun k hk => by cases hk)); clear hown hgrow)
  go_loopw [2, 7, 8, 9] (fun bv v nn v9 wr => ∃ (k rem : Nat) (A' : Option Addr) (c' : Nat), 16 * k < b.length + 16 ∧ rem = b.length - 16 * k ∧ bv = .slice A' rem c' ∧ Hid (Bs wr (fun b => b < w.heap.size) (.slice A' rem c') (b.drop (16 * k))) ∧ nn = .int .u32 ((2 + k : Nat) : Int) ∧ Hid (Own wr w.heap.size v (SF k)) ∧ Hid (Ext No w wr) ∧ Hid (∀ gx, v9 = pB gx → gx < wr.heap.size)) (fun bv _ _ _ _ => match bv with | .slice _ n _ => n | _ => 0)
  case atStart => exact ⟨0, b.length, bA, bc, by omega, by omega, rfl, Lib.hid (HB.out.ext_no HX1.out), rfl, Lib.hid (by rw [← HSF.out]; exact HO1.out), HX1, Lib.hid (fun gx e => by cases e)⟩
  case round =>
    clear HO1 HX1
    obtain ⟨k, rem, A', c', hk, hrem, rfl, HBK, rfl, HO, HX, H9⟩ := hrel
    by_cases hlt : 0 < rem
    · have hlt' : 0 < (rem : Int) := by omega
      have HGR := Lib.hid (HG.out.no HX.out)
      have HNR := Lib.hid (HN.out.ext_no HX.out)
      obtain ⟨q, hq⟩ : ∃ q, 2 + k = q := ⟨_, rfl⟩
      rw [hq]
      have hql : q < 4294967296 := by omega
      have hcb : (nonce ++ putL q 4).length = 16 := by rw [List.length_append, HNL.out, putL_length]
      have hkq : kst KK nonce q = enc KK (nonce ++ putL q 4) := rfl
      obtain ⟨CB, hCB⟩ : ∃ x, nonce ++ putL q 4 = x := ⟨_, rfl⟩
      rw [hCB] at hcb hkq
      obtain ⟨EB, hEB⟩ : ∃ x, enc KK CB = x := ⟨_, rfl⟩
      have hel : EB.length = 16 := by rw [← hEB]; exact enc_length KK CB HKK.out
      rw [hEB] at hkq
      have HCB := Lib.hid hCB
      have HEB := Lib.hid hEB
      have HKQ := Lib.hid hkq
      have HCBL := Lib.hid hcb
      have HEL := Lib.hid hel
      have HEBS : Hid ((u8s EB).toArray.size = 16) := Lib.hid (by rw [List.size_toArray, u8s_length, hel])
      have HREM := Lib.hid hrem
      have HQ := Lib.hid hq
      clear hrem hq hcb hkq hCB hEB hel
      go_wp2_with fail
      refine RF.region (vs := fun | 0 => u19 | 1 => u20 | 2 => u21 | 3 => u22 | 4 => u23 | 5 => u24 | 6 => u25 | 7 => u26 | 8 => u9 | 9 => Value.bool false | _ => undef) rfl (fun vs => ((pB g) :: (Value.slice nA nonce.length nc) :: (Value.slice A' rem c') :: undef :: undef :: undef :: (Value.slice none 0 0) :: u7 :: (Value.int IntKind.u32 (q : Int)) :: (vs 8) :: u10 :: (Value.slice bA b.length bc) :: (Value.int IntKind.i64 (b.length : Int)) :: (Value.slice (some ⟨w.heap.size, 0, none⟩) 0 b.length) :: (Value.slice A' rem c') :: (Value.int IntKind.i64 (rem : Int)) :: (Value.bool true) :: u17 :: u18 :: (vs 0) :: (vs 1) :: (vs 2) :: (vs 3) :: (vs 4) :: (vs 5) :: (vs 6) :: (vs 7) :: u27 :: u28 :: u29 :: u30 :: u31 :: u32 :: u33 :: u34 :: u35 :: u36 :: u37 :: u38 :: u39 :: undef :: []).toArray)
        (FS wr.heap.size g gc q (.slice nA nonce.length nc) CB EB) (fun vs wx => GS wr EB (vs 8) (vs 9) wx) rfl (by kernel_rfl) ?_ ?_ ?_
      · exact ⟨(Ext.refl No wr).drew, fun e => by cases e⟩
      · refine ⟨⟨⟨⟨⟨⟨⟨⟨⟨⟨trivial, ?_⟩, ?_⟩, ?_⟩, ?_⟩, ?_⟩, ?_⟩, ?_⟩, ?_⟩, ?_⟩, ?_⟩
        · refine RF.Step.plain rfl rfl (fun vs wx hG hv hd K hK => ?_)
          go_simp
          exact hK _ _ hG rfl (fun _ _ h => h)
        · refine RF.Step.plain rfl rfl (fun vs wx hG hv hd K hK => ?_)
          have h0 : vs 0 = pB g := by first | exact hd.1 | exact hd.2.1 | exact hd.2.2.1 | exact hd.2.2.2.1 | exact hd.2.2.2.2.1
          go_simp
          have h4 := hK _ _ hG rfl (fun _ _ h => h)
          first | (simpa only [RF.upd, h0, Nat.reduceEqDiff, if_true, if_false, reduceIte] using h4) | (simp only [RF.upd, h0, Nat.reduceEqDiff, if_true, if_false, reduceIte] at h4 ⊢; exact h4)
        · refine RF.Step.plain rfl rfl (fun vs wx hG hv hd K hK => ?_)
          have h0 : vs 1 = pB g := by first | exact hd.1 | exact hd.2.1 | exact hd.2.2.1 | exact hd.2.2.2.1 | exact hd.2.2.2.2.1
          go_simp
          have h4 := hK _ _ hG rfl (fun _ _ h => h)
          first | (simpa only [RF.upd, h0, Nat.reduceEqDiff, if_true, if_false, reduceIte] using h4) | (simp only [RF.upd, h0, Nat.reduceEqDiff, if_true, if_false, reduceIte] at h4 ⊢; exact h4)
        · refine RF.Step.plain rfl rfl (fun vs wx hG hv hd K hK => ?_)
          have h0 : vs 2 = pB g := by first | exact hd.1 | exact hd.2.1 | exact hd.2.2.1 | exact hd.2.2.2.1 | exact hd.2.2.2.2.1
          have e0 : wx.cell? ⟨g, 0, none⟩ = some (pB gc) := (HGR.out.g.ext_no hG.1).cell 0
          go_simp
          have h4 := hK _ _ hG rfl (fun _ _ h => h)
          first | (simpa only [RF.upd, h0, Nat.reduceEqDiff, if_true, if_false, reduceIte] using h4) | (simp only [RF.upd, h0, Nat.reduceEqDiff, if_true, if_false, reduceIte] at h4 ⊢; exact h4)
        · refine RF.Step.plain rfl rfl (fun vs wx hG hv hd K hK => ?_)
          go_simp
          exact hK _ _ hG rfl (fun _ _ h => h)
        · refine RF.Step.plain rfl rfl (fun vs wx hG hv hd K hK => ?_)
          go_simp
          exact hK _ _ hG rfl (fun _ _ h => h)
        · refine RF.Step.plain rfl rfl (fun vs wx hG hv hd K hK => ?_)
          have h0 : vs 4 = Value.slice nA nonce.length nc := by first | exact hd.1 | exact hd.2.1 | exact hd.2.2.1 | exact hd.2.2.2.1 | exact hd.2.2.2.2.1
          have h1 : vs 5 = .int .u32 (q : Int) := by first | exact hd.1 | exact hd.2.1 | exact hd.2.2.1 | exact hd.2.2.2.1 | exact hd.2.2.2.2.1
          go_simp
          refine (gCounter_any (.slice nA nonce.length nc) nonce q wx (HNR.out.ext_no hG.1) HNL.out hql).mono ?_
          rintro e' w' ⟨rfl, hx⟩
          rw [HCB.out]
          have h4 := hK _ _ (GS.no hG hx) rfl (fun j _ h => FS.no hx j _ h)
          first | (simpa only [RF.upd, h0, h1, Nat.reduceEqDiff, if_true, if_false, reduceIte] using h4) | (simp only [RF.upd, h0, h1, Nat.reduceEqDiff, if_true, if_false, reduceIte] at h4 ⊢; exact h4)
        · refine RF.Step.plain rfl rfl (fun vs wx hG hv hd K hK => ?_)
          have h0 : vs 3 = pB gc := by first | exact hd.1 | exact hd.2.1 | exact hd.2.2.1 | exact hd.2.2.2.1 | exact hd.2.2.2.2.1
          have h1 : vs 6 = .agg (u8s CB).toArray := by first | exact hd.1 | exact hd.2.1 | exact hd.2.2.1 | exact hd.2.2.2.1 | exact hd.2.2.2.2.1
          go_simp
          refine (aBlock_any gc tg KK CB wx (HGR.out.c.no hG.1) HCBL.out).mono ?_
          rintro e' w' ⟨rfl, hx⟩
          rw [HEB.out]
          have h4 := hK _ _ (GS.no hG hx) rfl (fun j _ h => FS.no hx j _ h)
          first | (simpa only [RF.upd, h0, h1, Nat.reduceEqDiff, if_true, if_false, reduceIte] using h4) | (simp only [RF.upd, h0, h1, Nat.reduceEqDiff, if_true, if_false, reduceIte] at h4 ⊢; exact h4)
        · refine RF.Step.plain rfl rfl (fun vs wx hG hv hd K hK => ?_)
          go_simp
          have hx := (Ext.refl No wx).alloc (.cells (u8s (List.replicate 16 0)).toArray 203)
          have h4 := hK (pB wx.heap.size) (wx.alloc (.cells (u8s (List.replicate 16 0)).toArray 203)) ⟨hG.1.alloc _, fun e => by
            obtain ⟨gx, h1, h2, _⟩ := hG.2 e
            exact absurd h2 (by have := H9.out gx (hv.symm.trans h1); omega)⟩ ⟨_, _, rfl, hG.1.size, Blk.new wx _ _, by simp [u8s_length]⟩ (fun j _ h => FS.no hx j _ h)
          exact h4
        · refine RF.Step.plain rfl rfl (fun vs wx hG hv hd K hK => ?_)
          obtain ⟨gx, cs, e8, hle, hblk, hsz⟩ : ∃ gx cs, vs 8 = pB gx ∧ wr.heap.size ≤ gx ∧ Blk wx gx 203 cs ∧ cs.size = 16 := by first | exact hd.1 | exact hd.2.1 | exact hd.2.2.1 | exact hd.2.2.2.1 | exact hd.2.2.2.2.1
          have h7 : vs 7 = .agg (u8s EB).toArray := by first | exact hd.1 | exact hd.2.1 | exact hd.2.2.1 | exact hd.2.2.2.1 | exact hd.2.2.2.2.1
          refine wp_store_blk' 203 (.tmp 9) (.tmp 26) rfl hblk e8 h7 (by rw [HEBS.out, hsz]) (by rw [HEBS.out]; exact size_16) (u8s_one' _) ?_
          intro w' hb' hx'
          refine hK undef w' ⟨hG.1.transS hx' (fun i hi h => absurd hi (by have h' : i = gx := h; have := hG.1.size; omega)), fun _ => ⟨gx, e8, hle, hb'⟩⟩ rfl (fun j hj h => ?_)
          match j, h with
          | 0, h | 1, h | 2, h | 3, h | 4, h | 5, h | 6, h | 7, h => exact h
          | 8, ⟨gy, cs2, q1, q2, q3, q4⟩ =>
            have e : gx = gy := by have := e8.symm.trans q1; injection this with this; injection this with this; injection this
            subst e
            exact ⟨gx, _, q1, q2, hb', HEBS.out⟩
          | 9, h => exact absurd rfl hj
          | m + 10, _ => trivial
      · intro vs wx hG hF
        have h9 : vs 9 = undef := hF 9 (by decide)
        obtain ⟨gx, e8, hle, hbx⟩ := hG.2 h9
        have HX5 := Lib.hid hG.1
        have HBX := Lib.hid hbx
        have HLE := Lib.hid hle
        clear hG hbx h9
        have hbl2 : (b.drop (16 * k)).length = rem := by rw [List.length_drop, HREM.out]
        obtain ⟨A2, c2, eq2, hrc, hrm, bb, bo, hh⟩ := HBK.out.slice
        rw [hbl2] at eq2 hrc
        injection eq2 with q1 _ q2
        subst q1 q2
        obtain ⟨ra, -⟩ := hh 0 (by rw [hbl2]; exact hlt)
        subst ra
        clear hh
        rcases Nat.lt_or_ge 16 rem with hc | hc
        · have hck : (b.drop (16 * k)).take 16 = chk b k := by unfold chk; rfl
          have hcl : (chk b k).length = 16 := by rw [← hck, List.length_take, hbl2]; omega
          have HCK : Hid (Bs wx Any (.slice (some ⟨bb, bo, none⟩) 16 c') (chk b k)) := Lib.hid (by
            have := (HBK.out.any.ext_no HX5.out).sub (i := 0) (j := 16) (Nat.zero_le _) (by rw [hbl2]; omega) (m := 16) (c' := c') (by omega) (by omega) hrm
            rwa [List.drop_zero, hck, Nat.add_zero] at this)
          have HXO := Lib.hid (oXor_any (.slice (some ⟨bb, bo, none⟩) 16 c') (.slice (some ⟨gx, 0, none⟩) 16 16) (chk b k) EB wx.drew HCK.out.drew (Bs.whole' HBX.out (n := 16) (c := 16) HEL.out.symm (Nat.le_refl _) (by unfold maxLen; decide)).any.drew (by rw [hcl, HEL.out]; omega) (by rw [hcl]; omega))
          have HSN : Hid (SF (k + 1) = SF k ++ xr (chk b k) (EB.take (chk b k).length)) := Lib.hid (by rw [← HSF.out]; show strK KK nonce b k ++ xr (chk b k) ((kst KK nonce (2 + k)).take (chk b k).length) = _; rw [HQ.out, HKQ.out])
          obtain ⟨XB, hXB⟩ : ∃ x, xr (chk b k) (EB.take (chk b k).length) = x := ⟨_, rfl⟩
          have hxl : XB.length ≤ 16 := by rw [← hXB, xr_length, hcl]; omega
          rw [hXB] at HXO HSN
          have HXL := Lib.hid hxl
          have HO5 := Lib.hid (HO.out.ext_no HX5.out.drew)
          have HXX := Lib.hid (HX.out.trans HX5.out.drew)
          have HGW := Lib.hid (show ∀ gy, (Value.pointer (some ⟨gx, 0, none⟩) : Value) = pB gy → gy < wx.heap.size from fun gy e => by injection e with e; injection e with e; injection e with e; subst e; exact HBX.out.lt)
          have HRC := Lib.hid (And.intro hrc hrm)
          have hkc : 16 ≤ c' := by omega
          have hkci : (16 : Int) ≤ (c' : Int) := by omega
          have hcm : c' ≤ 9223372036854775807 := by unfold maxLen at hrm; omega
          have HBD : Hid (∀ wy, Bs wy (fun b => b < w.heap.size) (.slice (some ⟨bb, bo, none⟩) rem c') (b.drop (16 * k)) → ∀ (A3 : Option Addr) (c3 : Nat), (c' = 16 ∧ A3 = some ⟨bb, bo, none⟩ ∧ c3 = 0 ∨ c' ≠ 16 ∧ A3 = some ⟨bb, bo + 16, none⟩ ∧ c3 = c' - 16) → Bs wy (fun b => b < w.heap.size) (.slice A3 (rem - 16) c3) (b.drop (16 * (k + 1)))) := Lib.hid (fun wy hy A3 c3 h => by
            have hl1 : (b.drop (16 * (k + 1))).length = rem - 16 := by rw [List.length_drop, HREM.out]; have := HREM.out; omega
            rcases h with ⟨h1, rfl, rfl⟩ | ⟨h1, rfl, rfl⟩
            · have e0 : b.drop (16 * (k + 1)) = [] := List.eq_nil_of_length_eq_zero (by omega)
              rw [e0, show rem - 16 = 0 by omega]
              exact ⟨rfl, _, 0, rfl, Nat.le_refl _, Nat.zero_le _, fun h => absurd h (by simp)⟩
            · have := hy.sub (i := 16) (j := rem) (by omega) (by rw [hbl2]; exact Nat.le_refl _) (m := rem - 16) (c' := c' - 16) rfl (by omega) (by omega)
              have e : ((b.drop (16 * k)).take rem).drop 16 = b.drop (16 * (k + 1)) := by
                rw [List.take_of_length_le (by rw [hbl2]; exact Nat.le_refl _), List.drop_drop]
                by_cases e16 : 16 * k + 16 = 16 * (k + 1)
                · rw [e16]
                · have := HREM.out; rw [List.drop_of_length_le (by omega), List.drop_of_length_le (by omega)]
              rwa [e] at this)
          have hci : ¬ (rem : Int) ≤ 16 := by omega
          have hci2 : (16 : Int) < (rem : Int) := by omega
          have HQ1 : Hid (((q : Int) + 1) % 4294967296 = (q : Int) + 1) := Lib.hid (by have := HQ.out; omega)
          have HKE : Hid (2 + (k + 1) = q + 1) := Lib.hid (by have := HQ.out; omega)
          have HXW := HX5
          clear hXB hxl hck hcl hrm hbl2
          go_wp2_with fail
          go_region_law (first
            | (refine step_bytes (.tmp 30) (.tmp 35) rfl rfl w.heap.size u7 _ _ XB (by simp [Act.eval, Act.put]) (by simp [Act.eval, Act.put]) HO6.out _ HV6.out (by rw [HSL.out]; have := HXL.out; omega) HX6.out.size ?_; intro v7 w7 ho7 hg7 hat7; have HO7 := Lib.hid ho7; have HX7 : Hid (Ext No w w7) := Lib.hid (HX6.out.grown hg7 (fun i hi hl => absurd hl (by have := (HO6.out.lt i hi).1; omega))); have HG7 := Lib.hid hg7; clear ho7 hg7 hat7)
            | go_loud (rw [if_pos (show Region.wanted _ _ = true from rfl)]; go_simp; go_at_call 162; go_must (refine HXO.out.mono ?_; rintro e6 w6 ⟨v6, rfl, ho6, hx6⟩; have HO6 := Lib.hid (HO5.out.ext_no hx6); have HV6 := Lib.hid ho6.any; have HX6 := Lib.hid (HXX.out.trans hx6); have HXR := Lib.hid (HX5.out.drew.trans hx6); have HZ6 := Lib.hid (show wx.heap.size ≤ w6.heap.size from hx6.size); clear ho6 hx6; dsimp only)))
          have HB7 : Hid (Bs w7 (fun b => b < w.heap.size) (.slice (some ⟨bb, bo, none⟩) rem c') (b.drop (16 * k))) := Lib.hid ((HBK.out.ext_no HXR.out).ext ((Ext.refl (fun i => u7.ownBlock = some i) w6).grown HG7.out (fun i hi _ => hi)) (fun i hi _ e => by have := (HO6.out.lt i e).1; omega))
          have HS7 : Hid (∀ gy, (Value.pointer (some ⟨gx, 0, none⟩) : Value) = pB gy → gy < w7.heap.size) := Lib.hid (fun gy e => by have h1 := HGW.out gy e; have h2 := HZ6.out; have h3 := HG7.out.size; omega)
          have HON : Hid (Own w7 w.heap.size v7 (SF (k + 1))) := Lib.hid (by rw [HSN.out]; exact HO7.out)
          have HR1 : Hid (rem - 16 = b.length - 16 * (k + 1) ∧ 16 * (k + 1) < b.length + 16) := Lib.hid (by have := HREM.out; omega)
          by_cases hcc : c' = 16
          all_goals
            go_wp2_with fail
            go_roundw
            case rel => exact ⟨k + 1, rem - 16, _, _, HR1.out.2, HR1.out.1, by first | rfl | (rw [Nat.sub_self]), Lib.hid (HBD.out w7 HB7.out _ _ (by first | exact .inl ⟨hcc, rfl, rfl⟩ | exact .inr ⟨hcc, rfl, rfl⟩)), congrArg (Value.int .u32) (by rw [HKE.out]; first | (rw [HQ1.out]; rfl) | rfl), HON, HX7, HS7⟩
            case measure => first | (show rem - 16 < rem; omega) | (show 0 < rem; omega)
        · have hck : (b.drop (16 * k)).take rem = chk b k := by unfold chk; rw [List.take_of_length_le (by omega), List.take_of_length_le (by omega)]
          have hcl : (chk b k).length = rem := by rw [← hck, List.length_take, hbl2]; omega
          have HCK : Hid (Bs wx Any (.slice (some ⟨bb, bo, none⟩) rem c') (chk b k)) := Lib.hid (by
            have := (HBK.out.any.ext_no HX5.out).sub (i := 0) (j := rem) (Nat.zero_le _) (by rw [hbl2]; omega) (m := rem) (c' := c') (by omega) (by omega) hrm
            rwa [List.drop_zero, hck, Nat.add_zero] at this)
          have HXO := Lib.hid (oXor_any (.slice (some ⟨bb, bo, none⟩) rem c') (.slice (some ⟨gx, 0, none⟩) 16 16) (chk b k) EB wx.drew HCK.out.drew (Bs.whole' HBX.out (n := 16) (c := 16) HEL.out.symm (Nat.le_refl _) (by unfold maxLen; decide)).any.drew (by rw [hcl, HEL.out]; omega) (by rw [hcl]; omega))
          have HSN : Hid (SF (k + 1) = SF k ++ xr (chk b k) (EB.take (chk b k).length)) := Lib.hid (by rw [← HSF.out]; show strK KK nonce b k ++ xr (chk b k) ((kst KK nonce (2 + k)).take (chk b k).length) = _; rw [HQ.out, HKQ.out])
          obtain ⟨XB, hXB⟩ : ∃ x, xr (chk b k) (EB.take (chk b k).length) = x := ⟨_, rfl⟩
          have hxl : XB.length ≤ 16 := by rw [← hXB, xr_length, hcl]; omega
          rw [hXB] at HXO HSN
          have HXL := Lib.hid hxl
          have HO5 := Lib.hid (HO.out.ext_no HX5.out.drew)
          have HXX := Lib.hid (HX.out.trans HX5.out.drew)
          have HGW := Lib.hid (show ∀ gy, (Value.pointer (some ⟨gx, 0, none⟩) : Value) = pB gy → gy < wx.heap.size from fun gy e => by injection e with e; injection e with e; injection e with e; subst e; exact HBX.out.lt)
          have HRC := Lib.hid (And.intro hrc hrm)
          have hkc : rem ≤ c' := by omega
          have hkci : (rem : Int) ≤ (c' : Int) := by omega
          have hcm : c' ≤ 9223372036854775807 := by unfold maxLen at hrm; omega
          have HBD : Hid (∀ wy, Bs wy (fun b => b < w.heap.size) (.slice (some ⟨bb, bo, none⟩) rem c') (b.drop (16 * k)) → ∀ (A3 : Option Addr) (c3 : Nat), (c' = rem ∧ A3 = some ⟨bb, bo, none⟩ ∧ c3 = 0 ∨ c' ≠ rem ∧ A3 = some ⟨bb, bo + rem, none⟩ ∧ c3 = c' - rem) → Bs wy (fun b => b < w.heap.size) (.slice A3 (rem - rem) c3) (b.drop (16 * (k + 1)))) := Lib.hid (fun wy hy A3 c3 h => by
            have hl1 : (b.drop (16 * (k + 1))).length = rem - rem := by rw [List.length_drop, HREM.out]; have := HREM.out; omega
            rcases h with ⟨h1, rfl, rfl⟩ | ⟨h1, rfl, rfl⟩
            · have e0 : b.drop (16 * (k + 1)) = [] := List.eq_nil_of_length_eq_zero (by omega)
              rw [e0, show rem - rem = 0 by omega]
              exact ⟨rfl, _, 0, rfl, Nat.le_refl _, Nat.zero_le _, fun h => absurd h (by simp)⟩
            · have := hy.sub (i := rem) (j := rem) (by omega) (by rw [hbl2]; exact Nat.le_refl _) (m := rem - rem) (c' := c' - rem) rfl (by omega) (by omega)
              have e : ((b.drop (16 * k)).take rem).drop rem = b.drop (16 * (k + 1)) := by
                rw [List.take_of_length_le (by rw [hbl2]; exact Nat.le_refl _), List.drop_drop]
                by_cases e16 : 16 * k + rem = 16 * (k + 1)
                · rw [e16]
                · have := HREM.out; rw [List.drop_of_length_le (by omega), List.drop_of_length_le (by omega)]
              rwa [e] at this)
          have hci : (rem : Int) ≤ 16 := by omega
          have HQ1 : Hid (((q : Int) + 1) % 4294967296 = (q : Int) + 1) := Lib.hid (by have := HQ.out; omega)
          have HKE : Hid (2 + (k + 1) = q + 1) := Lib.hid (by have := HQ.out; omega)
          have HXW := HX5
          clear hXB hxl hck hcl hrm hbl2
          go_wp2_with fail
          go_region_law (first
            | (refine step_bytes (.tmp 30) (.tmp 35) rfl rfl w.heap.size u7 _ _ XB (by simp [Act.eval, Act.put]) (by simp [Act.eval, Act.put]) HO6.out _ HV6.out (by rw [HSL.out]; have := HXL.out; omega) HX6.out.size ?_; intro v7 w7 ho7 hg7 hat7; have HO7 := Lib.hid ho7; have HX7 : Hid (Ext No w w7) := Lib.hid (HX6.out.grown hg7 (fun i hi hl => absurd hl (by have := (HO6.out.lt i hi).1; omega))); have HG7 := Lib.hid hg7; clear ho7 hg7 hat7)
            | go_loud (rw [if_pos (show Region.wanted _ _ = true from rfl)]; go_simp; go_at_call 162; go_must (refine HXO.out.mono ?_; rintro e6 w6 ⟨v6, rfl, ho6, hx6⟩; have HO6 := Lib.hid (HO5.out.ext_no hx6); have HV6 := Lib.hid ho6.any; have HX6 := Lib.hid (HXX.out.trans hx6); have HXR := Lib.hid (HX5.out.drew.trans hx6); have HZ6 := Lib.hid (show wx.heap.size ≤ w6.heap.size from hx6.size); clear ho6 hx6; dsimp only)))
          have HB7 : Hid (Bs w7 (fun b => b < w.heap.size) (.slice (some ⟨bb, bo, none⟩) rem c') (b.drop (16 * k))) := Lib.hid ((HBK.out.ext_no HXR.out).ext ((Ext.refl (fun i => u7.ownBlock = some i) w6).grown HG7.out (fun i hi _ => hi)) (fun i hi _ e => by have := (HO6.out.lt i e).1; omega))
          have HS7 : Hid (∀ gy, (Value.pointer (some ⟨gx, 0, none⟩) : Value) = pB gy → gy < w7.heap.size) := Lib.hid (fun gy e => by have h1 := HGW.out gy e; have h2 := HZ6.out; have h3 := HG7.out.size; omega)
          have HON : Hid (Own w7 w.heap.size v7 (SF (k + 1))) := Lib.hid (by rw [HSN.out]; exact HO7.out)
          have HR1 : Hid (rem - rem = b.length - 16 * (k + 1) ∧ 16 * (k + 1) < b.length + 16) := Lib.hid (by have := HREM.out; omega)
          by_cases hcc : c' = rem
          all_goals
            go_wp2_with fail
            go_roundw
            case rel => exact ⟨k + 1, rem - rem, _, _, HR1.out.2, HR1.out.1, by first | rfl | (rw [Nat.sub_self]), Lib.hid (HBD.out w7 HB7.out _ _ (by first | exact .inl ⟨hcc, rfl, rfl⟩ | exact .inr ⟨hcc, rfl, rfl⟩)), congrArg (Value.int .u32) (by rw [HKE.out]; first | (rw [HQ1.out]; rfl) | rfl), HON, HX7, HS7⟩
            case measure => first | (show rem - rem < rem; omega) | (show 0 < rem; omega)
    · have h0 : rem = 0 := by omega
      have HK : Hid ((b.length + 15) / 16 = k) := Lib.hid (by omega)
      have HF : Hid (strm KK nonce b = SF k) := Lib.hid (by unfold strm; rw [HK.out, ← HSF.out])
      clear hrem h0
      go_wp2_with fail
      go_ret
      exact ⟨_, rfl, by rw [HF.out]; exact HO.out, HX.out⟩
end Go.Proofs.Ytmbbkkonmkbnoaa
namespace Go.Proofs.Ytmbbkkonmkbnoaa
open Go.RowKit Go.Deep Ae Fm
/-- A tag. -/
def tagL (KK nonce : List UInt8) (h : G) (a b : List UInt8) : List UInt8 :=
  xr (elB (hash h (hash h (hash h 0#128 a) b) (putL (8 * a.length) 8 ++ putL (8 * b.length) 8))) (enc KK (nonce ++ putL 1 4))
theorem fHash_agg (g : Nat) (h f r : G) (v : Value) (l : List UInt8) (w : World) (ht : IsTb w g (tb h) tov) (hv : Bs w Any v l) (hr : hash h f l = r) : Calls Try.prog 164 #[pB g, .agg #[.int .u64 (hi f : Int), .int .u64 (lo f : Int)], v] w fun e' w' => e' = .returned (.agg #[.int .u64 (hi r : Int), .int .u64 (lo r : Int)]) ∧ Ext No w w' := by
  subst hr; exact fHashT_any g h f v l w ht hv
theorem fBytes_agg (e : G) (w : World) : Calls Try.prog 165 #[.agg #[.int .u64 (hi e : Int), .int .u64 (lo e : Int)]] w fun e' w' => ∃ v', e' = .returned v' ∧ Mid w' v' (elB e) ∧ Ext No w w' :=
  (eBytes_any e w).mono fun e' w' ⟨A, n, c, h1, h2, h3⟩ => ⟨_, h1, Mid.of_own h2, h3⟩
/-- The block of number 1, sealed: what each operation leaves. -/
def FU (wb g gc : Nat) (nv : Value) (CB EB : List UInt8) : Nat → Value → World → Prop
  | 0, v, _ => v = pB g
  | 1, v, _ => v = pB g
  | 2, v, _ => v = pB g
  | 3, v, _ => v = pB gc
  | 4, v, _ => v = nv
  | 5, v, _ => v = .agg (u8s CB).toArray
  | 6, v, _ => v = .agg (u8s EB).toArray
  | 7, v, w => ∃ gx cs, v = pB gx ∧ wb ≤ gx ∧ Blk w gx 203 cs ∧ cs.size = 16
  | 8, v, _ => v = undef
  | _, _, _ => True
theorem FU.no {wb g gc : Nat} {nv : Value} {CB EB : List UInt8} {w w' : World} (hx : Ext No w w') : ∀ j v, FU wb g gc nv CB EB j v w → FU wb g gc nv CB EB j v w' := by
  intro j v H
  match j, H with
  | 0, H | 1, H | 2, H | 3, H | 4, H | 5, H | 6, H | 8, H => exact H
  | 7, ⟨gx, cs, h1, h2, h3, h4⟩ => exact ⟨gx, cs, h1, h2, h3.ext_no hx, h4⟩
  | m + 9, _ => trivial
/-- The tag: what each operation leaves. -/
def FW (base gx : Nat) (y3 : G) (TL : List UInt8) : Nat → Value → World → Prop
  | 0, v, _ => v = .agg #[.int .u64 (hi y3 : Int), .int .u64 (lo y3 : Int)]
  | 1, v, w => Mid w v (elB y3)
  | 2, v, _ => v = .slice (some ⟨gx, 0, none⟩) 16 16
  | 3, v, w => Own w base v TL
  | 4, v, w => Own w base v TL
  | _, _, _ => True
theorem FW.no {base gx : Nat} {y3 : G} {TL : List UInt8} {w w' : World} (hx : Ext No w w') : ∀ j v, FW base gx y3 TL j v w → FW base gx y3 TL j v w' := by
  intro j v H
  match j, H with
  | 0, H | 2, H => exact H
  | 1, H => exact Mid.ext_no H hx
  | 3, H | 4, H => exact Own.ext_no H hx
  | m + 5, _ => trivial
/-- The last hash: what each operation leaves. -/
def FT (g gh ge : Nat) (av bv : Value) (y2 y3 : G) (LA LB : List UInt8) : Nat → Value → World → Prop
  | 0, v, _ => v = pB g
  | 1, v, _ => v = pB g
  | 2, v, _ => v = .pointer (some ⟨g, 1, none⟩)
  | 3, v, _ => v = pB gh
  | 4, v, _ => v = .agg #[.int .u64 (hi y2 : Int), .int .u64 (lo y2 : Int)]
  | 5, v, _ => v = .func (.func 163) #[] #[]
  | 6, v, _ => v = av
  | 7, v, w => Bs w (fun k => k ≠ ge) v LA
  | 8, v, _ => v = .func (.func 163) #[] #[]
  | 9, v, _ => v = bv
  | 10, v, w => Bs w (fun k => k ≠ ge) v LB
  | 11, v, w => Parts w (fun k => k ≠ ge) v [LA, LB]
  | 12, v, w => Bs w (fun k => k ≠ ge) v (LA ++ LB)
  | 13, v, _ => v = .agg #[.int .u64 (hi y3 : Int), .int .u64 (lo y3 : Int)]
  | 14, _, w => Blk w ge 208 #[.int .u64 (hi y3 : Int), .int .u64 (lo y3 : Int)]
  | _, _, _ => True
theorem FT.no {g gh ge : Nat} {av bv : Value} {y2 y3 : G} {LA LB : List UInt8} {w w' : World} (hx : Ext No w w') : ∀ j v, FT g gh ge av bv y2 y3 LA LB j v w → FT g gh ge av bv y2 y3 LA LB j v w' := by
  intro j v H
  match j, H with
  | 0, H | 1, H | 2, H | 3, H | 4, H | 5, H | 6, H | 8, H | 9, H | 13, H => exact H
  | 7, H | 10, H | 12, H => exact Bs.ext_no H hx
  | 11, H => exact Parts.ext_no H hx
  | 14, H => exact Blk.ext_no H hx
  | m + 15, _ => trivial
def GT (w0 : World) (ge : Nat) (y2 y3 : G) (v4 v13 : Value) (w : World) : Prop := Ext No w0 w ∧ (Blk w ge 208 #[.int .u64 (hi y2 : Int), .int .u64 (lo y2 : Int)] ∨ (Blk w ge 208 #[.int .u64 (hi y3 : Int), .int .u64 (lo y3 : Int)] ∧ v4 = .agg #[.int .u64 (hi y2 : Int), .int .u64 (lo y2 : Int)])) ∧ (v13 = undef ∨ v4 = .agg #[.int .u64 (hi y2 : Int), .int .u64 (lo y2 : Int)])
theorem GT.no {w0 w w' : World} {ge : Nat} {y2 y3 : G} {v4 v13 : Value} (h : GT w0 ge y2 y3 v4 v13 w) (hx : Ext No w w') : GT w0 ge y2 y3 v4 v13 w' := ⟨h.1.trans hx, h.2.1.imp (fun h => h.ext_no hx) (fun h => ⟨h.1.ext_no hx, h.2⟩), h.2.2⟩
theorem GT.lt {w0 w : World} {ge : Nat} {y2 y3 : G} {v4 v13 : Value} (h : GT w0 ge y2 y3 v4 v13 w) : ge < w.heap.size := h.2.1.elim Blk.lt (fun h => Blk.lt h.1)
theorem own_off {w w' : World} {v : Value} {l : List UInt8} {g : Nat} (h : Own w' w.heap.size v l) (hg : g < w.heap.size) : Bs w' (fun b => b ≠ g) v l := h.bs.mono fun b hb e => by have := hb.1; omega
theorem gBits_any (v : Value) (l : List UInt8) (w : World) (h : Bs w Any v l) (hl : l.length ≤ 1000000) : Calls Try.prog 163 #[v] w fun e w' => ∃ v', e = .returned v' ∧ Own w' w.heap.size v' (putL (8 * l.length) 8) ∧ Ext No w w' := by
  obtain ⟨A, c, rfl, -⟩ := h.slice
  have hw : IntKind.u64.wrap (l.length : Int) = (l.length : Int) := by rw [IntKind.wrap_u64]; omega
  have hw2 : IntKind.u64.wrap (8 * (l.length : Int)) = ((8 * l.length : Nat) : Int) := by rw [IntKind.wrap_u64]; omega
  have HP : Hid (∀ wx : World, Calls Try.prog 77 #[.int .u64 (8 * (l.length : Int)), .int .i64 8] wx fun e w' => ∃ v, e = .returned v ∧ Own w' wx.heap.size v (putL (8 * l.length) 8) ∧ Ext No wx w') := Lib.hid (fun wx => by
    have := oPut_any (8 * l.length) 8 wx (by omega) (by omega)
    rw [show ((8 * l.length : Nat) : Int) = 8 * (l.length : Int) from by push_cast; rfl] at this
    exact this)
  go_enter Try.func163, Try.ntmps163
  rw [show ((8 * l.length : Nat) : Int) = 8 * (l.length : Int) from by push_cast; rfl] at hw2
  go_wp2_with (go_at_call 77; refine (HP.out _).mono ?_; rintro e1 w1 ⟨v1, rfl, h1, hx1⟩; have HO := Lib.hid h1; have HX := Lib.hid hx1; clear h1 hx1)
  go_ret
  exact ⟨_, rfl, HO.out, HX.out⟩
set_option maxRecDepth 100000 in
set_option maxHeartbeats 4000000 in
theorem gTag_any (g gc tg gh : Nat) (KK : List UInt8) (h : G) (nv av bv : Value) (nonce a b : List UInt8) (w : World) (hg : IsG w g gc tg gh KK h) (hn : Bs w Any nv nonce) (hnl : nonce.length = 12) (ha : Bs w Any av a) (hal : a.length ≤ 1000000) (hb : Bs w Any bv b) (hbl : b.length ≤ 1000000) :
    Calls Try.prog 129 #[pB g, nv, av, bv] w fun e w' => ∃ v', e = .returned v' ∧ Own w' w.heap.size v' (tagL KK nonce h a b) ∧ Ext No w w' := by
  obtain ⟨nA, nc, rfl, -⟩ := hn.slice
  obtain ⟨aA, ac, rfl, -⟩ := ha.slice
  obtain ⟨bA, bc, rfl, -⟩ := hb.slice
  have hkk := hg.c.k
  have HG := Lib.hid hg
  have HN := Lib.hid hn
  have HA := Lib.hid ha
  have HB := Lib.hid hb
  have HNL := Lib.hid hnl
  have HKK := Lib.hid hkk
  have P1 := hg.g.cell 1
  clear hg hn ha hb hnl hkk
  go_enter Try.func129, Try.ntmps129
  obtain ⟨y1, hy1⟩ : ∃ y, hash h 0#128 a = y := ⟨_, rfl⟩
  have HY1 := Lib.hid hy1
  clear hy1
  go_wp2_with (go_at_call 164; go_must (refine (fHash_agg gh h 0#128 y1 (.slice aA a.length ac) a w HG.out.h HA.out HY1.out).mono ?_); rintro e1 w1 ⟨rfl, hx1⟩; have HX1 := Lib.hid hx1; clear hx1)
  have HE1 := Lib.hid (Blk.new w1 208 #[.int .u64 (hi y1 : Int), .int .u64 (lo y1 : Int)])
  have HXA := Lib.hid (HX1.out.alloc (.cells #[.int .u64 (hi y1 : Int), .int .u64 (lo y1 : Int)] 208))
  have HGE := Lib.hid HX1.out.size
  clear HX1
  generalize (w1.alloc (.cells #[.int .u64 (hi y1 : Int), .int .u64 (lo y1 : Int)] 208)) = w2 at *
  generalize w1.heap.size = ge at *
  have P2 := (HG.out.g.ext_no HXA.out).cell 1
  have PE := Blk.c2 HE1.out
  obtain ⟨y2, hy2⟩ : ∃ y, hash h y1 b = y := ⟨_, rfl⟩
  have HY2 := Lib.hid hy2
  clear hy2 P1
  go_still_tail 6, (by kernel_rfl)
  change wpList _ _ _ _ _ w2.drew
  have HXB := Lib.hid HXA.out.drew
  have HEB := Lib.hid HE1.out.drew
  clear HXA HE1 P2 PE
  generalize w2.drew = w3 at *
  have HC2 := Lib.hid (fHash_agg gh h y1 y2 (.slice bA b.length bc) b w3 (HG.out.h.ext_no HXB.out) (HB.out.ext_no HXB.out) HY2.out)
  go_wp2_with (go_at_call 164; go_must (refine HC2.out.mono ?_); rintro e1 w4 ⟨rfl, hx1⟩; have HX4 := Lib.hid (HXB.out.trans hx1); have HE4 := Lib.hid (HEB.out.ext_no hx1); have PE4 := Blk.c2 HE4.out; clear hx1)
  have HX5 := Lib.hid (HX4.out.transS (Ext.setCell (S := One ge) (Ext.setCell (S := One ge) (Ext.refl _ w4) (fun _ => rfl) (.int .u64 (hi y2 : Int)) (p := ⟨ge, 0, none⟩)) (fun _ => rfl) (.int .u64 (lo y2 : Int)) (p := ⟨ge, 1, none⟩)) (fun i hi h => by have h' : i = ge := h; have := HGE.out; omega))
  have HE5 : Hid (Blk ((w4.setCell ⟨ge, 0, none⟩ (.int .u64 (hi y2 : Int))).setCell ⟨ge, 1, none⟩ (.int .u64 (lo y2 : Int))) ge 208 #[.int .u64 (hi y2 : Int), .int .u64 (lo y2 : Int)]) := Lib.hid (Blk.set_ (Blk.set_ HE4.out 0 _) 1 _)
  generalize ((w4.setCell ⟨ge, 0, none⟩ (.int .u64 (hi y2 : Int))).setCell ⟨ge, 1, none⟩ (.int .u64 (lo y2 : Int))) = w5 at *
  clear HX4 HE4 PE4 HXB HEB HC2
  obtain ⟨LA, hLA⟩ : ∃ y, putL (8 * a.length) 8 = y := ⟨_, rfl⟩
  obtain ⟨LB, hLB⟩ : ∃ y, putL (8 * b.length) 8 = y := ⟨_, rfl⟩
  obtain ⟨y3, hy3⟩ : ∃ y, hash h y2 (LA ++ LB) = y := ⟨_, rfl⟩
  have HY3 := Lib.hid hy3
  have HJF : Hid ([LA, LB].flatten = LA ++ LB) := Lib.hid (by simp)
  have HJL : Hid ([LA, LB].flatten.length = 16) := Lib.hid (by rw [← hLA, ← hLB]; simp [putL_length])
  have HLA := Lib.hid hLA
  have HLB := Lib.hid hLB
  have HBA := Lib.hid (fun (wx : World) (h : Bs wx Any (.slice aA a.length ac) a) => gBits_any (.slice aA a.length ac) a wx h hal)
  have HBB := Lib.hid (fun (wx : World) (h : Bs wx Any (.slice bA b.length bc) b) => gBits_any (.slice bA b.length bc) b wx h hbl)
  rw [hLA] at HBA
  rw [hLB] at HBB
  clear hy3 hLA hLB
  refine RF.region (vs := fun | 14 => Value.bool false | _ => undef) rfl (fun vs => ((pB g) :: (Value.slice nA nonce.length nc) :: (Value.slice aA a.length ac) :: (Value.slice bA b.length bc) :: undef :: undef :: undef :: undef :: (Value.slice none 0 0) :: (Value.func (Fn.func 163) #[] #[]) :: (Value.pointer (some ⟨ge, 0, none⟩)) :: undef :: (pB g) :: (Value.pointer (some ⟨g, 0, none⟩)) :: (Value.pointer (some ⟨g, 1, none⟩)) :: (pB gh) :: (Value.agg #[Value.int IntKind.u64 0, Value.int IntKind.u64 0]) :: (Value.slice aA a.length ac) :: (Value.agg #[Value.int IntKind.u64 ↑(hi y1), Value.int IntKind.u64 ↑(lo y1)]) :: (pB g) :: (Value.pointer (some ⟨g, 0, none⟩)) :: (Value.pointer (some ⟨g, 1, none⟩)) :: (pB gh) :: (Value.agg #[Value.int IntKind.u64 ↑(hi y1), Value.int IntKind.u64 ↑(lo y1)]) :: (Value.slice bA b.length bc) :: (Value.agg #[Value.int IntKind.u64 ↑(hi y2), Value.int IntKind.u64 ↑(lo y2)]) :: (vs 0) :: (vs 1) :: (vs 2) :: (vs 3) :: (vs 4) :: (vs 5) :: (vs 6) :: (vs 7) :: (vs 8) :: (vs 9) :: (vs 10) :: (vs 11) :: (vs 12) :: (vs 13) :: undef :: undef :: undef :: undef :: undef :: undef :: undef :: undef :: undef :: undef :: undef :: []).toArray)
    (FT g gh ge (.slice aA a.length ac) (.slice bA b.length bc) y2 y3 LA LB) (fun vs wx => GT w ge y2 y3 (vs 4) (vs 13) wx) rfl (by kernel_rfl) ?_ ?_ ?_
  · exact ⟨HX5.out.drew, .inl HE5.out.drew, .inl rfl⟩
  · refine ⟨⟨⟨⟨⟨⟨⟨⟨⟨⟨⟨⟨⟨⟨⟨trivial, ?_⟩, ?_⟩, ?_⟩, ?_⟩, ?_⟩, ?_⟩, ?_⟩, ?_⟩, ?_⟩, ?_⟩, ?_⟩, ?_⟩, ?_⟩, ?_⟩, ?_⟩
    · refine RF.Step.plain rfl rfl (fun vs wx hG hv hd K hK => ?_)
      go_simp
      exact hK _ _ hG rfl (fun _ _ h => h)
    · refine RF.Step.plain rfl rfl (fun vs wx hG hv hd K hK => ?_)
      have h0 : vs 0 = pB g := by first | exact hd.1 | exact hd.2.1 | exact hd.2.2.1 | exact hd.2.2.2.1 | exact hd.2.2.2.2.1
      go_simp
      have h4 := hK _ _ hG rfl (fun _ _ h => h)
      first | (simpa only [RF.upd, h0, Nat.reduceEqDiff, if_true, if_false, reduceIte] using h4) | (simp only [RF.upd, h0, Nat.reduceEqDiff, if_true, if_false, reduceIte] at h4 ⊢; exact h4)
    · refine RF.Step.plain rfl rfl (fun vs wx hG hv hd K hK => ?_)
      have h0 : vs 1 = pB g := by first | exact hd.1 | exact hd.2.1 | exact hd.2.2.1 | exact hd.2.2.2.1 | exact hd.2.2.2.2.1
      go_simp
      have h4 := hK _ _ hG rfl (fun _ _ h => h)
      first | (simpa only [RF.upd, h0, Nat.reduceEqDiff, if_true, if_false, reduceIte] using h4) | (simp only [RF.upd, h0, Nat.reduceEqDiff, if_true, if_false, reduceIte] at h4 ⊢; exact h4)
    · refine RF.Step.plain rfl rfl (fun vs wx hG hv hd K hK => ?_)
      have h0 : vs 2 = .pointer (some ⟨g, 1, none⟩) := by first | exact hd.1 | exact hd.2.1 | exact hd.2.2.1 | exact hd.2.2.2.1 | exact hd.2.2.2.2.1
      have e0 : wx.cell? ⟨g, 1, none⟩ = some (pB gh) := (HG.out.g.ext_no hG.1).cell 1
      go_simp
      have h4 := hK _ _ hG rfl (fun _ _ h => h)
      first | (simpa only [RF.upd, h0, Nat.reduceEqDiff, if_true, if_false, reduceIte] using h4) | (simp only [RF.upd, h0, Nat.reduceEqDiff, if_true, if_false, reduceIte] at h4 ⊢; exact h4)
    · refine RF.Step.plain rfl rfl (fun vs wx hG hv hd K hK => ?_)
      have hb2 : Blk wx ge 208 #[.int .u64 (hi y2 : Int), .int .u64 (lo y2 : Int)] := by
        rcases hG.2.1 with h | h
        · exact h
        · exact absurd (hv.symm.trans h.2) (by intro e; cases e)
      have PE := Blk.c2 hb2
      go_simp
      exact hK _ _ ⟨hG.1, .inl hb2, .inr rfl⟩ rfl (fun _ _ h => h)
    · refine RF.Step.plain rfl rfl (fun vs wx hG hv hd K hK => ?_)
      go_simp
      exact hK _ _ hG rfl (fun _ _ h => h)
    · refine RF.Step.plain rfl rfl (fun vs wx hG hv hd K hK => ?_)
      go_simp
      exact hK _ _ hG rfl (fun _ _ h => h)
    · refine RF.Step.plain rfl rfl (fun vs wx hG hv hd K hK => ?_)
      have h0 : vs 5 = .func (.func 163) #[] #[] := by first | exact hd.1 | exact hd.2.1 | exact hd.2.2.1 | exact hd.2.2.2.1 | exact hd.2.2.2.2.1
      have h1 : vs 6 = Value.slice aA a.length ac := by first | exact hd.1 | exact hd.2.1 | exact hd.2.2.1 | exact hd.2.2.2.1 | exact hd.2.2.2.2.1
      go_simp
      refine (HBA.out wx (HA.out.ext_no hG.1)).mono ?_
      rintro e' w' ⟨v', rfl, ho, hx⟩
      have h4 := hK _ _ (GT.no hG hx) (own_off ho (GT.lt hG)) (fun j _ h => FT.no hx j _ h)
      first | (simpa only [RF.upd, h0, h1, Nat.reduceEqDiff, if_true, if_false, reduceIte] using h4) | (simp only [RF.upd, h0, h1, Nat.reduceEqDiff, if_true, if_false, reduceIte] at h4 ⊢; exact h4)
    · refine RF.Step.plain rfl rfl (fun vs wx hG hv hd K hK => ?_)
      go_simp
      exact hK _ _ hG rfl (fun _ _ h => h)
    · refine RF.Step.plain rfl rfl (fun vs wx hG hv hd K hK => ?_)
      go_simp
      exact hK _ _ hG rfl (fun _ _ h => h)
    · refine RF.Step.plain rfl rfl (fun vs wx hG hv hd K hK => ?_)
      have h0 : vs 8 = .func (.func 163) #[] #[] := by first | exact hd.1 | exact hd.2.1 | exact hd.2.2.1 | exact hd.2.2.2.1 | exact hd.2.2.2.2.1
      have h1 : vs 9 = Value.slice bA b.length bc := by first | exact hd.1 | exact hd.2.1 | exact hd.2.2.1 | exact hd.2.2.2.1 | exact hd.2.2.2.2.1
      go_simp
      refine (HBB.out wx (HB.out.ext_no hG.1)).mono ?_
      rintro e' w' ⟨v', rfl, ho, hx⟩
      have h4 := hK _ _ (GT.no hG hx) (own_off ho (GT.lt hG)) (fun j _ h => FT.no hx j _ h)
      first | (simpa only [RF.upd, h0, h1, Nat.reduceEqDiff, if_true, if_false, reduceIte] using h4) | (simp only [RF.upd, h0, h1, Nat.reduceEqDiff, if_true, if_false, reduceIte] at h4 ⊢; exact h4)
    · refine RF.Step.plain rfl rfl (fun vs wx hG hv hd K hK => ?_)
      have hb1 : Bs wx (fun k => k ≠ ge) (vs 7) LA := by first | exact hd.1 | exact hd.2.1 | exact hd.2.2.1 | exact hd.2.2.2.1 | exact hd.2.2.2.2.1
      have hb2 : Bs wx (fun k => k ≠ ge) (vs 10) LB := by first | exact hd.1 | exact hd.2.1 | exact hd.2.2.1 | exact hd.2.2.2.1 | exact hd.2.2.2.2.1
      obtain ⟨A1, c1, e1, -⟩ := hb1.slice
      obtain ⟨A2, c2, e2, -⟩ := hb2.slice
      rw [e1] at hb1
      rw [e2] at hb2
      have HB1 := Lib.hid hb1
      have HB2 := Lib.hid hb2
      clear hb1 hb2
      have hlt := GT.lt hG
      go_simp
      have ha := (Ext.refl No wx).alloc (.cells #[.slice A1 LA.length c1, .slice A2 LB.length c2] 22)
      have h4 := hK (.slice (some ⟨wx.heap.size, 0, none⟩) 2 2) _ (GT.no hG ha) (Parts.lit2 HB1.out HB2.out (by omega) rfl) (fun j _ h => FT.no ha j _ h)
      first | (simpa only [RF.upd, e1, e2, Nat.reduceEqDiff, if_true, if_false, reduceIte] using h4) | (simp only [RF.upd, e1, e2, Nat.reduceEqDiff, if_true, if_false, reduceIte] at h4 ⊢; exact h4)
    · refine RF.Step.plain rfl rfl (fun vs wx hG hv hd K hK => ?_)
      have hp : Parts wx (fun k => k ≠ ge) (vs 11) [LA, LB] := by first | exact hd.1 | exact hd.2.1 | exact hd.2.2.1 | exact hd.2.2.2.1 | exact hd.2.2.2.2.1
      have hj := oJoin_any _ (vs 11) [LA, LB] wx hp (by rw [HJL.out]; omega)
      have HJ := Lib.hid hj
      clear hj hp
      go_simp
      refine HJ.out.mono ?_
      rintro e' w' ⟨A, n, c, rfl, ho, hx⟩
      rw [HJF.out] at ho
      exact hK _ _ (GT.no hG hx) (own_off ho (GT.lt hG)) (fun j _ h => FT.no hx j _ h)
    · refine RF.Step.plain rfl rfl (fun vs wx hG hv hd K hK => ?_)
      have h0 : vs 3 = pB gh := by first | exact hd.1 | exact hd.2.1 | exact hd.2.2.1 | exact hd.2.2.2.1 | exact hd.2.2.2.2.1
      have h1 : vs 4 = .agg #[.int .u64 (hi y2 : Int), .int .u64 (lo y2 : Int)] := by first | exact hd.1 | exact hd.2.1 | exact hd.2.2.1 | exact hd.2.2.2.1 | exact hd.2.2.2.2.1
      have h2 : Bs wx (fun k => k ≠ ge) (vs 12) (LA ++ LB) := by first | exact hd.1 | exact hd.2.1 | exact hd.2.2.1 | exact hd.2.2.2.1 | exact hd.2.2.2.2.1
      have HC := Lib.hid (fHash_agg gh h y2 y3 (vs 12) (LA ++ LB) wx (HG.out.h.ext_no hG.1) h2.any HY3.out)
      clear h2
      go_simp
      refine HC.out.mono ?_
      rintro e' w' ⟨rfl, hx⟩
      have h4 := hK _ _ ⟨hG.1.trans hx, (GT.no hG hx).2.1, .inr h1⟩ rfl (fun j _ h => FT.no hx j _ h)
      first | (simpa only [RF.upd, h0, h1, Nat.reduceEqDiff, if_true, if_false, reduceIte] using h4) | (simp only [RF.upd, h0, h1, Nat.reduceEqDiff, if_true, if_false, reduceIte] at h4 ⊢; exact h4)
    · refine RF.Step.plain rfl rfl (fun vs wx hG hv hd K hK => ?_)
      have h0 : vs 13 = .agg #[.int .u64 (hi y3 : Int), .int .u64 (lo y3 : Int)] := by first | exact hd.1 | exact hd.2.1 | exact hd.2.2.1 | exact hd.2.2.2.1 | exact hd.2.2.2.2.1
      have h4 : vs 4 = .agg #[.int .u64 (hi y2 : Int), .int .u64 (lo y2 : Int)] := hG.2.2.resolve_left (by rw [h0]; intro e; cases e)
      obtain ⟨cs, hcs, hb⟩ : ∃ cs : Array Value, cs.size = 2 ∧ Blk wx ge 208 cs := hG.2.1.elim (fun h => ⟨_, rfl, h⟩) (fun h => ⟨_, rfl, h.1⟩)
      refine wp_store_blk' (cs' := #[.int .u64 (hi y3 : Int), .int .u64 (lo y3 : Int)]) 208 (.tmp 10) (.tmp 39) rfl hb rfl h0 (by rw [hcs]; rfl) (by kernel_rfl) (by intro v hv; simp at hv; rcases hv with rfl | rfl <;> rfl) ?_
      intro w' hb' hx'
      refine hK undef w' ⟨hG.1.transS hx' (fun i hi h => by have h' : i = ge := h; have := HGE.out; omega), .inr ⟨hb', h4⟩, .inr h4⟩ hb' (fun j hj h => ?_)
      match j, h with
      | 0, h | 1, h | 2, h | 3, h | 4, h | 5, h | 6, h | 8, h | 9, h | 13, h => exact h
      | 7, h | 10, h | 12, h => exact Bs.ext h hx' (fun b hb _ hs => hb hs)
      | 11, h => exact Parts.ext h hx' (fun b hb _ hs => hb hs)
      | 14, h => exact absurd rfl hj
      | m + 15, _ => trivial
  · intro us w6 hG hF
    have HE6 : Hid (Blk w6 ge 208 #[.int .u64 (hi y3 : Int), .int .u64 (lo y3 : Int)]) := Lib.hid (hF 14 (by decide))
    have HX6 := Lib.hid hG.1
    clear hG hF HX5 HE5 HJF HJL HBA HBB
    have HG6 := Lib.hid (HG.out.no HX6.out)
    have HN6 := Lib.hid (HN.out.ext_no HX6.out)
    have hcb : (nonce ++ putL 1 4).length = 16 := by rw [List.length_append, HNL.out, putL_length]
    obtain ⟨CB, hCB⟩ : ∃ x, nonce ++ putL 1 4 = x := ⟨_, rfl⟩
    rw [hCB] at hcb
    obtain ⟨EB, hEB⟩ : ∃ x, enc KK CB = x := ⟨_, rfl⟩
    have hel : EB.length = 16 := by rw [← hEB]; exact enc_length KK CB HKK.out
    have HCB := Lib.hid hCB
    have HEB := Lib.hid hEB
    have HCBL := Lib.hid hcb
    have HEL := Lib.hid hel
    have HEBS : Hid ((u8s EB).toArray.size = 16) := Lib.hid (by rw [List.size_toArray, u8s_length, hel])
    clear hcb hCB hEB hel
    go_wp2_with fail
    refine RF.region (vs := fun | 8 => Value.bool false | _ => undef) rfl (fun vs => ((pB g) :: (Value.slice nA nonce.length nc) :: (Value.slice aA a.length ac) :: (Value.slice bA b.length bc) :: undef :: undef :: undef :: undef :: (Value.slice none 0 0) :: (Value.func (Fn.func 163) #[] #[]) :: (Value.pointer (some ⟨ge, 0, none⟩)) :: (vs 7) :: (pB g) :: (Value.pointer (some ⟨g, 0, none⟩)) :: (Value.pointer (some ⟨g, 1, none⟩)) :: (pB gh) :: (Value.agg #[Value.int IntKind.u64 0, Value.int IntKind.u64 0]) :: (Value.slice aA a.length ac) :: (Value.agg #[Value.int IntKind.u64 ↑(hi y1), Value.int IntKind.u64 ↑(lo y1)]) :: (pB g) :: (Value.pointer (some ⟨g, 0, none⟩)) :: (Value.pointer (some ⟨g, 1, none⟩)) :: (pB gh) :: (Value.agg #[Value.int IntKind.u64 ↑(hi y1), Value.int IntKind.u64 ↑(lo y1)]) :: (Value.slice bA b.length bc) :: (Value.agg #[Value.int IntKind.u64 ↑(hi y2), Value.int IntKind.u64 ↑(lo y2)]) :: (us 0) :: (us 1) :: (us 2) :: (us 3) :: (us 4) :: (us 5) :: (us 6) :: (us 7) :: (us 8) :: (us 9) :: (us 10) :: (us 11) :: (us 12) :: (us 13) :: (vs 0) :: (vs 1) :: (vs 2) :: (vs 3) :: (vs 4) :: (vs 5) :: (vs 6) :: undef :: undef :: undef :: undef :: []).toArray)
      (FU w6.heap.size g gc (.slice nA nonce.length nc) CB EB) (fun vs wx => GS w6 EB (vs 7) (vs 8) wx) rfl (by kernel_rfl) ?_ ?_ ?_
    · exact ⟨(Ext.refl No w6).drew, fun e => by cases e⟩
    · refine ⟨⟨⟨⟨⟨⟨⟨⟨⟨trivial, ?_⟩, ?_⟩, ?_⟩, ?_⟩, ?_⟩, ?_⟩, ?_⟩, ?_⟩, ?_⟩
      · refine RF.Step.plain rfl rfl (fun vs wx hG hv hd K hK => ?_)
        go_simp
        exact hK _ _ hG rfl (fun _ _ h => h)
      · refine RF.Step.plain rfl rfl (fun vs wx hG hv hd K hK => ?_)
        have h0 : vs 0 = pB g := by first | exact hd.1 | exact hd.2.1 | exact hd.2.2.1 | exact hd.2.2.2.1 | exact hd.2.2.2.2.1
        go_simp
        have h4 := hK _ _ hG rfl (fun _ _ h => h)
        first | (simpa only [RF.upd, h0, Nat.reduceEqDiff, if_true, if_false, reduceIte] using h4) | (simp only [RF.upd, h0, Nat.reduceEqDiff, if_true, if_false, reduceIte] at h4 ⊢; exact h4)
      · refine RF.Step.plain rfl rfl (fun vs wx hG hv hd K hK => ?_)
        have h0 : vs 1 = pB g := by first | exact hd.1 | exact hd.2.1 | exact hd.2.2.1 | exact hd.2.2.2.1 | exact hd.2.2.2.2.1
        go_simp
        have h4 := hK _ _ hG rfl (fun _ _ h => h)
        first | (simpa only [RF.upd, h0, Nat.reduceEqDiff, if_true, if_false, reduceIte] using h4) | (simp only [RF.upd, h0, Nat.reduceEqDiff, if_true, if_false, reduceIte] at h4 ⊢; exact h4)
      · refine RF.Step.plain rfl rfl (fun vs wx hG hv hd K hK => ?_)
        have h0 : vs 2 = pB g := by first | exact hd.1 | exact hd.2.1 | exact hd.2.2.1 | exact hd.2.2.2.1 | exact hd.2.2.2.2.1
        have e0 : wx.cell? ⟨g, 0, none⟩ = some (pB gc) := (HG6.out.g.ext_no hG.1).cell 0
        go_simp
        have h4 := hK _ _ hG rfl (fun _ _ h => h)
        first | (simpa only [RF.upd, h0, Nat.reduceEqDiff, if_true, if_false, reduceIte] using h4) | (simp only [RF.upd, h0, Nat.reduceEqDiff, if_true, if_false, reduceIte] at h4 ⊢; exact h4)
      · refine RF.Step.plain rfl rfl (fun vs wx hG hv hd K hK => ?_)
        go_simp
        exact hK _ _ hG rfl (fun _ _ h => h)
      · refine RF.Step.plain rfl rfl (fun vs wx hG hv hd K hK => ?_)
        have h0 : vs 4 = Value.slice nA nonce.length nc := by first | exact hd.1 | exact hd.2.1 | exact hd.2.2.1 | exact hd.2.2.2.1 | exact hd.2.2.2.2.1
        go_simp
        refine (gCounter_any (.slice nA nonce.length nc) nonce 1 wx (HN6.out.ext_no hG.1) HNL.out (by decide)).mono ?_
        rintro e' w' ⟨rfl, hx⟩
        rw [HCB.out]
        have h4 := hK _ _ (GS.no hG hx) rfl (fun j _ h => FU.no hx j _ h)
        first | (simpa only [RF.upd, h0, Nat.reduceEqDiff, if_true, if_false, reduceIte] using h4) | (simp only [RF.upd, h0, Nat.reduceEqDiff, if_true, if_false, reduceIte] at h4 ⊢; exact h4)
      · refine RF.Step.plain rfl rfl (fun vs wx hG hv hd K hK => ?_)
        have h0 : vs 3 = pB gc := by first | exact hd.1 | exact hd.2.1 | exact hd.2.2.1 | exact hd.2.2.2.1 | exact hd.2.2.2.2.1
        have h1 : vs 5 = .agg (u8s CB).toArray := by first | exact hd.1 | exact hd.2.1 | exact hd.2.2.1 | exact hd.2.2.2.1 | exact hd.2.2.2.2.1
        go_simp
        refine (aBlock_any gc tg KK CB wx (HG6.out.c.no hG.1) HCBL.out).mono ?_
        rintro e' w' ⟨rfl, hx⟩
        rw [HEB.out]
        have h4 := hK _ _ (GS.no hG hx) rfl (fun j _ h => FU.no hx j _ h)
        first | (simpa only [RF.upd, h0, h1, Nat.reduceEqDiff, if_true, if_false, reduceIte] using h4) | (simp only [RF.upd, h0, h1, Nat.reduceEqDiff, if_true, if_false, reduceIte] at h4 ⊢; exact h4)
      · refine RF.Step.plain rfl rfl (fun vs wx hG hv hd K hK => ?_)
        go_simp
        have hx := (Ext.refl No wx).alloc (.cells (u8s (List.replicate 16 0)).toArray 203)
        have h4 := hK (pB wx.heap.size) (wx.alloc (.cells (u8s (List.replicate 16 0)).toArray 203)) ⟨hG.1.alloc _, fun e => by
          obtain ⟨gx, h1, h2, _⟩ := hG.2 e
          exact absurd (hv.symm.trans h1) (by intro e; cases e)⟩ ⟨_, _, rfl, hG.1.size, Blk.new wx _ _, by simp [u8s_length]⟩ (fun j _ h => FU.no hx j _ h)
        exact h4
      · refine RF.Step.plain rfl rfl (fun vs wx hG hv hd K hK => ?_)
        obtain ⟨gx, cs, e8, hle, hblk, hsz⟩ : ∃ gx cs, vs 7 = pB gx ∧ w6.heap.size ≤ gx ∧ Blk wx gx 203 cs ∧ cs.size = 16 := by first | exact hd.1 | exact hd.2.1 | exact hd.2.2.1 | exact hd.2.2.2.1 | exact hd.2.2.2.2.1
        have h7 : vs 6 = .agg (u8s EB).toArray := by first | exact hd.1 | exact hd.2.1 | exact hd.2.2.1 | exact hd.2.2.2.1 | exact hd.2.2.2.2.1
        refine wp_store_blk' 203 (.tmp 11) (.tmp 46) rfl hblk e8 h7 (by rw [HEBS.out, hsz]) (by rw [HEBS.out]; exact size_16) (u8s_one' _) ?_
        intro w' hb' hx'
        refine hK undef w' ⟨hG.1.transS hx' (fun i hi h => absurd hi (by have h' : i = gx := h; have := hG.1.size; omega)), fun _ => ⟨gx, e8, hle, hb'⟩⟩ rfl (fun j hj h => ?_)
        match j, h with
        | 0, h | 1, h | 2, h | 3, h | 4, h | 5, h | 6, h => exact h
        | 7, ⟨gy, cs2, q1, q2, q3, q4⟩ =>
          have e : gx = gy := by have := e8.symm.trans q1; injection this with this; injection this with this; injection this
          subst e
          exact ⟨gx, _, q1, q2, hb', HEBS.out⟩
        | 8, h => exact absurd rfl hj
        | m + 9, _ => trivial
    · intro ts w7 hG hF
      obtain ⟨gx, e8, hle, hbx⟩ := hG.2 (hF 8 (by decide))
      have HX7 := Lib.hid (HX6.out.trans hG.1)
      have HE7 := Lib.hid (HE6.out.ext_no hG.1)
      have HBX := Lib.hid hbx
      rw [e8]
      clear hG hF HE6 HX6 hbx
      have HBS : Hid (∀ wz, Ext No w7 wz → Bs wz Any (.slice (some ⟨gx, 0, none⟩) 16 16) EB) := Lib.hid (fun wz hz => (Bs.whole' (HBX.out.ext_no hz) (n := 16) (c := 16) HEL.out.symm (Nat.le_refl _) (by unfold maxLen; decide)).any)
      have HBL : Hid ((elB y3).length = 16) := Lib.hid (by unfold elB; rw [List.length_append, putL_length, putL_length])
      have HTL : Hid (xr (elB y3) (EB.take (elB y3).length) = tagL KK nonce h a b) := Lib.hid (by
        rw [HBL.out, List.take_of_length_le (by rw [HEL.out]; omega)]
        unfold tagL
        rw [HY1.out, HY2.out, HLA.out, HLB.out, HY3.out, HCB.out, HEB.out])
      clear HBX
      go_wp2_with fail
      refine RF.region (vs := fun | 4 => Value.slice none 0 0 | _ => undef) rfl (fun vs => ((pB g) :: (Value.slice nA nonce.length nc) :: (Value.slice aA a.length ac) :: (Value.slice bA b.length bc) :: undef :: undef :: undef :: undef :: (vs 4) :: (Value.func (Fn.func 163) #[] #[]) :: (Value.pointer (some ⟨ge, 0, none⟩)) :: (pB gx) :: (pB g) :: (Value.pointer (some ⟨g, 0, none⟩)) :: (Value.pointer (some ⟨g, 1, none⟩)) :: (pB gh) :: (Value.agg #[Value.int IntKind.u64 0, Value.int IntKind.u64 0]) :: (Value.slice aA a.length ac) :: (Value.agg #[Value.int IntKind.u64 ↑(hi y1), Value.int IntKind.u64 ↑(lo y1)]) :: (pB g) :: (Value.pointer (some ⟨g, 0, none⟩)) :: (Value.pointer (some ⟨g, 1, none⟩)) :: (pB gh) :: (Value.agg #[Value.int IntKind.u64 ↑(hi y1), Value.int IntKind.u64 ↑(lo y1)]) :: (Value.slice bA b.length bc) :: (Value.agg #[Value.int IntKind.u64 ↑(hi y2), Value.int IntKind.u64 ↑(lo y2)]) :: (us 0) :: (us 1) :: (us 2) :: (us 3) :: (us 4) :: (us 5) :: (us 6) :: (us 7) :: (us 8) :: (us 9) :: (us 10) :: (us 11) :: (us 12) :: (us 13) :: (ts 0) :: (ts 1) :: (ts 2) :: (ts 3) :: (ts 4) :: (ts 5) :: (ts 6) :: (vs 0) :: (vs 1) :: (vs 2) :: (vs 3) :: []).toArray)
        (FW w.heap.size gx y3 (tagL KK nonce h a b)) (fun _ wz => Ext No w7 wz) rfl (by kernel_rfl) ?_ ?_ ?_
      · exact (Ext.refl No w7).drew
      · refine ⟨⟨⟨⟨⟨trivial, ?_⟩, ?_⟩, ?_⟩, ?_⟩, ?_⟩
        · refine RF.Step.plain rfl rfl (fun vs wx hG hv hd K hK => ?_)
          have PE := Blk.c2 (HE7.out.ext_no hG)
          go_simp
          exact hK _ _ hG rfl (fun _ _ h => h)
        · refine RF.Step.plain rfl rfl (fun vs wx hG hv hd K hK => ?_)
          have h0 : vs 0 = .agg #[.int .u64 (hi y3 : Int), .int .u64 (lo y3 : Int)] := by first | exact hd.1 | exact hd.2.1 | exact hd.2.2.1 | exact hd.2.2.2.1 | exact hd.2.2.2.2.1
          go_simp
          refine (fBytes_agg y3 wx).mono ?_
          rintro e' w' ⟨v', rfl, hm, hx⟩
          have h4 := hK _ _ (Ext.trans hG hx) hm (fun j _ h => FW.no hx j _ h)
          first | (simpa only [RF.upd, h0, Nat.reduceEqDiff, if_true, if_false, reduceIte] using h4) | (simp only [RF.upd, h0, Nat.reduceEqDiff, if_true, if_false, reduceIte] at h4 ⊢; exact h4)
        · refine RF.Step.plain rfl rfl (fun vs wx hG hv hd K hK => ?_)
          have := @HX7
          go_simp
          exact hK _ _ hG rfl (fun _ _ h => h)
        · refine RF.Step.plain rfl rfl (fun vs wx hG hv hd K hK => ?_)
          have h1 : Mid wx (vs 1) (elB y3) := by first | exact hd.1 | exact hd.2.1 | exact hd.2.2.1 | exact hd.2.2.2.1 | exact hd.2.2.2.2.1
          have h2 : vs 2 = .slice (some ⟨gx, 0, none⟩) 16 16 := by first | exact hd.1 | exact hd.2.1 | exact hd.2.2.1 | exact hd.2.2.2.1 | exact hd.2.2.2.2.1
          have HC := Lib.hid (oXor_any (vs 1) (.slice (some ⟨gx, 0, none⟩) 16 16) (elB y3) EB wx h1.any (HBS.out wx hG) (by rw [HBL.out, HEL.out]; omega) (by rw [HBL.out]; omega))
          clear h1
          go_simp
          refine HC.out.mono ?_
          rintro e' w' ⟨v', rfl, ho, hx⟩
          rw [HTL.out] at ho
          have h4 := hK _ _ (Ext.trans hG hx) (Own.less ho (by have := HX7.out.size; have := Ext.size hG; omega)) (fun j _ h => FW.no hx j _ h)
          first | (simpa only [RF.upd, h2, Nat.reduceEqDiff, if_true, if_false, reduceIte] using h4) | (simp only [RF.upd, h2, Nat.reduceEqDiff, if_true, if_false, reduceIte] at h4 ⊢; exact h4)
        · refine RF.Step.plain rfl rfl (fun vs wx hG hv hd K hK => ?_)
          have h3 : Own wx w.heap.size (vs 3) (tagL KK nonce h a b) := by first | exact hd.1 | exact hd.2.1 | exact hd.2.2.1 | exact hd.2.2.2.1 | exact hd.2.2.2.2.1
          go_simp
          exact hK _ _ hG h3 (fun _ _ h => h)
      · intro vs wx hG hF
        have HO : Hid (Own wx w.heap.size (vs 4) (tagL KK nonce h a b)) := Lib.hid (hF 4 (by decide))
        have HX8 := Lib.hid (HX7.out.trans hG)
        clear hG hF
        go_wp2_with fail
        go_ret
        exact ⟨_, rfl, HO.out, HX8.out⟩
end Go.Proofs.Ytmbbkkonmkbnoaa
namespace Go.Proofs.Ytmbbkkonmkbnoaa
open Go.RowKit Go.Deep Ae Fm
/-- A text, sealed: its tag stands behind. -/
def sealL (KK nonce : List UInt8) (h : G) (a b : List UInt8) : List UInt8 := strm KK nonce b ++ tagL KK nonce h a (strm KK nonce b)
theorem gSeal_size (g : Nat) (nv av bv : Value) (nonce : List UInt8) (w : World) (hn : Bs w Any nv nonce) (hnl : nonce.length ≠ 12) : Calls Try.prog 81 #[pB g, nv, av, bv] w fun e w' => e = .returned (.tuple #[.slice none 0 0, .int .i64 17]) ∧ Ext No w w' := by
  obtain ⟨nA, nc, rfl, -⟩ := hn.slice
  have hne : ¬ (nonce.length : Int) = 12 := by omega
  clear hn
  go_enter Try.func81, Try.ntmps81
  go_wp2
  go_ret2
  exact ⟨rfl, Ext.refl _ _⟩
theorem tagL_length (KK nonce : List UInt8) (h : G) (a b : List UInt8) (hk : KK.length = 240) : (tagL KK nonce h a b).length = 16 := by
  unfold tagL elB; rw [xr_length, List.length_append, putL_length, putL_length, enc_length _ _ hk]; rfl
theorem strm_length (KK nonce b : List UInt8) (hk : KK.length = 240) : (strm KK nonce b).length = b.length := by
  unfold strm; rw [strK_length _ _ _ hk]; omega
theorem gSeal_any (g gc tg gh : Nat) (KK : List UInt8) (h : G) (nv av bv : Value) (nonce a b : List UInt8) (w : World) (hg : IsG w g gc tg gh KK h) (hn : Bs w Any nv nonce) (hnl : nonce.length = 12) (ha : Bs w Any av a) (hal : a.length ≤ 1000000) (hb : Bs w Any bv b) (hbl : b.length ≤ 100000) :
    Calls Try.prog 81 #[pB g, nv, av, bv] w fun e w' => ∃ v', e = .returned (.tuple #[v', .int .i64 0]) ∧ Own w' w.heap.size v' (sealL KK nonce h a b) ∧ Ext No w w' := by
  obtain ⟨nA, nc, rfl, -⟩ := hn.slice
  have hne : (nonce.length : Int) = 12 := by omega
  have hsl := strm_length KK nonce b hg.c.k
  have htl := tagL_length KK nonce h a (strm KK nonce b) hg.c.k
  have HS := Lib.hid (gStream_any g gc tg gh KK h _ bv nonce b w hg hn hnl hb hbl)
  have HT := Lib.hid (fun (wx : World) (v : Value) (hx : Ext No w wx) (hv : Bs wx Any v (strm KK nonce b)) => gTag_any g gc tg gh KK h _ av v nonce a (strm KK nonce b) wx (hg.no hx) (hn.ext_no hx) hnl (ha.ext_no hx) hal hv (by omega))
  have hse : sealL KK nonce h a b = strm KK nonce b ++ tagL KK nonce h a (strm KK nonce b) := rfl
  obtain ⟨SL, hSL⟩ : ∃ x, strm KK nonce b = x := ⟨_, rfl⟩
  rw [hSL] at hsl htl HS HT hse
  obtain ⟨TL, hTL⟩ : ∃ x, tagL KK nonce h a SL = x := ⟨_, rfl⟩
  rw [hTL] at htl HT hse
  rw [hse]
  have HSL := Lib.hid hsl
  have HTL := Lib.hid htl
  have HBL := Lib.hid hbl
  clear hg hn ha hb hsl htl hse hSL hTL hbl hal hnl
  go_enter Try.func81, Try.ntmps81
  go_wp2_with (first
    | (go_at_call 128; go_must (refine HS.out.mono ?_); rintro e1 w1 ⟨v1, rfl, h1, hx1⟩; obtain ⟨A1, c1, rfl, -⟩ := h1.slice; have HO1 := Lib.hid h1; have HX1 := Lib.hid hx1; clear h1 hx1)
    | (go_at_call 129; go_must (refine (HT.out w1 _ HX1.out HO1.out.any).mono ?_); rintro e2 w2 ⟨v2, rfl, h2, hx2⟩; obtain ⟨A2, c2, rfl, -⟩ := h2.slice; have HO2 := Lib.hid h2; have HX2 := Lib.hid (HX1.out.trans hx2); have HO1' := Lib.hid (HO1.out.ext_no hx2); clear h2 hx2)
    | (go_at_call 65; go_must (refine (oJoin_any Any _ [SL, TL] _ (Parts.lit2 HO1'.out.any HO2.out.any trivial) (by simp [HSL.out, HTL.out]; have := HBL.out; omega)).mono ?_); rintro e3 w3 ⟨A3, n3, c3, rfl, h3, hx3⟩; have HO3 := Lib.hid h3; have HX3 := Lib.hid ((HX2.out.alloc _).trans hx3); clear h3 hx3))
  go_ret2
  refine ⟨.slice A3 n3 c3, rfl, ?_, HX3.out⟩
  have := HO3.out
  rw [show [SL, TL].flatten = SL ++ TL from by simp] at this
  exact this.less (by rw [World.size_alloc]; have := HX2.out.size; omega)
end Go.Proofs.Ytmbbkkonmkbnoaa
namespace Go.Proofs.Ytmbbkkonmkbnoaa
open Go.RowKit Go.Deep Ae
/-- What has gathered of the bits that differ. -/
def orx (l m : List UInt8) : Nat → UInt8
  | 0 => 0
  | n + 1 => orx l m n ||| (l.getD n 0 ^^^ m.getD n 0)
theorem or_zero (x y : UInt8) : (x ||| y = 0) ↔ (x = 0 ∧ y = 0) := by
  rw [← UInt8.toBitVec_inj, ← UInt8.toBitVec_inj, ← UInt8.toBitVec_inj, UInt8.toBitVec_or]
  exact BitVec.or_eq_zero_iff
theorem xor_zero (x y : UInt8) : (x ^^^ y = 0) ↔ x = y := by
  rw [← UInt8.toBitVec_inj, ← UInt8.toBitVec_inj, UInt8.toBitVec_xor]
  exact BitVec.xor_eq_zero_iff
theorem orx_zero (l m : List UInt8) : ∀ n, orx l m n = 0 ↔ ∀ i, i < n → l.getD i 0 = m.getD i 0
  | 0 => by simp [orx]
  | n + 1 => by
    unfold orx
    rw [or_zero, orx_zero l m n, xor_zero]
    constructor
    · rintro ⟨h1, h2⟩ i hi
      by_cases h : i < n
      · exact h1 i h
      · obtain rfl : i = n := by omega
        exact h2
    · intro h
      exact ⟨fun i hi => h i (by omega), h n (by omega)⟩
theorem orx_eq (l m : List UInt8) (h : l.length = m.length) : orx l m l.length = 0 ↔ l = m := by
  rw [orx_zero]
  constructor
  · intro H
    apply List.ext_getElem h
    intro i h1 h2
    have := H i h1
    rwa [List.getD_eq_getElem?_getD, List.getD_eq_getElem?_getD, List.getElem?_eq_getElem h1, List.getElem?_eq_getElem h2] at this
  · rintro rfl i _; rfl
theorem or_u8 (x y : UInt8) : bits .or .u8 (x.toNat : Int) (y.toNat : Int) = ((x ||| y).toNat : Int) := by
  rw [u8_or_nat _ _ x.toNat_lt y.toNat_lt, UInt8.toNat_or]
set_option maxRecDepth 100000 in
set_option maxHeartbeats 1000000 in
theorem oSame_any (v1 v2 : Value) (l m : List UInt8) (w : World) (h1 : Bs w Any v1 l) (h2 : Bs w Any v2 m) (q : Bool) (hq : decide (l = m) = q) (hlm : l.length = m.length) :
    Calls Try.prog 39 #[v1, v2] w fun e w' => e = .returned (.bool q) ∧ Ext No w w' := by
  obtain ⟨A, c, rfl, hc, hcm, ba, oa, hA⟩ := h1.slice
  obtain ⟨B, d, rfl, hd, hdm, bb, ob, hB⟩ := h2.slice
  unfold maxLen at hcm hdm
  have HA := Lib.hid hA
  have HB := Lib.hid hB
  have ht : ((l.length : Int) == (m.length : Int)) = true := by simp [hlm]
  have ht2 : ((l.length : Int) != (m.length : Int)) = false := by simp [hlm]
  have HQ : Hid ((((orx l m l.length).toNat : Int) == 0) = q) := Lib.hid (by
    rw [← hq]
    have h := orx_eq l m hlm
    by_cases e : l = m
    · rw [decide_eq_true e, h.2 e]; rfl
    · rw [decide_eq_false e]
      have : orx l m l.length ≠ 0 := fun hz => e (h.1 hz)
      rw [Bool.eq_false_iff]
      intro hz
      apply this
      have hz := of_decide_eq_true (show decide (_ = _) = true by simpa using hz)
      exact UInt8.toNat_inj.1 (by simpa using hz))
  have HLM := Lib.hid hlm
  clear h1 h2 hA hB hq hlm
  go_enter Try.func39, Try.ntmps39
  go_wp2_with fail
  go_loopw [5, 14] (fun d i wr => ∃ k : Nat, k ≤ l.length ∧ i = .int .i64 (k : Int) ∧ d = .int .u8 ((orx l m k).toNat : Int) ∧ ∃ n, wr = w.drewN n) (fun _ i _ => l.length - (intOf i).toNat)
  case atStart => exact ⟨0, by omega, rfl, rfl, 0, rfl⟩
  case round =>
    obtain ⟨k, hk, rfl, rfl, n, rfl⟩ := hrel
    by_cases hlt : k < l.length
    · have hlt2 : k < m.length := by have := HLM.out; omega
      obtain ⟨rfl, _, _, e1⟩ := HA.out k hlt
      obtain ⟨rfl, _, _, e2⟩ := HB.out k hlt2
      have hi2 : (k : Int) < (m.length : Int) := by omega
      have HO : Hid (orx l m (k + 1) = orx l m k ||| (l[k] ^^^ m[k])) := Lib.hid (by
        show orx l m k ||| (l.getD k 0 ^^^ m.getD k 0) = _
        rw [List.getD_eq_getElem?_getD, List.getD_eq_getElem?_getD, List.getElem?_eq_getElem hlt, List.getElem?_eq_getElem hlt2]
        rfl)
      obtain ⟨x, hx⟩ : ∃ x, l[k] = x := ⟨_, rfl⟩
      obtain ⟨y, hy⟩ : ∃ y, m[k] = y := ⟨_, rfl⟩
      obtain ⟨d0, hd0⟩ : ∃ d, orx l m k = d := ⟨_, rfl⟩
      rw [hx, hy, hd0] at HO
      rw [hx] at e1
      rw [hy] at e2
      rw [hd0]
      have e3 := xor_u8 x y
      have e4 := or_u8 d0 (x ^^^ y)
      clear hx hy hd0
      go_wp2_with fail
      go_quiet (fail)
      clear e3 e4
      go_wp2_with fail
      go_roundw
      case rel => exact ⟨k + 1, by omega, by go_num, by rw [HO.out, ← UInt8.toNat_xor, or_u8], n + nq, by first | rfl | exact World.drewN_drewN ..⟩
      case measure => simp [intOf]; omega
    · obtain rfl : k = l.length := by omega
      have HW := Lib.hid ((Ext.refl No w).drewN n)
      go_wp2_with fail
      go_ret
      exact ⟨by rw [HQ.out]; rfl, HW.out⟩
end Go.Proofs.Ytmbbkkonmkbnoaa
namespace Go.Proofs.Ytmbbkkonmkbnoaa
open Go.RowKit Go.Deep Ae Fm
theorem gOpen_size (g : Nat) (nv av bv : Value) (nonce : List UInt8) (w : World) (hn : Bs w Any nv nonce) (hnl : nonce.length ≠ 12) : Calls Try.prog 84 #[pB g, nv, av, bv] w fun e w' => e = .returned (.tuple #[.slice none 0 0, .int .i64 17]) ∧ Ext No w w' := by
  obtain ⟨nA, nc, rfl, -⟩ := hn.slice
  have hne : ¬ (nonce.length : Int) = 12 := by omega
  clear hn
  go_enter Try.func84, Try.ntmps84
  go_wp2
  go_ret2
  exact ⟨rfl, Ext.refl _ _⟩
theorem gOpen_short (g : Nat) (nv av sv : Value) (nonce s : List UInt8) (w : World) (hn : Bs w Any nv nonce) (hnl : nonce.length = 12) (hs : Bs w Any sv s) (hsl : s.length < 16) : Calls Try.prog 84 #[pB g, nv, av, sv] w fun e w' => e = .returned (.tuple #[.slice none 0 0, .int .i64 3]) ∧ Ext No w w' := by
  obtain ⟨nA, nc, rfl, -⟩ := hn.slice
  obtain ⟨sA, sc, rfl, -⟩ := hs.slice
  have hne : (nonce.length : Int) = 12 := by omega
  have hlt : (s.length : Int) < 16 := by omega
  clear hn hs hnl hsl
  go_enter Try.func84, Try.ntmps84
  go_wp2
  go_ret2
  exact ⟨rfl, Ext.refl _ _⟩
/-- Is the tag right: what each operation leaves. -/
def FO (g n sc sb so : Nat) (nv av sv : Value) (TL : List UInt8) (q : Bool) : Nat → Value → World → Prop
  | 0, v, _ => v = pB g
  | 1, v, _ => v = nv
  | 2, v, _ => v = av
  | 3, v, _ => v = sv
  | 4, v, _ => v = .int .i64 (n : Int)
  | 5, v, _ => v = .slice (some ⟨sb, so, none⟩) n sc
  | 6, v, w => Bs w Any v TL
  | 7, v, _ => v = sv
  | 8, v, _ => v = .int .i64 (n : Int)
  | 9, v, _ => v = .slice (some ⟨sb, so + n, none⟩) 16 (sc - n)
  | 10, v, _ => v = .bool q
  | 11, v, _ => v = .bool (!q)
  | _, _, _ => True
theorem FO.no {g n sc sb so : Nat} {nv av sv : Value} {TL : List UInt8} {q : Bool} {w w' : World} (hx : Ext No w w') : ∀ j v, FO g n sc sb so nv av sv TL q j v w → FO g n sc sb so nv av sv TL q j v w' := by
  intro j v H
  match j, H with
  | 0, H | 1, H | 2, H | 3, H | 4, H | 5, H | 7, H | 8, H | 9, H | 10, H | 11, H => exact H
  | 6, H => exact Bs.ext_no H hx
  | m + 12, _ => trivial
set_option maxRecDepth 100000 in
set_option maxHeartbeats 2000000 in
theorem gOpen_any (g gc tg gh : Nat) (KK : List UInt8) (h : G) (nv av sv : Value) (nonce a s : List UInt8) (w : World) (hg : IsG w g gc tg gh KK h) (hn : Bs w Any nv nonce) (hnl : nonce.length = 12) (ha : Bs w Any av a) (hal : a.length ≤ 1000000) (hs : Bs w Any sv s) (hsl : s.length ≤ 100000) (hsh : 16 ≤ s.length) (q : Bool) (hq : decide (tagL KK nonce h a (s.take (s.length - 16)) = s.drop (s.length - 16)) = q) :
    Calls Try.prog 84 #[pB g, nv, av, sv] w fun e w' => ∃ v', e = .returned (.tuple #[v', .int .i64 (if q then 0 else 6)]) ∧ Own w' w.heap.size v' (if q then strm KK nonce (s.take (s.length - 16)) else []) ∧ Ext No w w' := by
  obtain ⟨nA, nc, rfl, -⟩ := hn.slice
  obtain ⟨aA, ac, rfl, -⟩ := ha.slice
  obtain ⟨sA, sc, rfl, hsc, hsm, sb, so, hcell⟩ := hs.slice
  obtain ⟨rfl, -⟩ := hcell 0 (by omega)
  have hne : (nonce.length : Int) = 12 := by omega
  have hge : ¬ (s.length : Int) < 16 := by omega
  obtain ⟨n, hn16⟩ : ∃ n, s.length = n + 16 := ⟨s.length - 16, by omega⟩
  rw [show s.length - 16 = n by omega] at hq ⊢
  unfold maxLen at hsm
  have hS1 := hs.head (k := n) (by omega)
  have hS2 := hs.rest (k := n) (by omega) (A' := some ⟨sb, so + n, none⟩) (m := 16) (c' := sc - n) (by omega) (fun _ => rfl) (by omega) (by unfold maxLen; omega)
  have h1l : (s.take n).length = n := by rw [List.length_take]; omega
  have h2l : (s.drop n).length = 16 := by rw [List.length_drop]; omega
  obtain ⟨S1, hS1e⟩ : ∃ x, s.take n = x := ⟨_, rfl⟩
  obtain ⟨S2, hS2e⟩ : ∃ x, s.drop n = x := ⟨_, rfl⟩
  rw [hS1e] at hS1 h1l hq ⊢
  rw [hS2e] at hS2 h2l hq
  have htl := tagL_length KK nonce h a S1 hg.c.k
  have HT := Lib.hid (fun (wx : World) (hx : Ext No w wx) => gTag_any g gc tg gh KK h _ _ (.slice (some ⟨sb, so, none⟩) n sc) nonce a S1 wx (hg.no hx) (hn.ext_no hx) hnl (ha.ext_no hx) hal (hS1.ext_no hx) (by omega))
  have HS := Lib.hid (fun (wx : World) (hx : Ext No w wx) => gStream_any g gc tg gh KK h _ (.slice (some ⟨sb, so, none⟩) n sc) nonce S1 wx (hg.no hx) (hn.ext_no hx) hnl (hS1.ext_no hx) (by omega))
  have HS2 := Lib.hid (fun (wx : World) (hx : Ext No w wx) => hS2.ext_no hx)
  obtain ⟨TL, hTL⟩ : ∃ x, tagL KK nonce h a S1 = x := ⟨_, rfl⟩
  obtain ⟨SL, hSL⟩ : ∃ x, strm KK nonce S1 = x := ⟨_, rfl⟩
  rw [hTL] at htl HT hq
  rw [hSL] at HS ⊢
  have HQ := Lib.hid (fun (v1 v2 : Value) (wx : World) (h1 : Bs wx Any v1 TL) (h2 : Bs wx Any v2 S2) => oSame_any v1 v2 TL S2 wx h1 h2 q hq (by omega))
  have hcn : ¬ sc = n := by omega
  have e16 : (s.length : Int) - 16 = (n : Int) := by omega
  have hnn : (n : Int) ≤ (sc : Int) := by omega
  have hnl2 : (n : Int) ≤ (s.length : Int) := by omega
  have HN16 := Lib.hid hn16
  have HSN : Hid (s.length - n = 16) := Lib.hid (by omega)
  clear hg hn ha hs hcell hS1 hS2 hS1e hS2e h1l h2l htl hTL hSL hq hsl hsh hal hnl hn16
  go_enter Try.func84, Try.ntmps84
  go_wp2_with fail
  refine RF.region (vs := fun _ => undef) rfl (fun vs => ((pB g) :: (Value.slice nA nonce.length nc) :: (Value.slice aA a.length ac) :: (Value.slice (some ⟨sb, so, none⟩) s.length sc) :: undef :: undef :: undef :: undef :: (Value.slice none 0 0) :: (Value.int IntKind.i64 0) :: (Value.int IntKind.i64 (n : Int)) :: (Value.bool false) :: (Value.slice nA nonce.length nc) :: (Value.int IntKind.i64 12) :: (Value.bool false) :: (Value.bool false) :: (Value.slice (some ⟨sb, so, none⟩) s.length sc) :: (Value.int IntKind.i64 (s.length : Int)) :: (Value.bool false) :: (Value.slice (some ⟨sb, so, none⟩) s.length sc) :: (Value.int IntKind.i64 (s.length : Int)) :: (Value.int IntKind.i64 (n : Int)) :: (vs 0) :: (vs 1) :: (vs 2) :: (vs 3) :: (vs 4) :: (vs 5) :: (vs 6) :: (vs 7) :: (vs 8) :: (vs 9) :: (vs 10) :: (vs 11) :: undef :: undef :: undef :: undef :: undef :: undef :: []).toArray)
    (FO g n sc sb so (.slice nA nonce.length nc) (.slice aA a.length ac) (.slice (some ⟨sb, so, none⟩) s.length sc) TL q) (fun _ wz => Ext No w wz) rfl (by kernel_rfl) ?_ ?_ ?_
  · exact (Ext.refl No w).drew
  · refine ⟨⟨⟨⟨⟨⟨⟨⟨⟨⟨⟨⟨trivial, ?_⟩, ?_⟩, ?_⟩, ?_⟩, ?_⟩, ?_⟩, ?_⟩, ?_⟩, ?_⟩, ?_⟩, ?_⟩, ?_⟩
    · refine RF.Step.plain rfl rfl (fun vs wx hG hv hd K hK => ?_)
      go_simp
      exact hK _ _ hG rfl (fun _ _ h => h)
    · refine RF.Step.plain rfl rfl (fun vs wx hG hv hd K hK => ?_)
      go_simp
      exact hK _ _ hG rfl (fun _ _ h => h)
    · refine RF.Step.plain rfl rfl (fun vs wx hG hv hd K hK => ?_)
      go_simp
      exact hK _ _ hG rfl (fun _ _ h => h)
    · refine RF.Step.plain rfl rfl (fun vs wx hG hv hd K hK => ?_)
      go_simp
      exact hK _ _ hG rfl (fun _ _ h => h)
    · refine RF.Step.plain rfl rfl (fun vs wx hG hv hd K hK => ?_)
      go_simp
      exact hK _ _ hG rfl (fun _ _ h => h)
    · refine RF.Step.plain rfl rfl (fun vs wx hG hv hd K hK => ?_)
      have h0 : vs 3 = Value.slice (some ⟨sb, so, none⟩) s.length sc := by first | exact hd.1 | exact hd.2.1 | exact hd.2.2.1 | exact hd.2.2.2.1 | exact hd.2.2.2.2.1
      have h1 : vs 4 = .int .i64 (n : Int) := by first | exact hd.1 | exact hd.2.1 | exact hd.2.2.1 | exact hd.2.2.2.1 | exact hd.2.2.2.2.1
      go_simp
      have h4 := hK _ _ hG rfl (fun _ _ h => h)
      first | (simpa only [RF.upd, h0, h1, Nat.reduceEqDiff, if_true, if_false, reduceIte] using h4) | (simp only [RF.upd, h0, h1, Nat.reduceEqDiff, if_true, if_false, reduceIte] at h4 ⊢; exact h4)
    · refine RF.Step.plain rfl rfl (fun vs wx hG hv hd K hK => ?_)
      have h0 : vs 0 = pB g := by first | exact hd.1 | exact hd.2.1 | exact hd.2.2.1 | exact hd.2.2.2.1 | exact hd.2.2.2.2.1
      have h1 : vs 1 = Value.slice nA nonce.length nc := by first | exact hd.1 | exact hd.2.1 | exact hd.2.2.1 | exact hd.2.2.2.1 | exact hd.2.2.2.2.1
      have h2 : vs 2 = Value.slice aA a.length ac := by first | exact hd.1 | exact hd.2.1 | exact hd.2.2.1 | exact hd.2.2.2.1 | exact hd.2.2.2.2.1
      have h3 : vs 5 = Value.slice (some ⟨sb, so, none⟩) n sc := by first | exact hd.1 | exact hd.2.1 | exact hd.2.2.1 | exact hd.2.2.2.1 | exact hd.2.2.2.2.1
      go_simp
      refine (HT.out wx hG).mono ?_
      rintro e' w' ⟨v', rfl, ho, hx⟩
      have h4 := hK _ _ (Ext.trans hG hx) ho.any (fun j _ h => FO.no hx j _ h)
      first | (simpa only [RF.upd, h0, h1, h2, h3, Nat.reduceEqDiff, if_true, if_false, reduceIte] using h4) | (simp only [RF.upd, h0, h1, h2, h3, Nat.reduceEqDiff, if_true, if_false, reduceIte] at h4 ⊢; exact h4)
    · refine RF.Step.plain rfl rfl (fun vs wx hG hv hd K hK => ?_)
      go_simp
      exact hK _ _ hG rfl (fun _ _ h => h)
    · refine RF.Step.plain rfl rfl (fun vs wx hG hv hd K hK => ?_)
      go_simp
      exact hK _ _ hG rfl (fun _ _ h => h)
    · refine RF.Step.plain rfl rfl (fun vs wx hG hv hd K hK => ?_)
      have h0 : vs 7 = Value.slice (some ⟨sb, so, none⟩) s.length sc := by first | exact hd.1 | exact hd.2.1 | exact hd.2.2.1 | exact hd.2.2.2.1 | exact hd.2.2.2.2.1
      have h1 : vs 8 = .int .i64 (n : Int) := by first | exact hd.1 | exact hd.2.1 | exact hd.2.2.1 | exact hd.2.2.2.1 | exact hd.2.2.2.2.1
      have esn := HSN.out
      go_simp
      have h4 := hK _ _ hG rfl (fun _ _ h => h)
      first | (simpa only [RF.upd, h0, h1, Nat.reduceEqDiff, if_true, if_false, reduceIte] using h4) | (simp only [RF.upd, h0, h1, Nat.reduceEqDiff, if_true, if_false, reduceIte] at h4 ⊢; exact h4)
    · refine RF.Step.plain rfl rfl (fun vs wx hG hv hd K hK => ?_)
      have h1 : Bs wx Any (vs 6) TL := by first | exact hd.1 | exact hd.2.1 | exact hd.2.2.1 | exact hd.2.2.2.1 | exact hd.2.2.2.2.1
      have h2 : vs 9 = .slice (some ⟨sb, so + n, none⟩) 16 (sc - n) := by first | exact hd.1 | exact hd.2.1 | exact hd.2.2.1 | exact hd.2.2.2.1 | exact hd.2.2.2.2.1
      have HC := Lib.hid (HQ.out (vs 6) _ wx h1 (HS2.out wx hG))
      clear h1
      go_simp
      refine HC.out.mono ?_
      rintro e' w' ⟨rfl, hx⟩
      have h4 := hK _ _ (Ext.trans hG hx) rfl (fun j _ h => FO.no hx j _ h)
      first | (simpa only [RF.upd, h2, Nat.reduceEqDiff, if_true, if_false, reduceIte] using h4) | (simp only [RF.upd, h2, Nat.reduceEqDiff, if_true, if_false, reduceIte] at h4 ⊢; exact h4)
    · refine RF.Step.plain rfl rfl (fun vs wx hG hv hd K hK => ?_)
      have h0 : vs 10 = .bool q := by first | exact hd.1 | exact hd.2.1 | exact hd.2.2.1 | exact hd.2.2.2.1 | exact hd.2.2.2.2.1
      go_simp
      have h4 := hK _ _ hG rfl (fun _ _ h => h)
      first | (simpa only [RF.upd, h0, Nat.reduceEqDiff, if_true, if_false, reduceIte] using h4) | (simp only [RF.upd, h0, Nat.reduceEqDiff, if_true, if_false, reduceIte] at h4 ⊢; exact h4)
  · intro vs wx hG hF
    have HX := Lib.hid hG
    cases q with
    | false =>
      have h11 : vs 11 = .bool true := hF 11 (by decide)
      clear hG hF
      rw [h11]
      go_wp2_with fail
      go_ret2
      exact ⟨_, rfl, Own.nil _ _, HX.out⟩
    | true =>
      have h11 : vs 11 = .bool false := hF 11 (by decide)
      clear hG hF
      rw [h11]
      go_wp2_with (go_at_call 128; refine (HS.out wx HX.out).mono ?_; rintro e1 w1 ⟨v1, rfl, h1, hx1⟩; have HO1 := Lib.hid h1; have HX1 := Lib.hid (HX.out.trans hx1); clear h1 hx1)
      go_ret2
      exact ⟨_, rfl, HO1.out.less HX.out.size, HX1.out⟩
end Go.Proofs.Ytmbbkkonmkbnoaa
namespace Go.Proofs.Ytmbbkkonmkbnoaa
open Go.RowKit Ae Fm
theorem xr_range2 (a b : List UInt8) (h : a.length = b.length) : xr a b = (List.range a.length).map fun i => a.getD i 0 ^^^ b.getD i 0 := by
  apply List.ext_getElem?
  intro i
  unfold xr
  rw [List.getElem?_zipWith, List.getElem?_map]
  by_cases hi : i < a.length
  · have e1 : a.getD i 0 = a[i] := by rw [List.getD_eq_getElem?_getD, List.getElem?_eq_getElem hi]; rfl
    have e2 : b.getD i 0 = b[i]'(by omega) := by rw [List.getD_eq_getElem?_getD, List.getElem?_eq_getElem (by omega)]; rfl
    rw [List.getElem?_range hi, List.getElem?_eq_getElem hi, List.getElem?_eq_getElem (l := b) (by omega), Option.map_some, e1, e2]
  · rw [List.getElem?_eq_none (l := a) (by omega), List.getElem?_eq_none (l := List.range a.length) (by simp; omega)]
    rfl
/-- A byte of a stream. -/
def sby (KK nonce b : List UInt8) (i : Nat) : UInt8 := b.getD i 0 ^^^ (kst KK nonce (2 + i / 16)).getD (i % 16) 0
theorem strK_range (KK nonce b : List UInt8) (hk : KK.length = 240) (k : Nat) : strK KK nonce b k = (List.range (min (16 * k) b.length)).map (sby KK nonce b) := by
  induction k with
  | zero => simp [strK]
  | succ k ih =>
    unfold strK
    have hcl := chk_length b k
    have hkl := kst_length KK nonce (2 + k) hk
    obtain ⟨c, hc⟩ : ∃ c, (chk b k).length = c := ⟨_, rfl⟩
    rw [hc] at hcl
    have hm : min (16 * (k + 1)) b.length = min (16 * k) b.length + c := by omega
    rw [ih, hm, List.range_add, List.map_append, List.map_map, hc, xr_range2 _ _ (by rw [List.length_take, hc, hkl]; omega), hc]
    congr 1
    apply List.map_congr_left
    intro j hj
    have hj : j < c := by simpa using hj
    have h16 : min (16 * k) b.length = 16 * k := by omega
    have e1 : (chk b k).getD j 0 = b.getD (16 * k + j) 0 := by
      unfold chk
      rw [List.getD_eq_getElem?_getD, List.getD_eq_getElem?_getD, List.getElem?_take, if_pos (by omega), List.getElem?_drop]
    have e2 : ((kst KK nonce (2 + k)).take c).getD j 0 = (kst KK nonce (2 + k)).getD j 0 := by
      rw [List.getD_eq_getElem?_getD, List.getD_eq_getElem?_getD, List.getElem?_take, if_pos hj]
    show _ = sby KK nonce b (min (16 * k) b.length + j)
    unfold sby
    rw [e1, e2, h16, show (16 * k + j) / 16 = k by omega, show (16 * k + j) % 16 = j by omega]
theorem strm_range (KK nonce b : List UInt8) (hk : KK.length = 240) : strm KK nonce b = (List.range b.length).map (sby KK nonce b) := by
  unfold strm
  rw [strK_range KK nonce b hk, show min (16 * ((b.length + 15) / 16)) b.length = b.length by omega]
theorem strm_twice (KK nonce b : List UInt8) (hk : KK.length = 240) : strm KK nonce (strm KK nonce b) = b := by
  have hl := strm_length KK nonce b hk
  rw [strm_range KK nonce (strm KK nonce b) hk, hl]
  apply List.ext_getElem?
  intro i
  by_cases hi : i < b.length
  · rw [List.getElem?_map, List.getElem?_range hi, Option.map_some, List.getElem?_eq_getElem hi]
    congr 1
    unfold sby
    rw [strm_range KK nonce b hk, List.getD_eq_getElem?_getD, List.getElem?_map, List.getElem?_range hi, Option.map_some, Option.getD_some]
    unfold sby
    rw [UInt8.xor_assoc, UInt8.xor_self, UInt8.xor_zero, List.getD_eq_getElem?_getD, List.getElem?_eq_getElem hi]
    rfl
  · rw [List.getElem?_eq_none (by simp; omega), List.getElem?_eq_none (by omega)]
end Go.Proofs.Ytmbbkkonmkbnoaa
