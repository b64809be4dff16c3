/- Hex06, Law06, GcmPure, GcmRef, Seals06. -/
import Derived.Test.YtljddghamgjfbaaG6D
import Derived.Test.YtljddghamgjfbaaG6E
import Derived.Test.YtljddghamgjfbaaG6Q
import Derived.Test.YtljddghamgjfbaaG6A
import Derived.Test.YtljddghamgjfbaaG6F
set_option linter.unusedVariables false
set_option linter.unusedSimpArgs false
namespace Go.Proofs.Ytljddghamgjfbaa
open Go.RowKit Go.Deep Go.Proofs.YtljddghamgjfbaaW.PrintWords Ae Fm
abbrev s06 : ByteArray := ⟨#[99, 101, 97, 55, 52, 48, 51, 100, 52, 100, 54, 48, 54, 98, 54, 101, 48, 55, 52, 101, 99, 53, 100, 51, 98, 97, 102, 51, 57, 100, 49, 56, 100, 48, 100, 49, 99, 56, 97, 55, 57, 57, 57, 57, 54, 98, 102, 48, 50, 54, 53, 98, 57, 56, 98, 53, 100, 52, 56, 97, 98, 57, 49, 57]⟩
def z06 (n : Nat) : List UInt8 := List.replicate n 0
def K06 : List UInt8 := kys (z06 32)
def A06 : List UInt8 := sealL K06 (z06 12) (hOf16 K06) [] (z06 16)
theorem hex06 : PGcmSeals.octet_Hex.f 70 (i8 A06) = some s06 := by kernel_rfl
theorem bad06 : decide (tagL K06 (z06 12) (hOf16 K06) [1] (A06.take 16) = A06.drop 16) = false := by kernel_rfl
end Go.Proofs.Ytljddghamgjfbaa
namespace Go.Proofs.Ytljddghamgjfbaa
open Go.RowKit Go.Deep Go.Proofs.YtljddghamgjfbaaW.PrintWords Ae Fm
theorem z06_length (n : Nat) : (z06 n).length = n := by simp [z06]
theorem bs_z06 (W : World) (n : Nat) (hn : n ≤ 1000) : Bs (W.alloc (.cells (u8s (z06 n)).toArray 5)) Any (.slice (some ⟨W.heap.size, 0, none⟩) n n) (z06 n) :=
  (Bs.whole' (Blk.new W _ _) (n := n) (c := n) (z06_length n).symm (Nat.le_refl _) (by unfold maxLen; omega)).any
theorem mk_z06 (n : Nat) (hn : n ≤ 1000) (W : World) : (Instr.makeSlice 27 (.int .i64 (n : Int)) (.int .i64 (n : Int))).run Try.prog W = .ok (.slice (some ⟨W.heap.size, 0, none⟩) n n) (W.alloc (.cells (u8s (z06 n)).toArray 5)) := mk_u8 n (by omega) W
/-- What was sealed is told by its tag. -/
theorem seal_parts (KK nonce : List UInt8) (h : G) (a b : List UInt8) (hk : KK.length = 240) : (sealL KK nonce h a b).length = b.length + 16 ∧ (sealL KK nonce h a b).take ((sealL KK nonce h a b).length - 16) = strm KK nonce b ∧ (sealL KK nonce h a b).drop ((sealL KK nonce h a b).length - 16) = tagL KK nonce h a (strm KK nonce b) := by
  have h1 := strm_length KK nonce b hk
  have h2 := tagL_length KK nonce h a (strm KK nonce b) hk
  have h3 : (sealL KK nonce h a b).length = b.length + 16 := by unfold sealL; rw [List.length_append, h1, h2]
  refine ⟨h3, ?_, ?_⟩
  · rw [h3]; unfold sealL; rw [List.take_append_of_le_length (by omega), List.take_of_length_le (by omega)]
  · rw [h3]; unfold sealL; rw [List.drop_append_of_le_length (by omega), List.drop_of_length_le (by omega), List.nil_append]
theorem lHex6 (v : Value) (l : List UInt8) (k : Nat) (s : ByteArray) (w : World) (h : Bs w Any v l) (hf : PGcmSeals.octet_Hex.f k (i8 l) = some s) : Calls Try.prog 75 #[v] w fun e w' => e = .returned (.string s) ∧ Ext No w w' := by
  obtain ⟨A, c, rfl, -⟩ := h.slice
  obtain ⟨h1, h2, h3⟩ := h.C
  rw [h1]
  refine (PGcmSeals.octet_Hex.calls k A c (i8 l) s w h3 h2 hf).mono ?_
  rintro e w' ⟨rfl, hx⟩
  exact ⟨rfl, Ext.of_below hx⟩
/-- A key, made: what each operation leaves. -/
def FKy (KK : List UInt8) (h : G) (kz : List UInt8) : Nat → Value → World → Prop
  | 0, v, w => ∃ tg, v = pB tg ∧ IsT w tg
  | 1, v, w => Bs w Any v kz
  | 2, v, w => ∃ g gc tg gh, v = .tuple #[pB g, .int .i64 0] ∧ IsG w g gc tg gh KK h
  | 3, v, w => ∃ g gc tg gh, v = .tuple #[pB g, .int .i64 0] ∧ IsG w g gc tg gh KK h
  | 4, v, w => ∃ g gc tg gh, v = pB g ∧ IsG w g gc tg gh KK h
  | 5, v, _ => v = .int .i64 0
  | 6, v, w => ∃ g gc tg gh, v = pB g ∧ IsG w g gc tg gh KK h
  | 7, v, _ => v = .int .i64 0
  | _, _, _ => True
theorem FKy.no {KK : List UInt8} {h : G} {kz : List UInt8} {w w' : World} (hx : Ext No w w') : ∀ j v, FKy KK h kz j v w → FKy KK h kz j v w' := by
  intro j v H
  match j, H with
  | 0, ⟨tg, e, ht⟩ => exact ⟨tg, e, ht.ext_no hx⟩
  | 1, H => exact Bs.ext_no H hx
  | 2, ⟨g, gc, tg, gh, e, hg⟩ => exact ⟨g, gc, tg, gh, e, hg.no hx⟩
  | 3, ⟨g, gc, tg, gh, e, hg⟩ => exact ⟨g, gc, tg, gh, e, hg.no hx⟩
  | 4, ⟨g, gc, tg, gh, e, hg⟩ => exact ⟨g, gc, tg, gh, e, hg.no hx⟩
  | 6, ⟨g, gc, tg, gh, e, hg⟩ => exact ⟨g, gc, tg, gh, e, hg.no hx⟩
  | 5, H => exact H
  | 7, H => exact H
  | m + 8, _ => trivial
/-- A text, sealed: what each operation leaves. -/
def FSl (g : Nat) (n t A : List UInt8) : Nat → Value → World → Prop
  | 0, v, _ => v = pB g
  | 1, v, w => Bs w Any v n
  | 2, v, w => Bs w Any v t
  | 3, v, w => ∃ v', v = .tuple #[v', .int .i64 0] ∧ Bs w Any v' A
  | 4, v, w => ∃ v', v = .tuple #[v', .int .i64 0] ∧ Bs w Any v' A
  | 5, v, w => Bs w Any v A
  | 6, v, _ => v = .int .i64 0
  | 7, v, w => Bs w Any v A
  | 8, v, _ => v = .int .i64 0
  | _, _, _ => True
theorem FSl.no {g : Nat} {n t A : List UInt8} {w w' : World} (hx : Ext No w w') : ∀ j v, FSl g n t A j v w → FSl g n t A j v w' := by
  intro j v H
  match j, H with
  | 0, H => exact H
  | 1, H => exact Bs.ext_no H hx
  | 2, H => exact Bs.ext_no H hx
  | 3, ⟨v', e, hb⟩ => exact ⟨v', e, hb.ext_no hx⟩
  | 4, ⟨v', e, hb⟩ => exact ⟨v', e, hb.ext_no hx⟩
  | 5, H => exact Bs.ext_no H hx
  | 6, H => exact H
  | 7, H => exact Bs.ext_no H hx
  | 8, H => exact H
  | m + 9, _ => trivial
set_option maxRecDepth 100000 in
set_option maxHeartbeats 2000000 in
theorem works06 (w : World) : Calls Try.prog 63 #[] w fun e' w' => e' = .returned (.bool true) ∧ Ext No w w' := by
  have hm32 : ∀ W, (Instr.makeSlice 27 (.int .i64 32) (.int .i64 32)).run Try.prog W = .ok (.slice (some ⟨W.heap.size, 0, none⟩) 32 32) (W.alloc (.cells (u8s (z06 32)).toArray 5)) := mk_z06 32 (by omega)
  have hm12 : ∀ W, (Instr.makeSlice 27 (.int .i64 12) (.int .i64 12)).run Try.prog W = .ok (.slice (some ⟨W.heap.size, 0, none⟩) 12 12) (W.alloc (.cells (u8s (z06 12)).toArray 5)) := mk_z06 12 (by omega)
  have hm16 : ∀ W, (Instr.makeSlice 27 (.int .i64 16) (.int .i64 16)).run Try.prog W = .ok (.slice (some ⟨W.heap.size, 0, none⟩) 16 16) (W.alloc (.cells (u8s (z06 16)).toArray 5)) := mk_z06 16 (by omega)
  have hx1 := hex06
  have hx2 := bad06
  have hkk : K06.length = 240 := kys_length _ (z06_length 32)
  have hsp := seal_parts K06 (z06 12) (hOf16 K06) [] (z06 16) hkk
  have HN := Lib.hid (fun (tg : Nat) (kv : Value) (wx : World) (h : Bs wx Any kv (z06 32)) (ht : IsT wx tg) => gNew_any tg kv (z06 32) wx h (z06_length 32) ht)
  rw [show kys (z06 32) = K06 from rfl] at HN
  rw [show sealL K06 (z06 12) (hOf16 K06) [] (z06 16) = A06 from rfl, z06_length] at hsp
  have hse : sealL K06 (z06 12) (hOf16 K06) [] (z06 16) = A06 := rfl
  obtain ⟨KK, hKK⟩ : ∃ x, K06 = x := ⟨_, rfl⟩
  rw [hKK] at hkk hsp HN hx2 hse
  obtain ⟨h, hh⟩ : ∃ x, hOf16 KK = x := ⟨_, rfl⟩
  rw [hh] at hsp HN hx2 hse
  obtain ⟨z12, hz12⟩ : ∃ x, z06 12 = x := ⟨_, rfl⟩
  obtain ⟨z16, hz16⟩ : ∃ x, z06 16 = x := ⟨_, rfl⟩
  obtain ⟨z32, hz32⟩ : ∃ x, z06 32 = x := ⟨_, rfl⟩
  have h12 : z12.length = 12 := by rw [← hz12]; exact z06_length 12
  have h16 : z16.length = 16 := by rw [← hz16]; exact z06_length 16
  have HZ12 := Lib.hid (fun (W : World) => bs_z06 W 12 (by omega))
  have HZ16 := Lib.hid (fun (W : World) => bs_z06 W 16 (by omega))
  have HZ32 := Lib.hid (fun (W : World) => bs_z06 W 32 (by omega))
  rw [hz12] at hsp hx2 hm12 HZ12 hse
  rw [hz16] at hm16 HZ16 hse hsp
  rw [hz32] at hm32 HZ32 HN
  obtain ⟨A, hA⟩ : ∃ x, A06 = x := ⟨_, rfl⟩
  rw [hA] at hx1 hx2 hsp hse
  have H12 := Lib.hid h12
  have H16 := Lib.hid h16
  have HHEX := Lib.hid hx1
  have HBAD := Lib.hid hx2
  have HSP := Lib.hid hsp
  have HSE := Lib.hid hse
  have HKK := Lib.hid hkk
  clear hx1 hx2 hkk hsp hse hKK hh hz12 hz16 hz32 h12 h16 hA
  go_enter Try.func63, Try.ntmps63
  go_wp2_with fail
  refine RF.region (vs := fun _ => undef) rfl (fun vs => ((Value.bool false) :: (vs 6) :: (vs 7) :: undef :: undef :: undef :: undef :: undef :: undef :: undef :: undef :: (vs 3) :: (vs 0) :: (vs 1) :: (vs 2) :: (vs 4) :: (vs 5) :: undef :: undef :: undef :: undef :: undef :: undef :: undef :: undef :: undef :: undef :: undef :: undef :: undef :: undef :: undef :: undef :: undef :: undef :: undef :: undef :: undef :: undef :: undef :: undef :: undef :: undef :: undef :: undef :: undef :: undef :: undef :: undef :: undef :: undef :: undef :: undef :: undef :: undef :: undef :: undef :: undef :: undef :: undef :: undef :: undef :: undef :: undef :: undef :: undef :: undef :: undef :: undef :: undef :: undef :: undef :: undef :: undef :: []).toArray)
    (FKy KK h z32) (fun _ wz => Ext No w wz) rfl (by kernel_rfl) ?_ ?_ ?_
  · exact (Ext.refl No w).drew
  · refine ⟨⟨⟨⟨⟨⟨⟨⟨trivial, ?_⟩, ?_⟩, ?_⟩, ?_⟩, ?_⟩, ?_⟩, ?_⟩, ?_⟩
    · refine RF.Step.plain rfl rfl (fun vs wx hG hv hd K hK => ?_)
      go_simp
      refine (aBuild_any wx).mono ?_
      rintro e' w' ⟨tg, rfl, hg, ht, hx⟩
      exact hK _ _ (Ext.trans hG hx) ⟨tg, rfl, ht⟩ (fun j _ h => FKy.no hx j _ h)
    · refine RF.Step.plain rfl rfl (fun vs wx hG hv hd K hK => ?_)
      have hm := hm32 wx
      go_simp
      exact hK _ _ (Ext.alloc hG _) (HZ32.out wx) (fun j _ h => FKy.no ((Ext.refl No wx).alloc _) j _ h)
    · refine RF.Step.plain rfl rfl (fun vs wx hG hv hd K hK => ?_)
      obtain ⟨tg, h0, ht⟩ : ∃ tg, vs 0 = pB tg ∧ IsT wx tg := by first | exact hd.1 | exact hd.2.1 | exact hd.2.2.1
      have h1 : Bs wx Any (vs 1) z32 := by first | exact hd.1 | exact hd.2.1 | exact hd.2.2.1
      have HC := Lib.hid (HN.out tg (vs 1) wx h1 ht)
      clear h1 ht
      go_simp
      refine HC.out.mono ?_
      rintro e' w' ⟨g, gc, gh, rfl, hg, hi, hx⟩
      have h4 := hK _ _ (Ext.trans hG hx) ⟨g, gc, tg, gh, rfl, hi⟩ (fun j _ h => FKy.no hx j _ h)
      first | (simpa only [RF.upd, h0, Nat.reduceEqDiff, if_true, if_false, reduceIte] using h4) | (simp only [RF.upd, h0, Nat.reduceEqDiff, if_true, if_false, reduceIte] at h4 ⊢; exact h4)
    · refine RF.Step.plain rfl rfl (fun vs wx hG hv hd K hK => ?_)
      obtain ⟨g, gc, tg, gh, h2, hi⟩ : ∃ g gc tg gh, vs 2 = .tuple #[pB g, .int .i64 0] ∧ IsG wx g gc tg gh KK h := by first | exact hd.1 | exact hd.2.1 | exact hd.2.2.1
      have HI := Lib.hid hi
      clear hi
      go_simp
      have h4 := hK _ _ hG ⟨g, gc, tg, gh, rfl, HI.out⟩ (fun _ _ h => h)
      first | (simpa only [RF.upd, h2, Nat.reduceEqDiff, if_true, if_false, reduceIte] using h4) | (simp only [RF.upd, h2, Nat.reduceEqDiff, if_true, if_false, reduceIte] at h4 ⊢; exact h4)
    · refine RF.Step.plain rfl rfl (fun vs wx hG hv hd K hK => ?_)
      obtain ⟨g, gc, tg, gh, h3, hi⟩ : ∃ g gc tg gh, vs 3 = .tuple #[pB g, .int .i64 0] ∧ IsG wx g gc tg gh KK h := by first | exact hd.1 | exact hd.2.1 | exact hd.2.2.1
      have HI := Lib.hid hi
      clear hi
      go_simp
      have h4 := hK _ _ hG ⟨g, gc, tg, gh, rfl, HI.out⟩ (fun _ _ h => h)
      first | (simpa only [RF.upd, h3, Nat.reduceEqDiff, if_true, if_false, reduceIte] using h4) | (simp only [RF.upd, h3, Nat.reduceEqDiff, if_true, if_false, reduceIte] at h4 ⊢; exact h4)
    · refine RF.Step.plain rfl rfl (fun vs wx hG hv hd K hK => ?_)
      obtain ⟨g, gc, tg, gh, h3, hi⟩ : ∃ g gc tg gh, vs 3 = .tuple #[pB g, .int .i64 0] ∧ IsG wx g gc tg gh KK h := by first | exact hd.1 | exact hd.2.1 | exact hd.2.2.1
      clear hi
      go_simp
      have h4 := hK _ _ hG rfl (fun _ _ h => h)
      first | (simpa only [RF.upd, h3, Nat.reduceEqDiff, if_true, if_false, reduceIte] using h4) | (simp only [RF.upd, h3, Nat.reduceEqDiff, if_true, if_false, reduceIte] at h4 ⊢; exact h4)
    · refine RF.Step.plain rfl rfl (fun vs wx hG hv hd K hK => ?_)
      obtain ⟨g, gc, tg, gh, h3, hi⟩ : ∃ g gc tg gh, vs 4 = pB g ∧ IsG wx g gc tg gh KK h := by first | exact hd.1 | exact hd.2.1 | exact hd.2.2.1
      have HI := Lib.hid hi
      clear hi
      go_simp
      have h4 := hK _ _ hG ⟨g, gc, tg, gh, rfl, HI.out⟩ (fun _ _ h => h)
      first | (simpa only [RF.upd, h3, Nat.reduceEqDiff, if_true, if_false, reduceIte] using h4) | (simp only [RF.upd, h3, Nat.reduceEqDiff, if_true, if_false, reduceIte] at h4 ⊢; exact h4)
    · refine RF.Step.plain rfl rfl (fun vs wx hG hv hd K hK => ?_)
      have h3 : vs 5 = .int .i64 0 := by first | exact hd.1 | exact hd.2.1 | exact hd.2.2.1
      go_simp
      have h4 := hK _ _ hG rfl (fun _ _ h => h)
      first | (simpa only [RF.upd, h3, Nat.reduceEqDiff, if_true, if_false, reduceIte] using h4) | (simp only [RF.upd, h3, Nat.reduceEqDiff, if_true, if_false, reduceIte] at h4 ⊢; exact h4)
  · intro us w1 hG hF
    obtain ⟨g, gc, tg, gh, h6, hi⟩ := hF 6 (by decide)
    have h7 : us 7 = .int .i64 0 := hF 7 (by decide)
    have HG := Lib.hid hi
    have HX := Lib.hid hG
    clear hG hF hi
    rw [h6, h7]
    clear h6 h7
    go_wp2_with (first
      | (go_at_call 44; refine (aBuild_any w1).mono ?_; rintro e2 w2 ⟨tg2, rfl, hg2, ht2, hx2⟩; have HX2 := Lib.hid (HX.out.trans hx2); have HG2 := Lib.hid (HG.out.no hx2); clear ht2 hx2 hg2)
      | (go_at_call 64; refine (gNew_size tg2 (.slice none 0 0) [] w2 (Bs.nil _ _) (by simp)).mono ?_; rintro e3 w3 ⟨rfl, hx3⟩; have HX3 := Lib.hid (HX2.out.trans hx3); have HG3 := Lib.hid (HG2.out.no hx3); clear hx3))
    refine RF.region (vs := fun _ => undef) rfl (fun vs => ((Value.bool false) :: (pB g) :: (Value.int IntKind.i64 0) :: (Value.pointer none) :: (Value.int IntKind.i64 17) :: (vs 7) :: (vs 8) :: undef :: undef :: undef :: undef :: (us 3) :: (us 0) :: (us 1) :: (us 2) :: (us 4) :: (us 5) :: (Value.tuple #[Value.pointer none, Value.int IntKind.i64 17]) :: (pB tg2) :: (Value.tuple #[Value.pointer none, Value.int IntKind.i64 17]) :: (Value.pointer none) :: (Value.int IntKind.i64 17) :: (pB g) :: (Value.bool false) :: (vs 4) :: (vs 0) :: (vs 1) :: (vs 2) :: (vs 3) :: (vs 5) :: (vs 6) :: undef :: undef :: undef :: undef :: undef :: undef :: undef :: undef :: undef :: undef :: undef :: undef :: undef :: undef :: undef :: undef :: undef :: undef :: undef :: undef :: undef :: undef :: undef :: undef :: undef :: undef :: undef :: undef :: undef :: undef :: undef :: undef :: undef :: undef :: undef :: undef :: undef :: undef :: undef :: undef :: undef :: undef :: undef :: []).toArray)
      (FSl g z12 z16 A) (fun _ wz => Ext No w3 wz) rfl (by kernel_rfl) ?_ ?_ ?_
    · exact (Ext.refl No w3).drew
    · refine ⟨⟨⟨⟨⟨⟨⟨⟨⟨trivial, ?_⟩, ?_⟩, ?_⟩, ?_⟩, ?_⟩, ?_⟩, ?_⟩, ?_⟩, ?_⟩
      · refine RF.Step.plain rfl rfl (fun vs wx hG hv hd K hK => ?_)
        go_simp
        exact hK _ _ hG rfl (fun _ _ h => h)
      · refine RF.Step.plain rfl rfl (fun vs wx hG hv hd K hK => ?_)
        have hm := hm12 wx
        go_simp
        exact hK _ _ (Ext.alloc hG _) (HZ12.out wx) (fun j _ h => FSl.no ((Ext.refl No wx).alloc _) j _ h)
      · refine RF.Step.plain rfl rfl (fun vs wx hG hv hd K hK => ?_)
        have hm := hm16 wx
        go_simp
        exact hK _ _ (Ext.alloc hG _) (HZ16.out wx) (fun j _ h => FSl.no ((Ext.refl No wx).alloc _) j _ h)
      · refine RF.Step.plain rfl rfl (fun vs wx hG hv hd K hK => ?_)
        have h0 : vs 0 = pB g := by first | exact hd.1 | exact hd.2.1 | exact hd.2.2.1 | exact hd.2.2.2.1
        have h1 : Bs wx Any (vs 1) z12 := by first | exact hd.1 | exact hd.2.1 | exact hd.2.2.1 | exact hd.2.2.2.1
        have h2 : Bs wx Any (vs 2) z16 := by first | exact hd.1 | exact hd.2.1 | exact hd.2.2.1 | exact hd.2.2.2.1
        have HC := Lib.hid (gSeal_any g gc tg gh KK h (vs 1) (.slice none 0 0) (vs 2) z12 [] z16 wx (HG3.out.no hG) h1 H12.out (Bs.nil _ _) (by simp) h2 (by rw [H16.out]; omega))
        clear h1 h2
        go_simp
        refine HC.out.mono ?_
        rintro e' w' ⟨v', rfl, ho, hx⟩
        rw [HSE.out] at ho
        have h4 := hK _ _ (Ext.trans hG hx) ⟨v', rfl, ho.any⟩ (fun j _ h => FSl.no hx j _ h)
        first | (simpa only [RF.upd, h0, Nat.reduceEqDiff, if_true, if_false, reduceIte] using h4) | (simp only [RF.upd, h0, Nat.reduceEqDiff, if_true, if_false, reduceIte] at h4 ⊢; exact h4)
      · refine RF.Step.plain rfl rfl (fun vs wx hG hv hd K hK => ?_)
        obtain ⟨v', h3, hi⟩ : ∃ v', vs 3 = .tuple #[v', .int .i64 0] ∧ Bs wx Any v' A := by first | exact hd.1 | exact hd.2.1 | exact hd.2.2.1 | exact hd.2.2.2.1
        have HI := Lib.hid hi
        clear hi
        go_simp
        have h4 := hK _ _ hG ⟨v', rfl, HI.out⟩ (fun _ _ h => h)
        first | (simpa only [RF.upd, h3, Nat.reduceEqDiff, if_true, if_false, reduceIte] using h4) | (simp only [RF.upd, h3, Nat.reduceEqDiff, if_true, if_false, reduceIte] at h4 ⊢; exact h4)
      · refine RF.Step.plain rfl rfl (fun vs wx hG hv hd K hK => ?_)
        obtain ⟨v', h3, hi⟩ : ∃ v', vs 4 = .tuple #[v', .int .i64 0] ∧ Bs wx Any v' A := by first | exact hd.1 | exact hd.2.1 | exact hd.2.2.1 | exact hd.2.2.2.1
        have HI := Lib.hid hi
        clear hi
        go_simp
        have h4 := hK _ _ hG HI.out (fun _ _ h => h)
        first | (simpa only [RF.upd, h3, Nat.reduceEqDiff, if_true, if_false, reduceIte] using h4) | (simp only [RF.upd, h3, Nat.reduceEqDiff, if_true, if_false, reduceIte] at h4 ⊢; exact h4)
      · refine RF.Step.plain rfl rfl (fun vs wx hG hv hd K hK => ?_)
        obtain ⟨v', h3, hi⟩ : ∃ v', vs 4 = .tuple #[v', .int .i64 0] ∧ Bs wx Any v' A := by first | exact hd.1 | exact hd.2.1 | exact hd.2.2.1 | exact hd.2.2.2.1
        clear hi
        go_simp
        have h4 := hK _ _ hG rfl (fun _ _ h => h)
        first | (simpa only [RF.upd, h3, Nat.reduceEqDiff, if_true, if_false, reduceIte] using h4) | (simp only [RF.upd, h3, Nat.reduceEqDiff, if_true, if_false, reduceIte] at h4 ⊢; exact h4)
      · refine RF.Step.plain rfl rfl (fun vs wx hG hv hd K hK => ?_)
        have HI := Lib.hid (show Bs wx Any (vs 5) A from by first | exact hd.1 | exact hd.2.1 | exact hd.2.2.1 | exact hd.2.2.2.1)
        go_simp
        exact hK _ _ hG HI.out (fun _ _ h => h)
      · refine RF.Step.plain rfl rfl (fun vs wx hG hv hd K hK => ?_)
        have h3 : vs 6 = .int .i64 0 := by first | exact hd.1 | exact hd.2.1 | exact hd.2.2.1 | exact hd.2.2.2.1
        go_simp
        have h4 := hK _ _ hG rfl (fun _ _ h => h)
        first | (simpa only [RF.upd, h3, Nat.reduceEqDiff, if_true, if_false, reduceIte] using h4) | (simp only [RF.upd, h3, Nat.reduceEqDiff, if_true, if_false, reduceIte] at h4 ⊢; exact h4)
    · intro vs w4 hG hF
      have hA : Bs w4 Any (vs 7) A := hF 7 (by decide)
      have h8 : vs 8 = .int .i64 0 := hF 8 (by decide)
      have HG4 := Lib.hid (HG3.out.no hG)
      have HX4 := Lib.hid (HX3.out.trans hG)
      rw [h8]
      clear hG hF h8
      obtain ⟨v7, hv7⟩ : ∃ v, vs 7 = v := ⟨_, rfl⟩
      rw [hv7] at hA ⊢
      have HA := Lib.hid hA
      obtain ⟨AA, Ac, rfl, -⟩ := hA.slice
      clear hA hv7
      have hAl : A.length = 32 := by rw [HSP.out.1]
      rw [hAl] at HA ⊢
      have HQ1 : Hid (decide (tagL KK z12 h [] (A.take (A.length - 16)) = A.drop (A.length - 16)) = true) := Lib.hid (by rw [HSP.out.2.1, HSP.out.2.2]; simp)
      have HQ2 : Hid (decide (tagL KK z12 h [1] (A.take (A.length - 16)) = A.drop (A.length - 16)) = false) := Lib.hid (by rw [hAl]; exact HBAD.out)
      have HOL : Hid (strm KK z12 (A.take (A.length - 16)) = strm KK z12 (strm KK z12 z16)) := Lib.hid (by rw [HSP.out.2.1])
      have HAL := Lib.hid hAl
      have HO1 := Lib.hid (fun (nv : Value) (wx : World) (hx : Ext No w4 wx) (hn : Bs wx Any nv z12) => gOpen_any g gc tg gh KK h nv (.slice none 0 0) (.slice AA 32 Ac) z12 [] A wx (HG4.out.no hx) hn H12.out (Bs.nil _ _) (by simp) (HA.out.ext_no hx) (by rw [HAL.out]; omega) (by rw [HAL.out]; omega) true HQ1.out)
      have HO2 := Lib.hid (fun (nv bv : Value) (wx : World) (hx : Ext No w4 wx) (hn : Bs wx Any nv z12) (hb : Bs wx Any bv [1]) => gOpen_any g gc tg gh KK h nv bv (.slice AA 32 Ac) z12 [1] A wx (HG4.out.no hx) hn H12.out hb (by simp) (HA.out.ext_no hx) (by rw [HAL.out]; omega) (by rw [HAL.out]; omega) false HQ2.out)
      simp only [if_pos] at HO1
      simp only [Bool.false_eq_true, if_false] at HO2
      have HLL : Hid ((strm KK z12 (A.take (A.length - 16))).length = 16) := Lib.hid (by rw [strm_length _ _ _ HKK.out, List.length_take, HAL.out]; rfl)
      obtain ⟨OL, hOL⟩ : ∃ x, strm KK z12 (A.take (A.length - 16)) = x := ⟨_, rfl⟩
      rw [hOL] at HO1 HLL
      clear hAl hOL HOL HQ1 HQ2
      go_wp2_with (first
        | (go_at_call 69; (with_reducible refine (HO1.out _ _ ((Ext.refl No w4).alloc _) (HZ12.out w4)).mono ?_); rintro e5 w5 ⟨v5, rfl, ho5, hx5⟩; have HO5 := Lib.hid ho5; obtain ⟨A5, c5, rfl, -⟩ := ho5.slice; rw [HLL.out]; have HX5 := Lib.hid (((Ext.refl No w4).alloc _).trans hx5); clear ho5 hx5)
        | (go_at_call 69; (with_reducible refine (HO2.out _ _ _ ((HX5.out.alloc _).alloc _) ((HZ12.out w5).ext_no ((Ext.refl No _).alloc _)) (bs_lit1' (w5.alloc _) 1 1 rfl).any).mono ?_); rintro e6 w6 ⟨v6, rfl, ho6, hx6⟩; have HX6 := Lib.hid (((HX5.out.alloc _).alloc _).trans hx6); clear ho6 hx6)
        | (go_at_call 75; refine (lHex6 _ A 70 s06 w6 (HA.out.ext_no HX6.out) HHEX.out).mono ?_; rintro e7 w7 ⟨rfl, hx7⟩; have HX7 := Lib.hid (HX6.out.trans hx7); clear hx7))
      go_ret
      exact ⟨rfl, HX4.out.trans HX7.out⟩
end Go.Proofs.Ytljddghamgjfbaa
namespace Go.Proofs.Ytljddghamgjfbaa
open Go.RowKit Go.Proofs.YtljddghamgjfbaaW.PrintWords Go.Proofs.YtljddghamgjfbaaW.PrintLast Go.Proofs.YtljddghamgjfbaaW.PrintMore PGcmSeals Ae Fm Rt
namespace Gr
theorem u64n (n : Nat) (h : n < 18446744073709551616) : IntKind.u64.wrap (n : Int) = (n : Int) := by rw [IntKind.wrap_u64]; omega
theorem put_f (s : Nat) : ∀ (n k : Nat), n < 18446744073709551616 → s ≤ 1000 → s + 1 ≤ k → deedboxref01_Put.f k (n : Int) (s : Int) = some (i8 (putL n s)) := by
  induction s with
  | zero =>
    intro n k hn hs hk
    obtain ⟨m, rfl⟩ : ∃ m, k = m + 1 := ⟨k - 1, by omega⟩
    simp only [deedboxref01_Put.f]
    rw [if_pos (by omega)]
    rfl
  | succ s ih =>
    intro n k hn hs hk
    obtain ⟨m, rfl⟩ : ∃ m, k = m + 1 := ⟨k - 1, by omega⟩
    simp only [deedboxref01_Put.f]
    have e1 : IntKind.u64.wrap (Int.tdiv (n : Int) 256) = ((n / 256 : Nat) : Int) := by rw [IntKind.wrap_u64, Int.tdiv_eq_ediv_of_nonneg (by omega)]; omega
    have e2 : wrap64 (((s + 1 : Nat) : Int) - 1) = (s : Int) := by unfold wrap64; omega
    have e3 : (Int.tmod (n : Int) 256) % 256 = ((UInt8.ofNat (n % 256)).toNat : Int) := by rw [← byte_cast, Int.tmod_eq_emod_of_nonneg (by omega)]; omega
    rw [if_neg (by omega), e1, e2, ih (n / 256) m (by omega) (by omega) (by omega), Option.bind_some, if_pos (by rw [i8_length, putL_length]; omega), e3]
    show _ = some (i8 (putL (n / 256) s ++ [UInt8.ofNat (n % 256)]))
    rw [i8_append]
    rfl
theorem w_id (q : Nat) (h : q < 1000000) : wrap64 (q : Int) = (q : Int) := by unfold wrap64; omega
theorem w_q (q : Nat) (h : q < 100000) : wrap64 (2 + wrap64 (Int.tdiv ((16 * q : Nat) : Int) 16)) = ((2 + q : Nat) : Int) := by
  rw [Int.tdiv_eq_ediv_of_nonneg (by omega), show ((16 * q : Nat) : Int) / 16 = (q : Int) by omega, w_id q (by omega), show (2 : Int) + (q : Int) = ((2 + q : Nat) : Int) by omega, w_id _ (by omega)]
theorem same_all (l m : List UInt8) (h : l.length = m.length) (hs : l.length ≤ 100000) (r : Nat) : ∀ i k, i + r = l.length → r + 1 ≤ k → deedboxref01_Same.l0 k (i8 l) (i8 m) (i : Int) = some (decide (l.drop i = m.drop i)) := by
  induction r with
  | zero =>
    intro i k hi hk
    obtain ⟨q, rfl⟩ : ∃ q, k = q + 1 := ⟨k - 1, by omega⟩
    simp only [deedboxref01_Same.l0]
    rw [if_neg (by rw [i8_length]; omega), List.drop_of_length_le (by omega), List.drop_of_length_le (by omega)]
    simp
  | succ r ih =>
    intro i k hi hk
    obtain ⟨q, rfl⟩ : ∃ q, k = q + 1 := ⟨k - 1, by omega⟩
    simp only [deedboxref01_Same.l0]
    have hl : i < l.length := by omega
    have hm : i < m.length := by omega
    have e1 : l.drop i = l[i] :: l.drop (i + 1) := List.drop_eq_getElem_cons hl
    have e2 : m.drop i = m[i] :: m.drop (i + 1) := List.drop_eq_getElem_cons hm
    rw [if_pos (by rw [i8_length]; omega), if_pos (by omega), if_pos (by rw [i8_length]; omega), rd_i8 hl, rd_i8 hm, w1 (by omega), ih (i + 1) q (by omega) (by omega), e1, e2]
    by_cases e : l[i] = m[i]
    · rw [if_pos (by rw [e]), e]
      congr 1
      rw [decide_eq_decide, List.cons.injEq]
      exact ⟨fun h => ⟨rfl, h⟩, fun h => h.2⟩
    · rw [if_neg (fun h => e (UInt8.toNat_inj.1 (by omega)))]
      congr 1
      symm
      rw [decide_eq_false_iff_not]
      intro hc
      exact e (List.cons.inj hc).1
theorem same_f (l m : List UInt8) (hs : l.length ≤ 100000) (k : Nat) (hk : l.length + 1 ≤ k) : deedboxref01_Same.f k (i8 l) (i8 m) = some (decide (l = m)) := by
  unfold deedboxref01_Same.f
  rw [i8_length, i8_length]
  by_cases h : l.length = m.length
  · rw [if_pos (by omega)]
    have := same_all l m h hs l.length 0 k (by omega) hk
    simpa using this
  · rw [if_neg (by omega), decide_eq_false (fun e => h (by rw [e]))]
theorem xorL_xr (l m : List UInt8) (hl : l.length = 16) (hm : m.length = 16) : xorL l m 16 = xr l m := by
  rw [Ar.xr_range l m (by omega), hl]
  unfold xorL
  apply List.map_congr_left
  intro i _
  rw [List.getD_eq_getElem?_getD, List.getD_eq_getElem?_getD]
theorem xor_k (l m : List UInt8) (hl : l.length = 16) (hm : m.length = 16) (k : Nat) (hk : 17 ≤ k) : deedboxref01_Xor.f k (i8 l) (i8 m) = some (i8 (xr l m)) := by
  have := xor_all l m hl hm 16 0 k (by omega) (by omega)
  rw [xorL_xr l m hl hm] at this
  exact this
section
variable (WL : List (List UInt8)) (h60 : WL.length = 60) (h4 : ∀ x ∈ WL, x.length = 4) (KK : List UInt8) (hKK : WL.flatten = KK) (HB : List Bool) (nonce : List UInt8) (hn : nonce.length = 12)
include h60 h4 hKK hn
theorem counter_f (n : Nat) (hnn : n < 4294967296) (k : Nat) (hk : 200 ≤ k) : deedboxref06_counter.f k (i8 Ar.bxs) (WL.map i8) HB (i8 nonce) (n : Int) = some (i8 (enc KK (nonce ++ putL n 4))) := by
  unfold deedboxref06_counter.f
  have hp := put_f 4 n k (by omega) (by omega) (by omega)
  rw [show ((4 : Nat) : Int) = 4 from rfl] at hp
  rw [if_pos (by rw [i8_length]; simp; omega), Option.bind_some, u64n n (by omega), hp, Option.bind_some, if_pos (by rw [i8_length, putL_length, List.nil_append, i8_length]; omega), List.nil_append, ← i8_append, Ar.block_f WL h60 h4 KK hKK _ (by rw [List.length_append, putL_length, hn]) k hk, Option.bind_some]
omit h60 h4 hKK hn in
theorem l1_f (b : List UInt8) (hb : b.length ≤ 100000) (q : Nat) (E : List UInt8) (hE : E.length = 16) (acc : List Int) (ha : acc.length ≤ 16 * q) (hq : 16 * q < b.length) (m : Nat) :
    deedboxref06_stream.l1 ((chk b q).length + 1 + m) (i8 nonce) (i8 b) acc ((16 * q : Nat) : Int) (i8 E) ((16 * q : Nat) : Int) (i8 Ar.bxs) (WL.map i8) HB = deedboxref06_stream.l0 m (i8 nonce) (i8 b) (acc ++ i8 (xr (chk b q) (E.take (chk b q).length))) ((16 * (q + 1) : Nat) : Int) (i8 Ar.bxs) (WL.map i8) HB := by
  have hcl := chk_length b q
  obtain ⟨c, hc⟩ : ∃ c, (chk b q).length = c := ⟨_, rfl⟩
  rw [hc] at hcl ⊢
  have := Ar.appl (F := fun k acc (j : Int) => deedboxref06_stream.l1 k (i8 nonce) (i8 b) acc ((16 * q : Nat) : Int) (i8 E) (((16 * q : Nat) : Int) + j) (i8 Ar.bxs) (WL.map i8) HB)
    (R := fun k acc => deedboxref06_stream.l0 k (i8 nonce) (i8 b) acc ((16 * (q + 1) : Nat) : Int) (i8 Ar.bxs) (WL.map i8) HB) c 1 (16 * q) 0 (fun j => [((b.getD (16 * q + j) 0 ^^^ E.getD j 0).toNat : Int)]) (fun _ _ => Nat.le_refl _)
    (fun k acc j _ hj ha => by
      show deedboxref06_stream.l1 (k + 1) _ _ _ _ _ _ _ _ _ = deedboxref06_stream.l1 k _ _ (acc ++ [((b.getD (16 * q + j) 0 ^^^ E.getD j 0).toNat : Int)]) _ _ _ _ _ _
      simp only [deedboxref06_stream.l1]
      have e1 : wrap64 (((16 * q : Nat) : Int) + 16) = ((16 * q + 16 : Nat) : Int) := by unfold wrap64; omega
      have e2 : (((16 * q : Nat) : Int) + (j : Int)) = ((16 * q + j : Nat) : Int) := by omega
      have e3 : wrap64 (((16 * q + j : Nat) : Int) - ((16 * q : Nat) : Int)) = (j : Int) := by unfold wrap64; omega
      rw [e1, e2, e3, i8_length, i8_length, if_pos (by omega), if_pos (by omega), if_pos (by omega), if_pos (by omega), if_pos (by omega), if_pos (by omega), Ar.rd_g b _ (by omega), Ar.rd_g E _ (by omega), Ar.xor_i, w1 (by omega)]
      rw [show (((16 * q : Nat) : Int) + ((j + 1 : Nat) : Int)) = ((16 * q + j + 1 : Nat) : Int) by omega])
    (fun k acc _ => by
      show deedboxref06_stream.l1 (k + 1) _ _ _ _ _ _ _ _ _ = deedboxref06_stream.l0 k _ _ _ _ _ _ _
      simp only [deedboxref06_stream.l1]
      have e1 : wrap64 (((16 * q : Nat) : Int) + 16) = ((16 * (q + 1) : Nat) : Int) := by unfold wrap64; omega
      rw [e1, i8_length]
      by_cases h16 : c = 16
      · rw [if_neg (by omega)]
      · rw [if_pos (by omega), if_neg (by omega)]) c 0 m acc (by omega) (by omega) (by omega)
  have e0 : (((16 * q : Nat) : Int) + ((0 : Nat) : Int)) = ((16 * q : Nat) : Int) := by omega
  simp only [e0] at this
  rw [this, Ar.flat_one, ← List.range_eq_range']
  congr 2
  rw [Ar.xr_range _ _ (by rw [List.length_take, hc, hE]; omega), hc]
  congr 1
  apply List.map_congr_left
  intro j hj
  have hj : j < c := by simpa using hj
  have e1 : (chk b q).getD j 0 = b.getD (16 * q + j) 0 := by
    unfold chk
    rw [List.getD_eq_getElem?_getD, List.getD_eq_getElem?_getD, List.getElem?_take, if_pos (by omega), List.getElem?_drop]
  have e2 : (E.take c).getD j 0 = E.getD j 0 := by
    rw [List.getD_eq_getElem?_getD, List.getD_eq_getElem?_getD, List.getElem?_take, if_pos hj]
  rw [e1, e2]
theorem l0_f (b : List UInt8) (hb : b.length ≤ 100000) (r : Nat) : ∀ q k, q + r = (b.length + 15) / 16 → 200 + 20 * (r + 1) ≤ k →
    deedboxref06_stream.l0 k (i8 nonce) (i8 b) (i8 (strK KK nonce b q)) ((16 * q : Nat) : Int) (i8 Ar.bxs) (WL.map i8) HB = some (i8 (strm KK nonce b)) := by
  induction r with
  | zero =>
    intro q k hq hk
    obtain ⟨m, rfl⟩ : ∃ m, k = m + 1 := ⟨k - 1, by omega⟩
    simp only [deedboxref06_stream.l0]
    rw [i8_length, if_neg (by omega)]
    unfold strm
    rw [← hq, Nat.add_zero]
  | succ r ih =>
    intro q k hq hk
    have hkl : KK.length = 240 := by rw [← hKK, flat4 _ h4, h60]
    have hlt : 16 * q < b.length := by omega
    have hcl := chk_length b q
    obtain ⟨c, hc⟩ : ∃ c, (chk b q).length = c := ⟨_, rfl⟩
    obtain ⟨m, hm⟩ : ∃ m, k = (c + 1 + m) + 1 := ⟨k - (c + 1) - 1, by omega⟩
    have e2 := counter_f WL h60 h4 KK hKK HB nonce hn (2 + q) (by omega) (c + 1 + m) (by omega)
    have e3 := l1_f WL HB nonce b hb q (enc KK (nonce ++ putL (2 + q) 4)) (enc_length KK _ hkl) (i8 (strK KK nonce b q)) (by rw [i8_length, strK_length _ _ _ hkl]; omega) hlt m
    rw [hc] at e3
    have e4 : strK KK nonce b (q + 1) = strK KK nonce b q ++ xr (chk b q) ((kst KK nonce (2 + q)).take c) := by rw [← hc]; rfl
    have e5 := ih (q + 1) m (by omega) (by omega)
    rw [e4, i8_append] at e5
    have hlt' : ((16 * q : Nat) : Int) < (b.length : Int) := by omega
    subst hm
    have e1 := w_q q (by omega)
    simp only [deedboxref06_stream.l0]
    rw [i8_length, if_pos hlt', e1, e2, Option.bind_some, e3]
    exact e5
theorem stream_f (b : List UInt8) (hb : b.length ≤ 100000) (k : Nat) (hk : 200 + 20 * ((b.length + 15) / 16 + 1) ≤ k) : deedboxref06_stream.f k (i8 Ar.bxs) (WL.map i8) HB (i8 nonce) (i8 b) = some (i8 (strm KK nonce b)) := by
  unfold deedboxref06_stream.f
  exact l0_f WL h60 h4 KK hKK HB nonce hn b hb ((b.length + 15) / 16) 0 k (by omega) hk
omit h60 h4 hKK hn in
theorem bl_zero : List.replicate 128 false = bl 0#128 := by
  rw [rep_rw]; exact rw_congr (fun i hi => by simp)
theorem tag_f (h : G) (a b : List UInt8) (ha : a.length ≤ 300) (hb : b.length ≤ 300) (k : Nat) (hk : 50000 ≤ k) : deedboxref06_Tag.f k (i8 Ar.bxs) (WL.map i8) (bl h) (i8 nonce) (i8 a) (i8 b) = some (i8 (tagL KK nonce h a b)) := by
  have hkl : KK.length = 240 := by rw [← hKK, flat4 _ h4, h60]
  unfold deedboxref06_Tag.f
  have hp1 := put_f 8 (8 * a.length) k (by omega) (by omega) (by omega)
  have hp2 := put_f 8 (8 * b.length) k (by omega) (by omega) (by omega)
  have e1 : IntKind.u64.wrap (8 * IntKind.u64.wrap (a.length : Int)) = ((8 * a.length : Nat) : Int) := by rw [IntKind.wrap_u64, IntKind.wrap_u64]; omega
  have e2 : IntKind.u64.wrap (8 * IntKind.u64.wrap (b.length : Int)) = ((8 * b.length : Nat) : Int) := by rw [IntKind.wrap_u64, IntKind.wrap_u64]; omega
  have hc := counter_f WL h60 h4 KK hKK (bl h) nonce hn 1 (by omega) k (by omega)
  rw [show ((8 : Nat) : Int) = 8 from rfl] at hp1 hp2
  rw [show ((1 : Nat) : Int) = 1 from rfl] at hc
  rw [if_pos (by omega), bl_zero, hash_bl h _ a ha k (by omega), Option.bind_some, hash_bl h _ b hb k (by omega), Option.bind_some, i8_length, i8_length, e1, hp1, Option.bind_some, e2, hp2, Option.bind_some, if_pos (by rw [i8_length, i8_length, putL_length, putL_length]; omega), ← i8_append,
    hash_bl h _ _ (by rw [List.length_append, putL_length, putL_length]; omega) k (by omega), Option.bind_some, bytes_bl _ k (by omega), Option.bind_some, hc, Option.bind_some,
    xor_k _ _ (by unfold elB; rw [List.length_append, putL_length, putL_length]) (enc_length KK _ hkl) k (by omega), Option.bind_some]
  rfl
omit hn in
theorem seal_f (h : G) (a b : List UInt8) (ha : a.length ≤ 300) (hb : b.length ≤ 300) (k : Nat) (hk : 50000 ≤ k) :
    deedboxref06_Seal.f k (i8 Ar.bxs) (WL.map i8) (bl h) (i8 nonce) (i8 a) (i8 b) = some (if nonce.length = 12 then (i8 (sealL KK nonce h a b), 0) else ([], 17)) := by
  have hkl : KK.length = 240 := by rw [← hKK, flat4 _ h4, h60]
  unfold deedboxref06_Seal.f
  rw [i8_length]
  by_cases hn : nonce.length = 12
  · have hsl := strm_length KK nonce b hkl
    rw [if_pos (by omega), if_pos hn, stream_f WL h60 h4 KK hKK (bl h) nonce hn b (by omega) k (by omega), Option.bind_some, tag_f WL h60 h4 KK hKK nonce hn h a _ ha (by omega) k hk, Option.bind_some, if_pos (by rw [i8_length, i8_length, hsl, tagL_length _ _ _ _ _ hkl]; omega), ← i8_append]
    rfl
  · rw [if_neg (by omega), if_neg hn]
end
end Gr
end Go.Proofs.Ytljddghamgjfbaa
namespace Go.Proofs.Ytljddghamgjfbaa
open Go.RowKit Go.Deep Go.Proofs.YtljddghamgjfbaaW.PrintWords Go.Proofs.YtljddghamgjfbaaW.PrintLast Go.Proofs.YtljddghamgjfbaaW.PrintMore Ae Fm Rt
theorem rBoxes6_any (w : World) : Calls Try.prog 51 #[] w fun e w' => ∃ v', e = .returned v' ∧ Own w' w.heap.size v' Ar.bxs ∧ Ext No w w' := by
  refine (PGcmSeals.deedboxref04_Boxes.calls 600 (i8 Ar.bxs) w (Ar.boxes_f 600 (by omega))).mono ?_
  rintro e w' ⟨v', rfl, hr, hb⟩
  exact ⟨v', rfl, Own.of_R hr, Ext.of_below hb⟩
theorem Parts.C {w : World} {F : Nat → Prop} {A : Option Addr} {n c : Nat} {ls : List (List UInt8)} (h : Parts w F (.slice A n c) ls) : n = (ls.map i8).length ∧ (ls.map i8).length ≤ c ∧ Kd.C (Kd.slice 5 (Kd.int .u8)) w A (ls.map i8).length (ls.map i8) := by
  obtain ⟨A', c', e, h2, h3, b, off, hh⟩ := h.slice
  injection e with e1 e2 e3
  subst e1 e3
  rw [List.length_map]
  refine ⟨e2, h2, by rw [List.length_map], by unfold maxLen at h3; omega, fun h0 => ?_⟩
  refine ⟨⟨b, off, none⟩, (hh 0 h0).choose_spec.choose_spec.1, fun j p hp => ?_⟩
  have hj : j < ls.length := by have := (List.getElem?_eq_some_iff.1 hp).1; rwa [List.length_map] at this
  rw [List.getElem?_map, List.getElem?_eq_getElem hj] at hp
  injection hp with hp
  subst hp
  obtain ⟨A2, c2, _, _, hcell, hb⟩ := hh j hj
  obtain ⟨a1, a2, a3⟩ := hb.C
  refine ⟨[.slice A2 ls[j].length c2], rfl, ⟨A2, c2, by rw [i8_length], a2, a3⟩, fun i u hu => ?_⟩
  cases i with
  | zero =>
    have : Value.slice A2 ls[j].length c2 = u := by simpa using hu
    subst this
    rw [show (⟨b, off, none⟩ : Addr).add (j * (Kd.slice 5 (Kd.int .u8)).sz + 0) = ⟨b, off + j, none⟩ by show Addr.add _ (j * 1 + 0) = _; unfold Addr.add; split <;> simp_all]
    exact hcell
  | succ i => simp at hu
theorem rBlock6_any (bv wv xv : Value) (WL : List (List UInt8)) (h60 : WL.length = 60) (h4 : ∀ x ∈ WL, x.length = 4) (KK : List UInt8) (hKK : WL.flatten = KK) (b : List UInt8) (hb : b.length = 16) (w : World) (h1 : Bs w Any bv Ar.bxs) (h2 : Parts w Any wv WL) (h3 : Bs w Any xv b) :
    Calls Try.prog 52 #[bv, wv, xv] w fun e w' => ∃ v', e = .returned v' ∧ Own w' w.heap.size v' (enc KK b) ∧ Ext No w w' := by
  obtain ⟨A1, c1, rfl, -⟩ := h1.slice
  obtain ⟨A2, c2, rfl, -⟩ := h2.slice
  obtain ⟨A3, c3, rfl, -⟩ := h3.slice
  obtain ⟨a1, a2, a3⟩ := h1.C
  obtain ⟨b1, b2, b3⟩ := h2.C
  obtain ⟨d1, d2, d3⟩ := h3.C
  rw [a1, b1, d1]
  refine (PGcmSeals.deedboxref04_Block.calls 200 A1 c1 (i8 Ar.bxs) A2 c2 (WL.map i8) A3 c3 (i8 b) (i8 (enc KK b)) w a3 a2 b3 b2 d3 d2 (Ar.block_f WL h60 h4 KK hKK b hb 200 (by omega))).mono ?_
  rintro e w' ⟨v', rfl, hr, hb⟩
  exact ⟨v', rfl, Own.of_R hr, Ext.of_below hb⟩
/-- A row of bits in new memory. -/
def RBn (w : World) (b : Nat) (v : Value) (L : List Bool) : Prop := Kd.V Kd.bool 4 w 0 (fun k => b ≤ k) v L
theorem RBn.rb {w : World} {b : Nat} {v : Value} {L : List Bool} (h : RBn w b v L) : RB w v L := Kd.V_mono h (fun _ _ => trivial)
theorem RBn.ext {S : Nat → Prop} {w w' : World} {b : Nat} {v : Value} {L : List Bool} (h : RBn w b v L) (hx : Ext S w w') (hS : ∀ k, b ≤ k → ¬ S k) : RBn w' b v L := Kd.V_step h (fun k hb hk => hx.block k hk (hS k hb))
theorem rBits6_any (v : Value) (l : List UInt8) (w : World) (h : Bs w Any v l) : Calls Try.prog 25 #[v] w fun e w' => ∃ v', e = .returned v' ∧ RBn w' w.heap.size v' (bl (elL l)) ∧ Ext No w w' := by
  obtain ⟨A, c, rfl, _⟩ := h.slice
  obtain ⟨h1, h2, h3⟩ := h.C
  rw [h1]
  refine (PGcmSeals.deedboxref05_Bits.calls 200 A c (i8 l) (bl (elL l)) w h3 h2 (bits_bl l 200 (by omega))).mono ?_
  rintro e w' ⟨v', rfl, hr, hb⟩
  exact ⟨v', rfl, Kd.V_mono (Kd.R_V (Kd.R_bound hr)) (fun _ h => h.2.1), Ext.of_below hb⟩
/-- A key of the reference. -/
def RKey (w : World) (v : Value) (WL : List (List UInt8)) (h : G) : Prop := ∃ bv wv hv, v = .agg #[bv, wv, hv] ∧ Bs w Any bv Ar.bxs ∧ Parts w Any wv WL ∧ RB w hv (bl h)
theorem RKey.no {w w' : World} {v : Value} {WL : List (List UInt8)} {h : G} (H : RKey w v WL h) (hx : Ext No w w') : RKey w' v WL h := by
  obtain ⟨bv, wv, hv, e, h1, h2, h3⟩ := H
  exact ⟨bv, wv, hv, e, h1.ext_no hx, h2.ext_no hx, h3.no hx⟩
theorem rSeal_any (kv nv av tv : Value) (WL : List (List UInt8)) (h60 : WL.length = 60) (h4 : ∀ x ∈ WL, x.length = 4) (KK : List UInt8) (hKK : WL.flatten = KK) (h : G) (nonce a b : List UInt8) (w : World) (hk : RKey w kv WL h) (hn : Bs w Any nv nonce) (ha : Bs w Any av a) (hal : a.length ≤ 300) (hb : Bs w Any tv b) (hbl : b.length ≤ 300) :
    Calls Try.prog 67 #[kv, nv, av, tv] w fun e w' => ∃ v', e = .returned (.tuple #[v', .int .i64 (if nonce.length = 12 then 0 else 17)]) ∧ Own w' w.heap.size v' (if nonce.length = 12 then sealL KK nonce h a b else []) ∧ Ext No w w' := by
  obtain ⟨bv, wv, hv, rfl, h1, h2, h3⟩ := hk
  obtain ⟨A1, c1, rfl, -⟩ := h1.slice
  obtain ⟨A2, c2, rfl, -⟩ := h2.slice
  obtain ⟨A3, c3, rfl⟩ := Kd.V_slice h3
  obtain ⟨_, hc3, hC3⟩ := Kd.V_reads' h3
  obtain ⟨A4, c4, rfl, -⟩ := hn.slice
  obtain ⟨A5, c5, rfl, -⟩ := ha.slice
  obtain ⟨A6, c6, rfl, -⟩ := hb.slice
  obtain ⟨a1, a2, a3⟩ := h1.C
  obtain ⟨b1, b2, b3⟩ := h2.C
  obtain ⟨d1, d2, d3⟩ := hn.C
  obtain ⟨e1, e2, e3⟩ := ha.C
  obtain ⟨f1, f2, f3⟩ := hb.C
  have hf := Gr.seal_f WL h60 h4 KK hKK nonce h a b hal hbl 50000 (Nat.le_refl _)
  obtain ⟨R, hR⟩ : ∃ x, (if nonce.length = 12 then sealL KK nonce h a b else []) = x := ⟨_, rfl⟩
  obtain ⟨C, hC⟩ : ∃ x : Int, (if nonce.length = 12 then 0 else 17) = x := ⟨_, rfl⟩
  have hf' : PGcmSeals.deedboxref06_Seal.f 50000 (i8 Ar.bxs) (WL.map i8) (bl h) (i8 nonce) (i8 a) (i8 b) = some (i8 R, C) := by
    rw [hf, ← hR, ← hC]
    by_cases hn : nonce.length = 12
    · simp only [if_pos hn]
    · simp only [if_neg hn]; rfl
  rw [hR, hC, a1, b1, d1, e1, f1]
  refine (PGcmSeals.deedboxref06_Seal.calls 50000 A1 c1 (i8 Ar.bxs) A2 c2 (WL.map i8) A3 c3 (bl h) A4 c4 (i8 nonce) A5 c5 (i8 a) A6 c6 (i8 b) (i8 R) C w a3 a2 b3 b2 hC3 hc3 d3 d2 e3 e2 f3 f2 hf').mono ?_
  rintro e w' ⟨v', rfl, hr, hb⟩
  exact ⟨v', rfl, Own.of_R hr, Ext.of_below hb⟩
/-- Bytes don't lie in a block of slices. -/
theorem Bs.ne3 {w : World} {F : Nat → Prop} {v : Value} {l : List UInt8} (h : Bs w F v l) (hl : 0 < l.length) {g : Nat} {t : TypeId} {A1 A2 A3 : Option Addr} {n1 n2 n3 c1 c2 c3 : Nat} (hb : Blk w g t #[.slice A1 n1 c1, .slice A2 n2 c2, .slice A3 n3 c3]) : Bs w (fun b => b ≠ g) v l := by
  obtain ⟨h1, A, c, hv, hc, hm, hn⟩ := h
  refine ⟨h1, A, c, hv, hc, hm, fun h0 => ?_⟩
  obtain ⟨b, off, hA, _, hcell⟩ := hn h0
  refine ⟨b, off, hA, ?_, hcell⟩
  rintro rfl
  have h1 := hcell 0 _ (u8s_get h0)
  rw [hb.cell (off + 0)] at h1
  match off, h1 with
  | 0, h1 => simp at h1
  | 1, h1 => simp at h1
  | 2, h1 => simp at h1
  | m + 3, h1 => simp at h1
theorem Parts.ne3 {w : World} {F : Nat → Prop} {v : Value} {ls : List (List UInt8)} (h : Parts w F v ls) (hl : 3 < ls.length) (hr : ∀ x ∈ ls, x.length = 4) {g : Nat} {t : TypeId} {A1 A2 A3 : Option Addr} {n1 n2 n3 c1 c2 c3 : Nat} (hb : Blk w g t #[.slice A1 n1 c1, .slice A2 n2 c2, .slice A3 n3 c3]) : Parts w (fun b => b ≠ g) v ls := by
  obtain ⟨vs, ⟨h1, A, c, hv, hc, hm, hn⟩, hrow⟩ := h
  refine ⟨vs, ⟨h1, A, c, hv, hc, hm, fun h0 => ?_⟩, fun i hi => ?_⟩
  · obtain ⟨b, off, hA, _, hcell⟩ := hn h0
    refine ⟨b, off, hA, ?_, hcell⟩
    rintro rfl
    obtain ⟨u, hu, _⟩ := hrow 3 hl
    have h1 := hcell 3 _ hu
    rw [hb.cell (off + 3)] at h1
    simp at h1
  · obtain ⟨u, hu, hbs⟩ := hrow i hi
    exact ⟨u, hu, hbs.ne3 (by rw [hr _ (List.getElem_mem hi)]; omega) hb⟩
/-- .. and the world: the key's block; its bits, once they are stored. -/
def GR (w0 : World) (g3 : Nat) (bv wv : Value) (L : List Bool) (v8 : Value) (w : World) : Prop :=
  Ext (One g3) w0 w ∧ ∃ u, Blk w g3 87 #[bv, wv, u] ∧ (v8 = undef → ∃ b, g3 < b ∧ RBn w b u L)
theorem GR.no {w0 w w' : World} {g3 : Nat} {bv wv : Value} {L : List Bool} {v8 : Value} (h : GR w0 g3 bv wv L v8 w) (hx : Ext No w w') : GR w0 g3 bv wv L v8 w' := by
  obtain ⟨h1, u, h2, h3⟩ := h
  refine ⟨h1.then_ hx, u, h2.ext_no hx, fun e => ?_⟩
  obtain ⟨b, hb, hr⟩ := h3 e
  exact ⟨b, hb, hr.ext hx (fun _ _ h => h)⟩
/-- A key, made: what the last line's operations leave. -/
def FR (g3 : Nat) (bv wv : Value) (z E : List UInt8) (L : List Bool) : Nat → Value → World → Prop
  | 0, v, _ => v = .pointer (some ⟨g3, 0, none⟩)
  | 1, v, _ => v = bv
  | 2, v, _ => v = .pointer (some ⟨g3, 1, none⟩)
  | 3, v, _ => v = wv
  | 4, v, w => Bs w (fun b => b ≠ g3) v z
  | 5, v, w => Bs w (fun b => b ≠ g3) v E
  | 6, v, w => ∃ b, g3 < b ∧ RBn w b v L
  | 7, v, _ => v = .pointer (some ⟨g3, 2, none⟩)
  | 8, v, _ => v = undef
  | _, _, _ => True
theorem FR.ext {g3 : Nat} {bv wv : Value} {z E : List UInt8} {L : List Bool} {w w' : World} (hx : Ext (One g3) w w') : ∀ j v, FR g3 bv wv z E L j v w → FR g3 bv wv z E L j v w' := by
  intro j v H
  match j, H with
  | 0, H => exact H
  | 1, H => exact H
  | 2, H => exact H
  | 3, H => exact H
  | 4, H => exact Bs.ext H hx (fun b hb _ h => hb h)
  | 5, H => exact Bs.ext H hx (fun b hb _ h => hb h)
  | 6, ⟨b, hb, h⟩ => exact ⟨b, hb, h.ext hx (fun k hk e => by have e : k = g3 := e; omega)⟩
  | 7, H => exact H
  | 8, H => exact H
  | m + 9, _ => trivial
set_option maxRecDepth 100000 in
set_option maxHeartbeats 2000000 in
theorem rNew6_any (kv : Value) (key : List UInt8) (w : World) (hk : Bs w Any kv key) (hl : key.length = 32) : Calls Try.prog 68 #[kv] w fun e w' => ∃ v, e = .returned v ∧ RKey w' v (wds key 60) (hOf16 (kys key)) ∧ Ext No w w' := by
  have HW := Lib.hid (fun (bv : Value) (wx : World) (hx : Ext No w wx) (hb : Bs wx Any bv Ar.bxs) => rWords_any bv kv key wx hb (hk.ext_no hx) hl)
  have h60 := wds_length key 60
  have h4 := wds_four key hl 60
  have hkf : (wds key 60).flatten = kys key := rfl
  have hh : hOf16 (kys key) = elL (enc (kys key) (List.replicate 16 0)) := rfl
  obtain ⟨WF, hWF⟩ : ∃ x, wds key = x := ⟨_, rfl⟩
  obtain ⟨KK, hKK⟩ : ∃ x, kys key = x := ⟨_, rfl⟩
  rw [hWF] at h60 h4 hkf HW ⊢
  rw [hKK] at hkf hh ⊢
  obtain ⟨WL, hWL⟩ : ∃ x, WF 60 = x := ⟨_, rfl⟩
  rw [hWL] at h60 h4 hkf HW ⊢
  have HBL := Lib.hid (fun (bv wv xv : Value) (wx : World) (h1 : Bs wx Any bv Ar.bxs) (h2 : Parts wx Any wv WL) (h3 : Bs wx Any xv (List.replicate 16 0)) => rBlock6_any bv wv xv WL h60 h4 KK hkf (List.replicate 16 0) (by simp) wx h1 h2 h3)
  obtain ⟨E, hE⟩ : ∃ x, enc KK (List.replicate 16 0) = x := ⟨_, rfl⟩
  rw [hE] at HBL hh
  have hmk : ∀ W, (Instr.makeSlice 27 (.int .i64 16) (.int .i64 16)).run Try.prog W = .ok (.slice (some ⟨W.heap.size, 0, none⟩) 16 16) (W.alloc (.cells (u8s (List.replicate 16 0)).toArray 5)) := mk_u8 16 (by omega)
  obtain ⟨BX, hBX⟩ : ∃ x, Ar.bxs = x := ⟨_, rfl⟩
  have HB := Lib.hid (fun wx => rBoxes6_any wx)
  rw [hBX] at HW HBL HB
  obtain ⟨H, hH⟩ : ∃ x, hOf16 KK = x := ⟨_, rfl⟩
  rw [hH] at hh ⊢
  obtain ⟨z, hz⟩ : ∃ x : List UInt8, List.replicate 16 0 = x := ⟨_, rfl⟩
  rw [hz] at HBL hmk
  have hzl : z.length = 16 := by rw [← hz]; simp
  have HZL := Lib.hid hzl
  have HH := Lib.hid hh
  have HBX := Lib.hid hBX
  have HBXL : Hid (BX.length = 256) := Lib.hid (by rw [← hBX]; exact Ar.bxs_length)
  have H60 := Lib.hid h60
  have H44 := Lib.hid h4
  clear hk hl h60 h4 hkf hWF hKK hWL hE hBX hH hz hzl hh
  go_enter Try.func68, Try.ntmps68
  go_wp2_with (first
    | (go_at_call 51; refine (HB.out _).mono ?_; rintro e1 w1 ⟨bv, rfl, hb1, hx1⟩; obtain ⟨bA, bc, rfl, -⟩ := hb1.slice; have HX1 := Lib.hid (((Ext.refl No w).alloc _).trans hx1); have HB1 := Lib.hid hb1.any; have HK1 := Lib.hid ((Blk.new w 87 #[.slice none 0 0, .slice none 0 0, .slice none 0 0]).ext_no hx1); have HL1 : Hid (w.heap.size < w1.heap.size) := Lib.hid (by have := hx1.size; rw [World.size_alloc] at this; omega); clear hb1 hx1)
    | (go_at_call 53; (with_reducible refine (HW.out _ _ (HX1.out.alloc _) (HB1.out.ext_no ((Ext.refl No w1).alloc _))).mono ?_); rintro e2 w2 ⟨wv, rfl, hp2, hx2⟩; obtain ⟨wA, wc, rfl, -⟩ := hp2.slice; have HX2 := Lib.hid ((HX1.out.alloc _).trans hx2); have HX12 := Lib.hid (((Ext.refl No w1).alloc _).trans hx2); have HP2 := Lib.hid hp2; have hb3 := (Blk.new w1 87 #[.slice bA BX.length bc, .slice none 0 0, .slice none 0 0]).ext_no hx2; have HB3 := Lib.hid hb3; have q3 := Blk.c3 hb3; clear hp2 hx2 hb3))
  have HB3' : Blk (w2.setCell ⟨w1.heap.size, 1, none⟩ (.slice wA WL.length wc)) w1.heap.size 87 #[(.slice bA BX.length bc), (.slice wA WL.length wc), .slice none 0 0] := HB3.out.set_ 1 _
  have hx3 : Ext (One w1.heap.size) w2 (w2.setCell ⟨w1.heap.size, 1, none⟩ (.slice wA WL.length wc)) := Ext.setCell (p := ⟨w1.heap.size, 1, none⟩) (Ext.refl (One w1.heap.size) w2) (fun _ => rfl) _
  have HX3 : Hid (Ext No w (w2.setCell ⟨w1.heap.size, 1, none⟩ (.slice wA WL.length wc))) := Lib.hid (HX2.out.transS hx3 (fun i hi e => by have e : i = w1.heap.size := e; have := HX1.out.size; omega))
  have HP2 : Hid (Parts (w2.setCell ⟨w1.heap.size, 1, none⟩ (.slice wA WL.length wc)) (fun b => b ≠ w1.heap.size) (.slice wA WL.length wc) WL) := Lib.hid ((HP2.out.ne3 (by rw [H60.out]; omega) H44.out HB3.out).ext hx3 (fun b hb _ h => hb h))
  have HB2 : Hid (Bs (w2.setCell ⟨w1.heap.size, 1, none⟩ (.slice wA WL.length wc)) (fun b => b ≠ w1.heap.size) (.slice bA BX.length bc) BX) := Lib.hid (((HB1.out.ext_no HX12.out).ne3 (by rw [HBXL.out]; omega) HB3.out).ext hx3 (fun b hb _ h => hb h))
  have HLT : Hid (w.heap.size < w1.heap.size) := HL1
  have HK4 : Hid (∀ wz, Ext (One w1.heap.size) (w2.setCell ⟨w1.heap.size, 1, none⟩ (.slice wA WL.length wc)) wz → Blk wz w.heap.size 87 #[.slice none 0 0, .slice none 0 0, .slice none 0 0]) := Lib.hid (fun wz hz => ((HK1.out.ext_no HX12.out).ext hx3 (fun e => by have e : w.heap.size = w1.heap.size := e; have := HLT.out; omega)).ext hz (fun e => by have e : w.heap.size = w1.heap.size := e; have := HLT.out; omega))
  clear q3 hx3
  generalize w2.setCell ⟨w1.heap.size, 1, none⟩ (.slice wA WL.length wc) = w3 at *
  refine RF.region (vs := fun | 8 => Value.bool false | _ => undef) rfl (fun vs => (kv :: undef :: (Value.pointer (some ⟨w.heap.size, 0, none⟩)) :: (Value.pointer (some ⟨w1.heap.size, 0, none⟩)) :: (Value.slice bA BX.length bc) :: (Value.agg #[Value.slice bA BX.length bc, Value.slice none 0 0, Value.slice none 0 0]) :: (Value.pointer (some ⟨w1.heap.size, 0, none⟩)) :: (Value.slice bA BX.length bc) :: kv :: (Value.slice wA WL.length wc) :: (Value.pointer (some ⟨w1.heap.size, 1, none⟩)) :: (vs 0) :: (vs 1) :: (vs 2) :: (vs 3) :: (vs 4) :: (vs 5) :: (vs 6) :: (vs 7) :: undef :: []).toArray)
    (FR w1.heap.size (.slice bA BX.length bc) (.slice wA WL.length wc) z E (bl H)) (fun vs wz => GR w3 w1.heap.size (.slice bA BX.length bc) (.slice wA WL.length wc) (bl H) (vs 8) wz) rfl (by kernel_rfl) ?_ ?_ ?_
  · exact ⟨(Ext.refl _ w3).drew, _, HB3', fun e => by cases e⟩
  · refine ⟨⟨⟨⟨⟨⟨⟨⟨⟨trivial, ?_⟩, ?_⟩, ?_⟩, ?_⟩, ?_⟩, ?_⟩, ?_⟩, ?_⟩, ?_⟩
    · refine RF.Step.plain rfl rfl (fun vs wx hG hv hd K hK => ?_)
      go_simp
      exact hK _ _ hG rfl (fun _ _ h => h)
    · refine RF.Step.plain rfl rfl (fun vs wx hG hv hd K hK => ?_)
      obtain ⟨hg1, u, hg2, hg3⟩ := hG
      have c3 := Blk.c3 hg2
      have h0 : vs 0 = .pointer (some ⟨w1.heap.size, 0, none⟩) := by first | exact hd.1 | exact hd.2.1 | exact hd.2.2.1 | exact hd.2.2.2.1
      have hG' : GR w3 w1.heap.size (.slice bA BX.length bc) (.slice wA WL.length wc) (bl H) (vs 8) wx := ⟨hg1, u, hg2, hg3⟩
      have HG' := Lib.hid hG'
      clear hg1 hg2 hg3 hG'
      go_simp
      have h4 := hK _ _ HG'.out rfl (fun _ _ h => h)
      first | (simpa only [RF.upd, h0, Nat.reduceEqDiff, if_true, if_false, reduceIte] using h4) | (simp only [RF.upd, h0, Nat.reduceEqDiff, if_true, if_false, reduceIte] at h4 ⊢; exact h4)
    · refine RF.Step.plain rfl rfl (fun vs wx hG hv hd K hK => ?_)
      go_simp
      exact hK _ _ hG rfl (fun _ _ h => h)
    · refine RF.Step.plain rfl rfl (fun vs wx hG hv hd K hK => ?_)
      obtain ⟨hg1, u, hg2, hg3⟩ := hG
      have c3 := Blk.c3 hg2
      have h0 : vs 2 = .pointer (some ⟨w1.heap.size, 1, none⟩) := by first | exact hd.1 | exact hd.2.1 | exact hd.2.2.1 | exact hd.2.2.2.1
      have hG' : GR w3 w1.heap.size (.slice bA BX.length bc) (.slice wA WL.length wc) (bl H) (vs 8) wx := ⟨hg1, u, hg2, hg3⟩
      have HG' := Lib.hid hG'
      clear hg1 hg2 hg3 hG'
      go_simp
      have h4 := hK _ _ HG'.out rfl (fun _ _ h => h)
      first | (simpa only [RF.upd, h0, Nat.reduceEqDiff, if_true, if_false, reduceIte] using h4) | (simp only [RF.upd, h0, Nat.reduceEqDiff, if_true, if_false, reduceIte] at h4 ⊢; exact h4)
    · refine RF.Step.plain rfl rfl (fun vs wx hG hv hd K hK => ?_)
      have hm := hmk wx
      have HB16 := Lib.hid (Bs.whole' (Blk.new wx 5 (u8s z).toArray) (n := 16) (c := 16) HZL.out.symm (Nat.le_refl _) (by unfold maxLen; decide))
      have hgl := Blk.lt hG.2.choose_spec.1
      have HBN : Hid (Bs (wx.alloc (.cells (u8s z).toArray 5)) (fun b => b ≠ w1.heap.size) (.slice (some ⟨wx.heap.size, 0, none⟩) 16 16) z) := Lib.hid (HB16.out.mono (fun b hb => by have hb : b = wx.heap.size := hb; show b ≠ _; omega))
      clear hgl
      go_simp
      exact hK _ _ (GR.no hG ((Ext.refl No wx).alloc _)) (HBN.out) (fun j _ h => FR.ext (((Ext.refl No wx).alloc _).no) j _ h)
    · refine RF.Step.plain rfl rfl (fun vs wx hG hv hd K hK => ?_)
      have h1 : vs 1 = (.slice bA BX.length bc) := by first | exact hd.1 | exact hd.2.1 | exact hd.2.2.1 | exact hd.2.2.2.1
      have h2 : vs 3 = (.slice wA WL.length wc) := by first | exact hd.1 | exact hd.2.1 | exact hd.2.2.1 | exact hd.2.2.2.1
      have h3 : Bs wx (fun b => b ≠ w1.heap.size) (vs 4) z := by first | exact hd.1 | exact hd.2.1 | exact hd.2.2.1 | exact hd.2.2.2.1
      obtain ⟨hg1, hg2⟩ := hG
      have HC := Lib.hid (HBL.out (.slice bA BX.length bc) (.slice wA WL.length wc) (vs 4) wx (HB2.out.ext hg1 (fun b hb _ h => hb h)).any ((HP2.out.ext hg1 (fun b hb _ h => hb h)).mono (fun _ _ => trivial)) h3.any)
      have HG' : Hid (GR w3 w1.heap.size (.slice bA BX.length bc) (.slice wA WL.length wc) (bl H) (vs 8) wx) := Lib.hid ⟨hg1, hg2⟩
      clear h3 hg1 hg2
      go_simp
      refine HC.out.mono ?_
      rintro e' w' ⟨v', rfl, ho, hx⟩
      have h4 := hK _ _ (GR.no HG'.out hx) (ho.bs.mono (fun b hb e => by have := (Blk.lt HG'.out.2.choose_spec.1); omega)) (fun j _ h => FR.ext hx.no j _ h)
      first | (simpa only [RF.upd, h1, h2, Nat.reduceEqDiff, if_true, if_false, reduceIte] using h4) | (simp only [RF.upd, h1, h2, Nat.reduceEqDiff, if_true, if_false, reduceIte] at h4 ⊢; exact h4)
    · refine RF.Step.plain rfl rfl (fun vs wx hG hv hd K hK => ?_)
      have h5 : Bs wx (fun b => b ≠ w1.heap.size) (vs 5) E := by first | exact hd.1 | exact hd.2.1 | exact hd.2.2.1 | exact hd.2.2.2.1
      have HC := Lib.hid (rBits6_any (vs 5) E wx h5.any)
      rw [← HH.out] at HC
      have HG' : Hid (GR w3 w1.heap.size (.slice bA BX.length bc) (.slice wA WL.length wc) (bl H) (vs 8) wx) := Lib.hid hG
      clear h5 hG
      go_simp
      refine HC.out.mono ?_
      rintro e' w' ⟨v', rfl, ho, hx⟩
      exact hK _ _ (GR.no HG'.out hx) ⟨wx.heap.size, Blk.lt HG'.out.2.choose_spec.1, ho⟩ (fun j _ h => FR.ext hx.no j _ h)
    · refine RF.Step.plain rfl rfl (fun vs wx hG hv hd K hK => ?_)
      go_simp
      exact hK _ _ hG rfl (fun _ _ h => h)
    · refine RF.Step.plain rfl rfl (fun vs wx hG hv hd K hK => ?_)
      have h7 : vs 7 = .pointer (some ⟨w1.heap.size, 2, none⟩) := by first | exact hd.1 | exact hd.2.1 | exact hd.2.2.1 | exact hd.2.2.2.1
      obtain ⟨b, hb, hr⟩ : ∃ b, w1.heap.size < b ∧ RBn wx b (vs 6) (bl H) := by first | exact hd.1 | exact hd.2.1 | exact hd.2.2.1 | exact hd.2.2.2.1
      obtain ⟨hg1, u, hg2, hg3⟩ := hG
      have c3 := Blk.c3 hg2
      obtain ⟨rA, rc, hrv⟩ := Kd.V_slice hr
      have hx6 : Ext (One w1.heap.size) wx (wx.setCell ⟨w1.heap.size, 2, none⟩ (vs 6)) := Ext.setCell (p := ⟨w1.heap.size, 2, none⟩) (Ext.refl (One w1.heap.size) wx) (fun _ => rfl) _
      have HG' : Hid (GR w3 w1.heap.size (.slice bA BX.length bc) (.slice wA WL.length wc) (bl H) undef (wx.setCell ⟨w1.heap.size, 2, none⟩ (vs 6))) := Lib.hid ⟨hg1.trans hx6, vs 6, hg2.set_ 2 (vs 6), fun _ => ⟨b, hb, hr.ext hx6 (fun k hk e => by have e : k = w1.heap.size := e; omega)⟩⟩
      have HX6 := Lib.hid hx6
      clear hg1 hg2 hg3 hr hx6
      rw [hrv] at HG' HX6
      go_simp
      have h4 := hK undef _ HG'.out rfl (fun j _ h => FR.ext HX6.out j _ h)
      first | (simpa only [RF.upd, h7, hrv, Nat.reduceEqDiff, if_true, if_false, reduceIte] using h4) | (simp only [RF.upd, h7, hrv, Nat.reduceEqDiff, if_true, if_false, reduceIte] at h4 ⊢; exact h4)
  · intro vs w4 hG hF
    have hG' := hG
    obtain ⟨hg1, u, hg2, hg3⟩ := hG
    obtain ⟨b, hb, hr⟩ := hg3 (hF 8 (by decide))
    obtain ⟨rA, rc, rfl⟩ := Kd.V_slice hr
    have HX4 := Lib.hid (HX3.out.transS hg1 (fun i hi e => by have e : i = w1.heap.size := e; have := HX1.out.size; omega))
    have HR4 := Lib.hid hr
    have hb2 : Blk w4 w.heap.size 87 #[.slice none 0 0, .slice none 0 0, .slice none 0 0] := HK4.out w4 hg1
    have c2 := Blk.c3 hb2
    have c3 := Blk.c3 hg2
    have hne : ¬ w.heap.size = w1.heap.size := by have := HX1.out.size; have := HLT.out; omega
    have HX5 := Lib.hid (Ext.setCell (p := ⟨w.heap.size, 2, none⟩) (Ext.setCell (p := ⟨w.heap.size, 1, none⟩) (Ext.setCell (p := ⟨w.heap.size, 0, none⟩) (Ext.refl (One w.heap.size) w4) (fun _ => rfl) (.slice bA BX.length bc)) (fun _ => rfl) (.slice wA WL.length wc)) (fun _ => rfl) (.slice rA (bl H).length rc))
    have HB4 := Lib.hid ((HB2.out.ext hg1 (fun b hb _ h => hb h)).ne3 (by rw [HBXL.out]; omega) hb2)
    have HP4 := Lib.hid ((HP2.out.ext hg1 (fun b hb _ h => hb h)).ne3 (by rw [H60.out]; omega) H44.out hb2)
    have HLB := Lib.hid hb
    clear hG' hF hg1 hg2 hg3 hr hb2 hb
    go_wp2_with fail
    refine bodyPost_ret (v := .agg #[.slice bA BX.length bc, .slice wA WL.length wc, .slice rA (bl H).length rc]) (by simp [results, Try.results68, go_sem, c2]) rfl ⟨_, rfl, ⟨_, _, _, rfl, ?_, ?_, ?_⟩, ?_⟩
    · rw [HBX.out]
      exact (HB4.out.ext HX5.out (fun b hb _ h => hb h)).any
    · exact (HP4.out.ext HX5.out (fun b hb _ h => hb h)).mono (fun _ _ => trivial)
    · exact (HR4.out.ext HX5.out (fun k hk e => by have e : k = w.heap.size := e; have := HLT.out; have := HLB.out; omega)).rb
    · exact HX4.out.transS HX5.out (fun i hi e => by have e : i = w.heap.size := e; omega)
end Go.Proofs.Ytljddghamgjfbaa
namespace Go.Proofs.Ytljddghamgjfbaa
open Go.RowKit Go.Deep Go.Proofs.YtljddghamgjfbaaW.PrintWords Go.Proofs.YtljddghamgjfbaaW.PrintLast Go.Proofs.YtljddghamgjfbaaW.PrintMore Ae Fm Rt
/-- A key of 32 bytes, of any ones, repeated. -/
def k32 (b : List UInt8) : List UInt8 := (List.range 32).map fun i => if b.length = 0 then 0 else b.getD (i % b.length) 0
theorem k32_length (b : List UInt8) : (k32 b).length = 32 := by simp [k32]
theorem key32_f (b : List UInt8) (k : Nat) (hk : 40 ≤ k) : PGcmSeals.deedboxlaw06_Key32.f k (i8 b) = some (i8 (k32 b)) := by
  obtain ⟨m, rfl⟩ : ∃ m, k = 32 + 1 + m := ⟨k - 33, by omega⟩
  unfold PGcmSeals.deedboxlaw06_Key32.f
  have := Ar.appl (F := fun k acc i => PGcmSeals.deedboxlaw06_Key32.l0 k (i8 b) acc i) (R := fun _ acc => some acc) 32 1 0 0 (fun i => [((if b.length = 0 then (0 : UInt8) else b.getD (i % b.length) 0).toNat : Int)]) (fun _ _ => Nat.le_refl _)
    (fun k acc i _ hi ha => by
      show PGcmSeals.deedboxlaw06_Key32.l0 (k + 1) _ _ _ = PGcmSeals.deedboxlaw06_Key32.l0 k (i8 b) (acc ++ [((if b.length = 0 then (0 : UInt8) else b.getD (i % b.length) 0).toNat : Int)]) _
      simp only [PGcmSeals.deedboxlaw06_Key32.l0]
      rw [i8_length]
      by_cases h0 : b.length = 0
      · rw [if_pos (by omega), if_neg (by omega), if_pos (by omega), if_pos h0, w1 (by omega)]
        rfl
      · have hlt : i % b.length < b.length := Nat.mod_lt _ (by omega)
        have ht : Int.tmod (i : Int) (b.length : Int) = ((i % b.length : Nat) : Int) := by rw [Int.tmod_eq_emod_of_nonneg (by omega)]; rfl
        rw [if_pos (by omega), if_pos (by omega), if_neg (by omega), ht, if_pos (by omega), if_pos (by omega), if_pos (by omega), Ar.rd_g b _ hlt, if_neg h0, w1 (by omega)])
    (fun k acc _ => by
      show PGcmSeals.deedboxlaw06_Key32.l0 (k + 1) _ _ _ = _
      simp only [PGcmSeals.deedboxlaw06_Key32.l0]
      rw [if_neg (by omega)]) 32 0 m [] (by omega) (by omega) (by simp)
  rw [show ((0 : Nat) : Int) = 0 from rfl] at this
  rw [this, List.nil_append, Ar.flat_one, ← List.range_eq_range']
  rfl
theorem rKey32_any (v : Value) (b : List UInt8) (w : World) (h : Bs w Any v b) : Calls Try.prog 65 #[v] w fun e w' => ∃ v', e = .returned v' ∧ Own w' w.heap.size v' (k32 b) ∧ Ext No w w' := by
  obtain ⟨A, c, rfl, -⟩ := h.slice
  obtain ⟨a1, a2, a3⟩ := h.C
  rw [a1]
  refine (PGcmSeals.deedboxlaw06_Key32.calls 40 A c (i8 b) (i8 (k32 b)) w a3 a2 (key32_f b 40 (by omega))).mono ?_
  rintro e w' ⟨v', rfl, hr, hb⟩
  exact ⟨v', rfl, Own.of_R hr, Ext.of_below hb⟩
theorem lSame6 (v1 v2 : Value) (l m : List UInt8) (w : World) (h1 : Bs w Any v1 l) (h2 : Bs w Any v2 m) (q : Bool) (hq : decide (l = m) = q) :
    Calls Try.prog 27 #[v1, v2] w fun e w' => e = .returned (.bool q) ∧ Ext No w w' := by
  refine (rSame_any v1 v2 l m w h1 h2).mono ?_
  rintro e w' ⟨rfl, n, rfl⟩
  exact ⟨by rw [← hq], (Ext.refl No w).drewN n⟩
set_option maxRecDepth 100000 in
set_option maxHeartbeats 2000000 in
theorem seals06 (kv nv av tv : Value) (key nonce a b : List UInt8) (w : World) (hk : Bs w Any kv key) (hn : Bs w Any nv nonce) (ha : Bs w Any av a) (hb : Bs w Any tv b) : Calls Try.prog 18 #[kv, nv, av, tv] w fun e' w' => e' = .returned (.bool true) ∧ Ext No w w' := by
  obtain ⟨kA, kc, rfl, -⟩ := hk.slice
  obtain ⟨nA, nc, rfl, -⟩ := hn.slice
  obtain ⟨aA, ac, rfl, -⟩ := ha.slice
  obtain ⟨tA, tc, rfl, -⟩ := hb.slice
  by_cases hall : key.length ≤ 100 ∧ nonce.length ≤ 40 ∧ a.length ≤ 200 ∧ b.length ≤ 200
  · obtain ⟨h1, h2, h3, h4⟩ := hall
    have HK := Lib.hid (fun (wx : World) (hx : Ext No w wx) => rKey32_any (.slice kA key.length kc) key wx (hk.ext_no hx))
    have hkl := k32_length key
    obtain ⟨K, hK⟩ : ∃ x, k32 key = x := ⟨_, rfl⟩
    rw [hK] at HK hkl
    have HN := Lib.hid (fun (tg : Nat) (v : Value) (wx : World) (h : Bs wx Any v K) (ht : IsT wx tg) => gNew_any tg v K wx h hkl ht)
    have HR := Lib.hid (fun (v : Value) (wx : World) (h : Bs wx Any v K) => rNew6_any v K wx h hkl)
    have hkk := kys_length K hkl
    have h60 := wds_length K 60
    have h44 := wds_four K hkl 60
    have hkf : (wds K 60).flatten = kys K := rfl
    obtain ⟨KK, hKK⟩ : ∃ x, kys K = x := ⟨_, rfl⟩
    obtain ⟨WF, hWF⟩ : ∃ x, wds K = x := ⟨_, rfl⟩
    rw [hKK] at HN HR hkk hkf
    rw [hWF] at HR h60 h44 hkf
    obtain ⟨WL, hWL⟩ : ∃ x, WF 60 = x := ⟨_, rfl⟩
    rw [hWL] at HR h60 h44 hkf
    obtain ⟨H, hH⟩ : ∃ x, hOf16 KK = x := ⟨_, rfl⟩
    rw [hH] at HN HR
    by_cases h12 : nonce.length = 12
    · have HS := Lib.hid (fun (g gc tg gh : Nat) (wx : World) (hx : Ext No w wx) (hg : IsG wx g gc tg gh KK H) => gSeal_any g gc tg gh KK H _ _ _ nonce a b wx hg (hn.ext_no hx) h12 (ha.ext_no hx) (by omega) (hb.ext_no hx) (by omega))
      have HQ := Lib.hid (fun (kv : Value) (wx : World) (hx : Ext No w wx) (hk : RKey wx kv WL H) => rSeal_any kv _ _ _ WL h60 h44 KK hkf H nonce a b wx hk (hn.ext_no hx) (ha.ext_no hx) (by omega) (hb.ext_no hx) (by omega))
      simp only [if_pos h12] at HQ
      obtain ⟨SL, hSL⟩ : ∃ x, sealL KK nonce H a b = x := ⟨_, rfl⟩
      rw [hSL] at HS HQ
      clear hk hn ha hb hK hkl hkk h60 h44 hkf hKK hWF hWL hH h12 hSL
      go_enter Try.func18, Try.ntmps18
      go_wp2_with (first
        | (go_at_call 44; refine (aBuild_any _).mono ?_; rintro e1 w1 ⟨tg, rfl, hg1, ht1, hx1⟩; have HT1 := Lib.hid ht1; have HX1 := Lib.hid hx1; clear ht1 hx1 hg1)
        | (go_at_call 65; (with_reducible refine (HK.out w1 HX1.out).mono ?_); rintro e2 w2 ⟨v2, rfl, ho2, hx2⟩; have HK2 := Lib.hid ho2.any; have HT2 := Lib.hid (HT1.out.ext_no hx2); have HX2 := Lib.hid (HX1.out.trans hx2); clear ho2 hx2)
        | (go_at_call 64; refine (HN.out tg _ w2 HK2.out HT2.out).mono ?_; rintro e3 w3 ⟨g, gc, gh, rfl, hg3, hi3, hx3⟩; have HI3 := Lib.hid hi3; have HX3 := Lib.hid (HX2.out.trans hx3); clear hg3 hi3 hx3)
        | (go_at_call 66; refine (HS.out g gc tg gh w3 HX3.out HI3.out).mono ?_; rintro e4 w4 ⟨v4, rfl, ho4, hx4⟩; have HS4 := Lib.hid ho4.any; have HX4 := Lib.hid (HX3.out.trans hx4); clear ho4 hx4)
        | (go_at_call 65; (with_reducible refine (HK.out w4 HX4.out).mono ?_); rintro e5 w5 ⟨v5, rfl, ho5, hx5⟩; have HK5 := Lib.hid ho5.any; have HS5 := Lib.hid (HS4.out.ext_no hx5); have HX5 := Lib.hid (HX4.out.trans hx5); clear ho5 hx5)
        | (go_at_call 68; refine (HR.out _ w5 HK5.out).mono ?_; rintro e6 w6 ⟨v6, rfl, hk6, hx6⟩; have HK6 := Lib.hid hk6; have HS6 := Lib.hid (HS5.out.ext_no hx6); have HX6 := Lib.hid (HX5.out.trans hx6); clear hk6 hx6)
        | (go_at_call 67; refine (HQ.out v6 w6 HX6.out HK6.out).mono ?_; rintro e7 w7 ⟨v7, rfl, ho7, hx7⟩; have HR7 := Lib.hid ho7.any; have HS7 := Lib.hid (HS6.out.ext_no hx7); have HX7 := Lib.hid (HX6.out.trans hx7); clear ho7 hx7)
        | (go_at_call 27; refine (lSame6 _ _ SL SL w7 HS7.out HR7.out true (by simp)).mono ?_; rintro e8 w8 ⟨rfl, hx8⟩; have HX8 := Lib.hid (HX7.out.trans hx8); clear hx8)
        | (go_at_call 63; refine (works06 _).mono ?_; rintro e9 w9 ⟨rfl, hx9⟩; have HX9 := Lib.hid (HX8.out.trans hx9); clear hx9))
      go_ret
      exact ⟨rfl, HX9.out⟩
    · have HS := Lib.hid (fun (g : Nat) (wx : World) (hx : Ext No w wx) => gSeal_size g _ (.slice aA a.length ac) (.slice tA b.length tc) nonce wx (hn.ext_no hx) h12)
      have HQ := Lib.hid (fun (kv : Value) (wx : World) (hx : Ext No w wx) (hk : RKey wx kv WL H) => rSeal_any kv _ _ _ WL h60 h44 KK hkf H nonce a b wx hk (hn.ext_no hx) (ha.ext_no hx) (by omega) (hb.ext_no hx) (by omega))
      simp only [if_neg h12] at HQ
      clear hk hn ha hb hK hkl hkk h60 h44 hkf hKK hWF hWL hH h12
      go_enter Try.func18, Try.ntmps18
      go_wp2_with (first
        | (go_at_call 44; refine (aBuild_any _).mono ?_; rintro e1 w1 ⟨tg, rfl, hg1, ht1, hx1⟩; have HT1 := Lib.hid ht1; have HX1 := Lib.hid hx1; clear ht1 hx1 hg1)
        | (go_at_call 65; (with_reducible refine (HK.out w1 HX1.out).mono ?_); rintro e2 w2 ⟨v2, rfl, ho2, hx2⟩; have HK2 := Lib.hid ho2.any; have HT2 := Lib.hid (HT1.out.ext_no hx2); have HX2 := Lib.hid (HX1.out.trans hx2); clear ho2 hx2)
        | (go_at_call 64; refine (HN.out tg _ w2 HK2.out HT2.out).mono ?_; rintro e3 w3 ⟨g, gc, gh, rfl, hg3, hi3, hx3⟩; have HI3 := Lib.hid hi3; have HX3 := Lib.hid (HX2.out.trans hx3); clear hg3 hi3 hx3)
        | (go_at_call 66; refine (HS.out g w3 HX3.out).mono ?_; rintro e4 w4 ⟨rfl, hx4⟩; have HX4 := Lib.hid (HX3.out.trans hx4); clear hx4)
        | (go_at_call 65; (with_reducible refine (HK.out w4 HX4.out).mono ?_); rintro e5 w5 ⟨v5, rfl, ho5, hx5⟩; have HK5 := Lib.hid ho5.any; have HX5 := Lib.hid (HX4.out.trans hx5); clear ho5 hx5)
        | (go_at_call 68; refine (HR.out _ w5 HK5.out).mono ?_; rintro e6 w6 ⟨v6, rfl, hk6, hx6⟩; have HK6 := Lib.hid hk6; have HX6 := Lib.hid (HX5.out.trans hx6); clear hk6 hx6)
        | (go_at_call 67; refine (HQ.out v6 w6 HX6.out HK6.out).mono ?_; rintro e7 w7 ⟨v7, rfl, ho7, hx7⟩; have HR7 := Lib.hid ho7.any; have HX7 := Lib.hid (HX6.out.trans hx7); clear ho7 hx7)
        | (go_at_call 27; refine (lSame6 _ _ [] [] w7 (Bs.nil _ _) HR7.out true (by simp)).mono ?_; rintro e8 w8 ⟨rfl, hx8⟩; have HX8 := Lib.hid (HX7.out.trans hx8); clear hx8)
        | (go_at_call 63; refine (works06 _).mono ?_; rintro e9 w9 ⟨rfl, hx9⟩; have HX9 := Lib.hid (HX8.out.trans hx9); clear hx9))
      go_ret
      exact ⟨rfl, HX9.out⟩
  · have hany : 100 < key.length ∨ 40 < nonce.length ∨ 200 < a.length ∨ 200 < b.length := by omega
    clear hk hn ha hb hall
    have HA := Lib.hid hany
    clear hany
    go_enter Try.func18, Try.ntmps18
    go_wp2_with (first
      | (go_at_call 63; refine (works06 _).mono ?_; rintro e2 w2 ⟨rfl, hx2⟩; have HX2 := Lib.hid hx2; clear hx2)
      | (exfalso; have := HA.out; omega))
    all_goals (go_ret; exact ⟨rfl, HX2.out⟩)
open Go.ChangeShapes Go.WideShapes in
set_option maxRecDepth 100000 in
theorem bytes_val {W : World} {v : Value} {r : Reach} {base : Nat} (u : Rd Try.prog W 27 v.cells.toList) (ok : Value.okWide Try.prog W r base 27 v) : ∃ A c l, v = .slice A (List.length l) c ∧ Bs W (fun b => b < W.heap.size) (.slice A (List.length l) c) l := by
  obtain ⟨A, len, cap, rfl⟩ := okWide_slice Try.underlying27 ok
  obtain ⟨A', c', b, he, hb⟩ := bytes_of u
  have he : [Value.slice A len cap] = [.slice A' b.length c'] := he
  simp only [List.cons.injEq, Value.slice.injEq, and_true] at he
  obtain ⟨rfl, rfl, rfl⟩ := he
  exact ⟨_, _, b, rfl, hb⟩
open Go.ChangeShapes Go.WideShapes in
set_option maxRecDepth 100000 in
theorem walk_GcmSeals (W : World) (v0 v1 v2 v3 : Value) (u0 : Rd Try.prog W 27 v0.cells.toList) (u1 : Rd Try.prog W 27 v1.cells.toList) (u2 : Rd Try.prog W 27 v2.cells.toList) (u3 : Rd Try.prog W 27 v3.cells.toList)
    {r : Reach} {base : Nat} (ok0 : Value.okWide Try.prog W r base 27 v0) (ok1 : Value.okWide Try.prog W r base 27 v1) (ok2 : Value.okWide Try.prog W r base 27 v2) (ok3 : Value.okWide Try.prog W r base 27 v3) :
    Calls Try.prog 18 #[v0, v1, v2, v3] W fun e W' => e = .returned (.bool true) ∧ Ext No W W' := by
  obtain ⟨A0, c0, l0, rfl, h0⟩ := bytes_val u0 ok0
  obtain ⟨A1, c1, l1, rfl, h1⟩ := bytes_val u1 ok1
  obtain ⟨A2, c2, l2, rfl, h2⟩ := bytes_val u2 ok2
  obtain ⟨A3, c3, l3, rfl, h3⟩ := bytes_val u3 ok3
  exact seals06 _ _ _ _ l0 l1 l2 l3 W h0.any h1.any h2.any h3.any
end Go.Proofs.Ytljddghamgjfbaa
