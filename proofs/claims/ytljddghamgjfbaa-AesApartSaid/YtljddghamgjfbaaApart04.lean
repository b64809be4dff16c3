/- The laws of chapter 4: AesApart. -/
import Derived.Test.YtljddghamgjfbaaBlocks04
import Derived.Test.YtljddghamgjfbaaAesInj
import Derived.Test.YtljddghamgjfbaaArrEq
set_option linter.unusedVariables false
set_option linter.unusedSimpArgs false
namespace Go.Proofs.Ytljddghamgjfbaa
open Go.RowKit Go.Deep Go.Proofs.YtljddghamgjfbaaW.PrintWords Ae Ar

theorem run_eqItems_gen (d : Nat) (L M : List UInt8) (hM : M.length = L.length) (w : World) : ∀ is : List Nat, (∀ i ∈ is, i < L.length) →
    (Op.eqItems (d + 1) 5 1 (u8s L).toArray (u8s M).toArray is).run Try.prog w = .ok (is.all fun i => decide (L.getD i 0 = M.getD i 0)) w
  | [], _ => rfl
  | i :: is, h => by
    have hi := h i (List.mem_cons_self ..)
    have hx := u8s_get' L i hi
    have hy := u8s_get' M i (by omega)
    have hp := run_part_plain (P := Try.prog) (e := 5) (w := w) (by kernel_rfl) (off := i * 1) (by rw [Nat.mul_one]; exact hx)
    have hp2 := run_part_plain (P := Try.prog) (e := 5) (w := w) (by kernel_rfl) (off := i * 1) (by rw [Nat.mul_one]; exact hy)
    have he := run_equalIn_int (P := Try.prog) w d 5 .u8 .u8 ((L.getD i 0).toNat : Int) ((M.getD i 0).toNat : Int) Try.underlying5
    have ih := run_eqItems_gen d L M hM w is (fun j hj => h j (List.mem_cons_of_mem _ hj))
    unfold Op.eqItems
    rw [u8_beq] at he
    simp only [Sem.run_bind, hp, hp2, he, Result.andThen_ok]
    by_cases e : L.getD i 0 = M.getD i 0
    · rw [decide_eq_true e, List.all_cons, decide_eq_true e]
      simpa using ih
    · rw [decide_eq_false e, List.all_cons, decide_eq_false e]
      simp
theorem all_eq (L M : List UInt8) (hM : M.length = L.length) : ((List.range L.length).all fun i => decide (L.getD i 0 = M.getD i 0)) = decide (L = M) := by
  by_cases e : L = M
  · subst e
    simp
  · rw [decide_eq_false e]
    rw [Bool.eq_false_iff]
    intro h
    apply e
    apply List.ext_getElem?
    intro i
    by_cases hi : i < L.length
    · have := List.all_eq_true.1 h i (by simpa using hi)
      have := of_decide_eq_true this
      rw [List.getD_eq_getElem?_getD, List.getD_eq_getElem?_getD, List.getElem?_eq_getElem hi, List.getElem?_eq_getElem (by omega)] at this
      rw [List.getElem?_eq_getElem hi, List.getElem?_eq_getElem (by omega)]
      exact congrArg some this
    · rw [List.getElem?_eq_none (by omega), List.getElem?_eq_none (by omega)]
theorem run_eql_gen (t : TypeId) (n : Nat) (hu : Try.prog.underlying t = some (.array n 5)) (L M : List UInt8) (hL : L.length = n) (hM : M.length = n) (w : World) :
    (Op.equalIn 10000 t (.agg (u8s L).toArray) (.agg (u8s M).toArray)).run Try.prog w = .ok (decide (L = M)) w := by
  obtain ⟨i, hi⟩ : ∃ i, Try.prog.info? 5 = some i := by
    have := info_u8
    cases e : Try.prog.info? 5 with
    | none => rw [e] at this; cases this
    | some i => exact ⟨i, rfl⟩
  have hc : Try.prog.cellsOf 5 = 1 := by kernel_rfl
  rw [show (10000 : Nat) = 9998 + 1 + 1 from rfl, run_equalIn_array w (9998 + 1) _ _ hu hi, hc, run_eqItems_gen 9998 L M (by omega) w _ (fun j hj => by rw [hL]; simpa using hj), ← hL, all_eq L M (by omega)]
/-- What each operation of the last line leaves. -/
def FP (gc : Nat) (a b ea eb : List UInt8) (q : Bool) : Nat → Value → World → Prop
  | 0, v, _ => v = pB gc
  | 1, v, _ => v = .agg (u8s a).toArray
  | 2, v, _ => v = .agg (u8s ea).toArray
  | 3, v, _ => v = pB gc
  | 4, v, _ => v = .agg (u8s b).toArray
  | 5, v, _ => v = .agg (u8s eb).toArray
  | 6, v, _ => v = .bool q
  | 7, v, _ => v = .agg (u8s a).toArray
  | 8, v, _ => v = .agg (u8s b).toArray
  | 9, v, _ => v = .bool q
  | 10, v, _ => v = .bool true
  | 11, v, _ => v = .bool true
  | 12, v, _ => v = .bool true
  | 13, v, _ => v = .bool true
  | 14, v, _ => v = .bool true
  | _, _, _ => True
theorem FP.no {gc : Nat} {a b ea eb : List UInt8} {q : Bool} {w w' : World} : ∀ j v, FP gc a b ea eb q j v w → FP gc a b ea eb q j v w' := by
  intro j v H
  match j, H with
  | 0, H | 1, H | 2, H | 3, H | 4, H | 5, H | 6, H | 7, H | 8, H | 9, H | 10, H | 11, H | 12, H | 13, H | 14, H => exact H
  | m + 15, _ => trivial
/-- Ahead of it: the cipher and the two blocks. -/
structure G4 (w0 : World) (gc tg g4 g5 : Nat) (KK a b : List UInt8) (w : World) : Prop where
  c : IsC w gc tg KK
  a : Blk w g4 22 (u8s a).toArray
  b : Blk w g5 22 (u8s b).toArray
  x : Ext No w0 w
theorem G4.no {w0 w w' : World} {gc tg g4 g5 : Nat} {KK a b : List UInt8} (h : Hid (G4 w0 gc tg g4 g5 KK a b w)) (hx : Ext No w w') : Hid (G4 w0 gc tg g4 g5 KK a b w') := Lib.hid ⟨h.out.c.no hx, h.out.a.ext_no hx, h.out.b.ext_no hx, h.out.x.trans hx⟩
set_option maxRecDepth 100000 in
set_option maxHeartbeats 2000000 in
theorem apart04 (kv : Value) (k a b : List UInt8) (w : World) (hk : Bs w Any kv k) (ha : a.length = 16) (hb : b.length = 16) : Calls Try.prog 13 #[kv, .agg (u8s a).toArray, .agg (u8s b).toArray] w fun e' w' => e' = .returned (.bool true) ∧ Ext No w w' := by
  obtain ⟨kA, kc, rfl, -⟩ := hk.slice
  by_cases h1 : 100 < k.length
  · go_enter Try.func13, Try.ntmps13
    go_wp2_with (go_at_call 47; refine (works04 _).mono ?_; rintro e2 w2 ⟨rfl, hx2⟩; have HX2 := Lib.hid hx2; clear hx2)
    go_ret
    exact ⟨rfl, (((Ext.refl No w).alloc _).alloc _).trans HX2.out⟩
  · have HT0 := Lib.hid (Two16.new w a b)
    obtain ⟨wz, hwz⟩ : ∃ x, (w.alloc (.cells (u8s a).toArray 22)).alloc (.cells (u8s b).toArray 22) = x := ⟨_, rfl⟩
    rw [hwz] at HT0
    have HWZ := Lib.hid hwz
    have HKC := Lib.hid (fun (wx : World) (hx : Ext No w wx) => rKey32_any (.slice kA k.length kc) k wx (hk.ext_no hx))
    have hkl := k32_length k
    obtain ⟨key, hkey⟩ : ∃ x, k32 k = x := ⟨_, rfl⟩
    rw [hkey] at HKC hkl
    have HNC := Lib.hid (fun (tg : Nat) (v : Value) (wx : World) (h : Bs wx Any v key) (ht : IsT wx tg) => aNew_any tg v key wx h hkl ht)
    have hkk := kys_length key hkl
    obtain ⟨KK, hKK⟩ : ∃ x, kys key = x := ⟨_, rfl⟩
    rw [hKK] at hkk HNC
    have HBA := Lib.hid (fun (g tg : Nat) (wx : World) (h : IsC wx g tg KK) => aBlock_any g tg KK a wx h ha)
    have HBB := Lib.hid (fun (g tg : Nat) (wx : World) (h : IsC wx g tg KK) => aBlock_any g tg KK b wx h hb)
    have hq : decide (enc KK a = enc KK b) = decide (a = b) := by
      by_cases e : a = b
      · subst e; simp
      · rw [decide_eq_false e, decide_eq_false (fun h => e (Ai.enc_inj hkk ha hb h))]
    have hla := enc_length KK a hkk
    have hlb := enc_length KK b hkk
    obtain ⟨ea, hea⟩ : ∃ x, enc KK a = x := ⟨_, rfl⟩
    obtain ⟨eb, heb⟩ : ∃ x, enc KK b = x := ⟨_, rfl⟩
    rw [hea] at HBA hq hla
    rw [heb] at HBB hq hlb
    have hr1 := run_eql_gen 22 16 und_16 ea eb hla hlb
    have hr2 := run_eql_gen 22 16 und_16 a b ha hb
    rw [hq] at hr1
    obtain ⟨q, hqq⟩ : ∃ x, decide (a = b) = x := ⟨_, rfl⟩
    rw [hqq] at hr1 hr2
    have HR1 := Lib.hid hr1
    have HR2 := Lib.hid hr2
    have HAS : Hid ((u8s a).toArray.size = 16) := Lib.hid (by rw [List.size_toArray, u8s_length, ha])
    have HBS : Hid ((u8s b).toArray.size = 16) := Lib.hid (by rw [List.size_toArray, u8s_length, hb])
    clear hk ha hb hkey hkl hkk hKK hla hlb hea heb hq hqq hwz hr1 hr2
    go_enter Try.func13, Try.ntmps13
    go_wp2_with (first
      | (go_at_call 44; go_must (rw [HWZ.out]); refine (aBuild_any wz).mono ?_; rintro e1 w1 ⟨tg, rfl, hg1, ht1, hx1⟩; have HT1 := Lib.hid ht1; have HX1 := Lib.hid (HT0.out.x.trans hx1); have HZ1 := Lib.hid (HT0.out.no hx1); clear hg1 ht1 hx1)
      | (go_at_call 48; refine (HKC.out w1 HX1.out).mono ?_; rintro e2 w2 ⟨v2, rfl, ho2, hx2⟩; obtain ⟨A2, c2, rfl, -⟩ := ho2.slice; have HK2 := Lib.hid ho2.any; have HX2 := Lib.hid (HX1.out.trans hx2); have HT2 := Lib.hid (HT1.out.ext_no hx2); have HZ2 := Lib.hid (HZ1.out.no hx2); clear ho2 hx2)
      | (go_at_call 49; refine (HNC.out tg _ w2 HK2.out HT2.out).mono ?_; rintro e3 w3 ⟨gc, rfl, hg3, hc3, hx3⟩; have HG : Hid (G4 w gc tg w.heap.size (w.heap.size + 1) KK a b w3) := Lib.hid ⟨hc3, HZ2.out.a.ext_no hx3, HZ2.out.b.ext_no hx3, HX2.out.trans hx3⟩; clear hg3 hc3 hx3))
    rw [show decide ((100 : Int) < (k.length : Int)) = false from decide_eq_false (by omega)]
    clear HT0 HX1 HT1 HZ1 HK2 HX2 HT2 HZ2 HKC HNC
    refine RF.region (vs := fun | 14 => Value.bool false | _ => undef) rfl (fun vs => ((Value.slice kA k.length kc) :: (Value.agg (u8s a).toArray) :: (Value.agg (u8s b).toArray) :: undef :: (Value.pointer (some ⟨w.heap.size, 0, none⟩)) :: (Value.pointer (some ⟨w.heap.size + 1, 0, none⟩)) :: (vs 14) :: (pB gc) :: (Value.int IntKind.i64 0) :: (Value.slice kA k.length kc) :: (Value.int IntKind.i64 (k.length : Int)) :: (Value.bool false) :: undef :: (Value.tuple #[pB gc, Value.int IntKind.i64 0]) :: (pB tg) :: (Value.slice kA k.length kc) :: (Value.slice A2 key.length c2) :: (Value.tuple #[pB gc, Value.int IntKind.i64 0]) :: (pB gc) :: (Value.int IntKind.i64 0) :: (Value.int IntKind.i64 0) :: (Value.bool false) :: (Value.bool false) :: (pB gc) :: (Value.bool false) :: (Value.bool false) :: (vs 0) :: (vs 1) :: (vs 2) :: (vs 3) :: (vs 4) :: (vs 5) :: (vs 6) :: (vs 7) :: (vs 8) :: (vs 9) :: (vs 10) :: (vs 11) :: (vs 12) :: (vs 13) :: []).toArray)
      (FP gc a b ea eb q) (fun vs wx => Hid (G4 w gc tg w.heap.size (w.heap.size + 1) KK a b wx)) rfl (by kernel_rfl) ?_ ?_ ?_
    · exact G4.no HG (Ext.refl No _).drew
    · refine ⟨⟨⟨⟨⟨⟨⟨⟨⟨⟨⟨⟨⟨⟨⟨trivial, ?_⟩, ?_⟩, ?_⟩, ?_⟩, ?_⟩, ?_⟩, ?_⟩, ?_⟩, ?_⟩, ?_⟩, ?_⟩, ?_⟩, ?_⟩, ?_⟩, ?_⟩
      · refine RF.Step.plain rfl rfl (fun vs wx hG hv hd K hK => ?_)
        go_simp
        exact hK _ _ hG rfl (fun _ _ h => h)
      · refine RF.Step.plain rfl rfl (fun vs wx hG hv hd K hK => ?_)
        refine wp_load_row 22 (.tmp 4) rfl _ rfl _ _ _ _ hG.out.a und_16 rfl (by rw [HAS.out]; exact size_16) ?_
        exact hK _ _ hG rfl (fun _ _ h => h)
      · refine RF.Step.plain rfl rfl (fun vs wx hG hv hd K hK => ?_)
        have h0 : vs 0 = pB gc := by first | exact hd.1 | exact hd.2.1 | exact hd.2.2.1 | exact hd.2.2.2.1
        have h1 : vs 1 = .agg (u8s a).toArray := by first | exact hd.1 | exact hd.2.1 | exact hd.2.2.1 | exact hd.2.2.2.1
        go_simp
        refine (HBA.out gc tg wx hG.out.c).mono ?_
        rintro e w' ⟨rfl, hx⟩
        have h4 := hK _ _ (G4.no hG hx) rfl (fun j _ h => FP.no j _ h)
        first | (simpa only [RF.upd, h0, h1, Nat.reduceEqDiff, if_true, if_false, reduceIte] using h4) | (simp only [RF.upd, h0, h1, Nat.reduceEqDiff, if_true, if_false, reduceIte] at h4 ⊢; exact h4)
      · refine RF.Step.plain rfl rfl (fun vs wx hG hv hd K hK => ?_)
        go_simp
        exact hK _ _ hG rfl (fun _ _ h => h)
      · refine RF.Step.plain rfl rfl (fun vs wx hG hv hd K hK => ?_)
        refine wp_load_row 22 (.tmp 5) rfl _ rfl _ _ _ _ hG.out.b und_16 rfl (by rw [HBS.out]; exact size_16) ?_
        exact hK _ _ hG rfl (fun _ _ h => h)
      · refine RF.Step.plain rfl rfl (fun vs wx hG hv hd K hK => ?_)
        have h0 : vs 3 = pB gc := by first | exact hd.1 | exact hd.2.1 | exact hd.2.2.1 | exact hd.2.2.2.1
        have h1 : vs 4 = .agg (u8s b).toArray := by first | exact hd.1 | exact hd.2.1 | exact hd.2.2.1 | exact hd.2.2.2.1
        go_simp
        refine (HBB.out gc tg wx hG.out.c).mono ?_
        rintro e w' ⟨rfl, hx⟩
        have h4 := hK _ _ (G4.no hG hx) rfl (fun j _ h => FP.no j _ h)
        first | (simpa only [RF.upd, h0, h1, Nat.reduceEqDiff, if_true, if_false, reduceIte] using h4) | (simp only [RF.upd, h0, h1, Nat.reduceEqDiff, if_true, if_false, reduceIte] at h4 ⊢; exact h4)
      · refine RF.Step.plain rfl rfl (fun vs wx hG hv hd K hK => ?_)
        have h0 : vs 2 = .agg (u8s ea).toArray := by first | exact hd.1 | exact hd.2.1 | exact hd.2.2.1 | exact hd.2.2.2.1
        have h1 : vs 5 = .agg (u8s eb).toArray := by first | exact hd.1 | exact hd.2.1 | exact hd.2.2.1 | exact hd.2.2.2.1
        have hr := HR1.out wx
        go_simp
        have h4 := hK (.bool q) _ hG rfl (fun _ _ h => h)
        first | (simpa only [RF.upd, h0, h1, Nat.reduceEqDiff, if_true, if_false, reduceIte] using h4) | (simp only [RF.upd, h0, h1, Nat.reduceEqDiff, if_true, if_false, reduceIte] at h4 ⊢; exact h4)
      · refine RF.Step.plain rfl rfl (fun vs wx hG hv hd K hK => ?_)
        refine wp_load_row 22 (.tmp 4) rfl _ rfl _ _ _ _ hG.out.a und_16 rfl (by rw [HAS.out]; exact size_16) ?_
        exact hK _ _ hG rfl (fun _ _ h => h)
      · refine RF.Step.plain rfl rfl (fun vs wx hG hv hd K hK => ?_)
        refine wp_load_row 22 (.tmp 5) rfl _ rfl _ _ _ _ hG.out.b und_16 rfl (by rw [HBS.out]; exact size_16) ?_
        exact hK _ _ hG rfl (fun _ _ h => h)
      · refine RF.Step.plain rfl rfl (fun vs wx hG hv hd K hK => ?_)
        have h0 : vs 7 = .agg (u8s a).toArray := by first | exact hd.1 | exact hd.2.1 | exact hd.2.2.1 | exact hd.2.2.2.1
        have h1 : vs 8 = .agg (u8s b).toArray := by first | exact hd.1 | exact hd.2.1 | exact hd.2.2.1 | exact hd.2.2.2.1
        have hr := HR2.out wx
        go_simp
        have h4 := hK (.bool q) _ hG rfl (fun _ _ h => h)
        first | (simpa only [RF.upd, h0, h1, Nat.reduceEqDiff, if_true, if_false, reduceIte] using h4) | (simp only [RF.upd, h0, h1, Nat.reduceEqDiff, if_true, if_false, reduceIte] at h4 ⊢; exact h4)
      · refine RF.Step.plain rfl rfl (fun vs wx hG hv hd K hK => ?_)
        have h0 : vs 6 = .bool q := by first | exact hd.1 | exact hd.2.1 | exact hd.2.2.1 | exact hd.2.2.2.1
        have h1 : vs 9 = .bool q := by first | exact hd.1 | exact hd.2.1 | exact hd.2.2.1 | exact hd.2.2.2.1
        go_simp
        have h4 := hK (.bool true) _ hG rfl (fun _ _ h => h)
        first | (simpa only [RF.upd, h0, h1, Nat.reduceEqDiff, if_true, if_false, reduceIte] using h4) | (simp only [RF.upd, h0, h1, Nat.reduceEqDiff, if_true, if_false, reduceIte] at h4 ⊢; exact h4)
      · refine RF.Step.plain rfl rfl (fun vs wx hG hv hd K hK => ?_)
        have h0 : vs 10 = .bool true := by first | exact hd.1 | exact hd.2.1 | exact hd.2.2.1 | exact hd.2.2.2.1
        go_simp
        have h4 := hK (.bool true) _ hG rfl (fun _ _ h => h)
        first | (simpa only [RF.upd, h0, Nat.reduceEqDiff, if_true, if_false, reduceIte] using h4) | (simp only [RF.upd, h0, Nat.reduceEqDiff, if_true, if_false, reduceIte] at h4 ⊢; exact h4)
      · refine RF.Step.guarded rfl (fun vs wx hG hv hd => ?_) (fun vs wx hG hv hd K hK => ?_)
        · have h0 : vs 11 = .bool true := by first | exact hd.1 | exact hd.2.1 | exact hd.2.2.1 | exact hd.2.2.2.1
          simp [Region.wanted, yielded, h0]
        · have h0 : vs 11 = .bool true := by first | exact hd.1 | exact hd.2.1 | exact hd.2.2.1 | exact hd.2.2.2.1
          go_simp
          refine (works04 wx).mono ?_
          rintro e w' ⟨rfl, hx⟩
          have h4 := hK _ _ (G4.no hG hx) rfl (fun j _ h => FP.no j _ h)
          first | (simpa only [RF.upd, h0, Nat.reduceEqDiff, if_true, if_false, reduceIte] using h4) | (simp only [RF.upd, h0, Nat.reduceEqDiff, if_true, if_false, reduceIte] at h4 ⊢; exact h4)
      · refine RF.Step.plain rfl rfl (fun vs wx hG hv hd K hK => ?_)
        have h0 : vs 11 = .bool true := by first | exact hd.1 | exact hd.2.1 | exact hd.2.2.1 | exact hd.2.2.2.1
        have h1 : vs 12 = .bool true := by first | exact hd.1 | exact hd.2.1 | exact hd.2.2.1 | exact hd.2.2.2.1
        go_simp
        have h4 := hK (.bool true) _ hG rfl (fun _ _ h => h)
        first | (simpa only [RF.upd, h0, h1, Nat.reduceEqDiff, if_true, if_false, reduceIte] using h4) | (simp only [RF.upd, h0, h1, Nat.reduceEqDiff, if_true, if_false, reduceIte] at h4 ⊢; exact h4)
      · refine RF.Step.plain rfl rfl (fun vs wx hG hv hd K hK => ?_)
        have h0 : vs 13 = .bool true := by first | exact hd.1 | exact hd.2.1 | exact hd.2.2.1 | exact hd.2.2.2.1
        go_simp
        have h4 := hK (.bool true) _ hG rfl (fun _ _ h => h)
        first | (simpa only [RF.upd, h0, Nat.reduceEqDiff, if_true, if_false, reduceIte] using h4) | (simp only [RF.upd, h0, Nat.reduceEqDiff, if_true, if_false, reduceIte] at h4 ⊢; exact h4)
    · intro vs wx hG hF
      have h14 : vs 14 = .bool true := hF 14 (by decide)
      have HXF := Lib.hid hG.out.x
      clear hG hF
      go_wp2_with fail
      go_ret
      exact ⟨by show Ending.returned (vs 14) = _; rw [h14], HXF.out⟩
open Go.ChangeShapes Go.WideShapes in
set_option maxRecDepth 100000 in
theorem walk_AesApart (W : World) (v0 v1 v2 : Value) (u0 : Rd Try.prog W 27 v0.cells.toList) (u1 : Rd Try.prog W 22 v1.cells.toList) (u2 : Rd Try.prog W 22 v2.cells.toList)
    {r : Reach} {base : Nat} (ok0 : Value.okWide Try.prog W r base 27 v0) (ok1 : Value.okWide Try.prog W r base 22 v1) (ok2 : Value.okWide Try.prog W r base 22 v2) :
    Calls Try.prog 13 #[v0, v1, v2] W fun e W' => e = .returned (.bool true) ∧ Ext No W W' := by
  obtain ⟨A, len, cap, rfl⟩ := okWide_slice Try.underlying27 ok0
  obtain ⟨A', c', b, he, hb⟩ := bytes_of u0
  have he : [Value.slice A len cap] = [.slice A' b.length c'] := he
  simp only [List.cons.injEq, Value.slice.injEq, and_true] at he
  obtain ⟨rfl, rfl, rfl⟩ := he
  obtain ⟨l, hl, rfl⟩ := bytesN_of und_16 (by kernel_rfl) ok1 u1
  obtain ⟨m, hm, rfl⟩ := bytesN_of und_16 (by kernel_rfl) ok2 u2
  exact apart04 _ b l m W hb.any hl hm
end Go.Proofs.Ytljddghamgjfbaa
