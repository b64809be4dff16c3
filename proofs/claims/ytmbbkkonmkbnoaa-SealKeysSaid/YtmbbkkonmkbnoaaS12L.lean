/- SealKeys. -/
import Derived.Test.YtmbbkkonmkbnoaaS12H
import Derived.Test.YtmbbkkonmkbnoaaS12G
set_option linter.unusedVariables false
set_option linter.unusedSimpArgs false
namespace Go.Proofs.Ytmbbkkonmkbnoaa
open Go.RowKit Go.Deep
theorem aDerive {W w : World} {g k : Nat} {F : Nat → Prop} {S : Sr} {fv pv : Value} {from_ : List UInt8} {ls : List (List UInt8)} (h : Sl1 W w g F S) (hk : Kd k S) (hkb : k ≤ 100000) (hf : Bs w Any fv from_) (hfl : from_.length = 32) (hp : Parts w Any pv ls) (hll : (packL ls).length ≤ 1000000) :
    Calls Try.prog 40 #[sp g, fv, pv] w fun x w' => ∃ A c F', x = .returned (.slice A 32 c) ∧ By w' (.slice A 32 c) (kidKey S from_ (packL ls)) ∧ Slr w' g F' (kidSr S from_ (packL ls)) ∧ Ext F w w' ∧ ∀ b, F' b → F b ∨ w.heap.size ≤ b :=
  (sDerive_i g F S fv pv from_ ls w h.s hk.i hf hp (by omega) (by omega) (by have := hk.l; omega) hk.keys (by have := hk.c; omega)).mono (by
    rintro x w' ⟨r, F', rfl, ho, hs, hx, hF⟩
    obtain ⟨A, c, rfl, hb⟩ := own_len' ho (hk.klen _ _)
    exact ⟨A, c, F', rfl, hb, hs, hx, hF⟩)
theorem parts_row {w : World} {b : Nat} {v : Value} {l : List UInt8} (hb : Blk w b 22 #[v]) (h : Bs w Any v l) : Parts w Any (.slice (some ⟨b, 0, none⟩) 1 1) [l] := by
  refine ⟨[v], ⟨rfl, _, _, rfl, Nat.le_refl _, by simp [maxLen], fun _ => ⟨b, 0, rfl, trivial, fun j u hu => ?_⟩⟩, fun i hi => ?_⟩
  · rw [Nat.zero_add, hb.cell]; simpa using hu
  · obtain rfl : i = 0 := by simp at hi; omega
    exact ⟨v, rfl, h⟩
theorem pack_flat (ls : List (List UInt8)) : (packL ls).length = ls.length * 4 + ls.flatten.length := by
  induction ls with
  | nil => rfl
  | cons p ls ih => rw [packL_cons, List.length_append, List.length_append, putL_length, ih, List.flatten_cons, List.length_append, List.length_cons]; omega
theorem flat_part {ls : List (List UInt8)} {p : List UInt8} (h : p ∈ ls) : p.length ≤ ls.flatten.length := by
  induction ls with
  | nil => cases h
  | cons q ls ih =>
    rw [List.flatten_cons, List.length_append]
    rcases List.mem_cons.1 h with rfl | h
    · omega
    · have := ih h; omega
def F10k (gs : Nat) (x : Op12) (mb mo mc : Nat) (ms : List Op12) (k : Nat) (Sz : Sr) : Nat → Value → World → Prop
  | 0, v, _ => v = Value.pointer (some ⟨gs, 0, none⟩)
  | 1, v, _ => v = Value.slice (some ⟨mb, mo, none⟩) ms.length mc
  | 2, v, _ => v = Value.int .i64 (k : Int)
  | 3, v, _ => v = Value.pointer (some ⟨mb, mo + k * 7, none⟩)
  | 4, v, _ => v = Value.pointer (some ⟨mb, mo + k * 7 + 1, none⟩)
  | 5, v, _ => v = Value.int .u8 x.key
  | 6, v, w => PB (32) ((key4 x.key.toNat)) (v) w
  | 7, v, _ => v = Value.slice (some ⟨mb, mo, none⟩) ms.length mc
  | 8, v, _ => v = Value.int .i64 (k : Int)
  | 9, v, _ => v = Value.pointer (some ⟨mb, mo + k * 7, none⟩)
  | 10, v, _ => v = Value.pointer (some ⟨mb, mo + k * 7 + 3, none⟩)
  | 11, v, _ => v = Value.slice x.bA x.bd.length x.bc
  | 12, v, w => PR (Value.slice x.bA x.bd.length x.bc) (v) w
  | 13, v, w => PB (32) ((kidKey Sz (key4 x.key.toNat) (packL [x.bd]))) (sn (v)) w ∧ fs (v) = .bool true
  | _, _, _ => True
theorem F10k.kp (gs : Nat) (x : Op12) (mb mo mc : Nat) (ms : List Op12) (k : Nat) (Sz : Sr) {T : Nat → Prop} {w w' : World} (kq : Kp T w w') : ∀ j v, F10k gs x mb mo mc ms k Sz j v w → F10k gs x mb mo mc ms k Sz j v w' := by
  intro j v h
  match j, h with
  | 0, h | 1, h | 2, h | 3, h | 4, h | 5, h | 7, h | 8, h | 9, h | 10, h | 11, h => exact h
  | 6, h => exact PB.kp h kq
  | 12, h => exact PR.kp h kq
  | 13, h => exact ⟨PB.kp h.1 kq, h.2⟩
  | m + 14, _ => trivial
set_option maxRecDepth 100000 in
theorem parts_val {W : World} {v : Value} {r : Reach} {base : Nat} (u : Rd Try.prog W 28 v.cells.toList) (ok : Value.okWide Try.prog W r base 28 v) : ∃ ls, Parts W Any v ls := by
  obtain ⟨Aa, na, ca, rfl⟩ := Go.WideShapes.okWide_slice Try.underlying28 ok
  obtain ⟨A1, c1, ls, e1, h1⟩ := parts_of u
  have e1 : [Value.slice Aa na ca] = [.slice A1 ls.length c1] := e1
  injection e1 with e1
  rw [e1]
  exact ⟨ls, h1.mono fun _ _ => trivial⟩
/-- In the loop: the first key's child is there. -/
structure KyS (W w : World) (gs k : Nat) (K P X : List UInt8) (F : Nat → Prop) (S : Sr) : Prop where
  s : Sl1 W w gs F S
  d : Kd (k + 1) S
  h : ∃ c, S.kids.find? (hitC K P) = some c ∧ c.key = X
set_option pp.deepTerms true in
set_option pp.maxSteps 1000000 in
set_option maxRecDepth 100000 in
set_option maxHeartbeats 8000000 in
theorem keys12_any (a b : Int) (ha : 0 ≤ a ∧ a ≤ 255) (hb : 0 ≤ b ∧ b ≤ 255) (lv mv ov : Value) (ll ml : List (List UInt8)) (ms : List Op12) (W : World) (hl : Parts W Any lv ll) (hm : Parts W Any mv ml) (ho : Op12s W Any W.heap.size ov ms) :
    Calls Try.prog 10 #[.int .u8 a, .int .u8 b, lv, mv, ov] W fun e W' => e = .returned (.bool true) ∧ Ext No W W' := by
  obtain ⟨lA, lc, rfl, -⟩ := hl.slice
  obtain ⟨mA, mmc, rfl, -⟩ := hm.slice
  obtain ⟨oA, mc, rfl, hmc, hmm, mb, mo, hrow⟩ := ho.slice
  unfold maxLen at hmm
  have HLP := Lib.hid hl
  have HMP := Lib.hid hm
  have HO := Lib.hid ho
  have HROW := Lib.hid hrow
  have HA_ := Lib.hid ha
  have HB_ := Lib.hid hb
  obtain ⟨qb, hqb⟩ : ∃ q, decide (Light 20 ms) = q := ⟨_, rfl⟩
  have HQB := Lib.hid hqb
  clear hl hm ho hrow hqb ha hb
  go_enter Try.func10, Try.ntmps10
  go_wp2_with fail
  refine (short_any Any _ ll W HLP.out).mono ?_
  rintro e1 w1 ⟨hx1, hs1⟩
  have HX1 := Lib.hid hx1
  clear hx1
  rcases hs1 with rfl | ⟨rfl, hll1, hll2⟩
  · go_wp2_with (first
      | (go_at_call 33; (with_reducible refine (lWorks12 _).mono ?_); rintro e8 w8 ⟨rfl, hx⟩; have HX8 := Lib.hid (HX1.out.trans hx); clear hx))
    go_ret
    exact ⟨rfl, HX8.out⟩
  · have HLL := Lib.hid (And.intro hll1 hll2)
    clear hll1 hll2
    go_wp2_with fail
    refine (short_any Any _ ml _ (HMP.out.ext_no HX1.out)).mono ?_
    rintro e2 w2 ⟨hx2, hs2⟩
    have HX2 := Lib.hid (HX1.out.trans hx2)
    clear hx2
    rcases hs2 with rfl | ⟨rfl, hml1, hml2⟩
    · go_wp2_with (first
        | (go_at_call 33; (with_reducible refine (lWorks12 _).mono ?_); rintro e8 w8 ⟨rfl, hx⟩; have HX8 := Lib.hid (HX2.out.trans hx); clear hx))
      go_ret
      exact ⟨rfl, HX8.out⟩
    · have HML := Lib.hid (And.intro hml1 hml2)
      clear hml1 hml2
      cases qb with
      | false =>
        go_wp2_with (first
          | (go_at_call 32; (with_reducible refine (lLight20 _ ms W.heap.size false HQB.out _ (HO.out.ext_no HX2.out)).mono ?_); rintro e3 w3 ⟨rfl, hx⟩; have HX3 := Lib.hid (HX2.out.trans hx); clear hx)
          | (go_at_call 33; (with_reducible refine (lWorks12 _).mono ?_); rintro e8 w8 ⟨rfl, hx⟩; have HX8 := Lib.hid (HX3.out.trans hx); clear hx))
        go_ret
        exact ⟨rfl, HX8.out⟩
      | true =>
        have HLM := Lib.hid (of_decide_eq_true HQB.out)
        have HPL : Hid ((packL ll).length ≤ 1000000) := Lib.hid (by have h1 := pack_flat ll; have h2 := HLL.out; omega)
        have HPM : Hid ((packL ml).length ≤ 1000000) := Lib.hid (by have h1 := pack_flat ml; have h2 := HML.out; omega)
        go_wp2_with (first
          | (go_at_call 32; (with_reducible refine (lLight20 _ ms W.heap.size true HQB.out _ (HO.out.ext_no HX2.out)).mono ?_); rintro e3 w3 ⟨rfl, hx⟩; have HX3 := Lib.hid (HX2.out.trans hx); clear hx)
          | (go_at_call 16; (with_reducible refine (sNew_any true _).mono ?_); rintro e4 w4 ⟨gs, F4, rfl, hs, hx, hF⟩; have HS4 := Lib.hid (Sl1.new hs HX3.out hx hF); clear hs hx hF)
          | (go_at_call 36; (with_reducible refine (lKey4' a HA_.out.1 HA_.out.2 _).mono ?_); rintro e5 w5 ⟨kv, rfl, ⟨Ak, ck, rfl, hk⟩, hx⟩; have HS5 := Lib.hid (HS4.out.no hx); have HK5 := Lib.hid hk; clear hk hx)
          | (go_at_call 40; (with_reducible refine (aDerive HS5.out Kd.new (by decide) HK5.out.any (key4_length _) (HLP.out.ext_no HS5.out.x) HPL.out).mono ?_); rintro e6 w6 ⟨Ax, cx, F6, rfl, hb, hs, hx, hF⟩; have HS6 := Lib.hid (HS5.out.step hs hx hF); have HX6 := Lib.hid hb; clear hb hs hx hF))
        obtain ⟨X, hX⟩ : ∃ l, kidKey (Sr.new true) (key4 a.toNat) (packL ll) = l := ⟨_, rfl⟩
        rw [hX] at HX6
        have HY6 : Hid (KyS W w6 gs 0 (key4 a.toNat) (packL ll) X F6 (kidSr (Sr.new true) (key4 a.toNat) (packL ll))) := Lib.hid ⟨HS6.out, Kd.new.step (by decide) _ _, by obtain ⟨c, h1, h2⟩ := kid_has (S := Sr.new true) (f := key4 a.toNat) (w := packL ll); exact ⟨c, h1, by rw [h2, hX]⟩⟩
        have hml : ms.length ≤ 20 := HLM.out.1
        clear hX
        go_loopw [13] (fun iv wr => ∃ k : Nat, k ≤ ms.length ∧ iv = .int .i64 k ∧ Hid (∃ F S, KyS W wr gs k (key4 a.toNat) (packL ll) X F S) ∧ Hid (By wr (.slice Ax 32 cx) X)) (fun iv _ => ms.length - (intOf iv).toNat)
        case atStart => exact ⟨0, by omega, rfl, Lib.hid ⟨_, _, HY6.out⟩, HX6⟩
        case round =>
          obtain ⟨k, hk, rfl, HST, HXR⟩ := hrel
          obtain ⟨Fz, Sz, hz⟩ := HST.out
          have HZ := Lib.hid hz
          have HKZ := Lib.hid hz.d
          clear hz HST
          by_cases hlt : k < ms.length
          · obtain ⟨hA0, -, hbl, hr, hxo⟩ := HROW.out k hlt
            have HMEM := Lib.hid (HLM.out.2 _ (List.getElem_mem hlt))
            obtain ⟨x, hx⟩ : ∃ x, ms[k] = x := ⟨_, rfl⟩
            rw [hx] at hr hxo HMEM
            subst hA0
            have HRC : Hid (∀ wx, Ext No W wx → wx.cell? ⟨mb, mo + k * 7 + 1, none⟩ = some (.int .u8 x.key) ∧ wx.cell? ⟨mb, mo + k * 7 + 3, none⟩ = some (.slice x.bA x.bd.length x.bc)) := Lib.hid (fun wx hx => by
              have h := range_ext' hr hx hbl (fun h => h)
              exact ⟨h 1 _ rfl, h 3 _ rfl⟩)
            have HXK := Lib.hid hxo.key
            have HXB : Hid (Bs W Any (.slice x.bA x.bd.length x.bc) x.bd) := Lib.hid hxo.b.any
            have HXP : Hid ((packL [x.bd]).length ≤ 1000000) := Lib.hid (by rw [pack_flat]; have := HMEM.out; simp; omega)
            have k0 : (0 : Int) ≤ (k : Int) := by omega
            have k1 : (k : Int) < (ms.length : Int) := by omega
            clear hr hxo hx
            go_wp2_with fail
            refine RF.region (vs := fun | 0 => u44 | 1 => u45 | 2 => u46 | 3 => u47 | 4 => u48 | 5 => u49 | 6 => u50 | 7 => u51 | 8 => u52 | 9 => u53 | 10 => u54 | 11 => u55 | 12 => u56 | 13 => .tuple #[.bool false, u57] | _ => undef) rfl (fun vs => ((Value.int IntKind.u8 a) :: (Value.int IntKind.u8 b) :: (Value.slice lA ll.length lc) :: (Value.slice mA ml.length mmc) :: (Value.slice (some ⟨mb, mo, none⟩) ms.length mc) :: undef :: undef :: undef :: undef :: undef :: (Value.bool false) :: (sp gs) :: (Value.slice Ax 32 cx) :: (Value.int IntKind.i64 (k : Int)) :: undef :: undef :: (Value.slice lA ll.length lc) :: (Value.int IntKind.i64 0) :: (Value.bool false) :: (Value.bool false) :: (Value.slice mA ml.length mmc) :: (Value.int IntKind.i64 0) :: (Value.bool false) :: (Value.bool false) :: (Value.bool false) :: (Value.slice (some ⟨mb, mo, none⟩) ms.length mc) :: (Value.bool true) :: (Value.bool false) :: (Value.bool false) :: undef :: (sp gs) :: (sp gs) :: (Value.bool false) :: (sp gs) :: (Value.int IntKind.u8 a) :: (Value.slice Ak 32 ck) :: (Value.slice lA ll.length lc) :: (Value.slice Ax 32 cx) :: (Value.int IntKind.i64 (k : Int)) :: (Value.slice (some ⟨mb, mo, none⟩) ms.length mc) :: (Value.int IntKind.i64 (ms.length : Int)) :: (Value.bool true) :: u42 :: u43 :: (vs 0) :: (vs 1) :: (vs 2) :: (vs 3) :: (vs 4) :: (vs 5) :: (vs 6) :: (vs 7) :: (vs 8) :: (vs 9) :: (vs 10) :: (vs 11) :: (vs 12) :: (sn (vs 13)) :: undef :: undef :: undef :: undef :: undef :: undef :: undef :: undef :: undef :: undef :: undef :: undef :: undef :: undef :: undef :: undef :: undef :: undef :: undef :: undef :: undef :: undef :: undef :: undef :: undef :: undef :: undef :: undef :: undef :: undef :: undef :: undef :: undef :: undef :: undef :: undef :: undef :: []).toArray)
              (F10k gs x mb mo mc ms k Sz) (fun vs wz => GQ W gs Fz (Sz) (kidSr Sz (key4 x.key.toNat) (packL [x.bd])) (fun w => By w (.slice Ax 32 cx) X) (vs 13) wz) rfl (by kernel_rfl) ?_ ?_ ?_
            · exact GQ.start HZ.out.s (HXR.out.ext_no ((Ext.refl No _).drew)) _
            · refine ⟨⟨⟨⟨⟨⟨⟨⟨⟨⟨⟨⟨⟨⟨trivial, ?_⟩, ?_⟩, ?_⟩, ?_⟩, ?_⟩, ?_⟩, ?_⟩, ?_⟩, ?_⟩, ?_⟩, ?_⟩, ?_⟩, ?_⟩, ?_⟩
              · refine RF.Step.plain rfl rfl (fun vs wx hG hv hd K hK => ?_)
                have HG0 := Lib.hid hG
                clear hG
                go_simp
                have hfin := hK _ _ HG0.out rfl (fun _ _ h => h)
                first | exact hfin | (simpa only [RF.upd, sn_mk, Nat.reduceEqDiff, if_true, if_false, reduceIte] using hfin) | (simp only [RF.upd, sn_mk, Nat.reduceEqDiff, if_true, if_false, reduceIte] at hfin ⊢; exact hfin)
              · refine RF.Step.plain rfl rfl (fun vs wx hG hv hd K hK => ?_)
                have HG0 := Lib.hid hG
                clear hG
                go_simp
                have hfin := hK _ _ HG0.out rfl (fun _ _ h => h)
                first | exact hfin | (simpa only [RF.upd, sn_mk, Nat.reduceEqDiff, if_true, if_false, reduceIte] using hfin) | (simp only [RF.upd, sn_mk, Nat.reduceEqDiff, if_true, if_false, reduceIte] at hfin ⊢; exact hfin)
              · refine RF.Step.plain rfl rfl (fun vs wx hG hv hd K hK => ?_)
                have HG0 := Lib.hid hG
                clear hG
                go_simp
                have hfin := hK _ _ HG0.out rfl (fun _ _ h => h)
                first | exact hfin | (simpa only [RF.upd, sn_mk, Nat.reduceEqDiff, if_true, if_false, reduceIte] using hfin) | (simp only [RF.upd, sn_mk, Nat.reduceEqDiff, if_true, if_false, reduceIte] at hfin ⊢; exact hfin)
              · refine RF.Step.plain rfl rfl (fun vs wx hG hv hd K hK => ?_)
                have h0 : vs 1 = Value.slice (some ⟨mb, mo, none⟩) ms.length mc := by first | exact hd.1 | exact hd.2.1 | exact hd.2.2.1 | exact hd.2.2.2.1 | exact hd.2.2.2.2.1
                have h1 : vs 2 = Value.int .i64 (k : Int) := by first | exact hd.1 | exact hd.2.1 | exact hd.2.2.1 | exact hd.2.2.2.1 | exact hd.2.2.2.2.1
                have HG0 := Lib.hid hG
                clear hG
                go_simp
                have hfin := hK _ _ HG0.out rfl (fun _ _ h => h)
                first | exact hfin | (simpa only [RF.upd, sn_mk, h0, h1, Nat.reduceEqDiff, if_true, if_false, reduceIte] using hfin) | (simp only [RF.upd, sn_mk, h0, h1, Nat.reduceEqDiff, if_true, if_false, reduceIte] at hfin ⊢; exact hfin)
              · refine RF.Step.plain rfl rfl (fun vs wx hG hv hd K hK => ?_)
                have h0 : vs 3 = Value.pointer (some ⟨mb, mo + k * 7, none⟩) := by first | exact hd.1 | exact hd.2.1 | exact hd.2.2.1 | exact hd.2.2.2.1 | exact hd.2.2.2.2.1
                have HG0 := Lib.hid hG
                clear hG
                go_simp
                have hfin := hK _ _ HG0.out rfl (fun _ _ h => h)
                first | exact hfin | (simpa only [RF.upd, sn_mk, h0, Nat.reduceEqDiff, if_true, if_false, reduceIte] using hfin) | (simp only [RF.upd, sn_mk, h0, Nat.reduceEqDiff, if_true, if_false, reduceIte] at hfin ⊢; exact hfin)
              · refine RF.Step.plain rfl rfl (fun vs wx hG hv hd K hK => ?_)
                have h0 : vs 4 = Value.pointer (some ⟨mb, mo + k * 7 + 1, none⟩) := by first | exact hd.1 | exact hd.2.1 | exact hd.2.2.1 | exact hd.2.2.2.1 | exact hd.2.2.2.2.1
                obtain ⟨q1, q3⟩ := HRC.out wx hG.x
                have HG0 := Lib.hid hG
                clear hG
                go_simp
                have hfin := hK _ _ HG0.out rfl (fun _ _ h => h)
                first | exact hfin | (simpa only [RF.upd, sn_mk, h0, Nat.reduceEqDiff, if_true, if_false, reduceIte] using hfin) | (simp only [RF.upd, sn_mk, h0, Nat.reduceEqDiff, if_true, if_false, reduceIte] at hfin ⊢; exact hfin)
              · refine RF.Step.plain rfl rfl (fun vs wx hG hv hd K hK => ?_)
                have h0 : vs 5 = Value.int .u8 x.key := by first | exact hd.1 | exact hd.2.1 | exact hd.2.2.1 | exact hd.2.2.2.1 | exact hd.2.2.2.2.1
                go_simp
                refine (lKey4' x.key HXK.out.1 HXK.out.2 _).mono ?_
                rintro e_ w' ⟨r, rfl, hp, hx⟩
                have hfin := hK r _ (hG.no hx (fun T a b k h => By.kp h k)) hp (fun j_ _ h => F10k.kp gs x mb mo mc ms k Sz (Kp.no hx) j_ _ h)
                first | exact hfin | (simpa only [RF.upd, sn_mk, h0, Nat.reduceEqDiff, if_true, if_false, reduceIte] using hfin) | (simp only [RF.upd, sn_mk, h0, Nat.reduceEqDiff, if_true, if_false, reduceIte] at hfin ⊢; exact hfin)
              · refine RF.Step.plain rfl rfl (fun vs wx hG hv hd K hK => ?_)
                have HG0 := Lib.hid hG
                clear hG
                go_simp
                have hfin := hK _ _ HG0.out rfl (fun _ _ h => h)
                first | exact hfin | (simpa only [RF.upd, sn_mk, Nat.reduceEqDiff, if_true, if_false, reduceIte] using hfin) | (simp only [RF.upd, sn_mk, Nat.reduceEqDiff, if_true, if_false, reduceIte] at hfin ⊢; exact hfin)
              · refine RF.Step.plain rfl rfl (fun vs wx hG hv hd K hK => ?_)
                have HG0 := Lib.hid hG
                clear hG
                go_simp
                have hfin := hK _ _ HG0.out rfl (fun _ _ h => h)
                first | exact hfin | (simpa only [RF.upd, sn_mk, Nat.reduceEqDiff, if_true, if_false, reduceIte] using hfin) | (simp only [RF.upd, sn_mk, Nat.reduceEqDiff, if_true, if_false, reduceIte] at hfin ⊢; exact hfin)
              · refine RF.Step.plain rfl rfl (fun vs wx hG hv hd K hK => ?_)
                have h0 : vs 7 = Value.slice (some ⟨mb, mo, none⟩) ms.length mc := by first | exact hd.1 | exact hd.2.1 | exact hd.2.2.1 | exact hd.2.2.2.1 | exact hd.2.2.2.2.1
                have h1 : vs 8 = Value.int .i64 (k : Int) := by first | exact hd.1 | exact hd.2.1 | exact hd.2.2.1 | exact hd.2.2.2.1 | exact hd.2.2.2.2.1
                have HG0 := Lib.hid hG
                clear hG
                go_simp
                have hfin := hK _ _ HG0.out rfl (fun _ _ h => h)
                first | exact hfin | (simpa only [RF.upd, sn_mk, h0, h1, Nat.reduceEqDiff, if_true, if_false, reduceIte] using hfin) | (simp only [RF.upd, sn_mk, h0, h1, Nat.reduceEqDiff, if_true, if_false, reduceIte] at hfin ⊢; exact hfin)
              · refine RF.Step.plain rfl rfl (fun vs wx hG hv hd K hK => ?_)
                have h0 : vs 9 = Value.pointer (some ⟨mb, mo + k * 7, none⟩) := by first | exact hd.1 | exact hd.2.1 | exact hd.2.2.1 | exact hd.2.2.2.1 | exact hd.2.2.2.2.1
                have HG0 := Lib.hid hG
                clear hG
                go_simp
                have hfin := hK _ _ HG0.out rfl (fun _ _ h => h)
                first | exact hfin | (simpa only [RF.upd, sn_mk, h0, Nat.reduceEqDiff, if_true, if_false, reduceIte] using hfin) | (simp only [RF.upd, sn_mk, h0, Nat.reduceEqDiff, if_true, if_false, reduceIte] at hfin ⊢; exact hfin)
              · refine RF.Step.plain rfl rfl (fun vs wx hG hv hd K hK => ?_)
                have h0 : vs 10 = Value.pointer (some ⟨mb, mo + k * 7 + 3, none⟩) := by first | exact hd.1 | exact hd.2.1 | exact hd.2.2.1 | exact hd.2.2.2.1 | exact hd.2.2.2.2.1
                obtain ⟨q1, q3⟩ := HRC.out wx hG.x
                have HG0 := Lib.hid hG
                clear hG
                go_simp
                have hfin := hK _ _ HG0.out rfl (fun _ _ h => h)
                first | exact hfin | (simpa only [RF.upd, sn_mk, h0, Nat.reduceEqDiff, if_true, if_false, reduceIte] using hfin) | (simp only [RF.upd, sn_mk, h0, Nat.reduceEqDiff, if_true, if_false, reduceIte] at hfin ⊢; exact hfin)
              · refine RF.Step.plain rfl rfl (fun vs wx hG hv hd K hK => ?_)
                have h0 : vs 11 = Value.slice x.bA x.bd.length x.bc := by first | exact hd.1 | exact hd.2.1 | exact hd.2.2.1 | exact hd.2.2.2.1 | exact hd.2.2.2.2.1
                have HG0 := Lib.hid hG
                clear hG
                go_simp
                have hxa : Ext No wx (wx.alloc (.cells #[Value.slice x.bA x.bd.length x.bc] 22)) := (Ext.refl No wx).alloc _
                have hfin := hK (.slice (some ⟨wx.heap.size, 0, none⟩) 1 1) (wx.alloc (.cells #[Value.slice x.bA x.bd.length x.bc] 22)) (HG0.out.no hxa (fun T a b k h => By.kp h k)) ⟨wx.heap.size, rfl, Blk.new _ _ _⟩ (fun j_ _ h => F10k.kp gs x mb mo mc ms k Sz (Kp.no hxa) j_ _ h)
                first | exact hfin | (simpa only [RF.upd, sn_mk, h0, Nat.reduceEqDiff, if_true, if_false, reduceIte] using hfin) | (simp only [RF.upd, sn_mk, h0, Nat.reduceEqDiff, if_true, if_false, reduceIte] at hfin ⊢; exact hfin)
              · refine RF.Step.plain rfl rfl (fun vs wx hG hv hd K hK => ?_)
                have h0 : vs 0 = Value.pointer (some ⟨gs, 0, none⟩) := by first | exact hd.1 | exact hd.2.1 | exact hd.2.2.1 | exact hd.2.2.2.1 | exact hd.2.2.2.2.1
                obtain ⟨A1_, c1_, h1, hb1⟩ : PB (32) ((key4 x.key.toNat)) (vs 6) wx := by first | exact hd.1 | exact hd.2.1 | exact hd.2.2.1 | exact hd.2.2.2.1 | exact hd.2.2.2.2.1
                obtain ⟨b2_, h2, hb2⟩ : PR (Value.slice x.bA x.bd.length x.bc) (vs 12) wx := by first | exact hd.1 | exact hd.2.1 | exact hd.2.2.1 | exact hd.2.2.2.1 | exact hd.2.2.2.2.1
                go_simp
                refine (aDerive (hG.old (by rw [hv]; rfl)) HKZ.out (by omega) hb1.any (key4_length _) (parts_row hb2 (HXB.out.ext_no hG.x)) HXP.out).mono ?_
                rintro e_ w' ⟨A_, c_, F', rfl, hb, hs, hx, hF⟩
                obtain ⟨k1, k2⟩ := hG.done (by rw [hv]; rfl) hs hx hF (fun T a b k h => By.kp h k) (.slice A_ (32) c_)
                have hfin := hK (.tuple #[.bool true, .slice A_ (32) c_]) w' k1 ⟨⟨A_, c_, rfl, hb⟩, rfl⟩ (fun j_ _ h => F10k.kp gs x mb mo mc ms k Sz k2 j_ _ h)
                first | exact hfin | (simpa only [RF.upd, sn_mk, h0, h1, h2, Nat.reduceEqDiff, if_true, if_false, reduceIte] using hfin) | (simp only [RF.upd, sn_mk, h0, h1, h2, Nat.reduceEqDiff, if_true, if_false, reduceIte] at hfin ⊢; exact hfin)
            · intro vsB wB hG hF
              obtain ⟨F6, hs6⟩ := hG.new_ (hF 13 (by decide)).2
              have HS6_ : Hid (∃ F S, KyS W wB gs (k + 1) (key4 a.toNat) (packL ll) X F S) := Lib.hid ⟨_, _, hs6, HKZ.out.step (by omega) _ _, by obtain ⟨c, h1, h2⟩ := HZ.out.h; exact ⟨c, kid_stays h1, h2⟩⟩
              have HE6 : Hid (By wB (.slice Ax 32 cx) X) := Lib.hid hG.ex
              clear hF hG hs6
              go_wp2
              go_roundw
              case rel => exact ⟨k + 1, by omega, by go_num, HS6_, HE6⟩
              case measure => simp [intOf]; omega
          · obtain rfl : k = ms.length := by omega
            obtain ⟨sm, hsm⟩ : ∃ q, decide (ll = ml) = q := ⟨_, rfl⟩
            have HSM := Lib.hid hsm
            clear hsm
            have HSZ := Lib.hid HZ.out.s
            obtain ⟨S8, hS8⟩ : ∃ S, kidSr Sz (key4 b.toNat) (packL ml) = S := ⟨_, rfl⟩
            obtain ⟨Y, hY⟩ : ∃ l, kidKey Sz (key4 b.toNat) (packL ml) = l := ⟨_, rfl⟩
            have HS8 := Lib.hid hS8
            have HYY := Lib.hid hY
            have HK8 : Hid (Kd (ms.length + 2) S8) := Lib.hid (by rw [← hS8]; exact HKZ.out.step (by omega) _ _)
            have HAG : Hid (kidKey S8 (key4 a.toNat) (packL ll) = X) := Lib.hid (by
              obtain ⟨c, h1, h2⟩ := HZ.out.h
              rw [← hS8, kid_again (kid_stays h1), h2])
            have HAP : Hid (decide (X = Y) = (decide (a % 4 = b % 4) && sm)) := Lib.hid (by
              obtain ⟨c, h1, h2⟩ := HZ.out.h
              have h3 := kid_apart HKZ.out (by omega) (f' := key4 b.toNat) (w' := packL ml) h1
              rw [h2, hY] at h3
              rw [h3, ← HSM.out, ← Bool.decide_and]
              apply decide_eq_decide.2
              rw [key4_inj]
              have e1 : (a.toNat % 4 = b.toNat % 4) ↔ (a % 4 = b % 4) := by have := HA_.out; have := HB_.out; omega
              rw [e1]
              constructor
              · rintro ⟨h4, h5⟩
                exact ⟨h4, packL_inj _ _ (fun p hp => by have := flat_part hp; have := HLL.out; omega) (fun p hp => by have := flat_part hp; have := HML.out; omega) h5⟩
              · rintro ⟨h4, h5⟩; exact ⟨h4, by rw [h5]⟩)
            obtain ⟨qs, hqs⟩ : ∃ q, decide (X = Y) = q := ⟨_, rfl⟩
            have HQS := Lib.hid hqs
            clear hS8 hY hqs
            have HT4 : Hid (a.tmod 4 = a % 4 ∧ b.tmod 4 = b % 4) := Lib.hid ⟨Int.tmod_eq_emod_of_nonneg HA_.out.1, Int.tmod_eq_emod_of_nonneg HB_.out.1⟩
            obtain ⟨m4, hm4⟩ : ∃ q, (a.tmod 4 == b.tmod 4) = q := ⟨_, rfl⟩
            have HM4 : Hid (qs = (m4 && sm)) := Lib.hid (by
              rw [← HQS.out, HAP.out, ← hm4, HT4.out.1, HT4.out.2]; rfl)
            have hq4 := hm4
            clear hm4
            cases m4 with
            | false =>
              cases sm with
              | false =>
                go_wp2_with (first
                  | (go_at_call 36; (with_reducible refine (lKey4' b HB_.out.1 HB_.out.2 _).mono ?_); rintro e7 w7 ⟨kv, rfl, ⟨Ak7, ck7, rfl, hk⟩, hx⟩; have HS7 := Lib.hid (HSZ.out.no hx); have HK7 := Lib.hid hk; have HX7 := Lib.hid (HXR.out.ext_no hx); clear hk hx)
                  | (go_at_call 40; (with_reducible refine (aDerive HS7.out HKZ.out (by omega) HK7.out.any (key4_length _) (HMP.out.ext_no HS7.out.x) HPM.out).mono ?_); rintro e8 w8 ⟨Ay, cy, F8, rfl, hb, hs, hx, hF⟩; have HX8 := Lib.hid (HS7.out.by_ hx HX7.out); have HT8 := Lib.hid (HS7.out.step hs hx hF); rw [HS8.out] at HT8; rw [HYY.out] at hb; have HY8 := Lib.hid hb; clear hb hs hx hF)
                  | (go_at_call 21; (with_reducible refine (rSameAll_any _ _ ll ml false HSM.out _ (HLP.out.ext_no HT8.out.x) (HMP.out.ext_no HT8.out.x)).mono ?_); rintro e9 w9 ⟨rfl, hx⟩; have HTA := Lib.hid (HT8.out.no hx); have HXA := Lib.hid (HX8.out.ext_no hx); have HYA := Lib.hid (HY8.out.ext_no hx); clear hx)
                  | (go_at_call 25; (with_reducible refine (rSame_q _ _ X Y qs HQS.out _ HX8.out.any HY8.out.any).mono ?_); rintro ea wa ⟨rfl, hx⟩; rw [HM4.out]; have HTB := Lib.hid (HT8.out.no hx); have HXB := Lib.hid (HX8.out.ext_no hx); clear hx)
                  | (go_at_call 36; (with_reducible refine (lKey4' a HA_.out.1 HA_.out.2 _).mono ?_); rintro eb wb ⟨kv, rfl, ⟨Akb, ckb, rfl, hk⟩, hx⟩; have HTC := Lib.hid (HTB.out.no hx); have HKC := Lib.hid hk; have HXC := Lib.hid (HXB.out.ext_no hx); clear hk hx)
                  | (go_at_call 40; (with_reducible refine (aDerive HTC.out HK8.out (by omega) HKC.out.any (key4_length _) (HLP.out.ext_no HTC.out.x) HPL.out).mono ?_); rintro ec wc ⟨Az, cz, F9, rfl, hb, hs, hx, hF⟩; rw [HAG.out] at hb; have HXD := Lib.hid (HTC.out.by_ hx HXC.out); have HTD := Lib.hid (HTC.out.step hs hx hF); have HZD := Lib.hid hb; clear hb hs hx hF)
                  | (go_at_call 25; (with_reducible refine (rSame_q _ _ X X true (decide_eq_true rfl) _ HZD.out.any HXD.out.any).mono ?_); rintro ed wd ⟨rfl, hx⟩; have HTE := Lib.hid (HTD.out.x.trans hx); clear hx)
                  | (go_at_call 33; (with_reducible refine (lWorks12 _).mono ?_); rintro ee we ⟨rfl, hx⟩; have HTF := Lib.hid (HTE.out.trans hx); clear hx))
                go_ret
                exact ⟨rfl, HTF.out⟩
              | true =>
                go_wp2_with (first
                  | (go_at_call 36; (with_reducible refine (lKey4' b HB_.out.1 HB_.out.2 _).mono ?_); rintro e7 w7 ⟨kv, rfl, ⟨Ak7, ck7, rfl, hk⟩, hx⟩; have HS7 := Lib.hid (HSZ.out.no hx); have HK7 := Lib.hid hk; have HX7 := Lib.hid (HXR.out.ext_no hx); clear hk hx)
                  | (go_at_call 40; (with_reducible refine (aDerive HS7.out HKZ.out (by omega) HK7.out.any (key4_length _) (HMP.out.ext_no HS7.out.x) HPM.out).mono ?_); rintro e8 w8 ⟨Ay, cy, F8, rfl, hb, hs, hx, hF⟩; have HX8 := Lib.hid (HS7.out.by_ hx HX7.out); have HT8 := Lib.hid (HS7.out.step hs hx hF); rw [HS8.out] at HT8; rw [HYY.out] at hb; have HY8 := Lib.hid hb; clear hb hs hx hF)
                  | (go_at_call 21; (with_reducible refine (rSameAll_any _ _ ll ml true HSM.out _ (HLP.out.ext_no HT8.out.x) (HMP.out.ext_no HT8.out.x)).mono ?_); rintro e9 w9 ⟨rfl, hx⟩; have HTA := Lib.hid (HT8.out.no hx); have HXA := Lib.hid (HX8.out.ext_no hx); have HYA := Lib.hid (HY8.out.ext_no hx); clear hx)
                  | (go_at_call 25; (with_reducible refine (rSame_q _ _ X Y qs HQS.out _ HX8.out.any HY8.out.any).mono ?_); rintro ea wa ⟨rfl, hx⟩; rw [HM4.out]; have HTB := Lib.hid (HT8.out.no hx); have HXB := Lib.hid (HX8.out.ext_no hx); clear hx)
                  | (go_at_call 36; (with_reducible refine (lKey4' a HA_.out.1 HA_.out.2 _).mono ?_); rintro eb wb ⟨kv, rfl, ⟨Akb, ckb, rfl, hk⟩, hx⟩; have HTC := Lib.hid (HTB.out.no hx); have HKC := Lib.hid hk; have HXC := Lib.hid (HXB.out.ext_no hx); clear hk hx)
                  | (go_at_call 40; (with_reducible refine (aDerive HTC.out HK8.out (by omega) HKC.out.any (key4_length _) (HLP.out.ext_no HTC.out.x) HPL.out).mono ?_); rintro ec wc ⟨Az, cz, F9, rfl, hb, hs, hx, hF⟩; rw [HAG.out] at hb; have HXD := Lib.hid (HTC.out.by_ hx HXC.out); have HTD := Lib.hid (HTC.out.step hs hx hF); have HZD := Lib.hid hb; clear hb hs hx hF)
                  | (go_at_call 25; (with_reducible refine (rSame_q _ _ X X true (decide_eq_true rfl) _ HZD.out.any HXD.out.any).mono ?_); rintro ed wd ⟨rfl, hx⟩; have HTE := Lib.hid (HTD.out.x.trans hx); clear hx)
                  | (go_at_call 33; (with_reducible refine (lWorks12 _).mono ?_); rintro ee we ⟨rfl, hx⟩; have HTF := Lib.hid (HTE.out.trans hx); clear hx))
                go_ret
                exact ⟨rfl, HTF.out⟩
            | true =>
              cases sm with
              | false =>
                go_wp2_with (first
                  | (go_at_call 36; (with_reducible refine (lKey4' b HB_.out.1 HB_.out.2 _).mono ?_); rintro e7 w7 ⟨kv, rfl, ⟨Ak7, ck7, rfl, hk⟩, hx⟩; have HS7 := Lib.hid (HSZ.out.no hx); have HK7 := Lib.hid hk; have HX7 := Lib.hid (HXR.out.ext_no hx); clear hk hx)
                  | (go_at_call 40; (with_reducible refine (aDerive HS7.out HKZ.out (by omega) HK7.out.any (key4_length _) (HMP.out.ext_no HS7.out.x) HPM.out).mono ?_); rintro e8 w8 ⟨Ay, cy, F8, rfl, hb, hs, hx, hF⟩; have HX8 := Lib.hid (HS7.out.by_ hx HX7.out); have HT8 := Lib.hid (HS7.out.step hs hx hF); rw [HS8.out] at HT8; rw [HYY.out] at hb; have HY8 := Lib.hid hb; clear hb hs hx hF)
                  | (go_at_call 21; (with_reducible refine (rSameAll_any _ _ ll ml false HSM.out _ (HLP.out.ext_no HT8.out.x) (HMP.out.ext_no HT8.out.x)).mono ?_); rintro e9 w9 ⟨rfl, hx⟩; have HTA := Lib.hid (HT8.out.no hx); have HXA := Lib.hid (HX8.out.ext_no hx); have HYA := Lib.hid (HY8.out.ext_no hx); clear hx)
                  | (go_at_call 25; (with_reducible refine (rSame_q _ _ X Y qs HQS.out _ HXA.out.any HYA.out.any).mono ?_); rintro ea wa ⟨rfl, hx⟩; rw [HM4.out]; have HTB := Lib.hid (HTA.out.no hx); have HXB := Lib.hid (HXA.out.ext_no hx); clear hx)
                  | (go_at_call 36; (with_reducible refine (lKey4' a HA_.out.1 HA_.out.2 _).mono ?_); rintro eb wb ⟨kv, rfl, ⟨Akb, ckb, rfl, hk⟩, hx⟩; have HTC := Lib.hid (HTB.out.no hx); have HKC := Lib.hid hk; have HXC := Lib.hid (HXB.out.ext_no hx); clear hk hx)
                  | (go_at_call 40; (with_reducible refine (aDerive HTC.out HK8.out (by omega) HKC.out.any (key4_length _) (HLP.out.ext_no HTC.out.x) HPL.out).mono ?_); rintro ec wc ⟨Az, cz, F9, rfl, hb, hs, hx, hF⟩; rw [HAG.out] at hb; have HXD := Lib.hid (HTC.out.by_ hx HXC.out); have HTD := Lib.hid (HTC.out.step hs hx hF); have HZD := Lib.hid hb; clear hb hs hx hF)
                  | (go_at_call 25; (with_reducible refine (rSame_q _ _ X X true (decide_eq_true rfl) _ HZD.out.any HXD.out.any).mono ?_); rintro ed wd ⟨rfl, hx⟩; have HTE := Lib.hid (HTD.out.x.trans hx); clear hx)
                  | (go_at_call 33; (with_reducible refine (lWorks12 _).mono ?_); rintro ee we ⟨rfl, hx⟩; have HTF := Lib.hid (HTE.out.trans hx); clear hx))
                go_ret
                exact ⟨rfl, HTF.out⟩
              | true =>
                go_wp2_with (first
                  | (go_at_call 36; (with_reducible refine (lKey4' b HB_.out.1 HB_.out.2 _).mono ?_); rintro e7 w7 ⟨kv, rfl, ⟨Ak7, ck7, rfl, hk⟩, hx⟩; have HS7 := Lib.hid (HSZ.out.no hx); have HK7 := Lib.hid hk; have HX7 := Lib.hid (HXR.out.ext_no hx); clear hk hx)
                  | (go_at_call 40; (with_reducible refine (aDerive HS7.out HKZ.out (by omega) HK7.out.any (key4_length _) (HMP.out.ext_no HS7.out.x) HPM.out).mono ?_); rintro e8 w8 ⟨Ay, cy, F8, rfl, hb, hs, hx, hF⟩; have HX8 := Lib.hid (HS7.out.by_ hx HX7.out); have HT8 := Lib.hid (HS7.out.step hs hx hF); rw [HS8.out] at HT8; rw [HYY.out] at hb; have HY8 := Lib.hid hb; clear hb hs hx hF)
                  | (go_at_call 21; (with_reducible refine (rSameAll_any _ _ ll ml true HSM.out _ (HLP.out.ext_no HT8.out.x) (HMP.out.ext_no HT8.out.x)).mono ?_); rintro e9 w9 ⟨rfl, hx⟩; have HTA := Lib.hid (HT8.out.no hx); have HXA := Lib.hid (HX8.out.ext_no hx); have HYA := Lib.hid (HY8.out.ext_no hx); clear hx)
                  | (go_at_call 25; (with_reducible refine (rSame_q _ _ X Y qs HQS.out _ HXA.out.any HYA.out.any).mono ?_); rintro ea wa ⟨rfl, hx⟩; rw [HM4.out]; have HTB := Lib.hid (HTA.out.no hx); have HXB := Lib.hid (HXA.out.ext_no hx); clear hx)
                  | (go_at_call 36; (with_reducible refine (lKey4' a HA_.out.1 HA_.out.2 _).mono ?_); rintro eb wb ⟨kv, rfl, ⟨Akb, ckb, rfl, hk⟩, hx⟩; have HTC := Lib.hid (HTB.out.no hx); have HKC := Lib.hid hk; have HXC := Lib.hid (HXB.out.ext_no hx); clear hk hx)
                  | (go_at_call 40; (with_reducible refine (aDerive HTC.out HK8.out (by omega) HKC.out.any (key4_length _) (HLP.out.ext_no HTC.out.x) HPL.out).mono ?_); rintro ec wc ⟨Az, cz, F9, rfl, hb, hs, hx, hF⟩; rw [HAG.out] at hb; have HXD := Lib.hid (HTC.out.by_ hx HXC.out); have HTD := Lib.hid (HTC.out.step hs hx hF); have HZD := Lib.hid hb; clear hb hs hx hF)
                  | (go_at_call 25; (with_reducible refine (rSame_q _ _ X X true (decide_eq_true rfl) _ HZD.out.any HXD.out.any).mono ?_); rintro ed wd ⟨rfl, hx⟩; have HTE := Lib.hid (HTD.out.x.trans hx); clear hx)
                  | (go_at_call 33; (with_reducible refine (lWorks12 _).mono ?_); rintro ee we ⟨rfl, hx⟩; have HTF := Lib.hid (HTE.out.trans hx); clear hx))
                go_ret
                exact ⟨rfl, HTF.out⟩
set_option maxRecDepth 100000 in
theorem walk_SealKeys (W : World) (v0 v1 v2 v3 v4 : Value) (u0 : Rd Try.prog W 5 v0.cells.toList) (u1 : Rd Try.prog W 5 v1.cells.toList) (u2 : Rd Try.prog W 28 v2.cells.toList) (u3 : Rd Try.prog W 28 v3.cells.toList) (u4 : Rd Try.prog W 59 v4.cells.toList)
    {r : Reach} {base : Nat} (ok0 : Value.okWide Try.prog W r base 5 v0) (ok1 : Value.okWide Try.prog W r base 5 v1) (ok2 : Value.okWide Try.prog W r base 28 v2) (ok3 : Value.okWide Try.prog W r base 28 v3) (ok4 : Value.okWide Try.prog W r base 59 v4) :
    Calls Try.prog 10 #[v0, v1, v2, v3, v4] W fun e W' => e = .returned (.bool true) ∧ Ext No W W' := by
  obtain ⟨a0, rfl, h0⟩ := Rd.int_val Try.underlying5 ok0 u0
  obtain ⟨a1, rfl, h1⟩ := Rd.int_val Try.underlying5 ok1 u1
  obtain ⟨ll, hl⟩ := parts_val u2 ok2
  obtain ⟨ml, hm⟩ := parts_val u3 ok3
  obtain ⟨ms, ho⟩ := op12s_val u4 ok4
  exact keys12_any a0 a1 (by simpa [Lit.wf, show IntKind.u8.min = 0 from by decide, show IntKind.u8.max = 255 from by decide] using h0) (by simpa [Lit.wf, show IntKind.u8.min = 0 from by decide, show IntKind.u8.max = 255 from by decide] using h1) v2 v3 v4 ll ml ms W hl hm ho
end Go.Proofs.Ytmbbkkonmkbnoaa
