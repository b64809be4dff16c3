/- The laws of chapter 2: ShaEdges. -/
import Derived.Test.YtljddghamgjfbaaLaw02
set_option linter.unusedVariables false
set_option linter.unusedSimpArgs false
namespace Go.Proofs.Ytljddghamgjfbaa
open Go.RowKit Go.Deep Sh Rs

theorem fill_set (c : UInt8) (k j : Nat) (h : j < k) : (List.replicate j c ++ List.replicate (k - j) 0).set j c = List.replicate (j + 1) c ++ List.replicate (k - (j + 1)) 0 := by
  apply List.ext_getElem
  · simp; omega
  · intro i h1 h2
    rw [List.getElem_set]
    by_cases e : j = i
    · subst e
      rw [if_pos rfl, List.getElem_append_left (by simp)]
      simp
    · rw [if_neg e]
      by_cases hi : i < j
      · rw [List.getElem_append_left (by simp; omega), List.getElem_append_left (by simp; omega)]; simp
      · rw [List.getElem_append_right (by simp; omega), List.getElem_append_right (by simp; omega)]; simp
set_option maxRecDepth 100000 in
set_option maxHeartbeats 1000000 in
theorem edges02 (c n : UInt8) (w : World) : Calls Try.prog 9 #[u8v c, u8v n] w fun e' w' => e' = .returned (.bool true) ∧ Ext No w w' := by
  unfold u8v
  obtain ⟨k, hk⟩ : ∃ k, n.toNat = k := ⟨_, rfl⟩
  have hk8 : k < 256 := by rw [← hk]; exact n.toNat_lt
  rw [hk]
  clear hk
  have hmk := fun W => run_make_row' (P := Try.prog) 27 5 (.int .u8 0) 1 Try.underlying27 info_u8 rfl .i64 .i64 k (by omega) (by omega) W
  have hmc : madeCells #[.int .u8 0] k = (u8s (List.replicate k 0)).toArray := by
    have e : (madeCells #[Value.int .u8 0] k).toList = u8s (List.replicate k 0) := by rw [toList_madeCells_one]; simp [u8s, u8v]
    rw [← e]
  rw [hmc] at hmk
  have HB0 := Lib.hid (Blk.new w 5 (u8s (List.replicate k 0)).toArray)
  have HX0 := Lib.hid ((Ext.refl No w).alloc (.cells (u8s (List.replicate k 0)).toArray 5))
  clear hmc
  go_enter Try.func9, Try.ntmps9
  go_wp2_with fail
  clear hmk
  go_loopw [6] (fun i wr => ∃ j : Nat, j ≤ k ∧ i = .int .i64 ((j : Nat) : Int) ∧ Hid (Blk wr w.heap.size 5 (u8s (List.replicate j c ++ List.replicate (k - j) 0)).toArray) ∧ Hid (Ext No w wr)) (fun i _ => k - (intOf i).toNat)
  case atStart => exact ⟨0, by omega, rfl, HB0, HX0⟩
  case round =>
    obtain ⟨j, hj, rfl, HB, HX⟩ := hrel
    clear HB0 HX0
    by_cases hlt : j < k
    · have hcj : wr.cell? ⟨w.heap.size, j, none⟩ = some (.int .u8 0) := by
        rw [HB.out.cell, u8s_get' _ _ (by simp; omega), List.getD_eq_getElem?_getD, List.getElem?_append_right (by simp)]
        simp only [List.length_replicate, Nat.sub_self, List.getElem?_replicate]
        rw [if_pos (by omega)]; rfl
      have HSB : Hid (Blk (wr.setCell ⟨w.heap.size, j, none⟩ (.int .u8 c.toNat)) w.heap.size 5 (u8s (List.replicate (j + 1) c ++ List.replicate (k - (j + 1)) 0)).toArray) := Lib.hid (by
        have := HB.out.set_ j (.int .u8 (c.toNat : Int))
        rwa [u8s_set, fill_set c k j hlt] at this)
      have hfj := HB.out.frozen j
      have hbl := HB.out.lt
      have HSX : Hid (Ext No w (wr.setCell ⟨w.heap.size, j, none⟩ (.int .u8 c.toNat))) := Lib.hid (HX.out.setCell (fun hi => absurd hi (by simp)) _)
      go_wp2_with fail
      exact ⟨⟨j + 1, by omega, by go_num, HSB, HSX⟩, by simp [intOf]; omega⟩
    · obtain rfl : j = k := by omega
      obtain ⟨m, hm⟩ : ∃ m, List.replicate j c ++ List.replicate (j - j) 0 = m := ⟨_, rfl⟩
      rw [hm] at HB
      have hml : m.length = j := by rw [← hm]; simp
      clear hm
      have hbs : Bs wr Any (.slice (some ⟨w.heap.size, 0, none⟩) j j) m := (Bs.whole' HB.out (n := j) (c := j) hml.symm (Nat.le_refl _) (by unfold maxLen; omega)).any
      have HBS := Lib.hid hbs
      have hp := Parts.lit1 (g := wr.heap.size) hbs trivial rfl
      have HOF := Lib.hid (shaOf_any Any _ _ _ hp (by simp; omega))
      have hfl : ([m] : List (List UInt8)).flatten = m := by simp
      rw [hfl] at HOF
      have hdl : (sha m).length = 32 := sha_length _
      have HML := Lib.hid (show m.length < 1000000 by omega)
      obtain ⟨D, hD⟩ : ∃ D, sha m = D := ⟨_, rfl⟩
      rw [hD] at HOF hdl
      have HD := Lib.hid hD
      have HDL := Lib.hid (show (u8s D).toArray.size = 32 by rw [List.size_toArray, u8s_length]; exact hdl)
      have HDE := Lib.hid hdl
      have HX1 := Lib.hid (HX.out.alloc (.cells #[.slice (some ⟨w.heap.size, 0, none⟩) j j] 27))
      clear hD hdl hp hfl hml hbs
      go_wp2_with fail
      refine HOF.out.mono ?_
      rintro e2 w2 ⟨rfl, hx2⟩
      have HX2 := Lib.hid (HX1.out.trans hx2)
      have HBQ := Lib.hid (HBS.out.ext_no (((Ext.refl No wr).alloc _).trans hx2))
      clear HOF HX1 hx2
      have HB3 := Lib.hid (Blk.new w2 45 (u8s (List.replicate 32 0)).toArray)
      have HX3 := Lib.hid (HX2.out.alloc (.cells (u8s (List.replicate 32 0)).toArray 45))
      have HBR := Lib.hid (HBQ.out.ext_no ((Ext.refl No w2).alloc (.cells (u8s (List.replicate 32 0)).toArray 45)))
      have HBO := Lib.hid HBQ.out.old
      go_wp2_with ((with_reducible show wpList _ _ _ _ _ _); refine store_blk (o := ⟨none, _, _, _, _, _⟩) 45 (.tmp 7) (.tmp 23) rfl rfl HB3.out rfl rfl (by rw [HDL.out]; rfl) (by rw [HDL.out]; exact size_b32) (u8s_one' _) ?_; intro w9 hb9 hx9; have HX9 := Lib.hid (HX3.out.transS hx9 (fun i hi h => absurd hi (by have h' : i = w2.heap.size := h; have := HX2.out.size; omega))); have HQ : Hid (Q02 w w2.heap.size D (.slice (some ⟨w.heap.size, 0, none⟩) j j) m w9) := Lib.hid ⟨hb9, ((HBO.out.ext_no ((Ext.refl No w2).alloc (.cells (u8s (List.replicate 32 0)).toArray 45))).ext hx9 (fun b hb _ h => absurd hb.2 (by have h' : b = w2.heap.size := h; omega))).any, HX9.out⟩; clear hb9 hx9)
      clear HX2 HX3 HB3 HX9
      go_region_held3 (fun w' => Hid (Q02 w w2.heap.size D (.slice (some ⟨w.heap.size, 0, none⟩) j j) m w'))
        (first | assumption | exact HQ | exact Q02.no HQ (Ext.refl No _).drew | exact Q02.no (by assumption) (Ext.refl No _).drew)
        (first
        | (go_at_call 39; refine (Q02.sum (w0 := w) (g := w2.heap.size) (D := D) (m := m) (by assumption) HML.out HD.out).mono ?_; rintro e10 w10 ⟨v10, rfl, HS10, hQ10⟩)
        | (go_at_call 27; refine (Q02.same (w0 := w) (g := w2.heap.size) (D := D) (m := m) (bv := .slice (some ⟨w.heap.size, 0, none⟩) j j) (by assumption) HDE.out _ HS10.out).mono ?_; rintro e11 w11 ⟨rfl, hQ11⟩)
        | (go_at_call 37; refine (Q02.works (w0 := w) (g := w2.heap.size) (D := D) (m := m) (bv := .slice (some ⟨w.heap.size, 0, none⟩) j j) (by assumption)).mono ?_; rintro e12 w12 ⟨rfl, hQ12⟩))
      have HXF := Lib.hid hQ12.out.x
      clear hQ10 hQ11 hQ12
      go_wp2
      go_ret
      exact ⟨rfl, HXF.out⟩
open Go.ChangeShapes Go.WideShapes in
set_option maxRecDepth 100000 in
theorem walk_ShaEdges (W : World) (v0 v1 : Value) (u0 : Rd Try.prog W 5 v0.cells.toList) (u1 : Rd Try.prog W 5 v1.cells.toList)
    {r : Reach} {base : Nat} (ok0 : Value.okWide Try.prog W r base 5 v0) (ok1 : Value.okWide Try.prog W r base 5 v1) :
    Calls Try.prog 9 #[v0, v1] W fun e W' => e = .returned (.bool true) ∧ Ext No W W' := by
  obtain ⟨c, rfl, hc⟩ := Rd.int_val Try.underlying5 ok0 u0
  obtain ⟨n, rfl, hn⟩ := Rd.int_val Try.underlying5 ok1 u1
  have b1 := bounds_u8 hc
  have b2 := bounds_u8 hn
  have e1 : c = ((UInt8.ofNat c.toNat).toNat : Int) := by rw [UInt8.toNat_ofNat']; omega
  have e2 : n = ((UInt8.ofNat n.toNat).toNat : Int) := by rw [UInt8.toNat_ofNat']; omega
  rw [e1, e2]
  exact edges02 (UInt8.ofNat c.toNat) (UInt8.ofNat n.toNat) W
end Go.Proofs.Ytljddghamgjfbaa
