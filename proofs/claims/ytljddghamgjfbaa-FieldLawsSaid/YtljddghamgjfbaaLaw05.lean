/- The laws of chapter 5: works. -/
import Derived.Test.YtljddghamgjfbaaFieldHash
import Derived.Test.YtljddghamgjfbaaPBridge
import Derived.Test.YtljddghamgjfbaaPGcmSealsx2
set_option linter.unusedVariables false
set_option linter.unusedSimpArgs false
namespace Go.Proofs.Ytljddghamgjfbaa
open Go.RowKit Go.Deep Fm

/-- Within works: one, h, the table of h. -/
structure W5 (w0 : World) (g1 g2 gt : Nat) (x y : G) (w : World) : Prop where
  a : Blk w g1 25 #[.int .u64 (hi x : Int), .int .u64 (lo x : Int)]
  b : Blk w g2 25 #[.int .u64 (hi y : Int), .int .u64 (lo y : Int)]
  t : IsTb w gt (tb y) tov
  x : Ext No w0 w
abbrev W5S (w0 : World) (g1 g2 gt : Nat) (x y : G) (w : World) : Prop :=
  ((w.cell? ⟨g1, 0, none⟩ = some (.int .u64 (hi x : Int)) ∧ w.cell? ⟨g1, 1, none⟩ = some (.int .u64 (lo x : Int))) ∧ (w.cell? ⟨g2, 0, none⟩ = some (.int .u64 (hi y : Int)) ∧ w.cell? ⟨g2, 1, none⟩ = some (.int .u64 (lo y : Int)))) ∧ Hid (W5 w0 g1 g2 gt x y w)
section
variable {w0 w w' : World} {g1 g2 gt : Nat} {x y : G}
theorem W5.S (h : W5 w0 g1 g2 gt x y w) : W5S w0 g1 g2 gt x y w := ⟨⟨(Blk.c2 h.a).1, (Blk.c2 h.b).1⟩, h⟩
theorem W5.no (h : W5S w0 g1 g2 gt x y w) (hx : Ext No w w') : W5S w0 g1 g2 gt x y w' := W5.S ⟨h.2.out.a.ext_no hx, h.2.out.b.ext_no hx, h.2.out.t.ext_no hx, h.2.out.x.trans hx⟩
theorem W5.times (h : W5S w0 g1 g2 gt x y w) (hm : mul x y = y) : Calls Try.prog 28 #[.agg #[.int .u64 (hi x : Int), .int .u64 (lo x : Int)], .agg #[.int .u64 (hi y : Int), .int .u64 (lo y : Int)]] w fun e w' => e = .returned (.agg #[.int .u64 (hi y : Int), .int .u64 (lo y : Int)]) ∧ W5S w0 g1 g2 gt x y w' := by
  refine (fTimes_any x y w).mono ?_
  rintro e w' ⟨rfl, hx⟩
  rw [hm]
  exact ⟨rfl, W5.no h hx⟩
theorem W5.tabT (h : W5S w0 g1 g2 gt x y w) (hm : mul x y = y) : Calls Try.prog 30 #[.pointer (some ⟨gt, 0, none⟩), .agg #[.int .u64 (hi x : Int), .int .u64 (lo x : Int)]] w fun e w' => e = .returned (.agg #[.int .u64 (hi y : Int), .int .u64 (lo y : Int)]) ∧ W5S w0 g1 g2 gt x y w' := by
  refine (fTimesT_any gt x y w h.2.out.t).mono ?_
  rintro e w' ⟨rfl, hx⟩
  rw [hm]
  exact ⟨rfl, W5.no h hx⟩
theorem W5.bytes (h : W5S w0 g1 g2 gt x y w) : Calls Try.prog 29 #[.agg #[.int .u64 (hi x : Int), .int .u64 (lo x : Int)]] w fun e w' => ∃ A n c, e = .returned (.slice A n c) ∧ Bs w' Any (.slice A n c) (elB x) ∧ W5S w0 g1 g2 gt x y w' := by
  refine (eBytes_any x w).mono ?_
  rintro e w' ⟨A, n, c, rfl, ho, hx⟩
  exact ⟨A, n, c, rfl, ho.any, W5.no h hx⟩
theorem W5.add (h : W5S w0 g1 g2 gt x y w) : Calls Try.prog 31 #[.agg #[.int .u64 (hi y : Int), .int .u64 (lo y : Int)], .agg #[.int .u64 (hi y : Int), .int .u64 (lo y : Int)]] w fun e w' => ∃ z : G, Hid (decide (z = 0#128) = true) ∧ e = .returned (.agg #[.int .u64 (hi z : Int), .int .u64 (lo z : Int)]) ∧ W5S w0 g1 g2 gt x y w' := by
  refine (eAdd_any y y w).mono ?_
  rintro e w' ⟨rfl, hx⟩
  exact ⟨y ^^^ y, Lib.hid (decide_eq_true (BitVec.xor_self)), rfl, W5.no h hx⟩
theorem W5.zero (h : W5S w0 g1 g2 gt x y w) (z : G) : Calls Try.prog 36 #[.agg #[.int .u64 (hi z : Int), .int .u64 (lo z : Int)]] w fun e w' => e = .returned (.bool (decide (z = 0#128))) ∧ W5S w0 g1 g2 gt x y w' := by
  refine (eZero_any z w).mono ?_
  rintro e w' ⟨rfl, hx⟩
  exact ⟨rfl, W5.no h hx⟩
theorem W5.zeroB (h : W5S w0 g1 g2 gt x y w) (z : G) (b : Bool) (hz : decide (z = 0#128) = b) : Calls Try.prog 36 #[.agg #[.int .u64 (hi z : Int), .int .u64 (lo z : Int)]] w fun e w' => e = .returned (.bool b) ∧ W5S w0 g1 g2 gt x y w' := by
  subst hz
  exact W5.zero h z
theorem W5.hash (h : W5S w0 g1 g2 gt x y w) (v : Value) (l : List UInt8) (hv : Bs w Any v l) (r : G) (hr : hash y 0#128 l = r) : Calls Try.prog 34 #[.pointer (some ⟨gt, 0, none⟩), .agg #[.int .u64 0, .int .u64 0], v] w fun e w' => e = .returned (.agg #[.int .u64 (hi r : Int), .int .u64 (lo r : Int)]) ∧ W5S w0 g1 g2 gt x y w' := by
  have := fHashT_any gt y 0#128 v l w h.2.out.t hv
  unfold ev at this
  rw [show hi 0#128 = 0 by decide, show lo 0#128 = 0 by decide] at this
  refine this.mono ?_
  rintro e w' ⟨rfl, hx⟩
  rw [hr]
  exact ⟨rfl, W5.no h hx⟩
theorem W5.hex (h : W5S w0 g1 g2 gt x y w) (A : Option Addr) (n c : Nat) (l : List UInt8) (k : Nat) (s : ByteArray) (hb : Bs w Any (.slice A n c) l) (hf : PGcmSeals.octet_Hex.f k (i8 l) = some s) : Calls Try.prog 75 #[.slice A n c] w fun e w' => e = .returned (.string s) ∧ W5S w0 g1 g2 gt x y w' := by
  obtain ⟨h1, h2, h3⟩ := hb.C
  subst h1
  refine (PGcmSeals.octet_Hex.calls k A c (i8 l) s w h3 h2 hf).mono ?_
  rintro e w' ⟨rfl, hx⟩
  exact ⟨rfl, W5.no h (Ext.of_below hx)⟩
end
theorem fFrom_agg (v : Value) (l : List UInt8) (w : World) (h : Bs w Any v l) (r : G) (hr : elL l = r) : Calls Try.prog 22 #[v] w fun e w' => e = .returned (.agg #[.int .u64 (hi r : Int), .int .u64 (lo r : Int)]) ∧ Ext No w w' := by
  subst hr; exact fFrom_any v l w h
theorem el128 : elL [128] = one := by decide +kernel
def h5 : List UInt8 := [1, 2, 3, 4, 5, 6, 7, 8, 9, 10, 11, 12, 13, 14, 15, 16]
abbrev s5 : ByteArray := ⟨#[56, 48, 48, 48, 48, 48, 48, 48, 48, 48, 48, 48, 48, 48, 48, 48, 48, 48, 48, 48, 48, 48, 48, 48, 48, 48, 48, 48, 48, 48, 48, 48]⟩
theorem hex5 : PGcmSeals.octet_Hex.f 20 (i8 (elB one)) = some s5 := by kernel_rfl
theorem lit128 (w : World) : Bs (w.alloc (.cells #[.int .u8 128] 5)) Any (.slice (some ⟨w.heap.size, 0, none⟩) 1 1) [128] := (bs_lit1' w 128 128 (by decide) rfl).any
def a5 : Array Value := #[.int .u8 1, .int .u8 2, .int .u8 3, .int .u8 4, .int .u8 5, .int .u8 6, .int .u8 7, .int .u8 8, .int .u8 9, .int .u8 10, .int .u8 11, .int .u8 12, .int .u8 13, .int .u8 14, .int .u8 15, .int .u8 16]
theorem u8s_h5 : (u8s h5).toArray = a5 := by simp [u8s, u8v, h5, a5]
theorem litH5 (w : World) : Bs (w.alloc (.cells #[.int .u8 1, .int .u8 2, .int .u8 3, .int .u8 4, .int .u8 5, .int .u8 6, .int .u8 7, .int .u8 8, .int .u8 9, .int .u8 10, .int .u8 11, .int .u8 12, .int .u8 13, .int .u8 14, .int .u8 15, .int .u8 16] 5)) Any (.slice (some ⟨w.heap.size, 0, none⟩) 16 16) h5 := by
  have := (bs_litN w h5 (by unfold maxLen; decide) (g := w.heap.size) rfl).any
  rw [u8s_h5] at this
  exact this
set_option maxRecDepth 100000 in
set_option maxHeartbeats 1000000 in
theorem works05 (w : World) : Calls Try.prog 33 #[] w fun e' w' => e' = .returned (.bool true) ∧ Ext No w w' := by
  have hy0 : elL h5 ≠ 0#128 := by decide +kernel
  go_enter Try.func33, Try.ntmps33
  go_wp2_with fail
  have HF1 := fFrom_agg _ [128] _ (lit128 w) one el128
  have HX0 := Lib.hid ((Ext.refl No w).alloc (.cells #[.int .u8 128] 5))
  have hhx := hex5
  generalize hone : one = x at HF1 hhx
  have HHX := Lib.hid hhx
  clear hhx
  have HONE := Lib.hid hone
  clear hone
  refine HF1.mono ?_
  rintro e1 w1 ⟨rfl, hx1⟩
  have HX1 := Lib.hid (HX0.out.trans hx1)
  clear hx1 HX0 HF1
  go_wp2_with fail
  have HA2 := Lib.hid (Blk.new w1 25 #[.int .u64 (hi x : Int), .int .u64 (lo x : Int)])
  have HX2 := Lib.hid (HX1.out.alloc (.cells #[.int .u64 (hi x : Int), .int .u64 (lo x : Int)] 25))
  have hs2 : (w1.alloc (.cells #[.int .u64 (hi x : Int), .int .u64 (lo x : Int)] 25)).heap.size = w1.heap.size + 1 := by simp
  rw [← hs2]
  generalize w1.alloc (.cells #[.int .u64 (hi x : Int), .int .u64 (lo x : Int)] 25) = w2 at *
  generalize w1.heap.size = g1 at *
  generalize hy : elL h5 = y at *
  have HY := Lib.hid hy
  clear hy
  have HF2 := fFrom_agg _ h5 _ (litH5 w2) y HY.out
  have HX3 := Lib.hid (HX2.out.alloc (.cells #[.int .u8 1, .int .u8 2, .int .u8 3, .int .u8 4, .int .u8 5, .int .u8 6, .int .u8 7, .int .u8 8, .int .u8 9, .int .u8 10, .int .u8 11, .int .u8 12, .int .u8 13, .int .u8 14, .int .u8 15, .int .u8 16] 5))
  have HA3 := Lib.hid (HA2.out.alloc (.cells #[.int .u8 1, .int .u8 2, .int .u8 3, .int .u8 4, .int .u8 5, .int .u8 6, .int .u8 7, .int .u8 8, .int .u8 9, .int .u8 10, .int .u8 11, .int .u8 12, .int .u8 13, .int .u8 14, .int .u8 15, .int .u8 16] 5))
  clear HA2 HX2 HX1
  refine HF2.mono ?_
  rintro e4 w4 ⟨rfl, hx4⟩
  have HX4 := Lib.hid (HX3.out.trans hx4)
  have HA4 := Lib.hid (HA3.out.ext_no hx4)
  clear hx4 HX3 HA3 HF2
  go_wp2_with fail
  have HB5 := Lib.hid (Blk.new w4 25 #[.int .u64 (hi y : Int), .int .u64 (lo y : Int)])
  have HA5 := Lib.hid (HA4.out.alloc (.cells #[.int .u64 (hi y : Int), .int .u64 (lo y : Int)] 25))
  have HX5 := Lib.hid (HX4.out.alloc (.cells #[.int .u64 (hi y : Int), .int .u64 (lo y : Int)] 25))
  clear HA4 HX4
  generalize w4.alloc (.cells #[.int .u64 (hi y : Int), .int .u64 (lo y : Int)] 25) = w5 at *
  generalize w4.heap.size = g2 at *
  refine (fBuild_agg y w5).mono ?_
  rintro e6 w6 ⟨gt, rfl, hgt, ht6, hx6⟩
  have HW : Hid (W5 w g1 g2 gt x y w6) := Lib.hid ⟨HA5.out.ext_no hx6, HB5.out.ext_no hx6, ht6, HX5.out.trans hx6⟩
  have HYZ : Hid (decide (y = 0#128) = false) := Lib.hid (decide_eq_false hy0)
  have HM : Hid (mul x y = y) := Lib.hid (by rw [← HONE.out, one_mul])
  have HHS : Hid (hash y 0#128 [128] = y) := Lib.hid (by
    rw [hash_step y 0#128 [128] (by simp), show ([128] : List UInt8).take 16 = [128] from rfl, show ([128] : List UInt8).drop 16 = [] from rfl, hash_nil, el128, BitVec.zero_xor, one_mul])
  clear hx6 ht6 HA5 HB5 HX5 HY hy0 HONE hgt
  go_wp2_with fail
  go_region_held3 (fun w' => ((w'.cell? ⟨g1, 0, none⟩ = some (.int .u64 (hi x : Int)) ∧ w'.cell? ⟨g1, 1, none⟩ = some (.int .u64 (lo x : Int))) ∧ (w'.cell? ⟨g2, 0, none⟩ = some (.int .u64 (hi y : Int)) ∧ w'.cell? ⟨g2, 1, none⟩ = some (.int .u64 (lo y : Int)))) ∧ Hid (W5 w g1 g2 gt x y w'))
    (first | assumption | exact W5.S HW.out | exact W5.no (W5.S HW.out) (Ext.refl No _).drew | exact W5.no (by assumption) (Ext.refl No _).drew | exact W5.no (by assumption) ((Ext.refl No _).alloc _))
    (first
      | (go_at_call 28; refine (W5.times (w0 := w) (g1 := g1) (g2 := g2) (gt := gt) (x := x) (y := y) (by assumption) HM.out).mono ?_; rintro e' w7 ⟨rfl, hS7⟩)
      | (go_at_call 30; refine (W5.tabT (w0 := w) (g1 := g1) (g2 := g2) (gt := gt) (x := x) (y := y) (by assumption) HM.out).mono ?_; rintro e' w8 ⟨rfl, hS8⟩)
      | (go_at_call 29; refine (W5.bytes (w0 := w) (g1 := g1) (g2 := g2) (gt := gt) (x := x) (y := y) (by assumption)).mono ?_; rintro e' w9 ⟨A9, n9, c9, rfl, hb9, hS9⟩; have HB9 := Lib.hid hb9; clear hb9)
      | (go_at_call 75; refine (W5.hex (w0 := w) (g1 := g1) (g2 := g2) (gt := gt) (x := x) (y := y) (by assumption) _ _ _ _ 20 s5 HB9.out HHX.out).mono ?_; rintro e' w10 ⟨rfl, hS10⟩)
      | (go_at_call 31; refine (W5.add (w0 := w) (g1 := g1) (g2 := g2) (gt := gt) (x := x) (y := y) (by assumption)).mono ?_; rintro e' w11 ⟨z0, HZT, rfl, hS11⟩)
      | (go_at_call 36; (with_reducible refine (W5.zeroB (w0 := w) (g1 := g1) (g2 := g2) (gt := gt) (x := x) (y := y) (by assumption) z0 true HZT.out).mono ?_); rintro e' w12 ⟨rfl, hS12⟩)
      | (go_at_call 36; (with_reducible refine (W5.zeroB (w0 := w) (g1 := g1) (g2 := g2) (gt := gt) (x := x) (y := y) (by assumption) y false HYZ.out).mono ?_); rintro e' w13 ⟨rfl, hS13⟩)
      | (go_at_call 34; refine (W5.hash (w0 := w) (g1 := g1) (g2 := g2) (gt := gt) (x := x) (y := y) (by assumption) _ [128] (lit128 _) y HHS.out).mono ?_; rintro e' w14 ⟨rfl, hS14⟩))
  have HXF := Lib.hid hS14.2.out.x
  clear hS14 hS7 hS8 hS9 hS10 hS11 hS12 hS13
  go_wp2
  go_ret
  exact ⟨rfl, HXF.out⟩
end Go.Proofs.Ytljddghamgjfbaa
