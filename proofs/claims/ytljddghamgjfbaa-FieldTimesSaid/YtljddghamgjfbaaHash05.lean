/- The law FieldHashes. -/
import Derived.Test.YtljddghamgjfbaaField05
import Derived.Test.YtljddghamgjfbaaRefRun
import Derived.Test.YtljddghamgjfbaaOpenBytes
import Derived.Deep.DeepCutAuto
import Derived.Deep.RegionWith
set_option linter.unusedVariables false
set_option linter.unusedSimpArgs false
namespace Go.Proofs.Ytljddghamgjfbaa
open Go.RowKit Go.Deep Fm Rt

/-- Within FieldHashes. -/
structure FhS (w0 : World) (ga gb : Nat) (l m b : List UInt8) (vb : Value) (w : World) : Prop where
  pa : Blk w ga 22 (u8s l).toArray
  pb : Blk w gb 22 (u8s m).toArray
  pc : Bs w Any vb b
  x : Ext No w0 w
section
variable {w0 w w' : World} {ga gb : Nat} {l m b : List UInt8} {vb : Value}
theorem FhS.no (h : FhS w0 ga gb l m b vb w) (hx : Ext No w w') : FhS w0 ga gb l m b vb w' := ⟨h.pa.ext_no hx, h.pb.ext_no hx, h.pc.ext_no hx, h.x.trans hx⟩
theorem FhS.sa (h : FhS w0 ga gb l m b vb w) (hl : l.length = 16) : Bs w Any (.slice (some ⟨ga, 0, none⟩) 16 16) l := (Bs.whole (g := ga) (t := 22) h.pa hl.symm (Nat.le_refl _) (by unfold maxLen; decide)).any
theorem FhS.sb (h : FhS w0 ga gb l m b vb w) (hl : m.length = 16) : Bs w Any (.slice (some ⟨gb, 0, none⟩) 16 16) m := (Bs.whole (g := gb) (t := 22) h.pb hl.symm (Nat.le_refl _) (by unfold maxLen; decide)).any
end
/-- Behind x. -/
structure Fh3 (w0 : World) (ga gb g : Nat) (l m b : List UInt8) (vb : Value) (z : G) (w : World) : Prop where
  s : FhS w0 ga gb l m b vb w
  e : El w g z
theorem Fh3.no {w0 w w' : World} {ga gb g : Nat} {l m b : List UInt8} {vb : Value} {z : G} (h : Fh3 w0 ga gb g l m b vb z w) (hx : Ext No w w') : Fh3 w0 ga gb g l m b vb z w' := ⟨h.s.no hx, h.e.no hx⟩
theorem fHash_agg (g : Nat) (h f : G) (v : Value) (l : List UInt8) (w : World) (ht : IsTb w g (tb h) tov) (hv : Bs w Any v l) (r : G) (hr : hash h f l = r) : Calls Try.prog 34 #[.pointer (some ⟨g, 0, none⟩), .agg #[.int .u64 (hi f : Int), .int .u64 (lo f : Int)], v] w fun e' w' => e' = .returned (.agg #[.int .u64 (hi r : Int), .int .u64 (lo r : Int)]) ∧ Ext No w w' := by
  subst hr
  exact fHashT_any g h f v l w ht hv
theorem eBytes_agg (x : G) (w : World) : Calls Try.prog 29 #[.agg #[.int .u64 (hi x : Int), .int .u64 (lo x : Int)]] w fun e w' => ∃ v, e = .returned v ∧ Bs w' Any v (elB x) ∧ Ext No w w' := by
  refine (eBytes_any x w).mono ?_
  rintro e w' ⟨A, n, c, rfl, ho, hx⟩
  exact ⟨_, rfl, ho.any, hx⟩
theorem rSame_eq (v1 v2 : Value) (l : List UInt8) (w : World) (h1 : Bs w Any v1 l) (h2 : Bs w Any v2 l) :
    Calls Try.prog 27 #[v1, v2] w fun e w' => e = .returned (.bool true) ∧ Ext No w w' := by
  refine (rSame_any v1 v2 l l w h1 h2).mono ?_
  rintro e w' ⟨rfl, n, rfl⟩
  exact ⟨by rw [decide_eq_true rfl], (Ext.refl No w).drewN n⟩
set_option maxRecDepth 100000 in
set_option maxHeartbeats 4000000 in
theorem hashes05_any (l m b : List UInt8) (A : Option Addr) (c : Nat) (w : World) (hl : l.length = 16) (hm : m.length = 16) (hb : Bs w Any (.slice A b.length c) b) : Calls Try.prog 4 #[.agg (u8s l).toArray, .agg (u8s m).toArray, .slice A b.length c] w fun e' w' => e' = .returned (.bool true) ∧ Ext No w w' := by
  have HL := Lib.hid hl
  have HM := Lib.hid hm
  have HB := Lib.hid hb
  clear hl hm hb
  go_enter Try.func4, Try.ntmps4
  by_cases hlen : b.length ≤ 300
  · have hq : ¬ ((300 : Int) < (b.length : Int)) := by omega
    have hq2 : decide ((300 : Int) < (b.length : Int)) = false := decide_eq_false hq
    have HLEN := Lib.hid hlen
    clear hlen
    go_upto_region 3 with fail
    have hp1 := Blk.new w 22 (u8s l).toArray
    have HP : Hid (FhS w w.heap.size (w.heap.size + 1) l m b (.slice A b.length c) ((w.alloc (.cells (u8s l).toArray 22)).alloc (.cells (u8s m).toArray 22))) := by
      refine Lib.hid ⟨(Blk.new w _ _).alloc _, ?_, HB.out.ext_no (((Ext.refl No w).alloc _).alloc _), ((Ext.refl No w).alloc _).alloc _⟩
      have := Blk.new (w.alloc (.cells (u8s l).toArray 22)) 22 (u8s m).toArray
      rw [World.size_alloc] at this
      exact this
    clear hp1
    generalize ((w.alloc (.cells (u8s l).toArray 22)).alloc (.cells (u8s m).toArray 22)) = w2 at *
    obtain ⟨x, hx⟩ : ∃ x, elL l = x := ⟨_, rfl⟩
    obtain ⟨y, hy⟩ : ∃ y, elL m = y := ⟨_, rfl⟩
    obtain ⟨z, hz⟩ : ∃ z, hash x y b = z := ⟨_, rfl⟩
    have HEX := Lib.hid hx
    have HEY := Lib.hid hy
    have HEZ := Lib.hid hz
    clear hx hy hz
    go_wp2_with fail
    refine (fFrom_agg _ l _ (HP.out.sa HL.out) x HEX.out).mono ?_
    rintro e3 w3 ⟨rfl, hx3⟩
    have HP3 := Lib.hid (HP.out.no hx3)
    clear HP hx3
    go_wp2_with fail
    refine (fBuild_agg x _).mono ?_
    rintro e4 w4 ⟨gt, rfl, hgt, ht4, hx4⟩
    have HP4 := Lib.hid (HP3.out.no hx4)
    have HT4 := Lib.hid ht4
    clear HP3 hx4 ht4 hgt
    go_wp2_with fail
    refine (fFrom_agg _ m _ (HP4.out.sb HM.out) y HEY.out).mono ?_
    rintro e6 w6 ⟨rfl, hx6⟩
    have HP6 := Lib.hid (HP4.out.no hx6)
    have HT6 := Lib.hid (HT4.out.ext_no hx6)
    clear HP4 HT4 hx6
    go_wp2_with fail
    refine (fHash_agg gt x y _ b _ HT6.out HP6.out.pc z HEZ.out).mono ?_
    rintro e7 w7 ⟨rfl, hx7⟩
    have HP7 := Lib.hid (HP6.out.no hx7)
    clear HP6 HT6 hx7
    go_upto_region 7 with fail
    have HS : Hid (Fh3 w w.heap.size (w.heap.size + 1) w7.heap.size l m b (.slice A b.length c) z (w7.alloc (.cells #[.int .u64 (hi z : Int), .int .u64 (lo z : Int)] 25))) := Lib.hid ⟨HP7.out.no ((Ext.refl No _).alloc _), El.new _ _ rfl⟩
    clear HP7
    generalize w7.alloc (.cells #[.int .u64 (hi z : Int), .int .u64 (lo z : Int)] 25) = w8 at *
    generalize w7.heap.size = g at *
    go_region_with ((first
      | (go_at_call 25; (with_reducible refine (rBits_any (.slice (some ⟨w.heap.size, 0, none⟩) 16 16) l _ ?_).mono ?_); (first | exact HS.out.s.sa HL.out | exact (HS.out.no (Ext.refl No _).drew).s.sa HL.out); rintro e' w9 ⟨v9, rfl, hr9, hx9⟩; have HS9 := Lib.hid (Fh3.no (Fh3.no HS.out (Ext.refl No _).drew) hx9); have HR9 := Lib.hid hr9; clear hr9 hx9)
      | (go_at_call 25; (with_reducible refine (rBits_any (.slice (some ⟨w.heap.size + 1, 0, none⟩) 16 16) m _ ?_).mono ?_); (first | exact HS9.out.s.sb HM.out); rintro e' w10 ⟨v10, rfl, hr10, hx10⟩; have HS10 := Lib.hid (Fh3.no (HS9.out) hx10); have HR10 := Lib.hid hr10; have HR9' := Lib.hid (HR9.out.no hx10); clear hr10 hx10)
      | (go_at_call 35; refine (rHash_any _ _ _ (elL l) (elL m) b _ HR9'.out HR10.out HS10.out.s.pc HLEN.out).mono ?_; rintro e' w11 ⟨v11, rfl, hr11, hx11⟩; have HS11 := Lib.hid (HS10.out.no hx11); have HR11 := Lib.hid hr11; clear hr11 hx11)))
    all_goals
      have P11 := HS11.out.e
      clear HS HS9 HS10 HR9 HR9' HR10
      rw [HEX.out, HEY.out, HEZ.out] at HR11
      unfold El at P11
      go_wp2_with fail
      refine (eBytes_agg z _).mono ?_
      rintro e12 w12 ⟨v12, rfl, hb12, hx12⟩
      have HX12 := Lib.hid ((HS11.out.no hx12).s.x)
      have HR12 := Lib.hid (RB.no HR11.out hx12)
      have HB12 := Lib.hid hb12
      clear HS11 HR11 hb12 P11 hx12
      go_wp2_with fail
      refine (rBytes_any _ z _ HR12.out).mono ?_
      rintro e13 w13 ⟨v13, rfl, hb13, hx13⟩
      have HX13 := Lib.hid (HX12.out.trans hx13)
      have HB13 := Lib.hid hb13
      have HB12' := Lib.hid (Bs.ext_no HB12.out hx13)
      clear HX12 HR12 HB12 hb13 hx13
      go_wp2_with fail
      refine (rSame_eq _ _ _ _ HB12'.out HB13.out).mono ?_
      rintro e14 w14 ⟨rfl, hx14⟩
      have HX14 := Lib.hid (HX13.out.trans hx14)
      clear HX13 HB13 HB12' hx14
      go_wp2_with fail
      refine (works05 _).mono ?_
      rintro e15 w15 ⟨rfl, hx15⟩
      have HX15 := Lib.hid (HX14.out.trans hx15)
      clear HX14 hx15
      go_wp2
      go_ret
      exact ⟨rfl, HX15.out⟩
  · have hq : (300 : Int) < (b.length : Int) := by omega
    have hq2 : decide ((300 : Int) < (b.length : Int)) = true := decide_eq_true hq
    clear hlen
    go_wp2_with (refine (works05 _).mono ?_; rintro e' w4 ⟨rfl, hx4⟩)
    go_ret
    exact ⟨rfl, by repeat (first | exact Ext.refl No _ | with_reducible refine Ext.trans ?_ hx4 | with_reducible refine Ext.alloc ?_ _ | with_reducible refine Ext.drew ?_)⟩

open Go.ChangeShapes Go.WideShapes in
set_option maxRecDepth 100000 in
theorem walk_FieldHashes (W : World) (v0 v1 v2 : Value) (u0 : Rd Try.prog W 22 v0.cells.toList) (u1 : Rd Try.prog W 22 v1.cells.toList) (u2 : Rd Try.prog W 27 v2.cells.toList)
    {r : Reach} {base : Nat} (ok0 : Value.okWide Try.prog W r base 22 v0) (ok1 : Value.okWide Try.prog W r base 22 v1) (ok2 : Value.okWide Try.prog W r base 27 v2) :
    Calls Try.prog 4 #[v0, v1, v2] W fun e W' => e = .returned (.bool true) ∧ Ext No W W' := by
  obtain ⟨l, hl, rfl⟩ := bytesN_of (n := 16) Try.underlying22 (by kernel_rfl) ok0 u0
  obtain ⟨m, hm, rfl⟩ := bytesN_of (n := 16) Try.underlying22 (by kernel_rfl) ok1 u1
  obtain ⟨A, len, cap, rfl⟩ := okWide_slice Try.underlying27 ok2
  obtain ⟨A', c', b, he, hb⟩ := bytes_of u2
  have he : [Value.slice A len cap] = [.slice A' b.length c'] := he
  simp only [List.cons.injEq, Value.slice.injEq, and_true] at he
  obtain ⟨rfl, rfl, rfl⟩ := he
  exact hashes05_any l m b _ _ W hl hm hb.any
end Go.Proofs.Ytljddghamgjfbaa
