/- The laws FieldNone and FieldLaws. -/
import Derived.Test.YtljddghamgjfbaaLaw05
import Derived.Test.YtljddghamgjfbaaOpenArr
import Derived.Deep.DeepCutAuto
import Derived.Deep.RegionWith
set_option linter.unusedVariables false
set_option linter.unusedSimpArgs false
namespace Go.Proofs.Ytljddghamgjfbaa
open Go.RowKit Go.Deep Fm

/-- An element's two cells. -/
def El (w : World) (g : Nat) (x : G) : Prop := w.cell? ⟨g, 0, none⟩ = some (.int .u64 (hi x : Int)) ∧ w.cell? ⟨g, 1, none⟩ = some (.int .u64 (lo x : Int))
theorem El.no {w w' : World} {g : Nat} {x : G} (h : El w g x) (hx : Ext No w w') : El w' g x := by
  have hl := World.block_lt_of_cell? w _ h.1
  exact ⟨(hx.cell (p := ⟨g, 0, none⟩) hl (fun h => h)).trans h.1, (hx.cell (p := ⟨g, 1, none⟩) hl (fun h => h)).trans h.2⟩
/-- x, y (and z) in blocks of their own. -/
structure E3 (w0 : World) (g1 g2 g3 : Nat) (x y z : G) (w : World) : Prop where
  a : El w g1 x
  b : El w g2 y
  c : El w g3 z
  x : Ext No w0 w
abbrev E3S (w0 : World) (g1 g2 g3 : Nat) (x y z : G) (w : World) : Prop :=
  ((w.cell? ⟨g1, 0, none⟩ = some (.int .u64 (hi x : Int)) ∧ w.cell? ⟨g1, 1, none⟩ = some (.int .u64 (lo x : Int))) ∧ (w.cell? ⟨g2, 0, none⟩ = some (.int .u64 (hi y : Int)) ∧ w.cell? ⟨g2, 1, none⟩ = some (.int .u64 (lo y : Int))) ∧ (w.cell? ⟨g3, 0, none⟩ = some (.int .u64 (hi z : Int)) ∧ w.cell? ⟨g3, 1, none⟩ = some (.int .u64 (lo z : Int)))) ∧ Hid (E3 w0 g1 g2 g3 x y z w)
section
variable {w0 w w' : World} {g1 g2 g3 : Nat} {x y z : G}
theorem E3.S (h : E3 w0 g1 g2 g3 x y z w) : E3S w0 g1 g2 g3 x y z w := ⟨⟨h.a, h.b, h.c⟩, h⟩
theorem E3.no (h : E3S w0 g1 g2 g3 x y z w) (hx : Ext No w w') : E3S w0 g1 g2 g3 x y z w' := E3.S ⟨h.2.out.a.no hx, h.2.out.b.no hx, h.2.out.c.no hx, h.2.out.x.trans hx⟩
theorem E3.times (h : E3S w0 g1 g2 g3 x y z w) (p q : G) : Calls Try.prog 28 #[.agg #[.int .u64 (hi p : Int), .int .u64 (lo p : Int)], .agg #[.int .u64 (hi q : Int), .int .u64 (lo q : Int)]] w fun e w' => e = .returned (.agg #[.int .u64 (hi (mul p q) : Int), .int .u64 (lo (mul p q) : Int)]) ∧ E3S w0 g1 g2 g3 x y z w' := by
  refine (fTimes_any p q w).mono ?_
  rintro e w' ⟨rfl, hx⟩
  exact ⟨rfl, E3.no h hx⟩
theorem E3.add (h : E3S w0 g1 g2 g3 x y z w) (p q : G) : Calls Try.prog 31 #[.agg #[.int .u64 (hi p : Int), .int .u64 (lo p : Int)], .agg #[.int .u64 (hi q : Int), .int .u64 (lo q : Int)]] w fun e w' => e = .returned (.agg #[.int .u64 (hi (p ^^^ q) : Int), .int .u64 (lo (p ^^^ q) : Int)]) ∧ E3S w0 g1 g2 g3 x y z w' := by
  refine (eAdd_any p q w).mono ?_
  rintro e w' ⟨rfl, hx⟩
  exact ⟨rfl, E3.no h hx⟩
theorem E3.zero (h : E3S w0 g1 g2 g3 x y z w) (p : G) (b : Bool) (hb : decide (p = 0#128) = b) : Calls Try.prog 36 #[.agg #[.int .u64 (hi p : Int), .int .u64 (lo p : Int)]] w fun e w' => e = .returned (.bool b) ∧ E3S w0 g1 g2 g3 x y z w' := by
  subst hb
  refine (eZero_any p w).mono ?_
  rintro e w' ⟨rfl, hx⟩
  exact ⟨rfl, E3.no h hx⟩
theorem E3.works (h : E3S w0 g1 g2 g3 x y z w) : Calls Try.prog 33 #[] w fun e w' => e = .returned (.bool true) ∧ E3S w0 g1 g2 g3 x y z w' := by
  refine (works05 w).mono ?_
  rintro e w' ⟨rfl, hx⟩
  exact ⟨rfl, E3.no h hx⟩
end
/-- An array of bytes in a block of its own, sliced whole. -/
theorem Bs.whole {w : World} {g : Nat} {t : TypeId} {L : List UInt8} (h : Blk w g t (u8s L).toArray) {n c : Nat} (hn : n = L.length) (hc : n ≤ c) (hm : c ≤ maxLen) : Bs w (fun k => k = g) (.slice (some ⟨g, 0, none⟩) n c) L := by
  have := Bs.arr h 0 L.length c (n := n) (by omega) (Nat.zero_le _) (Nat.le_refl _) hc hm
  rwa [List.take_of_length_le (Nat.le_refl _), List.drop_zero] at this
abbrev zE : Obj := .cells #[.int .u64 0, .int .u64 0] 25
abbrev ZB (w : World) (g : Nat) : Prop := Blk w g 25 #[.int .u64 0, .int .u64 0]
theorem zA {w w' : World} (h : Ext No (w.alloc zE) w') : ZB w' w.heap.size := (Blk.new w _ _).ext_no h
theorem zAd {w w' : World} (h : Ext No (w.alloc zE).drew w') : ZB w' w.heap.size := ((Blk.new w _ _).drew).ext_no h
theorem zAA {w w' : World} (h : Ext No ((w.alloc zE).alloc zE) w') : ZB w' w.heap.size ∧ ZB w' (w.heap.size + 1) := by
  refine ⟨((Blk.new w _ _).alloc _).ext_no h, ?_⟩
  have := Blk.new (w.alloc zE) 25 #[.int .u64 0, .int .u64 0]
  rw [World.size_alloc] at this
  exact this.ext_no h
theorem zAAd {w w' : World} (h : Ext No ((w.alloc zE).alloc zE).drew w') : ZB w' w.heap.size ∧ ZB w' (w.heap.size + 1) := zAA ⟨h.os, h.tape, h.output, h.size, h.block⟩
theorem zOf {w w' : World} {g : Nat} (z : ZB w g) (h : Ext No w w') : ZB w' g := z.ext_no h
theorem zOfA {w w' : World} {g : Nat} (z : ZB w g) (h : Ext No (w.alloc zE) w') : ZB w' g := (z.alloc zE).ext_no h
theorem zOfAA {w w' : World} {g : Nat} (z : ZB w g) (h : Ext No ((w.alloc zE).alloc zE) w') : ZB w' g := ((z.alloc zE).alloc zE).ext_no h
section
variable {w : World} {g g' : Nat} {x : G} {u v : Value}
theorem El.set2 (h : ZB w g) : El ((w.setCell ⟨g, 0, none⟩ (.int .u64 (hi x : Int))).setCell ⟨g, 1, none⟩ (.int .u64 (lo x : Int))) g x := (Blk.c2 (Blk.set_ (Blk.set_ h 0 _) 1 _)).1
theorem ZB.far2 (h : ZB w g) (hn : g ≠ g') : ZB ((w.setCell ⟨g', 0, none⟩ u).setCell ⟨g', 1, none⟩ v) g := Blk.far (Blk.far h hn _) hn _
theorem El.far2 (h : El w g x) (hn : g ≠ g') : El ((w.setCell ⟨g', 0, none⟩ u).setCell ⟨g', 1, none⟩ v) g x := by
  have e : ∀ o, ((w.setCell ⟨g', 0, none⟩ u).setCell ⟨g', 1, none⟩ v).cell? ⟨g, o, none⟩ = w.cell? ⟨g, o, none⟩ := fun o => by
    rw [World.cell?_of_block (Below.heap_setCell _ ⟨g', 1, none⟩ v g hn), World.cell?_of_block (Below.heap_setCell w ⟨g', 0, none⟩ u g hn)]
  exact ⟨(e 0).trans h.1, (e 1).trans h.2⟩
theorem El.alloc (h : El w g x) (o : Obj) : El (w.alloc o) g x := h.no ((Ext.refl No w).alloc o)
theorem El.new (w : World) (x : G) {g : Nat} (hg : g = w.heap.size) : El (w.alloc (.cells #[.int .u64 (hi x : Int), .int .u64 (lo x : Int)] 25)) g x := by
  subst hg; exact (Blk.c2 (Blk.new w _ _)).1
end
theorem ecell {W w1 : World} (hb : Ext No W w1) : (∀ b o, b < W.heap.size → w1.cell? ⟨b, o, none⟩ = W.cell? ⟨b, o, none⟩) ∧ (∀ b o, b < W.heap.size → w1.frozen? ⟨b, o, none⟩ = W.frozen? ⟨b, o, none⟩) :=
  ⟨fun b o h => hb.cell (p := ⟨b, o, none⟩) h (fun h => h), fun b o h => hb.frozen (p := ⟨b, o, none⟩) h (fun h => h)⟩
set_option maxRecDepth 100000 in
set_option maxHeartbeats 12000000 in
theorem none05_any (l m : List UInt8) (w : World) (hl : l.length = 16) (hm : m.length = 16) : Calls Try.prog 6 #[.agg (u8s l).toArray, .agg (u8s m).toArray] w fun e' w' => e' = .returned (.bool true) ∧ Ext No w w' := by
  have HL := Lib.hid hl
  have HM := Lib.hid hm
  clear hl hm
  go_enter Try.func6, Try.ntmps6
  go_upto_region 1 with fail
  have HA : Hid (Blk ((w.alloc (.cells (u8s l).toArray 22)).alloc (.cells (u8s m).toArray 22)) w.heap.size 22 (u8s l).toArray) := Lib.hid ((Blk.new w _ _).alloc _)
  have hb0 := Blk.new (w.alloc (.cells (u8s l).toArray 22)) 22 (u8s m).toArray
  rw [World.size_alloc] at hb0
  have HB := Lib.hid hb0
  have HX := Lib.hid (((Ext.refl No w).alloc (.cells (u8s l).toArray 22)).alloc (.cells (u8s m).toArray 22))
  clear hb0
  generalize ((w.alloc (.cells (u8s l).toArray 22)).alloc (.cells (u8s m).toArray 22)) = w2 at *
  have hw2 := HX.out.size
  obtain ⟨x, hx⟩ : ∃ x, elL l = x := ⟨_, rfl⟩
  obtain ⟨y, hy⟩ : ∃ y, elL m = y := ⟨_, rfl⟩
  have HEX := Lib.hid hx
  have HEY := Lib.hid hy
  clear hx hy
  go_cut [5, 6] (fun s5 s6 wx => ∃ g1 g2 : Nat, s5 = .pointer (some ⟨g1, 0, none⟩) ∧ s6 = .pointer (some ⟨g2, 0, none⟩) ∧ Hid (E3 w g1 g2 g2 x y y wx))
  case first =>
    go_region_with ((first
      | (go_at_call 22; (with_reducible refine (fFrom_agg (.slice (some ⟨w.heap.size, 0, none⟩) 16 16) l _ ?_ x HEX.out).mono ?_); (exact (Bs.whole (g := w.heap.size) (t := 22) (by first | exact HA.out | exact HA.out.alloc _ | exact (HA.out.alloc _).alloc _) HL.out.symm (Nat.le_refl _) (by unfold maxLen; decide)).any); rintro e' w6 ⟨rfl, hx6⟩; obtain ⟨hc6, hf6⟩ := ecell hx6; have hz6 := hx6.size; (try simp at hz6); (try have y6 := zA hx6); (try have y6 := zAd hx6); (try have y6 := zAA hx6); (try have y6 := zAAd hx6); (try have y6c := Blk.c2 y6); (try have y6c := And.intro (Blk.c2 y6.1) (Blk.c2 y6.2)))
      | (go_at_call 22; (with_reducible refine (fFrom_agg (.slice (some ⟨w.heap.size + 1, 0, none⟩) 16 16) m _ ?_ y HEY.out).mono ?_); (exact (Bs.whole (g := w.heap.size + 1) (t := 22) (by first | exact HB.out | exact Blk.ext_no (by exact HB.out) hx6 | exact (Blk.ext_no (by exact HB.out) hx6).alloc _ | exact ((Blk.ext_no (by exact HB.out) hx6).alloc _).alloc _ | exact Blk.ext_no (by exact HB.out.alloc _) hx6 | exact (Blk.ext_no (by exact HB.out.alloc _) hx6).alloc _ | exact Blk.ext_no (by exact (HB.out.alloc _).alloc _) hx6) HM.out.symm (Nat.le_refl _) (by unfold maxLen; decide)).any); rintro e' w7 ⟨rfl, hx7⟩; obtain ⟨hc7, hf7⟩ := ecell hx7; have hz7 := hx7.size; (try simp at hz7); (try have y7 := zA hx7); (try have y7 := zAA hx7); (try have y7c := Blk.c2 y7); (try have y7c := And.intro (Blk.c2 y7.1) (Blk.c2 y7.2)); (try have y67 := zOf y6 hx7); (try have y67 := zOfA y6 hx7); (try have y67 := And.intro (zOf y6.1 hx7) (zOf y6.2 hx7)); (try have y67c := Blk.c2 y67); (try have y67c := And.intro (Blk.c2 y67.1) (Blk.c2 y67.2)))))
    all_goals
      go_wp2_with fail
      go_meet
      case rel =>
        refine ⟨_, _, rfl, rfl, Lib.hid ⟨?_, ?_, ?_, ?_⟩⟩
        iterate 3 (· repeat (first
          | with_reducible exact El.new _ _ (by simp)
          | with_reducible exact El.new _ _ rfl
          | ((with_reducible refine El.set2 ?_); (first | assumption | exact y7 | exact y67 | exact y7.1 | exact y7.2 | exact y67.1 | exact y67.2 | exact ZB.far2 y7.1 (by simp) | exact ZB.far2 y7.2 (by simp) | exact ZB.far2 y67.1 (by simp) | exact ZB.far2 y67.2 (by simp) | exact ZB.far2 y7 (by omega) | exact ZB.far2 y67 (by omega)))
          | with_reducible refine El.far2 ?_ (by first | (simp; done) | omega | (simp; omega))
          | with_reducible refine El.alloc ?_ _))
        · repeat (first | with_reducible refine Ext.setCell ?_ (fun h => by simp at h; omega) _ | with_reducible refine Ext.alloc ?_ _ | with_reducible refine Ext.drew ?_ | with_reducible exact HX.out | with_reducible refine Ext.trans ?_ hx7 | with_reducible refine Ext.trans ?_ hx6)
  case rest =>
    obtain ⟨g1, g2, rfl, rfl, HE⟩ := hcut
    clear HA HB HX hw2
    have HNZ : Hid (decide (mul x y = 0#128) = (decide (x = 0#128) || decide (y = 0#128))) := Lib.hid (by
      rw [Bool.eq_iff_iff, Bool.or_eq_true, decide_eq_true_eq, decide_eq_true_eq, decide_eq_true_eq]
      exact no_zero x y)
    have P := (E3.S HE.out).1
    cases hx0 : decide (x = 0#128)
    · cases hy0 : decide (y = 0#128)
      all_goals
        rw [hx0, hy0] at HNZ
        have HX0 := Lib.hid hx0
        have HY0 := Lib.hid hy0
        clear hx0 hy0 P
        go_wp2_with fail
        go_region_held3 (fun w' => ((w'.cell? ⟨g1, 0, none⟩ = some (.int .u64 (hi x : Int)) ∧ w'.cell? ⟨g1, 1, none⟩ = some (.int .u64 (lo x : Int))) ∧ (w'.cell? ⟨g2, 0, none⟩ = some (.int .u64 (hi y : Int)) ∧ w'.cell? ⟨g2, 1, none⟩ = some (.int .u64 (lo y : Int))) ∧ (w'.cell? ⟨g2, 0, none⟩ = some (.int .u64 (hi y : Int)) ∧ w'.cell? ⟨g2, 1, none⟩ = some (.int .u64 (lo y : Int)))) ∧ Hid (E3 w g1 g2 g2 x y y w'))
          (first | assumption | exact E3.S HE.out | exact E3.no (E3.S HE.out) (Ext.refl No _).drew | exact E3.no (by assumption) (Ext.refl No _).drew)
          (first
            | (go_at_call 28; refine (E3.times (w0 := w) (g1 := g1) (g2 := g2) (g3 := g2) (x := x) (y := y) (z := y) (by assumption) x y).mono ?_; rintro e' w7 ⟨rfl, hS7⟩)
            | (go_at_call 36; (with_reducible refine (E3.zero (w0 := w) (g1 := g1) (g2 := g2) (g3 := g2) (x := x) (y := y) (z := y) (by assumption) (mul x y) _ HNZ.out).mono ?_); rintro e' w8 ⟨rfl, hS8⟩)
            | (go_at_call 36; (with_reducible refine (E3.zero (w0 := w) (g1 := g1) (g2 := g2) (g3 := g2) (x := x) (y := y) (z := y) (by assumption) x _ HX0.out).mono ?_); rintro e' w9 ⟨rfl, hS9⟩)
            | (go_at_call 36; (with_reducible refine (E3.zero (w0 := w) (g1 := g1) (g2 := g2) (g3 := g2) (x := x) (y := y) (z := y) (by assumption) y _ HY0.out).mono ?_); rintro e' w10 ⟨rfl, hS10⟩)
            | (go_at_call 33; refine (E3.works (w0 := w) (g1 := g1) (g2 := g2) (g3 := g2) (x := x) (y := y) (z := y) (by assumption)).mono ?_; rintro e' w11 ⟨rfl, hS11⟩))
        have HXF := Lib.hid hS11.2.out.x
        clear hS7 hS8 hS9 hS11
        go_wp2
        go_ret
        exact ⟨rfl, HXF.out⟩
    · rw [hx0, Bool.true_or] at HNZ
      have HX0 := Lib.hid hx0
      clear hx0
      go_wp2_with fail
      go_region_with ((first
        | (go_at_call 28; refine (E3.times (w0 := w) (g1 := g1) (g2 := g2) (g3 := g2) (x := x) (y := y) (z := y) (E3.no (E3.S HE.out) (Ext.refl No _).drew) x y).mono ?_; rintro e' w7 ⟨rfl, hS7⟩; have P7 := hS7.1)
        | (go_at_call 36; (with_reducible refine (E3.zero (w0 := w) (g1 := g1) (g2 := g2) (g3 := g2) (x := x) (y := y) (z := y) hS7 (mul x y) _ HNZ.out).mono ?_); rintro e' w8 ⟨rfl, hS8⟩; have P8 := hS8.1)
        | (go_at_call 36; (with_reducible refine (E3.zero (w0 := w) (g1 := g1) (g2 := g2) (g3 := g2) (x := x) (y := y) (z := y) hS8 x _ HX0.out).mono ?_); rintro e' w9 ⟨rfl, hS9⟩; have P9 := hS9.1)
        | (go_at_call 33; refine (E3.works (w0 := w) (g1 := g1) (g2 := g2) (g3 := g2) (x := x) (y := y) (z := y) hS9).mono ?_; rintro e' w11 ⟨rfl, hS11⟩)))
      all_goals
        have HXF := Lib.hid hS11.2.out.x
        clear hS7 hS8 hS9 hS11
        go_wp2
        go_ret
        exact ⟨rfl, HXF.out⟩

open Go.ChangeShapes Go.WideShapes in
set_option maxRecDepth 100000 in
theorem walk_FieldNone (W : World) (v0 v1 : Value) (u0 : Rd Try.prog W 22 v0.cells.toList) (u1 : Rd Try.prog W 22 v1.cells.toList)
    {r : Reach} {base : Nat} (ok0 : Value.okWide Try.prog W r base 22 v0) (ok1 : Value.okWide Try.prog W r base 22 v1) :
    Calls Try.prog 6 #[v0, v1] W fun e W' => e = .returned (.bool true) ∧ Ext No W W' := by
  obtain ⟨l, hl, rfl⟩ := bytesN_of (n := 16) Try.underlying22 (by kernel_rfl) ok0 u0
  obtain ⟨m, hm, rfl⟩ := bytesN_of (n := 16) Try.underlying22 (by kernel_rfl) ok1 u1
  exact none05_any l m W hl hm
end Go.Proofs.Ytljddghamgjfbaa
