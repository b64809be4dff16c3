/- The law FieldLaws. -/
import Derived.Test.YtljddghamgjfbaaField05
import Derived.Test.YtljddghamgjfbaaRegFacts
set_option linter.unusedVariables false
set_option linter.unusedSimpArgs false
namespace Go.Proofs.Ytljddghamgjfbaa
open Go.RowKit Go.Deep Fm

abbrev pE (g : Nat) : Value := .pointer (some ⟨g, 0, none⟩)
/-- Three new variables, each with where it was stored to. -/
structure G3 (w0 : World) (a b c sa sb sc : Value) (w : World) : Prop where
  x : Ext No w0 w
  la : ∀ g, a = pE g → w0.heap.size ≤ g ∧ g < w.heap.size
  lb : ∀ g, b = pE g → w0.heap.size ≤ g ∧ g < w.heap.size
  lc : ∀ g, c = pE g → w0.heap.size ≤ g ∧ g < w.heap.size
  ab : ∀ g, a = pE g → b = pE g → False
  ac : ∀ g, a = pE g → c = pE g → False
  bc : ∀ g, b = pE g → c = pE g → False
  ea : sa = undef ∨ sa = a
  eb : sb = undef ∨ sb = b
  ec : sc = undef ∨ sc = c
theorem pE_undef {g : Nat} : ¬ (undef = pE g) := by simp [undef]
section
variable {w0 w w' : World} {a b c sa sb sc : Value}
theorem G3.no (h : G3 w0 a b c sa sb sc w) (hx : Ext No w w') : G3 w0 a b c sa sb sc w' :=
  ⟨h.x.trans hx, fun g e => ⟨(h.la g e).1, Nat.lt_of_lt_of_le (h.la g e).2 hx.size⟩, fun g e => ⟨(h.lb g e).1, Nat.lt_of_lt_of_le (h.lb g e).2 hx.size⟩, fun g e => ⟨(h.lc g e).1, Nat.lt_of_lt_of_le (h.lc g e).2 hx.size⟩, h.ab, h.ac, h.bc, h.ea, h.eb, h.ec⟩
theorem G3.newA (h : G3 w0 a b c undef sb sc w) (o : Obj) : G3 w0 (pE w.heap.size) b c undef sb sc (w.alloc o) := by
  have k := h.no ((Ext.refl No w).alloc o)
  refine ⟨k.x, fun g e => ?_, k.lb, k.lc, fun g e e' => ?_, fun g e e' => ?_, k.bc, .inl rfl, k.eb, k.ec⟩
  · simp at e; subst e; exact ⟨h.x.size, by simp⟩
  · simp at e; subst e; exact absurd (h.lb _ e').2 (Nat.lt_irrefl _)
  · simp at e; subst e; exact absurd (h.lc _ e').2 (Nat.lt_irrefl _)
theorem G3.newB (h : G3 w0 a b c sa undef sc w) (o : Obj) : G3 w0 a (pE w.heap.size) c sa undef sc (w.alloc o) := by
  have k := h.no ((Ext.refl No w).alloc o)
  refine ⟨k.x, k.la, fun g e => ?_, k.lc, fun g e e' => ?_, k.ac, fun g e e' => ?_, k.ea, .inl rfl, k.ec⟩
  · simp at e; subst e; exact ⟨h.x.size, by simp⟩
  · simp at e'; subst e'; exact absurd (h.la _ e).2 (Nat.lt_irrefl _)
  · simp at e; subst e; exact absurd (h.lc _ e').2 (Nat.lt_irrefl _)
theorem G3.newC (h : G3 w0 a b c sa sb undef w) (o : Obj) : G3 w0 a b (pE w.heap.size) sa sb undef (w.alloc o) := by
  have k := h.no ((Ext.refl No w).alloc o)
  refine ⟨k.x, k.la, k.lb, fun g e => ?_, k.ab, fun g e e' => ?_, fun g e e' => ?_, k.ea, k.eb, .inl rfl⟩
  · simp at e; subst e; exact ⟨h.x.size, by simp⟩
  · simp at e'; subst e'; exact absurd (h.la _ e).2 (Nat.lt_irrefl _)
  · simp at e'; subst e'; exact absurd (h.lb _ e).2 (Nat.lt_irrefl _)
theorem G3.ext (h : G3 w0 a b c sa sb sc w) (hx : Ext No w0 w') (hs : w.heap.size ≤ w'.heap.size) : G3 w0 a b c sa sb sc w' :=
  ⟨hx, fun g e => ⟨(h.la g e).1, Nat.lt_of_lt_of_le (h.la g e).2 hs⟩, fun g e => ⟨(h.lb g e).1, Nat.lt_of_lt_of_le (h.lb g e).2 hs⟩, fun g e => ⟨(h.lc g e).1, Nat.lt_of_lt_of_le (h.lc g e).2 hs⟩, h.ab, h.ac, h.bc, h.ea, h.eb, h.ec⟩
end
/-- Cells of an element, whatever they are. -/
def EB (w : World) (g : Nat) : Prop := ∃ c d, Blk w g 25 #[c, d]
theorem EB.no {w w' : World} {g : Nat} (h : EB w g) (hx : Ext No w w') : EB w' g := by obtain ⟨c, d, h⟩ := h; exact ⟨c, d, h.ext_no hx⟩
theorem EB.set {w : World} {g g' i : Nat} (h : EB w g) (u : Value) : EB (w.setCell ⟨g', i, none⟩ u) g := by
  obtain ⟨c, d, h⟩ := h
  by_cases e : g = g'
  · subst e
    have := Blk.set_ h i u
    match i, this with
    | 0, this => exact ⟨_, _, this⟩
    | 1, this => exact ⟨_, _, this⟩
    | i + 2, this => exact ⟨c, d, this⟩
  · exact ⟨c, d, h.far e u⟩
/-- What each operation of 'x, y, z := From(..), From(..), From(..)' leaves. -/
def F3 (va vb vc x y z : Value) (xg yg zg : G) : Nat → Value → World → Prop
  | 0, v, _ => v = va
  | 1, v, _ => v = x
  | 2, v, _ => v = vb
  | 3, v, _ => v = y
  | 4, v, _ => v = vc
  | 5, v, _ => v = z
  | 6, v, w | 7, v, w | 8, v, w => ∃ g, v = pE g ∧ EB w g
  | 9, v, w => ∃ g, v = pE g ∧ El w g xg
  | 10, v, w => ∃ g, v = pE g ∧ El w g yg
  | 11, v, w => ∃ g, v = pE g ∧ El w g zg
  | _, _, _ => True
theorem F3.no {va vb vc x y z : Value} {xg yg zg : G} {w w' : World} (hx : Ext No w w') : ∀ j v, F3 va vb vc x y z xg yg zg j v w → F3 va vb vc x y z xg yg zg j v w' := by
  intro j v h
  match j, h with
  | 0, h | 1, h | 2, h | 3, h | 4, h | 5, h => exact h
  | 6, h | 7, h | 8, h => obtain ⟨g, e, h⟩ := h; exact ⟨g, e, h.no hx⟩
  | 9, h | 10, h | 11, h => obtain ⟨g, e, h⟩ := h; exact ⟨g, e, h.no hx⟩
  | n + 12, _ => trivial

theorem El.setE {w : World} {g : Nat} (h : EB w g) (x : G) : El ((w.setCell ⟨g, 0, none⟩ (.int .u64 (hi x : Int))).setCell ⟨g, 1, none⟩ (.int .u64 (lo x : Int))) g x := by
  obtain ⟨c, d, h⟩ := h
  exact (Blk.c2 (Blk.set_ (Blk.set_ h 0 _) 1 _)).1
theorem F3.set {va vb vc x y z : Value} {xg yg zg : G} {w w0 : World} {vs : Nat → Value} {g : Nat} (hG : G3 w0 (vs 6) (vs 7) (vs 8) (vs 9) (vs 10) (vs 11) w) (u v : Value) (i : Nat) (hi : i = 6 ∧ vs 6 = pE g ∨ i = 7 ∧ vs 7 = pE g ∨ i = 8 ∧ vs 8 = pE g) :
    ∀ j, j ≠ i + 3 → F3 va vb vc x y z xg yg zg j (vs j) w → F3 va vb vc x y z xg yg zg j (vs j) ((w.setCell ⟨g, 0, none⟩ u).setCell ⟨g, 1, none⟩ v) := by
  intro j hj h
  match j, h with
  | 0, h | 1, h | 2, h | 3, h | 4, h | 5, h => exact h
  | 6, h | 7, h | 8, h => obtain ⟨g, e, h⟩ := h; exact ⟨g, e, (h.set _).set _⟩
  | 9, h =>
    obtain ⟨g', e, h⟩ := h
    have e6 : vs 6 = pE g' := by rcases hG.ea with k | k <;> rw [k] at e; exact absurd e pE_undef; exact e
    refine ⟨g', e, h.far2 fun k => ?_⟩
    subst k
    rcases hi with ⟨rfl, hi⟩ | ⟨rfl, hi⟩ | ⟨rfl, hi⟩
    · exact hj rfl
    · exact hG.ab _ e6 hi
    · exact hG.ac _ e6 hi
  | 10, h =>
    obtain ⟨g', e, h⟩ := h
    have e6 : vs 7 = pE g' := by rcases hG.eb with k | k <;> rw [k] at e; exact absurd e pE_undef; exact e
    refine ⟨g', e, h.far2 fun k => ?_⟩
    subst k
    rcases hi with ⟨rfl, hi⟩ | ⟨rfl, hi⟩ | ⟨rfl, hi⟩
    · exact hG.ab _ hi e6
    · exact hj rfl
    · exact hG.bc _ e6 hi
  | 11, h =>
    obtain ⟨g', e, h⟩ := h
    have e6 : vs 8 = pE g' := by rcases hG.ec with k | k <;> rw [k] at e; exact absurd e pE_undef; exact e
    refine ⟨g', e, h.far2 fun k => ?_⟩
    subst k
    rcases hi with ⟨rfl, hi⟩ | ⟨rfl, hi⟩ | ⟨rfl, hi⟩
    · exact hG.ac _ hi e6
    · exact hG.bc _ hi e6
    · exact hj rfl
  | n + 12, _ => trivial

/-- x, y, z and one in blocks of their own. -/
structure E4 (w0 : World) (g1 g2 g3 g4 : Nat) (x y z o : G) (w : World) : Prop where
  a : El w g1 x
  b : El w g2 y
  c : El w g3 z
  d : El w g4 o
  x : Ext No w0 w
abbrev E4S (w0 : World) (g1 g2 g3 g4 : Nat) (x y z o : G) (w : World) : Prop :=
  ((w.cell? ⟨g1, 0, none⟩ = some (.int .u64 (hi x : Int)) ∧ w.cell? ⟨g1, 1, none⟩ = some (.int .u64 (lo x : Int))) ∧ (w.cell? ⟨g2, 0, none⟩ = some (.int .u64 (hi y : Int)) ∧ w.cell? ⟨g2, 1, none⟩ = some (.int .u64 (lo y : Int))) ∧ (w.cell? ⟨g3, 0, none⟩ = some (.int .u64 (hi z : Int)) ∧ w.cell? ⟨g3, 1, none⟩ = some (.int .u64 (lo z : Int))) ∧ (w.cell? ⟨g4, 0, none⟩ = some (.int .u64 (hi o : Int)) ∧ w.cell? ⟨g4, 1, none⟩ = some (.int .u64 (lo o : Int)))) ∧ Hid (E4 w0 g1 g2 g3 g4 x y z o w)
section
variable {w0 w w' : World} {g1 g2 g3 g4 : Nat} {x y z o : G}
theorem E4.S (h : E4 w0 g1 g2 g3 g4 x y z o w) : E4S w0 g1 g2 g3 g4 x y z o w := ⟨⟨h.a, h.b, h.c, h.d⟩, h⟩
theorem E4.no (h : E4S w0 g1 g2 g3 g4 x y z o w) (hx : Ext No w w') : E4S w0 g1 g2 g3 g4 x y z o w' := E4.S ⟨h.2.out.a.no hx, h.2.out.b.no hx, h.2.out.c.no hx, h.2.out.d.no hx, h.2.out.x.trans hx⟩
theorem E4.times (h : E4S w0 g1 g2 g3 g4 x y z o w) (p q r : G) (hr : mul p q = r) : Calls Try.prog 28 #[.agg #[.int .u64 (hi p : Int), .int .u64 (lo p : Int)], .agg #[.int .u64 (hi q : Int), .int .u64 (lo q : Int)]] w fun e w' => e = .returned (.agg #[.int .u64 (hi r : Int), .int .u64 (lo r : Int)]) ∧ E4S w0 g1 g2 g3 g4 x y z o w' := by
  subst hr
  refine (fTimes_any p q w).mono ?_
  rintro e w' ⟨rfl, hx⟩
  exact ⟨rfl, E4.no h hx⟩
theorem E4.add (h : E4S w0 g1 g2 g3 g4 x y z o w) (p q r : G) (hr : p ^^^ q = r) : Calls Try.prog 31 #[.agg #[.int .u64 (hi p : Int), .int .u64 (lo p : Int)], .agg #[.int .u64 (hi q : Int), .int .u64 (lo q : Int)]] w fun e w' => e = .returned (.agg #[.int .u64 (hi r : Int), .int .u64 (lo r : Int)]) ∧ E4S w0 g1 g2 g3 g4 x y z o w' := by
  subst hr
  refine (eAdd_any p q w).mono ?_
  rintro e w' ⟨rfl, hx⟩
  exact ⟨rfl, E4.no h hx⟩
theorem E4.works (h : E4S w0 g1 g2 g3 g4 x y z o w) : Calls Try.prog 33 #[] w fun e w' => e = .returned (.bool true) ∧ E4S w0 g1 g2 g3 g4 x y z o w' := by
  refine (works05 w).mono ?_
  rintro e w' ⟨rfl, hx⟩
  exact ⟨rfl, E4.no h hx⟩
end
abbrev eV (x : G) : Value := .agg #[.int .u64 (hi x : Int), .int .u64 (lo x : Int)]
set_option maxRecDepth 100000 in
set_option maxHeartbeats 4000000 in
theorem laws05_any (l m n : List UInt8) (w : World) (hl : l.length = 16) (hm : m.length = 16) (hn : n.length = 16) : Calls Try.prog 5 #[.agg (u8s l).toArray, .agg (u8s m).toArray, .agg (u8s n).toArray] w fun e' w' => e' = .returned (.bool true) ∧ Ext No w w' := by
  have HL := Lib.hid hl
  have HM := Lib.hid hm
  have HN := Lib.hid hn
  clear hl hm hn
  go_enter Try.func5, Try.ntmps5
  go_upto_region 1 with fail
  have HA : Hid (Blk (((w.alloc (.cells (u8s l).toArray 22)).alloc (.cells (u8s m).toArray 22)).alloc (.cells (u8s n).toArray 22)) w.heap.size 22 (u8s l).toArray) := Lib.hid (((Blk.new w _ _).alloc _).alloc _)
  have hb0 := (Blk.new (w.alloc (.cells (u8s l).toArray 22)) 22 (u8s m).toArray).alloc (.cells (u8s n).toArray 22)
  rw [World.size_alloc] at hb0
  have HB := Lib.hid hb0
  have hc0 := Blk.new ((w.alloc (.cells (u8s l).toArray 22)).alloc (.cells (u8s m).toArray 22)) 22 (u8s n).toArray
  rw [World.size_alloc, World.size_alloc] at hc0
  have HC := Lib.hid hc0
  have HX := Lib.hid ((((Ext.refl No w).alloc (.cells (u8s l).toArray 22)).alloc (.cells (u8s m).toArray 22)).alloc (.cells (u8s n).toArray 22))
  clear hb0 hc0
  generalize (((w.alloc (.cells (u8s l).toArray 22)).alloc (.cells (u8s m).toArray 22)).alloc (.cells (u8s n).toArray 22)) = w2 at *
  obtain ⟨x, hx⟩ : ∃ x, elL l = x := ⟨_, rfl⟩
  obtain ⟨y, hy⟩ : ∃ y, elL m = y := ⟨_, rfl⟩
  obtain ⟨z, hz⟩ : ∃ z, elL n = z := ⟨_, rfl⟩
  have HEX := Lib.hid hx
  have HEY := Lib.hid hy
  have HEZ := Lib.hid hz
  clear hx hy hz
  have HY0 : Hid (Ext No w2 w2.drew) := Lib.hid (Ext.refl No w2).drew
  go_cut [7, 8, 9] (fun s5 s6 s7 wx => ∃ g1 g2 g3 : Nat, s5 = pE g1 ∧ s6 = pE g2 ∧ s7 = pE g3 ∧ Hid (El wx g1 x ∧ El wx g2 y ∧ El wx g3 z ∧ Ext No w2 wx))
  case first =>
    refine RF.region (vs := fun _ => undef) rfl (fun vs => ((.agg (u8s l).toArray) :: (.agg (u8s m).toArray) :: (.agg (u8s n).toArray) :: (pE w.heap.size) :: (pE (w.heap.size + 1)) :: (pE (w.heap.size + 1 + 1)) :: (.bool false) :: (vs 6) :: (vs 7) :: (vs 8) :: undef :: (vs 0) :: (vs 1) :: (vs 2) :: (vs 3) :: (vs 4) :: (vs 5) :: undef :: undef :: undef :: undef :: undef :: undef :: undef :: undef :: undef :: undef :: undef :: undef :: undef :: undef :: undef :: undef :: undef :: undef :: undef :: undef :: undef :: undef :: undef :: undef :: undef :: undef :: undef :: undef :: undef :: undef :: undef :: undef :: undef :: undef :: undef :: undef :: undef :: undef :: undef :: undef :: undef :: undef :: undef :: undef :: undef :: undef :: undef :: []).toArray)
      (F3 (.slice (some ⟨w.heap.size, 0, none⟩) 16 16) (.slice (some ⟨w.heap.size + 1, 0, none⟩) 16 16) (.slice (some ⟨w.heap.size + 1 + 1, 0, none⟩) 16 16) (eV x) (eV y) (eV z) x y z)
      (fun vs wx => G3 w2 (vs 6) (vs 7) (vs 8) (vs 9) (vs 10) (vs 11) wx) rfl (by kernel_rfl) ?_ ?_ ?_
    · refine ⟨HY0.out, ?_, ?_, ?_, ?_, ?_, ?_, .inl rfl, .inl rfl, .inl rfl⟩ <;> intro g e <;> exact absurd e pE_undef
    · refine ⟨⟨⟨⟨⟨⟨⟨⟨⟨⟨⟨⟨trivial, ?_⟩, ?_⟩, ?_⟩, ?_⟩, ?_⟩, ?_⟩, ?_⟩, ?_⟩, ?_⟩, ?_⟩, ?_⟩, ?_⟩
      all_goals refine RF.Step.plain rfl rfl (fun vs wx hG hv hd K hK => ?_)
      · go_simp
        exact hK _ _ hG rfl (fun _ _ h => h)
      · have h0 : vs 0 = _ := hd.1
        go_simp
        have hc := fFrom_agg _ l wx (Bs.whole (g := w.heap.size) (t := 22) (HA.out.ext_no hG.x) HL.out.symm (Nat.le_refl _) (by unfold maxLen; decide)).any x HEX.out
        with_reducible refine hc.mono ?_
        rintro e' w' ⟨rfl, hx⟩
        have h3 := hK _ _ (hG.no hx) rfl (fun j _ h => F3.no hx j _ h)
        simpa only [RF.upd, h0, Nat.reduceEqDiff, if_true, if_false, reduceIte] using h3
      · go_simp
        exact hK _ _ hG rfl (fun _ _ h => h)
      · have h0 : vs 2 = _ := hd.1
        go_simp
        have hc := fFrom_agg _ m wx (Bs.whole (g := w.heap.size + 1) (t := 22) (HB.out.ext_no hG.x) HM.out.symm (Nat.le_refl _) (by unfold maxLen; decide)).any y HEY.out
        with_reducible refine hc.mono ?_
        rintro e' w' ⟨rfl, hx⟩
        have h3 := hK _ _ (hG.no hx) rfl (fun j _ h => F3.no hx j _ h)
        simpa only [RF.upd, h0, Nat.reduceEqDiff, if_true, if_false, reduceIte] using h3
      · go_simp
        exact hK _ _ hG rfl (fun _ _ h => h)
      · have h0 : vs 4 = _ := hd.1
        go_simp
        have hc := fFrom_agg _ n wx (Bs.whole (g := w.heap.size + 1 + 1) (t := 22) (HC.out.ext_no hG.x) HN.out.symm (Nat.le_refl _) (by unfold maxLen; decide)).any z HEZ.out
        with_reducible refine hc.mono ?_
        rintro e' w' ⟨rfl, hx⟩
        have h3 := hK _ _ (hG.no hx) rfl (fun j _ h => F3.no hx j _ h)
        simpa only [RF.upd, h0, Nat.reduceEqDiff, if_true, if_false, reduceIte] using h3
      · have hv' : vs 6 = undef := hv
        have hs : vs 9 = undef := by rcases hG.ea with k | k; exact k; rw [k, hv']
        go_simp
        have hG' := hG
        rw [hs] at hG'
        refine hK _ _ ?_ ⟨wx.heap.size, rfl, _, _, Blk.new wx _ _⟩ (fun j _ h => F3.no ((Ext.refl No wx).alloc _) j _ h)
        have k2 := hG'.newA (.cells #[.int .u64 0, .int .u64 0] 25)
        rw [← hs] at k2
        exact k2
      · have hv' : vs 7 = undef := hv
        have hs : vs 10 = undef := by rcases hG.eb with k | k; exact k; rw [k, hv']
        go_simp
        have hG' := hG
        rw [hs] at hG'
        refine hK _ _ ?_ ⟨wx.heap.size, rfl, _, _, Blk.new wx _ _⟩ (fun j _ h => F3.no ((Ext.refl No wx).alloc _) j _ h)
        have k2 := hG'.newB (.cells #[.int .u64 0, .int .u64 0] 25)
        rw [← hs] at k2
        exact k2
      · have hv' : vs 8 = undef := hv
        have hs : vs 11 = undef := by rcases hG.ec with k | k; exact k; rw [k, hv']
        go_simp
        have hG' := hG
        rw [hs] at hG'
        refine hK _ _ ?_ ⟨wx.heap.size, rfl, _, _, Blk.new wx _ _⟩ (fun j _ h => F3.no ((Ext.refl No wx).alloc _) j _ h)
        have k2 := hG'.newC (.cells #[.int .u64 0, .int .u64 0] 25)
        rw [← hs] at k2
        exact k2
      · obtain ⟨g, hg, hE⟩ := hd.1
        have h1 : vs 1 = eV x := hd.2.1
        obtain ⟨c, d, hb⟩ := hE
        have hc := Blk.c2 hb
        have hlt := hG.la g hg
        go_simp
        have hX : Ext No w2 ((wx.setCell ⟨g, 0, none⟩ (.int .u64 (hi x : Int))).setCell ⟨g, 1, none⟩ (.int .u64 (lo x : Int))) := (hG.x.setCell (fun h => absurd h (by simp; omega)) _).setCell (fun h => absurd h (by simp; omega)) _
        have k2 := hG.ext hX (by simp [World.setCell])
        have h3 := hK (pE g) _ (by rw [← hg]; exact ⟨k2.x, k2.la, k2.lb, k2.lc, k2.ab, k2.ac, k2.bc, .inr rfl, hG.eb, hG.ec⟩) ⟨g, rfl, El.setE ⟨c, d, hb⟩ x⟩ (fun j hj h => F3.set hG _ _ 6 (by simp [hg]) j hj h)
        simpa only [RF.upd, hg, h1, Nat.reduceEqDiff, if_true, if_false, reduceIte] using h3
      · obtain ⟨g, hg, hE⟩ := hd.1
        have h1 : vs 3 = eV y := hd.2.1
        obtain ⟨c, d, hb⟩ := hE
        have hc := Blk.c2 hb
        have hlt := hG.lb g hg
        go_simp
        have hX : Ext No w2 ((wx.setCell ⟨g, 0, none⟩ (.int .u64 (hi y : Int))).setCell ⟨g, 1, none⟩ (.int .u64 (lo y : Int))) := (hG.x.setCell (fun h => absurd h (by simp; omega)) _).setCell (fun h => absurd h (by simp; omega)) _
        have k2 := hG.ext hX (by simp [World.setCell])
        have h3 := hK (pE g) _ (by rw [← hg]; exact ⟨k2.x, k2.la, k2.lb, k2.lc, k2.ab, k2.ac, k2.bc, hG.ea, .inr rfl, hG.ec⟩) ⟨g, rfl, El.setE ⟨c, d, hb⟩ y⟩ (fun j hj h => F3.set hG _ _ 7 (by simp [hg]) j hj h)
        simpa only [RF.upd, hg, h1, Nat.reduceEqDiff, if_true, if_false, reduceIte] using h3
      · obtain ⟨g, hg, hE⟩ := hd.1
        have h1 : vs 5 = eV z := hd.2.1
        obtain ⟨c, d, hb⟩ := hE
        have hc := Blk.c2 hb
        have hlt := hG.lc g hg
        go_simp
        have hX : Ext No w2 ((wx.setCell ⟨g, 0, none⟩ (.int .u64 (hi z : Int))).setCell ⟨g, 1, none⟩ (.int .u64 (lo z : Int))) := (hG.x.setCell (fun h => absurd h (by simp; omega)) _).setCell (fun h => absurd h (by simp; omega)) _
        have k2 := hG.ext hX (by simp [World.setCell])
        have h3 := hK (pE g) _ (by rw [← hg]; exact ⟨k2.x, k2.la, k2.lb, k2.lc, k2.ab, k2.ac, k2.bc, hG.ea, hG.eb, .inr rfl⟩) ⟨g, rfl, El.setE ⟨c, d, hb⟩ z⟩ (fun j hj h => F3.set hG _ _ 8 (by simp [hg]) j hj h)
        simpa only [RF.upd, hg, h1, Nat.reduceEqDiff, if_true, if_false, reduceIte] using h3
    · intro vs wx hG hF
      have h6 : F3 _ _ _ _ _ _ x y z 6 (vs 6) wx := hF 6 (by decide)
      have h7 : F3 _ _ _ _ _ _ x y z 7 (vs 7) wx := hF 7 (by decide)
      have h8 : F3 _ _ _ _ _ _ x y z 8 (vs 8) wx := hF 8 (by decide)
      have h9 : F3 _ _ _ _ _ _ x y z 9 (vs 9) wx := hF 9 (by decide)
      have h10 : F3 _ _ _ _ _ _ x y z 10 (vs 10) wx := hF 10 (by decide)
      have h11 : F3 _ _ _ _ _ _ x y z 11 (vs 11) wx := hF 11 (by decide)
      clear hF
      go_wp2_with fail
      go_meet
      case rel =>
        obtain ⟨g1, e1, k1⟩ := h9
        obtain ⟨g2, e2, k2⟩ := h10
        obtain ⟨g3, e3, k3⟩ := h11
        refine ⟨g1, g2, g3, ?_, ?_, ?_, Lib.hid ⟨k1, k2, k3, hG.x⟩⟩
        · rcases hG.ea with k | k <;> rw [k] at e1; exact absurd e1 pE_undef; exact e1
        · rcases hG.eb with k | k <;> rw [k] at e2; exact absurd e2 pE_undef; exact e2
        · rcases hG.ec with k | k <;> rw [k] at e3; exact absurd e3 pE_undef; exact e3
  case rest =>
    obtain ⟨g1, g2, g3, rfl, rfl, rfl, HE⟩ := hcut
    clear HA HB HC HY0 HL HM HN HEX HEY HEZ
    go_wp2_with fail
    have HF1 := fFrom_agg _ [128] _ (lit128 wc) one el128
    have HX3 := Lib.hid ((Ext.refl No wc).alloc (.cells #[.int .u8 128] 5))
    generalize hone : one = o at HF1
    have HONE := Lib.hid hone
    clear hone
    refine HF1.mono ?_
    rintro e4 w4 ⟨rfl, hx4⟩
    have HX4 := Lib.hid (HX3.out.trans hx4)
    clear HX3 HF1 hx4
    go_wp2_with fail
    have HD5 := Lib.hid (Blk.new w4 25 #[.int .u64 (hi o : Int), .int .u64 (lo o : Int)])
    have HX5 := Lib.hid (HX4.out.alloc (.cells #[.int .u64 (hi o : Int), .int .u64 (lo o : Int)] 25))
    clear HX4
    generalize w4.alloc (.cells #[.int .u64 (hi o : Int), .int .u64 (lo o : Int)] 25) = w5 at *
    generalize w4.heap.size = g4 at *
    have HE4 : Hid (E4 w g1 g2 g3 g4 x y z o w5) := Lib.hid ⟨HE.out.1.no HX5.out, HE.out.2.1.no HX5.out, HE.out.2.2.1.no HX5.out, (Blk.c2 HD5.out).1, (HX.out.trans HE.out.2.2.2).trans HX5.out⟩
    obtain ⟨p, hp⟩ : ∃ p, mul x y = p := ⟨_, rfl⟩
    obtain ⟨q, hq⟩ : ∃ q, mul p z = q := ⟨_, rfl⟩
    obtain ⟨r, hr⟩ : ∃ r, mul y z = r := ⟨_, rfl⟩
    obtain ⟨s, hs⟩ : ∃ s, x ^^^ y = s := ⟨_, rfl⟩
    obtain ⟨t, ht⟩ : ∃ t, mul s z = t := ⟨_, rfl⟩
    obtain ⟨u, hu⟩ : ∃ u, mul x z = u := ⟨_, rfl⟩
    have HP2 := Lib.hid ((mul_comm y x).trans hp)
    have HQ2 := Lib.hid (show mul x r = q by rw [← hr, ← hq, ← hp, mul_assoc])
    have HT2 := Lib.hid (show u ^^^ r = t by rw [← hu, ← hr, ← ht, ← hs, mul_xor_left])
    have HO := Lib.hid (show mul x o = x by rw [← HONE.out, mul_comm, one_mul])
    have HP := Lib.hid hp
    have HQ := Lib.hid hq
    have HR := Lib.hid hr
    have HS := Lib.hid hs
    have HT := Lib.hid ht
    have HU := Lib.hid hu
    clear hp hq hr hs ht hu HX HE HX5 HD5 HONE
    go_region_held3 (fun w' => (((w'.cell? ⟨g1, 0, none⟩ = some (.int .u64 (hi x : Int)) ∧ w'.cell? ⟨g1, 1, none⟩ = some (.int .u64 (lo x : Int))) ∧ (w'.cell? ⟨g2, 0, none⟩ = some (.int .u64 (hi y : Int)) ∧ w'.cell? ⟨g2, 1, none⟩ = some (.int .u64 (lo y : Int))) ∧ (w'.cell? ⟨g3, 0, none⟩ = some (.int .u64 (hi z : Int)) ∧ w'.cell? ⟨g3, 1, none⟩ = some (.int .u64 (lo z : Int))) ∧ (w'.cell? ⟨g4, 0, none⟩ = some (.int .u64 (hi o : Int)) ∧ w'.cell? ⟨g4, 1, none⟩ = some (.int .u64 (lo o : Int))))) ∧ Hid (E4 w g1 g2 g3 g4 x y z o w'))
      (first | assumption | exact E4.S HE4.out | exact E4.no (E4.S HE4.out) (Ext.refl No _).drew | exact E4.no (by assumption) (Ext.refl No _).drew)
      (first
      | (go_at_call 28; (with_reducible refine (E4.times (w0 := w) (g1 := g1) (g2 := g2) (g3 := g3) (g4 := g4) (x := x) (y := y) (z := z) (o := o) (by assumption) x y p HP.out).mono ?_); rintro e' w10 ⟨rfl, hS10⟩)
      | (go_at_call 28; (with_reducible refine (E4.times (w0 := w) (g1 := g1) (g2 := g2) (g3 := g3) (g4 := g4) (x := x) (y := y) (z := z) (o := o) (by assumption) y x p HP2.out).mono ?_); rintro e' w11 ⟨rfl, hS11⟩)
      | (go_at_call 28; (with_reducible refine (E4.times (w0 := w) (g1 := g1) (g2 := g2) (g3 := g3) (g4 := g4) (x := x) (y := y) (z := z) (o := o) (by assumption) p z q HQ.out).mono ?_); rintro e' w12 ⟨rfl, hS12⟩)
      | (go_at_call 28; (with_reducible refine (E4.times (w0 := w) (g1 := g1) (g2 := g2) (g3 := g3) (g4 := g4) (x := x) (y := y) (z := z) (o := o) (by assumption) y z r HR.out).mono ?_); rintro e' w13 ⟨rfl, hS13⟩)
      | (go_at_call 28; (with_reducible refine (E4.times (w0 := w) (g1 := g1) (g2 := g2) (g3 := g3) (g4 := g4) (x := x) (y := y) (z := z) (o := o) (by assumption) x r q HQ2.out).mono ?_); rintro e' w14 ⟨rfl, hS14⟩)
      | (go_at_call 28; (with_reducible refine (E4.times (w0 := w) (g1 := g1) (g2 := g2) (g3 := g3) (g4 := g4) (x := x) (y := y) (z := z) (o := o) (by assumption) s z t HT.out).mono ?_); rintro e' w15 ⟨rfl, hS15⟩)
      | (go_at_call 28; (with_reducible refine (E4.times (w0 := w) (g1 := g1) (g2 := g2) (g3 := g3) (g4 := g4) (x := x) (y := y) (z := z) (o := o) (by assumption) x z u HU.out).mono ?_); rintro e' w16 ⟨rfl, hS16⟩)
      | (go_at_call 28; (with_reducible refine (E4.times (w0 := w) (g1 := g1) (g2 := g2) (g3 := g3) (g4 := g4) (x := x) (y := y) (z := z) (o := o) (by assumption) x o x HO.out).mono ?_); rintro e' w17 ⟨rfl, hS17⟩)
      | (go_at_call 31; (with_reducible refine (E4.add (w0 := w) (g1 := g1) (g2 := g2) (g3 := g3) (g4 := g4) (x := x) (y := y) (z := z) (o := o) (by assumption) x y s HS.out).mono ?_); rintro e' w18 ⟨rfl, hS18⟩)
      | (go_at_call 31; (with_reducible refine (E4.add (w0 := w) (g1 := g1) (g2 := g2) (g3 := g3) (g4 := g4) (x := x) (y := y) (z := z) (o := o) (by assumption) u r t HT2.out).mono ?_); rintro e' w19 ⟨rfl, hS19⟩)
      | (go_at_call 33; refine (E4.works (w0 := w) (g1 := g1) (g2 := g2) (g3 := g3) (g4 := g4) (x := x) (y := y) (z := z) (o := o) (by assumption)).mono ?_; rintro e' w20 ⟨rfl, hS20⟩))
    have HXF := Lib.hid hS20.2.out.x
    clear hS10 hS11 hS12 hS13 hS14 hS15 hS16 hS17 hS18 hS19 hS20
    go_wp2
    go_ret
    exact ⟨rfl, HXF.out⟩
open Go.ChangeShapes Go.WideShapes in
set_option maxRecDepth 100000 in
theorem walk_FieldLaws (W : World) (v0 v1 v2 : Value) (u0 : Rd Try.prog W 22 v0.cells.toList) (u1 : Rd Try.prog W 22 v1.cells.toList) (u2 : Rd Try.prog W 22 v2.cells.toList)
    {r : Reach} {base : Nat} (ok0 : Value.okWide Try.prog W r base 22 v0) (ok1 : Value.okWide Try.prog W r base 22 v1) (ok2 : Value.okWide Try.prog W r base 22 v2) :
    Calls Try.prog 5 #[v0, v1, v2] W fun e W' => e = .returned (.bool true) ∧ Ext No W W' := by
  obtain ⟨l, hl, rfl⟩ := bytesN_of (n := 16) Try.underlying22 (by kernel_rfl) ok0 u0
  obtain ⟨m, hm, rfl⟩ := bytesN_of (n := 16) Try.underlying22 (by kernel_rfl) ok1 u1
  obtain ⟨n, hn, rfl⟩ := bytesN_of (n := 16) Try.underlying22 (by kernel_rfl) ok2 u2
  exact laws05_any l m n W hl hm hn
end Go.Proofs.Ytljddghamgjfbaa
