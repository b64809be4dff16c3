/- 'x, y, z := ..' of three arrays, in a region that draws its order: three new variables, each stored to once. Plain lemmas; no condition. -/
import Derived.Test.YtljddghamgjfbaaRegFacts
import Derived.Test.YtljddghamgjfbaaArr
set_option linter.unusedVariables false
set_option linter.unusedSimpArgs false
namespace Go.Proofs.Ytljddghamgjfbaa
open Go.RowKit
namespace V3

/-- Three new variables, each with where it was stored to. -/
structure G3 (w0 : World) (a b c sa sb sc : Value) (w : World) : Prop where
  x : Ext No w0 w
  la : ∀ g, a = pB g → w0.heap.size ≤ g ∧ g < w.heap.size
  lb : ∀ g, b = pB g → w0.heap.size ≤ g ∧ g < w.heap.size
  lc : ∀ g, c = pB g → w0.heap.size ≤ g ∧ g < w.heap.size
  ab : ∀ g, a = pB g → b = pB g → False
  ac : ∀ g, a = pB g → c = pB g → False
  bc : ∀ g, b = pB g → c = pB g → False
  ea : sa = undef ∨ sa = a
  eb : sb = undef ∨ sb = b
  ec : sc = undef ∨ sc = c
theorem pB_undef {g : Nat} : ¬ (undef = pB g) := by simp [undef]
section
variable {w0 w w' : World} {a b c sa sb sc : Value}
theorem G3.ext (h : G3 w0 a b c sa sb sc w) (hx : Ext No w0 w') (hs : w.heap.size ≤ w'.heap.size) : G3 w0 a b c sa sb sc w' :=
  ⟨hx, fun g e => ⟨(h.la g e).1, Nat.lt_of_lt_of_le (h.la g e).2 hs⟩, fun g e => ⟨(h.lb g e).1, Nat.lt_of_lt_of_le (h.lb g e).2 hs⟩, fun g e => ⟨(h.lc g e).1, Nat.lt_of_lt_of_le (h.lc g e).2 hs⟩, h.ab, h.ac, h.bc, h.ea, h.eb, h.ec⟩
theorem G3.no (h : G3 w0 a b c sa sb sc w) (hx : Ext No w w') : G3 w0 a b c sa sb sc w' := h.ext (h.x.trans hx) hx.size
theorem G3.start (hx : Ext No w0 w) : G3 w0 undef undef undef undef undef undef w :=
  ⟨hx, fun g e => absurd e pB_undef, fun g e => absurd e pB_undef, fun g e => absurd e pB_undef, fun g e => absurd e pB_undef, fun g e => absurd e pB_undef, fun g e => absurd e pB_undef, .inl rfl, .inl rfl, .inl rfl⟩
theorem G3.newA (h : G3 w0 a b c sa sb sc w) (ha : a = undef) (o : Obj) : G3 w0 (pB w.heap.size) b c sa sb sc (w.alloc o) := by
  have k := h.no ((Ext.refl No w).alloc o)
  have hs : sa = undef := by rcases h.ea with e | e; exact e; rw [e, ha]
  refine ⟨k.x, fun g e => ?_, k.lb, k.lc, fun g e e' => ?_, fun g e e' => ?_, k.bc, .inl hs, k.eb, k.ec⟩
  · simp at e; subst e; exact ⟨h.x.size, by simp⟩
  · simp at e; subst e; exact absurd (h.lb _ e').2 (Nat.lt_irrefl _)
  · simp at e; subst e; exact absurd (h.lc _ e').2 (Nat.lt_irrefl _)
theorem G3.newB (h : G3 w0 a b c sa sb sc w) (hb : b = undef) (o : Obj) : G3 w0 a (pB w.heap.size) c sa sb sc (w.alloc o) := by
  have k := h.no ((Ext.refl No w).alloc o)
  have hs : sb = undef := by rcases h.eb with e | e; exact e; rw [e, hb]
  refine ⟨k.x, k.la, fun g e => ?_, k.lc, fun g e e' => ?_, k.ac, fun g e e' => ?_, k.ea, .inl hs, k.ec⟩
  · simp at e; subst e; exact ⟨h.x.size, by simp⟩
  · simp at e'; subst e'; exact absurd (h.la _ e).2 (Nat.lt_irrefl _)
  · simp at e; subst e; exact absurd (h.lc _ e').2 (Nat.lt_irrefl _)
theorem G3.newC (h : G3 w0 a b c sa sb sc w) (hc : c = undef) (o : Obj) : G3 w0 a b (pB w.heap.size) sa sb sc (w.alloc o) := by
  have k := h.no ((Ext.refl No w).alloc o)
  have hs : sc = undef := by rcases h.ec with e | e; exact e; rw [e, hc]
  refine ⟨k.x, k.la, k.lb, fun g e => ?_, k.ab, fun g e e' => ?_, fun g e e' => ?_, k.ea, k.eb, .inl hs⟩
  · simp at e; subst e; exact ⟨h.x.size, by simp⟩
  · simp at e'; subst e'; exact absurd (h.la _ e).2 (Nat.lt_irrefl _)
  · simp at e'; subst e'; exact absurd (h.lb _ e).2 (Nat.lt_irrefl _)
theorem G3.setA (h : G3 w0 a b c sa sb sc w) : G3 w0 a b c a sb sc w := ⟨h.x, h.la, h.lb, h.lc, h.ab, h.ac, h.bc, .inr rfl, h.eb, h.ec⟩
theorem G3.setB (h : G3 w0 a b c sa sb sc w) : G3 w0 a b c sa b sc w := ⟨h.x, h.la, h.lb, h.lc, h.ab, h.ac, h.bc, h.ea, .inr rfl, h.ec⟩
theorem G3.setC (h : G3 w0 a b c sa sb sc w) : G3 w0 a b c sa sb c w := ⟨h.x, h.la, h.lb, h.lc, h.ab, h.ac, h.bc, h.ea, h.eb, .inr rfl⟩
end
/-- A variable of so many cells, whatever they are. -/
def AB (w : World) (t : TypeId) (n : Nat) (v : Value) : Prop := ∃ g cs, v = pB g ∧ Blk w g t cs ∧ cs.size = n
def SB (w : World) (t : TypeId) (cs : Array Value) (v : Value) : Prop := ∃ g, v = pB g ∧ Blk w g t cs
theorem AB.no {w w' : World} {t : TypeId} {n : Nat} {v : Value} (h : AB w t n v) (hx : Ext No w w') : AB w' t n v := by obtain ⟨g, cs, e, h, hs⟩ := h; exact ⟨g, cs, e, h.ext_no hx, hs⟩
theorem SB.no {w w' : World} {t : TypeId} {cs : Array Value} {v : Value} (h : SB w t cs v) (hx : Ext No w w') : SB w' t cs v := by obtain ⟨g, e, h⟩ := h; exact ⟨g, e, h.ext_no hx⟩
/-- A store into another variable, or into this one of as many cells. -/
theorem AB.sto {w w' : World} {t t' : TypeId} {n g' : Nat} {v : Value} {cs cs' : Array Value} (h : AB w t n v) (hx : Ext (One g') w w') (hb : Blk w g' t' cs) (hb' : Blk w' g' t' cs') (hs : cs'.size = cs.size) : AB w' t n v := by
  obtain ⟨g, ds, e, h, hn⟩ := h
  by_cases k : g = g'
  · subst k
    have := hb.symm.trans h
    injection this with this
    injection this with h1 h2
    subst h1 h2
    exact ⟨g, cs', e, hb', by rw [hs]; exact hn⟩
  · exact ⟨g, ds, e, h.ext hx (fun h => k h), hn⟩
theorem SB.sto {w w' : World} {t : TypeId} {g' : Nat} {v : Value} {cs : Array Value} (h : SB w t cs v) (hx : Ext (One g') w w') (hn : ¬ v = pB g') : SB w' t cs v := by
  obtain ⟨g, e, h⟩ := h
  refine ⟨g, e, h.ext hx (fun k => hn ?_)⟩
  have k' : g = g' := k
  rw [← k']; exact e
/-- What each operation leaves: a1, a2, a3 make the variables, s1, s2, s3 store to them. -/
def F (a1 a2 a3 s1 s2 s3 : Nat) (t1 t2 t3 : TypeId) (n1 n2 n3 : Nat) (c1 c2 c3 : Array Value) (f : Nat → Value → Prop) : Nat → Value → World → Prop := fun j v w =>
  if j = a1 then AB w t1 n1 v else if j = a2 then AB w t2 n2 v else if j = a3 then AB w t3 n3 v else
  if j = s1 then SB w t1 c1 v else if j = s2 then SB w t2 c2 v else if j = s3 then SB w t3 c3 v else f j v
section
variable {a1 a2 a3 s1 s2 s3 : Nat} {t1 t2 t3 : TypeId} {n1 n2 n3 : Nat} {c1 c2 c3 : Array Value} {f : Nat → Value → Prop} {w w' : World}
theorem F.no (hx : Ext No w w') (j : Nat) (v : Value) (h : F a1 a2 a3 s1 s2 s3 t1 t2 t3 n1 n2 n3 c1 c2 c3 f j v w) : F a1 a2 a3 s1 s2 s3 t1 t2 t3 n1 n2 n3 c1 c2 c3 f j v w' := by
  unfold F at *
  by_cases e1 : j = a1
  · rw [if_pos e1] at *; exact h.no hx
  rw [if_neg e1] at *
  by_cases e2 : j = a2
  · rw [if_pos e2] at *; exact h.no hx
  rw [if_neg e2] at *
  by_cases e3 : j = a3
  · rw [if_pos e3] at *; exact h.no hx
  rw [if_neg e3] at *
  by_cases e4 : j = s1
  · rw [if_pos e4] at *; exact h.no hx
  rw [if_neg e4] at *
  by_cases e5 : j = s2
  · rw [if_pos e5] at *; exact h.no hx
  rw [if_neg e5] at *
  by_cases e6 : j = s3
  · rw [if_pos e6] at *; exact h.no hx
  rw [if_neg e6] at *
  exact h
theorem F.sto {w0 : World} {vs : Nat → Value} {g' : Nat} {t' : TypeId} {cs cs' : Array Value} (hG : G3 w0 (vs a1) (vs a2) (vs a3) (vs s1) (vs s2) (vs s3) w) (s : Nat) (hx : Ext (One g') w w') (hb : Blk w g' t' cs) (hb' : Blk w' g' t' cs') (hs : cs'.size = cs.size)
    (hi : s = s1 ∧ vs a1 = pB g' ∨ s = s2 ∧ vs a2 = pB g' ∨ s = s3 ∧ vs a3 = pB g') (j : Nat) (hj : j ≠ s) (h : F a1 a2 a3 s1 s2 s3 t1 t2 t3 n1 n2 n3 c1 c2 c3 f j (vs j) w) : F a1 a2 a3 s1 s2 s3 t1 t2 t3 n1 n2 n3 c1 c2 c3 f j (vs j) w' := by
  unfold F at *
  by_cases e1 : j = a1
  · rw [if_pos e1] at *; exact h.sto hx hb hb' hs
  rw [if_neg e1] at *
  by_cases e2 : j = a2
  · rw [if_pos e2] at *; exact h.sto hx hb hb' hs
  rw [if_neg e2] at *
  by_cases e3 : j = a3
  · rw [if_pos e3] at *; exact h.sto hx hb hb' hs
  rw [if_neg e3] at *
  by_cases e4 : j = s1
  · rw [if_pos e4] at *
    subst e4
    refine h.sto hx fun k => ?_
    have k1 : vs a1 = pB g' := by rcases hG.ea with e | e <;> rw [e] at k; exact absurd k pB_undef; exact k
    rcases hi with ⟨rfl, hi⟩ | ⟨rfl, hi⟩ | ⟨rfl, hi⟩
    · exact hj rfl
    · exact hG.ab _ k1 hi
    · exact hG.ac _ k1 hi
  rw [if_neg e4] at *
  by_cases e5 : j = s2
  · rw [if_pos e5] at *
    subst e5
    refine h.sto hx fun k => ?_
    have k1 : vs a2 = pB g' := by rcases hG.eb with e | e <;> rw [e] at k; exact absurd k pB_undef; exact k
    rcases hi with ⟨rfl, hi⟩ | ⟨rfl, hi⟩ | ⟨rfl, hi⟩
    · exact hG.ab _ hi k1
    · exact hj rfl
    · exact hG.bc _ k1 hi
  rw [if_neg e5] at *
  by_cases e6 : j = s3
  · rw [if_pos e6] at *
    subst e6
    refine h.sto hx fun k => ?_
    have k1 : vs a3 = pB g' := by rcases hG.ec with e | e <;> rw [e] at k; exact absurd k pB_undef; exact k
    rcases hi with ⟨rfl, hi⟩ | ⟨rfl, hi⟩ | ⟨rfl, hi⟩
    · exact hG.ac _ hi k1
    · exact hG.bc _ hi k1
    · exact hj rfl
  rw [if_neg e6] at *
  exact h
end
/-- A whole array is stored: for a region's operation. -/
theorem wp_store_blk {P : Program} {o : Oper} {a : Act} {w : World} {K : Act → World → Prop} {Q : Exit → Act → World → Prop} {g : Nat} {t : TypeId} {cs cs' : Array Value} (ty : TypeId) (x y : Operand) (ho : o.op = .store ty x y) (hb : Blk w g t cs) (hx : a.eval x = pB g) (hy : a.eval y = .agg cs') (hs : cs'.size = cs.size) (hi : (P.info? ty).map (·.size) = some cs'.size)
    (h1 : ∀ v ∈ cs'.toList, v.oneCell' = true) (h : ∀ w', Blk w' g t cs' → Ext (One g) w w' → K (a.put o.dst undef) w') : o.wp P a w K Q := by
  refine wp_store_mid ty x y ho g 0 cs' hx hy (fun j hj => ⟨?_, hb.frozen _⟩) hi (by simpa using all_oneCell_toArray (cs := cs'.toList) h1) (h _ ?_ (Ext.sets _ _ (Ext.refl _ w) (fun _ => rfl)))
  · rw [Nat.zero_add, hb.cell, Array.getElem?_eq_getElem (by omega)]; rfl
  · have := hb.sets cs'.toList 0
    rw [setL_all _ _ (by simpa using hs)] at this
    simpa using this
end V3
end Go.Proofs.Ytljddghamgjfbaa
