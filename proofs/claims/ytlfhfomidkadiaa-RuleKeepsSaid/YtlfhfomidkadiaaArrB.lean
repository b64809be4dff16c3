/- Arrays that are loaded, stored and sliced whole; rows of words. Plain lemmas; no condition. -/
import Derived.Test.YtlfhfomidkadiaaMidB
import Derived.Deep.MidRow
import Derived.Laws.Rows
set_option linter.unusedVariables false
set_option linter.unusedSimpArgs false
namespace Go.Proofs.Ytlfhfomidkadiaa
open Go.RowKit

abbrev pB (g : Nat) : Value := .pointer (some ⟨g, 0, none⟩)
theorem setL_all (cs : Array Value) (vs : List Value) (h : vs.length = cs.size) : setL cs 0 vs = vs.toArray := by
  apply Array.ext_getElem?
  intro i
  by_cases hi : i < vs.length
  · have := setL_in vs cs 0 i (by omega) hi
    rw [Nat.zero_add] at this
    rw [this]; simp
  · rw [Array.getElem?_eq_none (by rw [setL_size]; omega), Array.getElem?_eq_none (by simp; omega)]
section
variable {P : Program} {w : World} {ops : Array Oper} {rest : List Oper} {o : Oper} {a : Act} {Q : Exit → Act → World → Prop} {g : Nat} {t : TypeId} {cs cs' : Array Value}
/-- A whole array is loaded. -/
theorem load_blk (ty : TypeId) (x : Operand) (ho : o.op = .load ty x) (hgd : o.guard = none) (hb : Blk w g t cs) (hx : a.eval x = pB g) (d : TypeDesc) (hu : P.underlying ty = some d)
    (hd : (match d with | .struct _ | .array _ _ => true | _ => false) = true) (hi : (P.info? ty).map (·.size) = some cs.size) (h : wpList P ops Q rest (a.put o.dst (.agg cs)) w) : wpList P ops Q (o :: rest) a w :=
  wpList_load_row hgd ty x ho g hx t cs (0, 0) d hb hu hd hi h
/-- A whole array is stored. -/
theorem store_blk (ty : TypeId) (x y : Operand) (ho : o.op = .store ty x y) (hgd : o.guard = none) (hb : Blk w g t cs) (hx : a.eval x = pB g) (hy : a.eval y = .agg cs') (hs : cs'.size = cs.size) (hi : (P.info? ty).map (·.size) = some cs'.size)
    (h1 : ∀ v ∈ cs'.toList, v.oneCell' = true) (h : ∀ w', Blk w' g t cs' → Ext (One g) w w' → wpList P ops Q rest (a.put o.dst undef) w') : wpList P ops Q (o :: rest) a w := by
  refine wpList_store_mid hgd ty x y ho g 0 cs' hx hy (fun j hj => ⟨?_, hb.frozen _⟩) hi (by simpa using all_oneCell_toArray (cs := cs'.toList) h1) (h _ ?_ (Ext.sets _ _ (Ext.refl _ w) (fun _ => rfl)))
  · rw [Nat.zero_add, hb.cell, Array.getElem?_eq_getElem (by omega)]; rfl
  · have := hb.sets cs'.toList 0
    rw [setL_all _ _ (by simpa using hs)] at this
    simpa using this
end
/-- What a call hands back out of a whole array. -/
theorem ret_blk {P : Program} {fn : Func} {p : Tmp} {ty : TypeId} (h : fn.results = #[.cell p ty]) {tmps : Array Value} {w : World} {g : Nat} {t : TypeId} {cs : Array Value} (hb : Blk w g t cs) (hp : tmps.getD p undef = pB g) (d : TypeDesc)
    (hu : P.underlying ty = some d) (hd : (match d with | .struct _ | .array _ _ => true | _ => false) = true) (hi : (P.info? ty).map (·.size) = some cs.size) : (results fn tmps).run P w = .ok (.agg cs) w :=
  results_cell_row h tmps w g t cs (0, 0) d hp hb hu hd hi

/-! ### Words -/
def u32v (n : Nat) : Value := .int .u32 (n : Int)
def u32s (l : List Nat) : List Value := l.map u32v
theorem u32s_length (l : List Nat) : (u32s l).length = l.length := by simp [u32s]
theorem u32s_get (l : List Nat) (i : Nat) (h : i < l.length) : (u32s l).toArray[i]? = some (.int .u32 ((l.getD i 0 : Nat) : Int)) := by
  simp [u32s, u32v, h, List.getD_eq_getElem?_getD]
theorem u32s_set (l : List Nat) (i n : Nat) : (u32s l).toArray.setIfInBounds i (.int .u32 (n : Int)) = (u32s (l.set i n)).toArray := by
  simp [u32s, u32v, List.map_set]
theorem u32s_one (l : List Nat) : ∀ y ∈ (u32s l).toArray.toList, y.oneCell' = true := by
  intro y hy
  simp only [u32s, List.mem_map] at hy
  obtain ⟨b, _, rfl⟩ := hy
  rfl
theorem u8s_get' (l : List UInt8) (i : Nat) (h : i < l.length) : (u8s l).toArray[i]? = some (.int .u8 ((l.getD i 0).toNat : Int)) := by
  simp [u8s, u8v, h, List.getD_eq_getElem?_getD]
theorem u8s_set (l : List UInt8) (i : Nat) (b : UInt8) : (u8s l).toArray.setIfInBounds i (.int .u8 (b.toNat : Int)) = (u8s (l.set i b)).toArray := by
  simp [u8s, u8v, List.map_set]
theorem u8s_one' (l : List UInt8) : ∀ y ∈ (u8s l).toArray.toList, y.oneCell' = true := by
  intro y hy; exact u8s_one l y (by simpa using hy)
/-! ### Parts of slices -/
section
variable {w : World} {F : Nat → Prop} {A : Option Addr} {n c : Nat} {l : List UInt8}
theorem Bs.sub {b off : Nat} (h : Bs w F (.slice (some ⟨b, off, none⟩) n c) l) {i j : Nat} (hij : i ≤ j) (hj : j ≤ l.length) {m c' : Nat} (hm : m = j - i) (hc' : m ≤ c') (hx : c' ≤ maxLen) : Bs w F (.slice (some ⟨b, off + i, none⟩) m c') ((l.take j).drop i) := by
  have hl : ((l.take j).drop i).length = m := by rw [List.length_drop, List.length_take]; omega
  obtain ⟨h1, A', c0, e, h2, h3, h4⟩ := h
  injection e with e1 e2 e3
  unfold Bs
  rw [hl]
  refine ⟨by rw [u8s_length, hl, Nat.mul_one], _, c', rfl, hc', hx, fun h0 => ?_⟩
  obtain ⟨b', off', hA, hF, hc⟩ := h4 (by omega)
  rw [← e1] at hA
  injection hA with hA
  injection hA with hb ho
  subst hb ho
  refine ⟨b, off + i, rfl, hF, fun k u hu => ?_⟩
  rw [Nat.add_assoc]
  refine hc (i + k) u ?_
  have hk : k < (u8s ((l.take j).drop i)).length := (List.getElem?_eq_some_iff.1 hu).1
  rw [u8s_length, hl] at hk
  unfold u8s at hu ⊢
  rwa [List.map_drop, List.map_take, List.getElem?_drop, List.getElem?_take_of_lt (by omega)] at hu
/-- An array of bytes in a block of its own, sliced whole. -/
theorem Bs.whole' {w : World} {g : Nat} {t : TypeId} {L : List UInt8} (h : Blk w g t (u8s L).toArray) {n c : Nat} (hn : n = L.length) (hc : n ≤ c) (hm : c ≤ maxLen) : Bs w (fun k => k = g) (.slice (some ⟨g, 0, none⟩) n c) L := by
  subst hn
  refine ⟨by simp [u8s], _, c, rfl, hc, hm, fun _ => ⟨g, 0, rfl, rfl, fun j u hu => ?_⟩⟩
  rw [Nat.zero_add, h.cell]
  simpa using hu
end
end Go.Proofs.Ytlfhfomidkadiaa
