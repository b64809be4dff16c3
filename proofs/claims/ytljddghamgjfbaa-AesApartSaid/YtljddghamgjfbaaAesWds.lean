/- Chapter 4's reference: the words of a key. -/
import Derived.Test.YtljddghamgjfbaaAesEnc
import Derived.Test.YtljddghamgjfbaaLit
import Derived.StillTailTactics
set_option linter.unusedVariables false
set_option linter.unusedSimpArgs false
namespace Go.Proofs.Ytljddghamgjfbaa
open Go.RowKit Go.Deep Go.Proofs.YtljddghamgjfbaaW.PrintWords Ae

/-! ### Rows of rows that are made one by one -/
/-- Where a row of bytes may lie: in memory older than the call's, or in a block of bytes. -/
def FB (w : World) (base : Nat) : Nat → Prop := fun b => b < base ∨ ∃ cs, Blk w b 5 cs
theorem FB.no {w w' : World} {base b : Nat} (h : FB w base b) (hx : Ext No w w') : FB w' base b := h.imp id fun ⟨cs, hb⟩ => ⟨cs, hb.ext_no hx⟩
/-- v is a row, of the call's own, of rows of bytes. -/
def OwR (w : World) (base : Nat) (v : Value) (ls : List (List UInt8)) : Prop :=
  ∃ vs : List Value, w.ownsRow base 27 1 v ls.length vs ∧ ∀ i, (hi : i < ls.length) → ∃ u, vs[i]? = some u ∧ Bs w (FB w base) u ls[i]
section
variable {w w' : World} {base : Nat} {v : Value} {ls : List (List UInt8)}
theorem OwR.nil (w : World) (base : Nat) : OwR w base (.slice none 0 0) [] := ⟨[], World.ownsRow_nil w base _ 1, fun i hi => absurd hi (by simp)⟩
theorem OwR.no (h : OwR w base v ls) (hx : Ext No w w') : OwR w' base v ls := by
  obtain ⟨vs, ho, hr⟩ := h
  refine ⟨vs, ⟨ho.1, ?_⟩, fun i hi => ?_⟩
  · rcases ho.2 with h | ⟨g, cap, cur, hv, hg, hh, r⟩
    · exact .inl h
    · exact .inr ⟨g, cap, cur, hv, hg, (hx.block g (Array.getElem?_eq_some_iff.1 hh).1 (fun h => h)).trans hh, r⟩
  · obtain ⟨u, hu, hb⟩ := hr i hi
    exact ⟨u, hu, (hb.ext_no hx).mono fun b h => h.no hx⟩
theorem OwR.lt (h : OwR w base v ls) : ∀ k, v.ownBlock = some k → base ≤ k ∧ k < w.heap.size := by
  obtain ⟨vs, ho, _⟩ := h
  exact World.ownsRow.lt ho
theorem OwR.blk (h : OwR w base v ls) : ∀ k, v.ownBlock = some k → ∃ cs, Blk w k 27 cs := by
  obtain ⟨vs, ho, _⟩ := h
  intro k hk
  rcases ho.2 with ⟨rfl, _⟩ | ⟨g, cap, cur, rfl, _, hh, _⟩
  · cases hk
  · injection hk with hk; subst hk; exact ⟨cur, hh⟩
theorem OwR.slice (h : OwR w base v ls) : ∃ A c, v = .slice A ls.length c ∧ ls.length ≤ c ∧ c ≤ maxLen := by
  obtain ⟨vs, ho, _⟩ := h
  rcases ho.2 with ⟨rfl, h0⟩ | ⟨g, cap, cur, rfl, _, _, hc, hm, _⟩
  · exact ⟨none, 0, by rw [h0], by omega, Nat.zero_le _⟩
  · exact ⟨_, cap, rfl, hc, hm⟩
/-- One of the rows, where it lies. -/
theorem OwR.at_ (h : OwR w base v ls) {i : Nat} (hi : i < ls.length) : ∃ g c A' c', v = .slice (some ⟨g, 0, none⟩) ls.length c ∧ w.cell? ⟨g, i, none⟩ = some (.slice A' ls[i].length c') ∧ Bs w (FB w base) (.slice A' ls[i].length c') ls[i] := by
  obtain ⟨vs, ho, hr⟩ := h
  obtain ⟨u, hu, hb⟩ := hr i hi
  rcases ho.2 with ⟨rfl, h0⟩ | ⟨g, cap, cur, rfl, hbg, hh, hc, hm, hs, ht⟩
  · omega
  · obtain ⟨A', c', rfl, _⟩ := hb.slice
    refine ⟨g, cap, A', c', rfl, ?_, hb⟩
    have hb2 : Blk w g 27 cur := hh
    rw [hb2.cell, ← hu, ← ht, Nat.mul_one, List.getElem?_take_of_lt hi, Array.getElem?_toList]
theorem OwR.parts (h : OwR w base v ls) : Parts w Any v ls := by
  obtain ⟨vs, ho, hr⟩ := h
  exact ⟨vs, (Sl.of_own ho).mono fun _ _ => trivial, fun i hi => by
    obtain ⟨u, hu, hb⟩ := hr i hi
    exact ⟨u, hu, hb.any⟩⟩
end
theorem info_sl : (Try.prog.info? 27).map (fun i => (i.zero, i.size, i.bytes)) = some (some (.slice none 0 0), 1, 24) := by kernel_rfl
/-- append(v, u): one row more. -/
theorem app_row {w : World} {ops : Array Oper} {rest : List Oper} {o : Oper} {a : Act} {Q : Exit → Act → World → Prop} (s x : Operand)
    (ho : o.op = .call { callee := .builtin .append, args := #[s, x], argTypes := #[49, 49] }) (hgd : o.guard = none)
    (base : Nat) (v u : Value) (g : Nat) (ls : List (List UInt8)) (m : List UInt8) (hs : a.eval s = v) (hx : a.eval x = .slice (some ⟨g, 0, none⟩) 1 1) (hown : OwR w base v ls) (hl : Blk w g 27 #[u])
    (hu : Bs w (FB w base) u m) (hb : ls.length ≤ 100000) (hbase : base ≤ w.heap.size)
    (h : ∀ v' w', OwR w' base v' (ls ++ [m]) → w.grownBy w' v.ownBlock → wpList Try.prog ops Q rest (a.put o.dst v') w') : wpList Try.prog ops Q (o :: rest) a w := by
  have hown' := hown
  obtain ⟨vs, hr, hel⟩ := hown
  have hlen : vs.length = ls.length := by have := hr.1; rwa [Nat.mul_one] at this
  obtain ⟨A, c, rfl, _⟩ := hu.slice
  have hsl : Sl w Any 1 (.slice (some ⟨g, 0, none⟩) 1 1) 1 [.slice A m.length c] := ⟨rfl, _, 1, rfl, Nat.le_refl _, by unfold maxLen; decide, fun _ => ⟨g, 0, rfl, trivial, fun j y hy => by
    rw [Nat.zero_add, hl.cell]
    simpa using hy⟩⟩
  refine wpList_app hgd s x _ ho base 27 (.slice none 0 0) 1 24 Try.underlying49 info_sl rfl (by omega) v ls.length vs hs hr Any _ 1 [.slice A m.length c] hx hsl (fun y hy => by rw [List.mem_singleton.1 hy]; rfl) (by unfold maxLen; omega) (by omega) hbase ?_
  intro v' w' h2 h3 _
  have hfb : ∀ b, FB w base b → some b ≠ v.ownBlock := by
    intro b hb e
    rcases hb with hb | ⟨cs, hb⟩
    · have := (hown'.lt b e.symm).1; omega
    · obtain ⟨cs', hb'⟩ := hown'.blk b e.symm
      exact (hb.ne_ hb' (by decide)) rfl
  have hkeep : ∀ {y : Value} {l : List UInt8}, Bs w (FB w base) y l → Bs w' (FB w' base) y l := fun hy =>
    (Bs.ext hy ((Ext.refl (fun k => v.ownBlock = some k) w).grown h3 (fun k hk _ => hk)) (fun b hb _ e => hfb b hb e.symm)).mono fun b hb => by
      rcases hb with hb' | ⟨cs, hb'⟩
      · exact .inl hb'
      · exact .inr ⟨cs, hb'.grown h3 (hfb b (.inr ⟨cs, hb'⟩))⟩
  refine h v' w' ⟨vs ++ [.slice A m.length c], by rw [List.length_append]; exact h2, fun i hi => ?_⟩ h3
  rw [List.length_append, List.length_singleton] at hi
  by_cases e : i < ls.length
  · obtain ⟨u, hu', hb'⟩ := hel i e
    refine ⟨u, by rw [List.getElem?_append_left (by omega)]; exact hu', ?_⟩
    rw [List.getElem_append_left e]
    exact hkeep hb'
  · obtain rfl : i = ls.length := by omega
    refine ⟨_, by rw [List.getElem?_append_right (by omega), hlen, Nat.sub_self]; rfl, ?_⟩
    rw [List.getElem_append_right (by omega)]
    simpa using hkeep hu
end Go.Proofs.Ytljddghamgjfbaa
