/- append([]byte{x}, make([]byte, n)...). Plain lemmas; no condition. -/
import Derived.Test.YtljddghamgjfbaaArr
import Derived.Laws.Append
set_option linter.unusedVariables false
set_option linter.unusedSimpArgs false
namespace Go.Proofs.Ytljddghamgjfbaa
open Go.RowKit

theorem zeroCells_u8 (n : Nat) : Builtin.zeroCells #[.int .u8 0] n = (u8s (List.replicate n 0)).toArray := by
  unfold Builtin.zeroCells u8s
  apply Array.ext'
  simp only [Array.toList_map, Array.toList_range, List.map_replicate]
  rw [List.eq_replicate_iff]
  refine ⟨by simp, fun b hb => ?_⟩
  simp only [List.mem_map, List.mem_range] at hb
  obtain ⟨i, _, rfl⟩ := hb
  simp [Nat.mod_one, u8v]
set_option maxRecDepth 100000 in
theorem run_app0 {w : World} {g : Nat} (x : UInt8) (n : Nat) (ty : TypeId) (hb : Blk w g 5 #[u8v x]) (hn : n ≤ 64) :
    ∃ v' w', (Builtin.append_ #[27, 3] ty #[.slice (some ⟨g, 0, none⟩) 1 1, .int .i64 (n : Int)]).run Try.prog w = .ok v' w' ∧ Mid w' v' (x :: List.replicate n 0) ∧ Ext No w w' ∧ (v'.ownBlock = some g ∨ ∃ k, v'.ownBlock = some k ∧ w.heap.size ≤ k) := by
  obtain ⟨i, hi, hz0, hz1, hz2⟩ := info_parts info_u8
  have hw : IntKind.i64.wrap (n : Int) = (n : Int) := by rw [IntKind.wrap_i64]; omega
  rcases Nat.eq_zero_or_pos n with h0 | h0
  · subst h0
    refine ⟨.slice (some ⟨g, 0, none⟩) 1 1, w, ?_, .inr ⟨g, 0, 1, _, rfl, hb, by simp, by unfold maxLen; decide, by simp, fun j u hu => ?_⟩, Ext.refl No w, .inl rfl⟩
    · simp [Builtin.append_, run_underlying Try.underlying27, run_underlying Try.underlying3, sizeOf, typeInfo, hi, hz1, hz2, asInt, asIntOf, IntKind.wrap_i64, storeCells]
    · simpa [u8s] using hu
  · have hz : Builtin.zeroCells (Value.int .u8 0).cells n = (u8s (List.replicate n 0)).toArray := zeroCells_u8 n
    have h1 : ¬ (1 + n ≤ 1) := by omega
    have h2 : ¬ ((n : Int) < 0) := by omega
    have h3 : ¬ (281474976710656 < (n : Int)) := by omega
    have h4 : ¬ (9223372036854775807 < ((1 : Int) + (n : Int))) := by omega
    have h5 := growslice_fits (need := 1 + n) (old := 1) (bytes := 1) (by omega) (by omega)
    have h6 : ¬ (281474976710656 < Builtin.nextslicecap (1 + n) 1) := by omega
    have hf := run_firstCells_some (P := Try.prog) w.drew i.size 1 ⟨g, 0, none⟩ 1 1 [u8v x] (by rw [hz1]; rfl) (fun j u hu => by
      have : j = 0 := by have := (List.getElem?_eq_some_iff.1 hu).1; simp at this; omega
      subst this
      rw [show (⟨g, 0, none⟩ : Addr).add 0 = ⟨g, 0, none⟩ from rfl]
      exact (hb.cell 0).trans (by simpa using hu))
    rw [hz1] at hf
    have hnz : n ≠ 0 := by omega
    have hge := grownCap_ge w (1 + n) 1 5
    have hcm := grownCap_le_maxLen w (1 + n) 1 5 (by unfold maxLen; omega)
    refine ⟨.slice (some ⟨w.heap.size, 0, none⟩) (1 + n) (grownCap w (1 + n) 1 5), w.drew.alloc (.cells ([u8v x].toArray ++ (u8s (List.replicate n 0)).toArray ++ Builtin.zeroCells (Value.int .u8 0).cells (grownCap w (1 + n) 1 5 - (1 + n))) 5), ?_, ?_, ?_, .inr ⟨w.heap.size, rfl, Nat.le_refl _⟩⟩
    · simp [Builtin.append_, run_underlying Try.underlying27, run_underlying Try.underlying3, sizeOf, typeInfo, zeroValue, hi, hz0, hz1, hz2, hw, asInt, asIntOf, h1, h2, h3, h4, h6, hnz, Question.forced, hf, newRow, grownCap]
      rw [hz]
      congr 2
      apply Array.ext'
      simp
    · refine .inr ⟨w.heap.size, 0, grownCap w (1 + n) 1 5, _, by simp [Nat.add_comm], Blk.new w.drew 5 _, by simp; omega, hcm, ?_, fun j u hu => ?_⟩
      · simp only [Array.size_append, List.size_toArray, size_zeroCells, u8s_length, List.length_replicate]
        simp [Value.cells]
        omega
      · have hj := (List.getElem?_eq_some_iff.1 hu).1
        rw [u8s_length, List.length_cons, List.length_replicate] at hj
        rw [Nat.zero_add, Array.getElem?_append_left (by simp [u8s_length]; omega), ← hu, ← Array.getElem?_toList]
        simp only [Array.toList_append, u8s, List.map_cons, List.cons_append, List.nil_append]
    · exact (Ext.refl No w).drew.alloc _
theorem app0 {w : World} {ops : Array Oper} {rest : List Oper} {o : Oper} {a : Act} {Q : Exit → Act → World → Prop} (s x : Operand)
    (ho : o.op = .call { callee := .builtin .append, args := #[s, x], argTypes := #[27, 3] }) (hgd : o.guard = none)
    (g : Nat) (b : UInt8) (n : Nat) (hs : a.eval s = .slice (some ⟨g, 0, none⟩) 1 1) (hx : a.eval x = .int .i64 (n : Int)) (hb : Blk w g 5 #[u8v b]) (hn : n ≤ 64)
    (h : ∀ v' w', Mid w' v' (b :: List.replicate n 0) → Ext No w w' → (v'.ownBlock = some g ∨ ∃ k, v'.ownBlock = some k ∧ w.heap.size ≤ k) → wpList Try.prog ops Q rest (a.put o.dst v') w') : wpList Try.prog ops Q (o :: rest) a w := by
  refine wpList_plain hgd fun K hK => ?_
  obtain ⟨v', w', hr, h2, h3, h4⟩ := run_app0 b n o.type hb hn
  unfold Oper.wp execOp
  simp only [ho, resolve, invoke, builtin, Sem.run_bind, Sem.run_pure, Result.andThen_ok, List.map_toArray, List.map_cons, List.map_nil, hs, hx, hr]
  exact hK _ _ (h v' w' h2 h3 h4)

/-! ### copy -/
theorem run_copy_bs {w : World} (ty : TypeId) {g off dLen dCap : Nat} {cur : Array Value} {t : TypeId} (hb : Blk w g t cur) {u : Value} {l : List UInt8} {F : Nat → Prop} (hu : Bs w F u l) (hfit : off + dLen ≤ cur.size) :
    ∃ w', (Builtin.copy_ #[27, 27] ty #[.slice (some ⟨g, off, none⟩) dLen dCap, u]).run Try.prog w = .ok (goInt ((Nat.min l.length dLen : Nat) : Int)) w' ∧ Blk w' g t (setL cur off ((u8s l).take dLen)) ∧ Ext (One g) w w' := by
  obtain ⟨hl, A, c, rfl, hc, hm, hcell⟩ := hu
  have hlen : ((u8s l).take dLen).length = Nat.min l.length dLen := by rw [List.length_take, u8s_length]; exact Nat.min_comm _ _
  have hsz : (Try.prog.info? 5).map (·.size) = some 1 := by kernel_rfl
  by_cases h0 : Nat.min l.length dLen = 0
  · have h0' : min l.length dLen = 0 := h0
    refine ⟨w, ?_, ?_, Ext.refl _ w⟩
    · rw [run_copy_none w 27 27 ty 5 _ _ _ _ _ _ Try.underlying27 hsz h0, h0]; rfl
    · rw [List.eq_nil_of_length_eq_zero (hlen.trans h0)]; exact hb
  · have hlp : 0 < l.length := by
      rcases Nat.eq_zero_or_pos l.length with h | h
      · rw [h] at h0; exact absurd (Nat.zero_min _) h0
      · exact h
    obtain ⟨b, o, rfl, _, hcc⟩ := hcell hlp
    have hr := run_copy_cells (P := Try.prog) w 27 27 ty 5 g off dLen dCap ⟨b, o, none⟩ l.length c ((u8s l).take dLen) Try.underlying27 hsz hlen
      (fun j v hj => by
        rw [show (⟨b, o, none⟩ : Addr).add j = ⟨b, o + j, none⟩ by unfold Addr.add; split <;> simp_all]
        have hjl := (List.getElem?_eq_some_iff.1 hj).1
        rw [List.length_take] at hjl
        rw [List.getElem?_take_of_lt (by omega)] at hj
        exact hcc j v hj)
      (fun j hj => by
        rw [List.length_take] at hj
        rw [hb.cell, Array.getElem?_eq_getElem (by omega)]; rfl) (fun j _ => hb.frozen _) (fun v hv => u8s_one l v (List.mem_of_mem_take hv))
    rw [hlen] at hr
    exact ⟨_, hr, hb.sets _ _, Ext.sets _ _ (Ext.refl _ w) (fun _ => rfl)⟩
theorem wp_copy_bs {o : Oper} {a : Act} {w : World} {K : Act → World → Prop} {Q : Exit → Act → World → Prop} (d s : Operand) (ho : o.op = .call { callee := .builtin .copy, args := #[d, s], argTypes := #[27, 27] })
    {g off dLen dCap : Nat} {cur : Array Value} {t : TypeId} (hb : Blk w g t cur) (hd : a.eval d = .slice (some ⟨g, off, none⟩) dLen dCap) {u : Value} (hs : a.eval s = u) {l : List UInt8} {F : Nat → Prop} (hu : Bs w F u l) (hfit : off + dLen ≤ cur.size)
    (h : ∀ w', Blk w' g t (setL cur off ((u8s l).take dLen)) → Ext (One g) w w' → K (a.put o.dst (goInt ((Nat.min l.length dLen : Nat) : Int))) w') : o.wp Try.prog a w K Q := by
  obtain ⟨w', hr, h2, h3⟩ := run_copy_bs o.type (dCap := dCap) hb hu hfit
  unfold Oper.wp execOp
  simp only [ho, resolve, invoke, builtin, Sem.run_bind, Sem.run_pure, Result.andThen_ok, List.map_toArray, List.map_cons, List.map_nil, hs, hd, hr]
  exact h w' h2 h3
theorem copy_bs {ops : Array Oper} {rest : List Oper} {o : Oper} {a : Act} {w : World} {Q : Exit → Act → World → Prop} (hgd : o.guard = none) (d s : Operand) (ho : o.op = .call { callee := .builtin .copy, args := #[d, s], argTypes := #[27, 27] })
    {g off dLen dCap : Nat} {cur : Array Value} {t : TypeId} (hb : Blk w g t cur) (hd : a.eval d = .slice (some ⟨g, off, none⟩) dLen dCap) {u : Value} (hs : a.eval s = u) {l : List UInt8} {F : Nat → Prop} (hu : Bs w F u l) (hfit : off + dLen ≤ cur.size)
    (h : ∀ w', Blk w' g t (setL cur off ((u8s l).take dLen)) → Ext (One g) w w' → wpList Try.prog ops Q rest (a.put o.dst (goInt ((Nat.min l.length dLen : Nat) : Int))) w') : wpList Try.prog ops Q (o :: rest) a w :=
  wpList_plain hgd fun K hK => wp_copy_bs d s ho hb hd hs hu hfit fun w' h1 h2 => hK _ _ (h w' h1 h2)
theorem setL_u8s (L m : List UInt8) (off : Nat) (h : off + m.length ≤ L.length) : setL (u8s L).toArray off (u8s m) = (u8s (L.take off ++ m ++ L.drop (off + m.length))).toArray := by
  apply Array.ext_getElem?
  intro i
  conv => rhs; rw [List.getElem?_toArray]
  by_cases h1 : i < off
  · rw [setL_out _ _ _ _ (.inl h1), List.getElem?_toArray, u8s_append, u8s_append, List.append_assoc, List.getElem?_append_left (by rw [u8s_length, List.length_take]; omega)]
    unfold u8s; rw [List.map_take, List.getElem?_take_of_lt h1]
  · by_cases h2 : i < off + m.length
    · obtain ⟨j, rfl⟩ : ∃ j, i = off + j := ⟨i - off, by omega⟩
      rw [setL_in _ _ _ _ (by rw [u8s_length, List.size_toArray, u8s_length]; exact h) (by rw [u8s_length]; omega), u8s_append, u8s_append, List.append_assoc,
        List.getElem?_append_right (by rw [u8s_length, List.length_take]; omega), u8s_length, List.length_take, Nat.min_eq_left (by omega), Nat.add_sub_cancel_left, List.getElem?_append_left (by rw [u8s_length]; omega)]
    · rw [setL_out _ _ _ _ (.inr (by rw [u8s_length]; omega)), List.getElem?_toArray, u8s_append, List.getElem?_append_right (by rw [u8s_length, List.length_append, List.length_take]; omega), u8s_length, List.length_append, List.length_take, Nat.min_eq_left (by omega)]
      unfold u8s; rw [List.map_drop, List.getElem?_drop]
      congr 1; omega
end Go.Proofs.Ytljddghamgjfbaa
