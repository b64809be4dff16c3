/- append(row of the call's own, make([]byte, n)...). Plain lemmas; no condition. -/
import Derived.Test.YtljddghamgjfbaaApp0
import Derived.Test.YtljddghamgjfbaaMid
set_option linter.unusedVariables false
set_option linter.unusedSimpArgs false
namespace Go.Proofs.Ytljddghamgjfbaa
open Go.RowKit

set_option maxRecDepth 100000 in
theorem run_app_zeros {w : World} {base : Nat} (v : Value) (l : List UInt8) (n : Nat) (ty : TypeId) (h : Own w base v l) (hn : n ≤ 1000) (hl : l.length ≤ 1000) :
    ∃ v' w', (Builtin.append_ #[27, 3] ty #[v, .int .i64 (n : Int)]).run Try.prog w = .ok v' w' ∧ Bs w' Any v' (l ++ List.replicate n 0) ∧ Ext (fun k => v.ownBlock = some k) w w' := by
  obtain ⟨i, hi, hz0, hz1, hz2⟩ := info_parts info_u8
  have hw : IntKind.i64.wrap (n : Int) = (n : Int) := by rw [IntKind.wrap_i64]; omega
  have hz : Builtin.zeroCells (Value.int .u8 0).cells n = (u8s (List.replicate n 0)).toArray := zeroCells_u8 n
  have h2 : ¬ ((n : Int) < 0) := by omega
  have h3 : ¬ (281474976710656 < (n : Int)) := by omega
  rcases Nat.eq_zero_or_pos n with h0 | h0
  · subst h0
    refine ⟨v, w, ?_, by simpa using h.any, Ext.refl _ w⟩
    rcases h.2 with ⟨rfl, e⟩ | ⟨g, cap, cur, rfl, _, _, hnc, _⟩
    · simp [Builtin.append_, run_underlying Try.underlying27, run_underlying Try.underlying3, sizeOf, typeInfo, hi, hz1, hz2, asInt, asIntOf, IntKind.wrap_i64, storeCells]
    · simp [Builtin.append_, run_underlying Try.underlying27, run_underlying Try.underlying3, sizeOf, typeInfo, hi, hz1, hz2, asInt, asIntOf, IntKind.wrap_i64, storeCells, hnc]
  · have hnz : n ≠ 0 := by omega
    have grow : ∀ (A : Option Addr) (cap : Nat), cap < l.length + n → cap ≤ 1000000 → (Builtin.firstCells i.size l.length (.slice A l.length cap)).run Try.prog w.drew = .ok (u8s l).toArray w.drew →
        ∃ v' w', (Builtin.append_ #[27, 3] ty #[.slice A l.length cap, .int .i64 (n : Int)]).run Try.prog w = .ok v' w' ∧ Bs w' Any v' (l ++ List.replicate n 0) ∧ Ext No w w' := by
      intro A cap hcap hcm hf
      have h1 : ¬ (l.length + n ≤ cap) := by omega
      have h4 : ¬ (9223372036854775807 < ((l.length : Int) + (n : Int))) := by omega
      have h5 := growslice_fits (need := l.length + n) (old := cap) (bytes := 1) (by omega) (by omega)
      have h6 : ¬ (281474976710656 < Builtin.nextslicecap (l.length + n) cap) := by omega
      have hge := grownCap_ge w (l.length + n) cap 5
      have hcm2 := grownCap_le_maxLen w (l.length + n) cap 5 (by unfold maxLen; omega)
      rw [hz1] at hf
      refine ⟨.slice (some ⟨w.heap.size, 0, none⟩) (l.length + n) (grownCap w (l.length + n) cap 5), w.drew.alloc (.cells ((u8s l).toArray ++ (u8s (List.replicate n 0)).toArray ++ Builtin.zeroCells (Value.int .u8 0).cells (grownCap w (l.length + n) cap 5 - (l.length + n))) 5), ?_, ?_, (Ext.refl No w).drew.alloc _⟩
      · simp [Builtin.append_, run_underlying Try.underlying27, run_underlying Try.underlying3, sizeOf, typeInfo, zeroValue, hi, hz0, hz1, hz2, hw, asInt, asIntOf, h1, h2, h3, h4, h6, hnz, Question.forced, hf, newRow, grownCap]
        rw [hz]
        congr 2
        apply Array.ext'
        simp
      · refine ⟨by rw [u8s_length, Nat.mul_one], _, _, by rw [List.length_append, List.length_replicate], by rw [List.length_append, List.length_replicate]; omega, hcm2, fun _ => ⟨w.heap.size, 0, rfl, trivial, fun j u hu => ?_⟩⟩
        have hj := (List.getElem?_eq_some_iff.1 hu).1
        rw [u8s_length, List.length_append, List.length_replicate] at hj
        rw [Nat.zero_add, show w.heap.size = w.drew.heap.size from rfl, (Blk.new w.drew 5 _).cell, Array.getElem?_append_left (by simp [u8s_length]; omega), ← hu, ← Array.getElem?_toList]
        simp only [Array.toList_append, u8s_append]
    rcases h.2 with ⟨rfl, e⟩ | ⟨g, cap, cur, rfl, hgb, hblk, hnc, hcm, hsz, htk⟩
    · obtain ⟨v', w', h1, h2, h3⟩ := grow none 0 (by omega) (by omega) (by rw [e]; have : l = [] := List.eq_nil_of_length_eq_zero e; subst this; exact run_firstCells_none w.drew i.size 0 0 0)
      rw [e] at h1
      exact ⟨v', w', h1, h2, h3.mono (fun _ _ h => h.elim)⟩
    · have hrow : Blk w g 5 cur := hblk
      rw [Nat.mul_one] at htk hsz
      have hcl : l.length ≤ cur.size := by omega
      by_cases hroom : l.length + n ≤ cap
      · have hst := run_storeCells_at Try.prog g l.length 5 (u8s (List.replicate n 0)) 0 cur w hblk (by rw [u8s_length, List.length_replicate]; omega) (u8s_one _)
        simp only [Nat.add_zero] at hst
        refine ⟨.slice (some ⟨g, 0, none⟩) (l.length + n) cap, w.setRow g (cur.toList.take l.length ++ u8s (List.replicate n 0) ++ cur.toList.drop (l.length + (u8s (List.replicate n 0)).length)).toArray, ?_, ?_, ⟨rfl, rfl, rfl, by simp, fun k hk hn => setRow_other w g k _ (fun e => hn (by simp [Value.ownBlock, e]))⟩⟩
        · simp [Builtin.append_, run_underlying Try.underlying27, run_underlying Try.underlying3, sizeOf, typeInfo, zeroValue, hi, hz0, hz1, hz2, hw, asInt, asIntOf, hroom, h2, h3, hnz, hz, Addr.add_lit, hst]
        · refine ⟨by rw [u8s_length, Nat.mul_one], _, _, by rw [List.length_append, List.length_replicate], by rw [List.length_append, List.length_replicate]; omega, hcm, fun _ => ⟨g, 0, rfl, trivial, fun j u hu => ?_⟩⟩
          have hj := (List.getElem?_eq_some_iff.1 hu).1
          rw [u8s_length, List.length_append, List.length_replicate] at hj
          have hb2 : Blk (w.setRow g (cur.toList.take l.length ++ u8s (List.replicate n 0) ++ cur.toList.drop (l.length + (u8s (List.replicate n 0)).length)).toArray) g 5 _ := setRow_heap w g cur _ 5 _ hblk
          rw [Nat.zero_add, hb2.cell, List.getElem?_toArray, htk, List.getElem?_append_left (by simp [u8s_length]; omega), ← u8s_append]
          exact hu
      · obtain ⟨v', w', h1, h2, h3⟩ := grow (some ⟨g, 0, none⟩) cap (by omega) (by omega) (run_firstCells_some w.drew i.size l.length ⟨g, 0, none⟩ l.length cap (u8s l) (by rw [hz1, u8s_length]; simp) (fun j u hu => by
          have hj := (List.getElem?_eq_some_iff.1 hu).1
          rw [u8s_length] at hj
          rw [show (⟨g, 0, none⟩ : Addr).add j = ⟨g, 0 + j, none⟩ by unfold Addr.add; split <;> simp_all, Nat.zero_add, (show Blk w.drew g 5 cur from hrow).cell, ← hu, ← htk, List.getElem?_take_of_lt hj, Array.getElem?_toList]))
        exact ⟨v', w', h1, h2, h3.mono (fun _ _ h => h.elim)⟩
theorem app_zeros {w : World} {ops : Array Oper} {rest : List Oper} {o : Oper} {a : Act} {Q : Exit → Act → World → Prop} (s x : Operand)
    (ho : o.op = .call { callee := .builtin .append, args := #[s, x], argTypes := #[27, 3] }) (hgd : o.guard = none)
    (base : Nat) (v : Value) (l : List UInt8) (n : Nat) (hs : a.eval s = v) (hx : a.eval x = .int .i64 (n : Int)) (hb : Own w base v l) (hn : n ≤ 1000) (hl : l.length ≤ 1000)
    (h : ∀ v' w', Bs w' Any v' (l ++ List.replicate n 0) → Ext (fun k => v.ownBlock = some k) w w' → wpList Try.prog ops Q rest (a.put o.dst v') w') : wpList Try.prog ops Q (o :: rest) a w := by
  refine wpList_plain hgd fun K hK => ?_
  obtain ⟨v', w', hr, h2, h3⟩ := run_app_zeros v l n o.type hb hn hl
  unfold Oper.wp execOp
  simp only [ho, resolve, invoke, builtin, Sem.run_bind, Sem.run_pure, Result.andThen_ok, List.map_toArray, List.map_cons, List.map_nil, hs, hx, hr]
  exact hK _ _ (h v' w' h2 h3)
end Go.Proofs.Ytljddghamgjfbaa
