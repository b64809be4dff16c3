/- Law 26: plans and what becomes of the versions: contracts for RuleDoes, RuleKeeps. -/
import Derived.Test.YtlfhfomidkadiaaRuleOnP
set_option linter.unusedVariables false
set_option linter.unusedSimpArgs false
namespace Go.Proofs.Ytlfhfomidkadiaa
open Go.RowKit Go.Deep

theorem bare_gone (ls : List Vr) (now : Int) : (bareP ls now).1.gone.length ≤ 1 := by
  unfold bareP
  split
  · simp [plNone]
  · split <;> simp [plNone]
theorem put_gone (ls : List Vr) (st now : Int) : (putP ls st now).1.gone.length ≤ 1 := by
  have := bare_gone ls now
  unfold putP
  split
  · simp
  · split
    · exact this
    · simp [plNone]
theorem del_gone (ls : List Vr) (st now : Int) : (delP ls st now).1.gone.length ≤ 1 := by
  have := bare_gone ls now
  unfold delP
  split
  · split
    · split
      · exact this
      · exact this
    · simp [plNone]
  · simp
theorem rem_gone (ls : List Vr) (id now : Int) : (remP ls id now).1.gone.length ≤ 1 := by
  unfold remP
  split
  · simp [plNone]
  · split
    · simp [plNone]
    · split <;> simp [plNone]
theorem app_len (ls : List Vr) (p : Pl) (v : Vr) : (appP ls p v).length ≤ ls.length + 1 := by
  have := List.length_filter_le (keepP p) ls
  unfold appP
  split <;> simp <;> omega
section
variable {lv : Value} {ls g : List Vr} {st now id e : Int} {c n m : Bool} {B : Nat} {w : World} {v : Vr} {gv : Value}
theorem dPut (H : putP ls st now = (⟨g, c, n, m⟩, e)) (hl : Vs w Any B lv ls) (hll : ls.length ≤ 1000) (hB : B ≤ w.heap.size) : Calls Try.prog 38 #[lv, .int .i64 st, .int .i64 now] w fun x w' => ∃ gv, x = .returned (.tuple #[.agg #[gv, .bool c, .bool n, .bool m], .int .i64 e]) ∧ Vs w' Any B gv g ∧ Ext No w w' :=
  (rPut_any lv ls st now B w hl (by omega) hB).mono (by rintro x w' ⟨v, rfl, ⟨gv, rfl, h⟩, hx⟩; rw [H] at h ⊢; exact ⟨gv, rfl, h, hx⟩)
theorem dDel (H : delP ls st now = (⟨g, c, n, m⟩, e)) (hl : Vs w Any B lv ls) (hll : ls.length ≤ 1000) (hB : B ≤ w.heap.size) : Calls Try.prog 39 #[lv, .int .i64 st, .int .i64 now] w fun x w' => ∃ gv, x = .returned (.tuple #[.agg #[gv, .bool c, .bool n, .bool m], .int .i64 e]) ∧ Vs w' Any B gv g ∧ Ext No w w' :=
  (rDelete_any lv ls st now B w hl (by omega) hB).mono (by rintro x w' ⟨v, rfl, ⟨gv, rfl, h⟩, hx⟩; rw [H] at h ⊢; exact ⟨gv, rfl, h, hx⟩)
theorem dRem (H : remP ls id now = (⟨g, c, n, m⟩, e)) (hl : Vs w Any B lv ls) (hll : ls.length ≤ 1000) (hB : B ≤ w.heap.size) : Calls Try.prog 44 #[lv, .int .i64 id, .int .i64 now] w fun x w' => ∃ gv, x = .returned (.tuple #[.agg #[gv, .bool c, .bool n, .bool m], .int .i64 e]) ∧ Vs w' Any B gv g ∧ Ext No w w' :=
  (rRemove_any lv ls id now B w hl (by omega) hB).mono (by rintro x w' ⟨v, rfl, ⟨gv, rfl, h⟩, hx⟩; rw [H] at h ⊢; exact ⟨gv, rfl, h, hx⟩)
/-- Apply, by a plan that is known. -/
theorem dApp (hg : Vs w Any B gv g) (hgl : g.length ≤ 1) (hl : Vs w Any B lv ls) (hll : ls.length ≤ 1000) (hv : Vr.Ok w (fun b => b < B) v) (hB : B ≤ w.heap.size) : Calls Try.prog 40 #[lv, .agg #[gv, .bool c, .bool n, .bool m], .agg v.cs.toArray] w fun x w' => ∃ ov, x = .returned ov ∧ Vs w' Any B ov (appP ls ⟨g, c, n, m⟩ v) ∧ Ext No w w' :=
  (rApply_any lv _ ls ⟨g, c, n, m⟩ v B w hl hll ⟨gv, rfl, hg⟩ (by show g.length ≤ 1000; omega) hv hB).mono (by rintro x w' ⟨ov, rfl, ho, hx⟩; exact ⟨ov, rfl, ho.vs, hx⟩)
theorem dRefPut (hf : Falls ls) (H : putP ls st now = (⟨g, c, n, m⟩, e)) (hl : Vs w Any B lv ls) (hll : ls.length ≤ 1000) (hv : Vr.Ok w (fun b => b < B) v) (hB : B ≤ w.heap.size) : Calls Try.prog 42 #[lv, .int .i64 st, .int .i64 now, .agg v.cs.toArray] w fun x w' => ∃ ov, x = .returned (.tuple #[ov, .int .i64 e]) ∧ Vs w' Any B ov (putR ls st now v).1 ∧ Ext No w w' :=
  (rfPut_any lv ls st now v B w hl hll hv hB).mono (by rintro x w' ⟨ov, rfl, h, hx⟩; have := (put_is hf st now v).1; rw [H] at this; rw [← this]; exact ⟨ov, rfl, h, hx⟩)
theorem dRefPut0 (hf : Falls ls) (H : putP ls st now = (⟨g, c, n, m⟩, 0)) (hl : Vs w Any B lv ls) (hll : ls.length ≤ 1000) (hv : Vr.Ok w (fun b => b < B) v) (hB : B ≤ w.heap.size) : Calls Try.prog 42 #[lv, .int .i64 st, .int .i64 now, .agg v.cs.toArray] w fun x w' => ∃ ov, x = .returned (.tuple #[ov, .int .i64 0]) ∧ Vs w' Any B ov (appP ls ⟨g, c, n, m⟩ v) ∧ Ext No w w' :=
  (dRefPut hf H hl hll hv hB).mono (by rintro x w' ⟨ov, rfl, h, hx⟩; have := (put_is hf st now v).2; rw [H] at this; rw [← this rfl] at h; exact ⟨ov, rfl, h, hx⟩)
theorem dRefDel (hf : Falls ls) (H : delP ls st now = (⟨g, c, n, m⟩, e)) (hl : Vs w Any B lv ls) (hll : ls.length ≤ 1000) (hv : Vr.Ok w (fun b => b < B) v) (hB : B ≤ w.heap.size) : Calls Try.prog 43 #[lv, .int .i64 st, .int .i64 now, .agg v.cs.toArray] w fun x w' => ∃ ov mk, x = .returned (.tuple #[ov, .bool mk, .int .i64 e]) ∧ Ext No w w' :=
  (rfDelete_any lv ls st now v B w hl hll hv hB).mono (by rintro x w' ⟨ov, rfl, h, hx⟩; have := (del_is hf st now v).1; rw [H] at this; rw [← this]; exact ⟨ov, _, rfl, hx⟩)
theorem dRefDel0 (hf : Falls ls) (H : delP ls st now = (⟨g, c, n, m⟩, 0)) (hl : Vs w Any B lv ls) (hll : ls.length ≤ 1000) (hv : Vr.Ok w (fun b => b < B) v) (hB : B ≤ w.heap.size) : Calls Try.prog 43 #[lv, .int .i64 st, .int .i64 now, .agg v.cs.toArray] w fun x w' => ∃ ov, x = .returned (.tuple #[ov, .bool c, .int .i64 0]) ∧ Vs w' Any B ov (appP ls ⟨g, c, n, m⟩ v) ∧ Ext No w w' :=
  (rfDelete_any lv ls st now v B w hl hll hv hB).mono (by
    rintro x w' ⟨ov, rfl, h, hx⟩
    obtain ⟨h1, h2⟩ := del_is hf st now v
    rw [H] at h1 h2
    obtain ⟨h3, h4⟩ := h2 rfl
    rw [← h1, ← h4]
    rw [← h3] at h
    exact ⟨ov, rfl, h, hx⟩)
theorem dRefRem (hf : Falls ls) (H : remP ls id now = (⟨g, c, n, m⟩, e)) (hl : Vs w Any B lv ls) (hll : ls.length ≤ 1000) (hB : B ≤ w.heap.size) : Calls Try.prog 45 #[lv, .int .i64 id, .int .i64 now] w fun x w' => ∃ ov, x = .returned (.tuple #[ov, .int .i64 e]) ∧ Vs w' Any B ov (remR ls id now).1 ∧ Ext No w w' :=
  (rfRemove_any lv ls id now B w hl hll hB).mono (by rintro x w' ⟨ov, rfl, h, hx⟩; have := (rem_is hf id now Vr.zero).1; rw [H] at this; rw [← this]; exact ⟨ov, rfl, h, hx⟩)
theorem dRefRem0 (v : Vr) (hf : Falls ls) (H : remP ls id now = (⟨g, c, n, m⟩, 0)) (hl : Vs w Any B lv ls) (hll : ls.length ≤ 1000) (hB : B ≤ w.heap.size) : Calls Try.prog 45 #[lv, .int .i64 id, .int .i64 now] w fun x w' => ∃ ov, x = .returned (.tuple #[ov, .int .i64 0]) ∧ Vs w' Any B ov (appP ls ⟨g, c, n, m⟩ v) ∧ Ext No w w' :=
  (dRefRem hf H hl hll hB).mono (by rintro x w' ⟨ov, rfl, h, hx⟩; have := (rem_is hf id now v).2.1; rw [H] at this; rw [← this rfl] at h; exact ⟨ov, rfl, h, hx⟩)
theorem rem_comes (hf : Falls ls) (H : remP ls id now = (⟨g, c, n, m⟩, e)) : c = false := by
  have := (rem_is hf id now Vr.zero).2.2
  rw [H] at this
  exact this
end
end Go.Proofs.Ytlfhfomidkadiaa
