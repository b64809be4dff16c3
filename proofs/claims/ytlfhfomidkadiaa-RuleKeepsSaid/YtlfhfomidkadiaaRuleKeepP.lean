/- How buckets keep versions: what stays. Plain Lean; no condition. -/
import Derived.Test.YtlfhfomidkadiaaRulePure
set_option linter.unusedVariables false
set_option linter.unusedSimpArgs false
namespace Go.Proofs.Ytlfhfomidkadiaa
open Go.RowKit

/-- Two versions, compared. -/
def svB (a b : Vr) : Bool := a.seq == b.seq && a.nul == b.nul && a.mrk == b.mrk && a.at_ == b.at_ && a.size == b.size && a.til == b.til && decide (a.md = b.md) && decide (a.td = b.td) && (a.gen == b.gen && decide (a.nd = b.nd) && decide (a.wd = b.wd))
theorem svB_self (a : Vr) : svB a a = true := by simp [svB]
def okV (x : Vr) : Bool := decide (1 ≤ x.seq) && decide (x.md.length ≤ 60) && decide (x.td.length ≤ 60) && decide (x.wd.length ≤ 100) && decide (x.nd.length ≤ 100)
/-- Versions of one name, as they may stand. -/
structure Right (ls : List Vr) : Prop where
  len : ls.length ≤ 30
  each : ∀ x ∈ ls, okV x = true
  fall : Falls ls
  nul : (ls.filter (·.nul)).length < 2
theorem falls_pair (ls : List Vr) : Falls ls ↔ ls.Pairwise (fun a b => b.seq < a.seq) := by
  rw [List.pairwise_iff_getElem]; rfl
theorem Falls.filter {ls : List Vr} (h : Falls ls) (p : Vr → Bool) : Falls (ls.filter p) := (falls_pair _).2 (((falls_pair _).1 h).filter p)
theorem Falls.cons {ls : List Vr} (h : Falls ls) {v : Vr} (hv : ∀ x ∈ ls, x.seq < v.seq) : Falls (v :: ls) := (falls_pair _).2 (List.pairwise_cons.2 ⟨hv, (falls_pair _).1 h⟩)
theorem Falls.eq {ls : List Vr} (h : Falls ls) {a b : Vr} (ha : a ∈ ls) (hb : b ∈ ls) (hs : a.seq = b.seq) : a = b := by
  obtain ⟨i, hi, rfl⟩ := List.getElem_of_mem ha
  obtain ⟨j, hj, rfl⟩ := List.getElem_of_mem hb
  rcases Nat.lt_trichotomy i j with hlt | rfl | hlt
  · have := h i j hi hj hlt; omega
  · rfl
  · have := h j i hj hi hlt; omega
/-- A plan that takes away what is there, and not held. -/
structure Fair (ls : List Vr) (now : Int) (p : Pl) : Prop where
  gone : ∀ g ∈ p.gone, g ∈ ls ∧ heldV g now = false
  nul : p.comes = true → p.nul = true → ((ls.filter (keepP p)).filter (·.nul)).length = 0
theorem Fair.none (ls : List Vr) (now : Int) : Fair ls now plNone := ⟨fun g h => by simp [plNone] at h, fun h => by simp [plNone] at h⟩
theorem kept {ls : List Vr} {now : Int} {p : Pl} (hf : Falls ls) (hp : Fair ls now p) (v : Vr) {x : Vr} (hx : x ∈ ls) (hh : heldV x now = true) : x ∈ appP ls p v := by
  unfold appP
  apply List.mem_append_right
  rw [List.mem_filter]
  refine ⟨hx, ?_⟩
  unfold keepP
  rw [Bool.not_eq_true', ← Bool.not_eq_true, List.any_eq_true]
  rintro ⟨g, hg, he⟩
  obtain ⟨h1, h2⟩ := hp.gone g hg
  have : g = x := hf.eq h1 hx (by simpa using he)
  rw [this, hh] at h2
  cases h2
theorem nuls_le {ls : List Vr} (p : Vr → Bool) : ((ls.filter p).filter (·.nul)).length ≤ (ls.filter (·.nul)).length := by
  rw [List.filter_filter, show (fun a : Vr => (a.nul && p a)) = (fun a => p a && a.nul) by funext a; rw [Bool.and_comm], ← List.filter_filter]
  exact List.length_filter_le _ _
theorem right_app {ls : List Vr} {now : Int} {p : Pl} (hr : Right ls) (hl : ls.length < 30) (hp : Fair ls now p) {v : Vr} (hv : okV v = true) (ha : ∀ x ∈ ls, x.seq < v.seq) : Right (appP ls p v) := by
  have hfl : (ls.filter (keepP p)).length ≤ ls.length := List.length_filter_le _ _
  unfold appP
  cases hc : p.comes with
  | false =>
    refine ⟨by simp; omega, fun x hx => hr.each x ?_, ?_, ?_⟩
    · simp at hx; exact hx.1
    · simpa using hr.fall.filter _
    · have := nuls_le (ls := ls) (keepP p)
      have := hr.nul
      simp only [Bool.false_eq_true, if_false, List.nil_append]
      omega
  | true =>
    refine ⟨by simp; omega, fun x hx => ?_, ?_, ?_⟩
    · simp only [if_true, List.singleton_append, List.mem_cons] at hx
      rcases hx with rfl | hx
      · exact hv
      · exact hr.each x (List.mem_filter.1 hx).1
    · exact (hr.fall.filter _).cons (fun x hx => ha x (List.mem_filter.1 hx).1)
    · simp only [if_true, List.singleton_append]
      cases hn : p.nul with
      | true =>
        have := hp.nul hc hn
        rw [List.filter_cons_of_pos (by rfl), List.length_cons, this]; omega
      | false =>
        have := nuls_le (ls := ls) (keepP p)
        have := hr.nul
        rw [List.filter_cons_of_neg (by simp)]; omega
theorem idV_zero {ls : List Vr} (hr : Right ls) {x : Vr} (hx : x ∈ ls) : (idV x == 0) = x.nul := by
  have h := hr.each x hx
  unfold okV at h
  simp only [Bool.and_eq_true, decide_eq_true_eq] at h
  unfold idV
  cases x.nul with
  | true => simp
  | false => simp; omega
theorem bare_fair {ls : List Vr} (hr : Right ls) (now : Int) : Fair ls now (bareP ls now).1 ∧ ((bareP ls now).2 = 0 → ∀ c n m, ((ls.filter (keepP { (bareP ls now).1 with comes := c, nul := n, mrk := m })).filter (·.nul)).length = 0) := by
  obtain ⟨h1, h2, h3, h4, h5⟩ := bare_is hr.fall now
  constructor
  · refine ⟨fun g hg => ?_, fun hc => by rw [h3] at hc; cases hc⟩
    unfold bareP at hg
    cases h : pickV ls 0 with
    | none => rw [h] at hg; simp [plNone] at hg
    | some v =>
      rw [h] at hg
      simp only at hg
      by_cases hh : heldV v now = true
      · rw [if_pos hh] at hg; simp [plNone] at hg
      · rw [if_neg hh] at hg
        obtain rfl : g = v := by simpa using hg
        refine ⟨?_, by simpa using hh⟩
        unfold pickV at h
        cases hf : fnd ls 0 with
        | none => rw [hf] at h; cases h
        | some i => rw [hf, Option.bind_some] at h; exact List.mem_of_getElem? h
  · intro h0 c n m
    rw [h2 h0 c n m]
    unfold bareR
    have hz : ∀ (ms : List Vr), (∀ x ∈ ms, x.nul = false) → (ms.filter (·.nul)).length = 0 := fun ms hm => by
      rw [List.filter_eq_nil_iff.2 (fun x hx => by rw [hm x hx]; simp)]; rfl
    cases h : fnd ls 0 with
    | none =>
      apply hz
      intro x hx
      unfold fnd at h
      rw [if_neg (by omega), List.findIdx?_eq_none_iff] at h
      have := h x hx
      rwa [idV_zero hr hx] at this
    | some i =>
      have hi := fnd_lt h
      have hnl : ls[i].nul = true := by
        have h' := h
        unfold fnd at h'
        rw [if_neg (by omega), List.findIdx?_eq_some_iff_getElem] at h'
        obtain ⟨_, h6, _⟩ := h'
        rwa [idV_zero hr (List.getElem_mem hi)] at h6
      have e : ls.getD i Vr.zero = ls[i] := by rw [List.getD_eq_getElem?_getD, List.getElem?_eq_getElem hi]; rfl
      simp only [e]
      by_cases hh : heldV ls[i] now = true
      · exfalso
        rw [h1] at h0
        unfold bareR at h0
        rw [h] at h0
        simp only [e] at h0
        rw [if_pos hh] at h0
        cases h0
      · rw [if_neg hh]
        have hn := hr.nul
        rw [← filter_at hr.fall hi]
        apply Nat.le_zero.1
        have hsub : ls[i] ∉ (ls.filter (fun x => !(ls[i].seq == x.seq))).filter (·.nul) := fun hm => by
          have := (List.mem_filter.1 (List.mem_filter.1 hm).1).2
          simp at this
        -- the nameless one is gone, and there was but one
        rw [List.filter_filter, show (fun a : Vr => (a.nul && !(ls[i].seq == a.seq))) = (fun a => !(ls[i].seq == a.seq) && a.nul) by funext a; rw [Bool.and_comm], ← List.filter_filter] at *
        have hin : ls[i] ∈ ls.filter (·.nul) := List.mem_filter.2 ⟨List.getElem_mem hi, hnl⟩
        have hlt : ((ls.filter (·.nul)).filter (fun a => !(ls[i].seq == a.seq))).length < (ls.filter (·.nul)).length := List.length_filter_lt_length_iff_exists.2 ⟨ls[i], hin, by simp⟩
        exact Nat.le_of_lt_succ (Nat.lt_of_lt_of_le hlt (Nat.le_of_lt_succ hn))
theorem put_fair {ls : List Vr} (hr : Right ls) (state now : Int) : Fair ls now (putP ls state now).1 := by
  obtain ⟨h1, h2⟩ := bare_fair hr now
  unfold putP
  by_cases hs : state = 1
  · rw [if_pos hs]; exact ⟨fun g h => by simp at h, fun _ h => by simp at h⟩
  · rw [if_neg hs]
    by_cases h0 : (bareP ls now).2 = 0
    · rw [if_pos h0]; exact ⟨h1.gone, fun _ _ => h2 h0 true true _⟩
    · rw [if_neg h0]; exact Fair.none _ _
theorem del_fair {ls : List Vr} (hr : Right ls) (state now : Int) : Fair ls now (delP ls state now).1 := by
  obtain ⟨h1, h2⟩ := bare_fair hr now
  unfold delP
  by_cases hs : state = 0 ∨ state = 2
  · rw [if_pos hs]
    by_cases h0 : (bareP ls now).2 = 0
    · rw [if_pos h0]
      by_cases hz : state = 0
      · rw [if_pos hz]; exact h1
      · rw [if_neg hz]; exact ⟨h1.gone, fun _ _ => h2 h0 true true true⟩
    · rw [if_neg h0]; exact Fair.none _ _
  · rw [if_neg hs]; exact ⟨fun g h => by simp at h, fun _ h => by simp at h⟩
theorem rem_fair {ls : List Vr} (hr : Right ls) (id now : Int) : Fair ls now (remP ls id now).1 := by
  unfold remP
  cases h : pickV ls id with
  | none => exact Fair.none _ _
  | some v =>
    simp only
    by_cases h0 : id < 0
    · rw [if_pos h0]; exact Fair.none _ _
    · rw [if_neg h0]
      by_cases hh : heldV v now = true
      · rw [if_pos hh]; exact Fair.none _ _
      · rw [if_neg hh]
        refine ⟨fun g hg => ?_, fun hc => by simp at hc⟩
        obtain rfl : g = v := by simpa using hg
        refine ⟨?_, by simpa using hh⟩
        unfold pickV at h
        cases hf : fnd ls id with
        | none => rw [hf] at h; cases h
        | some i => rw [hf, Option.bind_some] at h; exact List.mem_of_getElem? h
end Go.Proofs.Ytlfhfomidkadiaa
