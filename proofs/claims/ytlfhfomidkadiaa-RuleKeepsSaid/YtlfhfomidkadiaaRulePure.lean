/- How buckets keep versions: pure. Plain Lean; no condition. -/
import Derived.Test.YtlfhfomidkadiaaVer
set_option linter.unusedVariables false
set_option linter.unusedSimpArgs false
namespace Go.Proofs.Ytlfhfomidkadiaa
open Go.RowKit

def idV (v : Vr) : Int := if v.nul then 0 else v.seq
def heldV (v : Vr) (now : Int) : Bool := decide (now < v.til)
/-- Where the version stands that is asked for. -/
def fnd (ls : List Vr) (id : Int) : Option Nat := if id < 0 then (if ls.length = 0 then none else some 0) else ls.findIdx? fun v => idV v == id
def pickV (ls : List Vr) (id : Int) : Option Vr := (fnd ls id).bind fun i => ls[i]?
theorem findIdx_lt {ls : List Vr} {p : Vr → Bool} {i : Nat} (h : ls.findIdx? p = some i) : i < ls.length := by
  rw [List.findIdx?_eq_some_iff_getElem] at h; exact h.1
theorem fnd_lt {ls : List Vr} {id : Int} {i : Nat} (h : fnd ls id = some i) : i < ls.length := by
  unfold fnd at h
  by_cases h0 : id < 0
  · rw [if_pos h0] at h
    by_cases hl : ls.length = 0
    · rw [if_pos hl] at h; cases h
    · rw [if_neg hl] at h; injection h with h; omega
  · rw [if_neg h0] at h; exact findIdx_lt h
theorem pick_at {ls : List Vr} {id : Int} {i : Nat} (h : fnd ls id = some i) : pickV ls id = some (ls[i]'(fnd_lt h)) := by
  unfold pickV; rw [h, Option.bind_some, List.getElem?_eq_getElem (fnd_lt h)]
theorem pick_none {ls : List Vr} {id : Int} (h : fnd ls id = none) : pickV ls id = none := by unfold pickV; rw [h]; rfl
/-- A plan. -/
structure Pl where
  gone : List Vr
  comes : Bool
  nul : Bool
  mrk : Bool
def plNone : Pl := ⟨[], false, false, false⟩
def bareP (ls : List Vr) (now : Int) : Pl × Int := match pickV ls 0 with
  | none => (plNone, 0)
  | some v => if heldV v now then (plNone, 14) else (⟨[v], false, false, false⟩, 0)
def putP (ls : List Vr) (state now : Int) : Pl × Int := if state = 1 then (⟨[], true, false, false⟩, 0) else
  if (bareP ls now).2 = 0 then ({ (bareP ls now).1 with comes := true, nul := true }, 0) else (plNone, (bareP ls now).2)
def delP (ls : List Vr) (state now : Int) : Pl × Int := if state = 0 ∨ state = 2 then
    (if (bareP ls now).2 = 0 then (if state = 0 then ((bareP ls now).1, 0) else ({ (bareP ls now).1 with comes := true, nul := true, mrk := true }, 0)) else (plNone, (bareP ls now).2))
  else (⟨[], true, false, true⟩, 0)
def remP (ls : List Vr) (id now : Int) : Pl × Int := match pickV ls id with
  | none => (plNone, 9)
  | some v => if id < 0 then (plNone, 9) else if heldV v now then (plNone, 14) else (⟨[v], false, false, false⟩, 0)
def holdC (v : Vr) (u : Int) : Int := if v.mrk then 15 else if u < 0 ∨ 1099511627776 < u then 2 else if u < v.til then 14 else 0
def turnC (a b : Int) : Int := if b < 0 ∨ 2 < b then 2 else if b = 0 ∧ a ≠ 0 then 15 else 0
def keepP (p : Pl) (x : Vr) : Bool := !p.gone.any fun g => g.seq == x.seq
def appP (ls : List Vr) (p : Pl) (v : Vr) : List Vr := (if p.comes then [{ v with nul := p.nul, mrk := p.mrk }] else []) ++ ls.filter (keepP p)
/-! ### The document's answers -/
def ahead (ls : List Vr) (v : Vr) (nul mk : Bool) : List Vr := { v with nul := nul, mrk := mk } :: ls
def bareR (ls : List Vr) (now : Int) : List Vr × Int := match fnd ls 0 with
  | none => (ls, 0)
  | some i => if heldV (ls.getD i Vr.zero) now then (ls, 14) else (ls.eraseIdx i, 0)
def putR (ls : List Vr) (state now : Int) (v : Vr) : List Vr × Int := if state = 1 then (ahead ls v false false, 0) else
  if (bareR ls now).2 = 0 then (ahead (bareR ls now).1 v true false, 0) else (ls, (bareR ls now).2)
def delR (ls : List Vr) (state now : Int) (v : Vr) : List Vr × Bool × Int := if state = 0 ∨ state = 2 then
    (if (bareR ls now).2 = 0 then (if state = 0 then ((bareR ls now).1, false, 0) else (ahead (bareR ls now).1 v true true, true, 0)) else (ls, false, (bareR ls now).2))
  else (ahead ls v false true, true, 0)
def remR (ls : List Vr) (id now : Int) : List Vr × Int := match fnd ls id with
  | none => (ls, 9)
  | some i => if id < 0 then (ls, 9) else if heldV (ls.getD i Vr.zero) now then (ls, 14) else (ls.eraseIdx i, 0)
/-- Versions as they may stand: newer ones ahead. -/
def Falls (ls : List Vr) : Prop := ∀ i j, (hi : i < ls.length) → (hj : j < ls.length) → i < j → ls[j].seq < ls[i].seq
theorem filter_at {ls : List Vr} (h : Falls ls) {i : Nat} (hi : i < ls.length) : ls.filter (fun x => !(ls[i].seq == x.seq)) = ls.eraseIdx i := by
  induction ls generalizing i with
  | nil => simp at hi
  | cons v ls ih =>
    have hf : Falls ls := fun a b ha hb hab => h (a + 1) (b + 1) (by simpa using ha) (by simpa using hb) (by omega)
    cases i with
    | zero =>
      rw [List.eraseIdx_cons_zero, List.filter_cons_of_neg (by simp)]
      apply List.filter_eq_self.2
      intro x hx
      obtain ⟨j, hj, rfl⟩ := List.getElem_of_mem hx
      have := h 0 (j + 1) (by simp) (by simpa using hj) (by omega)
      simp only [List.getElem_cons_succ, List.getElem_cons_zero] at this ⊢
      simp; omega
    | succ i =>
      have hi' : i < ls.length := by simpa using hi
      rw [List.eraseIdx_cons_succ, List.getElem_cons_succ, List.filter_cons_of_pos, ih hf hi']
      have := h 0 (i + 1) (by simp) hi (by omega)
      simp only [List.getElem_cons_succ, List.getElem_cons_zero] at this
      simp; omega
theorem filter_none (ls : List Vr) (p : Pl) (h : p.gone = []) : ls.filter (keepP p) = ls := by
  apply List.filter_eq_self.2
  intro x _
  unfold keepP; rw [h]; rfl
theorem filter_one {ls : List Vr} (hf : Falls ls) (p : Pl) {i : Nat} (hi : i < ls.length) (h : p.gone = [ls[i]]) : ls.filter (keepP p) = ls.eraseIdx i := by
  rw [← filter_at hf hi]
  apply List.filter_congr
  intro x _
  unfold keepP; rw [h]; simp
theorem bare_is {ls : List Vr} (hf : Falls ls) (now : Int) : (bareP ls now).2 = (bareR ls now).2 ∧ ((bareP ls now).2 = 0 → ∀ c n m, ls.filter (keepP { (bareP ls now).1 with comes := c, nul := n, mrk := m }) = (bareR ls now).1) ∧ (bareP ls now).1.comes = false ∧ (bareP ls now).1.nul = false ∧ (bareP ls now).1.mrk = false := by
  unfold bareP bareR
  cases h : fnd ls 0 with
  | none => rw [pick_none h]; exact ⟨rfl, fun _ c n m => filter_none _ _ rfl, rfl, rfl, rfl⟩
  | some i =>
    have hi := fnd_lt h
    rw [pick_at h]
    have e : ls.getD i Vr.zero = ls[i] := by rw [List.getD_eq_getElem?_getD, List.getElem?_eq_getElem hi]; rfl
    simp only [e]
    by_cases hh : heldV ls[i] now = true
    · rw [if_pos hh, if_pos hh]; exact ⟨rfl, fun h0 => by simp at h0, rfl, rfl, rfl⟩
    · rw [if_neg hh, if_neg hh]; exact ⟨rfl, fun _ c n m => filter_one hf _ hi rfl, rfl, rfl, rfl⟩
theorem put_is {ls : List Vr} (hf : Falls ls) (state now : Int) (v : Vr) : (putP ls state now).2 = (putR ls state now v).2 ∧ ((putP ls state now).2 = 0 → appP ls (putP ls state now).1 v = (putR ls state now v).1) := by
  obtain ⟨h1, h2, h3, h4, h5⟩ := bare_is hf now
  unfold putP putR
  by_cases hs : state = 1
  · rw [if_pos hs, if_pos hs]
    refine ⟨rfl, fun _ => ?_⟩
    unfold appP ahead
    rw [filter_none _ _ rfl]; rfl
  · rw [if_neg hs, if_neg hs]
    by_cases h0 : (bareP ls now).2 = 0
    · rw [if_pos h0, if_pos (h1 ▸ h0)]
      refine ⟨rfl, fun _ => ?_⟩
      have := h2 h0 true true (bareP ls now).1.mrk
      unfold appP ahead
      rw [h5] at this
      simp only [h5]
      rw [this]
      rfl
    · rw [if_neg h0, if_neg (h1 ▸ h0)]
      exact ⟨h1, fun h => absurd h h0⟩
theorem del_is {ls : List Vr} (hf : Falls ls) (state now : Int) (v : Vr) : (delP ls state now).2 = (delR ls state now v).2.2 ∧ ((delP ls state now).2 = 0 → appP ls (delP ls state now).1 v = (delR ls state now v).1 ∧ (delP ls state now).1.comes = (delR ls state now v).2.1) := by
  obtain ⟨h1, h2, h3, h4, h5⟩ := bare_is hf now
  have h6 : (bareP ls now).2 = 0 → (bareR ls now).2 = 0 := fun h => h1 ▸ h
  unfold delP delR
  by_cases hs : state = 0 ∨ state = 2
  · rw [if_pos hs, if_pos hs]
    by_cases h0 : (bareP ls now).2 = 0
    · rw [if_pos h0, if_pos (h6 h0)]
      by_cases hz : state = 0
      · rw [if_pos hz, if_pos hz]
        refine ⟨rfl, fun _ => ⟨?_, h3⟩⟩
        have := h2 h0 false false false
        unfold appP
        rw [h3]
        have e : (bareP ls now).1 = { (bareP ls now).1 with comes := false, nul := false, mrk := false } := by
          cases hp : (bareP ls now).1 with
          | mk g c n m =>
            rw [hp] at h3 h4 h5
            simp only at h3 h4 h5
            rw [h3, h4, h5]
        rw [← e] at this
        rw [this]; rfl
      · rw [if_neg hz, if_neg hz]
        refine ⟨rfl, fun _ => ⟨?_, rfl⟩⟩
        have := h2 h0 true true true
        unfold appP ahead
        rw [this]; rfl
    · rw [if_neg h0, if_neg (h1 ▸ h0)]
      exact ⟨h1, fun h => absurd h h0⟩
  · rw [if_neg hs, if_neg hs]
    refine ⟨rfl, fun _ => ⟨?_, rfl⟩⟩
    unfold appP ahead
    rw [filter_none _ _ rfl]; rfl
theorem rem_is {ls : List Vr} (hf : Falls ls) (id now : Int) (v : Vr) : (remP ls id now).2 = (remR ls id now).2 ∧ ((remP ls id now).2 = 0 → appP ls (remP ls id now).1 v = (remR ls id now).1) ∧ (remP ls id now).1.comes = false := by
  unfold remP remR
  cases h : fnd ls id with
  | none => rw [pick_none h]; exact ⟨rfl, fun h0 => by simp at h0, rfl⟩
  | some i =>
    have hi := fnd_lt h
    rw [pick_at h]
    have e : ls.getD i Vr.zero = ls[i] := by rw [List.getD_eq_getElem?_getD, List.getElem?_eq_getElem hi]; rfl
    simp only [e]
    by_cases h0 : id < 0
    · rw [if_pos h0, if_pos h0]; exact ⟨rfl, fun h0 => by simp at h0, rfl⟩
    · rw [if_neg h0, if_neg h0]
      by_cases hh : heldV ls[i] now = true
      · rw [if_pos hh, if_pos hh]; exact ⟨rfl, fun h0 => by simp at h0, rfl⟩
      · rw [if_neg hh, if_neg hh]
        refine ⟨rfl, fun _ => ?_, rfl⟩
        unfold appP
        rw [filter_one hf _ hi rfl]; rfl
end Go.Proofs.Ytlfhfomidkadiaa
