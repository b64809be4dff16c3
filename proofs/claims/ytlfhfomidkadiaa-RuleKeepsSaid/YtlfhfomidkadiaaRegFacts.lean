/- A region that draws its order, walked once an operation: each operation leaves a fact of its own, which all others keep. Plain lemmas over any program; no condition. -/
import Derived.Test.YtlfhfomidkadiaaMem
import Derived.Orders
import Derived.Deep.RegionWith
set_option linter.unusedVariables false
set_option linter.unusedSimpArgs false
namespace Go.Proofs.Ytlfhfomidkadiaa
open Go.RowKit

namespace RF
def upd (vs : Nat → Value) (i : Nat) (v : Value) : Nat → Value := fun k => if k = i then v else vs k
def deps (ops : Array Oper) (i : Nat) : List Nat := (((ops[i]?).map (·.after.toList)).getD []).filterMap fun e => if Region.binds .any e then some e.on else none
def unl (n : Nat) (listed : Array Bool) : List Nat := (List.range n).filter fun j => !listed.getD j true
def AllF (F : Nat → Value → World → Prop) (vs : Nat → Value) (w : World) : List Nat → Prop
  | [] => True
  | j :: l => F j (vs j) w ∧ AllF F vs w l
theorem AllF.of {F : Nat → Value → World → Prop} {vs : Nat → Value} {w : World} : ∀ {l : List Nat}, (∀ j ∈ l, F j (vs j) w) → AllF F vs w l
  | [], _ => trivial
  | j :: l, h => ⟨h j (List.mem_cons_self ..), AllF.of fun i hi => h i (List.mem_cons_of_mem _ hi)⟩
section
variable {P : Program} {ops : Array Oper} {Q : Exit → Act → World → Prop}
/-- What an operation owes: met behind those that it waits for, in whatever state else, it leaves its own fact, and keeps all others. -/
def Step (P : Program) (ops : Array Oper) (Q : Exit → Act → World → Prop) (lit : (Nat → Value) → Array Value) (df : List Deferred) (vs0 : Nat → Value) (F : Nat → Value → World → Prop) (G : (Nat → Value) → World → Prop) (i : Nat) : Prop :=
  ∀ vs w, G vs w → vs i = vs0 i → AllF F vs w (deps ops i) →
    wpOp P ops Q i (fun a' w' => ∃ v, a' = ⟨lit (upd vs i v), df⟩ ∧ G (upd vs i v) w' ∧ F i v w' ∧ ∀ j, j ≠ i → F j (vs j) w → F j (vs j) w') ⟨lit vs, df⟩ w
def Steps (P : Program) (ops : Array Oper) (Q : Exit → Act → World → Prop) (lit : (Nat → Value) → Array Value) (df : List Deferred) (vs0 : Nat → Value) (F : Nat → Value → World → Prop) (G : (Nat → Value) → World → Prop) : Nat → Prop
  | 0 => True
  | n + 1 => Steps P ops Q lit df vs0 F G n ∧ Step P ops Q lit df vs0 F G n
variable {lit : (Nat → Value) → Array Value} {df : List Deferred} {vs0 : Nat → Value} {F : Nat → Value → World → Prop} {G : (Nat → Value) → World → Prop}
theorem Steps.at : ∀ {n : Nat}, Steps P ops Q lit df vs0 F G n → ∀ i, i < n → Step P ops Q lit df vs0 F G i
  | 0, _, i, h => absurd h (Nat.not_lt_zero i)
  | n + 1, ⟨hs, h⟩, i, hi => by
    by_cases e : i = n
    · subst e; exact h
    · exact hs.at i (by omega)
/-- An operation without a guard. -/
theorem Step.plain {i : Nat} {o : Oper} (ho : ops[i]? = some o) (hg : o.guard = none)
    (h : ∀ vs w, G vs w → vs i = vs0 i → AllF F vs w (deps ops i) → ∀ K : Act → World → Prop,
      (∀ v w', G (upd vs i v) w' → F i v w' → (∀ j, j ≠ i → F j (vs j) w → F j (vs j) w') → K ⟨lit (upd vs i v), df⟩ w') → o.wp P ⟨lit vs, df⟩ w K Q) : Step P ops Q lit df vs0 F G i := by
  intro vs w hG hv hd
  unfold wpOp
  rw [ho]
  simp only [Region.wanted, hg, if_true]
  refine Or.inl (Oper.wp_mono (fun _ _ h => h) (h vs w hG hv hd _ ?_))
  intro v w' h1 h2 h3
  exact ⟨v, rfl, h1, h2, h3⟩
theorem unl_set {n i : Nat} {listed : Array Bool} (hs : listed.size = n) (hi : i ∈ unl n listed) : (unl n (listed.setIfInBounds i true)).length < (unl n listed).length := by
  have hlt : i < n := by have := (List.mem_filter.1 hi).1; simpa using this
  have e : unl n (listed.setIfInBounds i true) = (unl n listed).filter (fun j => j != i) := by
    unfold unl
    rw [List.filter_filter]
    apply List.filter_congr
    intro j hj
    have hj' : j < n := by simpa using hj
    by_cases hji : j = i
    · subst hji
      simp [Array.getD, hs, hj']
    · have : (listed.setIfInBounds i true).getD j true = listed.getD j true := by
        simp only [Array.getD_eq_getD_getElem?, Array.getElem?_setIfInBounds_ne (Ne.symm hji)]
      rw [this]
      simp [hji]
  rw [e]
  exact List.length_filter_lt_length_iff_exists.2 ⟨i, hi, by simp⟩
theorem any_of (hord : ∀ i, i < ops.size → ∀ j ∈ deps ops i, j < i) (hst : Steps P ops Q lit df vs0 F G ops.size)
    (hend : ∀ vs w, G vs w → (∀ i, i < ops.size → F i (vs i) w) → Q .normal ⟨lit vs, df⟩ w) : ∀ (fuel : Nat) (listed : Array Bool) (vs : Nat → Value) (w : World),
    listed.size = ops.size → (unl ops.size listed).length ≤ fuel → G vs w → (∀ j, listed.getD j false = true → F j (vs j) w) → (∀ j, listed.getD j false = false → vs j = vs0 j) → wpAny P .any ops Q fuel listed ⟨lit vs, df⟩ w := by
  have rdy : ∀ listed : Array Bool, ∀ i, i ∈ Region.ready .any ops listed ↔ i ∈ unl ops.size listed ∧ ∀ j ∈ deps ops i, listed.getD j false = true := by
    intro listed i
    unfold Region.ready unl
    simp only [List.mem_filter, List.mem_range, Bool.and_eq_true]
    constructor
    · rintro ⟨h1, h2, h3⟩
      refine ⟨⟨h1, h2⟩, fun j hj => ?_⟩
      unfold deps at hj
      rw [Array.getElem?_eq_getElem h1] at h3 hj
      simp only [Option.map_some, Option.getD_some, Array.all_eq_true', List.mem_filterMap, Array.mem_toList_iff] at h3 hj
      obtain ⟨e, he, hb⟩ := hj
      have := h3 e he
      by_cases hb' : Region.binds .any e = true
      · rw [if_pos hb'] at hb
        injection hb with hb
        subst hb
        simpa [hb'] using this
      · rw [if_neg hb'] at hb; cases hb
    · rintro ⟨⟨h1, h2⟩, h3⟩
      refine ⟨h1, h2, ?_⟩
      unfold deps at h3
      rw [Array.getElem?_eq_getElem h1] at h3 ⊢
      simp only [Option.map_some, Option.getD_some, Array.all_eq_true', List.mem_filterMap, Array.mem_toList_iff] at h3 ⊢
      intro e he
      by_cases hb' : Region.binds .any e = true
      · have := h3 e.on ⟨e, he, by rw [if_pos hb']⟩
        simp [hb', this]
      · simp [hb']
  have done : ∀ listed : Array Bool, listed.size = ops.size → Region.ready .any ops listed = [] → ∀ i, i < ops.size → listed.getD i false = true := by
    intro listed hs hr i
    induction i using Nat.strongRecOn with
    | _ i ih =>
      intro hi
      by_cases hl : listed.getD i false = true
      · exact hl
      · exfalso
        have hm : i ∈ Region.ready .any ops listed := by
          rw [rdy]
          refine ⟨?_, fun j hj => ih j (hord i hi j hj) (by have := hord i hi j hj; omega)⟩
          unfold unl
          rw [List.mem_filter]
          refine ⟨by simpa using hi, ?_⟩
          have : listed.getD i true = listed.getD i false := by simp [Array.getD, hs, hi]
          rw [this]
          simpa using hl
        rw [hr] at hm
        cases hm
  intro fuel
  induction fuel with
  | zero =>
    intro listed vs w hs hf hG hF hU
    have h0 : unl ops.size listed = [] := List.length_eq_zero_iff.1 (by omega)
    have hr : Region.ready .any ops listed = [] := by
      apply List.eq_nil_iff_forall_not_mem.2
      intro i hi
      have := ((rdy listed i).1 hi).1
      rw [h0] at this
      cases this
    exact ⟨hr, hend vs w hG fun i hi => hF i (done listed hs hr i hi)⟩
  | succ fuel ih =>
    intro listed vs w hs hf hG hF hU
    refine ⟨fun hr => hend vs w hG fun i hi => hF i (done listed hs hr i hi), fun i hi => ?_⟩
    obtain ⟨hu, hd⟩ := (rdy listed i).1 hi
    have hlt : i < ops.size := by have := (List.mem_filter.1 hu).1; simpa using this
    have hnl : listed.getD i false = false := by
      have h1 := (List.mem_filter.1 hu).2
      have : listed.getD i true = listed.getD i false := by simp [Array.getD, hs, hlt]
      rw [this] at h1
      simpa using h1
    refine wpOp_mono ?_ (hst.at i hlt vs w hG (hU i hnl) (AllF.of fun j hj => hF j (hd j hj)))
    rintro a' w' ⟨v, rfl, hG', hFi, hK⟩
    refine ih _ _ _ (by simp [hs]) (by have := unl_set hs hu; omega) hG' (fun j hj => ?_) (fun j hj => ?_)
    · unfold upd
      by_cases e : j = i
      · subst e; rw [if_pos rfl]; exact hFi
      · rw [if_neg e]
        refine hK _ e (hF j ?_)
        rw [Array.getD_eq_getD_getElem?, Array.getElem?_setIfInBounds_ne (Ne.symm e)] at hj
        rw [Array.getD_eq_getD_getElem?]
        exact hj
    · unfold upd
      by_cases e : j = i
      · subst e
        simp [Array.getD, hs, hlt] at hj
      · rw [if_neg e]
        refine hU j ?_
        rw [Array.getD_eq_getD_getElem?, Array.getElem?_setIfInBounds_ne (Ne.symm e)] at hj
        rw [Array.getD_eq_getD_getElem?]
        exact hj
theorem region {id : Nat} {a : Act} {w : World} (hm : P.follows .mixedOrders = true) (lit : (Nat → Value) → Array Value) (vs : Nat → Value) (F : Nat → Value → World → Prop) (G : (Nat → Value) → World → Prop)
    (ha : a = ⟨lit vs, df⟩) (hord : ((List.range ops.size).all fun i => (deps ops i).all fun j => decide (j < i)) = true) (hG : G vs w.drew)
    (hst : Steps P ops Q lit df vs F G ops.size) (hend : ∀ vs w, G vs w → (∀ i, i < ops.size → F i (vs i) w) → Q .normal ⟨lit vs, df⟩ w) : (Code.region id ops true).wp P Q a w := by
  subst ha
  refine wp_region_any hm (any_of ?_ hst hend ops.size _ vs _ (by simp) ?_ hG ?_ (fun _ _ => rfl))
  · intro i hi j hj
    have := List.all_eq_true.1 hord i (by simpa using hi)
    have := List.all_eq_true.1 this j hj
    simpa using this
  · unfold unl
    exact Nat.le_trans (List.length_filter_le _ _) (by simp)
  · intro j hj
    simp [Array.getD] at hj
end
end RF
end Go.Proofs.Ytlfhfomidkadiaa
