/- A drawn region in which an operation reads a slot that a later one writes: what comes behind an operation is not done yet. Plain lemmas; no condition. -/
import Derived.Test.YtlfhfomidkadiaaRegGuard
set_option linter.unusedVariables false
set_option linter.unusedSimpArgs false
namespace Go.Proofs.Ytlfhfomidkadiaa
open Go.RowKit
namespace RF
/-- Does j wait for i, at once or through others? -/
def reach (ops : Array Oper) : Nat → Nat → Nat → Bool
  | 0, _, _ => false
  | n + 1, j, i => (deps ops j).any fun k => decide (k = i) || reach ops n k i
variable {P : Program} {ops : Array Oper} {Q : Exit → Act → World → Prop}
/-- As Step; l, which waits for i, is not done yet. -/
def StepL (P : Program) (ops : Array Oper) (Q : Exit → Act → World → Prop) (lit : (Nat → Value) → Array Value) (df : List Deferred) (vs0 : Nat → Value) (F : Nat → Value → World → Prop) (G : (Nat → Value) → World → Prop) (l i : Nat) : Prop :=
  ∀ vs w, G vs w → vs i = vs0 i → (reach ops ops.size l i = true → vs l = vs0 l) → AllF F vs w (deps ops i) →
    wpOp P ops Q i (fun a' w' => ∃ v, a' = ⟨lit (upd vs i v), df⟩ ∧ G (upd vs i v) w' ∧ F i v w' ∧ ∀ j, j ≠ i → F j (vs j) w → F j (vs j) w') ⟨lit vs, df⟩ w
def StepsL (P : Program) (ops : Array Oper) (Q : Exit → Act → World → Prop) (lit : (Nat → Value) → Array Value) (df : List Deferred) (vs0 : Nat → Value) (F : Nat → Value → World → Prop) (G : (Nat → Value) → World → Prop) (l : Nat) : Nat → Prop
  | 0 => True
  | n + 1 => StepsL P ops Q lit df vs0 F G l n ∧ StepL P ops Q lit df vs0 F G l n
variable {lit : (Nat → Value) → Array Value} {df : List Deferred} {vs0 : Nat → Value} {F : Nat → Value → World → Prop} {G : (Nat → Value) → World → Prop} {l : Nat}
theorem StepsL.at : ∀ {n : Nat}, StepsL P ops Q lit df vs0 F G l n → ∀ i, i < n → StepL P ops Q lit df vs0 F G l i
  | 0, _, i, h => absurd h (Nat.not_lt_zero i)
  | n + 1, ⟨hs, h⟩, i, hi => by
    by_cases e : i = n
    · subst e; exact h
    · exact hs.at i (by omega)
theorem Step.late {i : Nat} (h : Step P ops Q lit df vs0 F G i) : StepL P ops Q lit df vs0 F G l i := fun vs w hG hv _ hd => h vs w hG hv hd
/-- An operation without a guard, ahead of l. -/
theorem StepL.plain {i : Nat} {o : Oper} (ho : ops[i]? = some o) (hg : o.guard = none) (hr : reach ops ops.size l i = true)
    (h : ∀ vs w, G vs w → vs i = vs0 i → vs l = vs0 l → AllF F vs w (deps ops i) → ∀ K : Act → World → Prop,
      (∀ v w', G (upd vs i v) w' → F i v w' → (∀ j, j ≠ i → F j (vs j) w → F j (vs j) w') → K ⟨lit (upd vs i v), df⟩ w') → o.wp P ⟨lit vs, df⟩ w K Q) : StepL P ops Q lit df vs0 F G l i := by
  intro vs w hG hv hl hd
  unfold wpOp
  rw [ho]
  simp only [Region.wanted, hg, if_true]
  refine Or.inl (Oper.wp_mono (fun _ _ h => h) (h vs w hG hv (hl hr) hd _ ?_))
  intro v w' h1 h2 h3
  exact ⟨v, rfl, h1, h2, h3⟩
theorem reach_listed {listed : Array Bool} (hc : ∀ j, listed.getD j false = true → ∀ i ∈ deps ops j, listed.getD i false = true) : ∀ n j i, reach ops n j i = true → listed.getD j false = true → listed.getD i false = true := by
  intro n
  induction n with
  | zero => intro j i h; cases h
  | succ n ih =>
    intro j i h hj
    unfold reach at h
    rw [List.any_eq_true] at h
    obtain ⟨k, hk, h⟩ := h
    rw [Bool.or_eq_true, decide_eq_true_eq] at h
    rcases h with rfl | h
    · exact hc j hj _ hk
    · exact ih k i h (hc j hj k hk)
theorem any_ofL (hord : ∀ i, i < ops.size → ∀ j ∈ deps ops i, j < i) (hst : StepsL P ops Q lit df vs0 F G l ops.size)
    (hend : ∀ vs w, G vs w → (∀ i, i < ops.size → F i (vs i) w) → Q .normal ⟨lit vs, df⟩ w) : ∀ (fuel : Nat) (listed : Array Bool) (vs : Nat → Value) (w : World),
    listed.size = ops.size → (unl ops.size listed).length ≤ fuel → G vs w → (∀ j, listed.getD j false = true → F j (vs j) w) → (∀ j, listed.getD j false = false → vs j = vs0 j) →
    (∀ j, listed.getD j false = true → ∀ i ∈ deps ops j, listed.getD i false = true) → wpAny P .any ops Q fuel listed ⟨lit vs, df⟩ w := by
  have rdy : ∀ listed : Array Bool, ∀ i, i ∈ Region.ready .any ops listed ↔ i ∈ unl ops.size listed ∧ ∀ j ∈ deps ops i, listed.getD j false = true := by
    intro listed i
    unfold Region.ready unl
    simp only [List.mem_filter, List.mem_range, Bool.and_eq_true]
    constructor
    · rintro ⟨h1, h2, h3⟩
      refine ⟨⟨h1, h2⟩, fun j hj => ?_⟩
      unfold deps at hj
      rw [Array.getElem?_eq_getElem h1] at h3 hj
      simp only [Option.map_some, Option.getD_some, Array.all_eq_true', List.mem_filterMap, Array.mem_toList_iff] at h3 hj
      obtain ⟨e, he, hb⟩ := hj
      have := h3 e he
      by_cases hb' : Region.binds .any e = true
      · rw [if_pos hb'] at hb
        injection hb with hb
        subst hb
        simpa [hb'] using this
      · rw [if_neg hb'] at hb; cases hb
    · rintro ⟨⟨h1, h2⟩, h3⟩
      refine ⟨h1, h2, ?_⟩
      unfold deps at h3
      rw [Array.getElem?_eq_getElem h1] at h3 ⊢
      simp only [Option.map_some, Option.getD_some, Array.all_eq_true', List.mem_filterMap, Array.mem_toList_iff] at h3 ⊢
      intro e he
      by_cases hb' : Region.binds .any e = true
      · have := h3 e.on ⟨e, he, by rw [if_pos hb']⟩
        simp [hb', this]
      · simp [hb']
  have done : ∀ listed : Array Bool, listed.size = ops.size → Region.ready .any ops listed = [] → ∀ i, i < ops.size → listed.getD i false = true := by
    intro listed hs hr i
    induction i using Nat.strongRecOn with
    | _ i ih =>
      intro hi
      by_cases hl : listed.getD i false = true
      · exact hl
      · exfalso
        have hm : i ∈ Region.ready .any ops listed := by
          rw [rdy]
          refine ⟨?_, fun j hj => ih j (hord i hi j hj) (by have := hord i hi j hj; omega)⟩
          unfold unl
          rw [List.mem_filter]
          refine ⟨by simpa using hi, ?_⟩
          have : listed.getD i true = listed.getD i false := by simp [Array.getD, hs, hi]
          rw [this]
          simpa using hl
        rw [hr] at hm
        cases hm
  intro fuel
  induction fuel with
  | zero =>
    intro listed vs w hs hf hG hF hU hC
    have h0 : unl ops.size listed = [] := List.length_eq_zero_iff.1 (by omega)
    have hr : Region.ready .any ops listed = [] := by
      apply List.eq_nil_iff_forall_not_mem.2
      intro i hi
      have := ((rdy listed i).1 hi).1
      rw [h0] at this
      cases this
    exact ⟨hr, hend vs w hG fun i hi => hF i (done listed hs hr i hi)⟩
  | succ fuel ih =>
    intro listed vs w hs hf hG hF hU hC
    refine ⟨fun hr => hend vs w hG fun i hi => hF i (done listed hs hr i hi), fun i hi => ?_⟩
    obtain ⟨hu, hd⟩ := (rdy listed i).1 hi
    have hlt : i < ops.size := by have := (List.mem_filter.1 hu).1; simpa using this
    have hnl : listed.getD i false = false := by
      have h1 := (List.mem_filter.1 hu).2
      have : listed.getD i true = listed.getD i false := by simp [Array.getD, hs, hlt]
      rw [this] at h1
      simpa using h1
    have hlate : reach ops ops.size l i = true → vs l = vs0 l := fun hr => by
      apply hU
      cases hll : listed.getD l false with
      | false => rfl
      | true =>
        have := reach_listed hC _ _ _ hr hll
        rw [hnl] at this
        cases this
    refine wpOp_mono ?_ (hst.at i hlt vs w hG (hU i hnl) hlate (AllF.of fun j hj => hF j (hd j hj)))
    rintro a' w' ⟨v, rfl, hG', hFi, hK⟩
    have hset : ∀ j, j ≠ i → (listed.setIfInBounds i true).getD j false = listed.getD j false := fun j e => by
      rw [Array.getD_eq_getD_getElem?, Array.getElem?_setIfInBounds_ne (Ne.symm e), Array.getD_eq_getD_getElem?]
    refine ih _ _ _ (by simp [hs]) (by have := unl_set hs hu; omega) hG' (fun j hj => ?_) (fun j hj => ?_) (fun j hj k hk => ?_)
    · unfold upd
      by_cases e : j = i
      · subst e; rw [if_pos rfl]; exact hFi
      · rw [if_neg e]
        refine hK _ e (hF j ?_)
        rw [hset j e] at hj
        exact hj
    · unfold upd
      by_cases e : j = i
      · subst e
        simp [Array.getD, hs, hlt] at hj
      · rw [if_neg e]
        refine hU j ?_
        rw [hset j e] at hj
        exact hj
    · by_cases e : k = i
      · subst e
        simp [Array.getD, hs, hlt]
      · rw [hset k e]
        by_cases e2 : j = i
        · subst e2; exact hd k hk
        · rw [hset j e2] at hj
          exact hC j hj k hk
/-- As region; l is an operation whose slot is read ahead of it. -/
theorem regionL {id : Nat} {a : Act} {w : World} (hm : P.follows .mixedOrders = true) (lit : (Nat → Value) → Array Value) (vs : Nat → Value) (F : Nat → Value → World → Prop) (G : (Nat → Value) → World → Prop) (l : Nat)
    (ha : a = ⟨lit vs, df⟩) (hord : ((List.range ops.size).all fun i => (deps ops i).all fun j => decide (j < i)) = true) (hG : G vs w.drew)
    (hst : StepsL P ops Q lit df vs F G l ops.size) (hend : ∀ vs w, G vs w → (∀ i, i < ops.size → F i (vs i) w) → Q .normal ⟨lit vs, df⟩ w) : (Code.region id ops true).wp P Q a w := by
  subst ha
  refine wp_region_any hm (any_ofL (l := l) ?_ hst hend ops.size _ vs _ (by simp) ?_ hG ?_ (fun _ _ => rfl) ?_)
  · intro i hi j hj
    have := List.all_eq_true.1 hord i (by simpa using hi)
    have := List.all_eq_true.1 this j hj
    simpa using this
  · unfold unl
    exact Nat.le_trans (List.length_filter_le _ _) (by simp)
  · intro j hj
    simp [Array.getD] at hj
  · intro j hj
    simp [Array.getD] at hj
end RF
end Go.Proofs.Ytlfhfomidkadiaa
