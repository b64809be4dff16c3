/- A drawn region: operations with a guard. -/
import Derived.Test.YtlfhfomidkadiaaRegFacts
set_option linter.unusedVariables false
set_option linter.unusedSimpArgs false
namespace Go.Proofs.Ytlfhfomidkadiaa
open Go.RowKit
namespace RF
variable {P : Program} {ops : Array Oper} {Q : Exit → Act → World → Prop} {lit : (Nat → Value) → Array Value} {df : List Deferred} {vs0 : Nat → Value} {F : Nat → Value → World → Prop} {G : (Nat → Value) → World → Prop}
/-- An operation with a guard that is met. -/
theorem Step.guarded {i : Nat} {o : Oper} (ho : ops[i]? = some o) (hw : ∀ vs w, G vs w → vs i = vs0 i → AllF F vs w (deps ops i) → Region.wanted o (yielded ops (lit vs)) = true)
    (h : ∀ vs w, G vs w → vs i = vs0 i → AllF F vs w (deps ops i) → ∀ K : Act → World → Prop,
      (∀ v w', G (upd vs i v) w' → F i v w' → (∀ j, j ≠ i → F j (vs j) w → F j (vs j) w') → K ⟨lit (upd vs i v), df⟩ w') → o.wp P ⟨lit vs, df⟩ w K Q) : Step P ops Q lit df vs0 F G i := by
  intro vs w hG hv hd
  unfold wpOp
  rw [ho]
  dsimp only
  rw [if_pos (hw vs w hG hv hd)]
  refine Or.inl (Oper.wp_mono (fun _ _ h => h) (h vs w hG hv hd _ ?_))
  intro v w' h1 h2 h3
  exact ⟨v, rfl, h1, h2, h3⟩
/-- An operation with a guard that is not met. -/
theorem Step.skip {i : Nat} {o : Oper} (ho : ops[i]? = some o) (hw : ∀ vs w, G vs w → vs i = vs0 i → AllF F vs w (deps ops i) → Region.wanted o (yielded ops (lit vs)) = false)
    (hp : ∀ vs, (⟨lit vs, df⟩ : Act).put o.dst undef = ⟨lit (upd vs i undef), df⟩)
    (h : ∀ vs w, G vs w → vs i = vs0 i → AllF F vs w (deps ops i) → G (upd vs i undef) w ∧ F i undef w) : Step P ops Q lit df vs0 F G i := by
  intro vs w hG hv hd
  unfold wpOp
  rw [ho]
  dsimp only
  rw [hw vs w hG hv hd]
  simp only [Bool.false_eq_true, if_false]
  obtain ⟨h1, h2⟩ := h vs w hG hv hd
  exact ⟨undef, hp vs, h1, h2, fun _ _ h => h⟩
end RF
end Go.Proofs.Ytlfhfomidkadiaa
