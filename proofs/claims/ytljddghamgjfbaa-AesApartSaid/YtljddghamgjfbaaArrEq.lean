/- Arrays of bytes that are compared; a region's guarded operations. -/
import Derived.Test.YtljddghamgjfbaaArr
import Derived.Test.YtljddghamgjfbaaRegFacts
import Derived.ChangeKeysEq
import Derived.Laws.StructEq
set_option linter.unusedVariables false
set_option linter.unusedSimpArgs false
namespace Go.Proofs.Ytljddghamgjfbaa
open Go.RowKit Go.Deep

theorem run_eqItems_u8 (d : Nat) (L : List UInt8) (w : World) : ∀ is : List Nat, (∀ i ∈ is, i < L.length) → (Op.eqItems (d + 1) 5 1 (u8s L).toArray (u8s L).toArray is).run Try.prog w = .ok true w
  | [], _ => rfl
  | i :: is, h => by
    have hi := h i (List.mem_cons_self ..)
    have hx := u8s_get' L i hi
    have hp := run_part_plain (P := Try.prog) (e := 5) (w := w) (by kernel_rfl) (off := i * 1) (by rw [Nat.mul_one]; exact hx)
    have he := run_equalIn_int (P := Try.prog) w d 5 .u8 .u8 ((L.getD i 0).toNat : Int) ((L.getD i 0).toNat : Int) Try.underlying5
    unfold Op.eqItems
    simp only [Sem.run_bind, hp, he, Result.andThen_ok]
    simpa using run_eqItems_u8 d L w is (fun j hj => h j (List.mem_cons_of_mem _ hj))
theorem run_eql_u8s (t : TypeId) (n : Nat) (hu : Try.prog.underlying t = some (.array n 5)) (L : List UInt8) (hL : L.length = n) (w : World) :
    (binOp .eql t (.agg (u8s L).toArray) (.agg (u8s L).toArray)).run Try.prog w = .ok (.bool true) w := by
  obtain ⟨i, hi⟩ : ∃ i, Try.prog.info? 5 = some i := by
    have := info_u8
    cases e : Try.prog.info? 5 with
    | none => rw [e] at this; cases this
    | some i => exact ⟨i, rfl⟩
  have hc : Try.prog.cellsOf 5 = 1 := by kernel_rfl
  rw [run_eql_struct, show (10000 : Nat) = 9998 + 1 + 1 from rfl, run_equalIn_array w (9998 + 1) _ _ hu hi, hc, run_eqItems_u8 9998 L w _ (fun j hj => by rw [hL]; simpa using hj)]
  rfl
namespace RF
variable {P : Program} {ops : Array Oper} {Q : Exit → Act → World → Prop} {lit : (Nat → Value) → Array Value} {df : List Deferred} {vs0 : Nat → Value} {F : Nat → Value → World → Prop} {G : (Nat → Value) → World → Prop}
/-- An operation with a guard that is met. -/
theorem Step.guarded {i : Nat} {o : Oper} (ho : ops[i]? = some o) (hw : ∀ vs w, G vs w → vs i = vs0 i → AllF F vs w (deps ops i) → Region.wanted o (yielded ops (lit vs)) = true)
    (h : ∀ vs w, G vs w → vs i = vs0 i → AllF F vs w (deps ops i) → ∀ K : Act → World → Prop,
      (∀ v w', G (upd vs i v) w' → F i v w' → (∀ j, j ≠ i → F j (vs j) w → F j (vs j) w') → K ⟨lit (upd vs i v), df⟩ w') → o.wp P ⟨lit vs, df⟩ w K Q) : Step P ops Q lit df vs0 F G i := by
  intro vs w hG hv hd
  unfold wpOp
  rw [ho]
  dsimp only
  rw [if_pos (hw vs w hG hv hd)]
  refine Or.inl (Oper.wp_mono (fun _ _ h => h) (h vs w hG hv hd _ ?_))
  intro v w' h1 h2 h3
  exact ⟨v, rfl, h1, h2, h3⟩
end RF
end Go.Proofs.Ytljddghamgjfbaa
