/- Rows of bytes that lie in the midst of a block of one's own: cut from the front, and appended to. Plain lemmas; no condition. -/
import Derived.Test.YtlfhfomidkadiaaBytes
import Derived.ArgAppend
set_option linter.unusedVariables false
set_option linter.unusedSimpArgs false
namespace Go.Proofs.Ytlfhfomidkadiaa
open Go.RowKit

def setL (cs : Array Value) : Nat → List Value → Array Value
  | _, [] => cs
  | o, v :: r => setL (cs.setIfInBounds o v) (o + 1) r
theorem setL_size (vs : List Value) : ∀ (cs : Array Value) (o : Nat), (setL cs o vs).size = cs.size := by
  induction vs with
  | nil => intro cs o; rfl
  | cons v r ih => intro cs o; simp only [setL]; rw [ih, Array.size_setIfInBounds]
theorem setL_out (vs : List Value) : ∀ (cs : Array Value) (o i : Nat), (i < o ∨ o + vs.length ≤ i) → (setL cs o vs)[i]? = cs[i]? := by
  induction vs with
  | nil => intro cs o i _; rfl
  | cons v r ih =>
    intro cs o i h
    simp only [setL]
    simp only [List.length_cons] at h
    rw [ih _ _ _ (by omega), Array.getElem?_setIfInBounds_ne (by omega)]
theorem setL_in (vs : List Value) : ∀ (cs : Array Value) (o j : Nat), o + vs.length ≤ cs.size → j < vs.length → (setL cs o vs)[o + j]? = vs[j]? := by
  induction vs with
  | nil => intro cs o j _ h; simp at h
  | cons v r ih =>
    intro cs o j hs hj
    simp only [setL]
    simp only [List.length_cons] at hs hj
    cases j with
    | zero =>
      rw [setL_out _ _ _ _ (by omega), Nat.add_zero, Array.getElem?_setIfInBounds_self_of_lt (by omega)]
      rfl
    | succ j =>
      rw [show o + (j + 1) = (o + 1) + j by omega, ih _ _ _ (by rw [Array.size_setIfInBounds]; omega) (by omega)]
      rfl
theorem Blk.sets {t : TypeId} {g : Nat} (vs : List Value) : ∀ {w : World} {cs : Array Value} (o : Nat), Blk w g t cs → Blk (w.setCells g o vs) g t (setL cs o vs) := by
  induction vs with
  | nil => intro w cs o h; exact h
  | cons v r ih => intro w cs o h; exact ih (o + 1) (Blk.set_ h o v)
theorem Ext.sets {S : Nat → Prop} {g : Nat} (vs : List Value) : ∀ {a b : World} (o : Nat), Ext S a b → (g < a.heap.size → S g) → Ext S a (b.setCells g o vs) := by
  induction vs with
  | nil => intro a b o h _; exact h
  | cons v r ih => intro a b o h hs; exact ih (o + 1) (h.setCell hs v) hs

/-- v is a slice of the bytes l, in a block of bytes that nothing else uses. -/
def Mid (w : World) (v : Value) (l : List UInt8) : Prop :=
  (v = .slice none 0 0 ∧ l = []) ∨
  ∃ g off cap cur, v = .slice (some ⟨g, off, none⟩) l.length cap ∧ Blk w g 5 cur ∧ l.length ≤ cap ∧ cap ≤ maxLen ∧ off + cap ≤ cur.size ∧ ∀ j u, (u8s l)[j]? = some u → cur[off + j]? = some u
section
variable {S F : Nat → Prop} {w w' : World} {v : Value} {l m : List UInt8}
theorem Mid.nil (w : World) : Mid w (.slice none 0 0) [] := .inl ⟨rfl, rfl⟩
theorem Mid.of_own {base : Nat} (h : Own w base v l) : Mid w v l := by
  obtain ⟨h1, ⟨rfl, h2⟩ | ⟨g, cap, cur, rfl, hb, hh, hc, hm, hs, ht⟩⟩ := h
  · exact .inl ⟨rfl, List.eq_nil_of_length_eq_zero h2⟩
  · refine .inr ⟨g, 0, cap, cur, rfl, hh, hc, hm, by rw [hs]; omega, fun j u hu => ?_⟩
    rw [← ht] at hu
    rw [Nat.zero_add, ← Array.getElem?_toList]
    have hj := (List.getElem?_eq_some_iff.1 hu).1
    rw [List.length_take] at hj
    rwa [List.getElem?_take_of_lt (by omega)] at hu
theorem Mid.bs (h : Mid w v l) : Bs w (fun k => v.ownBlock = some k) v l := by
  rcases h with ⟨rfl, rfl⟩ | ⟨g, off, cap, cur, rfl, hb, hc, hm, hs, hj⟩
  · exact Bs.nil w _
  · refine ⟨by simp [u8s], _, cap, rfl, hc, hm, fun _ => ⟨g, off, rfl, rfl, fun j u hu => ?_⟩⟩
    rw [hb.cell]; exact hj j u hu
theorem Mid.any (h : Mid w v l) : Bs w Any v l := h.bs.any
theorem Mid.ext (h : Mid w v l) (he : Ext S w w') (hd : ∀ b, v.ownBlock = some b → ¬ S b) : Mid w' v l := by
  rcases h with h | ⟨g, off, cap, cur, rfl, hb, r⟩
  · exact .inl h
  · exact .inr ⟨g, off, cap, cur, rfl, hb.ext he (hd g rfl), r⟩
theorem Mid.ext_no (h : Mid w v l) (he : Ext No w w') : Mid w' v l := h.ext he fun _ _ h => h
theorem Mid.blk (h : Mid w v l) : ∀ k, v.ownBlock = some k → k < w.heap.size ∧ ∃ cs, Blk w k 5 cs := by
  intro k hk
  rcases h with ⟨rfl, rfl⟩ | ⟨g, off, cap, cur, rfl, hb, _⟩
  · cases hk
  · injection hk with hk; subst hk; exact ⟨hb.lt, _, hb⟩
theorem Mid.slice (h : Mid w v l) : ∃ A c, v = .slice A l.length c ∧ l.length ≤ c ∧ c ≤ maxLen := by
  rcases h with ⟨rfl, rfl⟩ | ⟨g, off, cap, cur, rfl, hb, hc, hm, _⟩
  · exact ⟨_, _, rfl, Nat.le_refl _, Nat.zero_le _⟩
  · exact ⟨_, _, rfl, hc, hm⟩
/-- Cut from the front. -/
theorem Mid.cut {g off n cap k : Nat} (h : Mid w (.slice (some ⟨g, off, none⟩) n cap) l) (hk : k ≤ l.length) : Mid w (.slice (some ⟨g, off + k, none⟩) (n - k) (cap - k)) (l.drop k) := by
  rcases h with ⟨h, _⟩ | ⟨g', off', cap', cur, e, hb, hc, hm, hs, hj⟩
  · cases h
  · injection e with e1 e2 e3
    injection e1 with e1
    injection e1 with e4 e5
    subst e2 e3 e4 e5
    refine .inr ⟨g, off + k, cap - k, cur, by rw [List.length_drop], hb, by rw [List.length_drop]; omega, by omega, by omega, fun j u hu => ?_⟩
    rw [show off + k + j = off + (k + j) by omega]
    refine hj (k + j) u ?_
    unfold u8s at *
    rw [List.map_drop, List.getElem?_drop] at hu
    exact hu
/-- Cut from the front wholly, in place: the address stays. -/
theorem Mid.cut0 {g off n cap : Nat} (h : Mid w (.slice (some ⟨g, off, none⟩) n cap) l) (hk : cap = l.length) : Mid w (.slice (some ⟨g, off, none⟩) 0 0) [] := by
  rcases h with ⟨h, _⟩ | ⟨g', off', cap', cur, e, hb, hc, hm, hs, hj⟩
  · cases h
  · injection e with e1 e2 e3
    injection e1 with e1
    injection e1 with e4 e5
    subst e2 e3 e4 e5
    exact .inr ⟨g, off, 0, cur, rfl, hb, Nat.le_refl _, Nat.zero_le _, by omega, fun j u hu => by simp [u8s] at hu⟩
end

set_option maxRecDepth 100000 in
/-- append(v, u...) -/
theorem run_app_mid {w : World} {v u : Value} {l m : List UInt8} {F : Nat → Prop} (ty : TypeId) (h : Mid w v l) (hu : Bs w F u m) (hb : l.length + m.length ≤ 140737488355328) :
    ∃ v' w', (Builtin.append_ #[46, 46] ty #[v, u]).run Try.prog w = .ok v' w' ∧ Mid w' v' (l ++ m) ∧ Ext (fun k => v.ownBlock = some k) w w' ∧ (v'.ownBlock = v.ownBlock ∨ ∃ k, v'.ownBlock = some k ∧ w.heap.size ≤ k) := by
  rcases h with ⟨rfl, rfl⟩ | ⟨g, off, cap, cur, rfl, hbk, hc, hm, hs, hj⟩
  · obtain ⟨v', w', hr, h2, h3, h4⟩ := run_app (P := Try.prog) (w := w) w.heap.size 46 ty 5 (.int .u8 0) 1 1 Try.underlying46 info_u8 rfl (by omega) (.slice none 0 0) 0 [] (World.ownsRow_nil w _ _ 1) F u m.length (u8s m) hu (u8s_one m) (by unfold maxLen; simp at hb; omega) (by simp at hb ⊢; omega) (Nat.le_refl _)
    refine ⟨v', w', hr, Mid.of_own (base := w.heap.size) (by unfold Own; rw [List.nil_append]; simpa using h2), (Ext.refl _ w).grown h3 (fun k hk => by cases hk), h4.imp id fun e => ⟨_, e, Nat.le_refl _⟩⟩
  · obtain ⟨i, hi, hz0, hz1, hz2⟩ := info_parts info_u8
    obtain ⟨hl, A, c, rfl, hc2, hm2, hcell⟩ := hu
    have hlm : ∀ j y, (u8s (l ++ m))[j]? = some y → (j < l.length → (u8s l)[j]? = some y) ∧ (l.length ≤ j → (u8s m)[j - l.length]? = some y) := by
      intro j y hy
      rw [u8s_append] at hy
      refine ⟨fun h => ?_, fun h => ?_⟩
      · rwa [List.getElem?_append_left (by rw [u8s_length]; exact h)] at hy
      · rwa [List.getElem?_append_right (by rw [u8s_length]; exact h), u8s_length] at hy
    rcases A with _ | ad
    · have hm0 : m.length = 0 := by
        rcases Nat.eq_zero_or_pos m.length with h0 | h0
        · exact h0
        · obtain ⟨b, off, h, _⟩ := hcell h0
          cases h
      obtain rfl : m = [] := List.eq_nil_of_length_eq_zero hm0
      refine ⟨.slice (some ⟨g, off, none⟩) l.length cap, w, ?_, ?_, Ext.refl _ w, .inl rfl⟩
      · simp [Builtin.append_, run_underlying Try.underlying46, sizeOf, typeInfo, hi, Builtin.lenOf, Builtin.firstCells, hc, storeCells]
      · rw [List.append_nil]; exact .inr ⟨g, off, cap, cur, rfl, hbk, hc, hm, hs, hj⟩
    · have hcells : ∀ j y, (u8s m)[j]? = some y → w.cell? (ad.add j) = some y := by
        intro j y hy
        have hjl := (List.getElem?_eq_some_iff.1 hy).1
        rw [u8s_length] at hjl
        obtain ⟨b, off, h, _, hcc⟩ := hcell (by omega)
        injection h with h
        subst h
        rw [show (⟨b, off, none⟩ : Addr).add j = ⟨b, off + j, none⟩ by unfold Addr.add; split <;> simp_all]
        exact hcc j y hy
      by_cases hroom : l.length + m.length ≤ cap
      · have hr := run_append_room_cells (P := Try.prog) w 46 ty 5 i Try.underlying46 hi g off l.length cap ad m.length c (u8s m) (by rw [hz1]; simpa using hl) hcells (u8s_one m) hroom
          (fun j hj => by rw [hbk.cell, hz1]; rw [u8s_length] at hj; rw [Array.getElem?_eq_getElem (by omega)]; rfl) (fun j _ => hbk.frozen _)
        rw [hz1, Nat.mul_one] at hr
        refine ⟨_, _, hr, .inr ⟨g, off, cap, setL cur (off + l.length) (u8s m), by rw [List.length_append], hbk.sets (u8s m) _, by rw [List.length_append]; exact hroom, hm, by rw [setL_size]; exact hs, fun j y hy => ?_⟩, Ext.sets (u8s m) _ (Ext.refl _ w) (fun _ => rfl), .inl rfl⟩
        obtain ⟨h1, h2⟩ := hlm j y hy
        by_cases hjl : j < l.length
        · rw [setL_out _ _ _ _ (by omega)]
          exact hj j y (h1 hjl)
        · have h3 := h2 (by omega)
          have h4 := (List.getElem?_eq_some_iff.1 h3).1
          rw [show off + j = off + l.length + (j - l.length) by omega, setL_in _ _ _ _ (by rw [u8s_length]; omega) h4]
          exact h3
      · obtain ⟨v', w', hr, h2, h3⟩ := run_append_arg_grows (P := Try.prog) w 46 ty 5 i (.int .u8 0) 1 1 Try.underlying46 hi hz0 hz1 hz2 rfl (by omega) ⟨g, off, none⟩ l.length cap (u8s l) (by rw [u8s_length]; omega)
          (fun j y hy => by rw [show (⟨g, off, none⟩ : Addr).add j = ⟨g, off + j, none⟩ by unfold Addr.add; split <;> simp_all, hbk.cell]; exact hj j y hy) ad m.length c (u8s m) hl hcells (by omega) (by unfold maxLen; omega) (by omega)
        have hown : Own w' w.heap.size v' (l ++ m) := by unfold Own; rw [u8s_append, List.length_append]; exact h2
        refine ⟨v', w', hr, Mid.of_own hown, (Ext.refl _ w).grown h3 (fun k hk => by cases hk), ?_⟩
        cases e : v'.ownBlock with
        | none =>
          left
          exfalso
          obtain ⟨_, ⟨e1, e2⟩ | ⟨g', cap', cur', e1, _⟩⟩ := hown
          · rw [List.length_append] at e2; omega
          · rw [e1] at e; cases e
        | some k => exact .inr ⟨k, rfl, (hown.lt k e).1⟩
theorem app_mid {w : World} {ops : Array Oper} {rest : List Oper} {o : Oper} {a : Act} {Q : Exit → Act → World → Prop} (s x : Operand)
    (ho : o.op = .call { callee := .builtin .append, args := #[s, x], argTypes := #[46, 46] }) (hgd : o.guard = none)
    (v u : Value) (l m : List UInt8) (hs : a.eval s = v) (hx : a.eval x = u) (hown : Mid w v l) (F : Nat → Prop) (hu : Bs w F u m) (hb : l.length + m.length ≤ 140737488355328)
    (h : ∀ v' w', Mid w' v' (l ++ m) → Ext (fun k => v.ownBlock = some k) w w' → (v'.ownBlock = v.ownBlock ∨ ∃ k, v'.ownBlock = some k ∧ w.heap.size ≤ k) → wpList Try.prog ops Q rest (a.put o.dst v') w') : wpList Try.prog ops Q (o :: rest) a w := by
  refine wpList_plain hgd fun K hK => ?_
  obtain ⟨v', w', hr, h2, h3, h4⟩ := run_app_mid o.type hown hu hb
  unfold Oper.wp execOp
  simp only [ho, resolve, invoke, builtin, Sem.run_bind, Sem.run_pure, Result.andThen_ok, List.map_toArray, List.map_cons, List.map_nil, hs, hx, hr]
  exact hK _ _ (h v' w' h2 h3 h4)
end Go.Proofs.Ytlfhfomidkadiaa
