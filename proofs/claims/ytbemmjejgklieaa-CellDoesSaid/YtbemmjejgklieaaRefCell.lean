/- The reference's cell (deedboxref10): what its functions answer. -/
import Derived.Test.YtbemmjejgklieaaCell
import Derived.Test.YtbemmjejgklieaaRefPower
import Derived.Deep.RegionLaw
set_option linter.unusedVariables false
set_option linter.unusedSimpArgs false
namespace Go.Proofs.Ytbemmjejgklieaa
open Go.RowKit Go.Deep

/-- Blocks of bytes that the call made. -/
def U8 (w : World) (base : Nat) (b : Nat) : Prop := base ≤ b ∧ b < w.heap.size ∧ ∃ cs, Blk w b 5 cs
/-- A slice of rows of bytes of the call's own. -/
def OwnP (w : World) (base : Nat) (v : Value) (ls : List (List UInt8)) : Prop :=
  ∃ vs : List Value, w.ownsRow base 41 1 v ls.length vs ∧ (∀ y ∈ vs, y.oneCell' = true) ∧ ∀ i, (hi : i < ls.length) → ∃ u, vs[i]? = some u ∧ Bs w (U8 w base) u ls[i]
theorem OwnP.nil (w : World) (base : Nat) : OwnP w base (.slice none 0 0) [] := ⟨[], World.ownsRow_nil w base _ 1, by simp, fun i hi => absurd hi (by simp)⟩
theorem OwnP.parts {w : World} {base : Nat} {v : Value} {ls : List (List UInt8)} (h : OwnP w base v ls) : Parts w (fun b => base ≤ b) v ls := by
  obtain ⟨vs, ho, _, hr⟩ := h
  exact ⟨vs, (Sl.of_own ho).mono (fun b hb => hb.1), fun i hi => let ⟨u, h1, h2⟩ := hr i hi; ⟨u, h1, h2.mono fun b hb => hb.1⟩⟩
theorem OwnP.slice {w : World} {base : Nat} {v : Value} {ls : List (List UInt8)} (h : OwnP w base v ls) : ∃ A c, v = .slice A ls.length c := by
  obtain ⟨A, c, hv, _⟩ := h.parts.slice
  exact ⟨A, c, hv⟩
theorem OwnP.lt {w : World} {base : Nat} {v : Value} {ls : List (List UInt8)} (h : OwnP w base v ls) : ∀ k, v.ownBlock = some k → base ≤ k ∧ k < w.heap.size := by
  obtain ⟨vs, ho, _⟩ := h
  exact World.ownsRow.lt ho
/-- What only turns blocks of other types leaves it as it is. -/
theorem OwnP.step {w w' : World} {base : Nat} {v : Value} {ls : List (List UInt8)} (h : OwnP w base v ls) (hs : w.heap.size ≤ w'.heap.size)
    (hk : ∀ b cs t, Blk w b t cs → t = 5 ∨ t = 41 → w'.heap[b]? = w.heap[b]?) : OwnP w' base v ls := by
  obtain ⟨vs, ho, h1, hr⟩ := h
  refine ⟨vs, ⟨ho.1, ?_⟩, h1, fun i hi => ?_⟩
  · rcases ho.2 with h2 | ⟨g, cap, cur, hv, hg, hh, r⟩
    · exact .inl h2
    · exact .inr ⟨g, cap, cur, hv, hg, (hk g cur _ hh (.inr rfl)).trans hh, r⟩
  · obtain ⟨u, h2, h3⟩ := hr i hi
    refine ⟨u, h2, (Sl.step h3 (fun b hb hlt => ?_)).mono (fun b hb => ?_)⟩
    · obtain ⟨_, _, cs, hc⟩ := hb
      exact hk b cs _ hc (.inl rfl)
    · obtain ⟨b1, b2, cs, hc⟩ := hb
      exact ⟨b1, Nat.lt_of_lt_of_le b2 hs, cs, (hk b cs _ hc (.inl rfl)).trans hc⟩
theorem OwnP.kept {w w' : World} {base : Nat} {v : Value} {ls : List (List UInt8)} (h : OwnP w base v ls) (he : Ext No w w') : OwnP w' base v ls :=
  h.step he.size (fun b cs t hb _ => he.block b hb.lt (fun h => h))
theorem OwnP.ne {w : World} {base g : Nat} {t : TypeId} {cs : Array Value} {v : Value} {ls : List (List UInt8)} (h : OwnP w base v ls) (hb : Blk w g t cs) (ht : t ≠ 41) : some g ≠ v.ownBlock := by
  obtain ⟨vs, ho, _⟩ := h
  rcases ho.2 with ⟨rfl, _⟩ | ⟨g', cap, cur, rfl, _, hh, _⟩
  · simp [Value.ownBlock]
  · intro e
    have : g = g' := by simpa [Value.ownBlock] using e
    subst this
    exact Blk.ne_ hb (show Blk w g 41 cur from hh) ht rfl
theorem OwnP.setFar {w : World} {base g : Nat} {t : TypeId} {cs : Array Value} {v : Value} {ls : List (List UInt8)} (h : OwnP w base v ls) (hb : Blk w g t cs) (ht : t ≠ 41 ∧ t ≠ 5) (i : Nat) (u : Value) : OwnP (w.setCell ⟨g, i, none⟩ u) base v ls :=
  h.step (by simp [World.setCell]) (fun b cs' t' hb' ht' => Below.heap_setCell _ _ _ _ (fun e => by
    have e : b = g := e
    subst e
    rcases ht' with rfl | rfl
    · exact Blk.ne_ hb hb' ht.2 rfl
    · exact Blk.ne_ hb hb' ht.1 rfl))
theorem sl_at {w : World} {g : Nat} {u : Value} (hc : w.cell? ⟨g, 0, none⟩ = some u) : Sl w Any 1 (.slice (some ⟨g, 0, none⟩) 1 1) 1 [u] :=
  ⟨rfl, _, _, rfl, Nat.le_refl _, by unfold maxLen; decide, fun _ => ⟨g, 0, rfl, trivial, fun j y hy => by
    match j, hy with
    | 0, hy =>
      have : u = y := by simpa using hy
      subst this
      exact hc⟩⟩
/-- append(l, row) where l is a slice of rows of the call's own. -/
theorem step_parts {w : World} {ops : Array Oper} {o : Oper} {a : Act} {K : Act → World → Prop} {Q : Exit → Act → World → Prop} {E : Prop} (s x : Operand)
    (ho : o.op = .call { callee := .builtin .append, args := #[s, x], argTypes := #[54, 54] }) (hgd : o.guard = none)
    (base g : Nat) (lv u : Value) (ls : List (List UInt8)) (l : List UInt8) (hs : a.eval s = lv) (hx : a.eval x = .slice (some ⟨g, 0, none⟩) 1 1) (hown : OwnP w base lv ls) (hc : w.cell? ⟨g, 0, none⟩ = some u)
    (hu : Bs w (U8 w base) u l) (hb : ls.length ≤ 1000000) (hbase : base ≤ w.heap.size)
    (h : ∀ A n c w', OwnP w' base (.slice A n c) (ls ++ [l]) → w.grownBy w' lv.ownBlock → K (a.put o.dst (.slice A n c)) w') : if Region.wanted o (yielded ops a.tmps) = true then Oper.wp Try.prog o a w K Q else E := by
  obtain ⟨vs, hvo, h1, hr⟩ := hown
  have hu1 : u.oneCell' = true := by obtain ⟨_, A, c, rfl, _⟩ := hu; rfl
  refine step_app hgd s x _ ho base 41 (.slice none 0 0) 1 24 Try.underlying54 info_bytes rfl (by omega) lv ls.length vs hs hvo Any _ 1 [u] hx (sl_at hc) (by simpa using hu1) (by unfold maxLen; omega) (by omega) hbase ?_
  intro v' w' h2 h3 h4
  obtain ⟨A', c', hv', _⟩ : ∃ A c, v' = .slice A (ls.length + 1) c ∧ True := by
    obtain ⟨_, A, c, e, _⟩ := Sl.of_own h2
    exact ⟨A, c, e, trivial⟩
  subst hv'
  refine h A' _ c' w' ⟨vs ++ [u], by simpa using h2, ?_, fun i hi => ?_⟩ h3
  · intro y hy
    rcases List.mem_append.1 hy with hy | hy
    · exact h1 y hy
    · rw [List.mem_singleton.1 hy]; exact hu1
  · have hvl : vs.length = ls.length := by simpa using hvo.1
    have kp : ∀ {z : Value} {m : List UInt8}, Bs w (U8 w base) z m → Bs w' (U8 w' base) z m := by
      intro z m hz
      have hne : ∀ b cs, Blk w b 5 cs → w'.heap[b]? = w.heap[b]? := fun b cs hb => h3.block b hb.lt (OwnP.ne ⟨vs, hvo, h1, hr⟩ hb (by decide))
      refine (Sl.step hz (fun b hb hlt => ?_)).mono (fun b hb => ?_)
      · obtain ⟨_, _, cs, hc⟩ := hb
        exact hne b cs hc
      · obtain ⟨b1, b2, cs, hc⟩ := hb
        exact ⟨b1, Nat.lt_of_lt_of_le b2 h3.size, cs, (hne b cs hc).trans hc⟩
    by_cases hlt : i < ls.length
    · obtain ⟨z, hz1, hz2⟩ := hr i hlt
      refine ⟨z, by rw [List.getElem?_append_left (by omega)]; exact hz1, ?_⟩
      rw [List.getElem_append_left hlt]
      exact kp hz2
    · have hie : i = ls.length := by simp at hi; omega
      subst hie
      refine ⟨u, by rw [List.getElem?_append_right (by omega), hvl]; simp, ?_⟩
      simp only [List.getElem_append_right (Nat.le_refl _), Nat.sub_self, List.getElem_cons_zero]
      exact kp hu

/-- The reference's cell as a value. -/
abbrev rcv (st f : Int) (d dn : Bool) (lv : Value) (n : Int) : Value := .agg #[.int .i64 st, .int .i64 f, .bool d, .bool dn, lv, .int .i64 n]
def zero4 : List (List UInt8) := List.replicate 4 (List.replicate 1024 0)

theorem rcRead_range (st f n at_ : Int) (d dn : Bool) (A : Option Addr) (m c : Nat) (w : World) (ha : at_ < 0 ∨ 4 ≤ at_) :
    Calls Try.prog 34 #[rcv st f d dn (.slice A m c) n, .int .i64 at_] w fun e w' => e = .returned (.tuple #[.slice none 0 0, .int .i64 2]) ∧ Ext No w w' := by
  by_cases h0 : at_ < 0
  · clear ha
    go_enter Try.func34, Try.ntmps34
    go_wp2
    go_ret2
    exact ⟨rfl, (Ext.refl _ w).alloc _⟩
  · have h4 : 3 < at_ := by omega
    clear ha
    go_enter Try.func34, Try.ntmps34
    go_wp2
    go_ret2
    exact ⟨rfl, (Ext.refl _ w).alloc _⟩
theorem rcRead_down (st f n : Int) (k : Nat) (d : Bool) (A : Option Addr) (m c : Nat) (w : World) (hk : k < 4) :
    Calls Try.prog 34 #[rcv st f d true (.slice A m c) n, .int .i64 (k : Int)] w fun e w' => e = .returned (.tuple #[.slice none 0 0, .int .i64 5]) ∧ Ext No w w' := by
  have h0 : ¬ (k : Int) < 0 := by omega
  have h4 : ¬ 3 < (k : Int) := by omega
  go_enter Try.func34, Try.ntmps34
  go_wp2
  go_ret2
  exact ⟨rfl, (Ext.refl _ w).alloc _⟩
theorem rcRead_ok (F : Nat → Prop) (st f n : Int) (k : Nat) (d : Bool) (lv : Value) (ls : List (List UInt8)) (w : World) (hk : k < 4) (hl : k < ls.length) (h : Parts w F lv ls) :
    Calls Try.prog 34 #[rcv st f d false lv n, .int .i64 (k : Int)] w fun e w' => ∃ v, e = .returned (.tuple #[v, .int .i64 0]) ∧ Bs w F v (ls.getD k []) ∧ Ext No w w' := by
  obtain ⟨A, c, rfl, hc, hm, b, o, hA⟩ := h.slice
  have h0 : ¬ (k : Int) < 0 := by omega
  have h4 : ¬ 3 < (k : Int) := by omega
  obtain ⟨A', c', rfl, ⟨_, hbl⟩, e1, hbs⟩ := hA k hl
  have HB := Lib.hid hbs
  have HG : Hid (ls.getD k [] = ls[k]) := by
    show ls.getD k [] = ls[k]
    simp [List.getD_eq_getElem?_getD, hl]
  have hkl : (k : Int) < (ls.length : Int) := by omega
  clear hA h hbs
  go_enter Try.func34, Try.ntmps34
  go_wp2
  go_ret2
  exact ⟨_, rfl, by first | exact HB.out | (rw [HG.out]; exact HB.out), (Ext.refl _ w).alloc _⟩

set_option maxRecDepth 100000 in
set_option maxHeartbeats 1000000 in
theorem rcNew_any (st f : Int) (d dn : Bool) (w : World) :
    Calls Try.prog 33 #[rpv st f d dn] w fun e w' => ∃ lv, e = .returned (rcv st f d dn lv 0) ∧ Parts w' (fun b => w.heap.size ≤ b) lv zero4 ∧ Ext No w w' := by
  have hmk : ∀ W, (Instr.makeSlice 41 (.int .i64 1024) (.int .i64 1024)).run Try.prog W = .ok (.slice (some ⟨W.heap.size, 0, none⟩) 1024 1024) (W.alloc (.cells (madeCells #[.int .u8 0] 1024) 5)) := fun W => run_make_row' (P := Try.prog) 41 5 (.int .u8 0) 1 Try.underlying41 info_u8 rfl .i64 .i64 1024 (by omega) (by omega) W
  go_enter Try.func33, Try.ntmps33
  go_wp2
  have hx0 : Ext No w _ := (((Ext.refl No w).alloc (.cells #[.int .i64 st, .int .i64 f, .bool d, .bool dn] 27)).alloc (.cells #[.int .i64 0, .int .i64 0, .bool false, .bool false, .slice none 0 0, .int .i64 0] 56)).alloc (.cells #[.int .i64 st, .int .i64 f, .bool d, .bool dn, .slice none 0 0, .int .i64 0] 56)
  go_loopw [4] (fun i wr => ∃ k : Nat, k ≤ 4 ∧ i = .int .i64 k ∧ ∃ lv, Blk wr (w.heap.size + 1) 56 #[.int .i64 0, .int .i64 0, .bool false, .bool false, .slice none 0 0, .int .i64 0] ∧ Blk wr (w.heap.size + 1 + 1) 56 #[.int .i64 st, .int .i64 f, .bool d, .bool dn, lv, .int .i64 0] ∧ OwnP wr w.heap.size lv (List.replicate k (List.replicate 1024 0)) ∧ Ext No w wr) (fun i _ => 4 - (intOf i).toNat)
  case atStart =>
    refine ⟨0, by omega, rfl, .slice none 0 0, ?_, ?_, OwnP.nil _ _, hx0⟩
    · have := (Blk.new (w.alloc (.cells #[.int .i64 st, .int .i64 f, .bool d, .bool dn] 27)) 56 #[.int .i64 0, .int .i64 0, .bool false, .bool false, .slice none 0 0, .int .i64 0]).alloc (.cells #[.int .i64 st, .int .i64 f, .bool d, .bool dn, .slice none 0 0, .int .i64 0] 56)
      simpa using this
    have := Blk.new ((w.alloc (.cells #[.int .i64 st, .int .i64 f, .bool d, .bool dn] 27)).alloc (.cells #[.int .i64 0, .int .i64 0, .bool false, .bool false, .slice none 0 0, .int .i64 0] 56)) 56 #[.int .i64 st, .int .i64 f, .bool d, .bool dn, .slice none 0 0, .int .i64 0]
    simpa using this
  case round =>
    obtain ⟨k, hk, rfl, lv, hb0, hb, ho, hx⟩ := hrel
    obtain ⟨A, c, rfl⟩ := ho.slice
    rw [List.length_replicate] at ho hb
    have HO := Lib.hid ho
    have HB := Lib.hid hb
    have HX := Lib.hid hx
    have B := Blk.c6 hb
    have HB0 := Lib.hid hb0
    have B0 := Blk.c6 hb0
    clear hb0
    have hgl := hb.lt
    have hgl1 : w.heap.size + 1 + 1 < wr.heap.size + 1 := by omega
    have hsz := hx.size
    clear ho hb hx0
    by_cases hlt : k < 4
    · have h4 : (k : Int) < 4 := by omega
      go_wp2_with fail
      go_region_law (refine step_parts (.tmp 12) (.tmp 14) rfl rfl w.heap.size (wr.heap.size + 1) (.slice A k c) (.slice (some ⟨wr.heap.size, 0, none⟩) 1024 1024) (List.replicate k (List.replicate 1024 0)) (List.replicate 1024 0) (by simp [Act.eval, Act.put]) (by simp [Act.eval, Act.put]) (by exact (HO.out.kept ((((Ext.refl No wr).alloc _).alloc _).drew))) (by exact cell_new1d (by simp)) (by exact (Bs.drew ((own_made wr wr.heap.size 1024 (Nat.le_refl _) (by unfold maxLen; decide)).bs.ext_no ((Ext.refl _ _).alloc _))).mono (fun b hb => ⟨by omega, by have := hb.2.1; simp at this ⊢; omega, hb.2.2.choose, (hb.2.2.choose_spec.alloc _).drew⟩)) (by simp; omega) (by simp; omega) ?_; intro A2 n2 c2 w2 ho2 hg2; have hb2 := Blk.grown (Blk.drew ((HB.out.alloc _).alloc _)) hg2 (HO.out.ne HB.out (by decide)); have hb20 := Blk.grown (Blk.drew ((HB0.out.alloc _).alloc _)) hg2 (HO.out.ne HB0.out (by decide)); have B2 := Blk.c6 hb2; have hx2 : Ext No w w2 := Ext.grown ((((HX.out.alloc _).alloc _).drew)) hg2 (fun j hj hl => absurd hl (by have := (HO.out.lt j hj).1; omega)); have HH := Lib.hid (And.intro hb2 (And.intro ho2 (And.intro hx2 hb20))); clear hb2 hb20 ho2 hx2 hg2)
      all_goals
        go_wp2
        go_roundw
        case rel =>
          refine ⟨k + 1, by omega, by go_num, _, Blk.far HH.out.2.2.2 (by simp) _, Blk.set_ HH.out.1 4 _, ?_, HH.out.2.2.1.setCell (by simp; omega) _⟩
          rw [List.replicate_succ']
          exact HH.out.2.1.setFar HH.out.1 (by decide) _ _
        case measure => simp [intOf]; omega
    · obtain rfl : k = 4 := by omega
      go_wp2
      refine bodyPost_ret (v := rcv st f d dn (.slice A 4 c) 0) (by simp [results, Try.results33, go_sem, B0]) rfl ⟨_, rfl, ?_, ?_⟩
      · refine ((((((HO.out.setFar HB0.out (by decide) 0 (.int .i64 st)).setFar (Blk.set_ HB0.out _ _) (by decide) 1 (.int .i64 f)).setFar (Blk.set_ (Blk.set_ HB0.out _ _) _ _) (by decide) 2 (.bool d)).setFar (Blk.set_ (Blk.set_ (Blk.set_ HB0.out _ _) _ _) _ _) (by decide) 3 (.bool dn)).setFar (Blk.set_ (Blk.set_ (Blk.set_ (Blk.set_ HB0.out _ _) _ _) _ _) _ _) (by decide) 4 (.slice A 4 c)).setFar (Blk.set_ (Blk.set_ (Blk.set_ (Blk.set_ (Blk.set_ HB0.out _ _) _ _) _ _) _ _) _ _) (by decide) 5 (.int .i64 0)).parts
      · exact (((((HX.out.setCell (by simp) _).setCell (by simp) _).setCell (by simp) _).setCell (by simp) _).setCell (by simp) _).setCell (by simp) _
end Go.Proofs.Ytbemmjejgklieaa
