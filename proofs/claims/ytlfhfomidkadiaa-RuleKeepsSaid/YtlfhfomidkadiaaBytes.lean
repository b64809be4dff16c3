/- Rows of bytes in memory, and what Same, Put, Get and Join of octet and of its reference do with them. -/
import Derived.Test.YtlfhfomidkadiaaMem
import Derived.RegionTactic
import Derived.ChangeAlike
import Derived.Deep.RegionHeld3
import Derived.BigQuiet
import Derived.StillTailTactics
import Derived.OwnWalk
import Derived.Laws.MakeOwn
import Derived.Maps.AppendAt
import Derived.Deep.AppendLies
set_option linter.unusedVariables false
set_option linter.unusedSimpArgs false
namespace Go.Proofs.Ytlfhfomidkadiaa
open Go.RowKit

/-! ### 1. Rows of bytes -/
def u8v (b : UInt8) : Value := .int .u8 (b.toNat : Int)
def u8s (l : List UInt8) : List Value := l.map u8v
theorem u8s_length (l : List UInt8) : (u8s l).length = l.length := by simp [u8s]
theorem u8s_append (l m : List UInt8) : u8s (l ++ m) = u8s l ++ u8s m := by simp [u8s]
theorem u8s_get {l : List UInt8} {k : Nat} (hk : k < l.length) : (u8s l)[k]? = some (.int .u8 (l[k].toNat : Int)) := by simp [u8s, u8v, hk]
/-- v is a slice of the bytes l; where it has any, they lie in a block of F. -/
def Bs (w : World) (F : Nat → Prop) (v : Value) (l : List UInt8) : Prop := Sl w F 1 v l.length (u8s l)
abbrev Any : Nat → Prop := fun _ => True
section
variable {S F F' : Nat → Prop} {w w' : World} {v : Value} {l : List UInt8}
theorem Bs.slice (h : Bs w F v l) : ∃ A c, v = .slice A l.length c ∧ l.length ≤ c ∧ c ≤ maxLen ∧
    ∃ b off, ∀ k, (hk : k < l.length) → A = some ⟨b, off, none⟩ ∧ F b ∧ b < w.heap.size ∧ w.cell? ⟨b, off + k, none⟩ = some (.int .u8 (l[k].toNat : Int)) := by
  obtain ⟨h1, A, c, hv, hc, hm, hn⟩ := h
  refine ⟨A, c, hv, hc, hm, ?_⟩
  rcases Nat.eq_zero_or_pos l.length with h0 | h0
  · exact ⟨0, 0, fun k hk => absurd hk (by omega)⟩
  · obtain ⟨b, off, hA, hF, hcell⟩ := hn h0
    refine ⟨b, off, fun k hk => ?_⟩
    have := hcell k _ (u8s_get hk)
    exact ⟨hA, hF, World.block_lt_of_cell? w _ this, this⟩
theorem Bs.ext (h : Bs w F v l) (he : Ext S w w') (hd : ∀ b, F b → b < w.heap.size → ¬ S b) : Bs w' F v l := Sl.ext h he hd
theorem Bs.ext_no (h : Bs w F v l) (he : Ext No w w') : Bs w' F v l := Sl.ext_no h he
theorem Bs.drew (h : Bs w F v l) : Bs w.drew F v l := h
theorem Bs.drewN (h : Bs w F v l) (n : Nat) : Bs (w.drewN n) F v l := h
theorem Bs.mono (h : Bs w F v l) (hF : ∀ b, F b → F' b) : Bs w F' v l := Sl.mono h hF
theorem Bs.any (h : Bs w F v l) : Bs w Any v l := h.mono fun _ _ => trivial
theorem Bs.nil (w : World) (F : Nat → Prop) : Bs w F (.slice none 0 0) [] := Sl.nil w F 1
end
/-- v is a slice of the call's own of the bytes l. -/
def Own (w : World) (base : Nat) (v : Value) (l : List UInt8) : Prop := w.ownsRow base 5 1 v l.length (u8s l)
section
variable {S F F' : Nat → Prop} {w w' : World} {v : Value} {l : List UInt8} {base : Nat}
theorem Own.bs (h : Own w base v l) : Bs w (fun b => base ≤ b ∧ b < w.heap.size ∧ ∃ cs, Blk w b 5 cs) v l := Sl.of_own h
theorem Own.any (h : Own w base v l) : Bs w Any v l := h.bs.any
theorem Own.nil (w : World) (base : Nat) : Own w base (.slice none 0 0) [] := World.ownsRow_nil w base _ 1
theorem Own.less {base' : Nat} (h : Own w base v l) (hb : base' ≤ base) : Own w base' v l := by
  obtain ⟨h1, h2⟩ := h
  refine ⟨h1, ?_⟩
  rcases h2 with h2 | ⟨g, cap, cur, hv, hg, r⟩
  · exact .inl h2
  · exact .inr ⟨g, cap, cur, hv, Nat.le_trans hb hg, r⟩
theorem Own.ext (h : Own w base v l) (he : Ext S w w') (hd : ∀ b, v.ownBlock = some b → ¬ S b) : Own w' base v l := by
  obtain ⟨h1, h2⟩ := h
  refine ⟨h1, ?_⟩
  rcases h2 with h2 | ⟨g, cap, cur, hv, hg, hh, r⟩
  · exact .inl h2
  · exact .inr ⟨g, cap, cur, hv, hg, (he.block g (Array.getElem?_eq_some_iff.1 hh).1 (hd g (by rw [hv]; rfl))).trans hh, r⟩
theorem Own.ext_no (h : Own w base v l) (he : Ext No w w') : Own w' base v l := h.ext he fun _ _ h => h
theorem Own.alloc (h : Own w base v l) (o : Obj) : Own (w.alloc o) base v l := World.ownsRow.alloc h o
theorem Own.slice (h : Own w base v l) : ∃ A c, v = .slice A l.length c ∧ l.length ≤ c := by
  obtain ⟨_, A, c, hv, hc, _⟩ := h.bs
  exact ⟨A, c, hv, hc⟩
theorem Own.len {A : Option Addr} {n c : Nat} (h : Own w base (.slice A n c) l) : n = l.length := by
  obtain ⟨A', c', e, _⟩ := h.slice
  injection e
theorem Own.lt (h : Own w base v l) : ∀ k, v.ownBlock = some k → base ≤ k ∧ k < w.heap.size := World.ownsRow.lt h
end
theorem u8_beq (a b : UInt8) : ((a.toNat : Int) == (b.toNat : Int)) = decide (a = b) := by
  by_cases h : a = b
  · simp [h]
  · have : a.toNat ≠ b.toNat := fun e => h (UInt8.toNat_inj.1 e)
    simp [h]; omega

/-! ### 1b. append: onto a row of the call's own, whatever slice is appended -/
section
variable {P : Program} {w : World}
theorem run_app (base : Nat) (t ty e : TypeId) (z : Value) (size bytes : Nat) (ht : P.underlying t = some (.slice e)) (hinfo : (P.info? e).map (fun i => (i.zero, i.size, i.bytes)) = some (some z, size, bytes))
    (hzs : z.cells.size = size) (hsz : 0 < size) (v : Value) (n : Nat) (xs : List Value) (hown : w.ownsRow base e size v n xs) (F : Nat → Prop) (u : Value) (m : Nat) (news : List Value) (hu : Sl w F size u m news)
    (h1 : ∀ y ∈ news, y.oneCell' = true) (h63 : n + m ≤ maxLen) (hbytes : (n + m) * bytes ≤ 140737488355328) (hbase : base ≤ w.heap.size) :
    ∃ v' w', (Builtin.append_ #[t, t] ty #[v, u]).run P w = .ok v' w' ∧ w'.ownsRow base e size v' (n + m) (xs ++ news) ∧ w.grownBy w' v.ownBlock ∧ (v'.ownBlock = v.ownBlock ∨ v'.ownBlock = some w.heap.size) := by
  obtain ⟨i, hi, hz0, hz1, hz2⟩ := info_parts hinfo
  obtain ⟨hl, A, c, rfl, hc, hm, hcell⟩ := hu
  rcases A with _ | ad
  · have hm0 : m = 0 := by
      rcases Nat.eq_zero_or_pos m with h0 | h0
      · exact h0
      · obtain ⟨b, off, h, _⟩ := hcell h0
        cases h
    subst hm0
    obtain rfl : news = [] := List.eq_nil_of_length_eq_zero (by simpa using hl)
    refine ⟨v, w, ?_, by simpa using hown, World.grownBy.refl w _, .inl rfl⟩
    rcases hown.2 with ⟨rfl, rfl⟩ | ⟨g, cap, cur, rfl, _, _, hnc, _⟩
    · simp [Builtin.append_, run_underlying ht, sizeOf, typeInfo, hi, Builtin.lenOf, Builtin.firstCells]
    · simp [Builtin.append_, run_underlying ht, sizeOf, typeInfo, hi, Builtin.lenOf, Builtin.firstCells, hnc, storeCells]
  · have hcells : ∀ j y, news[j]? = some y → w.cell? (ad.add j) = some y := by
      intro j y hy
      rcases Nat.eq_zero_or_pos m with h0 | h0
      · subst h0
        obtain rfl : news = [] := List.eq_nil_of_length_eq_zero (by simpa using hl)
        simp at hy
      · obtain ⟨b, off, h, _, hcc⟩ := hcell h0
        injection h with h
        subst h
        rw [show (⟨b, off, none⟩ : Addr).add j = ⟨b, off + j, none⟩ by unfold Addr.add; split <;> simp_all]
        exact hcc j y hy
    obtain ⟨v', w', hr, h2, h3, _, h5⟩ := run_append_own_at (P := P) w base t ty e i z size bytes ht hi hz0 hz1 hz2 hzs hsz v n xs hown ad m c news hl hcells h1 h63 hbytes hbase
    exact ⟨v', w', hr, h2, h3, h5⟩
theorem wp_app {o : Oper} {a : Act} {K : Act → World → Prop} {Q : Exit → Act → World → Prop} (s x : Operand) (t : TypeId)
    (ho : o.op = .call { callee := .builtin .append, args := #[s, x], argTypes := #[t, t] })
    (base : Nat) (e : TypeId) (z : Value) (size bytes : Nat) (ht : P.underlying t = some (.slice e)) (hinfo : (P.info? e).map (fun i => (i.zero, i.size, i.bytes)) = some (some z, size, bytes))
    (hzs : z.cells.size = size) (hsz : 0 < size) (v : Value) (n : Nat) (xs : List Value) (hs : a.eval s = v) (hown : w.ownsRow base e size v n xs) (F : Nat → Prop) (u : Value) (m : Nat) (news : List Value)
    (hx : a.eval x = u) (hu : Sl w F size u m news) (h1 : ∀ y ∈ news, y.oneCell' = true) (h63 : n + m ≤ maxLen) (hbytes : (n + m) * bytes ≤ 140737488355328) (hbase : base ≤ w.heap.size)
    (h : ∀ v' w', w'.ownsRow base e size v' (n + m) (xs ++ news) → w.grownBy w' v.ownBlock → (v'.ownBlock = v.ownBlock ∨ v'.ownBlock = some w.heap.size) → K (a.put o.dst v') w') : o.wp P a w K Q := by
  obtain ⟨v', w', hr, h2, h3, h4⟩ := run_app (P := P) base t o.type e z size bytes ht hinfo hzs hsz v n xs hown F u m news hu h1 h63 hbytes hbase
  unfold Oper.wp execOp
  simp only [ho, resolve, invoke, builtin, Sem.run_bind, Sem.run_pure, Result.andThen_ok, List.map_toArray, List.map_cons, List.map_nil, hs, hx, hr]
  exact h v' w' h2 h3 h4
theorem wpList_app {ops : Array Oper} {rest : List Oper} {o : Oper} {a : Act} {Q : Exit → Act → World → Prop} (hgd : o.guard = none) (s x : Operand) (t : TypeId)
    (ho : o.op = .call { callee := .builtin .append, args := #[s, x], argTypes := #[t, t] })
    (base : Nat) (e : TypeId) (z : Value) (size bytes : Nat) (ht : P.underlying t = some (.slice e)) (hinfo : (P.info? e).map (fun i => (i.zero, i.size, i.bytes)) = some (some z, size, bytes))
    (hzs : z.cells.size = size) (hsz : 0 < size) (v : Value) (n : Nat) (xs : List Value) (hs : a.eval s = v) (hown : w.ownsRow base e size v n xs) (F : Nat → Prop) (u : Value) (m : Nat) (news : List Value)
    (hx : a.eval x = u) (hu : Sl w F size u m news) (h1 : ∀ y ∈ news, y.oneCell' = true) (h63 : n + m ≤ maxLen) (hbytes : (n + m) * bytes ≤ 140737488355328) (hbase : base ≤ w.heap.size)
    (h : ∀ v' w', w'.ownsRow base e size v' (n + m) (xs ++ news) → w.grownBy w' v.ownBlock → (v'.ownBlock = v.ownBlock ∨ v'.ownBlock = some w.heap.size) → wpList P ops Q rest (a.put o.dst v') w') : wpList P ops Q (o :: rest) a w :=
  wpList_plain hgd fun _ hK => wp_app s x t ho base e z size bytes ht hinfo hzs hsz v n xs hs hown F u m news hx hu h1 h63 hbytes hbase fun v' w' h2 h3 h4 => hK _ _ (h v' w' h2 h3 h4)
theorem step_app {o : Oper} {a : Act} {K : Act → World → Prop} {Q : Exit → Act → World → Prop} {ops : Array Oper} {E : Prop} (hgd : o.guard = none) (s x : Operand) (t : TypeId)
    (ho : o.op = .call { callee := .builtin .append, args := #[s, x], argTypes := #[t, t] })
    (base : Nat) (e : TypeId) (z : Value) (size bytes : Nat) (ht : P.underlying t = some (.slice e)) (hinfo : (P.info? e).map (fun i => (i.zero, i.size, i.bytes)) = some (some z, size, bytes))
    (hzs : z.cells.size = size) (hsz : 0 < size) (v : Value) (n : Nat) (xs : List Value) (hs : a.eval s = v) (hown : w.ownsRow base e size v n xs) (F : Nat → Prop) (u : Value) (m : Nat) (news : List Value)
    (hx : a.eval x = u) (hu : Sl w F size u m news) (h1 : ∀ y ∈ news, y.oneCell' = true) (h63 : n + m ≤ maxLen) (hbytes : (n + m) * bytes ≤ 140737488355328) (hbase : base ≤ w.heap.size)
    (h : ∀ v' w', w'.ownsRow base e size v' (n + m) (xs ++ news) → w.grownBy w' v.ownBlock → (v'.ownBlock = v.ownBlock ∨ v'.ownBlock = some w.heap.size) → K (a.put o.dst v') w') :
    if Region.wanted o (yielded ops a.tmps) = true then Oper.wp P o a w K Q else E := by
  rw [if_pos (by simp [Region.wanted, hgd])]
  exact wp_app s x t ho base e z size bytes ht hinfo hzs hsz v n xs hs hown F u m news hx hu h1 h63 hbytes hbase h
end
theorem u8s_one (l : List UInt8) : ∀ y ∈ u8s l, y.oneCell' = true := by
  intro y hy
  simp only [u8s, List.mem_map] at hy
  obtain ⟨b, _, rfl⟩ := hy
  rfl
theorem info_u8 : (Try.prog.info? 5).map (fun i => (i.zero, i.size, i.bytes)) = some (some (.int .u8 0), 1, 1) := by kernel_rfl
theorem info_bytes : (Try.prog.info? 46).map (fun i => (i.zero, i.size, i.bytes)) = some (some (.slice none 0 0), 1, 24) := by kernel_rfl
/-- append(b, x...) on bytes. -/
theorem app_bytes {w : World} {ops : Array Oper} {rest : List Oper} {o : Oper} {a : Act} {Q : Exit → Act → World → Prop} (s x : Operand)
    (ho : o.op = .call { callee := .builtin .append, args := #[s, x], argTypes := #[46, 46] }) (hgd : o.guard = none)
    (base : Nat) (v u : Value) (l m : List UInt8) (hs : a.eval s = v) (hx : a.eval x = u) (hown : Own w base v l) (F : Nat → Prop) (hu : Bs w F u m) (hb : l.length + m.length ≤ 140737488355328) (hbase : base ≤ w.heap.size)
    (h : ∀ v' w', Own w' base v' (l ++ m) → w.grownBy w' v.ownBlock → (v'.ownBlock = v.ownBlock ∨ v'.ownBlock = some w.heap.size) → wpList Try.prog ops Q rest (a.put o.dst v') w') : wpList Try.prog ops Q (o :: rest) a w :=
  wpList_app hgd s x _ ho base 5 (.int .u8 0) 1 1 Try.underlying46 info_u8 rfl (by omega) v l.length (u8s l) hs hown F u m.length (u8s m) hx hu (u8s_one m) (by unfold maxLen; omega) (by omega) hbase
    fun v' w' h2 h3 h4 => h v' w' (by unfold Own; rw [u8s_append, List.length_append]; exact h2) h3 h4
theorem step_bytes {w : World} {ops : Array Oper} {o : Oper} {a : Act} {K : Act → World → Prop} {Q : Exit → Act → World → Prop} {E : Prop} (s x : Operand)
    (ho : o.op = .call { callee := .builtin .append, args := #[s, x], argTypes := #[46, 46] }) (hgd : o.guard = none)
    (base : Nat) (v u : Value) (l m : List UInt8) (hs : a.eval s = v) (hx : a.eval x = u) (hown : Own w base v l) (F : Nat → Prop) (hu : Bs w F u m) (hb : l.length + m.length ≤ 140737488355328) (hbase : base ≤ w.heap.size)
    (h : ∀ v' w', Own w' base v' (l ++ m) → w.grownBy w' v.ownBlock → (v'.ownBlock = v.ownBlock ∨ v'.ownBlock = some w.heap.size) → K (a.put o.dst v') w') : if Region.wanted o (yielded ops a.tmps) = true then Oper.wp Try.prog o a w K Q else E :=
  step_app hgd s x _ ho base 5 (.int .u8 0) 1 1 Try.underlying46 info_u8 rfl (by omega) v l.length (u8s l) hs hown F u m.length (u8s m) hx hu (u8s_one m) (by unfold maxLen; omega) (by omega) hbase
    fun v' w' h2 h3 h4 => h v' w' (by unfold Own; rw [u8s_append, List.length_append]; exact h2) h3 h4
/-- The one byte that 'append(b, x)' lays before it appends. -/
theorem bs_lit1' (w : World) (z : Int) (x : UInt8) (hz : z = (x.toNat : Int)) {g : Nat} (hg : g = w.heap.size := by simp) : Bs (w.alloc (.cells #[.int .u8 z] 5)) (fun b => b = w.heap.size) (.slice (some ⟨g, 0, none⟩) 1 1) [x] := by
  subst hz hg
  refine ⟨by simp [u8s], _, _, rfl, Nat.le_refl _, by unfold maxLen; decide, fun _ => ⟨w.heap.size, 0, rfl, rfl, fun j u hu => ?_⟩⟩
  match j, hu with
  | 0, hu =>
    have : u = .int .u8 (x.toNat : Int) := by simpa [u8s, u8v] using hu.symm
    subst this
    exact (Blk.new w _ _).cell 0
theorem bs_litN (w : World) (l : List UInt8) (hl : l.length ≤ maxLen) {g : Nat} (hg : g = w.heap.size := by simp) : Bs (w.alloc (.cells (u8s l).toArray 5)) (fun b => b = w.heap.size) (.slice (some ⟨g, 0, none⟩) l.length l.length) l := by
  subst hg
  refine ⟨by simp [u8s], _, _, rfl, Nat.le_refl _, hl, fun _ => ⟨w.heap.size, 0, rfl, rfl, fun j u hu => ?_⟩⟩
  have := (Blk.new w 5 (u8s l).toArray).cell j
  rw [Nat.zero_add, this]
  simpa using hu
/-- make([]byte, m). -/
theorem own_made (W : World) (base m : Nat) (hb : base ≤ W.heap.size) (hm : m ≤ maxLen) {g : Nat} (hg : g = W.heap.size := by simp) :
    Own (W.alloc (.cells (madeCells #[.int .u8 0] m) 5)) base (.slice (some ⟨g, 0, none⟩) m m) (List.replicate m 0) := by
  subst hg
  have h := World.ownsRow_lit (base := base) (e := 5) (size := 1) W (madeCells #[.int .u8 0] m) m hb hm (by simp [size_madeCells])
  have e : (madeCells #[Value.int .u8 0] m).toList = u8s (List.replicate m 0) := by rw [toList_madeCells_one]; simp [u8s, u8v]
  rw [e] at h
  unfold Own
  rw [List.length_replicate]
  exact h

/-! ### 2. Same of the reference -/
set_option maxRecDepth 100000 in
set_option maxHeartbeats 400000 in
theorem rSame_any (v1 v2 : Value) (l1 l2 : List UInt8) (w : World) (h1 : Bs w Any v1 l1) (h2 : Bs w Any v2 l2) :
    Calls Try.prog 52 #[v1, v2] w fun e w' => e = .returned (.bool (decide (l1 = l2))) ∧ ∃ n, w' = w.drewN n := by
  obtain ⟨A1, c1, rfl, hc1, hm1, b1, o1, hA1⟩ := h1.slice
  obtain ⟨A2, c2, rfl, hc2, hm2, b2, o2, hA2⟩ := h2.slice
  unfold maxLen at hm1 hm2
  by_cases hl : l1.length = l2.length
  · have hb : ((l1.length : Int) != (l2.length : Int)) = false := by simp [hl]
    have HL := Lib.hid hl
    have H1 := Lib.hid hA1
    have H2 := Lib.hid hA2
    clear hl hA1 hA2 h1 h2
    go_enter Try.func52, Try.ntmps52
    go_wp2
    go_loopw [5] (fun i wr => ∃ k : Nat, k ≤ l1.length ∧ i = .int .i64 k ∧ Hid (l1.take k = l2.take k) ∧ ∃ n, wr = w.drewN n) (fun i _ => l1.length - (intOf i).toNat)
    case atStart => exact ⟨0, by omega, rfl, by simp [Hid], 0, rfl⟩
    case round =>
      obtain ⟨k, hk, rfl, HT, n, rfl⟩ := hrel
      by_cases hlt : k < l1.length
      · have hlt2 : k < l2.length := by have := HL.out; omega
        obtain ⟨rfl, _, _, e1⟩ := H1.out k hlt
        obtain ⟨rfl, _, _, e2⟩ := H2.out k hlt2
        have hi0 : (0 : Int) ≤ (k : Int) := by omega
        have hi1 : (k : Int) < (l1.length : Int) := by omega
        have hi2 : (k : Int) < (l2.length : Int) := by omega
        have hs1 : l1.take (k + 1) = l1.take k ++ [l1[k]] := List.take_succ_eq_append_getElem hlt
        have hs2 : l2.take (k + 1) = l2.take k ++ [l2[k]] := List.take_succ_eq_append_getElem hlt2
        by_cases heq : l1[k] = l2[k]
        · have he : ((l1[k].toNat : Int) != (l2[k].toNat : Int)) = false := by simp [heq]
          have HS : Hid (l1.take (k + 1) = l2.take (k + 1)) := by rw [hs1, hs2, HT.out, heq]; exact rfl
          clear hs1 hs2 heq
          go_wp2_with fail
          go_quiet (fail)
          go_wp2
          go_roundw
          case rel => exact ⟨k + 1, by omega, by go_num, HS, n + nq, by first | rfl | exact World.drewN_drewN ..⟩
          case measure => simp [intOf]; omega
        · have he : ((l1[k].toNat : Int) != (l2[k].toNat : Int)) = true := by
            have := u8_beq l1[k] l2[k]
            simp only [bne, this]; simp [heq]
          have hne : decide (l1 = l2) = false := by
            simp only [decide_eq_false_iff_not]
            rintro rfl
            exact heq rfl
          have HN := Lib.hid hne
          clear hs1 hs2 hne heq
          go_wp2_with fail
          go_quiet (fail)
          go_wp2
          go_ret
          exact ⟨by rw [HN.out]; rfl, n + nq, by first | rfl | exact World.drewN_drewN ..⟩
      · have hke : k = l1.length := by omega
        have HE : Hid (decide (l1 = l2) = true) := by
          have h := HT.out
          have hl := HL.out
          rw [List.take_of_length_le (by omega), List.take_of_length_le (by omega)] at h
          simpa [Hid] using h
        clear hke
        go_wp2
        go_ret
        exact ⟨by rw [HE.out]; rfl, n, rfl⟩
  · have hb : ((l1.length : Int) != (l2.length : Int)) = true := by simp; omega
    have HN : Hid (decide (l1 = l2) = false) := by
      show decide (l1 = l2) = false
      simp only [decide_eq_false_iff_not]
      rintro rfl
      exact hl rfl
    clear hl hA1 hA2 h1 h2
    go_enter Try.func52, Try.ntmps52
    go_wp2
    go_ret
    exact ⟨by rw [HN.out]; rfl, 0, rfl⟩
end Go.Proofs.Ytlfhfomidkadiaa
