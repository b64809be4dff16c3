/- Versions: values of eleven cells; rows of them. -/
import Derived.Test.YtlfhfomidkadiaaBytes
import Derived.Deep.MidRow
set_option linter.unusedVariables false
set_option linter.unusedSimpArgs false
namespace Go.Proofs.Ytlfhfomidkadiaa
open Go.RowKit Go.Deep

/-- A version: its numbers, and the slices with what they hold. -/
structure Vr where
  seq : Int
  nul : Bool
  mrk : Bool
  at_ : Int
  size : Int
  til : Int
  mA : Option Addr
  mc : Nat
  md : List UInt8
  tA : Option Addr
  tc : Nat
  td : List UInt8
  gen : Int
  nA : Option Addr
  nc : Nat
  nd : List UInt8
  wA : Option Addr
  wc : Nat
  wd : List UInt8
namespace Vr
def cs (v : Vr) : List Value := [.int .i64 v.seq, .bool v.nul, .bool v.mrk, .int .i64 v.at_, .int .i64 v.size, .int .i64 v.til, .slice v.mA v.md.length v.mc, .slice v.tA v.td.length v.tc, .int .i64 v.gen, .slice v.nA v.nd.length v.nc, .slice v.wA v.wd.length v.wc]
theorem cs_length (v : Vr) : v.cs.length = 11 := rfl
theorem cs_size (v : Vr) : v.cs.toArray.size = 11 := rfl
theorem cs_one (v : Vr) : ∀ y ∈ v.cs, y.oneCell' = true := by
  intro y hy
  simp only [cs, List.mem_cons, List.not_mem_nil, or_false] at hy
  rcases hy with rfl | rfl | rfl | rfl | rfl | rfl | rfl | rfl | rfl | rfl | rfl <;> rfl
def zero : Vr := ⟨0, false, false, 0, 0, 0, none, 0, [], none, 0, [], 0, none, 0, [], none, 0, []⟩
/-- Its slices hold what is said; its numbers fit. -/
structure Ok (w : World) (F : Nat → Prop) (v : Vr) : Prop where
  m : Bs w F (.slice v.mA v.md.length v.mc) v.md
  t : Bs w F (.slice v.tA v.td.length v.tc) v.td
  n : Bs w F (.slice v.nA v.nd.length v.nc) v.nd
  w : Bs w F (.slice v.wA v.wd.length v.wc) v.wd
  b : (-9223372036854775808 ≤ v.seq ∧ v.seq ≤ 9223372036854775807) ∧ (-9223372036854775808 ≤ v.til ∧ v.til ≤ 9223372036854775807)
theorem Ok.ext {S F : Nat → Prop} {w w' : World} {v : Vr} (h : Ok w F v) (he : Ext S w w') (hd : ∀ b, F b → b < w.heap.size → ¬ S b) : Ok w' F v := ⟨h.m.ext he hd, h.t.ext he hd, h.n.ext he hd, h.w.ext he hd, h.b⟩
theorem Ok.ext_no {F : Nat → Prop} {w w' : World} {v : Vr} (h : Ok w F v) (he : Ext No w w') : Ok w' F v := h.ext he (fun _ _ _ h => h)
theorem Ok.mono {F F' : Nat → Prop} {w : World} {v : Vr} (h : Ok w F v) (hF : ∀ b, F b → F' b) : Ok w F' v := ⟨h.m.mono hF, h.t.mono hF, h.n.mono hF, h.w.mono hF, h.b⟩
theorem Ok.zero (w : World) (F : Nat → Prop) : Ok w F Vr.zero := ⟨Bs.nil w F, Bs.nil w F, Bs.nil w F, Bs.nil w F, by simp [Vr.zero]⟩
end Vr
/-- A row of versions' cells. -/
def vcs (ls : List Vr) : List Value := ls.flatMap Vr.cs
theorem vcs_length (ls : List Vr) : (vcs ls).length = ls.length * 11 := by
  induction ls with
  | nil => rfl
  | cons v ls ih => unfold vcs at ih ⊢; rw [List.flatMap_cons, List.length_append, ih, Vr.cs_length, List.length_cons]; omega
theorem vcs_append (ls ms : List Vr) : vcs (ls ++ ms) = vcs ls ++ vcs ms := by unfold vcs; rw [List.flatMap_append]
theorem vcs_one (ls : List Vr) : ∀ y ∈ vcs ls, y.oneCell' = true := by
  intro y hy
  obtain ⟨v, _, h⟩ := List.mem_flatMap.1 hy
  exact v.cs_one y h
theorem vcs_get (ls : List Vr) (i j : Nat) (hi : i < ls.length) (hj : j < 11) : (vcs ls)[i * 11 + j]? = ls[i].cs[j]? := by
  induction ls generalizing i with
  | nil => simp at hi
  | cons v ls ih =>
    unfold vcs at ih ⊢
    rw [List.flatMap_cons]
    cases i with
    | zero => rw [List.getElem?_append_left (by rw [Vr.cs_length]; omega)]; simp
    | succ i => rw [List.getElem?_append_right (by rw [Vr.cs_length]; omega), Vr.cs_length, show (i + 1) * 11 + j - 11 = i * 11 + j by omega, ih i (by simpa using hi)]; rfl
/-- A slice of versions. -/
def Vs (w : World) (F : Nat → Prop) (B : Nat) (v : Value) (ls : List Vr) : Prop := Sl w F 11 v ls.length (vcs ls) ∧ ∀ x ∈ ls, Vr.Ok w (fun b => b < B) x
section
variable {S F F' : Nat → Prop} {w w' : World} {v : Value} {B : Nat} {ls : List Vr}
theorem Vs.nil (w : World) (F : Nat → Prop) (B : Nat) : Vs w F B (.slice none 0 0) [] := ⟨Sl.nil w F 11, fun _ h => by cases h⟩
theorem Vs.ext_no (h : Vs w F B v ls) (he : Ext No w w') : Vs w' F B v ls := ⟨Sl.ext_no h.1 he, fun x hx => (h.2 x hx).ext_no he⟩
theorem Vs.mono (h : Vs w F B v ls) (hF : ∀ b, F b → F' b) : Vs w F' B v ls := ⟨Sl.mono h.1 hF, h.2⟩
theorem Vs.any (h : Vs w F B v ls) : Vs w Any B v ls := h.mono fun _ _ => trivial
theorem Vs.slice (h : Vs w F B v ls) : ∃ A c, v = .slice A ls.length c ∧ ls.length ≤ c ∧ c ≤ maxLen ∧
    ∃ b off, ∀ k, (hk : k < ls.length) → A = some ⟨b, off, none⟩ ∧ F b ∧ b < w.heap.size ∧ w.rangeAt b (off + k * 11) ls[k].cs ∧ Vr.Ok w (fun b => b < B) ls[k] := by
  obtain ⟨⟨h1, A, c, hv, hc, hm, hn⟩, hok⟩ := h
  refine ⟨A, c, hv, hc, hm, ?_⟩
  rcases Nat.eq_zero_or_pos ls.length with h0 | h0
  · exact ⟨0, 0, fun k hk => absurd hk (by omega)⟩
  · obtain ⟨b, off, hA, hF, hcell⟩ := hn h0
    refine ⟨b, off, fun k hk => ?_⟩
    have hr : w.rangeAt b (off + k * 11) ls[k].cs := fun j u hu => by
      have hj : j < 11 := by have := (List.getElem?_eq_some_iff.1 hu).1; rwa [Vr.cs_length] at this
      rw [Nat.add_assoc]
      exact hcell _ _ (by rw [vcs_get ls k j hk hj]; exact hu)
    exact ⟨hA, hF, World.block_lt_of_cell? w _ (hr 0 _ rfl), hr, hok _ (List.getElem_mem hk)⟩
end
theorem info_ver : (Try.prog.info? 55).map (fun i => (i.zero, i.size, i.bytes)) = some (some (.agg Vr.zero.cs.toArray), 11, 144) := by kernel_rfl
theorem size_ver : (Try.prog.info? 55).map (·.size) = some 11 := by kernel_rfl
/-- An own row of versions. -/
def OwnV (w : World) (base B : Nat) (v : Value) (ls : List Vr) : Prop := w.ownsRow base 55 11 v ls.length (vcs ls) ∧ ∀ x ∈ ls, Vr.Ok w (fun b => b < B) x
section
variable {w w' : World} {base B : Nat} {v : Value} {ls : List Vr}
theorem OwnV.vs (h : OwnV w base B v ls) : Vs w Any B v ls := ⟨(Sl.of_own h.1).mono fun _ _ => trivial, h.2⟩
theorem OwnV.nil (w : World) (base B : Nat) : OwnV w base B (.slice none 0 0) [] := ⟨World.ownsRow_nil w base _ 11, fun _ h => by cases h⟩
theorem OwnV.less {base' : Nat} (h : OwnV w base B v ls) (hb : base' ≤ base) : OwnV w base' B v ls := by
  obtain ⟨⟨h1, h2⟩, h3⟩ := h
  refine ⟨⟨h1, ?_⟩, h3⟩
  rcases h2 with h2 | ⟨g, cap, cur, e, hg, r⟩
  · exact .inl h2
  · exact .inr ⟨g, cap, cur, e, Nat.le_trans hb hg, r⟩
theorem OwnV.ext {S : Nat → Prop} (h : OwnV w base B v ls) (he : Ext No w w') : OwnV w' base B v ls := by
  obtain ⟨⟨h1, h2⟩, h3⟩ := h
  refine ⟨⟨h1, ?_⟩, fun x hx => (h3 x hx).ext_no he⟩
  rcases h2 with h2 | ⟨g, cap, cur, e, hg, hh, r⟩
  · exact .inl h2
  · exact .inr ⟨g, cap, cur, e, hg, (he.block g (Array.getElem?_eq_some_iff.1 hh).1 (fun h => h)).trans hh, r⟩
theorem OwnV.slice (h : OwnV w base B v ls) : ∃ A c, v = .slice A ls.length c ∧ ls.length ≤ c := by
  obtain ⟨⟨_, h2⟩, _⟩ := h
  rcases h2 with ⟨rfl, h0⟩ | ⟨g, cap, cur, e, _, _, hc, _⟩
  · exact ⟨none, 0, by rw [h0], by omega⟩
  · exact ⟨_, cap, e, hc⟩
end
theorem OwnV.lt {w : World} {base B : Nat} {v : Value} {ls : List Vr} (h : OwnV w base B v ls) : ∀ k, v.ownBlock = some k → base ≤ k ∧ k < w.heap.size := World.ownsRow.lt h.1
theorem OwnV.blk {w : World} {base B : Nat} {v : Value} {ls : List Vr} (h : OwnV w base B v ls) : ∀ k, v.ownBlock = some k → ∃ cs, Blk w k 55 cs := by
  obtain ⟨⟨_, ⟨rfl, _⟩ | ⟨g, cap, cur, rfl, _, hh, _⟩⟩, _⟩ := h
  · intro k hk; simp [Value.ownBlock] at hk
  · intro k hk
    have : k = g := by simpa [Value.ownBlock] using hk.symm
    subst this
    exact ⟨cur, hh⟩
/-- A version, laid for a call. -/
theorem Vs.lit1 {w : World} {B : Nat} {x : Vr} (h : Vr.Ok w (fun b => b < B) x) {g : Nat} (hg : g = w.heap.size := by simp) : Vs (w.alloc (.cells x.cs.toArray 55)) Any B (.slice (some ⟨g, 0, none⟩) 1 1) [x] := by
  subst hg
  refine ⟨⟨by rw [vcs_length], _, _, rfl, Nat.le_refl _, by simp [maxLen], fun _ => ⟨w.heap.size, 0, rfl, trivial, fun j u hu => ?_⟩⟩, fun y hy => ?_⟩
  · rw [Nat.zero_add, (Blk.new w 55 x.cs.toArray).cell j]
    have : vcs [x] = x.cs := by simp [vcs]
    rw [this] at hu
    simpa using hu
  · obtain rfl : y = x := by simpa using hy
    exact h.ext_no ((Ext.refl _ _).alloc _)
/-- append(l, m...) on versions. -/
theorem app_vers {w : World} {ops : Array Oper} {rest : List Oper} {o : Oper} {a : Act} {Q : Exit → Act → World → Prop} (s x : Operand)
    (ho : o.op = .call { callee := .builtin .append, args := #[s, x], argTypes := #[50, 50] }) (hgd : o.guard = none)
    (base B : Nat) (v u : Value) (l m : List Vr) (hs : a.eval s = v) (hx : a.eval x = u) (hown : OwnV w base B v l) (hu : Vs w Any B u m) (hb : l.length + m.length ≤ 100000) (hbase : base ≤ w.heap.size) (hB : B ≤ base)
    (h : ∀ v' w', OwnV w' base B v' (l ++ m) → Ext (fun k => v.ownBlock = some k) w w' → wpList Try.prog ops Q rest (a.put o.dst v') w') : wpList Try.prog ops Q (o :: rest) a w :=
  wpList_app hgd s x _ ho base 55 (.agg Vr.zero.cs.toArray) 11 144 Try.underlying50 info_ver rfl (by omega) v l.length (vcs l) hs hown.1 Any u m.length (vcs m) hx hu.1 (vcs_one m) (by unfold maxLen; omega) (by omega) hbase
    fun v' w' h2 h3 h4 => by
      have hx : Ext (fun k => v.ownBlock = some k) w w' := (Ext.refl _ w).grown h3 (fun k hk _ => hk)
      refine h v' w' ⟨by rw [vcs_append, List.length_append]; exact h2, fun y hy => ?_⟩ hx
      have : Vr.Ok w (fun b => b < B) y := by
        rcases List.mem_append.1 hy with hy | hy
        · exact hown.2 y hy
        · exact hu.2 y hy
      exact this.ext hx (fun b hb _ hk => by have := (World.ownsRow.lt hown.1 b hk).1; omega)
end Go.Proofs.Ytlfhfomidkadiaa
