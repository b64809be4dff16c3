/- Mem, MapK, Bytes, Octet, Mid, Arr, App0, RegFacts, Open, Lit, OpenBytes, OpenParts, RegGuard, RegLate. -/
import Derived.Test.YtmbbkkonmkbnoaaRows
import Derived.WalkKit
import Derived.WalkSpells
import Derived.WalkLawsBesides
import Derived.Lib.Hide
import Derived.Deep.Draws
import Derived.Deep.Slices
import Derived.Deep.Fields
import Derived.Laws.OwnMore
import Derived.Laws.Rows
import Derived.Below
import Derived.ChangeSame
import Derived.OpenShut
import Derived.Deep.QuietTactic
import Derived.ChangeMaps4
import Derived.Maps.OwnOps
import Derived.RegionTactic
import Derived.ChangeAlike
import Derived.Deep.RegionHeld3
import Derived.BigQuiet
import Derived.StillTailTactics
import Derived.OwnWalk
import Derived.Laws.MakeOwn
import Derived.Maps.AppendAt
import Derived.Deep.AppendLies
import Derived.Laws.BitsAllLaws
import Derived.Laws.ShiftsVarLaws
import Derived.ArgAppend
import Derived.Deep.MidRow
import Derived.Laws.Append
import Derived.Orders
import Derived.Deep.RegionWith
set_option linter.unusedVariables false
set_option linter.unusedSimpArgs false
namespace Go.Proofs.Ytmbbkkonmkbnoaa
open Go.RowKit
structure Ext (S : Nat → Prop) (w w' : World) : Prop where
  os : w'.os = w.os
  tape : w'.tape = w.tape
  output : w'.output = w.output
  size : w.heap.size ≤ w'.heap.size
  block : ∀ k, k < w.heap.size → ¬ S k → w'.heap[k]? = w.heap[k]?
abbrev No : Nat → Prop := fun _ => False
abbrev One (g : Nat) : Nat → Prop := fun k => k = g
abbrev Two (g h : Nat) : Nat → Prop := fun k => k = g ∨ k = h
section
variable {S S' : Nat → Prop} {a b c w w' : World}
theorem Ext.refl (S : Nat → Prop) (w : World) : Ext S w w := ⟨rfl, rfl, rfl, Nat.le_refl _, fun _ _ _ => rfl⟩
theorem Ext.transS (h : Ext S a b) (k : Ext S' b c) (hs : ∀ i, i < a.heap.size → S' i → S i) : Ext S a c :=
  ⟨k.os.trans h.os, k.tape.trans h.tape, k.output.trans h.output, Nat.le_trans h.size k.size, fun i hi hn =>
    (k.block i (Nat.lt_of_lt_of_le hi h.size) (fun h' => hn (hs i hi h'))).trans (h.block i hi hn)⟩
theorem Ext.trans (h : Ext S a b) (k : Ext S b c) : Ext S a c := h.transS k fun _ _ h => h
theorem Ext.then_ (h : Ext S a b) (k : Ext No b c) : Ext S a c := h.transS k fun _ _ h => h.elim
theorem Ext.mono (h : Ext S a b) (hs : ∀ i, i < a.heap.size → S i → S' i) : Ext S' a b :=
  ⟨h.os, h.tape, h.output, h.size, fun i hi hn => h.block i hi fun h' => hn (hs i hi h')⟩
theorem Ext.no (h : Ext No a b) : Ext S a b := h.mono fun _ _ h => h.elim
theorem Ext.drew (h : Ext S a b) : Ext S a b.drew := ⟨h.os, h.tape, h.output, h.size, h.block⟩
theorem Ext.drewN (h : Ext S a b) (n : Nat) : Ext S a (b.drewN n) := ⟨h.os, h.tape, h.output, h.size, h.block⟩
theorem Ext.alloc (h : Ext S a b) (o : Obj) : Ext S a (b.alloc o) :=
  ⟨h.os, h.tape, h.output, Nat.le_trans h.size (by simp), fun i hi hn => (Below.heap_alloc b o i (Nat.lt_of_lt_of_le hi h.size)).trans (h.block i hi hn)⟩
theorem Ext.setCell (h : Ext S a b) {p : Addr} (hp : p.block < a.heap.size → S p.block) (u : Value) : Ext S a (b.setCell p u) :=
  ⟨h.os, h.tape, h.output, by simpa [World.setCell] using h.size, fun i hi hn => (Below.heap_setCell b p u i (fun e => hn (e ▸ hp (e ▸ hi)))).trans (h.block i hi hn)⟩
theorem Ext.of_below (h : Below w.heap.size w w') : Ext S w w' := ⟨h.os, h.tape, h.output, h.size, fun i hi _ => h.block i hi⟩
theorem Ext.below (h : Ext No w w') : Below w.heap.size w w' := ⟨h.os, h.tape, h.output, h.size, fun i hi => h.block i hi (fun h => h.elim)⟩
theorem Ext.below_new (h : Ext S w w') (hs : ∀ i, i < w.heap.size → ¬ S i) : Below w.heap.size w w' := ⟨h.os, h.tape, h.output, h.size, fun i hi => h.block i hi (hs i hi)⟩
theorem Ext.grown {row : Option Nat} (h : Ext S a b) (hg : b.grownBy c row) (hr : ∀ k, row = some k → k < a.heap.size → S k) : Ext S a c :=
  ⟨hg.os.trans h.os, hg.tape.trans h.tape, hg.output.trans h.output, Nat.le_trans h.size hg.size, fun i hi hn =>
    (hg.block i (Nat.lt_of_lt_of_le hi h.size) (fun e => hn (hr i e.symm hi))).trans (h.block i hi hn)⟩
theorem Ext.cell (h : Ext S w w') {p : Addr} (hp : p.block < w.heap.size) (hn : ¬ S p.block) : w'.cell? p = w.cell? p := World.cell?_of_block (h.block p.block hp hn)
theorem Ext.frozen (h : Ext S w w') {p : Addr} (hp : p.block < w.heap.size) (hn : ¬ S p.block) : w'.frozen? p = w.frozen? p := World.frozen?_of_block (h.block p.block hp hn)
end
def Blk (w : World) (g : Nat) (t : TypeId) (cs : Array Value) : Prop := w.heap[g]? = some (.cells cs t (0, 0))
section
variable {S : Nat → Prop} {w w' : World} {g : Nat} {t : TypeId} {cs : Array Value}
theorem Blk.lt (h : Blk w g t cs) : g < w.heap.size := (Array.getElem?_eq_some_iff.1 h).1
theorem Blk.cell (h : Blk w g t cs) (i : Nat) : w.cell? ⟨g, i, none⟩ = cs[i]? := cell_of_row w g i cs t (0, 0) h
theorem Blk.frozen (h : Blk w g t cs) (i : Nat) : w.frozen? ⟨g, i, none⟩ = false := by unfold Blk at h; simp [World.frozen?, h]
theorem Blk.new (w : World) (t : TypeId) (cs : Array Value) : Blk (w.alloc (.cells cs t)) w.heap.size t cs := heap_alloc_new w _
theorem Blk.drew (h : Blk w g t cs) : Blk w.drew g t cs := h
theorem Blk.drewN (h : Blk w g t cs) (n : Nat) : Blk (w.drewN n) g t cs := h
theorem Blk.alloc (h : Blk w g t cs) (o : Obj) : Blk (w.alloc o) g t cs := (Below.heap_alloc w o g h.lt).trans h
theorem Blk.set_ (h : Blk w g t cs) (i : Nat) (u : Value) : Blk (w.setCell ⟨g, i, none⟩ u) g t (cs.setIfInBounds i u) := by
  unfold Blk at h ⊢
  simp [World.setCell, Array.getElem?_modify, h]
theorem Blk.far (h : Blk w g t cs) {p : Addr} (hp : g ≠ p.block) (u : Value) : Blk (w.setCell p u) g t cs := (Below.heap_setCell w p u g hp).trans h
theorem Blk.ext (h : Blk w g t cs) (he : Ext S w w') (hn : ¬ S g) : Blk w' g t cs := (he.block g h.lt hn).trans h
theorem Blk.below (h : Blk w g t cs) (he : Below w.heap.size w w') : Blk w' g t cs := (he.block g h.lt).trans h
theorem Blk.grown {row : Option Nat} (h : Blk w g t cs) (hb : w.grownBy w' row) (hg : some g ≠ row) : Blk w' g t cs := (hb.block g h.lt hg).trans h
theorem Blk.ne_ {g' : Nat} {t' : TypeId} {cs' : Array Value} (h : Blk w g t cs) (h' : Blk w g' t' cs') (hne : t ≠ t') : g ≠ g' := by
  rintro rfl
  unfold Blk at h h'
  rw [h] at h'
  injection h' with h'
  injection h' with _ ht
  exact hne ht
theorem Blk.c1 {a : Value} (h : Blk w g t #[a]) : w.cell? ⟨g, 0, none⟩ = some a ∧ w.frozen? ⟨g, 0, none⟩ = false ∧ g < w.heap.size := ⟨h.cell 0, h.frozen 0, h.lt⟩
theorem Blk.c2 {a b : Value} (h : Blk w g t #[a, b]) : (w.cell? ⟨g, 0, none⟩ = some a ∧ w.cell? ⟨g, 1, none⟩ = some b) ∧ (w.frozen? ⟨g, 0, none⟩ = false ∧ w.frozen? ⟨g, 1, none⟩ = false) ∧ g < w.heap.size := ⟨⟨h.cell 0, h.cell 1⟩, ⟨h.frozen 0, h.frozen 1⟩, h.lt⟩
theorem Blk.c3 {a b c : Value} (h : Blk w g t #[a, b, c]) : (w.cell? ⟨g, 0, none⟩ = some a ∧ w.cell? ⟨g, 1, none⟩ = some b ∧ w.cell? ⟨g, 2, none⟩ = some c) ∧
    (w.frozen? ⟨g, 0, none⟩ = false ∧ w.frozen? ⟨g, 1, none⟩ = false ∧ w.frozen? ⟨g, 2, none⟩ = false) ∧ g < w.heap.size := ⟨⟨h.cell 0, h.cell 1, h.cell 2⟩, ⟨h.frozen 0, h.frozen 1, h.frozen 2⟩, h.lt⟩
theorem Blk.c4 {a b c d : Value} (h : Blk w g t #[a, b, c, d]) : (w.cell? ⟨g, 0, none⟩ = some a ∧ w.cell? ⟨g, 1, none⟩ = some b ∧ w.cell? ⟨g, 2, none⟩ = some c ∧ w.cell? ⟨g, 3, none⟩ = some d) ∧
    (w.frozen? ⟨g, 0, none⟩ = false ∧ w.frozen? ⟨g, 1, none⟩ = false ∧ w.frozen? ⟨g, 2, none⟩ = false ∧ w.frozen? ⟨g, 3, none⟩ = false) ∧ g < w.heap.size := ⟨⟨h.cell 0, h.cell 1, h.cell 2, h.cell 3⟩, ⟨h.frozen 0, h.frozen 1, h.frozen 2, h.frozen 3⟩, h.lt⟩
theorem Blk.c5 {a b c d e : Value} (h : Blk w g t #[a, b, c, d, e]) : (w.cell? ⟨g, 0, none⟩ = some a ∧ w.cell? ⟨g, 1, none⟩ = some b ∧ w.cell? ⟨g, 2, none⟩ = some c ∧ w.cell? ⟨g, 3, none⟩ = some d ∧ w.cell? ⟨g, 4, none⟩ = some e) ∧
    (w.frozen? ⟨g, 0, none⟩ = false ∧ w.frozen? ⟨g, 1, none⟩ = false ∧ w.frozen? ⟨g, 2, none⟩ = false ∧ w.frozen? ⟨g, 3, none⟩ = false ∧ w.frozen? ⟨g, 4, none⟩ = false) ∧ g < w.heap.size := ⟨⟨h.cell 0, h.cell 1, h.cell 2, h.cell 3, h.cell 4⟩, ⟨h.frozen 0, h.frozen 1, h.frozen 2, h.frozen 3, h.frozen 4⟩, h.lt⟩
theorem Blk.c6 {a b c d e f : Value} (h : Blk w g t #[a, b, c, d, e, f]) : (w.cell? ⟨g, 0, none⟩ = some a ∧ w.cell? ⟨g, 1, none⟩ = some b ∧ w.cell? ⟨g, 2, none⟩ = some c ∧ w.cell? ⟨g, 3, none⟩ = some d ∧ w.cell? ⟨g, 4, none⟩ = some e ∧ w.cell? ⟨g, 5, none⟩ = some f) ∧
    (w.frozen? ⟨g, 0, none⟩ = false ∧ w.frozen? ⟨g, 1, none⟩ = false ∧ w.frozen? ⟨g, 2, none⟩ = false ∧ w.frozen? ⟨g, 3, none⟩ = false ∧ w.frozen? ⟨g, 4, none⟩ = false ∧ w.frozen? ⟨g, 5, none⟩ = false) ∧ g < w.heap.size := ⟨⟨h.cell 0, h.cell 1, h.cell 2, h.cell 3, h.cell 4, h.cell 5⟩, ⟨h.frozen 0, h.frozen 1, h.frozen 2, h.frozen 3, h.frozen 4, h.frozen 5⟩, h.lt⟩
theorem Blk.ext_no (h : Blk w g t cs) (he : Ext No w w') : Blk w' g t cs := h.ext he (fun h => h.elim)
end
theorem cell_new1 {W : World} {t : TypeId} {u : Value} {g : Nat} (hg : g = W.heap.size := by simp) : (W.alloc (.cells #[u] t)).cell? ⟨g, 0, none⟩ = some u := by subst hg; exact (Blk.new W t #[u]).cell 0
theorem cell_new1d {W : World} {t : TypeId} {u : Value} {g : Nat} (hg : g = W.heap.size := by simp) : (W.alloc (.cells #[u] t)).drew.cell? ⟨g, 0, none⟩ = some u := by subst hg; exact (Blk.new W t #[u]).cell 0
def Sl (w : World) (F : Nat → Prop) (size : Nat) (v : Value) (n : Nat) (xs : List Value) : Prop :=
  xs.length = n * size ∧ ∃ A c, v = .slice A n c ∧ n ≤ c ∧ c ≤ maxLen ∧
    (0 < n → ∃ b off, A = some ⟨b, off, none⟩ ∧ F b ∧ ∀ j u, xs[j]? = some u → w.cell? ⟨b, off + j, none⟩ = some u)
section
variable {S F F' : Nat → Prop} {w w' : World} {size n : Nat} {v : Value} {xs : List Value}
theorem Sl.nil (w : World) (F : Nat → Prop) (size : Nat) : Sl w F size (.slice none 0 0) 0 [] := ⟨by simp, _, _, rfl, Nat.le_refl _, Nat.zero_le _, fun h => absurd h (Nat.lt_irrefl 0)⟩
theorem Sl.step (h : Sl w F size v n xs) (hk : ∀ b, F b → b < w.heap.size → w'.heap[b]? = w.heap[b]?) : Sl w' F size v n xs := by
  obtain ⟨h1, A, c, hv, hc, hm, hn⟩ := h
  refine ⟨h1, A, c, hv, hc, hm, fun h0 => ?_⟩
  obtain ⟨b, off, hA, hF, hcell⟩ := hn h0
  refine ⟨b, off, hA, hF, fun j u hu => ?_⟩
  have := hcell j u hu
  rw [World.cell?_of_block (w := w) (hk b hF (World.block_lt_of_cell? w _ this))]
  exact this
theorem Sl.ext (h : Sl w F size v n xs) (he : Ext S w w') (hd : ∀ b, F b → b < w.heap.size → ¬ S b) : Sl w' F size v n xs :=
  h.step (fun b hF hb => he.block b hb (hd b hF hb))
theorem Sl.ext_no (h : Sl w F size v n xs) (he : Ext No w w') : Sl w' F size v n xs := h.ext he (fun _ _ _ h => h.elim)
theorem Sl.mono (h : Sl w F size v n xs) (hF : ∀ b, F b → F' b) : Sl w F' size v n xs := by
  obtain ⟨h1, A, c, hv, hc, hm, hn⟩ := h
  exact ⟨h1, A, c, hv, hc, hm, fun h0 => by
    obtain ⟨b, off, hA, hF', hcell⟩ := hn h0
    exact ⟨b, off, hA, hF _ hF', hcell⟩⟩
theorem Sl.of_own {base : Nat} {e : TypeId} (h : w.ownsRow base e size v n xs) : Sl w (fun b => base ≤ b ∧ b < w.heap.size ∧ ∃ cs, Blk w b e cs) size v n xs := by
  refine ⟨h.1, ?_⟩
  rcases h.2 with ⟨rfl, rfl⟩ | ⟨g, cap, cur, rfl, hb, hh, hc, hm, _⟩
  · exact ⟨none, 0, rfl, Nat.le_refl _, Nat.zero_le _, fun h => absurd h (Nat.lt_irrefl 0)⟩
  · refine ⟨_, cap, rfl, hc, hm, fun _ => ⟨g, 0, rfl, ⟨hb, (Array.getElem?_eq_some_iff.1 hh).1, cur, hh⟩, fun j u hu => ?_⟩⟩
    have := h.cells (g := g) rfl j u hu
    have ha : (⟨g, 0, none⟩ : Addr).add j = ⟨g, 0 + j, none⟩ := by unfold Addr.add; split <;> simp_all
    rwa [ha] at this
end
theorem quiet_left {P : Program} {f : FuncId} {args : Array Value} {w : World} {n : Nat} {v : Value}
    (h : Calls P f args (w.drewN n) fun e w' => e = .returned v ∧ w.drewN n = w') : Calls P f args (w.drewN n) fun e w'' => e = .returned v ∧ ∃ m, w'' = w.drewN m :=
  h.mono fun _ _ ⟨he, hm⟩ => ⟨he, n, hm.symm⟩
theorem quiet_left0 {P : Program} {f : FuncId} {args : Array Value} {w : World} {v : Value}
    (h : Calls P f args w fun e w' => e = .returned v ∧ w = w') : Calls P f args w fun e w'' => e = .returned v ∧ ∃ m, w'' = w.drewN m :=
  h.mono fun _ _ ⟨he, hm⟩ => ⟨he, 0, hm.symm⟩
end Go.Proofs.Ytmbbkkonmkbnoaa
namespace Go.Proofs.Ytmbbkkonmkbnoaa
open Go.RowKit Go.MapKept Go.ChangeMaps
/-- Block b is a map, whose keys are of kind d, and which answers get. -/
def Mp {K : Type} (w : World) (d : TypeDesc) (mk : K → Value) (b : Nat) (get : K → Option Value) : Prop :=
  ∃ es clock, w.heap[b]? = some (.map es clock) ∧ Stamped es clock ∧ (∀ x ∈ es.toList, ∃ k, x.key = mk k ∧ get k = some x.val) ∧ ∀ k v, get k = some v → ∃ x ∈ es.toList, x.key = mk k
section
variable {K : Type} {P : Program} {w w' : World} {d : TypeDesc} {mk : K → Value} {b : Nat} {get : K → Option Value}
theorem Mp.lt (h : Mp w d mk b get) : b < w.heap.size := by
  obtain ⟨es, clock, hb, _⟩ := h
  exact (Array.getElem?_eq_some_iff.1 hb).1
theorem Mp.ext {S : Nat → Prop} (h : Mp w d mk b get) (he : Ext S w w') (hn : ¬ S b) : Mp w' d mk b get := by
  have hlt := h.lt
  obtain ⟨es, clock, hb, r⟩ := h
  exact ⟨es, clock, (he.block b hlt hn).trans hb, r⟩
theorem Mp.ext_no (h : Mp w d mk b get) (he : Ext No w w') : Mp w' d mk b get := h.ext he (fun h => h)
theorem Mp.new (w : World) (d : TypeDesc) (mk : K → Value) : Mp (w.alloc (.map #[] 0)) d mk w.heap.size (fun _ => none) :=
  ⟨#[], 0, (MapKept.heap_alloc w _).1, stamped_empty 0, by simp, by simp⟩
/-- A block that is a map is none of cells. -/
theorem Mp.ne (h : Mp w d mk b get) {g : Nat} {t : TypeId} {cs : Array Value} (hb : Blk w g t cs) : b ≠ g := by
  rintro rfl
  obtain ⟨es, clock, hm, _⟩ := h
  unfold Blk at hb
  rw [hb] at hm
  cases hm
theorem Mp.find (inj : ∀ i j, mk i = mk j → i = j) (hkd : ∀ i, IsKey d (mk i)) (k : K) {es : Array MapEntry} (h1 : ∀ x ∈ es.toList, ∃ k, x.key = mk k ∧ get k = some x.val) (h2 : ∀ k v, get k = some v → ∃ x ∈ es.toList, x.key = mk k) :
    (Instr.findNow d (mk k) es.toList 0 = some none ∧ (∀ x ∈ es.toList, x.key ≠ mk k) ∧ get k = none) ∨ ∃ j e, Instr.findNow d (mk k) es.toList 0 = some (some (j, e.val)) ∧ es[j]? = some e ∧ e.key = mk k ∧ get k = some e.val := by
  have hks : ∀ x ∈ es.toList, IsKey d x.key := fun x hx => by obtain ⟨k', e, _⟩ := h1 x hx; rw [e]; exact hkd k'
  rcases findNow_spec (hkd k) es.toList 0 hks with ⟨h3, h4⟩ | ⟨j, e, h3, h4, h5⟩
  · refine .inl ⟨h3, h4, ?_⟩
    cases hg : get k with
    | none => rfl
    | some v =>
      obtain ⟨x, hx, hk⟩ := h2 k v hg
      exact absurd hk (h4 x hx)
  · refine .inr ⟨j, e, by simpa using h3, by simpa using h4, h5, ?_⟩
    obtain ⟨k', e1, e2⟩ := h1 e (List.mem_of_getElem? h4)
    rw [h5] at e1
    rw [inj _ _ e1]
    exact e2
theorem Mp.look {t k e : TypeId} (h : Mp w d mk b get) (inj : ∀ i j, mk i = mk j → i = j) (hkd : ∀ i, IsKey d (mk i)) (ht : P.underlying t = some (.map k e)) (hd : P.underlying k = some d) {z : Value} (hz : (zeroValue e).run P w = .ok z w) (kk : K) :
    (Instr.lookup t (.map (some b)) (mk kk) false).run P w = .ok ((get kk).getD z) w := by
  obtain ⟨es, clock, hb, hs, h1, h2⟩ := h
  rcases Mp.find inj hkd kk h1 h2 with ⟨h3, _, h5⟩ | ⟨j, x, h3, _, _, h5⟩
  · simp [Instr.lookup, run_underlying ht, MapKept.run_getObj_map hb, MapKept.run_checkKey hd (hkd kk), MapKept.run_findKey hd h3, hz, h5, Result.andThen]
  · simp [Instr.lookup, run_underlying ht, MapKept.run_getObj_map hb, MapKept.run_checkKey hd (hkd kk), MapKept.run_findKey hd h3, h5, Result.andThen]
theorem Mp.put [DecidableEq K] {t k e : TypeId} (h : Mp w d mk b get) (inj : ∀ i j, mk i = mk j → i = j) (hkd : ∀ i, IsKey d (mk i)) (ht : P.underlying t = some (.map k e)) (hd : P.underlying k = some d) (kk : K) (v : Value) :
    ∃ w2, (Instr.mapUpdate t (.map (some b)) (mk kk) v).run P w = .ok () w2 ∧ Mp w2 d mk b (fun i => if i = kk then some v else get i) ∧ Ext (One b) w w2 ∧ w2.heap.size = w.heap.size := by
  obtain ⟨es, clock, hb, hs, h1, h2⟩ := h
  have hext : ∀ o, Ext (One b) w { w with heap := w.heap.setIfInBounds b o } := fun o => ⟨rfl, rfl, rfl, by simp, fun k hk hn => by
    have hn : ¬ k = b := hn
    exact (MapKept.heap_set (o' := o) hb).2 k hn⟩
  rcases Mp.find inj hkd kk h1 h2 with ⟨h3, h4, h5⟩ | ⟨j, x, h3, h4, h5, h6⟩
  · refine ⟨{ w with heap := w.heap.setIfInBounds b (.map (es.push ⟨mk kk, v, clock⟩) (clock + 1)) }, ?_, ⟨_, _, (MapKept.heap_set hb).1, stamped_push hs h4, ?_, ?_⟩, hext _, by simp⟩
    · simp [Instr.mapUpdate, run_underlying ht, MapKept.run_getObj_map hb, MapKept.run_checkKey hd (hkd kk), MapKept.run_findKey hd h3, MapKept.run_setObj_map _ hb, Result.andThen]
    · intro y hy
      simp only [Array.toList_push, List.mem_append, List.mem_singleton] at hy
      rcases hy with hy | rfl
      · obtain ⟨k', e1, e2⟩ := h1 y hy
        refine ⟨k', e1, ?_⟩
        have : k' ≠ kk := fun e3 => h4 y hy (by rw [e1, e3])
        show (if k' = kk then some v else get k') = _
        rw [if_neg this, e2]
      · exact ⟨kk, rfl, by simp⟩
    · intro i u hu
      simp only [Array.toList_push]
      by_cases hi : i = kk
      · exact ⟨_, List.mem_append_right _ (List.mem_singleton.2 rfl), by rw [hi]⟩
      · have hu : (if i = kk then some v else get i) = some u := hu
        rw [if_neg hi] at hu
        obtain ⟨y, hy, e⟩ := h2 i u hu
        exact ⟨y, List.mem_append_left _ hy, e⟩
  · have hkeyf : ∀ e', es[j]? = some e' → ({ e' with key := mk kk, val := v } : MapEntry).key = e'.key := fun e' he' => by rw [h4] at he'; cases he'; exact h5.symm
    refine ⟨{ w with heap := w.heap.setIfInBounds b (.map (es.modify j fun e' => { e' with key := mk kk, val := v }) clock) }, ?_, ⟨_, _, (MapKept.heap_set hb).1, stamped_modify hs _ _ (fun _ _ => rfl) (fun e' _ he' => hkeyf e' he'), ?_, ?_⟩, hext _, by simp⟩
    · simp [Instr.mapUpdate, run_underlying ht, MapKept.run_getObj_map hb, MapKept.run_checkKey hd (hkd kk), MapKept.run_findKey hd h3, h4, h5, run_keyThatStays (hkd kk), MapKept.run_setObj_map _ hb, Result.andThen]
    · intro y hy
      obtain ⟨i, hi, rfl⟩ := List.getElem_of_mem hy
      simp only [Array.length_toList, Array.size_modify] at hi
      simp only [Array.getElem_toList, Array.getElem_modify]
      by_cases hij : j = i
      · subst hij
        rw [if_pos rfl]
        exact ⟨kk, rfl, by simp⟩
      · rw [if_neg hij]
        obtain ⟨k', e1, e2⟩ := h1 es[i] (Array.mem_toList_iff.2 (Array.getElem_mem hi))
        refine ⟨k', e1, ?_⟩
        have : k' ≠ kk := by
          rintro rfl
          have hj : j < es.size := (Array.getElem?_eq_some_iff.1 h4).1
          have hx : es[j] = x := (Array.getElem?_eq_some_iff.1 h4).2
          have hp := (stamped_iff es clock).1 hs |>.2.2
          rw [List.pairwise_iff_getElem] at hp
          rcases Nat.lt_or_gt_of_ne hij with hlt | hlt
          · exact hp j i (by simpa using hj) (by simpa using hi) hlt (by simp only [Array.getElem_toList]; rw [hx, h5, e1])
          · exact hp i j (by simpa using hi) (by simpa using hj) hlt (by simp only [Array.getElem_toList]; rw [hx, h5, e1])
        show (if k' = kk then some v else get k') = _
        rw [if_neg this, e2]
    · intro i u hu
      have keys : (es.modify j fun e' => { e' with key := mk kk, val := v }).toList.map (·.key) = es.toList.map (·.key) := modify_keys j _ hkeyf
      have : mk i ∈ (es.modify j fun e' => { e' with key := mk kk, val := v }).toList.map (·.key) := by
        rw [keys]
        by_cases hi : i = kk
        · exact List.mem_map.2 ⟨x, Array.mem_toList_iff.2 (Array.mem_of_getElem? h4), by rw [h5, hi]⟩
        · have hu : (if i = kk then some v else get i) = some u := hu
          rw [if_neg hi] at hu
          obtain ⟨y, hy, e⟩ := h2 i u hu
          exact List.mem_map.2 ⟨y, hy, e⟩
      obtain ⟨y, hy, e⟩ := List.mem_map.1 this
      exact ⟨y, hy, e⟩
theorem wp_look {o : Oper} {a : Act} {K' : Act → World → Prop} {Q : Exit → Act → World → Prop} {t k e : TypeId} (m x : Operand) (hop : o.op = Op.lookup t m x false)
    (h : Mp w d mk b get) (inj : ∀ i j, mk i = mk j → i = j) (hkd : ∀ i, IsKey d (mk i)) (ht : P.underlying t = some (.map k e)) (hd : P.underlying k = some d) {z : Value} (hz : (zeroValue e).run P w = .ok z w) (kk : K)
    (hm : a.eval m = .map (some b)) (hx : a.eval x = mk kk) (hK : K' (a.put o.dst ((get kk).getD z)) w) : o.wp P a w K' Q := by
  have hrun := h.look inj hkd ht hd hz kk
  unfold Oper.wp
  simp [execOp, hop, hm, hx, hrun, Result.andThen]
  exact hK
theorem wp_put [DecidableEq K] {o : Oper} {a : Act} {K' : Act → World → Prop} {Q : Exit → Act → World → Prop} {t k e : TypeId} (m x y : Operand) (hop : o.op = Op.mapUpdate t m x y)
    (h : Mp w d mk b get) (inj : ∀ i j, mk i = mk j → i = j) (hkd : ∀ i, IsKey d (mk i)) (ht : P.underlying t = some (.map k e)) (hd : P.underlying k = some d) (kk : K) (v : Value)
    (hm : a.eval m = .map (some b)) (hx : a.eval x = mk kk) (hy : a.eval y = v) (hK : ∀ w2, Mp w2 d mk b (fun i => if i = kk then some v else get i) → Ext (One b) w w2 → w2.heap.size = w.heap.size → K' (a.put o.dst undef) w2) : o.wp P a w K' Q := by
  obtain ⟨w2, hrun, h1, h2, h3⟩ := h.put (P := P) inj hkd ht hd kk v
  unfold Oper.wp
  simp [execOp, hop, hm, hx, hy, hrun, Result.andThen]
  exact hK w2 h1 h2 h3
/-- m[k], at the operation. -/
theorem wpList_look {ops : Array Oper} {rest : List Oper} {o : Oper} {a : Act} {Q : Exit → Act → World → Prop} {t k e : TypeId} (m x : Operand) (hg : o.guard = none) (hop : o.op = Op.lookup t m x false)
    (h : Mp w d mk b get) (inj : ∀ i j, mk i = mk j → i = j) (hkd : ∀ i, IsKey d (mk i)) (ht : P.underlying t = some (.map k e)) (hd : P.underlying k = some d) {z : Value} (hz : (zeroValue e).run P w = .ok z w) (kk : K)
    (hm : a.eval m = .map (some b)) (hx : a.eval x = mk kk) (hK : wpList P ops Q rest (a.put o.dst ((get kk).getD z)) w) : wpList P ops Q (o :: rest) a w := by
  refine wpList_plain hg fun K' hK' => ?_
  have hrun := h.look inj hkd ht hd hz kk
  unfold Oper.wp
  simp [execOp, hop, hm, hx, hrun, Result.andThen]
  exact hK' _ _ hK
/-- m[k] = v, at the operation. -/
theorem wpList_put [DecidableEq K] {ops : Array Oper} {rest : List Oper} {o : Oper} {a : Act} {Q : Exit → Act → World → Prop} {t k e : TypeId} (m x y : Operand) (hg : o.guard = none) (hop : o.op = Op.mapUpdate t m x y)
    (h : Mp w d mk b get) (inj : ∀ i j, mk i = mk j → i = j) (hkd : ∀ i, IsKey d (mk i)) (ht : P.underlying t = some (.map k e)) (hd : P.underlying k = some d) (kk : K) (v : Value)
    (hm : a.eval m = .map (some b)) (hx : a.eval x = mk kk) (hy : a.eval y = v) (hK : ∀ w2, Mp w2 d mk b (fun i => if i = kk then some v else get i) → Ext (One b) w w2 → w2.heap.size = w.heap.size → wpList P ops Q rest (a.put o.dst undef) w2) : wpList P ops Q (o :: rest) a w := by
  refine wpList_plain hg fun K' hK' => ?_
  obtain ⟨w2, hrun, h1, h2, h3⟩ := h.put (P := P) inj hkd ht hd kk v
  unfold Oper.wp
  simp [execOp, hop, hm, hx, hy, hrun, Result.andThen]
  exact hK' _ _ (hK w2 h1 h2 h3)
end
end Go.Proofs.Ytmbbkkonmkbnoaa
namespace Go.Proofs.Ytmbbkkonmkbnoaa
open Go.RowKit
def u8v (b : UInt8) : Value := .int .u8 (b.toNat : Int)
def u8s (l : List UInt8) : List Value := l.map u8v
theorem u8s_length (l : List UInt8) : (u8s l).length = l.length := by simp [u8s]
theorem u8s_append (l m : List UInt8) : u8s (l ++ m) = u8s l ++ u8s m := by simp [u8s]
theorem u8s_get {l : List UInt8} {k : Nat} (hk : k < l.length) : (u8s l)[k]? = some (.int .u8 (l[k].toNat : Int)) := by simp [u8s, u8v, hk]
/-- v is a slice of the bytes l; where it has any, they lie in a block of F. -/
def Bs (w : World) (F : Nat → Prop) (v : Value) (l : List UInt8) : Prop := Sl w F 1 v l.length (u8s l)
abbrev Any : Nat → Prop := fun _ => True
section
variable {S F F' : Nat → Prop} {w w' : World} {v : Value} {l : List UInt8}
theorem Bs.slice (h : Bs w F v l) : ∃ A c, v = .slice A l.length c ∧ l.length ≤ c ∧ c ≤ maxLen ∧
    ∃ b off, ∀ k, (hk : k < l.length) → A = some ⟨b, off, none⟩ ∧ F b ∧ b < w.heap.size ∧ w.cell? ⟨b, off + k, none⟩ = some (.int .u8 (l[k].toNat : Int)) := by
  obtain ⟨h1, A, c, hv, hc, hm, hn⟩ := h
  refine ⟨A, c, hv, hc, hm, ?_⟩
  rcases Nat.eq_zero_or_pos l.length with h0 | h0
  · exact ⟨0, 0, fun k hk => absurd hk (by omega)⟩
  · obtain ⟨b, off, hA, hF, hcell⟩ := hn h0
    refine ⟨b, off, fun k hk => ?_⟩
    have := hcell k _ (u8s_get hk)
    exact ⟨hA, hF, World.block_lt_of_cell? w _ this, this⟩
theorem Bs.ext (h : Bs w F v l) (he : Ext S w w') (hd : ∀ b, F b → b < w.heap.size → ¬ S b) : Bs w' F v l := Sl.ext h he hd
theorem Bs.ext_no (h : Bs w F v l) (he : Ext No w w') : Bs w' F v l := Sl.ext_no h he
theorem Bs.drew (h : Bs w F v l) : Bs w.drew F v l := h
theorem Bs.drewN (h : Bs w F v l) (n : Nat) : Bs (w.drewN n) F v l := h
theorem Bs.mono (h : Bs w F v l) (hF : ∀ b, F b → F' b) : Bs w F' v l := Sl.mono h hF
theorem Bs.any (h : Bs w F v l) : Bs w Any v l := h.mono fun _ _ => trivial
theorem Bs.nil (w : World) (F : Nat → Prop) : Bs w F (.slice none 0 0) [] := Sl.nil w F 1
end
/-- v is a slice of the call's own of the bytes l. -/
def Own (w : World) (base : Nat) (v : Value) (l : List UInt8) : Prop := w.ownsRow base 5 1 v l.length (u8s l)
section
variable {S F F' : Nat → Prop} {w w' : World} {v : Value} {l : List UInt8} {base : Nat}
theorem Own.bs (h : Own w base v l) : Bs w (fun b => base ≤ b ∧ b < w.heap.size ∧ ∃ cs, Blk w b 5 cs) v l := Sl.of_own h
theorem Own.any (h : Own w base v l) : Bs w Any v l := h.bs.any
theorem Own.nil (w : World) (base : Nat) : Own w base (.slice none 0 0) [] := World.ownsRow_nil w base _ 1
theorem Own.less {base' : Nat} (h : Own w base v l) (hb : base' ≤ base) : Own w base' v l := by
  obtain ⟨h1, h2⟩ := h
  refine ⟨h1, ?_⟩
  rcases h2 with h2 | ⟨g, cap, cur, hv, hg, r⟩
  · exact .inl h2
  · exact .inr ⟨g, cap, cur, hv, Nat.le_trans hb hg, r⟩
theorem Own.ext (h : Own w base v l) (he : Ext S w w') (hd : ∀ b, v.ownBlock = some b → ¬ S b) : Own w' base v l := by
  obtain ⟨h1, h2⟩ := h
  refine ⟨h1, ?_⟩
  rcases h2 with h2 | ⟨g, cap, cur, hv, hg, hh, r⟩
  · exact .inl h2
  · exact .inr ⟨g, cap, cur, hv, hg, (he.block g (Array.getElem?_eq_some_iff.1 hh).1 (hd g (by rw [hv]; rfl))).trans hh, r⟩
theorem Own.ext_no (h : Own w base v l) (he : Ext No w w') : Own w' base v l := h.ext he fun _ _ h => h
theorem Own.alloc (h : Own w base v l) (o : Obj) : Own (w.alloc o) base v l := World.ownsRow.alloc h o
theorem Own.slice (h : Own w base v l) : ∃ A c, v = .slice A l.length c ∧ l.length ≤ c := by
  obtain ⟨_, A, c, hv, hc, _⟩ := h.bs
  exact ⟨A, c, hv, hc⟩
theorem Own.len {A : Option Addr} {n c : Nat} (h : Own w base (.slice A n c) l) : n = l.length := by
  obtain ⟨A', c', e, _⟩ := h.slice
  injection e
theorem Own.lt (h : Own w base v l) : ∀ k, v.ownBlock = some k → base ≤ k ∧ k < w.heap.size := World.ownsRow.lt h
end
theorem u8_beq (a b : UInt8) : ((a.toNat : Int) == (b.toNat : Int)) = decide (a = b) := by
  by_cases h : a = b
  · simp [h]
  · have : a.toNat ≠ b.toNat := fun e => h (UInt8.toNat_inj.1 e)
    simp [h]; omega
section
variable {P : Program} {w : World}
theorem run_app (base : Nat) (t ty e : TypeId) (z : Value) (size bytes : Nat) (ht : P.underlying t = some (.slice e)) (hinfo : (P.info? e).map (fun i => (i.zero, i.size, i.bytes)) = some (some z, size, bytes))
    (hzs : z.cells.size = size) (hsz : 0 < size) (v : Value) (n : Nat) (xs : List Value) (hown : w.ownsRow base e size v n xs) (F : Nat → Prop) (u : Value) (m : Nat) (news : List Value) (hu : Sl w F size u m news)
    (h1 : ∀ y ∈ news, y.oneCell' = true) (h63 : n + m ≤ maxLen) (hbytes : (n + m) * bytes ≤ 140737488355328) (hbase : base ≤ w.heap.size) :
    ∃ v' w', (Builtin.append_ #[t, t] ty #[v, u]).run P w = .ok v' w' ∧ w'.ownsRow base e size v' (n + m) (xs ++ news) ∧ w.grownBy w' v.ownBlock ∧ (v'.ownBlock = v.ownBlock ∨ v'.ownBlock = some w.heap.size) := by
  obtain ⟨i, hi, hz0, hz1, hz2⟩ := info_parts hinfo
  obtain ⟨hl, A, c, rfl, hc, hm, hcell⟩ := hu
  rcases A with _ | ad
  · have hm0 : m = 0 := by
      rcases Nat.eq_zero_or_pos m with h0 | h0
      · exact h0
      · obtain ⟨b, off, h, _⟩ := hcell h0
        cases h
    subst hm0
    obtain rfl : news = [] := List.eq_nil_of_length_eq_zero (by simpa using hl)
    refine ⟨v, w, ?_, by simpa using hown, World.grownBy.refl w _, .inl rfl⟩
    rcases hown.2 with ⟨rfl, rfl⟩ | ⟨g, cap, cur, rfl, _, _, hnc, _⟩
    · simp [Builtin.append_, run_underlying ht, sizeOf, typeInfo, hi, Builtin.lenOf, Builtin.firstCells]
    · simp [Builtin.append_, run_underlying ht, sizeOf, typeInfo, hi, Builtin.lenOf, Builtin.firstCells, hnc, storeCells]
  · have hcells : ∀ j y, news[j]? = some y → w.cell? (ad.add j) = some y := by
      intro j y hy
      rcases Nat.eq_zero_or_pos m with h0 | h0
      · subst h0
        obtain rfl : news = [] := List.eq_nil_of_length_eq_zero (by simpa using hl)
        simp at hy
      · obtain ⟨b, off, h, _, hcc⟩ := hcell h0
        injection h with h
        subst h
        rw [show (⟨b, off, none⟩ : Addr).add j = ⟨b, off + j, none⟩ by unfold Addr.add; split <;> simp_all]
        exact hcc j y hy
    obtain ⟨v', w', hr, h2, h3, _, h5⟩ := run_append_own_at (P := P) w base t ty e i z size bytes ht hi hz0 hz1 hz2 hzs hsz v n xs hown ad m c news hl hcells h1 h63 hbytes hbase
    exact ⟨v', w', hr, h2, h3, h5⟩
theorem wp_app {o : Oper} {a : Act} {K : Act → World → Prop} {Q : Exit → Act → World → Prop} (s x : Operand) (t : TypeId)
    (ho : o.op = .call { callee := .builtin .append, args := #[s, x], argTypes := #[t, t] })
    (base : Nat) (e : TypeId) (z : Value) (size bytes : Nat) (ht : P.underlying t = some (.slice e)) (hinfo : (P.info? e).map (fun i => (i.zero, i.size, i.bytes)) = some (some z, size, bytes))
    (hzs : z.cells.size = size) (hsz : 0 < size) (v : Value) (n : Nat) (xs : List Value) (hs : a.eval s = v) (hown : w.ownsRow base e size v n xs) (F : Nat → Prop) (u : Value) (m : Nat) (news : List Value)
    (hx : a.eval x = u) (hu : Sl w F size u m news) (h1 : ∀ y ∈ news, y.oneCell' = true) (h63 : n + m ≤ maxLen) (hbytes : (n + m) * bytes ≤ 140737488355328) (hbase : base ≤ w.heap.size)
    (h : ∀ v' w', w'.ownsRow base e size v' (n + m) (xs ++ news) → w.grownBy w' v.ownBlock → (v'.ownBlock = v.ownBlock ∨ v'.ownBlock = some w.heap.size) → K (a.put o.dst v') w') : o.wp P a w K Q := by
  obtain ⟨v', w', hr, h2, h3, h4⟩ := run_app (P := P) base t o.type e z size bytes ht hinfo hzs hsz v n xs hown F u m news hu h1 h63 hbytes hbase
  unfold Oper.wp execOp
  simp only [ho, resolve, invoke, builtin, Sem.run_bind, Sem.run_pure, Result.andThen_ok, List.map_toArray, List.map_cons, List.map_nil, hs, hx, hr]
  exact h v' w' h2 h3 h4
theorem wpList_app {ops : Array Oper} {rest : List Oper} {o : Oper} {a : Act} {Q : Exit → Act → World → Prop} (hgd : o.guard = none) (s x : Operand) (t : TypeId)
    (ho : o.op = .call { callee := .builtin .append, args := #[s, x], argTypes := #[t, t] })
    (base : Nat) (e : TypeId) (z : Value) (size bytes : Nat) (ht : P.underlying t = some (.slice e)) (hinfo : (P.info? e).map (fun i => (i.zero, i.size, i.bytes)) = some (some z, size, bytes))
    (hzs : z.cells.size = size) (hsz : 0 < size) (v : Value) (n : Nat) (xs : List Value) (hs : a.eval s = v) (hown : w.ownsRow base e size v n xs) (F : Nat → Prop) (u : Value) (m : Nat) (news : List Value)
    (hx : a.eval x = u) (hu : Sl w F size u m news) (h1 : ∀ y ∈ news, y.oneCell' = true) (h63 : n + m ≤ maxLen) (hbytes : (n + m) * bytes ≤ 140737488355328) (hbase : base ≤ w.heap.size)
    (h : ∀ v' w', w'.ownsRow base e size v' (n + m) (xs ++ news) → w.grownBy w' v.ownBlock → (v'.ownBlock = v.ownBlock ∨ v'.ownBlock = some w.heap.size) → wpList P ops Q rest (a.put o.dst v') w') : wpList P ops Q (o :: rest) a w :=
  wpList_plain hgd fun _ hK => wp_app s x t ho base e z size bytes ht hinfo hzs hsz v n xs hs hown F u m news hx hu h1 h63 hbytes hbase fun v' w' h2 h3 h4 => hK _ _ (h v' w' h2 h3 h4)
theorem step_app {o : Oper} {a : Act} {K : Act → World → Prop} {Q : Exit → Act → World → Prop} {ops : Array Oper} {E : Prop} (hgd : o.guard = none) (s x : Operand) (t : TypeId)
    (ho : o.op = .call { callee := .builtin .append, args := #[s, x], argTypes := #[t, t] })
    (base : Nat) (e : TypeId) (z : Value) (size bytes : Nat) (ht : P.underlying t = some (.slice e)) (hinfo : (P.info? e).map (fun i => (i.zero, i.size, i.bytes)) = some (some z, size, bytes))
    (hzs : z.cells.size = size) (hsz : 0 < size) (v : Value) (n : Nat) (xs : List Value) (hs : a.eval s = v) (hown : w.ownsRow base e size v n xs) (F : Nat → Prop) (u : Value) (m : Nat) (news : List Value)
    (hx : a.eval x = u) (hu : Sl w F size u m news) (h1 : ∀ y ∈ news, y.oneCell' = true) (h63 : n + m ≤ maxLen) (hbytes : (n + m) * bytes ≤ 140737488355328) (hbase : base ≤ w.heap.size)
    (h : ∀ v' w', w'.ownsRow base e size v' (n + m) (xs ++ news) → w.grownBy w' v.ownBlock → (v'.ownBlock = v.ownBlock ∨ v'.ownBlock = some w.heap.size) → K (a.put o.dst v') w') :
    if Region.wanted o (yielded ops a.tmps) = true then Oper.wp P o a w K Q else E := by
  rw [if_pos (by simp [Region.wanted, hgd])]
  exact wp_app s x t ho base e z size bytes ht hinfo hzs hsz v n xs hs hown F u m news hx hu h1 h63 hbytes hbase h
end
theorem u8s_one (l : List UInt8) : ∀ y ∈ u8s l, y.oneCell' = true := by
  intro y hy
  simp only [u8s, List.mem_map] at hy
  obtain ⟨b, _, rfl⟩ := hy
  rfl
theorem info_u8 : (Try.prog.info? 5).map (fun i => (i.zero, i.size, i.bytes)) = some (some (.int .u8 0), 1, 1) := by kernel_rfl
theorem info_bytes : (Try.prog.info? 22).map (fun i => (i.zero, i.size, i.bytes)) = some (some (.slice none 0 0), 1, 24) := by kernel_rfl
/-- append(b, x...) on bytes. -/
theorem app_bytes {w : World} {ops : Array Oper} {rest : List Oper} {o : Oper} {a : Act} {Q : Exit → Act → World → Prop} (s x : Operand)
    (ho : o.op = .call { callee := .builtin .append, args := #[s, x], argTypes := #[22, 22] }) (hgd : o.guard = none)
    (base : Nat) (v u : Value) (l m : List UInt8) (hs : a.eval s = v) (hx : a.eval x = u) (hown : Own w base v l) (F : Nat → Prop) (hu : Bs w F u m) (hb : l.length + m.length ≤ 140737488355328) (hbase : base ≤ w.heap.size)
    (h : ∀ v' w', Own w' base v' (l ++ m) → w.grownBy w' v.ownBlock → (v'.ownBlock = v.ownBlock ∨ v'.ownBlock = some w.heap.size) → wpList Try.prog ops Q rest (a.put o.dst v') w') : wpList Try.prog ops Q (o :: rest) a w :=
  wpList_app hgd s x _ ho base 5 (.int .u8 0) 1 1 Try.underlying22 info_u8 rfl (by omega) v l.length (u8s l) hs hown F u m.length (u8s m) hx hu (u8s_one m) (by unfold maxLen; omega) (by omega) hbase
    fun v' w' h2 h3 h4 => h v' w' (by unfold Own; rw [u8s_append, List.length_append]; exact h2) h3 h4
theorem step_bytes {w : World} {ops : Array Oper} {o : Oper} {a : Act} {K : Act → World → Prop} {Q : Exit → Act → World → Prop} {E : Prop} (s x : Operand)
    (ho : o.op = .call { callee := .builtin .append, args := #[s, x], argTypes := #[22, 22] }) (hgd : o.guard = none)
    (base : Nat) (v u : Value) (l m : List UInt8) (hs : a.eval s = v) (hx : a.eval x = u) (hown : Own w base v l) (F : Nat → Prop) (hu : Bs w F u m) (hb : l.length + m.length ≤ 140737488355328) (hbase : base ≤ w.heap.size)
    (h : ∀ v' w', Own w' base v' (l ++ m) → w.grownBy w' v.ownBlock → (v'.ownBlock = v.ownBlock ∨ v'.ownBlock = some w.heap.size) → K (a.put o.dst v') w') : if Region.wanted o (yielded ops a.tmps) = true then Oper.wp Try.prog o a w K Q else E :=
  step_app hgd s x _ ho base 5 (.int .u8 0) 1 1 Try.underlying22 info_u8 rfl (by omega) v l.length (u8s l) hs hown F u m.length (u8s m) hx hu (u8s_one m) (by unfold maxLen; omega) (by omega) hbase
    fun v' w' h2 h3 h4 => h v' w' (by unfold Own; rw [u8s_append, List.length_append]; exact h2) h3 h4
/-- The one byte that 'append(b, x)' lays before it appends. -/
theorem bs_lit1' (w : World) (z : Int) (x : UInt8) (hz : z = (x.toNat : Int)) {g : Nat} (hg : g = w.heap.size := by simp) : Bs (w.alloc (.cells #[.int .u8 z] 5)) (fun b => b = w.heap.size) (.slice (some ⟨g, 0, none⟩) 1 1) [x] := by
  subst hz hg
  refine ⟨by simp [u8s], _, _, rfl, Nat.le_refl _, by unfold maxLen; decide, fun _ => ⟨w.heap.size, 0, rfl, rfl, fun j u hu => ?_⟩⟩
  match j, hu with
  | 0, hu =>
    have : u = .int .u8 (x.toNat : Int) := by simpa [u8s, u8v] using hu.symm
    subst this
    exact (Blk.new w _ _).cell 0
theorem bs_litN (w : World) (l : List UInt8) (hl : l.length ≤ maxLen) {g : Nat} (hg : g = w.heap.size := by simp) : Bs (w.alloc (.cells (u8s l).toArray 5)) (fun b => b = w.heap.size) (.slice (some ⟨g, 0, none⟩) l.length l.length) l := by
  subst hg
  refine ⟨by simp [u8s], _, _, rfl, Nat.le_refl _, hl, fun _ => ⟨w.heap.size, 0, rfl, rfl, fun j u hu => ?_⟩⟩
  have := (Blk.new w 5 (u8s l).toArray).cell j
  rw [Nat.zero_add, this]
  simpa using hu
/-- make([]byte, m). -/
theorem own_made (W : World) (base m : Nat) (hb : base ≤ W.heap.size) (hm : m ≤ maxLen) {g : Nat} (hg : g = W.heap.size := by simp) :
    Own (W.alloc (.cells (madeCells #[.int .u8 0] m) 5)) base (.slice (some ⟨g, 0, none⟩) m m) (List.replicate m 0) := by
  subst hg
  have h := World.ownsRow_lit (base := base) (e := 5) (size := 1) W (madeCells #[.int .u8 0] m) m hb hm (by simp [size_madeCells])
  have e : (madeCells #[Value.int .u8 0] m).toList = u8s (List.replicate m 0) := by rw [toList_madeCells_one]; simp [u8s, u8v]
  rw [e] at h
  unfold Own
  rw [List.length_replicate]
  exact h
set_option maxRecDepth 100000 in
set_option maxHeartbeats 400000 in
theorem rSame_any (v1 v2 : Value) (l1 l2 : List UInt8) (w : World) (h1 : Bs w Any v1 l1) (h2 : Bs w Any v2 l2) :
    Calls Try.prog 25 #[v1, v2] w fun e w' => e = .returned (.bool (decide (l1 = l2))) ∧ ∃ n, w' = w.drewN n := by
  obtain ⟨A1, c1, rfl, hc1, hm1, b1, o1, hA1⟩ := h1.slice
  obtain ⟨A2, c2, rfl, hc2, hm2, b2, o2, hA2⟩ := h2.slice
  unfold maxLen at hm1 hm2
  by_cases hl : l1.length = l2.length
  · have hb : ((l1.length : Int) != (l2.length : Int)) = false := by simp [hl]
    have HL := Lib.hid hl
    have H1 := Lib.hid hA1
    have H2 := Lib.hid hA2
    clear hl hA1 hA2 h1 h2
    go_enter Try.func25, Try.ntmps25
    go_wp2
    go_loopw [5] (fun i wr => ∃ k : Nat, k ≤ l1.length ∧ i = .int .i64 k ∧ Hid (l1.take k = l2.take k) ∧ ∃ n, wr = w.drewN n) (fun i _ => l1.length - (intOf i).toNat)
    case atStart => exact ⟨0, by omega, rfl, by simp [Hid], 0, rfl⟩
    case round =>
      obtain ⟨k, hk, rfl, HT, n, rfl⟩ := hrel
      by_cases hlt : k < l1.length
      · have hlt2 : k < l2.length := by have := HL.out; omega
        obtain ⟨rfl, _, _, e1⟩ := H1.out k hlt
        obtain ⟨rfl, _, _, e2⟩ := H2.out k hlt2
        have hi0 : (0 : Int) ≤ (k : Int) := by omega
        have hi1 : (k : Int) < (l1.length : Int) := by omega
        have hi2 : (k : Int) < (l2.length : Int) := by omega
        have hs1 : l1.take (k + 1) = l1.take k ++ [l1[k]] := List.take_succ_eq_append_getElem hlt
        have hs2 : l2.take (k + 1) = l2.take k ++ [l2[k]] := List.take_succ_eq_append_getElem hlt2
        by_cases heq : l1[k] = l2[k]
        · have he : ((l1[k].toNat : Int) != (l2[k].toNat : Int)) = false := by simp [heq]
          have HS : Hid (l1.take (k + 1) = l2.take (k + 1)) := by rw [hs1, hs2, HT.out, heq]; exact rfl
          clear hs1 hs2 heq
          go_wp2_with fail
          go_quiet (fail)
          go_wp2
          go_roundw
          case rel => exact ⟨k + 1, by omega, by go_num, HS, n + nq, by first | rfl | exact World.drewN_drewN ..⟩
          case measure => simp [intOf]; omega
        · have he : ((l1[k].toNat : Int) != (l2[k].toNat : Int)) = true := by
            have := u8_beq l1[k] l2[k]
            simp only [bne, this]; simp [heq]
          have hne : decide (l1 = l2) = false := by
            simp only [decide_eq_false_iff_not]
            rintro rfl
            exact heq rfl
          have HN := Lib.hid hne
          clear hs1 hs2 hne heq
          go_wp2_with fail
          go_quiet (fail)
          go_wp2
          go_ret
          exact ⟨by rw [HN.out]; rfl, n + nq, by first | rfl | exact World.drewN_drewN ..⟩
      · have hke : k = l1.length := by omega
        have HE : Hid (decide (l1 = l2) = true) := by
          have h := HT.out
          have hl := HL.out
          rw [List.take_of_length_le (by omega), List.take_of_length_le (by omega)] at h
          simpa [Hid] using h
        clear hke
        go_wp2
        go_ret
        exact ⟨by rw [HE.out]; rfl, n, rfl⟩
  · have hb : ((l1.length : Int) != (l2.length : Int)) = true := by simp; omega
    have HN : Hid (decide (l1 = l2) = false) := by
      show decide (l1 = l2) = false
      simp only [decide_eq_false_iff_not]
      rintro rfl
      exact hl rfl
    clear hl hA1 hA2 h1 h2
    go_enter Try.func25, Try.ntmps25
    go_wp2
    go_ret
    exact ⟨by rw [HN.out]; rfl, 0, rfl⟩
end Go.Proofs.Ytmbbkkonmkbnoaa
namespace Go.Proofs.Ytmbbkkonmkbnoaa
open Go.RowKit
/-- A number in so many bytes, the highest first. -/
def putL (n : Nat) : Nat → List UInt8
  | 0 => []
  | s + 1 => putL (n / 256) s ++ [UInt8.ofNat (n % 256)]
theorem putL_length (n s : Nat) : (putL n s).length = s := by
  induction s generalizing n with
  | zero => rfl
  | succ s ih => simp [putL, ih]
theorem putL_snoc (n s k : Nat) (h : k < s) : putL (n / 256 ^ (s - (k + 1))) (k + 1) = putL (n / 256 ^ (s - k)) k ++ [UInt8.ofNat (n / 2 ^ (8 * (s - 1 - k)) % 256)] := by
  have e1 : n / 256 ^ (s - (k + 1)) / 256 = n / 256 ^ (s - k) := by
    rw [Nat.div_div_eq_div_mul, ← Nat.pow_succ, Nat.succ_eq_add_one, show s - (k + 1) + 1 = s - k by omega]
  have e2 : 2 ^ (8 * (s - 1 - k)) = 256 ^ (s - (k + 1)) := by
    rw [show s - 1 - k = s - (k + 1) by omega, Nat.pow_mul]
  rw [putL, e1, e2]
theorem byte_cast (m : Nat) : ((m : Int) % 256) = ((UInt8.ofNat (m % 256)).toNat : Int) := by
  rw [UInt8.toNat_ofNat']; omega
set_option maxRecDepth 100000 in
set_option maxHeartbeats 400000 in
theorem oPut_any (n size : Nat) (w : World) (hn : n ≤ 18446744073709551615) (hs : size ≤ 100000) :
    Calls Try.prog 77 #[.int .u64 (n : Int), .int .i64 (size : Int)] w fun e w' => ∃ v, e = .returned v ∧ Own w' w.heap.size v (putL n size) ∧ Ext No w w' := by
  go_enter Try.func77, Try.ntmps77
  go_wp2
  go_loopw [5, 6] (fun v i wr => ∃ k : Nat, k ≤ size ∧ i = .int .i64 ((size : Int) - 1 - k) ∧ Own wr w.heap.size v (putL (n / 256 ^ (size - k)) k) ∧ Ext No w wr) (fun _ i _ => (intOf i + 1).toNat)
  case atStart => exact ⟨0, by omega, by simp, Own.nil _ _, Ext.refl _ _⟩
  case round =>
    obtain ⟨k, hk, rfl, hown, hx⟩ := hrel
    have hpl := putL_length (n / 256 ^ (size - k)) k
    have hsz := hx.size
    by_cases hlt : k < size
    · have HS := Lib.hid (putL_snoc n size k hlt)
      by_cases h7 : 7 < (size : Int) - 1 - k
      · have e0 : UInt8.ofNat (n / 2 ^ (8 * (size - 1 - k)) % 256) = UInt8.ofNat 0 := by
          have : n / 2 ^ (8 * (size - 1 - k)) = 0 := by
            rw [Nat.div_eq_of_lt]
            refine Nat.lt_of_le_of_lt hn ?_
            exact Nat.lt_of_lt_of_le (by decide : 18446744073709551615 < 2 ^ 64) (Nat.pow_le_pow_right (by omega) (by omega))
          rw [this]
        rw [e0] at HS
        have H0 := Lib.hid hpl
        clear e0 hpl
        go_wp2_with (at_builtin; refine app_bytes (.tmp 15) (.tmp 16) rfl rfl w.heap.size u5 _ _ [UInt8.ofNat 0] rfl rfl (hown.alloc _) _ (bs_lit1' wr 0 (UInt8.ofNat 0) rfl) (by rw [H0.out]; simp; omega) (by simp; omega) ?_; intro v' w1 hown1 hg1 hat1)
        go_roundw
        case rel =>
          refine ⟨k + 1, by omega, by congr 1; omega, ?_, (hx.alloc _).grown hg1 (fun j hj hl => ?_)⟩
          · rw [HS.out]; exact hown1
          · exact absurd hl (by have := (hown.lt j hj).1; omega)
        case measure => simp [intOf]; omega
      · have H0 := Lib.hid hpl
        have HZ := Lib.hid (byte_cast (n / 2 ^ (8 * (size - 1 - k))))
        clear hpl
        go_wp2_with (at_builtin; refine app_bytes (.tmp 18) (.tmp 24) rfl rfl w.heap.size u5 _ _ [UInt8.ofNat (n / 2 ^ (8 * (size - 1 - k)) % 256)] rfl rfl (hown.alloc _) _ (bs_lit1' wr _ (UInt8.ofNat (n / 2 ^ (8 * (size - 1 - k)) % 256)) (by rw [← HZ.out]; simp)) (by rw [H0.out]; simp; omega) (by simp; omega) ?_; intro v' w1 hown1 hg1 hat1)
        go_roundw
        case rel =>
          refine ⟨k + 1, by omega, by congr 1; omega, ?_, (hx.alloc _).grown hg1 (fun j hj hl => ?_)⟩
          · rw [HS.out]; exact hown1
          · exact absurd hl (by have := (hown.lt j hj).1; omega)
        case measure => simp [intOf]; omega
    · obtain rfl : k = size := by omega
      clear hpl
      go_wp2
      go_ret
      exact ⟨_, rfl, by simpa using hown, hx⟩
set_option maxRecDepth 100000 in
set_option maxHeartbeats 400000 in
theorem rPut_nat (s : Nat) : ∀ (n : Nat) (w : World), n ≤ 18446744073709551615 → s ≤ 100000 →
    Calls Try.prog 119 #[.int .u64 (n : Int), .int .i64 (s : Int)] w fun e w' => ∃ v, e = .returned v ∧ Own w' w.heap.size v (putL n s) ∧ Ext No w w' := by
  induction s with
  | zero =>
    intro n w hn hs
    go_enter Try.func119, Try.ntmps119
    go_wp2_with fail
    go_ret
    exact ⟨_, rfl, Own.nil _ _, Ext.refl _ _⟩
  | succ s ih =>
    intro n w hn hs
    have hz : ¬ ((s + 1 : Nat) : Int) < 1 := by omega
    have hpl := Lib.hid (putL_length (n / 256) s)
    have HZ := Lib.hid (byte_cast n)
    have IH := Lib.hid (ih (n / 256) w (by omega) (by omega))
    have e1 : Hid ((((s + 1 : Nat) : Int) - 1) = (s : Int)) := by show _ = _; omega
    have e2 : Hid (((n : Int) / 256) = ((n / 256 : Nat) : Int)) := by show _ = _; omega
    clear ih
    go_enter Try.func119, Try.ntmps119
    go_wp2_with fail
    rw [e2.out]
    refine IH.out.mono ?_
    rintro e w1 ⟨v1, rfl, hown, hx⟩
    have hsz := hx.size
    go_wp2_with (at_builtin; go_must (refine app_bytes (.tmp 11) (.tmp 15) rfl rfl w.heap.size v1 _ _ [UInt8.ofNat (n % 256)] rfl rfl (hown.alloc _) _ (bs_lit1' w1 _ (UInt8.ofNat (n % 256)) (by first | exact HZ.out | (rw [← HZ.out]; simp))) (by rw [hpl.out]; simp; omega) (by simp; omega) ?_); intro v' w2 hown1 hg1 hat1)
    go_ret
    refine ⟨_, rfl, hown1, (hx.alloc _).grown hg1 (fun j hj hl => ?_)⟩
    exact absurd hl (by have := (hown.lt j hj).1; omega)
/-- The number of bytes, the highest first, in 64 bits. -/
def getL (l : List UInt8) : Nat := l.foldl (fun n b => (n * 256 + b.toNat) % 18446744073709551616) 0
theorem getL_snoc (l : List UInt8) (b : UInt8) : getL (l ++ [b]) = (getL l * 256 + b.toNat) % 18446744073709551616 := by simp [getL]
theorem getL_lt (l : List UInt8) : getL l < 18446744073709551616 := by
  rcases List.eq_nil_or_concat l with rfl | ⟨m, b, rfl⟩
  · decide
  · rw [List.concat_eq_append, getL_snoc]; omega
theorem get_step1 (x b : Nat) : IntKind.u64.wrap (IntKind.u64.wrap ((x : Int) * 256) + (b : Int)) = (((x * 256 + b) % 18446744073709551616 : Nat) : Int) := by
  rw [IntKind.wrap_u64, IntKind.wrap_u64]; omega
theorem get_step2 (x b : Nat) (hb : b < 256) : bits .or .u64 (IntKind.u64.wrap ((x : Int) * 256)) (b : Int) = (((x * 256 + b) % 18446744073709551616 : Nat) : Int) := by
  have e : IntKind.u64.wrap ((x : Int) * 256) = ((x * 256 % 18446744073709551616 : Nat) : Int) := by rw [IntKind.wrap_u64]; omega
  rw [e, u64_or_nat _ _ (Nat.mod_lt _ (by omega)) (by omega)]
  have e2 : x * 256 % 18446744073709551616 = (x % 72057594037927936) <<< 8 := by rw [Nat.shiftLeft_eq]; omega
  rw [e2, ← Nat.shiftLeft_add_eq_or_of_lt (show b < 2 ^ 8 by omega), Nat.shiftLeft_eq]
  congr 1
  omega
set_option maxRecDepth 100000 in
set_option maxHeartbeats 400000 in
theorem oGet_any (v : Value) (l : List UInt8) (w : World) (h : Bs w Any v l) :
    Calls Try.prog 138 #[v] w fun e w' => e = .returned (.int .u64 (getL l : Int)) ∧ w = w' := by
  obtain ⟨A, c, rfl, hc, hm, b, o, hA⟩ := h.slice
  unfold maxLen at hm
  have HA := Lib.hid hA
  clear hA h
  go_enter Try.func138, Try.ntmps138
  go_wp2
  go_loop [3, 8] (fun n i => ∃ k : Nat, k ≤ l.length ∧ i = .int .i64 k ∧ n = .int .u64 (getL (l.take k) : Int)) (fun _ i => l.length - (intOf i).toNat)
  case atStart => exact ⟨0, by omega, rfl, by simp [getL]⟩
  case round =>
    obtain ⟨k, hk, rfl, rfl⟩ := hrel
    have hg := getL_lt (l.take k)
    by_cases hlt : k < l.length
    · obtain ⟨rfl, _, _, e1⟩ := HA.out k hlt
      have hb := l[k].toNat_lt
      have HT : Hid (l.take (k + 1) = l.take k ++ [l[k]]) := List.take_succ_eq_append_getElem hlt
      go_wp2
      go_round
      case rel => exact ⟨k + 1, by omega, by go_num, by rw [HT.out, getL_snoc, get_step2 _ _ hb]⟩
      case measure => simp [intOf]; omega
    · rw [List.take_of_length_le (by omega)]
      go_wp2
      go_ret
      exact ⟨rfl, rfl⟩
/-- v is a slice of rows of bytes; all lie in blocks of F. -/
def Parts (w : World) (F : Nat → Prop) (v : Value) (ls : List (List UInt8)) : Prop :=
  ∃ vs : List Value, Sl w F 1 v ls.length vs ∧ ∀ i, (hi : i < ls.length) → ∃ u, vs[i]? = some u ∧ Bs w F u ls[i]
section
variable {S F F' : Nat → Prop} {w w' : World} {v : Value} {ls : List (List UInt8)}
theorem Parts.slice (h : Parts w F v ls) : ∃ A c, v = .slice A ls.length c ∧ ls.length ≤ c ∧ c ≤ maxLen ∧
    ∃ b off, ∀ k, (hk : k < ls.length) → ∃ A' c', A = some ⟨b, off, none⟩ ∧ (F b ∧ b < w.heap.size) ∧ w.cell? ⟨b, off + k, none⟩ = some (.slice A' ls[k].length c') ∧ Bs w F (.slice A' ls[k].length c') ls[k] := by
  obtain ⟨vs, ⟨h1, A, c, hv, hc, hm, hn⟩, hr⟩ := h
  refine ⟨A, c, hv, hc, hm, ?_⟩
  rcases Nat.eq_zero_or_pos ls.length with h0 | h0
  · exact ⟨0, 0, fun k hk => absurd hk (by omega)⟩
  · obtain ⟨b, off, hA, hF, hcell⟩ := hn h0
    refine ⟨b, off, fun k hk => ?_⟩
    obtain ⟨u, hu, hb⟩ := hr k hk
    obtain ⟨A', c', rfl, _⟩ := hb.slice
    have := hcell k _ hu
    exact ⟨A', c', hA, ⟨hF, World.block_lt_of_cell? w _ this⟩, this, hb⟩
theorem Parts.ext (h : Parts w F v ls) (he : Ext S w w') (hd : ∀ b, F b → b < w.heap.size → ¬ S b) : Parts w' F v ls := by
  obtain ⟨vs, hs, hr⟩ := h
  refine ⟨vs, hs.ext he hd, fun i hi => ?_⟩
  obtain ⟨u, hu, hb⟩ := hr i hi
  exact ⟨u, hu, hb.ext he hd⟩
theorem Parts.ext_no (h : Parts w F v ls) (he : Ext No w w') : Parts w' F v ls := h.ext he (fun _ _ _ h => h)
theorem Parts.mono (h : Parts w F v ls) (hF : ∀ b, F b → F' b) : Parts w F' v ls := by
  obtain ⟨vs, hs, hr⟩ := h
  refine ⟨vs, hs.mono hF, fun i hi => ?_⟩
  obtain ⟨u, hu, hb⟩ := hr i hi
  exact ⟨u, hu, hb.mono hF⟩
end
theorem Parts.drew {F : Nat → Prop} {w : World} {v : Value} {ls : List (List UInt8)} (h : Parts w F v ls) : Parts w.drew F v ls := h
theorem Parts.drewN {F : Nat → Prop} {w : World} {v : Value} {ls : List (List UInt8)} (h : Parts w F v ls) (n : Nat) : Parts (w.drewN n) F v ls := h
/-- Rows that are laid side by side for a call. -/
theorem Parts.lit {w : World} {F : Nat → Prop} {vs : List Value} {ls : List (List UInt8)} (hF : F w.heap.size) (hl : vs.length = ls.length) (hm : ls.length ≤ maxLen) (h : ∀ i, (hi : i < ls.length) → ∃ u, vs[i]? = some u ∧ Bs w F u ls[i]) {g : Nat} (hg : g = w.heap.size := by simp) :
    Parts (w.alloc (.cells vs.toArray 22)) F (.slice (some ⟨g, 0, none⟩) ls.length ls.length) ls := by
  subst hg
  refine ⟨vs, ⟨by simp [hl], _, _, rfl, Nat.le_refl _, hm, fun _ => ⟨w.heap.size, 0, rfl, hF, fun j u hu => ?_⟩⟩, fun i hi => ?_⟩
  · rw [Nat.zero_add, (Blk.new w 22 vs.toArray).cell j]
    simpa using hu
  · obtain ⟨u, hu, hb⟩ := h i hi
    exact ⟨u, hu, hb.ext_no ((Ext.refl _ _).alloc _)⟩
section
variable {w : World} {F : Nat → Prop} {v1 v2 v3 v4 : Value} {l1 l2 l3 l4 : List UInt8} {g : Nat}
theorem Parts.lit1 (h1 : Bs w F v1 l1) (hF : F w.heap.size) (hg : g = w.heap.size := by simp) : Parts (w.alloc (.cells #[v1] 22)) F (.slice (some ⟨g, 0, none⟩) 1 1) [l1] :=
  Parts.lit (vs := [v1]) (ls := [l1]) hF rfl (by simp [maxLen]) (fun i hi => by
    match i, hi with
    | 0, _ => exact ⟨_, rfl, h1⟩) hg
theorem Parts.lit2 (h1 : Bs w F v1 l1) (h2 : Bs w F v2 l2) (hF : F w.heap.size) (hg : g = w.heap.size := by simp) : Parts (w.alloc (.cells #[v1, v2] 22)) F (.slice (some ⟨g, 0, none⟩) 2 2) [l1, l2] :=
  Parts.lit (vs := [v1, v2]) (ls := [l1, l2]) hF rfl (by simp [maxLen]) (fun i hi => by
    match i, hi with
    | 0, _ => exact ⟨_, rfl, h1⟩
    | 1, _ => exact ⟨_, rfl, h2⟩) hg
theorem Parts.lit3 (h1 : Bs w F v1 l1) (h2 : Bs w F v2 l2) (h3 : Bs w F v3 l3) (hF : F w.heap.size) (hg : g = w.heap.size := by simp) : Parts (w.alloc (.cells #[v1, v2, v3] 22)) F (.slice (some ⟨g, 0, none⟩) 3 3) [l1, l2, l3] :=
  Parts.lit (vs := [v1, v2, v3]) (ls := [l1, l2, l3]) hF rfl (by simp [maxLen]) (fun i hi => by
    match i, hi with
    | 0, _ => exact ⟨_, rfl, h1⟩
    | 1, _ => exact ⟨_, rfl, h2⟩
    | 2, _ => exact ⟨_, rfl, h3⟩) hg
theorem Parts.lit4 (h1 : Bs w F v1 l1) (h2 : Bs w F v2 l2) (h3 : Bs w F v3 l3) (h4 : Bs w F v4 l4) (hF : F w.heap.size) (hg : g = w.heap.size := by simp) : Parts (w.alloc (.cells #[v1, v2, v3, v4] 22)) F (.slice (some ⟨g, 0, none⟩) 4 4) [l1, l2, l3, l4] :=
  Parts.lit (vs := [v1, v2, v3, v4]) (ls := [l1, l2, l3, l4]) hF rfl (by simp [maxLen]) (fun i hi => by
    match i, hi with
    | 0, _ => exact ⟨_, rfl, h1⟩
    | 1, _ => exact ⟨_, rfl, h2⟩
    | 2, _ => exact ⟨_, rfl, h3⟩
    | 3, _ => exact ⟨_, rfl, h4⟩) hg
end
theorem flat_take (ls : List (List UInt8)) (k : Nat) (hk : k < ls.length) : (ls.take (k + 1)).flatten = (ls.take k).flatten ++ ls[k] := by
  rw [List.take_succ_eq_append_getElem hk, List.flatten_append, List.flatten_singleton]
/-- How many bytes the first k rows have. -/
def flen (ls : List (List UInt8)) (k : Nat) : Nat := (ls.take k).flatten.length
theorem flen_succ (ls : List (List UInt8)) (k : Nat) (hk : k < ls.length) : flen ls (k + 1) = flen ls k + ls[k].length := by
  unfold flen; rw [flat_take ls k hk, List.length_append]
theorem flen_all (ls : List (List UInt8)) : flen ls ls.length = ls.flatten.length := by unfold flen; rw [List.take_length]
theorem flen_le (ls : List (List UInt8)) (k : Nat) : flen ls k ≤ ls.flatten.length := by
  unfold flen
  have h := congrArg (fun l => l.flatten.length) (List.take_append_drop k ls)
  simp only [List.flatten_append, List.length_append] at h
  omega
set_option maxRecDepth 100000 in
set_option maxHeartbeats 400000 in
theorem oJoin_any (F : Nat → Prop) (v : Value) (ls : List (List UInt8)) (w : World) (h : Parts w F v ls) (hb : ls.flatten.length ≤ 140737488351232) :
    Calls Try.prog 65 #[v] w fun e w' => ∃ A n c, e = .returned (.slice A n c) ∧ Own w' w.heap.size (.slice A n c) ls.flatten ∧ Ext No w w' := by
  obtain ⟨A, c, rfl, hc, hm, b, o, hA⟩ := h.slice
  unfold maxLen at hm
  have HA := Lib.hid hA
  have HF := Lib.hid (flat_take ls)
  have HE := Lib.hid (flen_le ls)
  have HS := Lib.hid (flen_succ ls)
  have HB := Lib.hid hb
  have hball : flen ls ls.length ≤ 140737488351232 := by rw [flen_all]; exact hb
  obtain ⟨i0, hi, hz0, hz1, hz2⟩ := info_parts info_u8
  clear hA h hb
  go_enter Try.func65, Try.ntmps65
  go_wp2
  go_loop [3, 11] (fun n i => ∃ k : Nat, k ≤ ls.length ∧ i = .int .i64 k ∧ n = .int .i64 (flen ls k : Int)) (fun _ i => ls.length - (intOf i).toNat)
  case atStart => exact ⟨0, by omega, rfl, by simp [flen]⟩
  case round =>
    obtain ⟨k, hk, rfl, rfl⟩ := hrel
    by_cases hlt : k < ls.length
    · obtain ⟨A', c', rfl, _, e1, hbs⟩ := HA.out k hlt
      have h1 := HE.out (k + 1)
      have h2 := HS.out k hlt
      have h3 := HB.out
      have h4 : flen ls k + ls[k].length ≤ 140737488351232 := by omega
      have H3 := Lib.hid h2
      clear h1 h2 h3
      go_wp2
      go_round
      case rel => exact ⟨k + 1, by omega, by go_num, by rw [H3.out]; go_num⟩
      case measure => simp [intOf]; omega
    · obtain rfl : k = ls.length := by omega
      go_wp2_with (at_make; refine wpList_make_own _ rfl _ _ _ rfl w.heap.size 5 i0 (.int .u8 0) 1 Try.underlying22 hi hz0 hz1 .i64 .i64 _ (flen ls ls.length) rfl rfl rfl (by rw [hz2]; omega) (by unfold maxLen; omega) (Nat.le_refl _) ?_; intro w1 hown hgrow)
      have hx1 : Ext No w w1 := (Ext.refl No w).grown hgrow (fun k hk => by cases hk)
      have hown1 : Own w1 w.heap.size (.slice (some ⟨w.heap.size, 0, none⟩) 0 (flen ls ls.length)) [] := hown
      clear hown hgrow
      go_loopw [6, 24] (fun v i wr => ∃ k : Nat, k ≤ ls.length ∧ i = .int .i64 k ∧ Own wr w.heap.size v (ls.take k).flatten ∧ Ext No w wr) (fun _ i _ => ls.length - (intOf i).toNat)
      case atStart => exact ⟨0, by omega, rfl, by simpa using hown1, hx1⟩
      case round =>
        obtain ⟨k, hk, rfl, hown, hx⟩ := hrel
        have hsz := hx.size
        by_cases hlt : k < ls.length
        · obtain ⟨A', c', rfl, ⟨_, hbl⟩, e1, hbs⟩ := HA.out k hlt
          have e2 : wr.cell? ⟨b, o + k, none⟩ = _ := (hx.cell (p := ⟨b, o + k, none⟩) hbl (fun h => h)).trans e1
          have hbs2 := hbs.ext_no hx
          have h1 := HE.out (k + 1)
          have h2 := HS.out k hlt
          have h3 := HB.out
          have h4 : (ls.take k).flatten.length + ls[k].length ≤ 140737488351232 := by unfold flen at *; omega
          have H2 := Lib.hid (HF.out k hlt)
          have H4 := Lib.hid h4
          clear h1 h2 h3 h4 e1
          go_wp2_with (at_builtin; refine app_bytes (.tmp 28) (.tmp 29) rfl rfl w.heap.size u6 _ _ _ rfl rfl hown _ hbs2 (by have := H4.out; omega) hsz ?_; intro v' w2 hown2 hg2 hat2)
          go_roundw
          case rel =>
            refine ⟨k + 1, by omega, by go_num, by rw [H2.out]; exact hown2, hx.grown hg2 (fun j hj hl => ?_)⟩
            exact absurd hl (by have := (hown.lt j hj).1; omega)
          case measure => simp [intOf]; omega
        · obtain rfl : k = ls.length := by omega
          rw [List.take_length] at hown
          go_wp2
          obtain ⟨Ar, cr, rfl, _⟩ := hown.slice
          go_ret
          exact ⟨_, _, _, rfl, hown, hx⟩
end Go.Proofs.Ytmbbkkonmkbnoaa
namespace Go.Proofs.Ytmbbkkonmkbnoaa
open Go.RowKit
def setL (cs : Array Value) : Nat → List Value → Array Value
  | _, [] => cs
  | o, v :: r => setL (cs.setIfInBounds o v) (o + 1) r
theorem setL_size (vs : List Value) : ∀ (cs : Array Value) (o : Nat), (setL cs o vs).size = cs.size := by
  induction vs with
  | nil => intro cs o; rfl
  | cons v r ih => intro cs o; simp only [setL]; rw [ih, Array.size_setIfInBounds]
theorem setL_out (vs : List Value) : ∀ (cs : Array Value) (o i : Nat), (i < o ∨ o + vs.length ≤ i) → (setL cs o vs)[i]? = cs[i]? := by
  induction vs with
  | nil => intro cs o i _; rfl
  | cons v r ih =>
    intro cs o i h
    simp only [setL]
    simp only [List.length_cons] at h
    rw [ih _ _ _ (by omega), Array.getElem?_setIfInBounds_ne (by omega)]
theorem setL_in (vs : List Value) : ∀ (cs : Array Value) (o j : Nat), o + vs.length ≤ cs.size → j < vs.length → (setL cs o vs)[o + j]? = vs[j]? := by
  induction vs with
  | nil => intro cs o j _ h; simp at h
  | cons v r ih =>
    intro cs o j hs hj
    simp only [setL]
    simp only [List.length_cons] at hs hj
    cases j with
    | zero =>
      rw [setL_out _ _ _ _ (by omega), Nat.add_zero, Array.getElem?_setIfInBounds_self_of_lt (by omega)]
      rfl
    | succ j =>
      rw [show o + (j + 1) = (o + 1) + j by omega, ih _ _ _ (by rw [Array.size_setIfInBounds]; omega) (by omega)]
      rfl
theorem Blk.sets {t : TypeId} {g : Nat} (vs : List Value) : ∀ {w : World} {cs : Array Value} (o : Nat), Blk w g t cs → Blk (w.setCells g o vs) g t (setL cs o vs) := by
  induction vs with
  | nil => intro w cs o h; exact h
  | cons v r ih => intro w cs o h; exact ih (o + 1) (Blk.set_ h o v)
theorem Ext.sets {S : Nat → Prop} {g : Nat} (vs : List Value) : ∀ {a b : World} (o : Nat), Ext S a b → (g < a.heap.size → S g) → Ext S a (b.setCells g o vs) := by
  induction vs with
  | nil => intro a b o h _; exact h
  | cons v r ih => intro a b o h hs; exact ih (o + 1) (h.setCell hs v) hs
/-- v is a slice of the bytes l, in a block of bytes that nothing else uses. -/
def Mid (w : World) (v : Value) (l : List UInt8) : Prop :=
  (v = .slice none 0 0 ∧ l = []) ∨
  ∃ g off cap cur, v = .slice (some ⟨g, off, none⟩) l.length cap ∧ Blk w g 5 cur ∧ l.length ≤ cap ∧ cap ≤ maxLen ∧ off + cap ≤ cur.size ∧ ∀ j u, (u8s l)[j]? = some u → cur[off + j]? = some u
section
variable {S F : Nat → Prop} {w w' : World} {v : Value} {l m : List UInt8}
theorem Mid.nil (w : World) : Mid w (.slice none 0 0) [] := .inl ⟨rfl, rfl⟩
theorem Mid.of_own {base : Nat} (h : Own w base v l) : Mid w v l := by
  obtain ⟨h1, ⟨rfl, h2⟩ | ⟨g, cap, cur, rfl, hb, hh, hc, hm, hs, ht⟩⟩ := h
  · exact .inl ⟨rfl, List.eq_nil_of_length_eq_zero h2⟩
  · refine .inr ⟨g, 0, cap, cur, rfl, hh, hc, hm, by rw [hs]; omega, fun j u hu => ?_⟩
    rw [← ht] at hu
    rw [Nat.zero_add, ← Array.getElem?_toList]
    have hj := (List.getElem?_eq_some_iff.1 hu).1
    rw [List.length_take] at hj
    rwa [List.getElem?_take_of_lt (by omega)] at hu
theorem Mid.bs (h : Mid w v l) : Bs w (fun k => v.ownBlock = some k) v l := by
  rcases h with ⟨rfl, rfl⟩ | ⟨g, off, cap, cur, rfl, hb, hc, hm, hs, hj⟩
  · exact Bs.nil w _
  · refine ⟨by simp [u8s], _, cap, rfl, hc, hm, fun _ => ⟨g, off, rfl, rfl, fun j u hu => ?_⟩⟩
    rw [hb.cell]; exact hj j u hu
theorem Mid.any (h : Mid w v l) : Bs w Any v l := h.bs.any
theorem Mid.ext (h : Mid w v l) (he : Ext S w w') (hd : ∀ b, v.ownBlock = some b → ¬ S b) : Mid w' v l := by
  rcases h with h | ⟨g, off, cap, cur, rfl, hb, r⟩
  · exact .inl h
  · exact .inr ⟨g, off, cap, cur, rfl, hb.ext he (hd g rfl), r⟩
theorem Mid.ext_no (h : Mid w v l) (he : Ext No w w') : Mid w' v l := h.ext he fun _ _ h => h
theorem Mid.blk (h : Mid w v l) : ∀ k, v.ownBlock = some k → k < w.heap.size ∧ ∃ cs, Blk w k 5 cs := by
  intro k hk
  rcases h with ⟨rfl, rfl⟩ | ⟨g, off, cap, cur, rfl, hb, _⟩
  · cases hk
  · injection hk with hk; subst hk; exact ⟨hb.lt, _, hb⟩
theorem Mid.slice (h : Mid w v l) : ∃ A c, v = .slice A l.length c ∧ l.length ≤ c ∧ c ≤ maxLen := by
  rcases h with ⟨rfl, rfl⟩ | ⟨g, off, cap, cur, rfl, hb, hc, hm, _⟩
  · exact ⟨_, _, rfl, Nat.le_refl _, Nat.zero_le _⟩
  · exact ⟨_, _, rfl, hc, hm⟩
/-- Cut from the front. -/
theorem Mid.cut {g off n cap k : Nat} (h : Mid w (.slice (some ⟨g, off, none⟩) n cap) l) (hk : k ≤ l.length) : Mid w (.slice (some ⟨g, off + k, none⟩) (n - k) (cap - k)) (l.drop k) := by
  rcases h with ⟨h, _⟩ | ⟨g', off', cap', cur, e, hb, hc, hm, hs, hj⟩
  · cases h
  · injection e with e1 e2 e3
    injection e1 with e1
    injection e1 with e4 e5
    subst e2 e3 e4 e5
    refine .inr ⟨g, off + k, cap - k, cur, by rw [List.length_drop], hb, by rw [List.length_drop]; omega, by omega, by omega, fun j u hu => ?_⟩
    rw [show off + k + j = off + (k + j) by omega]
    refine hj (k + j) u ?_
    unfold u8s at *
    rw [List.map_drop, List.getElem?_drop] at hu
    exact hu
/-- Cut from the front wholly, in place: the address stays. -/
theorem Mid.cut0 {g off n cap : Nat} (h : Mid w (.slice (some ⟨g, off, none⟩) n cap) l) (hk : cap = l.length) : Mid w (.slice (some ⟨g, off, none⟩) 0 0) [] := by
  rcases h with ⟨h, _⟩ | ⟨g', off', cap', cur, e, hb, hc, hm, hs, hj⟩
  · cases h
  · injection e with e1 e2 e3
    injection e1 with e1
    injection e1 with e4 e5
    subst e2 e3 e4 e5
    exact .inr ⟨g, off, 0, cur, rfl, hb, Nat.le_refl _, Nat.zero_le _, by omega, fun j u hu => by simp [u8s] at hu⟩
end
set_option maxRecDepth 100000 in
/-- append(v, u...) -/
theorem run_app_mid {w : World} {v u : Value} {l m : List UInt8} {F : Nat → Prop} (ty : TypeId) (h : Mid w v l) (hu : Bs w F u m) (hb : l.length + m.length ≤ 140737488355328) :
    ∃ v' w', (Builtin.append_ #[22, 22] ty #[v, u]).run Try.prog w = .ok v' w' ∧ Mid w' v' (l ++ m) ∧ Ext (fun k => v.ownBlock = some k) w w' ∧ (v'.ownBlock = v.ownBlock ∨ ∃ k, v'.ownBlock = some k ∧ w.heap.size ≤ k) := by
  rcases h with ⟨rfl, rfl⟩ | ⟨g, off, cap, cur, rfl, hbk, hc, hm, hs, hj⟩
  · obtain ⟨v', w', hr, h2, h3, h4⟩ := run_app (P := Try.prog) (w := w) w.heap.size 22 ty 5 (.int .u8 0) 1 1 Try.underlying22 info_u8 rfl (by omega) (.slice none 0 0) 0 [] (World.ownsRow_nil w _ _ 1) F u m.length (u8s m) hu (u8s_one m) (by unfold maxLen; simp at hb; omega) (by simp at hb ⊢; omega) (Nat.le_refl _)
    refine ⟨v', w', hr, Mid.of_own (base := w.heap.size) (by unfold Own; rw [List.nil_append]; simpa using h2), (Ext.refl _ w).grown h3 (fun k hk => by cases hk), h4.imp id fun e => ⟨_, e, Nat.le_refl _⟩⟩
  · obtain ⟨i, hi, hz0, hz1, hz2⟩ := info_parts info_u8
    obtain ⟨hl, A, c, rfl, hc2, hm2, hcell⟩ := hu
    have hlm : ∀ j y, (u8s (l ++ m))[j]? = some y → (j < l.length → (u8s l)[j]? = some y) ∧ (l.length ≤ j → (u8s m)[j - l.length]? = some y) := by
      intro j y hy
      rw [u8s_append] at hy
      refine ⟨fun h => ?_, fun h => ?_⟩
      · rwa [List.getElem?_append_left (by rw [u8s_length]; exact h)] at hy
      · rwa [List.getElem?_append_right (by rw [u8s_length]; exact h), u8s_length] at hy
    rcases A with _ | ad
    · have hm0 : m.length = 0 := by
        rcases Nat.eq_zero_or_pos m.length with h0 | h0
        · exact h0
        · obtain ⟨b, off, h, _⟩ := hcell h0
          cases h
      obtain rfl : m = [] := List.eq_nil_of_length_eq_zero hm0
      refine ⟨.slice (some ⟨g, off, none⟩) l.length cap, w, ?_, ?_, Ext.refl _ w, .inl rfl⟩
      · simp [Builtin.append_, run_underlying Try.underlying22, sizeOf, typeInfo, hi, Builtin.lenOf, Builtin.firstCells, hc, storeCells]
      · rw [List.append_nil]; exact .inr ⟨g, off, cap, cur, rfl, hbk, hc, hm, hs, hj⟩
    · have hcells : ∀ j y, (u8s m)[j]? = some y → w.cell? (ad.add j) = some y := by
        intro j y hy
        have hjl := (List.getElem?_eq_some_iff.1 hy).1
        rw [u8s_length] at hjl
        obtain ⟨b, off, h, _, hcc⟩ := hcell (by omega)
        injection h with h
        subst h
        rw [show (⟨b, off, none⟩ : Addr).add j = ⟨b, off + j, none⟩ by unfold Addr.add; split <;> simp_all]
        exact hcc j y hy
      by_cases hroom : l.length + m.length ≤ cap
      · have hr := run_append_room_cells (P := Try.prog) w 22 ty 5 i Try.underlying22 hi g off l.length cap ad m.length c (u8s m) (by rw [hz1]; simpa using hl) hcells (u8s_one m) hroom
          (fun j hj => by rw [hbk.cell, hz1]; rw [u8s_length] at hj; rw [Array.getElem?_eq_getElem (by omega)]; rfl) (fun j _ => hbk.frozen _)
        rw [hz1, Nat.mul_one] at hr
        refine ⟨_, _, hr, .inr ⟨g, off, cap, setL cur (off + l.length) (u8s m), by rw [List.length_append], hbk.sets (u8s m) _, by rw [List.length_append]; exact hroom, hm, by rw [setL_size]; exact hs, fun j y hy => ?_⟩, Ext.sets (u8s m) _ (Ext.refl _ w) (fun _ => rfl), .inl rfl⟩
        obtain ⟨h1, h2⟩ := hlm j y hy
        by_cases hjl : j < l.length
        · rw [setL_out _ _ _ _ (by omega)]
          exact hj j y (h1 hjl)
        · have h3 := h2 (by omega)
          have h4 := (List.getElem?_eq_some_iff.1 h3).1
          rw [show off + j = off + l.length + (j - l.length) by omega, setL_in _ _ _ _ (by rw [u8s_length]; omega) h4]
          exact h3
      · obtain ⟨v', w', hr, h2, h3⟩ := run_append_arg_grows (P := Try.prog) w 22 ty 5 i (.int .u8 0) 1 1 Try.underlying22 hi hz0 hz1 hz2 rfl (by omega) ⟨g, off, none⟩ l.length cap (u8s l) (by rw [u8s_length]; omega)
          (fun j y hy => by rw [show (⟨g, off, none⟩ : Addr).add j = ⟨g, off + j, none⟩ by unfold Addr.add; split <;> simp_all, hbk.cell]; exact hj j y hy) ad m.length c (u8s m) hl hcells (by omega) (by unfold maxLen; omega) (by omega)
        have hown : Own w' w.heap.size v' (l ++ m) := by unfold Own; rw [u8s_append, List.length_append]; exact h2
        refine ⟨v', w', hr, Mid.of_own hown, (Ext.refl _ w).grown h3 (fun k hk => by cases hk), ?_⟩
        cases e : v'.ownBlock with
        | none =>
          left
          exfalso
          obtain ⟨_, ⟨e1, e2⟩ | ⟨g', cap', cur', e1, _⟩⟩ := hown
          · rw [List.length_append] at e2; omega
          · rw [e1] at e; cases e
        | some k => exact .inr ⟨k, rfl, (hown.lt k e).1⟩
theorem app_mid {w : World} {ops : Array Oper} {rest : List Oper} {o : Oper} {a : Act} {Q : Exit → Act → World → Prop} (s x : Operand)
    (ho : o.op = .call { callee := .builtin .append, args := #[s, x], argTypes := #[22, 22] }) (hgd : o.guard = none)
    (v u : Value) (l m : List UInt8) (hs : a.eval s = v) (hx : a.eval x = u) (hown : Mid w v l) (F : Nat → Prop) (hu : Bs w F u m) (hb : l.length + m.length ≤ 140737488355328)
    (h : ∀ v' w', Mid w' v' (l ++ m) → Ext (fun k => v.ownBlock = some k) w w' → (v'.ownBlock = v.ownBlock ∨ ∃ k, v'.ownBlock = some k ∧ w.heap.size ≤ k) → wpList Try.prog ops Q rest (a.put o.dst v') w') : wpList Try.prog ops Q (o :: rest) a w := by
  refine wpList_plain hgd fun K hK => ?_
  obtain ⟨v', w', hr, h2, h3, h4⟩ := run_app_mid o.type hown hu hb
  unfold Oper.wp execOp
  simp only [ho, resolve, invoke, builtin, Sem.run_bind, Sem.run_pure, Result.andThen_ok, List.map_toArray, List.map_cons, List.map_nil, hs, hx, hr]
  exact hK _ _ (h v' w' h2 h3 h4)
end Go.Proofs.Ytmbbkkonmkbnoaa
namespace Go.Proofs.Ytmbbkkonmkbnoaa
open Go.RowKit
abbrev pB (g : Nat) : Value := .pointer (some ⟨g, 0, none⟩)
theorem setL_all (cs : Array Value) (vs : List Value) (h : vs.length = cs.size) : setL cs 0 vs = vs.toArray := by
  apply Array.ext_getElem?
  intro i
  by_cases hi : i < vs.length
  · have := setL_in vs cs 0 i (by omega) hi
    rw [Nat.zero_add] at this
    rw [this]; simp
  · rw [Array.getElem?_eq_none (by rw [setL_size]; omega), Array.getElem?_eq_none (by simp; omega)]
section
variable {P : Program} {w : World} {ops : Array Oper} {rest : List Oper} {o : Oper} {a : Act} {Q : Exit → Act → World → Prop} {g : Nat} {t : TypeId} {cs cs' : Array Value}
/-- A whole array is loaded. -/
theorem load_blk (ty : TypeId) (x : Operand) (ho : o.op = .load ty x) (hgd : o.guard = none) (hb : Blk w g t cs) (hx : a.eval x = pB g) (d : TypeDesc) (hu : P.underlying ty = some d)
    (hd : (match d with | .struct _ | .array _ _ => true | _ => false) = true) (hi : (P.info? ty).map (·.size) = some cs.size) (h : wpList P ops Q rest (a.put o.dst (.agg cs)) w) : wpList P ops Q (o :: rest) a w :=
  wpList_load_row hgd ty x ho g hx t cs (0, 0) d hb hu hd hi h
/-- A whole array is stored. -/
theorem store_blk (ty : TypeId) (x y : Operand) (ho : o.op = .store ty x y) (hgd : o.guard = none) (hb : Blk w g t cs) (hx : a.eval x = pB g) (hy : a.eval y = .agg cs') (hs : cs'.size = cs.size) (hi : (P.info? ty).map (·.size) = some cs'.size)
    (h1 : ∀ v ∈ cs'.toList, v.oneCell' = true) (h : ∀ w', Blk w' g t cs' → Ext (One g) w w' → wpList P ops Q rest (a.put o.dst undef) w') : wpList P ops Q (o :: rest) a w := by
  refine wpList_store_mid hgd ty x y ho g 0 cs' hx hy (fun j hj => ⟨?_, hb.frozen _⟩) hi (by simpa using all_oneCell_toArray (cs := cs'.toList) h1) (h _ ?_ (Ext.sets _ _ (Ext.refl _ w) (fun _ => rfl)))
  · rw [Nat.zero_add, hb.cell, Array.getElem?_eq_getElem (by omega)]; rfl
  · have := hb.sets cs'.toList 0
    rw [setL_all _ _ (by simpa using hs)] at this
    simpa using this
end
/-- What a call hands back out of a whole array. -/
theorem ret_blk {P : Program} {fn : Func} {p : Tmp} {ty : TypeId} (h : fn.results = #[.cell p ty]) {tmps : Array Value} {w : World} {g : Nat} {t : TypeId} {cs : Array Value} (hb : Blk w g t cs) (hp : tmps.getD p undef = pB g) (d : TypeDesc)
    (hu : P.underlying ty = some d) (hd : (match d with | .struct _ | .array _ _ => true | _ => false) = true) (hi : (P.info? ty).map (·.size) = some cs.size) : (results fn tmps).run P w = .ok (.agg cs) w :=
  results_cell_row h tmps w g t cs (0, 0) d hp hb hu hd hi
def u32v (n : Nat) : Value := .int .u32 (n : Int)
def u32s (l : List Nat) : List Value := l.map u32v
theorem u32s_length (l : List Nat) : (u32s l).length = l.length := by simp [u32s]
theorem u32s_get (l : List Nat) (i : Nat) (h : i < l.length) : (u32s l).toArray[i]? = some (.int .u32 ((l.getD i 0 : Nat) : Int)) := by
  simp [u32s, u32v, h, List.getD_eq_getElem?_getD]
theorem u32s_set (l : List Nat) (i n : Nat) : (u32s l).toArray.setIfInBounds i (.int .u32 (n : Int)) = (u32s (l.set i n)).toArray := by
  simp [u32s, u32v, List.map_set]
theorem u32s_one (l : List Nat) : ∀ y ∈ (u32s l).toArray.toList, y.oneCell' = true := by
  intro y hy
  simp only [u32s, List.mem_map] at hy
  obtain ⟨b, _, rfl⟩ := hy
  rfl
theorem u8s_get' (l : List UInt8) (i : Nat) (h : i < l.length) : (u8s l).toArray[i]? = some (.int .u8 ((l.getD i 0).toNat : Int)) := by
  simp [u8s, u8v, h, List.getD_eq_getElem?_getD]
theorem u8s_set (l : List UInt8) (i : Nat) (b : UInt8) : (u8s l).toArray.setIfInBounds i (.int .u8 (b.toNat : Int)) = (u8s (l.set i b)).toArray := by
  simp [u8s, u8v, List.map_set]
theorem u8s_one' (l : List UInt8) : ∀ y ∈ (u8s l).toArray.toList, y.oneCell' = true := by
  intro y hy; exact u8s_one l y (by simpa using hy)
section
variable {w : World} {F : Nat → Prop} {A : Option Addr} {n c : Nat} {l : List UInt8}
theorem Bs.sub {b off : Nat} (h : Bs w F (.slice (some ⟨b, off, none⟩) n c) l) {i j : Nat} (hij : i ≤ j) (hj : j ≤ l.length) {m c' : Nat} (hm : m = j - i) (hc' : m ≤ c') (hx : c' ≤ maxLen) : Bs w F (.slice (some ⟨b, off + i, none⟩) m c') ((l.take j).drop i) := by
  have hl : ((l.take j).drop i).length = m := by rw [List.length_drop, List.length_take]; omega
  obtain ⟨h1, A', c0, e, h2, h3, h4⟩ := h
  injection e with e1 e2 e3
  unfold Bs
  rw [hl]
  refine ⟨by rw [u8s_length, hl, Nat.mul_one], _, c', rfl, hc', hx, fun h0 => ?_⟩
  obtain ⟨b', off', hA, hF, hc⟩ := h4 (by omega)
  rw [← e1] at hA
  injection hA with hA
  injection hA with hb ho
  subst hb ho
  refine ⟨b, off + i, rfl, hF, fun k u hu => ?_⟩
  rw [Nat.add_assoc]
  refine hc (i + k) u ?_
  have hk : k < (u8s ((l.take j).drop i)).length := (List.getElem?_eq_some_iff.1 hu).1
  rw [u8s_length, hl] at hk
  unfold u8s at hu ⊢
  rwa [List.map_drop, List.map_take, List.getElem?_drop, List.getElem?_take_of_lt (by omega)] at hu
/-- An array of bytes in a block of its own, sliced whole. -/
theorem Bs.whole' {w : World} {g : Nat} {t : TypeId} {L : List UInt8} (h : Blk w g t (u8s L).toArray) {n c : Nat} (hn : n = L.length) (hc : n ≤ c) (hm : c ≤ maxLen) : Bs w (fun k => k = g) (.slice (some ⟨g, 0, none⟩) n c) L := by
  subst hn
  refine ⟨by simp [u8s], _, c, rfl, hc, hm, fun _ => ⟨g, 0, rfl, rfl, fun j u hu => ?_⟩⟩
  rw [Nat.zero_add, h.cell]
  simpa using hu
end
end Go.Proofs.Ytmbbkkonmkbnoaa
namespace Go.Proofs.Ytmbbkkonmkbnoaa
open Go.RowKit
theorem zeroCells_u8 (n : Nat) : Builtin.zeroCells #[.int .u8 0] n = (u8s (List.replicate n 0)).toArray := by
  unfold Builtin.zeroCells u8s
  apply Array.ext'
  simp only [Array.toList_map, Array.toList_range, List.map_replicate]
  rw [List.eq_replicate_iff]
  refine ⟨by simp, fun b hb => ?_⟩
  simp only [List.mem_map, List.mem_range] at hb
  obtain ⟨i, _, rfl⟩ := hb
  simp [Nat.mod_one, u8v]
set_option maxRecDepth 100000 in
theorem run_app0 {w : World} {g : Nat} (x : UInt8) (n : Nat) (ty : TypeId) (hb : Blk w g 5 #[u8v x]) (hn : n ≤ 64) :
    ∃ v' w', (Builtin.append_ #[22, 3] ty #[.slice (some ⟨g, 0, none⟩) 1 1, .int .i64 (n : Int)]).run Try.prog w = .ok v' w' ∧ Mid w' v' (x :: List.replicate n 0) ∧ Ext No w w' ∧ (v'.ownBlock = some g ∨ ∃ k, v'.ownBlock = some k ∧ w.heap.size ≤ k) := by
  obtain ⟨i, hi, hz0, hz1, hz2⟩ := info_parts info_u8
  have hw : IntKind.i64.wrap (n : Int) = (n : Int) := by rw [IntKind.wrap_i64]; omega
  rcases Nat.eq_zero_or_pos n with h0 | h0
  · subst h0
    refine ⟨.slice (some ⟨g, 0, none⟩) 1 1, w, ?_, .inr ⟨g, 0, 1, _, rfl, hb, by simp, by unfold maxLen; decide, by simp, fun j u hu => ?_⟩, Ext.refl No w, .inl rfl⟩
    · simp [Builtin.append_, run_underlying Try.underlying22, run_underlying Try.underlying3, sizeOf, typeInfo, hi, hz1, hz2, asInt, asIntOf, IntKind.wrap_i64, storeCells]
    · simpa [u8s] using hu
  · have hz : Builtin.zeroCells (Value.int .u8 0).cells n = (u8s (List.replicate n 0)).toArray := zeroCells_u8 n
    have h1 : ¬ (1 + n ≤ 1) := by omega
    have h2 : ¬ ((n : Int) < 0) := by omega
    have h3 : ¬ (281474976710656 < (n : Int)) := by omega
    have h4 : ¬ (9223372036854775807 < ((1 : Int) + (n : Int))) := by omega
    have h5 := growslice_fits (need := 1 + n) (old := 1) (bytes := 1) (by omega) (by omega)
    have h6 : ¬ (281474976710656 < Builtin.nextslicecap (1 + n) 1) := by omega
    have hf := run_firstCells_some (P := Try.prog) w.drew i.size 1 ⟨g, 0, none⟩ 1 1 [u8v x] (by rw [hz1]; rfl) (fun j u hu => by
      have : j = 0 := by have := (List.getElem?_eq_some_iff.1 hu).1; simp at this; omega
      subst this
      rw [show (⟨g, 0, none⟩ : Addr).add 0 = ⟨g, 0, none⟩ from rfl]
      exact (hb.cell 0).trans (by simpa using hu))
    rw [hz1] at hf
    have hnz : n ≠ 0 := by omega
    have hge := grownCap_ge w (1 + n) 1 5
    have hcm := grownCap_le_maxLen w (1 + n) 1 5 (by unfold maxLen; omega)
    refine ⟨.slice (some ⟨w.heap.size, 0, none⟩) (1 + n) (grownCap w (1 + n) 1 5), w.drew.alloc (.cells ([u8v x].toArray ++ (u8s (List.replicate n 0)).toArray ++ Builtin.zeroCells (Value.int .u8 0).cells (grownCap w (1 + n) 1 5 - (1 + n))) 5), ?_, ?_, ?_, .inr ⟨w.heap.size, rfl, Nat.le_refl _⟩⟩
    · simp [Builtin.append_, run_underlying Try.underlying22, run_underlying Try.underlying3, sizeOf, typeInfo, zeroValue, hi, hz0, hz1, hz2, hw, asInt, asIntOf, h1, h2, h3, h4, h6, hnz, Question.forced, hf, newRow, grownCap]
      rw [hz]
      congr 2
      apply Array.ext'
      simp
    · refine .inr ⟨w.heap.size, 0, grownCap w (1 + n) 1 5, _, by simp [Nat.add_comm], Blk.new w.drew 5 _, by simp; omega, hcm, ?_, fun j u hu => ?_⟩
      · simp only [Array.size_append, List.size_toArray, size_zeroCells, u8s_length, List.length_replicate]
        simp [Value.cells]
        omega
      · have hj := (List.getElem?_eq_some_iff.1 hu).1
        rw [u8s_length, List.length_cons, List.length_replicate] at hj
        rw [Nat.zero_add, Array.getElem?_append_left (by simp [u8s_length]; omega), ← hu, ← Array.getElem?_toList]
        simp only [Array.toList_append, u8s, List.map_cons, List.cons_append, List.nil_append]
    · exact (Ext.refl No w).drew.alloc _
theorem app0 {w : World} {ops : Array Oper} {rest : List Oper} {o : Oper} {a : Act} {Q : Exit → Act → World → Prop} (s x : Operand)
    (ho : o.op = .call { callee := .builtin .append, args := #[s, x], argTypes := #[22, 3] }) (hgd : o.guard = none)
    (g : Nat) (b : UInt8) (n : Nat) (hs : a.eval s = .slice (some ⟨g, 0, none⟩) 1 1) (hx : a.eval x = .int .i64 (n : Int)) (hb : Blk w g 5 #[u8v b]) (hn : n ≤ 64)
    (h : ∀ v' w', Mid w' v' (b :: List.replicate n 0) → Ext No w w' → (v'.ownBlock = some g ∨ ∃ k, v'.ownBlock = some k ∧ w.heap.size ≤ k) → wpList Try.prog ops Q rest (a.put o.dst v') w') : wpList Try.prog ops Q (o :: rest) a w := by
  refine wpList_plain hgd fun K hK => ?_
  obtain ⟨v', w', hr, h2, h3, h4⟩ := run_app0 b n o.type hb hn
  unfold Oper.wp execOp
  simp only [ho, resolve, invoke, builtin, Sem.run_bind, Sem.run_pure, Result.andThen_ok, List.map_toArray, List.map_cons, List.map_nil, hs, hx, hr]
  exact hK _ _ (h v' w' h2 h3 h4)
theorem run_copy_bs {w : World} (ty : TypeId) {g off dLen dCap : Nat} {cur : Array Value} {t : TypeId} (hb : Blk w g t cur) {u : Value} {l : List UInt8} {F : Nat → Prop} (hu : Bs w F u l) (hfit : off + dLen ≤ cur.size) :
    ∃ w', (Builtin.copy_ #[22, 22] ty #[.slice (some ⟨g, off, none⟩) dLen dCap, u]).run Try.prog w = .ok (goInt ((Nat.min l.length dLen : Nat) : Int)) w' ∧ Blk w' g t (setL cur off ((u8s l).take dLen)) ∧ Ext (One g) w w' := by
  obtain ⟨hl, A, c, rfl, hc, hm, hcell⟩ := hu
  have hlen : ((u8s l).take dLen).length = Nat.min l.length dLen := by rw [List.length_take, u8s_length]; exact Nat.min_comm _ _
  have hsz : (Try.prog.info? 5).map (·.size) = some 1 := by kernel_rfl
  by_cases h0 : Nat.min l.length dLen = 0
  · have h0' : min l.length dLen = 0 := h0
    refine ⟨w, ?_, ?_, Ext.refl _ w⟩
    · rw [run_copy_none w 22 22 ty 5 _ _ _ _ _ _ Try.underlying22 hsz h0, h0]; rfl
    · rw [List.eq_nil_of_length_eq_zero (hlen.trans h0)]; exact hb
  · have hlp : 0 < l.length := by
      rcases Nat.eq_zero_or_pos l.length with h | h
      · rw [h] at h0; exact absurd (Nat.zero_min _) h0
      · exact h
    obtain ⟨b, o, rfl, _, hcc⟩ := hcell hlp
    have hr := run_copy_cells (P := Try.prog) w 22 22 ty 5 g off dLen dCap ⟨b, o, none⟩ l.length c ((u8s l).take dLen) Try.underlying22 hsz hlen
      (fun j v hj => by
        rw [show (⟨b, o, none⟩ : Addr).add j = ⟨b, o + j, none⟩ by unfold Addr.add; split <;> simp_all]
        have hjl := (List.getElem?_eq_some_iff.1 hj).1
        rw [List.length_take] at hjl
        rw [List.getElem?_take_of_lt (by omega)] at hj
        exact hcc j v hj)
      (fun j hj => by
        rw [List.length_take] at hj
        rw [hb.cell, Array.getElem?_eq_getElem (by omega)]; rfl) (fun j _ => hb.frozen _) (fun v hv => u8s_one l v (List.mem_of_mem_take hv))
    rw [hlen] at hr
    exact ⟨_, hr, hb.sets _ _, Ext.sets _ _ (Ext.refl _ w) (fun _ => rfl)⟩
theorem wp_copy_bs {o : Oper} {a : Act} {w : World} {K : Act → World → Prop} {Q : Exit → Act → World → Prop} (d s : Operand) (ho : o.op = .call { callee := .builtin .copy, args := #[d, s], argTypes := #[22, 22] })
    {g off dLen dCap : Nat} {cur : Array Value} {t : TypeId} (hb : Blk w g t cur) (hd : a.eval d = .slice (some ⟨g, off, none⟩) dLen dCap) {u : Value} (hs : a.eval s = u) {l : List UInt8} {F : Nat → Prop} (hu : Bs w F u l) (hfit : off + dLen ≤ cur.size)
    (h : ∀ w', Blk w' g t (setL cur off ((u8s l).take dLen)) → Ext (One g) w w' → K (a.put o.dst (goInt ((Nat.min l.length dLen : Nat) : Int))) w') : o.wp Try.prog a w K Q := by
  obtain ⟨w', hr, h2, h3⟩ := run_copy_bs o.type (dCap := dCap) hb hu hfit
  unfold Oper.wp execOp
  simp only [ho, resolve, invoke, builtin, Sem.run_bind, Sem.run_pure, Result.andThen_ok, List.map_toArray, List.map_cons, List.map_nil, hs, hd, hr]
  exact h w' h2 h3
theorem copy_bs {ops : Array Oper} {rest : List Oper} {o : Oper} {a : Act} {w : World} {Q : Exit → Act → World → Prop} (hgd : o.guard = none) (d s : Operand) (ho : o.op = .call { callee := .builtin .copy, args := #[d, s], argTypes := #[22, 22] })
    {g off dLen dCap : Nat} {cur : Array Value} {t : TypeId} (hb : Blk w g t cur) (hd : a.eval d = .slice (some ⟨g, off, none⟩) dLen dCap) {u : Value} (hs : a.eval s = u) {l : List UInt8} {F : Nat → Prop} (hu : Bs w F u l) (hfit : off + dLen ≤ cur.size)
    (h : ∀ w', Blk w' g t (setL cur off ((u8s l).take dLen)) → Ext (One g) w w' → wpList Try.prog ops Q rest (a.put o.dst (goInt ((Nat.min l.length dLen : Nat) : Int))) w') : wpList Try.prog ops Q (o :: rest) a w :=
  wpList_plain hgd fun K hK => wp_copy_bs d s ho hb hd hs hu hfit fun w' h1 h2 => hK _ _ (h w' h1 h2)
theorem setL_u8s (L m : List UInt8) (off : Nat) (h : off + m.length ≤ L.length) : setL (u8s L).toArray off (u8s m) = (u8s (L.take off ++ m ++ L.drop (off + m.length))).toArray := by
  apply Array.ext_getElem?
  intro i
  conv => rhs; rw [List.getElem?_toArray]
  by_cases h1 : i < off
  · rw [setL_out _ _ _ _ (.inl h1), List.getElem?_toArray, u8s_append, u8s_append, List.append_assoc, List.getElem?_append_left (by rw [u8s_length, List.length_take]; omega)]
    unfold u8s; rw [List.map_take, List.getElem?_take_of_lt h1]
  · by_cases h2 : i < off + m.length
    · obtain ⟨j, rfl⟩ : ∃ j, i = off + j := ⟨i - off, by omega⟩
      rw [setL_in _ _ _ _ (by rw [u8s_length, List.size_toArray, u8s_length]; exact h) (by rw [u8s_length]; omega), u8s_append, u8s_append, List.append_assoc,
        List.getElem?_append_right (by rw [u8s_length, List.length_take]; omega), u8s_length, List.length_take, Nat.min_eq_left (by omega), Nat.add_sub_cancel_left, List.getElem?_append_left (by rw [u8s_length]; omega)]
    · rw [setL_out _ _ _ _ (.inr (by rw [u8s_length]; omega)), List.getElem?_toArray, u8s_append, List.getElem?_append_right (by rw [u8s_length, List.length_append, List.length_take]; omega), u8s_length, List.length_append, List.length_take, Nat.min_eq_left (by omega)]
      unfold u8s; rw [List.map_drop, List.getElem?_drop]
      congr 1; omega
end Go.Proofs.Ytmbbkkonmkbnoaa
namespace Go.Proofs.Ytmbbkkonmkbnoaa
open Go.RowKit
namespace RF
def upd (vs : Nat → Value) (i : Nat) (v : Value) : Nat → Value := fun k => if k = i then v else vs k
def deps (ops : Array Oper) (i : Nat) : List Nat := (((ops[i]?).map (·.after.toList)).getD []).filterMap fun e => if Region.binds .any e then some e.on else none
def unl (n : Nat) (listed : Array Bool) : List Nat := (List.range n).filter fun j => !listed.getD j true
def AllF (F : Nat → Value → World → Prop) (vs : Nat → Value) (w : World) : List Nat → Prop
  | [] => True
  | j :: l => F j (vs j) w ∧ AllF F vs w l
theorem AllF.of {F : Nat → Value → World → Prop} {vs : Nat → Value} {w : World} : ∀ {l : List Nat}, (∀ j ∈ l, F j (vs j) w) → AllF F vs w l
  | [], _ => trivial
  | j :: l, h => ⟨h j (List.mem_cons_self ..), AllF.of fun i hi => h i (List.mem_cons_of_mem _ hi)⟩
section
variable {P : Program} {ops : Array Oper} {Q : Exit → Act → World → Prop}
/-- What an operation owes: met behind those that it waits for, in whatever state else, it leaves its own fact, and keeps all others. -/
def Step (P : Program) (ops : Array Oper) (Q : Exit → Act → World → Prop) (lit : (Nat → Value) → Array Value) (df : List Deferred) (vs0 : Nat → Value) (F : Nat → Value → World → Prop) (G : (Nat → Value) → World → Prop) (i : Nat) : Prop :=
  ∀ vs w, G vs w → vs i = vs0 i → AllF F vs w (deps ops i) →
    wpOp P ops Q i (fun a' w' => ∃ v, a' = ⟨lit (upd vs i v), df⟩ ∧ G (upd vs i v) w' ∧ F i v w' ∧ ∀ j, j ≠ i → F j (vs j) w → F j (vs j) w') ⟨lit vs, df⟩ w
def Steps (P : Program) (ops : Array Oper) (Q : Exit → Act → World → Prop) (lit : (Nat → Value) → Array Value) (df : List Deferred) (vs0 : Nat → Value) (F : Nat → Value → World → Prop) (G : (Nat → Value) → World → Prop) : Nat → Prop
  | 0 => True
  | n + 1 => Steps P ops Q lit df vs0 F G n ∧ Step P ops Q lit df vs0 F G n
variable {lit : (Nat → Value) → Array Value} {df : List Deferred} {vs0 : Nat → Value} {F : Nat → Value → World → Prop} {G : (Nat → Value) → World → Prop}
theorem Steps.at : ∀ {n : Nat}, Steps P ops Q lit df vs0 F G n → ∀ i, i < n → Step P ops Q lit df vs0 F G i
  | 0, _, i, h => absurd h (Nat.not_lt_zero i)
  | n + 1, ⟨hs, h⟩, i, hi => by
    by_cases e : i = n
    · subst e; exact h
    · exact hs.at i (by omega)
/-- An operation without a guard. -/
theorem Step.plain {i : Nat} {o : Oper} (ho : ops[i]? = some o) (hg : o.guard = none)
    (h : ∀ vs w, G vs w → vs i = vs0 i → AllF F vs w (deps ops i) → ∀ K : Act → World → Prop,
      (∀ v w', G (upd vs i v) w' → F i v w' → (∀ j, j ≠ i → F j (vs j) w → F j (vs j) w') → K ⟨lit (upd vs i v), df⟩ w') → o.wp P ⟨lit vs, df⟩ w K Q) : Step P ops Q lit df vs0 F G i := by
  intro vs w hG hv hd
  unfold wpOp
  rw [ho]
  simp only [Region.wanted, hg, if_true]
  refine Or.inl (Oper.wp_mono (fun _ _ h => h) (h vs w hG hv hd _ ?_))
  intro v w' h1 h2 h3
  exact ⟨v, rfl, h1, h2, h3⟩
theorem unl_set {n i : Nat} {listed : Array Bool} (hs : listed.size = n) (hi : i ∈ unl n listed) : (unl n (listed.setIfInBounds i true)).length < (unl n listed).length := by
  have hlt : i < n := by have := (List.mem_filter.1 hi).1; simpa using this
  have e : unl n (listed.setIfInBounds i true) = (unl n listed).filter (fun j => j != i) := by
    unfold unl
    rw [List.filter_filter]
    apply List.filter_congr
    intro j hj
    have hj' : j < n := by simpa using hj
    by_cases hji : j = i
    · subst hji
      simp [Array.getD, hs, hj']
    · have : (listed.setIfInBounds i true).getD j true = listed.getD j true := by
        simp only [Array.getD_eq_getD_getElem?, Array.getElem?_setIfInBounds_ne (Ne.symm hji)]
      rw [this]
      simp [hji]
  rw [e]
  exact List.length_filter_lt_length_iff_exists.2 ⟨i, hi, by simp⟩
theorem any_of (hord : ∀ i, i < ops.size → ∀ j ∈ deps ops i, j < i) (hst : Steps P ops Q lit df vs0 F G ops.size)
    (hend : ∀ vs w, G vs w → (∀ i, i < ops.size → F i (vs i) w) → Q .normal ⟨lit vs, df⟩ w) : ∀ (fuel : Nat) (listed : Array Bool) (vs : Nat → Value) (w : World),
    listed.size = ops.size → (unl ops.size listed).length ≤ fuel → G vs w → (∀ j, listed.getD j false = true → F j (vs j) w) → (∀ j, listed.getD j false = false → vs j = vs0 j) → wpAny P .any ops Q fuel listed ⟨lit vs, df⟩ w := by
  have rdy : ∀ listed : Array Bool, ∀ i, i ∈ Region.ready .any ops listed ↔ i ∈ unl ops.size listed ∧ ∀ j ∈ deps ops i, listed.getD j false = true := by
    intro listed i
    unfold Region.ready unl
    simp only [List.mem_filter, List.mem_range, Bool.and_eq_true]
    constructor
    · rintro ⟨h1, h2, h3⟩
      refine ⟨⟨h1, h2⟩, fun j hj => ?_⟩
      unfold deps at hj
      rw [Array.getElem?_eq_getElem h1] at h3 hj
      simp only [Option.map_some, Option.getD_some, Array.all_eq_true', List.mem_filterMap, Array.mem_toList_iff] at h3 hj
      obtain ⟨e, he, hb⟩ := hj
      have := h3 e he
      by_cases hb' : Region.binds .any e = true
      · rw [if_pos hb'] at hb
        injection hb with hb
        subst hb
        simpa [hb'] using this
      · rw [if_neg hb'] at hb; cases hb
    · rintro ⟨⟨h1, h2⟩, h3⟩
      refine ⟨h1, h2, ?_⟩
      unfold deps at h3
      rw [Array.getElem?_eq_getElem h1] at h3 ⊢
      simp only [Option.map_some, Option.getD_some, Array.all_eq_true', List.mem_filterMap, Array.mem_toList_iff] at h3 ⊢
      intro e he
      by_cases hb' : Region.binds .any e = true
      · have := h3 e.on ⟨e, he, by rw [if_pos hb']⟩
        simp [hb', this]
      · simp [hb']
  have done : ∀ listed : Array Bool, listed.size = ops.size → Region.ready .any ops listed = [] → ∀ i, i < ops.size → listed.getD i false = true := by
    intro listed hs hr i
    induction i using Nat.strongRecOn with
    | _ i ih =>
      intro hi
      by_cases hl : listed.getD i false = true
      · exact hl
      · exfalso
        have hm : i ∈ Region.ready .any ops listed := by
          rw [rdy]
          refine ⟨?_, fun j hj => ih j (hord i hi j hj) (by have := hord i hi j hj; omega)⟩
          unfold unl
          rw [List.mem_filter]
          refine ⟨by simpa using hi, ?_⟩
          have : listed.getD i true = listed.getD i false := by simp [Array.getD, hs, hi]
          rw [this]
          simpa using hl
        rw [hr] at hm
        cases hm
  intro fuel
  induction fuel with
  | zero =>
    intro listed vs w hs hf hG hF hU
    have h0 : unl ops.size listed = [] := List.length_eq_zero_iff.1 (by omega)
    have hr : Region.ready .any ops listed = [] := by
      apply List.eq_nil_iff_forall_not_mem.2
      intro i hi
      have := ((rdy listed i).1 hi).1
      rw [h0] at this
      cases this
    exact ⟨hr, hend vs w hG fun i hi => hF i (done listed hs hr i hi)⟩
  | succ fuel ih =>
    intro listed vs w hs hf hG hF hU
    refine ⟨fun hr => hend vs w hG fun i hi => hF i (done listed hs hr i hi), fun i hi => ?_⟩
    obtain ⟨hu, hd⟩ := (rdy listed i).1 hi
    have hlt : i < ops.size := by have := (List.mem_filter.1 hu).1; simpa using this
    have hnl : listed.getD i false = false := by
      have h1 := (List.mem_filter.1 hu).2
      have : listed.getD i true = listed.getD i false := by simp [Array.getD, hs, hlt]
      rw [this] at h1
      simpa using h1
    refine wpOp_mono ?_ (hst.at i hlt vs w hG (hU i hnl) (AllF.of fun j hj => hF j (hd j hj)))
    rintro a' w' ⟨v, rfl, hG', hFi, hK⟩
    refine ih _ _ _ (by simp [hs]) (by have := unl_set hs hu; omega) hG' (fun j hj => ?_) (fun j hj => ?_)
    · unfold upd
      by_cases e : j = i
      · subst e; rw [if_pos rfl]; exact hFi
      · rw [if_neg e]
        refine hK _ e (hF j ?_)
        rw [Array.getD_eq_getD_getElem?, Array.getElem?_setIfInBounds_ne (Ne.symm e)] at hj
        rw [Array.getD_eq_getD_getElem?]
        exact hj
    · unfold upd
      by_cases e : j = i
      · subst e
        simp [Array.getD, hs, hlt] at hj
      · rw [if_neg e]
        refine hU j ?_
        rw [Array.getD_eq_getD_getElem?, Array.getElem?_setIfInBounds_ne (Ne.symm e)] at hj
        rw [Array.getD_eq_getD_getElem?]
        exact hj
theorem region {id : Nat} {a : Act} {w : World} (hm : P.follows .mixedOrders = true) (lit : (Nat → Value) → Array Value) (vs : Nat → Value) (F : Nat → Value → World → Prop) (G : (Nat → Value) → World → Prop)
    (ha : a = ⟨lit vs, df⟩) (hord : ((List.range ops.size).all fun i => (deps ops i).all fun j => decide (j < i)) = true) (hG : G vs w.drew)
    (hst : Steps P ops Q lit df vs F G ops.size) (hend : ∀ vs w, G vs w → (∀ i, i < ops.size → F i (vs i) w) → Q .normal ⟨lit vs, df⟩ w) : (Code.region id ops true).wp P Q a w := by
  subst ha
  refine wp_region_any hm (any_of ?_ hst hend ops.size _ vs _ (by simp) ?_ hG ?_ (fun _ _ => rfl))
  · intro i hi j hj
    have := List.all_eq_true.1 hord i (by simpa using hi)
    have := List.all_eq_true.1 this j hj
    simpa using this
  · unfold unl
    exact Nat.le_trans (List.length_filter_le _ _) (by simp)
  · intro j hj
    simp [Array.getD] at hj
end
end RF
end Go.Proofs.Ytmbbkkonmkbnoaa
namespace Go.Proofs.Ytmbbkkonmkbnoaa
open Go.RowKit Go.ChangeShapes Go.WideShapes Go.Deep
/-- The cells cs read as data of type t in w. -/
def Rd (P : Program) (w : World) (t : TypeId) (cs : List Value) : Prop :=
  ∃ (H : Type) (enc : TypeId × Value → H) (base : Nat) (spare : Nat → Bool) (held : Bool) (fuel : Nat) (x : DataW H × List MemPlace), DataW.trod enc P w base spare held fuel t cs = some x
section
variable {P : Program} {w : World} {t e : TypeId} {cs : List Value}
theorem Rd.of {H : Type} {enc : TypeId × Value → H} {base : Nat} {spare : Nat → Bool} {held : Bool} {v : Value} {d : DataW H} {ps : List MemPlace} (h : DataW.Trod enc P w base spare held t v d ps) : Rd P w t v.cells.toList := by
  obtain ⟨fuel, hf⟩ := h
  exact ⟨H, enc, base, spare, held, fuel, _, hf⟩
theorem Rd.int {k : IntKind} (ht : P.underlying t = some (.int k)) (h : Rd P w t cs) : ∃ n, cs = [.int k n] ∧ (Lit.int k n).wf = true := by
  obtain ⟨H, enc, base, spare, held, fuel, x, h⟩ := h
  obtain ⟨n, rfl, _, hw⟩ := DataW.trod_int ht h
  exact ⟨n, rfl, hw⟩
theorem Rd.bool (ht : P.underlying t = some .bool) (h : Rd P w t cs) : ∃ b, cs = [.bool b] := by
  obtain ⟨H, enc, base, spare, held, fuel, x, h⟩ := h
  obtain ⟨b, rfl, _⟩ := DataW.trod_bool ht h
  exact ⟨b, rfl⟩
theorem Rd.string (ht : P.underlying t = some .string) (h : Rd P w t cs) : ∃ s : ByteArray, cs = [.string s] ∧ s.size ≤ maxLen := by
  obtain ⟨H, enc, base, spare, held, fuel, x, h⟩ := h
  obtain ⟨s, rfl, hs, _⟩ := DataW.trod_string ht h
  exact ⟨s, rfl, by assumption⟩
theorem Rd.struct {fs : Array Field} (ht : P.underlying t = some (.struct fs)) (h : Rd P w t cs) :
    cs.length = P.cellsOf t ∧ ∀ (i : Nat) (f : Field), fs[i]? = some f → Rd P w f.type ((cs.drop f.offset).take (P.cellsOf f.type)) := by
  obtain ⟨H, enc, base, spare, held, fuel, x, h⟩ := h
  obtain ⟨xs, n, _, _, hl, hxl, hf⟩ := DataW.trod_struct ht h
  refine ⟨hl, fun i f hi => ?_⟩
  have hlt : i < fs.size := (Array.getElem?_eq_some_iff.1 hi).1
  exact ⟨H, enc, base, spare, held, n, xs[i]'(by omega), by rw [hf i f hi]; exact List.getElem?_eq_getElem (by omega)⟩
theorem addr_add (b off n : Nat) : (⟨b, off, none⟩ : Addr).add n = ⟨b, off + n, none⟩ := by unfold Addr.add; split <;> simp_all
theorem addr_spot {w : World} {a : Addr} {v : Value} (h : w.cell? a = some v) : a.spot = none := by
  unfold World.cell? at h
  split at h
  · split at h
    · cases h
    · rename_i hs; simpa using hs
  · cases h
theorem Rd.slice (ht : P.underlying t = some (.slice e)) (hC : 0 < P.cellsOf e) (h : Rd P w t cs) :
    ∃ A len cap, cs = [.slice A len cap] ∧ len ≤ cap ∧ cap ≤ maxLen ∧ (A = none → len = 0) ∧ ∃ b off, ∀ i, i < len → A = some ⟨b, off, none⟩ ∧ ∃ cs', cs'.length = P.cellsOf e ∧
      (∀ j u, cs'[j]? = some u → w.cell? ⟨b, off + i * P.cellsOf e + j, none⟩ = some u) ∧ Rd P w e cs' := by
  obtain ⟨H, enc, base, spare, held, fuel, x, h⟩ := h
  rcases open_slice ht h with ⟨rfl, _⟩ | ⟨a, len, cap, m, n, D, Pl, rfl, hb, hl, hm, hmm, hx, hi⟩
  · exact ⟨none, 0, 0, rfl, Nat.le_refl _, Nat.zero_le _, fun _ => rfl, 0, 0, fun i hi => absurd hi (Nat.not_lt_zero _)⟩
  · refine ⟨some a, len, cap, rfl, hl, hm, (fun h => by cases h), a.block, a.off, fun i hlt => ?_⟩
    have hlm : len ≤ m := by rw [hmm]; split <;> omega
    have hsp : a.spot = none := by
      obtain ⟨cs0, h0, _⟩ := hi 0 (by omega)
      obtain ⟨_, hl0, hc0⟩ := World.cells?_some h0
      have := hc0 0 hC
      rw [List.getElem?_eq_getElem (by omega)] at this
      have h2 := addr_spot this
      simpa [Addr.add] using h2
    obtain ⟨b, off, sp⟩ := a
    simp only at hsp
    subst hsp
    refine ⟨rfl, ?_⟩
    obtain ⟨cs', hc, ht'⟩ := hi i (by omega)
    obtain ⟨_, hcl, hcc⟩ := World.cells?_some hc
    refine ⟨cs', hcl, fun j u hu => ?_, H, enc, base, spare, held, n, _, ht'⟩
    have hj : j < cs'.length := (List.getElem?_eq_some_iff.1 hu).1
    have := hcc j (by omega)
    rw [addr_add, addr_add] at this
    exact this.trans hu
end
section
variable {P : Program} {w : World} {t : TypeId} {v : Value} {r : Reach} {base : Nat}
theorem Rd.int_val {k : IntKind} (ht : P.underlying t = some (.int k)) (ok : Value.okWide P w r base t v) (h : Rd P w t v.cells.toList) : ∃ n, v = .int k n ∧ (Lit.int k n).wf = true := by
  obtain ⟨H, enc, base', spare, held, fuel, x, hx⟩ := h
  obtain ⟨n, rfl, _, _, hw⟩ := open_int ht ok ⟨fuel, hx⟩
  exact ⟨n, rfl, hw⟩
theorem Rd.bool_val (ht : P.underlying t = some .bool) (ok : Value.okWide P w r base t v) (h : Rd P w t v.cells.toList) : ∃ b, v = .bool b := by
  obtain ⟨H, enc, base', spare, held, fuel, x, hx⟩ := h
  obtain ⟨b, rfl, _⟩ := open_bool ht ok ⟨fuel, hx⟩
  exact ⟨b, rfl⟩
end
end Go.Proofs.Ytmbbkkonmkbnoaa
namespace Go.Proofs.Ytmbbkkonmkbnoaa
open Go.RowKit Go.Deep
/-- The world behind []byte of a constant string whose bytes are cs. -/
def strLit (W : World) (cs : Array Value) : World := (W.alloc (.cells cs 5)).freeze ⟨W.heap.size, cs.size, none⟩ 1
theorem strLit_heap (W : World) (cs : Array Value) : (strLit W cs).heap = (W.alloc (.cells cs 5)).heap.modify W.heap.size (fun | .cells c elem (lo, hi) => .cells c elem (if lo == hi then (cs.size, cs.size + 1) else (min lo cs.size, max hi (cs.size + 1))) | o => o) := by
  unfold strLit World.freeze
  rw [if_neg (by decide)]
  rfl
@[simp] theorem size_strLit (W : World) (cs : Array Value) : (strLit W cs).heap.size = W.heap.size + 1 := by rw [strLit_heap, Array.size_modify, World.size_alloc]
theorem strLit_far (W : World) (cs : Array Value) (b : Nat) (hb : b < W.heap.size) : (strLit W cs).heap[b]? = W.heap[b]? := by
  rw [strLit_heap, Array.getElem?_modify, if_neg (by omega)]
  exact Below.heap_alloc W _ b hb
theorem strLit_new (W : World) (cs : Array Value) : (strLit W cs).heap[W.heap.size]? = some (.cells cs 5 (cs.size, cs.size + 1)) := by
  rw [strLit_heap, Array.getElem?_modify, if_pos rfl, heap_alloc_new]
  rfl
theorem Ext.strLit {S : Nat → Prop} {a b : World} (h : Ext S a b) (cs : Array Value) : Ext S a (strLit b cs) := by
  refine ⟨h.os, h.tape, h.output, ?_, fun i hi hn => ?_⟩
  · have := h.size; rw [size_strLit]; omega
  · rw [strLit_far _ _ _ (by have := h.size; omega)]; exact h.block i hi hn
theorem run_conv_new (cs : Array Value) (n c : Nat) (g : Nat) (W : World) (hg : g = W.heap.size) : Sem.run Try.prog (convert 22 22 (.slice (some ⟨g, 0, none⟩) n c)) (W.alloc (.cells cs 5)) = .ok (.slice (some ⟨g, 0, none⟩) n c) (strLit W cs) := by
  subst hg
  have h : (W.alloc (.cells cs 5)).shape? W.heap.size = some (5, cs.size) := by
    unfold World.shape?
    rw [heap_alloc_new]
  have u : Try.prog.underlying 22 = some (.slice 5) := Try.underlying22
  have u2 : Try.prog.underlying 5 = some (.int .u8) := Try.underlying5
  unfold convert markStringish strLit
  simp [go_sem, h, u, u2]
theorem bs_strLit (W : World) (l : List UInt8) (hl : l.length ≤ maxLen) {g : Nat} (hg : g = W.heap.size) : Bs (strLit W (u8s l).toArray) (fun b => b = W.heap.size) (.slice (some ⟨g, 0, none⟩) l.length l.length) l := by
  subst hg
  refine ⟨by simp [u8s_length], _, _, rfl, Nat.le_refl _, hl, fun _ => ⟨_, 0, rfl, rfl, fun j u hu => ?_⟩⟩
  rw [Nat.zero_add]
  unfold World.cell?
  rw [strLit_new]
  simpa using hu
end Go.Proofs.Ytmbbkkonmkbnoaa
namespace Go.Proofs.Ytmbbkkonmkbnoaa
open Go.RowKit Go.ChangeShapes Go.WideShapes Go.Deep
/-- A slice of bytes that reads as data reads as a list of bytes. -/
theorem bytes_of {W : World} {cs : List Value} (h : Rd Try.prog W 22 cs) : ∃ A c l, cs = [.slice A (List.length l) c] ∧ Bs W (fun b => b < W.heap.size) (.slice A (List.length l) c) l := by
  have hC : Try.prog.cellsOf 5 = 1 := by kernel_rfl
  obtain ⟨A, len, cap, hcs, hl, hcm, hA0, b, off, hi⟩ := Rd.slice Try.underlying22 (by rw [hC]; omega) h
  have hbyte : ∀ i, i < len → ∃ x : UInt8, W.cell? ⟨b, off + i, none⟩ = some (.int .u8 (x.toNat : Int)) := by
    intro i hlt
    obtain ⟨_, cs', hcl, hcell, hrd⟩ := hi i hlt
    obtain ⟨n, rfl, hw⟩ := Rd.int Try.underlying5 hrd
    have hb := bounds_u8 hw
    have := hcell 0 _ rfl
    rw [hC] at this
    simp only [Nat.mul_one, Nat.add_zero] at this
    refine ⟨UInt8.ofNat n.toNat, ?_⟩
    have e : ((UInt8.ofNat n.toNat).toNat : Int) = n := by
      rw [UInt8.toNat_ofNat']
      have : n.toNat % 2 ^ 8 = n.toNat := Nat.mod_eq_of_lt (by have := hb.2; have := hb.1; omega)
      rw [this]; omega
    rw [this, e]
  have hx : ∃ f : Nat → UInt8, ∀ i, i < len → W.cell? ⟨b, off + i, none⟩ = some (.int .u8 ((f i).toNat : Int)) :=
    ⟨fun i => if hi : i < len then (hbyte i hi).choose else 0, fun i hlt => by
      simp only [hlt, dif_pos]
      exact (hbyte i hlt).choose_spec⟩
  obtain ⟨f, hf⟩ := hx
  have hll : ((List.range len).map f).length = len := by simp
  refine ⟨A, cap, (List.range len).map f, by rw [hll]; exact hcs, ?_⟩
  rw [hll]
  refine ⟨by simp [u8s], A, cap, by rw [hll], by rw [hll]; exact hl, hcm, fun h0 => ?_⟩
  rw [hll] at h0
  refine ⟨b, off, (hi 0 h0).1, World.block_lt_of_cell? W _ (hf 0 h0), fun j u hu => ?_⟩
  have hj : j < len := by have := (List.getElem?_eq_some_iff.1 hu).1; simpa [u8s] using this
  rw [hf j hj]
  simpa [u8s, u8v, hj] using hu
end Go.Proofs.Ytmbbkkonmkbnoaa
namespace Go.Proofs.Ytmbbkkonmkbnoaa
open Go.RowKit Go.ChangeShapes Go.WideShapes Go.Deep
theorem parts_of {W : World} {cs : List Value} (h : Rd Try.prog W 28 cs) : ∃ A c ls, cs = [.slice A (List.length ls) c] ∧ Parts W (fun b => b < W.heap.size) (.slice A (List.length ls) c) ls := by
  have hC : Try.prog.cellsOf 22 = 1 := by kernel_rfl
  obtain ⟨A, len, cap, hcs, hl, hcm, hA0, b, off, hi⟩ := Rd.slice Try.underlying28 (by rw [hC]; omega) h
  have hrow : ∀ i, i < len → ∃ (u : Value) (l : List UInt8), W.cell? ⟨b, off + i, none⟩ = some u ∧ Bs W (fun b => b < W.heap.size) u l := by
    intro i hlt
    obtain ⟨_, cs', hcl, hcell, hrd⟩ := hi i hlt
    obtain ⟨A', c', l, rfl, hb⟩ := bytes_of hrd
    have := hcell 0 _ rfl
    rw [hC] at this
    simp only [Nat.mul_one, Nat.add_zero] at this
    exact ⟨_, l, this, hb⟩
  have hx : ∃ (f : Nat → Value) (g : Nat → List UInt8), ∀ i, i < len → W.cell? ⟨b, off + i, none⟩ = some (f i) ∧ Bs W (fun b => b < W.heap.size) (f i) (g i) :=
    ⟨fun i => if hi : i < len then (hrow i hi).choose else undef, fun i => if hi : i < len then (hrow i hi).choose_spec.choose else [], fun i hlt => by
      simp only [hlt, dif_pos]
      exact (hrow i hlt).choose_spec.choose_spec⟩
  obtain ⟨f, g, hf⟩ := hx
  have hll : ((List.range len).map g).length = len := by simp
  refine ⟨A, cap, (List.range len).map g, by rw [hll]; exact hcs, ?_⟩
  rw [hll]
  refine ⟨(List.range len).map f, ⟨by simp, A, cap, by rw [hll], by rw [hll]; exact hl, hcm, fun h0 => ?_⟩, fun i hlt => ?_⟩
  · rw [hll] at h0
    refine ⟨b, off, (hi 0 h0).1, World.block_lt_of_cell? W _ (hf 0 h0).1, fun j u hu => ?_⟩
    have hj : j < len := by have := (List.getElem?_eq_some_iff.1 hu).1; simpa using this
    rw [(hf j hj).1]
    simpa [hj] using hu
  · have hlt' : i < len := by simpa using hlt
    exact ⟨f i, by simp [hlt'], by simpa using (hf i hlt').2⟩
set_option maxRecDepth 100000 in
set_option maxHeartbeats 1000000 in
theorem short_any (F : Nat → Prop) (v : Value) (ls : List (List UInt8)) (w : World) (h : Parts w F v ls) :
    Calls Try.prog 38 #[v] w fun e w' => Ext No w w' ∧ (e = .returned (.int .i64 1) ∨ (e = .returned (.int .i64 0) ∧ ls.length ≤ 40 ∧ ls.flatten.length ≤ 6000)) := by
  obtain ⟨A, c, rfl, hc, hm, b, o, hA⟩ := h.slice
  unfold maxLen at hm
  have HA := Lib.hid hA
  have HF := Lib.hid (flat_take ls)
  clear hA h
  by_cases h40 : 40 < ls.length
  · go_enter Try.func38, Try.ntmps38
    go_wp2_with fail
    go_ret
    exact ⟨Ext.refl _ _, .inl rfl⟩
  · go_enter Try.func38, Try.ntmps38
    go_wp2_with fail
    go_loopw [3, 4] (fun n i wr => ∃ k z : Nat, k ≤ ls.length ∧ i = .int .i64 ((k : Nat) : Int) ∧ n = .int .i64 ((z : Nat) : Int) ∧ z ≤ 6000 ∧ Hid ((ls.take k).flatten.length = z) ∧ ∃ n, wr = w.drewN n) (fun _ i _ => ls.length - (intOf i).toNat)
    case atStart => exact ⟨0, 0, by omega, rfl, rfl, by omega, Lib.hid rfl, 0, rfl⟩
    case round =>
      obtain ⟨k, z, hk, rfl, rfl, hz, HZ, nd, rfl⟩ := hrel
      by_cases hlt : k < ls.length
      · obtain ⟨A', c', rfl, -, hcell, -⟩ := HA.out k hlt
        have hcell' : (w.drewN nd).cell? ⟨b, o + k, none⟩ = some (.slice A' ls[k].length c') := hcell
        have HS := Lib.hid (HF.out k hlt)
        obtain ⟨len, hlen⟩ : ∃ x, ls[k].length = x := ⟨_, rfl⟩
        rw [hlen] at hcell hcell'
        have HLEN := Lib.hid hlen
        clear hlen
        by_cases h3 : 3000 < len
        · go_wp2_with fail
          go_ret
          exact ⟨(Ext.refl No w).drewN nd, .inl rfl⟩
        · by_cases h6 : 6000 < z + len
          · go_wp2_with fail
            go_ret
            exact ⟨(Ext.refl No w).drewN nd, .inl rfl⟩
          · go_wp2_with fail
            refine ⟨⟨k + 1, z + len, by omega, by go_num, by go_num, by omega, Lib.hid (by rw [HS.out, List.length_append, HZ.out, HLEN.out]), nd, rfl⟩, by simp [intOf]; omega⟩
      · obtain rfl : k = ls.length := by omega
        go_wp2_with fail
        go_ret
        exact ⟨(Ext.refl No w).drewN nd, .inr ⟨rfl, by omega, by have := HZ.out; rw [List.take_length] at this; omega⟩⟩
end Go.Proofs.Ytmbbkkonmkbnoaa
namespace Go.Proofs.Ytmbbkkonmkbnoaa
open Go.RowKit
namespace RF
variable {P : Program} {ops : Array Oper} {Q : Exit → Act → World → Prop} {lit : (Nat → Value) → Array Value} {df : List Deferred} {vs0 : Nat → Value} {F : Nat → Value → World → Prop} {G : (Nat → Value) → World → Prop}
/-- An operation with a guard that is met. -/
theorem Step.guarded {i : Nat} {o : Oper} (ho : ops[i]? = some o) (hw : ∀ vs w, G vs w → vs i = vs0 i → AllF F vs w (deps ops i) → Region.wanted o (yielded ops (lit vs)) = true)
    (h : ∀ vs w, G vs w → vs i = vs0 i → AllF F vs w (deps ops i) → ∀ K : Act → World → Prop,
      (∀ v w', G (upd vs i v) w' → F i v w' → (∀ j, j ≠ i → F j (vs j) w → F j (vs j) w') → K ⟨lit (upd vs i v), df⟩ w') → o.wp P ⟨lit vs, df⟩ w K Q) : Step P ops Q lit df vs0 F G i := by
  intro vs w hG hv hd
  unfold wpOp
  rw [ho]
  dsimp only
  rw [if_pos (hw vs w hG hv hd)]
  refine Or.inl (Oper.wp_mono (fun _ _ h => h) (h vs w hG hv hd _ ?_))
  intro v w' h1 h2 h3
  exact ⟨v, rfl, h1, h2, h3⟩
/-- An operation with a guard that is not met. -/
theorem Step.skip {i : Nat} {o : Oper} (ho : ops[i]? = some o) (hw : ∀ vs w, G vs w → vs i = vs0 i → AllF F vs w (deps ops i) → Region.wanted o (yielded ops (lit vs)) = false)
    (hp : ∀ vs, (⟨lit vs, df⟩ : Act).put o.dst undef = ⟨lit (upd vs i undef), df⟩)
    (h : ∀ vs w, G vs w → vs i = vs0 i → AllF F vs w (deps ops i) → G (upd vs i undef) w ∧ F i undef w) : Step P ops Q lit df vs0 F G i := by
  intro vs w hG hv hd
  unfold wpOp
  rw [ho]
  dsimp only
  rw [hw vs w hG hv hd]
  simp only [Bool.false_eq_true, if_false]
  obtain ⟨h1, h2⟩ := h vs w hG hv hd
  exact ⟨undef, hp vs, h1, h2, fun _ _ h => h⟩
end RF
end Go.Proofs.Ytmbbkkonmkbnoaa
namespace Go.Proofs.Ytmbbkkonmkbnoaa
open Go.RowKit
namespace RF
/-- Does j wait for i, at once or through others? -/
def reach (ops : Array Oper) : Nat → Nat → Nat → Bool
  | 0, _, _ => false
  | n + 1, j, i => (deps ops j).any fun k => decide (k = i) || reach ops n k i
variable {P : Program} {ops : Array Oper} {Q : Exit → Act → World → Prop}
/-- As Step; l, which waits for i, is not done yet. -/
def StepL (P : Program) (ops : Array Oper) (Q : Exit → Act → World → Prop) (lit : (Nat → Value) → Array Value) (df : List Deferred) (vs0 : Nat → Value) (F : Nat → Value → World → Prop) (G : (Nat → Value) → World → Prop) (l i : Nat) : Prop :=
  ∀ vs w, G vs w → vs i = vs0 i → (reach ops ops.size l i = true → vs l = vs0 l) → AllF F vs w (deps ops i) →
    wpOp P ops Q i (fun a' w' => ∃ v, a' = ⟨lit (upd vs i v), df⟩ ∧ G (upd vs i v) w' ∧ F i v w' ∧ ∀ j, j ≠ i → F j (vs j) w → F j (vs j) w') ⟨lit vs, df⟩ w
def StepsL (P : Program) (ops : Array Oper) (Q : Exit → Act → World → Prop) (lit : (Nat → Value) → Array Value) (df : List Deferred) (vs0 : Nat → Value) (F : Nat → Value → World → Prop) (G : (Nat → Value) → World → Prop) (l : Nat) : Nat → Prop
  | 0 => True
  | n + 1 => StepsL P ops Q lit df vs0 F G l n ∧ StepL P ops Q lit df vs0 F G l n
variable {lit : (Nat → Value) → Array Value} {df : List Deferred} {vs0 : Nat → Value} {F : Nat → Value → World → Prop} {G : (Nat → Value) → World → Prop} {l : Nat}
theorem StepsL.at : ∀ {n : Nat}, StepsL P ops Q lit df vs0 F G l n → ∀ i, i < n → StepL P ops Q lit df vs0 F G l i
  | 0, _, i, h => absurd h (Nat.not_lt_zero i)
  | n + 1, ⟨hs, h⟩, i, hi => by
    by_cases e : i = n
    · subst e; exact h
    · exact hs.at i (by omega)
theorem Step.late {i : Nat} (h : Step P ops Q lit df vs0 F G i) : StepL P ops Q lit df vs0 F G l i := fun vs w hG hv _ hd => h vs w hG hv hd
/-- An operation without a guard, ahead of l. -/
theorem StepL.plain {i : Nat} {o : Oper} (ho : ops[i]? = some o) (hg : o.guard = none) (hr : reach ops ops.size l i = true)
    (h : ∀ vs w, G vs w → vs i = vs0 i → vs l = vs0 l → AllF F vs w (deps ops i) → ∀ K : Act → World → Prop,
      (∀ v w', G (upd vs i v) w' → F i v w' → (∀ j, j ≠ i → F j (vs j) w → F j (vs j) w') → K ⟨lit (upd vs i v), df⟩ w') → o.wp P ⟨lit vs, df⟩ w K Q) : StepL P ops Q lit df vs0 F G l i := by
  intro vs w hG hv hl hd
  unfold wpOp
  rw [ho]
  simp only [Region.wanted, hg, if_true]
  refine Or.inl (Oper.wp_mono (fun _ _ h => h) (h vs w hG hv (hl hr) hd _ ?_))
  intro v w' h1 h2 h3
  exact ⟨v, rfl, h1, h2, h3⟩
theorem reach_listed {listed : Array Bool} (hc : ∀ j, listed.getD j false = true → ∀ i ∈ deps ops j, listed.getD i false = true) : ∀ n j i, reach ops n j i = true → listed.getD j false = true → listed.getD i false = true := by
  intro n
  induction n with
  | zero => intro j i h; cases h
  | succ n ih =>
    intro j i h hj
    unfold reach at h
    rw [List.any_eq_true] at h
    obtain ⟨k, hk, h⟩ := h
    rw [Bool.or_eq_true, decide_eq_true_eq] at h
    rcases h with rfl | h
    · exact hc j hj _ hk
    · exact ih k i h (hc j hj k hk)
theorem any_ofL (hord : ∀ i, i < ops.size → ∀ j ∈ deps ops i, j < i) (hst : StepsL P ops Q lit df vs0 F G l ops.size)
    (hend : ∀ vs w, G vs w → (∀ i, i < ops.size → F i (vs i) w) → Q .normal ⟨lit vs, df⟩ w) : ∀ (fuel : Nat) (listed : Array Bool) (vs : Nat → Value) (w : World),
    listed.size = ops.size → (unl ops.size listed).length ≤ fuel → G vs w → (∀ j, listed.getD j false = true → F j (vs j) w) → (∀ j, listed.getD j false = false → vs j = vs0 j) →
    (∀ j, listed.getD j false = true → ∀ i ∈ deps ops j, listed.getD i false = true) → wpAny P .any ops Q fuel listed ⟨lit vs, df⟩ w := by
  have rdy : ∀ listed : Array Bool, ∀ i, i ∈ Region.ready .any ops listed ↔ i ∈ unl ops.size listed ∧ ∀ j ∈ deps ops i, listed.getD j false = true := by
    intro listed i
    unfold Region.ready unl
    simp only [List.mem_filter, List.mem_range, Bool.and_eq_true]
    constructor
    · rintro ⟨h1, h2, h3⟩
      refine ⟨⟨h1, h2⟩, fun j hj => ?_⟩
      unfold deps at hj
      rw [Array.getElem?_eq_getElem h1] at h3 hj
      simp only [Option.map_some, Option.getD_some, Array.all_eq_true', List.mem_filterMap, Array.mem_toList_iff] at h3 hj
      obtain ⟨e, he, hb⟩ := hj
      have := h3 e he
      by_cases hb' : Region.binds .any e = true
      · rw [if_pos hb'] at hb
        injection hb with hb
        subst hb
        simpa [hb'] using this
      · rw [if_neg hb'] at hb; cases hb
    · rintro ⟨⟨h1, h2⟩, h3⟩
      refine ⟨h1, h2, ?_⟩
      unfold deps at h3
      rw [Array.getElem?_eq_getElem h1] at h3 ⊢
      simp only [Option.map_some, Option.getD_some, Array.all_eq_true', List.mem_filterMap, Array.mem_toList_iff] at h3 ⊢
      intro e he
      by_cases hb' : Region.binds .any e = true
      · have := h3 e.on ⟨e, he, by rw [if_pos hb']⟩
        simp [hb', this]
      · simp [hb']
  have done : ∀ listed : Array Bool, listed.size = ops.size → Region.ready .any ops listed = [] → ∀ i, i < ops.size → listed.getD i false = true := by
    intro listed hs hr i
    induction i using Nat.strongRecOn with
    | _ i ih =>
      intro hi
      by_cases hl : listed.getD i false = true
      · exact hl
      · exfalso
        have hm : i ∈ Region.ready .any ops listed := by
          rw [rdy]
          refine ⟨?_, fun j hj => ih j (hord i hi j hj) (by have := hord i hi j hj; omega)⟩
          unfold unl
          rw [List.mem_filter]
          refine ⟨by simpa using hi, ?_⟩
          have : listed.getD i true = listed.getD i false := by simp [Array.getD, hs, hi]
          rw [this]
          simpa using hl
        rw [hr] at hm
        cases hm
  intro fuel
  induction fuel with
  | zero =>
    intro listed vs w hs hf hG hF hU hC
    have h0 : unl ops.size listed = [] := List.length_eq_zero_iff.1 (by omega)
    have hr : Region.ready .any ops listed = [] := by
      apply List.eq_nil_iff_forall_not_mem.2
      intro i hi
      have := ((rdy listed i).1 hi).1
      rw [h0] at this
      cases this
    exact ⟨hr, hend vs w hG fun i hi => hF i (done listed hs hr i hi)⟩
  | succ fuel ih =>
    intro listed vs w hs hf hG hF hU hC
    refine ⟨fun hr => hend vs w hG fun i hi => hF i (done listed hs hr i hi), fun i hi => ?_⟩
    obtain ⟨hu, hd⟩ := (rdy listed i).1 hi
    have hlt : i < ops.size := by have := (List.mem_filter.1 hu).1; simpa using this
    have hnl : listed.getD i false = false := by
      have h1 := (List.mem_filter.1 hu).2
      have : listed.getD i true = listed.getD i false := by simp [Array.getD, hs, hlt]
      rw [this] at h1
      simpa using h1
    have hlate : reach ops ops.size l i = true → vs l = vs0 l := fun hr => by
      apply hU
      cases hll : listed.getD l false with
      | false => rfl
      | true =>
        have := reach_listed hC _ _ _ hr hll
        rw [hnl] at this
        cases this
    refine wpOp_mono ?_ (hst.at i hlt vs w hG (hU i hnl) hlate (AllF.of fun j hj => hF j (hd j hj)))
    rintro a' w' ⟨v, rfl, hG', hFi, hK⟩
    have hset : ∀ j, j ≠ i → (listed.setIfInBounds i true).getD j false = listed.getD j false := fun j e => by
      rw [Array.getD_eq_getD_getElem?, Array.getElem?_setIfInBounds_ne (Ne.symm e), Array.getD_eq_getD_getElem?]
    refine ih _ _ _ (by simp [hs]) (by have := unl_set hs hu; omega) hG' (fun j hj => ?_) (fun j hj => ?_) (fun j hj k hk => ?_)
    · unfold upd
      by_cases e : j = i
      · subst e; rw [if_pos rfl]; exact hFi
      · rw [if_neg e]
        refine hK _ e (hF j ?_)
        rw [hset j e] at hj
        exact hj
    · unfold upd
      by_cases e : j = i
      · subst e
        simp [Array.getD, hs, hlt] at hj
      · rw [if_neg e]
        refine hU j ?_
        rw [hset j e] at hj
        exact hj
    · by_cases e : k = i
      · subst e
        simp [Array.getD, hs, hlt]
      · rw [hset k e]
        by_cases e2 : j = i
        · subst e2; exact hd k hk
        · rw [hset j e2] at hj
          exact hC j hj k hk
/-- As region; l is an operation whose slot is read ahead of it. -/
theorem regionL {id : Nat} {a : Act} {w : World} (hm : P.follows .mixedOrders = true) (lit : (Nat → Value) → Array Value) (vs : Nat → Value) (F : Nat → Value → World → Prop) (G : (Nat → Value) → World → Prop) (l : Nat)
    (ha : a = ⟨lit vs, df⟩) (hord : ((List.range ops.size).all fun i => (deps ops i).all fun j => decide (j < i)) = true) (hG : G vs w.drew)
    (hst : StepsL P ops Q lit df vs F G l ops.size) (hend : ∀ vs w, G vs w → (∀ i, i < ops.size → F i (vs i) w) → Q .normal ⟨lit vs, df⟩ w) : (Code.region id ops true).wp P Q a w := by
  subst ha
  refine wp_region_any hm (any_ofL (l := l) ?_ hst hend ops.size _ vs _ (by simp) ?_ hG ?_ (fun _ _ => rfl) ?_)
  · intro i hi j hj
    have := List.all_eq_true.1 hord i (by simpa using hi)
    have := List.all_eq_true.1 this j hj
    simpa using this
  · unfold unl
    exact Nat.le_trans (List.length_filter_le _ _) (by simp)
  · intro j hj
    simp [Array.getD] at hj
  · intro j hj
    simp [Array.getD] at hj
end RF
end Go.Proofs.Ytmbbkkonmkbnoaa
