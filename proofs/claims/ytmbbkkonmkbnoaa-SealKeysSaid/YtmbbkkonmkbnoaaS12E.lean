/- SealSt, SealPure, SealFn, SealNote, AppFld, SealNote2. -/
import Derived.Test.YtmbbkkonmkbnoaaS12A
import Derived.Test.YtmbbkkonmkbnoaaS12B
import Derived.Deep.OwnRows
import Derived.Deep.MidRow
import Derived.Laws.IdiomStrings
import Derived.Laws.BytesArg
import Derived.Test.YtmbbkkonmkbnoaaS12D
set_option linter.unusedVariables false
set_option linter.unusedSimpArgs false
namespace Go.Proofs.Ytmbbkkonmkbnoaa
open Go.RowKit Go.Deep Go.MapKept
/-- Blocks of bytes. -/
def U8 (w : World) : Nat → Prop := fun b => ∃ cs, Blk w b 5 cs
/-- Bytes in a block of bytes. -/
def By (w : World) (v : Value) (l : List UInt8) : Prop := Bs w (U8 w) v l
section
variable {S : Nat → Prop} {w w' : World} {v : Value} {l : List UInt8}
theorem U8.ext {b : Nat} (h : U8 w b) (he : Ext S w w') (hn : ¬ S b) : U8 w' b := let ⟨cs, h⟩ := h; ⟨cs, h.ext he hn⟩
theorem U8.lt {b : Nat} (h : U8 w b) : b < w.heap.size := let ⟨_, h⟩ := h; h.lt
theorem By.ext (h : By w v l) (he : Ext S w w') (hd : ∀ b, U8 w b → ¬ S b) : By w' v l :=
  Bs.mono (Bs.ext (Bs.mono h (F' := fun b => U8 w b) (fun _ h => h)) he (fun b hb _ => hd b hb)) (fun b hb => U8.ext hb he (hd b hb))
theorem By.ext_no (h : By w v l) (he : Ext No w w') : By w' v l := h.ext he fun _ _ h => h
theorem By.of_own {base : Nat} (h : Own w base v l) : By w v l := h.bs.mono fun _ h => h.2.2
theorem By.any (h : By w v l) : Bs w Any v l := h.mono fun _ _ => trivial
theorem By.nil (w : World) : By w (.slice none 0 0) [] := Bs.nil _ _
theorem By.slice (h : By w v l) : ∃ A c, v = .slice A l.length c ∧ l.length ≤ c := by
  obtain ⟨A, c, e, h1, _⟩ := Bs.slice h
  exact ⟨A, c, e, h1⟩
end
/-- Rows of records of byte slices. -/
def Rw (w : World) (e : TypeId) (k : Nat) (v : Value) (n : Nat) (ls : List (List UInt8)) : Prop :=
  ∃ xs, w.ownsRow 0 e k v n xs ∧ xs.length = ls.length ∧ ∀ (i : Nat) (u : Value), xs[i]? = some u → ∃ l, ls[i]? = some l ∧ By w u l
section
variable {S : Nat → Prop} {w w' : World} {v : Value} {e : TypeId} {k n : Nat} {ls : List (List UInt8)}
theorem ownsRow_ext {base : Nat} {xs : List Value} (h : w.ownsRow base e k v n xs) (he : Ext S w w') (hv : ∀ b, v.ownBlock = some b → ¬ S b) : w'.ownsRow base e k v n xs := by
  obtain ⟨h1, h2⟩ := h
  refine ⟨h1, ?_⟩
  rcases h2 with h2 | ⟨g, cap, cur, e1, hg, hh, r⟩
  · exact .inl h2
  · exact .inr ⟨g, cap, cur, e1, hg, (he.block g (Array.getElem?_eq_some_iff.1 hh).1 (hv g (by rw [e1]; rfl))).trans hh, r⟩
theorem ownsRow_blk {base : Nat} {xs : List Value} (h : w.ownsRow base e k v n xs) : ∀ b, v.ownBlock = some b → ∃ cs, Blk w b e cs := by
  obtain ⟨_, ⟨rfl, _⟩ | ⟨g, cap, cur, rfl, _, hh, _⟩⟩ := h
  · intro k hk; simp [Value.ownBlock] at hk
  · intro k hk
    have : k = g := by simpa [Value.ownBlock] using hk.symm
    subst this
    exact ⟨cur, hh⟩
theorem ownsRow_slice {base : Nat} {xs : List Value} (h : w.ownsRow base e k v n xs) : ∃ A c, v = .slice A n c ∧ n ≤ c := by
  obtain ⟨_, ⟨rfl, h0⟩ | ⟨g, cap, cur, e1, _, _, hc, _⟩⟩ := h
  · exact ⟨none, 0, by rw [h0], by omega⟩
  · exact ⟨_, cap, e1, hc⟩
theorem Rw.ext (h : Rw w e k v n ls) (he : Ext S w w') (hv : ∀ b, v.ownBlock = some b → ¬ S b) (hd : ∀ b, U8 w b → ¬ S b) : Rw w' e k v n ls := by
  obtain ⟨xs, h1, h2, h3⟩ := h
  exact ⟨xs, ownsRow_ext h1 he hv, h2, fun i u hu => let ⟨l, e, hb⟩ := h3 i u hu; ⟨l, e, hb.ext he hd⟩⟩
theorem Rw.ext_no (h : Rw w e k v n ls) (he : Ext No w w') : Rw w' e k v n ls := h.ext he (fun _ _ h => h) (fun _ _ h => h)
theorem Rw.nil (w : World) (e : TypeId) (k : Nat) : Rw w e k (.slice none 0 0) 0 [] := ⟨[], World.ownsRow_nil w 0 e k, rfl, by simp⟩
theorem Rw.blk (h : Rw w e k v n ls) : ∀ b, v.ownBlock = some b → ∃ cs, Blk w b e cs := let ⟨_, h, _⟩ := h; ownsRow_blk h
theorem Rw.slice (h : Rw w e k v n ls) : ∃ A c, v = .slice A n c ∧ n ≤ c := let ⟨_, h, _⟩ := h; ownsRow_slice h
theorem Rw.len (h : Rw w e k v n ls) : ls.length = n * k := let ⟨_, h, h2, _⟩ := h; h2.symm.trans h.1
/-- A record of the row: where it lies, its cells. -/
theorem Rw.at (h : Rw w e k v n ls) {i : Nat} (hi : i < n) (hk : 0 < k) : ∃ g c, v = .slice (some ⟨g, 0, none⟩) n c ∧ n ≤ c ∧ g < w.heap.size ∧ ∃ cs : List Value, cs.length = k ∧ w.rangeAt g (i * k) cs ∧ ∀ j u, cs[j]? = some u → ∃ l, ls[i * k + j]? = some l ∧ By w u l := by
  have hlen := h.len
  obtain ⟨xs, ho, h2, h3⟩ := h
  have ho' := ho
  obtain ⟨h1, ⟨rfl, h0⟩ | ⟨g, cap, cur, e1, _, hh, hc, _⟩⟩ := ho
  · omega
  · subst e1
    have hik : i * k + k ≤ n * k := by
      have := Nat.mul_le_mul_right k (show i + 1 ≤ n by omega)
      rw [Nat.add_mul, Nat.one_mul] at this
      exact this
    refine ⟨g, cap, rfl, hc, (Array.getElem?_eq_some_iff.1 hh).1, (xs.drop (i * k)).take k, by simp; omega, fun j u hu => ?_, fun j u hu => ?_⟩
    · have hj : j < k := by have := (List.getElem?_eq_some_iff.1 hu).1; simp at this; omega
      rw [List.getElem?_take_of_lt hj, List.getElem?_drop] at hu
      rw [ho'.cellAt _ (by omega), hu]
    · have hj : j < k := by have := (List.getElem?_eq_some_iff.1 hu).1; simp at this; omega
      rw [List.getElem?_take_of_lt hj, List.getElem?_drop] at hu
      exact h3 _ u hu
end
/-- A text that was sealed. -/
structure En where
  key : List UInt8
  nonce : List UInt8
  beside : List UInt8
  text : List UInt8
  sealed : List UInt8
def En.row (e : En) : List (List UInt8) := [e.key, e.nonce, e.beside, e.text, e.sealed]
/-- A key that was made of another one. -/
structure Ch where
  from_ : List UInt8
  what : List UInt8
  key : List UInt8
def Ch.row (c : Ch) : List (List UInt8) := [c.from_, c.what, c.key]
/-- What a sealer knows. -/
structure Sr where
  ideal : Bool
  book : List En
  kids : List Ch
  count : Nat
  reused : Bool
  forged : Bool
def Sr.new (i : Bool) : Sr := ⟨i, [], [], 0, false, false⟩
theorem rows_get {α : Type} (f : α → List (List UInt8)) (k : Nat) (hf : ∀ x, (f x).length = k) (xs : List α) (i j : Nat) (hi : i < xs.length) (hj : j < k) : (xs.flatMap f)[i * k + j]? = (f xs[i])[j]? := by
  induction xs generalizing i with
  | nil => simp at hi
  | cons v ls ih =>
    rw [List.flatMap_cons]
    cases i with
    | zero => rw [List.getElem?_append_left (by rw [hf]; omega)]; simp
    | succ i => rw [List.getElem?_append_right (by rw [hf, Nat.add_mul]; omega), hf, show (i + 1) * k + j - k = i * k + j by rw [Nat.add_mul]; omega, ih i (by simpa using hi)]; rfl
/-- A key of the map: a string of bytes. -/
def kstr (l : List UInt8) : Value := .string ⟨l.toArray⟩
theorem kstr_inj (i j : List UInt8) (h : kstr i = kstr j) : i = j := by
  unfold kstr at h
  injection h with h
  injection h with h
  simpa using congrArg Array.toList h
theorem kstr_key (i : List UInt8) : IsKey .string (kstr i) := trivial
/-- Where a key and a nonce stand in the book. -/
def placeL (key nonce : List UInt8) : List UInt8 := key ++ nonce
def placesL (book : List En) (k : List UInt8) : List Nat := (List.range book.length).filter fun i => decide ((book[i]?).map (fun e => placeL e.key e.nonce) = some k)
def nints (l : List Nat) : List Value := l.map fun n => Value.int .i64 ((n : Nat) : Int)
/-- A sealer at g, all its parts named. -/
structure SlrAt (w : World) (g pt : Nat) (vb vk : Value) (pm : Nat) (get : List UInt8 → Option Value) (S : Sr) : Prop where
  blk : Blk w g 129 #[.bool S.ideal, .pointer (some ⟨pt, 0, none⟩), vb, .map (some pm), vk, .int .u64 (S.count : Int), .bool S.reused, .bool S.forged]
  tab : IsT w pt
  book : Rw w 139 5 vb S.book.length (S.book.flatMap En.row)
  kids : Rw w 148 3 vk S.kids.length (S.kids.flatMap Ch.row)
  mp : Mp w .string kstr pm get
  plc : ∀ k, (placesL S.book k = [] ∧ get k = none) ∨ ∃ v, get k = some v ∧ w.ownsRow 0 3 1 v (placesL S.book k).length (nints (placesL S.book k))
  apart : ∀ k1 k2 v1 v2, k1 ≠ k2 → get k1 = some v1 → get k2 = some v2 → ∀ b, v1.ownBlock = some b → v2.ownBlock ≠ some b
/-- Its blocks: they alone are written. -/
def foot (g pm : Nat) (vb vk : Value) (get : List UInt8 → Option Value) : Nat → Prop := fun b => b = g ∨ b = pm ∨ vb.ownBlock = some b ∨ vk.ownBlock = some b ∨ ∃ k v, get k = some v ∧ v.ownBlock = some b
def Slr (w : World) (g : Nat) (F : Nat → Prop) (S : Sr) : Prop := ∃ pt vb vk pm get, SlrAt w g pt vb vk pm get S ∧ F = foot g pm vb vk get
section
variable {w w' : World} {g : Nat} {F T : Nat → Prop} {S : Sr}
theorem SlrAt.row {pt pm : Nat} {vb vk : Value} {get : List UInt8 → Option Value} (h : SlrAt w g pt vb vk pm get S) {k : List UInt8} {v : Value} (hk : get k = some v) : w.ownsRow 0 3 1 v (placesL S.book k).length (nints (placesL S.book k)) := by
  rcases h.plc k with ⟨_, h0⟩ | ⟨v', h1, h2⟩
  · rw [h0] at hk; cases hk
  · rw [h1] at hk; injection hk with hk; rw [← hk]; exact h2
/-- Each of its blocks is a map, or one of four types. -/
theorem Slr.kind (h : Slr w g F S) {b : Nat} (hb : F b) : (∃ es c, w.heap[b]? = some (.map es c)) ∨ ∃ t cs, Blk w b t cs ∧ (t = 129 ∨ t = 139 ∨ t = 148 ∨ t = 3) := by
  obtain ⟨pt, vb, vk, pm, get, h, rfl⟩ := h
  rcases hb with rfl | rfl | hb | hb | ⟨k, v, h1, hb⟩
  · exact .inr ⟨_, _, h.blk, .inl rfl⟩
  · obtain ⟨es, c, hm, _⟩ := h.mp
    exact .inl ⟨es, c, hm⟩
  · obtain ⟨cs, hc⟩ := h.book.blk b hb
    exact .inr ⟨_, cs, hc, .inr (.inl rfl)⟩
  · obtain ⟨cs, hc⟩ := h.kids.blk b hb
    exact .inr ⟨_, cs, hc, .inr (.inr (.inl rfl))⟩
  · obtain ⟨cs, hc⟩ := ownsRow_blk (h.row h1) b hb
    exact .inr ⟨_, cs, hc, .inr (.inr (.inr rfl))⟩
theorem Slr.lt (h : Slr w g F S) {b : Nat} (hb : F b) : b < w.heap.size := by
  rcases h.kind hb with ⟨es, c, hm⟩ | ⟨t, cs, hc, _⟩
  · exact (Array.getElem?_eq_some_iff.1 hm).1
  · exact hc.lt
/-- A block of another type is none of its own. -/
theorem Slr.far (h : Slr w g F S) {b : Nat} {t : TypeId} {cs : Array Value} (hb : Blk w b t cs) (h1 : t ≠ 129 := by decide) (h2 : t ≠ 139 := by decide) (h3 : t ≠ 148 := by decide) (h4 : t ≠ 3 := by decide) : ¬ F b := by
  intro hF
  rcases h.kind hF with ⟨es, c, hm⟩ | ⟨t', cs', hc, ht⟩
  · unfold Blk at hb; rw [hb] at hm; cases hm
  · unfold Blk at hb hc
    rw [hb] at hc
    injection hc with hc
    injection hc with _ e
    subst e
    rcases ht with rfl | rfl | rfl | rfl <;> contradiction
theorem Slr.u8 (h : Slr w g F S) {b : Nat} (hb : U8 w b) : ¬ F b := let ⟨_, hb⟩ := hb; h.far hb
theorem Slr.at_ (h : Slr w g F S) : F g := by
  obtain ⟨pt, vb, vk, pm, get, h, rfl⟩ := h
  exact .inl rfl
theorem SlrAt.ext {pt pm : Nat} {vb vk : Value} {get : List UInt8 → Option Value} (h : SlrAt w g pt vb vk pm get S) (he : Ext T w w') (hd : ∀ b, foot g pm vb vk get b → ¬ T b) (hu : ∀ b, U8 w b → ¬ T b) (ht : ∀ b cs, Blk w b 189 cs → ¬ T b) : SlrAt w' g pt vb vk pm get S := by
  refine ⟨h.blk.ext he (hd _ (.inl rfl)), h.tab.ext he (ht _ _ h.tab), h.book.ext he (fun b hb => hd _ (.inr (.inr (.inl hb)))) hu, h.kids.ext he (fun b hb => hd _ (.inr (.inr (.inr (.inl hb))))) hu,
    h.mp.ext he (hd _ (.inr (.inl rfl))), fun k => ?_, h.apart⟩
  rcases h.plc k with h0 | ⟨v, h1, h2⟩
  · exact .inl h0
  · exact .inr ⟨v, h1, ownsRow_ext h2 he fun b hb => hd _ (.inr (.inr (.inr (.inr ⟨k, v, h1, hb⟩))))⟩
theorem SlrAt.ext_no {pt pm : Nat} {vb vk : Value} {get : List UInt8 → Option Value} (h : SlrAt w g pt vb vk pm get S) (he : Ext No w w') : SlrAt w' g pt vb vk pm get S := h.ext he (fun _ _ h => h) (fun _ _ h => h) (fun _ _ _ h => h)
/-- The sealer stays what it is while other blocks are written. -/
theorem Slr.ext (h : Slr w g F S) (he : Ext T w w') (hd : ∀ b, F b → ¬ T b) (hu : ∀ b, U8 w b → ¬ T b) (ht : ∀ b cs, Blk w b 189 cs → ¬ T b) : Slr w' g F S := by
  obtain ⟨pt, vb, vk, pm, get, h, rfl⟩ := h
  exact ⟨pt, vb, vk, pm, get, h.ext he hd hu ht, rfl⟩
theorem Slr.ext_no (h : Slr w g F S) (he : Ext No w w') : Slr w' g F S := h.ext he (fun _ _ h => h) (fun _ _ h => h) (fun _ _ _ h => h)
end
end Go.Proofs.Ytmbbkkonmkbnoaa
namespace Go.Proofs.Ytmbbkkonmkbnoaa
open Go.RowKit
theorem placesL_snoc (l : List En) (e : En) (k : List UInt8) : placesL (l ++ [e]) k = placesL l k ++ (if placeL e.key e.nonce = k then [l.length] else []) := by
  unfold placesL
  rw [List.length_append, List.length_singleton, List.range_succ, List.filter_append]
  congr 1
  · apply List.filter_congr
    intro i hi
    rw [List.getElem?_append_left (by simpa using hi)]
  · by_cases h : placeL e.key e.nonce = k
    · rw [if_pos h]; simp [h]
    · rw [if_neg h]; simp [h]
theorem placesL_lt (l : List En) (k : List UInt8) : ∀ i ∈ placesL l k, i < l.length := fun i hi => by
  have := (List.mem_filter.1 hi).1
  simpa using this
/-- The entries of a place. -/
def placesE (l : List En) (k : List UInt8) : List En := l.filter fun e => decide (placeL e.key e.nonce = k)
theorem snoc_ind {α : Type} {p : List α → Prop} (h0 : p []) (h1 : ∀ l a, p l → p (l ++ [a])) : ∀ l, p l := by
  intro l
  rw [← List.reverse_reverse l]
  induction l.reverse with
  | nil => exact h0
  | cons a r ih => rw [List.reverse_cons]; exact h1 _ _ ih
theorem places_get (l : List En) (k : List UInt8) : (placesL l k).map (fun i => l[i]?) = (placesE l k).map some := by
  induction l using snoc_ind with
  | h0 => rfl
  | h1 l e ih =>
    rw [placesL_snoc, List.map_append]
    have h1 : (placesL l k).map (fun i => (l ++ [e])[i]?) = (placesL l k).map (fun i => l[i]?) := by
      apply List.map_congr_left
      intro i hi
      rw [List.getElem?_append_left (placesL_lt l k i hi)]
    rw [h1, ih]
    unfold placesE
    rw [List.filter_append, List.map_append]
    congr 1
    by_cases h : placeL e.key e.nonce = k
    · rw [if_pos h]; simp [h]
    · rw [if_neg h]; simp [h]
theorem places_len (l : List En) (k : List UInt8) : (placesL l k).length = (placesE l k).length := by
  have := congrArg List.length (places_get l k)
  simpa using this
theorem places_at (l : List En) (k : List UInt8) (j : Nat) (hj : j < (placesL l k).length) : ∃ hj' : j < (placesE l k).length, ∃ hi : (placesL l k)[j] < l.length, l[(placesL l k)[j]] = (placesE l k)[j] := by
  have hj' : j < (placesE l k).length := by rw [← places_len]; exact hj
  have hi := placesL_lt l k _ (List.getElem_mem hj)
  refine ⟨hj', hi, ?_⟩
  have h := congrArg (fun m => m[j]?) (places_get l k)
  simp only [List.getElem?_map, List.getElem?_eq_getElem hj, List.getElem?_eq_getElem hj', Option.map_some, List.getElem?_eq_getElem hi, Option.some.injEq] at h
  exact h
theorem places_le (l : List En) (k : List UInt8) : (placesL l k).length ≤ l.length := by
  rw [places_len]; exact List.length_filter_le _ _
/-- All keys have 32 bytes. -/
def Keys32 (l : List En) : Prop := ∀ e ∈ l, e.key.length = 32
theorem placeL_inj {a b c d : List UInt8} (h : a.length = c.length) : placeL a b = placeL c d ↔ a = c ∧ b = d := by
  unfold placeL
  constructor
  · intro e; exact List.append_inj e h
  · rintro ⟨rfl, rfl⟩; rfl
/-- Unlike things under one key and nonce. -/
def clash (e o : En) : Bool := !decide (o.beside = e.beside) || !decide (o.text = e.text)
def noted (S : Sr) (e : En) : Sr := { S with book := S.book ++ [e], reused := S.reused || (placesE S.book (placeL e.key e.nonce)).any (clash e) }
def hitE (beside sealed : List UInt8) (e : En) : Bool := decide (e.beside = beside) && decide (e.sealed = sealed)
def knownE (l : List En) (key nonce beside sealed : List UInt8) : Option (List UInt8) := ((placesE l (placeL key nonce)).find? (hitE beside sealed)).map (·.text)
theorem place_dec {l : List En} (h : Keys32 l) {k n : List UInt8} (hk : k.length = 32) {e : En} (he : e ∈ l) : decide (placeL e.key e.nonce = placeL k n) = (decide (e.key = k) && decide (e.nonce = n)) := by
  rw [Bool.eq_iff_iff]
  simp only [decide_eq_true_eq, Bool.and_eq_true]
  exact placeL_inj (by rw [h e he, hk])
theorem placesE_any {l : List En} (h : Keys32 l) {k n : List UInt8} (hk : k.length = 32) (f : En → Bool) : (placesE l (placeL k n)).any f = l.any fun o => decide (o.key = k) && decide (o.nonce = n) && f o := by
  unfold placesE
  rw [List.any_filter]
  rw [Bool.eq_iff_iff, List.any_eq_true, List.any_eq_true]
  constructor
  · rintro ⟨x, hx, h1⟩; exact ⟨x, hx, by rwa [← place_dec h hk hx]⟩
  · rintro ⟨x, hx, h1⟩; exact ⟨x, hx, by rwa [place_dec h hk hx]⟩
theorem knownE_all {l : List En} (h : Keys32 l) {k n : List UInt8} (hk : k.length = 32) (b s : List UInt8) : knownE l k n b s = (l.find? fun e => decide (e.key = k) && decide (e.nonce = n) && decide (e.beside = b) && decide (e.sealed = s)).map (·.text) := by
  unfold knownE placesE
  rw [List.find?_filter]
  congr 1
  induction l with
  | nil => rfl
  | cons e l ih =>
    have he := place_dec h hk (n := n) (List.mem_cons_self ..)
    simp only [List.find?_cons]
    rw [ih (fun x hx => h x (List.mem_cons_of_mem _ hx))]
    have : (decide (decide (placeL e.key e.nonce = placeL k n) = true ∧ hitE b s e = true)) = (decide (e.key = k) && decide (e.nonce = n) && decide (e.beside = b) && decide (e.sealed = s)) := by
      rw [he]
      unfold hitE
      rw [Bool.eq_iff_iff]
      simp [and_assoc]
    rw [this]
def lcg (x : Nat) : Nat := (x * 6364136223846793005 + 1442695040888963407) % 18446744073709551616
def lcgIt : Nat → Nat → Nat
  | 0, x => x
  | k + 1, x => lcg (lcgIt k x)
def lcgs (k x : Nat) : List UInt8 := (List.range k).map fun i => UInt8.ofNat (lcgIt (i + 1) x / 72057594037927936)
theorem lcgs_succ (k x : Nat) : lcgs (k + 1) x = lcgs k x ++ [UInt8.ofNat (lcgIt (k + 1) x / 72057594037927936)] := by
  unfold lcgs; rw [List.range_succ, List.map_append]; rfl
theorem lcgs_length (k x : Nat) : (lcgs k x).length = k := by simp [lcgs]
theorem lcg_lt (x : Nat) : lcg x < 18446744073709551616 := Nat.mod_lt _ (by decide)
def noiseL (n size : Nat) : List UInt8 := putL n 8 ++ lcgs (size - 8) n
theorem noiseL_length (n size : Nat) (h : 8 ≤ size) : (noiseL n size).length = size := by
  unfold noiseL; rw [List.length_append, putL_length, lcgs_length]; omega
end Go.Proofs.Ytmbbkkonmkbnoaa
namespace Go.Proofs.Ytmbbkkonmkbnoaa
open Go.RowKit Go.Deep
theorem oPut4 (n : Nat) (w : World) (hn : n ≤ 18446744073709551615) : Calls Try.prog 77 #[.int .u64 (n : Int), .int .i64 4] w fun e w' => ∃ v, e = .returned v ∧ Own w' w.heap.size v (putL n 4) ∧ Ext No w w' := oPut_any n 4 w hn (by decide)
theorem oPut8 (n : Nat) (w : World) (hn : n ≤ 18446744073709551615) : Calls Try.prog 77 #[.int .u64 (n : Int), .int .i64 8] w fun e w' => ∃ v, e = .returned v ∧ Own w' w.heap.size v (putL n 8) ∧ Ext No w w' := oPut_any n 8 w hn (by decide)
/-- Parts, each with its length ahead. -/
def packL (ls : List (List UInt8)) : List UInt8 := (ls.map fun p => putL p.length 4 ++ p).flatten
theorem packL_take (ls : List (List UInt8)) (k : Nat) (hk : k < ls.length) : packL (ls.take (k + 1)) = packL (ls.take k) ++ putL ls[k].length 4 ++ ls[k] := by
  unfold packL
  rw [List.take_succ_eq_append_getElem hk, List.map_append, List.flatten_append]
  simp
theorem packL_le (ls : List (List UInt8)) (k : Nat) : (packL (ls.take k)).length ≤ (packL ls).length := by
  unfold packL
  have h := congrArg (fun l => ((l.map fun p => putL p.length 4 ++ p).flatten).length) (List.take_append_drop k ls)
  simp only [List.map_append, List.flatten_append, List.length_append] at h
  omega
set_option maxRecDepth 100000 in
set_option maxHeartbeats 400000 in
theorem oPack_any (F : Nat → Prop) (v : Value) (ls : List (List UInt8)) (w : World) (h : Parts w F v ls) (hb : (packL ls).length ≤ 1000000000) :
    Calls Try.prog 85 #[v] w fun e w' => ∃ r, e = .returned r ∧ Own w' w.heap.size r (packL ls) ∧ Ext No w w' := by
  obtain ⟨A, c, rfl, hc, hm, b, o, hA⟩ := h.slice
  unfold maxLen at hm
  have HA := Lib.hid hA
  have HT := Lib.hid (packL_take ls)
  have HE := Lib.hid (packL_le ls)
  have HB := Lib.hid hb
  clear hA h hb
  go_enter Try.func85, Try.ntmps85
  go_wp2
  go_loopw [3, 8] (fun v i wr => ∃ k : Nat, k ≤ ls.length ∧ i = .int .i64 k ∧ Own wr w.heap.size v (packL (ls.take k)) ∧ Ext No w wr) (fun _ i _ => ls.length - (intOf i).toNat)
  case atStart => exact ⟨0, by omega, rfl, by simpa [packL] using Own.nil _ _, Ext.refl No w⟩
  case round =>
    obtain ⟨k, hk, rfl, hown, hx⟩ := hrel
    by_cases hlt : k < ls.length
    · obtain ⟨A', c', rfl, ⟨_, hbl⟩, e1, hbs⟩ := HA.out k hlt
      have e2 : wr.cell? ⟨b, o + k, none⟩ = _ := (hx.cell (p := ⟨b, o + k, none⟩) hbl (fun h => h)).trans e1
      have hl1 : (packL (ls.take k)).length + 4 + ls[k].length ≤ 1000000000 := by
        have h1 := HE.out (k + 1)
        rw [HT.out k hlt, List.length_append, List.length_append, putL_length] at h1
        have := HB.out
        omega
      have hpl := putL_length ls[k].length 4
      have HS := Lib.hid (HT.out k hlt)
      have HBS := Lib.hid hbs
      have HOWN := Lib.hid hown
      have HX := Lib.hid hx
      have hll : ls[k].length ≤ 1000000000 := by omega
      have HL1 := Lib.hid hl1
      have HPL := Lib.hid hpl
      have hsz := hx.size
      clear hbs hown hx hl1 hpl e1
      go_wp2_with (first
        | (go_at_call 77; (with_reducible refine (oPut4 ls[k].length _ (by omega)).mono ?_); rintro e w1 ⟨pv, rfl, hp, hx1⟩; have HP := Lib.hid hp; have HX1 := Lib.hid hx1; have hsz1 := hx1.size; clear hp hx1)
        | ((with_reducible show wpList _ _ _ (⟨some 17, _, _, _, _, _⟩ :: _) _ _); go_must (refine app_bytes (.tmp 12) (.tmp 16) rfl rfl w.heap.size u3 _ _ (putL ls[k].length 4) rfl rfl (HOWN.out.ext_no HX1.out) _ HP.out.any (by have := HL1.out; rw [HPL.out]; omega) (by omega) ?_); intro v1 w2 hown1 hg1 hat1; have HO1 := Lib.hid hown1; have HX2 : Hid (Ext No w w2) := Lib.hid ((HX.out.trans HX1.out).grown hg1 (fun j hj hl => absurd hl (by have := (HOWN.out.lt j hj).1; omega))); have HBS2 : Hid (Bs w2 Any (.slice A' ls[k].length c') ls[k]) := Lib.hid (HBS.out.any.ext_no HX2.out); have hsz2 := HX2.out.size; clear hown1 hg1 hat1)
        | ((with_reducible show wpList _ _ _ (⟨some 20, _, _, _, _, _⟩ :: _) _ _); go_must (refine app_bytes (.tmp 18) (.tmp 19) rfl rfl w.heap.size v1 _ _ ls[k] rfl rfl HO1.out _ HBS2.out (by have := HL1.out; rw [List.length_append, HPL.out]; omega) (by omega) ?_); intro v2 w3 hown2 hg2 hat2; have HO2 := Lib.hid hown2; have HX3 : Hid (Ext No w w3) := Lib.hid (HX2.out.grown hg2 (fun j hj hl => absurd hl (by have := (HO1.out.lt j hj).1; omega))); clear hown2 hg2 hat2))
      go_roundw
      case rel => exact ⟨k + 1, by omega, by go_num, by rw [HS.out]; exact HO2.out, HX3.out⟩
      case measure => simp [intOf]; omega
    · obtain rfl : k = ls.length := by omega
      rw [List.take_length] at hown
      go_wp2
      go_ret
      exact ⟨_, rfl, hown, hx⟩
theorem lcg_wrap (x : Nat) : IntKind.u64.wrap (IntKind.u64.wrap ((x : Int) * 6364136223846793005) + 1442695040888963407) = ((lcg x : Nat) : Int) := by
  unfold lcg; rw [IntKind.wrap_u64, IntKind.wrap_u64]; omega
theorem lcg_byte (y : Nat) (h : y < 18446744073709551616) : (y : Int) / 72057594037927936 = ((UInt8.ofNat (y / 72057594037927936)).toNat : Int) := by
  rw [UInt8.toNat_ofNat']; omega
theorem lcgIt_lt (k x : Nat) (hx : x < 18446744073709551616) : lcgIt k x < 18446744073709551616 := by
  cases k with
  | zero => exact hx
  | succ k => exact lcg_lt _
set_option maxRecDepth 100000 in
set_option maxHeartbeats 400000 in
theorem tNoise_any (n size : Nat) (w : World) (hn : n ≤ 18446744073709551615) (h8 : 8 ≤ size) (hs : size ≤ 100000) :
    Calls Try.prog 123 #[.int .u64 (n : Int), .int .i64 (size : Int)] w fun e w' => ∃ r, e = .returned r ∧ Own w' w.heap.size r (noiseL n size) ∧ Ext No w w' := by
  have HN := Lib.hid (Nat.lt_of_le_of_lt hn (by decide : 18446744073709551615 < 18446744073709551616))
  go_enter Try.func123, Try.ntmps123
  go_wp2_with (first
    | (go_at_call 77; (with_reducible refine (oPut8 n _ hn).mono ?_); rintro e w1 ⟨pv, rfl, hp, hx1⟩; have HP := Lib.hid hp; have HX1 := Lib.hid hx1; clear hp hx1))
  clear hn
  go_loopw [5, 6] (fun v x wr => ∃ m c : Nat, ∃ A, 8 ≤ m ∧ m ≤ size ∧ x = .int .u64 (lcgIt (m - 8) n : Int) ∧ v = .slice A m c ∧ m ≤ c ∧ Hid (Own wr w.heap.size (.slice A m c) (putL n 8 ++ lcgs (m - 8) n)) ∧ Ext No w wr) (fun v _ _ => size - (match v with | .slice _ n _ => n | _ => 0))
  case atStart =>
    obtain ⟨A, c, rfl, hc⟩ := HP.out.slice
    have h := HP.out
    rw [putL_length] at h hc
    exact ⟨8, c, A, by omega, h8, rfl, by rw [putL_length], hc, Lib.hid (by simpa [lcgs] using h), HX1.out⟩
  case round =>
    obtain ⟨m, c, A, hm8, hms, rfl, rfl, hmc, HOWN, hx⟩ := hrel
    have hsz := hx.size
    have HX := Lib.hid hx
    clear hx
    by_cases hlt : m < size
    · obtain ⟨y, hy⟩ : ∃ y, lcgIt (m - 8) n = y := ⟨_, rfl⟩
      obtain ⟨z, hz⟩ : ∃ z, lcg y = z := ⟨_, rfl⟩
      have hyl : y < 18446744073709551616 := by rw [← hy]; exact lcgIt_lt _ n HN.out
      have hzl : z < 18446744073709551616 := by rw [← hz]; exact lcg_lt _
      have hw1 := lcg_wrap y
      rw [hz] at hw1
      have e1 : m + 1 - 8 = (m - 8) + 1 := by omega
      have HZ : Hid (lcgIt (m + 1 - 8) n = z) := Lib.hid (by rw [e1]; show lcg (lcgIt (m - 8) n) = z; rw [hy, hz])
      rw [hy]
      have HS : Hid (putL n 8 ++ lcgs (m + 1 - 8) n = putL n 8 ++ lcgs (m - 8) n ++ [UInt8.ofNat (z / 72057594037927936)]) := Lib.hid (by rw [← HZ.out, e1, lcgs_succ, List.append_assoc])
      have HLEN : Hid ((putL n 8 ++ lcgs (m - 8) n).length = m) := Lib.hid (by rw [List.length_append, putL_length, lcgs_length]; omega)
      have HW1 := Lib.hid hw1
      have HW2 := Lib.hid (lcg_byte z hzl)
      have hb1 : (IntKind.u64.wrap (IntKind.u64.wrap ((y : Int) * 6364136223846793005) + 1442695040888963407) / 72057594037927936) % 256 = ((UInt8.ofNat (z / 72057594037927936)).toNat : Int) := by
        rw [HW1.out, HW2.out]
        have := (UInt8.ofNat (z / 72057594037927936)).toNat_lt
        omega
      have HB1 := Lib.hid hb1
      clear hy hz hw1 hyl hzl e1 hb1
      go_wp2_with (first
        | (at_builtin; go_must (refine app_bytes (.tmp 17) (.tmp 21) rfl rfl w.heap.size (.slice A m c) _ _ [UInt8.ofNat (z / 72057594037927936)] rfl rfl (HOWN.out.alloc _) _ (bs_lit1' wr _ (UInt8.ofNat (z / 72057594037927936)) HB1.out) (by rw [HLEN.out]; simp; omega) (by simp; omega) ?_); intro v1 w2 hown1 hg1 hat1; have HO1 := Lib.hid hown1; have HX2 : Hid (Ext No w w2) := Lib.hid ((HX.out.alloc _).grown hg1 (fun j hj hl => absurd hl (by have := (HOWN.out.lt j hj).1; omega))); clear hown1 hg1 hat1))
      obtain ⟨A1, c1, rfl, hc1⟩ := HO1.out.slice
      have HO2 := HO1.out
      have hl2 : (putL n 8 ++ lcgs (m - 8) n ++ [UInt8.ofNat (z / 72057594037927936)]).length = m + 1 := by rw [List.length_append, HLEN.out]; rfl
      rw [hl2] at HO2 hc1 ⊢
      rw [← HS.out] at HO2
      go_roundw
      case rel => exact ⟨m + 1, c1, A1, by omega, by omega, by rw [HW1.out, HZ.out], rfl, hc1, Lib.hid HO2, HX2.out⟩
      case measure => show size - (m + 1) < size - m; omega
    · obtain rfl : m = size := by omega
      obtain ⟨hn0, hA⟩ : 0 < m ∧ ∃ g, A = some ⟨g, 0, none⟩ := by
        refine ⟨by omega, ?_⟩
        obtain ⟨_, ⟨h, h0⟩ | ⟨g, cap, cur, e, _⟩⟩ := HOWN.out
        · injection h with _ h _
          omega
        · injection e with e
          exact ⟨g, e⟩
      obtain ⟨g, rfl⟩ := hA
      have hmx : (max (min (m : Int) (m : Int)) 0) = (m : Int) := by omega
      go_wp2
      go_ret
      exact ⟨_, rfl, HOWN.out, HX.out⟩
theorem conv_bs {F : Nat → Prop} {w : World} {v : Value} {l : List UInt8} (h : Bs w F v l) : (convert 22 9 v).run Try.prog w = .ok (kstr l) w := by
  obtain ⟨A, c, rfl, hc, hm, b, o, hcell⟩ := h.slice
  cases A with
  | none =>
    have h0 : l = [] := by
      cases l with
      | nil => rfl
      | cons x r => obtain ⟨h, _⟩ := hcell 0 (by simp); cases h
    subst h0
    exact run_convert_bytes_nil w 22 5 Try.underlying22 Try.underlying5 0 c 9 Try.underlying9
  | some a =>
    refine run_convert_bytes_back w 22 9 5 a c l Try.underlying22 Try.underlying5 Try.underlying9 (fun j hj => ?_)
    obtain ⟨h1, _, _, h2⟩ := hcell j hj
    injection h1 with h1
    subst h1
    rw [addr_add]
    exact h2
set_option maxHeartbeats 400000 in
theorem sPlace_any (kv nv : Value) (key nonce : List UInt8) (w : World) (hk : Bs w Any kv key) (hn : Bs w Any nv nonce) (hl : key.length + nonce.length ≤ 1000000) :
    Calls Try.prog 130 #[kv, nv] w fun e w' => e = .returned (kstr (placeL key nonce)) ∧ Ext No w w' := by
  obtain ⟨kA, kc, rfl, -⟩ := hk.slice
  obtain ⟨nA, nc, rfl, -⟩ := hn.slice
  have HK := Lib.hid hk
  have HN := Lib.hid hn
  clear hk hn
  go_enter Try.func130, Try.ntmps130
  go_wp2_with (first
    | (go_at_call 65; (with_reducible refine (oJoin_any Any _ [key, nonce] _ (by exact Parts.lit2 HK.out HN.out trivial (hg := rfl)) (by simp; omega)).mono ?_); rintro e1 w1 ⟨Ar, nr, cr, rfl, hown, hx⟩; have HO := Lib.hid hown; have HX := Lib.hid (((Ext.refl No w).alloc _).trans hx); have hcv := conv_bs hown.bs; clear hown hx))
  go_ret
  exact ⟨by simp [placeL], HX.out⟩
theorem sCheck_ok (A B : Option Addr) (n m c d : Nat) (w : World) (hn : n = 32) (hm : m = 12) : Calls Try.prog 78 #[.slice A n c, .slice B m d] w fun e w' => e = .returned (.int .i64 0) ∧ w = w' := by
  subst hn hm
  go_enter Try.func78, Try.ntmps78
  go_wp2
  go_ret
  exact ⟨rfl, rfl⟩
theorem sCheck_bad (A B : Option Addr) (n m c d : Nat) (w : World) (h : ¬ (n = 32 ∧ m = 12)) : Calls Try.prog 78 #[.slice A n c, .slice B m d] w fun e w' => e = .returned (.int .i64 17) ∧ w = w' := by
  by_cases hn : n = 32
  · have hm : m ≠ 12 := fun e => h ⟨hn, e⟩
    have hb : ((m : Int) != 12) = true := by simp; omega
    subst hn
    clear h hm
    go_enter Try.func78, Try.ntmps78
    go_wp2
    go_ret
    exact ⟨rfl, rfl⟩
  · have hb : ((n : Int) != 32) = true := by simp; omega
    clear h hn
    go_enter Try.func78, Try.ntmps78
    go_wp2
    go_ret
    exact ⟨rfl, rfl⟩
def nonceL (high low : Nat) : List UInt8 := putL high 8 ++ putL low 4
theorem nonceL_length (h l : Nat) : (nonceL h l).length = 12 := by unfold nonceL; rw [List.length_append, putL_length, putL_length]
set_option maxHeartbeats 400000 in
theorem sNonce_any (high low : Nat) (w : World) (hh : high ≤ 18446744073709551615) (hl : low ≤ 4294967295) :
    Calls Try.prog 34 #[.int .u64 (high : Int), .int .u32 (low : Int)] w fun e w' => ∃ r, e = .returned r ∧ Own w' w.heap.size r (nonceL high low) ∧ Ext No w w' := by
  have H1 := Lib.hid hh
  have h0 : (0 : Int) ≤ (low : Int) := by omega
  have H2 := Lib.hid hl
  have hl2 : (low : Int) ≤ 4294967295 := by omega
  clear hh hl
  go_enter Try.func34, Try.ntmps34
  go_wp2_with (first
    | (go_at_call 77; (with_reducible refine (oPut8 high _ H1.out).mono ?_); rintro e1 w1 ⟨v1, rfl, ho, hx⟩; obtain ⟨A1, c1, rfl, -⟩ := ho.slice; have HO1 := Lib.hid ho; have HX1 := Lib.hid hx; clear ho hx)
    | (go_at_call 77; (with_reducible refine (oPut4 low _ (Nat.le_trans H2.out (by decide))).mono ?_); rintro e2 w2 ⟨v2, rfl, ho, hx⟩; obtain ⟨A2, c2, rfl, -⟩ := ho.slice; have HO2 := Lib.hid ho; have HX2 := Lib.hid hx; clear ho hx)
    | (go_at_call 65; (with_reducible refine (oJoin_any Any _ [putL high 8, putL low 4] _ (by exact Parts.lit2 (HO1.out.any.ext_no HX2.out) HO2.out.any trivial (hg := rfl)) (by simp [putL_length])).mono ?_); rintro e3 w3 ⟨Ar, nr, cr, rfl, hown, hx⟩; have HO := Lib.hid hown; have HX := Lib.hid (((HX1.out.trans HX2.out).alloc _).trans hx); clear hown hx))
  go_ret
  refine ⟨_, rfl, ?_, HX.out⟩
  have h := HO.out
  have hs1 := HX1.out.size
  have hs2 := HX2.out.size
  simp only [List.flatten_cons, List.flatten_nil, List.append_nil] at h
  exact h.less (by simp; omega)
end Go.Proofs.Ytmbbkkonmkbnoaa
namespace Go.Proofs.Ytmbbkkonmkbnoaa
open Go.RowKit Go.Deep
theorem ext_set1 (w : World) (g i : Nat) (u : Value) : Ext (One g) w (w.setCell ⟨g, i, none⟩ u) := (Ext.refl (One g) w).setCell (p := ⟨g, i, none⟩) (fun _ => rfl) u
abbrev sp (g : Nat) : Value := .pointer (some ⟨g, 0, none⟩)
section
variable {w w' : World} {g pt pm : Nat} {vb vk : Value} {get : List UInt8 → Option Value} {S S' : Sr}
theorem u8_ne {b : Nat} {t : TypeId} {cs : Array Value} (h : U8 w b) (hb : Blk w g t cs) (ht : t ≠ 5 := by decide) : b ≠ g := fun e => by
  subst e
  obtain ⟨cs', h⟩ := h
  exact h.ne_ hb (Ne.symm ht) rfl
/-- The sealer's own block is written: its fields are others. -/
theorem SlrAt.upd (h : SlrAt w g pt vb vk pm get S) (he : Ext (One g) w w') (hb : Blk w' g 129 #[.bool S'.ideal, .pointer (some ⟨pt, 0, none⟩), vb, .map (some pm), vk, .int .u64 (S'.count : Int), .bool S'.reused, .bool S'.forged])
    (h1 : S'.book = S.book) (h2 : S'.kids = S.kids) : SlrAt w' g pt vb vk pm get S' := by
  have own : ∀ {v : Value} {e : TypeId} (t : ∀ b, v.ownBlock = some b → ∃ cs, Blk w b e cs), e ≠ 129 → ∀ b, v.ownBlock = some b → ¬ One g b := fun t hne b hv e => by
    obtain ⟨cs, hc⟩ := t b hv
    exact hc.ne_ h.blk hne e
  have hu : ∀ b, U8 w b → ¬ One g b := fun b hb' e => u8_ne hb' h.blk (by decide) e
  refine ⟨hb, h.tab.ext he (fun e => h.tab.ne_ h.blk (by decide) e), ?_, ?_, h.mp.ext he (fun e => h.mp.ne h.blk e), fun k => ?_, h.apart⟩
  · rw [h1]; exact h.book.ext he (own h.book.blk (by decide)) hu
  · rw [h2]; exact h.kids.ext he (own h.kids.blk (by decide)) hu
  · unfold placesL at *
    rw [h1]
    rcases h.plc k with h0 | ⟨v, h3, h4⟩
    · exact .inl h0
    · exact .inr ⟨v, h3, ownsRow_ext h4 he (own (ownsRow_blk h4) (by decide))⟩
end
set_option maxHeartbeats 400000 in
theorem sNoise_at (g pt pm size : Nat) (vb vk : Value) (get : List UInt8 → Option Value) (S : Sr) (w : World) (h : SlrAt w g pt vb vk pm get S) (hc : S.count ≤ 1000000000) (h8 : 8 ≤ size) (hs : size ≤ 100000) :
    Calls Try.prog 79 #[sp g, .int .i64 (size : Int)] w fun e w' => ∃ r, e = .returned r ∧ Own w' w.heap.size r (noiseL (S.count + 1) size) ∧ SlrAt w' g pt vb vk pm get { S with count := S.count + 1 } ∧ Ext (One g) w w' := by
  have c5 : w.cell? ⟨g, 5, none⟩ = some (.int .u64 (S.count : Int)) := Blk.cell h.blk 5
  have f5 : w.frozen? ⟨g, 5, none⟩ = false := h.blk.frozen 5
  have hgl := h.blk.lt
  obtain ⟨n, hn⟩ : ∃ n, S.count + 1 = n := ⟨_, rfl⟩
  have hw : IntKind.u64.wrap ((S.count : Int) + 1) = (n : Int) := by rw [IntKind.wrap_u64]; omega
  have hx : Ext (One g) w (w.setCell ⟨g, 5, none⟩ (.int .u64 (n : Int))) := ext_set1 w g 5 _
  have HH : Hid (SlrAt (w.setCell ⟨g, 5, none⟩ (.int .u64 (n : Int))) g pt vb vk pm get { S with count := n }) := Lib.hid (h.upd hx (Blk.set_ h.blk 5 _) rfl rfl)
  have HX := Lib.hid hx
  have HN := Lib.hid (show n ≤ 1000000001 by omega)
  rw [hn]
  have hsz : (w.setCell ⟨g, 5, none⟩ (.int .u64 (n : Int))).heap.size = w.heap.size := by simp [World.setCell]
  have HSZ := Lib.hid hsz
  clear h hx hn hsz
  go_enter Try.func79, Try.ntmps79
  go_wp2_with (first
    | (go_at_call 123; (with_reducible refine (tNoise_any n size _ (Nat.le_trans HN.out (by decide)) h8 hs).mono ?_); rintro e1 w1 ⟨r, rfl, ho, hx1⟩; have HO := Lib.hid ho; have HX1 := Lib.hid hx1; clear ho hx1))
  go_ret
  refine ⟨_, rfl, ?_, ?_, HX.out.then_ HX1.out⟩
  · have := HO.out
    rwa [HSZ.out] at this
  · exact HH.out.ext_no HX1.out
theorem sNoise_any (g size : Nat) (F : Nat → Prop) (S : Sr) (w : World) (h : Slr w g F S) (hc : S.count ≤ 1000000000) (h8 : 8 ≤ size) (hs : size ≤ 100000) :
    Calls Try.prog 79 #[sp g, .int .i64 (size : Int)] w fun e w' => ∃ r, e = .returned r ∧ Own w' w.heap.size r (noiseL (S.count + 1) size) ∧ Slr w' g F { S with count := S.count + 1 } ∧ Ext (One g) w w' := by
  obtain ⟨pt, vb, vk, pm, get, h, rfl⟩ := h
  exact (sNoise_at g pt pm size vb vk get S w h hc h8 hs).mono (by rintro e w' ⟨r, rfl, ho, hs, hx⟩; exact ⟨r, rfl, ho, ⟨pt, vb, vk, pm, get, hs, rfl⟩, hx⟩)
/-- Same, of any two rows. -/
theorem oSame_all (v1 v2 : Value) (l m : List UInt8) (w : World) (h1 : Bs w Any v1 l) (h2 : Bs w Any v2 m) (q : Bool) (hq : decide (l = m) = q) :
    Calls Try.prog 39 #[v1, v2] w fun e w' => e = .returned (.bool q) ∧ Ext No w w' := by
  by_cases hl : l.length = m.length
  · exact oSame_any v1 v2 l m w h1 h2 q hq hl
  · obtain ⟨A, c, rfl, -⟩ := h1.slice
    obtain ⟨B, d, rfl, -⟩ := h2.slice
    have hq0 : q = false := by rw [← hq]; exact decide_eq_false (fun e => hl (by rw [e]))
    subst hq0
    have hb : ((l.length : Int) != (m.length : Int)) = true := by simp; omega
    have HX := Lib.hid (Ext.refl No w)
    clear h1 h2 hq hl
    go_enter Try.func39, Try.ntmps39
    go_wp2
    go_ret
    exact ⟨rfl, HX.out⟩
theorem info_int : (Try.prog.info? 3).map (fun i => (i.zero, i.size, i.bytes)) = some (some (.int .i64 0), 1, 8) := by kernel_rfl
theorem info_entry : (Try.prog.info? 139).map (fun i => (i.zero, i.size, i.bytes)) = some (some (.agg #[.slice none 0 0, .slice none 0 0, .slice none 0 0, .slice none 0 0, .slice none 0 0]), 5, 120) := by kernel_rfl
theorem size_entry : (Try.prog.info? 139).map (·.size) = some 5 := by kernel_rfl
theorem zero_ints (w : World) : (zeroValue 215).run Try.prog w = .ok (.slice none 0 0) w := by kernel_rfl
/-- What the map answers: the numbers that stand at a place. -/
theorem SlrAt.look {w : World} {g pt pm : Nat} {vb vk : Value} {get : List UInt8 → Option Value} {S : Sr} (h : SlrAt w g pt vb vk pm get S) (k : List UInt8) :
    w.ownsRow 0 3 1 ((get k).getD (.slice none 0 0)) (placesL S.book k).length (nints (placesL S.book k)) := by
  rcases h.plc k with ⟨h0, h1⟩ | ⟨v, h1, h2⟩
  · rw [h1, h0]; exact World.ownsRow_nil w 0 _ 1
  · rw [h1]; exact h2
end Go.Proofs.Ytmbbkkonmkbnoaa
namespace Go.Proofs.Ytmbbkkonmkbnoaa
open Go.RowKit Go.Deep
theorem not_undef_slice {A : Option Addr} {n c : Nat} : Value.slice A n c ≠ undef := fun h => by unfold undef at h; cases h
theorem own_undef {w : World} {e : TypeId} {k n : Nat} {v : Value} {xs : List Value} (h : w.ownsRow 0 e k v n xs) : v ≠ undef := by
  obtain ⟨A, c, rfl, _⟩ := ownsRow_slice h
  exact not_undef_slice
/-- What such a region writes: the field's own row, the struct's block. -/
abbrev TA (g : Nat) (vb : Value) : Nat → Prop := fun k => vb.ownBlock = some k ∨ k = g
structure GA (g : Nat) (T : TypeId) (cs : Array Value) (fi : Nat) (e : TypeId) (k : Nat) (vb : Value) (n : Nat) (xs : List Value) (wM : World) (va vs : Value) (w : World) : Prop where
  x : Ext (TA g vb) wM w
  own : va = undef → w.ownsRow 0 e k vb n xs
  old : vs = undef → Blk w g T cs
  new_ : vs = .bool true → Blk w g T (cs.setIfInBounds fi va)
/-- The row of one, laid ahead of the append; the row behind it. -/
def FB (e : TypeId) (news : List Value) (wM : World) (v : Value) (w : World) : Prop := ∃ b, wM.heap.size ≤ b ∧ v = .slice (some ⟨b, 0, none⟩) 1 1 ∧ Blk w b e news.toArray
def FP (e : TypeId) (k : Nat) (vb : Value) (n : Nat) (xs news : List Value) (wM : World) (v : Value) (w : World) : Prop :=
  w.ownsRow 0 e k v (n + 1) (xs ++ news) ∧ (v.ownBlock = vb.ownBlock ∨ ∃ b, v.ownBlock = some b ∧ wM.heap.size ≤ b)
section
variable {g fi k n : Nat} {T e : TypeId} {cs : Array Value} {vb va vs v' : Value} {xs news : List Value} {wM w w' : World}
theorem FB.no {v : Value} (h : FB e news wM v w) (hx : Ext No w w') : FB e news wM v w' := let ⟨b, h1, h2, h3⟩ := h; ⟨b, h1, h2, h3.ext_no hx⟩
theorem FP.no {v : Value} (h : FP e k vb n xs news wM v w) (hx : Ext No w w') : FP e k vb n xs news wM v w' := ⟨ownsRow_ext h.1 hx (fun _ _ h => h), h.2⟩
theorem GA.no (h : GA g T cs fi e k vb n xs wM va vs w) (hx : Ext No w w') : GA g T cs fi e k vb n xs wM va vs w' :=
  ⟨h.x.then_ hx, fun e => ownsRow_ext (h.own e) hx (fun _ _ h => h), fun e => (h.old e).ext_no hx, fun e => (h.new_ e).ext_no hx⟩
theorem GA.app (h : GA g T cs fi e k vb n xs wM va vs w) (hne : e ≠ T) (hr0 : wM.ownsRow 0 e k vb n xs) (hb0 : Blk wM g T cs) (ho : w'.ownsRow 0 e k v' (n + 1) (xs ++ news)) (hg : w.grownBy w' vb.ownBlock) (hb : v'.ownBlock = vb.ownBlock ∨ v'.ownBlock = some w.heap.size) (e18 : vs = undef) :
    GA g T cs fi e k vb n xs wM v' vs w' ∧ FP e k vb n xs news wM v' w' ∧ ∀ v, FB e news wM v w → FB e news wM v w' := by
  have hxx : Ext (fun k => vb.ownBlock = some k) w w' := (Ext.refl _ w).grown hg (fun k hk _ => hk)
  have hlt : ∀ b, vb.ownBlock = some b → b < wM.heap.size := fun b hb => (World.ownsRow.lt hr0 b hb).2
  have hgb : ¬ vb.ownBlock = some g := fun hb => by obtain ⟨c, hc⟩ := ownsRow_blk hr0 g hb; exact hc.ne_ hb0 hne rfl
  refine ⟨⟨h.x.trans (hxx.mono fun i _ hi => .inl hi), fun e => absurd e (own_undef ho), fun e => (h.old e).ext hxx hgb, fun e => ?_⟩, ⟨ho, ?_⟩, fun v hF => ?_⟩
  · rw [e18] at e; unfold undef at e; cases e
  · rcases hb with hb | hb
    · exact .inl hb
    · exact .inr ⟨_, hb, h.x.size⟩
  · obtain ⟨b, h1, h2, h3⟩ := hF
    exact ⟨b, h1, h2, h3.ext hxx (fun e => by have := hlt b e; omega)⟩
theorem GA.put (h : GA g T cs fi e k vb n xs wM va vs w) (hne : e ≠ T) (hb0 : Blk wM g T cs) (hp : FP e k vb n xs news wM va w) (e18 : vs = undef) :
    GA g T cs fi e k vb n xs wM va (.bool true) (w.setCell ⟨g, fi, none⟩ va) ∧ (∀ v, FB e news wM v w → FB e news wM v (w.setCell ⟨g, fi, none⟩ va)) ∧ FP e k vb n xs news wM va (w.setCell ⟨g, fi, none⟩ va) := by
  have hx := ext_set1 w g fi va
  have hb := h.old e18
  have hl0 := hb0.lt
  refine ⟨⟨h.x.trans (hx.mono fun i _ hi => .inr hi), fun e => absurd e (own_undef hp.1), fun e => (by unfold undef at e; cases e), fun _ => Blk.set_ hb fi va⟩, fun v hF => ?_, ownsRow_ext hp.1 hx (fun b hb' e1 => ?_), hp.2⟩
  · obtain ⟨b, h1, h2, h3⟩ := hF
    exact ⟨b, h1, h2, h3.ext hx (fun e => by have e : b = g := e; omega)⟩
  · obtain ⟨c, hc⟩ := ownsRow_blk hp.1 b hb'
    exact hc.ne_ hb hne e1
/-- The facts of the region's eleven operations. -/
def F11 (g fi : Nat) (e : TypeId) (k : Nat) (vb : Value) (n : Nat) (xs news : List Value) (wM : World) : Nat → Value → World → Prop
  | 0, v, _ | 1, v, _ | 2, v, _ | 8, v, _ => v = .pointer (some ⟨g, 0, none⟩)
  | 3, v, _ | 9, v, _ => v = .pointer (some ⟨g, fi, none⟩)
  | 4, v, _ => v = vb
  | 5, v, _ => v = .agg news.toArray
  | 6, v, w => FB e news wM v w
  | 7, v, w => FP e k vb n xs news wM v w
  | 10, v, _ => v = .bool true
  | _, _, _ => True
theorem F11.no (hx : Ext No w w') : ∀ j v, F11 g fi e k vb n xs news wM j v w → F11 g fi e k vb n xs news wM j v w' := by
  intro j v h
  match j, h with
  | 0, h | 1, h | 2, h | 3, h | 4, h | 5, h | 8, h | 9, h | 10, h => exact h
  | 6, h => exact FB.no h hx
  | 7, h => exact FP.no h hx
  | m + 11, _ => trivial
theorem F11.app (hk : ∀ v, FB e news wM v w → FB e news wM v w') : ∀ j, j ≠ 7 → ∀ v, F11 g fi e k vb n xs news wM j v w → F11 g fi e k vb n xs news wM j v w' := by
  intro j hj v h
  match j, h with
  | 0, h | 1, h | 2, h | 3, h | 4, h | 5, h | 8, h | 9, h | 10, h => exact h
  | 6, h => exact hk v h
  | 7, _ => exact absurd rfl hj
  | m + 11, _ => trivial
theorem F11.put {vs7 : Value} (hk : ∀ v, FB e news wM v w → FB e news wM v w') (hp : FP e k vb n xs news wM vs7 w') : ∀ j, j ≠ 10 → ∀ vsf : Nat → Value, vsf 7 = vs7 → F11 g fi e k vb n xs news wM j (vsf j) w → F11 g fi e k vb n xs news wM j (vsf j) w' := by
  intro j hj vsf h7 h
  match j, h with
  | 0, h | 1, h | 2, h | 3, h | 4, h | 5, h | 8, h | 9, h => exact h
  | 6, h => exact hk _ h
  | 7, _ => show FP e k vb n xs news wM (vsf 7) w'; rw [h7]; exact hp
  | 10, _ => exact absurd rfl hj
  | m + 11, _ => trivial
end
/-- A row of one record, as append reads it. -/
theorem sl_rec {w : World} {b k : Nat} {e : TypeId} {news : List Value} (h : Blk w b e news.toArray) (hk : news.length = k) : Sl w Any k (.slice (some ⟨b, 0, none⟩) 1 1) 1 news :=
  ⟨by omega, _, _, rfl, Nat.le_refl _, by simp [maxLen], fun _ => ⟨b, 0, rfl, trivial, fun j u hu => by rw [Nat.zero_add, h.cell]; simpa using hu⟩⟩
end Go.Proofs.Ytmbbkkonmkbnoaa
namespace Go.Proofs.Ytmbbkkonmkbnoaa
open Go.RowKit Go.Deep
abbrev ecs (kv nv bv tv sv : Value) : Array Value := #[kv, nv, bv, tv, sv]
/-- An entry's five values. -/
structure EnV (w : World) (e : En) (kv nv bv tv sv : Value) : Prop where
  k : By w kv e.key
  n : By w nv e.nonce
  b : By w bv e.beside
  t : By w tv e.text
  s : By w sv e.sealed
theorem EnV.ext {T : Nat → Prop} {w w' : World} {e : En} {kv nv bv tv sv : Value} (h : EnV w e kv nv bv tv sv) (he : Ext T w w') (hd : ∀ b, U8 w b → ¬ T b) : EnV w' e kv nv bv tv sv := ⟨h.k.ext he hd, h.n.ext he hd, h.b.ext he hd, h.t.ext he hd, h.s.ext he hd⟩
theorem EnV.ext_no {w w' : World} {e : En} {kv nv bv tv sv : Value} (h : EnV w e kv nv bv tv sv) (he : Ext No w w') : EnV w' e kv nv bv tv sv := h.ext he fun _ _ h => h
theorem list5 {l : List Value} (h : l.length = 5) : ∃ a b c d e, l = [a, b, c, d, e] := by
  match l, h with
  | [a, b, c, d, e], _ => exact ⟨a, b, c, d, e, rfl⟩
/-- The book's entry of number i. -/
theorem book_at {w : World} {vb : Value} {l : List En} (h : Rw w 139 5 vb l.length (l.flatMap En.row)) {i : Nat} (hi : i < l.length) :
    ∃ g c, vb = .slice (some ⟨g, 0, none⟩) l.length c ∧ g < w.heap.size ∧ ∃ kv nv bv tv sv, w.rangeAt g (i * 5) [kv, nv, bv, tv, sv] ∧ EnV w l[i] kv nv bv tv sv := by
  obtain ⟨g, c, e, _, hg, cs, hl, hr, hb⟩ := h.at hi (by omega)
  obtain ⟨kv, nv, bv, tv, sv, rfl⟩ := list5 hl
  have one : ∀ (j : Nat) (u : Value), [kv, nv, bv, tv, sv][j]? = some u → ∃ m, (En.row l[i])[j]? = some m ∧ By w u m := fun j u hu => by
    obtain ⟨m, h1, h2⟩ := hb j u hu
    rw [rows_get En.row 5 (fun _ => rfl) l i j hi (by have := (List.getElem?_eq_some_iff.1 hu).1; simpa using this)] at h1
    exact ⟨m, h1, h2⟩
  refine ⟨g, c, e, hg, kv, nv, bv, tv, sv, hr, ?_, ?_, ?_, ?_, ?_⟩
  · obtain ⟨m, h1, h2⟩ := one 0 kv rfl; cases h1; exact h2
  · obtain ⟨m, h1, h2⟩ := one 1 nv rfl; cases h1; exact h2
  · obtain ⟨m, h1, h2⟩ := one 2 bv rfl; cases h1; exact h2
  · obtain ⟨m, h1, h2⟩ := one 3 tv rfl; cases h1; exact h2
  · obtain ⟨m, h1, h2⟩ := one 4 sv rfl; cases h1; exact h2
theorem range_ext' {T : Nat → Prop} {w w' : World} {b o : Nat} {cs : List Value} (h : w.rangeAt b o cs) (he : Ext T w w') (hb : b < w.heap.size) (hn : ¬ T b) : w'.rangeAt b o cs := fun j v hv => (he.cell (p := ⟨b, o + j, none⟩) hb hn).trans (h j v hv)
theorem By.one {w : World} {v : Value} {l : List UInt8} (h : By w v l) : v.oneCell' = true := by obtain ⟨A, c, rfl, -⟩ := h.slice; rfl
theorem EnV.one {w : World} {e : En} {kv nv bv tv sv : Value} (h : EnV w e kv nv bv tv sv) : ∀ v ∈ [kv, nv, bv, tv, sv], v.oneCell' = true := by
  intro v hv
  simp only [List.mem_cons, List.not_mem_nil, or_false] at hv
  rcases hv with rfl | rfl | rfl | rfl | rfl
  · exact h.k.one
  · exact h.n.one
  · exact h.b.one
  · exact h.t.one
  · exact h.s.one
theorem row_cell {w : World} {e : TypeId} {A : Option Addr} {n c : Nat} {xs : List Value} (h : w.ownsRow 0 e 1 (.slice A n c) n xs) {j : Nat} (hj : j < n) : ∃ g, A = some ⟨g, 0, none⟩ ∧ w.cell? ⟨g, j, none⟩ = xs[j]? := by
  have h' := h
  obtain ⟨_, ⟨e1, _⟩ | ⟨g, cap, cur, e1, _⟩⟩ := h'
  · injection e1 with _ h2 _; omega
  · injection e1 with h1 _ h3
    subst h1 h3
    exact ⟨g, rfl, h.cellAt j (by omega)⟩
theorem nints_get (L : List Nat) (j : Nat) (hj : j < L.length) : (nints L)[j]? = some (.int .i64 (L[j] : Int)) := by
  unfold nints; rw [List.getElem?_map, List.getElem?_eq_getElem hj]; rfl
abbrev zen : Array Value := #[.slice none 0 0, .slice none 0 0, .slice none 0 0, .slice none 0 0, .slice none 0 0]
/-- In the loop: how many entries of the place were looked at. -/
structure NtS (w1 : World) (g pt pm : Nat) (vb vk : Value) (get : List UInt8 → Option Value) (S : Sr) (E : List En) (e : En) (j : Nat) (w : World) : Prop where
  s : SlrAt w g pt vb vk pm get { S with reused := S.reused || (E.take j).any (clash e) }
  x : Ext (One g) w1 w
theorem NtS.hit {w1 w w3 : World} {g pt pm j : Nat} {vb vk : Value} {get : List UInt8 → Option Value} {S : Sr} {E : List En} {e o : En} (h : NtS w1 g pt pm vb vk get S E e j w) (hx : Ext No w w3) (hTK : E.take (j + 1) = E.take j ++ [o]) (hcl : clash e o = true) :
    NtS w1 g pt pm vb vk get S E e (j + 1) (w3.setCell ⟨g, 6, none⟩ (.bool true)) := by
  have hre : (S.reused || (E.take (j + 1)).any (clash e)) = true := by rw [hTK, List.any_append]; simp [hcl]
  refine ⟨?_, (h.x.then_ hx).trans (ext_set1 w3 g 6 _)⟩
  rw [hre]
  exact (h.s.ext_no hx).upd (ext_set1 w3 g 6 _) (Blk.set_ (h.s.ext_no hx).blk 6 _) rfl rfl
theorem NtS.miss {w1 w w3 : World} {g pt pm j : Nat} {vb vk : Value} {get : List UInt8 → Option Value} {S : Sr} {E : List En} {e o : En} (h : NtS w1 g pt pm vb vk get S E e j w) (hx : Ext No w w3) (hTK : E.take (j + 1) = E.take j ++ [o]) (hcl : clash e o = false) :
    NtS w1 g pt pm vb vk get S E e (j + 1) w3 := by
  have hre : (E.take (j + 1)).any (clash e) = (E.take j).any (clash e) := by rw [hTK, List.any_append]; simp [hcl]
  refine ⟨?_, h.x.then_ hx⟩
  rw [hre]
  exact h.s.ext_no hx
def F9 (g pm : Nat) (at_ : List UInt8) (lvv vbv : Value) (L : List Nat) (n : Nat) (wr : World) : Nat → Value → World → Prop
  | 0, v, _ | 1, v, _ | 5, v, _ | 6, v, _ | 11, v, _ | 12, v, _ => v = sp g
  | 2, v, _ | 7, v, _ => v = .pointer (some ⟨g, 3, none⟩)
  | 3, v, _ | 8, v, _ => v = .map (some pm)
  | 4, v, _ | 9, v, _ => v = kstr at_
  | 10, v, _ => v = lvv
  | 13, v, _ => v = .pointer (some ⟨g, 2, none⟩)
  | 14, v, _ => v = vbv
  | 15, v, _ => v = .int .i64 (n : Int)
  | 16, v, w => ∃ b, wr.heap.size ≤ b ∧ v = .slice (some ⟨b, 0, none⟩) 1 1 ∧ Blk w b 3 #[.int .i64 (n : Int)]
  | 17, v, w => w.ownsRow 0 3 1 v (L.length + 1) (nints (L ++ [n])) ∧ (v.ownBlock = lvv.ownBlock ∨ ∃ b, v.ownBlock = some b ∧ wr.heap.size ≤ b)
  | 18, v, _ => v = .bool true
  | _, _, _ => True
/-- What region 9 writes: the place's own row, the map. -/
abbrev T9 (pm : Nat) (lvv : Value) : Nat → Prop := fun k => lvv.ownBlock = some k ∨ k = pm
structure G9 (g pm : Nat) (at_ : List UInt8) (get : List UInt8 → Option Value) (lvv : Value) (L : List Nat) (wr : World) (v17 v18 : Value) (w : World) : Prop where
  x : Ext (T9 pm lvv) wr w
  own : v17 = undef → w.ownsRow 0 3 1 lvv L.length (nints L)
  old : v18 = undef → Mp w .string kstr pm get
  new_ : v18 = .bool true → Mp w .string kstr pm (fun i => if i = at_ then some v17 else get i)
theorem G9.no {g pm : Nat} {at_ : List UInt8} {get : List UInt8 → Option Value} {lvv v17 v18 : Value} {L : List Nat} {wr w w' : World} (h : G9 g pm at_ get lvv L wr v17 v18 w) (hx : Ext No w w') : G9 g pm at_ get lvv L wr v17 v18 w' :=
  ⟨h.x.then_ hx, fun e => ownsRow_ext (h.own e) hx (fun _ _ h => h), fun e => (h.old e).ext_no hx, fun e => (h.new_ e).ext_no hx⟩
theorem F9.no {g pm : Nat} {at_ : List UInt8} {lvv vbv : Value} {L : List Nat} {n : Nat} {wr w w' : World} (hx : Ext No w w') : ∀ j v, F9 g pm at_ lvv vbv L n wr j v w → F9 g pm at_ lvv vbv L n wr j v w' := by
  intro j v h
  match j, h with
  | 0, h | 1, h | 2, h | 3, h | 4, h | 5, h | 6, h | 7, h | 8, h | 9, h | 10, h | 11, h | 12, h | 13, h | 14, h | 15, h | 18, h => exact h
  | 16, ⟨b, h1, h2, h3⟩ => exact ⟨b, h1, h2, h3.ext_no hx⟩
  | 17, ⟨h1, h2⟩ => exact ⟨ownsRow_ext h1 hx (fun _ _ h => h), h2⟩
  | m + 19, _ => trivial
theorem sl_int {w : World} {b n : Nat} (h : Blk w b 3 #[.int .i64 (n : Int)]) : Sl w Any 1 (.slice (some ⟨b, 0, none⟩) 1 1) 1 [.int .i64 (n : Int)] := by
  refine ⟨rfl, _, _, rfl, Nat.le_refl _, by simp [maxLen], fun _ => ⟨b, 0, rfl, trivial, fun j u hu => ?_⟩⟩
  match j, hu with
  | 0, hu => cases hu; exact h.cell 0
theorem one_int (n : Nat) : ∀ y ∈ [Value.int .i64 (n : Int)], y.oneCell' = true := fun y hy => by rw [List.mem_singleton.1 hy]; rfl
/-- The append. -/
theorem G9.app {g pm n : Nat} {at_ : List UInt8} {get : List UInt8 → Option Value} {lvv vbv v' : Value} {v17 v18 : Value} {L : List Nat} {wr w w' : World} (h : G9 g pm at_ get lvv L wr v17 v18 w) (hr0 : wr.ownsRow 0 3 1 lvv L.length (nints L)) (hm0 : Mp wr .string kstr pm get)
    (ho : w'.ownsRow 0 3 1 v' (L.length + 1) (nints L ++ [.int .i64 (n : Int)])) (hg : w.grownBy w' lvv.ownBlock) (hb : v'.ownBlock = lvv.ownBlock ∨ v'.ownBlock = some w.heap.size) (e18 : v18 = undef) :
    G9 g pm at_ get lvv L wr v' v18 w' ∧ F9 g pm at_ lvv vbv L n wr 17 v' w' ∧ ∀ j, j ≠ 17 → ∀ v, F9 g pm at_ lvv vbv L n wr j v w → F9 g pm at_ lvv vbv L n wr j v w' := by
  have hxx : Ext (fun k => lvv.ownBlock = some k) w w' := (Ext.refl _ w).grown hg (fun k hk _ => hk)
  have hlt : ∀ b, lvv.ownBlock = some b → b < wr.heap.size := fun b hb => (World.ownsRow.lt hr0 b hb).2
  have hpm : ∀ b, lvv.ownBlock = some b → pm ≠ b := fun b hb => by obtain ⟨cs, hc⟩ := ownsRow_blk hr0 b hb; exact hm0.ne hc
  have hmx : ∀ {f : List UInt8 → Option Value}, Mp w .string kstr pm f → Mp w' .string kstr pm f := fun hm => hm.ext hxx (fun e => hpm _ e rfl)
  refine ⟨⟨h.x.trans (hxx.mono fun i _ hi => .inl hi), fun e => absurd e (own_undef ho), fun e => hmx (h.old e), fun e => ?_⟩, ⟨?_, ?_⟩, fun j hj v hF => ?_⟩
  · rw [e18] at e; unfold undef at e; cases e
  · unfold nints at *; rw [List.map_append]; exact ho
  · rcases hb with hb | hb
    · exact .inl hb
    · exact .inr ⟨_, hb, h.x.size⟩
  · match j, hF with
    | 0, h | 1, h | 2, h | 3, h | 4, h | 5, h | 6, h | 7, h | 8, h | 9, h | 10, h | 11, h | 12, h | 13, h | 14, h | 15, h | 18, h => exact h
    | 16, ⟨b, h1, h2, h3⟩ => exact ⟨b, h1, h2, h3.ext hxx (fun e => by have := hlt b e; omega)⟩
    | 17, _ => exact absurd rfl hj
    | m + 19, _ => trivial
/-- The store into the map. -/
theorem G9.put {g pm n : Nat} {at_ : List UInt8} {get : List UInt8 → Option Value} {lvv vbv v17 v18 : Value} {L : List Nat} {wr w w' : World} (h : G9 g pm at_ get lvv L wr v17 v18 w) (hm0 : Mp wr .string kstr pm get) (h17 : F9 g pm at_ lvv vbv L n wr 17 v17 w) (hm : Mp w' .string kstr pm (fun i => if i = at_ then some v17 else get i)) (hx : Ext (One pm) w w') (e18 : v18 = undef) :
    G9 g pm at_ get lvv L wr v17 (.bool true) w' ∧ ∀ j, j ≠ 18 → ∀ v, F9 g pm at_ lvv vbv L n wr j v w → F9 g pm at_ lvv vbv L n wr j v w' := by
  refine ⟨⟨h.x.trans (hx.mono fun i _ hi => .inr hi), fun e => absurd e (own_undef h17.1), fun e => (by unfold undef at e; cases e), fun _ => hm⟩, fun j hj v hF => ?_⟩
  have hmw : pm < wr.heap.size := hm0.lt
  match j, hF with
  | 0, h | 1, h | 2, h | 3, h | 4, h | 5, h | 6, h | 7, h | 8, h | 9, h | 10, h | 11, h | 12, h | 13, h | 14, h | 15, h => exact h
  | 16, ⟨b, h1, h2, h3⟩ => exact ⟨b, h1, h2, h3.ext hx (fun e => by have e : b = pm := e; omega)⟩
  | 17, ⟨h1, h2⟩ => exact ⟨ownsRow_ext h1 hx (fun b hb e => by
      have e : b = pm := e
      obtain ⟨cs, hc⟩ := ownsRow_blk h1 b hb
      exact (h.old e18).ne hc e.symm), h2⟩
  | 18, _ => exact absurd rfl hj
  | m + 19, _ => trivial
/-- All parts together. -/
theorem note_done {w w1 wr wA wB : World} {g pt pm : Nat} {vb vk lvv v17 v7 : Value} {get : List UInt8 → Option Value} {S : Sr} {R : Bool} {L : List Nat} {E : List En} {at_ : List UInt8} {e : En} {kv nv bv tv sv : Value} {XS : List Value}
    (h0 : SlrAt w g pt vb vk pm get S) (hx1 : Ext No w w1) (hxr : Ext (One g) w1 wr) (h : SlrAt wr g pt vb vk pm get { S with reused := R }) (hR : R = (S.reused || E.any (clash e))) (hE : placesE S.book at_ = E) (hat : placeL e.key e.nonce = at_)
    (hL : placesL S.book at_ = L) (hlv : (get at_).getD (.slice none 0 0) = lvv) (hlr : wr.ownsRow 0 3 1 lvv L.length (nints L))
    (xA : Ext (T9 pm lvv) wr wA) (mA : Mp wA .string kstr pm (fun i => if i = at_ then some v17 else get i)) (rA : wA.ownsRow 0 3 1 v17 (L.length + 1) (nints (L ++ [S.book.length])) ∧ (v17.ownBlock = lvv.ownBlock ∨ ∃ b, v17.ownBlock = some b ∧ wr.heap.size ≤ b))
    (xB : Ext (TA g vb) wA wB) (gB : Blk wB g 129 #[.bool S.ideal, .pointer (some ⟨pt, 0, none⟩), v7, .map (some pm), vk, .int .u64 (S.count : Int), .bool R, .bool S.forged])
    (hXl : XS.length = (S.book.flatMap En.row).length) (hXb : ∀ (i : Nat) (u : Value), XS[i]? = some u → ∃ l, (S.book.flatMap En.row)[i]? = some l ∧ By wr u l) (hrb : wA.ownsRow 0 139 5 vb S.book.length XS)
    (pB : FP 139 5 vb S.book.length XS [kv, nv, bv, tv, sv] wA v7 wB) (he : EnV wr e kv nv bv tv sv) :
    ∃ F', Slr wB g F' (noted S e) ∧ Ext (foot g pm vb vk get) w wB ∧ ∀ b, F' b → foot g pm vb vk get b ∨ w.heap.size ≤ b := by
  have hw1 := hx1.size
  have hw2 := hxr.size
  have hw3 := xA.size
  have tmap : ∀ {b : Nat} {t : TypeId} {cs : Array Value}, Blk wr b t cs → t ≠ 3 → ¬ T9 pm lvv b := fun {b t cs} hb ht e => e.elim (fun e => by obtain ⟨c, hc⟩ := ownsRow_blk hlr b e; exact hc.ne_ hb (Ne.symm ht) rfl) (fun e => h.mp.ne hb e.symm)
  have uA : ∀ b, U8 wr b → ¬ T9 pm lvv b := fun b ⟨cs, hb⟩ => tmap hb (by decide)
  have gA : Blk wA g 129 _ := h.blk.ext xA (tmap h.blk (by decide))
  have tent : ∀ {b : Nat} {t : TypeId} {cs : Array Value}, Blk wA b t cs → t ≠ 139 → t ≠ 129 → ¬ TA g vb b := fun {b t cs} hb ht ht2 e => e.elim (fun e => by obtain ⟨c, hc⟩ := ownsRow_blk hrb b e; exact hc.ne_ hb (Ne.symm ht) rfl) (fun e => hb.ne_ gA ht2 e)
  have uB : ∀ b, U8 wA b → ¬ TA g vb b := fun b ⟨cs, hb⟩ => tent hb (by decide) (by decide)
  have byB : ∀ {u : Value} {l : List UInt8}, By wr u l → By wB u l := fun hb => (hb.ext xA uA).ext xB uB
  have pmB : ¬ TA g vb pm := fun e => e.elim (fun e => by obtain ⟨c, hc⟩ := ownsRow_blk hrb pm e; exact mA.ne hc rfl) (fun e => mA.ne gA e)
  have rB : wB.ownsRow 0 3 1 v17 (L.length + 1) (nints (L ++ [S.book.length])) := ownsRow_ext rA.1 xB (fun b hb => by obtain ⟨c, hc⟩ := ownsRow_blk rA.1 b hb; exact tent hc (by decide) (by decide))
  -- another place's row is none of this place's
  have far : ∀ k v, k ≠ at_ → get k = some v → ∀ b, v.ownBlock = some b → lvv.ownBlock ≠ some b := fun k v hk hg b hb => by
    cases hga : get at_ with
    | none => rw [hga] at hlv; rw [← hlv]; simp [Value.ownBlock]
    | some u => rw [hga] at hlv; have hu : u = lvv := hlv; rw [← hu]; exact h.apart k at_ v u hk hg hga b hb
  have hbk : (noted S e).book = S.book ++ [e] := rfl
  refine ⟨foot g pm v7 vk (fun i => if i = at_ then some v17 else get i), ⟨pt, v7, vk, pm, _, ⟨?_, ?_, ?_, ?_, mA.ext xB pmB, fun k => ?_, fun k1 k2 v1 v2 hk h1 h2 b hb1 hb2 => ?_⟩, rfl⟩, ?_, fun b hb => ?_⟩
  · have e1 : (noted S e).reused = R := by rw [hR, ← hE, ← hat]; rfl
    show Blk wB g _ #[.bool S.ideal, _, v7, .map (some pm), vk, .int .u64 (S.count : Int), .bool (noted S e).reused, .bool S.forged]
    rw [e1]; exact gB
  · have t1 := h.tab.ext xA (tmap h.tab (by decide))
    exact t1.ext xB (tent t1 (by decide) (by decide))
  · refine ⟨XS ++ [kv, nv, bv, tv, sv], ?_, ?_, fun i u hu => ?_⟩
    · rw [hbk, List.length_append]; exact pB.1
    · rw [hbk, List.flatMap_append, List.length_append, List.length_append, hXl]; rfl
    · rw [hbk, List.flatMap_append]
      by_cases hi : i < XS.length
      · rw [List.getElem?_append_left hi] at hu
        obtain ⟨l, hl, hb⟩ := hXb i u hu
        exact ⟨l, by rw [List.getElem?_append_left (by omega)]; exact hl, byB hb⟩
      · rw [List.getElem?_append_right (by omega)] at hu
        rw [List.getElem?_append_right (by omega), ← hXl]
        obtain ⟨j, hj⟩ : ∃ j, i - XS.length = j := ⟨_, rfl⟩
        rw [hj] at hu ⊢
        match j, hu with
        | 0, hu => cases hu; exact ⟨_, rfl, byB he.k⟩
        | 1, hu => cases hu; exact ⟨_, rfl, byB he.n⟩
        | 2, hu => cases hu; exact ⟨_, rfl, byB he.b⟩
        | 3, hu => cases hu; exact ⟨_, rfl, byB he.t⟩
        | 4, hu => cases hu; exact ⟨_, rfl, byB he.s⟩
        | n + 5, hu => simp at hu
  · have k1 : Rw wA 148 3 vk S.kids.length (S.kids.flatMap Ch.row) := h.kids.ext xA (fun b hb => by obtain ⟨c, hc⟩ := h.kids.blk b hb; exact tmap hc (by decide)) uA
    exact k1.ext xB (fun b hb => by obtain ⟨c, hc⟩ := k1.blk b hb; exact tent hc (by decide) (by decide)) uB
  · rw [hbk, placesL_snoc, hat]
    by_cases hk : k = at_
    · subst hk
      refine .inr ⟨v17, if_pos rfl, ?_⟩
      rw [if_pos rfl, hL, List.length_append]
      exact rB
    · rw [if_neg (fun e => hk e.symm), List.append_nil]
      rcases h.plc k with ⟨p1, p2⟩ | ⟨v, p1, p2⟩
      · exact .inl ⟨p1, by show (if k = at_ then some v17 else get k) = none; rw [if_neg hk]; exact p2⟩
      · refine .inr ⟨v, by show (if k = at_ then some v17 else get k) = some v; rw [if_neg hk]; exact p1, ?_⟩
        have p3 := ownsRow_ext p2 xA (fun b hb e => e.elim (fun e => far k v hk p1 b hb e) (fun e => by obtain ⟨c, hc⟩ := ownsRow_blk p2 b hb; exact h.mp.ne hc e.symm))
        exact ownsRow_ext p3 xB (fun b hb => by obtain ⟨c, hc⟩ := ownsRow_blk p3 b hb; exact tent hc (by decide) (by decide))
  · have h1 : (if k1 = at_ then some v17 else get k1) = some v1 := h1
    have h2 : (if k2 = at_ then some v17 else get k2) = some v2 := h2
    have new_ : ∀ k v, k ≠ at_ → get k = some v → v.ownBlock = some b → v17.ownBlock = some b → False := fun k v hk hg hb hb17 => by
      rcases rA.2 with e1 | ⟨b', e1, hb'⟩
      · exact far k v hk hg b hb (by rw [← e1]; exact hb17)
      · rw [hb17] at e1
        injection e1 with e1
        have := (World.ownsRow.lt (h.row hg) b hb).2
        omega
    by_cases c1 : k1 = at_
    · by_cases c2 : k2 = at_
      · exact hk (c1.trans c2.symm)
      · rw [if_pos c1] at h1
        rw [if_neg c2] at h2
        injection h1 with h1
        subst h1
        exact new_ k2 v2 c2 h2 hb2 hb1
    · rw [if_neg c1] at h1
      by_cases c2 : k2 = at_
      · rw [if_pos c2] at h2
        injection h2 with h2
        subst h2
        exact new_ k1 v1 c1 h1 hb1 hb2
      · rw [if_neg c2] at h2
        exact h.apart k1 k2 v1 v2 hk h1 h2 b hb1 hb2
  · have f1 : ∀ i, lvv.ownBlock = some i → foot g pm vb vk get i := fun i hi => by
      cases hga : get at_ with
      | none => rw [hga] at hlv; rw [← hlv] at hi; simp [Value.ownBlock] at hi
      | some u => rw [hga] at hlv; have hu : u = lvv := hlv; exact .inr (.inr (.inr (.inr ⟨at_, u, hga, by rw [hu]; exact hi⟩)))
    refine ((hx1.no.transS hxr (fun i _ e => .inl e)).transS xA (fun i _ e => ?_)).transS xB (fun i _ e => ?_)
    · exact e.elim (f1 i) (fun e => .inr (.inl e))
    · exact e.elim (fun e => .inr (.inr (.inl e))) (fun e => .inl e)
  · rcases hb with rfl | rfl | hb | hb | ⟨k, v, h1, hb⟩
    · exact .inl (.inl rfl)
    · exact .inl (.inr (.inl rfl))
    · rcases pB.2 with e1 | ⟨b', e1, hb'⟩
      · exact .inl (.inr (.inr (.inl (by rw [← e1]; exact hb))))
      · rw [hb] at e1
        injection e1 with e1
        exact .inr (by omega)
    · exact .inl (.inr (.inr (.inr (.inl hb))))
    · have h1 : (if k = at_ then some v17 else get k) = some v := h1
      by_cases c1 : k = at_
      · rw [if_pos c1] at h1
        injection h1 with h1
        subst h1
        rcases rA.2 with e1 | ⟨b', e1, hb'⟩
        · rw [hb] at e1
          cases hga : get at_ with
          | none => rw [hga] at hlv; rw [← hlv] at e1; simp [Value.ownBlock] at e1
          | some u => rw [hga] at hlv; have hu : u = lvv := hlv; exact .inl (.inr (.inr (.inr (.inr ⟨at_, u, hga, by rw [hu]; exact e1.symm⟩))))
        · rw [hb] at e1
          injection e1 with e1
          exact .inr (by omega)
      · rw [if_neg c1] at h1
        exact .inl (.inr (.inr (.inr (.inr ⟨k, v, h1, hb⟩))))
set_option maxRecDepth 100000 in
set_option maxHeartbeats 4000000 in
set_option pp.deepTerms true in
set_option pp.maxSteps 1000000 in
theorem sNote_any (g : Nat) (F : Nat → Prop) (S : Sr) (e : En) (kv nv bv tv sv : Value) (w : World) (h : Slr w g F S) (he : EnV w e kv nv bv tv sv) (hkl : e.key.length + e.nonce.length ≤ 1000000) (hbl : S.book.length ≤ 1000000) :
    Calls Try.prog 82 #[sp g, .agg #[kv, nv, bv, tv, sv]] w fun x w' => x = .returned (.tuple #[]) ∧ ∃ F', Slr w' g F' (noted S e) ∧ Ext F w w' ∧ ∀ b, F' b → F b ∨ w.heap.size ≤ b := by
  obtain ⟨pt, vb, vk, pm, get, h, rfl⟩ := h
  obtain ⟨L, hL⟩ : ∃ L, placesL S.book (placeL e.key e.nonce) = L := ⟨_, rfl⟩
  obtain ⟨E, hE⟩ : ∃ E, placesE S.book (placeL e.key e.nonce) = E := ⟨_, rfl⟩
  obtain ⟨at_, hat⟩ : ∃ a, placeL e.key e.nonce = a := ⟨_, rfl⟩
  have HP := Lib.hid (places_at S.book (placeL e.key e.nonce))
  have hlook := h.look (placeL e.key e.nonce)
  have hle := places_le S.book (placeL e.key e.nonce)
  simp only [hL, hE] at HP
  rw [hL] at hlook hle
  rw [hat] at hlook hL hE
  have HAT := Lib.hid hat
  obtain ⟨lv, hlv⟩ : ∃ v, (get at_).getD (.slice none 0 0) = v := ⟨_, rfl⟩
  rw [hlv] at hlook
  obtain ⟨lA, lc, rfl, hlc⟩ := ownsRow_slice hlook
  obtain ⟨kA, kc, rfl, -⟩ := he.k.slice
  obtain ⟨nA, nc, rfl, -⟩ := he.n.slice
  obtain ⟨bA, bc, rfl, -⟩ := he.b.slice
  obtain ⟨tA, tc, rfl, -⟩ := he.t.slice
  obtain ⟨sA, sc, rfl, -⟩ := he.s.slice
  obtain ⟨vbA, vbc, rfl, hvbc⟩ := h.book.slice
  have HLV := Lib.hid hlv
  have HLE : Hid (L.length ≤ 1000000) := Lib.hid (by omega)
  have HLK := Lib.hid hlook
  have HL := Lib.hid hL
  have HEE := Lib.hid hE
  have HX0 := Lib.hid ((Ext.refl No w).alloc (.cells (ecs (.slice kA e.key.length kc) (.slice nA e.nonce.length nc) (.slice bA e.beside.length bc) (.slice tA e.text.length tc) (.slice sA e.sealed.length sc)) 139))
  have HB0 := Lib.hid (Blk.new w 139 (ecs (.slice kA e.key.length kc) (.slice nA e.nonce.length nc) (.slice bA e.beside.length bc) (.slice tA e.text.length tc) (.slice sA e.sealed.length sc)))
  have HS := Lib.hid h
  have HE := Lib.hid he
  have hgl := h.blk.lt
  clear hL hE hat hlv hlook h he
  have hb5 := HB0.out
  have q0 := Blk.cell hb5 0
  have q1 := Blk.cell hb5 1
  clear hb5
  go_enter Try.func82, Try.ntmps82
  go_wp2_with (first
    | (go_at_call 130; (with_reducible refine (sPlace_any _ _ e.key e.nonce _ (HE.out.k.any.ext_no HX0.out) (HE.out.n.any.ext_no HX0.out) hkl).mono ?_); rintro e1 w1 ⟨rfl, hx⟩; rw [HAT.out]; have HX1 := Lib.hid (HX0.out.trans hx); have HB1 := Lib.hid (HB0.out.ext_no hx); have HS1 := Lib.hid (HS.out.ext_no HX1.out); have c3 := Blk.cell HS1.out.blk 3; have f3 := Blk.frozen HS1.out.blk 3; have gl1 := HS1.out.blk.lt; clear hx)
    | (at_lookup; go_must (refine wpList_look (.tmp 16) (.tmp 17) rfl rfl HS1.out.mp kstr_inj kstr_key Try.underlying125 Try.underlying9 (zero_ints _) at_ rfl rfl ?_); rw [HLV.out]; clear c3 f3))
  go_loopw [20] (fun iv wr => ∃ j : Nat, j ≤ L.length ∧ iv = .int .i64 j ∧ Hid (NtS w1 g pt pm (.slice vbA S.book.length vbc) vk get S E e j wr)) (fun iv _ => L.length - (intOf iv).toNat)
  case atStart => exact ⟨0, by omega, rfl, Lib.hid ⟨by simpa using HS1.out, Ext.refl _ _⟩⟩
  case round =>
    obtain ⟨j, hj, rfl, HN⟩ := hrel
    by_cases hlt : j < L.length
    · obtain ⟨hjE, hiB, hEq⟩ := HP.out j hlt
      obtain ⟨i, hi⟩ : ∃ i, L[j] = i := ⟨_, rfl⟩
      obtain ⟨o, ho⟩ : ∃ o, E[j] = o := ⟨_, rfl⟩
      have hTK : E.take (j + 1) = E.take j ++ [o] := by rw [← ho]; exact List.take_succ_eq_append_getElem hjE
      have hlk := HN.out.s.look at_
      have hL2 : placesL S.book at_ = L := HL.out
      simp only [hL2, HLV.out] at hlk
      obtain ⟨gi, hgi, hci⟩ := row_cell hlk hlt
      rw [nints_get L j hlt, hi] at hci
      simp only [hi] at hiB hEq
      have hbk := HN.out.s.book
      obtain ⟨gv, vc, hve, hgv, xk, xn, xb, xt, xs, hrg, hen⟩ := book_at hbk hiB
      injection hve with hv1 hv2 hv3
      subst hv1 hv3 hgi
      simp only [hEq, ho] at hen
      have c2 : wr.cell? ⟨g, 2, none⟩ = some (.slice (some ⟨gv, 0, none⟩) S.book.length vbc) := Blk.cell HN.out.s.blk 2
      have i0 : (0 : Int) ≤ (i : Int) := by omega
      have i1 : (i : Int) < (S.book.length : Int) := by omega
      have j0 : (0 : Int) ≤ (j : Int) := by omega
      have j1 : (j : Int) < (L.length : Int) := by omega
      have HRG := Lib.hid hrg
      have HEN := Lib.hid hen
      have HTK := Lib.hid hTK
      have hgr := HN.out.s.blk.lt
      have HB2 := Lib.hid (HB1.out.ext HN.out.x (fun e => by have := (HB1.out.ne_ HS1.out.blk (by decide)) e; exact this))
      clear hlk hL2 hbk hrg hen hTK hEq hi ho hv2 hjE hiB
      obtain ⟨pb, hpb⟩ : ∃ p, decide (o.beside = e.beside) = p := ⟨_, rfl⟩
      obtain ⟨pt2, hpt⟩ : ∃ p, decide (o.text = e.text) = p := ⟨_, rfl⟩
      have HPB := Lib.hid hpb
      have HPT := Lib.hid hpt
      clear hpb hpt
      have HEB : Hid (EnV wr e (.slice kA e.key.length kc) (.slice nA e.nonce.length nc) (.slice bA e.beside.length bc) (.slice tA e.text.length tc) (.slice sA e.sealed.length sc)) := Lib.hid ((HE.out.ext_no HX1.out).ext HN.out.x (fun b hb e => u8_ne hb HS1.out.blk (by decide) e))
      cases pb with
      | false =>
        go_wp2_with (first
          | ((with_reducible show wpList _ _ _ (⟨some 30, _, _, _, _, _⟩ :: _) _ _); go_must (refine wpList_load_mid rfl 139 (.tmp 29) rfl gv (i * 5) rfl [xk, xn, xb, xt, xs] _ HRG.out Try.underlying139 rfl size_entry ?_))
          | ((with_reducible show wpList _ _ _ (⟨none, .store 139 (.tmp 7) (.tmp 30), _, _, _, _⟩ :: _) _ _); go_must ((change wpList _ _ _ _ _ (wr.alloc (.cells zen 139))); refine store_blk (cs' := ecs xk xn xb xt xs) 139 (.tmp 7) (.tmp 30) rfl rfl (Blk.new wr 139 zen) rfl rfl rfl size_entry HEN.out.one ?_); intro w2 hb2 hx2; have HW2 := Lib.hid hb2; have HX2 : Hid (Ext No wr w2) := Lib.hid (((Ext.refl No wr).alloc _).transS hx2 (fun i hi e => by have e : i = wr.heap.size := e; omega)); have r2 := Blk.cell hb2 2; have r3 := Blk.cell hb2 3; have s2 := Blk.cell (HB2.out.ext_no HX2.out) 2; have s3 := Blk.cell (HB2.out.ext_no HX2.out) 3; clear hb2 hx2)
          | (go_at_call 39; (with_reducible refine (oSame_all _ _ o.beside e.beside _ (HEN.out.b.any.ext_no HX2.out) (HEB.out.b.any.ext_no HX2.out) _ HPB.out).mono ?_); rintro e3 w3 ⟨rfl, hx3⟩; have HX3 := Lib.hid (HX2.out.trans hx3); have r3 := Blk.cell (HW2.out.ext_no hx3) 3; have s3 := Blk.cell (HB2.out.ext_no HX3.out) 3; have g6 := Blk.cell (HN.out.s.ext_no HX3.out).blk 6; have g6f := Blk.frozen (HN.out.s.ext_no HX3.out).blk 6; have g6l := (HN.out.s.ext_no HX3.out).blk.lt; clear hx3))
        go_roundw
        case rel => exact ⟨j + 1, by omega, by go_num, Lib.hid (HN.out.hit HX3.out HTK.out (by unfold clash; rw [HPB.out]; rfl))⟩
        case measure => simp [intOf]; omega
      | true =>
        cases pt2 with
        | false =>
          go_wp2_with (first
            | ((with_reducible show wpList _ _ _ (⟨some 30, _, _, _, _, _⟩ :: _) _ _); go_must (refine wpList_load_mid rfl 139 (.tmp 29) rfl gv (i * 5) rfl [xk, xn, xb, xt, xs] _ HRG.out Try.underlying139 rfl size_entry ?_))
            | ((with_reducible show wpList _ _ _ (⟨none, .store 139 (.tmp 7) (.tmp 30), _, _, _, _⟩ :: _) _ _); go_must ((change wpList _ _ _ _ _ (wr.alloc (.cells zen 139))); refine store_blk (cs' := ecs xk xn xb xt xs) 139 (.tmp 7) (.tmp 30) rfl rfl (Blk.new wr 139 zen) rfl rfl rfl size_entry HEN.out.one ?_); intro w2 hb2 hx2; have HW2 := Lib.hid hb2; have HX2 : Hid (Ext No wr w2) := Lib.hid (((Ext.refl No wr).alloc _).transS hx2 (fun i hi e => by have e : i = wr.heap.size := e; omega)); have r2 := Blk.cell hb2 2; have r3 := Blk.cell hb2 3; have s2 := Blk.cell (HB2.out.ext_no HX2.out) 2; have s3 := Blk.cell (HB2.out.ext_no HX2.out) 3; clear hb2 hx2)
            | (go_at_call 39; (with_reducible refine (oSame_all _ _ o.beside e.beside _ (HEN.out.b.any.ext_no HX2.out) (HEB.out.b.any.ext_no HX2.out) _ HPB.out).mono ?_); rintro e3 w3 ⟨rfl, hx3⟩; have HX3 := Lib.hid (HX2.out.trans hx3); have r3 := Blk.cell (HW2.out.ext_no hx3) 3; have s3 := Blk.cell (HB2.out.ext_no HX3.out) 3; have g6 := Blk.cell (HN.out.s.ext_no HX3.out).blk 6; have g6f := Blk.frozen (HN.out.s.ext_no HX3.out).blk 6; have g6l := (HN.out.s.ext_no HX3.out).blk.lt; clear hx3)
            | (go_at_call 39; (with_reducible refine (oSame_all _ _ o.text e.text _ (HEN.out.t.any.ext_no HX3.out) (HEB.out.t.any.ext_no HX3.out) _ HPT.out).mono ?_); rintro e4 w4 ⟨rfl, hx4⟩; have HX4 := Lib.hid (HX3.out.trans hx4); have g6 := Blk.cell (HN.out.s.ext_no HX4.out).blk 6; have g6f := Blk.frozen (HN.out.s.ext_no HX4.out).blk 6; have g6l := (HN.out.s.ext_no HX4.out).blk.lt; clear hx4))
          go_roundw
          case rel => exact ⟨j + 1, by omega, by go_num, Lib.hid (HN.out.hit HX4.out HTK.out (by unfold clash; rw [HPB.out, HPT.out]; rfl))⟩
          case measure => simp [intOf]; omega
        | true =>
          go_wp2_with (first
            | ((with_reducible show wpList _ _ _ (⟨some 30, _, _, _, _, _⟩ :: _) _ _); go_must (refine wpList_load_mid rfl 139 (.tmp 29) rfl gv (i * 5) rfl [xk, xn, xb, xt, xs] _ HRG.out Try.underlying139 rfl size_entry ?_))
            | ((with_reducible show wpList _ _ _ (⟨none, .store 139 (.tmp 7) (.tmp 30), _, _, _, _⟩ :: _) _ _); go_must ((change wpList _ _ _ _ _ (wr.alloc (.cells zen 139))); refine store_blk (cs' := ecs xk xn xb xt xs) 139 (.tmp 7) (.tmp 30) rfl rfl (Blk.new wr 139 zen) rfl rfl rfl size_entry HEN.out.one ?_); intro w2 hb2 hx2; have HW2 := Lib.hid hb2; have HX2 : Hid (Ext No wr w2) := Lib.hid (((Ext.refl No wr).alloc _).transS hx2 (fun i hi e => by have e : i = wr.heap.size := e; omega)); have r2 := Blk.cell hb2 2; have r3 := Blk.cell hb2 3; have s2 := Blk.cell (HB2.out.ext_no HX2.out) 2; have s3 := Blk.cell (HB2.out.ext_no HX2.out) 3; clear hb2 hx2)
            | (go_at_call 39; (with_reducible refine (oSame_all _ _ o.beside e.beside _ (HEN.out.b.any.ext_no HX2.out) (HEB.out.b.any.ext_no HX2.out) _ HPB.out).mono ?_); rintro e3 w3 ⟨rfl, hx3⟩; have HX3 := Lib.hid (HX2.out.trans hx3); have r3 := Blk.cell (HW2.out.ext_no hx3) 3; have s3 := Blk.cell (HB2.out.ext_no HX3.out) 3; have g6 := Blk.cell (HN.out.s.ext_no HX3.out).blk 6; have g6f := Blk.frozen (HN.out.s.ext_no HX3.out).blk 6; have g6l := (HN.out.s.ext_no HX3.out).blk.lt; clear hx3)
            | (go_at_call 39; (with_reducible refine (oSame_all _ _ o.text e.text _ (HEN.out.t.any.ext_no HX3.out) (HEB.out.t.any.ext_no HX3.out) _ HPT.out).mono ?_); rintro e4 w4 ⟨rfl, hx4⟩; have HX4 := Lib.hid (HX3.out.trans hx4); have g6 := Blk.cell (HN.out.s.ext_no HX4.out).blk 6; have g6f := Blk.frozen (HN.out.s.ext_no HX4.out).blk 6; have g6l := (HN.out.s.ext_no HX4.out).blk.lt; clear hx4))
          go_roundw
          case rel => exact ⟨j + 1, by omega, by go_num, Lib.hid (HN.out.miss HX4.out HTK.out (by unfold clash; rw [HPB.out, HPT.out]; rfl))⟩
          case measure => simp [intOf]; omega
    · obtain rfl : j = L.length := by omega
      have hlk := HN.out.s.look at_
      have hL2 : placesL S.book at_ = L := HL.out
      simp only [hL2, HLV.out] at hlk
      have HLR := Lib.hid hlk
      have HMP := Lib.hid HN.out.s.mp
      have HC : Hid (∀ wx, Ext (T9 pm (.slice lA L.length lc)) wr wx → wx.cell? ⟨g, 2, none⟩ = some (.slice vbA S.book.length vbc) ∧ wx.cell? ⟨g, 3, none⟩ = some (.map (some pm)) ∧ g < wx.heap.size) := Lib.hid (fun wx hx => by
        have hb := HN.out.s.blk.ext hx (fun e => e.elim (fun e => by obtain ⟨cs, hc⟩ := ownsRow_blk HLR.out g e; exact hc.ne_ HN.out.s.blk (by decide) rfl) (fun e => HN.out.s.mp.ne HN.out.s.blk e.symm))
        exact ⟨hb.cell 2, hb.cell 3, hb.lt⟩)
      clear hlk hL2
      go_wp2_with fail
      refine RF.regionL (vs := fun _ => undef) rfl (fun vs => ((sp g) :: (Value.agg #[Value.slice kA e.key.length kc, Value.slice nA e.nonce.length nc, Value.slice bA e.beside.length bc, Value.slice tA e.text.length tc, Value.slice sA e.sealed.length sc]) :: undef :: (Value.pointer (some ⟨w.heap.size, 0, none⟩)) :: (kstr at_) :: undef :: u6 :: u7 :: (Value.pointer (some ⟨w.heap.size, 0, none⟩)) :: (Value.slice kA e.key.length kc) :: (Value.pointer (some ⟨w.heap.size, 1, none⟩)) :: (Value.slice nA e.nonce.length nc) :: (kstr at_) :: (sp g) :: (Value.pointer (some ⟨g, 0, none⟩)) :: (Value.pointer (some ⟨g, 3, none⟩)) :: (Value.map (some pm)) :: (kstr at_) :: (Value.slice lA L.length lc) :: (Value.int IntKind.i64 (L.length : Int)) :: (Value.int IntKind.i64 (L.length : Int)) :: (Value.bool false) :: u22 :: u23 :: u24 :: u25 :: u26 :: u27 :: u28 :: u29 :: u30 :: u31 :: u32 :: u33 :: u34 :: u35 :: u36 :: u37 :: u38 :: u39 :: u40 :: u41 :: u42 :: u43 :: u44 :: u45 :: u46 :: u47 :: u48 :: (vs 0) :: (vs 1) :: (vs 2) :: (vs 3) :: (vs 4) :: (vs 5) :: (vs 6) :: (vs 7) :: (vs 8) :: (vs 9) :: (vs 10) :: (vs 11) :: (vs 12) :: (vs 13) :: (vs 14) :: (vs 15) :: (vs 16) :: (vs 17) :: undef :: undef :: undef :: undef :: undef :: undef :: undef :: undef :: undef :: undef :: []).toArray)
        (F9 g pm at_ (Value.slice lA L.length lc) (Value.slice vbA S.book.length vbc) L S.book.length wr) (fun vs wz => G9 g pm at_ get (Value.slice lA L.length lc) L wr (vs 17) (vs 18) wz) 18 rfl (by kernel_rfl) ?_ ?_ ?_
      · exact ⟨(Ext.refl _ wr).drew, fun _ => HLR.out, fun _ => HMP.out, fun e => (by unfold undef at e; cases e)⟩
      · refine ⟨⟨⟨⟨⟨⟨⟨⟨⟨⟨⟨⟨⟨⟨⟨⟨⟨⟨⟨trivial, ?_⟩, ?_⟩, ?_⟩, ?_⟩, ?_⟩, ?_⟩, ?_⟩, ?_⟩, ?_⟩, ?_⟩, ?_⟩, ?_⟩, ?_⟩, ?_⟩, ?_⟩, ?_⟩, ?_⟩, ?_⟩, ?_⟩
        · refine RF.Step.late ?_
          refine RF.Step.plain rfl rfl (fun vs wx hG hv hd K hK => ?_)
          have HG0 := Lib.hid hG
          clear hG
          go_simp
          have h4 := hK _ _ HG0.out rfl (fun _ _ h => h)
          first | exact h4 | (simpa only [RF.upd, Nat.reduceEqDiff, if_true, if_false, reduceIte] using h4) | (simp only [RF.upd, Nat.reduceEqDiff, if_true, if_false, reduceIte] at h4 ⊢; exact h4)
        · refine RF.Step.late ?_
          refine RF.Step.plain rfl rfl (fun vs wx hG hv hd K hK => ?_)
          have h0 : vs 0 = Value.pointer (some ⟨g, 0, none⟩) := by first | exact hd.1 | exact hd.2.1 | exact hd.2.2.1 | exact hd.2.2.2.1 | exact hd.2.2.2.2.1
          obtain ⟨c2, c3, gl⟩ := HC.out wx hG.x
          have HG0 := Lib.hid hG
          clear hG
          go_simp
          have h4 := hK _ _ HG0.out rfl (fun _ _ h => h)
          first | exact h4 | (simpa only [RF.upd, h0, Nat.reduceEqDiff, if_true, if_false, reduceIte] using h4) | (simp only [RF.upd, h0, Nat.reduceEqDiff, if_true, if_false, reduceIte] at h4 ⊢; exact h4)
        · refine RF.Step.late ?_
          refine RF.Step.plain rfl rfl (fun vs wx hG hv hd K hK => ?_)
          have h0 : vs 1 = Value.pointer (some ⟨g, 0, none⟩) := by first | exact hd.1 | exact hd.2.1 | exact hd.2.2.1 | exact hd.2.2.2.1 | exact hd.2.2.2.2.1
          obtain ⟨c2, c3, gl⟩ := HC.out wx hG.x
          have HG0 := Lib.hid hG
          clear hG
          go_simp
          have h4 := hK _ _ HG0.out rfl (fun _ _ h => h)
          first | exact h4 | (simpa only [RF.upd, h0, Nat.reduceEqDiff, if_true, if_false, reduceIte] using h4) | (simp only [RF.upd, h0, Nat.reduceEqDiff, if_true, if_false, reduceIte] at h4 ⊢; exact h4)
        · refine RF.Step.late ?_
          refine RF.Step.plain rfl rfl (fun vs wx hG hv hd K hK => ?_)
          have h0 : vs 2 = Value.pointer (some ⟨g, 3, none⟩) := by first | exact hd.1 | exact hd.2.1 | exact hd.2.2.1 | exact hd.2.2.2.1 | exact hd.2.2.2.2.1
          obtain ⟨c2, c3, gl⟩ := HC.out wx hG.x
          have HG0 := Lib.hid hG
          clear hG
          go_simp
          have h4 := hK _ _ HG0.out rfl (fun _ _ h => h)
          first | exact h4 | (simpa only [RF.upd, h0, Nat.reduceEqDiff, if_true, if_false, reduceIte] using h4) | (simp only [RF.upd, h0, Nat.reduceEqDiff, if_true, if_false, reduceIte] at h4 ⊢; exact h4)
        · refine RF.Step.late ?_
          refine RF.Step.plain rfl rfl (fun vs wx hG hv hd K hK => ?_)
          have HG0 := Lib.hid hG
          clear hG
          go_simp
          have h4 := hK _ _ HG0.out rfl (fun _ _ h => h)
          first | exact h4 | (simpa only [RF.upd, Nat.reduceEqDiff, if_true, if_false, reduceIte] using h4) | (simp only [RF.upd, Nat.reduceEqDiff, if_true, if_false, reduceIte] at h4 ⊢; exact h4)
        · refine RF.Step.late ?_
          refine RF.Step.plain rfl rfl (fun vs wx hG hv hd K hK => ?_)
          have HG0 := Lib.hid hG
          clear hG
          go_simp
          have h4 := hK _ _ HG0.out rfl (fun _ _ h => h)
          first | exact h4 | (simpa only [RF.upd, Nat.reduceEqDiff, if_true, if_false, reduceIte] using h4) | (simp only [RF.upd, Nat.reduceEqDiff, if_true, if_false, reduceIte] at h4 ⊢; exact h4)
        · refine RF.Step.late ?_
          refine RF.Step.plain rfl rfl (fun vs wx hG hv hd K hK => ?_)
          have h0 : vs 5 = Value.pointer (some ⟨g, 0, none⟩) := by first | exact hd.1 | exact hd.2.1 | exact hd.2.2.1 | exact hd.2.2.2.1 | exact hd.2.2.2.2.1
          obtain ⟨c2, c3, gl⟩ := HC.out wx hG.x
          have HG0 := Lib.hid hG
          clear hG
          go_simp
          have h4 := hK _ _ HG0.out rfl (fun _ _ h => h)
          first | exact h4 | (simpa only [RF.upd, h0, Nat.reduceEqDiff, if_true, if_false, reduceIte] using h4) | (simp only [RF.upd, h0, Nat.reduceEqDiff, if_true, if_false, reduceIte] at h4 ⊢; exact h4)
        · refine RF.Step.late ?_
          refine RF.Step.plain rfl rfl (fun vs wx hG hv hd K hK => ?_)
          have h0 : vs 6 = Value.pointer (some ⟨g, 0, none⟩) := by first | exact hd.1 | exact hd.2.1 | exact hd.2.2.1 | exact hd.2.2.2.1 | exact hd.2.2.2.2.1
          obtain ⟨c2, c3, gl⟩ := HC.out wx hG.x
          have HG0 := Lib.hid hG
          clear hG
          go_simp
          have h4 := hK _ _ HG0.out rfl (fun _ _ h => h)
          first | exact h4 | (simpa only [RF.upd, h0, Nat.reduceEqDiff, if_true, if_false, reduceIte] using h4) | (simp only [RF.upd, h0, Nat.reduceEqDiff, if_true, if_false, reduceIte] at h4 ⊢; exact h4)
        · refine RF.Step.late ?_
          refine RF.Step.plain rfl rfl (fun vs wx hG hv hd K hK => ?_)
          have h0 : vs 7 = Value.pointer (some ⟨g, 3, none⟩) := by first | exact hd.1 | exact hd.2.1 | exact hd.2.2.1 | exact hd.2.2.2.1 | exact hd.2.2.2.2.1
          obtain ⟨c2, c3, gl⟩ := HC.out wx hG.x
          have HG0 := Lib.hid hG
          clear hG
          go_simp
          have h4 := hK _ _ HG0.out rfl (fun _ _ h => h)
          first | exact h4 | (simpa only [RF.upd, h0, Nat.reduceEqDiff, if_true, if_false, reduceIte] using h4) | (simp only [RF.upd, h0, Nat.reduceEqDiff, if_true, if_false, reduceIte] at h4 ⊢; exact h4)
        · refine RF.Step.late ?_
          refine RF.Step.plain rfl rfl (fun vs wx hG hv hd K hK => ?_)
          have HG0 := Lib.hid hG
          clear hG
          go_simp
          have h4 := hK _ _ HG0.out rfl (fun _ _ h => h)
          first | exact h4 | (simpa only [RF.upd, Nat.reduceEqDiff, if_true, if_false, reduceIte] using h4) | (simp only [RF.upd, Nat.reduceEqDiff, if_true, if_false, reduceIte] at h4 ⊢; exact h4)
        · refine RF.StepL.plain rfl rfl rfl (fun vs wx hG hv hl hd K hK => ?_)
          have h8 : vs 8 = Value.map (some pm) := by first | exact hd.1 | exact hd.2.1 | exact hd.2.2.1 | exact hd.2.2.2.1 | exact hd.2.2.2.2.1
          have h9 : vs 9 = kstr at_ := by first | exact hd.1 | exact hd.2.1 | exact hd.2.2.1 | exact hd.2.2.2.1 | exact hd.2.2.2.2.1
          refine wp_look (.tmp 57) (.tmp 58) rfl (hG.old hl) kstr_inj kstr_key Try.underlying125 Try.underlying9 (zero_ints _) at_ (by show vs 8 = _; exact h8) (by show vs 9 = _; exact h9) ?_
          rw [HLV.out]
          exact hK _ _ hG rfl (fun _ _ h => h)
        · refine RF.Step.late ?_
          refine RF.Step.plain rfl rfl (fun vs wx hG hv hd K hK => ?_)
          have HG0 := Lib.hid hG
          clear hG
          go_simp
          have h4 := hK _ _ HG0.out rfl (fun _ _ h => h)
          first | exact h4 | (simpa only [RF.upd, Nat.reduceEqDiff, if_true, if_false, reduceIte] using h4) | (simp only [RF.upd, Nat.reduceEqDiff, if_true, if_false, reduceIte] at h4 ⊢; exact h4)
        · refine RF.Step.late ?_
          refine RF.Step.plain rfl rfl (fun vs wx hG hv hd K hK => ?_)
          have h0 : vs 11 = Value.pointer (some ⟨g, 0, none⟩) := by first | exact hd.1 | exact hd.2.1 | exact hd.2.2.1 | exact hd.2.2.2.1 | exact hd.2.2.2.2.1
          obtain ⟨c2, c3, gl⟩ := HC.out wx hG.x
          have HG0 := Lib.hid hG
          clear hG
          go_simp
          have h4 := hK _ _ HG0.out rfl (fun _ _ h => h)
          first | exact h4 | (simpa only [RF.upd, h0, Nat.reduceEqDiff, if_true, if_false, reduceIte] using h4) | (simp only [RF.upd, h0, Nat.reduceEqDiff, if_true, if_false, reduceIte] at h4 ⊢; exact h4)
        · refine RF.Step.late ?_
          refine RF.Step.plain rfl rfl (fun vs wx hG hv hd K hK => ?_)
          have h0 : vs 12 = Value.pointer (some ⟨g, 0, none⟩) := by first | exact hd.1 | exact hd.2.1 | exact hd.2.2.1 | exact hd.2.2.2.1 | exact hd.2.2.2.2.1
          obtain ⟨c2, c3, gl⟩ := HC.out wx hG.x
          have HG0 := Lib.hid hG
          clear hG
          go_simp
          have h4 := hK _ _ HG0.out rfl (fun _ _ h => h)
          first | exact h4 | (simpa only [RF.upd, h0, Nat.reduceEqDiff, if_true, if_false, reduceIte] using h4) | (simp only [RF.upd, h0, Nat.reduceEqDiff, if_true, if_false, reduceIte] at h4 ⊢; exact h4)
        · refine RF.Step.late ?_
          refine RF.Step.plain rfl rfl (fun vs wx hG hv hd K hK => ?_)
          have h0 : vs 13 = Value.pointer (some ⟨g, 2, none⟩) := by first | exact hd.1 | exact hd.2.1 | exact hd.2.2.1 | exact hd.2.2.2.1 | exact hd.2.2.2.2.1
          obtain ⟨c2, c3, gl⟩ := HC.out wx hG.x
          have HG0 := Lib.hid hG
          clear hG
          go_simp
          have h4 := hK _ _ HG0.out rfl (fun _ _ h => h)
          first | exact h4 | (simpa only [RF.upd, h0, Nat.reduceEqDiff, if_true, if_false, reduceIte] using h4) | (simp only [RF.upd, h0, Nat.reduceEqDiff, if_true, if_false, reduceIte] at h4 ⊢; exact h4)
        · refine RF.Step.late ?_
          refine RF.Step.plain rfl rfl (fun vs wx hG hv hd K hK => ?_)
          have h0 : vs 14 = Value.slice vbA S.book.length vbc := by first | exact hd.1 | exact hd.2.1 | exact hd.2.2.1 | exact hd.2.2.2.1 | exact hd.2.2.2.2.1
          obtain ⟨c2, c3, gl⟩ := HC.out wx hG.x
          have HG0 := Lib.hid hG
          clear hG
          go_simp
          have h4 := hK _ _ HG0.out rfl (fun _ _ h => h)
          first | exact h4 | (simpa only [RF.upd, h0, Nat.reduceEqDiff, if_true, if_false, reduceIte] using h4) | (simp only [RF.upd, h0, Nat.reduceEqDiff, if_true, if_false, reduceIte] at h4 ⊢; exact h4)
        · refine RF.Step.late ?_
          refine RF.Step.plain rfl rfl (fun vs wx hG hv hd K hK => ?_)
          have h15 : vs 15 = Value.int .i64 (S.book.length : Int) := by first | exact hd.1 | exact hd.2.1 | exact hd.2.2.1 | exact hd.2.2.2.1 | exact hd.2.2.2.2.1
          have HG0 := Lib.hid hG
          clear hG
          go_simp
          have hxa : Ext No wx (wx.alloc (.cells #[vs 15] 3)) := (Ext.refl No wx).alloc _
          have h4 := hK (.slice (some ⟨wx.heap.size, 0, none⟩) 1 1) (wx.alloc (.cells #[vs 15] 3)) (HG0.out.no hxa) ⟨wx.heap.size, HG0.out.x.size, rfl, by rw [h15]; exact Blk.new _ _ _⟩ (fun j _ h => F9.no hxa j _ h)
          first | exact h4 | (simpa only [RF.upd, h15, Nat.reduceEqDiff, if_true, if_false, reduceIte] using h4) | (simp only [RF.upd, h15, Nat.reduceEqDiff, if_true, if_false, reduceIte] at h4 ⊢; exact h4)
        · refine RF.StepL.plain rfl rfl rfl (fun vs wx hG hv hl hd K hK => ?_)
          have h10 : vs 10 = Value.slice lA L.length lc := by first | exact hd.1 | exact hd.2.1 | exact hd.2.2.1 | exact hd.2.2.2.1 | exact hd.2.2.2.2.1
          obtain ⟨bb, hbb, h16, hbk⟩ : ∃ b, wr.heap.size ≤ b ∧ vs 16 = Value.slice (some ⟨b, 0, none⟩) 1 1 ∧ Blk wx b 3 #[.int .i64 (S.book.length : Int)] := by first | exact hd.1 | exact hd.2.1 | exact hd.2.2.1 | exact hd.2.2.2.1 | exact hd.2.2.2.2.1
          refine wp_app (.tmp 59) (.tmp 65) _ rfl 0 3 (.int .i64 0) 1 8 Try.underlying215 info_int rfl (by omega) (Value.slice lA L.length lc) L.length (nints L) (by show vs 10 = _; exact h10) (hG.own hv) Any _ 1 _ (by show vs 16 = _; exact h16) (sl_int hbk) (one_int _) (by have := HLE.out; unfold maxLen; omega) (by have := HLE.out; omega) (Nat.zero_le _) ?_
          intro v' w' ho hg hb
          obtain ⟨k1, k2, k3⟩ := hG.app (vbv := Value.slice vbA S.book.length vbc) (n := S.book.length) HLR.out HMP.out ho hg hb hl
          exact hK v' w' k1 k2 (fun j hj h => k3 j hj _ h)
        · refine RF.Step.late ?_
          refine RF.Step.plain rfl rfl (fun vs wx hG hv hd K hK => ?_)
          have h3 : vs 3 = Value.map (some pm) := by first | exact hd.1 | exact hd.2.1 | exact hd.2.2.1 | exact hd.2.2.2.1 | exact hd.2.2.2.2.1
          have h4 : vs 4 = kstr at_ := by first | exact hd.1 | exact hd.2.1 | exact hd.2.2.1 | exact hd.2.2.2.1 | exact hd.2.2.2.2.1
          have h17 : wx.ownsRow 0 3 1 (vs 17) (L.length + 1) (nints (L ++ [S.book.length])) ∧ ((vs 17).ownBlock = (Value.slice lA L.length lc).ownBlock ∨ ∃ b, (vs 17).ownBlock = some b ∧ wr.heap.size ≤ b) := by first | exact hd.1 | exact hd.2.1 | exact hd.2.2.1 | exact hd.2.2.2.1 | exact hd.2.2.2.2.1
          refine wp_put (.tmp 52) (.tmp 53) (.tmp 66) rfl (hG.old hv) kstr_inj kstr_key Try.underlying125 Try.underlying9 at_ (vs 17) (by show vs 3 = _; exact h3) (by show vs 4 = _; exact h4) rfl ?_
          intro w2 hm hx hs
          obtain ⟨k1, k2⟩ := hG.put (vbv := Value.slice vbA S.book.length vbc) (n := S.book.length) HMP.out h17 hm hx hv
          exact hK (.bool true) w2 k1 rfl (fun j hj h => k2 j hj _ h)
      · intro vsA wA hG hF
        have h17 : wA.ownsRow 0 3 1 (vsA 17) (L.length + 1) (nints (L ++ [S.book.length])) ∧ ((vsA 17).ownBlock = (Value.slice lA L.length lc).ownBlock ∨ ∃ b, (vsA 17).ownBlock = some b ∧ wr.heap.size ≤ b) := hF 17 (by decide)
        have h18 : vsA 18 = Value.bool true := hF 18 (by decide)
        have HXA := Lib.hid hG.x
        have HMA := Lib.hid (hG.new_ h18)
        have HRA := Lib.hid h17
        clear hG hF h17 h18
        have hxs := HN.out.s.book
        obtain ⟨XS, hxo, hxl, hxb⟩ := hxs
        have HRB : Hid (wA.ownsRow 0 139 5 (.slice vbA S.book.length vbc) S.book.length XS) := Lib.hid (ownsRow_ext hxo HXA.out (fun b hb e => e.elim (fun e => by obtain ⟨c1, h1⟩ := ownsRow_blk hxo b hb; obtain ⟨c2, h2⟩ := ownsRow_blk HLR.out b e; exact h1.ne_ h2 (by decide) rfl) (fun e => by obtain ⟨c1, h1⟩ := ownsRow_blk hxo b hb; exact HN.out.s.mp.ne h1 e.symm)))
        have HGA : Hid (Blk wA g 129 #[.bool S.ideal, .pointer (some ⟨pt, 0, none⟩), .slice vbA S.book.length vbc, .map (some pm), vk, .int .u64 (S.count : Int), .bool (S.reused || (E.take L.length).any (clash e)), .bool S.forged]) := Lib.hid (HN.out.s.blk.ext HXA.out (fun e => e.elim (fun e => by obtain ⟨c2, h2⟩ := ownsRow_blk HLR.out g e; exact h2.ne_ HN.out.s.blk (by decide) rfl) (fun e => HN.out.s.mp.ne HN.out.s.blk e.symm)))
        have HB2 := Lib.hid (HB1.out.ext HN.out.x (fun e => by have := (HB1.out.ne_ HS1.out.blk (by decide)) e; exact this))
        have HBXA := Lib.hid (HB2.out.ext HXA.out (fun e => e.elim (fun e => by obtain ⟨c2, h2⟩ := ownsRow_blk HLR.out _ e; exact h2.ne_ HB2.out (by decide) rfl) (fun e => HN.out.s.mp.ne HB2.out e.symm)))
        have HBXN : Hid (¬ TA g (.slice vbA S.book.length vbc) w.heap.size) := Lib.hid (fun e => e.elim (fun e => by have h1 := World.ownsRow.lt HS.out.book.choose_spec.1 _ e; omega) (fun e => by have := HS.out.blk.lt; omega))
        have HEN5 := Lib.hid HE.out.one
        have HBL : Hid (S.book.length ≤ 1000000) := Lib.hid hbl
        have HXL := Lib.hid hxl
        have HXBY := Lib.hid hxb
        clear hxo hxl hxb
        go_wp2_with fail
        refine RF.regionL (vs := fun _ => undef) rfl (fun vs => ((sp g) :: (Value.agg #[Value.slice kA e.key.length kc, Value.slice nA e.nonce.length nc, Value.slice bA e.beside.length bc, Value.slice tA e.text.length tc, Value.slice sA e.sealed.length sc]) :: undef :: (Value.pointer (some ⟨w.heap.size, 0, none⟩)) :: (kstr at_) :: undef :: u6 :: u7 :: (Value.pointer (some ⟨w.heap.size, 0, none⟩)) :: (Value.slice kA e.key.length kc) :: (Value.pointer (some ⟨w.heap.size, 1, none⟩)) :: (Value.slice nA e.nonce.length nc) :: (kstr at_) :: (sp g) :: (Value.pointer (some ⟨g, 0, none⟩)) :: (Value.pointer (some ⟨g, 3, none⟩)) :: (Value.map (some pm)) :: (kstr at_) :: (Value.slice lA L.length lc) :: (Value.int IntKind.i64 (L.length : Int)) :: (Value.int IntKind.i64 (L.length : Int)) :: (Value.bool false) :: u22 :: u23 :: u24 :: u25 :: u26 :: u27 :: u28 :: u29 :: u30 :: u31 :: u32 :: u33 :: u34 :: u35 :: u36 :: u37 :: u38 :: u39 :: u40 :: u41 :: u42 :: u43 :: u44 :: u45 :: u46 :: u47 :: u48 :: (vsA 0) :: (vsA 1) :: (vsA 2) :: (vsA 3) :: (vsA 4) :: (vsA 5) :: (vsA 6) :: (vsA 7) :: (vsA 8) :: (vsA 9) :: (vsA 10) :: (vsA 11) :: (vsA 12) :: (vsA 13) :: (vsA 14) :: (vsA 15) :: (vsA 16) :: (vsA 17) :: (vs 0) :: (vs 1) :: (vs 2) :: (vs 3) :: (vs 4) :: (vs 5) :: (vs 6) :: (vs 7) :: (vs 8) :: (vs 9) :: []).toArray)
          (F11 g 2 139 5 (Value.slice vbA S.book.length vbc) S.book.length XS [.slice kA e.key.length kc, .slice nA e.nonce.length nc, .slice bA e.beside.length bc, .slice tA e.text.length tc, .slice sA e.sealed.length sc] wA) (fun vs wz => GA g 129 #[.bool S.ideal, .pointer (some ⟨pt, 0, none⟩), .slice vbA S.book.length vbc, .map (some pm), vk, .int .u64 (S.count : Int), .bool (S.reused || (E.take L.length).any (clash e)), .bool S.forged] 2 139 5 (Value.slice vbA S.book.length vbc) S.book.length XS wA (vs 7) (vs 10) wz) 10 rfl (by kernel_rfl) ?_ ?_ ?_
        · exact ⟨(Ext.refl _ wA).drew, fun _ => HRB.out, fun _ => HGA.out, fun e => (by unfold undef at e; cases e)⟩
        · refine ⟨⟨⟨⟨⟨⟨⟨⟨⟨⟨⟨trivial, ?_⟩, ?_⟩, ?_⟩, ?_⟩, ?_⟩, ?_⟩, ?_⟩, ?_⟩, ?_⟩, ?_⟩, ?_⟩
          · refine RF.Step.late ?_
            refine RF.Step.plain rfl rfl (fun vs wx hG hv hd K hK => ?_)
            have HG0 := Lib.hid hG
            clear hG
            go_simp
            have h4 := hK _ _ HG0.out rfl (fun _ _ h => h)
            first | exact h4 | (simpa only [RF.upd, Nat.reduceEqDiff, if_true, if_false, reduceIte] using h4) | (simp only [RF.upd, Nat.reduceEqDiff, if_true, if_false, reduceIte] at h4 ⊢; exact h4)
          · refine RF.Step.late ?_
            refine RF.Step.plain rfl rfl (fun vs wx hG hv hd K hK => ?_)
            have HG0 := Lib.hid hG
            clear hG
            go_simp
            have h4 := hK _ _ HG0.out rfl (fun _ _ h => h)
            first | exact h4 | (simpa only [RF.upd, Nat.reduceEqDiff, if_true, if_false, reduceIte] using h4) | (simp only [RF.upd, Nat.reduceEqDiff, if_true, if_false, reduceIte] at h4 ⊢; exact h4)
          · refine RF.Step.late ?_
            refine RF.Step.plain rfl rfl (fun vs wx hG hv hd K hK => ?_)
            have h0 : vs 1 = Value.pointer (some ⟨g, 0, none⟩) := by first | exact hd.1 | exact hd.2.1 | exact hd.2.2.1 | exact hd.2.2.2.1 | exact hd.2.2.2.2.1
            obtain ⟨gl, glx⟩ : g < wx.heap.size ∧ True := ⟨Nat.lt_of_lt_of_le HGA.out.lt hG.x.size, trivial⟩
            have HG0 := Lib.hid hG
            clear hG
            go_simp
            have h4 := hK _ _ HG0.out rfl (fun _ _ h => h)
            first | exact h4 | (simpa only [RF.upd, h0, Nat.reduceEqDiff, if_true, if_false, reduceIte] using h4) | (simp only [RF.upd, h0, Nat.reduceEqDiff, if_true, if_false, reduceIte] at h4 ⊢; exact h4)
          · refine RF.Step.late ?_
            refine RF.Step.plain rfl rfl (fun vs wx hG hv hd K hK => ?_)
            have h0 : vs 2 = Value.pointer (some ⟨g, 0, none⟩) := by first | exact hd.1 | exact hd.2.1 | exact hd.2.2.1 | exact hd.2.2.2.1 | exact hd.2.2.2.2.1
            obtain ⟨gl, glx⟩ : g < wx.heap.size ∧ True := ⟨Nat.lt_of_lt_of_le HGA.out.lt hG.x.size, trivial⟩
            have HG0 := Lib.hid hG
            clear hG
            go_simp
            have h4 := hK _ _ HG0.out rfl (fun _ _ h => h)
            first | exact h4 | (simpa only [RF.upd, h0, Nat.reduceEqDiff, if_true, if_false, reduceIte] using h4) | (simp only [RF.upd, h0, Nat.reduceEqDiff, if_true, if_false, reduceIte] at h4 ⊢; exact h4)
          · refine RF.StepL.plain rfl rfl rfl (fun vs wx hG hv hl hd K hK => ?_)
            have h0 : vs 3 = Value.pointer (some ⟨g, 2, none⟩) := by first | exact hd.1 | exact hd.2.1 | exact hd.2.2.1 | exact hd.2.2.2.1 | exact hd.2.2.2.2.1
            obtain ⟨gl, glx⟩ : g < wx.heap.size ∧ True := ⟨Nat.lt_of_lt_of_le HGA.out.lt hG.x.size, trivial⟩
            have cf := Blk.cell (hG.old hl) 2
            have HG0 := Lib.hid hG
            clear hG
            go_simp
            have h4 := hK _ _ HG0.out rfl (fun _ _ h => h)
            first | exact h4 | (simpa only [RF.upd, h0, Nat.reduceEqDiff, if_true, if_false, reduceIte] using h4) | (simp only [RF.upd, h0, Nat.reduceEqDiff, if_true, if_false, reduceIte] at h4 ⊢; exact h4)
          · refine RF.Step.late ?_
            refine RF.Step.plain rfl rfl (fun vs wx hG hv hd K hK => ?_)
            refine wp_load_row 139 (.tmp 3) rfl _ rfl _ _ _ _ (HBXA.out.ext hG.x HBXN.out) Try.underlying139 rfl size_entry ?_
            exact hK _ _ hG rfl (fun _ _ h => h)
          · refine RF.Step.late ?_
            refine RF.Step.plain rfl rfl (fun vs wx hG hv hd K hK => ?_)
            have h5 : vs 5 = Value.agg ([.slice kA e.key.length kc, .slice nA e.nonce.length nc, .slice bA e.beside.length bc, .slice tA e.text.length tc, .slice sA e.sealed.length sc]).toArray := by first | exact hd.1 | exact hd.2.1 | exact hd.2.2.1 | exact hd.2.2.2.1 | exact hd.2.2.2.2.1
            have HG0 := Lib.hid hG
            clear hG
            go_simp
            have hxa : Ext No wx (wx.alloc (.cells ([.slice kA e.key.length kc, .slice nA e.nonce.length nc, .slice bA e.beside.length bc, .slice tA e.text.length tc, .slice sA e.sealed.length sc]).toArray 139)) := (Ext.refl No wx).alloc _
            have h4 := hK (.slice (some ⟨wx.heap.size, 0, none⟩) 1 1) (wx.alloc (.cells ([.slice kA e.key.length kc, .slice nA e.nonce.length nc, .slice bA e.beside.length bc, .slice tA e.text.length tc, .slice sA e.sealed.length sc]).toArray 139)) (HG0.out.no hxa) ⟨wx.heap.size, HG0.out.x.size, rfl, Blk.new _ _ _⟩ (fun j _ h => F11.no hxa j _ h)
            first | exact h4 | (simpa only [RF.upd, h5, Nat.reduceEqDiff, if_true, if_false, reduceIte] using h4) | (simp only [RF.upd, h5, Nat.reduceEqDiff, if_true, if_false, reduceIte] at h4 ⊢; exact h4)
          · refine RF.StepL.plain rfl rfl rfl (fun vs wx hG hv hl hd K hK => ?_)
            have h4 : vs 4 = Value.slice vbA S.book.length vbc := by first | exact hd.1 | exact hd.2.1 | exact hd.2.2.1 | exact hd.2.2.2.1 | exact hd.2.2.2.2.1
            obtain ⟨bb, hbb, h6, hbk⟩ : FB 139 [.slice kA e.key.length kc, .slice nA e.nonce.length nc, .slice bA e.beside.length bc, .slice tA e.text.length tc, .slice sA e.sealed.length sc] wA (vs 6) wx := by first | exact hd.1 | exact hd.2.1 | exact hd.2.2.1 | exact hd.2.2.2.1 | exact hd.2.2.2.2.1
            refine wp_app (.tmp 71) (.tmp 73) _ rfl 0 139 (.agg #[.slice none 0 0, .slice none 0 0, .slice none 0 0, .slice none 0 0, .slice none 0 0]) 5 120 Try.underlying126 info_entry rfl (by omega) (Value.slice vbA S.book.length vbc) S.book.length XS (by show vs 4 = _; exact h4) (hG.own hv) Any _ 1 [.slice kA e.key.length kc, .slice nA e.nonce.length nc, .slice bA e.beside.length bc, .slice tA e.text.length tc, .slice sA e.sealed.length sc] (by show vs 6 = _; exact h6) (sl_rec hbk rfl) (HEN5.out) (by have := HBL.out; unfold maxLen; omega) (by have := HBL.out; omega) (Nat.zero_le _) ?_
            intro v' w' ho hg hb
            obtain ⟨k1, k2, k3⟩ := hG.app (news := [.slice kA e.key.length kc, .slice nA e.nonce.length nc, .slice bA e.beside.length bc, .slice tA e.text.length tc, .slice sA e.sealed.length sc]) (by decide) HRB.out HGA.out ho hg hb hl
            exact hK v' w' k1 k2 (fun j hj h => F11.app k3 j hj _ h)
          · refine RF.Step.late ?_
            refine RF.Step.plain rfl rfl (fun vs wx hG hv hd K hK => ?_)
            have h0 : vs 0 = Value.pointer (some ⟨g, 0, none⟩) := by first | exact hd.1 | exact hd.2.1 | exact hd.2.2.1 | exact hd.2.2.2.1 | exact hd.2.2.2.2.1
            obtain ⟨gl, glx⟩ : g < wx.heap.size ∧ True := ⟨Nat.lt_of_lt_of_le HGA.out.lt hG.x.size, trivial⟩
            have HG0 := Lib.hid hG
            clear hG
            go_simp
            have h4 := hK _ _ HG0.out rfl (fun _ _ h => h)
            first | exact h4 | (simpa only [RF.upd, h0, Nat.reduceEqDiff, if_true, if_false, reduceIte] using h4) | (simp only [RF.upd, h0, Nat.reduceEqDiff, if_true, if_false, reduceIte] at h4 ⊢; exact h4)
          · refine RF.Step.late ?_
            refine RF.Step.plain rfl rfl (fun vs wx hG hv hd K hK => ?_)
            have h0 : vs 8 = Value.pointer (some ⟨g, 0, none⟩) := by first | exact hd.1 | exact hd.2.1 | exact hd.2.2.1 | exact hd.2.2.2.1 | exact hd.2.2.2.2.1
            obtain ⟨gl, glx⟩ : g < wx.heap.size ∧ True := ⟨Nat.lt_of_lt_of_le HGA.out.lt hG.x.size, trivial⟩
            have HG0 := Lib.hid hG
            clear hG
            go_simp
            have h4 := hK _ _ HG0.out rfl (fun _ _ h => h)
            first | exact h4 | (simpa only [RF.upd, h0, Nat.reduceEqDiff, if_true, if_false, reduceIte] using h4) | (simp only [RF.upd, h0, Nat.reduceEqDiff, if_true, if_false, reduceIte] at h4 ⊢; exact h4)
          · refine RF.Step.late ?_
            refine RF.Step.plain rfl rfl (fun vs wx hG hv hd K hK => ?_)
            have h7 : FP 139 5 (Value.slice vbA S.book.length vbc) S.book.length XS [.slice kA e.key.length kc, .slice nA e.nonce.length nc, .slice bA e.beside.length bc, .slice tA e.text.length tc, .slice sA e.sealed.length sc] wA (vs 7) wx := by first | exact hd.1 | exact hd.2.1 | exact hd.2.2.1 | exact hd.2.2.2.1 | exact hd.2.2.2.2.1
            have h9 : vs 9 = Value.pointer (some ⟨g, 2, none⟩) := by first | exact hd.1 | exact hd.2.1 | exact hd.2.2.1 | exact hd.2.2.2.1 | exact hd.2.2.2.2.1
            have ob := hG.old hv
            have q0 := Blk.cell ob 2
            have q1 := Blk.frozen ob 2
            have q2 := ob.lt
            obtain ⟨k1, k2, k3⟩ := hG.put (by decide) HGA.out h7 hv
            have HK1 := Lib.hid k1
            have HK2 := Lib.hid k2
            have HK3 := Lib.hid k3
            obtain ⟨A7, c7, e7, -⟩ := ownsRow_slice h7.1
            clear hG ob k1 k2 k3 h7
            go_simp
            have h4 := hK (.bool true) (wx.setCell ⟨g, 2, none⟩ (vs 7)) HK1.out rfl (fun j hj h => F11.put HK2.out HK3.out j hj vs rfl h)
            first | exact h4 | (simpa only [RF.upd, h9, e7, Nat.reduceEqDiff, if_true, if_false, reduceIte] using h4) | (simp only [RF.upd, h9, e7, Nat.reduceEqDiff, if_true, if_false, reduceIte] at h4 ⊢; exact h4)
        · intro vsB wB hG hF
          have h7 := hF 7 (by decide)
          have h10 : vsB 10 = Value.bool true := hF 10 (by decide)
          have HXB := Lib.hid hG.x
          have HGB := Lib.hid (hG.new_ h10)
          have HPB := Lib.hid h7
          have HELN : Hid (L.length = E.length) := Lib.hid (by rw [← HL.out, ← HEE.out]; exact places_len _ _)
          clear hF hG h7 h10
          go_wp2
          go_end0
          exact ⟨rfl, note_done (R := (S.reused || (E.take L.length).any (clash e))) HS.out HX1.out HN.out.x HN.out.s (by rw [HELN.out, List.take_length]) HEE.out HAT.out HL.out HLV.out HLR.out HXA.out HMA.out HRA.out HXB.out HGB.out HXL.out HXBY.out HRB.out HPB.out ((HE.out.ext_no HX1.out).ext HN.out.x (fun b hb e => u8_ne hb HS1.out.blk (by decide) e))⟩
end Go.Proofs.Ytmbbkkonmkbnoaa
