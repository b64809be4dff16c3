/- Chapter 2's reference: its functions, run. -/
import Derived.Test.YtljddghamgjfbaaRefShaP
import Derived.Test.YtljddghamgjfbaaShaOf
import Derived.StillTailTactics
set_option linter.unusedVariables false
set_option linter.unusedSimpArgs false
namespace Go.Proofs.Ytljddghamgjfbaa
open Go.RowKit Go.Deep Go.Proofs.YtljddghamgjfbaaW.PrintWords Sh Rs

/-- A row of words, wherever it lies. -/
def Ws (w : World) (v : Value) (L : List Nat) : Prop := Sl w Any 1 v L.length (u32s L)
def Own32 (w : World) (base : Nat) (v : Value) (L : List Nat) : Prop := w.ownsRow base 104 1 v L.length (u32s L)
theorem Ws.no {w w' : World} {v : Value} {L : List Nat} (h : Ws w v L) (hx : Ext No w w') : Ws w' v L := Sl.ext_no h hx
theorem Own32.ws {w : World} {base : Nat} {v : Value} {L : List Nat} (h : Own32 w base v L) : Ws w v L := (Sl.of_own h).mono fun _ _ => trivial
theorem Own32.no {w w' : World} {base : Nat} {v : Value} {L : List Nat} (h : Own32 w base v L) (hx : Ext No w w') : Own32 w' base v L := by
  obtain ⟨h1, h2⟩ := h
  refine ⟨h1, ?_⟩
  rcases h2 with h2 | ⟨g, cap, cur, hv, hg, hh, r⟩
  · exact .inl h2
  · exact .inr ⟨g, cap, cur, hv, hg, (hx.block g (Array.getElem?_eq_some_iff.1 hh).1 (fun h => h)).trans hh, r⟩
theorem Ws.slice {w : World} {v : Value} {L : List Nat} (h : Ws w v L) : ∃ A c, v = .slice A L.length c ∧ L.length ≤ c ∧ c ≤ maxLen ∧ ∃ b off, ∀ k, k < L.length → A = some ⟨b, off, none⟩ ∧ b < w.heap.size ∧ w.cell? ⟨b, off + k, none⟩ = some (.int .u32 ((L.getD k 0 : Nat) : Int)) := by
  obtain ⟨h1, A, c, hv, hc, hm, hn⟩ := h
  refine ⟨A, c, hv, hc, hm, ?_⟩
  rcases Nat.eq_zero_or_pos L.length with h0 | h0
  · exact ⟨0, 0, fun k hk => absurd hk (by omega)⟩
  · obtain ⟨b, off, hA, hF, hcell⟩ := hn h0
    refine ⟨b, off, fun k hk => ?_⟩
    have e := u32s_get L k hk
    rw [List.getElem?_toArray] at e
    have := hcell k _ e
    exact ⟨hA, World.block_lt_of_cell? w _ this, this⟩
theorem u32s_i32 (l : List Nat) : u32s l = (i32 l).map (Value.int .u32) := by simp [u32s, u32v, i32]
theorem i32_get {l : List Nat} {k : Nat} (h : k < l.length) : (i32 l)[k]? = some ((l[k] : Nat) : Int) := by simp [i32, h]
theorem Ws.C {w : World} {A : Option Addr} {n c : Nat} {l : List Nat} (h : Ws w (.slice A n c) l) : n = (i32 l).length ∧ (i32 l).length ≤ c ∧ Kd.C (Kd.int .u32) w A (i32 l).length (i32 l) := by
  obtain ⟨h1, A', c', e, h2, h3, h4⟩ := h
  injection e with e1 e2 e3
  subst e1 e3
  rw [i32_length]
  refine ⟨e2, h2, by rw [i32_length], by unfold maxLen at h3; omega, fun h0 => ?_⟩
  obtain ⟨b, off, hA, _, hc⟩ := h4 h0
  refine ⟨⟨b, off, none⟩, hA, fun j p hp => ⟨[.int .u32 p], rfl, rfl, fun i u hu => ?_⟩⟩
  have hj : j < (i32 l).length := (List.getElem?_eq_some_iff.1 hp).1
  cases i with
  | zero =>
    have : Value.int .u32 p = u := by simpa using hu
    subst this
    rw [show (⟨b, off, none⟩ : Addr).add (j * (Kd.int .u32).sz + 0) = ⟨b, off + j, none⟩ by show Addr.add _ (j * 1 + 0) = _; unfold Addr.add; split <;> simp_all]
    refine hc j _ ?_
    rw [u32s_i32, List.getElem?_map, hp]; rfl
  | succ i => simp at hu
theorem Own32.of_R {w : World} {base : Nat} {ok : Nat → Prop} {v : Value} {l : List Nat} (h : Kd.R (Kd.int .u32) 104 w base ok v (i32 l)) : Own32 w base v l := by
  obtain ⟨_, inner, ho, hr⟩ := h
  have hl : inner.length = l.length := by have := hr.1; rw [i32_length] at this; simpa [Kd.int, Kd.scalar] using this
  have : inner = u32s l := by
    apply List.ext_getElem?
    intro j
    by_cases hj : j < l.length
    · have h2 := hr.2 j _ (i32_get hj)
      have h3 : (inner.drop (j * 1)).take 1 = [Value.int .u32 ((l[j] : Nat) : Int)] := h2
      rw [Nat.mul_one, List.drop_eq_getElem_cons (by omega : j < inner.length)] at h3
      have h5 := congrArg List.head? h3
      rw [List.take_succ_cons] at h5
      have h4 := Option.some.inj h5
      rw [List.getElem?_eq_getElem (by omega : j < inner.length), h4]
      simp [u32s, u32v, hj]
    · rw [List.getElem?_eq_none (by omega), List.getElem?_eq_none (by rw [u32s_length]; omega)]
  rw [i32_length, this] at ho
  exact ho
theorem rWords_any (v : Value) (l : List UInt8) (w : World) (h : Bs w Any v l) (hl : l.length = 64) : Calls Try.prog 78 #[v] w fun e w' => ∃ v', e = .returned v' ∧ Ws w' v' (wl l 64) ∧ Ext No w w' := by
  obtain ⟨A, c, rfl, _⟩ := h.slice
  obtain ⟨h1, h2, h3⟩ := h.C
  rw [h1]
  refine (PMacKeys.deedboxref02_words.calls 100 A c (i8 l) (i32 (wl l 64)) w h3 h2 (words_f l hl)).mono ?_
  rintro e w' ⟨v', rfl, hr, hb⟩
  exact ⟨v', rfl, (Own32.of_R hr).ws, Ext.of_below hb⟩
theorem rRound_any (v : Value) (V : V8) (k x : Nat) (w : World) (h : Ws w v (L8 V)) (o : V.Ok) : Calls Try.prog 79 #[v, .int .u32 (k : Int), .int .u32 (x : Int)] w fun e w' => ∃ v', e = .returned v' ∧ Ws w' v' (L8 (rnd k x V)) ∧ Ext No w w' := by
  obtain ⟨A, c, rfl, _⟩ := h.slice
  obtain ⟨h1, h2, h3⟩ := h.C
  rw [h1]
  refine (PMacKeys.deedboxref02_round.calls A c (i32 (L8 V)) k x (i32 (L8 (rnd k x V))) w h3 h2 (round_f V o k x)).mono ?_
  rintro e w' ⟨v', rfl, hr, hb⟩
  exact ⟨v', rfl, (Own32.of_R hr).ws, Ext.of_below hb⟩
theorem rPadded_any (v : Value) (l : List UInt8) (w : World) (h : Bs w Any v l) (hl : l.length < 1000000) : Calls Try.prog 77 #[v] w fun e w' => ∃ v', e = .returned v' ∧ Bs w' Any v' (l ++ padl l) ∧ Ext No w w' := by
  obtain ⟨A, c, rfl, _⟩ := h.slice
  obtain ⟨h1, h2, h3⟩ := h.C
  rw [h1]
  refine (PMacKeys.deedboxref02_Padded.calls 100 A c (i8 l) (i8 (l ++ padl l)) w h3 h2 (padded_f l hl)).mono ?_
  rintro e w' ⟨v', rfl, hr, hb⟩
  exact ⟨v', rfl, (Own.of_R hr).any, Ext.of_below hb⟩
theorem rK_any (w : World) : Calls Try.prog 76 #[] w fun e w' => ∃ v', e = .returned v' ∧ Ws w' v' kk ∧ Ext No w w' := by
  refine (PMacKeys.deedboxref02_constants.calls (i32 kk) w constants_f).mono ?_
  rintro e w' ⟨v', rfl, hr, hb⟩
  exact ⟨v', rfl, (Own32.of_R hr).ws, Ext.of_below hb⟩
end Go.Proofs.Ytljddghamgjfbaa
