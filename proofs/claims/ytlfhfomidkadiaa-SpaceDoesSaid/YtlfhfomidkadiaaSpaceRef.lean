/- The reference of chapter 15, as it is printed, answers as the functions of the row. Plain Lean. -/
import Derived.Test.YtlfhfomidkadiaaSpaceFn
import Derived.Test.YtlfhfomidkadiaaPSpaceDoesx4
import Derived.Test.YtlfhfomidkadiaaRefNew15
set_option linter.unusedVariables false
set_option linter.unusedSimpArgs false
namespace Go.Proofs.Ytlfhfomidkadiaa
open Go.RowKit Go.Deep PSpaceDoes Go.Proofs.YtlfhfomidkadiaaW.PrintWords

theorem w64 {i : Int} (h0 : -9223372036854775808 ≤ i) (h1 : i ≤ 9223372036854775807) : wrap64 i = i := by unfold wrap64; omega
theorem rd_get {L : List Bool} {i : Nat} (h : i < L.length) : rdOf false L (i : Int) = L[i] := by
  unfold rdOf; rw [Int.toNat_natCast]; simp [h]

theorem rFree_l (L : List Bool) (first : Int) (hL : L.length ≤ 100000) : ∀ (d k i z : Nat), i + d = L.length → d < k → z ≤ i → deedboxref15_Free.l0 k z i first L = some (((z + freeOf (L.drop i) : Nat)) : Int) := by
  intro d
  induction d with
  | zero =>
    intro k i z hi hk hz
    obtain ⟨k, rfl⟩ : ∃ m, k = m + 1 := ⟨k - 1, by omega⟩
    simp only [deedboxref15_Free.l0]
    rw [if_neg (by omega), List.drop_of_length_le (by omega)]
    simp [freeOf]
  | succ d ih =>
    intro k i z hi hk hz
    obtain ⟨k, rfl⟩ : ∃ m, k = m + 1 := ⟨k - 1, by omega⟩
    have hlt : i < L.length := by omega
    simp only [deedboxref15_Free.l0]
    rw [if_pos (by omega), if_pos (by omega), rd_get hlt, w64 (i := (i : Int) + 1) (by omega) (by omega), List.drop_eq_getElem_cons hlt]
    have e1 : ((i : Int) + 1) = ((i + 1 : Nat) : Int) := by omega
    have e2 : ((z : Int) + 1) = ((z + 1 : Nat) : Int) := by omega
    cases hv : L[i]
    · rw [if_neg (by decide), w64 (i := (z : Int) + 1) (by omega) (by omega), e1, e2, ih k (i + 1) (z + 1) (by omega) (by omega) (by omega)]
      simp [freeOf]; omega
    · rw [if_pos rfl, e1, ih k (i + 1) z (by omega) (by omega) (by omega)]
      simp [freeOf]
theorem rFree_f (L : List Bool) (first : Int) (hL : L.length ≤ 100000) (k : Nat) (hk : L.length < k) : deedboxref15_Free.f k first L = some ((freeOf L : Nat) : Int) := by
  unfold deedboxref15_Free.f
  have := rFree_l L first hL L.length k 0 0 (by omega) hk (by omega)
  simpa using this

/-- Is each block of a run as it should be? -/
def allB (L : List Bool) (a i : Nat) (t : Bool) : Bool := decide (∀ x, x < i → L[a + x]? = some t)
theorem rAll_l (L : List Bool) (first : Int) (a m : Nat) (t : Bool) (ham : a + m ≤ L.length) (hL : L.length ≤ 100000) : ∀ (d k i : Nat), i + d = m → d < k → deedboxref15_all.l0 k a m t i first L = some (decide (∀ x, x < m → i ≤ x → L[a + x]? = some t)) := by
  intro d
  induction d with
  | zero =>
    intro k i hi hk
    obtain ⟨k, rfl⟩ : ∃ m, k = m + 1 := ⟨k - 1, by omega⟩
    simp only [deedboxref15_all.l0]
    rw [if_neg (by omega), decide_eq_true (fun x h1 h2 => by omega)]
  | succ d ih =>
    intro k i hi hk
    obtain ⟨k, rfl⟩ : ∃ m, k = m + 1 := ⟨k - 1, by omega⟩
    have hlt : a + i < L.length := by omega
    have e0 : wrap64 ((a : Int) + (i : Int)) = ((a + i : Nat) : Int) := by rw [w64 (by omega) (by omega)]; omega
    have e1 : wrap64 ((i : Int) + 1) = ((i + 1 : Nat) : Int) := by rw [w64 (by omega) (by omega)]; omega
    simp only [deedboxref15_all.l0]
    rw [e0, e1, if_pos (by omega), if_pos (by omega), if_pos (by omega), rd_get hlt]
    by_cases hv : L[a + i] = t
    · have hb : (L[a + i] != t) = false := by simp [hv]
      rw [hb, if_neg (by decide), ih k (i + 1) (by omega) (by omega)]
      congr 1
      refine decide_eq_decide.2 ⟨fun h x h1 h2 => ?_, fun h x h1 h2 => h x h1 (by omega)⟩
      by_cases c : x = i
      · subst c; rw [List.getElem?_eq_getElem hlt, hv]
      · exact h x h1 (by omega)
    · have hb : (L[a + i] != t) = true := by simp [hv]
      rw [hb, if_pos rfl, decide_eq_false]
      intro h
      have := h i (by omega) (Nat.le_refl _)
      rw [List.getElem?_eq_getElem hlt] at this
      injection this with this
      exact hv this
theorem rAll_f (L : List Bool) (first : Int) (a m : Nat) (t : Bool) (ham : a + m ≤ L.length) (hL : L.length ≤ 100000) (k : Nat) (hk : m < k) : deedboxref15_all.f k first L a m t = some (allB L a m t) := by
  unfold deedboxref15_all.f allB
  have := rAll_l L first a m t ham hL m k 0 (by omega) hk
  rw [show ((0 : Int)) = ((0 : Nat) : Int) from rfl, this]
  congr 1
  exact decide_eq_decide.2 ⟨fun h x hx => h x hx (Nat.zero_le _), fun h x hx _ => h x hx⟩
theorem all_contains (L : List Bool) (a m : Nat) (t : Bool) (ham : a + m ≤ L.length) : allB L a m (!t) = !((L.drop a).take m).contains t := by
  rw [Bool.eq_iff_iff, Bool.not_eq_true']
  unfold allB
  rw [decide_eq_true_eq, ← Bool.not_eq_true, List.contains_iff_mem]
  constructor
  · intro h hm
    obtain ⟨j, hj, he⟩ := List.mem_iff_getElem.1 hm
    have hl : ((L.drop a).take m).length ≤ m := List.length_take_le _ _
    have h2 : ((L.drop a).take m)[j]? = some t := by rw [List.getElem?_eq_getElem hj, he]
    rw [List.getElem?_take_of_lt (by omega), List.getElem?_drop, h j (by omega)] at h2
    cases t <;> cases h2
  · intro h x hx
    have hlt : a + x < L.length := by omega
    rw [List.getElem?_eq_getElem hlt]
    congr 1
    have hne : L[a + x] ≠ t := by
      intro e
      apply h
      refine List.mem_iff_getElem?.2 ⟨x, ?_⟩
      rw [List.getElem?_take_of_lt hx, List.getElem?_drop, List.getElem?_eq_getElem hlt, e]
    revert hne
    cases L[a + x] <;> cases t <;> simp

theorem rSet_l (L : List Bool) (first f2 : Int) (a m : Nat) (t : Bool) (ham : a + m ≤ L.length) (hL : L.length ≤ 100000) : ∀ (d k i : Nat) (out : List Bool), i + d = L.length → d < k → out = (fillRun L a m t).take i →
    deedboxref15_set.l0 k a m t i first L f2 out = some (f2, fillRun L a m t, 0) := by
  intro d
  induction d with
  | zero =>
    intro k i out hi hk ho
    obtain ⟨k, rfl⟩ : ∃ m, k = m + 1 := ⟨k - 1, by omega⟩
    simp only [deedboxref15_set.l0]
    rw [if_neg (by omega), ho, List.take_of_length_le (by rw [fillRun_length ham]; omega)]
  | succ d ih =>
    intro k i out hi hk ho
    obtain ⟨k, rfl⟩ : ∃ m, k = m + 1 := ⟨k - 1, by omega⟩
    have hlt : i < L.length := by omega
    have hlo : out.length = i := by rw [ho, List.length_take, fillRun_length ham]; omega
    have e0 : wrap64 ((a : Int) + (m : Int)) = ((a + m : Nat) : Int) := by rw [w64 (by omega) (by omega)]; omega
    have e1 : wrap64 ((i : Int) + 1) = ((i + 1 : Nat) : Int) := by rw [w64 (by omega) (by omega)]; omega
    have hg := fillRun_get (t := t) ham hlt
    have hnext : ∀ v, (fillRun L a m t)[i]? = some v → out ++ [v] = (fillRun L a m t).take (i + 1) := by
      intro v hv
      rw [List.take_add_one, hv, ho]; rfl
    simp only [deedboxref15_set.l0]
    rw [e0, e1, if_pos (by omega)]
    by_cases c1 : a ≤ i
    · rw [if_pos (by omega)]
      by_cases c2 : i < a + m
      · rw [if_pos (by omega), if_pos (by omega)]
        rw [if_pos ⟨c1, c2⟩] at hg
        exact ih k (i + 1) _ (by omega) (by omega) (hnext _ hg)
      · rw [if_neg (by omega), if_pos (by omega), if_pos (by omega), rd_get hlt]
        rw [if_neg (by omega)] at hg
        exact ih k (i + 1) _ (by omega) (by omega) (hnext _ hg)
    · rw [if_neg (by omega), if_pos (by omega), if_pos (by omega), rd_get hlt]
      rw [if_neg (by omega)] at hg
      exact ih k (i + 1) _ (by omega) (by omega) (hnext _ hg)
theorem rSet_f (L : List Bool) (first : Nat) (at_ n : Int) (t : Bool) (wrong : Int) (hL : L.length ≤ 100000) (h0 : -9223372036854775808 ≤ n) (k : Nat) (hk : L.length + 1 < k) :
    deedboxref15_set.f k first L at_ n t wrong = some ((first : Int), (setF first L at_ n t wrong).1, (setF first L at_ n t wrong).2) := by
  obtain ⟨k, rfl⟩ : ∃ m, k = m + 1 := ⟨k - 1, by omega⟩
  unfold deedboxref15_set.f setF
  simp only [deedboxref15_set.j0]
  by_cases c1 : n < 1
  · rw [if_pos c1, if_pos trivial, if_neg (by unfold okRun; omega)]
  rw [if_neg c1]
  by_cases c2 : n > (L.length : Int)
  · rw [if_pos c2, if_pos trivial, if_neg (by unfold okRun; omega)]
  rw [if_neg c2]
  by_cases c3 : at_ < (first : Int)
  · rw [if_pos c3, if_pos trivial, if_neg (by unfold okRun; omega)]
  rw [if_neg c3, w64 (by omega) (by omega)]
  by_cases c4 : at_ > (L.length : Int) - n
  · rw [decide_eq_true c4, if_pos rfl, if_neg (by unfold okRun; omega)]
  rw [decide_eq_false c4, if_neg (by decide), if_pos (show okRun first L at_ n by unfold okRun; omega)]
  obtain ⟨a, rfl⟩ : ∃ a : Nat, at_ = (a : Int) := ⟨at_.toNat, by omega⟩
  obtain ⟨m, rfl⟩ : ∃ m : Nat, n = (m : Int) := ⟨n.toNat, by omega⟩
  rw [Int.toNat_natCast, Int.toNat_natCast, rAll_f L first a m (!t) (by omega) hL k (by omega), Option.bind_some, all_contains L a m t (by omega)]
  cases hc : ((L.drop a).take m).contains t
  · rw [Bool.not_false, if_pos rfl, if_neg (by decide)]
    have := rSet_l L first first a m t (by omega) hL L.length k 0 [] (by omega) (by omega) (by simp)
    simpa using this
  · simp
theorem rMark_f (L : List Bool) (first : Nat) (at_ n : Int) (hL : L.length ≤ 100000) (h0 : -9223372036854775808 ≤ n) (k : Nat) (hk : L.length + 1 < k) :
    deedboxref15_Mark.f k first L at_ n = some ((first : Int), (setF first L at_ n true 10).1, (setF first L at_ n true 10).2) := by
  unfold deedboxref15_Mark.f
  rw [rSet_f L first at_ n true 10 hL h0 k hk]; rfl
theorem rGive_f (L : List Bool) (first : Nat) (at_ n : Int) (hL : L.length ≤ 100000) (h0 : -9223372036854775808 ≤ n) (k : Nat) (hk : L.length + 1 < k) :
    deedboxref15_Give.f k first L at_ n = some ((first : Int), (setF first L at_ n false 9).1, (setF first L at_ n false 9).2) := by
  unfold deedboxref15_Give.f
  rw [rSet_f L first at_ n false 9 hL h0 k hk]; rfl
theorem allB_run {L : List Bool} {a m : Nat} (h : a + m ≤ L.length) : allB L a m false = true ↔ runAt L m a := by
  unfold allB runAt
  rw [decide_eq_true_eq]
  exact ⟨fun h1 => ⟨h, h1⟩, fun h1 => h1.2⟩
theorem rTake_l (L : List Bool) (first : Nat) (m : Nat) (hf : Fixed first L) (hm : 1 ≤ m) (hmb : m ≤ 9223372036854775807) (hL : L.length ≤ 100000) : ∀ (d k i : Nat), i + d = L.length + 1 → 2 * d + L.length + 4 < k → (∀ a', a' < i → ¬ runAt L m a') →
    deedboxref15_Take.l0 k m i first L = some ((first : Int), (takeF L m).1, (takeF L m).2.1, (takeF L m).2.2) := by
  intro d
  induction d with
  | zero =>
    intro k i hi hk hb
    obtain ⟨k, rfl⟩ : ∃ m, k = m + 1 := ⟨k - 1, by omega⟩
    obtain ⟨k, rfl⟩ : ∃ m, k = m + 1 := ⟨k - 1, by omega⟩
    have hno : ∀ a, ¬ runAt L m a := fun a ha => hb a (by have := ha.1; omega) ha
    have ht : takeF L m = (L, 0, 7) := by unfold takeF; rw [if_neg (by omega), Int.toNat_natCast, firstRun_none hno]
    rw [ht]
    simp only [deedboxref15_Take.l0, deedboxref15_Take.j1]
    split
    · rw [decide_eq_false (by rw [w64 (by omega) (by omega)]; omega), if_neg (by decide)]
    · rw [if_neg (by decide)]
  | succ d ih =>
    intro k i hi hk hb
    obtain ⟨k, rfl⟩ : ∃ m, k = m + 1 := ⟨k - 1, by omega⟩
    obtain ⟨k, rfl⟩ : ∃ m, k = m + 1 := ⟨k - 1, by omega⟩
    simp only [deedboxref15_Take.l0, deedboxref15_Take.j1]
    by_cases c1 : (m : Int) ≤ (L.length : Int)
    · rw [if_pos c1, w64 (by omega) (by omega)]
      by_cases c2 : (i : Int) ≤ (L.length : Int) - (m : Int)
      · rw [decide_eq_true c2, if_pos rfl, rAll_f L first i m false (by omega) hL k (by omega), Option.bind_some]
        by_cases hr : runAt L m i
        · rw [if_pos ((allB_run (by omega)).2 hr), rMark_f L first i m hL (by omega) k (by omega)]
          have hok := hr.ok hm hf
          have hfree := hr.free
          have hs : setF first L i m true 10 = (fillRun L i m true, 0) := by
            unfold setF
            rw [if_pos hok, Int.toNat_natCast, Int.toNat_natCast, if_neg (fun h => hfree (List.contains_iff_mem.1 h))]
          have ht : takeF L m = (fillRun L i m true, (i : Int), 0) := by unfold takeF; rw [if_neg (by omega), Int.toNat_natCast, firstRun_some hr hb]
          rw [hs, ht]; rfl
        · rw [if_neg (fun h => hr ((allB_run (by omega)).1 h)), w64 (i := (i : Int) + 1) (by omega) (by omega), show (i : Int) + 1 = ((i + 1 : Nat) : Int) by omega]
          refine ih k (i + 1) (by omega) (by omega) (fun a' ha => ?_)
          by_cases c : a' = i
          · subst c; exact hr
          · exact hb a' (by omega)
      · have hno : ∀ a, ¬ runAt L m a := fun a ha => hb a (by have := ha.1; omega) ha
        have ht : takeF L m = (L, 0, 7) := by unfold takeF; rw [if_neg (by omega), Int.toNat_natCast, firstRun_none hno]
        rw [decide_eq_false c2, if_neg (by decide), ht]
    · have hno : ∀ a, ¬ runAt L m a := fun a ha => by have := ha.1; omega
      have ht : takeF L m = (L, 0, 7) := by unfold takeF; rw [if_neg (by omega), Int.toNat_natCast, firstRun_none hno]
      rw [if_neg c1, if_neg (by decide), ht]
theorem rTake_f (L : List Bool) (first : Nat) (n : Int) (hf : Fixed first L) (hmb : n ≤ 9223372036854775807) (hL : L.length ≤ 100000) (k : Nat) (hk : 3 * L.length + 10 < k) :
    deedboxref15_Take.f k first L n = some ((first : Int), (takeF L n).1, (takeF L n).2.1, (takeF L n).2.2) := by
  unfold deedboxref15_Take.f
  by_cases c : n < 1
  · rw [if_pos c]; unfold takeF; rw [if_pos c]
  · rw [if_neg c]
    obtain ⟨m, rfl⟩ : ∃ m : Nat, n = (m : Int) := ⟨n.toNat, by omega⟩
    exact rTake_l L first m hf (by omega) (by omega) hL (L.length + 1) k 0 (by omega) (by omega) (fun a' h => absurd h (Nat.not_lt_zero _))

theorem rNew_l (n first : Nat) (f2 : Int) (hn : n ≤ 4096) (hf : first ≤ n) : ∀ (d k i : Nat) (out : List Bool), i + d = n → d < k → out = (fillRun (List.replicate n false) 0 first true).take i →
    deedboxref15_New.l0 k n first i f2 out = some (f2, fillRun (List.replicate n false) 0 first true, 0) := by
  intro d
  have e : (List.replicate n false).length = n := List.length_replicate ..
  have e2 : (fillRun (List.replicate n false) 0 first true).length = n := by rw [fillRun_length (by rw [e]; omega), e]
  induction d with
  | zero =>
    intro k i out hi hk ho
    obtain ⟨k, rfl⟩ : ∃ m, k = m + 1 := ⟨k - 1, by omega⟩
    simp only [deedboxref15_New.l0]
    rw [if_neg (by omega), ho, List.take_of_length_le (by rw [e2]; omega)]
  | succ d ih =>
    intro k i out hi hk ho
    obtain ⟨k, rfl⟩ : ∃ m, k = m + 1 := ⟨k - 1, by omega⟩
    have hlo : out.length = i := by rw [ho, List.length_take, e2]; omega
    have e1 : wrap64 ((i : Int) + 1) = ((i + 1 : Nat) : Int) := by rw [w64 (by omega) (by omega)]; omega
    have hg := fillRun_get (t := true) (L := List.replicate n false) (a := 0) (i := first) (k := i) (by rw [e]; omega) (by rw [e]; omega)
    simp only [deedboxref15_New.l0]
    rw [e1, if_pos (by omega), if_pos (by omega)]
    refine ih k (i + 1) _ (by omega) (by omega) ?_
    rw [List.take_add_one, hg, ho]
    congr 1
    by_cases c : i < first
    · rw [if_pos (by omega), decide_eq_true (by omega)]; rfl
    · rw [if_neg (by omega), decide_eq_false (by omega), List.getElem_replicate]; rfl
theorem rNew_ok (n first : Nat) (h : okNew n first) (k : Nat) (hk : n + 1 < k) : deedboxref15_New.f k n first = some ((first : Int), fillRun (List.replicate n false) 0 first true, 0) := by
  obtain ⟨h1, h2, h3, h4⟩ := h
  obtain ⟨k, rfl⟩ : ∃ m, k = m + 1 := ⟨k - 1, by omega⟩
  unfold deedboxref15_New.f
  rw [if_neg (by omega), if_neg (by omega), if_neg (by omega), decide_eq_false (by omega)]
  simp only [deedboxref15_New.j0]
  rw [if_neg (by decide)]
  have := rNew_l n first first (by omega) (by omega) n k 0 [] (by omega) (by omega) (by simp)
  simpa using this
theorem rNew_no (n first : Int) (h : ¬ okNew n first) : deedboxref15_New.f 1 n first = some (0, [], 2) := by
  unfold okNew at h
  unfold deedboxref15_New.f
  simp only [deedboxref15_New.j0]
  by_cases c1 : n < 1
  · rw [if_pos c1, if_pos trivial]
  rw [if_neg c1]
  by_cases c2 : n > 4096
  · rw [if_pos c2, if_pos trivial]
  rw [if_neg c2]
  by_cases c3 : first < 0
  · rw [if_pos c3, if_pos trivial]
  rw [if_neg c3, decide_eq_true (by omega), if_pos rfl]
end Go.Proofs.Ytlfhfomidkadiaa
