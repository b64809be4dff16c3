/- Chapter 5's reference: its product is the ring's (pure). -/
import Derived.Test.YtljddghamgjfbaaFieldMath
import Derived.Test.YtljddghamgjfbaaRefP6
set_option linter.unusedVariables false
set_option linter.unusedSimpArgs false
namespace Go.Proofs.Ytljddghamgjfbaa
open Go.RowKit Go.Proofs.YtljddghamgjfbaaW.PrintWords Fm
namespace Rt

/-- A row of 128 bits. -/
def rw (f : Nat → Bool) : List Bool := (List.range 128).map f
def bl (e : G) : List Bool := rw fun i => e.getLsbD (127 - i)
theorem rw_length (f : Nat → Bool) : (rw f).length = 128 := by simp [rw]
theorem bl_length (e : G) : (bl e).length = 128 := rw_length _
theorem rw_get (f : Nat → Bool) {i : Nat} (h : i < 128) : (rw f)[i]? = some (f i) := by simp [rw, h]
theorem rw_congr {f g : Nat → Bool} (h : ∀ i, i < 128 → f i = g i) : rw f = rw g := by
  unfold rw; exact List.map_congr_left fun i hi => h i (List.mem_range.1 hi)
theorem rdOf_rw (f : Nat → Bool) {i : Nat} (h : i < 128) : rdOf false (rw f) (i : Int) = f i := by
  unfold rdOf; rw [Int.toNat_natCast, List.getD_eq_getElem?_getD, rw_get f h]; rfl
theorem rw_set (f : Nat → Bool) (k : Nat) (v : Bool) : (rw f).set k v = rw fun i => if i = k then v else f i := by
  apply List.ext_getElem?
  intro i
  rw [List.getElem?_set]
  by_cases hi : i < 128
  · rw [rw_get _ hi, rw_get _ hi, rw_length]
    by_cases hk : k = i
    · subst hk; simp [hi]
    · rw [if_neg hk, if_neg (fun h => hk h.symm)]
  · have h1 : (rw f)[i]? = none := List.getElem?_eq_none (by rw [rw_length]; omega)
    have h2 : (rw fun i => if i = k then v else f i)[i]? = none := List.getElem?_eq_none (by rw [rw_length]; omega)
    rw [h1, h2, rw_length]
    by_cases hk : k = i
    · rw [if_pos hk, if_neg (by omega)]
    · rw [if_neg hk]
theorem rep_rw : List.replicate 128 false = rw fun _ => false := by
  apply List.ext_getElem?
  intro i
  by_cases hi : i < 128
  · rw [rw_get _ hi, List.getElem?_replicate, if_pos hi]
  · rw [List.getElem?_eq_none (by rw [List.length_replicate]; omega), List.getElem?_eq_none (by rw [rw_length]; omega)]
theorem w1 {k : Nat} (h : k < 1000000) : wrap64 ((k : Int) + 1) = ((k + 1 : Nat) : Int) := by unfold wrap64; omega
theorem w16 {k : Nat} (h : k < 1000000) : wrap64 ((k : Int) + 16) = ((k + 16 : Nat) : Int) := by unfold wrap64; omega
theorem wm {k : Nat} (h : k < 1000000) (h1 : 1 ≤ k) : wrap64 ((k : Int) - 1) = ((k - 1 : Nat) : Int) := by unfold wrap64; omega
open PGcmSeals

theorem l1_all (x0 : List Bool) (g h : Nat → Bool) (x7 : Int) (m : Nat) : ∀ n k, k + n = 128 →
    deedboxref05_Times.l1 (n + 1 + m) x0 (rw fun i => if i < k then g i != h i else g i) (rw h) x7 (k : Int) = deedboxref05_Times.j2 m x0 (rw fun i => g i != h i) (rw h) x7
  | 0, k, e => by
    rw [show 0 + 1 + m = m + 1 by omega]
    simp only [deedboxref05_Times.l1]
    rw [if_neg (by omega)]
    congr 1
    exact rw_congr fun i hi => by rw [if_pos (by omega)]
  | n + 1, k, e => by
    rw [show n + 1 + 1 + m = (n + 1 + m) + 1 by omega]
    simp only [deedboxref05_Times.l1]
    rw [if_pos (by omega), if_pos (by omega), rw_length, rw_length, if_pos (by omega), if_pos (by omega), rdOf_rw _ (by omega), rdOf_rw _ (by omega), Int.toNat_natCast, rw_set, w1 (by omega), ← l1_all x0 g h x7 m n (k + 1) (by omega)]
    refine congrArg (fun z => deedboxref05_Times.l1 (n + 1 + m) x0 z (rw h) x7 ((k + 1 : Nat) : Int)) (rw_congr fun i hi => ?_)
    by_cases h1 : i = k
    · subst h1; rw [if_pos rfl, if_neg (by omega), if_pos (by omega)]
    · rw [if_neg h1]
      by_cases h2 : i < k
      · rw [if_pos h2, if_pos (by omega)]
      · rw [if_neg h2, if_neg (by omega)]

def after (m : Nat) (x0 x5 : List Bool) (x7 : Int) (x9 : Bool) (x10 : List Bool) : Option (List Bool) :=
  deedboxref05_Times.l0 m x0 x5 (if x9 = true then (((x10.set 0 (!(rdOf false x10 0))).set 1 (!(rdOf false (x10.set 0 (!(rdOf false x10 0))) 1))).set 2 (!(rdOf false ((x10.set 0 (!(rdOf false x10 0))).set 1 (!(rdOf false (x10.set 0 (!(rdOf false x10 0))) 1))) 2))).set 7 (!(rdOf false (((x10.set 0 (!(rdOf false x10 0))).set 1 (!(rdOf false (x10.set 0 (!(rdOf false x10 0))) 1))).set 2 (!(rdOf false ((x10.set 0 (!(rdOf false x10 0))).set 1 (!(rdOf false (x10.set 0 (!(rdOf false x10 0))) 1))) 2))) 7)) else x10) (wrap64 (x7 + 1))
theorem l2_all (x0 x5 : List Bool) (h : Nat → Bool) (x7 : Int) (x9 : Bool) (m : Nat) : ∀ n k, k + n = 128 → 1 ≤ k →
    deedboxref05_Times.l2 (n + 1 + m) x0 x5 (rw h) x7 x9 (rw fun i => if 1 ≤ i ∧ i < k then h (i - 1) else false) (k : Int) = after m x0 x5 x7 x9 (rw fun i => if 1 ≤ i then h (i - 1) else false)
  | 0, k, e, h1 => by
    rw [show 0 + 1 + m = m + 1 by omega]
    simp only [deedboxref05_Times.l2]
    rw [if_neg (by omega), rw_length, show (rw fun i => if 1 ≤ i ∧ i < k then h (i - 1) else false) = (rw fun i => if 1 ≤ i then h (i - 1) else false) from rw_congr fun i hi => by
      by_cases h2 : 1 ≤ i
      · rw [if_pos ⟨h2, by omega⟩, if_pos h2]
      · rw [if_neg (fun h => h2 h.1), if_neg h2]]
    cases x9
    · unfold after
      rw [if_neg (by decide), if_neg (by decide)]
    · unfold after
      rw [if_pos rfl, if_pos rfl]
      simp only [Option.bind_some]
      rw [if_pos (by decide), if_pos (by decide), if_pos (by decide), if_pos (by decide)]
      rfl
  | n + 1, k, e, h1 => by
    rw [show n + 1 + 1 + m = (n + 1 + m) + 1 by omega]
    simp only [deedboxref05_Times.l2]
    rw [if_pos (by omega), wm (by omega) h1, rw_length, rw_length, if_pos (by omega), if_pos (by omega), if_pos (by omega), rdOf_rw _ (by omega), Int.toNat_natCast, rw_set, w1 (by omega), ← l2_all x0 x5 h x7 x9 m n (k + 1) (by omega) (by omega)]
    rw [if_pos (by omega)]
    congr 1
    exact rw_congr fun i hi => by
      by_cases h2 : i = k
      · subst h2; rw [if_pos rfl, if_pos ⟨h1, by omega⟩]
      · rw [if_neg h2]
        by_cases h3 : 1 ≤ i ∧ i < k
        · rw [if_pos h3, if_pos ⟨h3.1, by omega⟩]
        · rw [if_neg h3, if_neg (fun h => h3 ⟨h.1, by omega⟩)]

theorem red_bits : ∀ j : Fin 128, red.getLsbD (127 - j.val) = (decide (j.val = 0) || decide (j.val = 1) || decide (j.val = 2) || decide (j.val = 7)) := by decide +kernel
theorem nx_bit (v : G) {i : Nat} (hi : i < 128) : (nx v).getLsbD (127 - i) = ((if 1 ≤ i then v.getLsbD (127 - (i - 1)) else false) ^^ (v.getLsbD 0 && (decide (i = 0) || decide (i = 1) || decide (i = 2) || decide (i = 7)))) := by
  unfold nx
  rw [BitVec.getLsbD_xor, BitVec.getLsbD_ushiftRight]
  congr 1
  · by_cases h : 1 ≤ i
    · rw [if_pos h]; congr 1; omega
    · rw [if_neg h]
      exact BitVec.getLsbD_of_ge _ _ (by omega)
  · cases v.getLsbD 0
    · simp
    · rw [if_pos rfl, Bool.true_and]; exact red_bits ⟨i, hi⟩
theorem after_bl (m : Nat) (x0 x5 : List Bool) (x7 : Int) (v : G) :
    after m x0 x5 x7 (v.getLsbD 0) (rw fun i => if 1 ≤ i then v.getLsbD (127 - (i - 1)) else false) = deedboxref05_Times.l0 m x0 x5 (bl (nx v)) (wrap64 (x7 + 1)) := by
  unfold after
  congr 1
  have hn := fun (i : Nat) (hi : i < 128) => nx_bit v hi
  cases hl : v.getLsbD 0
  · rw [if_neg (by decide)]
    exact rw_congr fun i hi => by rw [hn i hi, hl]; simp
  · rw [if_pos rfl]
    have q0 := fun (f : Nat → Bool) => rdOf_rw f (i := 0) (by omega)
    have q1 := fun (f : Nat → Bool) => rdOf_rw f (i := 1) (by omega)
    have q2 := fun (f : Nat → Bool) => rdOf_rw f (i := 2) (by omega)
    have q7 := fun (f : Nat → Bool) => rdOf_rw f (i := 7) (by omega)
    rw [show ((0 : Nat) : Int) = 0 from rfl] at q0
    rw [show ((1 : Nat) : Int) = 1 from rfl] at q1
    rw [show ((2 : Nat) : Int) = 2 from rfl] at q2
    rw [show ((7 : Nat) : Int) = 7 from rfl] at q7
    rw [q0, rw_set, q1, rw_set, q2, rw_set, q7, rw_set]
    exact rw_congr fun i hi => by
      rw [hn i hi, hl]
      by_cases h0 : i = 0
      · subst h0; simp
      · by_cases h1 : i = 1
        · subst h1; simp
        · by_cases h2 : i = 2
          · subst h2; simp
          · by_cases h7 : i = 7
            · subst h7; simp
            · simp [h0, h1, h2, h7]
theorem mulN_bit (i : Nat) (hi : i < 128) (a b : G) (k : Nat) (hk : k < 128) : (mulN (i + 1) a b).getLsbD (127 - k) = if a.getLsbD (127 - i) = true then ((mulN i a b).getLsbD (127 - k) != (nxn i b).getLsbD (127 - k)) else (mulN i a b).getLsbD (127 - k) := by
  show (mulN i a b ^^^ (if a.getLsbD (127 - i) then nxn i b else 0#128)).getLsbD (127 - k) = _
  rw [BitVec.getLsbD_xor]
  cases a.getLsbD (127 - i) <;> simp

theorem j2_all (m : Nat) (a v : G) (x5 : List Bool) (x7 : Int) : deedboxref05_Times.j2 (129 + m) (bl a) x5 (bl v) x7 = deedboxref05_Times.l0 m (bl a) x5 (bl (nx v)) (wrap64 (x7 + 1)) := by
  rw [show 129 + m = (127 + 1 + m) + 1 by omega]
  simp only [deedboxref05_Times.j2]
  have q := rdOf_rw (fun i => v.getLsbD (127 - i)) (i := 127) (by omega)
  rw [show ((127 : Nat) : Int) = 127 from rfl] at q
  rw [bl_length, if_pos (by decide), if_pos (by decide)]
  unfold bl at *
  rw [q, rep_rw]
  have := l2_all (bl a) x5 (fun i => v.getLsbD (127 - i)) x7 (v.getLsbD (127 - 127)) m 127 1 (by omega) (by omega)
  rw [show (rw fun i => if 1 ≤ i ∧ i < 1 then v.getLsbD (127 - (i - 1)) else false) = rw fun _ => false from rw_congr fun i hi => by rw [if_neg (by omega)]] at this
  exact this.trans (after_bl m (bl a) x5 x7 v)
theorem l0_all (a b : G) : ∀ n i F, i + n = 128 → 259 * n + 1 ≤ F → deedboxref05_Times.l0 F (bl a) (bl (mulN i a b)) (bl (nxn i b)) (i : Int) = some (bl (mul a b))
  | 0, i, F, e, hF => by
    obtain ⟨m, rfl⟩ : ∃ m, F = m + 1 := ⟨F - 1, by omega⟩
    obtain rfl : i = 128 := by omega
    simp only [deedboxref05_Times.l0]
    rw [if_neg (by omega)]
    rfl
  | n + 1, i, F, e, hF => by
    obtain ⟨m, rfl⟩ : ∃ m, F = m + 1 := ⟨F - 1, by omega⟩
    simp only [deedboxref05_Times.l0]
    rw [if_pos (by omega), if_pos (by omega), bl_length, if_pos (by omega)]
    rw [show rdOf false (bl a) (i : Int) = a.getLsbD (127 - i) from rdOf_rw _ (by omega)]
    have hb := mulN_bit i (by omega) a b
    cases hc : a.getLsbD (127 - i)
    · rw [if_neg (by decide)]
      obtain ⟨m2, rfl⟩ : ∃ m2, m = 129 + m2 := ⟨m - 129, by omega⟩
      rw [j2_all, w1 (by omega)]
      rw [show bl (mulN i a b) = bl (mulN (i + 1) a b) from rw_congr fun k hk => by rw [hb k hk, hc, if_neg (by decide)]]
      exact l0_all a b n (i + 1) m2 (by omega) (by omega)
    · rw [if_pos rfl]
      obtain ⟨m2, rfl⟩ : ∃ m2, m = 128 + 1 + (129 + m2) := ⟨m - 258, by omega⟩
      have := l1_all (bl a) (fun k => (mulN i a b).getLsbD (127 - k)) (fun k => (nxn i b).getLsbD (127 - k)) (i : Int) (129 + m2) 128 0 (by omega)
      rw [show (rw fun k => if k < 0 then ((mulN i a b).getLsbD (127 - k) != (nxn i b).getLsbD (127 - k)) else (mulN i a b).getLsbD (127 - k)) = bl (mulN i a b) from rw_congr fun k hk => by rw [if_neg (by omega)],
        show (rw fun k => ((mulN i a b).getLsbD (127 - k) != (nxn i b).getLsbD (127 - k))) = bl (mulN (i + 1) a b) from rw_congr fun k hk => by rw [hb k hk, hc, if_pos rfl]] at this
      refine this.trans ?_
      rw [show (rw fun k => (nxn i b).getLsbD (127 - k)) = bl (nxn i b) from rfl, j2_all, w1 (by omega)]
      exact l0_all a b n (i + 1) m2 (by omega) (by omega)
theorem times_bl (a b : G) (F : Nat) (hF : 40000 ≤ F) : deedboxref05_Times.f F (bl a) (bl b) = some (bl (mul a b)) := by
  unfold deedboxref05_Times.f
  rw [if_pos (by decide), bl_length, if_pos (by decide), List.nil_append, rep_rw]
  have := l0_all a b 128 0 F (by omega) (by omega)
  rw [show bl (mulN 0 a b) = rw fun _ => false from rw_congr fun k hk => by show (0#128).getLsbD _ = false; simp] at this
  exact this
end Rt
end Go.Proofs.Ytljddghamgjfbaa
