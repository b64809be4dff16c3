/- PBridge, RefTimes, RefBits, RefRun, RefXor. -/
import Derived.Test.YtljddghamgjfbaaG6A
import Derived.Test.YtljddghamgjfbaaG6P
import Derived.Test.YtljddghamgjfbaaG6C
import Derived.Laws.BitsAllLaws
set_option linter.unusedVariables false
set_option linter.unusedSimpArgs false
namespace Go.Proofs.Ytljddghamgjfbaa
open Go.RowKit Go.Deep Go.Proofs.YtljddghamgjfbaaW.PrintWords
def i8 (l : List UInt8) : List Int := l.map fun b => (b.toNat : Int)
theorem i8_length (l : List UInt8) : (i8 l).length = l.length := by simp [i8]
theorem i8_append (l m : List UInt8) : i8 (l ++ m) = i8 l ++ i8 m := by simp [i8]
theorem i8_get {l : List UInt8} {k : Nat} (h : k < l.length) : (i8 l)[k]? = some (l[k].toNat : Int) := by simp [i8, h]
theorem rd_i8 {l : List UInt8} {k : Nat} (h : k < l.length) : rd (i8 l) (k : Int) = (l[k].toNat : Int) := by
  unfold rd; rw [Int.toNat_natCast]; simp [i8, h]
theorem u8s_i8 (l : List UInt8) : u8s l = (i8 l).map (Value.int .u8) := by simp [u8s, u8v, i8]
theorem i8_inj {l m : List UInt8} (h : i8 l = i8 m) : l = m := by
  unfold i8 at h
  exact (List.map_inj_right (fun a b h => UInt8.toNat_inj.1 (by exact_mod_cast h))).1 h
theorem Bs.C {w : World} {F : Nat → Prop} {A : Option Addr} {n c : Nat} {l : List UInt8} (h : Bs w F (.slice A n c) l) : n = (i8 l).length ∧ (i8 l).length ≤ c ∧ Kd.C (Kd.int .u8) w A (i8 l).length (i8 l) := by
  obtain ⟨h1, A', c', e, h2, h3, h4⟩ := h
  injection e with e1 e2 e3
  subst e1 e3
  rw [i8_length]
  refine ⟨e2, h2, by rw [i8_length], by unfold maxLen at h3; omega, fun h0 => ?_⟩
  obtain ⟨b, off, hA, _, hc⟩ := h4 h0
  refine ⟨⟨b, off, none⟩, hA, fun j p hp => ⟨[.int .u8 p], rfl, rfl, fun i u hu => ?_⟩⟩
  have hj : j < (i8 l).length := (List.getElem?_eq_some_iff.1 hp).1
  cases i with
  | zero =>
    have : Value.int .u8 p = u := by simpa using hu
    subst this
    rw [show (⟨b, off, none⟩ : Addr).add (j * (Kd.int .u8).sz + 0) = ⟨b, off + j, none⟩ by show Addr.add _ (j * 1 + 0) = _; unfold Addr.add; split <;> simp_all]
    refine hc j _ ?_
    rw [u8s_i8, List.getElem?_map, hp]; rfl
  | succ i => simp at hu
theorem Own.of_R {w : World} {base : Nat} {ok : Nat → Prop} {v : Value} {l : List UInt8} (h : Kd.R (Kd.int .u8) 5 w base ok v (i8 l)) : Own w base v l := by
  obtain ⟨_, inner, ho, hr⟩ := h
  have hl : inner.length = l.length := by have := hr.1; rw [i8_length] at this; simpa [Kd.int, Kd.scalar] using this
  have : inner = u8s l := by
    apply List.ext_getElem?
    intro j
    by_cases hj : j < l.length
    · have h2 := hr.2 j _ (i8_get hj)
      have h3 : (inner.drop (j * 1)).take 1 = [Value.int .u8 (l[j].toNat : Int)] := h2
      rw [Nat.mul_one, List.drop_eq_getElem_cons (by omega : j < inner.length)] at h3
      have h5 := congrArg List.head? h3
      rw [List.take_succ_cons] at h5
      have h4 := Option.some.inj h5
      rw [List.getElem?_eq_getElem (by omega : j < inner.length), h4, u8s_get hj]
    · rw [List.getElem?_eq_none (by omega), List.getElem?_eq_none (by rw [u8s_length]; omega)]
  rw [i8_length, this] at ho
  exact ho
end Go.Proofs.Ytljddghamgjfbaa
namespace Go.Proofs.Ytljddghamgjfbaa
open Go.RowKit Go.Proofs.YtljddghamgjfbaaW.PrintWords Fm
namespace Rt
/-- A row of 128 bits. -/
def rw (f : Nat → Bool) : List Bool := (List.range 128).map f
def bl (e : G) : List Bool := rw fun i => e.getLsbD (127 - i)
theorem rw_length (f : Nat → Bool) : (rw f).length = 128 := by simp [rw]
theorem bl_length (e : G) : (bl e).length = 128 := rw_length _
theorem rw_get (f : Nat → Bool) {i : Nat} (h : i < 128) : (rw f)[i]? = some (f i) := by simp [rw, h]
theorem rw_congr {f g : Nat → Bool} (h : ∀ i, i < 128 → f i = g i) : rw f = rw g := by
  unfold rw; exact List.map_congr_left fun i hi => h i (List.mem_range.1 hi)
theorem rdOf_rw (f : Nat → Bool) {i : Nat} (h : i < 128) : rdOf false (rw f) (i : Int) = f i := by
  unfold rdOf; rw [Int.toNat_natCast, List.getD_eq_getElem?_getD, rw_get f h]; rfl
theorem rw_set (f : Nat → Bool) (k : Nat) (v : Bool) : (rw f).set k v = rw fun i => if i = k then v else f i := by
  apply List.ext_getElem?
  intro i
  rw [List.getElem?_set]
  by_cases hi : i < 128
  · rw [rw_get _ hi, rw_get _ hi, rw_length]
    by_cases hk : k = i
    · subst hk; simp [hi]
    · rw [if_neg hk, if_neg (fun h => hk h.symm)]
  · have h1 : (rw f)[i]? = none := List.getElem?_eq_none (by rw [rw_length]; omega)
    have h2 : (rw fun i => if i = k then v else f i)[i]? = none := List.getElem?_eq_none (by rw [rw_length]; omega)
    rw [h1, h2, rw_length]
    by_cases hk : k = i
    · rw [if_pos hk, if_neg (by omega)]
    · rw [if_neg hk]
theorem rep_rw : List.replicate 128 false = rw fun _ => false := by
  apply List.ext_getElem?
  intro i
  by_cases hi : i < 128
  · rw [rw_get _ hi, List.getElem?_replicate, if_pos hi]
  · rw [List.getElem?_eq_none (by rw [List.length_replicate]; omega), List.getElem?_eq_none (by rw [rw_length]; omega)]
theorem w1 {k : Nat} (h : k < 1000000) : wrap64 ((k : Int) + 1) = ((k + 1 : Nat) : Int) := by unfold wrap64; omega
theorem w16 {k : Nat} (h : k < 1000000) : wrap64 ((k : Int) + 16) = ((k + 16 : Nat) : Int) := by unfold wrap64; omega
theorem wm {k : Nat} (h : k < 1000000) (h1 : 1 ≤ k) : wrap64 ((k : Int) - 1) = ((k - 1 : Nat) : Int) := by unfold wrap64; omega
open PGcmSeals
theorem l1_all (x0 : List Bool) (g h : Nat → Bool) (x7 : Int) (m : Nat) : ∀ n k, k + n = 128 →
    deedboxref05_Times.l1 (n + 1 + m) x0 (rw fun i => if i < k then g i != h i else g i) (rw h) x7 (k : Int) = deedboxref05_Times.j2 m x0 (rw fun i => g i != h i) (rw h) x7
  | 0, k, e => by
    rw [show 0 + 1 + m = m + 1 by omega]
    simp only [deedboxref05_Times.l1]
    rw [if_neg (by omega)]
    congr 1
    exact rw_congr fun i hi => by rw [if_pos (by omega)]
  | n + 1, k, e => by
    rw [show n + 1 + 1 + m = (n + 1 + m) + 1 by omega]
    simp only [deedboxref05_Times.l1]
    rw [if_pos (by omega), if_pos (by omega), rw_length, rw_length, if_pos (by omega), if_pos (by omega), rdOf_rw _ (by omega), rdOf_rw _ (by omega), Int.toNat_natCast, rw_set, w1 (by omega), ← l1_all x0 g h x7 m n (k + 1) (by omega)]
    refine congrArg (fun z => deedboxref05_Times.l1 (n + 1 + m) x0 z (rw h) x7 ((k + 1 : Nat) : Int)) (rw_congr fun i hi => ?_)
    by_cases h1 : i = k
    · subst h1; rw [if_pos rfl, if_neg (by omega), if_pos (by omega)]
    · rw [if_neg h1]
      by_cases h2 : i < k
      · rw [if_pos h2, if_pos (by omega)]
      · rw [if_neg h2, if_neg (by omega)]
def after (m : Nat) (x0 x5 : List Bool) (x7 : Int) (x9 : Bool) (x10 : List Bool) : Option (List Bool) :=
  deedboxref05_Times.l0 m x0 x5 (if x9 = true then (((x10.set 0 (!(rdOf false x10 0))).set 1 (!(rdOf false (x10.set 0 (!(rdOf false x10 0))) 1))).set 2 (!(rdOf false ((x10.set 0 (!(rdOf false x10 0))).set 1 (!(rdOf false (x10.set 0 (!(rdOf false x10 0))) 1))) 2))).set 7 (!(rdOf false (((x10.set 0 (!(rdOf false x10 0))).set 1 (!(rdOf false (x10.set 0 (!(rdOf false x10 0))) 1))).set 2 (!(rdOf false ((x10.set 0 (!(rdOf false x10 0))).set 1 (!(rdOf false (x10.set 0 (!(rdOf false x10 0))) 1))) 2))) 7)) else x10) (wrap64 (x7 + 1))
theorem l2_all (x0 x5 : List Bool) (h : Nat → Bool) (x7 : Int) (x9 : Bool) (m : Nat) : ∀ n k, k + n = 128 → 1 ≤ k →
    deedboxref05_Times.l2 (n + 1 + m) x0 x5 (rw h) x7 x9 (rw fun i => if 1 ≤ i ∧ i < k then h (i - 1) else false) (k : Int) = after m x0 x5 x7 x9 (rw fun i => if 1 ≤ i then h (i - 1) else false)
  | 0, k, e, h1 => by
    rw [show 0 + 1 + m = m + 1 by omega]
    simp only [deedboxref05_Times.l2]
    rw [if_neg (by omega), rw_length, show (rw fun i => if 1 ≤ i ∧ i < k then h (i - 1) else false) = (rw fun i => if 1 ≤ i then h (i - 1) else false) from rw_congr fun i hi => by
      by_cases h2 : 1 ≤ i
      · rw [if_pos ⟨h2, by omega⟩, if_pos h2]
      · rw [if_neg (fun h => h2 h.1), if_neg h2]]
    cases x9
    · unfold after
      rw [if_neg (by decide), if_neg (by decide)]
    · unfold after
      rw [if_pos rfl, if_pos rfl]
      simp only [Option.bind_some]
      rw [if_pos (by decide), if_pos (by decide), if_pos (by decide), if_pos (by decide)]
      rfl
  | n + 1, k, e, h1 => by
    rw [show n + 1 + 1 + m = (n + 1 + m) + 1 by omega]
    simp only [deedboxref05_Times.l2]
    rw [if_pos (by omega), wm (by omega) h1, rw_length, rw_length, if_pos (by omega), if_pos (by omega), if_pos (by omega), rdOf_rw _ (by omega), Int.toNat_natCast, rw_set, w1 (by omega), ← l2_all x0 x5 h x7 x9 m n (k + 1) (by omega) (by omega)]
    rw [if_pos (by omega)]
    congr 1
    exact rw_congr fun i hi => by
      by_cases h2 : i = k
      · subst h2; rw [if_pos rfl, if_pos ⟨h1, by omega⟩]
      · rw [if_neg h2]
        by_cases h3 : 1 ≤ i ∧ i < k
        · rw [if_pos h3, if_pos ⟨h3.1, by omega⟩]
        · rw [if_neg h3, if_neg (fun h => h3 ⟨h.1, by omega⟩)]
theorem red_bits : ∀ j : Fin 128, red.getLsbD (127 - j.val) = (decide (j.val = 0) || decide (j.val = 1) || decide (j.val = 2) || decide (j.val = 7)) := by decide +kernel
theorem nx_bit (v : G) {i : Nat} (hi : i < 128) : (nx v).getLsbD (127 - i) = ((if 1 ≤ i then v.getLsbD (127 - (i - 1)) else false) ^^ (v.getLsbD 0 && (decide (i = 0) || decide (i = 1) || decide (i = 2) || decide (i = 7)))) := by
  unfold nx
  rw [BitVec.getLsbD_xor, BitVec.getLsbD_ushiftRight]
  congr 1
  · by_cases h : 1 ≤ i
    · rw [if_pos h]; congr 1; omega
    · rw [if_neg h]
      exact BitVec.getLsbD_of_ge _ _ (by omega)
  · cases v.getLsbD 0
    · simp
    · rw [if_pos rfl, Bool.true_and]; exact red_bits ⟨i, hi⟩
theorem after_bl (m : Nat) (x0 x5 : List Bool) (x7 : Int) (v : G) :
    after m x0 x5 x7 (v.getLsbD 0) (rw fun i => if 1 ≤ i then v.getLsbD (127 - (i - 1)) else false) = deedboxref05_Times.l0 m x0 x5 (bl (nx v)) (wrap64 (x7 + 1)) := by
  unfold after
  congr 1
  have hn := fun (i : Nat) (hi : i < 128) => nx_bit v hi
  cases hl : v.getLsbD 0
  · rw [if_neg (by decide)]
    exact rw_congr fun i hi => by rw [hn i hi, hl]; simp
  · rw [if_pos rfl]
    have q0 := fun (f : Nat → Bool) => rdOf_rw f (i := 0) (by omega)
    have q1 := fun (f : Nat → Bool) => rdOf_rw f (i := 1) (by omega)
    have q2 := fun (f : Nat → Bool) => rdOf_rw f (i := 2) (by omega)
    have q7 := fun (f : Nat → Bool) => rdOf_rw f (i := 7) (by omega)
    rw [show ((0 : Nat) : Int) = 0 from rfl] at q0
    rw [show ((1 : Nat) : Int) = 1 from rfl] at q1
    rw [show ((2 : Nat) : Int) = 2 from rfl] at q2
    rw [show ((7 : Nat) : Int) = 7 from rfl] at q7
    rw [q0, rw_set, q1, rw_set, q2, rw_set, q7, rw_set]
    exact rw_congr fun i hi => by
      rw [hn i hi, hl]
      by_cases h0 : i = 0
      · subst h0; simp
      · by_cases h1 : i = 1
        · subst h1; simp
        · by_cases h2 : i = 2
          · subst h2; simp
          · by_cases h7 : i = 7
            · subst h7; simp
            · simp [h0, h1, h2, h7]
theorem mulN_bit (i : Nat) (hi : i < 128) (a b : G) (k : Nat) (hk : k < 128) : (mulN (i + 1) a b).getLsbD (127 - k) = if a.getLsbD (127 - i) = true then ((mulN i a b).getLsbD (127 - k) != (nxn i b).getLsbD (127 - k)) else (mulN i a b).getLsbD (127 - k) := by
  show (mulN i a b ^^^ (if a.getLsbD (127 - i) then nxn i b else 0#128)).getLsbD (127 - k) = _
  rw [BitVec.getLsbD_xor]
  cases a.getLsbD (127 - i) <;> simp
theorem j2_all (m : Nat) (a v : G) (x5 : List Bool) (x7 : Int) : deedboxref05_Times.j2 (129 + m) (bl a) x5 (bl v) x7 = deedboxref05_Times.l0 m (bl a) x5 (bl (nx v)) (wrap64 (x7 + 1)) := by
  rw [show 129 + m = (127 + 1 + m) + 1 by omega]
  simp only [deedboxref05_Times.j2]
  have q := rdOf_rw (fun i => v.getLsbD (127 - i)) (i := 127) (by omega)
  rw [show ((127 : Nat) : Int) = 127 from rfl] at q
  rw [bl_length, if_pos (by decide), if_pos (by decide)]
  unfold bl at *
  rw [q, rep_rw]
  have := l2_all (bl a) x5 (fun i => v.getLsbD (127 - i)) x7 (v.getLsbD (127 - 127)) m 127 1 (by omega) (by omega)
  rw [show (rw fun i => if 1 ≤ i ∧ i < 1 then v.getLsbD (127 - (i - 1)) else false) = rw fun _ => false from rw_congr fun i hi => by rw [if_neg (by omega)]] at this
  exact this.trans (after_bl m (bl a) x5 x7 v)
theorem l0_all (a b : G) : ∀ n i F, i + n = 128 → 259 * n + 1 ≤ F → deedboxref05_Times.l0 F (bl a) (bl (mulN i a b)) (bl (nxn i b)) (i : Int) = some (bl (mul a b))
  | 0, i, F, e, hF => by
    obtain ⟨m, rfl⟩ : ∃ m, F = m + 1 := ⟨F - 1, by omega⟩
    obtain rfl : i = 128 := by omega
    simp only [deedboxref05_Times.l0]
    rw [if_neg (by omega)]
    rfl
  | n + 1, i, F, e, hF => by
    obtain ⟨m, rfl⟩ : ∃ m, F = m + 1 := ⟨F - 1, by omega⟩
    simp only [deedboxref05_Times.l0]
    rw [if_pos (by omega), if_pos (by omega), bl_length, if_pos (by omega)]
    rw [show rdOf false (bl a) (i : Int) = a.getLsbD (127 - i) from rdOf_rw _ (by omega)]
    have hb := mulN_bit i (by omega) a b
    cases hc : a.getLsbD (127 - i)
    · rw [if_neg (by decide)]
      obtain ⟨m2, rfl⟩ : ∃ m2, m = 129 + m2 := ⟨m - 129, by omega⟩
      rw [j2_all, w1 (by omega)]
      rw [show bl (mulN i a b) = bl (mulN (i + 1) a b) from rw_congr fun k hk => by rw [hb k hk, hc, if_neg (by decide)]]
      exact l0_all a b n (i + 1) m2 (by omega) (by omega)
    · rw [if_pos rfl]
      obtain ⟨m2, rfl⟩ : ∃ m2, m = 128 + 1 + (129 + m2) := ⟨m - 258, by omega⟩
      have := l1_all (bl a) (fun k => (mulN i a b).getLsbD (127 - k)) (fun k => (nxn i b).getLsbD (127 - k)) (i : Int) (129 + m2) 128 0 (by omega)
      rw [show (rw fun k => if k < 0 then ((mulN i a b).getLsbD (127 - k) != (nxn i b).getLsbD (127 - k)) else (mulN i a b).getLsbD (127 - k)) = bl (mulN i a b) from rw_congr fun k hk => by rw [if_neg (by omega)],
        show (rw fun k => ((mulN i a b).getLsbD (127 - k) != (nxn i b).getLsbD (127 - k))) = bl (mulN (i + 1) a b) from rw_congr fun k hk => by rw [hb k hk, hc, if_pos rfl]] at this
      refine this.trans ?_
      rw [show (rw fun k => (nxn i b).getLsbD (127 - k)) = bl (nxn i b) from rfl, j2_all, w1 (by omega)]
      exact l0_all a b n (i + 1) m2 (by omega) (by omega)
theorem times_bl (a b : G) (F : Nat) (hF : 40000 ≤ F) : deedboxref05_Times.f F (bl a) (bl b) = some (bl (mul a b)) := by
  unfold deedboxref05_Times.f
  rw [if_pos (by decide), bl_length, if_pos (by decide), List.nil_append, rep_rw]
  have := l0_all a b 128 0 F (by omega) (by omega)
  rw [show bl (mulN 0 a b) = rw fun _ => false from rw_congr fun k hk => by show (0#128).getLsbD _ = false; simp] at this
  exact this
end Rt
end Go.Proofs.Ytljddghamgjfbaa
namespace Go.Proofs.Ytljddghamgjfbaa
open Go.RowKit Go.Proofs.YtljddghamgjfbaaW.PrintWords Go.Proofs.YtljddghamgjfbaaW.PrintMore Fm
namespace Rt
open PGcmSeals
theorem snoc_ind {P : List UInt8 → Prop} (h0 : P []) (h1 : ∀ l b, P l → P (l ++ [b])) (l : List UInt8) : P l := by
  have h : ∀ m : List UInt8, P m.reverse := fun m => by
    induction m with
    | nil => exact h0
    | cons b m ih => rw [List.reverse_cons]; exact h1 _ _ ih
  rw [← List.reverse_reverse l]; exact h _
/-- Bit i of bytes, the highest of the first byte first. -/
def bitL (l : List UInt8) (i : Nat) : Bool := ((l[i / 8]?).getD 0).toNat.testBit (7 - i % 8)
theorem getL_bit (l : List UInt8) : ∀ j, j < 64 → (getL l).testBit j = ((l.reverse[j / 8]?).getD 0).toNat.testBit (j % 8) := by
  refine snoc_ind (P := fun l => ∀ j, j < 64 → (getL l).testBit j = ((l.reverse[j / 8]?).getD 0).toNat.testBit (j % 8)) ?_ ?_ l
  · intro j hj; simp [getL]
  · intro l b ih j hj
    rw [getL_snoc, show (18446744073709551616 : Nat) = 2 ^ 64 by decide, Nat.testBit_mod_two_pow, decide_eq_true hj, Bool.true_and, Nat.mul_comm, show (256 : Nat) = 2 ^ 8 by decide, Nat.testBit_two_pow_mul_add _ (by have := b.toNat_lt; omega), List.reverse_append]
    by_cases h : j < 8
    · rw [if_pos h, Nat.div_eq_of_lt h, Nat.mod_eq_of_lt h]; rfl
    · rw [if_neg h, ih (j - 8) (by omega)]
      obtain ⟨q, hq⟩ : ∃ q, j / 8 = q + 1 := ⟨j / 8 - 1, by omega⟩
      rw [hq, show (j - 8) / 8 = q by omega, show (j - 8) % 8 = j % 8 by omega]
      rfl
theorem pad_get (l : List UInt8) {q : Nat} (hq : q < 16) : ((pad16 l)[q]?).getD 0 = (l[q]?).getD 0 := by
  unfold pad16
  rw [List.getElem?_take_of_lt hq]
  by_cases h : q < l.length
  · rw [List.getElem?_append_left h]
  · rw [List.getElem?_append_right (by omega), List.getElem?_eq_none (by omega : l.length ≤ q), List.getElem?_replicate]
    split <;> rfl
theorem elL_bit (l : List UInt8) {i : Nat} (hi : i < 128) : (elL l).getLsbD (127 - i) = bitL l i := by
  have hp := pad16_length l
  unfold elL mkE
  rw [BitVec.getLsbD_ofNat, decide_eq_true (by omega : 127 - i < 128), Bool.true_and, Nat.mul_comm, show (18446744073709551616 : Nat) = 2 ^ 64 by decide, Nat.testBit_two_pow_mul_add _ (by have := getL_lt ((pad16 l).drop 8); omega)]
  unfold bitL
  rw [← pad_get l (q := i / 8) (by omega)]
  by_cases h : 127 - i < 64
  · rw [if_pos h, getL_bit _ _ h, List.getElem?_reverse (by rw [List.length_drop]; omega), List.length_drop, hp, List.getElem?_drop]
    rw [show 8 + (16 - 8 - 1 - (127 - i) / 8) = i / 8 by omega, show (127 - i) % 8 = 7 - i % 8 by omega]
  · rw [if_neg h, getL_bit _ _ (by omega), List.getElem?_reverse (by rw [List.length_take]; omega), List.length_take, hp, List.getElem?_take_of_lt (by omega)]
    rw [show min 8 16 - 1 - (127 - i - 64) / 8 = i / 8 by omega, show (127 - i - 64) % 8 = 7 - i % 8 by omega]
theorem getL_pow (l : List UInt8) : l.length ≤ 8 → getL l < 256 ^ l.length := by
  refine snoc_ind (P := fun l => l.length ≤ 8 → getL l < 256 ^ l.length) ?_ ?_ l
  · intro _; simp [getL]
  · intro l b ih h
    rw [List.length_append, List.length_singleton] at *
    have := ih (by omega)
    rw [getL_snoc, Nat.pow_succ]
    have hb := b.toNat_lt
    exact Nat.lt_of_le_of_lt (Nat.mod_le _ _) (by omega)
theorem putL_getL (l : List UInt8) : l.length ≤ 8 → putL (getL l) l.length = l := by
  refine snoc_ind (P := fun l => l.length ≤ 8 → putL (getL l) l.length = l) ?_ ?_ l
  · intro _; rfl
  · intro l b ih h
    rw [List.length_append, List.length_singleton] at *
    have h1 := getL_pow l (by omega)
    have h2 : (256 : Nat) ^ l.length ≤ 256 ^ 7 := Nat.pow_le_pow_right (by omega) (by omega)
    have h3 : (256 : Nat) ^ 7 = 72057594037927936 := by decide
    have hb := b.toNat_lt
    rw [getL_snoc, Nat.mod_eq_of_lt (by omega), putL, show (getL l * 256 + b.toNat) / 256 = getL l by omega, show (getL l * 256 + b.toNat) % 256 = b.toNat by omega, ih (by omega), UInt8.ofNat_toNat]
theorem elB_elL (l : List UInt8) (h : l.length = 16) : elB (elL l) = l := by
  have hp : pad16 l = l := by unfold pad16; rw [List.take_append_of_le_length (by omega), List.take_of_length_le (by omega)]
  unfold elB elL
  rw [hi_mk (getL_lt _) (getL_lt _), lo_mk (getL_lt _) (getL_lt _), hp]
  have h1 := putL_getL (l.take 8) (by rw [List.length_take]; omega)
  have h2 := putL_getL (l.drop 8) (by rw [List.length_drop]; omega)
  rw [show (l.take 8).length = 8 by rw [List.length_take]; omega] at h1
  rw [show (l.drop 8).length = 8 by rw [List.length_drop]; omega] at h2
  rw [h1, h2, List.take_append_drop]
theorem elB_of (e : G) (m : List UInt8) (h : m.length = 16) (hb : ∀ j, j < 128 → bitL m j = e.getLsbD (127 - j)) : elB e = m := by
  have : elL m = e := BitVec.eq_of_getLsbD_eq fun j hj => by
    have := elL_bit m (i := 127 - j) (by omega)
    rw [show 127 - (127 - j) = j by omega] at this
    rw [this, hb _ (by omega), show 127 - (127 - j) = j by omega]
  rw [← this, elB_elL m h]
theorem byte_bit : ∀ b : Fin 256, ∀ j : Fin 8, ((Go.bits .and .u8 (shr .u8 (b.val : Int) (j.val : Int)) 1) == 1) = b.val.testBit j.val := by decide +kernel
theorem byte_or : ∀ b : Fin 256, ∀ j : Fin 8, Go.bits .or .u8 (b.val : Int) (shl .u8 1 (j.val : Int)) = ((b.val ||| 2 ^ j.val : Nat) : Int) := by decide +kernel
theorem td (i : Nat) (h : i < 1000) : wrap64 (Int.tdiv (i : Int) 8) = ((i / 8 : Nat) : Int) := by
  rw [show Int.tdiv (i : Int) 8 = ((i / 8 : Nat) : Int) from rfl]; unfold wrap64; omega
theorem tm (i : Nat) : wrap64 (7 - Int.tmod (i : Int) 8) = ((7 - i % 8 : Nat) : Int) := by
  rw [show Int.tmod (i : Int) 8 = ((i % 8 : Nat) : Int) from rfl]; unfold wrap64; omega
theorem i8_rd (l : List UInt8) {k : Nat} (h : k < l.length) : rd (i8 l) (k : Int) = ((((l[k]?).getD 0).toNat : Nat) : Int) := by
  rw [rd_i8 h, List.getElem?_eq_getElem h]; rfl
theorem bits_all (l : List UInt8) : ∀ n i F, i + n = 128 → n + 1 ≤ F → deedboxref05_Bits.l0 F (i8 l) ((List.range i).map (bitL l)) (i : Int) = some (bl (elL l))
  | 0, i, F, e, hF => by
    obtain ⟨m, rfl⟩ : ∃ m, F = m + 1 := ⟨F - 1, by omega⟩
    obtain rfl : i = 128 := by omega
    simp only [deedboxref05_Bits.l0]
    rw [if_neg (by omega)]
    exact congrArg some (rw_congr fun j hj => (elL_bit l hj).symm)
  | n + 1, i, F, e, hF => by
    obtain ⟨m, rfl⟩ : ∃ m, F = m + 1 := ⟨F - 1, by omega⟩
    have ih := bits_all l n (i + 1) m (by omega) (by omega)
    rw [List.range_succ, List.map_append] at ih
    simp only [deedboxref05_Bits.l0]
    rw [if_pos (by omega), td _ (by omega), tm, w1 (by omega), i8_length, List.length_map, List.length_range]
    by_cases c : i / 8 < l.length
    · rw [if_pos (by omega), if_pos (by omega), if_pos (by omega), if_pos (by omega), i8_rd l c]
      have hb := byte_bit ⟨((l[i / 8]?).getD 0).toNat, UInt8.toNat_lt _⟩ ⟨7 - i % 8, by omega⟩
      rw [hb]
      exact ih
    · rw [if_neg (by omega), if_pos (by omega)]
      have : bitL l i = false := by unfold bitL; rw [List.getElem?_eq_none (by omega)]; simp
      rw [← this]
      exact ih
theorem bits_bl (l : List UInt8) (F : Nat) (hF : 129 ≤ F) : deedboxref05_Bits.f F (i8 l) = some (bl (elL l)) := bits_all l 128 0 F (by omega) (by omega)
theorem i8_set (l : List UInt8) (k : Nat) (v : UInt8) : (i8 l).set k (v.toNat : Int) = i8 (l.set k v) := by simp [i8, List.map_set]
theorem bytes_all (e : G) : ∀ n i F (m : List UInt8), i + n = 128 → n + 1 ≤ F → m.length = 16 → (∀ j, j < 128 → bitL m j = (decide (j < i) && e.getLsbD (127 - j))) → deedboxref05_Bytes.l0 F (bl e) (i8 m) (i : Int) = some (i8 (elB e))
  | 0, i, F, m, he, hF, hm, hb => by
    obtain ⟨k, rfl⟩ : ∃ k, F = k + 1 := ⟨F - 1, by omega⟩
    obtain rfl : i = 128 := by omega
    simp only [deedboxref05_Bytes.l0]
    rw [if_neg (by omega), elB_of e m hm (fun j hj => by rw [hb j hj, decide_eq_true hj, Bool.true_and])]
  | n + 1, i, F, m, he, hF, hm, hb => by
    obtain ⟨k, rfl⟩ : ∃ k, F = k + 1 := ⟨F - 1, by omega⟩
    simp only [deedboxref05_Bytes.l0]
    rw [if_pos (by omega), if_pos (by omega), bl_length, if_pos (by omega), show rdOf false (bl e) (i : Int) = e.getLsbD (127 - i) from rdOf_rw _ (by omega), td _ (by omega), tm, w1 (by omega), i8_length, hm]
    cases hc : e.getLsbD (127 - i)
    · rw [if_neg (by decide)]
      refine bytes_all e n (i + 1) k m (by omega) (by omega) hm fun j hj => ?_
      rw [hb j hj]
      by_cases h : j = i
      · subst h; rw [hc]; simp
      · congr 1
        rw [decide_eq_decide]; omega
    · rw [if_pos rfl, if_pos (by omega), if_pos (by omega), if_pos (by omega), i8_rd m (by omega), Int.toNat_natCast]
      have ho := byte_or ⟨((m[i / 8]?).getD 0).toNat, UInt8.toNat_lt _⟩ ⟨7 - i % 8, by omega⟩
      have hlt : ((m[i / 8]?).getD 0).toNat ||| 2 ^ (7 - i % 8) < 256 := Nat.or_lt_two_pow (n := 8) (UInt8.toNat_lt _) (Nat.pow_lt_pow_right (by omega) (by omega))
      rw [ho, show (((m[i / 8]?).getD 0).toNat ||| 2 ^ (7 - i % 8) : Nat) = (UInt8.ofNat (((m[i / 8]?).getD 0).toNat ||| 2 ^ (7 - i % 8))).toNat by rw [UInt8.toNat_ofNat', Nat.mod_eq_of_lt hlt], i8_set]
      refine bytes_all e n (i + 1) k _ (by omega) (by omega) (by rw [List.length_set]; exact hm) fun j hj => ?_
      have hj0 := hb j hj
      unfold bitL at hj0 ⊢
      rw [List.getElem?_set]
      by_cases hq : i / 8 = j / 8
      · rw [if_pos hq, if_pos (by omega), Option.getD_some, UInt8.toNat_ofNat', Nat.mod_eq_of_lt hlt, Nat.testBit_or, hq, hj0, Nat.testBit_two_pow]
        by_cases h : j = i
        · subst h; rw [hc]; simp
        · rw [decide_eq_false (by omega : ¬ (7 - i % 8 = 7 - j % 8)), Bool.or_false]
          congr 1
          rw [decide_eq_decide]; omega
      · rw [if_neg hq, hj0]
        congr 1
        rw [decide_eq_decide]; omega
theorem bytes_bl (e : G) (F : Nat) (hF : 129 ≤ F) : deedboxref05_Bytes.f F (bl e) = some (i8 (elB e)) := by
  unfold deedboxref05_Bytes.f
  rw [if_pos (by decide), show List.replicate 16 (0 : Int) = i8 (List.replicate 16 0) from rfl]
  refine bytes_all e 128 0 F _ (by omega) (by omega) (by simp) fun j hj => ?_
  unfold bitL
  rw [List.getElem?_replicate, if_pos (by omega)]
  simp
theorem h1_all (x0 : List Bool) (x2 : List Int) (g h : Nat → Bool) (x8 : Int) (m : Nat) : ∀ n k, k + n = 128 →
    deedboxref05_Hash.l1 (n + 1 + m) x0 x2 (rw g) x8 (rw h) (rw fun i => if i < k then g i != h i else false) (k : Int) = (deedboxref05_Times.f m (rw fun i => g i != h i) x0).bind fun t => deedboxref05_Hash.l0 m x0 x2 t (wrap64 (x8 + 16))
  | 0, k, e => by
    rw [show 0 + 1 + m = m + 1 by omega]
    simp only [deedboxref05_Hash.l1]
    rw [if_neg (by omega), show (rw fun i => if i < k then g i != h i else false) = rw fun i => g i != h i from rw_congr fun i hi => by rw [if_pos (by omega)]]
  | n + 1, k, e => by
    rw [show n + 1 + 1 + m = (n + 1 + m) + 1 by omega]
    simp only [deedboxref05_Hash.l1]
    rw [if_pos (by omega), if_pos (by omega), rw_length, rw_length, rw_length, if_pos (by omega), if_pos (by omega), if_pos (by omega), rdOf_rw _ (by omega), rdOf_rw _ (by omega), Int.toNat_natCast, rw_set, w1 (by omega), ← h1_all x0 x2 g h x8 m n (k + 1) (by omega)]
    refine congrArg (fun z => deedboxref05_Hash.l1 (n + 1 + m) x0 x2 (rw g) x8 (rw h) z ((k + 1 : Nat) : Int)) (rw_congr fun i hi => ?_)
    by_cases h1 : i = k
    · subst h1; rw [if_pos rfl, if_pos (by omega)]
    · rw [if_neg h1]
      by_cases h2 : i < k
      · rw [if_pos h2, if_pos (by omega)]
      · rw [if_neg h2, if_neg (by omega)]
theorem i8_cut (l : List UInt8) (a b : Nat) : ((i8 l).take b).drop a = i8 ((l.take b).drop a) := by simp [i8, List.map_drop, List.map_take]
theorem h0_all (h : G) (l : List UInt8) (hl : l.length ≤ 100000) : ∀ n i F f, i ≤ l.length + 16 → l.length ≤ i + 16 * n → 131 * n + 40001 ≤ F → deedboxref05_Hash.l0 F (bl h) (i8 l) (bl f) (i : Int) = some (bl (hash h f (l.drop i))) := by
  intro n i F f hi hn hF
  induction n generalizing i F f with
  | zero =>
    obtain ⟨m, rfl⟩ : ∃ m, F = m + 1 := ⟨F - 1, by omega⟩
    simp only [deedboxref05_Hash.l0]
    rw [i8_length, if_neg (by omega), List.drop_of_length_le (by omega), hash_nil]
  | succ n ih =>
    obtain ⟨m, rfl⟩ : ∃ m, F = m + 1 := ⟨F - 1, by omega⟩
    simp only [deedboxref05_Hash.l0]
    rw [i8_length]
    by_cases c : i < l.length
    · rw [if_pos (by omega), w16 (by omega)]
      have key : ∀ u : Nat, i ≤ u → u ≤ l.length → (l.take u).drop i = (l.drop i).take 16 → deedboxref05_Hash.j1 m (bl h) (i8 l) (bl f) (i : Int) (u : Int) = some (bl (hash h f (l.drop i))) := fun u h1 h2 h3 => by
        obtain ⟨m, rfl⟩ : ∃ m', m = m' + 129 + 1 := ⟨m - 130, by omega⟩
        simp only [deedboxref05_Hash.j1]
        rw [if_pos (by omega), if_pos (by omega), i8_length, if_pos (by omega), Int.toNat_natCast, Int.toNat_natCast, i8_cut, h3, bits_bl _ _ (by omega), Option.bind_some, if_pos (by decide), rep_rw]
        have := h1_all (bl h) (i8 l) (fun j => f.getLsbD (127 - j)) (fun j => (elL ((l.drop i).take 16)).getLsbD (127 - j)) (i : Int) m 128 0 (by omega)
        rw [show (rw fun j => if j < 0 then (f.getLsbD (127 - j) != (elL ((l.drop i).take 16)).getLsbD (127 - j)) else false) = rw fun _ => false from rw_congr fun j hj => by rw [if_neg (by omega)],
          show (rw fun j => (f.getLsbD (127 - j) != (elL ((l.drop i).take 16)).getLsbD (127 - j))) = bl (f ^^^ elL ((l.drop i).take 16)) from rw_congr fun j hj => by rw [BitVec.getLsbD_xor],
          times_bl _ _ _ (by omega), Option.bind_some, w16 (by omega)] at this
        rw [show m + 129 = 128 + 1 + m by omega]
        refine this.trans ?_
        rw [ih (i + 16) m _ (by omega) (by omega) (by omega), hash_step h f (l.drop i) (by intro h0; have := congrArg List.length h0; rw [List.length_drop] at this; simp at this; omega), List.drop_drop]
      by_cases c2 : l.length < i + 16
      · rw [if_pos (by omega)]
        exact key l.length (by omega) (Nat.le_refl _) (by rw [List.take_length, List.take_of_length_le (by rw [List.length_drop]; omega)])
      · rw [if_neg (by omega)]
        exact key (i + 16) (by omega) (by omega) (by rw [List.drop_take]; congr 1; omega)
    · rw [if_neg (by omega), List.drop_of_length_le (by omega), hash_nil]
theorem hash_bl (h f : G) (l : List UInt8) (hl : l.length ≤ 300) (F : Nat) (hF : 50000 ≤ F) : deedboxref05_Hash.f F (bl h) (bl f) (i8 l) = some (bl (hash h f l)) := h0_all h l (by omega) 19 0 F f (by omega) (by omega) (by omega)
end Rt
end Go.Proofs.Ytljddghamgjfbaa
namespace Go.Proofs.Ytljddghamgjfbaa
open Go.RowKit Go.Deep Go.Proofs.YtljddghamgjfbaaW.PrintWords Fm Rt
/-- A row of bits, wherever it lies. -/
def RB (w : World) (v : Value) (L : List Bool) : Prop := Kd.V Kd.bool 4 w 0 (fun _ => True) v L
theorem RB.no {w w' : World} {v : Value} {L : List Bool} (h : RB w v L) (hx : Ext No w w') : RB w' v L := Kd.V_step h (fun k _ hk => hx.block k hk (fun h => h))
theorem RB.of {w : World} {base : Nat} {ok : Nat → Prop} {v : Value} {L : List Bool} (h : Kd.R Kd.bool 4 w base ok v L) : RB w v L := Kd.V_mono (Kd.R_V h) (fun _ _ => trivial)
theorem rBits_any (v : Value) (l : List UInt8) (w : World) (h : Bs w Any v l) : Calls Try.prog 25 #[v] w fun e w' => ∃ v', e = .returned v' ∧ RB w' v' (bl (elL l)) ∧ Ext No w w' := by
  obtain ⟨A, c, rfl, _⟩ := h.slice
  obtain ⟨h1, h2, h3⟩ := h.C
  rw [h1]
  refine (PGcmSeals.deedboxref05_Bits.calls 200 A c (i8 l) (bl (elL l)) w h3 h2 (bits_bl l 200 (by omega))).mono ?_
  rintro e w' ⟨v', rfl, hr, hb⟩
  exact ⟨v', rfl, RB.of hr, Ext.of_below hb⟩
theorem rTimes_any (v1 v2 : Value) (a b : G) (w : World) (h1 : RB w v1 (bl a)) (h2 : RB w v2 (bl b)) : Calls Try.prog 24 #[v1, v2] w fun e w' => ∃ v', e = .returned v' ∧ RB w' v' (bl (mul a b)) ∧ Ext No w w' := by
  obtain ⟨A1, c1, rfl⟩ := Kd.V_slice h1
  obtain ⟨_, hc1, hC1⟩ := Kd.V_reads' h1
  obtain ⟨A2, c2, rfl⟩ := Kd.V_slice h2
  obtain ⟨_, hc2, hC2⟩ := Kd.V_reads' h2
  refine (PGcmSeals.deedboxref05_Times.calls 50000 A1 c1 (bl a) A2 c2 (bl b) (bl (mul a b)) w hC1 hc1 hC2 hc2 (times_bl a b 50000 (by omega))).mono ?_
  rintro e w' ⟨v', rfl, hr, hb⟩
  exact ⟨v', rfl, RB.of hr, Ext.of_below hb⟩
theorem rBytes_any (v : Value) (x : G) (w : World) (h : RB w v (bl x)) : Calls Try.prog 23 #[v] w fun e w' => ∃ v', e = .returned v' ∧ Bs w' Any v' (elB x) ∧ Ext No w w' := by
  obtain ⟨A1, c1, rfl⟩ := Kd.V_slice h
  obtain ⟨_, hc1, hC1⟩ := Kd.V_reads' h
  refine (PGcmSeals.deedboxref05_Bytes.calls 200 A1 c1 (bl x) (i8 (elB x)) w hC1 hc1 (bytes_bl x 200 (by omega))).mono ?_
  rintro e w' ⟨v', rfl, hr, hb⟩
  exact ⟨v', rfl, (Own.of_R hr).any, Ext.of_below hb⟩
theorem rHash_any (v1 v2 v3 : Value) (h f : G) (l : List UInt8) (w : World) (h1 : RB w v1 (bl h)) (h2 : RB w v2 (bl f)) (h3 : Bs w Any v3 l) (hl : l.length ≤ 300) : Calls Try.prog 35 #[v1, v2, v3] w fun e w' => ∃ v', e = .returned v' ∧ RB w' v' (bl (hash h f l)) ∧ Ext No w w' := by
  obtain ⟨A1, c1, rfl⟩ := Kd.V_slice h1
  obtain ⟨_, hc1, hC1⟩ := Kd.V_reads' h1
  obtain ⟨A2, c2, rfl⟩ := Kd.V_slice h2
  obtain ⟨A3, c3, rfl, _⟩ := h3.slice
  obtain ⟨e3, h32, h33⟩ := h3.C
  rw [e3]
  refine (PGcmSeals.deedboxref05_Hash.calls 60000 A1 c1 (bl h) (fun _ => True) A2 c2 (bl f) A3 c3 (i8 l) (bl (hash h f l)) w hC1 hc1 h2 h33 h32 (hash_bl h f l hl 60000 (by omega))).mono ?_
  rintro e w' ⟨v', rfl, hr, hb⟩
  exact ⟨v', rfl, Kd.V_mono hr (fun _ _ => trivial), Ext.of_below hb⟩
end Go.Proofs.Ytljddghamgjfbaa
namespace Go.Proofs.Ytljddghamgjfbaa
open Go.RowKit Go.Deep Go.Proofs.YtljddghamgjfbaaW.PrintWords Fm Rt
namespace Rt
open PGcmSeals
def xorL (l m : List UInt8) (i : Nat) : List UInt8 := (List.range i).map fun j => (l[j]?).getD 0 ^^^ (m[j]?).getD 0
theorem xor_all (l m : List UInt8) (hl : l.length = 16) (hm : m.length = 16) : ∀ n i F, i + n = 16 → n + 1 ≤ F → deedboxref01_Xor.l0 F (i8 l) (i8 m) (i8 (xorL l m i)) (i : Int) = some (i8 (xorL l m 16))
  | 0, i, F, e, hF => by
    obtain ⟨k, rfl⟩ : ∃ k, F = k + 1 := ⟨F - 1, by omega⟩
    obtain rfl : i = 16 := by omega
    simp only [deedboxref01_Xor.l0]
    rw [i8_length, if_neg (by omega)]
  | n + 1, i, F, e, hF => by
    obtain ⟨k, rfl⟩ : ∃ k, F = k + 1 := ⟨F - 1, by omega⟩
    simp only [deedboxref01_Xor.l0]
    have hxl : (xorL l m i).length = i := by simp [xorL]
    rw [i8_length, i8_length, i8_length, hxl, if_pos (by omega), if_pos (by omega), if_pos (by omega), if_pos (by omega), i8_rd l (by omega), i8_rd m (by omega), w1 (by omega), u8_xor_nat _ _ (UInt8.toNat_lt _) (UInt8.toNat_lt _), ← UInt8.toNat_xor]
    have ih := xor_all l m hl hm n (i + 1) k (by omega) (by omega)
    rw [← ih, show xorL l m (i + 1) = xorL l m i ++ [(l[i]?).getD 0 ^^^ (m[i]?).getD 0] by unfold xorL; rw [List.range_succ, List.map_append]; rfl, i8_append]
    rfl
theorem xor_f (l m : List UInt8) (hl : l.length = 16) (hm : m.length = 16) : deedboxref01_Xor.f 20 (i8 l) (i8 m) = some (i8 (elB (elL l ^^^ elL m))) := by
  have : elB (elL l ^^^ elL m) = xorL l m 16 := elB_of _ _ (by simp [xorL]) fun j hj => by
    rw [BitVec.getLsbD_xor, elL_bit l hj, elL_bit m hj]
    unfold bitL xorL
    rw [List.getElem?_map, List.getElem?_range (by omega), Option.map_some, Option.getD_some, UInt8.toNat_xor, Nat.testBit_xor]
  rw [this]
  exact xor_all l m hl hm 16 0 20 (by omega) (by omega)
end Rt
theorem rXor_any (v1 v2 : Value) (l m : List UInt8) (w : World) (hl : l.length = 16) (hm : m.length = 16) (h1 : Bs w Any v1 l) (h2 : Bs w Any v2 m) (x y : G) (hx : elL l = x) (hy : elL m = y) : Calls Try.prog 32 #[v1, v2] w fun e w' => ∃ v', e = .returned v' ∧ Bs w' Any v' (elB (x ^^^ y)) ∧ Ext No w w' := by
  subst hx hy
  obtain ⟨A1, c1, rfl, _⟩ := h1.slice
  obtain ⟨A2, c2, rfl, _⟩ := h2.slice
  obtain ⟨e1, h12, h13⟩ := h1.C
  obtain ⟨e2, h22, h23⟩ := h2.C
  rw [e1, e2]
  refine (PGcmSeals.deedboxref01_Xor.calls 20 A1 c1 (i8 l) A2 c2 (i8 m) _ w h13 h12 h23 h22 (xor_f l m hl hm)).mono ?_
  rintro e w' ⟨v', rfl, hr, hb⟩
  exact ⟨v', rfl, (Own.of_R hr).any, Ext.of_below hb⟩
end Go.Proofs.Ytljddghamgjfbaa
