/- Chapter 5's reference: bits, bytes and rows of blocks (pure). -/
import Derived.Test.YtljddghamgjfbaaFieldHash
import Derived.Test.YtljddghamgjfbaaPBridge
import Derived.Test.YtljddghamgjfbaaPGcmSealsx5
import Derived.Test.YtljddghamgjfbaaRefP7
import Derived.Test.YtljddghamgjfbaaRefTimes
set_option linter.unusedVariables false
set_option linter.unusedSimpArgs false
namespace Go.Proofs.Ytljddghamgjfbaa
open Go.RowKit Go.Proofs.YtljddghamgjfbaaW.PrintWords Go.Proofs.YtljddghamgjfbaaW.PrintMore Fm
namespace Rt
open PGcmSeals

theorem snoc_ind {P : List UInt8 → Prop} (h0 : P []) (h1 : ∀ l b, P l → P (l ++ [b])) (l : List UInt8) : P l := by
  have h : ∀ m : List UInt8, P m.reverse := fun m => by
    induction m with
    | nil => exact h0
    | cons b m ih => rw [List.reverse_cons]; exact h1 _ _ ih
  rw [← List.reverse_reverse l]; exact h _
/-- Bit i of bytes, the highest of the first byte first. -/
def bitL (l : List UInt8) (i : Nat) : Bool := ((l[i / 8]?).getD 0).toNat.testBit (7 - i % 8)
theorem getL_bit (l : List UInt8) : ∀ j, j < 64 → (getL l).testBit j = ((l.reverse[j / 8]?).getD 0).toNat.testBit (j % 8) := by
  refine snoc_ind (P := fun l => ∀ j, j < 64 → (getL l).testBit j = ((l.reverse[j / 8]?).getD 0).toNat.testBit (j % 8)) ?_ ?_ l
  · intro j hj; simp [getL]
  · intro l b ih j hj
    rw [getL_snoc, show (18446744073709551616 : Nat) = 2 ^ 64 by decide, Nat.testBit_mod_two_pow, decide_eq_true hj, Bool.true_and, Nat.mul_comm, show (256 : Nat) = 2 ^ 8 by decide, Nat.testBit_two_pow_mul_add _ (by have := b.toNat_lt; omega), List.reverse_append]
    by_cases h : j < 8
    · rw [if_pos h, Nat.div_eq_of_lt h, Nat.mod_eq_of_lt h]; rfl
    · rw [if_neg h, ih (j - 8) (by omega)]
      obtain ⟨q, hq⟩ : ∃ q, j / 8 = q + 1 := ⟨j / 8 - 1, by omega⟩
      rw [hq, show (j - 8) / 8 = q by omega, show (j - 8) % 8 = j % 8 by omega]
      rfl
theorem pad_get (l : List UInt8) {q : Nat} (hq : q < 16) : ((pad16 l)[q]?).getD 0 = (l[q]?).getD 0 := by
  unfold pad16
  rw [List.getElem?_take_of_lt hq]
  by_cases h : q < l.length
  · rw [List.getElem?_append_left h]
  · rw [List.getElem?_append_right (by omega), List.getElem?_eq_none (by omega : l.length ≤ q), List.getElem?_replicate]
    split <;> rfl
theorem elL_bit (l : List UInt8) {i : Nat} (hi : i < 128) : (elL l).getLsbD (127 - i) = bitL l i := by
  have hp := pad16_length l
  unfold elL mkE
  rw [BitVec.getLsbD_ofNat, decide_eq_true (by omega : 127 - i < 128), Bool.true_and, Nat.mul_comm, show (18446744073709551616 : Nat) = 2 ^ 64 by decide, Nat.testBit_two_pow_mul_add _ (by have := getL_lt ((pad16 l).drop 8); omega)]
  unfold bitL
  rw [← pad_get l (q := i / 8) (by omega)]
  by_cases h : 127 - i < 64
  · rw [if_pos h, getL_bit _ _ h, List.getElem?_reverse (by rw [List.length_drop]; omega), List.length_drop, hp, List.getElem?_drop]
    rw [show 8 + (16 - 8 - 1 - (127 - i) / 8) = i / 8 by omega, show (127 - i) % 8 = 7 - i % 8 by omega]
  · rw [if_neg h, getL_bit _ _ (by omega), List.getElem?_reverse (by rw [List.length_take]; omega), List.length_take, hp, List.getElem?_take_of_lt (by omega)]
    rw [show min 8 16 - 1 - (127 - i - 64) / 8 = i / 8 by omega, show (127 - i - 64) % 8 = 7 - i % 8 by omega]
theorem getL_pow (l : List UInt8) : l.length ≤ 8 → getL l < 256 ^ l.length := by
  refine snoc_ind (P := fun l => l.length ≤ 8 → getL l < 256 ^ l.length) ?_ ?_ l
  · intro _; simp [getL]
  · intro l b ih h
    rw [List.length_append, List.length_singleton] at *
    have := ih (by omega)
    rw [getL_snoc, Nat.pow_succ]
    have hb := b.toNat_lt
    exact Nat.lt_of_le_of_lt (Nat.mod_le _ _) (by omega)
theorem putL_getL (l : List UInt8) : l.length ≤ 8 → putL (getL l) l.length = l := by
  refine snoc_ind (P := fun l => l.length ≤ 8 → putL (getL l) l.length = l) ?_ ?_ l
  · intro _; rfl
  · intro l b ih h
    rw [List.length_append, List.length_singleton] at *
    have h1 := getL_pow l (by omega)
    have h2 : (256 : Nat) ^ l.length ≤ 256 ^ 7 := Nat.pow_le_pow_right (by omega) (by omega)
    have h3 : (256 : Nat) ^ 7 = 72057594037927936 := by decide
    have hb := b.toNat_lt
    rw [getL_snoc, Nat.mod_eq_of_lt (by omega), putL, show (getL l * 256 + b.toNat) / 256 = getL l by omega, show (getL l * 256 + b.toNat) % 256 = b.toNat by omega, ih (by omega), UInt8.ofNat_toNat]
theorem elB_elL (l : List UInt8) (h : l.length = 16) : elB (elL l) = l := by
  have hp : pad16 l = l := by unfold pad16; rw [List.take_append_of_le_length (by omega), List.take_of_length_le (by omega)]
  unfold elB elL
  rw [hi_mk (getL_lt _) (getL_lt _), lo_mk (getL_lt _) (getL_lt _), hp]
  have h1 := putL_getL (l.take 8) (by rw [List.length_take]; omega)
  have h2 := putL_getL (l.drop 8) (by rw [List.length_drop]; omega)
  rw [show (l.take 8).length = 8 by rw [List.length_take]; omega] at h1
  rw [show (l.drop 8).length = 8 by rw [List.length_drop]; omega] at h2
  rw [h1, h2, List.take_append_drop]
theorem elB_of (e : G) (m : List UInt8) (h : m.length = 16) (hb : ∀ j, j < 128 → bitL m j = e.getLsbD (127 - j)) : elB e = m := by
  have : elL m = e := BitVec.eq_of_getLsbD_eq fun j hj => by
    have := elL_bit m (i := 127 - j) (by omega)
    rw [show 127 - (127 - j) = j by omega] at this
    rw [this, hb _ (by omega), show 127 - (127 - j) = j by omega]
  rw [← this, elB_elL m h]

theorem byte_bit : ∀ b : Fin 256, ∀ j : Fin 8, ((Go.bits .and .u8 (shr .u8 (b.val : Int) (j.val : Int)) 1) == 1) = b.val.testBit j.val := by decide +kernel
theorem byte_or : ∀ b : Fin 256, ∀ j : Fin 8, Go.bits .or .u8 (b.val : Int) (shl .u8 1 (j.val : Int)) = ((b.val ||| 2 ^ j.val : Nat) : Int) := by decide +kernel
theorem td (i : Nat) (h : i < 1000) : wrap64 (Int.tdiv (i : Int) 8) = ((i / 8 : Nat) : Int) := by
  rw [show Int.tdiv (i : Int) 8 = ((i / 8 : Nat) : Int) from rfl]; unfold wrap64; omega
theorem tm (i : Nat) : wrap64 (7 - Int.tmod (i : Int) 8) = ((7 - i % 8 : Nat) : Int) := by
  rw [show Int.tmod (i : Int) 8 = ((i % 8 : Nat) : Int) from rfl]; unfold wrap64; omega
theorem i8_rd (l : List UInt8) {k : Nat} (h : k < l.length) : rd (i8 l) (k : Int) = ((((l[k]?).getD 0).toNat : Nat) : Int) := by
  rw [rd_i8 h, List.getElem?_eq_getElem h]; rfl
theorem bits_all (l : List UInt8) : ∀ n i F, i + n = 128 → n + 1 ≤ F → deedboxref05_Bits.l0 F (i8 l) ((List.range i).map (bitL l)) (i : Int) = some (bl (elL l))
  | 0, i, F, e, hF => by
    obtain ⟨m, rfl⟩ : ∃ m, F = m + 1 := ⟨F - 1, by omega⟩
    obtain rfl : i = 128 := by omega
    simp only [deedboxref05_Bits.l0]
    rw [if_neg (by omega)]
    exact congrArg some (rw_congr fun j hj => (elL_bit l hj).symm)
  | n + 1, i, F, e, hF => by
    obtain ⟨m, rfl⟩ : ∃ m, F = m + 1 := ⟨F - 1, by omega⟩
    have ih := bits_all l n (i + 1) m (by omega) (by omega)
    rw [List.range_succ, List.map_append] at ih
    simp only [deedboxref05_Bits.l0]
    rw [if_pos (by omega), td _ (by omega), tm, w1 (by omega), i8_length, List.length_map, List.length_range]
    by_cases c : i / 8 < l.length
    · rw [if_pos (by omega), if_pos (by omega), if_pos (by omega), if_pos (by omega), i8_rd l c]
      have hb := byte_bit ⟨((l[i / 8]?).getD 0).toNat, UInt8.toNat_lt _⟩ ⟨7 - i % 8, by omega⟩
      rw [hb]
      exact ih
    · rw [if_neg (by omega), if_pos (by omega)]
      have : bitL l i = false := by unfold bitL; rw [List.getElem?_eq_none (by omega)]; simp
      rw [← this]
      exact ih
theorem bits_bl (l : List UInt8) (F : Nat) (hF : 129 ≤ F) : deedboxref05_Bits.f F (i8 l) = some (bl (elL l)) := bits_all l 128 0 F (by omega) (by omega)

theorem i8_set (l : List UInt8) (k : Nat) (v : UInt8) : (i8 l).set k (v.toNat : Int) = i8 (l.set k v) := by simp [i8, List.map_set]
theorem bytes_all (e : G) : ∀ n i F (m : List UInt8), i + n = 128 → n + 1 ≤ F → m.length = 16 → (∀ j, j < 128 → bitL m j = (decide (j < i) && e.getLsbD (127 - j))) → deedboxref05_Bytes.l0 F (bl e) (i8 m) (i : Int) = some (i8 (elB e))
  | 0, i, F, m, he, hF, hm, hb => by
    obtain ⟨k, rfl⟩ : ∃ k, F = k + 1 := ⟨F - 1, by omega⟩
    obtain rfl : i = 128 := by omega
    simp only [deedboxref05_Bytes.l0]
    rw [if_neg (by omega), elB_of e m hm (fun j hj => by rw [hb j hj, decide_eq_true hj, Bool.true_and])]
  | n + 1, i, F, m, he, hF, hm, hb => by
    obtain ⟨k, rfl⟩ : ∃ k, F = k + 1 := ⟨F - 1, by omega⟩
    simp only [deedboxref05_Bytes.l0]
    rw [if_pos (by omega), if_pos (by omega), bl_length, if_pos (by omega), show rdOf false (bl e) (i : Int) = e.getLsbD (127 - i) from rdOf_rw _ (by omega), td _ (by omega), tm, w1 (by omega), i8_length, hm]
    cases hc : e.getLsbD (127 - i)
    · rw [if_neg (by decide)]
      refine bytes_all e n (i + 1) k m (by omega) (by omega) hm fun j hj => ?_
      rw [hb j hj]
      by_cases h : j = i
      · subst h; rw [hc]; simp
      · congr 1
        rw [decide_eq_decide]; omega
    · rw [if_pos rfl, if_pos (by omega), if_pos (by omega), if_pos (by omega), i8_rd m (by omega), Int.toNat_natCast]
      have ho := byte_or ⟨((m[i / 8]?).getD 0).toNat, UInt8.toNat_lt _⟩ ⟨7 - i % 8, by omega⟩
      have hlt : ((m[i / 8]?).getD 0).toNat ||| 2 ^ (7 - i % 8) < 256 := Nat.or_lt_two_pow (n := 8) (UInt8.toNat_lt _) (Nat.pow_lt_pow_right (by omega) (by omega))
      rw [ho, show (((m[i / 8]?).getD 0).toNat ||| 2 ^ (7 - i % 8) : Nat) = (UInt8.ofNat (((m[i / 8]?).getD 0).toNat ||| 2 ^ (7 - i % 8))).toNat by rw [UInt8.toNat_ofNat', Nat.mod_eq_of_lt hlt], i8_set]
      refine bytes_all e n (i + 1) k _ (by omega) (by omega) (by rw [List.length_set]; exact hm) fun j hj => ?_
      have hj0 := hb j hj
      unfold bitL at hj0 ⊢
      rw [List.getElem?_set]
      by_cases hq : i / 8 = j / 8
      · rw [if_pos hq, if_pos (by omega), Option.getD_some, UInt8.toNat_ofNat', Nat.mod_eq_of_lt hlt, Nat.testBit_or, hq, hj0, Nat.testBit_two_pow]
        by_cases h : j = i
        · subst h; rw [hc]; simp
        · rw [decide_eq_false (by omega : ¬ (7 - i % 8 = 7 - j % 8)), Bool.or_false]
          congr 1
          rw [decide_eq_decide]; omega
      · rw [if_neg hq, hj0]
        congr 1
        rw [decide_eq_decide]; omega
theorem bytes_bl (e : G) (F : Nat) (hF : 129 ≤ F) : deedboxref05_Bytes.f F (bl e) = some (i8 (elB e)) := by
  unfold deedboxref05_Bytes.f
  rw [if_pos (by decide), show List.replicate 16 (0 : Int) = i8 (List.replicate 16 0) from rfl]
  refine bytes_all e 128 0 F _ (by omega) (by omega) (by simp) fun j hj => ?_
  unfold bitL
  rw [List.getElem?_replicate, if_pos (by omega)]
  simp

theorem h1_all (x0 : List Bool) (x2 : List Int) (g h : Nat → Bool) (x8 : Int) (m : Nat) : ∀ n k, k + n = 128 →
    deedboxref05_Hash.l1 (n + 1 + m) x0 x2 (rw g) x8 (rw h) (rw fun i => if i < k then g i != h i else false) (k : Int) = (deedboxref05_Times.f m (rw fun i => g i != h i) x0).bind fun t => deedboxref05_Hash.l0 m x0 x2 t (wrap64 (x8 + 16))
  | 0, k, e => by
    rw [show 0 + 1 + m = m + 1 by omega]
    simp only [deedboxref05_Hash.l1]
    rw [if_neg (by omega), show (rw fun i => if i < k then g i != h i else false) = rw fun i => g i != h i from rw_congr fun i hi => by rw [if_pos (by omega)]]
  | n + 1, k, e => by
    rw [show n + 1 + 1 + m = (n + 1 + m) + 1 by omega]
    simp only [deedboxref05_Hash.l1]
    rw [if_pos (by omega), if_pos (by omega), rw_length, rw_length, rw_length, if_pos (by omega), if_pos (by omega), if_pos (by omega), rdOf_rw _ (by omega), rdOf_rw _ (by omega), Int.toNat_natCast, rw_set, w1 (by omega), ← h1_all x0 x2 g h x8 m n (k + 1) (by omega)]
    refine congrArg (fun z => deedboxref05_Hash.l1 (n + 1 + m) x0 x2 (rw g) x8 (rw h) z ((k + 1 : Nat) : Int)) (rw_congr fun i hi => ?_)
    by_cases h1 : i = k
    · subst h1; rw [if_pos rfl, if_pos (by omega)]
    · rw [if_neg h1]
      by_cases h2 : i < k
      · rw [if_pos h2, if_pos (by omega)]
      · rw [if_neg h2, if_neg (by omega)]
theorem i8_cut (l : List UInt8) (a b : Nat) : ((i8 l).take b).drop a = i8 ((l.take b).drop a) := by simp [i8, List.map_drop, List.map_take]
theorem h0_all (h : G) (l : List UInt8) (hl : l.length ≤ 100000) : ∀ n i F f, i ≤ l.length + 16 → l.length ≤ i + 16 * n → 131 * n + 40001 ≤ F → deedboxref05_Hash.l0 F (bl h) (i8 l) (bl f) (i : Int) = some (bl (hash h f (l.drop i))) := by
  intro n i F f hi hn hF
  induction n generalizing i F f with
  | zero =>
    obtain ⟨m, rfl⟩ : ∃ m, F = m + 1 := ⟨F - 1, by omega⟩
    simp only [deedboxref05_Hash.l0]
    rw [i8_length, if_neg (by omega), List.drop_of_length_le (by omega), hash_nil]
  | succ n ih =>
    obtain ⟨m, rfl⟩ : ∃ m, F = m + 1 := ⟨F - 1, by omega⟩
    simp only [deedboxref05_Hash.l0]
    rw [i8_length]
    by_cases c : i < l.length
    · rw [if_pos (by omega), w16 (by omega)]
      have key : ∀ u : Nat, i ≤ u → u ≤ l.length → (l.take u).drop i = (l.drop i).take 16 → deedboxref05_Hash.j1 m (bl h) (i8 l) (bl f) (i : Int) (u : Int) = some (bl (hash h f (l.drop i))) := fun u h1 h2 h3 => by
        obtain ⟨m, rfl⟩ : ∃ m', m = m' + 129 + 1 := ⟨m - 130, by omega⟩
        simp only [deedboxref05_Hash.j1]
        rw [if_pos (by omega), if_pos (by omega), i8_length, if_pos (by omega), Int.toNat_natCast, Int.toNat_natCast, i8_cut, h3, bits_bl _ _ (by omega), Option.bind_some, if_pos (by decide), rep_rw]
        have := h1_all (bl h) (i8 l) (fun j => f.getLsbD (127 - j)) (fun j => (elL ((l.drop i).take 16)).getLsbD (127 - j)) (i : Int) m 128 0 (by omega)
        rw [show (rw fun j => if j < 0 then (f.getLsbD (127 - j) != (elL ((l.drop i).take 16)).getLsbD (127 - j)) else false) = rw fun _ => false from rw_congr fun j hj => by rw [if_neg (by omega)],
          show (rw fun j => (f.getLsbD (127 - j) != (elL ((l.drop i).take 16)).getLsbD (127 - j))) = bl (f ^^^ elL ((l.drop i).take 16)) from rw_congr fun j hj => by rw [BitVec.getLsbD_xor],
          times_bl _ _ _ (by omega), Option.bind_some, w16 (by omega)] at this
        rw [show m + 129 = 128 + 1 + m by omega]
        refine this.trans ?_
        rw [ih (i + 16) m _ (by omega) (by omega) (by omega), hash_step h f (l.drop i) (by intro h0; have := congrArg List.length h0; rw [List.length_drop] at this; simp at this; omega), List.drop_drop]
      by_cases c2 : l.length < i + 16
      · rw [if_pos (by omega)]
        exact key l.length (by omega) (Nat.le_refl _) (by rw [List.take_length, List.take_of_length_le (by rw [List.length_drop]; omega)])
      · rw [if_neg (by omega)]
        exact key (i + 16) (by omega) (by omega) (by rw [List.drop_take]; congr 1; omega)
    · rw [if_neg (by omega), List.drop_of_length_le (by omega), hash_nil]
theorem hash_bl (h f : G) (l : List UInt8) (hl : l.length ≤ 300) (F : Nat) (hF : 50000 ≤ F) : deedboxref05_Hash.f F (bl h) (bl f) (i8 l) = some (bl (hash h f l)) := h0_all h l (by omega) 19 0 F f (by omega) (by omega) (by omega)
end Rt
end Go.Proofs.Ytljddghamgjfbaa
