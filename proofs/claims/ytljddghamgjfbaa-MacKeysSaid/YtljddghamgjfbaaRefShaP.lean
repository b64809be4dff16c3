/- Chapter 2's reference (pure): words, a round, what stands behind a text. -/
import Derived.Test.YtljddghamgjfbaaShaSch
import Derived.Test.YtljddghamgjfbaaShaTake
import Derived.Test.YtljddghamgjfbaaPBridge
import Derived.Test.YtljddghamgjfbaaPMacKeysx2
import Derived.Test.YtljddghamgjfbaaRefRound
set_option linter.unusedVariables false
set_option linter.unusedSimpArgs false
namespace Go.Proofs.Ytljddghamgjfbaa
open Go.RowKit Go.Deep Go.Proofs.YtljddghamgjfbaaW.PrintWords Sh
namespace Rs
open PMacKeys

def i32 (L : List Nat) : List Int := L.map fun (n : Nat) => (n : Int)
theorem i32_length (L : List Nat) : (i32 L).length = L.length := by simp [i32]
theorem i32_append (L M : List Nat) : i32 (L ++ M) = i32 L ++ i32 M := by simp [i32]
theorem rd_i32 (L : List Nat) (k : Nat) : rd (i32 L) (k : Int) = ((L.getD k 0 : Nat) : Int) := by
  unfold rd i32
  rw [Int.toNat_natCast, List.getD_eq_getElem?_getD, List.getElem?_map, List.getD_eq_getElem?_getD]
  cases L[k]? <;> rfl
theorem w1 {k : Nat} (h : k < 1000000000) : wrap64 ((k : Int) + 1) = ((k + 1 : Nat) : Int) := by unfold wrap64; omega
theorem get_l0 (l : List UInt8) (hl : l.length < 1000000) (m : Nat) : ∀ n k, k + n = l.length →
    deedboxref01_Get.l0 (n + 1 + m) (i8 l) ((getL (l.take k) : Nat) : Int) (k : Int) = some ((getL l : Nat) : Int)
  | 0, k, e => by
    rw [show 0 + 1 + m = m + 1 by omega]
    simp only [deedboxref01_Get.l0]
    rw [i8_length, if_neg (by omega), List.take_of_length_le (by omega)]
  | n + 1, k, e => by
    rw [show n + 1 + 1 + m = (n + 1 + m) + 1 by omega]
    simp only [deedboxref01_Get.l0]
    have hk : k < l.length := by omega
    have hb := l[k].toNat_lt
    have e1 : IntKind.u64.wrap (rd (i8 l) (k : Int)) = (l[k].toNat : Int) := by rw [rd_i8 hk, IntKind.wrap_u64]; omega
    rw [i8_length, if_pos (by omega), if_pos (by omega), e1, get_step1, w1 (by omega), ← getL_snoc, ← List.take_succ_eq_append_getElem hk]
    exact get_l0 l hl m n (k + 1) (by omega)
theorem get_f (l : List UInt8) (hl : l.length < 1000000) (K : Nat) (hK : l.length + 1 ≤ K) : deedboxref01_Get.f K (i8 l) = some ((getL l : Nat) : Int) := by
  have := get_l0 l hl (K - (l.length + 1)) l.length 0 (by omega)
  rw [show l.length + 1 + (K - (l.length + 1)) = K by omega] at this
  exact this
theorem turn_f (x n : Nat) (hx : x < M) (hn : 0 < n) (hn2 : n < 32) : deedboxref02_turn.f (x : Int) (n : Int) = some ((rotr n x : Nat) : Int) := by
  unfold deedboxref02_turn.f
  have e1 : IntKind.u64.wrap (32 - (n : Int)) = ((32 - n : Nat) : Int) := by rw [IntKind.wrap_u64]; omega
  rw [if_pos (by omega), e1, if_pos (by omega)]
  have hx' : x < 4294967296 := hx
  have e2 : shl .u32 (x : Int) ((32 - n : Nat) : Int) = ((x * 2 ^ (32 - n) % M : Nat) : Int) := by
    unfold shl
    rw [show min ((32 - n : Nat) : Int).toNat IntKind.u32.bits = 32 - n by simp [IntKind.bits] <;> omega, IntKind.wrap_u32]
    simp [M]
  have e3 : shr .u32 (x : Int) (n : Int) = ((x / 2 ^ n : Nat) : Int) := by
    unfold shr
    rw [show min ((n : Int)).toNat IntKind.u32.bits = n by simp [IntKind.bits] <;> omega]
    simp
  rw [e2, e3, u32_or_nat _ _ (Nat.lt_of_le_of_lt (Nat.div_le_self _ _) hx) (Nat.mod_lt _ (by decide))]
  rfl
theorem words_l1 (b : List UInt8) (m : Nat) : ∀ n k, k + n = 64 → 16 ≤ k → deedboxref02_words.l1 (n + 1 + m) (i32 (wl b k)) (k : Int) = some (i32 (wl b 64))
  | 0, k, e, hk => by
    rw [show 0 + 1 + m = m + 1 by omega]
    simp only [deedboxref02_words.l1]
    obtain rfl : k = 64 := by omega
    rw [if_neg (by omega)]
  | n + 1, k, e, hk => by
    rw [show n + 1 + 1 + m = (n + 1 + m) + 1 by omega]
    simp only [deedboxref02_words.l1]
    have hl : (i32 (wl b k)).length = k := by rw [i32_length, wl_length]
    have a15 : wrap64 ((k : Int) - 15) = ((k - 15 : Nat) : Int) := by unfold wrap64; omega
    have a2 : wrap64 ((k : Int) - 2) = ((k - 2 : Nat) : Int) := by unfold wrap64; omega
    have a16 : wrap64 ((k : Int) - 16) = ((k - 16 : Nat) : Int) := by unfold wrap64; omega
    have a7 : wrap64 ((k : Int) - 7) = ((k - 7 : Nat) : Int) := by unfold wrap64; omega
    have b15 := getD_lt (wl_lt b k) (k - 15)
    have b2 := getD_lt (wl_lt b k) (k - 2)
    have hnx : nxt b k (wl b k) = ((((wl b k).getD (k - 16) 0 + s0 ((wl b k).getD (k - 15) 0)) % M + (wl b k).getD (k - 7) 0) % M + s1 ((wl b k).getD (k - 2) 0)) % M := by unfold nxt; rw [if_neg (by omega)]
    rw [if_pos (by omega), a15, a2, a16, a7, hl, if_pos (by omega), if_pos (by omega), if_pos (by omega), if_pos (by omega), rd_i32, rd_i32, rd_i32, rd_i32]
    have t1 : deedboxref02_turn.f (((wl b k).getD (k - 15) 0 : Nat) : Int) 7 = some ((rotr 7 ((wl b k).getD (k - 15) 0) : Nat) : Int) := turn_f _ 7 b15 (by omega) (by omega)
    have t2 : deedboxref02_turn.f (((wl b k).getD (k - 15) 0 : Nat) : Int) 18 = some ((rotr 18 ((wl b k).getD (k - 15) 0) : Nat) : Int) := turn_f _ 18 b15 (by omega) (by omega)
    have t3 : deedboxref02_turn.f (((wl b k).getD (k - 2) 0 : Nat) : Int) 17 = some ((rotr 17 ((wl b k).getD (k - 2) 0) : Nat) : Int) := turn_f _ 17 b2 (by omega) (by omega)
    have t4 : deedboxref02_turn.f (((wl b k).getD (k - 2) 0 : Nat) : Int) 19 = some ((rotr 19 ((wl b k).getD (k - 2) 0) : Nat) : Int) := turn_f _ 19 b2 (by omega) (by omega)
    rw [t1, t2, t3, t4]
    simp only [Option.bind_some]
    rw [if_pos (by omega), if_pos (by omega), if_pos (by omega), if_pos (by omega), if_pos (by omega), s0_bits _ b15, s1_bits _ b2, w1 (by omega), ← words_l1 b m n (k + 1) (by omega) (by omega)]
    congr 1
    rw [show wl b (k + 1) = wl b k ++ [nxt b k (wl b k)] from rfl, i32_append, hnx]
    simp [i32, M]
theorem words_l0 (b : List UInt8) (hb : b.length = 64) (m : Nat) : ∀ n k, k + n = 16 → deedboxref02_words.l0 (n + 1 + (60 + m)) (i8 b) (i32 (wl b k)) (k : Int) = some (i32 (wl b 64))
  | 0, k, e => by
    rw [show 0 + 1 + (60 + m) = (60 + m) + 1 by omega]
    simp only [deedboxref02_words.l0]
    obtain rfl : k = 16 := by omega
    rw [if_neg (by omega), show 60 + m = 48 + 1 + (11 + m) by omega]
    exact words_l1 b (11 + m) 48 16 (by omega) (by omega)
  | n + 1, k, e => by
    rw [show n + 1 + 1 + (60 + m) = (n + 1 + (60 + m)) + 1 by omega]
    simp only [deedboxref02_words.l0]
    have hl : (i32 (wl b k)).length = k := by rw [i32_length, wl_length]
    have a1 : wrap64 (4 * (k : Int)) = ((4 * k : Nat) : Int) := by unfold wrap64; omega
    have a2 : wrap64 (((4 * k : Nat) : Int) + 4) = ((4 * k + 4 : Nat) : Int) := by unfold wrap64; omega
    have hsub : ((i8 b).take (4 * k + 4)).drop (4 * k) = i8 ((b.take (4 * k + 4)).drop (4 * k)) := by unfold i8; rw [List.map_drop, List.map_take]
    have hnx : nxt b k (wl b k) = getL ((b.take (4 * k + 4)).drop (4 * k)) % M := by unfold nxt; rw [if_pos (by omega)]
    rw [if_pos (by omega), a1, if_pos (by omega), a2, if_pos (by omega), i8_length, hb, if_pos (by omega), Int.toNat_natCast, Int.toNat_natCast, hsub, get_f _ (by rw [List.length_drop, List.length_take]; omega) _ (by rw [List.length_drop, List.length_take]; omega)]
    simp only [Option.bind_some]
    rw [hl, if_pos (by omega), w1 (by omega), ← words_l0 b hb m n (k + 1) (by omega)]
    congr 1
    rw [show wl b (k + 1) = wl b k ++ [nxt b k (wl b k)] from rfl, i32_append, hnx]
    congr 1
theorem words_f (b : List UInt8) (hb : b.length = 64) : deedboxref02_words.f 100 (i8 b) = some (i32 (wl b 64)) := words_l0 b hb 23 16 0 (by omega)
theorem i32_L8 (v : V8) : i32 (L8 v) = [(v.a : Int), (v.b : Int), (v.c : Int), (v.d : Int), (v.e : Int), (v.f : Int), (v.g : Int), (v.h : Int)] := rfl
theorem round_f (v : V8) (o : v.Ok) (k w : Nat) : deedboxref02_round.f (i32 (L8 v)) (k : Int) (w : Int) = some (i32 (L8 (rnd k w v))) := by
  unfold deedboxref02_round.f
  have hl : (i32 (L8 v)).length = 8 := rfl
  have r0 : rd (i32 (L8 v)) 0 = (v.a : Int) := rfl
  have r1 : rd (i32 (L8 v)) 1 = (v.b : Int) := rfl
  have r2 : rd (i32 (L8 v)) 2 = (v.c : Int) := rfl
  have r3 : rd (i32 (L8 v)) 3 = (v.d : Int) := rfl
  have r4 : rd (i32 (L8 v)) 4 = (v.e : Int) := rfl
  have r5 : rd (i32 (L8 v)) 5 = (v.f : Int) := rfl
  have r6 : rd (i32 (L8 v)) 6 = (v.g : Int) := rfl
  have r7 : rd (i32 (L8 v)) 7 = (v.h : Int) := rfl
  have t1 : deedboxref02_turn.f ((v.e : Nat) : Int) 6 = some ((rotr 6 v.e : Nat) : Int) := turn_f v.e 6 o.e (by omega) (by omega)
  have t2 : deedboxref02_turn.f ((v.e : Nat) : Int) 11 = some ((rotr 11 v.e : Nat) : Int) := turn_f v.e 11 o.e (by omega) (by omega)
  have t3 : deedboxref02_turn.f ((v.e : Nat) : Int) 25 = some ((rotr 25 v.e : Nat) : Int) := turn_f v.e 25 o.e (by omega) (by omega)
  have t4 : deedboxref02_turn.f ((v.a : Nat) : Int) 2 = some ((rotr 2 v.a : Nat) : Int) := turn_f v.a 2 o.a (by omega) (by omega)
  have t5 : deedboxref02_turn.f ((v.a : Nat) : Int) 13 = some ((rotr 13 v.a : Nat) : Int) := turn_f v.a 13 o.a (by omega) (by omega)
  have t6 : deedboxref02_turn.f ((v.a : Nat) : Int) 22 = some ((rotr 22 v.a : Nat) : Int) := turn_f v.a 22 o.a (by omega) (by omega)
  rw [r0, r1, r2, r3, r4, r5, r6, r7, hl, if_pos (by decide), t1, t2, t3]
  simp only [Option.bind_some]
  rw [if_pos (by decide), if_pos (by decide), if_pos (by decide), if_pos (by decide), t4, t5, t6]
  simp only [Option.bind_some]
  rw [if_pos (by decide), if_pos (by decide), if_pos (by decide), b1_bits _ o.e, ch_bits _ _ _ o.e o.f o.g, b0_bits _ o.a, maj_bits _ _ _ o.a o.b o.c, i32_L8]
  congr 1
  unfold rnd tt uu
  simp only [List.cons.injEq, true_and, and_true]
  refine ⟨?_, ?_⟩ <;> (unfold M; omega)
theorem put_f : ∀ (s n K : Nat), n ≤ 18446744073709551615 → s + 1 ≤ K → s ≤ 100 → deedboxref01_Put.f K (n : Int) (s : Int) = some (i8 (putL n s))
  | 0, n, K, hn, hK, hs => by
    obtain ⟨K, rfl⟩ : ∃ m, K = m + 1 := ⟨K - 1, by omega⟩
    simp only [deedboxref01_Put.f]
    rw [if_pos (by omega)]; rfl
  | s + 1, n, K, hn, hK, hs => by
    obtain ⟨K, rfl⟩ : ∃ m, K = m + 1 := ⟨K - 1, by omega⟩
    simp only [deedboxref01_Put.f]
    have e1 : IntKind.u64.wrap (Int.tdiv (n : Int) 256) = ((n / 256 : Nat) : Int) := by rw [IntKind.wrap_u64, Int.tdiv_eq_ediv_of_nonneg (by omega)]; omega
    have e2 : wrap64 (((s + 1 : Nat) : Int) - 1) = (s : Int) := by unfold wrap64; omega
    have e3 : (Int.tmod (n : Int) 256) % 256 = ((UInt8.ofNat (n % 256)).toNat : Int) := by
      rw [Int.tmod_eq_emod_of_nonneg (by omega), UInt8.toNat_ofNat']; omega
    rw [if_neg (by omega), e1, e2, put_f s (n / 256) K (by omega) (by omega) (by omega)]
    simp only [Option.bind_some]
    rw [i8_length, putL_length, if_pos (by omega), e3]
    simp [putL, i8]
theorem rep_snoc (j : Nat) : List.replicate (j + 1) (0 : UInt8) = List.replicate j 0 ++ [0] := List.replicate_succ'
theorem padded_l0 (m : List UInt8) (hm : m.length < 1000000) (z : Nat) (hz : z = (119 - m.length % 64) % 64) (X : Nat) : ∀ n j, j + n = z →
    deedboxref02_Padded.l0 (n + 1 + (10 + X)) (i8 m) (i8 (m ++ 128 :: List.replicate j 0)) = some (i8 (m ++ padl m))
  | 0, j, e => by
    rw [show 0 + 1 + (10 + X) = (10 + X) + 1 by omega]
    simp only [deedboxref02_Padded.l0]
    have hl : (i8 (m ++ 128 :: List.replicate j 0)).length = m.length + 1 + j := by rw [i8_length]; simp; omega
    have e1 : IntKind.u64.wrap (8 * IntKind.u64.wrap ((i8 m).length : Int)) = ((8 * m.length : Nat) : Int) := by rw [i8_length, IntKind.wrap_u64, IntKind.wrap_u64]; omega
    have e2 : (8 : Int) = ((8 : Nat) : Int) := rfl
    rw [hl, if_pos (by omega), e1]
    rw [show deedboxref01_Put.f (10 + X) ((8 * m.length : Nat) : Int) 8 = some (i8 (putL (8 * m.length) 8)) from put_f 8 (8 * m.length) (10 + X) (by omega) (by omega) (by omega)]
    simp only [Option.bind_some]
    rw [i8_length (putL _ _), putL_length, if_pos (by omega), ← i8_append]
    congr 2
    unfold padl
    rw [rOf_length, Nat.mod_eq_of_lt (show 8 * m.length < 18446744073709551616 by omega), show j = (119 - m.length % 64) % 64 by omega]
    simp
  | n + 1, j, e => by
    rw [show n + 1 + 1 + (10 + X) = (n + 1 + (10 + X)) + 1 by omega]
    simp only [deedboxref02_Padded.l0]
    have hl : (i8 (m ++ 128 :: List.replicate j 0)).length = m.length + 1 + j := by rw [i8_length]; simp; omega
    rw [hl, if_neg (by omega), if_pos (by omega), ← padded_l0 m hm z hz X n (j + 1) (by omega)]
    congr 1
    rw [rep_snoc]
    simp [i8]
theorem padded_f (m : List UInt8) (hm : m.length < 1000000) : deedboxref02_Padded.f 100 (i8 m) = some (i8 (m ++ padl m)) := by
  unfold deedboxref02_Padded.f
  have hl := i8_length m
  simp only [List.length_nil, List.nil_append, Option.bind_some]
  rw [hl, if_pos (by omega), if_pos (by omega)]
  have h64 : (119 - m.length % 64) % 64 < 64 := Nat.mod_lt _ (by decide)
  have := padded_l0 m hm _ rfl (89 - (119 - m.length % 64) % 64) ((119 - m.length % 64) % 64) 0 (by omega)
  rw [show (119 - m.length % 64) % 64 + 1 + (10 + (89 - (119 - m.length % 64) % 64)) = 100 by omega] at this
  rw [show i8 m ++ [128] = i8 (m ++ 128 :: List.replicate 0 0) by simp [i8]]
  exact this
theorem constants_f : deedboxref02_constants.f = some (i32 kk) := by kernel_rfl
end Rs
end Go.Proofs.Ytljddghamgjfbaa
