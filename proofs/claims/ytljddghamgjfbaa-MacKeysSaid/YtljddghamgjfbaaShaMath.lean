/- SHA-256 on lists of numbers. Plain Lean; no condition. -/
import Derived.Test.YtljddghamgjfbaaOctet
set_option linter.unusedVariables false
set_option linter.unusedSimpArgs false
namespace Go.Proofs.Ytljddghamgjfbaa
namespace Sh

abbrev M : Nat := 4294967296
def rotr (n x : Nat) : Nat := x / 2 ^ n ||| x * 2 ^ (32 - n) % M
def s0 (x : Nat) : Nat := rotr 7 x ^^^ rotr 18 x ^^^ x / 8
def s1 (x : Nat) : Nat := rotr 17 x ^^^ rotr 19 x ^^^ x / 1024
def b0 (x : Nat) : Nat := rotr 2 x ^^^ rotr 13 x ^^^ rotr 22 x
def b1 (x : Nat) : Nat := rotr 6 x ^^^ rotr 11 x ^^^ rotr 25 x
def ch (e f g : Nat) : Nat := (e &&& f) ^^^ ((4294967295 - e) &&& g)
def maj (a b c : Nat) : Nat := (a &&& b) ^^^ (a &&& c) ^^^ (b &&& c)
structure V8 where
  a : Nat
  b : Nat
  c : Nat
  d : Nat
  e : Nat
  f : Nat
  g : Nat
  h : Nat
structure V8.Ok (v : V8) : Prop where
  a : v.a < M
  b : v.b < M
  c : v.c < M
  d : v.d < M
  e : v.e < M
  f : v.f < M
  g : v.g < M
  h : v.h < M
def tt (k w : Nat) (v : V8) : Nat := ((((v.h + b1 v.e) % M + ch v.e v.f v.g) % M + k) % M + w) % M
def uu (v : V8) : Nat := (b0 v.a + maj v.a v.b v.c) % M
def rnd (k w : Nat) (v : V8) : V8 := ⟨(tt k w v + uu v) % M, v.a, v.b, v.c, (v.d + tt k w v) % M, v.e, v.f, v.g⟩
def kk : List Nat := [
  0x428a2f98, 0x71374491, 0xb5c0fbcf, 0xe9b5dba5, 0x3956c25b, 0x59f111f1, 0x923f82a4, 0xab1c5ed5,
  0xd807aa98, 0x12835b01, 0x243185be, 0x550c7dc3, 0x72be5d74, 0x80deb1fe, 0x9bdc06a7, 0xc19bf174,
  0xe49b69c1, 0xefbe4786, 0x0fc19dc6, 0x240ca1cc, 0x2de92c6f, 0x4a7484aa, 0x5cb0a9dc, 0x76f988da,
  0x983e5152, 0xa831c66d, 0xb00327c8, 0xbf597fc7, 0xc6e00bf3, 0xd5a79147, 0x06ca6351, 0x14292967,
  0x27b70a85, 0x2e1b2138, 0x4d2c6dfc, 0x53380d13, 0x650a7354, 0x766a0abb, 0x81c2c92e, 0x92722c85,
  0xa2bfe8a1, 0xa81a664b, 0xc24b8b70, 0xc76c51a3, 0xd192e819, 0xd6990624, 0xf40e3585, 0x106aa070,
  0x19a4c116, 0x1e376c08, 0x2748774c, 0x34b0bcb5, 0x391c0cb3, 0x4ed8aa4a, 0x5b9cca4f, 0x682e6ff3,
  0x748f82ee, 0x78a5636f, 0x84c87814, 0x8cc70208, 0x90befffa, 0xa4506ceb, 0xbef9a3f7, 0xc67178f2]
def h0 : V8 := ⟨0x6a09e667, 0xbb67ae85, 0x3c6ef372, 0xa54ff53a, 0x510e527f, 0x9b05688c, 0x1f83d9ab, 0x5be0cd19⟩
/-- The next word of a block's. -/
def nxt (b : List UInt8) (n : Nat) (l : List Nat) : Nat :=
  if n < 16 then getL ((b.take (4 * n + 4)).drop (4 * n)) % M else (((l.getD (n - 16) 0 + s0 (l.getD (n - 15) 0)) % M + l.getD (n - 7) 0) % M + s1 (l.getD (n - 2) 0)) % M
def wl (b : List UInt8) : Nat → List Nat
  | 0 => []
  | n + 1 => wl b n ++ [nxt b n (wl b n)]
/-- The eight words behind so many rounds. -/
def vr (w : List Nat) (h : V8) : Nat → V8
  | 0 => h
  | n + 1 => rnd (kk.getD n 0) (w.getD n 0) (vr w h n)
def add8 (h v : V8) : V8 := ⟨(h.a + v.a) % M, (h.b + v.b) % M, (h.c + v.c) % M, (h.d + v.d) % M, (h.e + v.e) % M, (h.f + v.f) % M, (h.g + v.g) % M, (h.h + v.h) % M⟩
def comp (h : V8) (b : List UInt8) : V8 := add8 h (vr (wl b 64) h 64)
def run : Nat → V8 → List UInt8 → V8
  | 0, h, _ => h
  | n + 1, h, l => run n (comp h (l.take 64)) (l.drop 64)
def nb (l : List UInt8) : Nat := l.length / 64
def hOf (m : List UInt8) : V8 := run (nb m) h0 m
def rOf (m : List UInt8) : List UInt8 := m.drop (64 * nb m)
def padl (m : List UInt8) : List UInt8 := 128 :: List.replicate ((119 - (rOf m).length) % 64) 0 ++ putL (8 * m.length % 18446744073709551616) 8
def dig (h : V8) : List UInt8 := putL h.a 4 ++ putL h.b 4 ++ putL h.c 4 ++ putL h.d 4 ++ putL h.e 4 ++ putL h.f 4 ++ putL h.g 4 ++ putL h.h 4
def sha (m : List UInt8) : List UInt8 := dig (hOf (m ++ padl m))

theorem rotr_lt (n x : Nat) (h : x < M) (hn : n ≤ 32) : rotr n x < M := by
  unfold rotr
  exact Nat.or_lt_two_pow (n := 32) (Nat.lt_of_le_of_lt (Nat.div_le_self _ _) h) (Nat.mod_lt _ (by decide))
theorem xor_lt {x y : Nat} (hx : x < M) (hy : y < M) : x ^^^ y < M := Nat.xor_lt_two_pow (n := 32) hx hy
theorem and_lt {x y : Nat} (hx : x < M) : x &&& y < M := Nat.lt_of_le_of_lt Nat.and_le_left hx
theorem s0_lt (x : Nat) (h : x < M) : s0 x < M := xor_lt (xor_lt (rotr_lt _ _ h (by omega)) (rotr_lt _ _ h (by omega))) (by unfold M at *; omega)
theorem s1_lt (x : Nat) (h : x < M) : s1 x < M := xor_lt (xor_lt (rotr_lt _ _ h (by omega)) (rotr_lt _ _ h (by omega))) (by unfold M at *; omega)
theorem b0_lt (x : Nat) (h : x < M) : b0 x < M := xor_lt (xor_lt (rotr_lt _ _ h (by omega)) (rotr_lt _ _ h (by omega))) (rotr_lt _ _ h (by omega))
theorem b1_lt (x : Nat) (h : x < M) : b1 x < M := xor_lt (xor_lt (rotr_lt _ _ h (by omega)) (rotr_lt _ _ h (by omega))) (rotr_lt _ _ h (by omega))
theorem ch_lt (e f g : Nat) (h : e < M) : ch e f g < M := xor_lt (and_lt h) (and_lt (by unfold M; omega))
theorem maj_lt (a b c : Nat) (ha : a < M) (hb : b < M) : maj a b c < M := xor_lt (xor_lt (and_lt ha) (and_lt ha)) (and_lt hb)
theorem tt_lt (k w : Nat) (v : V8) : tt k w v < M := Nat.mod_lt _ (by decide)
theorem uu_lt (v : V8) : uu v < M := Nat.mod_lt _ (by decide)
theorem rnd_ok (k w : Nat) (v : V8) (h : v.Ok) : (rnd k w v).Ok := ⟨Nat.mod_lt _ (by decide), h.a, h.b, h.c, Nat.mod_lt _ (by decide), h.e, h.f, h.g⟩
theorem vr_ok (w : List Nat) (h : V8) (ho : h.Ok) (n : Nat) : (vr w h n).Ok := by
  induction n with
  | zero => exact ho
  | succ n ih => exact rnd_ok _ _ _ ih
theorem add8_ok (h v : V8) : (add8 h v).Ok := ⟨Nat.mod_lt _ (by decide), Nat.mod_lt _ (by decide), Nat.mod_lt _ (by decide), Nat.mod_lt _ (by decide), Nat.mod_lt _ (by decide), Nat.mod_lt _ (by decide), Nat.mod_lt _ (by decide), Nat.mod_lt _ (by decide)⟩
theorem h0_ok : h0.Ok := ⟨by decide, by decide, by decide, by decide, by decide, by decide, by decide, by decide⟩
theorem run_ok (n : Nat) : ∀ (h : V8) (l : List UInt8), h.Ok → (run n h l).Ok := by
  induction n with
  | zero => intro h l ho; exact ho
  | succ n ih => intro h l ho; exact ih _ _ (add8_ok _ _)
theorem hOf_ok (m : List UInt8) : (hOf m).Ok := run_ok _ _ _ h0_ok
theorem wl_length (b : List UInt8) (n : Nat) : (wl b n).length = n := by
  induction n with
  | zero => rfl
  | succ n ih => simp only [wl]; rw [List.length_append, ih]; rfl
theorem nxt_lt (b : List UInt8) (n : Nat) (l : List Nat) : nxt b n l < M := by
  unfold nxt
  split <;> exact Nat.mod_lt _ (by decide)
theorem wl_lt (b : List UInt8) (n : Nat) : ∀ x ∈ wl b n, x < M := by
  induction n with
  | zero => intro x h; cases h
  | succ n ih =>
    intro x h
    simp only [wl, List.mem_append, List.mem_singleton] at h
    rcases h with h | rfl
    · exact ih x h
    · exact nxt_lt _ _ _
theorem getD_lt {l : List Nat} (h : ∀ x ∈ l, x < M) (i : Nat) : l.getD i 0 < M := by
  rw [List.getD_eq_getElem?_getD]
  cases e : l[i]? with
  | none => exact (by decide : (0 : Nat) < M)
  | some x => exact h x (List.mem_of_getElem? e)
theorem kk_lt : ∀ x ∈ kk, x < M := by decide
theorem run_add (a b : Nat) : ∀ (h : V8) (l : List UInt8), run (a + b) h l = run b (run a h l) (l.drop (64 * a)) := by
  induction a with
  | zero => intro h l; simp [run]
  | succ a ih =>
    intro h l
    rw [show a + 1 + b = (a + b) + 1 by omega]
    simp only [run]
    rw [ih, List.drop_drop]
    congr 2
    omega
theorem run_take (a : Nat) : ∀ (h : V8) (l l' : List UInt8), l.take (64 * a) = l'.take (64 * a) → run a h l = run a h l' := by
  induction a with
  | zero => intro h l l' _; rfl
  | succ a ih =>
    intro h l l' e
    simp only [run]
    have e1 : l.take 64 = l'.take 64 := by
      have := congrArg (List.take 64) e
      rwa [List.take_take, List.take_take, Nat.min_eq_left (by omega)] at this
    rw [e1]
    apply ih
    have := congrArg (List.drop 64) e
    rwa [List.drop_take, List.drop_take, show 64 * (a + 1) - 64 = 64 * a by omega] at this
theorem rOf_length (m : List UInt8) : (rOf m).length = m.length % 64 := by
  unfold rOf nb
  rw [List.length_drop]; omega
/-- Some rounds of taking: what was read, and what is left. -/
theorem hOf_split (m : List UInt8) (k : Nat) (hk : 64 * k ≤ m.length) : hOf m = run (nb m - k) (run k h0 m) (m.drop (64 * k)) := by
  unfold hOf
  rw [← run_add]
  congr 1
  unfold nb
  omega
theorem hOf_old (m x : List UInt8) : run (nb m) h0 (m ++ x) = hOf m := by
  unfold hOf
  refine run_take _ _ _ _ ?_
  rw [List.take_append_of_le_length (by unfold nb; omega)]
theorem rOf_old (m x : List UInt8) : (m ++ x).drop (64 * nb m) = rOf m ++ x := by
  unfold rOf
  rw [List.drop_append_of_le_length (by unfold nb; omega)]
end Sh
end Go.Proofs.Ytljddghamgjfbaa
