/- octet's Put, Get, Join and Same, and the reference's Put and Get: what they answer. -/
import Derived.Test.YtljddghamgjfbaaBytes
import Derived.Laws.BitsAllLaws
import Derived.Laws.ShiftsVarLaws
set_option linter.unusedVariables false
set_option linter.unusedSimpArgs false
namespace Go.Proofs.Ytljddghamgjfbaa
open Go.RowKit

/-- A number in so many bytes, the highest first. -/
def putL (n : Nat) : Nat → List UInt8
  | 0 => []
  | s + 1 => putL (n / 256) s ++ [UInt8.ofNat (n % 256)]
theorem putL_length (n s : Nat) : (putL n s).length = s := by
  induction s generalizing n with
  | zero => rfl
  | succ s ih => simp [putL, ih]

theorem putL_snoc (n s k : Nat) (h : k < s) : putL (n / 256 ^ (s - (k + 1))) (k + 1) = putL (n / 256 ^ (s - k)) k ++ [UInt8.ofNat (n / 2 ^ (8 * (s - 1 - k)) % 256)] := by
  have e1 : n / 256 ^ (s - (k + 1)) / 256 = n / 256 ^ (s - k) := by
    rw [Nat.div_div_eq_div_mul, ← Nat.pow_succ, Nat.succ_eq_add_one, show s - (k + 1) + 1 = s - k by omega]
  have e2 : 2 ^ (8 * (s - 1 - k)) = 256 ^ (s - (k + 1)) := by
    rw [show s - 1 - k = s - (k + 1) by omega, Nat.pow_mul]
  rw [putL, e1, e2]
theorem byte_cast (m : Nat) : ((m : Int) % 256) = ((UInt8.ofNat (m % 256)).toNat : Int) := by
  rw [UInt8.toNat_ofNat']; omega
set_option maxRecDepth 100000 in
set_option maxHeartbeats 400000 in
theorem oPut_any (n size : Nat) (w : World) (hn : n ≤ 18446744073709551615) (hs : size ≤ 100000) :
    Calls Try.prog 74 #[.int .u64 (n : Int), .int .i64 (size : Int)] w fun e w' => ∃ v, e = .returned v ∧ Own w' w.heap.size v (putL n size) ∧ Ext No w w' := by
  go_enter Try.func74, Try.ntmps74
  go_wp2
  go_loopw [5, 6] (fun v i wr => ∃ k : Nat, k ≤ size ∧ i = .int .i64 ((size : Int) - 1 - k) ∧ Own wr w.heap.size v (putL (n / 256 ^ (size - k)) k) ∧ Ext No w wr) (fun _ i _ => (intOf i + 1).toNat)
  case atStart => exact ⟨0, by omega, by simp, Own.nil _ _, Ext.refl _ _⟩
  case round =>
    obtain ⟨k, hk, rfl, hown, hx⟩ := hrel
    have hpl := putL_length (n / 256 ^ (size - k)) k
    have hsz := hx.size
    by_cases hlt : k < size
    · have HS := Lib.hid (putL_snoc n size k hlt)
      by_cases h7 : 7 < (size : Int) - 1 - k
      · have e0 : UInt8.ofNat (n / 2 ^ (8 * (size - 1 - k)) % 256) = UInt8.ofNat 0 := by
          have : n / 2 ^ (8 * (size - 1 - k)) = 0 := by
            rw [Nat.div_eq_of_lt]
            refine Nat.lt_of_le_of_lt hn ?_
            exact Nat.lt_of_lt_of_le (by decide : 18446744073709551615 < 2 ^ 64) (Nat.pow_le_pow_right (by omega) (by omega))
          rw [this]
        rw [e0] at HS
        have H0 := Lib.hid hpl
        clear e0 hpl
        go_wp2_with (at_builtin; refine app_bytes (.tmp 15) (.tmp 16) rfl rfl w.heap.size u5 _ _ [UInt8.ofNat 0] rfl rfl (hown.alloc _) _ (bs_lit1' wr 0 (UInt8.ofNat 0) rfl) (by rw [H0.out]; simp; omega) (by simp; omega) ?_; intro v' w1 hown1 hg1 hat1)
        go_roundw
        case rel =>
          refine ⟨k + 1, by omega, by congr 1; omega, ?_, (hx.alloc _).grown hg1 (fun j hj hl => ?_)⟩
          · rw [HS.out]; exact hown1
          · exact absurd hl (by have := (hown.lt j hj).1; omega)
        case measure => simp [intOf]; omega
      · have H0 := Lib.hid hpl
        have HZ := Lib.hid (byte_cast (n / 2 ^ (8 * (size - 1 - k))))
        clear hpl
        go_wp2_with (at_builtin; refine app_bytes (.tmp 18) (.tmp 24) rfl rfl w.heap.size u5 _ _ [UInt8.ofNat (n / 2 ^ (8 * (size - 1 - k)) % 256)] rfl rfl (hown.alloc _) _ (bs_lit1' wr _ (UInt8.ofNat (n / 2 ^ (8 * (size - 1 - k)) % 256)) (by rw [← HZ.out]; simp)) (by rw [H0.out]; simp; omega) (by simp; omega) ?_; intro v' w1 hown1 hg1 hat1)
        go_roundw
        case rel =>
          refine ⟨k + 1, by omega, by congr 1; omega, ?_, (hx.alloc _).grown hg1 (fun j hj hl => ?_)⟩
          · rw [HS.out]; exact hown1
          · exact absurd hl (by have := (hown.lt j hj).1; omega)
        case measure => simp [intOf]; omega
    · obtain rfl : k = size := by omega
      clear hpl
      go_wp2
      go_ret
      exact ⟨_, rfl, by simpa using hown, hx⟩

set_option maxRecDepth 100000 in
set_option maxHeartbeats 400000 in
theorem rPut_nat (s : Nat) : ∀ (n : Nat) (w : World), n ≤ 18446744073709551615 → s ≤ 100000 →
    Calls Try.prog 80 #[.int .u64 (n : Int), .int .i64 (s : Int)] w fun e w' => ∃ v, e = .returned v ∧ Own w' w.heap.size v (putL n s) ∧ Ext No w w' := by
  induction s with
  | zero =>
    intro n w hn hs
    go_enter Try.func80, Try.ntmps80
    go_wp2_with fail
    go_ret
    exact ⟨_, rfl, Own.nil _ _, Ext.refl _ _⟩
  | succ s ih =>
    intro n w hn hs
    have hz : ¬ ((s + 1 : Nat) : Int) < 1 := by omega
    have hpl := Lib.hid (putL_length (n / 256) s)
    have HZ := Lib.hid (byte_cast n)
    have IH := Lib.hid (ih (n / 256) w (by omega) (by omega))
    have e1 : Hid ((((s + 1 : Nat) : Int) - 1) = (s : Int)) := by show _ = _; omega
    have e2 : Hid (((n : Int) / 256) = ((n / 256 : Nat) : Int)) := by show _ = _; omega
    clear ih
    go_enter Try.func80, Try.ntmps80
    go_wp2_with fail
    rw [e2.out]
    refine IH.out.mono ?_
    rintro e w1 ⟨v1, rfl, hown, hx⟩
    have hsz := hx.size
    go_wp2_with (at_builtin; go_must (refine app_bytes (.tmp 11) (.tmp 15) rfl rfl w.heap.size v1 _ _ [UInt8.ofNat (n % 256)] rfl rfl (hown.alloc _) _ (bs_lit1' w1 _ (UInt8.ofNat (n % 256)) (by first | exact HZ.out | (rw [← HZ.out]; simp))) (by rw [hpl.out]; simp; omega) (by simp; omega) ?_); intro v' w2 hown1 hg1 hat1)
    go_ret
    refine ⟨_, rfl, hown1, (hx.alloc _).grown hg1 (fun j hj hl => ?_)⟩
    exact absurd hl (by have := (hown.lt j hj).1; omega)

/-- The number of bytes, the highest first, in 64 bits. -/
def getL (l : List UInt8) : Nat := l.foldl (fun n b => (n * 256 + b.toNat) % 18446744073709551616) 0
theorem getL_snoc (l : List UInt8) (b : UInt8) : getL (l ++ [b]) = (getL l * 256 + b.toNat) % 18446744073709551616 := by simp [getL]
theorem getL_lt (l : List UInt8) : getL l < 18446744073709551616 := by
  rcases List.eq_nil_or_concat l with rfl | ⟨m, b, rfl⟩
  · decide
  · rw [List.concat_eq_append, getL_snoc]; omega

theorem get_step1 (x b : Nat) : IntKind.u64.wrap (IntKind.u64.wrap ((x : Int) * 256) + (b : Int)) = (((x * 256 + b) % 18446744073709551616 : Nat) : Int) := by
  rw [IntKind.wrap_u64, IntKind.wrap_u64]; omega
theorem get_step2 (x b : Nat) (hb : b < 256) : bits .or .u64 (IntKind.u64.wrap ((x : Int) * 256)) (b : Int) = (((x * 256 + b) % 18446744073709551616 : Nat) : Int) := by
  have e : IntKind.u64.wrap ((x : Int) * 256) = ((x * 256 % 18446744073709551616 : Nat) : Int) := by rw [IntKind.wrap_u64]; omega
  rw [e, u64_or_nat _ _ (Nat.mod_lt _ (by omega)) (by omega)]
  have e2 : x * 256 % 18446744073709551616 = (x % 72057594037927936) <<< 8 := by rw [Nat.shiftLeft_eq]; omega
  rw [e2, ← Nat.shiftLeft_add_eq_or_of_lt (show b < 2 ^ 8 by omega), Nat.shiftLeft_eq]
  congr 1
  omega
set_option maxRecDepth 100000 in
set_option maxHeartbeats 400000 in
theorem rGet_any (v : Value) (l : List UInt8) (w : World) (h : Bs w Any v l) :
    Calls Try.prog 101 #[v] w fun e w' => e = .returned (.int .u64 (getL l : Int)) ∧ w = w' := by
  obtain ⟨A, c, rfl, hc, hm, b, o, hA⟩ := h.slice
  unfold maxLen at hm
  have HA := Lib.hid hA
  clear hA h
  go_enter Try.func101, Try.ntmps101
  go_wp2
  go_loop [3, 4] (fun n i => ∃ k : Nat, k ≤ l.length ∧ i = .int .i64 k ∧ n = .int .u64 (getL (l.take k) : Int)) (fun _ i => l.length - (intOf i).toNat)
  case atStart => exact ⟨0, by omega, rfl, by simp [getL]⟩
  case round =>
    obtain ⟨k, hk, rfl, rfl⟩ := hrel
    have hg := getL_lt (l.take k)
    by_cases hlt : k < l.length
    · obtain ⟨rfl, _, _, e1⟩ := HA.out k hlt
      have hb := l[k].toNat_lt
      have HT : Hid (l.take (k + 1) = l.take k ++ [l[k]]) := List.take_succ_eq_append_getElem hlt
      go_wp2
      go_round
      case rel => exact ⟨k + 1, by omega, by go_num, by rw [HT.out, getL_snoc, get_step1]⟩
      case measure => simp [intOf]; omega
    · rw [List.take_of_length_le (by omega)]
      go_wp2
      go_ret
      exact ⟨rfl, rfl⟩

set_option maxRecDepth 100000 in
set_option maxHeartbeats 400000 in
theorem oGet_any (v : Value) (l : List UInt8) (w : World) (h : Bs w Any v l) :
    Calls Try.prog 71 #[v] w fun e w' => e = .returned (.int .u64 (getL l : Int)) ∧ w = w' := by
  obtain ⟨A, c, rfl, hc, hm, b, o, hA⟩ := h.slice
  unfold maxLen at hm
  have HA := Lib.hid hA
  clear hA h
  go_enter Try.func71, Try.ntmps71
  go_wp2
  go_loop [3, 8] (fun n i => ∃ k : Nat, k ≤ l.length ∧ i = .int .i64 k ∧ n = .int .u64 (getL (l.take k) : Int)) (fun _ i => l.length - (intOf i).toNat)
  case atStart => exact ⟨0, by omega, rfl, by simp [getL]⟩
  case round =>
    obtain ⟨k, hk, rfl, rfl⟩ := hrel
    have hg := getL_lt (l.take k)
    by_cases hlt : k < l.length
    · obtain ⟨rfl, _, _, e1⟩ := HA.out k hlt
      have hb := l[k].toNat_lt
      have HT : Hid (l.take (k + 1) = l.take k ++ [l[k]]) := List.take_succ_eq_append_getElem hlt
      go_wp2
      go_round
      case rel => exact ⟨k + 1, by omega, by go_num, by rw [HT.out, getL_snoc, get_step2 _ _ hb]⟩
      case measure => simp [intOf]; omega
    · rw [List.take_of_length_le (by omega)]
      go_wp2
      go_ret
      exact ⟨rfl, rfl⟩

/-- v is a slice of rows of bytes; all lie in blocks of F. -/
def Parts (w : World) (F : Nat → Prop) (v : Value) (ls : List (List UInt8)) : Prop :=
  ∃ vs : List Value, Sl w F 1 v ls.length vs ∧ ∀ i, (hi : i < ls.length) → ∃ u, vs[i]? = some u ∧ Bs w F u ls[i]
section
variable {S F F' : Nat → Prop} {w w' : World} {v : Value} {ls : List (List UInt8)}
theorem Parts.slice (h : Parts w F v ls) : ∃ A c, v = .slice A ls.length c ∧ ls.length ≤ c ∧ c ≤ maxLen ∧
    ∃ b off, ∀ k, (hk : k < ls.length) → ∃ A' c', A = some ⟨b, off, none⟩ ∧ (F b ∧ b < w.heap.size) ∧ w.cell? ⟨b, off + k, none⟩ = some (.slice A' ls[k].length c') ∧ Bs w F (.slice A' ls[k].length c') ls[k] := by
  obtain ⟨vs, ⟨h1, A, c, hv, hc, hm, hn⟩, hr⟩ := h
  refine ⟨A, c, hv, hc, hm, ?_⟩
  rcases Nat.eq_zero_or_pos ls.length with h0 | h0
  · exact ⟨0, 0, fun k hk => absurd hk (by omega)⟩
  · obtain ⟨b, off, hA, hF, hcell⟩ := hn h0
    refine ⟨b, off, fun k hk => ?_⟩
    obtain ⟨u, hu, hb⟩ := hr k hk
    obtain ⟨A', c', rfl, _⟩ := hb.slice
    have := hcell k _ hu
    exact ⟨A', c', hA, ⟨hF, World.block_lt_of_cell? w _ this⟩, this, hb⟩
theorem Parts.ext (h : Parts w F v ls) (he : Ext S w w') (hd : ∀ b, F b → b < w.heap.size → ¬ S b) : Parts w' F v ls := by
  obtain ⟨vs, hs, hr⟩ := h
  refine ⟨vs, hs.ext he hd, fun i hi => ?_⟩
  obtain ⟨u, hu, hb⟩ := hr i hi
  exact ⟨u, hu, hb.ext he hd⟩
theorem Parts.ext_no (h : Parts w F v ls) (he : Ext No w w') : Parts w' F v ls := h.ext he (fun _ _ _ h => h)
theorem Parts.mono (h : Parts w F v ls) (hF : ∀ b, F b → F' b) : Parts w F' v ls := by
  obtain ⟨vs, hs, hr⟩ := h
  refine ⟨vs, hs.mono hF, fun i hi => ?_⟩
  obtain ⟨u, hu, hb⟩ := hr i hi
  exact ⟨u, hu, hb.mono hF⟩
end
theorem Parts.drew {F : Nat → Prop} {w : World} {v : Value} {ls : List (List UInt8)} (h : Parts w F v ls) : Parts w.drew F v ls := h
theorem Parts.drewN {F : Nat → Prop} {w : World} {v : Value} {ls : List (List UInt8)} (h : Parts w F v ls) (n : Nat) : Parts (w.drewN n) F v ls := h
/-- Rows that are laid side by side for a call. -/
theorem Parts.lit {w : World} {F : Nat → Prop} {vs : List Value} {ls : List (List UInt8)} (hF : F w.heap.size) (hl : vs.length = ls.length) (hm : ls.length ≤ maxLen) (h : ∀ i, (hi : i < ls.length) → ∃ u, vs[i]? = some u ∧ Bs w F u ls[i]) {g : Nat} (hg : g = w.heap.size := by simp) :
    Parts (w.alloc (.cells vs.toArray 27)) F (.slice (some ⟨g, 0, none⟩) ls.length ls.length) ls := by
  subst hg
  refine ⟨vs, ⟨by simp [hl], _, _, rfl, Nat.le_refl _, hm, fun _ => ⟨w.heap.size, 0, rfl, hF, fun j u hu => ?_⟩⟩, fun i hi => ?_⟩
  · rw [Nat.zero_add, (Blk.new w 27 vs.toArray).cell j]
    simpa using hu
  · obtain ⟨u, hu, hb⟩ := h i hi
    exact ⟨u, hu, hb.ext_no ((Ext.refl _ _).alloc _)⟩
section
variable {w : World} {F : Nat → Prop} {v1 v2 v3 v4 : Value} {l1 l2 l3 l4 : List UInt8} {g : Nat}
theorem Parts.lit1 (h1 : Bs w F v1 l1) (hF : F w.heap.size) (hg : g = w.heap.size := by simp) : Parts (w.alloc (.cells #[v1] 27)) F (.slice (some ⟨g, 0, none⟩) 1 1) [l1] :=
  Parts.lit (vs := [v1]) (ls := [l1]) hF rfl (by simp [maxLen]) (fun i hi => by
    match i, hi with
    | 0, _ => exact ⟨_, rfl, h1⟩) hg
theorem Parts.lit2 (h1 : Bs w F v1 l1) (h2 : Bs w F v2 l2) (hF : F w.heap.size) (hg : g = w.heap.size := by simp) : Parts (w.alloc (.cells #[v1, v2] 27)) F (.slice (some ⟨g, 0, none⟩) 2 2) [l1, l2] :=
  Parts.lit (vs := [v1, v2]) (ls := [l1, l2]) hF rfl (by simp [maxLen]) (fun i hi => by
    match i, hi with
    | 0, _ => exact ⟨_, rfl, h1⟩
    | 1, _ => exact ⟨_, rfl, h2⟩) hg
theorem Parts.lit3 (h1 : Bs w F v1 l1) (h2 : Bs w F v2 l2) (h3 : Bs w F v3 l3) (hF : F w.heap.size) (hg : g = w.heap.size := by simp) : Parts (w.alloc (.cells #[v1, v2, v3] 27)) F (.slice (some ⟨g, 0, none⟩) 3 3) [l1, l2, l3] :=
  Parts.lit (vs := [v1, v2, v3]) (ls := [l1, l2, l3]) hF rfl (by simp [maxLen]) (fun i hi => by
    match i, hi with
    | 0, _ => exact ⟨_, rfl, h1⟩
    | 1, _ => exact ⟨_, rfl, h2⟩
    | 2, _ => exact ⟨_, rfl, h3⟩) hg
theorem Parts.lit4 (h1 : Bs w F v1 l1) (h2 : Bs w F v2 l2) (h3 : Bs w F v3 l3) (h4 : Bs w F v4 l4) (hF : F w.heap.size) (hg : g = w.heap.size := by simp) : Parts (w.alloc (.cells #[v1, v2, v3, v4] 27)) F (.slice (some ⟨g, 0, none⟩) 4 4) [l1, l2, l3, l4] :=
  Parts.lit (vs := [v1, v2, v3, v4]) (ls := [l1, l2, l3, l4]) hF rfl (by simp [maxLen]) (fun i hi => by
    match i, hi with
    | 0, _ => exact ⟨_, rfl, h1⟩
    | 1, _ => exact ⟨_, rfl, h2⟩
    | 2, _ => exact ⟨_, rfl, h3⟩
    | 3, _ => exact ⟨_, rfl, h4⟩) hg
end
theorem flat_take (ls : List (List UInt8)) (k : Nat) (hk : k < ls.length) : (ls.take (k + 1)).flatten = (ls.take k).flatten ++ ls[k] := by
  rw [List.take_succ_eq_append_getElem hk, List.flatten_append, List.flatten_singleton]
/-- How many bytes the first k rows have. -/
def flen (ls : List (List UInt8)) (k : Nat) : Nat := (ls.take k).flatten.length
theorem flen_succ (ls : List (List UInt8)) (k : Nat) (hk : k < ls.length) : flen ls (k + 1) = flen ls k + ls[k].length := by
  unfold flen; rw [flat_take ls k hk, List.length_append]
theorem flen_all (ls : List (List UInt8)) : flen ls ls.length = ls.flatten.length := by unfold flen; rw [List.take_length]
theorem flen_le (ls : List (List UInt8)) (k : Nat) : flen ls k ≤ ls.flatten.length := by
  unfold flen
  have h := congrArg (fun l => l.flatten.length) (List.take_append_drop k ls)
  simp only [List.flatten_append, List.length_append] at h
  omega

set_option maxRecDepth 100000 in
set_option maxHeartbeats 400000 in
theorem oJoin_any (F : Nat → Prop) (v : Value) (ls : List (List UInt8)) (w : World) (h : Parts w F v ls) (hb : ls.flatten.length ≤ 140737488351232) :
    Calls Try.prog 73 #[v] w fun e w' => ∃ A n c, e = .returned (.slice A n c) ∧ Own w' w.heap.size (.slice A n c) ls.flatten ∧ Ext No w w' := by
  obtain ⟨A, c, rfl, hc, hm, b, o, hA⟩ := h.slice
  unfold maxLen at hm
  have HA := Lib.hid hA
  have HF := Lib.hid (flat_take ls)
  have HE := Lib.hid (flen_le ls)
  have HS := Lib.hid (flen_succ ls)
  have HB := Lib.hid hb
  have hball : flen ls ls.length ≤ 140737488351232 := by rw [flen_all]; exact hb
  obtain ⟨i0, hi, hz0, hz1, hz2⟩ := info_parts info_u8
  clear hA h hb
  go_enter Try.func73, Try.ntmps73
  go_wp2
  go_loop [3, 11] (fun n i => ∃ k : Nat, k ≤ ls.length ∧ i = .int .i64 k ∧ n = .int .i64 (flen ls k : Int)) (fun _ i => ls.length - (intOf i).toNat)
  case atStart => exact ⟨0, by omega, rfl, by simp [flen]⟩
  case round =>
    obtain ⟨k, hk, rfl, rfl⟩ := hrel
    by_cases hlt : k < ls.length
    · obtain ⟨A', c', rfl, _, e1, hbs⟩ := HA.out k hlt
      have h1 := HE.out (k + 1)
      have h2 := HS.out k hlt
      have h3 := HB.out
      have h4 : flen ls k + ls[k].length ≤ 140737488351232 := by omega
      have H3 := Lib.hid h2
      clear h1 h2 h3
      go_wp2
      go_round
      case rel => exact ⟨k + 1, by omega, by go_num, by rw [H3.out]; go_num⟩
      case measure => simp [intOf]; omega
    · obtain rfl : k = ls.length := by omega
      go_wp2_with (at_make; refine wpList_make_own _ rfl _ _ _ rfl w.heap.size 5 i0 (.int .u8 0) 1 Try.underlying27 hi hz0 hz1 .i64 .i64 _ (flen ls ls.length) rfl rfl rfl (by rw [hz2]; omega) (by unfold maxLen; omega) (Nat.le_refl _) ?_; intro w1 hown hgrow)
      have hx1 : Ext No w w1 := (Ext.refl No w).grown hgrow (fun k hk => by cases hk)
      have hown1 : Own w1 w.heap.size (.slice (some ⟨w.heap.size, 0, none⟩) 0 (flen ls ls.length)) [] := hown
      clear hown hgrow
      go_loopw [6, 24] (fun v i wr => ∃ k : Nat, k ≤ ls.length ∧ i = .int .i64 k ∧ Own wr w.heap.size v (ls.take k).flatten ∧ Ext No w wr) (fun _ i _ => ls.length - (intOf i).toNat)
      case atStart => exact ⟨0, by omega, rfl, by simpa using hown1, hx1⟩
      case round =>
        obtain ⟨k, hk, rfl, hown, hx⟩ := hrel
        have hsz := hx.size
        by_cases hlt : k < ls.length
        · obtain ⟨A', c', rfl, ⟨_, hbl⟩, e1, hbs⟩ := HA.out k hlt
          have e2 : wr.cell? ⟨b, o + k, none⟩ = _ := (hx.cell (p := ⟨b, o + k, none⟩) hbl (fun h => h)).trans e1
          have hbs2 := hbs.ext_no hx
          have h1 := HE.out (k + 1)
          have h2 := HS.out k hlt
          have h3 := HB.out
          have h4 : (ls.take k).flatten.length + ls[k].length ≤ 140737488351232 := by unfold flen at *; omega
          have H2 := Lib.hid (HF.out k hlt)
          have H4 := Lib.hid h4
          clear h1 h2 h3 h4 e1
          go_wp2_with (at_builtin; refine app_bytes (.tmp 28) (.tmp 29) rfl rfl w.heap.size u6 _ _ _ rfl rfl hown _ hbs2 (by have := H4.out; omega) hsz ?_; intro v' w2 hown2 hg2 hat2)
          go_roundw
          case rel =>
            refine ⟨k + 1, by omega, by go_num, by rw [H2.out]; exact hown2, hx.grown hg2 (fun j hj hl => ?_)⟩
            exact absurd hl (by have := (hown.lt j hj).1; omega)
          case measure => simp [intOf]; omega
        · obtain rfl : k = ls.length := by omega
          rw [List.take_length] at hown
          go_wp2
          obtain ⟨Ar, cr, rfl, _⟩ := hown.slice
          go_ret
          exact ⟨_, _, _, rfl, hown, hx⟩
end Go.Proofs.Ytljddghamgjfbaa
