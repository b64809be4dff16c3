/- Package aes: word, New. -/
import Derived.Test.YtljddghamgjfbaaAesMix
import Derived.Test.YtljddghamgjfbaaApp0
import Derived.Test.YtljddghamgjfbaaRegFacts
import Derived.ChangeKeysEq
set_option linter.unusedVariables false
set_option linter.unusedSimpArgs false
namespace Go.Proofs.Ytljddghamgjfbaa
open Go.RowKit Go.Deep Ae

theorem u32_and_255 (n : Nat) (h : n < 4294967296) : bits .and .u32 (n : Int) 255 = ((n % 256 : Nat) : Int) := by
  rw [show (255 : Int) = ((255 : Nat) : Int) from rfl, u32_and_nat _ _ h (by omega)]
  congr 1
  exact Nat.and_two_pow_sub_one_eq_mod n 8
theorem or_add (p q k : Nat) (h : q < 2 ^ k) : (p * 2 ^ k) ||| q = p * 2 ^ k + q := by
  rw [Nat.mul_comm, Nat.two_pow_add_eq_or_of_lt h]
theorem or4 (A B C D : UInt8) : bits .or .u32 (bits .or .u32 (bits .or .u32 ((A.toNat : Int) % 4294967296 * 16777216 % 4294967296) ((B.toNat : Int) % 4294967296 * 65536 % 4294967296)) ((C.toNat : Int) % 4294967296 * 256 % 4294967296)) ((D.toNat : Int) % 4294967296) = ((getL [A, B, C, D] : Nat) : Int) := by
  have ha := A.toNat_lt; have hb := B.toNat_lt; have hc := C.toNat_lt; have hd := D.toNat_lt
  rw [show ((A.toNat : Int) % 4294967296 * 16777216 % 4294967296) = ((A.toNat * 2 ^ 24 : Nat) : Int) by omega, show ((B.toNat : Int) % 4294967296 * 65536 % 4294967296) = ((B.toNat * 65536 : Nat) : Int) by omega,
    show ((C.toNat : Int) % 4294967296 * 256 % 4294967296) = ((C.toNat * 256 : Nat) : Int) by omega, show ((D.toNat : Int) % 4294967296) = ((D.toNat : Nat) : Int) by omega,
    u32_or_nat _ _ (by omega) (by omega), or_add _ _ 24 (by omega), show A.toNat * 2 ^ 24 + B.toNat * 65536 = (A.toNat * 256 + B.toNat) * 2 ^ 16 by omega,
    u32_or_nat _ _ (by omega) (by omega), or_add _ _ 16 (by omega), show (A.toNat * 256 + B.toNat) * 2 ^ 16 + C.toNat * 256 = ((A.toNat * 256 + B.toNat) * 256 + C.toNat) * 2 ^ 8 by omega,
    u32_or_nat _ _ (by omega) (by omega), or_add _ _ 8 (by omega), getL4]
set_option maxRecDepth 100000 in
set_option maxHeartbeats 2000000 in
theorem aWord_any (tg : Nat) (a b c d : UInt8) (w : World) (h : IsT w tg) : Calls Try.prog 84 #[pB tg, .int .u32 ((getL [a, b, c, d] : Nat) : Int)] w fun e w' => e = .returned (.int .u32 ((getL [bx a, bx b, bx c, bx d] : Nat) : Int)) ∧ ∃ n, w' = w.drewN n := by
  have ha := a.toNat_lt; have hb := b.toNat_lt; have hc := c.toNat_lt; have hd := d.toNat_lt
  rw [getL4 a b c d]
  obtain ⟨n, hn⟩ : ∃ n, ((a.toNat * 256 + b.toNat) * 256 + c.toNat) * 256 + d.toNat = n := ⟨_, rfl⟩
  rw [hn]
  have hnl : n < 4294967296 := by omega
  have e1 := h.box a
  have e2 := h.box b
  have e3 := h.box c
  have e4 := h.box d
  have q1 : (n : Int) / 16777216 = (a.toNat : Int) := by omega
  have q2 : bits .and .u32 ((n : Int) / 65536) 255 = (b.toNat : Int) := by
    rw [show (n : Int) / 65536 = ((n / 65536 : Nat) : Int) by omega, u32_and_255 _ (by omega)]; omega
  have q3 : bits .and .u32 ((n : Int) / 256) 255 = (c.toNat : Int) := by
    rw [show (n : Int) / 256 = ((n / 256 : Nat) : Int) by omega, u32_and_255 _ (by omega)]; omega
  have q4 : bits .and .u32 (n : Int) 255 = (d.toNat : Int) := by
    rw [u32_and_255 _ (by omega)]; omega
  have l1 : (a.toNat : Int) < 256 := by omega
  have l2 : (b.toNat : Int) < 256 := by omega
  have l3 : (c.toNat : Int) < 256 := by omega
  have l4 : (d.toNat : Int) < 256 := by omega
  obtain ⟨A, hA⟩ : ∃ x, bx a = x := ⟨_, rfl⟩
  obtain ⟨B, hB⟩ : ∃ x, bx b = x := ⟨_, rfl⟩
  obtain ⟨C, hC⟩ : ∃ x, bx c = x := ⟨_, rfl⟩
  obtain ⟨D, hD⟩ : ∃ x, bx d = x := ⟨_, rfl⟩
  rw [hA] at e1 ⊢
  rw [hB] at e2 ⊢
  rw [hC] at e3 ⊢
  rw [hD] at e4 ⊢
  obtain ⟨r, hr⟩ : ∃ r, getL [A, B, C, D] = r := ⟨_, rfl⟩
  rw [hr]
  have HR := Lib.hid hr
  clear hA hB hC hD hn h hr ha hb hc hd
  go_enter Try.func84, Try.ntmps84
  go_wp2_with fail
  go_quiet (fail)
  go_wp2_with fail
  go_ret
  exact ⟨congrArg (fun z => Ending.returned (Value.int .u32 z)) (by rw [← HR.out]; exact or4 A B C D), _, rfl⟩
/-- The words of a key. -/
def wrd (key : List UInt8) (j : Nat) : List UInt8 := nxtw key j (wds key j)
theorem wrd_len (key : List UInt8) (h : key.length = 32) (j : Nat) : (wrd key j).length = 4 := nxtw_length key h j
theorem wrd_low (key : List UInt8) (j : Nat) (h : j < 8) : wrd key j = (key.drop (4 * j)).take 4 := by unfold wrd nxtw; rw [if_pos h]
theorem wrd_high (key : List UInt8) (j : Nat) (h : 8 ≤ j) : wrd key j = xr (wrd key (j - 8)) (tw j (wrd key (j - 1))) := by
  show nxtw key j (wds key j) = _
  unfold nxtw
  rw [if_neg (by omega), wds_get key (by omega), wds_get key (by omega)]
  rfl
theorem wds_wrd (key : List UInt8) (n : Nat) : wds key n = (List.range n).map (wrd key) := by
  induction n with
  | zero => rfl
  | succ n ih =>
    simp only [wds]
    rw [List.range_succ, List.map_append, ← ih]
    rfl
theorem aNew_nil (kv : Value) (w : World) : Calls Try.prog 49 #[.pointer none, kv] w fun e w' => e = .returned (.tuple #[.pointer none, .int .i64 1]) ∧ Ext No w w' := by
  go_enter Try.func49, Try.ntmps49
  go_wp2_with fail
  go_ret2
  exact ⟨rfl, Ext.refl _ _⟩
theorem aNew_size (tg : Nat) (kv : Value) (key : List UInt8) (w : World) (h : Bs w Any kv key) (hl : key.length ≠ 32) : Calls Try.prog 49 #[pB tg, kv] w fun e w' => e = .returned (.tuple #[.pointer none, .int .i64 17]) ∧ Ext No w w' := by
  obtain ⟨A, c, rfl, hc, hm, -⟩ := h.slice
  have t1 : ((key.length : Int) == 32) = false := by simp; omega
  have t2 : ((key.length : Int) != 32) = true := by simp; omega
  clear h
  go_enter Try.func49, Try.ntmps49
  go_wp2_with fail
  go_ret2
  exact ⟨rfl, Ext.refl _ _⟩
theorem zc0 : Try.zeroCells118 = (Value.pointer none :: u8s (List.replicate 240 0)).toArray := by kernel_rfl
theorem zcC (tg : Nat) : Try.zeroCells118.setIfInBounds 0 (pB tg) = ciC tg (List.replicate 240 0) := by
  rw [zc0]
  unfold ciC
  rw [List.setIfInBounds_toArray, List.set_cons_zero]
theorem rot8 (a b c d : UInt8) : bits .or .u32 (((getL [a, b, c, d] : Nat) : Int) * 256 % 4294967296) (((getL [a, b, c, d] : Nat) : Int) / 16777216) = ((getL [b, c, d, a] : Nat) : Int) := by
  have ha := a.toNat_lt; have hb := b.toNat_lt; have hc := c.toNat_lt; have hd := d.toNat_lt
  rw [getL4, getL4]
  rw [show (((((a.toNat * 256 + b.toNat) * 256 + c.toNat) * 256 + d.toNat : Nat) : Int) * 256 % 4294967296) = ((((b.toNat * 256 + c.toNat) * 256 + d.toNat) * 2 ^ 8 : Nat) : Int) by omega,
    show ((((a.toNat * 256 + b.toNat) * 256 + c.toNat) * 256 + d.toNat : Nat) : Int) / 16777216 = (a.toNat : Int) by omega, u32_or_nat _ _ (by omega) (by omega), or_add _ _ 8 (by omega)]
theorem xor_top (a b c d r : UInt8) : bits .xor .u32 ((getL [a, b, c, d] : Nat) : Int) ((r.toNat : Int) % 4294967296 * 16777216 % 4294967296) = ((getL [a ^^^ r, b, c, d] : Nat) : Int) := by
  have hr := r.toNat_lt
  have e : ((r.toNat : Int) % 4294967296 * 16777216 % 4294967296) = ((getL [r, 0, 0, 0] : Nat) : Int) := by rw [getL4]; simp; omega
  rw [e, u32_xor_nat _ _ (getL4_lt rfl) (getL4_lt rfl), getL_xr rfl rfl]
  show ((getL [a ^^^ r, b ^^^ 0, c ^^^ 0, d ^^^ 0] : Nat) : Int) = _
  simp
/-- Within New, loop 1: so many words are made. -/
structure Nw (w0 : World) (tg : Nat) (key : List UInt8) (n : Nat) (w : World) : Prop where
  c : Blk w w0.heap.size 118 (ciC tg (List.replicate 240 0))
  l : ∃ L : List Nat, L.length = 60 ∧ (∀ j, j < n → L.getD j 0 = getL (wrd key j)) ∧ Blk w (w0.heap.size + 1) 119 (u32s L).toArray
  x : Ext No w0 w
theorem Nw.drewN {w0 w : World} {tg n : Nat} {key : List UInt8} (h : Nw w0 tg key n w) (k : Nat) : Nw w0 tg key n (w.drewN k) := ⟨h.c, h.l, h.x.drewN k⟩
theorem Nw.no {w0 w w' : World} {tg n : Nat} {key : List UInt8} (h : Nw w0 tg key n w) (hx : Ext No w w') : Nw w0 tg key n w' := by
  obtain ⟨L, h1, h2, h3⟩ := h.l
  exact ⟨h.c.ext_no hx, ⟨L, h1, h2, h3.ext_no hx⟩, h.x.trans hx⟩
theorem Nw.put {w0 w : World} {tg n : Nat} {key : List UInt8} (h : Nw w0 tg key n w) (hn : n < 60) : Nw w0 tg key (n + 1) (w.setCell ⟨w0.heap.size + 1, n, none⟩ (.int .u32 ((getL (wrd key n) : Nat) : Int))) := by
  obtain ⟨L, h1, h2, h3⟩ := h.l
  refine ⟨h.c.far (by simp) _, ⟨L.set n (getL (wrd key n)), by rw [List.length_set, h1], fun j hj => ?_, ?_⟩, Ext.setCell h.x (fun h => by have h : w0.heap.size + 1 < w0.heap.size := h; omega) _⟩
  · rw [getD_set _ _ _ _ _ (by omega)]
    by_cases e : n = j
    · subst e; rw [if_pos rfl]
    · rw [if_neg e, h2 j (by omega)]
  · have := Blk.set_ h3 n (.int .u32 ((getL (wrd key n) : Nat) : Int))
    rwa [u32s_set] at this
theorem Nw.get {w0 w : World} {tg n j : Nat} {key : List UInt8} (h : Nw w0 tg key n w) (hn : n ≤ 60) (hj : j < n) : w.cell? ⟨w0.heap.size + 1, j, none⟩ = some (.int .u32 ((getL (wrd key j) : Nat) : Int)) := by
  obtain ⟨L, h1, h2, h3⟩ := h.l
  rw [h3.cell, u32s_get _ _ (by omega), h2 j hj]
theorem Nw.at_ {w0 w : World} {tg n j : Nat} {key : List UInt8} (h : Nw w0 tg key n w) (hj : j < 60) : (∃ v, w.cell? ⟨w0.heap.size + 1, j, none⟩ = some v) ∧ w.frozen? ⟨w0.heap.size + 1, j, none⟩ = false := by
  obtain ⟨L, h1, h2, h3⟩ := h.l
  exact ⟨⟨_, (h3.cell j).trans (u32s_get _ _ (by omega))⟩, h3.frozen j⟩
theorem und_60 : Try.prog.underlying 119 = some (.array 60 104) := by kernel_rfl
theorem size_60 : (Try.prog.info? 119).map (·.size) = some 60 := by kernel_rfl
theorem info_w32 : (Try.prog.info? 104).map (fun i => (i.zero, i.size, i.bytes)) = some (some (.int .u32 0), 1, 4) := by kernel_rfl
theorem run_idx60 (AL : Array Value) (n : Nat) (v : Value) (w : World) (hn : n < 60) (h : AL[n]? = some v) : (Instr.index 119 (.agg AL) (.int .i64 (n : Int))).run Try.prog w = .ok v w := by
  have hp := run_part_plain (P := Try.prog) (e := 104) (w := w) (by kernel_rfl) (xs := AL) (off := n * 1) (by rw [Nat.mul_one]; exact h)
  obtain ⟨i, hi, hz0, hz1, hz2⟩ := info_parts info_w32
  rw [Nat.mul_one] at hp
  simp [Instr.index, run_underlying und_60, asIntOf, sizeOf, typeInfo, hi, hz1, hn, hp]
theorem setL_cons (x : Value) (vs : List Value) : ∀ (l : List Value) (o : Nat), setL (x :: l).toArray (o + 1) vs = (x :: (setL l.toArray o vs).toList).toArray := by
  induction vs with
  | nil => intro l o; simp [setL]
  | cons v r ih =>
    intro l o
    simp only [setL]
    rw [List.setIfInBounds_toArray, List.set_cons_succ, ih, List.setIfInBounds_toArray]
theorem setL_ci (tg : Nat) (M m : List UInt8) (off : Nat) (h : off + m.length ≤ M.length) : setL (ciC tg M) (1 + off) (u8s m) = ciC tg (M.take off ++ m ++ M.drop (off + m.length)) := by
  unfold ciC
  rw [Nat.add_comm 1 off, setL_cons, setL_u8s _ _ _ h]
/-- Within New, loop 2: so many words are laid as keys. -/
def upK (K : List UInt8) (n : Nat) : List UInt8 := K.take (4 * n) ++ List.replicate (240 - 4 * n) 0
structure Kw (w0 : World) (tg : Nat) (K : List UInt8) (n : Nat) (w : World) : Prop where
  c : Blk w w0.heap.size 118 (ciC tg (upK K n))
  x : Ext No w0 w
theorem upK_length (K : List UInt8) (n : Nat) (h : K.length = 240) (hn : n ≤ 60) : (upK K n).length = 240 := by
  unfold upK; rw [List.length_append, List.length_take, List.length_replicate]; omega
theorem upK_next (K M m : List UInt8) (n : Nat) (h : K.length = 240) (hn : n < 60) (hm : (K.take (4 * n + 4)).drop (4 * n) = m) (hM : M = upK K n ∨ M = upK K (n + 1)) : M.take (4 * n) ++ m ++ M.drop (4 * n + 4) = upK K (n + 1) := by
  have e1 : K.take (4 * n + 4) = K.take (4 * n) ++ m := by
    rw [← hm, List.drop_take, show 4 * n + 4 - 4 * n = 4 by omega, List.take_add]
  have l1 : (K.take (4 * n)).length = 4 * n := by rw [List.length_take]; omega
  have l2 : (K.take (4 * n + 4)).length = 4 * n + 4 := by rw [List.length_take]; omega
  have e2 : upK K (n + 1) = K.take (4 * n) ++ m ++ List.replicate (240 - (4 * n + 4)) 0 := by
    unfold upK; rw [show 4 * (n + 1) = 4 * n + 4 by omega, e1]
  rw [e2]
  rcases hM with rfl | rfl
  · unfold upK
    rw [List.take_append_of_le_length (by omega), List.take_of_length_le (by omega), List.drop_append, List.drop_of_length_le (by omega), List.nil_append, l1, List.drop_replicate]
    congr 2; omega
  · have d2 : (K.take (4 * n) ++ m ++ List.replicate (240 - (4 * n + 4)) 0).drop (4 * n + 4) = List.replicate (240 - (4 * n + 4)) 0 := by
      rw [← e1, List.drop_append, List.drop_of_length_le (by omega), List.nil_append, l2, Nat.sub_self, List.drop_zero]
    have t2 : (K.take (4 * n) ++ m ++ List.replicate (240 - (4 * n + 4)) 0).take (4 * n) = K.take (4 * n) := by
      rw [List.append_assoc, List.take_append_of_le_length (by omega), List.take_of_length_le (by omega)]
    rw [e2, t2, d2]
theorem upK_all (K : List UInt8) (h : K.length = 240) : upK K 60 = K := by
  unfold upK; rw [List.take_of_length_le (by omega)]; simp
theorem flat_at : ∀ (l : List (List UInt8)), (∀ x ∈ l, x.length = 4) → ∀ j, (hj : j < l.length) → (l.flatten.take (4 * j + 4)).drop (4 * j) = l[j]
  | [], _, j, hj => absurd hj (by simp)
  | x :: l, h, 0, _ => by
    have hx := h x (List.mem_cons_self ..)
    rw [List.flatten_cons, List.take_append_of_le_length (by omega), List.take_of_length_le (by omega)]
    rfl
  | x :: l, h, j + 1, hj => by
    have hx := h x (List.mem_cons_self ..)
    rw [List.flatten_cons, List.take_append, List.take_of_length_le (by omega : x.length ≤ 4 * (j + 1) + 4), List.drop_append, List.drop_of_length_le (by omega), List.nil_append, hx,
      show 4 * (j + 1) + 4 - 4 = 4 * j + 4 by omega, show 4 * (j + 1) - 4 = 4 * j by omega]
    exact flat_at l (fun y hy => h y (List.mem_cons_of_mem _ hy)) j (by simpa using hj)
theorem kys_at (key : List UInt8) (h : key.length = 32) (j : Nat) (hj : j < 60) : ((kys key).take (4 * j + 4)).drop (4 * j) = wrd key j := by
  unfold kys
  have hl : j < (wds key 60).length := by rw [wds_length]; exact hj
  rw [flat_at _ (wds_four key h 60) j hl]
  have := wds_get key (i := j) (n := 60) hj
  rw [List.getD_eq_getElem?_getD, List.getElem?_eq_getElem hl] at this
  exact this
theorem mid_not_ty {w : World} {g : Nat} {t : TypeId} {rv : Value} {l : List UInt8} {cs : Array Value} (h : Mid w rv l) (hb : Blk w g t cs) (ht : 5 ≠ t) : ¬ rv.ownBlock = some g := by
  intro e
  obtain ⟨_, cs', h'⟩ := h.blk g e
  exact (h'.ne_ hb ht) rfl
/-- What each operation of the copy leaves. -/
def FK (gc tg n xv q4 r4 p4 : Nat) (K : List UInt8) : Nat → Value → World → Prop
  | 0, v, _ => v = pB gc
  | 1, v, _ => v = .int .i64 (n : Int)
  | 2, v, _ => v = .int .i64 (q4 : Int)
  | 3, v, _ => v = pB gc
  | 4, v, _ => v = .pointer (some ⟨gc, 1, none⟩)
  | 5, v, _ => v = .pointer (some ⟨gc, 1 + q4 * 16, none⟩)
  | 6, v, _ => v = .int .i64 (n : Int)
  | 7, v, _ => v = .int .i64 (r4 : Int)
  | 8, v, _ => v = .int .i64 (p4 : Int)
  | 9, v, _ => v = .slice (some ⟨gc, 1 + q4 * 16 + p4, none⟩) (16 - p4) (16 - p4)
  | 10, v, _ => v = .int .u32 (xv : Int)
  | 11, v, _ => v = .int .u64 (xv : Int)
  | 12, v, w => Mid w v (putL xv 4)
  | 13, _, w => Blk w gc 118 (ciC tg (upK K (n + 1)))
  | _, _, _ => True
theorem FK.no {gc tg n xv q4 r4 p4 : Nat} {K : List UInt8} {w w' : World} (hx : Ext No w w') : ∀ j v, FK gc tg n xv q4 r4 p4 K j v w → FK gc tg n xv q4 r4 p4 K j v w' := by
  intro j v H
  match j, H with
  | 0, H | 1, H | 2, H | 3, H | 4, H | 5, H | 6, H | 7, H | 8, H | 9, H | 10, H | 11, H => exact H
  | 12, H => exact H.ext_no hx
  | 13, H => exact Blk.ext_no H hx
  | m + 14, _ => trivial
set_option maxRecDepth 100000 in
set_option maxHeartbeats 1000000 in
theorem aNew_any (tg : Nat) (kv : Value) (key : List UInt8) (w : World) (h : Bs w Any kv key) (hl : key.length = 32) (ht : IsT w tg) :
    Calls Try.prog 49 #[pB tg, kv] w fun e w' => ∃ g, e = .returned (.tuple #[pB g, .int .i64 0]) ∧ w.heap.size ≤ g ∧ IsC w' g tg (kys key) ∧ Ext No w w' := by
  obtain ⟨A, c, rfl, hc, hm, b, off, hcell⟩ := h.slice
  obtain ⟨rfl, -⟩ := hcell 0 (by omega)
  have HK := Lib.hid h
  have HT := Lib.hid ht
  have HL := Lib.hid hl
  have hm' : c ≤ 9223372036854775807 := by unfold maxLen at hm; omega
  rw [hl] at hc ⊢
  have HM := Lib.hid hm
  clear h ht hcell hl hm
  have HS : Hid (Nw w tg key 0 ((w.alloc (.cells (Try.zeroCells118.setIfInBounds 0 (pB tg)) 118)).alloc (.cells (u32s (List.replicate 60 0)).toArray 119))) := Lib.hid (by
    rw [zcC]
    refine ⟨(Blk.new w _ _).alloc _, ⟨List.replicate 60 0, List.length_replicate, fun j hj => by omega, ?_⟩, ((Ext.refl No w).alloc _).alloc _⟩
    have := Blk.new (w.alloc (.cells (ciC tg (List.replicate 240 0)) 118)) 119 (u32s (List.replicate 60 0)).toArray
    rwa [World.size_alloc] at this)
  have HKL := Lib.hid (kys_length key HL.out)
  have HKW : Hid (∀ j, j < 60 → ((kys key).take (4 * j + 4)).drop (4 * j) = wrd key j) := Lib.hid (fun j hj => kys_at key HL.out j hj)
  obtain ⟨KK, hKK⟩ : ∃ K, kys key = K := ⟨_, rfl⟩
  rw [hKK] at HKL HKW ⊢
  clear hKK
  have HRC0 : Hid (((rc 0).toNat : Int) = 1) := Lib.hid rfl
  go_enter Try.func49, Try.ntmps49
  go_wp2_with fail
  change Code.wp _ _ _ _ ((w.alloc (.cells (Try.zeroCells118.setIfInBounds 0 (pB tg)) 118)).alloc (.cells (u32s (List.replicate 60 0)).toArray 119))
  generalize (w.alloc (.cells (Try.zeroCells118.setIfInBounds 0 (pB tg)) 118)).alloc (.cells (u32s (List.replicate 60 0)).toArray 119) = w1 at *
  generalize Try.zeroCells118.setIfInBounds 0 (pB tg) = czz at *
  go_loopw [8, 21] (fun r i wr => ∃ n : Nat, n ≤ 60 ∧ i = .int .i64 (n : Int) ∧ r = .int .u8 ((rc ((n + 7) / 8 - 1)).toNat : Int) ∧ Hid (Nw w tg key n wr)) (fun _ i _ => 60 - (intOf i).toNat)
  case atStart => exact ⟨0, by omega, rfl, by rw [show (0 + 7) / 8 - 1 = 0 from rfl, HRC0.out], HS⟩
  case round =>
    clear HS
    obtain ⟨n, hn, rfl, rfl, HR⟩ := hrel
    by_cases hlt : n < 60
    · obtain ⟨⟨ov, e0⟩, f0⟩ := HR.out.at_ hlt
      have HN := Lib.hid (fun k => (HR.out.drewN k).put hlt)
      obtain ⟨r, hr⟩ : ∃ r, rc ((n + 7) / 8 - 1) = r := ⟨_, rfl⟩
      have hl := HL.out
      by_cases h8 : n < 8
      · have hrr : rc ((n + 1 + 7) / 8 - 1) = r := by rw [← hr, show (n + 1 + 7) / 8 - 1 = 0 by omega, show (n + 7) / 8 - 1 = 0 by omega]
        have HRR := Lib.hid hrr
        rw [hr]
        have HBS : Hid (Bs wr Any (.slice (some ⟨b, off + 4 * n, none⟩) 4 (c - 4 * n)) (wrd key n)) := Lib.hid (by
          have := (HK.out.ext_no HR.out.x).sub (i := 4 * n) (j := 4 * n + 4) (by omega) (by omega) (m := 4) (c' := c - 4 * n) (by omega) (by omega) (by have := HM.out; omega)
          rw [wrd_low key n h8]
          rwa [List.drop_take, show 4 * n + 4 - 4 * n = 4 by omega] at this)
        obtain ⟨N, hN⟩ : ∃ N, wrd key n = N := ⟨_, rfl⟩
        rw [hN] at HN HBS
        have hNl := getL4_lt (x := N) (by rw [← hN]; exact wrd_len key hl n)
        obtain ⟨v, hv⟩ : ∃ v, getL N = v := ⟨_, rfl⟩
        have HG := Lib.hid (fun u hu => oGet_any u N wr hu)
        rw [hv] at HN hNl HG
        have cv : (v : Int) % 4294967296 = (v : Int) := by omega
        clear hr hrr hN hv hl
        go_wp2_with fail
        refine (HG.out _ HBS.out).mono ?_
        rintro e1 w1 ⟨rfl, rfl⟩
        go_wp2_with fail
        have HN0 : Hid (Nw w tg key (n + 1) (wr.setCell ⟨w.heap.size + 1, n, none⟩ (.int .u32 (v : Int)))) := Lib.hid (HN.out 0)
        go_roundw
        case rel => exact ⟨n + 1, by omega, by go_num, by rw [HRR.out], HN0⟩
        case measure => simp [intOf]; omega
      · obtain ⟨n1, hn1⟩ : ∃ x, n - 1 = x := ⟨_, rfl⟩
        obtain ⟨n8, hn8⟩ : ∃ x, n - 8 = x := ⟨_, rfl⟩
        have hw := wrd_high key n (by omega)
        rw [hn1, hn8] at hw
        have hx := wrd_len key hl n1
        have hy := wrd_len key hl n8
        have e1 := HR.out.get hn (j := n1) (by omega)
        have e8 := HR.out.get hn (j := n8) (by omega)
        obtain ⟨X, hX⟩ : ∃ X, wrd key n1 = X := ⟨_, rfl⟩
        obtain ⟨Y, hY⟩ : ∃ Y, wrd key n8 = Y := ⟨_, rfl⟩
        rw [hX] at hx hw e1
        rw [hY] at hy hw e8
        have r1 : (n : Int) - 1 = (n1 : Int) := by omega
        have r8 : (n : Int) - 8 = (n8 : Int) := by omega
        have hXl := getL4_lt hx
        have hYl := getL4_lt hy
        have htl := tw_length n X hx
        have hTl := getL4_lt htl
        have hxr := getL_xr hy htl
        rw [← hw] at hxr
        obtain ⟨T, hT⟩ : ∃ T, tw n X = T := ⟨_, rfl⟩
        rw [hT] at hxr hTl htl
        have HTE := Lib.hid hT
        obtain ⟨N, hN⟩ : ∃ N, getL (wrd key n) = N := ⟨_, rfl⟩
        rw [hN] at HN hxr
        have f3 : bits .xor .u32 ((getL Y : Nat) : Int) ((getL T : Nat) : Int) = (N : Int) := by rw [u32_xor_nat _ _ hYl hTl, hxr]
        obtain ⟨tv, htv⟩ : ∃ x, getL T = x := ⟨_, rfl⟩
        obtain ⟨yv, hyv⟩ : ∃ x, getL Y = x := ⟨_, rfl⟩
        rw [htv] at f3 hTl
        rw [hyv] at f3 e8 hYl
        have HTV := Lib.hid htv
        have HX := Lib.hid hx
        have hn1l : n1 < 60 := by omega
        have hn8l : n8 < 60 := by omega
        have HNS := Lib.hid (And.intro hn1 hn8)
        clear hw hX hY hN hxr htl hT htv hyv hx hy hn1 hn8
        obtain ⟨x0, x1, x2, x3, rfl⟩ := four HX.out
        by_cases h0 : n % 8 = 0
        · have t0 : ((n : Int) % 8 == 0) = true := by simp; omega
          have t4 : ((n : Int) % 8 == 4) = false := by simp; omega
          have hq : (n + 7) / 8 - 1 = n / 8 - 1 := by omega
          have HRR : Hid (rc ((n + 1 + 7) / 8 - 1) = db r) := Lib.hid (by rw [← hr, hq, show (n + 1 + 7) / 8 - 1 = (n / 8 - 1) + 1 by omega]; rfl)
          have hTX : T = [bx x1 ^^^ r, bx x2, bx x3, bx x0] := by rw [← HTE.out]; unfold tw; rw [if_pos h0, ← hr, hq]; rfl
          have f1 := rot8 x0 x1 x2 x3
          have f2 := xor_top (bx x1) (bx x2) (bx x3) (bx x0) r
          rw [← hTX, HTV.out] at f2
          obtain ⟨xv, hxv⟩ : ∃ x, getL [x0, x1, x2, x3] = x := ⟨_, rfl⟩
          rw [hxv] at f1 e1 hXl
          have HWD := Lib.hid (aWord_any tg x1 x2 x3 x0 wr (HT.out.ext_no HR.out.x))
          obtain ⟨rv, hrv⟩ : ∃ x, getL [x1, x2, x3, x0] = x := ⟨_, rfl⟩
          obtain ⟨bv, hbv⟩ : ∃ x, getL [bx x1, bx x2, bx x3, bx x0] = x := ⟨_, rfl⟩
          rw [hrv] at f1 HWD
          rw [hbv] at HWD f2
          have HDB := Lib.hid (fun wx => aDouble_any r wx)
          rw [hr]
          obtain ⟨d, hd⟩ : ∃ d, db r = d := ⟨_, rfl⟩
          rw [hd] at HDB HRR
          clear hr hTX hxv hrv hbv hq hd
          go_wp2_with (first
            | (go_at_call 84; refine HWD.out.mono ?_; rintro e4 w4 ⟨rfl, k4, rfl⟩)
            | (go_at_call 82; refine (HDB.out _).mono ?_; rintro e5 w5 ⟨rfl, rfl⟩))
          have HN0 : Hid (Nw w tg key (n + 1) ((wr.drewN k4).setCell ⟨w.heap.size + 1, n, none⟩ (.int .u32 (N : Int)))) := Lib.hid (HN.out k4)
          go_roundw
          case rel => exact ⟨n + 1, by omega, by go_num, by rw [HRR.out], HN0⟩
          case measure => simp [intOf]; omega
        · have hrr : rc ((n + 1 + 7) / 8 - 1) = r := by rw [← hr, show (n + 1 + 7) / 8 - 1 = (n + 7) / 8 - 1 by omega]
          have HRR := Lib.hid hrr
          rw [hr]
          clear hr hrr
          have t0 : ((n : Int) % 8 == 0) = false := by simp; omega
          by_cases h4 : n % 8 = 4
          · have t4 : ((n : Int) % 8 == 4) = true := by simp; omega
            have hTX : T = [bx x0, bx x1, bx x2, bx x3] := by rw [← HTE.out]; unfold tw; rw [if_neg h0, if_pos h4]; rfl
            have HWD := Lib.hid (aWord_any tg x0 x1 x2 x3 wr (HT.out.ext_no HR.out.x))
            rw [← hTX, HTV.out] at HWD
            obtain ⟨xv, hxv⟩ : ∃ x, getL [x0, x1, x2, x3] = x := ⟨_, rfl⟩
            rw [hxv] at e1 hXl HWD
            clear hTX hxv
            go_wp2_with (go_at_call 84; refine HWD.out.mono ?_; rintro e4 w4 ⟨rfl, k4, rfl⟩)
            have HN0 : Hid (Nw w tg key (n + 1) ((wr.drewN k4).setCell ⟨w.heap.size + 1, n, none⟩ (.int .u32 (N : Int)))) := Lib.hid (HN.out k4)
            go_roundw
            case rel => exact ⟨n + 1, by omega, by go_num, by rw [HRR.out], HN0⟩
            case measure => simp [intOf]; omega
          · have t4 : ((n : Int) % 8 == 4) = false := by simp; omega
            have HTX : Hid (T = [x0, x1, x2, x3]) := Lib.hid (by rw [← HTE.out]; unfold tw; rw [if_neg h0, if_neg h4])
            rw [← HTX.out, HTV.out] at e1 hXl
            go_wp2_with fail
            have HN0 : Hid (Nw w tg key (n + 1) (wr.setCell ⟨w.heap.size + 1, n, none⟩ (.int .u32 (N : Int)))) := Lib.hid (HN.out 0)
            go_roundw
            case rel => exact ⟨n + 1, by omega, by go_num, by rw [HRR.out], HN0⟩
            case measure => simp [intOf]; omega
    · obtain rfl : n = 60 := by omega
      obtain ⟨L, h1, h2, h3⟩ := HR.out.l
      obtain ⟨AL, hAL⟩ : ∃ a, (u32s L).toArray = a := ⟨_, rfl⟩
      have hall : AL.size = 60 := by rw [← hAL, List.size_toArray, u32s_length, h1]
      have HLL := Lib.hid hall
      have HLG : Hid (∀ j, j < 60 → AL[j]? = some (.int .u32 ((getL (wrd key j) : Nat) : Int))) := Lib.hid (fun j hj => by rw [← hAL, u32s_get L j (by omega), h2 j hj])
      rw [hAL] at h3
      have HLB := Lib.hid h3
      have HS : Hid (Kw w tg KK 0 wr) := Lib.hid ⟨by unfold upK; simpa using HR.out.c, HR.out.x⟩
      obtain ⟨r, hr⟩ : ∃ r, rc ((60 + 7) / 8 - 1) = r := ⟨_, rfl⟩
      rw [hr]
      clear h1 h2 h3 hr hAL hall
      go_wp2_with ((with_reducible show wpList _ _ _ (⟨some 72, _, _, _, _, _⟩ :: _) _ _); refine load_blk 119 (.tmp 7) rfl rfl HLB.out rfl _ und_60 rfl (by rw [HLL.out]; exact size_60) ?_)
      go_loopw [73] (fun i wr => ∃ n : Nat, n ≤ 60 ∧ i = .int .i64 (n : Int) ∧ Hid (Kw w tg KK n wr)) (fun i _ => 60 - (intOf i).toNat)
      case atStart => exact ⟨0, by omega, rfl, HS⟩
      case round =>
        clear HS HR
        obtain ⟨n, hn, rfl, HR⟩ := hrel
        by_cases hlt : n < 60
        · obtain ⟨xv, hxv⟩ : ∃ x, getL (wrd key n) = x := ⟨_, rfl⟩
          have hix := HLG.out n hlt
          have hxl := getL4_lt (wrd_len key HL.out n)
          have HPL := Lib.hid (putL_getL4 (wrd_len key HL.out n))
          rw [hxv] at hix hxl HPL
          have hsz := HLL.out
          have HXV := Lib.hid hxv
          have hrun := run_idx60 AL n _ wr hlt hix
          clear hxv hix hsz
          have HUP := Lib.hid (fun M hM => upK_next KK M (putL xv 4) n HKL.out hlt (by rw [HKW.out n hlt, HPL.out]) hM)

          go_wp2_with fail
          have hdec : decide ((n : Int) < 60) = true := by simp; omega
          rw [hdec]
          clear hdec
          obtain ⟨q4, hq4⟩ : ∃ x, n / 4 = x := ⟨_, rfl⟩
          obtain ⟨r4, hr4⟩ : ∃ x, n % 4 = x := ⟨_, rfl⟩
          obtain ⟨p4, hp4⟩ : ∃ x, 4 * r4 = x := ⟨_, rfl⟩
          refine RF.region (vs := fun | 0 => u77 | 1 => u78 | 2 => u79 | 3 => u80 | 4 => u81 | 5 => u82 | 6 => u83 | 7 => u84 | 8 => u85 | 9 => u86 | 10 => u87 | 11 => u88 | 12 => u89 | 13 => u90 | _ => undef) rfl (fun vs => ((pB tg) :: (Value.slice (some ⟨b, off, none⟩) 32 c) :: undef :: undef :: (Value.pointer none) :: (Value.int IntKind.i64 0) :: (Value.pointer (some ⟨w.heap.size, 0, none⟩)) :: (Value.pointer (some ⟨w.heap.size + 1, 0, none⟩)) :: (Value.int IntKind.u8 (r.toNat : Int)) :: u9 :: u10 :: (Value.int IntKind.i64 (n : Int)) :: (Value.int IntKind.u32 (xv : Int)) :: (pB tg) :: (Value.bool false) :: (Value.slice (some ⟨b, off, none⟩) 32 c) :: (Value.int IntKind.i64 32) :: (Value.bool false) :: (pB tg) :: (Value.agg czz) :: (Value.pointer (some ⟨w.heap.size, 0, none⟩)) :: (Value.int IntKind.i64 60) :: (Value.bool false) :: u23 :: u24 :: u25 :: u26 :: u27 :: u28 :: u29 :: u30 :: u31 :: u32 :: u33 :: u34 :: u35 :: u36 :: u37 :: u38 :: u39 :: u40 :: u41 :: u42 :: u43 :: u44 :: u45 :: u46 :: u47 :: u48 :: u49 :: u50 :: u51 :: u52 :: u53 :: u54 :: u55 :: u56 :: u57 :: u58 :: u59 :: u60 :: u61 :: u62 :: u63 :: u64 :: u65 :: u66 :: u67 :: u68 :: u69 :: u70 :: u71 :: (Value.agg AL) :: (Value.int IntKind.i64 (n : Int)) :: (Value.bool true) :: (Value.int IntKind.i64 (n : Int)) :: (Value.int IntKind.u32 (xv : Int)) :: (vs 0) :: (vs 1) :: (vs 2) :: (vs 3) :: (vs 4) :: (vs 5) :: (vs 6) :: (vs 7) :: (vs 8) :: (vs 9) :: (vs 10) :: (vs 11) :: (vs 12) :: (vs 13) :: u91 :: undef :: []).toArray)
            (FK w.heap.size tg n xv q4 r4 p4 KK) (fun vs wx => Ext No w wx ∧ (Blk wx w.heap.size 118 (ciC tg (upK KK n)) ∨ Blk wx w.heap.size 118 (ciC tg (upK KK (n + 1))))) rfl (by kernel_rfl) ?_ ?_ ?_
          · exact ⟨HR.out.x.drew, .inl HR.out.c.drew⟩
          · refine ⟨⟨⟨⟨⟨⟨⟨⟨⟨⟨⟨⟨⟨⟨trivial, ?_⟩, ?_⟩, ?_⟩, ?_⟩, ?_⟩, ?_⟩, ?_⟩, ?_⟩, ?_⟩, ?_⟩, ?_⟩, ?_⟩, ?_⟩, ?_⟩
            all_goals refine RF.Step.plain rfl rfl (fun vs wx hG hv hd K hK => ?_)
            · go_simp
              exact hK _ _ hG rfl (fun _ _ h => h)
            · go_simp
              exact hK _ _ hG rfl (fun _ _ h => h)
            · have h3 : vs 1 = .int .i64 (n : Int) := hd.1
              have hw1 : (n : Int) / 4 = (q4 : Int) := by omega
              have hw2 : IntKind.i64.wrap (q4 : Int) = (q4 : Int) := by rw [IntKind.wrap_i64]; omega
              go_simp
              have h4 := hK _ _ hG rfl (fun _ _ h => h)
              first | simpa only [RF.upd, h3, Nat.reduceEqDiff, if_true, if_false, reduceIte] using h4 | (simp only [RF.upd, h3, Nat.reduceEqDiff, if_true, if_false, reduceIte] at h4 ⊢; exact h4)
            · have h3 : vs 0 = pB w.heap.size := hd.1
              go_simp
              have h4 := hK _ _ hG rfl (fun _ _ h => h)
              first | simpa only [RF.upd, h3, Nat.reduceEqDiff, if_true, if_false, reduceIte] using h4 | (simp only [RF.upd, h3, Nat.reduceEqDiff, if_true, if_false, reduceIte] at h4 ⊢; exact h4)
            · have h3 : vs 3 = pB w.heap.size := hd.1
              go_simp
              have h4 := hK _ _ hG rfl (fun _ _ h => h)
              first | simpa only [RF.upd, h3, Nat.reduceEqDiff, if_true, if_false, reduceIte] using h4 | (simp only [RF.upd, h3, Nat.reduceEqDiff, if_true, if_false, reduceIte] at h4 ⊢; exact h4)
            · have h3 : vs 4 = .pointer (some ⟨w.heap.size, 1, none⟩) := hd.1
              have h2 : vs 2 = .int .i64 (q4 : Int) := hd.2.1
              have hq : (q4 : Int) < 15 := by omega
              go_simp
              have h4 := hK _ _ hG rfl (fun _ _ h => h)
              first | simpa only [RF.upd, h3, h2, Nat.reduceEqDiff, if_true, if_false, reduceIte] using h4 | (simp only [RF.upd, h3, h2, Nat.reduceEqDiff, if_true, if_false, reduceIte] at h4 ⊢; exact h4)
            · go_simp
              exact hK _ _ hG rfl (fun _ _ h => h)
            · have h3 : vs 6 = .int .i64 (n : Int) := hd.1
              have hw2 : (n : Int) % 4 = (r4 : Int) := by omega
              have hw3 : (n : Int).tmod 4 = (r4 : Int) := by rw [Int.tmod_eq_emod_of_nonneg (by omega)]; omega
              go_simp
              have h4 := hK _ _ hG rfl (fun _ _ h => h)
              first | simpa only [RF.upd, h3, Nat.reduceEqDiff, if_true, if_false, reduceIte] using h4 | (simp only [RF.upd, h3, Nat.reduceEqDiff, if_true, if_false, reduceIte] at h4 ⊢; exact h4)
            · have h3 : vs 7 = .int .i64 (r4 : Int) := hd.1
              have hw2 : IntKind.i64.wrap (4 * (r4 : Int)) = (p4 : Int) := by rw [IntKind.wrap_i64]; omega
              go_simp
              have h4 := hK _ _ hG rfl (fun _ _ h => h)
              first | simpa only [RF.upd, h3, Nat.reduceEqDiff, if_true, if_false, reduceIte] using h4 | (simp only [RF.upd, h3, Nat.reduceEqDiff, if_true, if_false, reduceIte] at h4 ⊢; exact h4)
            · have h3 : vs 5 = .pointer (some ⟨w.heap.size, 1 + q4 * 16, none⟩) := hd.1
              have h2 : vs 8 = .int .i64 (p4 : Int) := hd.2.1
              have hp1 : p4 < 16 := by omega
              have hp2 : (p4 : Int) ≤ 16 := by omega
              have hp3 : ¬ (16 = p4) := by omega
              go_simp
              have h4 := hK _ _ hG rfl (fun _ _ h => h)
              first | simpa only [RF.upd, h3, h2, Nat.reduceEqDiff, if_true, if_false, reduceIte] using h4 | (simp only [RF.upd, h3, h2, Nat.reduceEqDiff, if_true, if_false, reduceIte] at h4 ⊢; exact h4)
            · go_simp
              exact hK _ _ hG rfl (fun _ _ h => h)
            · have h3 : vs 10 = .int .u32 (xv : Int) := hd.1
              have hwk : IntKind.u64.wrap (xv : Int) = (xv : Int) := by rw [IntKind.wrap_u64]; omega
              go_simp
              have h4 := hK _ _ hG rfl (fun _ _ h => h)
              first | simpa only [RF.upd, h3, Nat.reduceEqDiff, if_true, if_false, reduceIte] using h4 | (simp only [RF.upd, h3, Nat.reduceEqDiff, if_true, if_false, reduceIte] at h4 ⊢; exact h4)
            · have h3 : vs 11 = .int .u64 (xv : Int) := hd.1
              have hp := oPut_any xv 4 wx (by omega) (by omega)
              rw [show ((4 : Nat) : Int) = 4 from rfl] at hp
              go_simp
              with_reducible refine hp.mono ?_
              rintro e' w' ⟨v', rfl, ho, hx⟩
              have h4 := hK _ _ ⟨hG.1.trans hx, hG.2.imp (fun h => h.ext_no hx) (fun h => h.ext_no hx)⟩ (Mid.of_own ho) (fun j _ h => FK.no hx j _ h)
              simpa only [RF.upd, h3, Nat.reduceEqDiff, if_true, if_false, reduceIte] using h4
            · have h2 : vs 9 = .slice (some ⟨w.heap.size, 1 + q4 * 16 + p4, none⟩) (16 - p4) (16 - p4) := hd.1
              have h5 : Mid wx (vs 12) (putL xv 4) := hd.2.1
              rw [show 1 + q4 * 16 + p4 = 1 + 4 * n by omega] at h2
              have hpl : (u8s (putL xv 4)).take (16 - p4) = u8s (putL xv 4) := List.take_of_length_le (by rw [u8s_length, putL_length]; omega)
              have hnb : ∀ {cs : Array Value}, Blk wx w.heap.size 118 cs → ¬ (vs 12).ownBlock = some w.heap.size := fun hb => mid_not_ty h5 hb (by decide)
              obtain ⟨L, hL1, hL2, hbL⟩ : ∃ L : List UInt8, L.length = 240 ∧ L.take (4 * n) ++ putL xv 4 ++ L.drop (4 * n + 4) = upK KK (n + 1) ∧ Blk wx w.heap.size 118 (ciC tg L) := by
                rcases hG.2 with hb | hb
                · exact ⟨_, upK_length KK n HKL.out (by omega), HUP.out _ (.inl rfl), hb⟩
                · exact ⟨_, upK_length KK (n + 1) HKL.out (by omega), HUP.out _ (.inr rfl), hb⟩
              refine wp_copy_bs (.tmp 86) (.tmp 89) rfl hbL h2 rfl h5.bs (by unfold ciC; rw [List.size_toArray, List.length_cons, u8s_length, hL1]; omega) ?_
              intro w' hb' hx'
              rw [hpl, setL_ci _ _ _ _ (by rw [putL_length, hL1]; omega), putL_length, hL2] at hb'
              refine hK _ _ ⟨hG.1.transS hx' (fun i hi h => absurd hi (by have h' : i = w.heap.size := h; omega)), .inr hb'⟩ hb' (fun j hj h => ?_)
              match j, h with
              | 0, h | 1, h | 2, h | 3, h | 4, h | 5, h | 6, h | 7, h | 8, h | 9, h | 10, h | 11, h => exact h
              | 12, h => exact Mid.ext h hx' (fun b e k => hnb hbL (by rw [← (show b = w.heap.size from k)]; exact e))
              | 13, h => exact absurd rfl hj
              | m + 14, _ => trivial
          · intro vs wx hG hF
            have hb : Blk wx w.heap.size 118 (ciC tg (upK KK (n + 1))) := hF 13 (by decide)
            clear hF
            have HN2 : Hid (Kw w tg KK (n + 1) wx) := Lib.hid ⟨hb, hG.1⟩
            clear hG hb hrun
            go_wp2_with fail
            go_roundw
            case rel => exact ⟨n + 1, by omega, by go_num, HN2⟩
            case measure => simp [intOf]; omega
        · obtain rfl : n = 60 := by omega
          have HF := Lib.hid (show IsC wr w.heap.size tg KK from ⟨by have := HR.out.c; rwa [upK_all _ HKL.out] at this, HT.out.ext_no HR.out.x, HKL.out⟩)
          go_wp2_with fail
          go_ret2
          exact ⟨_, rfl, Nat.le_refl _, HF.out, HR.out.x⟩
end Go.Proofs.Ytljddghamgjfbaa
