/- Package mac: HMAC and HKDF on lists of bytes (pure); pad, Of, Extract, Expand. -/
import Derived.Test.YtljddghamgjfbaaShaMath
import Derived.Test.YtljddghamgjfbaaShaOf
import Derived.Deep.OwnRows
import Derived.Test.YtljddghamgjfbaaVars3
import Derived.Test.YtljddghamgjfbaaRegFacts
/- HMAC and HKDF on lists of bytes. Plain Lean; no condition. -/
set_option linter.unusedVariables false
set_option linter.unusedSimpArgs false
namespace Go.Proofs.Ytljddghamgjfbaa
namespace Sh

/-- A key as a block. -/
def kshort (key : List UInt8) : List UInt8 := if 64 < key.length then sha key else key
def kbl (key : List UInt8) : List UInt8 := kshort key ++ List.replicate (64 - (kshort key).length) 0
def kx (key : List UInt8) (x : UInt8) : List UInt8 := (kbl key).map (· ^^^ x)
def hmac (key text : List UInt8) : List UInt8 := sha (kx key 92 ++ sha (kx key 54 ++ text))
/-- One piece of a key. -/
def hkT (key info : List UInt8) : Nat → List UInt8
  | 0 => []
  | i + 1 => hmac key (hkT key info i ++ info ++ [UInt8.ofNat (i + 1)])
def hkO (key info : List UInt8) : Nat → List UInt8
  | 0 => []
  | i + 1 => hkO key info i ++ hkT key info (i + 1)
def expand (key : List UInt8) (n : Nat) (info : List UInt8) : List UInt8 := (hkO key info ((n + 31) / 32)).take n
theorem sha_len (m : List UInt8) : (sha m).length = 32 := by
  unfold sha dig
  simp [putL_length]
theorem kshort_len (key : List UInt8) : (kshort key).length ≤ 64 := by
  unfold kshort
  split
  · rw [sha_len]; omega
  · omega
theorem kbl_len (key : List UInt8) : (kbl key).length = 64 := by
  have := kshort_len key
  unfold kbl
  rw [List.length_append, List.length_replicate]; omega
theorem kx_len (key : List UInt8) (x : UInt8) : (kx key x).length = 64 := by unfold kx; rw [List.length_map, kbl_len]
theorem hmac_len (key text : List UInt8) : (hmac key text).length = 32 := sha_len _
theorem hkT_len (key info : List UInt8) (i : Nat) : (hkT key info (i + 1)).length = 32 := hmac_len _ _
theorem hkO_len (key info : List UInt8) (i : Nat) : (hkO key info i).length = 32 * i := by
  induction i with
  | zero => rfl
  | succ i ih => simp only [hkO]; rw [List.length_append, ih, hkT_len]; omega
theorem expand_len (key info : List UInt8) (n : Nat) : (expand key n info).length = n := by unfold expand; rw [List.length_take, hkO_len]; omega
theorem hkO_take (key info : List UInt8) (a b : Nat) (h : a ≤ b) : (hkO key info b).take (32 * a) = hkO key info a := by
  induction b with
  | zero => obtain rfl : a = 0 := by omega
            rfl
  | succ b ih =>
    by_cases e : a = b + 1
    · subst e; rw [List.take_of_length_le (by rw [hkO_len]; omega)]
    · simp only [hkO]
      rw [List.take_append_of_le_length (by rw [hkO_len]; omega), ih (by omega)]
theorem expand_take (key info : List UInt8) (n m : Nat) (h : n ≤ m) : (expand key m info).take n = expand key n info := by
  unfold expand
  rw [List.take_take, Nat.min_eq_left h, ← hkO_take key info ((n + 31) / 32) ((m + 31) / 32) (by omega), List.take_take, Nat.min_eq_left (by omega)]
/-- A long key is as good as its sum; noughts behind a short one do not matter. -/
theorem kbl_sum (key : List UInt8) (h : 64 < key.length) : kbl (sha key) = kbl key := by
  have : kshort (sha key) = kshort key := by unfold kshort; rw [if_pos h, if_neg (by rw [sha_len]; omega)]
  unfold kbl; rw [this]
theorem kbl_pad (key : List UInt8) (z : Nat) (h : key.length + z ≤ 64) : kbl (key ++ List.replicate z 0) = kbl key := by
  have h1 : kshort (key ++ List.replicate z 0) = key ++ List.replicate z 0 := by unfold kshort; rw [if_neg (by simp; omega)]
  have h2 : kshort key = key := by unfold kshort; rw [if_neg (by omega)]
  unfold kbl
  rw [h1, h2, List.append_assoc, List.replicate_append_replicate]
  congr 2
  simp; omega
theorem hmac_kbl {k1 k2 : List UInt8} (h : kbl k1 = kbl k2) (t : List UInt8) : hmac k1 t = hmac k2 t := by unfold hmac kx; rw [h]
end Sh
end Go.Proofs.Ytljddghamgjfbaa

/- Package mac: the key as a block. -/
set_option linter.unusedVariables false
set_option linter.unusedSimpArgs false
namespace Go.Proofs.Ytljddghamgjfbaa
open Go.RowKit Go.Deep Sh

theorem made64 : madeCells #[.int .u8 0] 64 = (u8s (List.replicate 64 0)).toArray := by
  have e : (madeCells #[Value.int .u8 0] 64).toList = u8s (List.replicate 64 0) := by rw [toList_madeCells_one]; simp [u8s, u8v]
  rw [← e]
theorem over_zeros (k : List UInt8) (h : k.length ≤ 64) : setL (u8s (List.replicate 64 0)).toArray 0 ((u8s k).take 64) = (u8s (k ++ List.replicate (64 - k.length) 0)).toArray := by
  rw [List.take_of_length_le (by rw [u8s_length]; omega), setL_u8s _ _ _ (by rw [List.length_replicate]; omega), List.take_zero, List.nil_append, Nat.zero_add, List.drop_replicate]
theorem xor_set (K : List UInt8) (x : UInt8) (j : Nat) (h : j < K.length) : ((K.take j).map (· ^^^ x) ++ K.drop j).set j (K.getD j 0 ^^^ x) = (K.take (j + 1)).map (· ^^^ x) ++ K.drop (j + 1) := by
  apply List.ext_getElem
  · simp; omega
  · intro i h1 h2
    rw [List.getElem_set]
    by_cases e : j = i
    · subst e
      rw [if_pos rfl, List.getElem_append_left (by simp; omega)]
      simp [List.getD_eq_getElem?_getD, h]
    · rw [if_neg e]
      by_cases hi : i < j
      · rw [List.getElem_append_left (by simp; omega), List.getElem_append_left (by simp; omega)]; simp
      · rw [List.getElem_append_right (by simp; omega), List.getElem_append_right (by simp; omega)]
        simp only [List.getElem_drop]
        congr 1
        simp; omega
theorem xor_at (K : List UInt8) (x : UInt8) (j : Nat) (h : j < K.length) : ((K.take j).map (· ^^^ x) ++ K.drop j).getD j 0 = K.getD j 0 := by
  rw [List.getD_eq_getElem?_getD, List.getElem?_append_right (by simp; omega), List.getD_eq_getElem?_getD]
  simp [Nat.min_eq_left (Nat.le_of_lt h)]
theorem xor_b (a x : UInt8) : bits .xor .u8 (a.toNat : Int) (x.toNat : Int) = ((a ^^^ x).toNat : Int) := by
  rw [u8_xor_nat _ _ a.toNat_lt x.toNat_lt, UInt8.toNat_xor]
set_option maxRecDepth 100000 in
set_option maxHeartbeats 4000000 in
theorem mPad_any (v : Value) (key : List UInt8) (x : UInt8) (w : World) (h : Bs w Any v key) (hb : key.length ≤ 1000000) : Calls Try.prog 93 #[v, .int .u8 (x.toNat : Int)] w fun e w' => ∃ v', e = .returned v' ∧ Own w' w.heap.size v' (kx key x) ∧ Ext No w w' := by
  obtain ⟨A, c, rfl, hc, hmx, -⟩ := h.slice
  unfold maxLen at hmx
  obtain ⟨Z, hZ⟩ : ∃ Z : List UInt8, List.replicate 64 0 = Z := ⟨_, rfl⟩
  have hmk : ∀ W, (Instr.makeSlice 27 (.int .i64 64) (.int .i64 64)).run Try.prog W = .ok (.slice (some ⟨W.heap.size, 0, none⟩) 64 64) (W.alloc (.cells (u8s Z).toArray 5)) := fun W => by
    rw [← hZ, ← made64]
    exact run_make_row' (P := Try.prog) 27 5 (.int .u8 0) 1 Try.underlying27 info_u8 rfl .i64 .i64 64 (by omega) (by omega) W
  have hov : ∀ k : List UInt8, k.length ≤ 64 → setL (u8s Z).toArray 0 ((u8s k).take 64) = (u8s (k ++ List.replicate (64 - k.length) 0)).toArray := by rw [← hZ]; exact over_zeros
  have HZS : Hid ((u8s Z).toArray.size = 64) := Lib.hid (by rw [← hZ, List.size_toArray, u8s_length]; simp)
  have HOV := Lib.hid hov
  have HK := Lib.hid h
  have HB0 := Lib.hid (Blk.new w 5 (u8s Z).toArray)
  have HX0 := Lib.hid ((Ext.refl No w).alloc (.cells (u8s Z).toArray 5))
  clear h hZ hov
  go_enter Try.func93, Try.ntmps93
  obtain ⟨K, hK⟩ : ∃ K, kbl key = K := ⟨_, rfl⟩
  have HKL : Hid (K.length = 64) := Lib.hid (by rw [← hK]; exact kbl_len key)
  have HKE : Hid (kx key x = K.map (· ^^^ x)) := Lib.hid (by rw [← hK]; rfl)
  by_cases hl : 64 < key.length
  · have hp := Parts.lit1 (w := w.alloc (.cells (u8s Z).toArray 5)) (F := Any) (g := w.heap.size + 1) (HK.out.ext_no ((Ext.refl No w).alloc (.cells (u8s Z).toArray 5))) trivial (by simp)
    have HOF := Lib.hid (shaOf_any Any _ _ _ hp (by simp; omega))
    rw [show ([key] : List (List UInt8)).flatten = key by simp] at HOF
    have hdl : (sha key).length = 32 := sha_length _
    have hkb : kbl key = sha key ++ List.replicate (64 - (sha key).length) 0 := by unfold kbl kshort; rw [if_pos hl]
    obtain ⟨D, hD⟩ : ∃ D, sha key = D := ⟨_, rfl⟩
    rw [hD] at HOF hdl hkb
    have HKD := Lib.hid (hK.symm.trans hkb)
    have HDL := Lib.hid (show (u8s D).toArray.size = 32 by rw [List.size_toArray, u8s_length]; exact hdl)
    have HDE := Lib.hid hdl
    have HX1 := Lib.hid (HX0.out.alloc (.cells #[.slice A key.length c] 27))
    have HB1 := Lib.hid (HB0.out.alloc (.cells #[.slice A key.length c] 27))
    clear hp hD hdl hkb hK
    go_wp2_with fail
    refine HOF.out.mono ?_
    rintro e2 w2 ⟨rfl, hx2⟩
    have HX2 := Lib.hid (HX1.out.trans hx2)
    have HB2 := Lib.hid (HB1.out.ext_no hx2)
    have HG2 : Hid (w.heap.size < w2.heap.size) := Lib.hid HB2.out.lt
    clear HOF HX1 HB1 hx2
    have HB3 := Lib.hid (Blk.new w2 45 (u8s (List.replicate 32 0)).toArray)
    have HX3 := Lib.hid (HX2.out.alloc (.cells (u8s (List.replicate 32 0)).toArray 45))
    have HB4 := Lib.hid (HB2.out.alloc (.cells (u8s (List.replicate 32 0)).toArray 45))
    go_wp2_with (first
      | ((with_reducible show wpList _ _ _ _ _ _); refine store_blk (o := ⟨none, _, _, _, _, _⟩) 45 (.tmp 6) (.tmp 14) rfl rfl HB3.out rfl rfl (by rw [HDL.out]; rfl) (by rw [HDL.out]; exact size_b32) (u8s_one' _) ?_; intro w9 hb9 hx9; have HX9 := Lib.hid (HX3.out.transS hx9 (fun i hi h => absurd hi (by have h' : i = w2.heap.size := h; have := HX2.out.size; omega))); have HD9 := Lib.hid hb9; have HB9 := Lib.hid (HB4.out.ext hx9 (fun h => by have h' : w.heap.size = w2.heap.size := h; have := HG2.out; omega)); clear hb9 hx9)
      | ((with_reducible show wpList _ _ _ _ _ _); (refine copy_bs (o := ⟨some 17, _, _, _, _, _⟩) rfl (.tmp 15) (.tmp 16) rfl (u := .slice (some ⟨w2.heap.size, 0, none⟩) 32 32) (dLen := 64) (dCap := 64) (off := 0) HB9.out rfl rfl (Bs.whole' HD9.out (n := 32) (c := 32) HDE.out.symm (Nat.le_refl _) (by unfold maxLen; decide)) (by have := HZS.out; omega) ?_); intro w10 hb10 hx10; rw [HOV.out D (by have := HDE.out; omega), ← HKD.out] at hb10; have HBC := Lib.hid hb10; have HXC : Hid (Ext No w w10) := Lib.hid (HX9.out.transS hx10 (fun i hi h => absurd hi (by have h' : i = w.heap.size := h; omega))); clear hb10 hx10))
    clear HB9 HD9 HX9 HB3 HX3 HB4 HX2 HB2 HG2 HDL HDE
    have hgs := HXC.out.size
    go_loopw [23] (fun i wr => ∃ j : Nat, j ≤ 64 ∧ i = .int .i64 ((j : Nat) : Int) ∧ Hid (Blk wr w.heap.size 5 (u8s ((K.take j).map (· ^^^ x) ++ K.drop j)).toArray) ∧ Hid (Ext No w wr)) (fun i _ => 64 - (intOf i).toNat)
    case atStart => exact ⟨0, by omega, rfl, by simpa using HBC, HXC⟩
    case round =>
      obtain ⟨j, hj, rfl, HBR, HXR⟩ := hrel
      clear HBC HXC hgs
      by_cases hlt : j < 64
      · have hKl := HKL.out
        have hcj : wr.cell? ⟨w.heap.size, j, none⟩ = some (.int .u8 ((K.getD j 0).toNat : Int)) := by
          rw [HBR.out.cell, u8s_get' _ _ (by simp; omega), xor_at K x j (by omega)]
        have hxb := xor_b (K.getD j 0) x
        have hfj := HBR.out.frozen j
        have hbl := HBR.out.lt
        have HSB : Hid (Blk (wr.setCell ⟨w.heap.size, j, none⟩ (.int .u8 (K.getD j 0 ^^^ x).toNat)) w.heap.size 5 (u8s ((K.take (j + 1)).map (· ^^^ x) ++ K.drop (j + 1))).toArray) := Lib.hid (by
          have := HBR.out.set_ j (.int .u8 ((K.getD j 0 ^^^ x).toNat : Int))
          rwa [u8s_set, xor_set K x j (by omega)] at this)
        have HSX : Hid (Ext No w (wr.setCell ⟨w.heap.size, j, none⟩ (.int .u8 (K.getD j 0 ^^^ x).toNat))) := Lib.hid (HXR.out.setCell (fun hi => absurd hi (by simp)) _)
        obtain ⟨kb, hkb⟩ : ∃ b, K.getD j 0 = b := ⟨_, rfl⟩
        rw [hkb] at hcj hxb HSB HSX
        obtain ⟨xb, hxbe⟩ : ∃ b, kb ^^^ x = b := ⟨_, rfl⟩
        rw [hxbe] at hxb HSB HSX
        clear hkb hxbe hKl
        go_wp2_with fail
        exact ⟨⟨j + 1, by omega, by go_num, HSB, HSX⟩, by simp [intOf]; omega⟩
      · obtain rfl : j = 64 := by omega
        have HBF : Hid (Blk wr w.heap.size 5 (u8s (kx key x)).toArray) := Lib.hid (by
          have := HBR.out
          rwa [List.take_of_length_le (by have := HKL.out; omega), List.drop_of_length_le (by have := HKL.out; omega), List.append_nil, ← HKE.out] at this)
        go_wp2_with fail
        go_ret
        exact ⟨.slice (some ⟨w.heap.size, 0, none⟩) 64 64, rfl, ⟨by rw [u8s_length, Nat.mul_one], .inr ⟨w.heap.size, 64, _, by rw [kx_len], Nat.le_refl _, HBF.out, by rw [kx_len]; exact Nat.le_refl _, by unfold maxLen; decide, by rw [List.size_toArray, u8s_length, kx_len], by rw [kx_len]; exact List.take_of_length_le (by rw [u8s_length, kx_len]; omega)⟩⟩, HXR.out⟩
  · have hkb : kbl key = key ++ List.replicate (64 - key.length) 0 := by unfold kbl kshort; rw [if_neg hl]
    have HKD := Lib.hid (hK.symm.trans hkb)
    clear hkb hK
    go_wp2_with ((with_reducible show wpList _ _ _ _ _ _); (refine copy_bs (o := ⟨some 20, _, _, _, _, _⟩) rfl (.tmp 18) (.tmp 19) rfl (u := .slice A key.length c) (dLen := 64) (dCap := 64) (off := 0) HB0.out rfl rfl (HK.out.ext_no ((Ext.refl No w).alloc (.cells (u8s Z).toArray 5))) (by have := HZS.out; omega) ?_); intro w10 hb10 hx10; rw [HOV.out key (by omega), ← HKD.out] at hb10; have HBC := Lib.hid hb10; have HXC : Hid (Ext No w w10) := Lib.hid (HX0.out.transS hx10 (fun i hi h => absurd hi (by have h' : i = w.heap.size := h; omega))); clear hb10 hx10)
    have hgs := HXC.out.size
    go_loopw [23] (fun i wr => ∃ j : Nat, j ≤ 64 ∧ i = .int .i64 ((j : Nat) : Int) ∧ Hid (Blk wr w.heap.size 5 (u8s ((K.take j).map (· ^^^ x) ++ K.drop j)).toArray) ∧ Hid (Ext No w wr)) (fun i _ => 64 - (intOf i).toNat)
    case atStart => exact ⟨0, by omega, rfl, by simpa using HBC, HXC⟩
    case round =>
      obtain ⟨j, hj, rfl, HBR, HXR⟩ := hrel
      clear HBC HXC hgs
      by_cases hlt : j < 64
      · have hKl := HKL.out
        have hcj : wr.cell? ⟨w.heap.size, j, none⟩ = some (.int .u8 ((K.getD j 0).toNat : Int)) := by
          rw [HBR.out.cell, u8s_get' _ _ (by simp; omega), xor_at K x j (by omega)]
        have hxb := xor_b (K.getD j 0) x
        have hfj := HBR.out.frozen j
        have hbl := HBR.out.lt
        have HSB : Hid (Blk (wr.setCell ⟨w.heap.size, j, none⟩ (.int .u8 (K.getD j 0 ^^^ x).toNat)) w.heap.size 5 (u8s ((K.take (j + 1)).map (· ^^^ x) ++ K.drop (j + 1))).toArray) := Lib.hid (by
          have := HBR.out.set_ j (.int .u8 ((K.getD j 0 ^^^ x).toNat : Int))
          rwa [u8s_set, xor_set K x j (by omega)] at this)
        have HSX : Hid (Ext No w (wr.setCell ⟨w.heap.size, j, none⟩ (.int .u8 (K.getD j 0 ^^^ x).toNat))) := Lib.hid (HXR.out.setCell (fun hi => absurd hi (by simp)) _)
        obtain ⟨kb, hkb⟩ : ∃ b, K.getD j 0 = b := ⟨_, rfl⟩
        rw [hkb] at hcj hxb HSB HSX
        obtain ⟨xb, hxbe⟩ : ∃ b, kb ^^^ x = b := ⟨_, rfl⟩
        rw [hxbe] at hxb HSB HSX
        clear hkb hxbe hKl
        go_wp2_with fail
        exact ⟨⟨j + 1, by omega, by go_num, HSB, HSX⟩, by simp [intOf]; omega⟩
      · obtain rfl : j = 64 := by omega
        have HBF : Hid (Blk wr w.heap.size 5 (u8s (kx key x)).toArray) := Lib.hid (by
          have := HBR.out
          rwa [List.take_of_length_le (by have := HKL.out; omega), List.drop_of_length_le (by have := HKL.out; omega), List.append_nil, ← HKE.out] at this)
        go_wp2_with fail
        go_ret
        exact ⟨.slice (some ⟨w.heap.size, 0, none⟩) 64 64, rfl, ⟨by rw [u8s_length, Nat.mul_one], .inr ⟨w.heap.size, 64, _, by rw [kx_len], Nat.le_refl _, HBF.out, by rw [kx_len]; exact Nat.le_refl _, by unfold maxLen; decide, by rw [List.size_toArray, u8s_length, kx_len], by rw [kx_len]; exact List.take_of_length_le (by rw [u8s_length, kx_len]; omega)⟩⟩, HXR.out⟩
end Go.Proofs.Ytljddghamgjfbaa

/- Package mac: the sum of parts under a key. -/
set_option linter.unusedVariables false
set_option linter.unusedSimpArgs false
namespace Go.Proofs.Ytljddghamgjfbaa
open Go.RowKit Go.Deep Sh

/-- append([][]byte{x}, parts...). -/
theorem app_parts {w : World} {ops : Array Oper} {rest : List Oper} {o : Oper} {a : Act} {Q : Exit → Act → World → Prop} (s x : Operand)
    (ho : o.op = .call { callee := .builtin .append, args := #[s, x], argTypes := #[49, 49] }) (hgd : o.guard = none)
    (g : Nat) (pv v : Value) (lp : List UInt8) (ls : List (List UInt8)) (hs : a.eval s = .slice (some ⟨g, 0, none⟩) 1 1) (hx : a.eval x = v) (hb : Blk w g 27 #[pv]) (hp : Bs w Any pv lp) (hv : Parts w (fun b => b ≠ g) v ls) (hpg : Bs w (fun b => b ≠ g) pv lp) (hl : ls.length ≤ 100000)
    (h : ∀ v' w', Parts w' Any v' (lp :: ls) → Ext (One g) w w' → wpList Try.prog ops Q rest (a.put o.dst v') w') : wpList Try.prog ops Q (o :: rest) a w := by
  obtain ⟨vs, hsl, hr⟩ := hv
  have hvl : vs.length = ls.length := by have := hsl.1; simpa using this
  obtain ⟨Ap, cp, hpv, -⟩ := hp.slice
  have hown : w.ownsRow 0 27 1 (.slice (some ⟨g, 0, none⟩) 1 1) 1 [pv] := ⟨rfl, .inr ⟨g, 1, _, rfl, Nat.zero_le _, hb, Nat.le_refl _, by unfold maxLen; decide, rfl, rfl⟩⟩
  refine wpList_app hgd s x _ ho 0 27 (.slice none 0 0) 1 24 Try.underlying49 info_bytes rfl (by omega) (.slice (some ⟨g, 0, none⟩) 1 1) 1 [pv] hs hown _ v ls.length vs hx hsl (fun y hy => ?_) (by unfold maxLen; omega) (by omega) (Nat.zero_le _) (fun v' w' h2 h3 h4 => ?_)
  · obtain ⟨i, hi, rfl⟩ := List.getElem_of_mem hy
    obtain ⟨u, hu, hbu⟩ := hr i (by omega)
    obtain ⟨A, c, rfl, -⟩ := hbu.slice
    rw [List.getElem?_eq_getElem hi] at hu
    rw [Option.some.inj hu]; rfl
  · have hx : Ext (One g) w w' := (Ext.refl _ w).grown h3 (fun k hk _ => by injection hk with hk; exact hk.symm)
    refine h v' w' ⟨pv :: vs, ?_, fun i hi => ?_⟩ hx
    · have := Sl.of_own h2
      rw [show 1 + ls.length = (lp :: ls).length by simp; omega] at this
      exact this.mono (fun _ _ => trivial)
    · match i, hi with
      | 0, _ => exact ⟨pv, rfl, (hpg.ext hx (fun b hb _ h => hb h)).any⟩
      | i + 1, hi =>
        obtain ⟨u, hu, hbu⟩ := hr i (by simpa using hi)
        exact ⟨u, hu, (hbu.ext hx (fun b hb _ h => hb h)).any⟩
theorem Parts.old {w : World} {F : Nat → Prop} {v : Value} {ls : List (List UInt8)} (h : Parts w F v ls) : Parts w (fun b => F b ∧ b < w.heap.size) v ls := by
  obtain ⟨vs, ⟨h1, A, c, hv, hc, hm, hn⟩, hr⟩ := h
  refine ⟨vs, ⟨h1, A, c, hv, hc, hm, fun h0 => ?_⟩, fun i hi => ?_⟩
  · obtain ⟨b, off, hA, hF, hcell⟩ := hn h0
    obtain ⟨u, hu, _⟩ := hr 0 h0
    exact ⟨b, off, hA, ⟨hF, World.block_lt_of_cell? w _ (hcell 0 _ hu)⟩, hcell⟩
  · obtain ⟨u, hu, hb⟩ := hr i hi
    exact ⟨u, hu, hb.old⟩
theorem Own.off_of {w w' : World} {v : Value} {l : List UInt8} {g : Nat} (h : Own w' w.heap.size v l) (hg : g < w.heap.size) : Bs w' (fun b => b ≠ g) v l := h.bs.mono fun b hb e => by have := hb.1; omega
/-- Ahead of the last line. -/
structure MO (w0 : World) (gr g5 : Nat) (D1 : List UInt8) (w : World) : Prop where
  r : ∃ cs, Blk w gr 45 cs ∧ cs.size = 32
  d : Blk w g5 45 (u8s D1).toArray
  x : Ext No w0 w
  ne : g5 ≠ gr
  ge : w0.heap.size ≤ gr
theorem MO.no {w0 w w' : World} {gr g5 : Nat} {D1 : List UInt8} (h : MO w0 gr g5 D1 w) (hx : Ext No w w') : MO w0 gr g5 D1 w' := by
  obtain ⟨cs, h1, h2⟩ := h.r
  exact ⟨⟨cs, h1.ext_no hx, h2⟩, h.d.ext_no hx, h.x.trans hx, h.ne, h.ge⟩
/-- What each operation of the last line leaves. -/
def FO (kv : Value) (gr g5 : Nat) (K2 D1 D2 : List UInt8) : Nat → Value → World → Prop
  | 0, v, _ => v = kv
  | 1, v, w => ∃ A c, v = .slice A 64 c ∧ Hid (Bs w (fun b => b ≠ gr) v K2)
  | 2, v, _ => v = .slice (some ⟨g5, 0, none⟩) 32 32
  | 3, v, w => ∃ g, v = .slice (some ⟨g, 0, none⟩) 2 2 ∧ Hid (Parts w (fun b => b ≠ gr) v [K2, D1])
  | 4, v, _ => v = .agg (u8s D2).toArray
  | _, _, w => Hid (Blk w gr 45 (u8s D2).toArray)
theorem FO.no {kv : Value} {gr g5 : Nat} {K2 D1 D2 : List UInt8} {w w' : World} (hx : Ext No w w') (j : Nat) (v : Value) (h : FO kv gr g5 K2 D1 D2 j v w) : FO kv gr g5 K2 D1 D2 j v w' := by
  unfold FO at h ⊢
  split at h
  · exact h
  · obtain ⟨A, c, e, hb⟩ := h; exact ⟨A, c, e, Lib.hid (hb.out.ext_no hx)⟩
  · exact h
  · obtain ⟨g, e, hb⟩ := h; exact ⟨g, e, Lib.hid (hb.out.ext_no hx)⟩
  · exact h
  · exact Lib.hid (h.out.ext_no hx)
theorem FO.store {kv : Value} {gr g5 : Nat} {K2 D1 D2 : List UInt8} {w w' : World} (hx : Ext (One gr) w w') (hb' : Blk w' gr 45 (u8s D2).toArray) (j : Nat) (v : Value) (h : FO kv gr g5 K2 D1 D2 j v w) : FO kv gr g5 K2 D1 D2 j v w' := by
  unfold FO at h ⊢
  split at h
  · exact h
  · obtain ⟨A, c, e, hb⟩ := h; exact ⟨A, c, e, Lib.hid (hb.out.ext hx (fun b hb _ h => hb h))⟩
  · exact h
  · obtain ⟨g, e, hb⟩ := h; exact ⟨g, e, Lib.hid (hb.out.ext hx (fun b hb _ h => hb h))⟩
  · exact h
  · exact Lib.hid hb'
set_option maxRecDepth 100000 in
set_option maxHeartbeats 4000000 in
theorem mOf_any (kv v : Value) (key : List UInt8) (ls : List (List UInt8)) (w : World) (hk : Bs w Any kv key) (hkb : key.length ≤ 1000000) (h : Parts w Any v ls) (hl : ls.length ≤ 100000) (hb : ls.flatten.length ≤ 1000000) :
    Calls Try.prog 55 #[kv, v] w fun e w' => e = .returned (.agg (u8s (hmac key ls.flatten)).toArray) ∧ Ext No w w' := by
  obtain ⟨A, c, rfl, hc, hm, -⟩ := h.slice
  unfold maxLen at hm
  have HR0 := Lib.hid (Blk.new w 45 (u8s (List.replicate 32 0)).toArray)
  have HX0 := Lib.hid ((Ext.refl No w).alloc (.cells (u8s (List.replicate 32 0)).toArray 45))
  have HP := Lib.hid h
  have HK := Lib.hid hk
  have HPAD1 := Lib.hid (fun (wx : World) (hx : Ext No w wx) => mPad_any kv key 54 wx (hk.ext_no hx) hkb)
  have HPAD2 := Lib.hid (fun (wx : World) (hx : Ext No w wx) => mPad_any kv key 92 wx (hk.ext_no hx) hkb)
  have HLS := Lib.hid hl
  have HFL := Lib.hid hb
  clear hk h hl hb
  go_enter Try.func55, Try.ntmps55
  have HFC : Hid ((kx key 54 :: ls).flatten = kx key 54 ++ ls.flatten) := Lib.hid List.flatten_cons
  obtain ⟨D1, hD1⟩ : ∃ D, sha (kx key 54 ++ ls.flatten) = D := ⟨_, rfl⟩
  obtain ⟨D2, hD2⟩ : ∃ D, sha (kx key 92 ++ D1) = D := ⟨_, rfl⟩
  have HDM : Hid (hmac key ls.flatten = D2) := Lib.hid (by unfold hmac; rw [hD1, hD2])
  have HD1 := Lib.hid hD1
  have HD2 := Lib.hid hD2
  have HDL1 : Hid (D1.length = 32) := Lib.hid (by rw [← hD1]; exact sha_length _)
  have HDL2 : Hid (D2.length = 32) := Lib.hid (by rw [← hD2]; exact sha_length _)
  have HDS1 := Lib.hid (show (u8s D1).toArray.size = 32 by rw [List.size_toArray, u8s_length]; exact HDL1.out)
  have HDS2 := Lib.hid (show (u8s D2).toArray.size = 32 by rw [List.size_toArray, u8s_length]; exact HDL2.out)
  have HKL1 := Lib.hid (kx_len key 54)
  have HKL2 := Lib.hid (kx_len key 92)
  clear hD1 hD2
  go_wp2_with fail
  refine (HPAD1.out _ HX0.out).mono ?_
  rintro e1 w1 ⟨pv, rfl, ho1, hx1⟩
  obtain ⟨pA, pc, ep, -⟩ := ho1.slice
  rw [kx_len] at ep
  subst ep
  have HX1 := Lib.hid (HX0.out.trans hx1)
  have HR1 := Lib.hid (HR0.out.ext_no hx1)
  have hsz1 : w.heap.size < w1.heap.size := HR1.out.lt
  have HX2 := Lib.hid (HX1.out.alloc (.cells #[.slice pA 64 pc] 27))
  have HB2 := Lib.hid (Blk.new w1 27 #[.slice pA 64 pc])
  have HO2 : Hid (Bs (w1.alloc (.cells #[.slice pA 64 pc] 27)) (fun b => b ≠ w1.heap.size) (.slice pA 64 pc) (kx key 54)) := Lib.hid ((ho1.any.old.ext_no ((Ext.refl No w1).alloc _)).mono (fun b hb e => by have := hb.2; omega))
  have HP2 : Hid (Parts (w1.alloc (.cells #[.slice pA 64 pc] 27)) (fun b => b ≠ w1.heap.size) (.slice A ls.length c) ls) := Lib.hid ((HP.out.old.ext_no HX2.out).mono (fun b hb e => by have := hb.2; omega))
  have HR2 := Lib.hid (HR1.out.alloc (.cells #[.slice pA 64 pc] 27))
  clear ho1 hx1 HX0 HR0 HX1 HR1 HPAD1
  go_wp2_with (first
    | (at_builtin; go_must (refine app_parts (.tmp 8) (.tmp 9) rfl rfl w1.heap.size (.slice pA 64 pc) (.slice A ls.length c) (kx key 54) ls rfl rfl HB2.out HO2.out.any HP2.out HO2.out HLS.out ?_); intro v2 w2 hp2 hx2; have HP3 := Lib.hid hp2; have HX3 : Hid (Ext No w w2) := Lib.hid (HX2.out.transS hx2 (fun i hi h => by have h' : i = w1.heap.size := h; omega)); have HR3 : Hid (Blk w2 w.heap.size 45 (u8s (List.replicate 32 0)).toArray) := Lib.hid (HR2.out.ext hx2 (fun h => by have h' : w.heap.size = w1.heap.size := h; omega)); clear hp2 hx2)
    | (go_at_call 38; refine (shaOf_any Any _ _ w2 HP3.out (by rw [HFC.out, List.length_append, kx_len]; have := HFL.out; omega)).mono ?_; rintro e3 w3 ⟨rfl, hx3⟩; rw [HFC.out, HD1.out]; have HX4 := Lib.hid (HX3.out.trans hx3); have HR4 := Lib.hid (HR3.out.ext_no hx3); have HB4 := Lib.hid (Blk.new w3 45 (u8s (List.replicate 32 0)).toArray); have HX5 := Lib.hid (HX4.out.alloc (.cells (u8s (List.replicate 32 0)).toArray 45)); have HR5 := Lib.hid (HR4.out.alloc (.cells (u8s (List.replicate 32 0)).toArray 45)); clear hx3)
    | ((with_reducible show wpList _ _ _ _ _ _); refine store_blk (o := ⟨none, _, _, _, _, _⟩) 45 (.tmp 5) (.tmp 11) rfl rfl HB4.out rfl rfl (by rw [HDS1.out]; rfl) (by rw [HDS1.out]; exact size_b32) (u8s_one' _) ?_; intro w9 hb9 hx9; have hne : w3.heap.size ≠ w.heap.size := (by have := HX4.out.size; have := HR4.out.lt; omega); have HM : Hid (MO w w.heap.size w3.heap.size D1 w9) := Lib.hid ⟨⟨_, HR5.out.ext hx9 (fun h => hne (by have h' : w.heap.size = w3.heap.size := h; exact h'.symm)), by simp [u8s_length]⟩, hb9, HX5.out.transS hx9 (fun i hi h => absurd hi (by have h' : i = w3.heap.size := h; have := HX4.out.size; omega)), hne, Nat.le_refl _⟩; clear hb9 hx9))
  obtain ⟨gr, hgr⟩ : ∃ x, w.heap.size = x := ⟨_, rfl⟩
  obtain ⟨g5, hg5⟩ : ∃ x, w3.heap.size = x := ⟨_, rfl⟩
  obtain ⟨gq, hgq⟩ : ∃ x, w1.heap.size = x := ⟨_, rfl⟩
  rw [hgr, hg5] at HM
  rw [hgr, hg5, hgq]
  have HGR : Hid (w.heap.size = gr) := Lib.hid hgr
  clear hgr hg5 hgq HB4 HX5 HR5 HX4 HR4 HX3 HR3 HP3 HB2 HO2 HP2 HR2 HX2 hne hsz1
  refine RF.region (vs := fun k => undef) rfl (fun vs => (kv :: (Value.slice A ls.length c) :: undef :: undef :: (Value.pointer (some { block := gr, off := 0 })) :: (Value.pointer (some { block := g5, off := 0 })) :: kv :: (Value.slice pA 64 pc) :: (Value.slice (some { block := gq, off := 0 }) 1 1) :: (Value.slice A ls.length c) :: v2 :: (Value.agg (u8s D1).toArray) :: (vs 0) :: (vs 1) :: (vs 2) :: (vs 3) :: (vs 4) :: []).toArray)
    (FO kv gr g5 (kx key 92) D1 D2) (fun vs wx => Hid (MO w gr g5 D1 wx)) rfl (by kernel_rfl) ?_ ?_ ?_
  · exact Lib.hid (HM.out.no (Ext.refl No _).drew)
  · refine ⟨⟨⟨⟨⟨⟨trivial, ?_⟩, ?_⟩, ?_⟩, ?_⟩, ?_⟩, ?_⟩
    all_goals refine RF.Step.plain rfl rfl (fun vs wx hG hv hd K hK => ?_)
    · go_simp
      have hk4 := hK kv wx hG rfl (fun _ _ h => h)
      simpa only [RF.upd, Nat.reduceEqDiff, if_true, if_false, reduceIte] using hk4
    · have h0 : vs 0 = kv := hd.1
      go_simp
      refine (HPAD2.out _ hG.out.x).mono ?_
      rintro e w' ⟨v1, rfl, ho, hx⟩
      obtain ⟨A1, c1, e1, -⟩ := ho.slice
      rw [kx_len] at e1
      subst e1
      have hk4 := hK _ w' (Lib.hid (hG.out.no hx)) ⟨A1, c1, rfl, Lib.hid (ho.off_of (by obtain ⟨cs, hb, -⟩ := hG.out.r; exact hb.lt))⟩ (fun j _ h => FO.no hx j _ h)
      go_simp
      simpa only [RF.upd, Nat.reduceEqDiff, if_true, if_false, reduceIte, h0] using hk4
    · go_simp
      have hk4 := hK (.slice (some ⟨g5, 0, none⟩) 32 32) wx hG rfl (fun _ _ h => h)
      simpa only [RF.upd, Nat.reduceEqDiff, if_true, if_false, reduceIte] using hk4
    · obtain ⟨A1, c1, h1, hb1⟩ : ∃ A c, vs 1 = .slice A 64 c ∧ Hid (Bs wx (fun b => b ≠ gr) (vs 1) (kx key 92)) := hd.1
      have h2 : vs 2 = .slice (some ⟨g5, 0, none⟩) 32 32 := hd.2.1
      rw [h1] at hb1
      go_simp
      have ha := (Ext.refl No wx).alloc (.cells #[.slice A1 64 c1, .slice (some ⟨g5, 0, none⟩) 32 32] 27)
      have hgl : gr < wx.heap.size := by obtain ⟨cs, hb, -⟩ := hG.out.r; exact hb.lt
      have hb2 : Bs wx (fun b => b ≠ gr) (.slice (some ⟨g5, 0, none⟩) 32 32) D1 := (Bs.whole' hG.out.d (n := 32) (c := 32) HDL1.out.symm (Nat.le_refl _) (by unfold maxLen; decide)).mono (fun b hb e => hG.out.ne (by have hb : b = g5 := hb; rw [← hb, e]))
      have hk4 := hK (.slice (some ⟨wx.heap.size, 0, none⟩) 2 2) _ (Lib.hid (hG.out.no ha)) ⟨wx.heap.size, rfl, Lib.hid (Parts.lit2 hb1.out hb2 (by omega) rfl)⟩ (fun j _ h => FO.no ha j _ h)
      simpa only [RF.upd, Nat.reduceEqDiff, if_true, if_false, reduceIte, h1, h2] using hk4
    · obtain ⟨g, h3, hp3⟩ : ∃ g, vs 3 = .slice (some ⟨g, 0, none⟩) 2 2 ∧ Hid (Parts wx (fun b => b ≠ gr) (vs 3) [kx key 92, D1]) := hd.1
      rw [h3] at hp3
      go_simp
      refine (shaOf_any _ _ _ wx hp3.out (by simp [kx_len, HDL1.out])).mono ?_
      rintro e w' ⟨rfl, hx⟩
      have hf : ([kx key 92, D1] : List (List UInt8)).flatten = kx key 92 ++ D1 := by simp
      rw [hf, HD2.out]
      have hk4 := hK (.agg (u8s D2).toArray) w' (Lib.hid (hG.out.no hx)) rfl (fun j _ h => FO.no hx j _ h)
      go_simp
      simpa only [RF.upd, Nat.reduceEqDiff, if_true, if_false, reduceIte, h3] using hk4
    · have h4 : vs 4 = .agg (u8s D2).toArray := by first | exact hd.1 | exact hd.2.1 | exact hd.2.2.1 | exact hd.2.2.2.1
      obtain ⟨cs, hb, hcs⟩ := hG.out.r
      refine V3.wp_store_blk 45 (.tmp 4) (.tmp 16) rfl hb rfl h4 (by rw [HDS2.out, hcs]) (by rw [HDS2.out]; exact size_b32) (u8s_one' _) ?_
      intro w' hb' hx'
      have hk4 := hK undef w' (Lib.hid ⟨⟨_, hb', HDS2.out⟩, hG.out.d.ext hx' hG.out.ne, hG.out.x.transS hx' (fun i hi h => absurd hi (by have h' : i = gr := h; have := hG.out.ge; omega)), hG.out.ne, hG.out.ge⟩) (Lib.hid hb') (fun j _ h => FO.store hx' hb' j _ h)
      exact hk4
  · intro vs wx hG hF
    have HB5 : Hid (Blk wx gr 45 (u8s D2).toArray) := hF 5 (by decide)
    have HXF := Lib.hid hG.out.x
    clear hG hF
    go_wp2_with fail
    exact bodyPost_ret (v := .agg (u8s D2).toArray) (ret_blk Try.results55 HB5.out rfl _ und_b32 rfl (by rw [HDS2.out]; exact size_b32)) rfl ⟨by rw [HDM.out], HXF.out⟩
end Go.Proofs.Ytljddghamgjfbaa

/- Package mac: Extract, Expand. -/
set_option linter.unusedVariables false
set_option linter.unusedSimpArgs false
namespace Go.Proofs.Ytljddghamgjfbaa
open Go.RowKit Go.Deep Sh

set_option maxRecDepth 100000 in
set_option maxHeartbeats 4000000 in
theorem mExtract_any (kv tv : Value) (key text : List UInt8) (w : World) (hk : Bs w Any kv key) (ht : Bs w Any tv text) (hb : key.length ≤ 1000000) (hb2 : text.length ≤ 1000000) : Calls Try.prog 58 #[kv, tv] w fun e w' => ∃ A c, e = .returned (.slice A 32 c) ∧ Bs w' Any (.slice A 32 c) (hmac key text) ∧ Ext No w w' := by
  obtain ⟨A, c, rfl, hc, hm, -⟩ := ht.slice
  unfold maxLen at hm
  have hp := Parts.lit1 (g := w.heap.size) ht trivial rfl
  have hx1 := (Ext.refl No w).alloc (.cells #[.slice A text.length c] 27)
  have HOF := Lib.hid (mOf_any kv _ key _ _ (hk.ext_no hx1) hb hp (by simp) (by simp; omega))
  rw [show ([text] : List (List UInt8)).flatten = text by simp] at HOF
  have hdl := hmac_len key text
  obtain ⟨D, hD⟩ : ∃ D, hmac key text = D := ⟨_, rfl⟩
  rw [hD] at HOF hdl
  have HD := Lib.hid hD
  have HDL := Lib.hid (show (u8s D).toArray.size = 32 by rw [List.size_toArray, u8s_length]; exact hdl)
  have HDE := Lib.hid hdl
  have HX1 := Lib.hid hx1
  clear hD hdl hp hx1 hk ht
  go_enter Try.func58, Try.ntmps58
  go_wp2_with fail
  refine HOF.out.mono ?_
  rintro e2 w2 ⟨rfl, hx2⟩
  have HX2 := Lib.hid (HX1.out.trans hx2)
  clear HOF HX1 hx2
  have HB3 := Lib.hid (Blk.new w2 45 (u8s (List.replicate 32 0)).toArray)
  have HX3 := Lib.hid (HX2.out.alloc (.cells (u8s (List.replicate 32 0)).toArray 45))
  go_wp2_with ((with_reducible show wpList _ _ _ _ _ _); refine store_blk (o := ⟨none, _, _, _, _, _⟩) 45 (.tmp 5) (.tmp 9) rfl rfl HB3.out rfl rfl (by rw [HDL.out]; rfl) (by rw [HDL.out]; exact size_b32) (u8s_one' _) ?_; intro w9 hb9 hx9; have HB9 := Lib.hid hb9; have HX9 := Lib.hid (HX3.out.transS hx9 (fun i hi h => absurd hi (by have h' : i = w2.heap.size := h; have := HX2.out.size; omega))); clear hb9 hx9)
  go_ret
  exact ⟨some ⟨w2.heap.size, 0, none⟩, 32, rfl, by rw [HD.out]; exact (Bs.whole' HB9.out (n := 32) (c := 32) HDE.out.symm (Nat.le_refl _) (by unfold maxLen; decide)).any, HX9.out⟩
/-- So many bytes of a key; none, if there are to be too many. -/
def expandI (key : List UInt8) (n : Int) (info : List UInt8) : List UInt8 := if n < 0 ∨ 8160 < n then [] else expand key n.toNat info
/-- The last piece, in an array of its own. -/
def LastIs (w : World) (v : Value) (T : List UInt8) : Prop := Bs w (fun b => ∃ cs, Blk w b 45 cs) v T
theorem LastIs.no {w w' : World} {v : Value} {T : List UInt8} (h : LastIs w v T) (hx : Ext No w w') : LastIs w' v T := (Bs.ext_no h hx).mono fun b ⟨cs, hb⟩ => ⟨cs, hb.ext_no hx⟩
theorem LastIs.grown {w w' : World} {v ov : Value} {T l : List UInt8} {base : Nat} (h : LastIs w v T) (ho : Own w base ov l) (hg : w.grownBy w' ov.ownBlock) : LastIs w' v T := by
  have he : Ext (fun k => ov.ownBlock = some k) w w' := (Ext.refl _ w).grown hg (fun k hk _ => hk)
  have hn : ∀ b, (∃ cs, Blk w b 45 cs) → ¬ ov.ownBlock = some b := by
    rintro b ⟨cs, hb⟩ e
    obtain ⟨_, cs', hb'⟩ := (Mid.of_own ho).blk b e
    exact absurd rfl (Blk.ne_ hb hb' (by decide))
  exact (Bs.ext h he (fun b hb _ => hn b hb)).mono fun b ⟨cs, hb⟩ => ⟨cs, hb.ext he (hn b ⟨cs, hb⟩)⟩
theorem ofNat_next (k : Nat) : IntKind.u8.wrap (((UInt8.ofNat (k + 1)).toNat : Int) + 1) = ((UInt8.ofNat (k + 1 + 1)).toNat : Int) := by
  rw [UInt8.toNat_ofNat', UInt8.toNat_ofNat', IntKind.wrap_u8]; omega
/-- Within Expand, behind k pieces. -/
structure ExS (w0 : World) (jv ov lv : Value) (key info : List UInt8) (k : Nat) (w : World) : Prop where
  j : Bs w Any jv info
  o : Own w w0.heap.size ov (hkO key info k)
  l : LastIs w lv (hkT key info k)
  x : Ext No w0 w
set_option maxRecDepth 100000 in
set_option maxHeartbeats 4000000 in
theorem mExpand_any (kv v : Value) (n : Int) (key : List UInt8) (ls : List (List UInt8)) (w : World) (hk : Bs w Any kv key) (hkb : key.length ≤ 1000000) (h : Parts w Any v ls) (hl : ls.length ≤ 100000) (hb : ls.flatten.length ≤ 900000) :
    Calls Try.prog 59 #[kv, .int .i64 n, v] w fun e w' => ∃ v', e = .returned v' ∧ Bs w' Any v' (expandI key n ls.flatten) ∧ Ext No w w' := by
  have HK := Lib.hid hk
  have HJ := Lib.hid (oJoin_any Any v ls w h (by omega))
  have HLB := Lib.hid hb
  have HKB := Lib.hid hkb
  obtain ⟨info, hinfo⟩ : ∃ i, ls.flatten = i := ⟨_, rfl⟩
  rw [hinfo] at HJ HLB ⊢
  clear hk h hb hkb hinfo
  by_cases h0 : n < 0
  · have he : expandI key n info = [] := by unfold expandI; rw [if_pos (.inl h0)]
    rw [he]
    clear he
    go_enter Try.func59, Try.ntmps59
    go_wp2_with fail
    go_ret
    exact ⟨_, rfl, Bs.nil _ _, Ext.refl _ _⟩
  · by_cases h8 : 8160 < n
    · have he : expandI key n info = [] := by unfold expandI; rw [if_pos (.inr h8)]
      rw [he]
      clear he
      go_enter Try.func59, Try.ntmps59
      go_wp2_with fail
      go_ret
      exact ⟨_, rfl, Bs.nil _ _, Ext.refl _ _⟩
    · obtain ⟨m, rfl⟩ : ∃ m : Nat, n = (m : Int) := ⟨n.toNat, by omega⟩
      have he : expandI key (m : Int) info = expand key m info := by unfold expandI; rw [if_neg (by omega)]; rfl
      rw [he]
      clear he
      go_enter Try.func59, Try.ntmps59
      go_wp2_with (go_at_call 73; refine HJ.out.mono ?_; rintro e1 w1 ⟨jA, jn, jc, rfl, ho1, hx1⟩; obtain rfl := ho1.len; have HJ1 := Lib.hid ho1.any; have HX1 := Lib.hid hx1; have HS : Hid (ExS w1 (.slice jA info.length jc) (.slice none 0 0) (.slice none 0 0) key info 0 w1) := Lib.hid ⟨ho1.any, Own.nil _ _, Bs.nil _ _, Ext.refl _ _⟩; clear ho1 hx1)
      clear HJ
      go_loopw [8, 9, 10] (fun ov lv i wr => ∃ (k : Nat), 32 * k < m + 32 ∧ i = .int .u8 ((UInt8.ofNat (k + 1)).toNat : Int) ∧ Hid (ExS w1 (.slice jA info.length jc) ov lv key info k wr)) (fun ov _ _ _ => m + 32 - (match ov with | .slice _ n _ => n | _ => 0))
      case atStart => exact ⟨0, by omega, rfl, HS⟩
      case round =>
        obtain ⟨k, hk, rfl, HR⟩ := hrel
        clear HS
        have hol := hkO_len key info k
        obtain ⟨oA, oc, eo, -⟩ := HR.out.o.slice
        rw [hol] at eo
        subst eo
        obtain ⟨lA, lc, rfl, -⟩ := Bs.slice HR.out.l
        have HOL := Lib.hid hol
        clear hol
        by_cases hlt : 32 * k < m
        · have hlt' : 32 * (k : Int) < (m : Int) := by omega
          obtain ⟨ib, hib⟩ : ∃ b, UInt8.ofNat (k + 1) = b := ⟨_, rfl⟩
          have HNX := Lib.hid (ofNat_next k)
          rw [hib] at HNX
          obtain ⟨T, hT⟩ : ∃ T, hkT key info k = T := ⟨_, rfl⟩
          have HTL : Hid (T.length ≤ 32) := Lib.hid (by rw [← hT]; cases k with | zero => exact Nat.zero_le _ | succ k => rw [hkT_len]; exact Nat.le_refl _)
          have HT1 : Hid (hkT key info (k + 1) = hmac key (T ++ info ++ [ib])) := Lib.hid (by rw [← hT, ← hib]; rfl)
          have hb3 := bs_lit1' wr (ib.toNat : Int) ib rfl (g := wr.heap.size) rfl
          have hx3 := (Ext.refl No wr).alloc (.cells #[.int .u8 (ib.toNat : Int)] 5)
          have hlast : Bs wr Any (.slice lA T.length lc) T := by rw [← hT]; exact Bs.any HR.out.l
          have hp := Parts.lit3 (F := Any) (g := wr.heap.size + 1) (hlast.ext_no hx3) (HR.out.j.ext_no hx3) hb3.any trivial (by simp)
          have hx4 := hx3.alloc (.cells #[.slice lA T.length lc, .slice jA info.length jc, .slice (some ⟨wr.heap.size, 0, none⟩) 1 1] 27)
          have HOF := Lib.hid (mOf_any kv _ key _ _ (HK.out.ext_no (HX1.out.trans (HR.out.x.trans hx4))) HKB.out hp (by simp) (by simp; have := HTL.out; have := HLB.out; omega))
          rw [show ([T, info, [ib]] : List (List UInt8)).flatten = T ++ info ++ [ib] by simp] at HOF
          have hdl := hmac_len key (T ++ info ++ [ib])
          obtain ⟨D, hD⟩ : ∃ D, hmac key (T ++ info ++ [ib]) = D := ⟨_, rfl⟩
          rw [hD] at HOF hdl HT1
          have HDL := Lib.hid (show (u8s D).toArray.size = 32 by rw [List.size_toArray, u8s_length]; exact hdl)
          have HDE := Lib.hid hdl
          have HX4 := Lib.hid hx4
          rw [hib, hT]
          have hT' := Lib.hid hT
          clear hib hD hdl hp hb3 hx3 hx4 hlast
          go_wp2_with fail
          refine HOF.out.mono ?_
          rintro e5 w5 ⟨rfl, hx5⟩
          have hx45 := HX4.out.trans hx5
          have HR5 : Hid (ExS w1 (.slice jA info.length jc) (.slice oA (32 * k) oc) (.slice lA T.length lc) key info k w5) := Lib.hid (by
            have hr := HR.out
            rw [hT'.out] at hr
            exact ⟨hr.j.ext_no hx45, hr.o.ext_no hx45, hr.l.no hx45, hr.x.trans hx45⟩)
          clear HOF HX4 hx5 hx45 HR
          have HB6 := Lib.hid (Blk.new w5 45 (u8s (List.replicate 32 0)).toArray)
          go_wp2_with (first
            | ((with_reducible show wpList _ _ _ _ _ _); refine store_blk (o := ⟨none, _, _, _, _, _⟩) 45 (.tmp 11) (.tmp 32) rfl rfl HB6.out rfl rfl (by rw [HDL.out]; rfl) (by rw [HDL.out]; exact size_b32) (u8s_one' _) ?_; intro w9 hb9 hx9; have hx59 : Ext No w5 w9 := (((Ext.refl No w5).alloc _).transS hx9 (fun i hi h => absurd hi (by have h' : i = w5.heap.size := h; omega))); have HB9 := Lib.hid hb9; have HX9 := Lib.hid hx59; clear hb9 hx9 hx59)
            | (at_builtin; (refine app_bytes (.tmp 34) (.tmp 35) rfl rfl w1.heap.size (.slice oA (32 * k) oc) _ _ D rfl rfl (HR5.out.o.ext_no HX9.out) _ (Bs.whole' HB9.out (n := 32) (c := 32) HDE.out.symm (Nat.le_refl _) (by unfold maxLen; decide)) (by rw [HDE.out, HOL.out]; omega) (HR5.out.x.trans HX9.out).size ?_); intro v7 w7 ho7 hg7 hat7; have HO7 := Lib.hid ho7; have HG7 := Lib.hid hg7; clear ho7 hg7 hat7))
          have HR7 : Hid (ExS w1 (.slice jA info.length jc) v7 (.slice (some ⟨w5.heap.size, 0, none⟩) 32 32) key info (k + 1) w7) := Lib.hid (by
            have ho9 := HR5.out.o.ext_no HX9.out
            have he : Ext (fun i => (Value.slice oA (32 * k) oc).ownBlock = some i) w9 w7 := (Ext.refl _ w9).grown HG7.out (fun k hk _ => hk)
            have hx97 : Ext No w1 w7 := (HR5.out.x.trans HX9.out).grown HG7.out (fun i hi hl => absurd hl (by have := (ho9.lt i hi).1; omega))
            have hlast : LastIs w9 (.slice (some ⟨w5.heap.size, 0, none⟩) 32 32) D := (Bs.whole' HB9.out (n := 32) (c := 32) HDE.out.symm (Nat.le_refl _) (by unfold maxLen; decide)).mono (fun b hb => ⟨(u8s D).toArray, by have hb : b = w5.heap.size := hb; subst hb; exact HB9.out⟩)
            refine ⟨?_, ?_, ?_, hx97⟩
            · exact HJ1.out.ext_no hx97
            · show Own w7 w1.heap.size v7 (hkO key info k ++ hkT key info (k + 1)); rw [HT1.out]; exact HO7.out
            · rw [HT1.out]; exact hlast.grown ho9 HG7.out)
          have HOL7 := Lib.hid (hkO_len key info (k + 1))
          obtain ⟨oA7, oc7, eo7, -⟩ := HR7.out.o.slice
          rw [HOL7.out] at eo7
          subst eo7
          go_roundw
          case rel => exact ⟨k + 1, by omega, by rw [← HNX.out, IntKind.wrap_u8], HR7⟩
          case measure => show m + 32 - 32 * (k + 1) < m + 32 - 32 * k; omega
        · have hn : ¬ 32 * (k : Int) < (m : Int) := by omega
          have hb8 : m ≤ 32 * k := by omega
          have HEX : Hid (expand key m info = (hkO key info k).take m) := Lib.hid (by
            unfold expand
            rw [show (m + 31) / 32 = k by omega])
          have HRX := Lib.hid (HX1.out.trans HR.out.x)
          rcases HR.out.o.2 with ⟨e, e0⟩ | ⟨g, cap, cur, e, hgb, hblk, hcap, hmax, -⟩
          · injection e with e1 e2 e3
            obtain rfl : k = 0 := by omega
            obtain rfl : m = 0 := by omega
            subst e1 e3
            have HE0 : Hid (expand key 0 info = []) := Lib.hid (by rw [HEX.out, List.take_zero])
            clear hb8 HEX e2 e0 hn
            go_wp2_with fail
            go_ret
            exact ⟨_, rfl, by rw [HE0.out]; exact Bs.nil _ _, HRX.out⟩
          · injection e with e1 e2 e3
            subst e1
            have HBF := Lib.hid HR.out.o.any
            have HCB : Hid (m ≤ oc ∧ oc ≤ maxLen) := Lib.hid ⟨by have := HOL.out; omega, by omega⟩
            have hmo : m ≤ oc := HCB.out.1
            have hcm : oc ≤ 9223372036854775807 := by have := HCB.out.2; unfold maxLen at this; omega
            clear e2 e3 hblk hcap hmax hgb
            have HRS : Hid (Bs wr Any (.slice (some ⟨g, 0, none⟩) m m) (expand key m info)) := Lib.hid (by
              have := HBF.out.sub (i := 0) (j := m) (Nat.zero_le _) (by rw [HOL.out]; omega) (m := m) (c' := m) (by omega) (Nat.le_refl _) (by have := HCB.out; omega)
              rwa [List.drop_zero, ← HEX.out] at this)
            clear hb8
            go_wp2_with fail
            go_ret
            exact ⟨_, rfl, HRS.out, HRX.out⟩
end Go.Proofs.Ytljddghamgjfbaa
