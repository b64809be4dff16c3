/- The laws of chapter 3: MacLong. -/
import Derived.Test.YtljddghamgjfbaaLaw03
import Derived.Test.YtljddghamgjfbaaAppZ
import Derived.Test.YtljddghamgjfbaaArrEq
set_option linter.unusedVariables false
set_option linter.unusedSimpArgs false
namespace Go.Proofs.Ytljddghamgjfbaa
open Go.RowKit Go.Deep Go.Proofs.YtljddghamgjfbaaW.PrintWords Sh Rs

theorem mOf_one (kv : Value) (key text : List UInt8) (tA : Option Addr) (tc : Nat) (w : World) (hk : Bs w Any kv key) (hkb : key.length ≤ 1000000) (ht : Bs w Any (.slice tA text.length tc) text) (htb : text.length ≤ 900000) :
    Calls Try.prog 55 #[kv, .slice (some ⟨w.heap.size, 0, none⟩) 1 1] (w.alloc (.cells #[.slice tA text.length tc] 27)) fun e w' => e = .returned (.agg (u8s (hmac key text)).toArray) ∧ Ext No w w' := by
  have hp := Parts.lit1 (g := w.heap.size) ht trivial rfl
  have hx1 := (Ext.refl No w).alloc (.cells #[.slice tA text.length tc] 27)
  have := mOf_any kv _ key _ _ (hk.ext_no hx1) hkb hp (by simp) (by simp; omega)
  rw [show ([text] : List (List UInt8)).flatten = text by simp] at this
  refine this.mono ?_
  rintro e w' ⟨rfl, hx⟩
  exact ⟨rfl, hx1.trans hx⟩
theorem own_none {w : World} {g : Nat} {base : Nat} (hb : base ≤ g) (h : Blk w g 5 #[]) : Own w base (.slice (some ⟨g, 0, none⟩) 0 0) [] :=
  ⟨rfl, .inr ⟨g, 0, #[], rfl, hb, h, Nat.le_refl _, Nat.zero_le _, rfl, rfl⟩⟩
set_option maxRecDepth 100000 in
set_option maxHeartbeats 1000000 in
theorem long03 (kv tv : Value) (key text : List UInt8) (z : Nat) (w : World) (hk : Bs w Any kv key) (ht : Bs w Any tv text) (hz : z < 256) :
    Calls Try.prog 17 #[kv, .int .u8 (z : Int), tv] w fun e' w' => e' = .returned (.bool true) ∧ Ext No w w' := by
  obtain ⟨kA, kc, rfl, -⟩ := hk.slice
  obtain ⟨tA, tc, rfl, -⟩ := ht.slice
  by_cases h1 : 300 < key.length
  · go_enter Try.func17, Try.ntmps17
    go_wp2_with (go_at_call 54; refine (works03 _).mono ?_; rintro e2 w2 ⟨rfl, hx2⟩; have HX2 := Lib.hid hx2; clear hx2)
    go_ret
    exact ⟨rfl, HX2.out⟩
  · by_cases h2 : 300 < text.length
    · go_enter Try.func17, Try.ntmps17
      go_wp2_with (go_at_call 54; refine (works03 _).mono ?_; rintro e2 w2 ⟨rfl, hx2⟩; have HX2 := Lib.hid hx2; clear hx2)
      go_ret
      exact ⟨rfl, HX2.out⟩
    · have HK := Lib.hid hk
      have HT := Lib.hid ht
      have HE := Lib.hid (fun (wx : World) (hx : Ext No w wx) (v : Value) (k : List UInt8) (hv : Bs wx Any v k) (hl : k.length ≤ 1000) => mOf_one v k text tA tc wx hv (by omega) (ht.ext_no hx) (by omega))
      have hdl := hmac_len key text
      obtain ⟨D, hD⟩ : ∃ D, hmac key text = D := ⟨_, rfl⟩
      rw [hD] at hdl
      have HD := Lib.hid hD
      have HDL := Lib.hid (show (u8s D).toArray.size = 32 by rw [List.size_toArray, u8s_length]; exact hdl)
      have HQ := Lib.hid (run_eql_u8s 45 32 und_b32 D hdl)
      have HX0 := Lib.hid (Ext.refl No w)
      have HKL := Lib.hid (show key.length ≤ 1000 by omega)
      clear hk ht hD hdl
      by_cases h3 : 64 < key.length
      · obtain ⟨S, hS⟩ : ∃ S, sha key = S := ⟨_, rfl⟩
        have HD2 : Hid (hmac S text = D) := Lib.hid (by rw [← hS, hmac_kbl (kbl_sum key h3), HD.out])
        have HSL : Hid (S.length ≤ 1000) := Lib.hid (by rw [← hS, sha_len]; omega)
        have HS := Lib.hid hS
        clear hS
        go_enter Try.func17, Try.ntmps17
        go_wp2_with fail
        refine (HE.out w HX0.out _ key HK.out HKL.out).mono ?_
        rintro e1 w1 ⟨rfl, hx1⟩
        rw [HD.out]
        have HX1 := Lib.hid hx1
        clear hx1
        have HB2 := Lib.hid (Blk.new w1 45 (u8s (List.replicate 32 0)).toArray)
        have HX2 := Lib.hid (HX1.out.alloc (.cells (u8s (List.replicate 32 0)).toArray 45))
        go_wp2_with ((with_reducible show wpList _ _ _ (⟨none, _, _, _, _, _⟩ :: _) _ _); refine store_blk 45 (.tmp 7) (.tmp 23) rfl rfl HB2.out rfl rfl (by rw [HDL.out]; rfl) (by rw [HDL.out]; exact size_b32) (u8s_one' _) ?_; intro w3 hb3 hx3; have HB3 := Lib.hid hb3; have HX3 := Lib.hid (HX2.out.transS hx3 (fun i hi h => absurd hi (by have h' : i = w1.heap.size := h; have := HX1.out.size; omega))); clear hb3 hx3)
        refine (rSum_any _ key w3 (HK.out.ext_no HX3.out) (by have := HKL.out; omega)).mono ?_
        rintro e4 w4 ⟨v4, rfl, hb4, hx4⟩
        rw [HS.out] at hb4
        have HB4 := Lib.hid hb4
        have HX4 := Lib.hid (HX3.out.trans hx4)
        have HC4 := Lib.hid (HB3.out.ext_no hx4)
        clear hb4 hx4
        go_wp2_with fail
        refine (HE.out w4 HX4.out _ S HB4.out HSL.out).mono ?_
        rintro e5 w5 ⟨rfl, hx5⟩
        rw [HD2.out]
        have HX5 := Lib.hid (HX4.out.trans hx5)
        have HC5 := Lib.hid (HC4.out.ext_no hx5)
        clear hx5
        have HB6 := Lib.hid (Blk.new w5 45 (u8s (List.replicate 32 0)).toArray)
        have HX6 := Lib.hid (HX5.out.alloc (.cells (u8s (List.replicate 32 0)).toArray 45))
        have HC6 := Lib.hid (HC5.out.alloc (.cells (u8s (List.replicate 32 0)).toArray 45))
        go_wp2_with (first
          | ((with_reducible show wpList _ _ _ (⟨none, _, _, _, _, _⟩ :: _) _ _); refine store_blk 45 (.tmp 8) (.tmp 31) rfl rfl HB6.out rfl rfl (by rw [HDL.out]; rfl) (by rw [HDL.out]; exact size_b32) (u8s_one' _) ?_; intro w7 hb7 hx7; have HB7 := Lib.hid hb7; have HC7 := Lib.hid (HC6.out.ext hx7 (fun h => absurd HC5.out.lt (by have h' : w1.heap.size = w5.heap.size := h; omega))); have HX7 := Lib.hid (HX6.out.transS hx7 (fun i hi h => absurd hi (by have h' : i = w5.heap.size := h; have := HX5.out.size; omega))); clear hb7 hx7)
          | ((with_reducible show wpList _ _ _ (⟨some 32, _, _, _, _, _⟩ :: _) _ _); refine load_blk 45 (.tmp 7) rfl rfl HC7.out rfl _ und_b32 rfl (by rw [HDL.out]; exact size_b32) ?_)
          | ((with_reducible show wpList _ _ _ (⟨some 33, _, _, _, _, _⟩ :: _) _ _); refine load_blk 45 (.tmp 8) rfl rfl HB7.out rfl _ und_b32 rfl (by rw [HDL.out]; exact size_b32) ?_; have hq := HQ.out)
          | (go_at_call 54; refine (works03 _).mono ?_; rintro e8 w8 ⟨rfl, hx8⟩; have HX8 := Lib.hid (HX7.out.trans hx8); clear hx8))
        go_ret
        exact ⟨rfl, HX8.out⟩
      · obtain ⟨n, hn⟩ : ∃ n, z % (65 - key.length) = n := ⟨_, rfl⟩
        have HD2 : Hid (hmac (key ++ List.replicate n 0) text = D) := Lib.hid (by rw [hmac_kbl (kbl_pad key n (by have := Nat.mod_lt z (show 0 < 65 - key.length by omega); omega)), HD.out])
        have HNL : Hid (n ≤ 1000 ∧ (key ++ List.replicate n (0 : UInt8)).length ≤ 1000) := Lib.hid (by have := Nat.mod_lt z (show 0 < 65 - key.length by omega); rw [List.length_append, List.length_replicate]; omega)
        have hm : (z : Int) % (65 - (key.length : Int)) = (n : Int) := by rw [← hn, Int.natCast_emod, Int.ofNat_sub (by omega)]; rfl
        have HN := Lib.hid hm
        clear hm hn
        go_enter Try.func17, Try.ntmps17
        go_wp2_with fail
        refine (HE.out w HX0.out _ key HK.out HKL.out).mono ?_
        rintro e1 w1 ⟨rfl, hx1⟩
        rw [HD.out]
        have HX1 := Lib.hid hx1
        clear hx1
        have HB2 := Lib.hid (Blk.new w1 45 (u8s (List.replicate 32 0)).toArray)
        have HX2 := Lib.hid (HX1.out.alloc (.cells (u8s (List.replicate 32 0)).toArray 45))
        have HBK : Hid (Bs w Any (.slice kA key.length kc) key) := HK
        go_wp2_with (first
          | ((with_reducible show wpList _ _ _ (⟨none, _, _, _, _, _⟩ :: _) _ _); refine store_blk 45 (.tmp 7) (.tmp 23) rfl rfl HB2.out rfl rfl (by rw [HDL.out]; rfl) (by rw [HDL.out]; exact size_b32) (u8s_one' _) ?_; intro w3 hb3 hx3; have HB3 := Lib.hid hb3; have HX3 := Lib.hid (HX2.out.transS hx3 (fun i hi h => absurd hi (by have h' : i = w1.heap.size := h; have := HX1.out.size; omega))); clear hb3 hx3)
          | ((with_reducible show wpList _ _ _ (⟨some 46, _, _, _, _, _⟩ :: _) _ _); refine app_bytes (.tmp 44) (.tmp 45) rfl rfl w3.heap.size (.slice (some ⟨w3.heap.size, 0, none⟩) 0 0) _ _ key rfl rfl (own_none (Nat.le_refl _) (Blk.new w3 5 #[])) _ (HBK.out.ext_no (HX3.out.alloc _)) (by have := HKL.out; simp; omega) (by simp) ?_; intro v4 w4 ho4 hg4 hat4; have HO4 : Hid (Own w4 w3.heap.size v4 key) := Lib.hid ho4; have HX4 := Lib.hid ((HX3.out.alloc _).grown hg4 (fun k hk hl => absurd hl (by injection hk with hk; have hk' : w3.heap.size = k := hk; have := HX3.out.size; omega))); have HC4 := Lib.hid ((HB3.out.alloc _).grown hg4 (fun e => by injection e with e; have e' : w1.heap.size = w3.heap.size := e; have := HB3.out.lt; omega)); clear ho4 hg4 hat4)
          | ((with_reducible show wpList _ _ _ (⟨some 48, _, _, _, _, _⟩ :: _) _ _); refine app_zeros (.tmp 46) (.tmp 47) rfl rfl w3.heap.size v4 key n rfl (show Value.int .i64 ((z : Int) % (65 - (key.length : Int))) = .int .i64 (n : Int) by rw [HN.out]) HO4.out HNL.out.1 HKL.out ?_; intro v5 w5 hb5 hx5; have HB5 := Lib.hid hb5; have HX5 := Lib.hid (HX4.out.transS hx5 (fun i hi h => absurd hi (by have := (HO4.out.lt i h).1; have := HX3.out.size; omega))); have HC5 := Lib.hid (HC4.out.ext hx5 (fun h => absurd HB3.out.lt (by have := (HO4.out.lt _ h).1; omega))); clear hb5 hx5)
          | fail)
        refine (HE.out w5 HX5.out _ _ HB5.out HNL.out.2).mono ?_
        rintro e6 w6 ⟨rfl, hx6⟩
        rw [HD2.out]
        have HX6 := Lib.hid (HX5.out.trans hx6)
        have HC6 := Lib.hid (HC5.out.ext_no hx6)
        clear hx6
        have HB7 := Lib.hid (Blk.new w6 45 (u8s (List.replicate 32 0)).toArray)
        have HX7 := Lib.hid (HX6.out.alloc (.cells (u8s (List.replicate 32 0)).toArray 45))
        have HC7 := Lib.hid (HC6.out.alloc (.cells (u8s (List.replicate 32 0)).toArray 45))
        go_wp2_with (first
          | ((with_reducible show wpList _ _ _ (⟨none, _, _, _, _, _⟩ :: _) _ _); refine store_blk 45 (.tmp 10) (.tmp 51) rfl rfl HB7.out rfl rfl (by rw [HDL.out]; rfl) (by rw [HDL.out]; exact size_b32) (u8s_one' _) ?_; intro w8 hb8 hx8; have HB8 := Lib.hid hb8; have HC8 := Lib.hid (HC7.out.ext hx8 (fun h => absurd HC6.out.lt (by have h' : w1.heap.size = w6.heap.size := h; omega))); have HX8 := Lib.hid (HX7.out.transS hx8 (fun i hi h => absurd hi (by have h' : i = w6.heap.size := h; have := HX6.out.size; omega))); clear hb8 hx8)
          | ((with_reducible show wpList _ _ _ (⟨some 52, _, _, _, _, _⟩ :: _) _ _); refine load_blk 45 (.tmp 7) rfl rfl HC8.out rfl _ und_b32 rfl (by rw [HDL.out]; exact size_b32) ?_)
          | ((with_reducible show wpList _ _ _ (⟨some 53, _, _, _, _, _⟩ :: _) _ _); refine load_blk 45 (.tmp 10) rfl rfl HB8.out rfl _ und_b32 rfl (by rw [HDL.out]; exact size_b32) ?_; have hq := HQ.out)
          | (go_at_call 54; refine (works03 _).mono ?_; rintro e9 w9 ⟨rfl, hx9⟩; have HX9 := Lib.hid (HX8.out.trans hx9); clear hx9))
        go_ret
        exact ⟨rfl, HX9.out⟩
open Go.ChangeShapes Go.WideShapes in
set_option maxRecDepth 100000 in
theorem walk_MacLong (W : World) (v0 v1 v2 : Value) (u0 : Rd Try.prog W 27 v0.cells.toList) (u1 : Rd Try.prog W 5 v1.cells.toList) (u2 : Rd Try.prog W 27 v2.cells.toList)
    {r : Reach} {base : Nat} (ok0 : Value.okWide Try.prog W r base 27 v0) (ok1 : Value.okWide Try.prog W r base 5 v1) (ok2 : Value.okWide Try.prog W r base 27 v2) :
    Calls Try.prog 17 #[v0, v1, v2] W fun e W' => e = .returned (.bool true) ∧ Ext No W W' := by
  obtain ⟨A, len, cap, rfl⟩ := okWide_slice Try.underlying27 ok0
  obtain ⟨A', c', b, he, hb⟩ := bytes_of u0
  have he : [Value.slice A len cap] = [.slice A' b.length c'] := he
  simp only [List.cons.injEq, Value.slice.injEq, and_true] at he
  obtain ⟨rfl, rfl, rfl⟩ := he
  obtain ⟨A3, len3, cap3, rfl⟩ := okWide_slice Try.underlying27 ok2
  obtain ⟨A3', c3', b3, he3, hb3⟩ := bytes_of u2
  have he3 : [Value.slice A3 len3 cap3] = [.slice A3' b3.length c3'] := he3
  simp only [List.cons.injEq, Value.slice.injEq, and_true] at he3
  obtain ⟨rfl, rfl, rfl⟩ := he3
  obtain ⟨n, rfl, hn⟩ := Rd.int_val Try.underlying5 ok1 u1
  have b1 := bounds_u8 hn
  obtain ⟨p, rfl⟩ : ∃ p : Nat, n = (p : Int) := ⟨n.toNat, by omega⟩
  exact long03 _ _ b b3 p W hb.any hb3.any (by omega)
end Go.Proofs.Ytljddghamgjfbaa
