/- Package sha: schedule. -/
import Derived.Test.YtljddghamgjfbaaSha0
set_option linter.unusedVariables false
set_option linter.unusedSimpArgs false
namespace Go.Proofs.Ytljddghamgjfbaa
open Go.RowKit Go.Deep Sh

theorem s0_bits (x : Nat) (h : x < M) : bits .xor .u32 (bits .xor .u32 ((rotr 7 x : Nat) : Int) ((rotr 18 x : Nat) : Int)) ((x : Int) / 8) = ((s0 x : Nat) : Int) := by
  rw [u32_xor_nat _ _ (rotr_lt _ _ h (by omega)) (rotr_lt _ _ h (by omega)), show ((x : Int) / 8) = ((x / 8 : Nat) : Int) by omega, u32_xor_nat _ _ (xor_lt (rotr_lt _ _ h (by omega)) (rotr_lt _ _ h (by omega))) (by unfold M at h; omega)]
  rfl
theorem s1_bits (x : Nat) (h : x < M) : bits .xor .u32 (bits .xor .u32 ((rotr 17 x : Nat) : Int) ((rotr 19 x : Nat) : Int)) ((x : Int) / 1024) = ((s1 x : Nat) : Int) := by
  rw [u32_xor_nat _ _ (rotr_lt _ _ h (by omega)) (rotr_lt _ _ h (by omega)), show ((x : Int) / 1024) = ((x / 1024 : Nat) : Int) by omega, u32_xor_nat _ _ (xor_lt (rotr_lt _ _ h (by omega)) (rotr_lt _ _ h (by omega))) (by unfold M at h; omega)]
  rfl
theorem b0_bits (x : Nat) (h : x < M) : bits .xor .u32 (bits .xor .u32 ((rotr 2 x : Nat) : Int) ((rotr 13 x : Nat) : Int)) ((rotr 22 x : Nat) : Int) = ((b0 x : Nat) : Int) := by
  rw [u32_xor_nat _ _ (rotr_lt _ _ h (by omega)) (rotr_lt _ _ h (by omega)), u32_xor_nat _ _ (xor_lt (rotr_lt _ _ h (by omega)) (rotr_lt _ _ h (by omega))) (rotr_lt _ _ h (by omega))]
  rfl
theorem b1_bits (x : Nat) (h : x < M) : bits .xor .u32 (bits .xor .u32 ((rotr 6 x : Nat) : Int) ((rotr 11 x : Nat) : Int)) ((rotr 25 x : Nat) : Int) = ((b1 x : Nat) : Int) := by
  rw [u32_xor_nat _ _ (rotr_lt _ _ h (by omega)) (rotr_lt _ _ h (by omega)), u32_xor_nat _ _ (xor_lt (rotr_lt _ _ h (by omega)) (rotr_lt _ _ h (by omega))) (rotr_lt _ _ h (by omega))]
  rfl
/-- The block of words within schedule. -/
structure SchS (w0 : World) (l : List UInt8) (k : Nat) (w : World) : Prop where
  b : Blk w (w0.heap.size + 1) 131 (u32s (wl l k ++ List.replicate (64 - k) 0)).toArray
  r : Blk w w0.heap.size 131 (List.replicate 64 (Value.int .u32 0)).toArray
  x : Ext No w0 w
section
variable {w0 w : World} {l : List UInt8} {k : Nat}
theorem SchS.drew (h : SchS w0 l k w) : SchS w0 l k w.drew := ⟨h.b.drew, h.r.drew, h.x.drew⟩
theorem SchS.drewN (h : SchS w0 l k w) (n : Nat) : SchS w0 l k (w.drewN n) := ⟨h.b.drewN n, h.r.drewN n, h.x.drewN n⟩
theorem SchS.put (h : SchS w0 l k w) (hk : k < 64) (x : Nat) (hx : x = nxt l k (wl l k)) : SchS w0 l (k + 1) (w.setCell ⟨w0.heap.size + 1, k, none⟩ (.int .u32 (x : Int))) := by
  refine ⟨?_, h.r.far (by simp) _, h.x.setCell (fun h => absurd h (by simp)) _⟩
  have := h.b.set_ k (.int .u32 (x : Int))
  rw [u32s_set] at this
  have e : (wl l k ++ List.replicate (64 - k) 0).set k x = wl l (k + 1) ++ List.replicate (64 - (k + 1)) 0 := by
    rw [List.set_append_right _ _ (by rw [wl_length]; omega), wl_length, Nat.sub_self, show 64 - k = (64 - (k + 1)) + 1 by omega, List.replicate_succ, List.set_cons_zero, hx]
    simp only [wl, List.append_assoc, List.singleton_append]
  rw [e] at this
  exact this
theorem SchS.cell (h : SchS w0 l k w) (hk : k < 64) (i : Nat) (hi : i < k) : w.cell? ⟨w0.heap.size + 1, i, none⟩ = some (.int .u32 (((wl l k).getD i 0 : Nat) : Int)) := by
  have hl := wl_length l k
  rw [h.b.cell, u32s_get _ _ (by rw [List.length_append, hl, List.length_replicate]; omega)]
  congr 3
  rw [List.getD_eq_getElem?_getD, List.getElem?_append_left (by omega), List.getD_eq_getElem?_getD]
theorem SchS.at (h : SchS w0 l k w) (hk : k < 64) : w.cell? ⟨w0.heap.size + 1, k, none⟩ = some (.int .u32 0) ∧ w.frozen? ⟨w0.heap.size + 1, k, none⟩ = false := by
  have hl := wl_length l k
  refine ⟨?_, h.b.frozen _⟩
  rw [h.b.cell, u32s_get _ _ (by rw [List.length_append, hl, List.length_replicate]; omega)]
  rw [List.getD_eq_getElem?_getD, List.getElem?_append_right (by omega), hl, Nat.sub_self, List.getElem?_replicate, if_pos (by omega)]
  rfl
end
set_option maxRecDepth 100000 in
set_option maxHeartbeats 4000000 in
theorem shaSched_any (v : Value) (l : List UInt8) (w : World) (hv : Bs w Any v l) (hl : l.length = 64) : Calls Try.prog 103 #[v] w fun e w' => e = .returned (.agg (u32s (wl l 64)).toArray) ∧ Ext No w w' := by
  have hs := hv
  obtain ⟨A, c, rfl, hc, hm, b, o, hA⟩ := hv.slice
  obtain ⟨rfl, hA2⟩ := hA 0 (by omega)
  rw [hl] at hs hc ⊢
  unfold maxLen at hm
  obtain ⟨m64, hm64⟩ : ∃ m, m = 64 := ⟨_, rfl⟩
  rw [show wl l 64 = wl l m64 by rw [hm64]]
  obtain ⟨L, hL⟩ : ∃ L, wl l m64 = L := ⟨_, rfl⟩
  rw [hL]
  have HM64 := Lib.hid hm64
  have HLE := Lib.hid hL
  have HV := Lib.hid hs
  have HL := Lib.hid hl
  have hb0 : Blk ((w.alloc (.cells (List.replicate 64 (Value.int .u32 0)).toArray 131)).alloc (.cells (List.replicate 64 (Value.int .u32 0)).toArray 131)) (w.heap.size + 1) 131 (List.replicate 64 (Value.int .u32 0)).toArray := by
    have := Blk.new (w.alloc (.cells (List.replicate 64 (Value.int .u32 0)).toArray 131)) 131 (List.replicate 64 (Value.int .u32 0)).toArray
    rw [World.size_alloc] at this
    exact this
  have HS : Hid (SchS w l 0 ((w.alloc (.cells (List.replicate 64 (Value.int .u32 0)).toArray 131)).alloc (.cells (List.replicate 64 (Value.int .u32 0)).toArray 131))) := Lib.hid ⟨hb0, (Blk.new w _ _).alloc _, ((Ext.refl No w).alloc _).alloc _⟩
  clear hA hA2 hs hv hl hb0 hL hm64
  go_enter Try.func103, Try.ntmps103
  go_wp2_with fail
  go_loopw [9] (fun i wr => ∃ k : Nat, k ≤ 64 ∧ i = .int .i64 k ∧ Hid (SchS w l k wr)) (fun i _ => 64 - (intOf i).toNat)
  case atStart => exact ⟨0, by omega, rfl, HS⟩
  case round =>
    obtain ⟨k, hk, rfl, HK⟩ := hrel
    clear HS
    have hwl := wl_length l k
    by_cases h64 : k < 64
    · by_cases h16 : k < 16
      · obtain ⟨c1, f1⟩ := HK.out.at h64
        have hx := nxt_lt l k (wl l k)
        have HN : Hid (getL ((l.take (4 * k + 4)).drop (4 * k)) % M = nxt l k (wl l k)) := Lib.hid (by unfold nxt; rw [if_pos h16])
        clear hwl
        go_wp2_with fail
        refine (oGet_any _ ((l.take (4 * k + 4)).drop (4 * k)) wr ((HV.out.ext_no HK.out.x).sub (i := 4 * k) (j := 4 * k + 4) (by omega) (by rw [HL.out]; omega) (by omega) (by omega) (by unfold maxLen; omega))).mono ?_
        rintro e' w' ⟨rfl, rfl⟩
        go_wp2_with fail
        go_roundw
        case rel => exact ⟨k + 1, by omega, by go_num, Lib.hid (by
          have := HK.out.put h64 _ HN.out
          exact this)⟩
        case measure => simp [intOf]; omega
      · have c1 := HK.out.cell h64 (k - 15) (by omega)
        have c2 := HK.out.cell h64 (k - 2) (by omega)
        have c3 := HK.out.cell h64 (k - 16) (by omega)
        have c4 := HK.out.cell h64 (k - 7) (by omega)
        obtain ⟨c5, f5⟩ := HK.out.at h64
        have b15 := getD_lt (wl_lt l k) (k - 15)
        have b2 := getD_lt (wl_lt l k) (k - 2)
        have b16 := getD_lt (wl_lt l k) (k - 16)
        have b7 := getD_lt (wl_lt l k) (k - 7)
        have HN : Hid ((((((wl l k).getD (k - 16) 0 + s0 ((wl l k).getD (k - 15) 0)) % M + (wl l k).getD (k - 7) 0) % M + s1 ((wl l k).getD (k - 2) 0)) % M) = nxt l k (wl l k)) := Lib.hid (by unfold nxt; rw [if_neg h16])
        generalize (wl l k).getD (k - 15) 0 = p15 at *
        generalize (wl l k).getD (k - 2) 0 = p2 at *
        generalize (wl l k).getD (k - 16) 0 = p16 at *
        generalize (wl l k).getD (k - 7) 0 = p7 at *
        have n15 : (k : Int) - 15 = ((k - 15 : Nat) : Int) := by omega
        have n2 : (k : Int) - 2 = ((k - 2 : Nat) : Int) := by omega
        have n16 : (k : Int) - 16 = ((k - 16 : Nat) : Int) := by omega
        have n7 : (k : Int) - 7 = ((k - 7 : Nat) : Int) := by omega
        have B15 : Hid (p15 < M) := Lib.hid b15
        have B2 : Hid (p2 < M) := Lib.hid b2
        clear hwl
        go_wp2_with fail
        go_quiet (fail)
        go_wp2_with (first
          | (go_at_call 105; (with_reducible refine (rot_any p15 B15.out (-7) 7 _ (by omega) (by omega) (by kernel_rfl)).mono ?_); rintro e1 w1 ⟨rfl, rfl⟩)
          | (go_at_call 105; (with_reducible refine (rot_any p15 B15.out (-18) 18 _ (by omega) (by omega) (by kernel_rfl)).mono ?_); rintro e1 w1 ⟨rfl, rfl⟩)
          | (go_at_call 105; (with_reducible refine (rot_any p2 B2.out (-17) 17 _ (by omega) (by omega) (by kernel_rfl)).mono ?_); rintro e1 w1 ⟨rfl, rfl⟩)
          | (go_at_call 105; (with_reducible refine (rot_any p2 B2.out (-19) 19 _ (by omega) (by omega) (by kernel_rfl)).mono ?_); rintro e1 w1 ⟨rfl, rfl⟩))
        go_region
        all_goals
          go_wp2_with fail
          go_roundw
          case rel => exact ⟨k + 1, by omega, by go_num, Lib.hid (by
            have hp := (HK.out.drewN (nq + 1)).put h64 _ HN.out
            rw [s0_bits _ B15.out, s1_bits _ B2.out]
            rw [show (((((p16 + s0 p15) % M + p7) % M + s1 p2) % M : Nat) : Int) = ((p16 : Int) + (s0 p15 : Int) + (p7 : Int) + (s1 p2 : Int)) % 4294967296 by unfold M; omega] at hp
            exact hp)⟩
          case measure => simp [intOf]; omega
    · obtain rfl : k = 64 := by omega
      have hb := HK.out.b
      rw [show 64 - 64 = 0 from rfl, List.replicate_zero, List.append_nil] at hb
      rw [show wl l 64 = L by rw [← HLE.out, HM64.out]] at hb hwl
      have HB := Lib.hid hb
      have HR := Lib.hid HK.out.r
      have HX := Lib.hid HK.out.x
      have hsz : (u32s L).toArray.size = 64 := by rw [List.size_toArray, u32s_length, hwl]
      have HSZ := Lib.hid hsz
      clear hb hwl h64 hsz HK
      go_wp2_with (first
        | ((with_reducible show wpList _ _ _ _ _ _); refine load_blk (o := ⟨some 65, _, _, _, _, _⟩) 131 (.tmp 3) rfl rfl HB.out rfl _ und_w64 rfl (by rw [HSZ.out]; exact size_w64) ?_)
        | ((with_reducible show wpList _ _ _ _ _ _); refine store_blk (o := ⟨none, _, _, _, _, _⟩) 131 (.tmp 2) (.tmp 65) rfl rfl HR.out rfl rfl (by rw [HSZ.out]; rfl) (by rw [HSZ.out]; exact size_w64) (u32s_one _) ?_; intro w9 hb9 hx9; have HB9 := Lib.hid hb9; have HX9 := Lib.hid (HX.out.transS hx9 (fun i hi h => absurd hi (by have h' : i = w.heap.size := h; omega))); clear hb9 hx9))
      exact bodyPost_ret (v := .agg (u32s L).toArray) (ret_blk Try.results103 HB9.out rfl _ und_w64 rfl (by rw [HSZ.out]; exact size_w64)) rfl ⟨rfl, HX9.out⟩
end Go.Proofs.Ytljddghamgjfbaa
