/- Package aes: Box, word, and a block's rounds. -/
import Derived.Test.YtljddghamgjfbaaAesWalk
import Derived.StillTailTactics
set_option linter.unusedVariables false
set_option linter.unusedSimpArgs false
namespace Go.Proofs.Ytljddghamgjfbaa
open Go.RowKit Go.Deep Ae

theorem IsT.box {w : World} {g : Nat} (h : IsT w g) (c : UInt8) : w.cell? ⟨g, c.toNat, none⟩ = some (.int .u8 ((bx c).toNat : Int)) := by
  rw [h.cell, List.getElem?_toArray]; unfold u8s; rw [List.getElem?_map, tbl_box]; rfl
theorem IsT.two {w : World} {g : Nat} (h : IsT w g) (c : UInt8) : w.cell? ⟨g, 256 + c.toNat, none⟩ = some (.int .u8 ((db c).toNat : Int)) := by
  rw [h.cell, List.getElem?_toArray]; unfold u8s; rw [List.getElem?_map, tbl_two]; rfl
set_option maxRecDepth 100000 in
set_option maxHeartbeats 1000000 in
theorem aBox_any (g : Nat) (c : UInt8) (w : World) (h : IsT w g) : Calls Try.prog 45 #[pB g, .int .u8 (c.toNat : Int)] w fun e w' => e = .returned (.int .u8 ((bx c).toNat : Int)) ∧ Ext No w w' := by
  have hc : (c.toNat : Int) < 256 := by have := c.toNat_lt; omega
  have e1 := h.box c
  have f1 := Blk.frozen h c.toNat
  have hl := h.lt
  obtain ⟨d, hd⟩ : ∃ d, bx c = d := ⟨_, rfl⟩
  rw [hd] at e1 ⊢
  clear hd h
  go_enter Try.func45, Try.ntmps45
  go_wp2_with fail
  go_ret
  exact ⟨rfl, Ext.refl _ _⟩
/-- A cipher's block: its table, its rounds' keys. -/
def ciC (tg : Nat) (K : List UInt8) : Array Value := (pB tg :: u8s K).toArray
structure IsC (w : World) (g tg : Nat) (K : List UInt8) : Prop where
  c : Blk w g 118 (ciC tg K)
  t : IsT w tg
  k : K.length = 240
theorem IsC.no {w w' : World} {g tg : Nat} {K : List UInt8} (h : IsC w g tg K) (hx : Ext No w w') : IsC w' g tg K := ⟨h.c.ext_no hx, h.t.ext_no hx, h.k⟩
theorem IsC.tab {w : World} {g tg : Nat} {K : List UInt8} (h : IsC w g tg K) : w.cell? ⟨g, 0, none⟩ = some (pB tg) := h.c.cell 0
theorem IsC.key {w : World} {g tg : Nat} {K : List UInt8} (h : IsC w g tg K) (i : Nat) (hi : i < 240) : w.cell? ⟨g, 1 + i, none⟩ = some (.int .u8 ((K.getD i 0).toNat : Int)) := by
  rw [h.c.cell, ← u8s_get' K i (by rw [h.k]; exact hi)]
  unfold ciC
  rw [List.getElem?_toArray, List.getElem?_toArray, Nat.add_comm, List.getElem?_cons_succ]
/-- Within a loop over a block's bytes: the first so many are done. -/
def upto (b r : List UInt8) (n : Nat) : List UInt8 := r.take n ++ b.drop n
theorem upto_length (b r : List UInt8) (n : Nat) (hb : b.length = 16) (hr : r.length = 16) : (upto b r n).length = 16 := by
  unfold upto; rw [List.length_append, List.length_take, List.length_drop]; omega
theorem upto_zero (b r : List UInt8) : upto b r 0 = b := by simp [upto]
theorem upto_all (b r : List UInt8) (hb : b.length = 16) (hr : r.length = 16) : upto b r 16 = r := by
  unfold upto; rw [List.take_of_length_le (by omega), List.drop_of_length_le (by omega), List.append_nil]
theorem upto_get (b r : List UInt8) (n : Nat) (hb : b.length = 16) (hr : r.length = 16) (hn : n < 16) : (upto b r n).getD n 0 = b.getD n 0 := by
  unfold upto
  rw [List.getD_eq_getElem?_getD, List.getD_eq_getElem?_getD, List.getElem?_append_right (by rw [List.length_take]; omega), List.length_take, List.getElem?_drop]
  congr 2; omega
theorem upto_set (b r : List UInt8) (n : Nat) (hb : b.length = 16) (hr : r.length = 16) (hn : n < 16) : (upto b r n).set n (r.getD n 0) = upto b r (n + 1) := by
  unfold upto
  rw [List.set_append_right _ _ (by rw [List.length_take]; omega), List.length_take, Nat.min_eq_left (by omega), Nat.sub_self, List.take_succ_eq_append_getElem (by omega), List.append_assoc, List.drop_eq_getElem_cons (by omega : n < b.length), List.set_cons_zero, List.singleton_append, List.getD_eq_getElem?_getD, List.getElem?_eq_getElem (by omega)]
  rfl
theorem und_16 : Try.prog.underlying 22 = some (.array 16 5) := by kernel_rfl
theorem size_16 : (Try.prog.info? 22).map (·.size) = some 16 := by kernel_rfl
theorem xr_get (a b : List UInt8) (i : Nat) (ha : a.length = 16) (hb : b.length = 16) (hi : i < 16) : (xr a b).getD i 0 = a.getD i 0 ^^^ b.getD i 0 := by
  unfold xr
  rw [List.getD_eq_getElem?_getD, List.getD_eq_getElem?_getD, List.getD_eq_getElem?_getD, List.getElem?_zipWith, List.getElem?_eq_getElem (by omega), List.getElem?_eq_getElem (by omega)]
  rfl
theorem rk_get (K : List UInt8) (r i : Nat) (hi : i < 16) : (rk K r).getD i 0 = K.getD (r * 16 + i) 0 := by
  unfold rk
  rw [List.getD_eq_getElem?_getD, List.getD_eq_getElem?_getD, List.getElem?_take_of_lt hi, List.getElem?_drop, Nat.mul_comm]
/-- A block of the call's own beside its result. -/
structure Two16 (w0 : World) (A B : List UInt8) (w : World) : Prop where
  a : Blk w w0.heap.size 22 (u8s A).toArray
  b : Blk w (w0.heap.size + 1) 22 (u8s B).toArray
  x : Ext No w0 w
theorem Two16.new (w : World) (A B : List UInt8) : Two16 w A B ((w.alloc (.cells (u8s A).toArray 22)).alloc (.cells (u8s B).toArray 22)) := by
  refine ⟨(Blk.new w _ _).alloc _, ?_, ((Ext.refl No w).alloc _).alloc _⟩
  have := Blk.new (w.alloc (.cells (u8s A).toArray 22)) 22 (u8s B).toArray
  rwa [World.size_alloc] at this
theorem Two16.drew {w0 w : World} {A B : List UInt8} (h : Two16 w0 A B w) : Two16 w0 A B w.drew := ⟨h.a, h.b, h.x.drew⟩
theorem Two16.drewN {w0 w : World} {A B : List UInt8} (h : Two16 w0 A B w) (n : Nat) : Two16 w0 A B (w.drewN n) := ⟨h.a, h.b, h.x.drewN n⟩
theorem Two16.setA {w0 w : World} {A B : List UInt8} (h : Two16 w0 A B w) (i : Nat) (c : UInt8) : Two16 w0 (A.set i c) B (w.setCell ⟨w0.heap.size, i, none⟩ (.int .u8 (c.toNat : Int))) := by
  have := Blk.set_ h.a i (.int .u8 (c.toNat : Int))
  rw [u8s_set] at this
  exact ⟨this, h.b.far (by simp) _, Ext.setCell h.x (fun h => by have h : w0.heap.size < w0.heap.size := h; omega) _⟩
set_option maxRecDepth 100000 in
set_option maxHeartbeats 1000000 in
theorem aAdd_any (g tg : Nat) (K b : List UInt8) (r : Nat) (w : World) (h : IsC w g tg K) (hb : b.length = 16) (hr : r < 15) : Calls Try.prog 85 #[pB g, .agg (u8s b).toArray, .int .i64 (r : Int)] w fun e w' => e = .returned (.agg (u8s (xr b (rk K r))).toArray) ∧ Ext No w w' := by
  have HC := Lib.hid h
  obtain ⟨R, hR⟩ : ∃ R, xr b (rk K r) = R := ⟨_, rfl⟩
  have HRL : Hid (R.length = 16) := Lib.hid (by rw [← hR, xr_length, rk_length _ _ h.k hr, hb]; rfl)
  have HRG : Hid (∀ i, i < 16 → R.getD i 0 = b.getD i 0 ^^^ K.getD (r * 16 + i) 0) := Lib.hid (fun i hi => by rw [← hR, xr_get _ _ _ hb (rk_length _ _ h.k hr) hi, rk_get _ _ _ hi])
  rw [hR]
  have HB := Lib.hid hb
  clear hR h hb
  go_enter Try.func85, Try.ntmps85
  go_wp2_with fail
  change Code.wp _ _ _ _ ((w.alloc (.cells (u8s b).toArray 22)).alloc (.cells (u8s (List.replicate 16 0)).toArray 22))
  have HS : Hid (Two16 w (upto b R 0) (List.replicate 16 0) ((w.alloc (.cells (u8s b).toArray 22)).alloc (.cells (u8s (List.replicate 16 0)).toArray 22))) := Lib.hid (by rw [upto_zero]; exact Two16.new w _ _)
  generalize (w.alloc (.cells (u8s b).toArray 22)).alloc (.cells (u8s (List.replicate 16 0)).toArray 22) = w1 at *
  go_loopw [8] (fun i wr => ∃ k : Nat, k ≤ 16 ∧ i = .int .i64 (k : Int) ∧ Hid (Two16 w (upto b R k) (List.replicate 16 0) wr)) (fun i _ => 16 - (intOf i).toNat)
  case atStart => exact ⟨0, by omega, rfl, HS⟩
  case round =>
    clear HS
    obtain ⟨k, hk, rfl, HR⟩ := hrel
    by_cases hlt : k < 16
    · have hbl : k < (upto b R k).length := by rw [upto_length _ _ _ HB.out HRL.out]; exact hlt
      have e1 : wr.drew.cell? ⟨w.heap.size, k, none⟩ = _ := (HR.out.a.cell k).trans (u8s_get' _ k hbl)
      rw [upto_get _ _ _ HB.out HRL.out hlt] at e1
      have f1 : wr.drew.frozen? ⟨w.heap.size, k, none⟩ = _ := HR.out.a.frozen k
      have e2 : wr.drew.cell? ⟨g, 1 + (r * 16 + k), none⟩ = _ := (HC.out.no HR.out.x).key (r * 16 + k) (by omega)
      rw [← Nat.add_assoc] at e2
      have HN := Lib.hid (HR.out.drew.setA k (R.getD k 0))
      have HX := HRG.out k hlt
      have HST := Lib.hid (upto_set b R k HB.out HRL.out hlt)
      rw [HST.out] at HN
      obtain ⟨a, ha⟩ : ∃ a, b.getD k 0 = a := ⟨_, rfl⟩
      obtain ⟨y, hy⟩ : ∃ y, K.getD (r * 16 + k) 0 = y := ⟨_, rfl⟩
      rw [ha] at e1
      rw [hy] at e2
      rw [HX, ha, hy] at HN
      have hxy := xor_u8 a y
      obtain ⟨z, hz⟩ : ∃ z, a ^^^ y = z := ⟨_, rfl⟩
      rw [hz] at hxy HN
      clear HX ha hy hz HST HR hbl
      have hr1 : (r : Int) < 15 := by omega
      go_wp2_with fail
      go_still_tail 13, (by kernel_rfl)
      change wpList _ _ _ _ _ wr.drew
      generalize wr.drew = w2 at *
      go_wp2_with fail
      go_roundw
      case rel => exact ⟨k + 1, by omega, by go_num, HN⟩
      case measure => simp [intOf]; omega
    · obtain rfl : k = 16 := by omega
      have HD : Hid (Two16 w R (List.replicate 16 0) wr) := Lib.hid (by have := HR.out; rwa [upto_all _ _ HB.out HRL.out] at this)
      have HSZ : Hid ((u8s R).toArray.size = 16) := Lib.hid (by rw [List.size_toArray, u8s_length, HRL.out])
      clear HR HC
      go_wp2_with (first
        | ((with_reducible show wpList _ _ _ (⟨some 25, _, _, _, _, _⟩ :: _) _ _); refine load_blk 22 (.tmp 4) rfl rfl HD.out.a rfl _ und_16 rfl (by rw [HSZ.out]; exact size_16) ?_)
        | ((with_reducible show wpList _ _ _ (⟨none, _, _, _, _, _⟩ :: _) _ _); refine store_blk 22 (.tmp 6) (.tmp 25) rfl rfl HD.out.b rfl rfl (by rw [HSZ.out]; rfl) (by rw [HSZ.out]; exact size_16) (u8s_one' _) ?_; intro w3 hb3 hx3; have HB3 := Lib.hid hb3; have HX3 := Lib.hid (HD.out.x.transS hx3 (fun i hi h => absurd hi (by have h' : i = w.heap.size + 1 := h; omega))); clear hb3 hx3))
      exact bodyPost_ret (v := .agg (u8s R).toArray) (ret_blk rfl HB3.out rfl _ und_16 rfl (by rw [HSZ.out]; exact size_16)) rfl ⟨rfl, HX3.out⟩
/-- A block of the call's own, its result, and another. -/
structure Three16 (w0 : World) (A B O : List UInt8) (w : World) : Prop where
  a : Blk w w0.heap.size 22 (u8s A).toArray
  b : Blk w (w0.heap.size + 1) 22 (u8s B).toArray
  o : Blk w (w0.heap.size + 1 + 1) 22 (u8s O).toArray
  x : Ext No w0 w
theorem Three16.new (w : World) (A B O : List UInt8) : Three16 w A B O (((w.alloc (.cells (u8s A).toArray 22)).alloc (.cells (u8s B).toArray 22)).alloc (.cells (u8s O).toArray 22)) := by
  have h := Two16.new w A B
  refine ⟨h.a.alloc _, h.b.alloc _, ?_, h.x.alloc _⟩
  have := Blk.new ((w.alloc (.cells (u8s A).toArray 22)).alloc (.cells (u8s B).toArray 22)) 22 (u8s O).toArray
  rwa [World.size_alloc, World.size_alloc] at this
theorem Three16.drew {w0 w : World} {A B O : List UInt8} (h : Three16 w0 A B O w) : Three16 w0 A B O w.drew := ⟨h.a, h.b, h.o, h.x.drew⟩
theorem Three16.drewN {w0 w : World} {A B O : List UInt8} (h : Three16 w0 A B O w) (n : Nat) : Three16 w0 A B O (w.drewN n) := ⟨h.a, h.b, h.o, h.x.drewN n⟩
theorem Three16.setO {w0 w : World} {A B O : List UInt8} (h : Three16 w0 A B O w) (i : Nat) (c : UInt8) : Three16 w0 A B (O.set i c) (w.setCell ⟨w0.heap.size + 1 + 1, i, none⟩ (.int .u8 (c.toNat : Int))) := by
  have := Blk.set_ h.o i (.int .u8 (c.toNat : Int))
  rw [u8s_set] at this
  exact ⟨h.a.far (by simp; omega) _, h.b.far (by simp) _, this, Ext.setCell h.x (fun h => by have h : w0.heap.size + 1 + 1 < w0.heap.size := h; omega) _⟩
theorem shf_get (b : List UInt8) (k : Nat) (h : k < 16) : (shf b).getD k 0 = bx (b.getD ((k + 4 * (k % 4)) % 16) 0) := by
  unfold shf
  rw [List.getD_eq_getElem?_getD, List.getElem?_map, List.getElem?_range h]
  rfl
set_option maxRecDepth 100000 in
set_option maxHeartbeats 1000000 in
theorem aShift_any (g tg : Nat) (K b : List UInt8) (w : World) (h : IsC w g tg K) (hb : b.length = 16) : Calls Try.prog 87 #[pB g, .agg (u8s b).toArray] w fun e w' => e = .returned (.agg (u8s (shf b)).toArray) ∧ Ext No w w' := by
  have HC := Lib.hid h
  have HRG := Lib.hid (shf_get b)
  have hrl := shf_length b
  obtain ⟨R, hR⟩ : ∃ R, shf b = R := ⟨_, rfl⟩
  rw [hR] at HRG hrl ⊢
  have HRL := Lib.hid hrl
  have HB := Lib.hid hb
  clear hR h hb hrl
  obtain ⟨Z, hZ⟩ : ∃ Z : List UInt8, List.replicate 16 0 = Z := ⟨_, rfl⟩
  have HZL : Hid (Z.length = 16) := Lib.hid (by rw [← hZ, List.length_replicate])
  have HS : Hid (Three16 w b (List.replicate 16 0) (upto Z R 0) (((w.alloc (.cells (u8s b).toArray 22)).alloc (.cells (u8s (List.replicate 16 0)).toArray 22)).alloc (.cells (u8s (List.replicate 16 0)).toArray 22))) := Lib.hid (by rw [upto_zero, ← hZ]; exact Three16.new w _ _ _)
  clear hZ
  go_enter Try.func87, Try.ntmps87
  go_wp2_with fail
  change Code.wp _ _ _ _ (((w.alloc (.cells (u8s b).toArray 22)).alloc (.cells (u8s (List.replicate 16 0)).toArray 22)).alloc (.cells (u8s (List.replicate 16 0)).toArray 22))
  generalize ((w.alloc (.cells (u8s b).toArray 22)).alloc (.cells (u8s (List.replicate 16 0)).toArray 22)).alloc (.cells (u8s (List.replicate 16 0)).toArray 22) = w1 at *
  go_loopw [7] (fun i wr => ∃ k : Nat, k ≤ 16 ∧ i = .int .i64 (k : Int) ∧ Hid (Three16 w b (List.replicate 16 0) (upto Z R k) wr)) (fun i _ => 16 - (intOf i).toNat)
  case atStart => exact ⟨0, by omega, rfl, HS⟩
  case round =>
    clear HS
    obtain ⟨k, hk, rfl, HR⟩ := hrel
    by_cases hlt : k < 16
    · have HG := HRG.out k hlt
      obtain ⟨k4, hk4⟩ : ∃ x, k % 4 = x := ⟨_, rfl⟩
      obtain ⟨p, hp⟩ : ∃ x, 4 * k4 = x := ⟨_, rfl⟩
      obtain ⟨s, hs⟩ : ∃ x, k + p = x := ⟨_, rfl⟩
      obtain ⟨m, hm⟩ : ∃ x, s % 16 = x := ⟨_, rfl⟩
      rw [hk4, hp, hs, hm] at HG
      have hml : m < 16 := by omega
      have i1 : ((k : Int)).tmod 4 = (k4 : Int) := by rw [Int.tmod_eq_emod_of_nonneg (by omega)]; omega
      have i2 : IntKind.i64.wrap (4 * (k4 : Int)) = (p : Int) := by rw [IntKind.wrap_i64]; omega
      have i3 : IntKind.i64.wrap ((k : Int) + (p : Int)) = (s : Int) := by rw [IntKind.wrap_i64]; omega
      have i4 : ((s : Int)).tmod 16 = (m : Int) := by rw [Int.tmod_eq_emod_of_nonneg (by omega)]; omega
      have hmi : (m : Int) < 16 := by omega
      have e0 : wr.drew.cell? ⟨g, 0, none⟩ = _ := (HC.out.no HR.out.x).tab
      have e1 : wr.drew.cell? ⟨w.heap.size, m, none⟩ = _ := (HR.out.a.cell m).trans (u8s_get' _ m (by rw [HB.out]; exact hml))
      have hol : k < (upto Z R k).length := by rw [upto_length _ _ _ HZL.out HRL.out]; exact hlt
      have e2 : wr.drew.cell? ⟨w.heap.size + 1 + 1, k, none⟩ = _ := (HR.out.o.cell k).trans (u8s_get' _ k hol)
      have f2 : wr.drew.frozen? ⟨w.heap.size + 1 + 1, k, none⟩ = _ := HR.out.o.frozen k
      have HN := Lib.hid (HR.out.drew.setO k (R.getD k 0))
      rw [upto_set Z R k HZL.out HRL.out hlt, HG] at HN
      obtain ⟨a, ha⟩ : ∃ a, b.getD m 0 = a := ⟨_, rfl⟩
      rw [ha] at e1 HN
      have e3 : wr.drew.cell? ⟨tg, a.toNat, none⟩ = _ := (HC.out.no HR.out.x).t.box a
      have hal : (a.toNat : Int) < 256 := by have := a.toNat_lt; omega
      obtain ⟨y, hy⟩ : ∃ y, bx a = y := ⟨_, rfl⟩
      rw [hy] at e3 HN
      clear HG hk4 hp hs hm ha hy HR hol
      go_wp2_with fail
      go_still_tail 18, (by kernel_rfl)
      change wpList _ _ _ _ _ wr.drew
      generalize wr.drew = w2 at *
      go_wp2_with fail
      go_roundw
      case rel => exact ⟨k + 1, by omega, by go_num, HN⟩
      case measure => simp [intOf]; omega
    · obtain rfl : k = 16 := by omega
      have HD : Hid (Three16 w b (List.replicate 16 0) R wr) := Lib.hid (by have := HR.out; rwa [upto_all _ _ HZL.out HRL.out] at this)
      have HSZ : Hid ((u8s R).toArray.size = 16) := Lib.hid (by rw [List.size_toArray, u8s_length, HRL.out])
      clear HR HC
      go_wp2_with (first
        | ((with_reducible show wpList _ _ _ (⟨some 29, _, _, _, _, _⟩ :: _) _ _); refine load_blk 22 (.tmp 5) rfl rfl HD.out.o rfl _ und_16 rfl (by rw [HSZ.out]; exact size_16) ?_)
        | ((with_reducible show wpList _ _ _ (⟨none, _, _, _, _, _⟩ :: _) _ _); refine store_blk 22 (.tmp 4) (.tmp 29) rfl rfl HD.out.b rfl rfl (by rw [HSZ.out]; rfl) (by rw [HSZ.out]; exact size_16) (u8s_one' _) ?_; intro w3 hb3 hx3; have HB3 := Lib.hid hb3; have HX3 := Lib.hid (HD.out.x.transS hx3 (fun i hi h => absurd hi (by have h' : i = w.heap.size + 1 := h; omega))); clear hb3 hx3))
      exact bodyPost_ret (v := .agg (u8s R).toArray) (ret_blk rfl HB3.out rfl _ und_16 rfl (by rw [HSZ.out]; exact size_16)) rfl ⟨rfl, HX3.out⟩
end Go.Proofs.Ytljddghamgjfbaa
