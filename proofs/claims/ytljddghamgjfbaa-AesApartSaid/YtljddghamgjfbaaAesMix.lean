/- Package aes: mix, Block. -/
import Derived.Test.YtljddghamgjfbaaAesBlk
set_option linter.unusedVariables false
set_option linter.unusedSimpArgs false
namespace Go.Proofs.Ytljddghamgjfbaa
open Go.RowKit Go.Deep Ae

theorem mix_get (b : List UInt8) (i k : Nat) (h4 : i % 4 = 0) (hi : i < 16) (hk : k < 4) : (mix b).getD (i + k) 0 = mxa b i k := by
  unfold mix
  rw [List.getD_eq_getElem?_getD, List.getElem?_map, List.getElem?_range (by omega)]
  show mxa b (4 * ((i + k) / 4)) ((i + k) % 4) = _
  rw [show 4 * ((i + k) / 4) = i by omega, show (i + k) % 4 = k by omega]
set_option maxRecDepth 100000 in
set_option maxHeartbeats 1000000 in
theorem aMix_any (g tg : Nat) (K b : List UInt8) (w : World) (h : IsC w g tg K) (hb : b.length = 16) : Calls Try.prog 86 #[pB g, .agg (u8s b).toArray] w fun e w' => e = .returned (.agg (u8s (mix b)).toArray) ∧ Ext No w w' := by
  have HC := Lib.hid h
  have HRG := Lib.hid (mix_get b)
  have hrl := mix_length b
  obtain ⟨R, hR⟩ : ∃ R, mix b = R := ⟨_, rfl⟩
  rw [hR] at HRG hrl ⊢
  have HRL := Lib.hid hrl
  have HB := Lib.hid hb
  clear hR h hb hrl
  obtain ⟨Z, hZ⟩ : ∃ Z : List UInt8, List.replicate 16 0 = Z := ⟨_, rfl⟩
  have HZL : Hid (Z.length = 16) := Lib.hid (by rw [← hZ, List.length_replicate])
  have HS : Hid (Three16 w b (List.replicate 16 0) (upto Z R 0) (((w.alloc (.cells (u8s b).toArray 22)).alloc (.cells (u8s (List.replicate 16 0)).toArray 22)).alloc (.cells (u8s (List.replicate 16 0)).toArray 22))) := Lib.hid (by rw [upto_zero, ← hZ]; exact Three16.new w _ _ _)
  clear hZ
  go_enter Try.func86, Try.ntmps86
  go_wp2_with fail
  change Code.wp _ _ _ _ (((w.alloc (.cells (u8s b).toArray 22)).alloc (.cells (u8s (List.replicate 16 0)).toArray 22)).alloc (.cells (u8s (List.replicate 16 0)).toArray 22))
  generalize ((w.alloc (.cells (u8s b).toArray 22)).alloc (.cells (u8s (List.replicate 16 0)).toArray 22)).alloc (.cells (u8s (List.replicate 16 0)).toArray 22) = w1 at *
  go_loopw [6] (fun i wr => ∃ k : Nat, k ≤ 16 ∧ k % 4 = 0 ∧ i = .int .i64 (k : Int) ∧ Hid (Three16 w b (List.replicate 16 0) (upto Z R k) wr)) (fun i _ => 16 - (intOf i).toNat)
  case atStart => exact ⟨0, by omega, rfl, rfl, HS⟩
  case round =>
    clear HS
    obtain ⟨i, hi, hi4, rfl, HR⟩ := hrel
    by_cases hlt : i < 16
    · obtain ⟨i1, hi1⟩ : ∃ x, i + 1 = x := ⟨_, rfl⟩
      obtain ⟨i2, hi2⟩ : ∃ x, i + 2 = x := ⟨_, rfl⟩
      obtain ⟨i3, hi3⟩ : ∃ x, i + 3 = x := ⟨_, rfl⟩
      have t1 : IntKind.i64.wrap ((i : Int) + 1) = (i1 : Int) := by rw [IntKind.wrap_i64]; omega
      have t2 : IntKind.i64.wrap ((i : Int) + 2) = (i2 : Int) := by rw [IntKind.wrap_i64]; omega
      have t3 : IntKind.i64.wrap ((i : Int) + 3) = (i3 : Int) := by rw [IntKind.wrap_i64]; omega
      have l1 : (i1 : Int) < 16 := by omega
      have l2 : (i2 : Int) < 16 := by omega
      have l3 : (i3 : Int) < 16 := by omega
      have hbl := HB.out
      have e0 : wr.cell? ⟨w.heap.size, i, none⟩ = _ := (HR.out.a.cell i).trans (u8s_get' _ i (by omega))
      have e1 : wr.cell? ⟨w.heap.size, i1, none⟩ = _ := (HR.out.a.cell i1).trans (u8s_get' _ i1 (by omega))
      have e2 : wr.cell? ⟨w.heap.size, i2, none⟩ = _ := (HR.out.a.cell i2).trans (u8s_get' _ i2 (by omega))
      have e3 : wr.cell? ⟨w.heap.size, i3, none⟩ = _ := (HR.out.a.cell i3).trans (u8s_get' _ i3 (by omega))
      obtain ⟨A, hA⟩ : ∃ x, alx b i = x := ⟨_, rfl⟩
      have HG : Hid (∀ k, k < 4 → R.getD (i + k) 0 = b.getD (i + k) 0 ^^^ A ^^^ db (b.getD (i + k) 0 ^^^ b.getD (i + (k + 1) % 4) 0)) := Lib.hid (fun k hk => by rw [HRG.out i k hi4 hlt hk]; unfold mxa; rw [hA])
      unfold alx at hA
      rw [hi1, hi2, hi3] at hA
      obtain ⟨a0, h0⟩ : ∃ x, b.getD i 0 = x := ⟨_, rfl⟩
      obtain ⟨a1, h1⟩ : ∃ x, b.getD i1 0 = x := ⟨_, rfl⟩
      obtain ⟨a2, h2⟩ : ∃ x, b.getD i2 0 = x := ⟨_, rfl⟩
      obtain ⟨a3, h3⟩ : ∃ x, b.getD i3 0 = x := ⟨_, rfl⟩
      rw [h0] at e0 hA
      rw [h1] at e1 hA
      rw [h2] at e2 hA
      rw [h3] at e3 hA
      have x1 := xor_u8 a0 a1
      have x2 := xor_u8 (a0 ^^^ a1) a2
      have x3 := xor_u8 (a0 ^^^ a1 ^^^ a2) a3
      rw [hA] at x3
      obtain ⟨s1, hs1⟩ : ∃ x, a0 ^^^ a1 = x := ⟨_, rfl⟩
      rw [hs1] at x1 x2 x3
      obtain ⟨s2, hs2⟩ : ∃ x, s1 ^^^ a2 = x := ⟨_, rfl⟩
      rw [hs2] at x2 x3
      have HI4 := Lib.hid hi4
      clear hA h0 h1 h2 h3 hs1 hs2 hi1 hi2 hi3 hbl hi4
      go_wp2_with fail
      go_quiet (fail)
      clear e0 e1 e2 e3 x1 x2 x3 t1 t2 t3 l1 l2 l3
      have HR0 := Lib.hid (show Three16 w b (List.replicate 16 0) (upto Z R (i + 0)) (wr.drewN nq) from HR.out.drewN nq)
      clear HR
      go_wp2_with fail
      rw [show decide ((i : Int) < 16) = true from decide_eq_true (by omega)]
      go_loopw [31] (fun j wr => ∃ k : Nat, k ≤ 4 ∧ j = .int .i64 (k : Int) ∧ Hid (Three16 w b (List.replicate 16 0) (upto Z R (i + k)) wr)) (fun j _ => 4 - (intOf j).toNat)
      case atStart => exact ⟨0, by omega, rfl, HR0⟩
      case round =>
        clear HR0
        obtain ⟨k, hk, rfl, HR⟩ := hrel
        by_cases hlk : k < 4
        · have HGk := HG.out k hlk
          have hi4 := HI4.out
          obtain ⟨p, hp⟩ : ∃ x, i + k = x := ⟨_, rfl⟩
          obtain ⟨k1, hk1⟩ : ∃ x, k + 1 = x := ⟨_, rfl⟩
          obtain ⟨kn, hkn⟩ : ∃ x, k1 % 4 = x := ⟨_, rfl⟩
          obtain ⟨n, hn⟩ : ∃ x, i + kn = x := ⟨_, rfl⟩
          rw [hp, hk1, hkn, hn] at HGk
          rw [hp] at HR
          have hpl : p < 16 := by omega
          have t1 : IntKind.i64.wrap ((i : Int) + (k : Int)) = (p : Int) := by rw [IntKind.wrap_i64]; omega
          have t2 : IntKind.i64.wrap ((k : Int) + 1) = (k1 : Int) := by rw [IntKind.wrap_i64]; omega
          have t3 : (k1 : Int).tmod 4 = (kn : Int) := by rw [Int.tmod_eq_emod_of_nonneg (by omega)]; omega
          have t4 : IntKind.i64.wrap ((i : Int) + (kn : Int)) = (n : Int) := by rw [IntKind.wrap_i64]; omega
          have l1 : (p : Int) < 16 := by omega
          have l2 : (n : Int) < 16 := by omega
          have hbl := HB.out
          have e1 : wr.drew.cell? ⟨w.heap.size, p, none⟩ = _ := (HR.out.a.cell p).trans (u8s_get' _ p (by omega))
          have e2 : wr.drew.cell? ⟨w.heap.size, n, none⟩ = _ := (HR.out.a.cell n).trans (u8s_get' _ n (by omega))
          have hol : p < (upto Z R p).length := by rw [upto_length _ _ _ HZL.out HRL.out]; exact hpl
          have e3 : wr.drew.cell? ⟨w.heap.size + 1 + 1, p, none⟩ = _ := (HR.out.o.cell p).trans (u8s_get' _ p hol)
          have f3 : wr.drew.frozen? ⟨w.heap.size + 1 + 1, p, none⟩ = _ := HR.out.o.frozen p
          have e4 : wr.drew.cell? ⟨g, 0, none⟩ = _ := (HC.out.no HR.out.x).tab
          have HN := Lib.hid (HR.out.drew.setO p (R.getD p 0))
          rw [upto_set Z R p HZL.out HRL.out hpl, HGk] at HN
          obtain ⟨ap, hap⟩ : ∃ x, b.getD p 0 = x := ⟨_, rfl⟩
          obtain ⟨an, han⟩ : ∃ x, b.getD n 0 = x := ⟨_, rfl⟩
          rw [hap] at e1 HN
          rw [han] at e2 HN
          have x1 := xor_u8 ap A
          have x2 := xor_u8 ap an
          obtain ⟨c, hc⟩ : ∃ x, ap ^^^ an = x := ⟨_, rfl⟩
          rw [hc] at x2 HN
          have e5 : wr.drew.cell? ⟨tg, 256 + c.toNat, none⟩ = _ := (HC.out.no HR.out.x).t.two c
          have hcl : (c.toNat : Int) < 256 := by have := c.toNat_lt; omega
          obtain ⟨d, hd⟩ : ∃ x, db c = x := ⟨_, rfl⟩
          rw [hd] at e5 HN
          have x3 := xor_u8 (ap ^^^ A) d
          obtain ⟨y, hy⟩ : ∃ x, ap ^^^ A = x := ⟨_, rfl⟩
          rw [hy] at x1 x3 HN
          obtain ⟨z, hz⟩ : ∃ x, y ^^^ d = x := ⟨_, rfl⟩
          rw [hz] at x3 HN
          have HPE := Lib.hid (show p + 1 = i + (k + 1) by omega)
          rw [HPE.out] at HN
          clear HGk hp hk1 hkn hn hap han hc hd hy hz HR hol hbl hi4 HPE
          go_wp2_with fail
          go_still_tail 33, (by kernel_rfl)
          change wpList _ _ _ _ _ wr.drew
          generalize wr.drew = w2 at *
          clear t1 t2 t3 t4 x1 x2 x3 e1 e2 e4 e5
          go_wp2_with fail
          go_roundw
          case rel => exact ⟨k + 1, by omega, by go_num, HN⟩
          case measure => simp [intOf]; omega
        · obtain rfl : k = 4 := by omega
          have hi4 := HI4.out
          go_wp2_with fail
          go_roundw
          case rel => exact ⟨i + 4, by omega, by omega, by go_num, HR⟩
          case measure => simp [intOf]; omega
    · obtain rfl : i = 16 := by omega
      have HD : Hid (Three16 w b (List.replicate 16 0) R wr) := Lib.hid (by have := HR.out; rwa [upto_all _ _ HZL.out HRL.out] at this)
      have HSZ : Hid ((u8s R).toArray.size = 16) := Lib.hid (by rw [List.size_toArray, u8s_length, HRL.out])
      clear HR HC
      go_wp2_with (first
        | ((with_reducible show wpList _ _ _ (⟨some 68, _, _, _, _, _⟩ :: _) _ _); refine load_blk 22 (.tmp 5) rfl rfl HD.out.o rfl _ und_16 rfl (by rw [HSZ.out]; exact size_16) ?_)
        | ((with_reducible show wpList _ _ _ (⟨none, _, _, _, _, _⟩ :: _) _ _); refine store_blk 22 (.tmp 4) (.tmp 68) rfl rfl HD.out.b rfl rfl (by rw [HSZ.out]; rfl) (by rw [HSZ.out]; exact size_16) (u8s_one' _) ?_; intro w3 hb3 hx3; have HB3 := Lib.hid hb3; have HX3 := Lib.hid (HD.out.x.transS hx3 (fun i hi h => absurd hi (by have h' : i = w.heap.size + 1 := h; omega))); clear hb3 hx3))
      exact bodyPost_ret (v := .agg (u8s R).toArray) (ret_blk rfl HB3.out rfl _ und_16 rfl (by rw [HSZ.out]; exact size_16)) rfl ⟨rfl, HX3.out⟩
theorem Two16.no {w0 w w' : World} {A B : List UInt8} (h : Two16 w0 A B w) (hx : Ext No w w') : Two16 w0 A B w' := ⟨h.a.ext_no hx, h.b.ext_no hx, h.x.trans hx⟩
theorem Two16.putA {w0 w w' : World} {A B A' : List UInt8} (h : Two16 w0 A B w) (hb : Blk w' w0.heap.size 22 (u8s A').toArray) (hx : Ext (One w0.heap.size) w w') : Two16 w0 A' B w' :=
  ⟨hb, h.b.ext hx (fun h => by have h : w0.heap.size + 1 = w0.heap.size := h; omega), h.x.transS hx (fun i hi h => absurd hi (by have h' : i = w0.heap.size := h; omega))⟩
set_option maxRecDepth 100000 in
set_option maxHeartbeats 2000000 in
theorem aBlock_any (g tg : Nat) (K b : List UInt8) (w : World) (h : IsC w g tg K) (hb : b.length = 16) : Calls Try.prog 50 #[pB g, .agg (u8s b).toArray] w fun e w' => e = .returned (.agg (u8s (enc K b)).toArray) ∧ Ext No w w' := by
  have HC := Lib.hid h
  have HB := Lib.hid hb
  have HRN := Lib.hid (fun r (hr : r < 15) => rnds_length K b h.k hb r hr)
  have HF := Lib.hid (fun (wx : World) (hx : Ext No w wx) (x : List UInt8) (hx16 : x.length = 16) (r : Nat) (hr : r < 15) => aAdd_any g tg K x r wx (h.no hx) hx16 hr)
  have HM := Lib.hid (fun (wx : World) (hx : Ext No w wx) (x : List UInt8) (hx16 : x.length = 16) => aMix_any g tg K x wx (h.no hx) hx16)
  have HT := Lib.hid (fun (wx : World) (hx : Ext No w wx) (x : List UInt8) (hx16 : x.length = 16) => aShift_any g tg K x wx (h.no hx) hx16)
  have HS : Hid (Two16 w b (List.replicate 16 0) ((w.alloc (.cells (u8s b).toArray 22)).alloc (.cells (u8s (List.replicate 16 0)).toArray 22))) := Lib.hid (Two16.new w _ _)
  have HSB : Hid ((u8s b).toArray.size = 16) := Lib.hid (by rw [List.size_toArray, u8s_length, hb])
  have H0 : Hid (xr b (rk K 0) = rnds K b 0) := Lib.hid rfl
  obtain ⟨E, hE⟩ : ∃ E, enc K b = E := ⟨_, rfl⟩
  have HE := Lib.hid hE
  have HEL : Hid ((u8s E).toArray.size = 16) := Lib.hid (by rw [List.size_toArray, u8s_length, ← hE, enc_length K b h.k])
  rw [hE]
  clear h hb hE
  go_enter Try.func50, Try.ntmps50
  go_wp2_with ((with_reducible show wpList _ _ _ (⟨some 7, _, _, _, _, _⟩ :: _) _ _); go_must (change wpList _ _ _ _ _ ((w.alloc (.cells (u8s b).toArray 22)).alloc (.cells (u8s (List.replicate 16 0)).toArray 22)); refine load_blk 22 (.tmp 3) rfl rfl HS.out.a rfl _ und_16 rfl (by rw [HSB.out]; exact size_16) ?_; generalize (w.alloc (.cells (u8s b).toArray 22)).alloc (.cells (u8s (List.replicate 16 0)).toArray 22) = w1 at *))
  refine (HF.out w1 HS.out.x b HB.out 0 (by omega)).mono ?_
  rintro e2 w2 ⟨rfl, hx2⟩
  rw [H0.out]
  have HS2 := Lib.hid (HS.out.no hx2)
  have HL0 := HRN.out 0 (by omega)
  obtain ⟨x0, hx0⟩ : ∃ x, rnds K b 0 = x := ⟨_, rfl⟩
  rw [hx0] at HL0 ⊢
  have HX0 := Lib.hid hx0
  have HSZ0 : Hid ((u8s x0).toArray.size = 16) := Lib.hid (by rw [List.size_toArray, u8s_length, HL0])
  clear hx2 hx0 HL0 HS
  go_wp2_with ((with_reducible show wpList _ _ _ (⟨none, _, _, _, _, _⟩ :: _) _ _); refine store_blk 22 (.tmp 3) (.tmp 8) rfl rfl HS2.out.a rfl rfl (by rw [HSZ0.out, HSB.out]) (by rw [HSZ0.out]; exact size_16) (u8s_one' _) ?_; intro w3 hb3 hx3; have HS3 := Lib.hid (HS2.out.putA hb3 hx3); clear hb3 hx3)
  have HS4 : Hid (Two16 w (rnds K b 0) (List.replicate 16 0) w3) := Lib.hid (by rw [HX0.out]; exact HS3.out)
  clear HS3 HS2 H0
  go_loopw [5] (fun i wr => ∃ q : Nat, q ≤ 13 ∧ i = .int .i64 ((q + 1 : Nat) : Int) ∧ Hid (Two16 w (rnds K b q) (List.replicate 16 0) wr)) (fun i _ => 14 - (intOf i).toNat)
  case atStart => exact ⟨0, by omega, rfl, HS4⟩
  case round =>
    clear HS4
    obtain ⟨q, hq, rfl, HR⟩ := hrel
    have HL := HRN.out q (by omega)
    have HST : Hid (rnds K b (q + 1) = xr (mix (shf (rnds K b q))) (rk K (q + 1))) := Lib.hid rfl
    have HEQ : Hid (q = 13 → E = xr (shf (rnds K b q)) (rk K 14)) := Lib.hid (fun h => by rw [← HE.out, h]; rfl)
    obtain ⟨x, hx⟩ : ∃ x, rnds K b q = x := ⟨_, rfl⟩
    rw [hx] at HL HR HST HEQ
    have HXL := Lib.hid HL
    have HXS : Hid ((u8s x).toArray.size = 16) := Lib.hid (by rw [List.size_toArray, u8s_length, HL])
    have HSL := Lib.hid (shf_length x)
    obtain ⟨y, hy⟩ : ∃ y, shf x = y := ⟨_, rfl⟩
    have HTC := Lib.hid (HT.out wr HR.out.x x HXL.out)
    rw [hy] at HST HSL HTC HEQ
    clear hx hy HL
    by_cases hlt : q < 13
    · have hlt' : ((q + 1 : Nat) : Int) < 14 := by omega
      have HML := Lib.hid (mix_length y)
      obtain ⟨z, hz⟩ : ∃ z, mix y = z := ⟨_, rfl⟩
      have HMC := Lib.hid (fun (wx : World) (hx : Ext No w wx) => HM.out wx hx y HSL.out)
      have HNL := HRN.out (q + 1) (by omega)
      obtain ⟨n, hn⟩ : ∃ n, rnds K b (q + 1) = n := ⟨_, rfl⟩
      rw [hz] at HST HML HMC
      rw [hn] at HST HNL
      have HFC := Lib.hid (fun (wx : World) (hx : Ext No w wx) => HF.out wx hx z HML.out (q + 1) (by omega))
      rw [← HST.out] at HFC
      have HN := Lib.hid hn
      have HNS : Hid ((u8s n).toArray.size = 16) := Lib.hid (by rw [List.size_toArray, u8s_length, HNL])
      clear hz hn HNL HST HF HT HM
      go_wp2_with (first
        | ((with_reducible show wpList _ _ _ (⟨some 16, _, _, _, _, _⟩ :: _) _ _); refine load_blk 22 (.tmp 3) rfl rfl HR.out.a rfl _ und_16 rfl (by rw [HXS.out]; exact size_16) ?_)
        | (go_at_call 87; refine HTC.out.mono ?_; rintro e5 w5 ⟨rfl, hx5⟩; have HS5 := Lib.hid (HR.out.no hx5); clear hx5)
        | (go_at_call 86; refine (HMC.out _ HS5.out.x).mono ?_; rintro e6 w6 ⟨rfl, hx6⟩; have HS6 := Lib.hid (HS5.out.no hx6); clear hx6)
        | (go_at_call 85; refine (HFC.out _ HS6.out.x).mono ?_; rintro e7 w7 ⟨rfl, hx7⟩; have HS7 := Lib.hid (HS6.out.no hx7); clear hx7)
        | ((with_reducible show wpList _ _ _ (⟨none, _, _, _, _, _⟩ :: _) _ _); refine store_blk 22 (.tmp 3) (.tmp 20) rfl rfl HS7.out.a rfl rfl (by rw [HNS.out, HXS.out]) (by rw [HNS.out]; exact size_16) (u8s_one' _) ?_; intro w8 hb8 hx8; have HS8 := Lib.hid (HS7.out.putA hb8 hx8); clear hb8 hx8))
      go_roundw
      case rel => exact ⟨q + 1, by omega, by go_num, by rw [HN.out]; exact HS8⟩
      case measure => simp [intOf]; omega
    · obtain rfl : q = 13 := by omega
      have HEE := Lib.hid (HEQ.out rfl)
      have HFC := Lib.hid (fun (wx : World) (hx : Ext No w wx) => HF.out wx hx y HSL.out 14 (by omega))
      rw [← HEE.out] at HFC
      have HFC' : Hid (∀ (wx : World), Ext No w wx → Calls Try.prog 85 #[pB g, .agg (u8s y).toArray, .int .i64 14] wx fun e w' => e = .returned (.agg (u8s E).toArray) ∧ Ext No wx w') := Lib.hid HFC.out
      clear HEQ HST HFC HM HF HT
      go_wp2_with (first
        | ((with_reducible show wpList _ _ _ (⟨some 23, _, _, _, _, _⟩ :: _) _ _); refine load_blk 22 (.tmp 3) rfl rfl HR.out.a rfl _ und_16 rfl (by rw [HXS.out]; exact size_16) ?_)
        | (go_at_call 87; refine HTC.out.mono ?_; rintro e5 w5 ⟨rfl, hx5⟩; have HS5 := Lib.hid (HR.out.no hx5); clear hx5)
        | (go_at_call 85; refine (HFC'.out _ HS5.out.x).mono ?_; rintro e7 w7 ⟨rfl, hx7⟩; have HS7 := Lib.hid (HS5.out.no hx7); clear hx7)
        | ((with_reducible show wpList _ _ _ (⟨none, _, _, _, _, _⟩ :: _) _ _); refine store_blk 22 (.tmp 4) (.tmp 25) rfl rfl HS7.out.b rfl rfl (by rw [HEL.out]; rfl) (by rw [HEL.out]; exact size_16) (u8s_one' _) ?_; intro w8 hb8 hx8; have HB8 := Lib.hid hb8; have HX8 := Lib.hid (HS7.out.x.transS hx8 (fun i hi h => absurd hi (by have h' : i = w.heap.size + 1 := h; omega))); clear hb8 hx8))
      exact bodyPost_ret (v := .agg (u8s E).toArray) (ret_blk rfl HB8.out rfl _ und_16 rfl (by rw [HEL.out]; exact size_16)) rfl ⟨rfl, HX8.out⟩
end Go.Proofs.Ytljddghamgjfbaa
