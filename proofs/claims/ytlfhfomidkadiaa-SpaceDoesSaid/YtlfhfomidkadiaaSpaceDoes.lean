/- The law SpaceDoes. -/
import Derived.Test.YtlfhfomidkadiaaSpaceDoesNo
set_option linter.unusedVariables false
set_option linter.unusedSimpArgs false
namespace Go.Proofs.Ytlfhfomidkadiaa
open Go.RowKit Go.Deep Go.Proofs.YtlfhfomidkadiaaW.PrintWords Go.Proofs.YtlfhfomidkadiaaW.PrintLast Go.Proofs.YtlfhfomidkadiaaW.PrintMore

set_option maxRecDepth 100000 in
set_option maxHeartbeats 4000000 in
theorem does15_ok (A : Option Addr) (len cap : Nat) (n first ask : Int) (w : World) (hl : Acts15 w A len cap) (hk0 : -9223372036854775808 ≤ ask) (hk1 : ask ≤ 9223372036854775807) (hlight : ¬ (60 < len ∨ (60 < n ∧ n ≤ 4096))) (hok : okNew n first) :
    Calls Try.prog 3 #[.int .i64 n, .int .i64 first, .slice A len cap, .int .i64 ask] w fun e w' => e = .returned (.bool true) ∧ Ext No w w' := by
  have HL := Lib.hid hl
  clear hl
  have h60 : ¬ 60 < len := fun h => hlight (.inl h)
  have hn60 : n ≤ 60 := by
    have := hok.2.1
    by_cases c : n ≤ 60
    · exact c
    · exact absurd (.inr ⟨by omega, this⟩) hlight
  obtain ⟨h1, h2, h3, h4⟩ := hok
  obtain ⟨nn, rfl⟩ : ∃ m : Nat, n = (m : Int) := ⟨n.toNat, by omega⟩
  obtain ⟨f, rfl⟩ : ∃ m : Nat, first = (m : Int) := ⟨first.toNat, by omega⟩
  have HOK : Hid (okNew nn f) := Lib.hid ⟨h1, h2, h3, h4⟩
  clear hlight h2 h3
  go_enter Try.func3, Try.ntmps3
  go_wp2_with fail
  refine (spNew_ok nn f w HOK.out).mono ?_
  rintro e w1 ⟨rfl, hs1, hx1⟩
  have hg := hs1.1.lt
  have HS1 := Lib.hid hs1
  have HX1 := Lib.hid hx1
  clear hs1 hx1
  go_wp2_with fail
  refine (rNew_calls nn f w1 HOK.out).mono ?_
  rintro e w2 ⟨v2, rfl, hr2, hx2⟩
  obtain ⟨A2, c2, rfl, hc2, _⟩ := hr2.slice
  have hlen2 : (fillRun (List.replicate nn false) 0 f true).length = nn := by rw [fillRun_length (by simp; omega)]; simp
  rw [hlen2] at hc2 ⊢
  have HS2 := Lib.hid (HS1.out.no hx2)
  have HX2 := Lib.hid (HX1.out.trans hx2)
  have hsz : w1.heap.size ≤ w2.heap.size := hx2.size
  rw [hlen2] at hr2
  have HR2 := Lib.hid (hr2)
  clear hx2 hr2 HS1 HX1 hlen2
  go_wp2_with fail
  have e1 : (fillRun (List.replicate nn false) 0 f true).length = nn := by rw [fillRun_length (by simp; omega)]; simp
  have e2 : Fixed f (fillRun (List.replicate nn false) 0 f true) := ⟨by rw [e1]; omega, fun k hk => by rw [fillRun_get (by simp; omega) (by simp; omega), if_pos (by omega)]⟩
  have HI1 := Lib.hid e1
  have HI2 := Lib.hid e2
  have HI3 := Lib.hid (HS2.out.no ((Ext.refl No w2).alloc (.cells #[.int .i64 (f : Int), .slice A2 nn c2] 30)))
  have HI4 := Lib.hid (Blk.new w2 30 #[.int .i64 (f : Int), .slice A2 nn c2])
  have HI5 : Hid (RS (w2.alloc (.cells #[.int .i64 (f : Int), .slice A2 nn c2] 30)) w.heap.size (Off3 w.heap.size (w.heap.size + 1) w2.heap.size) (.slice A2 nn c2) (fillRun (List.replicate nn false) 0 f true)) :=
    Lib.hid (RS.no (Kd.R_lower (Kd.R_mono (Kd.R_bound HR2.out) (fun k hk => ⟨by omega, by omega, by omega⟩)) (by omega)) ((Ext.refl No w2).alloc _))
  have HI6 := Lib.hid (HX2.out.alloc (.cells #[.int .i64 (f : Int), .slice A2 nn c2] 30))
  have hgr : w.heap.size + 1 < w2.heap.size := by omega
  clear e1 e2 HS2 HX2 HR2
  generalize w2.alloc (.cells #[.int .i64 (f : Int), .slice A2 nn c2] 30) = w3 at *
  generalize w2.heap.size = gr at *
  generalize hgs : w.heap.size = gs at *
  go_loopw [13] (fun i wr => ∃ k : Nat, k ≤ len ∧ i = .int .i64 k ∧ ∃ (L : List Bool) (A7 : Option Addr) (c7 : Nat), Hid (L.length = nn) ∧ Hid (Fixed f L) ∧ Hid (IsSp wr (gs + 1) gs nn f L) ∧ Hid (Blk wr gr 30 #[.int .i64 (f : Int), .slice A7 nn c7]) ∧ Hid (RS wr gs (Off3 gs (gs + 1) gr) (.slice A7 nn c7) L) ∧ Hid (Ext No w wr)) (fun i _ => len - (intOf i).toNat)
  case atStart => exact ⟨0, by omega, rfl, _, _, _, HI1, HI2, HI3, HI4, HI5, HI6⟩
  case round =>
    clear HI1 HI2 HI3 HI4 HI5 HI6
    obtain ⟨k, hk, rfl, L, A7, c7, HLL, HF, HS, HB, HR, HX⟩ := hrel
    by_cases hlt : k < len
    · obtain ⟨hnc, hcm, hel⟩ := HL.out
      unfold maxLen at hcm
      obtain ⟨b, off, kind, at2, num, rfl, hc0, hc1, hc2', ha1, ha2, hn1', hn2⟩ := hel k hlt
      have hbl : b < w.heap.size := World.block_lt_of_cell? w _ hc0
      rw [← HX.out.cell (p := ⟨b, off + k * 3, none⟩) hbl (fun h => h)] at hc0
      rw [← HX.out.cell (p := ⟨b, off + k * 3 + 1, none⟩) hbl (fun h => h)] at hc1
      rw [← HX.out.cell (p := ⟨b, off + k * 3 + 2, none⟩) hbl (fun h => h)] at hc2'
      clear hel HL
      go_wp2_with fail
      have hxo := (Ext.refl No wr).alloc (.cells #[.int .i64 kind, .int .i64 at2, .int .i64 num] 34)
      have HSo := Lib.hid (HS.out.no hxo)
      have HBo := Lib.hid (Blk.ext_no HB.out hxo)
      have HRo := Lib.hid (RS.no HR.out hxo)
      have HXo := Lib.hid (HX.out.trans hxo)
      have HO := Lib.hid (Blk.new wr 34 #[.int .i64 kind, .int .i64 at2, .int .i64 num])
      have hgro : gr < wr.heap.size := HB.out.lt
      have hgso : gs + 1 < wr.heap.size := HS.out.1.lt
      have HV : Hid (∀ q, (Value.slice A7 nn c7).ownBlock = some q → (q ≠ gs ∧ q ≠ gs + 1 ∧ q ≠ gr) ∧ q < wr.heap.size) := Lib.hid (fun q hq => by
        obtain ⟨h1, _, h2, _⟩ := (Kd.R_bound HR.out).1 q hq
        exact ⟨h1, h2⟩)
      clear hxo HS HB HR HX hc0 hc1 hc2'
      generalize wr.alloc (.cells #[.int .i64 kind, .int .i64 at2, .int .i64 num] 34) = w4 at *
      generalize wr.heap.size = go at *
      refine (spCopy_any _ _ _ _ L w4 HSo.out (by rw [HLL.out]; omega) (by rw [HLL.out]; omega)).mono ?_
      rintro e w5 ⟨g5, b5, c5, rfl, hs5, hg5, hb5, hx5⟩
      have HC5 := Lib.hid hs5
      have HS5 := Lib.hid (HSo.out.no hx5)
      have HB5 := Lib.hid (Blk.ext_no HBo.out hx5)
      have HR5 := Lib.hid (RS.no HRo.out hx5)
      have HX5 := Lib.hid (HXo.out.trans hx5)
      have HO5 := Lib.hid (Blk.ext_no HO.out hx5)
      have hgo5 : go < w4.heap.size := HO.out.lt
      clear hx5 hs5 HSo HBo HRo HXo HO
      have R5 := Blk.c2 HB5.out
      have O5 := Blk.c3 HO5.out
      go_wp2_with fail
      refine (rFree_calls _ _ _ _ L w5 HR5.out (by rw [HLL.out]; omega)).mono ?_
      rintro e w9 ⟨rfl, hx9⟩
      have HC9 := Lib.hid (HC5.out.no hx9)
      have HS9 := Lib.hid (HS5.out.no hx9)
      have HB9 := Lib.hid (Blk.ext_no HB5.out hx9)
      have HR9 := Lib.hid (RS.no HR5.out hx9)
      have HX9 := Lib.hid (HX5.out.trans hx9)
      have HO9 := Lib.hid (Blk.ext_no HO5.out hx9)
      have R9 := Blk.c2 HB9.out
      have O9 := Blk.c3 HO9.out
      clear hx9 R5 O5 HC5 HS5 HB5 HR5 HX5 HO5
      have q1 : gr < w9.heap.size := HB9.out.lt
      have q2 : gs + 1 < w9.heap.size := HS9.out.1.lt
      have hkind : (kind = 0 ∨ kind = 1 ∨ kind = 2) ∨ ((kind == 0) = false ∧ (kind == 1) = false ∧ (kind == 2) = false) := by
        by_cases k0 : kind = 0
        · exact .inl (.inl k0)
        by_cases k1 : kind = 1
        · exact .inl (.inr (.inl k1))
        by_cases k2 : kind = 2
        · exact .inl (.inr (.inr k2))
        exact .inr ⟨beq_eq_false_iff_ne.2 k0, beq_eq_false_iff_ne.2 k1, beq_eq_false_iff_ne.2 k2⟩
      rcases hkind with (rfl | rfl | rfl) | ⟨f0, f1, f2⟩
      rotate_left 3
      · have HA : Hid (All15 w gs g5 b5 c5 gr nn f L L A7 c7 w9) := Lib.hid ⟨HS9.out, HC9.out, HB9.out, HR9.out, HX9.out, HLL.out, by omega⟩
        have HF8 := HF
        clear HS9 HC9 HB9 HR9 HX9 HO9 R9 HV
        go_wp2_with fail
        go_region_held3 (fun w' => (w'.cell? ⟨gr, 0, none⟩ = some (.int .i64 (f : Int)) ∧ w'.cell? ⟨gr, 1, none⟩ = some (.slice A7 nn c7)) ∧ Hid (All15 w gs g5 b5 c5 gr nn f (L) L A7 c7 w'))
          (first | assumption | exact HA.out.S | exact S15.drew HA.out.S | exact S15.drew (by assumption))
          (first
            | (go_at_call 21; with_reducible refine (S15.free (by assumption)).mono ?_; rintro e w' ⟨rfl, hS'⟩)
            | (go_at_call 21; with_reducible refine (S15.old (by assumption)).mono ?_; rintro e w' ⟨rfl, hS'⟩)
            | (go_at_call 14; with_reducible refine (S15.ref (by assumption)).mono ?_; rintro e w' ⟨rfl, hS'⟩)
            | (go_at_call 22; with_reducible refine (S15.size (by assumption)).mono ?_; rintro e w' ⟨rfl, hS'⟩))
        have hq := ‹(w'.cell? ⟨gr, 0, none⟩ = some (.int .i64 (f : Int)) ∧ w'.cell? ⟨gr, 1, none⟩ = some (.slice A7 nn c7)) ∧ Hid (All15 w gs g5 b5 c5 gr nn f (L) L A7 c7 w')›
        have HA9 := hq.2
        clear hq
        go_wp2_with fail
        go_loopw [24] (fun i wq => ∃ y : Nat, y ≤ nn ∧ i = .int .i64 y ∧ Hid (All15 w gs g5 b5 c5 gr nn f (L) L A7 c7 wq)) (fun i _ => nn - (intOf i).toNat)
        case atStart => exact ⟨0, by omega, rfl, HA9⟩
        case round =>
          clear HA9
          obtain ⟨y, hy, rfl, HA9⟩ := hrel
          by_cases hyn : y < nn
          · obtain ⟨g7, hA7, hcn, hrow⟩ := HA9.out.row (by omega)
            obtain ⟨z, cz, hz⟩ := hrow y hyn
            subst hA7
            have R9 := Blk.c2 HA9.out.b
            have j0 : (0 : Int) ≤ (y : Int) := by omega
            have j1 : (y : Int) < (nn : Int) := by omega
            cases z
            all_goals
              have HZ := Lib.hid hz
              clear hz hrow
              go_wp2_with fail
              go_quiet ((go_at_call 23; exact quiet_left (spTaken_any _ _ _ _ (y : Int) _ _ (HA9.out.s.no ((Ext.refl No _).drewN _)))))
              rw [HZ.out]
              go_wp2
              go_roundw
              case rel => exact ⟨y + 1, by omega, by go_num, Lib.hid (HA9.out.no ((Ext.refl No _).drewN _))⟩
              case measure => simp [intOf]; omega
          · have hye : y = nn := by omega
            subst hye
            go_wp2_with fail
            go_roundw
            case rel => exact ⟨k + 1, by omega, by go_num, _, _, _, Lib.hid HA9.out.n, HF8, Lib.hid HA9.out.s, Lib.hid HA9.out.b, Lib.hid HA9.out.r, Lib.hid HA9.out.x⟩
            case measure => simp [intOf]; omega
      · go_wp2_with fail
        refine (rTake_calls f (.slice A7 nn c7) L w w9 _ num HX9.out (by rw [hgs]; exact HR9.out) (by rw [HLL.out]; omega) HF.out hn2).mono ?_
        rintro e w7 ⟨v7, rfl, hp7⟩
        have hk7 := takeF_keeps HF.out num
        have hsz7 : w9.heap.size ≤ w7.heap.size := hp7.2.2.size
        have HS7 := Lib.hid (HS9.out.ext hp7.2.2 (fun h => (HV.out _ h).1.2.1 rfl) (fun h => (HV.out _ h).1.1 rfl))
        have HC7 := Lib.hid (HC9.out.ext hp7.2.2 (fun h => by have := (HV.out _ h).2; omega) (fun h => by have := (HV.out _ h).2; omega))
        have HB7 := Lib.hid (Blk.ext HB9.out hp7.2.2 (fun h => (HV.out _ h).1.2.2 rfl))
        have HO7 := Lib.hid (Blk.ext HO9.out hp7.2.2 (fun h => by have := (HV.out _ h).2; omega))
        have HP7 := Lib.hid (show RS w7 gs (Off3 gs (gs + 1) gr) v7 _ ∧ Ext No w w7 from ⟨by
          have h1 := hp7.1
          rw [hgs] at h1
          exact Kd.R_mono h1 (fun q hq => by
            rcases hq with hq | hq
            · exact (HV.out q hq).1
            · exact ⟨by omega, by omega, by omega⟩), hp7.2.1⟩)
        obtain ⟨A7, c7, rfl, _⟩ := hp7.1.slice
        rw [hk7.1, HLL.out] at HP7 ⊢
        have R7 := Blk.c2 HB7.out
        have O7 := Blk.c3 HO7.out
        have HK := Lib.hid hk7
        clear hk7 hp7 R9 O9 HS9 HC9 HB9 HO9 HR9 HX9
        go_wp2_with fail
        have hx8 := putR_ext w7 gr (f : Int) A7 nn c7
        have HS8 := Lib.hid (HS7.out.ext hx8 (fun h => by have h : gs + 1 = gr := h; omega) (fun h => by have h : gs = gr := h; omega))
        have HC8 := Lib.hid (HC7.out.ext hx8 (fun h => by have h : g5 = gr := h; omega) (fun h => by have h : b5 = gr := h; omega))
        have HB8 := Lib.hid (putR_blk (f : Int) A7 nn c7 HB7.out)
        have HR8 := Lib.hid (RS.ext HP7.out.1 hx8 (fun q hq _ hh => hq.2.2 hh))
        have HX8 := Lib.hid (HP7.out.2.transS hx8 (fun i hi h => by have h : i = gr := h; omega))
        clear hx8 HS7 HC7 HB7 HP7 R7 O7 HO7
        change Calls _ _ _ (putR w7 gr (f : Int) A7 nn c7) _
        generalize putR w7 gr (f : Int) A7 nn c7 = w8 at *
        refine (spTake_fn (gs + 1) gs nn f num L w8 HS8.out HF.out hn2).mono ?_
        rintro e w9 ⟨rfl, hs9, hx9⟩
        have HA : Hid (All15 w gs g5 b5 c5 gr nn f _ L A7 c7 w9) := Lib.hid ⟨hs9, HC8.out.ext hx9 (fun h => by have h : g5 = gs := h; omega) (fun h => by have h : b5 = gs := h; omega), Blk.ext HB8.out hx9 (fun h => by have h : gr = gs := h; omega), RS.ext HR8.out hx9 (fun q hq _ hh => hq.1 hh), HX8.out.transS hx9 (fun i hi h => by have h : i = gs := h; omega), HK.out.1.trans HLL.out, by omega⟩
        have HF8 := Lib.hid HK.out.2
        clear hs9 hx9 HS8 HC8 HB8 HR8 HX8 HK
        generalize takeF L num = T at *
        go_wp2_with fail
        go_region_held3 (fun w' => (w'.cell? ⟨gr, 0, none⟩ = some (.int .i64 (f : Int)) ∧ w'.cell? ⟨gr, 1, none⟩ = some (.slice A7 nn c7)) ∧ Hid (All15 w gs g5 b5 c5 gr nn f (T.1) L A7 c7 w'))
          (first | assumption | exact HA.out.S | exact S15.drew HA.out.S | exact S15.drew (by assumption))
          (first
            | (go_at_call 21; with_reducible refine (S15.free (by assumption)).mono ?_; rintro e w' ⟨rfl, hS'⟩)
            | (go_at_call 21; with_reducible refine (S15.old (by assumption)).mono ?_; rintro e w' ⟨rfl, hS'⟩)
            | (go_at_call 14; with_reducible refine (S15.ref (by assumption)).mono ?_; rintro e w' ⟨rfl, hS'⟩)
            | (go_at_call 22; with_reducible refine (S15.size (by assumption)).mono ?_; rintro e w' ⟨rfl, hS'⟩))
        have hq := ‹(w'.cell? ⟨gr, 0, none⟩ = some (.int .i64 (f : Int)) ∧ w'.cell? ⟨gr, 1, none⟩ = some (.slice A7 nn c7)) ∧ Hid (All15 w gs g5 b5 c5 gr nn f (T.1) L A7 c7 w')›
        have HA9 := hq.2
        clear hq
        go_wp2_with fail
        go_loopw [24] (fun i wq => ∃ y : Nat, y ≤ nn ∧ i = .int .i64 y ∧ Hid (All15 w gs g5 b5 c5 gr nn f (T.1) L A7 c7 wq)) (fun i _ => nn - (intOf i).toNat)
        case atStart => exact ⟨0, by omega, rfl, HA9⟩
        case round =>
          clear HA9
          obtain ⟨y, hy, rfl, HA9⟩ := hrel
          by_cases hyn : y < nn
          · obtain ⟨g7, hA7, hcn, hrow⟩ := HA9.out.row (by omega)
            obtain ⟨z, cz, hz⟩ := hrow y hyn
            subst hA7
            have R9 := Blk.c2 HA9.out.b
            have j0 : (0 : Int) ≤ (y : Int) := by omega
            have j1 : (y : Int) < (nn : Int) := by omega
            cases z
            all_goals
              have HZ := Lib.hid hz
              clear hz hrow
              go_wp2_with fail
              go_quiet ((go_at_call 23; exact quiet_left (spTaken_any _ _ _ _ (y : Int) _ _ (HA9.out.s.no ((Ext.refl No _).drewN _)))))
              rw [HZ.out]
              go_wp2
              go_roundw
              case rel => exact ⟨y + 1, by omega, by go_num, Lib.hid (HA9.out.no ((Ext.refl No _).drewN _))⟩
              case measure => simp [intOf]; omega
          · have hye : y = nn := by omega
            subst hye
            go_wp2_with fail
            go_roundw
            case rel => exact ⟨k + 1, by omega, by go_num, _, _, _, Lib.hid HA9.out.n, HF8, Lib.hid HA9.out.s, Lib.hid HA9.out.b, Lib.hid HA9.out.r, Lib.hid HA9.out.x⟩
            case measure => simp [intOf]; omega
      · go_wp2_with fail
        refine (rMark_calls f (.slice A7 nn c7) L w w9 _ at2 num HX9.out (by rw [hgs]; exact HR9.out) (by rw [HLL.out]; omega) hn1').mono ?_
        rintro e w7 ⟨v7, rfl, hp7⟩
        have hk7 := setF_keeps HF.out at2 num true 10
        have hsz7 : w9.heap.size ≤ w7.heap.size := hp7.2.2.size
        have HS7 := Lib.hid (HS9.out.ext hp7.2.2 (fun h => (HV.out _ h).1.2.1 rfl) (fun h => (HV.out _ h).1.1 rfl))
        have HC7 := Lib.hid (HC9.out.ext hp7.2.2 (fun h => by have := (HV.out _ h).2; omega) (fun h => by have := (HV.out _ h).2; omega))
        have HB7 := Lib.hid (Blk.ext HB9.out hp7.2.2 (fun h => (HV.out _ h).1.2.2 rfl))
        have HO7 := Lib.hid (Blk.ext HO9.out hp7.2.2 (fun h => by have := (HV.out _ h).2; omega))
        have HP7 := Lib.hid (show RS w7 gs (Off3 gs (gs + 1) gr) v7 _ ∧ Ext No w w7 from ⟨by
          have h1 := hp7.1
          rw [hgs] at h1
          exact Kd.R_mono h1 (fun q hq => by
            rcases hq with hq | hq
            · exact (HV.out q hq).1
            · exact ⟨by omega, by omega, by omega⟩), hp7.2.1⟩)
        obtain ⟨A7, c7, rfl, _⟩ := hp7.1.slice
        rw [hk7.1, HLL.out] at HP7 ⊢
        have R7 := Blk.c2 HB7.out
        have O7 := Blk.c3 HO7.out
        have HK := Lib.hid hk7
        clear hk7 hp7 R9 O9 HS9 HC9 HB9 HO9 HR9 HX9
        go_wp2_with fail
        have hx8 := setR2_ext w7 gr (f : Int) A7 nn c7
        have HS8 := Lib.hid (HS7.out.ext hx8 (fun h => by have h : gs + 1 = gr := h; omega) (fun h => by have h : gs = gr := h; omega))
        have HC8 := Lib.hid (HC7.out.ext hx8 (fun h => by have h : g5 = gr := h; omega) (fun h => by have h : b5 = gr := h; omega))
        have HB8 := Lib.hid (setR2_blk (f : Int) A7 nn c7 HB7.out)
        have HR8 := Lib.hid (RS.ext HP7.out.1 hx8 (fun q hq _ hh => hq.2.2 hh))
        have HX8 := Lib.hid (HP7.out.2.transS hx8 (fun i hi h => by have h : i = gr := h; omega))
        clear hx8 HS7 HC7 HB7 HP7 R7 O7 HO7
        change Calls _ _ _ (setR2 w7 gr (f : Int) A7 nn c7) _
        generalize setR2 w7 gr (f : Int) A7 nn c7 = w8 at *
        refine (spMark_fn (gs + 1) gs nn f at2 num L w8 HS8.out).mono ?_
        rintro e w9 ⟨rfl, hs9, hx9⟩
        have HA : Hid (All15 w gs g5 b5 c5 gr nn f _ L A7 c7 w9) := Lib.hid ⟨hs9, HC8.out.ext hx9 (fun h => by have h : g5 = gs := h; omega) (fun h => by have h : b5 = gs := h; omega), Blk.ext HB8.out hx9 (fun h => by have h : gr = gs := h; omega), RS.ext HR8.out hx9 (fun q hq _ hh => hq.1 hh), HX8.out.transS hx9 (fun i hi h => by have h : i = gs := h; omega), HK.out.1.trans HLL.out, by omega⟩
        have HF8 := Lib.hid HK.out.2
        clear hs9 hx9 HS8 HC8 HB8 HR8 HX8 HK
        generalize setF f L at2 num true 10 = T at *
        go_wp2_with fail
        go_region_held3 (fun w' => (w'.cell? ⟨gr, 0, none⟩ = some (.int .i64 (f : Int)) ∧ w'.cell? ⟨gr, 1, none⟩ = some (.slice A7 nn c7)) ∧ Hid (All15 w gs g5 b5 c5 gr nn f (T.1) L A7 c7 w'))
          (first | assumption | exact HA.out.S | exact S15.drew HA.out.S | exact S15.drew (by assumption))
          (first
            | (go_at_call 21; with_reducible refine (S15.free (by assumption)).mono ?_; rintro e w' ⟨rfl, hS'⟩)
            | (go_at_call 21; with_reducible refine (S15.old (by assumption)).mono ?_; rintro e w' ⟨rfl, hS'⟩)
            | (go_at_call 14; with_reducible refine (S15.ref (by assumption)).mono ?_; rintro e w' ⟨rfl, hS'⟩)
            | (go_at_call 22; with_reducible refine (S15.size (by assumption)).mono ?_; rintro e w' ⟨rfl, hS'⟩))
        have hq := ‹(w'.cell? ⟨gr, 0, none⟩ = some (.int .i64 (f : Int)) ∧ w'.cell? ⟨gr, 1, none⟩ = some (.slice A7 nn c7)) ∧ Hid (All15 w gs g5 b5 c5 gr nn f (T.1) L A7 c7 w')›
        have HA9 := hq.2
        clear hq
        go_wp2_with fail
        go_loopw [24] (fun i wq => ∃ y : Nat, y ≤ nn ∧ i = .int .i64 y ∧ Hid (All15 w gs g5 b5 c5 gr nn f (T.1) L A7 c7 wq)) (fun i _ => nn - (intOf i).toNat)
        case atStart => exact ⟨0, by omega, rfl, HA9⟩
        case round =>
          clear HA9
          obtain ⟨y, hy, rfl, HA9⟩ := hrel
          by_cases hyn : y < nn
          · obtain ⟨g7, hA7, hcn, hrow⟩ := HA9.out.row (by omega)
            obtain ⟨z, cz, hz⟩ := hrow y hyn
            subst hA7
            have R9 := Blk.c2 HA9.out.b
            have j0 : (0 : Int) ≤ (y : Int) := by omega
            have j1 : (y : Int) < (nn : Int) := by omega
            cases z
            all_goals
              have HZ := Lib.hid hz
              clear hz hrow
              go_wp2_with fail
              go_quiet ((go_at_call 23; exact quiet_left (spTaken_any _ _ _ _ (y : Int) _ _ (HA9.out.s.no ((Ext.refl No _).drewN _)))))
              rw [HZ.out]
              go_wp2
              go_roundw
              case rel => exact ⟨y + 1, by omega, by go_num, Lib.hid (HA9.out.no ((Ext.refl No _).drewN _))⟩
              case measure => simp [intOf]; omega
          · have hye : y = nn := by omega
            subst hye
            go_wp2_with fail
            go_roundw
            case rel => exact ⟨k + 1, by omega, by go_num, _, _, _, Lib.hid HA9.out.n, HF8, Lib.hid HA9.out.s, Lib.hid HA9.out.b, Lib.hid HA9.out.r, Lib.hid HA9.out.x⟩
            case measure => simp [intOf]; omega
      · go_wp2_with fail
        refine (rGive_calls f (.slice A7 nn c7) L w w9 _ at2 num HX9.out (by rw [hgs]; exact HR9.out) (by rw [HLL.out]; omega) hn1').mono ?_
        rintro e w7 ⟨v7, rfl, hp7⟩
        have hk7 := setF_keeps HF.out at2 num false 9
        have hsz7 : w9.heap.size ≤ w7.heap.size := hp7.2.2.size
        have HS7 := Lib.hid (HS9.out.ext hp7.2.2 (fun h => (HV.out _ h).1.2.1 rfl) (fun h => (HV.out _ h).1.1 rfl))
        have HC7 := Lib.hid (HC9.out.ext hp7.2.2 (fun h => by have := (HV.out _ h).2; omega) (fun h => by have := (HV.out _ h).2; omega))
        have HB7 := Lib.hid (Blk.ext HB9.out hp7.2.2 (fun h => (HV.out _ h).1.2.2 rfl))
        have HO7 := Lib.hid (Blk.ext HO9.out hp7.2.2 (fun h => by have := (HV.out _ h).2; omega))
        have HP7 := Lib.hid (show RS w7 gs (Off3 gs (gs + 1) gr) v7 _ ∧ Ext No w w7 from ⟨by
          have h1 := hp7.1
          rw [hgs] at h1
          exact Kd.R_mono h1 (fun q hq => by
            rcases hq with hq | hq
            · exact (HV.out q hq).1
            · exact ⟨by omega, by omega, by omega⟩), hp7.2.1⟩)
        obtain ⟨A7, c7, rfl, _⟩ := hp7.1.slice
        rw [hk7.1, HLL.out] at HP7 ⊢
        have R7 := Blk.c2 HB7.out
        have O7 := Blk.c3 HO7.out
        have HK := Lib.hid hk7
        clear hk7 hp7 R9 O9 HS9 HC9 HB9 HO9 HR9 HX9
        go_wp2_with fail
        have hx8 := setR2_ext w7 gr (f : Int) A7 nn c7
        have HS8 := Lib.hid (HS7.out.ext hx8 (fun h => by have h : gs + 1 = gr := h; omega) (fun h => by have h : gs = gr := h; omega))
        have HC8 := Lib.hid (HC7.out.ext hx8 (fun h => by have h : g5 = gr := h; omega) (fun h => by have h : b5 = gr := h; omega))
        have HB8 := Lib.hid (setR2_blk (f : Int) A7 nn c7 HB7.out)
        have HR8 := Lib.hid (RS.ext HP7.out.1 hx8 (fun q hq _ hh => hq.2.2 hh))
        have HX8 := Lib.hid (HP7.out.2.transS hx8 (fun i hi h => by have h : i = gr := h; omega))
        clear hx8 HS7 HC7 HB7 HP7 R7 O7 HO7
        change Calls _ _ _ (setR2 w7 gr (f : Int) A7 nn c7) _
        generalize setR2 w7 gr (f : Int) A7 nn c7 = w8 at *
        refine (spGive_fn (gs + 1) gs nn f at2 num L w8 HS8.out).mono ?_
        rintro e w9 ⟨rfl, hs9, hx9⟩
        have HA : Hid (All15 w gs g5 b5 c5 gr nn f _ L A7 c7 w9) := Lib.hid ⟨hs9, HC8.out.ext hx9 (fun h => by have h : g5 = gs := h; omega) (fun h => by have h : b5 = gs := h; omega), Blk.ext HB8.out hx9 (fun h => by have h : gr = gs := h; omega), RS.ext HR8.out hx9 (fun q hq _ hh => hq.1 hh), HX8.out.transS hx9 (fun i hi h => by have h : i = gs := h; omega), HK.out.1.trans HLL.out, by omega⟩
        have HF8 := Lib.hid HK.out.2
        clear hs9 hx9 HS8 HC8 HB8 HR8 HX8 HK
        generalize setF f L at2 num false 9 = T at *
        go_wp2_with fail
        go_region_held3 (fun w' => (w'.cell? ⟨gr, 0, none⟩ = some (.int .i64 (f : Int)) ∧ w'.cell? ⟨gr, 1, none⟩ = some (.slice A7 nn c7)) ∧ Hid (All15 w gs g5 b5 c5 gr nn f (T.1) L A7 c7 w'))
          (first | assumption | exact HA.out.S | exact S15.drew HA.out.S | exact S15.drew (by assumption))
          (first
            | (go_at_call 21; with_reducible refine (S15.free (by assumption)).mono ?_; rintro e w' ⟨rfl, hS'⟩)
            | (go_at_call 21; with_reducible refine (S15.old (by assumption)).mono ?_; rintro e w' ⟨rfl, hS'⟩)
            | (go_at_call 14; with_reducible refine (S15.ref (by assumption)).mono ?_; rintro e w' ⟨rfl, hS'⟩)
            | (go_at_call 22; with_reducible refine (S15.size (by assumption)).mono ?_; rintro e w' ⟨rfl, hS'⟩))
        have hq := ‹(w'.cell? ⟨gr, 0, none⟩ = some (.int .i64 (f : Int)) ∧ w'.cell? ⟨gr, 1, none⟩ = some (.slice A7 nn c7)) ∧ Hid (All15 w gs g5 b5 c5 gr nn f (T.1) L A7 c7 w')›
        have HA9 := hq.2
        clear hq
        go_wp2_with fail
        go_loopw [24] (fun i wq => ∃ y : Nat, y ≤ nn ∧ i = .int .i64 y ∧ Hid (All15 w gs g5 b5 c5 gr nn f (T.1) L A7 c7 wq)) (fun i _ => nn - (intOf i).toNat)
        case atStart => exact ⟨0, by omega, rfl, HA9⟩
        case round =>
          clear HA9
          obtain ⟨y, hy, rfl, HA9⟩ := hrel
          by_cases hyn : y < nn
          · obtain ⟨g7, hA7, hcn, hrow⟩ := HA9.out.row (by omega)
            obtain ⟨z, cz, hz⟩ := hrow y hyn
            subst hA7
            have R9 := Blk.c2 HA9.out.b
            have j0 : (0 : Int) ≤ (y : Int) := by omega
            have j1 : (y : Int) < (nn : Int) := by omega
            cases z
            all_goals
              have HZ := Lib.hid hz
              clear hz hrow
              go_wp2_with fail
              go_quiet ((go_at_call 23; exact quiet_left (spTaken_any _ _ _ _ (y : Int) _ _ (HA9.out.s.no ((Ext.refl No _).drewN _)))))
              rw [HZ.out]
              go_wp2
              go_roundw
              case rel => exact ⟨y + 1, by omega, by go_num, Lib.hid (HA9.out.no ((Ext.refl No _).drewN _))⟩
              case measure => simp [intOf]; omega
          · have hye : y = nn := by omega
            subst hye
            go_wp2_with fail
            go_roundw
            case rel => exact ⟨k + 1, by omega, by go_num, _, _, _, Lib.hid HA9.out.n, HF8, Lib.hid HA9.out.s, Lib.hid HA9.out.b, Lib.hid HA9.out.r, Lib.hid HA9.out.x⟩
            case measure => simp [intOf]; omega
    · have hln : (L.length : Int) = (nn : Int) := by rw [HLL.out]
      have R9 := Blk.c2 HB.out
      by_cases hin : 0 ≤ ask ∧ ask < (nn : Int)
      · obtain ⟨i1, i2⟩ := hin
        clear hln
        go_wp2_with fail
        refine (works15 _).mono ?_
        rintro e w3 ⟨rfl, hx3⟩
        go_wp2
        go_ret
        exact ⟨rfl, HX.out.trans hx3⟩
      · have hta : takenAt L ask = true := by
          unfold takenAt
          by_cases c : ask < 0
          · rw [decide_eq_true c]; rfl
          · rw [decide_eq_true (p := (L.length : Int) ≤ ask) (by omega), Bool.or_true]; rfl
        have HTA := Lib.hid hta
        clear hta hln
        rcases (by omega : ask < 0 ∨ (0 ≤ ask ∧ (nn : Int) ≤ ask)) with i1 | ⟨i1, i2⟩
        all_goals
          clear hin
          go_wp2_with fail
          refine (spTaken_any _ _ _ _ ask L wr HS.out).mono ?_
          rintro e w' ⟨rfl, rfl⟩
          rw [HTA.out]
          go_wp2_with fail
          refine (works15 _).mono ?_
          rintro e w3 ⟨rfl, hx3⟩
          go_wp2
          go_ret
          exact ⟨rfl, HX.out.trans hx3⟩
theorem does15_any (A : Option Addr) (len cap : Nat) (n first ask : Int) (w : World) (hl : Acts15 w A len cap) (hn0 : -9223372036854775808 ≤ n) (hn1 : n ≤ 9223372036854775807) (hf0 : -9223372036854775808 ≤ first) (hf1 : first ≤ 9223372036854775807) (hk0 : -9223372036854775808 ≤ ask) (hk1 : ask ≤ 9223372036854775807) :
    Calls Try.prog 3 #[.int .i64 n, .int .i64 first, .slice A len cap, .int .i64 ask] w fun e w' => e = .returned (.bool true) ∧ Ext No w w' := by
  by_cases h : (60 < len ∨ (60 < n ∧ n ≤ 4096)) ∨ ¬ okNew n first
  · exact does15_no A len cap n first ask w hl hn0 hn1 hf0 hf1 hk0 hk1 h
  · by_cases h2 : okNew n first
    · exact does15_ok A len cap n first ask w hl hk0 hk1 (fun h3 => h (.inl h3)) h2
    · exact absurd (.inr h2) h

open Go.ChangeShapes Go.WideShapes in
set_option maxRecDepth 100000 in
theorem walk_SpaceDoes (W : World) (v0 v1 v2 v3 : Value) (u0 : Rd Try.prog W 3 v0.cells.toList) (u1 : Rd Try.prog W 3 v1.cells.toList) (u2 : Rd Try.prog W 22 v2.cells.toList) (u3 : Rd Try.prog W 3 v3.cells.toList)
    {r : Reach} {base : Nat} (ok0 : Value.okWide Try.prog W r base 3 v0) (ok1 : Value.okWide Try.prog W r base 3 v1) (ok2 : Value.okWide Try.prog W r base 22 v2) (ok3 : Value.okWide Try.prog W r base 3 v3) :
    Calls Try.prog 3 #[v0, v1, v2, v3] W fun e W' => e = .returned (.bool true) ∧ Ext No W W' := by
  obtain ⟨n, rfl, hn⟩ := Rd.int_val Try.underlying3 ok0 u0
  obtain ⟨f, rfl, hf⟩ := Rd.int_val Try.underlying3 ok1 u1
  obtain ⟨A, len, cap, rfl⟩ := Go.WideShapes.okWide_slice Try.underlying22 ok2
  obtain ⟨a, rfl, ha⟩ := Rd.int_val Try.underlying3 ok3 u3
  have h1 := bounds_i64 hn
  have h2 := bounds_i64 hf
  have h3 := bounds_i64 ha
  exact does15_any A len cap n f a W (acts15_of u2) h1.1 h1.2 h2.1 h2.2 h3.1 h3.2
end Go.Proofs.Ytlfhfomidkadiaa
