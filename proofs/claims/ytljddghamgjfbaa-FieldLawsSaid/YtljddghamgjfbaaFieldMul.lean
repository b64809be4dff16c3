/- The product of elements (package field): Times by a table, Times, Hash. -/
import Derived.Test.YtljddghamgjfbaaFieldNib
set_option linter.unusedVariables false
set_option linter.unusedSimpArgs false
namespace Go.Proofs.Ytljddghamgjfbaa
open Go.RowKit Go.Deep Fm

theorem shr_nib (x s k : Nat) (hx : x < 18446744073709551616) (hk : k = 4 * s) (hs : s < 16) : bits .and .u64 ((x : Int) / 2 ^ k) 15 = ((x / 16 ^ s % 16 : Nat) : Int) := by
  have h2 : ((x : Int) / 2 ^ (4 * s)) = ((x / 16 ^ s : Nat) : Int) := by
    rw [show (16 : Nat) ^ s = 2 ^ (4 * s) by rw [Nat.pow_mul]]
    norm_cast
  rw [hk, h2]
  have h3 : x / 16 ^ s < 18446744073709551616 := Nat.lt_of_le_of_lt (Nat.div_le_self _ _) hx
  have := u64_and_nat (x / 16 ^ s) 15 h3 (by omega)
  rw [show x / 16 ^ s &&& 15 = x / 16 ^ s % 16 from Nat.and_two_pow_sub_one_eq_mod _ 4] at this
  exact this
/-- Within Times: what is out, the table's entry n. -/
structure TmS (w0 : World) (go g n : Nat) (x : G) (b : G) (w : World) : Prop where
  p : ∃ u v, Blk w (go + 1 + 1) 25 #[u, v]
  q : ∃ u v, Blk w (go + 1) 25 #[u, v]
  t : IsTb w g (tb b) tov
  x : Ext No w0 w
theorem fAdd_agg (a b : G) (w : World) : Calls Try.prog 31 #[.agg #[.int .u64 (hi a : Int), .int .u64 (lo a : Int)], .agg #[.int .u64 (hi b : Int), .int .u64 (lo b : Int)]] w fun e w' => e = .returned (.agg #[.int .u64 (hi (a ^^^ b) : Int), .int .u64 (lo (a ^^^ b) : Int)]) ∧ Ext No w w' := eAdd_any a b w
set_option maxRecDepth 100000 in
set_option maxHeartbeats 2000000 in
theorem fTimesT_any (g : Nat) (a b : G) (w : World) (h : IsTb w g (tb b) tov) : Calls Try.prog 30 #[.pointer (some ⟨g, 0, none⟩), ev a] w fun e' w' => e' = .returned (ev (mul a b)) ∧ Ext No w w' := by
  have hg := h.lt
  have h1 := hi_lt a
  have h2 := lo_lt a
  have HT0 := Lib.hid h
  clear h
  unfold ev
  have i0 : ∀ (x y : Value) (W : World), (Instr.index 101 (.agg #[x, y]) (.int .i64 0)).run Try.prog W = .ok x W := fun _ _ _ => by kernel_rfl
  have i1 : ∀ (x y : Value) (W : World), (Instr.index 101 (.agg #[x, y]) (.int .i64 1)).run Try.prog W = .ok y W := fun _ _ _ => by kernel_rfl
  go_enter Try.func30, Try.ntmps30
  go_wp2_with fail
  have HP := Lib.hid (Blk.new (((w.alloc (.cells #[.int .u64 (hi a : Int), .int .u64 (lo a : Int)] 25)).alloc (.cells #[.int .u64 0, .int .u64 0] 25))) 25 #[.int .u64 0, .int .u64 0])
  have HQ := Lib.hid ((Blk.new (w.alloc (.cells #[.int .u64 (hi a : Int), .int .u64 (lo a : Int)] 25)) 25 #[.int .u64 0, .int .u64 0]).alloc (.cells #[.int .u64 0, .int .u64 0] 25))
  have HX := Lib.hid ((((Ext.refl No w).alloc (.cells #[.int .u64 (hi a : Int), .int .u64 (lo a : Int)] 25)).alloc (.cells #[.int .u64 0, .int .u64 0] 25)).alloc (.cells #[.int .u64 0, .int .u64 0] 25))
  have hs3 : (((w.alloc (.cells #[.int .u64 (hi a : Int), .int .u64 (lo a : Int)] 25)).alloc (.cells #[.int .u64 0, .int .u64 0] 25))).heap.size = w.heap.size + 2 := by simp
  have hs2 : (w.alloc (.cells #[.int .u64 (hi a : Int), .int .u64 (lo a : Int)] 25)).heap.size = w.heap.size + 1 := by simp
  rw [hs3, show w.heap.size + 2 = w.heap.size + 1 + 1 from rfl] at HP
  rw [hs2] at HQ
  clear hs3 hs2
  generalize (((w.alloc (.cells #[.int .u64 (hi a : Int), .int .u64 (lo a : Int)] 25)).alloc (.cells #[.int .u64 0, .int .u64 0] 25)).alloc (.cells #[.int .u64 0, .int .u64 0] 25)) = w2 at *
  generalize hgo : w.heap.size = go at *
  go_loopw [15] (fun i wr => ∃ (z : Nat) (zi : Int), ((z = 0 ∧ zi = 0) ∨ (z = 1 ∧ zi = 1) ∨ (z = 2 ∧ zi = 2)) ∧ i = .int .i64 zi ∧ Hid (Blk wr (go + 1 + 1) 25 #[.int .u64 (hi (ts a b (16 * z)) : Int), .int .u64 (lo (ts a b (16 * z)) : Int)]) ∧ Hid (∃ u v, Blk wr (go + 1) 25 #[u, v]) ∧ Hid (Ext No w wr)) (fun i _ => 2 - (intOf i).toNat)
  case atStart => exact ⟨0, 0, .inl ⟨rfl, rfl⟩, rfl, Lib.hid (by
    show Blk _ _ _ #[.int .u64 (hi 0#128 : Int), .int .u64 (lo 0#128 : Int)]
    rw [show hi 0#128 = 0 by decide, show lo 0#128 = 0 by decide]; exact HP.out), Lib.hid ⟨_, _, HQ.out⟩, HX⟩
  case round =>
    clear HP HQ HX
    obtain ⟨z, zi, hz, rfl, HP, HQ, HX⟩ := hrel
    rcases hz with ⟨rfl, rfl⟩ | ⟨rfl, rfl⟩ | ⟨rfl, rfl⟩
    · go_wp2_with fail
      go_loopw [8] (fun k wr => ∃ s : Nat, s ≤ 16 ∧ k = .int .i64 ((4 * s : Nat) : Int) ∧ Hid (Blk wr (go + 1 + 1) 25 #[.int .u64 (hi (ts a b s) : Int), .int .u64 (lo (ts a b s) : Int)]) ∧ Hid (∃ u v, Blk wr (go + 1) 25 #[u, v]) ∧ Hid (Ext No w wr)) (fun k _ => 64 - (intOf k).toNat)
      case atStart => exact ⟨0, by omega, rfl, HP, HQ, HX⟩
      case round =>
        clear HP HQ HX
        obtain ⟨s, hs, rfl, HP, HQ, HX⟩ := hrel
        obtain ⟨k4, hk4⟩ : ∃ k4, 4 * s = k4 := ⟨_, rfl⟩
        have hk1 : 4 * s ≤ k4 := by omega
        have hk2 : k4 ≤ 4 * s := by omega
        rw [hk4]
        clear hk4
        by_cases hs16 : s < 16
        · have HN := Lib.hid (nxn4 (ts a b s))
          have hol := lo_lt (ts a b s)
          have hoh := hi_lt (ts a b s)
          have e15 : bits .and .u64 ((lo (ts a b s) : Nat) : Int) 15 = ((lo (ts a b s) % 16 : Nat) : Int) := by
            have := u64_and_nat (lo (ts a b s)) 15 hol (by omega)
            rw [show lo (ts a b s) &&& 15 = lo (ts a b s) % 16 from Nat.and_two_pow_sub_one_eq_mod _ 4] at this
            exact this
          have hm0 : (0 : Int) ≤ ((lo (ts a b s) % 16 : Nat) : Int) := by omega
          have hm1 : ((lo (ts a b s) % 16 : Nat) : Int) < 16 := by omega
          have ct := (Blk.cell (HT0.out.ext_no HX.out) (32 + lo (ts a b s) % 16)).trans (tabC_ov (tb b) tov (j := lo (ts a b s) % 16) (by omega))
          have P := Blk.c2 HP.out
          have e1 : bits .xor .u64 (((hi (ts a b s) : Nat) : Int) / 16) ((tov (lo (ts a b s) % 16) : Nat) : Int) = ((hi (nxn 4 (ts a b s)) : Nat) : Int) := by
            have h3 : tov (lo (ts a b s) % 16) < 18446744073709551616 := hi_lt _
            rw [show ((hi (ts a b s) : Nat) : Int) / 16 = ((hi (ts a b s) / 16 : Nat) : Int) by omega, u64_xor_nat _ _ (by omega) h3, HN.out.1]
          have e2 : bits .or .u64 (((lo (ts a b s) : Nat) : Int) / 16) (IntKind.u64.wrap (((hi (ts a b s) : Nat) : Int) * 1152921504606846976)) = ((lo (nxn 4 (ts a b s)) : Nat) : Int) := by
            rw [show ((lo (ts a b s) : Nat) : Int) / 16 = ((lo (ts a b s) / 16 : Nat) : Int) by omega, show IntKind.u64.wrap (((hi (ts a b s) : Nat) : Int) * 1152921504606846976) = ((hi (ts a b s) % 16 * 1152921504606846976 : Nat) : Int) by rw [IntKind.wrap_u64]; omega, u64_or_nat _ _ (by omega) (by omega), HN.out.2, Nat.or_comm, nat_join 60 _ _ (by rw [show (2 : Nat) ^ 60 = 1152921504606846976 by decide]; omega) (by rw [show (2 : Nat) ^ 60 = 1152921504606846976 by decide]; omega), Nat.add_comm]
          have hog : g ≠ go + 1 + 1 := by omega
          generalize hm : lo (ts a b s) % 16 = m at *
          clear hm
          go_wp2_with fail
          go_region
          go_wp2_with fail
          have e3 := shr_nib (lo a) s k4 h2 (by omega) hs16
          have e3b : lo a / 16 ^ s % 16 = nib a s := nib_lo a s hs16
          rw [e3b] at e3
          have hn := nib_lt a s
          have n0 : (0 : Int) ≤ ((nib a s : Nat) : Int) := by omega
          have n1 : ((nib a s : Nat) : Int) < 16 := by omega
          have HS := Lib.hid (show ts a b (s + 1) = nxn 4 (ts a b s) ^^^ tb b (nib a s) from rfl)
          have HP5 : Hid (Blk ((((wr.setCell ⟨go + 1 + 1, 0, none⟩ (.int .u64 (((hi (ts a b s) : Nat) : Int) / 16))).setCell ⟨go + 1 + 1, 1, none⟩ (.int .u64 (lo (nxn 4 (ts a b s)) : Int))).setCell ⟨go + 1 + 1, 0, none⟩ (.int .u64 (hi (nxn 4 (ts a b s)) : Int))).drew) (go + 1 + 1) 25 #[.int .u64 (hi (nxn 4 (ts a b s)) : Int), .int .u64 (lo (nxn 4 (ts a b s)) : Int)]) := Lib.hid (Blk.set_ (Blk.set_ (Blk.set_ HP.out 0 _) 1 _) 0 _)
          have hx5 : Ext (One (go + 1 + 1)) wr ((((wr.setCell ⟨go + 1 + 1, 0, none⟩ (.int .u64 (((hi (ts a b s) : Nat) : Int) / 16))).setCell ⟨go + 1 + 1, 1, none⟩ (.int .u64 (lo (nxn 4 (ts a b s)) : Int))).setCell ⟨go + 1 + 1, 0, none⟩ (.int .u64 (hi (nxn 4 (ts a b s)) : Int))).drew) := by
            exact Ext.drew (Ext.setCell (S := One (go + 1 + 1)) (Ext.setCell (S := One (go + 1 + 1)) (Ext.setCell (S := One (go + 1 + 1)) (Ext.refl _ _) (fun _ => rfl) _) (fun _ => rfl) _) (fun _ => rfl) _)
          have HQ5 := Lib.hid (show ∃ u v, Blk _ (go + 1) 25 #[u, v] from let ⟨u, v, hq⟩ := HQ.out; ⟨u, v, hq.ext hx5 (fun h => by have h : go + 1 = go + 1 + 1 := h; omega)⟩)
          have HX5 := Lib.hid (HX.out.transS hx5 (fun i hi h => by have h : i = go + 1 + 1 := h; omega))
          clear hx5 HP HQ HX P e1 e2 HN ct
          generalize ((((wr.setCell ⟨go + 1 + 1, 0, none⟩ (.int .u64 (((hi (ts a b s) : Nat) : Int) / 16))).setCell ⟨go + 1 + 1, 1, none⟩ (.int .u64 (lo (nxn 4 (ts a b s)) : Int))).setCell ⟨go + 1 + 1, 0, none⟩ (.int .u64 (hi (nxn 4 (ts a b s)) : Int))).drew) = w5 at *
          have HT5 := Lib.hid (HT0.out.ext_no HX5.out)
          have c0 := (Blk.cell HT5.out (nib a s * 2)).trans (tabC_hi (tb b) tov hn)
          have c1 := (Blk.cell HT5.out (nib a s * 2 + 1)).trans (tabC_lo (tb b) tov hn)
          have P5 := Blk.c2 HP5.out
          have hS5 : Hid (TmS w go g (nib a s) (nxn 4 (ts a b s)) b w5) := Lib.hid ⟨⟨_, _, HP5.out⟩, HQ5.out, HT5.out, HX5.out⟩
          generalize nib a s = n at *
          generalize nxn 4 (ts a b s) = o4 at *
          go_region_with ((go_at_call 31; refine (fAdd_agg o4 (tb b n) _).mono ?_; rintro e' w6 ⟨rfl, hx6⟩; have HP6 := Lib.hid (Blk.ext_no (by exact HP5.out) hx6); have HQ6 := Lib.hid (show ∃ u v, Blk w6 (go + 1) 25 #[u, v] from let ⟨u, v, hq⟩ := HQ5.out; ⟨u, v, Blk.ext_no (by exact hq) hx6⟩); have HX6 := Lib.hid (HX5.out.drew.trans hx6); have P6 := Blk.c2 HP6.out))
          all_goals
            go_wp2
            go_roundw
            case rel => exact ⟨s + 1, by omega, by rw [show 4 * (s + 1) = k4 + 4 by omega]; go_num, Lib.hid (by rw [HS.out]; exact Blk.set_ (Blk.set_ HP6.out 0 _) 1 _), Lib.hid (let ⟨u, v, hq⟩ := HQ6.out; ⟨u, v, Blk.far (Blk.far hq (by show go + 1 ≠ go + 1 + 1; omega) _) (by show go + 1 ≠ go + 1 + 1; omega) _⟩), Lib.hid (by repeat (first | with_reducible refine Ext.setCell ?_ (fun h => by have h : go + 1 + 1 < w.heap.size := h; omega) _ | with_reducible refine Ext.drew ?_ | with_reducible exact HX6.out))⟩
            case measure => simp [intOf]; omega
        · have hse : s = 16 := by omega
          subst hse
          go_wp2_with fail
          go_roundw
          case rel => exact ⟨1, 1, by omega, rfl, HP, HQ, HX⟩
          case measure => simp [intOf]
    · go_wp2_with fail
      go_loopw [8] (fun k wr => ∃ s : Nat, s ≤ 16 ∧ k = .int .i64 ((4 * s : Nat) : Int) ∧ Hid (Blk wr (go + 1 + 1) 25 #[.int .u64 (hi (ts a b (16 + s)) : Int), .int .u64 (lo (ts a b (16 + s)) : Int)]) ∧ Hid (∃ u v, Blk wr (go + 1) 25 #[u, v]) ∧ Hid (Ext No w wr)) (fun k _ => 64 - (intOf k).toNat)
      case atStart => exact ⟨0, by omega, rfl, HP, HQ, HX⟩
      case round =>
        clear HP HQ HX
        obtain ⟨s, hs, rfl, HP, HQ, HX⟩ := hrel
        obtain ⟨k4, hk4⟩ : ∃ k4, 4 * s = k4 := ⟨_, rfl⟩
        have hk1 : 4 * s ≤ k4 := by omega
        have hk2 : k4 ≤ 4 * s := by omega
        rw [hk4]
        clear hk4
        by_cases hs16 : s < 16
        · have HN := Lib.hid (nxn4 (ts a b (16 + s)))
          have hol := lo_lt (ts a b (16 + s))
          have hoh := hi_lt (ts a b (16 + s))
          have e15 : bits .and .u64 ((lo (ts a b (16 + s)) : Nat) : Int) 15 = ((lo (ts a b (16 + s)) % 16 : Nat) : Int) := by
            have := u64_and_nat (lo (ts a b (16 + s))) 15 hol (by omega)
            rw [show lo (ts a b (16 + s)) &&& 15 = lo (ts a b (16 + s)) % 16 from Nat.and_two_pow_sub_one_eq_mod _ 4] at this
            exact this
          have hm0 : (0 : Int) ≤ ((lo (ts a b (16 + s)) % 16 : Nat) : Int) := by omega
          have hm1 : ((lo (ts a b (16 + s)) % 16 : Nat) : Int) < 16 := by omega
          have ct := (Blk.cell (HT0.out.ext_no HX.out) (32 + lo (ts a b (16 + s)) % 16)).trans (tabC_ov (tb b) tov (j := lo (ts a b (16 + s)) % 16) (by omega))
          have P := Blk.c2 HP.out
          have e1 : bits .xor .u64 (((hi (ts a b (16 + s)) : Nat) : Int) / 16) ((tov (lo (ts a b (16 + s)) % 16) : Nat) : Int) = ((hi (nxn 4 (ts a b (16 + s))) : Nat) : Int) := by
            have h3 : tov (lo (ts a b (16 + s)) % 16) < 18446744073709551616 := hi_lt _
            rw [show ((hi (ts a b (16 + s)) : Nat) : Int) / 16 = ((hi (ts a b (16 + s)) / 16 : Nat) : Int) by omega, u64_xor_nat _ _ (by omega) h3, HN.out.1]
          have e2 : bits .or .u64 (((lo (ts a b (16 + s)) : Nat) : Int) / 16) (IntKind.u64.wrap (((hi (ts a b (16 + s)) : Nat) : Int) * 1152921504606846976)) = ((lo (nxn 4 (ts a b (16 + s))) : Nat) : Int) := by
            rw [show ((lo (ts a b (16 + s)) : Nat) : Int) / 16 = ((lo (ts a b (16 + s)) / 16 : Nat) : Int) by omega, show IntKind.u64.wrap (((hi (ts a b (16 + s)) : Nat) : Int) * 1152921504606846976) = ((hi (ts a b (16 + s)) % 16 * 1152921504606846976 : Nat) : Int) by rw [IntKind.wrap_u64]; omega, u64_or_nat _ _ (by omega) (by omega), HN.out.2, Nat.or_comm, nat_join 60 _ _ (by rw [show (2 : Nat) ^ 60 = 1152921504606846976 by decide]; omega) (by rw [show (2 : Nat) ^ 60 = 1152921504606846976 by decide]; omega), Nat.add_comm]
          have hog : g ≠ go + 1 + 1 := by omega
          generalize hm : lo (ts a b (16 + s)) % 16 = m at *
          clear hm
          go_wp2_with fail
          go_region
          go_wp2_with fail
          have e3 := shr_nib (hi a) s k4 h1 (by omega) hs16
          have e3b : hi a / 16 ^ s % 16 = nib a (16 + s) := nib_hi a s
          rw [e3b] at e3
          have hn := nib_lt a (16 + s)
          have n0 : (0 : Int) ≤ ((nib a (16 + s) : Nat) : Int) := by omega
          have n1 : ((nib a (16 + s) : Nat) : Int) < 16 := by omega
          have HS := Lib.hid (show ts a b (16 + (s + 1)) = nxn 4 (ts a b (16 + s)) ^^^ tb b (nib a (16 + s)) from rfl)
          have HP5 : Hid (Blk ((((wr.setCell ⟨go + 1 + 1, 0, none⟩ (.int .u64 (((hi (ts a b (16 + s)) : Nat) : Int) / 16))).setCell ⟨go + 1 + 1, 1, none⟩ (.int .u64 (lo (nxn 4 (ts a b (16 + s))) : Int))).setCell ⟨go + 1 + 1, 0, none⟩ (.int .u64 (hi (nxn 4 (ts a b (16 + s))) : Int))).drew) (go + 1 + 1) 25 #[.int .u64 (hi (nxn 4 (ts a b (16 + s))) : Int), .int .u64 (lo (nxn 4 (ts a b (16 + s))) : Int)]) := Lib.hid (Blk.set_ (Blk.set_ (Blk.set_ HP.out 0 _) 1 _) 0 _)
          have hx5 : Ext (One (go + 1 + 1)) wr ((((wr.setCell ⟨go + 1 + 1, 0, none⟩ (.int .u64 (((hi (ts a b (16 + s)) : Nat) : Int) / 16))).setCell ⟨go + 1 + 1, 1, none⟩ (.int .u64 (lo (nxn 4 (ts a b (16 + s))) : Int))).setCell ⟨go + 1 + 1, 0, none⟩ (.int .u64 (hi (nxn 4 (ts a b (16 + s))) : Int))).drew) := by
            exact Ext.drew (Ext.setCell (S := One (go + 1 + 1)) (Ext.setCell (S := One (go + 1 + 1)) (Ext.setCell (S := One (go + 1 + 1)) (Ext.refl _ _) (fun _ => rfl) _) (fun _ => rfl) _) (fun _ => rfl) _)
          have HQ5 := Lib.hid (show ∃ u v, Blk _ (go + 1) 25 #[u, v] from let ⟨u, v, hq⟩ := HQ.out; ⟨u, v, hq.ext hx5 (fun h => by have h : go + 1 = go + 1 + 1 := h; omega)⟩)
          have HX5 := Lib.hid (HX.out.transS hx5 (fun i hi h => by have h : i = go + 1 + 1 := h; omega))
          clear hx5 HP HQ HX P e1 e2 HN ct
          generalize ((((wr.setCell ⟨go + 1 + 1, 0, none⟩ (.int .u64 (((hi (ts a b (16 + s)) : Nat) : Int) / 16))).setCell ⟨go + 1 + 1, 1, none⟩ (.int .u64 (lo (nxn 4 (ts a b (16 + s))) : Int))).setCell ⟨go + 1 + 1, 0, none⟩ (.int .u64 (hi (nxn 4 (ts a b (16 + s))) : Int))).drew) = w5 at *
          have HT5 := Lib.hid (HT0.out.ext_no HX5.out)
          have c0 := (Blk.cell HT5.out (nib a (16 + s) * 2)).trans (tabC_hi (tb b) tov hn)
          have c1 := (Blk.cell HT5.out (nib a (16 + s) * 2 + 1)).trans (tabC_lo (tb b) tov hn)
          have P5 := Blk.c2 HP5.out
          have hS5 : Hid (TmS w go g (nib a (16 + s)) (nxn 4 (ts a b (16 + s))) b w5) := Lib.hid ⟨⟨_, _, HP5.out⟩, HQ5.out, HT5.out, HX5.out⟩
          generalize nib a (16 + s) = n at *
          generalize nxn 4 (ts a b (16 + s)) = o4 at *
          go_region_with ((go_at_call 31; refine (fAdd_agg o4 (tb b n) _).mono ?_; rintro e' w6 ⟨rfl, hx6⟩; have HP6 := Lib.hid (Blk.ext_no (by exact HP5.out) hx6); have HQ6 := Lib.hid (show ∃ u v, Blk w6 (go + 1) 25 #[u, v] from let ⟨u, v, hq⟩ := HQ5.out; ⟨u, v, Blk.ext_no (by exact hq) hx6⟩); have HX6 := Lib.hid (HX5.out.drew.trans hx6); have P6 := Blk.c2 HP6.out))
          all_goals
            go_wp2
            go_roundw
            case rel => exact ⟨s + 1, by omega, by rw [show 4 * (s + 1) = k4 + 4 by omega]; go_num, Lib.hid (by rw [HS.out]; exact Blk.set_ (Blk.set_ HP6.out 0 _) 1 _), Lib.hid (let ⟨u, v, hq⟩ := HQ6.out; ⟨u, v, Blk.far (Blk.far hq (by show go + 1 ≠ go + 1 + 1; omega) _) (by show go + 1 ≠ go + 1 + 1; omega) _⟩), Lib.hid (by repeat (first | with_reducible refine Ext.setCell ?_ (fun h => by have h : go + 1 + 1 < w.heap.size := h; omega) _ | with_reducible refine Ext.drew ?_ | with_reducible exact HX6.out))⟩
            case measure => simp [intOf]; omega
        · have hse : s = 16 := by omega
          subst hse
          go_wp2_with fail
          go_roundw
          case rel => exact ⟨2, 2, by omega, rfl, HP, HQ, HX⟩
          case measure => simp [intOf]
    · have P := Blk.c2 HP.out
      have hq0 := HQ.out
      obtain ⟨u, v, hq⟩ := hq0
      have Q := Blk.c2 hq
      have HE := Lib.hid (show ts a b (16 * 2) = mul a b from ts_mul a b)
      have hx9 : Ext No w (((wr.setCell ⟨go + 1, 0, none⟩ (.int .u64 (hi (ts a b (16 * 2)) : Int))).setCell ⟨go + 1, 1, none⟩ (.int .u64 (lo (ts a b (16 * 2)) : Int)))) := by
        repeat (first | with_reducible refine Ext.setCell ?_ (fun h => by have h : go + 1 < w.heap.size := h; omega) _ | with_reducible refine Ext.drew ?_ | with_reducible exact HX.out)
      have HX9 := Lib.hid hx9
      clear hx9 HP HX hq HQ HT0
      generalize ts a b (16 * 2) = o9 at *
      go_wp2_with fail
      exact bodyPost_ret (v := .agg #[.int .u64 (hi o9 : Int), .int .u64 (lo o9 : Int)]) (by simp [results, Try.results30, go_sem, P, Q]) rfl ⟨by rw [HE.out], HX9.out⟩
end Go.Proofs.Ytljddghamgjfbaa
