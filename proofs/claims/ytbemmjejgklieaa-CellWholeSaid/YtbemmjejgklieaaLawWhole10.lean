/- The law CellWhole. -/
import Derived.Test.YtbemmjejgklieaaLaw10
set_option linter.unusedVariables false
set_option linter.unusedSimpArgs false
namespace Go.Proofs.Ytbemmjejgklieaa
open Go.RowKit Go.Deep

/-- A write while nothing burns, whatever it is asked. -/
theorem cWrite_all (gp gc : Nat) (at_ : Int) (L : Nat → List UInt8) (n s : Int) (d : Bool) (A : Option Addr) (c : Nat) (l : List UInt8) (w : World) (hv : Bs w (Off2 gp gc) (.slice A l.length c) l) (hc : IsCell w gp gc L n) (hL : ∀ j, (L j).length ≤ 1024)
    (hp : IsPw w gp (-1) d false s) (hne : gc ≠ gp) :
    Calls Try.prog 30 #[ptr gc, .int .i64 at_, .slice A l.length c] w fun e w' => ∃ code s' n' L', e = .returned (.int .i64 code) ∧ (∀ j, (L' j).length ≤ 1024) ∧
      IsPw w' gp (-1) d false s' ∧ IsCell w' gp gc L' n' ∧ Ext (Two gp gc) w w' := by
  by_cases ha : at_ < 0 ∨ 4 ≤ at_
  · refine (cWrite_range gc at_ A _ c w ha).mono ?_
    rintro e w' ⟨rfl, hx⟩
    exact ⟨_, s, n, L, rfl, hL, Blk.ext_no hp hx, hc.ext_no hx, hx.no⟩
  · obtain ⟨k, rfl⟩ : ∃ k : Nat, at_ = (k : Int) := ⟨at_.toNat, by omega⟩
    by_cases hs : 1024 < l.length
    · refine (cWrite_size gc k A _ c w (by omega) hs).mono ?_
      rintro e w' ⟨rfl, hx⟩
      exact ⟨_, s, n, L, rfl, hL, Blk.ext_no hp hx, hc.ext_no hx, hx.no⟩
    · refine (cWrite_up gp gc k L n s d _ l w (by omega) hv (by omega) hc hp hne).mono ?_
      rintro e w' ⟨rfl, h1, h2, hx⟩
      refine ⟨_, _, _, _, rfl, fun j => ?_, h1, h2, hx⟩
      unfold upd
      split
      · omega
      · exact hL j

theorem Bs.take_ {w : World} {F : Nat → Prop} {A : Option Addr} {n c m c' : Nat} {l : List UInt8} (h : Bs w F (.slice A n c) l) (hm : m ≤ l.length) (hc : m ≤ c') (hx : c' ≤ maxLen) : Bs w F (.slice A m c') (l.take m) := by
  obtain ⟨h1, A', c'', hv, h2, h3, h4⟩ := h
  simp only [Value.slice.injEq] at hv
  obtain ⟨rfl, rfl, rfl⟩ := hv
  have hlm : (l.take m).length = m := by simp; omega
  refine ⟨by simp [u8s_length], A, c', by rw [hlm], by omega, hx, fun h0 => ?_⟩
  obtain ⟨b, off, e, hF, hcell⟩ := h4 (by omega)
  refine ⟨b, off, e, hF, fun j u hu => hcell j u ?_⟩
  have : u8s (l.take m) = (u8s l).take m := by simp [u8s, List.map_take]
  rw [this] at hu
  have hj : j < m := by have := (List.getElem?_eq_some_iff.1 hu).1; simp at this; omega
  rwa [List.getElem?_take_of_lt hj] at hu
theorem two_not {g h b : Nat} (hb : b < g) (hg : g ≤ h) : ¬ Two g h b := fun hh => by
  have hh : b = g ∨ b = h := hh
  omega
set_option maxRecDepth 100000 in
set_option maxHeartbeats 8000000 in
theorem whole_any (A : Option Addr) (len cap : Nat) (Aa Ab : Option Addr) (ca cb : Nat) (la lb : List UInt8) (at_ : Int) (done : Bool) (w : World) (hl : Acts10 w A len cap) (ha : Bs w (fun b => b < w.heap.size) (.slice Aa la.length ca) la) (hb : Bs w (fun b => b < w.heap.size) (.slice Ab lb.length cb) lb)
    (h0 : 0 ≤ at_) (h1 : at_ ≤ 255) :
    Calls Try.prog 5 #[.slice A len cap, .slice Aa la.length ca, .slice Ab lb.length cb, .int .u8 at_, .bool done] w fun e w' => e = .returned (.bool true) ∧ Ext No w w' := by
  by_cases hla : 1024 < la.length
  · have hla' : (1024 : Int) < (la.length : Int) := by omega
    clear ha hb
    go_enter Try.func5, Try.ntmps5
    go_wp2_with (first
      | (go_at_call 27; refine (light10_any _ _ _ _ hl).mono ?_; rintro e w0 ⟨r, rfl, hx0⟩; cases r)
      | (go_at_call 28; refine (works10 _).mono ?_; rintro e w1 ⟨rfl, hx1⟩))
    all_goals
      go_ret
      exact ⟨rfl, hx0.trans hx1⟩
  by_cases hlb : 1024 < lb.length
  · have hla' : ¬ (1024 : Int) < (la.length : Int) := by omega
    have hlb' : (1024 : Int) < (lb.length : Int) := by omega
    clear ha hb
    go_enter Try.func5, Try.ntmps5
    go_wp2_with (first
      | (go_at_call 27; refine (light10_any _ _ _ _ hl).mono ?_; rintro e w0 ⟨r, rfl, hx0⟩; cases r)
      | (go_at_call 28; refine (works10 _).mono ?_; rintro e w1 ⟨rfl, hx1⟩))
    all_goals
      go_ret
      exact ⟨rfl, hx0.trans hx1⟩
  have hla' : ¬ (1024 : Int) < (la.length : Int) := by omega
  have hlb' : ¬ (1024 : Int) < (lb.length : Int) := by omega
  have HL := Lib.hid hl
  have HA := Lib.hid ha
  have HB := Lib.hid hb
  clear hl ha hb
  go_enter Try.func5, Try.ntmps5
  go_wp2_with (first
    | (go_at_call 27; refine (light10_any _ _ _ _ HL.out).mono ?_; rintro e w0 ⟨r, rfl, hx0⟩; have HX0 := Lib.hid hx0; clear hx0; cases r)
    | (go_at_call 28; refine (works10 _).mono ?_; rintro e w1 ⟨rfl, hx1⟩)
    | (go_at_call 15; refine (pNew_any _).mono ?_; rintro e w' ⟨rfl, rfl⟩)
    | (go_at_call 29; refine (cNew_any _ _).mono ?_; rintro e w' ⟨rfl, rfl⟩))
  · go_ret
    exact ⟨rfl, HX0.out.trans hx1⟩
  have hi0 : IsPw ((w0.alloc (.cells (pwc (-1) false false 0) 129)).alloc (.cells #[ptr w0.heap.size, .slice none 0 0, .slice none 0 0, .slice none 0 0, .slice none 0 0, .int .i64 0] 132)) w0.heap.size (-1) false false 0 := (Blk.new w0 _ _).alloc _
  have hi1 : IsCell ((w0.alloc (.cells (pwc (-1) false false 0) 129)).alloc (.cells #[ptr w0.heap.size, .slice none 0 0, .slice none 0 0, .slice none 0 0, .slice none 0 0, .int .i64 0] 132)) w0.heap.size (w0.heap.size + 1) (fun _ => []) 0 := by
    have := IsCell.new (w0.alloc (.cells (pwc (-1) false false 0) 129)) w0.heap.size
    rw [World.size_alloc] at this
    exact this
  have hi2 : Ext No w ((w0.alloc (.cells (pwc (-1) false false 0) 129)).alloc (.cells #[ptr w0.heap.size, .slice none 0 0, .slice none 0 0, .slice none 0 0, .slice none 0 0, .int .i64 0] 132)) := (HX0.out.alloc _).alloc _
  have hsz := HX0.out.size
  generalize w0.heap.size = gp at *
  have HI := Lib.hid (And.intro hi0 (And.intro hi1 hi2))
  clear hi0 hi1 hi2
  go_loopw [14] (fun i wr => ∃ k : Nat, k ≤ len ∧ i = .int .i64 k ∧ ∃ s n L, Hid (∀ j, (L j : List UInt8).length ≤ 1024) ∧ Hid (IsPw wr gp (-1) false false s) ∧ Hid (IsCell wr gp (gp + 1) L n) ∧ Hid (Ext No w wr)) (fun i _ => len - (intOf i).toNat)
  case atStart => exact ⟨0, by omega, rfl, 0, 0, fun _ => [], Lib.hid (fun j => Nat.zero_le _), Lib.hid HI.out.1, Lib.hid HI.out.2.1, Lib.hid HI.out.2.2⟩
  case round =>
    obtain ⟨k, hk, rfl, s, n, L, HN, HP, HC, HX⟩ := hrel
    clear HI
    by_cases hlt : k < len
    · obtain ⟨hnc, hcm, hel⟩ := HL.out
      unfold maxLen at hcm
      obtain ⟨b, off, kind, at2, Ab2, lb2, cb2, num, done2, rfl, hc0, hc1, hc2, _, _, hb1, hb2, hbs⟩ := hel k hlt
      have hbl : b < w.heap.size := World.block_lt_of_cell? w _ hc0
      rw [← HX.out.cell (p := ⟨b, off + k * 5, none⟩) hbl (fun h => h)] at hc0
      rw [← HX.out.cell (p := ⟨b, off + k * 5 + 1, none⟩) hbl (fun h => h)] at hc1
      rw [← HX.out.cell (p := ⟨b, off + k * 5 + 2, none⟩) hbl (fun h => h)] at hc2
      have HBS := Lib.hid (hbs.ext_no HX.out)
      have hbl3 : b < wr.heap.size := by have := HX.out.size; omega
      have hbl4 : b < gp := by omega
      clear hel HL hbs
      by_cases hk1 : kind = 1
      · subst hk1
        go_wp2_with fail
        go_region_held3 (fun w' => w'.cell? ⟨b, off + k * 5 + 1, none⟩ = some (.int .i64 at2) ∧ w'.cell? ⟨b, off + k * 5 + 2, none⟩ = some (.slice Ab2 lb2.length cb2))
          (first | go_keep | exact ⟨(hx2.cell (p := ⟨b, off + k * 5 + 1, none⟩) hbl3 (two_not hbl4 (by omega))).trans (by go_keep), (hx2.cell (p := ⟨b, off + k * 5 + 2, none⟩) hbl3 (two_not hbl4 (by omega))).trans (by go_keep)⟩)
          (first | (go_at_call 30; refine (cWrite_all gp (gp + 1) at2 L n s false Ab2 cb2 lb2 _ (by exact (Bs.mono HBS.out (fun b hb => ⟨by omega, by omega⟩))) (by exact HC.out) HN.out (by exact HP.out) (by omega)).mono ?_; rintro e w2 ⟨code, s2, n2, L2, rfl, hn2, hp2, hc2', hx2⟩))
        go_wp2
        go_roundw
        case rel => exact ⟨k + 1, by omega, by go_num, _, _, _, Lib.hid hn2, Lib.hid hp2, Lib.hid hc2', Lib.hid (HX.out.drew.transS hx2 (fun i hi h => absurd h (two_not (by omega) (by omega))))⟩
        case measure => simp [intOf]; omega
      · have hkf : (kind == 1) = false := by simpa using hk1
        go_wp2
        go_roundw
        case rel => exact ⟨k + 1, by omega, by go_num, _, _, _, HN, HP, HC, HX⟩
        case measure => simp [intOf]; omega
    · obtain ⟨kk, hkk, hk4⟩ : ∃ kk : Nat, at_ % 4 = (kk : Int) ∧ kk < 4 := ⟨(at_ % 4).toNat, by omega, by omega⟩
      obtain ⟨k2, hk2, hk24⟩ : ∃ k2 : Nat, ((kk : Int) + 1) % 4 = (k2 : Int) ∧ k2 < 4 := ⟨(((kk : Int) + 1) % 4).toNat, by omega, by omega⟩
      have hkne : k2 ≠ kk := by omega
      have HAW := Lib.hid (show Bs wr (Off2 gp (gp + 1)) _ la from (HA.out.ext_no HX.out).mono fun b hb => ⟨by omega, by omega⟩)
      have HBW := Lib.hid (show Bs wr (Off2 gp (gp + 1)) _ lb from (HB.out.ext_no HX.out).mono fun b hb => ⟨by omega, by omega⟩)
      clear HL HA HB
      go_wp2_with fail
      refine (cWrite_up gp (gp + 1) kk L n s false _ la wr hk4 HAW.out (by omega) HC.out HP.out (by omega)).mono ?_
      rintro e w4 ⟨rfl, hp4, hc4, hx4⟩
      have HX4 := Lib.hid (show Ext No w w4 from HX.out.transS hx4 (fun i hi h => absurd h (two_not (by omega) (by omega))))
      have HBW4 := Lib.hid (HBW.out.ext hx4 (fun b hb _ => off2_not hb))
      have HP4 := Lib.hid hp4
      have HC4 := Lib.hid hc4
      have HAW4 := Lib.hid (HAW.out.ext hx4 (fun b hb _ => off2_not hb))
      clear hp4 hc4 hx4 HBW HP HC HX HAW
      go_wp2_with fail
      refine (cRead_ok gp (gp + 1) (upd L kk la) _ (-1) _ false k2 w4 HC4.out HP4.out hk24 (by have := HN.out k2; simp [upd, hkne]; omega)).mono ?_
      rintro e w5 ⟨r5, rfl, ho5, hx5⟩
      obtain ⟨lo, HLO⟩ : ∃ lo, Hid (lo = pad (upd L kk la k2)) := ⟨_, Lib.hid rfl⟩
      rw [← HLO.out] at ho5
      have HO5 := Lib.hid ho5
      obtain ⟨A5, c5, rfl, h5c⟩ := ho5.slice
      have HP5 := Lib.hid (Blk.ext_no HP4.out hx5)
      have HC5 := Lib.hid (HC4.out.ext_no hx5)
      have HBW5 := Lib.hid (HBW4.out.ext_no hx5)
      have HAW5 := Lib.hid (HAW4.out.ext_no hx5)
      have HX5 := Lib.hid (HX4.out.trans hx5)
      have hs4 : gp + 1 < w4.heap.size := HC4.out.lt
      clear ho5 hx5 HP4 HC4 HBW4 HAW4 HX4
      cases done
      · go_wp2_with (first
          | (go_at_call 20; refine (pFuse_any gp 0 (-1) _ false false false _ HP5.out).mono ?_; rintro e w6 ⟨rfl, hp6, hx6⟩; rw [show max (0 : Int) (-1) = 0 by decide] at hp6; have HP6 := Lib.hid hp6; have HC6 := Lib.hid (HC5.out.ext_pw (by omega) hx6); have HB6 := Lib.hid (HBW5.out.ext hx6 (fun b hb _ => off2_one hb)); have HX6 := Lib.hid (show Ext No w w6 from HX5.out.transS hx6 (fun i hi h => by have h : i = gp := h; omega)); have HO6 := Lib.hid (HO5.out.ext hx6 (fun b hb => by have := HO5.out.lt b hb; show ¬ b = gp; omega)); have HA6 := Lib.hid (HAW5.out.ext hx6 (fun b hb _ => off2_one hb)); clear hp6 hx6)
          | (go_at_call 30; refine (cWrite_cut gp (gp + 1) kk (upd L kk la) _ _ false _ lb _ hk4 HB6.out (by omega) HC6.out HP6.out (by omega)).mono ?_; rintro e w7 ⟨rfl, hp7, hc7, hx7⟩; have HP7 := Lib.hid hp7; have HC7 := Lib.hid (show IsCell w7 gp (gp + 1) (upd L kk la) _ by simpa [CellDone] using hc7); have HB7 := Lib.hid (HB6.out.ext hx7 (fun b hb _ => off2_not hb)); have HA7 := Lib.hid (HA6.out.ext hx7 (fun b hb _ => off2_not hb)); have HX7 := Lib.hid (show Ext No w w7 from HX6.out.transS hx7 (fun i hi h => absurd h (two_not (by omega) (by omega)))); have HO7 := Lib.hid (HO6.out.ext hx7 (fun b hb => by have := HO6.out.lt b hb; show ¬ (b = gp ∨ b = gp + 1); omega)); clear hp7 hc7 hx7)
          | (go_at_call 22; refine (pBack_any gp _ _ _ _ _ HP7.out).mono ?_; rintro e w8 ⟨rfl, hp8, hx8⟩; have HP8 := Lib.hid hp8; have HC8 := Lib.hid (HC7.out.ext_pw (by omega) hx8); have HB8 := Lib.hid (HB7.out.ext hx8 (fun b hb _ => off2_one hb)); have HA8 := Lib.hid (HA7.out.ext hx8 (fun b hb _ => off2_one hb)); have HX8 := Lib.hid (show Ext No w w8 from HX7.out.transS hx8 (fun i hi h => by have h : i = gp := h; omega)); have HO8 := Lib.hid (HO7.out.ext hx8 (fun b hb => by have := HO7.out.lt b hb; show ¬ b = gp; omega)); clear hp8 hx8))
        refine (cRead_ok gp (gp + 1) (upd L kk la) _ (-1) _ false kk w8 HC8.out HP8.out hk4 (by simp [upd]; omega)).mono ?_
        rintro e w9 ⟨rx, rfl, hox, hx9⟩
        have hLk : (upd L kk la) kk = la := by simp [upd]
        rw [hLk] at hox
        have hlp := pad_length (l := la) (by omega)
        obtain ⟨Ax, cx, rfl, hxc, hxm, bx, ox, hAx⟩ := hox.any.slice
        obtain ⟨rfl, _, hbx, _⟩ := hAx 0 (by omega)
        have HY1 := Lib.hid (Bs.take_ hox.any (m := la.length) (by omega) (by omega) hxm)
        rw [hlp] at hxc
        rw [hlp]
        have HP9 := Lib.hid (Blk.ext_no HP8.out hx9)
        have HC9 := Lib.hid (HC8.out.ext_no hx9)
        have HW9 := Lib.hid (HA8.out.ext_no hx9)
        have HX9 := Lib.hid (HX8.out.trans hx9)
        have HO9 := Lib.hid (HO8.out.ext_no hx9)
        clear hAx hox hx9
        go_wp2_with fail
        refine (cRead_ok gp (gp + 1) (upd L kk la) _ (-1) _ false k2 w9 HC9.out (by exact HP9.out) hk24 (by have := HN.out k2; simp [upd, hkne]; omega)).mono ?_
        rintro e w10 ⟨ry, rfl, hoy, hx10⟩
        have hLk2 : (upd L kk la) k2 = upd L kk la k2 := by simp [upd, hkne]
        rw [hLk2, ← HLO.out] at hoy
        have HOY := Lib.hid hoy.any
        obtain ⟨Ay, cy, rfl, hyc⟩ := hoy.slice
        have HZ1 := Lib.hid (HY1.out.ext_no hx10)
        have HW10 := Lib.hid (HW9.out.any.ext_no hx10)
        have HX10 := Lib.hid (HX9.out.trans hx10)
        have HO10 := Lib.hid (HO9.out.any.ext_no hx10)
        clear hoy hx10
        have hlx : (la.length : Int) ≤ 1024 := by omega
        go_wp2_with fail
        have h1 := rSame_true _ _ _ _ _ HZ1.out HW10.out (show List.take la.length (pad la) = la by simp [pad])
        refine h1.mono ?_
        clear h1
        rintro e w11 ⟨rfl, n11, rfl⟩
        go_wp2_with fail
        have h2 := rSame_true _ _ lo lo (w10.drewN n11) (Bs.drewN HO10.out n11) (Bs.drewN HOY.out n11) rfl
        refine h2.mono ?_
        clear h2
        rintro e w12 ⟨rfl, n12, rfl⟩
        go_wp2_with (go_at_call 28; refine (works10 _).mono ?_; rintro e w13 ⟨rfl, hx13⟩)
        go_ret
        exact ⟨rfl, (HX10.out.drewN (n11 + n12)).trans hx13⟩
      · go_wp2_with (first
          | (go_at_call 20; refine (pFuse_any gp 0 (-1) _ false false true _ HP5.out).mono ?_; rintro e w6 ⟨rfl, hp6, hx6⟩; rw [show max (0 : Int) (-1) = 0 by decide] at hp6; have HP6 := Lib.hid hp6; have HC6 := Lib.hid (HC5.out.ext_pw (by omega) hx6); have HB6 := Lib.hid (HBW5.out.ext hx6 (fun b hb _ => off2_one hb)); have HX6 := Lib.hid (show Ext No w w6 from HX5.out.transS hx6 (fun i hi h => by have h : i = gp := h; omega)); have HO6 := Lib.hid (HO5.out.ext hx6 (fun b hb => by have := HO5.out.lt b hb; show ¬ b = gp; omega)); have HA6 := Lib.hid (HAW5.out.ext hx6 (fun b hb _ => off2_one hb)); clear hp6 hx6)
          | (go_at_call 30; refine (cWrite_cut gp (gp + 1) kk (upd L kk la) _ _ true _ lb _ hk4 HB6.out (by omega) HC6.out HP6.out (by omega)).mono ?_; rintro e w7 ⟨rfl, hp7, hc7, hx7⟩; have HP7 := Lib.hid hp7; have HC7 := Lib.hid (show IsCell w7 gp (gp + 1) (upd (upd L kk la) kk lb) _ by simpa [CellDone] using hc7); have HB7 := Lib.hid (HB6.out.ext hx7 (fun b hb _ => off2_not hb)); have HA7 := Lib.hid (HA6.out.ext hx7 (fun b hb _ => off2_not hb)); have HX7 := Lib.hid (show Ext No w w7 from HX6.out.transS hx7 (fun i hi h => absurd h (two_not (by omega) (by omega)))); have HO7 := Lib.hid (HO6.out.ext hx7 (fun b hb => by have := HO6.out.lt b hb; show ¬ (b = gp ∨ b = gp + 1); omega)); clear hp7 hc7 hx7)
          | (go_at_call 22; refine (pBack_any gp _ _ _ _ _ HP7.out).mono ?_; rintro e w8 ⟨rfl, hp8, hx8⟩; have HP8 := Lib.hid hp8; have HC8 := Lib.hid (HC7.out.ext_pw (by omega) hx8); have HB8 := Lib.hid (HB7.out.ext hx8 (fun b hb _ => off2_one hb)); have HA8 := Lib.hid (HA7.out.ext hx8 (fun b hb _ => off2_one hb)); have HX8 := Lib.hid (show Ext No w w8 from HX7.out.transS hx8 (fun i hi h => by have h : i = gp := h; omega)); have HO8 := Lib.hid (HO7.out.ext hx8 (fun b hb => by have := HO7.out.lt b hb; show ¬ b = gp; omega)); clear hp8 hx8))
        refine (cRead_ok gp (gp + 1) (upd (upd L kk la) kk lb) _ (-1) _ false kk w8 HC8.out HP8.out hk4 (by simp [upd]; omega)).mono ?_
        rintro e w9 ⟨rx, rfl, hox, hx9⟩
        have hLk : (upd (upd L kk la) kk lb) kk = lb := by simp [upd]
        rw [hLk] at hox
        have hlp := pad_length (l := lb) (by omega)
        obtain ⟨Ax, cx, rfl, hxc, hxm, bx, ox, hAx⟩ := hox.any.slice
        obtain ⟨rfl, _, hbx, _⟩ := hAx 0 (by omega)
        have HY1 := Lib.hid (Bs.take_ hox.any (m := lb.length) (by omega) (by omega) hxm)
        rw [hlp] at hxc
        rw [hlp]
        have HP9 := Lib.hid (Blk.ext_no HP8.out hx9)
        have HC9 := Lib.hid (HC8.out.ext_no hx9)
        have HW9 := Lib.hid (HB8.out.ext_no hx9)
        have HX9 := Lib.hid (HX8.out.trans hx9)
        have HO9 := Lib.hid (HO8.out.ext_no hx9)
        clear hAx hox hx9
        go_wp2_with fail
        refine (cRead_ok gp (gp + 1) (upd (upd L kk la) kk lb) _ (-1) _ false k2 w9 HC9.out (by exact HP9.out) hk24 (by have := HN.out k2; simp [upd, hkne]; omega)).mono ?_
        rintro e w10 ⟨ry, rfl, hoy, hx10⟩
        have hLk2 : (upd (upd L kk la) kk lb) k2 = upd L kk la k2 := by simp [upd, hkne]
        rw [hLk2, ← HLO.out] at hoy
        have HOY := Lib.hid hoy.any
        obtain ⟨Ay, cy, rfl, hyc⟩ := hoy.slice
        have HZ1 := Lib.hid (HY1.out.ext_no hx10)
        have HW10 := Lib.hid (HW9.out.any.ext_no hx10)
        have HX10 := Lib.hid (HX9.out.trans hx10)
        have HO10 := Lib.hid (HO9.out.any.ext_no hx10)
        clear hoy hx10
        have hlx : (lb.length : Int) ≤ 1024 := by omega
        go_wp2_with fail
        have h1 := rSame_true _ _ _ _ _ HZ1.out HW10.out (show List.take lb.length (pad lb) = lb by simp [pad])
        refine h1.mono ?_
        clear h1
        rintro e w11 ⟨rfl, n11, rfl⟩
        go_wp2_with fail
        have h2 := rSame_true _ _ lo lo (w10.drewN n11) (Bs.drewN HO10.out n11) (Bs.drewN HOY.out n11) rfl
        refine h2.mono ?_
        clear h2
        rintro e w12 ⟨rfl, n12, rfl⟩
        go_wp2_with (go_at_call 28; refine (works10 _).mono ?_; rintro e w13 ⟨rfl, hx13⟩)
        go_ret
        exact ⟨rfl, (HX10.out.drewN (n11 + n12)).trans hx13⟩
end Go.Proofs.Ytbemmjejgklieaa
