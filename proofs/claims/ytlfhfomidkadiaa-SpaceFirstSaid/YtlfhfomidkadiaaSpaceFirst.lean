/- The law SpaceFirst. -/
import Derived.Test.YtlfhfomidkadiaaOpen15
set_option linter.unusedVariables false
set_option linter.unusedSimpArgs false
namespace Go.Proofs.Ytlfhfomidkadiaa
open Go.RowKit Go.Deep

/-- Which run was found ahead of 'a': none (-1), or the first one. -/
def FirstIs (L : List Bool) (m a : Nat) (z : Int) : Prop := (z = -1 ∧ ∀ a', a' < a → ¬ runAt L m a') ∨ (∃ p : Nat, z = (p : Int) ∧ runAt L m p ∧ ∀ a', a' < p → ¬ runAt L m a')
/-- Are the first i of a run free? -/
def freeAll (L : List Bool) (a i : Nat) : Bool := decide (∀ x, x < i → L[a + x]? = some false)
theorem freeAll_succ (L : List Bool) (a i : Nat) (h : a + i < L.length) : freeAll L a (i + 1) = (freeAll L a i && !takenAt L ((a + i : Nat) : Int)) := by
  have e : takenAt L ((a + i : Nat) : Int) = L[a + i] := by
    unfold takenAt
    rw [decide_eq_false (by omega), decide_eq_false (by omega)]
    simp only [Int.toNat_natCast]
    simp [h]
  rw [e]
  unfold freeAll
  rw [Bool.eq_iff_iff]
  simp only [decide_eq_true_eq, Bool.and_eq_true, Bool.not_eq_true']
  constructor
  · intro hh
    refine ⟨fun x hx => hh x (by omega), ?_⟩
    have := hh i (by omega)
    rw [List.getElem?_eq_getElem h] at this
    simpa using this
  · rintro ⟨h1, h2⟩ x hx
    by_cases c : x < i
    · exact h1 x c
    · obtain rfl : x = i := by omega
      rw [List.getElem?_eq_getElem h, h2]
theorem freeAll_run {L : List Bool} {a m : Nat} (h : a + m ≤ L.length) : freeAll L a m = true ↔ runAt L m a := by
  unfold freeAll runAt
  rw [decide_eq_true_eq]
  exact ⟨fun h1 => ⟨h, h1⟩, fun h1 => h1.2⟩

set_option maxRecDepth 100000 in
set_option maxHeartbeats 4000000 in
theorem first15_any (A : Option Addr) (len cap : Nat) (n : Int) (w : World) (hl : Acts15 w A len cap) (hn0 : 0 ≤ n) (hn1 : n ≤ 255) :
    Calls Try.prog 5 #[.slice A len cap, .int .u8 n] w fun e w' => e = .returned (.bool true) ∧ Ext No w w' := by
  have HL := Lib.hid hl
  clear hl
  by_cases h60 : 60 < len
  · go_enter Try.func5, Try.ntmps5
    go_wp2_with fail
    refine (works15 _).mono ?_
    rintro e w1 ⟨rfl, hx1⟩
    go_wp2
    go_ret
    exact ⟨rfl, hx1⟩
  · go_enter Try.func5, Try.ntmps5
    go_wp2_with fail
    refine (spNew_ok 40 3 w (by decide)).mono ?_
    rintro e w1 ⟨rfl, h1, hx1⟩
    have hg := h1.1.lt
    generalize hgs : w.heap.size = gs at *
    have HI := Lib.hid (And.intro h1 hx1)
    clear h1 hx1
    go_wp2_with fail
    go_loopw [7] (fun i wr => ∃ k : Nat, k ≤ len ∧ i = .int .i64 k ∧ ∃ L : List Bool, Hid (L.length = 40) ∧ Hid (Fixed 3 L) ∧ Hid (IsSp wr (gs + 1) gs 40 3 L) ∧ Hid (Ext No w wr)) (fun i _ => len - (intOf i).toNat)
    case atStart => exact ⟨0, by omega, rfl, _, Lib.hid (by decide), Lib.hid (by decide), Lib.hid HI.out.1, Lib.hid HI.out.2⟩
    case round =>
      clear HI
      obtain ⟨k, hk, rfl, L, H40, HF, HS, HX⟩ := hrel
      by_cases hlt : k < len
      · obtain ⟨hnc, hcm, hel⟩ := HL.out
        unfold maxLen at hcm
        obtain ⟨b, off, kind, at2, num, rfl, hc0, hc1, hc2, ha1, ha2, hn1, hn2⟩ := hel k hlt
        have hbl : b < w.heap.size := World.block_lt_of_cell? w _ hc0
        rw [← HX.out.cell (p := ⟨b, off + k * 3, none⟩) hbl (fun h => h)] at hc0
        rw [← HX.out.cell (p := ⟨b, off + k * 3 + 1, none⟩) hbl (fun h => h)] at hc1
        rw [← HX.out.cell (p := ⟨b, off + k * 3 + 2, none⟩) hbl (fun h => h)] at hc2
        clear hel HL
        by_cases k0 : kind = 0
        · subst k0
          go_wp2_with fail
          refine (spTake_fn (gs + 1) gs 40 3 num L wr HS.out HF.out hn2).mono ?_
          rintro e w2 ⟨rfl, hs2, hx2⟩
          have HK := Lib.hid (takeF_keeps HF.out num)
          have HS2 := Lib.hid hs2
          have HX2 := Lib.hid (HX.out.transS hx2 (fun i hi h => by have h : i = gs := h; omega))
          clear hs2 hx2 hc0 hc1 hc2 HS HX
          generalize takeF L num = r at *
          go_wp2
          go_roundw
          case rel => exact ⟨k + 1, by omega, by go_num, r.1, Lib.hid (HK.out.1.trans H40.out), Lib.hid HK.out.2, Lib.hid HS2.out, Lib.hid HX2.out⟩
          case measure => simp [intOf]; omega
        · by_cases k1 : kind = 1
          · subst k1
            go_wp2_with fail
            go_still_tail 11, (by kernel_rfl)
            change wpList _ _ _ _ _ wr.drew
            go_wp2_with fail
            refine (spMark_fn (gs + 1) gs 40 3 at2 num L wr.drew (HS.out.no (Ext.refl No wr).drew)).mono ?_
            rintro e w2 ⟨rfl, hs2, hx2⟩
            have HK := Lib.hid (setF_keeps HF.out at2 num true 10)
            have HS2 := Lib.hid hs2
            have HX2 := Lib.hid (HX.out.drew.transS hx2 (fun i hi h => by have h : i = gs := h; omega))
            clear hs2 hx2 hc0 hc1 hc2 HS HX
            generalize setF 3 L at2 num true 10 = r at *
            go_wp2
            go_roundw
            case rel => exact ⟨k + 1, by omega, by go_num, r.1, Lib.hid (HK.out.1.trans H40.out), Lib.hid HK.out.2, Lib.hid HS2.out, Lib.hid HX2.out⟩
            case measure => simp [intOf]; omega
          · by_cases k2 : kind = 2
            · subst k2
              go_wp2_with fail
              go_still_tail 11, (by kernel_rfl)
              change wpList _ _ _ _ _ wr.drew
              go_wp2_with fail
              refine (spGive_fn (gs + 1) gs 40 3 at2 num L wr.drew (HS.out.no (Ext.refl No wr).drew)).mono ?_
              rintro e w2 ⟨rfl, hs2, hx2⟩
              have HK := Lib.hid (setF_keeps HF.out at2 num false 9)
              have HS2 := Lib.hid hs2
              have HX2 := Lib.hid (HX.out.drew.transS hx2 (fun i hi h => by have h : i = gs := h; omega))
              clear hs2 hx2 hc0 hc1 hc2 HS HX
              generalize setF 3 L at2 num false 9 = r at *
              go_wp2
              go_roundw
              case rel => exact ⟨k + 1, by omega, by go_num, r.1, Lib.hid (HK.out.1.trans H40.out), Lib.hid HK.out.2, Lib.hid HS2.out, Lib.hid HX2.out⟩
              case measure => simp [intOf]; omega
            · have f0 : (kind == 0) = false := by simpa using k0
              have f1 : (kind == 1) = false := by simpa using k1
              have f2 : (kind == 2) = false := by simpa using k2
              clear k0 k1 k2
              go_wp2
              go_roundw
              case rel => exact ⟨k + 1, by omega, by go_num, L, H40, HF, HS, HX⟩
              case measure => simp [intOf]; omega
      · go_wp2_with fail
        obtain ⟨m, hm⟩ : ∃ m : Nat, 1 + n % 12 = (m : Int) := ⟨(1 + n % 12).toNat, by omega⟩
        rw [hm]
        have hm1 : 1 ≤ m := by omega
        have hm2 : m ≤ 12 := by omega
        clear hm
        go_loop [9, 10] (fun f a => ∃ at_ : Nat, at_ ≤ 41 - m ∧ a = .int .i64 at_ ∧ ∃ z : Int, f = .int .i64 z ∧ -1 ≤ z ∧ z ≤ 40 ∧ Hid (FirstIs L m at_ z)) (fun _ a => 41 - (intOf a).toNat)
        case atStart => exact ⟨0, by omega, rfl, -1, rfl, by omega, by omega, Lib.hid (.inl ⟨rfl, fun a' h => absurd h (Nat.not_lt_zero _)⟩)⟩
        case round =>
          obtain ⟨at_, hat, rfl, z, rfl, hz1, hz2, HZ⟩ := hrel
          by_cases hc : at_ + m ≤ 40 ∧ z < 0
          · obtain ⟨hc1, hc2⟩ := hc
            have hz : z = -1 := by omega
            subst hz
            clear hz1 hz2 hc2
            go_wp2_with fail
            go_loop [11, 12] (fun f a => ∃ i : Nat, i ≤ m ∧ a = .int .i64 ((at_ + i : Nat) : Int) ∧ f = .bool (freeAll L at_ i)) (fun _ a => at_ + m - (intOf a).toNat)
            case atStart => exact ⟨0, by omega, rfl, by simp [freeAll]⟩
            case round =>
              obtain ⟨i, hi, rfl, rfl⟩ := hrel
              obtain ⟨kj, h1, h2⟩ : ∃ kj, at_ + i ≤ kj ∧ kj ≤ at_ + i := ⟨at_ + i, Nat.le_refl _, Nat.le_refl _⟩
              have hkj : at_ + i = kj := by omega
              have HT := Lib.hid (freeAll_succ L at_ i)
              rw [hkj] at HT ⊢
              clear hkj
              by_cases him : i < m
              · have HE := Lib.hid (HT.out (by rw [H40.out]; omega))
                clear HT
                cases hf1 : freeAll L at_ i
                · have HE2 : Hid (freeAll L at_ (i + 1) = false) := Lib.hid (by rw [HE.out, hf1]; rfl)
                  clear hf1 HE
                  go_wp2
                  go_round
                  case rel => exact ⟨i + 1, by omega, by rw [show at_ + (i + 1) = kj + 1 by omega]; go_num, by rw [HE2.out]⟩
                  case measure => simp [intOf]; omega
                · have HE2 : Hid (freeAll L at_ (i + 1) = !takenAt L (kj : Int)) := Lib.hid (by rw [HE.out, hf1]; rfl)
                  clear hf1 HE
                  go_wp2_with fail
                  refine (spTaken_any _ _ _ _ (kj : Int) L wr HS.out).mono ?_
                  rintro e w' ⟨rfl, rfl⟩
                  generalize takenAt L (kj : Int) = t at *
                  go_wp2
                  go_round
                  case rel => exact ⟨i + 1, by omega, by rw [show at_ + (i + 1) = kj + 1 by omega]; go_num, by rw [HE2.out]⟩
                  case measure => simp [intOf]; omega
              · have hi2 : i = m := by omega
                subst hi2
                clear HT
                have HR := Lib.hid (freeAll_run (L := L) (a := at_) (m := i) (by rw [H40.out]; omega))
                have HZ2 : Hid (∀ a', a' < at_ → ¬ runAt L i a') := Lib.hid (by
                  rcases HZ.out with h | ⟨p, h, _⟩
                  · exact h.2
                  · omega)
                clear HZ
                cases hf1 : freeAll L at_ i
                · have HN : Hid (¬ runAt L i at_) := Lib.hid (fun h => by rw [HR.out.2 h] at hf1; cases hf1)
                  clear hf1 HR
                  go_wp2
                  go_round
                  case rel =>
                    refine ⟨at_ + 1, by omega, by go_num, -1, rfl, by omega, by omega, Lib.hid (.inl ⟨rfl, fun a' h => ?_⟩)⟩
                    by_cases c : a' < at_
                    · exact HZ2.out a' c
                    · obtain rfl : a' = at_ := by omega
                      exact HN.out
                  case measure => simp [intOf]; omega
                · have HN : Hid (runAt L i at_) := Lib.hid (HR.out.1 hf1)
                  clear hf1 HR
                  go_wp2
                  go_round
                  case rel => exact ⟨at_ + 1, by omega, by go_num, (at_ : Int), rfl, by omega, by omega, Lib.hid (.inr ⟨at_, rfl, HN.out, HZ2.out⟩)⟩
                  case measure => simp [intOf]; omega
          · by_cases hz : z < 0
            · have hzz : z = -1 := by omega
              subst hzz
              have hno : ∀ a, ¬ runAt L m a := by
                intro a ha
                rcases HZ.out with h | ⟨p, h, _⟩
                · exact h.2 a (by have := ha.1; rw [H40.out] at this; omega) ha
                · omega
              have HNO := Lib.hid hno
              have hat2 : (40 : Int) - (m : Int) < (at_ : Int) := by omega
              clear hno hc HZ hz1 hz2 hz
              go_wp2_with fail
              refine (spTake_no _ _ _ m 3 L wr HS.out HF.out hm1 (by omega) HNO.out).mono ?_
              rintro e w2 ⟨rfl, hx2⟩
              have HX2 := Lib.hid (HX.out.trans hx2)
              clear hx2
              go_wp2_with fail
              refine (works15 _).mono ?_
              rintro e w3 ⟨rfl, hx3⟩
              go_wp2
              go_ret
              exact ⟨rfl, HX2.out.trans hx3⟩
            · obtain ⟨p, hp⟩ : ∃ p : Nat, z = (p : Int) := ⟨z.toNat, by omega⟩
              subst hp
              have hru : runAt L m p ∧ ∀ a', a' < p → ¬ runAt L m a' := by
                rcases HZ.out with h | ⟨q, h, h1, h2⟩
                · omega
                · obtain rfl : p = q := by omega
                  exact ⟨h1, h2⟩
              have HRU := Lib.hid hru
              clear hru hc HZ hz1 hz
              rcases (by omega : (at_ : Int) ≤ 40 - (m : Int) ∨ (40 : Int) - (m : Int) < (at_ : Int)) with hat2 | hat2
              all_goals
                go_wp2_with fail
                refine (spTake_at _ _ _ m 3 p L wr HS.out HF.out hm1 (by omega) HRU.out.1 HRU.out.2).mono ?_
                rintro e w2 ⟨rfl, hs2, hx2⟩
                have HX2 := Lib.hid (HX.out.transS hx2 (fun i hi h => by have h : i = gs := h; omega))
                clear hx2 hs2
                go_wp2_with fail
                refine (works15 _).mono ?_
                rintro e w3 ⟨rfl, hx3⟩
                go_wp2
                go_ret
                exact ⟨rfl, HX2.out.trans hx3⟩

open Go.ChangeShapes Go.WideShapes in
set_option maxRecDepth 100000 in
theorem walk_SpaceFirst (W : World) (v0 v1 : Value) (u0 : Rd Try.prog W 22 v0.cells.toList) (u1 : Rd Try.prog W 5 v1.cells.toList)
    {r : Reach} {base : Nat} (ok0 : Value.okWide Try.prog W r base 22 v0) (ok1 : Value.okWide Try.prog W r base 5 v1) :
    Calls Try.prog 5 #[v0, v1] W fun e W' => e = .returned (.bool true) ∧ Ext No W W' := by
  obtain ⟨A, len, cap, rfl⟩ := Go.WideShapes.okWide_slice Try.underlying22 ok0
  obtain ⟨n, rfl, hn⟩ := Rd.int_val Try.underlying5 ok1 u1
  have h1 := bounds_u8 hn
  exact first15_any A len cap n W (acts15_of u0) h1.1 h1.2
end Go.Proofs.Ytlfhfomidkadiaa
