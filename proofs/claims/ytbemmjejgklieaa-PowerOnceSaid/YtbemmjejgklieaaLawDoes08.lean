/- The law PowerDoes: for every row of acts the call returns true, and its argument reads as before. -/
import Derived.Test.YtbemmjejgklieaaRefPower
import Derived.Test.YtbemmjejgklieaaLaw08
import Derived.StillTailTactics
import Derived.Test.YtbemmjejgklieaaOpen
set_option linter.unusedVariables false
set_option linter.unusedSimpArgs false
namespace Go.Proofs.Ytbemmjejgklieaa
open Go.RowKit

/-- A slice of acts (kind, number, done), as it lies in memory. -/
def Acts08 (w : World) (A : Option Addr) (n c : Nat) : Prop :=
  n ≤ c ∧ ∀ k, k < n → ∃ b off kind num done, A = some ⟨b, off, none⟩ ∧ w.cell? ⟨b, off + k * 3, none⟩ = some (.int .i64 kind) ∧ w.cell? ⟨b, off + k * 3 + 1, none⟩ = some (.int .i64 num) ∧
    w.cell? ⟨b, off + k * 3 + 2, none⟩ = some (.bool done) ∧ -9223372036854775808 ≤ num ∧ num ≤ 9223372036854775807

set_option maxHeartbeats 400000 in
theorem does_up (ga : Nat) (x : Int) (w : World) (h : Blk w ga 3 #[.int .i64 x]) (h0 : 0 ≤ x) (h1 : x ≤ 100000) :
    Calls Try.prog 19 #[.pointer (some ⟨ga, 0, none⟩)] w fun e w' => e = .returned (.tuple #[]) ∧ Blk w' ga 3 #[.int .i64 (x + 1)] ∧ Ext (One ga) w w' := by
  have c0 : w.cell? ⟨ga, 0, none⟩ = some _ := Blk.cell h 0
  have z0 := Blk.frozen h 0
  have HA : Blk (w.setCell ⟨ga, 0, none⟩ (.int .i64 (x + 1))) ga 3 #[.int .i64 (x + 1)] := Blk.set_ h 0 _
  clear h
  go_enter Try.func19, Try.ntmps19
  go_wp2
  go_end0
  exact ⟨rfl, HA, ext_set _ _ _ _⟩

set_option maxRecDepth 100000 in
set_option maxHeartbeats 4000000 in
theorem does08_any (A : Option Addr) (len cap : Nat) (w : World) (hl : Acts08 w A len cap) :
    Calls Try.prog 3 #[.slice A len cap] w fun e w' => e = .returned (.bool true) ∧ Ext No w w' := by
  by_cases hn : 200 < len
  · clear hl
    go_enter Try.func3, Try.ntmps3
    go_wp2_with (go_at_call 14; refine (works08 _).mono ?_; rintro e w3 ⟨rfl, hx3⟩)
    go_ret
    exact ⟨rfl, hx3⟩
  · have HL := Lib.hid hl
    clear hl
    go_enter Try.func3, Try.ntmps3
    go_wp2_with (first
      | (go_at_call 15; refine (pNew_any _).mono ?_; rintro e w' ⟨rfl, rfl⟩)
      | (go_at_call 16; refine (rNew_any _).mono ?_; rintro e w1 ⟨rfl, hx1⟩))
    have hs1 := hx1.size
    simp only [World.size_alloc] at hs1
    have hwl : w.heap.size < w1.heap.size := by omega
    have hpw : IsPw (w1.alloc (.cells (rpc 0 (-1) false false) 27)) w.heap.size (-1) false false 0 := Blk.alloc (Blk.ext_no (Blk.new _ _ _) hx1) _
    have hrp : Blk (w1.alloc (.cells (rpc 0 (-1) false false) 27)) w1.heap.size 27 (rpc 0 (-1) false false) := Blk.new _ _ _
    have hx0 : Ext No w (w1.alloc (.cells (rpc 0 (-1) false false) 27)) := (((Ext.refl No w).alloc _).trans hx1).alloc _
    have Hx := Lib.hid (And.intro hpw (And.intro hrp hx0))
    clear hx1 hs1 hpw hrp hx0
    go_loopw [5] (fun i wr => ∃ k : Nat, k ≤ len ∧ i = .int .i64 k ∧ ∃ f d dn s, -1 ≤ f ∧ f ≤ 9223372036854775807 ∧ IsPw wr w.heap.size f d dn s ∧ Blk wr w1.heap.size 27 (rpc s f d dn) ∧ Ext No w wr) (fun i _ => len - (intOf i).toNat)
    case atStart => exact ⟨0, by omega, rfl, -1, false, false, 0, by omega, by omega, Hx.out.1, Hx.out.2.1, Hx.out.2.2⟩
    case round =>
      obtain ⟨k, hk, rfl, f, d, dn, s, hf1, hf2, hp, hr, hx⟩ := hrel
      clear Hx
      by_cases hlt : k < len
      · obtain ⟨hnc, hel⟩ := HL.out
        obtain ⟨b, off, kind, num, done, rfl, hc0, hc1, hc2, hb1, hb2⟩ := hel k hlt
        have hbl : b < w.heap.size := World.block_lt_of_cell? w _ hc0
        rw [← hx.cell (p := ⟨b, off + k * 3, none⟩) hbl (fun h => h)] at hc0
        rw [← hx.cell (p := ⟨b, off + k * 3 + 1, none⟩) hbl (fun h => h)] at hc1
        rw [← hx.cell (p := ⟨b, off + k * 3 + 2, none⟩) hbl (fun h => h)] at hc2
        clear hel HL
        have Rc := Blk.c4 hr
        have hgl := hr.lt
        have hpl := Blk.lt hp
        by_cases k0 : kind = 0
        · subst k0
          have HR := Lib.hid hr
          have HP := Lib.hid hp
          clear hr hp
          go_wp2_with (first
            | (go_at_call 17; refine (rStep_any s f d dn _ hf1 hf2).mono ?_; rintro e w2 ⟨rfl, hx2⟩; clear Rc; have R2 := Blk.c4 (Blk.ext_no (Blk.alloc HR.out _) hx2); have N2 := Blk.c1 (Blk.ext_no (Blk.new _ _ _) hx2)))
          have hP2 : IsPw w2 w.heap.size f d dn s := Blk.ext_no (Blk.alloc HP.out _) hx2
          have hR2 := Blk.ext_no (Blk.alloc HR.out _) hx2
          have hN2 : Blk w2 wr.heap.size 3 #[.int .i64 0] := Blk.ext_no (Blk.new _ _ _) hx2
          have e1 : w.heap.size ≠ w1.heap.size := by omega
          have e2 : wr.heap.size ≠ w1.heap.size := by omega
          have e3 : wr.heap.size ≠ w.heap.size := by omega
          refine (pStep_any w.heap.size 19 #[.pointer (some ⟨wr.heap.size, 0, none⟩)] f s d dn _ (fun wa wb => Blk wb wr.heap.size 3 #[.int .i64 (if pdone f d dn = true then 1 else 0)] ∧ IsPw wb w.heap.size (pf' f dn) d (pdn' f dn) (ps' s dn) ∧ Ext (Two w.heap.size wr.heap.size) wa wb) (enters_does _) ?hP hf1 hf2 ?hdo ?hno).mono ?_
          case hP =>
            refine Blk.alloc (Blk.far (Blk.far (Blk.far (Blk.far hP2 ?_ _) ?_ _) ?_ _) ?_ _) _
            all_goals exact e1
          case hdo =>
            intro hd w3 h3 hx3
            have hN3 : Blk w3 wr.heap.size 3 #[.int .i64 0] := by
              refine Blk.ext ?_ hx3 e3
              refine Blk.alloc (Blk.far (Blk.far (Blk.far (Blk.far hN2 ?_ _) ?_ _) ?_ _) ?_ _) _
              all_goals exact e2
            refine (does_up _ 0 w3 hN3 (by omega) (by omega)).mono ?_
            rintro e w4 ⟨rfl, hb, hx4⟩
            have h4 : IsPw w4 w.heap.size _ _ _ _ := Blk.ext h3 hx4 (fun h => e3 h.symm)
            exact ⟨rfl, ⟨by rw [if_pos hd]; exact hb, h4, (hx3.mono fun _ _ h => .inl h).trans (hx4.mono fun _ _ h => .inr h)⟩, h4.c2⟩
          case hno =>
            intro hd w3 h3 hx3
            refine ⟨?_, h3, hx3.mono fun _ _ h => .inl h⟩
            rw [if_neg (by rw [hd]; exact Bool.false_ne_true)]
            refine Blk.ext ?_ hx3 e3
            refine Blk.alloc (Blk.far (Blk.far (Blk.far (Blk.far hN2 ?_ _) ?_ _) ?_ _) ?_ _) _
            all_goals exact e2
          rintro e w4 ⟨rfl, hN4, hP4, hx4⟩
          have hR4 : Blk w4 w1.heap.size 27 (rpc (ps' s dn) (pf' f dn) d (pdn' f dn)) := by
            refine Blk.ext ?_ hx4 ?_
            · exact Blk.alloc (Blk.set_ (Blk.set_ (Blk.set_ (Blk.set_ hR2 0 _) 1 _) 2 _) 3 _) _
            · rintro (h | h)
              · exact e1 h.symm
              · exact e2 h.symm
          have hX4 : Ext No w w4 := by
            refine Ext.transS ?_ hx4 ?_
            · exact ((((((hx.alloc _).trans hx2).setCell (by simp; omega) _).setCell (by simp; omega) _).setCell (by simp; omega) _).setCell (by simp; omega) _).alloc _
            · rintro i hi (h | h) <;> (exfalso; omega)
          have hq1 := pf'_lo (dn := dn) hf1
          have hq2 := pf'_hi (dn := dn) hf2
          clear HR HP R2 N2 hP2 hR2 hN2 hx4 hx2
          generalize pf' f dn = f2 at *
          generalize pdn' f dn = dn2 at *
          generalize ps' s dn = s2 at *
          generalize pdone f d dn = dd at *
          generalize pok f dn = ok2 at *
          have N4 := Blk.c1 hN4
          have R4 := Blk.c4 hR4
          have HH := Lib.hid (And.intro hP4 (And.intro hR4 hX4))
          clear hN4 hR4 hP4 hX4
          cases dd
          all_goals
            go_wp2_with fail
            go_quiet ((first | (go_at_call 24; exact quiet_left (pDown_any _ _ _ _ _ _ (Blk.drewN HH.out.1 _))) | (go_at_call 25; exact quiet_left (pSteps_any _ _ _ _ _ _ (Blk.drewN HH.out.1 _)))))
            go_wp2
            go_roundw
            case rel => exact ⟨k + 1, by omega, by go_num, f2, d, dn2, s2, hq1, hq2, Blk.drewN HH.out.1 _, Blk.drewN HH.out.2.1 _, HH.out.2.2.drewN _⟩
            case measure => simp [intOf]; omega
        · by_cases k1 : kind = 1
          · subst k1
            have HH := Lib.hid (And.intro hp (And.intro hr hx))
            have hb0 : b ≠ w.heap.size := by omega
            clear hp hr
            go_wp2_with fail
            go_region_held3 (fun w' => w'.cell? ⟨b, off + k * 3 + 1, none⟩ = some (.int .i64 num) ∧ w'.cell? ⟨b, off + k * 3 + 2, none⟩ = some (.bool done))
              (first | go_keep | exact ⟨(hx2.cell (p := ⟨b, off + k * 3 + 1, none⟩) (by simp; omega) hb0).trans hc1, (hx2.cell (p := ⟨b, off + k * 3 + 2, none⟩) (by simp; omega) hb0).trans hc2⟩)
              (first | (go_at_call 20; refine (pFuse_any _ num f s d dn done _ (Blk.drew HH.out.1)).mono ?_; rintro e w2 ⟨rfl, hp2, hx2⟩))
            have hpr : w1.heap.size ≠ w.heap.size := by omega
            have hP2 : IsPw w2 w.heap.size (max num (-1)) done dn s := hp2
            have hR2 : Blk w2 w1.heap.size 27 (rpc s f d dn) := Blk.ext (Blk.drew HH.out.2.1) hx2 hpr
            have hX2 : Ext No w w2 := (HH.out.2.2.drew).transS hx2 (fun i hi h => by have h : i = w.heap.size := h; omega)
            have R2 := Blk.c4 hR2
            have g1 := (hx2.cell (p := ⟨b, off + k * 3 + 1, none⟩) (by simp; omega) hb0).trans hc1
            have g2 := (hx2.cell (p := ⟨b, off + k * 3 + 2, none⟩) (by simp; omega) hb0).trans hc2
            have hbl2 : b < w2.heap.size := by have := hX2.size; omega
            have HK := Lib.hid (And.intro hP2 (And.intro hR2 hX2))
            clear HH hp2 hx2 hP2 hR2 hX2 Rc
            go_wp2_with fail
            go_still_tail 11, (by kernel_rfl)
            change wpList _ _ _ _ _ w2.drew
            have hP2 : IsPw w2.drew w.heap.size (max num (-1)) done dn s := Blk.drew HK.out.1
            have hR2 : Blk w2.drew w1.heap.size 27 (rpc s f d dn) := Blk.drew HK.out.2.1
            have hX2 : Ext No w w2.drew := HK.out.2.2.drew
            clear HK R2 g1 g2 hbl2
            generalize w2.drew = w4 at *
            go_wp2_with (first
              | (go_at_call 21; refine (rFuse_any s f num d dn done _).mono ?_; rintro e w3 ⟨rfl, hx3⟩; have R3 := Blk.c4 (Blk.ext_no hR2 hx3)))
            have e1 : w.heap.size ≠ w1.heap.size := by omega
            have hP3 : IsPw w3 w.heap.size (max num (-1)) done dn s := Blk.ext_no hP2 hx3
            have hR3 := Blk.ext_no hR2 hx3
            have hX3 : Ext No w w3 := hX2.trans hx3
            have hP4 := Blk.far (Blk.far (Blk.far (Blk.far hP3 (p := ⟨w1.heap.size, 0, none⟩) e1 (.int .i64 s)) (p := ⟨w1.heap.size, 1, none⟩) e1 (.int .i64 (max num (-1)))) (p := ⟨w1.heap.size, 2, none⟩) e1 (.bool done)) (p := ⟨w1.heap.size, 3, none⟩) e1 (.bool dn)
            have hR4 := Blk.set_ (Blk.set_ (Blk.set_ (Blk.set_ hR3 0 (.int .i64 s)) 1 (.int .i64 (max num (-1)))) 2 (.bool done)) 3 (.bool dn)
            have hX4 : Ext No w _ := (((hX3.setCell (p := ⟨w1.heap.size, 0, none⟩) (by simp; omega) (.int .i64 s)).setCell (p := ⟨w1.heap.size, 1, none⟩) (by simp; omega) (.int .i64 (max num (-1)))).setCell (p := ⟨w1.heap.size, 2, none⟩) (by simp; omega) (.bool done)).setCell (p := ⟨w1.heap.size, 3, none⟩) (by simp; omega) (.bool dn)
            generalize (((w3.setCell ⟨w1.heap.size, 0, none⟩ (.int .i64 s)).setCell ⟨w1.heap.size, 1, none⟩ (.int .i64 (max num (-1)))).setCell ⟨w1.heap.size, 2, none⟩ (.bool done)).setCell ⟨w1.heap.size, 3, none⟩ (.bool dn) = w5 at *
            have hm1 : -1 ≤ max num (-1) := by omega
            have hm2 : max num (-1) ≤ 9223372036854775807 := by omega
            have HH : Hid (IsPw w5 w.heap.size (max num (-1)) done dn s ∧ Blk w5 w1.heap.size 27 (rpc s (max num (-1)) done dn) ∧ Ext No w w5) := Lib.hid ⟨hP4, hR4, hX4⟩
            have R4 := Blk.c4 HH.out.2.1
            clear hx3 R3 hP3 hR3 hX3 hP4 hR4 hX4 hP2 hR2 hX2
            generalize max num (-1) = num2 at *
            go_quiet ((first | (go_at_call 24; exact quiet_left (pDown_any _ _ _ _ _ _ (Blk.drewN HH.out.1 _))) | (go_at_call 25; exact quiet_left (pSteps_any _ _ _ _ _ _ (Blk.drewN HH.out.1 _)))))
            go_wp2
            go_roundw
            case rel => exact ⟨k + 1, by omega, by go_num, num2, done, dn, s, hm1, hm2, Blk.drewN HH.out.1 _, Blk.drewN HH.out.2.1 _, HH.out.2.2.drewN _⟩
            case measure => simp [intOf]; omega
          · by_cases k2 : kind = 2
            · subst k2
              have HP := Lib.hid hp
              have HR := Lib.hid hr
              clear hp hr
              have hpr : w1.heap.size ≠ w.heap.size := by omega
              go_wp2_with (first
                | (go_at_call 22; refine (pBack_any _ _ _ _ _ _ HP.out).mono ?_; rintro e w2 ⟨rfl, hp2, hx2⟩; clear Rc; have R2 := Blk.c4 (Blk.ext HR.out hx2 hpr))
                | (go_at_call 23; refine (rBack_any s f d dn _).mono ?_; rintro e w3 ⟨rfl, hx3⟩; clear R2; have R3 := Blk.c4 (Blk.ext_no (Blk.ext HR.out hx2 hpr) hx3)))
              have hP3 : IsPw w3 w.heap.size (-1) false false s := Blk.ext_no hp2 hx3
              have hR3 := Blk.ext_no (Blk.ext HR.out hx2 hpr) hx3
              have hX3 : Ext No w w3 := (hx.transS hx2 (fun i hi h => by have h : i = w.heap.size := h; omega)).trans hx3
              have hP4 := Blk.far (Blk.far (Blk.far (Blk.far hP3 (p := ⟨w1.heap.size, 0, none⟩) hpr.symm (.int .i64 s)) (p := ⟨w1.heap.size, 1, none⟩) hpr.symm (.int .i64 (-1))) (p := ⟨w1.heap.size, 2, none⟩) hpr.symm (.bool false)) (p := ⟨w1.heap.size, 3, none⟩) hpr.symm (.bool false)
              have hR4 := Blk.set_ (Blk.set_ (Blk.set_ (Blk.set_ hR3 0 (.int .i64 s)) 1 (.int .i64 (-1))) 2 (.bool false)) 3 (.bool false)
              have hX4 : Ext No w _ := (((hX3.setCell (p := ⟨w1.heap.size, 0, none⟩) (by simp; omega) (.int .i64 s)).setCell (p := ⟨w1.heap.size, 1, none⟩) (by simp; omega) (.int .i64 (-1))).setCell (p := ⟨w1.heap.size, 2, none⟩) (by simp; omega) (.bool false)).setCell (p := ⟨w1.heap.size, 3, none⟩) (by simp; omega) (.bool false)
              generalize (((w3.setCell ⟨w1.heap.size, 0, none⟩ (.int .i64 s)).setCell ⟨w1.heap.size, 1, none⟩ (.int .i64 (-1))).setCell ⟨w1.heap.size, 2, none⟩ (.bool false)).setCell ⟨w1.heap.size, 3, none⟩ (.bool false) = w4 at *
              have HH : Hid (IsPw w4 w.heap.size (-1) false false s ∧ Blk w4 w1.heap.size 27 (rpc s (-1) false false) ∧ Ext No w w4) := Lib.hid ⟨hP4, hR4, hX4⟩
              have R4 := Blk.c4 HH.out.2.1
              clear HR HP hp2 hx2 hx3 R3 hP3 hR3 hX3 hP4 hR4 hX4
              go_quiet ((first | (go_at_call 24; exact quiet_left (pDown_any _ _ _ _ _ _ (Blk.drewN HH.out.1 _))) | (go_at_call 25; exact quiet_left (pSteps_any _ _ _ _ _ _ (Blk.drewN HH.out.1 _)))))
              go_wp2
              go_roundw
              case rel => exact ⟨k + 1, by omega, by go_num, -1, false, false, s, by omega, by omega, Blk.drewN HH.out.1 _, Blk.drewN HH.out.2.1 _, HH.out.2.2.drewN _⟩
              case measure => simp [intOf]; omega
            · have f0 : (kind == 0) = false := by simpa using k0
              have f1 : (kind == 1) = false := by simpa using k1
              have f2 : (kind == 2) = false := by simpa using k2
              have HH := Lib.hid (And.intro hp (And.intro hr hx))
              clear hp hr k0 k1 k2
              go_wp2_with fail
              go_quiet ((first | (go_at_call 24; exact quiet_left (pDown_any _ _ _ _ _ _ (Blk.drewN HH.out.1 _))) | (go_at_call 25; exact quiet_left (pSteps_any _ _ _ _ _ _ (Blk.drewN HH.out.1 _)))))
              go_wp2
              go_roundw
              case rel => exact ⟨k + 1, by omega, by go_num, f, d, dn, s, hf1, hf2, Blk.drewN HH.out.1 _, Blk.drewN HH.out.2.1 _, HH.out.2.2.drewN _⟩
              case measure => simp [intOf]; omega
      · clear HL
        go_wp2_with (go_at_call 14; refine (works08 _).mono ?_; rintro e w3 ⟨rfl, hx3⟩)
        go_ret
        exact ⟨rfl, hx.trans hx3⟩

open Go.ChangeShapes Go.WideShapes in
set_option maxRecDepth 100000 in
theorem acts08_of {W : World} {A : Option Addr} {len cap : Nat} (h : Rd Try.prog W 22 [.slice A len cap]) : Acts08 W A len cap := by
  have hC : Try.prog.cellsOf 30 = 3 := by kernel_rfl
  obtain ⟨A', len', cap', hcs, hl, _, _, b, off, hi⟩ := Rd.slice Try.underlying22 (by rw [hC]; omega) h
  simp only [List.cons.injEq, Value.slice.injEq, and_true] at hcs
  obtain ⟨rfl, rfl, rfl⟩ := hcs
  refine ⟨hl, fun k hk => ?_⟩
  obtain ⟨rfl, cs', hcl, hcell, hrd⟩ := hi k hk
  rw [hC] at hcl hcell
  obtain ⟨_, hf⟩ := Rd.struct Try.underlying30 hrd
  match cs', hcl with
  | [c0, c1, c2], _ =>
    obtain ⟨kind, h0, _⟩ := Rd.int Try.underlying3 (hf 0 _ rfl)
    obtain ⟨num, h1, w1⟩ := Rd.int Try.underlying3 (hf 1 _ rfl)
    obtain ⟨done, h2⟩ := Rd.bool Try.underlying4 (hf 2 _ rfl)
    have e0 : c0 = .int .i64 kind := by
      have : [c0] = [Value.int .i64 kind] := h0
      simpa using this
    have e1 : c1 = .int .i64 num := by
      have : [c1] = [Value.int .i64 num] := h1
      simpa using this
    have e2 : c2 = .bool done := by
      have : [c2] = [Value.bool done] := h2
      simpa using this
    subst e0 e1 e2
    have hb := bounds_i64 w1
    exact ⟨b, off, kind, num, done, rfl, hcell 0 _ rfl, hcell 1 _ rfl, hcell 2 _ rfl, hb.1, hb.2⟩

set_option maxRecDepth 100000 in
theorem walk_PowerDoes (W : World) (v : Value) (u : Rd Try.prog W 22 v.cells.toList) {r : Reach} {base : Nat} (ok : Value.okWide Try.prog W r base 22 v) :
    Calls Try.prog 3 #[v] W fun e W' => e = .returned (.bool true) ∧ Ext No W W' := by
  obtain ⟨A, len, cap, rfl⟩ := Go.WideShapes.okWide_slice Try.underlying22 ok
  exact does08_any A len cap W (acts08_of u)

set_option maxRecDepth 100000 in
theorem walk_PowerOnce (W : World) (v0 v1 v2 : Value) (u0 : Rd Try.prog W 5 v0.cells.toList) (u1 : Rd Try.prog W 4 v1.cells.toList) (u2 : Rd Try.prog W 5 v2.cells.toList)
    {r : Reach} {base : Nat} (ok0 : Value.okWide Try.prog W r base 5 v0) (ok1 : Value.okWide Try.prog W r base 4 v1) (ok2 : Value.okWide Try.prog W r base 5 v2) :
    Calls Try.prog 4 #[v0, v1, v2] W fun e W' => e = .returned (.bool true) ∧ Ext No W W' := by
  obtain ⟨n, rfl, hn⟩ := Rd.int_val Try.underlying5 ok0 u0
  obtain ⟨d, rfl⟩ := Rd.bool_val Try.underlying4 ok1 u1
  obtain ⟨m, rfl, hm⟩ := Rd.int_val Try.underlying5 ok2 u2
  have h1 := bounds_u8 hn
  have h2 := bounds_u8 hm
  exact once_any n m d W h1.1 h1.2 h2.1 h2.2
end Go.Proofs.Ytbemmjejgklieaa
