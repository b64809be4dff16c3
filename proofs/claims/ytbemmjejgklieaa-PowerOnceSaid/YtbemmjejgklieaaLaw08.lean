/- The law PowerOnce: for every n, done and more the call returns true, and its arguments read as before. -/
import Derived.Test.YtbemmjejgklieaaPower
set_option linter.unusedVariables false
set_option linter.unusedSimpArgs false
namespace Go.Proofs.Ytbemmjejgklieaa
open Go.RowKit

set_option maxRecDepth 100000 in
set_option maxHeartbeats 1000000 in
theorem works08 (w : World) : Calls Try.prog 14 #[] w fun e' w' => e' = .returned (.bool true) ∧ Ext No w w' := by
  go_enter Try.func14, Try.ntmps14
  go_wp2
  repeat (go_end0; go_wp2)
  go_ret
  exact ⟨rfl, ((Ext.refl No w).alloc _).alloc _⟩

theorem enters_once (caps : Array Value) : ∀ W : World, (callFunc 26 caps).run Try.prog W = .ok (.enter 26 caps) W := fun W => by kernel_rfl
theorem enters_does (caps : Array Value) : ∀ W : World, (callFunc 19 caps).run Try.prog W = .ok (.enter 19 caps) W := fun W => by kernel_rfl

set_option maxHeartbeats 400000 in
theorem once_up (ga : Nat) (x : Int) (w : World) (h : Blk w ga 3 #[.int .i64 x]) (h0 : 0 ≤ x) (h1 : x ≤ 100000) :
    Calls Try.prog 26 #[ptr ga] w fun e w' => e = .returned (.tuple #[]) ∧ Blk w' ga 3 #[.int .i64 (x + 1)] ∧ Ext (One ga) w w' := by
  have c0 : w.cell? ⟨ga, 0, none⟩ = some _ := Blk.cell h 0
  have z0 := Blk.frozen h 0
  have HA : Blk (w.setCell ⟨ga, 0, none⟩ (.int .i64 (x + 1))) ga 3 #[.int .i64 (x + 1)] := Blk.set_ h 0 _
  clear h
  go_enter Try.func26, Try.ntmps26
  go_wp2
  go_end0
  exact ⟨rfl, HA, ext_set _ _ _ _⟩

/-- The state behind k steps. -/
def OnceAt (n more : Int) (done : Bool) (g ga : Nat) (k : Int) (w : World) : Prop :=
  ∃ s, IsPw w g (if k ≤ n then n - k else -1) done (decide (n < k)) s ∧ Blk w ga 3 #[.int .i64 (if k ≤ n then k else if done then n + 1 else n)]

/-- What a step of the law leaves. -/
def Left (g ga : Nat) (f s : Int) (d dn : Bool) (x : Int) (w w' : World) : Prop :=
  IsPw w' g f d dn s ∧ Blk w' ga 3 #[.int .i64 x] ∧ Ext (Two g ga) w w'

/-- One step at which what is to be done is done. -/
theorem once_do (g ga : Nat) (f s x : Int) (d dn : Bool) (w w1 : World) (hne : ga ≠ g) (hp : IsPw w1 g f d dn s) (ha : Blk w ga 3 #[.int .i64 x]) (he : Ext (One g) w w1) (h0 : 0 ≤ x) (h1 : x ≤ 100000) :
    Calls Try.prog 26 #[ptr ga] w1 fun e w' => e = .returned (.tuple #[]) ∧ Left g ga f s d dn (x + 1) w w' ∧ w'.cell? ⟨g, 2, none⟩ = some (.bool dn) := by
  refine (once_up ga x w1 (ha.ext he hne) h0 h1).mono ?_
  rintro e w' ⟨rfl, hb, hx⟩
  have hp' : IsPw w' g f d dn s := Blk.ext hp hx (fun h => hne h.symm)
  exact ⟨rfl, ⟨hp', hb, (he.mono fun _ _ h => .inl h).trans (hx.mono fun _ _ h => .inr h)⟩, hp'.c2⟩

set_option maxRecDepth 100000 in
set_option maxHeartbeats 1000000 in
theorem once_any (n more : Int) (done : Bool) (w : World) (hn0 : 0 ≤ n) (hn1 : n ≤ 255) (hm0 : 0 ≤ more) (hm1 : more ≤ 255) :
    Calls Try.prog 4 #[.int .u8 n, .bool done, .int .u8 more] w fun e w' => e = .returned (.bool true) ∧ Ext No w w' := by
  go_enter Try.func4, Try.ntmps4
  go_wp2_with (first
    | (go_at_call 15; refine (pNew_any _).mono ?_; rintro e w' ⟨rfl, rfl⟩)
    | (go_at_call 20; refine (pFuse_any _ _ (-1) 0 false false _ _ (Blk.new _ _ _)).mono ?_; rintro e w1 ⟨rfl, hpw, hx⟩))
  have hx0 : Ext No w (w1.alloc (.cells #[.int .i64 0] 3)) := (((Ext.refl No w).alloc _).transS hx (fun i hi h => by have : i = w.heap.size := h; omega)).alloc _
  have hs1 := hx.size
  simp only [World.size_alloc] at hs1
  have hne : w1.heap.size ≠ w.heap.size := by omega
  have hwl : w.heap.size < w1.heap.size := by omega
  have hpw0 : IsPw (w1.alloc (.cells #[.int .i64 0] 3)) w.heap.size (max n (-1)) done false 0 := Blk.alloc hpw _
  rw [show max n (-1) = n by omega] at hpw0
  clear hpw hx hs1
  go_loopw [9] (fun i wr => ∃ k : Int, 0 ≤ k ∧ k ≤ n + more ∧ i = .int .i64 k ∧ Ext No w wr ∧ OnceAt n more done w.heap.size w1.heap.size k wr) (fun i _ => (n + more - intOf i).toNat)
  case atStart =>
    refine ⟨0, by omega, by omega, rfl, hx0, 0, ?_, ?_⟩
    · rw [if_pos hn0, show n - 0 = n by omega, show decide (n < 0) = false by simp; omega]; exact hpw0
    · rw [if_pos hn0]; exact Blk.new _ _ _
  case round =>
    obtain ⟨k, hk0, hk1, rfl, hxr, s, hp, ha⟩ := hrel
    clear hpw0 hx0
    have hga : ∀ i, i < w.heap.size → Two w.heap.size w1.heap.size i → No i := fun i hi h => by
      have h : i = w.heap.size ∨ i = w1.heap.size := h
      omega
    by_cases hlt : k < n + more
    · by_cases hkn : k < n
      · rw [if_pos (by omega : k ≤ n), show decide (n < k) = false by simp; omega] at hp
        rw [if_pos (by omega : k ≤ n)] at ha
        have hc := pStep_done w.heap.size 26 #[ptr w1.heap.size] (n - k) s done wr (Left w.heap.size w1.heap.size (n - k - 1) (wrap64 (s + 1)) done (decide (n - k - 1 < 0)) (k + 1) wr) (enters_once _) hp (by omega) (by omega) (.inl (by omega))
          (fun w2 h2 hx2 => once_do _ _ _ _ _ _ _ _ _ hne h2 ha hx2 hk0 (by omega))
        rw [show decide (0 < n - k) = true by simp; omega, show decide (n - k - 1 < 0) = false by simp; omega] at hc
        have Hc := Lib.hid hc
        clear hc hp ha
        go_wp2_with (first
          | (go_at_call 18; refine Hc.out.mono ?_; rintro e w3 ⟨rfl, hp3, ha3, hx3⟩)
          | (go_at_call 24; refine (pDown_any _ _ _ _ _ _ hp3).mono ?_; rintro e w4 ⟨rfl, rfl⟩))
        go_roundw
        case rel =>
          refine ⟨k + 1, by omega, by omega, rfl, hxr.transS hx3 (fun i hi h => hga i hi h), wrap64 (s + 1), ?_, ?_⟩
          · rw [if_pos (by omega : k + 1 ≤ n), show decide (n < k + 1) = false by simp; omega, show n - (k + 1) = n - k - 1 by omega]; exact hp3
          · rw [if_pos (by omega : k + 1 ≤ n)]; exact ha3
        case measure => simp [intOf]; omega
      · by_cases hke : k = n
        · obtain rfl : n = k := hke.symm
          rw [if_pos (by omega : n ≤ n), show decide (n < n) = false by simp, show n - n = 0 by omega] at hp
          rw [if_pos (by omega : n ≤ n)] at ha
          cases done with
          | true =>
            have hc := pStep_done w.heap.size 26 #[ptr w1.heap.size] 0 s true wr (Left w.heap.size w1.heap.size (0 - 1) (wrap64 (s + 1)) true true (n + 1) wr) (enters_once _) hp (by omega) (by omega) (.inr rfl)
              (fun w2 h2 hx2 => once_do _ _ _ _ _ _ _ _ _ hne h2 ha hx2 hk0 (by omega))
            rw [show decide ((0 : Int) < 0) = false by decide] at hc
            have Hc := Lib.hid hc
            clear hc hp ha
            go_wp2_with (first
              | (go_at_call 18; refine Hc.out.mono ?_; rintro e w3 ⟨rfl, hp3, ha3, hx3⟩)
              | (go_at_call 24; refine (pDown_any _ _ _ _ _ _ hp3).mono ?_; rintro e w4 ⟨rfl, rfl⟩))
            go_roundw
            case rel =>
              refine ⟨n + 1, by omega, by omega, rfl, hxr.transS hx3 (fun i hi h => hga i hi h), wrap64 (s + 1), ?_, ?_⟩
              · rw [if_neg (by omega : ¬ n + 1 ≤ n), show decide (n < n + 1) = true by simp; omega]; exact hp3
              · rw [if_neg (by omega : ¬ n + 1 ≤ n)]; exact ha3
            case measure => simp [intOf]; omega
          | false =>
            have Hc := Lib.hid (pStep_lost w.heap.size s (.func (.func 26) #[] #[ptr w1.heap.size]) wr hp)
            have Ha := Lib.hid ha
            clear hp ha
            go_wp2_with (first
              | (go_at_call 18; refine Hc.out.mono ?_; rintro e w3 ⟨rfl, hp3, hx3⟩)
              | (go_at_call 24; refine (pDown_any _ _ _ _ _ _ hp3).mono ?_; rintro e w4 ⟨rfl, rfl⟩))
            go_roundw
            case rel =>
              refine ⟨n + 1, by omega, by omega, rfl, hxr.transS hx3 (fun i hi h => hga i hi (.inl h)), wrap64 (s + 1), ?_, ?_⟩
              · rw [if_neg (by omega : ¬ n + 1 ≤ n), show decide (n < n + 1) = true by simp; omega]; exact hp3
              · rw [if_neg (by omega : ¬ n + 1 ≤ n)]; exact Blk.ext Ha.out hx3 hne
            case measure => simp [intOf]; omega
        · rw [if_neg (by omega : ¬ k ≤ n), show decide (n < k) = true by simp; omega] at hp
          rw [if_neg (by omega : ¬ k ≤ n)] at ha
          have Hc := Lib.hid (pStep_down w.heap.size (-1) s done (.func (.func 26) #[] #[ptr w1.heap.size]) wr hp)
          have Ha := Lib.hid ha
          have Hp := Lib.hid hp
          clear hp ha
          go_wp2_with (first
            | (go_at_call 18; refine Hc.out.mono ?_; rintro e w3 ⟨rfl, rfl⟩)
            | (go_at_call 24; refine (pDown_any _ _ _ _ _ _ Hp.out).mono ?_; rintro e w4 ⟨rfl, rfl⟩))
          go_roundw
          case rel =>
            refine ⟨k + 1, by omega, by omega, rfl, hxr, s, ?_, ?_⟩
            · rw [if_neg (by omega : ¬ k + 1 ≤ n), show decide (n < k + 1) = true by simp; omega]; exact Hp.out
            · rw [if_neg (by omega : ¬ k + 1 ≤ n)]; exact Ha.out
          case measure => simp [intOf]; omega
    · obtain rfl : k = n + more := by omega
      clear hp
      by_cases hm : 0 < more
      · rw [if_neg (by omega : ¬ n + more ≤ n)] at ha
        cases done with
        | true =>
          have c0 : wr.cell? ⟨w1.heap.size, 0, none⟩ = some (.int .i64 (n + 1)) := Blk.cell ha 0
          clear ha
          go_wp2_with (go_at_call 14; refine (works08 _).mono ?_; rintro e w3 ⟨rfl, hx3⟩)
          go_ret
          exact ⟨rfl, hxr.trans hx3⟩
        | false =>
          have c0 : wr.cell? ⟨w1.heap.size, 0, none⟩ = some (.int .i64 n) := Blk.cell ha 0
          clear ha
          go_wp2_with (go_at_call 14; refine (works08 _).mono ?_; rintro e w3 ⟨rfl, hx3⟩)
          go_ret
          exact ⟨rfl, hxr.trans hx3⟩
      · obtain rfl : more = 0 := by omega
        rw [if_pos (by omega : n + 0 ≤ n)] at ha
        have c0 : wr.cell? ⟨w1.heap.size, 0, none⟩ = some (.int .i64 (n + 0)) := Blk.cell ha 0
        rw [Int.add_zero] at c0
        clear ha
        go_wp2_with (go_at_call 14; refine (works08 _).mono ?_; rintro e w3 ⟨rfl, hx3⟩)
        all_goals
          go_ret
          exact ⟨rfl, hxr.trans hx3⟩
end Go.Proofs.Ytbemmjejgklieaa
