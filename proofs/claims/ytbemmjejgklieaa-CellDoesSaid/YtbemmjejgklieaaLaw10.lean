/- The laws of chapter 10: light, works; the opening of the acts. -/
import Derived.Test.YtbemmjejgklieaaRefCellW
import Derived.Test.YtbemmjejgklieaaOpen
import Derived.Test.YtbemmjejgklieaaLit
set_option linter.unusedVariables false
set_option linter.unusedSimpArgs false
namespace Go.Proofs.Ytbemmjejgklieaa
open Go.RowKit Go.Deep

/-- A slice of acts (kind, at, bytes, number, done), as it lies in memory. -/
def Acts10 (w : World) (A : Option Addr) (n c : Nat) : Prop :=
  n ≤ c ∧ c ≤ maxLen ∧ ∀ k, k < n → ∃ b off kind at_ Ab lb cb num done, A = some ⟨b, off, none⟩ ∧ w.cell? ⟨b, off + k * 5, none⟩ = some (.int .i64 kind) ∧ w.cell? ⟨b, off + k * 5 + 1, none⟩ = some (.int .i64 at_) ∧
    w.cell? ⟨b, off + k * 5 + 2, none⟩ = some (.slice Ab (List.length lb) cb) ∧ w.cell? ⟨b, off + k * 5 + 3, none⟩ = some (.int .i64 num) ∧ w.cell? ⟨b, off + k * 5 + 4, none⟩ = some (.bool done) ∧
    -9223372036854775808 ≤ num ∧ num ≤ 9223372036854775807 ∧ Bs w (fun b => b < w.heap.size) (.slice Ab (List.length lb) cb) lb

set_option maxRecDepth 100000 in
set_option maxHeartbeats 400000 in
theorem light10_any (A : Option Addr) (len cap : Nat) (w : World) (hl : Acts10 w A len cap) :
    Calls Try.prog 27 #[.slice A len cap] w fun e w' => ∃ r, e = .returned (.bool r) ∧ Ext No w w' := by
  by_cases hn : 40 < len
  · clear hl
    go_enter Try.func27, Try.ntmps27
    go_wp2
    go_ret
    exact ⟨false, rfl, Ext.refl _ _⟩
  · have HL := Lib.hid hl
    clear hl
    go_enter Try.func27, Try.ntmps27
    go_wp2
    go_loopw [3] (fun i wr => ∃ k : Nat, k ≤ len ∧ i = .int .i64 k ∧ ∃ n, wr = w.drewN n) (fun i _ => len - (intOf i).toNat)
    case atStart => exact ⟨0, by omega, rfl, 0, rfl⟩
    case round =>
      obtain ⟨k, hk, rfl, n, rfl⟩ := hrel
      by_cases hlt : k < len
      · obtain ⟨hnc, _, hel⟩ := HL.out
        obtain ⟨b, off, kind, at_, Ab, lb, cb, num, done, rfl, _, _, hc2, _⟩ := hel k hlt
        have hc2 : (w.drewN n).cell? ⟨b, off + k * 5 + 2, none⟩ = some (.slice Ab lb.length cb) := hc2
        clear hel HL
        by_cases h11 : 1100 < lb.length
        · go_wp2
          go_ret
          exact ⟨false, rfl, (Ext.refl _ _).drewN n⟩
        · go_wp2
          go_roundw
          case rel => exact ⟨k + 1, by omega, by go_num, n, rfl⟩
          case measure => simp [intOf]; omega
      · go_wp2
        go_ret
        exact ⟨true, rfl, (Ext.refl _ _).drewN n⟩

/-- A write while nothing burns. -/
theorem cWrite_up (gp gc k : Nat) (L : Nat → List UInt8) (n s : Int) (d : Bool) (v : Value) (l : List UInt8) (w : World) (hk : k < 4) (hv : Bs w (Off2 gp gc) v l) (hll : l.length ≤ 1024) (hc : IsCell w gp gc L n)
    (hp : IsPw w gp (-1) d false s) (hne : gc ≠ gp) :
    Calls Try.prog 30 #[ptr gc, .int .i64 (k : Int), v] w fun e w' => e = .returned (.int .i64 0) ∧
      IsPw w' gp (-1) d false (wrap64 (s + 1)) ∧ IsCell w' gp gc (upd L k l) (wrap64 (n + 1)) ∧ Ext (Two gp gc) w w' := by
  have := cWrite_any gp gc k L n (-1) s d false v l w hk hv hll hc hp (by omega) (by omega) hne
  simpa [okc, pok, pf', pdn', ps', CellDone, pdone] using this
/-- A write at which the power goes. -/
theorem cWrite_cut (gp gc k : Nat) (L : Nat → List UInt8) (n s : Int) (d : Bool) (v : Value) (l : List UInt8) (w : World) (hk : k < 4) (hv : Bs w (Off2 gp gc) v l) (hll : l.length ≤ 1024) (hc : IsCell w gp gc L n)
    (hp : IsPw w gp 0 d false s) (hne : gc ≠ gp) :
    Calls Try.prog 30 #[ptr gc, .int .i64 (k : Int), v] w fun e w' => e = .returned (.int .i64 5) ∧
      IsPw w' gp (-1) d true (wrap64 (s + 1)) ∧ CellDone w' gp gc k L l n d ∧ Ext (Two gp gc) w w' := by
  have := cWrite_any gp gc k L n 0 s d false v l w hk hv hll hc hp (by omega) (by omega) hne
  simpa [okc, pok, pf', pdn', ps', pdone] using this
theorem rSame_true (v1 v2 : Value) (l1 l2 : List UInt8) (w : World) (h1 : Bs w Any v1 l1) (h2 : Bs w Any v2 l2) (h : l1 = l2) :
    Calls Try.prog 32 #[v1, v2] w fun e w' => e = .returned (.bool true) ∧ ∃ n, w' = w.drewN n := by
  have := rSame_any v1 v2 l1 l2 w h1 h2
  rwa [decide_eq_true h] at this
set_option maxRecDepth 100000 in
set_option maxHeartbeats 1000000 in
theorem works10 (w : World) : Calls Try.prog 28 #[] w fun e' w' => e' = .returned (.bool true) ∧ Ext No w w' := by
  have hcv := run_conv_new #[.int .u8 97, .int .u8 98] 2 2
  go_enter Try.func28, Try.ntmps28
  go_wp2_with (first
    | (go_at_call 15; refine (pNew_any _).mono ?_; rintro e w' ⟨rfl, rfl⟩)
    | (go_at_call 29; refine (cNew_any w.heap.size _).mono ?_; rintro e w' ⟨rfl, rfl⟩)
    | (go_at_call 29; refine (cNew_nil _).mono ?_; rintro e w' ⟨rfl, rfl⟩))
  have hx3 : Ext No w _ := (((Ext.refl No w).alloc (.cells (pwc (-1) false false 0) 129)).alloc (.cells #[ptr w.heap.size, .slice none 0 0, .slice none 0 0, .slice none 0 0, .slice none 0 0, .int .i64 0] 132)).strLit #[.int .u8 97, .int .u8 98]
  have hp3 : IsPw (strLit ((w.alloc (.cells (pwc (-1) false false 0) 129)).alloc (.cells #[ptr w.heap.size, .slice none 0 0, .slice none 0 0, .slice none 0 0, .slice none 0 0, .int .i64 0] 132)) #[.int .u8 97, .int .u8 98]) w.heap.size (-1) false false 0 :=
    Blk.ext_no (Blk.new w _ _) ((((Ext.refl No _).alloc _)).strLit _)
  have hc3 : IsCell (strLit ((w.alloc (.cells (pwc (-1) false false 0) 129)).alloc (.cells #[ptr w.heap.size, .slice none 0 0, .slice none 0 0, .slice none 0 0, .slice none 0 0, .int .i64 0] 132)) #[.int .u8 97, .int .u8 98]) w.heap.size (w.heap.size + 1) (fun _ => []) 0 := by
    have := (IsCell.new (w.alloc (.cells (pwc (-1) false false 0) 129)) w.heap.size).ext_no ((Ext.refl No _).strLit #[.int .u8 97, .int .u8 98])
    rw [World.size_alloc] at this
    exact this
  have hb3 : Bs (strLit ((w.alloc (.cells (pwc (-1) false false 0) 129)).alloc (.cells #[ptr w.heap.size, .slice none 0 0, .slice none 0 0, .slice none 0 0, .slice none 0 0, .int .i64 0] 132)) #[.int .u8 97, .int .u8 98]) (Off2 w.heap.size (w.heap.size + 1)) (.slice (some ⟨w.heap.size + 1 + 1, 0, none⟩) 2 2) [97, 98] := by
    refine (bs_strLit ((w.alloc (.cells (pwc (-1) false false 0) 129)).alloc (.cells #[ptr w.heap.size, .slice none 0 0, .slice none 0 0, .slice none 0 0, .slice none 0 0, .int .i64 0] 132)) [97, 98] (by decide) (by simp)).mono fun b hb => ?_
    simp at hb
    constructor <;> omega
  generalize strLit ((w.alloc (.cells (pwc (-1) false false 0) 129)).alloc (.cells #[ptr w.heap.size, .slice none 0 0, .slice none 0 0, .slice none 0 0, .slice none 0 0, .int .i64 0] 132)) #[.int .u8 97, .int .u8 98] = w3 at *
  clear hcv
  refine (cWrite_up w.heap.size (w.heap.size + 1) 1 (fun _ => []) 0 0 false _ [97, 98] w3 (by omega) hb3 (by decide) hc3 hp3 (by omega)).mono ?_
  rintro e w4 ⟨rfl, hp4, hc4, hx4⟩
  have hx5 : Ext No w w4 := hx3.transS hx4 (fun i hi h => by rcases h with h | h <;> (have h : _ = _ := h; omega))
  rw [show wrap64 ((0 : Int) + 1) = 1 by decide +kernel] at hc4
  have HH := Lib.hid (And.intro hp4 (And.intro hc4 hx5))
  clear hp4 hc4 hx4 hp3 hc3 hb3 hx3 hx5
  go_wp2_with fail
  refine (cRead_ok w.heap.size (w.heap.size + 1) (upd (fun _ => []) 1 [97, 98]) _ (-1) _ false 1 w4 HH.out.2.1 HH.out.1 (by omega) (by decide)).mono ?_
  rintro e w5 ⟨r, rfl, ho, hx6⟩
  have hpd : pad (upd (fun _ => []) 1 [97, 98] 1) = 97 :: 98 :: 0 :: List.replicate 1021 0 := by decide +kernel
  rw [hpd] at ho
  obtain ⟨A, c, rfl, hAc, hcm, b, o, hA⟩ := ho.any.slice
  have hln : (97 :: 98 :: 0 :: List.replicate 1021 (0 : UInt8)).length = 1024 := by decide +kernel
  obtain ⟨rfl, _, hb5, hc1⟩ := hA 1 (by omega)
  obtain ⟨_, _, _, hc2⟩ := hA 2 (by omega)
  have hc1' : w5.cell? ⟨b, o + 1, none⟩ = some (.int .u8 98) := hc1
  have hc2' : w5.cell? ⟨b, o + 2, none⟩ = some (.int .u8 0) := hc2
  rw [hln] at hAc
  have HX := Lib.hid (HH.out.2.2.trans hx6)
  have HC := Lib.hid (HH.out.2.1.ext_no hx6)
  rw [hln]
  clear hA hc1 hc2 ho hx6 HH hpd hln
  go_wp2_with (first
    | (go_at_call 30; refine (cWrite_range _ 4 none 0 0 _ (by omega)).mono ?_; rintro e w6 ⟨rfl, hx7⟩; have g1 := (hx7.cell (p := ⟨b, o + 1, none⟩) hb5 (fun h => h)).trans hc1'; have g2 := (hx7.cell (p := ⟨b, o + 2, none⟩) hb5 (fun h => h)).trans hc2'; have HW := Lib.hid hx7; clear hx7 hc1' hc2')
    | (go_at_call 36; refine (cWrites_any w.heap.size _ _ _ _ (HC.out.ext_no HW.out)).mono ?_; rintro e w7 ⟨rfl, rfl⟩))
  go_ret
  exact ⟨rfl, HX.out.trans HW.out⟩
end Go.Proofs.Ytbemmjejgklieaa
