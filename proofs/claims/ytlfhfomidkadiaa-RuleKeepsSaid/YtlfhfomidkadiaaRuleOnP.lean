/- Law 26: what the walks of the laws go by. -/
import Derived.Test.YtlfhfomidkadiaaRuleWorks
import Derived.Test.YtlfhfomidkadiaaOpenVers
set_option linter.unusedVariables false
set_option linter.unusedSimpArgs false
namespace Go.Proofs.Ytlfhfomidkadiaa
open Go.RowKit Go.Deep

theorem lRight_t (lv : Value) (ls : List Vr) (B : Nat) (w : World) (hl : Vs w Any B lv ls) (hR : Right ls) : Calls Try.prog 24 #[lv] w fun e w' => e = .returned (.bool true) ∧ Ext No w w' :=
  (lRight lv ls B w hl).mono (by rintro e w' ⟨q, rfl, hq, hx⟩; rw [hq.2 hR]; exact ⟨rfl, hx⟩)
theorem lRight_f (lv : Value) (ls : List Vr) (B : Nat) (w : World) (hl : Vs w Any B lv ls) (hR : ¬ Right ls) : Calls Try.prog 24 #[lv] w fun e w' => e = .returned (.bool false) ∧ Ext No w w' :=
  (lRight lv ls B w hl).mono (by
    rintro e w' ⟨q, rfl, hq, hx⟩
    cases q with
    | true => exact absurd (hq.1 rfl) hR
    | false => exact ⟨rfl, hx⟩)
theorem ok_seqV (w : World) (F : Nat → Prop) {s : Int} (hs : -9223372036854775808 ≤ s ∧ s ≤ 9223372036854775807) : Vr.Ok w F (seqV s) :=
  ⟨Bs.nil w F, Bs.nil w F, Bs.nil w F, Bs.nil w F, hs, by simp [seqV, Vr.zero]⟩
theorem onBehind (lv : Value) (ls : List Vr) (B : Nat) (w : World) (hl : Vs w Any B lv ls) (hR : Right ls) : Calls Try.prog 37 #[lv] w fun e w' => ∃ s, e = .returned (.agg (seqV s).cs.toArray) ∧ ((-9223372036854775808 ≤ s ∧ s ≤ 9223372036854775807) ∧ (1 ≤ s → ∀ x ∈ ls, x.seq < s)) ∧ Ext No w w' :=
  lBehind lv ls B w hl (by have := hR.len; omega) (fun x hx => by have := hR.each x hx; unfold okV at this; simp at this; omega) hR.fall
theorem onPut (lv : Value) (ls : List Vr) (now : Int) (B : Nat) (w : World) (hl : Vs w Any B lv ls) (hll : ls.length ≤ 1000) (hB : B ≤ w.heap.size) : Calls Try.prog 38 #[lv, .int .i64 1, .int .i64 now] w fun e w' => ∃ gv, e = .returned (.tuple #[.agg #[gv, .bool true, .bool false, .bool false], .int .i64 0]) ∧ Vs w' Any B gv [] ∧ Ext No w w' :=
  (rPut_any lv ls 1 now B w hl (by omega) hB).mono (by rintro e w' ⟨v, rfl, ⟨gv, rfl, h⟩, hx⟩; exact ⟨gv, rfl, h, hx⟩)
theorem onDel (lv : Value) (ls : List Vr) (now : Int) (B : Nat) (w : World) (hl : Vs w Any B lv ls) (hll : ls.length ≤ 1000) (hB : B ≤ w.heap.size) : Calls Try.prog 39 #[lv, .int .i64 1, .int .i64 now] w fun e w' => ∃ gv, e = .returned (.tuple #[.agg #[gv, .bool true, .bool false, .bool true], .int .i64 0]) ∧ Vs w' Any B gv [] ∧ Ext No w w' :=
  (rDelete_any lv ls 1 now B w hl (by omega) hB).mono (by rintro e w' ⟨v, rfl, ⟨gv, rfl, h⟩, hx⟩; exact ⟨gv, rfl, h, hx⟩)
theorem onApply (lv gv : Value) (ls : List Vr) (nl mk : Bool) (v : Vr) (B : Nat) (w : World) (hl : Vs w Any B lv ls) (hll : ls.length ≤ 1000) (hg : Vs w Any B gv []) (hv : Vr.Ok w (fun b => b < B) v) (hB : B ≤ w.heap.size) :
    Calls Try.prog 40 #[lv, .agg #[gv, .bool true, .bool nl, .bool mk], .agg v.cs.toArray] w fun e w' => ∃ b c, e = .returned (.slice (some ⟨b, 0, none⟩) (ls.length + 1) c) ∧ (Vs w' Any B (.slice (some ⟨b, 0, none⟩) (ls.length + 1) c) (aheadV v nl mk :: ls) ∧ ls.length + 1 ≤ c) ∧ Ext No w w' :=
  (rApply_any lv _ ls ⟨[], true, nl, mk⟩ v B w hl hll ⟨gv, rfl, hg⟩ (by simp) hv hB).mono (by
    rintro e w' ⟨ov, rfl, ho, hx⟩
    have ha : appP ls ⟨[], true, nl, mk⟩ v = aheadV v nl mk :: ls := by
      unfold appP
      rw [filter_none _ _ rfl]
      rfl
    rw [ha] at ho
    obtain ⟨⟨_, ⟨rfl, h0⟩ | ⟨g, cap, cur, rfl, _, _, hc, _⟩⟩, _⟩ := id ho
    · simp at h0
    · exact ⟨g, cap, rfl, ⟨ho.vs, hc⟩, hx⟩)
theorem onThere (mv : Value) (x : Vr) (ls : List Vr) (B : Nat) (w : World) (h : Vs w Any B mv (x :: ls)) (hll : ls.length ≤ 1000) : Calls Try.prog 29 #[mv] w fun e w' => e = .returned (.tuple #[.agg x.cs.toArray, .bool (!x.mrk)]) ∧ Ext No w w' :=
  (rThere_any mv (x :: ls) B w h (by simp; omega)).mono (by
    rintro e w' ⟨rfl, hx⟩
    have e1 : gotV (x :: ls) (-1) = x := by simp [gotV, pickV, fnd]
    have e2 : isV (x :: ls) (-1) = true := by simp [isV, pickV, fnd]
    rw [e1, e2]
    exact ⟨by rw [Bool.true_and], hx⟩)
/-- All but the first. -/
theorem Vs.tail {w : World} {F : Nat → Prop} {B b c : Nat} {x : Vr} {ls : List Vr} (h : Vs w F B (.slice (some ⟨b, 0, none⟩) (ls.length + 1) c) (x :: ls)) (A : Option Addr) (hA : 0 < ls.length → A = some ⟨b, 11, none⟩) : Vs w F B (.slice A ls.length (c - 1)) ls := by
  obtain ⟨⟨h1, A', c', hv, hc, hm, hn⟩, hok⟩ := h
  injection hv with hv1 hv2 hv3
  subst hv3
  rw [List.length_cons] at hc hn
  refine ⟨⟨by rw [vcs_length], A, c - 1, rfl, by omega, by omega, fun h0 => ?_⟩, fun y hy => hok y (List.mem_cons_of_mem _ hy)⟩
  obtain ⟨b', off, e, hF, hcell⟩ := hn (by omega)
  rw [← hv1] at e
  injection e with e
  injection e with e1 e2 e3
  subst e1 e2
  refine ⟨b, 11, hA h0, hF, fun j u hu => ?_⟩
  have := hcell (11 + j) u (by
    have e : vcs (x :: ls) = x.cs ++ vcs ls := by simp [vcs]
    rw [e, List.getElem?_append_right (by rw [Vr.cs_length]; omega), Vr.cs_length, show 11 + j - 11 = j by omega]
    exact hu)
  rw [Nat.zero_add] at this
  exact this
theorem Vs.tail1 {w : World} {F : Nat → Prop} {B b c : Nat} {x : Vr} {ls : List Vr} (h : Vs w F B (.slice (some ⟨b, 0, none⟩) (ls.length + 1) c) (x :: ls)) (h1 : c = 1) : Vs w F B (.slice (some ⟨b, 0, none⟩) ls.length 0) ls := by
  subst h1
  obtain ⟨⟨_, A', c', hv, hc, hm, hn⟩, hok⟩ := id h
  injection hv with hv1 hv2 hv3
  subst hv3
  rw [List.length_cons] at hc
  exact h.tail _ (fun h0 => absurd hc (by omega))
/-- A slice of versions that came in, and the rest. -/
theorem vers_val {W : World} {v : Value} {r : Reach} {base : Nat} (u : Rd Try.prog W 50 v.cells.toList) (ok : Value.okWide Try.prog W r base 50 v) : ∃ ls, Vs W Any W.heap.size v ls := by
  obtain ⟨Aa, na, ca, rfl⟩ := Go.WideShapes.okWide_slice Try.underlying50 ok
  obtain ⟨A1, c1, ls, e1, h1⟩ := vers_of u
  have e1 : [Value.slice Aa na ca] = [.slice A1 ls.length c1] := e1
  injection e1 with e1
  rw [e1]
  exact ⟨ls, h1⟩
end Go.Proofs.Ytlfhfomidkadiaa
