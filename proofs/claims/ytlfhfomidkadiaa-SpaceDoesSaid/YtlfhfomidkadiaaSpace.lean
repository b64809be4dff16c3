/- The blocks that are taken (package space): what its functions answer. -/
import Derived.Test.YtlfhfomidkadiaaMem
set_option linter.unusedVariables false
set_option linter.unusedSimpArgs false
namespace Go.Proofs.Ytlfhfomidkadiaa
open Go.RowKit Go.Deep

abbrev ptr (g : Nat) : Value := .pointer (some ⟨g, 0, none⟩)
/-- A row of Booleans in block b. -/
def Bools (w : World) (b : Nat) (L : List Bool) : Prop := ∃ cur, Blk w b 4 cur ∧ ∀ k, (hk : k < L.length) → cur[k]? = some (.bool L[k])
theorem Bools.ext {S : Nat → Prop} {w w' : World} {b : Nat} {L : List Bool} (h : Bools w b L) (he : Ext S w w') (hb : ¬ S b) : Bools w' b L := let ⟨cur, h1, h2⟩ := h; ⟨cur, h1.ext he hb, h2⟩
theorem Bools.cell {w : World} {b k : Nat} {L : List Bool} (h : Bools w b L) (hk : k < L.length) : w.cell? ⟨b, k, none⟩ = some (.bool L[k]) := let ⟨_, h1, h2⟩ := h; (h1.cell k).trans (h2 k hk)
theorem Bools.frozen {w : World} {b k : Nat} {L : List Bool} (h : Bools w b L) : w.frozen? ⟨b, k, none⟩ = false := let ⟨_, h1, _⟩ := h; h1.frozen k
theorem Bools.lt {w : World} {b : Nat} {L : List Bool} (h : Bools w b L) : b < w.heap.size := let ⟨_, h1, _⟩ := h; h1.lt
theorem Bools.set {w : World} {b k : Nat} {L : List Bool} (h : Bools w b L) (hk : k < L.length) (t : Bool) : Bools (w.setCell ⟨b, k, none⟩ (.bool t)) b (L.set k t) := by
  obtain ⟨cur, h1, h2⟩ := h
  refine ⟨_, Blk.set_ h1 k _, fun j hj => ?_⟩
  rw [List.length_set] at hj
  rw [Array.getElem?_setIfInBounds, List.getElem_set]
  have hkc : k < cur.size := by
    have := h2 k hk
    exact (Array.getElem?_eq_some_iff.1 this).1
  by_cases hkj : k = j
  · subst hkj; rw [if_pos rfl, if_pos hkc, if_pos rfl]
  · rw [if_neg hkj, if_neg hkj]; exact h2 j hj
/-- A space at g whose row lies in block b. -/
def IsSp (w : World) (g b c : Nat) (first : Int) (L : List Bool) : Prop := Blk w g 82 #[.int .i64 first, .slice (some ⟨b, 0, none⟩) L.length c] ∧ L.length ≤ c ∧ c ≤ maxLen ∧ b ≠ g ∧ Bools w b L
theorem IsSp.ext {S : Nat → Prop} {w w' : World} {g b c : Nat} {first : Int} {L : List Bool} (h : IsSp w g b c first L) (he : Ext S w w') (hg : ¬ S g) (hb : ¬ S b) : IsSp w' g b c first L := ⟨h.1.ext he hg, h.2.1, h.2.2.1, h.2.2.2.1, h.2.2.2.2.ext he hb⟩
theorem IsSp.no {w w' : World} {g b c : Nat} {first : Int} {L : List Bool} (h : IsSp w g b c first L) (he : Ext No w w') : IsSp w' g b c first L := h.ext he (fun h => h) (fun h => h)

theorem spSize_any (g b c : Nat) (first : Int) (L : List Bool) (w : World) (h : IsSp w g b c first L) :
    Calls Try.prog 22 #[ptr g] w fun e w' => e = .returned (.int .i64 L.length) ∧ w = w' := by
  have B := Blk.c2 h.1
  clear h
  go_enter Try.func22, Try.ntmps22
  go_wp2
  go_ret
  exact ⟨rfl, rfl⟩

def takenAt (L : List Bool) (at_ : Int) : Bool := decide (at_ < 0) || decide ((L.length : Int) ≤ at_) || L.getD at_.toNat true
set_option maxHeartbeats 400000 in
theorem spTaken_any (g b c : Nat) (first at_ : Int) (L : List Bool) (w : World) (h : IsSp w g b c first L) :
    Calls Try.prog 23 #[ptr g, .int .i64 at_] w fun e w' => e = .returned (.bool (takenAt L at_)) ∧ w = w' := by
  have B := Blk.c2 h.1
  have HS := Lib.hid h
  clear h
  by_cases h0 : at_ < 0
  · have e : takenAt L at_ = true := by simp [takenAt, h0]
    rw [e]
    clear e
    go_enter Try.func23, Try.ntmps23
    go_wp2
    go_ret
    exact ⟨rfl, rfl⟩
  · by_cases h1 : (L.length : Int) ≤ at_
    · have e : takenAt L at_ = true := by simp [takenAt, h1]
      rw [e]
      clear e
      go_enter Try.func23, Try.ntmps23
      go_wp2
      go_ret
      exact ⟨rfl, rfl⟩
    · obtain ⟨k, rfl⟩ : ∃ k : Nat, at_ = (k : Int) := ⟨at_.toNat, by omega⟩
      have hk : k < L.length := by omega
      have e : takenAt L (k : Int) = L[k] := by
        unfold takenAt
        rw [decide_eq_false h0, decide_eq_false h1]
        simp [hk]
      rw [e]
      have cl := HS.out.2.2.2.2.cell hk
      have hk0 : (0 : Int) ≤ (k : Int) := by omega
      have hk1 : (k : Int) < (L.length : Int) := by omega
      generalize L[k] = t at *
      clear e
      go_enter Try.func23, Try.ntmps23
      go_wp2
      go_ret
      exact ⟨rfl, rfl⟩

def freeOf (L : List Bool) : Nat := (L.filter (fun t => !t)).length
set_option maxRecDepth 100000 in
set_option maxHeartbeats 400000 in
theorem spFree_any (g b c : Nat) (first : Int) (L : List Bool) (w : World) (h : IsSp w g b c first L) :
    Calls Try.prog 21 #[ptr g] w fun e w' => e = .returned (.int .i64 (freeOf L)) ∧ ∃ n, w' = w.drewN n := by
  have B := Blk.c2 h.1
  have hlm : L.length ≤ 2 ^ 63 - 1 := by have := h.2.1; have := h.2.2.1; unfold maxLen at *; omega
  have HS := Lib.hid h
  clear h
  go_enter Try.func21, Try.ntmps21
  go_wp2
  go_loopw [11, 3] (fun i m wr => ∃ k : Nat, k ≤ L.length ∧ i = .int .i64 k ∧ ∃ j : Nat, m = .int .i64 j ∧ Hid (j = freeOf (L.take k)) ∧ j ≤ k ∧ ∃ n, wr = w.drewN n) (fun i _ _ => L.length - (intOf i).toNat)
  case atStart => exact ⟨0, by omega, rfl, 0, rfl, Lib.hid rfl, by omega, 0, rfl⟩
  case round =>
    obtain ⟨k, hk, rfl, j, rfl, HJ, hjk, n, rfl⟩ := hrel
    by_cases hlt : k < L.length
    · have cl := HS.out.2.2.2.2.cell hlt
      have hk0 : (0 : Int) ≤ (k : Int) := by omega
      have hk1 : (k : Int) < (L.length : Int) := by omega
      have hst : freeOf (L.take (k + 1)) = freeOf (L.take k) + (if L[k] = true then 0 else 1) := by
        rw [List.take_succ_eq_append_getElem hlt]
        unfold freeOf
        rw [List.filter_append, List.length_append]
        cases L[k] <;> rfl
      have HST := Lib.hid hst
      clear hst
      cases hv : L[k]
      all_goals
        rw [hv] at cl
        have HV := Lib.hid hv
        clear hv
        go_wp2
        go_roundw
        case rel =>
          refine ⟨k + 1, by omega, by go_num, _, by first | exact (show _ = Value.int .i64 ((j + 1 : Nat) : Int) by go_num) | rfl, Lib.hid ?_, by omega, n, rfl⟩
          rw [HST.out, HV.out, ← HJ.out]; rfl
        case measure => simp [intOf]; omega
    · obtain rfl : k = L.length := by omega
      go_wp2
      go_ret
      refine ⟨?_, n, rfl⟩
      rw [HJ.out, List.take_length]
      rfl

/-- Is the run there, behind those that are taken for good? -/
def okRun (first : Int) (L : List Bool) (at_ n : Int) : Prop := 1 ≤ n ∧ first ≤ at_ ∧ n ≤ (L.length : Int) ∧ at_ ≤ (L.length : Int) - n
set_option maxHeartbeats 400000 in
theorem spWithin_ok (g b c : Nat) (first at_ n : Int) (L : List Bool) (w : World) (h : IsSp w g b c first L) (hr : okRun first L at_ n) :
    Calls Try.prog 60 #[ptr g, .int .i64 at_, .int .i64 n] w fun e w' => e = .returned (.int .i64 0) ∧ w = w' := by
  have B := Blk.c2 h.1
  have hlm : L.length ≤ 2 ^ 63 - 1 := by have := h.2.1; have := h.2.2.1; unfold maxLen at *; omega
  clear h
  obtain ⟨h1, h2, h3, h4⟩ := hr
  have e1 : ¬ n < 1 := by omega
  have e2 : ¬ at_ < first := by omega
  have e3 : ¬ (L.length : Int) < n := by omega
  have e5 : wrap64 ((L.length : Int) - n) = (L.length : Int) - n := by unfold wrap64; omega
  have e4 : ¬ (L.length : Int) - n < at_ := by omega
  clear h1 h2 h3 h4
  go_enter Try.func60, Try.ntmps60
  go_wp2
  go_ret
  exact ⟨rfl, rfl⟩
set_option maxHeartbeats 400000 in
theorem spWithin_no (g b c : Nat) (first at_ n : Int) (L : List Bool) (w : World) (h : IsSp w g b c first L) (hr : ¬ okRun first L at_ n) :
    Calls Try.prog 60 #[ptr g, .int .i64 at_, .int .i64 n] w fun e w' => e = .returned (.int .i64 2) ∧ w = w' := by
  have B := Blk.c2 h.1
  have hlm : L.length ≤ 2 ^ 63 - 1 := by have := h.2.1; have := h.2.2.1; unfold maxLen at *; omega
  clear h
  unfold okRun at hr
  by_cases e1 : n < 1
  · clear hr
    go_enter Try.func60, Try.ntmps60
    go_wp2
    go_ret
    exact ⟨rfl, rfl⟩
  by_cases e2 : at_ < first
  · clear hr
    go_enter Try.func60, Try.ntmps60
    go_wp2
    go_ret
    exact ⟨rfl, rfl⟩
  by_cases e3 : (L.length : Int) < n
  · clear hr
    go_enter Try.func60, Try.ntmps60
    go_wp2
    go_ret
    exact ⟨rfl, rfl⟩
  have e5 : wrap64 ((L.length : Int) - n) = (L.length : Int) - n := by unfold wrap64; omega
  have e4 : (L.length : Int) - n < at_ := by omega
  clear hr
  go_enter Try.func60, Try.ntmps60
  go_wp2
  go_ret
  exact ⟨rfl, rfl⟩

/-- Where a Boolean stands first; -1: nowhere. -/
def idxOf (M : List Bool) (t : Bool) : Int := if M.contains t = true then (M.idxOf t : Int) else -1
set_option maxRecDepth 100000 in
set_option maxHeartbeats 400000 in
theorem slIndex_any (b off c : Nat) (M : List Bool) (t : Bool) (w : World) (hm : M.length ≤ 2 ^ 63 - 1) (h : ∀ k, (hk : k < M.length) → w.cell? ⟨b, off + k, none⟩ = some (.bool M[k])) :
    Calls Try.prog 62 #[.slice (some ⟨b, off, none⟩) M.length c, .bool t] w fun e w' => ∃ r, e = .returned (.int .i64 r) ∧ (0 ≤ r ↔ t ∈ M) ∧ ∃ n, w' = w.drewN n := by
  have H := Lib.hid h
  clear h
  go_enter Try.func62, Try.ntmps62
  go_wp2
  go_loopw [8] (fun i wr => ∃ k : Nat, k ≤ M.length ∧ i = .int .i64 k ∧ Hid (t ∉ M.take k) ∧ ∃ n, wr = w.drewN n) (fun i _ => M.length - (intOf i).toNat)
  case atStart => exact ⟨0, by omega, rfl, Lib.hid (by simp), 0, rfl⟩
  case round =>
    obtain ⟨k, hk, rfl, HT, n, rfl⟩ := hrel
    by_cases hlt : k < M.length
    · have cl : (w.drewN n).cell? ⟨b, off + k, none⟩ = some (.bool M[k]) := H.out k hlt
      have hk0 : (0 : Int) ≤ (k : Int) := by omega
      have hk1 : (k : Int) < (M.length : Int) := by omega
      have HM := Lib.hid (List.take_succ_eq_append_getElem hlt)
      have HME := Lib.hid (List.getElem_mem hlt)
      by_cases hv : t = M[k]
      · rw [← hv] at cl HME
        clear hv HM
        go_wp2
        go_ret
        exact ⟨_, rfl, ⟨fun _ => HME.out, fun _ => by omega⟩, n, rfl⟩
      · have hvb : (t == M[k]) = false := by simpa using hv
        have HV := Lib.hid hv
        generalize M[k] = y at *
        clear hv
        go_wp2
        go_roundw
        case rel =>
          refine ⟨k + 1, by omega, by go_num, Lib.hid ?_, n, rfl⟩
          rw [HM.out]
          intro hmem
          rcases List.mem_append.1 hmem with h | h
          · exact HT.out h
          · exact HV.out (by simpa using h)
        case measure => simp [intOf]; omega
    · obtain rfl : k = M.length := by omega
      go_wp2
      go_ret
      refine ⟨_, rfl, ⟨fun h => absurd h (by omega), fun h => absurd h ?_⟩, n, rfl⟩
      have := HT.out
      rwa [List.take_length] at this
set_option maxHeartbeats 400000 in
theorem slContains_any (b off c : Nat) (M : List Bool) (t : Bool) (w : World) (hm : M.length ≤ 2 ^ 63 - 1) (h : ∀ k, (hk : k < M.length) → w.cell? ⟨b, off + k, none⟩ = some (.bool M[k])) :
    Calls Try.prog 61 #[.slice (some ⟨b, off, none⟩) M.length c, .bool t] w fun e w' => e = .returned (.bool (M.contains t)) ∧ ∃ n, w' = w.drewN n := by
  have H := Lib.hid (slIndex_any b off c M t w hm h)
  clear h
  go_enter Try.func61, Try.ntmps61
  go_wp2_with (go_at_call 62; refine H.out.mono ?_; rintro e w' ⟨r, rfl, hr, n, rfl⟩; have HR := Lib.hid hr; clear hr)
  go_ret
  refine ⟨?_, n, rfl⟩
  have e : M.contains t = decide (0 ≤ r) := by
    rw [List.contains_eq_mem]
    exact decide_eq_decide.2 HR.out.symm
  rw [e]
  rfl
end Go.Proofs.Ytlfhfomidkadiaa
