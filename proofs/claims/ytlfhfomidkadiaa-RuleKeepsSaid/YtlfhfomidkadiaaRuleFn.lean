/- Package rule: Id, Held, Hold, Turn; IndexFunc by Pick's test; Pick, There. -/
import Derived.Test.YtlfhfomidkadiaaRuleKeepP
import Derived.Test.YtlfhfomidkadiaaArrB
set_option linter.unusedVariables false
set_option linter.unusedSimpArgs false
namespace Go.Proofs.Ytlfhfomidkadiaa
open Go.RowKit Go.Deep

theorem ret_blk2 {P : Program} {fn : Func} {p q : Tmp} {ty : TypeId} (h : fn.results = #[.cell p ty, .tmp q]) {tmps : Array Value} {w : World} {g : Nat} {t : TypeId} {cs : Array Value} (hb : Blk w g t cs) (hp : tmps.getD p undef = pB g) (d : TypeDesc)
    (hu : P.underlying ty = some d) (hd : (match d with | .struct _ | .array _ _ => true | _ => false) = true) (hi : (P.info? ty).map (·.size) = some cs.size) : (results fn tmps).run P w = .ok (.tuple #[.agg cs, tmps.getD q undef]) w := by
  have hp' : tmps[p]?.getD undef = .pointer (some ⟨g, 0, none⟩) := by simpa using hp
  simp [results, h, hp', asAddr, run_loadVar_row w g t ty cs (0, 0) d hb hu hd hi]
theorem und_ver : ∃ fs, Try.prog.underlying 55 = some (.struct fs) := ⟨_, Try.underlying55⟩
/-- A version's own block, and what the walk reads of it. -/
theorem ver_cells (w : World) (x : Vr) : ((w.alloc (.cells x.cs.toArray 55)).cell? ⟨w.heap.size, 0, none⟩ = some (.int .i64 x.seq) ∧ (w.alloc (.cells x.cs.toArray 55)).cell? ⟨w.heap.size, 1, none⟩ = some (.bool x.nul) ∧
    (w.alloc (.cells x.cs.toArray 55)).cell? ⟨w.heap.size, 2, none⟩ = some (.bool x.mrk) ∧ (w.alloc (.cells x.cs.toArray 55)).cell? ⟨w.heap.size, 5, none⟩ = some (.int .i64 x.til)) :=
  ⟨(Blk.new w _ _).cell 0, (Blk.new w _ _).cell 1, (Blk.new w _ _).cell 2, (Blk.new w _ _).cell 5⟩
theorem rId_any (x : Vr) (w : World) : Calls Try.prog 35 #[.agg x.cs.toArray] w fun e w' => e = .returned (.int .i64 (idV x)) ∧ Ext No w w' := by
  obtain ⟨c0, c1, c2, c5⟩ := ver_cells w x
  have HX := Lib.hid ((Ext.refl No w).alloc (.cells x.cs.toArray 55))
  obtain ⟨n, hn⟩ : ∃ n, x.nul = n := ⟨_, rfl⟩
  have HI : Hid (idV x = if n = true then 0 else x.seq) := Lib.hid (by unfold idV; rw [hn])
  rw [hn] at c1
  clear hn
  cases n with
  | true =>
    go_enter Try.func35, Try.ntmps35
    go_wp2
    go_ret
    exact ⟨by rw [HI.out]; rfl, HX.out⟩
  | false =>
    go_enter Try.func35, Try.ntmps35
    go_wp2
    go_ret
    exact ⟨by rw [HI.out]; rfl, HX.out⟩
theorem rHeld_any (x : Vr) (now : Int) (w : World) : Calls Try.prog 30 #[.agg x.cs.toArray, .int .i64 now] w fun e w' => e = .returned (.bool (heldV x now)) ∧ Ext No w w' := by
  obtain ⟨c0, c1, c2, c5⟩ := ver_cells w x
  have HX := Lib.hid ((Ext.refl No w).alloc (.cells x.cs.toArray 55))
  go_enter Try.func30, Try.ntmps30
  go_wp2
  go_ret
  exact ⟨rfl, HX.out⟩
theorem rHold_any (x : Vr) (u : Int) (w : World) : Calls Try.prog 31 #[.agg x.cs.toArray, .int .i64 u] w fun e w' => e = .returned (.int .i64 (holdC x u)) ∧ Ext No w w' := by
  obtain ⟨c0, c1, c2, c5⟩ := ver_cells w x
  have HX := Lib.hid ((Ext.refl No w).alloc (.cells x.cs.toArray 55))
  obtain ⟨m, hm⟩ : ∃ n, x.mrk = n := ⟨_, rfl⟩
  rw [hm] at c2
  cases m with
  | true =>
    have HR : Hid (holdC x u = 15) := Lib.hid (by unfold holdC; rw [hm]; rfl)
    clear hm
    go_enter Try.func31, Try.ntmps31
    go_wp2
    go_ret
    exact ⟨by rw [HR.out]; rfl, HX.out⟩
  | false =>
    by_cases h1 : u < 0
    · have HR : Hid (holdC x u = 2) := Lib.hid (by unfold holdC; rw [hm, if_neg (by simp), if_pos (by omega)])
      clear hm
      go_enter Try.func31, Try.ntmps31
      go_wp2
      go_ret
      exact ⟨by rw [HR.out]; rfl, HX.out⟩
    · by_cases h2 : 1099511627776 < u
      · have HR : Hid (holdC x u = 2) := Lib.hid (by unfold holdC; rw [hm, if_neg (by simp), if_pos (by omega)])
        clear hm
        go_enter Try.func31, Try.ntmps31
        go_wp2
        go_ret
        exact ⟨by rw [HR.out]; rfl, HX.out⟩
      · by_cases h3 : u < x.til
        · have HR : Hid (holdC x u = 14) := Lib.hid (by unfold holdC; rw [hm, if_neg (by simp), if_neg (by omega), if_pos h3])
          clear hm
          go_enter Try.func31, Try.ntmps31
          go_wp2
          go_ret
          exact ⟨by rw [HR.out]; rfl, HX.out⟩
        · have HR : Hid (holdC x u = 0) := Lib.hid (by unfold holdC; rw [hm, if_neg (by simp), if_neg (by omega), if_neg h3])
          clear hm
          go_enter Try.func31, Try.ntmps31
          go_wp2
          go_ret
          exact ⟨by rw [HR.out]; rfl, HX.out⟩
theorem rTurn_any (a b : Int) (w : World) : Calls Try.prog 33 #[.int .i64 a, .int .i64 b] w fun e w' => e = .returned (.int .i64 (turnC a b)) ∧ Ext No w w' := by
  by_cases h1 : b < 0
  · have HR : Hid (turnC a b = 2) := Lib.hid (by unfold turnC; rw [if_pos (by omega)])
    go_enter Try.func33, Try.ntmps33
    go_wp2
    go_ret
    exact ⟨by rw [HR.out]; rfl, Ext.refl _ _⟩
  · by_cases h2 : 2 < b
    · have HR : Hid (turnC a b = 2) := Lib.hid (by unfold turnC; rw [if_pos (by omega)])
      go_enter Try.func33, Try.ntmps33
      go_wp2
      go_ret
      exact ⟨by rw [HR.out]; rfl, Ext.refl _ _⟩
    · by_cases h3 : b = 0
      · subst h3
        by_cases h4 : a = 0
        · subst h4
          go_enter Try.func33, Try.ntmps33
          go_wp2
          go_ret
          exact ⟨rfl, Ext.refl _ _⟩
        · have HR : Hid (turnC a 0 = 15) := Lib.hid (by unfold turnC; rw [if_neg (by omega), if_pos ⟨rfl, h4⟩])
          go_enter Try.func33, Try.ntmps33
          go_wp2
          go_ret
          exact ⟨by rw [HR.out]; rfl, Ext.refl _ _⟩
      · have HR : Hid (turnC a b = 0) := Lib.hid (by unfold turnC; rw [if_neg (by omega), if_neg (fun h => h3 h.1)])
        go_enter Try.func33, Try.ntmps33
        go_wp2
        go_ret
        exact ⟨by rw [HR.out]; rfl, Ext.refl _ _⟩
end Go.Proofs.Ytlfhfomidkadiaa
