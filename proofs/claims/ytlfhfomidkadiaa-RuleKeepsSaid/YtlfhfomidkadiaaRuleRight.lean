/- Law 26: right. -/
import Derived.Test.YtlfhfomidkadiaaRuleBeh
set_option linter.unusedVariables false
set_option linter.unusedSimpArgs false
namespace Go.Proofs.Ytlfhfomidkadiaa
open Go.RowKit Go.Deep

/-- The first k stand as they may. -/
structure Upto (ls : List Vr) (k : Nat) : Prop where
  each : ∀ j, (hj : j < ls.length) → j < k → okV ls[j] = true
  fall : ∀ j, (hj : j + 1 < ls.length) → j + 1 < k → ls[j + 1].seq < ls[j].seq
theorem Upto.all {ls : List Vr} (h : Upto ls ls.length) (hl : ls.length ≤ 30) (hn : (ls.filter (·.nul)).length < 2) : Right ls := by
  refine ⟨hl, fun x hx => ?_, ?_, hn⟩
  · obtain ⟨j, hj, rfl⟩ := List.getElem_of_mem hx
    exact h.each j hj hj
  · intro i j hi hj hij
    induction j with
    | zero => omega
    | succ j ih =>
      by_cases e : i = j
      · subst e; exact h.fall i hj hj
      · exact Int.lt_trans (h.fall j hj hj) (ih (by omega) (by omega))
def lens (x : Vr) : Bool := decide (x.md.length ≤ 60) && decide (x.td.length ≤ 60) && decide (x.wd.length ≤ 100) && decide (x.nd.length ≤ 100)
theorem okV_of {x : Vr} (h1 : ¬ x.seq < 1) (h2 : ¬ 60 < x.md.length) (h3 : ¬ 60 < x.td.length) (h4 : ¬ 100 < x.wd.length) (h5 : ¬ 100 < x.nd.length) : okV x = true := by
  unfold okV; simp; omega
set_option pp.deepTerms true in
set_option pp.maxSteps 1000000 in
set_option maxRecDepth 100000 in
set_option maxHeartbeats 4000000 in
theorem lRight (lv : Value) (ls : List Vr) (B : Nat) (w : World) (hl : Vs w Any B lv ls) :
    Calls Try.prog 24 #[lv] w fun e w' => ∃ q, e = .returned (.bool q) ∧ (q = true ↔ Right ls) ∧ Ext No w w' := by
  obtain ⟨A, c, rfl, hc, hm, b, o, hrow⟩ := hl.slice
  unfold maxLen at hm
  have HR := Lib.hid hrow
  have HX0 := Lib.hid (Ext.refl No w)
  clear hl hrow
  by_cases h30 : (30 : Int) < (ls.length : Int)
  · have HN : Hid ((false = true) ↔ Right ls) := Lib.hid ⟨(fun h => by cases h), (fun h => absurd h.len (by omega))⟩
    go_enter Try.func24, Try.ntmps24
    go_wp2_with fail
    go_ret
    exact ⟨_, rfl, HN.out, HX0.out⟩
  · have h30' : ls.length ≤ 30 := by omega
    go_enter Try.func24, Try.ntmps24
    go_wp2_with fail
    go_loopw [3, 4] (fun nv i wr => ∃ k nc : Nat, k ≤ ls.length ∧ nc ≤ k ∧ nv = .int .i64 (nc : Int) ∧ i = .int .i64 (k : Int) ∧ Hid (((ls.take k).filter (·.nul)).length = nc) ∧ Hid (Upto ls k) ∧ Hid (Ext No w wr)) (fun _ i _ => ls.length - (intOf i).toNat)
    case atStart => exact ⟨0, 0, by omega, by omega, rfl, rfl, Lib.hid (by simp), Lib.hid ⟨fun j hj h => absurd h (by omega), fun j hj h => absurd h (by omega)⟩, HX0⟩
    case round =>
      clear HX0
      obtain ⟨k, nc, hkl, hnk, rfl, rfl, HC, HU, HX⟩ := hrel
      by_cases hlt : k < ls.length
      · obtain ⟨rfl, -, hb, hr, -⟩ := HR.out k hlt
        have HMEM := Lib.hid (List.getElem_mem hlt)
        have hre := range_ext hr HX.out hb (fun h => h)
        have HTK := Lib.hid (List.take_succ_eq_append_getElem hlt)
        have c0 : wr.cell? ⟨b, o + k * 11, none⟩ = some (.int .i64 ls[k].seq) := hre 0 _ rfl
        have c1 : wr.cell? ⟨b, o + k * 11 + 1, none⟩ = some (.bool ls[k].nul) := hre 1 _ rfl
        have c6 : wr.cell? ⟨b, o + k * 11 + 6, none⟩ = some (.slice ls[k].mA ls[k].md.length ls[k].mc) := hre 6 _ rfl
        have c7 : wr.cell? ⟨b, o + k * 11 + 7, none⟩ = some (.slice ls[k].tA ls[k].td.length ls[k].tc) := hre 7 _ rfl
        have c9 : wr.cell? ⟨b, o + k * 11 + 8 + 1, none⟩ = some (.slice ls[k].nA ls[k].nd.length ls[k].nc) := hre 9 _ rfl
        have c10 : wr.cell? ⟨b, o + k * 11 + 8 + 2, none⟩ = some (.slice ls[k].wA ls[k].wd.length ls[k].wc) := hre 10 _ rfl
        have HBAD : Hid (okV ls[k] = false → (false = true ↔ Right ls)) := Lib.hid (fun h => ⟨fun e => by (cases e), fun hr => by have := hr.each _ (List.getElem_mem hlt); rw [h] at this; cases this⟩)
        have HFAL : Hid (∀ j, j + 1 = k → (hj : j < ls.length) → ls[j].seq ≤ ls[k].seq → (false = true ↔ Right ls)) := Lib.hid (fun j hjk hj h => ⟨fun e => by (cases e), fun hr => by have := hr.fall j k hj hlt (by omega); omega⟩)
        have HNEXT : Hid (okV ls[k] = true → (∀ j, j + 1 = k → (hj : j < ls.length) → ls[k].seq < ls[j].seq) → Upto ls (k + 1)) := Lib.hid (fun h1 h2 => ⟨fun j hj h => by
            by_cases e : j = k
            · subst e; exact h1
            · exact HU.out.each j hj (by omega), fun j hj h => by
            by_cases e : j + 1 = k
            · subst e; exact h2 j rfl (by omega)
            · exact HU.out.fall j hj (by omega)⟩)
        have HPREV : Hid (∀ j, j + 1 = k → ∃ (hj : j < ls.length), wr.cell? ⟨b, o + j * 11, none⟩ = some (.int .i64 ls[j].seq)) := Lib.hid (fun j hj => by
          have hjl : j < ls.length := by omega
          obtain ⟨_, -, hb', hr', -⟩ := HR.out j hjl
          exact ⟨hjl, (range_ext hr' HX.out hb' (fun h => h)) 0 _ rfl⟩)
        obtain ⟨x, hx⟩ : ∃ x, ls[k] = x := ⟨_, rfl⟩
        rw [hx] at c0 c1 c6 c7 c9 c10 HBAD HTK
        simp only [hx] at HFAL HNEXT
        obtain ⟨nl, hnl⟩ : ∃ n, x.nul = n := ⟨_, rfl⟩
        rw [hnl] at c1
        have HNL := Lib.hid hnl
        have t1 : (k : Int) < (ls.length : Int) := by omega
        clear hr hre hx hnl
        by_cases gs : x.seq < 1
        · go_wp2_with fail
          go_quiet (fail)
          go_wp2_with fail
          go_ret
          exact ⟨_, rfl, HBAD.out (by unfold okV; simp; omega), HX.out.drewN _⟩
        · have ds : decide (x.seq < 1) = false := decide_eq_false gs
          by_cases k0 : (0 : Int) < (k : Int)
          · obtain ⟨j, hjk⟩ : ∃ j, j + 1 = k := ⟨k - 1, by omega⟩
            obtain ⟨hjl, p0⟩ := HPREV.out j hjk
            have t2 : (j : Int) < (ls.length : Int) := by omega
            have kn : 0 < k := by omega
            have HFJ := Lib.hid (HFAL.out j hjk hjl)
            have HNJ : Hid (∀ (h : x.seq < ls[j].seq), ∀ i, i + 1 = k → (hi : i < ls.length) → x.seq < ls[i].seq) := Lib.hid (fun h i hi hil => by
              obtain rfl : i = j := by omega
              exact h)
            obtain ⟨y, hy⟩ : ∃ y, ls[j].seq = y := ⟨_, rfl⟩
            rw [hy] at p0 HFJ HNJ
            clear hy
            have hw1 : IntKind.i64.wrap ((k : Int) - 1) = (j : Int) := by rw [show (k : Int) - 1 = (j : Int) by omega]; exact IntWalk.i64_in _ (by omega)
            have hw2 : (0 : Int) ≤ (j : Int) := by omega
            have hjk' := Lib.hid hjk
            clear hjk
            by_cases gy : y ≤ x.seq
            · go_wp2_with fail
              go_quiet (fail)
              go_wp2_with fail
              go_ret
              exact ⟨_, rfl, HFJ.out gy, HX.out.drewN _⟩
            · have dy : decide (y ≤ x.seq) = false := decide_eq_false gy
              by_cases gmd : (60 : Int) < (x.md.length : Int)
              · go_wp2_with fail
                go_quiet (fail)
                go_wp2_with fail
                go_ret
                exact ⟨_, rfl, HBAD.out (by unfold okV; simp; omega), HX.out.drewN _⟩
              · have dmd : decide ((60 : Int) < (x.md.length : Int)) = false := decide_eq_false gmd
                by_cases gtd : (60 : Int) < (x.td.length : Int)
                · go_wp2_with fail
                  go_quiet (fail)
                  go_wp2_with fail
                  go_ret
                  exact ⟨_, rfl, HBAD.out (by unfold okV; simp; omega), HX.out.drewN _⟩
                · have dtd : decide ((60 : Int) < (x.td.length : Int)) = false := decide_eq_false gtd
                  by_cases gwd : (100 : Int) < (x.wd.length : Int)
                  · go_wp2_with fail
                    go_quiet (fail)
                    go_wp2_with fail
                    go_ret
                    exact ⟨_, rfl, HBAD.out (by unfold okV; simp; omega), HX.out.drewN _⟩
                  · have dwd : decide ((100 : Int) < (x.wd.length : Int)) = false := decide_eq_false gwd
                    by_cases gnd : (100 : Int) < (x.nd.length : Int)
                    · go_wp2_with fail
                      go_quiet (fail)
                      go_wp2_with fail
                      go_ret
                      exact ⟨_, rfl, HBAD.out (by unfold okV; simp; omega), HX.out.drewN _⟩
                    · have dnd : decide ((100 : Int) < (x.nd.length : Int)) = false := decide_eq_false gnd
                      have HOKX : Hid (Upto ls (k + 1)) := Lib.hid (HNEXT.out (okV_of gs (by omega) (by omega) (by omega) (by omega)) (HNJ.out (by omega)))
                      cases nl with
                      | true =>
                        have HCN : Hid (((ls.take (k + 1)).filter (·.nul)).length = nc + 1) := Lib.hid (by rw [HTK.out, List.filter_append, List.length_append, HC.out]; simp [HNL.out])
                        go_wp2_with fail
                        go_quiet (fail)
                        go_wp2_with fail
                        go_roundw
                        case rel => exact ⟨k + 1, nc + 1, by omega, by omega, by go_num, by go_num, HCN, HOKX, Lib.hid (HX.out.drewN _)⟩
                        case measure => simp [intOf]; omega
                      | false =>
                        have HCN : Hid (((ls.take (k + 1)).filter (·.nul)).length = nc) := Lib.hid (by rw [HTK.out, List.filter_append, List.length_append, HC.out]; simp [HNL.out])
                        go_wp2_with fail
                        go_quiet (fail)
                        go_wp2_with fail
                        go_roundw
                        case rel => exact ⟨k + 1, nc, by omega, by omega, by go_num, by go_num, HCN, HOKX, Lib.hid (HX.out.drewN _)⟩
                        case measure => simp [intOf]; omega
          · have dk : decide ((0 : Int) < (k : Int)) = false := decide_eq_false k0
            have dkn : decide (0 < k) = false := decide_eq_false (by omega)
            by_cases gmd : (60 : Int) < (x.md.length : Int)
            · go_wp2_with fail
              go_quiet (fail)
              go_wp2_with fail
              go_ret
              exact ⟨_, rfl, HBAD.out (by unfold okV; simp; omega), HX.out.drewN _⟩
            · have dmd : decide ((60 : Int) < (x.md.length : Int)) = false := decide_eq_false gmd
              by_cases gtd : (60 : Int) < (x.td.length : Int)
              · go_wp2_with fail
                go_quiet (fail)
                go_wp2_with fail
                go_ret
                exact ⟨_, rfl, HBAD.out (by unfold okV; simp; omega), HX.out.drewN _⟩
              · have dtd : decide ((60 : Int) < (x.td.length : Int)) = false := decide_eq_false gtd
                by_cases gwd : (100 : Int) < (x.wd.length : Int)
                · go_wp2_with fail
                  go_quiet (fail)
                  go_wp2_with fail
                  go_ret
                  exact ⟨_, rfl, HBAD.out (by unfold okV; simp; omega), HX.out.drewN _⟩
                · have dwd : decide ((100 : Int) < (x.wd.length : Int)) = false := decide_eq_false gwd
                  by_cases gnd : (100 : Int) < (x.nd.length : Int)
                  · go_wp2_with fail
                    go_quiet (fail)
                    go_wp2_with fail
                    go_ret
                    exact ⟨_, rfl, HBAD.out (by unfold okV; simp; omega), HX.out.drewN _⟩
                  · have dnd : decide ((100 : Int) < (x.nd.length : Int)) = false := decide_eq_false gnd
                    have HOKX : Hid (Upto ls (k + 1)) := Lib.hid (HNEXT.out (okV_of gs (by omega) (by omega) (by omega) (by omega)) (fun j hj => absurd hj (by omega)))
                    cases nl with
                    | true =>
                      have HCN : Hid (((ls.take (k + 1)).filter (·.nul)).length = nc + 1) := Lib.hid (by rw [HTK.out, List.filter_append, List.length_append, HC.out]; simp [HNL.out])
                      go_wp2_with fail
                      go_quiet (fail)
                      go_wp2_with fail
                      go_roundw
                      case rel => exact ⟨k + 1, nc + 1, by omega, by omega, by go_num, by go_num, HCN, HOKX, Lib.hid (HX.out.drewN _)⟩
                      case measure => simp [intOf]; omega
                    | false =>
                      have HCN : Hid (((ls.take (k + 1)).filter (·.nul)).length = nc) := Lib.hid (by rw [HTK.out, List.filter_append, List.length_append, HC.out]; simp [HNL.out])
                      go_wp2_with fail
                      go_quiet (fail)
                      go_wp2_with fail
                      go_roundw
                      case rel => exact ⟨k + 1, nc, by omega, by omega, by go_num, by go_num, HCN, HOKX, Lib.hid (HX.out.drewN _)⟩
                      case measure => simp [intOf]; omega
      · obtain rfl : k = ls.length := by omega
        have HE : Hid (decide ((nc : Int) < 2) = true ↔ Right ls) := Lib.hid (by
          have h := HC.out
          rw [List.take_length] at h
          rw [decide_eq_true_eq]
          exact ⟨fun hn => HU.out.all h30' (by omega), fun hr => by have := hr.nul; omega⟩)
        go_wp2_with fail
        go_ret
        exact ⟨_, rfl, HE.out, HX.out⟩
end Go.Proofs.Ytlfhfomidkadiaa
