/- Reference 26: Id, Hold, Turn, Find, without. -/
import Derived.Test.YtlfhfomidkadiaaRuleApp
set_option linter.unusedVariables false
set_option linter.unusedSimpArgs false
namespace Go.Proofs.Ytlfhfomidkadiaa
open Go.RowKit Go.Deep

theorem rfId_any (x : Vr) (w : World) : Calls Try.prog 36 #[.agg x.cs.toArray] w fun e w' => e = .returned (.int .i64 (idV x)) ∧ Ext No w w' := by
  obtain ⟨c0, c1, c2, c5⟩ := ver_cells w x
  have HX := Lib.hid ((Ext.refl No w).alloc (.cells x.cs.toArray 55))
  obtain ⟨n, hn⟩ : ∃ n, x.nul = n := ⟨_, rfl⟩
  have HI : Hid (idV x = if n = true then 0 else x.seq) := Lib.hid (by unfold idV; rw [hn])
  rw [hn] at c1
  clear hn
  cases n with
  | true =>
    go_enter Try.func36, Try.ntmps36
    go_wp2
    go_ret
    exact ⟨by rw [HI.out]; rfl, HX.out⟩
  | false =>
    go_enter Try.func36, Try.ntmps36
    go_wp2
    go_ret
    exact ⟨by rw [HI.out]; rfl, HX.out⟩
theorem rfHold_any (x : Vr) (u : Int) (w : World) : Calls Try.prog 32 #[.agg x.cs.toArray, .int .i64 u] w fun e w' => e = .returned (.int .i64 (holdC x u)) ∧ Ext No w w' := by
  obtain ⟨c0, c1, c2, c5⟩ := ver_cells w x
  have HX := Lib.hid ((Ext.refl No w).alloc (.cells x.cs.toArray 55))
  obtain ⟨m, hm⟩ : ∃ n, x.mrk = n := ⟨_, rfl⟩
  rw [hm] at c2
  cases m with
  | true =>
    have HR : Hid (holdC x u = 15) := Lib.hid (by unfold holdC; rw [hm]; rfl)
    clear hm
    go_enter Try.func32, Try.ntmps32
    go_wp2
    go_ret
    exact ⟨by rw [HR.out]; rfl, HX.out⟩
  | false =>
    by_cases h1 : u < 0
    · have HR : Hid (holdC x u = 2) := Lib.hid (by unfold holdC; rw [hm, if_neg (by simp), if_pos (by omega)])
      clear hm
      go_enter Try.func32, Try.ntmps32
      go_wp2
      go_ret
      exact ⟨by rw [HR.out]; rfl, HX.out⟩
    · by_cases h2 : 1099511627776 < u
      · have HR : Hid (holdC x u = 2) := Lib.hid (by unfold holdC; rw [hm, if_neg (by simp), if_pos (by omega)])
        clear hm
        go_enter Try.func32, Try.ntmps32
        go_wp2
        go_ret
        exact ⟨by rw [HR.out]; rfl, HX.out⟩
      · by_cases h3 : u < x.til
        · have HR : Hid (holdC x u = 14) := Lib.hid (by unfold holdC; rw [hm, if_neg (by simp), if_neg (by omega), if_pos h3])
          clear hm
          go_enter Try.func32, Try.ntmps32
          go_wp2
          go_ret
          exact ⟨by rw [HR.out]; rfl, HX.out⟩
        · have HR : Hid (holdC x u = 0) := Lib.hid (by unfold holdC; rw [hm, if_neg (by simp), if_neg (by omega), if_neg h3])
          clear hm
          go_enter Try.func32, Try.ntmps32
          go_wp2
          go_ret
          exact ⟨by rw [HR.out]; rfl, HX.out⟩
theorem rfTurn_any (a b : Int) (w : World) : Calls Try.prog 34 #[.int .i64 a, .int .i64 b] w fun e w' => e = .returned (.int .i64 (turnC a b)) ∧ Ext No w w' := by
  by_cases h1 : b < 0
  · have HR : Hid (turnC a b = 2) := Lib.hid (by unfold turnC; rw [if_pos (by omega)])
    go_enter Try.func34, Try.ntmps34
    go_wp2
    go_ret
    exact ⟨by rw [HR.out]; rfl, Ext.refl _ _⟩
  · by_cases h2 : 2 < b
    · have HR : Hid (turnC a b = 2) := Lib.hid (by unfold turnC; rw [if_pos (by omega)])
      go_enter Try.func34, Try.ntmps34
      go_wp2
      go_ret
      exact ⟨by rw [HR.out]; rfl, Ext.refl _ _⟩
    · by_cases h3 : b = 0
      · subst h3
        by_cases h4 : a = 0
        · subst h4
          go_enter Try.func34, Try.ntmps34
          go_wp2
          go_ret
          exact ⟨rfl, Ext.refl _ _⟩
        · have HR : Hid (turnC a 0 = 15) := Lib.hid (by unfold turnC; rw [if_neg (by omega), if_pos ⟨rfl, h4⟩])
          go_enter Try.func34, Try.ntmps34
          go_wp2
          go_ret
          exact ⟨by rw [HR.out]; rfl, Ext.refl _ _⟩
      · have HR : Hid (turnC a b = 0) := Lib.hid (by unfold turnC; rw [if_neg (by omega), if_neg (fun h => h3 h.1)])
        go_enter Try.func34, Try.ntmps34
        go_wp2
        go_ret
        exact ⟨by rw [HR.out]; rfl, Ext.refl _ _⟩
/-- Where a version stands, as a number. -/
def fndI (ls : List Vr) (id : Int) : Int := match fnd ls id with | some i => (i : Int) | none => -1
set_option maxRecDepth 100000 in
set_option maxHeartbeats 1000000 in
theorem rfFind_any (lv : Value) (ls : List Vr) (id : Int) (B : Nat) (w : World) (hl : Vs w Any B lv ls) (hll : ls.length ≤ 1000000) :
    Calls Try.prog 27 #[lv, .int .i64 id] w fun e w' => e = .returned (.int .i64 (fndI ls id)) ∧ Ext No w w' := by
  obtain ⟨A, c, rfl, hc, hm, b, off, hrow⟩ := hl.slice
  have HR := Lib.hid hrow
  have HX0 := Lib.hid (Ext.refl No w)
  clear hl hrow
  by_cases hid : id < 0
  · by_cases h0 : ls.length = 0
    · have HG : Hid (fndI ls id = -1) := Lib.hid (by unfold fndI fnd; rw [if_pos hid, if_pos h0])
      have t0 : ((ls.length : Int) == 0) = true := by rw [h0]; rfl
      go_enter Try.func27, Try.ntmps27
      go_wp2_with fail
      go_ret
      exact ⟨by rw [HG.out]; rfl, HX0.out⟩
    · have HG : Hid (fndI ls id = 0) := Lib.hid (by unfold fndI fnd; rw [if_pos hid, if_neg h0]; rfl)
      have t0 : ((ls.length : Int) == 0) = false := by rw [beq_eq_false_iff_ne]; omega
      go_enter Try.func27, Try.ntmps27
      go_wp2_with fail
      go_ret
      exact ⟨by rw [HG.out]; rfl, HX0.out⟩
  · have HD : Hid (fndI ls id = idxI ls (fun v => idV v == id)) := Lib.hid (by rw [idxI_eq ls id hid]; rfl)
    go_enter Try.func27, Try.ntmps27
    go_wp2_with fail
    go_loopw [5] (fun i wr => ∃ k : Nat, k ≤ ls.length ∧ i = .int .i64 (k : Int) ∧ Hid (∀ j, (hj : j < ls.length) → j < k → (idV ls[j] == id) = false) ∧ Hid (Ext No w wr)) (fun i _ => ls.length - (intOf i).toNat)
    case atStart => exact ⟨0, by omega, rfl, Lib.hid (fun j hj h => absurd h (by omega)), HX0⟩
    case round =>
      clear HX0
      obtain ⟨k, hkl, rfl, HF, HX⟩ := hrel
      by_cases hlt : k < ls.length
      · obtain ⟨rfl, -, hb, hr, -⟩ := HR.out k hlt
        have e1 := Lib.hid (range_ext hr HX.out hb (fun h => h))
        have HN : Hid ((idV ls[k] == id) = false → ∀ j, (hj : j < ls.length) → j < k + 1 → (idV ls[j] == id) = false) := Lib.hid (fun h0 j hj h => by
          by_cases e : j = k
          · subst e; exact h0
          · exact HF.out j hj (by omega))
        have HY : Hid ((idV ls[k] == id) = true → idxI ls (fun v => idV v == id) = (k : Int)) := Lib.hid (fun h0 => idxI_at hlt HF.out h0)
        obtain ⟨x, hx⟩ : ∃ x, ls[k] = x := ⟨_, rfl⟩
        rw [hx] at e1 HN HY
        obtain ⟨q, hq⟩ : ∃ q, idV x = q := ⟨_, rfl⟩
        rw [hq] at HN HY
        have HQ := Lib.hid hq
        clear hr hx hq
        by_cases hqi : q = id
        · subst hqi
          go_wp2_with (first
            | ((with_reducible show wpList _ _ _ (⟨some 20, _, _, _, _, _⟩ :: _) _ _); refine wpList_load_mid rfl 55 (.tmp 19) rfl b (off + k * 11) rfl x.cs _ e1.out Try.underlying55 rfl size_ver ?_)
            | (go_at_call 36; go_must (refine (rfId_any x wr).mono ?_); rintro e2 w1 ⟨rfl, hx1⟩; rw [HQ.out]; have HX1 := Lib.hid (HX.out.trans hx1); clear hx1 e1))
          go_ret
          exact ⟨by rw [HD.out, HY.out (by simp)]; rfl, HX1.out⟩
        · have t1 : (q == id) = false := by rw [beq_eq_false_iff_ne]; exact hqi
          go_wp2_with (first
            | ((with_reducible show wpList _ _ _ (⟨some 20, _, _, _, _, _⟩ :: _) _ _); refine wpList_load_mid rfl 55 (.tmp 19) rfl b (off + k * 11) rfl x.cs _ e1.out Try.underlying55 rfl size_ver ?_)
            | (go_at_call 36; go_must (refine (rfId_any x wr).mono ?_); rintro e2 w1 ⟨rfl, hx1⟩; rw [HQ.out]; have HX1 := Lib.hid (HX.out.trans hx1); clear hx1 e1))
          go_roundw
          case rel => exact ⟨k + 1, by omega, by go_num, Lib.hid (HN.out t1), HX1⟩
          case measure => simp [intOf]; omega
      · have HE : Hid (fndI ls id = -1) := Lib.hid (by rw [HD.out]; exact idxI_none (fun i hi => HF.out i hi (by omega)))
        go_wp2_with fail
        go_ret
        exact ⟨by rw [HE.out]; rfl, HX.out⟩
theorem erase_next {ls : List Vr} {i k : Nat} (hk : k < ls.length) (h : k ≠ i) : (ls.take (k + 1)).eraseIdx i = (ls.take k).eraseIdx i ++ [ls[k]] := by
  rw [List.take_succ_eq_append_getElem hk]
  have hl : (ls.take k).length = k := by rw [List.length_take]; omega
  by_cases hik : i < k
  · rw [List.eraseIdx_append_of_lt_length (by omega)]
  · rw [List.eraseIdx_append_of_length_le (by omega), List.eraseIdx_of_length_le (l := [ls[k]]) (by simp; omega), List.eraseIdx_of_length_le (l := ls.take k) (by omega)]
theorem erase_skip {ls : List Vr} {k : Nat} (hk : k < ls.length) : (ls.take (k + 1)).eraseIdx k = (ls.take k).eraseIdx k := by
  rw [List.take_succ_eq_append_getElem hk]
  have hl : (ls.take k).length = k := by rw [List.length_take]; omega
  rw [List.eraseIdx_append_of_length_le (by omega), List.eraseIdx_of_length_le (l := ls.take k) (by omega), show k - (ls.take k).length = 0 by omega]
  simp
set_option maxRecDepth 100000 in
set_option maxHeartbeats 1000000 in
theorem rfWithout_any (lv : Value) (ls : List Vr) (i : Nat) (B : Nat) (w : World) (hl : Vs w Any B lv ls) (hll : ls.length ≤ 1000) (hil : i < ls.length) (hBw : B ≤ w.heap.size) :
    Calls Try.prog 59 #[lv, .int .i64 (i : Int)] w fun e w' => ∃ ov, e = .returned ov ∧ OwnV w' w.heap.size B ov (ls.eraseIdx i) ∧ Ext No w w' := by
  obtain ⟨A, c, rfl, hc, hm, b, off, hrow⟩ := hl.old.slice
  have HR := Lib.hid hrow
  have HX0 := Lib.hid (Ext.refl No w)
  have HO0 := Lib.hid (OwnV.nil w w.heap.size B)
  clear hl hrow
  go_enter Try.func59, Try.ntmps59
  go_wp2_with fail
  go_loopw [5, 6] (fun ov iv wr => ∃ k : Nat, k ≤ ls.length ∧ iv = .int .i64 (k : Int) ∧ Hid (OwnV wr w.heap.size B ov ((ls.take k).eraseIdx i)) ∧ Hid (Ext No w wr)) (fun _ iv _ => ls.length - (intOf iv).toNat)
  case atStart => exact ⟨0, by omega, rfl, Lib.hid (by simpa using HO0.out), HX0⟩
  case round =>
    clear HO0 HX0
    obtain ⟨k, hk, rfl, HO, HX⟩ := hrel
    obtain ⟨oA, oc, he, -⟩ := HO.out.slice
    obtain ⟨on, hon⟩ : ∃ n, ((ls.take k).eraseIdx i).length = n := ⟨_, rfl⟩
    rw [hon] at he
    obtain rfl := he
    have HON : Hid (on ≤ 1000) := Lib.hid (by
      have := List.length_eraseIdx_le (ls.take k) i
      rw [List.length_take] at this
      omega)
    have HONE := Lib.hid hon
    clear hon
    by_cases hlt : k < ls.length
    · obtain ⟨rfl, -, hb, hr, hok⟩ := HR.out k hlt
      have HE := Lib.hid (range_ext hr HX.out hb (fun h => h))
      have HOK := Lib.hid (hok.ext_no HX.out)
      have HSZ := Lib.hid HX.out.size
      by_cases hki : k = i
      · have HT : Hid ((ls.take (k + 1)).eraseIdx i = (ls.take k).eraseIdx i) := Lib.hid (by subst hki; exact erase_skip hlt)
        subst hki
        clear hr hok
        go_wp2_with fail
        go_roundw
        case rel => exact ⟨k + 1, by omega, by go_num, Lib.hid (by rw [HT.out]; exact HO.out), HX⟩
        case measure => simp [intOf]; omega
      · have HT := Lib.hid (erase_next (i := i) hlt hki)
        obtain ⟨x, hx⟩ : ∃ x, ls[k] = x := ⟨_, rfl⟩
        rw [hx] at HE HOK HT
        have hcl : x.cs.length = 11 := rfl
        have t1 : ((k : Int) == (i : Int)) = false := by rw [beq_eq_false_iff_ne]; omega
        have t2 : ((k : Int) != (i : Int)) = true := by rw [bne_iff_ne]; omega
        clear hr hok hx
        go_wp2_with (first
          | ((with_reducible show wpList _ _ _ (⟨some 20, _, _, _, _, _⟩ :: _) _ _); refine wpList_load_mid rfl 55 (.tmp 19) rfl b (off + k * 11) rfl x.cs _ HE.out Try.underlying55 rfl size_ver ?_)
          | (at_builtin; go_must (rw [fold_cs]; refine app_vers (.tmp 16) (.tmp 21) rfl rfl w.heap.size B _ _ ((ls.take k).eraseIdx i) [x] rfl rfl (HO.out.no ((Ext.refl No wr).alloc _)) (Vs.lit1 HOK.out) (by have := HON.out; rw [HONE.out]; simp; omega) (by rw [World.size_alloc]; have := HX.out.size; omega) hBw ?_); intro v3 w3 ho3 hx3; have HO3 := Lib.hid ho3; have HX3 := Lib.hid ((HX.out.alloc _).transS hx3 (fun j hj e => by have := (HO.out.lt j e).1; omega)); clear ho3 hx3))
        go_roundw
        case rel => exact ⟨k + 1, by omega, by go_num, Lib.hid (by rw [HT.out]; exact HO3.out), HX3⟩
        case measure => simp [intOf]; omega
    · obtain rfl : k = ls.length := by omega
      have HE : Hid (OwnV wr w.heap.size B (.slice oA on oc) (ls.eraseIdx i)) := Lib.hid (by have h := HO.out; rw [List.take_length] at h; exact h)
      go_wp2_with fail
      go_ret
      exact ⟨_, rfl, HE.out, HX.out⟩
end Go.Proofs.Ytlfhfomidkadiaa
