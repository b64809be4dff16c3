/- Law 26: behind. -/
import Derived.Test.YtlfhfomidkadiaaRuleSame2
import Derived.StillTailTactics
set_option linter.unusedVariables false
set_option linter.unusedSimpArgs false
namespace Go.Proofs.Ytlfhfomidkadiaa
open Go.RowKit Go.Deep

def behS (s : Int) : Int := IntKind.i64.wrap (IntKind.i64.wrap (IntKind.i64.wrap (s.tdiv 2) + IntKind.i64.wrap (s.tdiv 2)) + 2)
theorem behS_is {s : Int} (h1 : 1 ≤ s) (h2 : s ≤ 9223372036854775807) : (-9223372036854775808 ≤ behS s ∧ behS s ≤ 9223372036854775807) ∧ (1 ≤ behS s → s < behS s) := by
  have e1 : s.tdiv 2 = s / 2 := Int.tdiv_eq_ediv_of_nonneg (by omega)
  obtain ⟨q, hq⟩ : ∃ q, s / 2 = q := ⟨_, rfl⟩
  have hq1 : 2 * q ≤ s := by omega
  have hq2 : s < 2 * q + 2 := by omega
  unfold behS
  rw [e1, hq]
  clear e1 hq
  have e2 : IntKind.i64.wrap q = q := IntWalk.i64_in q (by omega)
  rw [e2]
  clear e2
  have e3 : IntKind.i64.wrap (q + q) = q + q := IntWalk.i64_in (q + q) (by omega)
  rw [e3]
  clear e3
  by_cases h : q + q + 2 ≤ 9223372036854775807
  · have e4 : IntKind.i64.wrap (q + q + 2) = q + q + 2 := IntWalk.i64_in _ (by omega)
    rw [e4]
    clear e4
    omega
  · have e5 : q + q + 2 = 9223372036854775808 := by omega
    rw [e5]
    have e6 : IntKind.i64.wrap 9223372036854775808 = -9223372036854775808 := by decide
    rw [e6]
    clear e6
    omega
def seqV (s : Int) : Vr := { Vr.zero with seq := s }
set_option pp.deepTerms true in
set_option pp.maxSteps 1000000 in
set_option maxRecDepth 100000 in
set_option maxHeartbeats 1000000 in
theorem lBehind (lv : Value) (ls : List Vr) (B : Nat) (w : World) (hl : Vs w Any B lv ls) (hll : ls.length ≤ 1000) (hr : ∀ x ∈ ls, 1 ≤ x.seq) (hf : Falls ls) :
    Calls Try.prog 37 #[lv] w fun e w' => ∃ s, e = .returned (.agg (seqV s).cs.toArray) ∧ ((-9223372036854775808 ≤ s ∧ s ≤ 9223372036854775807) ∧ (1 ≤ s → ∀ x ∈ ls, x.seq < s)) ∧ Ext No w w' := by
  obtain ⟨A, c, rfl, hc, hm, b, o, hrow⟩ := hl.slice
  by_cases h0 : ls.length = 0
  · have t0 : ((ls.length : Int) == 0) = true := by rw [h0]; rfl
    have HZ := Lib.hid (Blk.new w 55 Vr.zero.cs.toArray)
    have HX := Lib.hid ((Ext.refl No w).alloc (.cells Vr.zero.cs.toArray 55))
    clear hl hrow hr
    go_enter Try.func37, Try.ntmps37
    go_wp2_with fail
    exact bodyPost_ret (ret_blk rfl (Blk.new w 55 (seqV 1).cs.toArray) rfl _ Try.underlying55 rfl size_ver) rfl ⟨1, rfl, ⟨by omega, fun _ x hx => by rw [List.length_eq_zero_iff.1 h0] at hx; cases hx⟩, (Ext.refl No w).alloc _⟩
  · have hlt : 0 < ls.length := by omega
    obtain ⟨rfl, -, hb, hrw, hok⟩ := hrow 0 hlt
    have hs := hr _ (List.getElem_mem hlt)
    have HZ := Lib.hid (Blk.new w 55 Vr.zero.cs.toArray)
    have HX := Lib.hid ((Ext.refl No w).alloc (.cells Vr.zero.cs.toArray 55))
    have d0 : (w.alloc (.cells Vr.zero.cs.toArray 55)).cell? ⟨b, o, none⟩ = some (.int .i64 ls[0].seq) := (range_ext hrw HX.out hb (fun h => h)) 0 _ rfl
    have hb1 := hok.b.1
    have HM : Hid (∀ x ∈ ls, x.seq ≤ ls[0].seq) := Lib.hid (fun x hx => by
      obtain ⟨j, hj, rfl⟩ := List.getElem_of_mem hx
      rcases Nat.eq_zero_or_pos j with rfl | h
      · exact Int.le_refl _
      · exact Int.le_of_lt (hf 0 j hlt hj h))
    obtain ⟨s, hse⟩ : ∃ s, ls[0].seq = s := ⟨_, rfl⟩
    rw [hse] at d0 hs hb1 HM
    have HBS := Lib.hid (behS_is hs hb1.2)
    have t0 : ((ls.length : Int) == 0) = false := by rw [beq_eq_false_iff_ne]; omega
    have t1 : (0 : Int) < (ls.length : Int) := by omega
    obtain ⟨w0, hw0⟩ : ∃ x, w.alloc (.cells Vr.zero.cs.toArray 55) = x := ⟨_, rfl⟩
    rw [hw0] at HZ HX d0
    have HW := Lib.hid hw0
    clear hl hrow hr hrw hok hw0 hf hse
    go_enter Try.func37, Try.ntmps37
    go_wp2_with fail
    change Code.wp _ _ _ _ (w.alloc (.cells Vr.zero.cs.toArray 55))
    rw [HW.out]
    go_still_tail 13, (by kernel_rfl)
    change wpList _ _ _ _ _ w0.drew
    have HZ2 := Lib.hid HZ.out.drew
    have HX2 := Lib.hid HX.out.drew
    generalize w0.drew = w2 at *
    go_wp2_with ((with_reducible show wpList _ _ _ (⟨none, .store 55 (.tmp 2) (.tmp 19), _, _, _, _⟩ :: _) _ _); go_must (refine store_blk 55 (.tmp 2) (.tmp 19) rfl rfl HZ2.out rfl (cs' := (seqV (behS s)).cs.toArray) rfl rfl size_ver (cs_one' _) ?_); intro w3 hb3 hx3; have HB3 := Lib.hid hb3; have HX3 := Lib.hid (HX2.out.transS hx3 (fun i hi e => by have e : i = w.heap.size := e; omega)); clear hb3 hx3)
    exact bodyPost_ret (ret_blk rfl HB3.out rfl _ Try.underlying55 rfl size_ver) rfl ⟨behS s, rfl, ⟨HBS.out.1, fun h x hx => Int.lt_of_le_of_lt (HM.out x hx) (HBS.out.2 h)⟩, HX3.out⟩
end Go.Proofs.Ytlfhfomidkadiaa
