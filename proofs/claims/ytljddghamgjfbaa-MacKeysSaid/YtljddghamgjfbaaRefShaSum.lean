/- Chapter 2's reference: the sum. -/
import Derived.Test.YtljddghamgjfbaaRefSha
import Derived.Deep.RegionLaw
set_option linter.unusedVariables false
set_option linter.unusedSimpArgs false
namespace Go.Proofs.Ytljddghamgjfbaa
open Go.RowKit Go.Deep Go.Proofs.YtljddghamgjfbaaW.PrintWords Sh Rs

theorem info_u32 : (Try.prog.info? 104).map (fun i => (i.zero, i.size, i.bytes)) = some (some (.int .u32 0), 1, 4) := by kernel_rfl
theorem rWords_m (v : Value) (l : List UInt8) (w : World) (h : Bs w Any v l) (hl : l.length = 64) (m : List Nat) (hm : wl l 64 = m) : Calls Try.prog 78 #[v] w fun e w' => ∃ A c, e = .returned (.slice A 64 c) ∧ Ws w' (.slice A 64 c) m ∧ Ext No w w' := by
  refine (rWords_any v l w h hl).mono ?_
  rintro e w' ⟨v', rfl, h1, h2⟩
  obtain ⟨A, c, e, -⟩ := h1.slice
  rw [wl_length] at e
  subst e
  exact ⟨A, c, rfl, hm ▸ h1, h2⟩
theorem Ws.at {w : World} {A : Option Addr} {n c : Nat} {L : List Nat} (h : Ws w (.slice A n c) L) {k : Nat} (hk : k < n) : ∃ b off, A = some ⟨b, off, none⟩ ∧ w.cell? ⟨b, off + k, none⟩ = some (.int .u32 ((L.getD k 0 : Nat) : Int)) := by
  obtain ⟨A', c', e, _, _, b, off, hh⟩ := h.slice
  injection e with e1 e2 e3
  subst e1
  obtain ⟨h1, h2, h3⟩ := hh k (by omega)
  exact ⟨b, off, h1, h3⟩
theorem Ws.drew {w : World} {v : Value} {L : List Nat} (h : Ws w v L) : Ws w.drew v L := h
theorem l8v (V : V8) : (L8 V).length = 8 := rfl
theorem u32s_append (l m : List Nat) : u32s (l ++ m) = u32s l ++ u32s m := by simp [u32s]
theorem app_u32 {w : World} {ops : Array Oper} {rest : List Oper} {o : Oper} {a : Act} {Q : Exit → Act → World → Prop} (s x : Operand)
    (ho : o.op = .call { callee := .builtin .append, args := #[s, x], argTypes := #[105, 105] }) (hgd : o.guard = none)
    (base : Nat) (v u : Value) (l : List Nat) (n : Nat) (hs : a.eval s = v) (hx : a.eval x = u) (hown : Own32 w base v l) (hu : Ws w u [n]) (hb : l.length ≤ 100) (hbase : base ≤ w.heap.size)
    (h : ∀ v' w', Own32 w' base v' (l ++ [n]) → w.grownBy w' v.ownBlock → (v'.ownBlock = v.ownBlock ∨ v'.ownBlock = some w.heap.size) → wpList Try.prog ops Q rest (a.put o.dst v') w') : wpList Try.prog ops Q (o :: rest) a w :=
  wpList_app hgd s x _ ho base 104 (.int .u32 0) 1 4 Try.underlying105 info_u32 rfl (by omega) v l.length (u32s l) hs hown Any u 1 (u32s [n]) hx hu (fun y hy => by simp [u32s, u32v] at hy; subst hy; rfl) (by unfold maxLen; omega) (by omega) hbase
    fun v' w' h2 h3 h4 => h v' w' (by unfold Own32; rw [u32s_append, List.length_append]; exact h2) h3 h4
theorem step_u32 {w : World} {ops : Array Oper} {o : Oper} {a : Act} {K : Act → World → Prop} {Q : Exit → Act → World → Prop} {E : Prop} (s x : Operand)
    (ho : o.op = .call { callee := .builtin .append, args := #[s, x], argTypes := #[105, 105] }) (hgd : o.guard = none)
    (base : Nat) (v u : Value) (l : List Nat) (n : Nat) (hs : a.eval s = v) (hx : a.eval x = u) (hown : Own32 w base v l) (hu : Ws w u [n]) (hb : l.length ≤ 100) (hbase : base ≤ w.heap.size)
    (h : ∀ v' w', Own32 w' base v' (l ++ [n]) → w.grownBy w' v.ownBlock → (v'.ownBlock = v.ownBlock ∨ v'.ownBlock = some w.heap.size) → K (a.put o.dst v') w') : if Region.wanted o (yielded ops a.tmps) = true then Oper.wp Try.prog o a w K Q else E :=
  step_app hgd s x _ ho base 104 (.int .u32 0) 1 4 Try.underlying105 info_u32 rfl (by omega) v l.length (u32s l) hs hown Any u 1 (u32s [n]) hx hu (fun y hy => by simp [u32s, u32v] at hy; subst hy; rfl) (by unfold maxLen; omega) (by omega) hbase
    fun v' w' h2 h3 h4 => h v' w' (by unfold Own32; rw [u32s_append, List.length_append]; exact h2) h3 h4
theorem ws_lit1 (w : World) (z : Int) (n : Nat) (hz : z = (n : Int)) {g : Nat} (hg : g = w.heap.size := by simp) : Ws (w.alloc (.cells #[.int .u32 z] 104)) (.slice (some ⟨g, 0, none⟩) 1 1) [n] := by
  subst hz hg
  refine ⟨by simp [u32s], _, _, rfl, Nat.le_refl _, by unfold maxLen; decide, fun _ => ⟨w.heap.size, 0, rfl, trivial, fun j u hu => ?_⟩⟩
  match j, hu with
  | 0, hu =>
    have : u = .int .u32 (n : Int) := by simpa [u32s, u32v] using hu.symm
    subst this
    exact (Blk.new w _ _).cell 0
theorem Ws.lit1d {w : World} (z : Int) (n : Nat) (hz : z = (n : Int)) : Ws (w.drew.alloc (.cells #[.int .u32 z] 104)) (.slice (some ⟨w.heap.size, 0, none⟩) 1 1) [n] := ws_lit1 w.drew z n hz rfl
theorem Own32.nil (w : World) (base : Nat) : Own32 w base (.slice none 0 0) [] := World.ownsRow_nil w base _ 1
theorem Own32.alloc {w : World} {base : Nat} {v : Value} {l : List Nat} (h : Own32 w base v l) (o : Obj) : Own32 (w.alloc o) base v l := World.ownsRow.alloc h o
theorem Own32.drew {w : World} {base : Nat} {v : Value} {l : List Nat} (h : Own32 w base v l) : Own32 w.drew base v l := h.no (Ext.refl No w).drew
theorem Own32.lt {w : World} {base : Nat} {v : Value} {l : List Nat} (h : Own32 w base v l) : ∀ k, v.ownBlock = some k → base ≤ k ∧ k < w.heap.size := World.ownsRow.lt h
theorem l8_add (H V : V8) : ∀ k, k < 8 → (L8 (add8 H V)).take (k + 1) = (L8 (add8 H V)).take k ++ [((L8 H).getD k 0 + (L8 V).getD k 0) % M]
  | 0, _ => rfl | 1, _ => rfl | 2, _ => rfl | 3, _ => rfl | 4, _ => rfl | 5, _ => rfl | 6, _ => rfl | 7, _ => rfl
  | k + 8, h => by omega
theorem u32_sum (a b : Nat) : IntKind.u32.wrap ((a : Int) + (b : Int)) = (((a + b) % M : Nat) : Int) := by rw [IntKind.wrap_u32]; unfold M; omega
theorem dig_step (V : V8) : ∀ k, k < 8 → ((L8 V).take (k + 1)).flatMap (fun n => putL n 4) = ((L8 V).take k).flatMap (fun n => putL n 4) ++ putL ((L8 V).getD k 0) 4
  | 0, _ => by simp [L8] | 1, _ => by simp [L8] | 2, _ => by simp [L8] | 3, _ => by simp [L8] | 4, _ => by simp [L8] | 5, _ => by simp [L8] | 6, _ => by simp [L8] | 7, _ => by simp [L8]
  | k + 8, h => by omega
theorem dig_len (V : V8) (k : Nat) (h : k ≤ 8) : (((L8 V).take k).flatMap (fun n => putL n 4)).length ≤ 32 := by
  have : ∀ l : List Nat, (l.flatMap (fun n => putL n 4)).length = 4 * l.length := by
    intro l; induction l with
    | nil => rfl
    | cons a l ih => rw [List.flatMap_cons, List.length_append, ih, putL_length, List.length_cons]; omega
  rw [this, List.length_take, l8v]; omega
theorem dig_all (V : V8) : ((L8 V).take 8).flatMap (fun n => putL n 4) = dig V := by simp [L8, dig]
/-- Within Sum. -/
structure RsS (w0 : World) (kv pv hv : Value) (P : List UInt8) (H : V8) (w : World) : Prop where
  k : Ws w kv kk
  p : Bs w Any pv P
  h : Ws w hv (L8 H)
  x : Ext No w0 w
theorem RsS.no {w0 w w' : World} {kv pv hv : Value} {P : List UInt8} {H : V8} (h : RsS w0 kv pv hv P H w) (hx : Ext No w w') : RsS w0 kv pv hv P H w' := ⟨h.k.no hx, h.p.ext_no hx, h.h.no hx, h.x.trans hx⟩
set_option maxRecDepth 100000 in
set_option maxHeartbeats 8000000 in
theorem rSum_own (v : Value) (m : List UInt8) (w : World) (h : Bs w Any v m) (hm : m.length < 1000000) :
    Calls Try.prog 39 #[v] w fun e w' => ∃ v', e = .returned v' ∧ Own w' w.heap.size v' (sha m) ∧ Ext No w w' := by
  obtain ⟨P, hP⟩ : ∃ P, m ++ padl m = P := ⟨_, rfl⟩
  have hPl : P.length = 64 * nb P := by
    rw [← hP]
    unfold nb padl
    rw [rOf_length]
    simp only [List.length_append, List.length_cons, List.length_replicate, putL_length]
    omega
  have hPm : P.length < 1000200 := by
    rw [← hP]; unfold padl
    simp only [List.length_append, List.length_cons, List.length_replicate, putL_length]
    omega
  obtain ⟨nP, hnP⟩ : ∃ n, nb P = n := ⟨_, rfl⟩
  have hsha : sha m = dig (run nP h0 P) := by unfold sha hOf; rw [hP, hnP]
  rw [hsha]
  rw [hnP] at hPl
  have hv0 : (u32s (L8 h0)).toArray = #[.int .u32 1779033703, .int .u32 3144134277, .int .u32 1013904242, .int .u32 2773480762, .int .u32 1359893119, .int .u32 2600822924, .int .u32 528734635, .int .u32 1541459225] := by kernel_rfl
  have hb0 : Blk (w.alloc (.cells (u32s (L8 h0)).toArray 104)) w.heap.size 104 (u32s (L8 h0)).toArray := Blk.new w _ _
  have hw0 : Ws (w.alloc (.cells (u32s (L8 h0)).toArray 104)) (.slice (some ⟨w.heap.size, 0, none⟩) 8 8) (L8 h0) := ⟨rfl, _, _, rfl, Nat.le_refl _, by unfold maxLen; decide, fun _ => ⟨w.heap.size, 0, rfl, trivial, fun j u hu => by rw [Nat.zero_add, hb0.cell, List.getElem?_toArray]; exact hu⟩⟩
  have hx0 := (Ext.refl No w).alloc (.cells (u32s (L8 h0)).toArray 104)
  rw [hv0] at hw0 hx0
  have HP0 := Lib.hid (fun wx (hx : Ext No w wx) => rPadded_any v m wx (h.ext_no hx) hm)
  rw [hP] at HP0
  have HW0 := Lib.hid hw0
  have HX0 := Lib.hid hx0
  have HPL := Lib.hid hPl
  have HPM := Lib.hid hPm
  clear h hm hP hPl hPm hnP hsha hv0 hb0 hw0 hx0
  obtain ⟨H0, hH0⟩ : ∃ H, h0 = H := ⟨_, rfl⟩
  rw [hH0] at HW0 ⊢
  have HO : Hid H0.Ok := Lib.hid (by rw [← hH0]; exact h0_ok)
  clear hH0
  go_enter Try.func39, Try.ntmps39
  go_wp2_with (first
    | (go_at_call 76; refine (rK_any _).mono ?_; rintro e1 w1 ⟨kv, rfl, hk1, hx1⟩; obtain ⟨kA, kc, ek, -⟩ := hk1.slice; rw [show kk.length = 64 from rfl] at ek; subst ek; have HK1 := Lib.hid hk1; have HW1 := Lib.hid (HW0.out.no hx1); have HX1 := Lib.hid (HX0.out.trans hx1); clear hk1 hx1)
    | (go_at_call 77; refine (HP0.out _ HX1.out).mono ?_; rintro e2 w2 ⟨pv, rfl, hp2, hx2⟩; obtain ⟨pA, pc, rfl, hpc, hpm, -⟩ := hp2.slice; have HS : Hid (RsS w (.slice kA 64 kc) (.slice pA P.length pc) (.slice (some ⟨w.heap.size, 0, none⟩) 8 8) P H0 w2) := Lib.hid ⟨HK1.out.no hx2, hp2, HW1.out.no hx2, HX1.out.trans hx2⟩; clear hp2 hx2 HK1 HW1 HX1))
  clear HP0 HW0 HX0
  have HPC := Lib.hid (And.intro hpc hpm)
  clear hpc hpm
  go_loopw [3, 6] (fun hv i wr => ∃ q : Nat, q ≤ nP ∧ i = .int .i64 ((64 * q : Nat) : Int) ∧ Hid (RsS w (.slice kA 64 kc) (.slice pA P.length pc) hv P (run q H0 P) wr)) (fun _ i _ => 64 * nP - (intOf i).toNat)
  case atStart => exact ⟨0, by omega, by simp, HS⟩
  case round =>
    obtain ⟨q, hq, rfl, HR⟩ := hrel
    clear HS
    by_cases hlt : q < nP
    · have hpl := HPL.out
      have hpm := HPM.out
      obtain ⟨hA, hB⟩ := HPC.out
      unfold maxLen at hB
      obtain ⟨V, hV⟩ : ∃ V, run q H0 P = V := ⟨_, rfl⟩
      have HV := Lib.hid hV
      rw [hV] at HR
      have hVo : V.Ok := by rw [← hV]; exact run_ok _ _ _ HO.out
      have HVO := Lib.hid hVo
      have hi1 : ((64 * q : Nat) : Int) < (P.length : Int) := by omega
      have hi2 : ((64 * q : Nat) : Int) + 64 ≤ (P.length : Int) := by omega
      obtain ⟨b, off, hcell⟩ : ∃ b off, pA = some ⟨b, off, none⟩ := by
        obtain ⟨A, c, e, _, _, b, off, hh⟩ := HR.out.p.slice
        injection e with e1 e2 e3
        exact ⟨b, off, e1.trans (hh 0 (by omega)).1⟩
      subst hcell
      clear hV hVo
      have HSB : Hid (Bs wr Any (.slice (some ⟨b, off + 64 * q, none⟩) 64 (pc - 64 * q)) ((P.drop (64 * q)).take 64)) := Lib.hid (by
        have := HR.out.p.sub (i := 64 * q) (j := 64 * q + 64) (by omega) (by omega) (m := 64) (c' := pc - 64 * q) (by omega) (by omega) (by unfold maxLen; omega)
        rwa [List.drop_take, show 64 * q + 64 - 64 * q = 64 by omega] at this)
      obtain ⟨B, hB⟩ : ∃ B, (P.drop (64 * q)).take 64 = B := ⟨_, rfl⟩
      have HBE := Lib.hid hB
      have HBL : Hid (B.length = 64) := Lib.hid (by rw [← hB, List.length_take, List.length_drop]; omega)
      rw [hB] at HSB
      clear hB
      obtain ⟨m64, hm64⟩ : ∃ m, wl B 64 = m := ⟨_, rfl⟩
      have hml : m64.length = 64 := by rw [← hm64]; exact wl_length _ _
      have HML := Lib.hid hml
      have HWC := Lib.hid (rWords_m _ B wr HSB.out HBL.out m64 hm64)
      have HM : Hid (comp V B = add8 V (vr m64 V 64)) := Lib.hid (by unfold comp; rw [hm64])
      clear hm64 hml HSB hpl
      go_wp2_with (go_at_call 78; refine HWC.out.mono ?_; rintro e3 w3 ⟨wA, wc, rfl, hw3, hx3⟩; have HW3 := Lib.hid hw3; have HR3 := Lib.hid (HR.out.no hx3); clear hw3 hx3)
      clear HWC
      obtain ⟨w9, hw9⟩ : ∃ x, w3 = x := ⟨_, rfl⟩
      rw [hw9] at HR3 HW3
      go_loopw [8, 9] (fun vv j wx => ∃ k : Nat, k ≤ 64 ∧ j = .int .i64 ((k : Nat) : Int) ∧ Hid (Ws wx vv (L8 (vr m64 V k))) ∧ Hid (Ext No w9 wx)) (fun _ i _ => 64 - (intOf i).toNat)
      case atStart => exact ⟨0, by omega, by simp, Lib.hid (by rw [hw9]; exact HR3.out.h), Lib.hid (by rw [hw9]; exact Ext.refl _ _)⟩
      case round =>
        obtain ⟨k, hk, rfl, HV8, HX8⟩ := hrel
        by_cases hlt2 : k < 64
        · obtain ⟨vA, vc, ev, -⟩ := HV8.out.slice
          rw [l8v] at ev
          subst ev
          obtain ⟨kb, ko, rfl, hck⟩ := (HR3.out.k.no HX8.out).at hlt2
          obtain ⟨xb, xo, rfl, hcx⟩ := (HW3.out.no HX8.out).at hlt2
          have HS1 : Hid (vr m64 V (k + 1) = rnd (kk.getD k 0) (m64.getD k 0) (vr m64 V k)) := Lib.hid rfl
          obtain ⟨kn, hkn⟩ : ∃ x, kk.getD k 0 = x := ⟨_, rfl⟩
          obtain ⟨xn, hxn⟩ : ∃ x, m64.getD k 0 = x := ⟨_, rfl⟩
          obtain ⟨U, hU⟩ : ∃ U, vr m64 V k = U := ⟨_, rfl⟩
          have HUO : Hid U.Ok := Lib.hid (by rw [← hU]; exact vr_ok _ _ HVO.out _)
          rw [hU] at HV8
          rw [hkn, hxn, hU] at HS1
          rw [hkn] at hck
          rw [hxn] at hcx
          have HCL := Lib.hid (rRound_any _ U kn xn wr.drew HV8.out.drew HUO.out)
          clear hU hkn hxn
          go_wp2_with fail
          go_still_tail 9, (by kernel_rfl)
          change wpList _ _ _ _ _ wr.drew
          go_wp2_with (go_at_call 79; refine HCL.out.mono ?_; rintro e4 w4 ⟨v4, rfl, hv4, hx4⟩; have HV4 := Lib.hid hv4; have HX4 : Hid (Ext No w9 w4) := Lib.hid (HX8.out.drew.trans hx4); clear hv4 hx4)
          go_roundw
          case rel => exact ⟨k + 1, by omega, by go_num, by rw [HS1.out]; exact HV4, HX4⟩
          case measure => simp [intOf]; omega
        · obtain rfl : k = 64 := by omega
          go_wp2_with fail
          rw [show ((64 : Nat) : Int) = 64 from rfl]
          obtain ⟨Z, hZ⟩ : ∃ Z, vr m64 V 64 = Z := ⟨_, rfl⟩
          rw [hZ] at HV8 HM
          clear hZ
          have HR5 := Lib.hid (HR3.out.no HX8.out)
          obtain ⟨vA, vc, ev, -⟩ := HV8.out.slice
          rw [l8v] at ev
          subst ev
          obtain ⟨hhA, hhc, eh, -⟩ := HR5.out.h.slice
          rw [l8v] at eh
          subst eh
          clear HR3 HX8 HW3 HML HR
          obtain ⟨wb, hwb⟩ : ∃ x, wr = x := ⟨_, rfl⟩
          rw [hwb] at HR5 HV8
          go_loopw [10, 11] (fun y j wz => ∃ k : Nat, k ≤ 8 ∧ j = .int .i64 ((k : Nat) : Int) ∧ Hid (Own32 wz wb.heap.size y ((L8 (add8 V Z)).take k)) ∧ Hid (Ext No wb wz)) (fun _ i _ => 8 - (intOf i).toNat)
          case atStart => exact ⟨0, by omega, by simp, Lib.hid (Own32.nil _ _), Lib.hid (by rw [hwb]; exact Ext.refl _ _)⟩
          case round =>
            obtain ⟨k, hk, rfl, HY, HX8⟩ := hrel
            by_cases hlt3 : k < 8
            · obtain ⟨hb, ho, rfl, hch⟩ := (HR5.out.h.no HX8.out).at hlt3
              obtain ⟨vb, vo, rfl, hcv⟩ := (HV8.out.no HX8.out).at hlt3
              have HS1 := Lib.hid (l8_add V Z k hlt3)
              obtain ⟨an, han⟩ : ∃ x, (L8 V).getD k 0 = x := ⟨_, rfl⟩
              obtain ⟨bn, hbn⟩ : ∃ x, (L8 Z).getD k 0 = x := ⟨_, rfl⟩
              rw [han] at hch
              rw [hbn] at hcv
              rw [han, hbn] at HS1
              have hsum := u32_sum an bn
              have HS3 := Lib.hid hsum
              obtain ⟨YL, hYL⟩ : ∃ x, (L8 (add8 V Z)).take k = x := ⟨_, rfl⟩
              have HYL : Hid (YL.length ≤ 100) := Lib.hid (by rw [← hYL, List.length_take]; omega)
              rw [hYL] at HY HS1
              clear han hbn hYL hsum
              have hsz := HX8.out.size
              go_wp2_with fail
              go_region_law (refine step_u32 (.tmp 49) (.tmp 59) rfl rfl wb.heap.size u10 (.slice (some ⟨wr.heap.size, 0, none⟩) 1 1) YL ((an + bn) % M) (by simp [Act.eval, Act.put]) (by simp [Act.eval, Act.put]) (by exact HY.out.no (((Ext.refl No wr).drew).alloc _)) (by exact Ws.lit1d _ _ (by first | exact HS3.out | (rw [← HS3.out]; simp))) HYL.out (by simp; omega) ?_; intro v' w5 hown5 hg5 hat5; have HY5 := Lib.hid hown5; have HX5 : Hid (Ext No wb w5) := Lib.hid (((HX8.out.drew.alloc _)).grown hg5 (fun j hj hl => absurd hl (by have := (HY.out.lt j hj).1; omega))); clear hown5 hg5 hat5)
              all_goals
                go_wp2
                go_roundw
                case rel => exact ⟨k + 1, by omega, by go_num, by rw [HS1.out]; exact HY5, HX5⟩
                case measure => simp [intOf]; omega
            · obtain rfl : k = 8 := by omega
              go_wp2_with fail
              have HY9 := Lib.hid (show Ws wr u10 (L8 (add8 V Z)) from HY.out.ws)
              go_roundw
              case rel => exact ⟨q + 1, by omega, by go_num, Lib.hid ⟨HR5.out.k.no HX8.out, HR5.out.p.ext_no HX8.out, by rw [run_add q 1, HV.out]; show Ws _ _ (L8 (comp V _)); rw [HBE.out, HM.out]; exact HY9.out, HR5.out.x.trans HX8.out⟩⟩
              case measure => simp [intOf]; omega
    · obtain rfl : q = nP := by omega
      have hn : ¬ ((64 * q : Nat) : Int) < (P.length : Int) := by have := HPL.out; omega
      go_wp2_with fail
      have hdec : decide (64 * (q : Int) < (P.length : Int)) = false := decide_eq_false (by omega)
      rw [hdec]
      clear hdec
      obtain ⟨D, hD⟩ : ∃ D, run q H0 P = D := ⟨_, rfl⟩
      have HDO : Hid D.Ok := Lib.hid (by rw [← hD]; exact run_ok _ _ _ HO.out)
      rw [hD] at HR
      have HD := Lib.hid hD
      obtain ⟨hhA, hhc, eh, -⟩ := HR.out.h.slice
      rw [l8v] at eh
      subst eh
      clear hD
      obtain ⟨wb, hwb⟩ : ∃ x, wr = x := ⟨_, rfl⟩
      rw [hwb] at HR
      go_loopw [12, 13] (fun y j wz => ∃ k : Nat, k ≤ 8 ∧ j = .int .i64 ((k : Nat) : Int) ∧ Hid (Own wz wb.heap.size y (((L8 D).take k).flatMap (fun n => putL n 4))) ∧ Hid (Ext No wb wz)) (fun _ i _ => 8 - (intOf i).toNat)
      case atStart => exact ⟨0, by omega, by simp, Lib.hid (Own.nil _ _), Lib.hid (by rw [hwb]; exact Ext.refl _ _)⟩
      case round =>
        obtain ⟨k, hk, rfl, HY, HX8⟩ := hrel
        by_cases hlt4 : k < 8
        · obtain ⟨hb, ho, rfl, hch⟩ := (HR.out.h.no HX8.out).at hlt4
          have HS1 := Lib.hid (dig_step D k hlt4)
          have HNL := L8_lt D HDO.out k
          obtain ⟨an, han⟩ : ∃ x, (L8 D).getD k 0 = x := ⟨_, rfl⟩
          rw [han] at hch HS1 HNL
          have HYL := Lib.hid (dig_len D k hk)
          obtain ⟨YL, hYL⟩ : ∃ x, ((L8 D).take k).flatMap (fun n => putL n 4) = x := ⟨_, rfl⟩
          rw [hYL] at HY HS1 HYL
          have hcv : IntKind.u64.wrap (an : Int) = (an : Int) := by rw [IntKind.wrap_u64]; unfold M at HNL; omega
          clear han hYL
          have HPT := Lib.hid (rPut_nat 4 an wr (by unfold M at HNL; omega) (by omega))
          clear HNL
          go_wp2_with (first
            | (go_at_call 80; refine HPT.out.mono ?_; rintro e5 w5 ⟨v5, rfl, ho5, hx5⟩; have HO5 := Lib.hid ho5.any; have HY5 := Lib.hid (HY.out.ext_no hx5); have HX5 := Lib.hid (HX8.out.trans hx5); clear ho5 hx5)
            | (at_builtin; go_must (refine app_bytes (.tmp 66) (.tmp 72) rfl rfl wb.heap.size u12 _ _ _ rfl rfl HY5.out Any HO5.out (by have := HYL.out; rw [putL_length]; omega) (by have := HX5.out.size; omega) ?_); intro v6 w6 ho6 hg6 hat6; have HY6 := Lib.hid ho6; have HX6 : Hid (Ext No wb w6) := Lib.hid (HX5.out.grown hg6 (fun j hj hl => absurd hl (by have := (HY5.out.lt j hj).1; omega))); clear ho6 hg6 hat6))
          go_roundw
          case rel => exact ⟨k + 1, by omega, by go_num, by rw [HS1.out]; exact HY6, HX6⟩
          case measure => simp [intOf]; omega
        · obtain rfl : k = 8 := by omega
          rw [dig_all] at HY
          go_wp2_with fail
          go_ret
          exact ⟨_, rfl, by rw [HD.out]; exact HY.out.less HR.out.x.size, HR.out.x.trans HX8.out⟩
theorem rSum_any (v : Value) (m : List UInt8) (w : World) (h : Bs w Any v m) (hm : m.length < 1000000) :
    Calls Try.prog 39 #[v] w fun e w' => ∃ v', e = .returned v' ∧ Bs w' Any v' (sha m) ∧ Ext No w w' :=
  (rSum_own v m w h hm).mono fun _ _ ⟨v', e, ho, hx⟩ => ⟨v', e, ho.any, hx⟩
end Go.Proofs.Ytljddghamgjfbaa
