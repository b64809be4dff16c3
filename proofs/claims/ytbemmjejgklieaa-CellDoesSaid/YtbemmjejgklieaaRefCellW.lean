/- The reference's cell: Write. -/
import Derived.Test.YtbemmjejgklieaaRefCell
set_option linter.unusedVariables false
set_option linter.unusedSimpArgs false
namespace Go.Proofs.Ytbemmjejgklieaa
open Go.RowKit Go.Deep

theorem rcWrite_range (st f n at_ : Int) (d dn : Bool) (A B : Option Addr) (m c m' c' : Nat) (w : World) (ha : at_ < 0 ∨ 4 ≤ at_) :
    Calls Try.prog 35 #[rcv st f d dn (.slice A m c) n, .int .i64 at_, .slice B m' c'] w fun e w' => e = .returned (.tuple #[rcv st f d dn (.slice A m c) n, .int .i64 2]) ∧ Ext No w w' := by
  by_cases h0 : at_ < 0
  · clear ha
    go_enter Try.func35, Try.ntmps35
    go_wp2
    refine bodyPost_ret (v := .tuple #[rcv st f d dn (.slice A m c) n, .int .i64 2]) (by simp [results, Try.results35, go_sem]) rfl ⟨rfl, ?_⟩
    repeat (first | with_reducible refine Ext.setCell ?_ (by simp) _ | with_reducible refine Ext.alloc ?_ _ | with_reducible exact Ext.refl _ _)
  · have h4 : 3 < at_ := by omega
    clear ha
    go_enter Try.func35, Try.ntmps35
    go_wp2
    refine bodyPost_ret (v := .tuple #[rcv st f d dn (.slice A m c) n, .int .i64 2]) (by simp [results, Try.results35, go_sem]) rfl ⟨rfl, ?_⟩
    repeat (first | with_reducible refine Ext.setCell ?_ (by simp) _ | with_reducible refine Ext.alloc ?_ _ | with_reducible exact Ext.refl _ _)
theorem rcWrite_size (st f n : Int) (k : Nat) (d dn : Bool) (A B : Option Addr) (m c m' c' : Nat) (w : World) (hk : k < 4) (hn : 1024 < m') :
    Calls Try.prog 35 #[rcv st f d dn (.slice A m c) n, .int .i64 (k : Int), .slice B m' c'] w fun e w' => e = .returned (.tuple #[rcv st f d dn (.slice A m c) n, .int .i64 17]) ∧ Ext No w w' := by
  have h0 : ¬ (k : Int) < 0 := by omega
  have h4 : ¬ 3 < (k : Int) := by omega
  have h5 : (1024 : Int) < (m' : Int) := by omega
  go_enter Try.func35, Try.ntmps35
  go_wp2
  refine bodyPost_ret (v := .tuple #[rcv st f d dn (.slice A m c) n, .int .i64 17]) (by simp [results, Try.results35, go_sem]) rfl ⟨rfl, ?_⟩
  repeat (first | with_reducible refine Ext.setCell ?_ (by simp) _ | with_reducible refine Ext.alloc ?_ _ | with_reducible exact Ext.refl _ _)

theorem own_form {w : World} {base n size : Nat} {e : TypeId} {v : Value} {xs : List Value} (h : w.ownsRow base e size v n xs) (hn : 0 < n) : ∃ g cap cur, v = .slice (some ⟨g, 0, none⟩) n cap ∧ Blk w g e cur ∧ base ≤ g ∧ n ≤ cap ∧ cap ≤ maxLen ∧ cur.size = cap * size ∧ cur.toList.take (n * size) = xs := by
  rcases h.2 with ⟨_, h0⟩ | ⟨g, cap, cur, h1, h2, h3, h4, h5, h6, h7⟩
  · omega
  · exact ⟨g, cap, cur, h1, h3, h2, h4, h5, h6, h7⟩
/-- What the copy has behind i of the bytes. -/
def fillB (l : List UInt8) (i : Nat) : List UInt8 := l.take i ++ List.replicate (1024 - i) 0
theorem fillB_length {l : List UInt8} {i : Nat} (h : i ≤ l.length) (h2 : l.length ≤ 1024) : (fillB l i).length = 1024 := by simp [fillB]; omega
theorem fillB_all (l : List UInt8) : fillB l l.length = pad l := by simp [fillB, pad]
theorem fillB_succ {l : List UInt8} {i : Nat} (h : i < l.length) (h2 : l.length ≤ 1024) : (u8s (fillB l i)).toArray.setIfInBounds i (.int .u8 (l[i].toNat : Int)) = (u8s (fillB l (i + 1))).toArray := by
  have hm : 1024 - i = (1024 - (i + 1)) + 1 := by omega
  apply Array.ext'
  simp only [Array.toList_setIfInBounds]
  have h3 : (u8s (List.take i l)).length = i := by simp [u8s]; omega
  rw [show u8s (fillB l i) = u8s (l.take i) ++ u8s (List.replicate (1024 - i) 0) from u8s_append _ _, show u8s (fillB l (i + 1)) = u8s (l.take (i + 1)) ++ u8s (List.replicate (1024 - (i + 1)) 0) from u8s_append _ _]
  rw [List.set_append_right _ _ (by omega), h3, Nat.sub_self, hm, List.replicate_succ, List.take_succ_eq_append_getElem h, u8s_append]
  simp [u8s, u8v]
theorem made_u8 (m : Nat) : madeCells #[.int .u8 0] m = (u8s (List.replicate m 0)).toArray := by
  apply Array.ext'
  rw [toList_madeCells_one]
  simp [u8s, u8v]
theorem box0 {w w4 : World} {t t' : TypeId} {x y : Array Value} (hx : Ext No ((w.alloc (.cells x t)).alloc (.cells y t')) w4) : Blk w4 w.heap.size t x ∧ Blk w4 (w.heap.size + 1) t' y := by
  refine ⟨Blk.ext_no ((Blk.new w _ _).alloc _) hx, ?_⟩
  have := Blk.ext_no (Blk.new (w.alloc (.cells x t)) _ _) hx
  simpa using this
theorem out1 (w : World) (x y : Array Value) (t t' : TypeId) : Blk ((w.alloc (.cells x t)).alloc (.cells y t')) (w.heap.size + 1) t' y := by
  have := Blk.new (w.alloc (.cells x t)) t' y
  simpa using this
set_option maxRecDepth 100000 in
set_option maxHeartbeats 1000000 in
theorem rcWrite_no (F : Nat → Prop) (st f n : Int) (k : Nat) (d dn : Bool) (A B : Option Addr) (m c m' c' : Nat) (w : World) (hk : k < 4) (hn : m' ≤ 1024) (hf : -1 ≤ f) (hf2 : f ≤ 9223372036854775807) (hd : pdone f d dn = false) :
    Calls Try.prog 35 #[rcv st f d dn (.slice A m c) n, .int .i64 (k : Int), .slice B m' c'] w fun e w' => e = .returned (.tuple #[rcv (ps' st dn) (pf' f dn) d (pdn' f dn) (.slice A m c) n, .int .i64 (okc (pok f dn))]) ∧ Ext No w w' := by
  have h0 : ¬ (k : Int) < 0 := by omega
  have h4 : ¬ 3 < (k : Int) := by omega
  have h5 : ¬ (1024 : Int) < (m' : Int) := by omega
  have hok : pok f dn = false := by
    revert hd; unfold pdone pok; cases dn <;> simp
    intro h _; exact h
  go_enter Try.func35, Try.ntmps35
  go_wp2_with (go_at_call 17; refine (rStep_any _ _ _ _ _ hf hf2).mono ?_; rintro e w4 ⟨rfl, hx⟩; rw [hd, hok]; have hb := Lib.hid (box0 hx); have B0 := Blk.c6 hb.out.1; have B1 := Blk.c6 hb.out.2; have hsz := hx.size; simp at hsz; have hg0 : w.heap.size < w4.heap.size + 1 := (by omega); have hg1 : w.heap.size + 1 < w4.heap.size + 1 := (by omega); have hg2 : w.heap.size < w4.heap.size + 1 + 1 := (by omega); have hg3 : w.heap.size + 1 < w4.heap.size + 1 + 1 := (by omega); have HX := Lib.hid hx; clear hx)
  refine bodyPost_ret (v := .tuple #[rcv (ps' st dn) (pf' f dn) d (pdn' f dn) (.slice A m c) n, .int .i64 5]) (by simp [results, Try.results35, go_sem, B0, B1, hg0, hg1, hg2, hg3]) rfl ⟨by rw [hok]; rfl, ?_⟩
  have hx := ((((Ext.refl No w).alloc _).alloc _).trans HX.out)
  repeat (first | with_reducible refine Ext.setCell ?_ (by simp; try omega) _ | with_reducible refine Ext.alloc ?_ _ | with_reducible exact hx)

theorem parts_set {w wf : World} {F : Nat → Prop} {vs : List Value} {ls : List (List UInt8)} {l : List UInt8} {k g gs c2 : Nat} {t : TypeId} {cur : Array Value} (hk : k < ls.length) (hr : ∀ i, (hi : i < ls.length) → ∃ u, vs[i]? = some u ∧ Bs w F u ls[i])
    (hx : Ext No w wf) (hg : F g) (hgs : F gs) (hb : Blk wf g t (cur.setIfInBounds k (.slice (some ⟨gs, 0, none⟩) 1024 1024))) (hs : Blk wf gs 5 (u8s (pad l)).toArray) (hcl : ls.length ≤ c2) (hcs : cur.size = c2 * 1) (hm : c2 ≤ maxLen)
    (hcur : cur.toList.take (ls.length * 1) = vs) (hl : l.length ≤ 1024) : Parts wf F (.slice (some ⟨g, 0, none⟩) ls.length c2) (ls.set k (pad l)) := by
  rw [Nat.mul_one] at hcur hcs
  have hvl : vs.length = ls.length := by rw [← hcur]; simp; omega
  have hp := pad_length hl
  refine ⟨vs.set k (.slice (some ⟨gs, 0, none⟩) 1024 1024), ⟨by simp [hvl], _, c2, by rw [List.length_set], by rw [List.length_set]; exact hcl, hm, fun _ => ⟨g, 0, rfl, hg, fun i u hu => ?_⟩⟩, fun i hi => ?_⟩
  · rw [Nat.zero_add, hb.cell i]
    have hil : i < ls.length := by
      have := (List.getElem?_eq_some_iff.1 hu).1
      simpa [hvl] using this
    rw [← hcur] at hu
    rw [← Array.getElem?_toList, Array.toList_setIfInBounds]
    rw [List.getElem?_set] at hu ⊢
    split at hu
    · rename_i hki
      subst hki
      rw [if_pos rfl, if_pos (by simp; omega)]
      rw [if_pos (by simp; omega)] at hu
      exact hu
    · rename_i hki
      rw [if_neg hki]
      rw [List.getElem?_take_of_lt hil] at hu
      exact hu
  · rw [List.length_set] at hi
    by_cases hki : k = i
    · subst hki
      refine ⟨.slice (some ⟨gs, 0, none⟩) 1024 1024, by simp [hvl, hk], ?_⟩
      simp only [List.getElem_set_self]
      refine ⟨by simp [u8s_length], some ⟨gs, 0, none⟩, 1024, by rw [hp], by omega, by unfold maxLen; decide, fun _ => ⟨gs, 0, rfl, hgs, fun j u hu => ?_⟩⟩
      rw [Nat.zero_add, hs.cell j, ← Array.getElem?_toList]
      exact hu
    · obtain ⟨u, h1, h2⟩ := hr i hi
      refine ⟨u, by rw [List.getElem?_set_ne hki]; exact h1, ?_⟩
      rw [List.getElem_set_ne hki]
      exact h2.ext_no hx
set_option maxRecDepth 100000 in
set_option maxHeartbeats 1000000 in
theorem rcWrite_yes (F : Nat → Prop) (st f n : Int) (k : Nat) (d dn : Bool) (lv bv : Value) (ls : List (List UInt8)) (l : List UInt8) (w : World) (hk : k < 4) (hlen : ls.length = 4) (hn : l.length ≤ 1024) (hf : -1 ≤ f) (hf2 : f ≤ 9223372036854775807) (hd : pdone f d dn = true)
    (hF : ∀ b, w.heap.size ≤ b → F b) (hp : Parts w F lv ls) (hb : Bs w Any bv l) :
    Calls Try.prog 35 #[rcv st f d dn lv n, .int .i64 (k : Int), bv] w fun e w' => ∃ lv', e = .returned (.tuple #[rcv (ps' st dn) (pf' f dn) d (pdn' f dn) lv' (wrap64 (n + 1)), .int .i64 (okc (pok f dn))]) ∧ Parts w' F lv' (ls.set k (pad l)) ∧ Ext No w w' := by
  obtain ⟨B, c', rfl, hbc, hbm, b0, o0, hB⟩ := hb.slice
  obtain ⟨vs, hvs, hrow⟩ := hp
  obtain ⟨hv1, A, c, rfl, hvc, hvm, hvn⟩ := hvs
  have h0 : ¬ (k : Int) < 0 := by omega
  have h4 : ¬ 3 < (k : Int) := by omega
  have h5 : ¬ (1024 : Int) < (l.length : Int) := by omega
  have hmk : ∀ W, (Instr.makeSlice 41 (.int .i64 1024) (.int .i64 1024)).run Try.prog W = .ok (.slice (some ⟨W.heap.size, 0, none⟩) 1024 1024) (W.alloc (.cells (madeCells #[.int .u8 0] 1024) 5)) := fun W => run_make_row' (P := Try.prog) 41 5 (.int .u8 0) 1 Try.underlying41 info_u8 rfl .i64 .i64 1024 (by omega) (by omega) W
  have HO : Hid (∀ y ∈ vs, y.oneCell' = true) := by
    show ∀ y ∈ vs, y.oneCell' = true
    intro y hy
    obtain ⟨i, hi, rfl⟩ := List.getElem_of_mem hy
    obtain ⟨u, hu, hbs⟩ := hrow i (by simpa [hv1] using hi)
    rw [List.getElem?_eq_getElem hi] at hu
    obtain ⟨A', c', e, _⟩ := hbs.slice
    rw [Option.some.inj hu, e]; rfl
  have HV := Lib.hid (show Sl w F 1 (.slice A ls.length c) ls.length vs from ⟨hv1, A, c, rfl, hvc, hvm, hvn⟩)
  have HR := Lib.hid hrow
  have HBB := Lib.hid hB
  have hkl : k < ls.length := by omega
  have HL := Lib.hid hlen
  clear hv1 hvn hrow hb hB hlen
  go_enter Try.func35, Try.ntmps35
  go_wp2_with fail
  refine (rStep_any _ _ _ _ _ hf hf2).mono ?_
  rintro e w4 ⟨rfl, hx⟩
  rw [hd]
  have hb := Lib.hid (box0 hx)
  have B0 := Blk.c6 hb.out.1
  have B1 := Blk.c6 hb.out.2
  have hsz := hx.size
  simp at hsz
  have hg0 : w.heap.size < w4.heap.size + 1 := by omega
  have hg1 : w.heap.size + 1 < w4.heap.size + 1 := by omega
  have hg2 : w.heap.size < w4.heap.size + 1 + 1 := by omega
  have hg3 : w.heap.size + 1 < w4.heap.size + 1 + 1 := by omega
  have HX := Lib.hid hx
  clear hx
  go_wp2_with (at_builtin; (refine wpList_app rfl (.tmp 38) (.tmp 40) _ rfl w.heap.size 41 (.slice none 0 0) 1 24 Try.underlying54 info_bytes rfl (by omega) (.slice none 0 0) 0 [] (by simp [Act.eval, Act.put]) (World.ownsRow_nil _ _ _ _) F (.slice A ls.length c) ls.length vs (by simp [Act.eval, Act.put]) (by exact (((HV.out.ext_no (((Ext.refl No w).alloc _).alloc _)).ext_no HX.out).ext_no ((Ext.refl No w4).alloc _)).ext_no ((Ext.refl No _).alloc _)) (by exact HO.out) (by rw [HL.out]; decide) (by rw [HL.out]; decide) (by simp; omega) ?_); intro v2 w2 ho2 hg2 hv2; obtain ⟨g, c2, cur, rfl, hbg, hgb, hc2, hm2, hcs, hcur⟩ := own_form ho2 (by rw [HL.out]; decide); obtain rfl : g = w4.heap.size + 1 + 1 := (by simpa [Value.ownBlock] using hv2); have hbx := Lib.hid (Blk.grown ((hb.out.1.alloc _).alloc _) hg2 (by simp [Value.ownBlock])); have hbr := Lib.hid (Blk.grown ((hb.out.2.alloc _).alloc _) hg2 (by simp [Value.ownBlock])); have hbo := Lib.hid (Blk.grown (out1 w4 _ _ _ _) hg2 (by simp [Value.ownBlock])); have hxx := Lib.hid (Ext.grown (S := No) (((((Ext.refl No w).alloc _).alloc _).trans HX.out |>.alloc _).alloc _) hg2 (by simp [Value.ownBlock])); have BX := Blk.c6 hbx.out; have BR := Blk.c6 hbr.out; have BO := Blk.c6 hbo.out; have HBG := Lib.hid hbg; have HCUR := Lib.hid hcur; have hsz2 := hxx.out.size; have hglt := Blk.lt hbg; have hlo := Blk.lt hbo.out; have hll1 : w.heap.size < w2.heap.size + 1 := (by have := Blk.lt hbx.out; omega); have hll2 : w.heap.size + 1 < w2.heap.size + 1 := (by have := Blk.lt hbr.out; omega); have hll3 : w4.heap.size + 1 < w2.heap.size + 1 := (by omega); clear ho2 hg2 hv2 hbg hcur B0 B1; rw [Nat.zero_add] at *)
  have HCUR := Lib.hid (show cur.toList.take (ls.length * 1) = vs by have := HCUR.out; simpa using this)
  go_loopw [13] (fun i wr => ∃ j : Nat, j ≤ l.length ∧ i = .int .i64 j ∧ Hid (Blk wr w.heap.size 56 #[.int .i64 st, .int .i64 f, .bool d, .bool dn, .slice A ls.length c, .int .i64 n]) ∧ Hid (Blk wr (w.heap.size + 1) 56 #[.int .i64 0, .int .i64 0, .bool false, .bool false, .slice none 0 0, .int .i64 0]) ∧ Hid (Blk wr (w4.heap.size + 1) 56 #[.int .i64 (ps' st dn), .int .i64 (pf' f dn), .bool d, .bool (pdn' f dn), .slice (some ⟨w4.heap.size + 1 + 1, 0, none⟩) ls.length c2, .int .i64 n]) ∧ Hid (Blk wr (w4.heap.size + 1 + 1) 41 cur) ∧ Hid (Blk wr w2.heap.size 5 (u8s (fillB l j)).toArray) ∧ Hid (Ext No w wr)) (fun i _ => l.length - (intOf i).toNat)
  case atStart =>
    refine ⟨0, by omega, rfl, (hbx.out.far (by simp; omega) _).alloc _, (hbr.out.far (by simp; omega) _).alloc _, (Blk.set_ hbo.out 4 _).alloc _, (HBG.out.far (by simp) _).alloc _, ?_, (hxx.out.setCell (by simp; omega) _).alloc _⟩
    have := Blk.new (w2.setCell ⟨w4.heap.size + 1, 4, none⟩ (.slice (some ⟨w4.heap.size + 1 + 1, 0, none⟩) ls.length c2)) 5 (madeCells #[.int .u8 0] 1024)
    rw [made_u8, World.size_setCell] at this
    have e : fillB l 0 = List.replicate 1024 0 := by simp [fillB]
    rw [e]
    rw [made_u8]
    exact Lib.hid this
  case round =>
    obtain ⟨j, hj, rfl, h1, h2, h3, h4', h5', h6⟩ := hrel
    by_cases hlt : j < l.length
    · obtain ⟨rfl, _, hb0, hcb⟩ := HBB.out j hlt
      have hc0 := (h6.out.cell (p := ⟨b0, o0 + j, none⟩) hb0 (fun h => h)).trans hcb
      have hfl := fillB_length hj hn
      obtain ⟨z, hcs0⟩ : ∃ z, wr.cell? ⟨w2.heap.size, j, none⟩ = some (.int .u8 z) := by
        refine ⟨((fillB l j)[j].toNat : Int), ?_⟩
        rw [h5'.out.cell j]
        have := u8s_get (l := fillB l j) (k := j) (by omega)
        simpa using this
      have hfz := h5'.out.frozen j
      have hj0 : (0 : Int) ≤ (j : Int) := by omega
      have hj1 : (j : Int) < (l.length : Int) := by omega
      have hj2 : (j : Int) < 1024 := by omega
      have hsu := fillB_succ hlt hn
      have HS := Lib.hid hsu
      clear hsu hfl
      go_wp2
      go_roundw
      case rel =>
        refine ⟨j + 1, by omega, by go_num, h1.out.far (by simp; omega) _, h2.out.far (by simp; omega) _, h3.out.far (by simp; omega) _, h4'.out.far (by simp; omega) _, ?_, h6.out.setCell (by simp; omega) _⟩
        have := Blk.set_ h5'.out j (.int .u8 (l[j].toNat : Int))
        rw [HS.out] at this
        exact this
      case measure => simp [intOf]; omega
    · obtain rfl : j = l.length := by omega
      have BX := Blk.c6 h1.out
      have BR := Blk.c6 h2.out
      have BO := Blk.c6 h3.out
      have hgk : wr.cell? ⟨w4.heap.size + 1 + 1, k, none⟩ = some (vs[k]'(by have := HV.out.1; omega)) := by
        rw [h4'.out.cell k, ← Array.getElem?_toList]
        have h := HCUR.out
        have hk2 : (cur.toList.take (ls.length * 1))[k]? = cur.toList[k]? := List.getElem?_take_of_lt (by omega)
        rw [h] at hk2
        rw [← hk2]
        simp
      have hgf := h4'.out.frozen k
      have hgl := h4'.out.lt
      have hki0 : (0 : Int) ≤ (k : Int) := by omega
      have hki1 : (k : Int) < (ls.length : Int) := by omega
      cases hpo : pok f dn
      all_goals
        have Hpo := Lib.hid hpo
        clear hpo
        go_wp2
        refine bodyPost_ret (v := .tuple #[rcv (ps' st dn) (pf' f dn) d (pdn' f dn) (.slice (some ⟨w4.heap.size + 1 + 1, 0, none⟩) ls.length c2) (wrap64 (n + 1)), .int .i64 (okc _)]) (by simp [results, Try.results35, go_sem, BR]; rw [Hpo.out]; rfl) rfl ⟨_, rfl, ?_, ?_⟩
        · refine parts_set hkl HR.out ?_ (hF _ (by omega)) (hF _ (by omega)) ((((((((Blk.set_ h4'.out k _).far (by simp) _).far (by simp; omega) _).far (by simp; omega) _).far (by simp; omega) _).far (by simp; omega) _).far (by simp; omega) _).far (by simp; omega) _) ?_ hc2 hcs hm2 HCUR.out hn
          · have hx := h6.out
            repeat (first | with_reducible refine Ext.setCell ?_ (by simp; try omega) _ | with_reducible exact hx)
          · have hy := h5'.out
            rw [fillB_all] at hy
            exact ((((((((hy.far (by simp; omega) _).far (by simp; omega) _).far (by simp; omega) _).far (by simp; omega) _).far (by simp; omega) _).far (by simp; omega) _).far (by simp; omega) _).far (by simp; omega) _)
        · have hx := h6.out
          repeat (first | with_reducible refine Ext.setCell ?_ (by simp; try omega) _ | with_reducible exact hx)

theorem rcWrite_any (F : Nat → Prop) (st f n : Int) (k : Nat) (d dn : Bool) (lv bv : Value) (ls : List (List UInt8)) (l : List UInt8) (w : World) (hk : k < 4) (hlen : ls.length = 4) (hn : l.length ≤ 1024) (hf : -1 ≤ f) (hf2 : f ≤ 9223372036854775807)
    (hF : ∀ b, w.heap.size ≤ b → F b) (hp : Parts w F lv ls) (hb : Bs w Any bv l) :
    Calls Try.prog 35 #[rcv st f d dn lv n, .int .i64 (k : Int), bv] w fun e w' => ∃ lv', e = .returned (.tuple #[rcv (ps' st dn) (pf' f dn) d (pdn' f dn) lv' (if pdone f d dn = true then wrap64 (n + 1) else n), .int .i64 (okc (pok f dn))]) ∧ Parts w' F lv' (if pdone f d dn = true then ls.set k (pad l) else ls) ∧ Ext No w w' := by
  cases hd : pdone f d dn with
  | true => simpa using rcWrite_yes F st f n k d dn lv bv ls l w hk hlen hn hf hf2 hd hF hp hb
  | false =>
    obtain ⟨A, c, rfl, _⟩ := hp.slice
    obtain ⟨B, c', rfl, _⟩ := hb.slice
    refine (rcWrite_no F st f n k d dn A B _ c _ c' w hk hn hf hf2 hd).mono ?_
    rintro e w' ⟨rfl, hx⟩
    exact ⟨.slice A ls.length c, by simp, by simpa using hp.ext_no hx, hx⟩
end Go.Proofs.Ytbemmjejgklieaa
