/- The law SpaceApart. -/
import Derived.Test.YtlfhfomidkadiaaOpen15
import Derived.Test.YtlfhfomidkadiaaOpenBytes
set_option linter.unusedVariables false
set_option linter.unusedSimpArgs false
namespace Go.Proofs.Ytlfhfomidkadiaa
open Go.RowKit Go.Deep

/-- A row of n ints in block b. -/
def Ints (w : World) (b n : Nat) (O : Nat → Int) : Prop := ∃ cur, Blk w b 3 cur ∧ cur.size = n ∧ ∀ j, j < n → cur[j]? = some (.int .i64 (O j))
section
variable {S : Nat → Prop} {w w' : World} {b n : Nat} {O : Nat → Int}
theorem Ints.ext (h : Ints w b n O) (he : Ext S w w') (hb : ¬ S b) : Ints w' b n O := let ⟨cur, h1, h2⟩ := h; ⟨cur, h1.ext he hb, h2⟩
theorem Ints.no (h : Ints w b n O) (he : Ext No w w') : Ints w' b n O := h.ext he fun h => h
theorem Ints.cell (h : Ints w b n O) {k : Nat} (hk : k < n) : w.cell? ⟨b, k, none⟩ = some (.int .i64 (O k)) := let ⟨_, h1, _, h2⟩ := h; (h1.cell k).trans (h2 k hk)
theorem Ints.frozen (h : Ints w b n O) (k : Nat) : w.frozen? ⟨b, k, none⟩ = false := let ⟨_, h1, _⟩ := h; h1.frozen k
theorem Ints.lt (h : Ints w b n O) : b < w.heap.size := let ⟨_, h1, _⟩ := h; h1.lt
theorem Ints.set (h : Ints w b n O) {k : Nat} (hk : k < n) (x : Int) : Ints (w.setCell ⟨b, k, none⟩ (.int .i64 x)) b n (fun j => if j = k then x else O j) := by
  obtain ⟨cur, h1, h2, h3⟩ := h
  refine ⟨_, Blk.set_ h1 k _, by simpa using h2, fun j hj => ?_⟩
  rw [Array.getElem?_setIfInBounds]
  show _ = some (Value.int .i64 (if j = k then x else O j))
  by_cases e : k = j
  · subst e; rw [if_pos rfl, if_pos (by omega), if_pos rfl]
  · rw [if_neg e, if_neg (fun h : j = k => e h.symm)]; exact h3 j hj
theorem Ints.congr {O' : Nat → Int} (h : Ints w b n O) (e : ∀ j, j < n → O j = O' j) : Ints w b n O' := let ⟨cur, h1, h2, h3⟩ := h; ⟨cur, h1, h2, fun j hj => by rw [h3 j hj, e j hj]⟩
end
theorem info_int : (Try.prog.info? 3).map (fun i => (i.zero, i.size, i.bytes)) = some (some (.int .i64 0), 1, 8) := by kernel_rfl
theorem ints_made (W : World) (m : Nat) {g : Nat} (hg : g = W.heap.size := by simp) : Ints (W.alloc (.cells (madeCells #[.int .i64 0] m) 3)) g m (fun _ => 0) := by
  subst hg
  refine ⟨_, Blk.new W _ _, by simp [size_madeCells], fun j hj => ?_⟩
  rw [← Array.getElem?_toList, toList_madeCells_one]
  simp [hj]
/-- From k on, who owns a block is told just where it is taken. -/
def Owns (k : Nat) (L : List Bool) (O : Nat → Int) : Prop := ∀ j, k ≤ j → j < L.length → (O j ≠ 0 ↔ L[j]? = some true)
/-- A run of blocks is given an owner. -/
def ownRun (O : Nat → Int) (a x : Nat) (v : Int) : Nat → Int := fun j => if a ≤ j ∧ j < a + x then v else O j
theorem ownRun_succ (O : Nat → Int) (a x : Nat) (v : Int) (j : Nat) : (if j = a + x then v else ownRun O a x v j) = ownRun O a (x + 1) v j := by
  unfold ownRun
  by_cases c : j = a + x
  · rw [if_pos c, if_pos (by omega)]
  · rw [if_neg c]
    by_cases c2 : a ≤ j ∧ j < a + x
    · rw [if_pos c2, if_pos (by omega)]
    · rw [if_neg c2, if_neg (by omega)]
theorem Owns.fill {k : Nat} {L : List Bool} {O : Nat → Int} (h : Owns k L O) (a m : Nat) (t : Bool) (v : Int) (hl : a + m ≤ L.length) (hv : v ≠ 0 ↔ t = true) : Owns k (fillRun L a m t) (ownRun O a m v) := by
  intro j hj hlt
  rw [fillRun_length hl] at hlt
  rw [fillRun_get hl hlt]
  unfold ownRun
  by_cases c : a ≤ j ∧ j < a + m
  · rw [if_pos c, if_pos c, hv]; simp
  · rw [if_neg c, if_neg c, h j hj hlt, List.getElem?_eq_getElem hlt]

theorem start60 (f : Nat) (hf : f < 20) : (fillRun (List.replicate 60 false) 0 f true).length = 60 ∧ Fixed f (fillRun (List.replicate 60 false) 0 f true) ∧ Owns f (fillRun (List.replicate 60 false) 0 f true) (fun _ => 0) := by
  have e : (List.replicate 60 false).length = 60 := List.length_replicate ..
  have e60 : (fillRun (List.replicate 60 false) 0 f true).length = 60 := by rw [fillRun_length (by rw [e]; omega), e]
  refine ⟨e60, ⟨by rw [e60]; omega, fun k hk => ?_⟩, fun j hj hlt => ?_⟩
  · rw [fillRun_get (by rw [e]; omega) (by rw [e]; omega), if_pos (by omega)]
  · rw [e60] at hlt
    rw [fillRun_get (by rw [e]; omega) (by rw [e]; omega), if_neg (by omega), List.getElem_replicate]
    simp
/-- How many of the first y are free. -/
theorem freeOf_succ {L : List Bool} {y : Nat} (h : y < L.length) : freeOf (L.take (y + 1)) = freeOf (L.take y) + (if L[y] = true then 0 else 1) := by
  rw [List.take_succ_eq_append_getElem h]
  unfold freeOf
  rw [List.filter_append, List.length_append]
  cases L[y] <;> rfl
theorem freeOf_fixed {L : List Bool} {f : Nat} (h : Fixed f L) : ∀ y, y ≤ f → freeOf (L.take y) = 0 := by
  intro y
  induction y with
  | zero => intro _; simp [freeOf]
  | succ y ih =>
    intro hy
    have hl : y < L.length := by have := h.1; omega
    have := h.2 y (by omega)
    rw [List.getElem?_eq_getElem hl] at this
    injection this with this
    rw [freeOf_succ hl, ih (by omega), this]; rfl

set_option maxRecDepth 100000 in
set_option maxHeartbeats 4000000 in
theorem apart15_any (first : Int) (vl vg : Value) (l gv : List UInt8) (w : World) (hl : Bs w (fun b => b < w.heap.size) vl l) (hgv : Bs w (fun b => b < w.heap.size) vg gv) (hf0 : 0 ≤ first) (hf1 : first ≤ 255) :
    Calls Try.prog 4 #[.int .u8 first, vl, vg] w fun e w' => e = .returned (.bool true) ∧ Ext No w w' := by
  obtain ⟨A, c, rfl, hc, hm, b, o, hA⟩ := hl.slice
  obtain ⟨A2, c2, rfl, hc2, hm2, b2, o2, hA2⟩ := hgv.slice
  unfold maxLen at hm hm2
  have HA := Lib.hid hA
  have HA2 := Lib.hid hA2
  clear hA hA2 hl hgv
  by_cases h60 : 40 < l.length
  · go_enter Try.func4, Try.ntmps4
    go_wp2_with fail
    refine (works15 _).mono ?_
    rintro e w1 ⟨rfl, hx1⟩
    go_wp2
    go_ret
    exact ⟨rfl, hx1⟩
  · obtain ⟨f, hf⟩ : ∃ f : Nat, first % 20 = (f : Int) := ⟨(first % 20).toNat, by omega⟩
    have hf20 : f < 20 := by omega
    have HF := Lib.hid hf
    clear hf
    have hmk : ∀ W : World, (Instr.makeSlice 47 (.int .i64 60) (.int .i64 60)).run Try.prog W = .ok (.slice (some ⟨W.heap.size, 0, none⟩) 60 60) (W.alloc (.cells (madeCells #[.int .i64 0] 60) 3)) := fun W => run_make_row' (P := Try.prog) 47 3 (.int .i64 0) 8 Try.underlying47 info_int rfl .i64 .i64 60 (by omega) (by omega) W
    go_enter Try.func4, Try.ntmps4
    go_wp2_with fail
    rw [HF.out]
    refine (spNew_ok 60 f w (by unfold okNew; omega)).mono ?_
    rintro e w1 ⟨rfl, h1, hx1⟩
    have hg := h1.1.lt
    generalize hgs : w.heap.size = gs at *
    have HI := Lib.hid (And.intro h1 hx1)
    clear h1 hx1
    go_wp2_with fail
    have hgo : gs + 1 < w1.heap.size := hg
    have HI2 := Lib.hid (ints_made w1 60 rfl)
    have HI1 := Lib.hid (HI.out.1.no ((Ext.refl No w1).alloc (.cells (madeCells #[.int .i64 0] 60) 3)))
    have HI3 := Lib.hid (HI.out.2.alloc (.cells (madeCells #[.int .i64 0] 60) 3))
    clear HI hmk
    generalize w1.alloc (.cells (madeCells #[.int .i64 0] 60) 3) = w2 at *
    generalize w1.heap.size = go at *
    go_loopw [12] (fun i wr => ∃ x : Nat, x ≤ l.length ∧ i = .int .i64 x ∧ ∃ (L : List Bool) (O : Nat → Int), Hid (L.length = 60) ∧ Hid (Fixed f L) ∧ Hid (Owns f L O) ∧ Hid (IsSp wr (gs + 1) gs 60 f L) ∧ Hid (Ints wr go 60 O) ∧ Hid (Ext No w wr)) (fun i _ => l.length - (intOf i).toNat)
    case atStart =>
      obtain ⟨a1, a2, a3⟩ := start60 f hf20
      exact ⟨0, by omega, rfl, _, fun _ => 0, Lib.hid a1, Lib.hid a2, Lib.hid a3, Lib.hid HI1.out, Lib.hid HI2.out, Lib.hid HI3.out⟩
    case round =>
      clear HI1 HI2 HI3
      obtain ⟨x, hx, rfl, L, O, H60, HFX, HOW, HS, HO, HX⟩ := hrel
      by_cases hlt : x < l.length
      · obtain ⟨hAe, _, hbl, cl0⟩ := HA.out x hlt
        subst hAe
        have cl : wr.cell? ⟨b, o + x, none⟩ = _ := (HX.out.cell (p := ⟨b, o + x, none⟩) (by show b < w.heap.size; omega) (fun h => h)).trans cl0
        clear cl0
        obtain ⟨m, hm⟩ : ∃ m : Nat, 1 + (l[x].toNat : Int) % 9 = (m : Int) := ⟨1 + l[x].toNat % 9, by omega⟩
        have hm1 : 1 ≤ m := by omega
        have hm9 : m ≤ 9 := by omega
        have hcb : l[x].toNat ≤ 255 := by have := l[x].toNat_lt; omega
        generalize l[x].toNat = cb at *
        have HM := Lib.hid hm
        clear hm
        cases hfr : firstRun L m with
        | none =>
          have HNO := Lib.hid (fun a => firstRun_no hfr a)
          clear hfr
          go_wp2_with fail
          rw [HM.out]
          refine (spTake_no _ _ _ m f L wr HS.out HFX.out hm1 (by omega) HNO.out).mono ?_
          rintro e w2 ⟨rfl, hx2⟩
          have HX2 := Lib.hid hx2
          clear hx2
          go_wp2
          go_roundw
          case rel => exact ⟨x + 1, by omega, by go_num, L, O, H60, HFX, HOW, Lib.hid (HS.out.no HX2.out), Lib.hid (HO.out.no HX2.out), Lib.hid (HX.out.trans HX2.out)⟩
          case measure => simp [intOf]; omega
        | some p =>
          have HRU := Lib.hid (firstRun_is hfr)
          clear hfr
          have hok := HRU.out.1.ok hm1 HFX.out
          have hpf : (f : Int) ≤ (p : Int) := hok.2.1
          have hpm : (p : Int) ≤ 60 - (m : Int) := by have := HRU.out.1.1; rw [H60.out] at this; omega
          have HOK := Lib.hid hok
          clear hok
          go_wp2_with fail
          rw [HM.out]
          refine (spTake_at _ _ _ m f p L wr HS.out HFX.out hm1 (by omega) HRU.out.1 HRU.out.2).mono ?_
          rintro e w2 ⟨rfl, hs2, hx2⟩
          have HS2 := Lib.hid hs2
          have HO2 := Lib.hid (HO.out.ext hx2 (fun h => by have h : go = gs := h; omega))
          have HX2 := Lib.hid (HX.out.transS hx2 (fun i hi h => by have h : i = gs := h; omega))
          clear hx2 hs2 HS HO HX
          go_wp2_with fail
          have hzero : ∀ j, p ≤ j → j < p + m → O j = 0 := by
            intro j h1 h2
            have hr := HRU.out.1
            have hj : j < L.length := by have := hr.1; omega
            have := hr.2 (j - p) (by omega)
            rw [show p + (j - p) = j by omega] at this
            have h3 := (HOW.out j (by omega) hj)
            rw [this] at h3
            by_cases c : O j = 0
            · exact c
            · exact absurd (h3.1 c) (by simp)
          have HZERO := Lib.hid hzero
          clear hzero
          go_loopw [16] (fun j wr => ∃ y : Nat, y ≤ m ∧ j = .int .i64 ((p + y : Nat) : Int) ∧ Hid (IsSp wr (gs + 1) gs 60 f (fillRun L p m true)) ∧ Hid (Ints wr go 60 (ownRun O p y (x + 1))) ∧ Hid (Ext No w wr)) (fun j _ => p + m - (intOf j).toNat)
          case atStart => exact ⟨0, by omega, rfl, HS2, Lib.hid (HO2.out.congr (fun j _ => by unfold ownRun; rw [if_neg (by omega)])), HX2⟩
          case round =>
            clear HS2 HO2 HX2
            obtain ⟨y, hy, rfl, HS2, HO2, HX2⟩ := hrel
            obtain ⟨kj, h1, h2⟩ : ∃ kj, p + y ≤ kj ∧ kj ≤ p + y := ⟨p + y, Nat.le_refl _, Nat.le_refl _⟩
            have hkj : p + y = kj := by omega
            rw [hkj]
            clear hkj
            by_cases him : y < m
            · have cj : wr.cell? ⟨go, kj, none⟩ = some (.int .i64 0) := by
                have := HO2.out.cell (k := kj) (by omega)
                rw [this]
                unfold ownRun
                rw [if_neg (by omega), HZERO.out kj (by omega) (by omega)]
              have zj := HO2.out.frozen kj
              have gj := HO2.out.lt
              have j0 : (0 : Int) ≤ (kj : Int) := by omega
              have j1 : (kj : Int) < 60 := by omega
              go_wp2_with fail
              go_roundw
              case rel =>
                refine ⟨y + 1, by omega, by rw [show p + (y + 1) = kj + 1 by omega]; go_num, Lib.hid ?_, Lib.hid ?_, Lib.hid ?_⟩
                · exact HS2.out.ext ((Ext.refl (One go) wr).setCell (fun _ => rfl) _) (fun h => by have h : gs + 1 = go := h; omega) (fun h => by have h : gs = go := h; omega)
                · exact (HO2.out.set (k := kj) (by omega) _).congr (fun j _ => by
                    have := ownRun_succ O p y ((x : Int) + 1) j
                    rw [show p + y = kj by omega] at this
                    first | exact this | (simpa using this))
                · exact HX2.out.setCell (by simp; omega) _
              case measure => simp [intOf]; omega
            · have hym : y = m := by omega
              subst hym
              have hlp : p + y ≤ L.length := HRU.out.1.1
              have N1 : Hid ((fillRun L p y true).length = 60) := Lib.hid (by rw [fillRun_length hlp, H60.out])
              have N2 := Lib.hid (HFX.out.fill (t := true) (by omega) hlp)
              have N3 := Lib.hid (HOW.out.fill p y true ((x : Int) + 1) hlp (by simp; omega))
              have hro : okRun f (fillRun L p y true) p y := by
                have := HOK.out
                unfold okRun at this ⊢
                rw [N1.out]
                rw [H60.out] at this
                exact this
              have hnm : false ∉ ((fillRun L p y true).drop p).take y := by
                intro hmem
                obtain ⟨j, hj, he⟩ := List.mem_iff_getElem.1 hmem
                have hl : (((fillRun L p y true).drop p).take y).length ≤ y := List.length_take_le _ _
                have h2 : (((fillRun L p y true).drop p).take y)[j]? = some false := by rw [List.getElem?_eq_getElem hj, he]
                rw [List.getElem?_take_of_lt (by omega), List.getElem?_drop, fillRun_get hlp (by omega), if_pos (by omega)] at h2
                cases h2
              have M1 : Hid ((fillRun (fillRun L p y true) p y false).length = 60) := Lib.hid (by rw [fillRun_length (by rw [N1.out]; rw [H60.out] at hlp; exact hlp), N1.out])
              have M2 := Lib.hid (N2.out.fill (t := false) (a := p) (n := y) (by omega) (by rw [N1.out]; rw [H60.out] at hlp; exact hlp))
              have M3 := Lib.hid (N3.out.fill p y false 0 (by rw [N1.out]; rw [H60.out] at hlp; exact hlp) (by simp))
              have HRO := Lib.hid hro
              have HNM := Lib.hid hnm
              clear hro hnm HRU HOK HZERO H60 HFX HOW hlp
              generalize fillRun L p y true = L2 at *
              generalize hO2 : ownRun O p y ((x : Int) + 1) = O2 at *
              clear hO2
              by_cases hx2 : x < gv.length
              · obtain ⟨hAe, _, hbl, cl0⟩ := HA2.out x hx2
                subst hAe
                have cg : wr.cell? ⟨b2, o2 + x, none⟩ = _ := (HX2.out.cell (p := ⟨b2, o2 + x, none⟩) (by show b2 < w.heap.size; omega) (fun h => h)).trans cl0
                clear cl0
                have hgb : gv[x].toNat ≤ 255 := by have := gv[x].toNat_lt; omega
                generalize gv[x].toNat = gb at *
                by_cases h3 : (gb : Int) % 3 = 0
                · have g3 : ((gb : Int) % 3 == 0) = true := beq_iff_eq.2 h3
                  clear h3
                  go_wp2_with fail
                  refine (spGive_do _ _ _ p y f L2 wr HS2.out HRO.out HNM.out).mono ?_
                  rintro e w3 ⟨rfl, hs3, hx3⟩
                  have HS3 := Lib.hid hs3
                  have HO3 := Lib.hid (HO2.out.ext hx3 (fun h => by have h : go = gs := h; omega))
                  have HX3 := Lib.hid (HX2.out.transS hx3 (fun i hi h => by have h : i = gs := h; omega))
                  clear hx3 hs3 HS2 HO2 HX2
                  go_wp2_with fail
                  go_loopw [17] (fun j wr => ∃ z : Nat, z ≤ y ∧ j = .int .i64 ((p + z : Nat) : Int) ∧ Hid (IsSp wr (gs + 1) gs 60 f (fillRun L2 p y false)) ∧ Hid (Ints wr go 60 (ownRun O2 p z 0)) ∧ Hid (Ext No w wr)) (fun j _ => p + y - (intOf j).toNat)
                  case atStart => exact ⟨0, by omega, rfl, HS3, Lib.hid (HO3.out.congr (fun j _ => by unfold ownRun; rw [if_neg (by omega)])), HX3⟩
                  case round =>
                    clear HS3 HO3 HX3
                    obtain ⟨z, hz, rfl, HS3, HO3, HX3⟩ := hrel
                    obtain ⟨kz, h1, h2⟩ : ∃ kz, p + z ≤ kz ∧ kz ≤ p + z := ⟨p + z, Nat.le_refl _, Nat.le_refl _⟩
                    have hkz : p + z = kz := by omega
                    rw [hkz]
                    clear hkz
                    by_cases him : z < y
                    · obtain ⟨q, cj⟩ : ∃ q, wr.cell? ⟨go, kz, none⟩ = some (.int .i64 q) := ⟨_, HO3.out.cell (k := kz) (by omega)⟩
                      have zj := HO3.out.frozen kz
                      have gj := HO3.out.lt
                      have j0 : (0 : Int) ≤ (kz : Int) := by omega
                      have j1 : (kz : Int) < 60 := by omega
                      go_wp2_with fail
                      go_roundw
                      case rel =>
                        refine ⟨z + 1, by omega, by rw [show p + (z + 1) = kz + 1 by omega]; go_num, Lib.hid ?_, Lib.hid ?_, Lib.hid ?_⟩
                        · exact HS3.out.ext ((Ext.refl (One go) wr).setCell (fun _ => rfl) _) (fun h => by have h : gs + 1 = go := h; omega) (fun h => by have h : gs = go := h; omega)
                        · exact (HO3.out.set (k := kz) (by omega) _).congr (fun j _ => by
                            have := ownRun_succ O2 p z 0 j
                            rw [show p + z = kz by omega] at this
                            first | exact this | (simpa using this))
                        · exact HX3.out.setCell (by simp; omega) _
                      case measure => simp [intOf]; omega
                    · have hzy : z = y := by omega
                      subst hzy
                      go_wp2_with fail
                      go_roundw
                      case rel => exact ⟨x + 1, by omega, by go_num, _, _, M1, M2, M3, HS3, HO3, HX3⟩
                      case measure => simp [intOf]; omega
                · have g3 : ((gb : Int) % 3 == 0) = false := beq_eq_false_iff_ne.2 h3
                  clear h3
                  go_wp2_with fail
                  go_roundw
                  case rel => exact ⟨x + 1, by omega, by go_num, L2, O2, N1, N2, N3, HS2, HO2, HX2⟩
                  case measure => simp [intOf]; omega
              · go_wp2_with fail
                go_roundw
                case rel => exact ⟨x + 1, by omega, by go_num, L2, O2, N1, N2, N3, HS2, HO2, HX2⟩
                case measure => simp [intOf]; omega
      · have hfo := Lib.hid (freeOf_fixed HFX.out)
        go_wp2_with fail
        go_loopw [18, 19] (fun n j wq => ∃ y : Nat, f ≤ y ∧ y ≤ 60 ∧ j = .int .i64 y ∧ ∃ z : Nat, n = .int .i64 z ∧ z ≤ y ∧ Hid (z = freeOf (L.take y)) ∧ Hid (IsSp wq (gs + 1) gs 60 f L) ∧ Hid (Ints wq go 60 O) ∧ Hid (Ext No w wq)) (fun _ j _ => 60 - (intOf j).toNat)
        case atStart => exact ⟨f, Nat.le_refl _, by omega, rfl, 0, rfl, by omega, Lib.hid (hfo.out f (Nat.le_refl _)).symm, HS, HO, HX⟩
        case round =>
          clear HS HO HX
          obtain ⟨y, hy1, hy2, rfl, z, rfl, hzy, HZ, HS, HO, HX⟩ := hrel
          by_cases hlt2 : y < 60
          · have hyl : y < L.length := by rw [H60.out]; exact hlt2
            have cj := HO.out.cell (k := y) hlt2
            have hst := freeOf_succ hyl
            have how := HOW.out y hy1 hyl
            rw [List.getElem?_eq_getElem hyl] at how
            have hta : takenAt L (y : Int) = L[y] := by
              unfold takenAt
              rw [decide_eq_false (by omega), decide_eq_false (by omega)]
              simp only [Int.toNat_natCast]
              simp [hyl]
            have HTA := Lib.hid hta
            have HST := Lib.hid hst
            have j0 : (0 : Int) ≤ (y : Int) := by omega
            have j1 : (y : Int) < 60 := by omega
            clear hta hst
            generalize L[y] = ly at *
            generalize O y = oy at *
            cases ly
            · have hoy : oy = 0 := by
                by_cases c : oy = 0
                · exact c
                · exact absurd (how.1 c) (by simp)
              subst hoy
              clear how
              go_wp2_with fail
              go_quiet ((go_at_call 23; exact quiet_left (spTaken_any _ _ _ _ (y : Int) L _ (HS.out.no ((Ext.refl No _).drewN _)))))
              rw [HTA.out]
              go_wp2
              go_roundw
              case rel => exact ⟨y + 1, by omega, by omega, by go_num, z + 1, by go_num, by omega, Lib.hid (by rw [HST.out, ← HZ.out]; rfl), Lib.hid (HS.out.no ((Ext.refl No _).drewN _)), Lib.hid (HO.out.no ((Ext.refl No _).drewN _)), Lib.hid (HX.out.drewN _)⟩
              case measure => simp [intOf]; omega
            · have hoy : (oy == 0) = false := beq_eq_false_iff_ne.2 (how.2 rfl)
              have hoy2 : (oy != 0) = true := by simp [bne, hoy]
              clear how
              go_wp2_with fail
              go_quiet ((go_at_call 23; exact quiet_left (spTaken_any _ _ _ _ (y : Int) L _ (HS.out.no ((Ext.refl No _).drewN _)))))
              rw [HTA.out]
              go_wp2
              go_roundw
              case rel => exact ⟨y + 1, by omega, by omega, by go_num, z, rfl, by omega, Lib.hid (by rw [HST.out, ← HZ.out]; rfl), Lib.hid (HS.out.no ((Ext.refl No _).drewN _)), Lib.hid (HO.out.no ((Ext.refl No _).drewN _)), Lib.hid (HX.out.drewN _)⟩
              case measure => simp [intOf]; omega
          · have hye : y = 60 := by omega
            subst hye
            have hz : z = freeOf L := by
              have := HZ.out
              rwa [List.take_of_length_le (by rw [H60.out]; omega)] at this
            subst hz
            go_wp2_with fail
            refine (spFree_any _ _ _ _ L _ HS.out).mono ?_
            rintro e w3 ⟨rfl, n3, rfl⟩
            have HX3 := Lib.hid (HX.out.drewN n3)
            go_wp2_with fail
            refine (works15 _).mono ?_
            rintro e w4 ⟨rfl, hx4⟩
            go_wp2
            go_ret
            exact ⟨rfl, HX3.out.trans hx4⟩

open Go.ChangeShapes Go.WideShapes in
set_option maxRecDepth 100000 in
theorem walk_SpaceApart (W : World) (v0 v1 v2 : Value) (u0 : Rd Try.prog W 5 v0.cells.toList) (u1 : Rd Try.prog W 46 v1.cells.toList) (u2 : Rd Try.prog W 46 v2.cells.toList)
    {r : Reach} {base : Nat} (ok0 : Value.okWide Try.prog W r base 5 v0) (ok1 : Value.okWide Try.prog W r base 46 v1) (ok2 : Value.okWide Try.prog W r base 46 v2) :
    Calls Try.prog 4 #[v0, v1, v2] W fun e W' => e = .returned (.bool true) ∧ Ext No W W' := by
  obtain ⟨n, rfl, hn⟩ := Rd.int_val Try.underlying5 ok0 u0
  obtain ⟨Aa, na, ca, rfl⟩ := Go.WideShapes.okWide_slice Try.underlying46 ok1
  obtain ⟨Ab, nb, cb, rfl⟩ := Go.WideShapes.okWide_slice Try.underlying46 ok2
  obtain ⟨A1, c1, l1, e1, h1⟩ := bytes_of u1
  obtain ⟨A2, c2, l2, e2, h2⟩ := bytes_of u2
  have e1 : [Value.slice Aa na ca] = [.slice A1 l1.length c1] := e1
  have e2 : [Value.slice Ab nb cb] = [.slice A2 l2.length c2] := e2
  simp only [List.cons.injEq, Value.slice.injEq, and_true] at e1 e2
  obtain ⟨rfl, rfl, rfl⟩ := e1
  obtain ⟨rfl, rfl, rfl⟩ := e2
  have hb := bounds_u8 hn
  exact apart15_any n _ _ _ _ W h1 h2 hb.1 hb.2
end Go.Proofs.Ytlfhfomidkadiaa
