/- Package sha: a block is taken. -/
import Derived.Test.YtljddghamgjfbaaShaSch
import Derived.Test.YtljddghamgjfbaaVars3
import Derived.Deep.DeepCutAuto
set_option linter.unusedVariables false
set_option linter.unusedSimpArgs false
namespace Go.Proofs.Ytljddghamgjfbaa
open Go.RowKit Go.Deep Sh

def V8c (v : V8) : Array Value := #[.int .u32 (v.a : Int), .int .u32 (v.b : Int), .int .u32 (v.c : Int), .int .u32 (v.d : Int), .int .u32 (v.e : Int), .int .u32 (v.f : Int), .int .u32 (v.g : Int), .int .u32 (v.h : Int)]
theorem size_w8 : (Try.prog.info? 109).map (·.size) = some 8 := by kernel_rfl
theorem V8c_one (v : V8) : ∀ y ∈ (V8c v).toList, y.oneCell' = true := by
  intro y hy
  simp only [V8c, List.mem_cons, List.not_mem_nil, or_false] at hy
  rcases hy with rfl | rfl | rfl | rfl | rfl | rfl | rfl | rfl <;> rfl
theorem oneC8 (a b c d e f g h : Int) : ∀ y ∈ (#[Value.int .u32 a, .int .u32 b, .int .u32 c, .int .u32 d, .int .u32 e, .int .u32 f, .int .u32 g, .int .u32 h] : Array Value).toList, y.oneCell' = true := by
  intro y hy
  simp only [List.mem_cons, List.not_mem_nil, or_false] at hy
  rcases hy with rfl | rfl | rfl | rfl | rfl | rfl | rfl | rfl <;> rfl
theorem xor_ones (e : Nat) (h : e < M) : 4294967295 ^^^ e = 4294967295 - e := by
  have h1 : (BitVec.ofNat 32 e).toNat = e := by rw [BitVec.toNat_ofNat, Nat.mod_eq_of_lt h]
  have h2 := BitVec.toNat_not (x := BitVec.ofNat 32 e)
  rw [BitVec.not_def, BitVec.toNat_xor, h1, BitVec.toNat_allOnes] at h2
  have h3 : (2 : Nat) ^ 32 - 1 = 4294967295 := by decide
  rw [h3] at h2
  exact h2
theorem ch_bits (e f g : Nat) (he : e < M) (hf : f < M) (hg : g < M) : bits .xor .u32 (bits .and .u32 (e : Int) (f : Int)) (bits .and .u32 (bits .xor .u32 4294967295 (e : Int)) (g : Int)) = ((ch e f g : Nat) : Int) := by
  rw [u32_and_nat _ _ he hf, show (4294967295 : Int) = ((4294967295 : Nat) : Int) from rfl, u32_xor_nat _ _ (by decide) he, xor_ones e he, u32_and_nat _ _ (by unfold M at he; omega) hg, u32_xor_nat _ _ (and_lt he) (and_lt (by unfold M; omega))]
  rfl
theorem maj_bits (a b c : Nat) (ha : a < M) (hb : b < M) (hc : c < M) : bits .xor .u32 (bits .xor .u32 (bits .and .u32 (a : Int) (b : Int)) (bits .and .u32 (a : Int) (c : Int))) (bits .and .u32 (b : Int) (c : Int)) = ((maj a b c : Nat) : Int) := by
  rw [u32_and_nat _ _ ha hb, u32_and_nat _ _ ha hc, u32_and_nat _ _ hb hc, u32_xor_nat _ _ (and_lt ha) (and_lt ha), u32_xor_nat _ _ (xor_lt (and_lt ha) (and_lt ha)) (and_lt hb)]
  rfl
theorem rnd_cells (a b c d e f g h k w : Nat) (o : V8.Ok ⟨a, b, c, d, e, f, g, h⟩) :
    (#[Value.int .u32 (((h : Int) + bits .xor .u32 (bits .xor .u32 ((rotr 6 e : Nat) : Int) ((rotr 11 e : Nat) : Int)) ((rotr 25 e : Nat) : Int) + bits .xor .u32 (bits .and .u32 (e : Int) (f : Int)) (bits .and .u32 (bits .xor .u32 (if IntKind.u32.signed = true then -1 else IntKind.u32.max) (e : Int)) (g : Int)) + (k : Int) + (w : Int) +
        (bits .xor .u32 (bits .xor .u32 ((rotr 2 a : Nat) : Int) ((rotr 13 a : Nat) : Int)) ((rotr 22 a : Nat) : Int) + bits .xor .u32 (bits .xor .u32 (bits .and .u32 (a : Int) (b : Int)) (bits .and .u32 (a : Int) (c : Int))) (bits .and .u32 (b : Int) (c : Int)))) % 4294967296),
      .int .u32 (a : Int), .int .u32 (b : Int), .int .u32 (c : Int),
      .int .u32 (((d : Int) + ((h : Int) + bits .xor .u32 (bits .xor .u32 ((rotr 6 e : Nat) : Int) ((rotr 11 e : Nat) : Int)) ((rotr 25 e : Nat) : Int) + bits .xor .u32 (bits .and .u32 (e : Int) (f : Int)) (bits .and .u32 (bits .xor .u32 (if IntKind.u32.signed = true then -1 else IntKind.u32.max) (e : Int)) (g : Int)) + (k : Int) + (w : Int))) % 4294967296),
      .int .u32 (e : Int), .int .u32 (f : Int), .int .u32 (g : Int)] : Array Value) = V8c (rnd k w ⟨a, b, c, d, e, f, g, h⟩) := by
  obtain ⟨o1, o2, o3, o4, o5, o6, o7, o8⟩ := o
  simp only at o1 o2 o3 o4 o5 o6 o7 o8
  rw [show (if IntKind.u32.signed = true then -1 else IntKind.u32.max) = (4294967295 : Int) from rfl, b1_bits e o5, ch_bits e f g o5 o6 o7, b0_bits a o1, maj_bits a b c o1 o2 o3]
  unfold V8c rnd tt uu
  simp only
  have e1 : ((h : Int) + (b1 e : Int) + (ch e f g : Int) + (k : Int) + (w : Int) + ((b0 a : Int) + (maj a b c : Int))) % 4294967296 = (((((((h + b1 e) % M + ch e f g) % M + k) % M + w) % M + (b0 a + maj a b c) % M) % M : Nat) : Int) := by unfold M; omega
  have e2 : ((d : Int) + ((h : Int) + (b1 e : Int) + (ch e f g : Int) + (k : Int) + (w : Int))) % 4294967296 = (((d + ((((h + b1 e) % M + ch e f g) % M + k) % M + w) % M) % M : Nat) : Int) := by unfold M; omega
  rw [e1, e2]
/-- Within take, behind k rounds. -/
structure TkS (w0 : World) (g gw gk gv : Nat) (W : List Nat) (h : V8) (rv : Value) (n : Nat) (k : Nat) (w : World) : Prop where
  bw : Blk w gw 131 (u32s W).toArray
  bk : Blk w gk 131 (u32s kk).toArray
  bv : Blk w gv 109 (V8c (vr W h k))
  st : Blk w g 111 (V8cs h rv n)
  x : Ext No w0 w
  lv : w0.heap.size ≤ gv
/-- The eight words, where the first i are added. -/
def L8 (v : V8) : List Nat := [v.a, v.b, v.c, v.d, v.e, v.f, v.g, v.h]
def addL (i : Nat) (h v : V8) : List Nat := (List.range 8).map fun j => if j < i then ((L8 h).getD j 0 + (L8 v).getD j 0) % M else (L8 h).getD j 0
theorem lt8 {j : Nat} (h : j < 8) : j = 0 ∨ j = 1 ∨ j = 2 ∨ j = 3 ∨ j = 4 ∨ j = 5 ∨ j = 6 ∨ j = 7 := by omega
theorem addL_get (i : Nat) (hi : i < 8) (h v : V8) : (addL i h v).getD i 0 = (L8 h).getD i 0 := by
  rcases lt8 hi with rfl | rfl | rfl | rfl | rfl | rfl | rfl | rfl <;> rfl
theorem addL_set (i : Nat) (hi : i < 8) (h v : V8) : (addL i h v).set i (((L8 h).getD i 0 + (L8 v).getD i 0) % M) = addL (i + 1) h v := by
  rcases lt8 hi with rfl | rfl | rfl | rfl | rfl | rfl | rfl | rfl <;> rfl
theorem addL_length (i : Nat) (h v : V8) : (addL i h v).length = 8 := by simp [addL]
theorem addL_zero (h v : V8) : addL 0 h v = L8 h := rfl
theorem addL_eight (h v : V8) : addL 8 h v = L8 (add8 h v) := rfl
structure TkT (w0 : World) (g gv : Nat) (h V : V8) (rv : Value) (n i : Nat) (w : World) : Prop where
  st : Blk w g 111 (u32s (addL i h V) ++ [rv, .int .u64 (n : Int)]).toArray
  bv : Blk w gv 109 (V8c V)
  x : Ext (One g) w0 w
  lv : w0.heap.size ≤ gv
section
variable {w0 w : World} {g gv : Nat} {h V : V8} {rv : Value} {n i : Nat}
theorem TkT.cell (H : TkT w0 g gv h V rv n i w) (hi : i < 8) : w.cell? ⟨g, i, none⟩ = some (.int .u32 (((L8 h).getD i 0 : Nat) : Int)) ∧ w.frozen? ⟨g, i, none⟩ = false := by
  refine ⟨?_, H.st.frozen _⟩
  rw [H.st.cell, ← addL_get i hi h V, List.getElem?_toArray, List.getElem?_append_left (by rw [u32s_length, addL_length]; exact hi)]
  have := u32s_get (addL i h V) i (by rw [addL_length]; exact hi)
  rwa [List.getElem?_toArray] at this
theorem TkT.cellv (H : TkT w0 g gv h V rv n i w) (hi : i < 8) : w.cell? ⟨gv, i, none⟩ = some (.int .u32 (((L8 V).getD i 0 : Nat) : Int)) := by
  rw [H.bv.cell, show V8c V = (u32s (L8 V)).toArray from rfl, u32s_get _ _ (by simpa [L8] using hi)]
theorem TkT.drewN (H : TkT w0 g gv h V rv n i w) (m : Nat) : TkT w0 g gv h V rv n i (w.drewN m) := ⟨H.st.drewN m, H.bv.drewN m, H.x.drewN m, H.lv⟩
theorem TkT.put (H : TkT w0 g gv h V rv n i w) (hi : i < 8) : TkT w0 g gv h V rv n (i + 1) (w.setCell ⟨g, i, none⟩ (.int .u32 ((((L8 h).getD i 0 + (L8 V).getD i 0) % M : Nat) : Int))) := by
  refine ⟨?_, H.bv.far (fun e => H.bv.ne_ H.st (by decide) e) _, H.x.setCell (fun _ => rfl) _, H.lv⟩
  have := H.st.set_ i (.int .u32 ((((L8 h).getD i 0 + (L8 V).getD i 0) % M : Nat) : Int))
  rw [List.setIfInBounds_toArray, List.set_append_left _ _ (by rw [u32s_length, addL_length]; exact hi)] at this
  have e := u32s_set (addL i h V) i (((L8 h).getD i 0 + (L8 V).getD i 0) % M)
  rw [List.setIfInBounds_toArray, addL_set i hi] at e
  have e := congrArg Array.toList e
  simp only at e
  rw [e] at this
  exact this
end
set_option maxRecDepth 100000 in
set_option maxHeartbeats 8000000 in
theorem shaTake_any (g : Nat) (h : V8) (ho : h.Ok) (rv : Value) (n : Nat) (v : Value) (l : List UInt8) (w : World) (hst : Blk w g 111 (V8cs h rv n)) (hv : Bs w Any v l) (hl : l.length = 64) :
    Calls Try.prog 81 #[pB g, v] w fun e w' => e = .returned (.tuple #[]) ∧ Blk w' g 111 (V8cs (comp h l) rv n) ∧ Ext (One g) w w' := by
  obtain ⟨m64, hm64⟩ : ∃ m, m = 64 := ⟨_, rfl⟩
  obtain ⟨W, hW⟩ : ∃ W, wl l m64 = W := ⟨_, rfl⟩
  have hWl : W.length = 64 := by rw [← hW, wl_length, hm64]
  have hWb : ∀ x ∈ W, x < M := by rw [← hW]; exact wl_lt l m64
  have hcomp : comp h l = add8 h (vr W h m64) := by unfold comp; rw [← hW, hm64]
  rw [hcomp]
  have HM64 := Lib.hid hm64
  have HST := Lib.hid hst
  have HV := Lib.hid hv
  have HL := Lib.hid hl
  have HSC := Lib.hid (show ∀ wx, Bs wx Any v l → Calls Try.prog 103 #[v] wx fun e w' => e = .returned (.agg (u32s W).toArray) ∧ Ext No wx w' by
    intro wx hb
    have := shaSched_any v l wx hb hl
    rwa [show wl l 64 = W by rw [← hW, hm64]] at this)
  have HWL := Lib.hid hWl
  have HWB := Lib.hid hWb
  have HO := Lib.hid ho
  have HSW := Lib.hid (show (u32s W).toArray.size = 64 by rw [List.size_toArray, u32s_length, hWl])
  have HSK := Lib.hid (show (u32s kk).toArray.size = 64 by rw [List.size_toArray, u32s_length]; rfl)
  clear hcomp hW hWl hWb hst hv hl ho hm64
  go_enter Try.func81, Try.ntmps81
  go_upto_region 0 with fail
  go_cut [4, 5, 6] (fun s4 s5 s6 wx => ∃ gw gk gv : Nat, s4 = pB gw ∧ s5 = pB gk ∧ s6 = pB gv ∧ Hid (TkS w g gw gk gv W h rv n 0 wx))
  case first =>
    have HX0 : Hid (Ext No w w.drew) := Lib.hid (Ext.refl No w).drew
    refine RF.region (vs := fun _ => undef) rfl (fun vs => ((pB g) :: v :: undef :: undef :: (vs 7) :: (vs 8) :: (vs 9) :: undef :: undef :: undef :: undef :: undef :: undef :: undef :: (vs 0) :: (vs 1) :: (vs 2) :: (vs 3) :: (vs 4) :: (vs 5) :: (vs 6) :: undef :: undef :: undef :: undef :: undef :: undef :: undef :: undef :: undef :: undef :: undef :: undef :: undef :: undef :: undef :: undef :: undef :: undef :: undef :: undef :: undef :: undef :: undef :: undef :: undef :: undef :: undef :: undef :: undef :: undef :: undef :: undef :: undef :: undef :: undef :: undef :: undef :: undef :: undef :: undef :: undef :: undef :: undef :: undef :: undef :: undef :: undef :: undef :: undef :: undef :: undef :: undef :: undef :: undef :: undef :: undef :: undef :: undef :: undef :: undef :: undef :: undef :: undef :: undef :: undef :: undef :: undef :: undef :: undef :: undef :: undef :: undef :: undef :: undef :: undef :: undef :: undef :: undef :: undef :: undef :: undef :: undef :: undef :: undef :: undef :: undef :: undef :: undef :: undef :: undef :: undef :: undef :: undef :: undef :: undef :: undef :: undef :: undef :: undef :: []).toArray)
      (V3.F 7 8 9 10 11 12 131 131 109 64 64 8 (u32s W).toArray (u32s kk).toArray (V8c h)
        (fun j u => match j with | 0 => u = v | 1 => u = .agg (u32s W).toArray | 2 => u = .agg (u32s kk).toArray | 3 | 4 | 5 => u = pB g | 6 => u = .agg (V8c h) | _ => True))
      (fun vs wx => V3.G3 w (vs 7) (vs 8) (vs 9) (vs 10) (vs 11) (vs 12) wx) rfl (by kernel_rfl) ?_ ?_ ?_
    · exact V3.G3.start HX0.out
    · refine ⟨⟨⟨⟨⟨⟨⟨⟨⟨⟨⟨⟨⟨trivial, ?_⟩, ?_⟩, ?_⟩, ?_⟩, ?_⟩, ?_⟩, ?_⟩, ?_⟩, ?_⟩, ?_⟩, ?_⟩, ?_⟩, ?_⟩
      all_goals refine RF.Step.plain rfl rfl (fun vs wx hG hv hd K hK => ?_)
      · go_simp
        exact hK _ _ hG rfl (fun _ _ h => h)
      · have h0 : vs 0 = v := hd.1
        go_simp
        with_reducible refine (HSC.out wx (HV.out.ext_no hG.x)).mono ?_
        rintro e' w' ⟨rfl, hx⟩
        have h3 := hK _ _ (hG.no hx) rfl (fun j _ h => V3.F.no hx j _ h)
        simpa only [RF.upd, h0, Nat.reduceEqDiff, if_true, if_false, reduceIte] using h3
      · go_simp
        with_reducible refine (shaK_any wx).mono ?_
        rintro e' w' ⟨rfl, hx⟩
        exact hK _ _ (hG.no hx) rfl (fun j _ h => V3.F.no hx j _ h)
      · go_simp
        exact hK _ _ hG rfl (fun _ _ h => h)
      · have h3 : vs 3 = pB g := hd.1
        go_simp
        have h4 := hK _ _ hG rfl (fun _ _ h => h)
        simpa only [RF.upd, h3, Nat.reduceEqDiff, if_true, if_false, reduceIte] using h4
      · have h3 : vs 4 = pB g := hd.1
        go_simp
        have h4 := hK _ _ hG rfl (fun _ _ h => h)
        simpa only [RF.upd, h3, Nat.reduceEqDiff, if_true, if_false, reduceIte] using h4
      · have h3 : vs 5 = pB g := hd.1
        have hb := HST.out.ext_no hG.x
        have c0 := hb.cell 0
        have c1 := hb.cell 1
        have c2 := hb.cell 2
        have c3 := hb.cell 3
        have c4 := hb.cell 4
        have c5 := hb.cell 5
        have c6 := hb.cell 6
        have c7 := hb.cell 7
        simp only [V8cs] at c0 c1 c2 c3 c4 c5 c6 c7
        clear hb
        go_simp
        have h4 := hK _ _ hG rfl (fun _ _ h => h)
        simpa only [RF.upd, h3, V8c, Nat.reduceEqDiff, if_true, if_false, reduceIte] using h4
      · have hv' : vs 7 = undef := hv
        go_simp
        exact hK _ _ (hG.newA hv' _) ⟨wx.heap.size, _, rfl, Blk.new wx _ _, by simp⟩ (fun j _ h => V3.F.no ((Ext.refl No wx).alloc _) j _ h)
      · have hv' : vs 8 = undef := hv
        go_simp
        exact hK _ _ (hG.newB hv' _) ⟨wx.heap.size, _, rfl, Blk.new wx _ _, by simp⟩ (fun j _ h => V3.F.no ((Ext.refl No wx).alloc _) j _ h)
      · have hv' : vs 9 = undef := hv
        go_simp
        exact hK _ _ (hG.newC hv' _) ⟨wx.heap.size, _, rfl, Blk.new wx _ _, by simp⟩ (fun j _ h => V3.F.no ((Ext.refl No wx).alloc _) j _ h)
      · obtain ⟨gx, cs, hg, hb, hcs⟩ := hd.1
        have hval : vs 1 = .agg (u32s W).toArray := hd.2.1
        refine V3.wp_store_blk 131 (.tmp 4) (.tmp 15) rfl hb hg hval (by rw [hcs]; exact HSW.out) (by rw [HSW.out]; exact size_w64) (u32s_one _) ?_
        intro w' hb' hx'
        have hX : Ext No w w' := hG.x.transS hx' (fun i hi h => absurd hi (by have h' : i = gx := h; have := (hG.la gx hg).1; omega))
        refine hK (vs 7) _ ((hG.ext hX hx'.size).setA) ⟨gx, hg, hb'⟩ (fun j hj h => V3.F.sto hG 10 hx' hb hb' (by rw [hcs]; exact HSW.out) (by simp [hg]) j hj h)
      · obtain ⟨gx, cs, hg, hb, hcs⟩ := hd.1
        have hval : vs 2 = .agg (u32s kk).toArray := hd.2.1
        refine V3.wp_store_blk 131 (.tmp 5) (.tmp 16) rfl hb hg hval (by rw [hcs]; exact HSK.out) (by rw [HSK.out]; exact size_w64) (u32s_one _) ?_
        intro w' hb' hx'
        have hX : Ext No w w' := hG.x.transS hx' (fun i hi h => absurd hi (by have h' : i = gx := h; have := (hG.lb gx hg).1; omega))
        refine hK (vs 8) _ ((hG.ext hX hx'.size).setB) ⟨gx, hg, hb'⟩ (fun j hj h => V3.F.sto hG 11 hx' hb hb' (by rw [hcs]; exact HSK.out) (by simp [hg]) j hj h)
      · obtain ⟨gx, cs, hg, hb, hcs⟩ := hd.1
        have hval : vs 6 = .agg (V8c h) := hd.2.1
        refine V3.wp_store_blk 109 (.tmp 6) (.tmp 20) rfl hb hg hval (by rw [hcs]; exact rfl) size_w8 (V8c_one h) ?_
        intro w' hb' hx'
        have hX : Ext No w w' := hG.x.transS hx' (fun i hi h => absurd hi (by have h' : i = gx := h; have := (hG.lc gx hg).1; omega))
        refine hK (vs 9) _ ((hG.ext hX hx'.size).setC) ⟨gx, hg, hb'⟩ (fun j hj h => V3.F.sto hG 12 hx' hb hb' (by rw [hcs]; exact rfl) (by simp [hg]) j hj h)
    · intro vs wx hG hF
      obtain ⟨gw, e1, b1⟩ : V3.SB wx 131 (u32s W).toArray (vs 10) := hF 10 (by decide)
      obtain ⟨gk, e2, b2⟩ : V3.SB wx 131 (u32s kk).toArray (vs 11) := hF 11 (by decide)
      obtain ⟨gv, e3, b3⟩ : V3.SB wx 109 (V8c h) (vs 12) := hF 12 (by decide)
      have e1' : vs 7 = pB gw := by rcases hG.ea with k | k <;> rw [k] at e1; exact absurd e1 V3.pB_undef; exact e1
      have e2' : vs 8 = pB gk := by rcases hG.eb with k | k <;> rw [k] at e2; exact absurd e2 V3.pB_undef; exact e2
      have e3' : vs 9 = pB gv := by rcases hG.ec with k | k <;> rw [k] at e3; exact absurd e3 V3.pB_undef; exact e3
      have hlv := (hG.lc gv e3').1
      clear hF
      go_wp2_with fail
      go_meet
      case rel => exact ⟨gw, gk, gv, e1', e2', e3', Lib.hid ⟨b1, b2, b3, HST.out.ext_no hG.x, hG.x, hlv⟩⟩
  case rest =>
    obtain ⟨gw, gk, gv, rfl, rfl, rfl, HT⟩ := hcut
    clear HV HSC HL HST
    go_wp2_with fail
    go_loopw [21] (fun i wr => ∃ k : Nat, k ≤ 64 ∧ i = .int .i64 k ∧ Hid (TkS w g gw gk gv W h rv n k wr)) (fun i _ => 64 - (intOf i).toNat)
    case atStart => exact ⟨0, by omega, rfl, HT⟩
    case round =>
      obtain ⟨k, hk, rfl, HK⟩ := hrel
      clear HT
      by_cases h64 : k < 64
      · have hok := vr_ok W h HO.out k
        have hbv := HK.out.bv
        have HR : Hid (vr W h (k + 1) = rnd (kk.getD k 0) (W.getD k 0) (vr W h k)) := Lib.hid rfl
        have cw : wr.cell? ⟨gw, k, none⟩ = some (.int .u32 ((W.getD k 0 : Nat) : Int)) := by rw [HK.out.bw.cell, u32s_get _ _ (by rw [HWL.out]; exact h64)]
        have ck : wr.cell? ⟨gk, k, none⟩ = some (.int .u32 ((kk.getD k 0 : Nat) : Int)) := by rw [HK.out.bk.cell, u32s_get _ _ (by show k < 64; exact h64)]
        have hwk := getD_lt HWB.out k
        have hkk := getD_lt kk_lt k
        generalize vr W h k = V at *
        generalize W.getD k 0 = wk at *
        generalize kk.getD k 0 = ck0 at *
        obtain ⟨a, b, c, d, e, f, g8, h8⟩ := V
        have HOK := Lib.hid hok
        obtain ⟨o1, o2, o3, o4, o5, o6, o7, o8⟩ := hok
        simp only [V8c] at hbv
        simp only at o1 o2 o3 o4 o5 o6 o7 o8
        have c0 := hbv.cell 0
        have c1 := hbv.cell 1
        have c2 := hbv.cell 2
        have c3 := hbv.cell 3
        have c4 := hbv.cell 4
        have c5 := hbv.cell 5
        have c6 := hbv.cell 6
        have c7 := hbv.cell 7
        have HBV := Lib.hid hbv
        have O1 := Lib.hid o1
        have O5 := Lib.hid o5
        clear hbv
        go_wp2_with fail
        go_quiet (fail)
        go_wp2_with (first
          | (go_at_call 105; (with_reducible refine (rot_any e O5.out (-6) 6 _ (by omega) (by omega) (by kernel_rfl)).mono ?_); rintro e1 w1 ⟨rfl, rfl⟩)
          | (go_at_call 105; (with_reducible refine (rot_any e O5.out (-11) 11 _ (by omega) (by omega) (by kernel_rfl)).mono ?_); rintro e1 w1 ⟨rfl, rfl⟩)
          | (go_at_call 105; (with_reducible refine (rot_any e O5.out (-25) 25 _ (by omega) (by omega) (by kernel_rfl)).mono ?_); rintro e1 w1 ⟨rfl, rfl⟩))
        go_quiet (fail)
        go_wp2_with (first
          | (go_at_call 105; (with_reducible refine (rot_any a O1.out (-2) 2 _ (by omega) (by omega) (by kernel_rfl)).mono ?_); rintro e1 w1 ⟨rfl, rfl⟩)
          | (go_at_call 105; (with_reducible refine (rot_any a O1.out (-13) 13 _ (by omega) (by omega) (by kernel_rfl)).mono ?_); rintro e1 w1 ⟨rfl, rfl⟩)
          | (go_at_call 105; (with_reducible refine (rot_any a O1.out (-22) 22 _ (by omega) (by omega) (by kernel_rfl)).mono ?_); rintro e1 w1 ⟨rfl, rfl⟩)
          | ((with_reducible show wpList _ _ _ _ _ _); refine store_blk (o := ⟨none, _, _, _, _, _⟩) 109 (.tmp 6) (.tmp 101) rfl rfl (w := _) (HBV.out.drewN _) rfl rfl rfl size_w8 (oneC8 _ _ _ _ _ _ _ _) ?_; intro w9 hb9 hx9; have HB9 := Lib.hid hb9; have HX9 := Lib.hid hx9; clear hb9 hx9))
        go_roundw
        case rel =>
          refine ⟨k + 1, by omega, by go_num, Lib.hid ⟨?_, ?_, ?_, ?_, ?_, HK.out.lv⟩⟩
          · exact (HK.out.bw.drewN _).ext HX9.out (fun e => HK.out.bw.ne_ HBV.out (by decide) e)
          · exact (HK.out.bk.drewN _).ext HX9.out (fun e => HK.out.bk.ne_ HBV.out (by decide) e)
          · have hb := HB9.out
            rw [rnd_cells a b c d e f g8 h8 ck0 wk HOK.out] at hb
            rw [HR.out]
            exact hb
          · exact (HK.out.st.drewN _).ext HX9.out (fun e => HK.out.st.ne_ HBV.out (by decide) e)
          · exact (HK.out.x.drewN _).transS HX9.out (fun i hi h => absurd hi (by have h' : i = gv := h; have := HK.out.lv; omega))
        case measure => simp [intOf]; omega
      · obtain rfl : k = 64 := by omega
        have HK2 : Hid (TkS w g gw gk gv W h rv n m64 wr) := Lib.hid (by rw [HM64.out]; exact HK.out)
        clear HK h64 hk
        obtain ⟨V, hV⟩ : ∃ V, vr W h m64 = V := ⟨_, rfl⟩
        have HVE := Lib.hid hV
        have HS : Hid (TkT w g gv h V rv n 0 wr) := Lib.hid ⟨HK2.out.st, by rw [← hV]; exact HK2.out.bv, HK2.out.x.no, HK2.out.lv⟩
        clear hV HK2
        go_wp2_with fail
        go_loopw [103] (fun i wy => ∃ k : Nat, k ≤ 8 ∧ i = .int .i64 k ∧ Hid (TkT w g gv h V rv n k wy)) (fun i _ => 8 - (intOf i).toNat)
        case atStart => exact ⟨0, by omega, rfl, HS⟩
        case round =>
          obtain ⟨k, hk, rfl, HK⟩ := hrel
          clear HS
          by_cases h8 : k < 8
          · obtain ⟨c1, f1⟩ := HK.out.cell h8
            have c2 := HK.out.cellv h8
            have HA := Lib.hid (HK.out.put h8)
            clear HM64
            generalize (L8 h).getD k 0 = x1 at *
            generalize (L8 V).getD k 0 = x2 at *
            go_wp2_with fail
            go_region
            all_goals
              go_wp2_with fail
              go_roundw
              case rel => exact ⟨k + 1, by omega, by go_num, Lib.hid (by
                have hp := HA.out
                rw [show (((x1 + x2) % M : Nat) : Int) = ((x1 : Int) + (x2 : Int)) % 4294967296 by unfold M; omega] at hp
                exact hp.drewN 1)⟩
              case measure => simp [intOf]; omega
          · obtain rfl : k = 8 := by omega
            have HF := Lib.hid HK.out.st
            have HX := Lib.hid HK.out.x
            rw [addL_eight, ← HVE.out] at HF
            clear HK h8 hk
            go_wp2_with fail
            go_end0
            exact ⟨rfl, HF.out, HX.out⟩
end Go.Proofs.Ytljddghamgjfbaa
