/- Package sha: the sum of all that came. -/
import Derived.Test.YtljddghamgjfbaaShaWrite
import Derived.Test.YtljddghamgjfbaaApp0
set_option linter.unusedVariables false
set_option linter.unusedSimpArgs false
namespace Go.Proofs.Ytljddghamgjfbaa
open Go.RowKit Go.Deep Sh

theorem Mid.not_ty {w : World} {g : Nat} {t : TypeId} {rv : Value} {l : List UInt8} {cs : Array Value} (h : Mid w rv l) (hb : Blk w g t cs) (ht : 5 ≠ t) : ¬ rv.ownBlock = some g := by
  intro e
  obtain ⟨_, cs', h'⟩ := h.blk g e
  exact (h'.ne_ hb ht) rfl
theorem V8cs_one {w : World} (h : V8) (v : Value) (n : Nat) {l : List UInt8} (hm : Mid w v l) : ∀ y ∈ (V8cs h v n).toList, y.oneCell' = true := by
  intro y hy
  obtain ⟨A, c, rfl, _⟩ := hm.slice
  simp only [V8cs, List.mem_cons, List.not_mem_nil, or_false] at hy
  rcases hy with rfl | rfl | rfl | rfl | rfl | rfl | rfl | rfl | rfl | rfl <;> rfl
theorem und_b32 : Try.prog.underlying 45 = some (.array 32 5) := by kernel_rfl
theorem size_b32 : (Try.prog.info? 45).map (·.size) = some 32 := by kernel_rfl
/-- What each operation of 'end := State{..}' leaves. -/
def FE (g : Nat) (h : V8) (rv : Value) (R : List UInt8) (n : Nat) (b0 : Nat) : Nat → Value → World → Prop
  | 0, v, _ | 1, v, _ | 2, v, _ | 4, v, _ | 5, v, _ | 10, v, _ | 11, v, _ => v = pB g
  | 3, v, _ => v = .agg (V8c h)
  | 6, v, _ => v = .pointer (some ⟨g, 8, none⟩)
  | 7, v, _ => v = rv
  | 8, v, w => ∃ g', v = .slice (some ⟨g', 0, none⟩) 1 1 ∧ Blk w g' 27 #[rv]
  | 9, v, w => Mid w v R ∧ ∀ k, v.ownBlock = some k → b0 ≤ k
  | 12, v, _ => v = .pointer (some ⟨g, 9, none⟩)
  | 13, v, _ => v = .int .u64 (n : Int)
  | 14, v, w => ∃ v9, v = .agg (V8cs h v9 n) ∧ Mid w v9 R ∧ ∀ k, v9.ownBlock = some k → b0 ≤ k
  | 15, v, w => V3.AB w 111 10 v ∧ ∀ gE, v = pB gE → b0 ≤ gE
  | 16, v, w => ∃ gE v9, v = pB gE ∧ b0 ≤ gE ∧ Blk w gE 111 (V8cs h v9 n) ∧ Mid w v9 R ∧ ∀ k, v9.ownBlock = some k → b0 ≤ k
  | _, _, _ => True
theorem FE.no {g : Nat} {h : V8} {rv : Value} {R : List UInt8} {n b0 : Nat} {w w' : World} (hx : Ext No w w') : ∀ j v, FE g h rv R n b0 j v w → FE g h rv R n b0 j v w' := by
  intro j v H
  match j, H with
  | 0, H | 1, H | 2, H | 3, H | 4, H | 5, H | 6, H | 7, H | 10, H | 11, H | 12, H | 13, H => exact H
  | 8, H => obtain ⟨g', e, H⟩ := H; exact ⟨g', e, H.ext_no hx⟩
  | 9, H => exact ⟨H.1.ext_no hx, H.2⟩
  | 14, H => obtain ⟨v9, e, H, k⟩ := H; exact ⟨v9, e, H.ext_no hx, k⟩
  | 15, H => exact ⟨V3.AB.no H.1 hx, H.2⟩
  | 16, H => obtain ⟨gE, v9, e, k, H1, H2, k2⟩ := H; exact ⟨gE, v9, e, k, H1.ext_no hx, H2.ext_no hx, k2⟩
  | m + 17, _ => trivial
theorem FE.sto {g : Nat} {h : V8} {rv : Value} {R : List UInt8} {n b0 : Nat} {w w' : World} {gE : Nat} {cs cs' : Array Value} (hx : Ext (One gE) w w') (hb : Blk w gE 111 cs) (hb' : Blk w' gE 111 cs') (hs : cs'.size = cs.size) : ∀ j v, j ≠ 16 → FE g h rv R n b0 j v w → FE g h rv R n b0 j v w' := by
  intro j v hj H
  have hm : ∀ {u : Value}, Mid w u R → Mid w' u R := fun H => H.ext hx (fun b e k => H.not_ty hb (by decide) (by rw [← (show b = gE from k)]; exact e))
  match j, H with
  | 0, H | 1, H | 2, H | 3, H | 4, H | 5, H | 6, H | 7, H | 10, H | 11, H | 12, H | 13, H => exact H
  | 8, H => obtain ⟨g', e, H⟩ := H; exact ⟨g', e, H.ext hx (fun k => H.ne_ hb (by decide) k)⟩
  | 9, H => exact ⟨hm H.1, H.2⟩
  | 14, H => obtain ⟨v9, e, H, k⟩ := H; exact ⟨v9, e, hm H, k⟩
  | 15, H => exact ⟨V3.AB.sto H.1 hx hb hb' hs, H.2⟩
  | 16, H => exact absurd rfl hj
  | m + 17, _ => trivial
/-- Behind 'end := ..'. -/
structure SuS (w0 : World) (g gE : Nat) (rv v9 : Value) (m : List UInt8) (w : World) : Prop where
  st : St w g rv m
  en : St w gE v9 m
  x : Ext No w0 w
  r : Blk w w0.heap.size 45 (u8s (List.replicate 32 0)).toArray
  l1 : w0.heap.size < gE
  l2 : ∀ k, v9.ownBlock = some k → w0.heap.size < k
theorem not_old {v : Value} {n s s' : Nat} (h : v.ownBlock = some s ∨ ∃ k, v.ownBlock = some k ∧ s' ≤ k) (h1 : n ≤ s) (h2 : n ≤ s') (i : Nat) (hi : i < n) (e : v.ownBlock = some i) : False := by
  rcases h with h | ⟨k, h, hk⟩
  · rw [h] at e; injection e with e; omega
  · rw [h] at e; injection e with e; omega
/-- Behind 'end.Write(..)'. -/
structure SuD (w0 : World) (gE : Nat) (m : List UInt8) (w : World) : Prop where
  en : ∃ rv n, Blk w gE 111 (V8cs (hOf (m ++ padl m)) rv n)
  x : Ext No w0 w
  r : Blk w w0.heap.size 45 (u8s (List.replicate 32 0)).toArray
theorem SuS.done {w0 w w6 w7 : World} {g gE : Nat} {rv v9 rv7 : Value} {m : List UInt8} (h : SuS w0 g gE rv v9 m w) (h6 : Ext No w w6) (h7 : St w7 gE rv7 (m ++ padl m)) (hx : Ext (Foot gE v9) w6 w7) : SuD w0 gE m w7 := by
  refine ⟨⟨_, _, h7.st⟩, (h.x.trans h6).transS hx (fun i hi hf => ?_), (h.r.ext_no h6).ext hx (fun hf => ?_)⟩
  · have := h.l1
    rcases hf with e | e
    · omega
    · have := h.l2 i e; omega
  · have := h.l1
    rcases hf with e | e
    · omega
    · have := h.l2 _ e; omega
set_option maxRecDepth 100000 in
theorem idx8 (D : V8) (k : Nat) (hk : k < 8) : ∀ w : World, (Instr.index 109 (.agg #[.int .u32 (D.a : Int), .int .u32 (D.b : Int), .int .u32 (D.c : Int), .int .u32 (D.d : Int), .int .u32 (D.e : Int), .int .u32 (D.f : Int), .int .u32 (D.g : Int), .int .u32 (D.h : Int)]) (.int .i64 (k : Int))).run Try.prog w = .ok (.int .u32 (((L8 D).getD k 0 : Nat) : Int)) w := by
  intro w
  rcases lt8 hk with rfl | rfl | rfl | rfl | rfl | rfl | rfl | rfl <;> rfl
theorem L8_lt (D : V8) (h : D.Ok) (k : Nat) : (L8 D).getD k 0 < M := getD_lt (by
  intro x hx
  simp only [L8, List.mem_cons, List.not_mem_nil, or_false] at hx
  rcases hx with rfl | rfl | rfl | rfl | rfl | rfl | rfl | rfl
  · exact h.a
  · exact h.b
  · exact h.c
  · exact h.d
  · exact h.e
  · exact h.f
  · exact h.g
  · exact h.h) k
/-- The sum's bytes, where the first k words are laid. -/
def digK (D : V8) (k : Nat) : List UInt8 := (((L8 D).take k).map fun n => putL n 4).flatten ++ List.replicate (32 - 4 * k) 0
structure SuL (w0 : World) (go : Nat) (D : V8) (k : Nat) (w : World) : Prop where
  o : Blk w go 45 (u8s (digK D k)).toArray
  x : Ext No w0 w
  r : Blk w w0.heap.size 45 (u8s (List.replicate 32 0)).toArray
  l : w0.heap.size < go
theorem digK_length (D : V8) (k : Nat) (hk : k ≤ 8) : (digK D k).length = 32 := by
  rcases (show k = 8 ∨ k < 8 by omega) with rfl | h
  · simp [digK, L8, putL_length]
  · rcases lt8 h with rfl | rfl | rfl | rfl | rfl | rfl | rfl | rfl <;> simp [digK, L8, putL_length]
theorem digK_step (D : V8) (k : Nat) (hk : k < 8) : (digK D k).take (4 * k) ++ putL ((L8 D).getD k 0) 4 ++ (digK D k).drop (4 * k + 4) = digK D (k + 1) := by
  have hl : (((L8 D).take k).map fun n => putL n 4).flatten.length = 4 * k := by
    rcases lt8 hk with rfl | rfl | rfl | rfl | rfl | rfl | rfl | rfl <;> simp [L8, putL_length]
  have hs : (L8 D).take (k + 1) = (L8 D).take k ++ [(L8 D).getD k 0] := by
    rcases lt8 hk with rfl | rfl | rfl | rfl | rfl | rfl | rfl | rfl <;> rfl
  unfold digK
  rw [List.take_append_of_le_length (by rw [hl]; exact Nat.le_refl _), List.take_of_length_le (by rw [hl]; exact Nat.le_refl _), List.drop_append, hl, List.drop_of_length_le (by rw [hl]; omega), List.nil_append, List.drop_replicate, hs, List.map_append, List.flatten_append]
  simp only [List.map_cons, List.map_nil, List.flatten_cons, List.flatten_nil, List.append_nil]
  congr 2
  omega
theorem digK_again (D : V8) (k : Nat) (hk : k < 8) : (digK D (k + 1)).take (4 * k) ++ putL ((L8 D).getD k 0) 4 ++ (digK D (k + 1)).drop (4 * k + 4) = digK D (k + 1) := by
  rw [← digK_step D k hk]
  have h1 : ((digK D k).take (4 * k)).length = 4 * k := by rw [List.length_take, digK_length D k (by omega)]; omega
  have h2 : ((digK D k).take (4 * k) ++ putL ((L8 D).getD k 0) 4).length = 4 * k + 4 := by rw [List.length_append, h1, putL_length]
  have h3 : ((digK D k).take (4 * k) ++ putL ((L8 D).getD k 0) 4 ++ (digK D k).drop (4 * k + 4)).take (4 * k) = (digK D k).take (4 * k) := by
    rw [List.append_assoc, List.take_append_of_le_length (by omega), List.take_of_length_le (by omega)]
  rw [h3, List.drop_append, h2, List.drop_of_length_le (by omega), List.nil_append, Nat.sub_self, List.drop_zero]
theorem digK_all (D : V8) : digK D 8 = dig D := by
  simp [digK, L8, dig]
/-- What each operation of the copy leaves. -/
def FC (go k xk : Nat) (D : V8) : Nat → Value → World → Prop
  | 0, v, _ => v = .int .i64 (k : Int)
  | 1, v, _ => v = .int .i64 (4 * (k : Int))
  | 2, v, _ => v = .slice (some ⟨go, 4 * k, none⟩) (32 - 4 * k) (32 - 4 * k)
  | 3, v, _ => v = .int .u32 (xk : Int)
  | 4, v, _ => v = .int .u64 (xk : Int)
  | 5, v, w => Mid w v (putL xk 4)
  | 6, _, w => Blk w go 45 (u8s (digK D (k + 1))).toArray
  | _, _, _ => True
theorem FC.no {go k xk : Nat} {D : V8} {w w' : World} (hx : Ext No w w') : ∀ j v, FC go k xk D j v w → FC go k xk D j v w' := by
  intro j v H
  match j, H with
  | 0, H | 1, H | 2, H | 3, H | 4, H => exact H
  | 5, H => exact H.ext_no hx
  | 6, H => exact Blk.ext_no H hx
  | m + 7, _ => trivial
set_option maxRecDepth 100000 in
set_option maxHeartbeats 4000000 in
theorem shaSum_any (g : Nat) (rv : Value) (m : List UInt8) (w : World) (hst : St w g rv m) (hb : m.length ≤ 140737488351000) :
    Calls Try.prog 43 #[pB g] w fun e w' => e = .returned (.agg (u8s (sha m)).toArray) ∧ Ext No w w' := by
  have hst1 := hst.st
  obtain ⟨H, hH⟩ : ∃ H, hOf m = H := ⟨_, rfl⟩
  obtain ⟨R, hR⟩ : ∃ R, rOf m = R := ⟨_, rfl⟩
  obtain ⟨N, hN⟩ : ∃ N, m.length = N := ⟨_, rfl⟩
  have hrl : R.length < 64 := by rw [← hR, rOf_length]; omega
  rw [hH, hN] at hst1
  have HSB := Lib.hid hst1
  have HSM : Hid (Mid w rv R) := Lib.hid (by rw [← hR]; exact hst.rm)
  have HST := Lib.hid hst
  have HH := Lib.hid hH
  have HR := Lib.hid hR
  have HN := Lib.hid hN
  have HRL := Lib.hid hrl
  have HB := Lib.hid hb
  have HG := Lib.hid hst1.lt
  clear hst1 hH hR hN hst hrl hb
  go_enter Try.func43, Try.ntmps43
  go_upto_region 1 with fail
  have hx0 := (Ext.refl No w).alloc (.cells (List.replicate 32 (Value.int .u8 0)).toArray 45)
  have hr0 := Blk.new w 45 (List.replicate 32 (Value.int .u8 0)).toArray
  rw [show List.replicate 32 (Value.int .u8 0) = u8s (List.replicate 32 0) by simp [u8s, u8v]] at hx0 hr0
  go_cut [3] (fun s3 wx => ∃ (gE : Nat) (v9 : Value), s3 = pB gE ∧ Hid (SuS w g gE rv v9 m wx))
  case first =>
    have HX0 := Lib.hid hx0.drew
    refine RF.region (vs := fun _ => undef) rfl (fun vs => ((pB g) :: undef :: (pB w.heap.size) :: (vs 15) :: undef :: undef :: undef :: undef :: (vs 0) :: (vs 1) :: (vs 2) :: (vs 3) :: (vs 4) :: (vs 5) :: (vs 6) :: (vs 7) :: (vs 8) :: (vs 9) :: (vs 10) :: (vs 11) :: (vs 12) :: (vs 13) :: (vs 14) :: undef :: undef :: undef :: undef :: undef :: undef :: undef :: undef :: undef :: undef :: undef :: undef :: undef :: undef :: undef :: undef :: undef :: undef :: undef :: undef :: undef :: undef :: undef :: undef :: undef :: undef :: undef :: undef :: undef :: undef :: undef :: undef :: undef :: []).toArray) (FE g H rv R N (w.heap.size + 1))
      (fun vs wx => Ext No w wx ∧ w.heap.size < wx.heap.size ∧ Blk wx w.heap.size 45 (u8s (List.replicate 32 0)).toArray ∧ (vs 16 = undef ∨ vs 16 = vs 15)) rfl (by kernel_rfl) ?_ ?_ ?_
    · exact ⟨HX0.out, by simp, hr0, .inl rfl⟩
    · refine ⟨⟨⟨⟨⟨⟨⟨⟨⟨⟨⟨⟨⟨⟨⟨⟨⟨trivial, ?_⟩, ?_⟩, ?_⟩, ?_⟩, ?_⟩, ?_⟩, ?_⟩, ?_⟩, ?_⟩, ?_⟩, ?_⟩, ?_⟩, ?_⟩, ?_⟩, ?_⟩, ?_⟩, ?_⟩
      all_goals refine RF.Step.plain rfl rfl (fun vs wx hG hv hd K hK => ?_)
      all_goals clear hx0 hr0
      · go_simp
        exact hK _ _ hG rfl (fun _ _ h => h)
      · have h3 : vs 0 = pB g := hd.1
        go_simp
        have h4 := hK _ _ hG rfl (fun _ _ h => h)
        simpa only [RF.upd, h3, Nat.reduceEqDiff, if_true, if_false, reduceIte] using h4
      · have h3 : vs 1 = pB g := hd.1
        go_simp
        have h4 := hK _ _ hG rfl (fun _ _ h => h)
        simpa only [RF.upd, h3, Nat.reduceEqDiff, if_true, if_false, reduceIte] using h4
      · have h3 : vs 2 = pB g := hd.1
        have hb := HSB.out.ext_no hG.1
        have c0 := hb.cell 0
        have c1 := hb.cell 1
        have c2 := hb.cell 2
        have c3 := hb.cell 3
        have c4 := hb.cell 4
        have c5 := hb.cell 5
        have c6 := hb.cell 6
        have c7 := hb.cell 7
        simp only [V8cs] at c0 c1 c2 c3 c4 c5 c6 c7
        clear hb
        go_simp
        have h4 := hK _ _ hG rfl (fun _ _ h => h)
        simpa only [RF.upd, h3, V8c, Nat.reduceEqDiff, if_true, if_false, reduceIte] using h4
      · go_simp
        exact hK _ _ hG rfl (fun _ _ h => h)
      · have h3 : vs 4 = pB g := hd.1
        go_simp
        have h4 := hK _ _ hG rfl (fun _ _ h => h)
        simpa only [RF.upd, h3, Nat.reduceEqDiff, if_true, if_false, reduceIte] using h4
      · have h3 : vs 5 = pB g := hd.1
        go_simp
        have h4 := hK _ _ hG rfl (fun _ _ h => h)
        simpa only [RF.upd, h3, Nat.reduceEqDiff, if_true, if_false, reduceIte] using h4
      · have h3 : vs 6 = .pointer (some ⟨g, 8, none⟩) := hd.1
        have c8 : wx.cell? ⟨g, 8, none⟩ = some rv := (HSB.out.ext_no hG.1).cell 8
        obtain ⟨Ar, cr, rfl, _⟩ := HSM.out.slice
        go_simp
        have h4 := hK _ _ hG rfl (fun _ _ h => h)
        simpa only [RF.upd, h3, Nat.reduceEqDiff, if_true, if_false, reduceIte] using h4
      · have h3 : vs 7 = rv := hd.1
        obtain ⟨Ar, cr, rfl, _⟩ := HSM.out.slice
        go_simp
        have hx := (Ext.refl No wx).alloc (.cells #[.slice Ar R.length cr] 27)
        have h4 := hK _ _ ⟨hG.1.trans hx, Nat.lt_of_lt_of_le hG.2.1 hx.size, hG.2.2.1.ext_no hx, hG.2.2.2⟩ ⟨wx.heap.size, rfl, Blk.new wx _ _⟩ (fun j _ h => FE.no hx j _ h)
        simpa only [RF.upd, h3, Nat.reduceEqDiff, if_true, if_false, reduceIte] using h4
      · obtain ⟨g', e, hb⟩ := hd.1
        have hpt : Parts wx Any (.slice (some ⟨g', 0, none⟩) 1 1) [R] := ⟨[rv], ⟨rfl, _, _, rfl, Nat.le_refl _, by unfold maxLen; decide, fun _ => ⟨g', 0, rfl, trivial, fun j u hu => by
          have hj : j = 0 := by have := (List.getElem?_eq_some_iff.1 hu).1; simp at this; omega
          subst hj
          rw [hb.cell]; exact hu⟩⟩, fun i hi => by
          have h0 : i = 0 := by simp at hi; omega
          subst h0
          exact ⟨rv, rfl, (HSM.out.ext_no hG.1).any⟩⟩
        have e8 : vs 8 = .slice (some ⟨g', 0, none⟩) 1 1 := e
        go_simp
        with_reducible refine (oJoin_any Any _ [R] wx hpt (by simp; have := HRL.out; omega)).mono ?_
        rintro e' w' ⟨A9, n9, k9, rfl, ho9, hx⟩
        simp only [List.flatten_cons, List.flatten_nil, List.append_nil] at ho9
        have h4 := hK _ _ ⟨hG.1.trans hx, Nat.lt_of_lt_of_le hG.2.1 hx.size, hG.2.2.1.ext_no hx, hG.2.2.2⟩ ⟨Mid.of_own ho9, fun k hk => by have := (ho9.lt k hk).1; have := hG.2.1; omega⟩ (fun j _ h => FE.no hx j _ h)
        simpa only [RF.upd, e8, Nat.reduceEqDiff, if_true, if_false, reduceIte] using h4
      · go_simp
        exact hK _ _ hG rfl (fun _ _ h => h)
      · have h3 : vs 10 = pB g := hd.1
        go_simp
        have h4 := hK _ _ hG rfl (fun _ _ h => h)
        simpa only [RF.upd, h3, Nat.reduceEqDiff, if_true, if_false, reduceIte] using h4
      · have h3 : vs 11 = pB g := hd.1
        go_simp
        have h4 := hK _ _ hG rfl (fun _ _ h => h)
        simpa only [RF.upd, h3, Nat.reduceEqDiff, if_true, if_false, reduceIte] using h4
      · have h3 : vs 12 = .pointer (some ⟨g, 9, none⟩) := hd.1
        have c9 : wx.cell? ⟨g, 9, none⟩ = some (.int .u64 (N : Int)) := (HSB.out.ext_no hG.1).cell 9
        go_simp
        have h4 := hK _ _ hG rfl (fun _ _ h => h)
        simpa only [RF.upd, h3, Nat.reduceEqDiff, if_true, if_false, reduceIte] using h4
      · have h3 : vs 3 = .agg (V8c H) := hd.1
        have h9 : Mid wx (vs 9) R ∧ ∀ k, (vs 9).ownBlock = some k → w.heap.size + 1 ≤ k := hd.2.1
        have h13 : vs 13 = .int .u64 (N : Int) := hd.2.2.1
        obtain ⟨A9, k9, e9, _⟩ := h9.1.slice
        simp only [V8c] at h3
        go_simp
        have h4 := hK (.agg (V8cs H (vs 9) N)) _ hG ⟨vs 9, rfl, h9⟩ (fun _ _ h => h)
        simpa only [RF.upd, h3, h13, e9, V8cs, Nat.reduceEqDiff, if_true, if_false, reduceIte] using h4
      · go_simp
        have hx := (Ext.refl No wx).alloc (.cells (V8cs ⟨0, 0, 0, 0, 0, 0, 0, 0⟩ (.slice none 0 0) 0) 111)
        exact hK _ _ ⟨hG.1.trans hx, Nat.lt_of_lt_of_le hG.2.1 hx.size, hG.2.2.1.ext_no hx, .inl (by show vs 16 = undef; rcases hG.2.2.2 with e | e; exact e; rw [e]; exact hv)⟩ ⟨⟨wx.heap.size, _, rfl, Blk.new wx _ _, rfl⟩, fun gE e => by have := hG.2.1; simp at e; omega⟩ (fun j _ h => FE.no hx j _ h)
      · obtain ⟨⟨gE, cs, e15, hbE, hcs⟩, hle⟩ := hd.1
        obtain ⟨v9, e14, hm9, hl9⟩ : ∃ v9, vs 14 = .agg (V8cs H v9 N) ∧ Mid wx v9 R ∧ ∀ k, v9.ownBlock = some k → w.heap.size + 1 ≤ k := hd.2.1
        have hle := hle gE e15
        refine V3.wp_store_blk 111 (.tmp 3) (.tmp 22) rfl hbE e15 e14 (by rw [hcs]; rfl) (by kernel_rfl) (V8cs_one H v9 N hm9) ?_
        intro w' hb' hx'
        have hX : Ext No w w' := hG.1.transS hx' (fun i hi h => absurd hi (by have h' : i = gE := h; omega))
        refine hK (vs 15) _ ⟨hX, Nat.lt_of_lt_of_le hG.2.1 hx'.size, hG.2.2.1.ext hx' (fun h => by have h' : w.heap.size = gE := h; omega), .inr rfl⟩ ⟨gE, v9, e15, hle, hb', hm9.ext hx' (fun b e k => hm9.not_ty hbE (by decide) (by rw [← (show b = gE from k)]; exact e)), hl9⟩ (fun j hj h => FE.sto hx' hbE hb' (by rw [hcs]; rfl) j _ hj h)
    · intro vs wx hG hF
      obtain ⟨gE0, v9, e16, hle, hbE, hm9, hl9⟩ : FE g H rv R N (w.heap.size + 1) 16 (vs 16) wx := hF 16 (by decide)
      have h15 : V3.AB wx 111 10 (vs 15) ∧ ∀ gE, vs 15 = pB gE → w.heap.size + 1 ≤ gE := hF 15 (by decide)
      clear hF
      go_wp2_with fail
      go_meet
      case rel =>
        refine ⟨gE0, v9, ?_, Lib.hid ⟨⟨by rw [HH.out, HN.out]; exact HSB.out.ext_no hG.1, by rw [HR.out]; exact HSM.out.ext_no hG.1⟩, ⟨by rw [HH.out, HN.out]; exact hbE, by rw [HR.out]; exact hm9⟩, hG.1, hG.2.2.1, hle, hl9⟩⟩
        rcases hG.2.2.2 with e | e
        · rw [e] at e16; exact absurd e16 V3.pB_undef
        · rw [← e]; exact e16
  case rest =>
    obtain ⟨gE, v9, rfl, HS⟩ := hcut
    clear HSB HSM HST HG hx0 hr0
    obtain ⟨Ar, cr, hrv, _⟩ := HS.out.st.rm.slice
    subst hrv
    obtain ⟨RL, hRL⟩ : ∃ n, (rOf m).length = n := ⟨_, rfl⟩
    have c8 : wc.cell? ⟨g, 8, none⟩ = some (.slice Ar (rOf m).length cr) := HS.out.st.st.cell 8
    have c9 : wc.cell? ⟨g, 9, none⟩ = some (.int .u64 (m.length : Int)) := HS.out.st.st.cell 9
    have hgl := HS.out.st.st.lt
    rw [hRL] at c8 HS
    rw [HN.out] at c9
    have hrl2 : RL < 64 := by rw [← hRL, HR.out]; exact HRL.out
    have hnb : N ≤ 140737488351000 := by rw [← HN.out]; exact HB.out
    obtain ⟨nz, hnz⟩ : ∃ n, (119 - RL) % 64 = n := ⟨_, rfl⟩
    have hmod : (119 - (RL : Int)) % 64 = (nz : Int) := by omega
    have HNZ := Lib.hid hnz
    have HMOD := Lib.hid hmod
    clear hmod
    have HNZ2 : Hid (nz ≤ 64) := Lib.hid (by omega)
    have HRL2 := Lib.hid hRL
    have HPAD : Hid (padl m = 128 :: List.replicate nz 0 ++ putL (8 * N) 8) := Lib.hid (by unfold padl; rw [hRL, hnz, HN.out, Nat.mod_eq_of_lt (by omega)])
    have HLEN : Hid ((128 :: List.replicate nz (0 : UInt8)).length + (putL (8 * N) 8).length ≤ 140737488355328) := Lib.hid (by rw [putL_length, List.length_cons, List.length_replicate]; omega)
    have HLE : Hid (m.length + (padl m).length ≤ 140737488351232) := Lib.hid (by rw [HPAD.out, List.length_append, List.length_cons, List.length_replicate, putL_length, HN.out]; omega)
    have HBL : Hid (Blk (wc.alloc (.cells #[.int .u8 128] 5)) wc.heap.size 5 #[u8v 128]) := Lib.hid (Blk.new wc _ _)
    obtain ⟨D, hD⟩ : ∃ D, hOf (m ++ padl m) = D := ⟨_, rfl⟩
    have HDO : Hid D.Ok := Lib.hid (by rw [← hD]; exact hOf_ok _)
    have HD := Lib.hid hD
    clear hnz hRL hD
    go_wp2_with (first
      | (at_builtin; refine app0 (.tmp 23) (.tmp 30) rfl rfl wc.heap.size 128 nz rfl (congrArg (Value.int .i64) HMOD.out) HBL.out HNZ2.out ?_; intro v4 w4 hm4 hx4 hat4; have HM4 := Lib.hid hm4; have HX4 := Lib.hid (((Ext.refl No wc).alloc _).trans hx4); have c94 := (HX4.out.cell (p := ⟨g, 9, none⟩) hgl (fun h => h)).trans c9; have hgl4 := Nat.lt_of_lt_of_le hgl HX4.out.size; have HAT4 := Lib.hid hat4; clear hm4 hx4 hat4 c9 c8)
      | (go_at_call 74; have HPUT := oPut_any (8 * N) 8 w4 (by omega) (by omega); rw [show ((8 * N : Nat) : Int) = 8 * (N : Int) by omega, show ((8 : Nat) : Int) = 8 from rfl] at HPUT; with_reducible refine HPUT.mono ?_; rintro e5 w5 ⟨v5, rfl, ho5, hx5⟩; have HM5 := Lib.hid (HM4.out.ext_no hx5); have HO5 := Lib.hid ho5; have HX5 := Lib.hid (HX4.out.trans hx5); clear HPUT ho5 hx5)
      | (at_builtin; refine app_mid (.tmp 32) (.tmp 38) rfl rfl v4 v5 _ _ rfl rfl HM5.out _ HO5.out.any HLEN.out ?_; intro v6 w6 hm6 hx6 hat6; rw [← HPAD.out] at hm6; have HM6 := Lib.hid hm6; have HX6 : Hid (Ext No wc w6) := Lib.hid (HX5.out.transS hx6 (fun i hi h => not_old HAT4.out (Nat.le_refl _) (by simp) i hi h)); clear hm6 hx6 hat6 HM5 HO5 HX5 HM4 HX4 HAT4 HBL c94 hgl4)
      | (go_at_call 42; refine (shaWrite_any gE v9 m (padl m) v6 w6 ⟨HS.out.en.st.ext_no HX6.out, HS.out.en.rm.ext_no HX6.out⟩ (HM6.out.bs.mono fun k hk e => (HM6.out.not_st (HS.out.en.st.ext_no HX6.out)) (by rw [← e]; exact hk)) HLE.out).mono ?_; rintro e7 w7 ⟨rfl, rv7, hs7, hx7, _⟩; have HY : Hid (SuD w gE m w7) := Lib.hid (SuS.done HS.out HX6.out hs7 hx7); obtain ⟨rvE, nE, hE⟩ := HY.out.en; rw [HD.out] at hE; have d0 := hE.cell 0; have d1 := hE.cell 1; have d2 := hE.cell 2; have d3 := hE.cell 3; have d4 := hE.cell 4; have d5 := hE.cell 5; have d6 := hE.cell 6; have d7 := hE.cell 7; simp only [V8cs] at d0 d1 d2 d3 d4 d5 d6 d7; have hlE := hE.lt; clear hE hs7 hx7 HM6 HX6 HS hgl))
    have HL : Hid (SuL w w7.heap.size D 0 (w7.alloc (.cells (u8s (List.replicate 32 0)).toArray 45))) := Lib.hid ⟨Blk.new w7 _ _, HY.out.x.alloc _, HY.out.r.alloc _, HY.out.r.lt⟩
    clear HY d0 d1 d2 d3 d4 d5 d6 d7 hlE
    go_loopw [43] (fun i wr => ∃ k : Nat, k ≤ 8 ∧ i = .int .i64 k ∧ Hid (SuL w w7.heap.size D k wr)) (fun i _ => 8 - (intOf i).toNat)
    case atStart => exact ⟨0, by omega, rfl, HL⟩
    case round =>
      obtain ⟨k, hk, rfl, HK⟩ := hrel
      clear HL
      by_cases h8 : k < 8
      · have hidx := idx8 D k h8
        have hx8 := L8_lt D HDO.out k
        have HD8 := Lib.hid (digK_step D k h8)
        have HDL := Lib.hid (digK_length D k (by omega))
        have HDA := Lib.hid (digK_again D k h8)
        generalize (L8 D).getD k 0 = xk at *
        have HXK := Lib.hid hx8
        go_wp2_with fail
        have hdec : decide ((k : Int) < 8) = true := by simp; omega
        rw [hdec]
        clear hdec
        refine RF.region (vs := fun | 0 => u47 | 1 => u48 | 2 => u49 | 3 => u50 | 4 => u51 | 5 => u52 | 6 => u53 | _ => undef) rfl (fun vs => ((pB g) :: undef :: (Value.pointer (some { block := w.heap.size, off := 0 })) :: (pB gE) :: v4 :: (Value.pointer (some { block := w7.heap.size, off := 0 })) :: (Value.int IntKind.i64 (k : Int)) :: (Value.int IntKind.u32 (xk : Int)) :: u8 :: u9 :: u10 :: u11 :: u12 :: u13 :: u14 :: u15 :: u16 :: u17 :: u18 :: u19 :: u20 :: u21 :: u22 :: (Value.slice (some { block := wc.heap.size, off := 0 }) 1 1) :: (pB g) :: (Value.pointer (some { block := g, off := 0 })) :: (Value.pointer (some { block := g, off := 8 })) :: (Value.slice Ar RL cr) :: (Value.int IntKind.i64 (RL : Int)) :: (Value.int IntKind.i64 (119 - (RL : Int))) :: (Value.int IntKind.i64 ((119 - (RL : Int)) % 64)) :: v4 :: v4 :: (pB g) :: (Value.pointer (some { block := g, off := 0 })) :: (Value.pointer (some { block := g, off := 9 })) :: (Value.int IntKind.u64 (N : Int)) :: (Value.int IntKind.u64 (8 * (N : Int))) :: v5 :: v6 :: (Value.tuple #[]) :: (Value.pointer (some { block := gE, off := 0 })) :: (Value.agg #[Value.int IntKind.u32 (D.a : Int), Value.int IntKind.u32 (D.b : Int), Value.int IntKind.u32 (D.c : Int), Value.int IntKind.u32 (D.d : Int), Value.int IntKind.u32 (D.e : Int), Value.int IntKind.u32 (D.f : Int), Value.int IntKind.u32 (D.g : Int), Value.int IntKind.u32 (D.h : Int)]) :: (Value.int IntKind.i64 (k : Int)) :: (Value.bool true) :: (Value.int IntKind.i64 (k : Int)) :: (Value.int IntKind.u32 (xk : Int)) :: (vs 0) :: (vs 1) :: (vs 2) :: (vs 3) :: (vs 4) :: (vs 5) :: (vs 6) :: u54 :: u55 :: []).toArray) (FC w7.heap.size k xk D)
          (fun vs wx => Ext No w wx ∧ Blk wx w.heap.size 45 (u8s (List.replicate 32 0)).toArray ∧ (Blk wx w7.heap.size 45 (u8s (digK D k)).toArray ∨ Blk wx w7.heap.size 45 (u8s (digK D (k + 1))).toArray)) rfl (by kernel_rfl) ?_ ?_ ?_
        · exact ⟨HK.out.x.drew, HK.out.r.drew, .inl HK.out.o.drew⟩
        · refine ⟨⟨⟨⟨⟨⟨⟨trivial, ?_⟩, ?_⟩, ?_⟩, ?_⟩, ?_⟩, ?_⟩, ?_⟩
          all_goals refine RF.Step.plain rfl rfl (fun vs wx hG hv hd K hK => ?_)
          · go_simp
            exact hK _ _ hG rfl (fun _ _ h => h)
          · have h3 : vs 0 = .int .i64 (k : Int) := hd.1
            have hwk : IntKind.i64.wrap (4 * (k : Int)) = 4 * (k : Int) := by rw [IntKind.wrap_i64]; omega
            go_simp
            have h4 := hK _ _ hG rfl (fun _ _ h => h)
            simpa only [RF.upd, h3, Nat.reduceEqDiff, if_true, if_false, reduceIte] using h4
          · have h3 : vs 1 = .int .i64 (4 * (k : Int)) := hd.1
            have hw1 : (0 : Int) ≤ 4 * (k : Int) := by omega
            have hw2 : 4 * (k : Int) ≤ 32 := by omega
            have hw3 : (4 * (k : Int)).toNat = 4 * k := by omega
            have hw4 : 4 * k < 32 := by omega
            have hw5 : ¬ (32 = 4 * k) := by omega
            go_simp
            have h4 := hK _ _ hG rfl (fun _ _ h => h)
            simpa only [RF.upd, h3, Nat.reduceEqDiff, if_true, if_false, reduceIte] using h4
          · go_simp
            exact hK _ _ hG rfl (fun _ _ h => h)
          · have h3 : vs 3 = .int .u32 (xk : Int) := hd.1
            have hwk : IntKind.u64.wrap (xk : Int) = (xk : Int) := by have := HXK.out; unfold M at this; rw [IntKind.wrap_u64]; omega
            go_simp
            have h4 := hK _ _ hG rfl (fun _ _ h => h)
            simpa only [RF.upd, h3, Nat.reduceEqDiff, if_true, if_false, reduceIte] using h4
          · have h3 : vs 4 = .int .u64 (xk : Int) := hd.1
            have hp := oPut_any xk 4 wx (by have := HXK.out; unfold M at this; omega) (by omega)
            rw [show ((4 : Nat) : Int) = 4 from rfl] at hp
            go_simp
            with_reducible refine hp.mono ?_
            rintro e' w' ⟨v', rfl, ho, hx⟩
            have h4 := hK _ _ ⟨hG.1.trans hx, hG.2.1.ext_no hx, hG.2.2.imp (fun h => h.ext_no hx) (fun h => h.ext_no hx)⟩ (Mid.of_own ho) (fun j _ h => FC.no hx j _ h)
            simpa only [RF.upd, h3, Nat.reduceEqDiff, if_true, if_false, reduceIte] using h4
          · have h2 : vs 2 = .slice (some ⟨w7.heap.size, 4 * k, none⟩) (32 - 4 * k) (32 - 4 * k) := hd.1
            have h5 : Mid wx (vs 5) (putL xk 4) := hd.2.1
            have hpl : (u8s (putL xk 4)).take (32 - 4 * k) = u8s (putL xk 4) := List.take_of_length_le (by rw [u8s_length, putL_length]; omega)
            have hnb : ∀ {cs : Array Value}, Blk wx w7.heap.size 45 cs → ¬ (vs 5).ownBlock = some w7.heap.size := fun hb => h5.not_ty hb (by decide)
            obtain ⟨L, hL1, hL2, hbL⟩ : ∃ L : List UInt8, L.length = 32 ∧ L.take (4 * k) ++ putL xk 4 ++ L.drop (4 * k + 4) = digK D (k + 1) ∧ Blk wx w7.heap.size 45 (u8s L).toArray := by
              rcases hG.2.2 with hb | hb
              · exact ⟨_, HDL.out, HD8.out, hb⟩
              · exact ⟨_, digK_length D (k + 1) (by omega), HDA.out, hb⟩
            refine wp_copy_bs (.tmp 49) (.tmp 52) rfl hbL h2 rfl h5.bs (by rw [List.size_toArray, u8s_length, hL1]; omega) ?_
            intro w' hb' hx'
            rw [hpl, setL_u8s _ _ _ (by rw [putL_length, hL1]; omega), putL_length, hL2] at hb'
            exact hK _ _ ⟨hG.1.transS hx' (fun i hi h => absurd hi (by have h' : i = w7.heap.size := h; have := HK.out.l; omega)), hG.2.1.ext hx' (fun h => by have h' : w.heap.size = w7.heap.size := h; have := HK.out.l; omega), .inr hb'⟩ hb' (fun j hj h => by
              match j, h with
              | 0, h | 1, h | 2, h | 3, h | 4, h => exact h
              | 5, h => exact Mid.ext h hx' (fun b e k => hnb hbL (by rw [← (show b = w7.heap.size from k)]; exact e))
              | 6, h => exact absurd rfl hj
              | m + 7, _ => trivial)
        · intro vs wx hG hF
          have hb : Blk wx w7.heap.size 45 (u8s (digK D (k + 1))).toArray := hF 6 (by decide)
          clear hF
          have HN2 : Hid (SuL w w7.heap.size D (k + 1) wx) := Lib.hid ⟨hb, hG.1, hG.2.1, HK.out.l⟩
          clear hG hb
          go_wp2_with fail
          go_roundw
          case rel => exact ⟨k + 1, by omega, by go_num, HN2⟩
          case measure => simp [intOf]; omega
      · obtain rfl : k = 8 := by omega
        have hb := HK.out.o
        rw [digK_all] at hb
        have hdl : (dig D).length = 32 := by rw [← digK_all]; exact digK_length D 8 (by omega)
        obtain ⟨L, hL⟩ : ∃ L, dig D = L := ⟨_, rfl⟩
        rw [hL] at hb hdl
        have HLD : Hid (sha m = L) := Lib.hid (by unfold sha; rw [HD.out, hL])
        have HB2 := Lib.hid hb
        have HDL2 := Lib.hid (show (u8s L).toArray.size = 32 by rw [List.size_toArray, u8s_length]; exact hdl)
        clear hb hdl h8 hL
        go_wp2_with (first
          | ((with_reducible show wpList _ _ _ _ _ _); refine load_blk (o := ⟨some 55, _, _, _, _, _⟩) 45 (.tmp 5) rfl rfl HB2.out rfl _ und_b32 rfl (by rw [HDL2.out]; exact size_b32) ?_)
          | ((with_reducible show wpList _ _ _ _ _ _); refine store_blk (o := ⟨none, _, _, _, _, _⟩) 45 (.tmp 2) (.tmp 55) rfl rfl HK.out.r rfl rfl (by rw [HDL2.out]; rfl) (by rw [HDL2.out]; exact size_b32) (u8s_one' _) ?_; intro w9 hb9 hx9; have HB9 := Lib.hid hb9; have HX9 := Lib.hid (HK.out.x.transS hx9 (fun i hi h => absurd hi (by have h' : i = w.heap.size := h; omega))); clear hb9 hx9))
        exact bodyPost_ret (v := .agg (u8s L).toArray) (ret_blk Try.results43 HB9.out rfl _ und_b32 rfl (by rw [HDL2.out]; exact size_b32)) rfl ⟨by rw [HLD.out], HX9.out⟩
end Go.Proofs.Ytljddghamgjfbaa
