/- The law FieldTimes. -/
import Derived.Test.YtljddghamgjfbaaHash05
import Derived.Test.YtljddghamgjfbaaRefXor
set_option linter.unusedVariables false
set_option linter.unusedSimpArgs false
namespace Go.Proofs.Ytljddghamgjfbaa
open Go.RowKit Go.Deep Fm Rt

/-- Within FieldTimes, behind the table. -/
structure T5 (w0 : World) (ga gb g1 g2 gt : Nat) (l m : List UInt8) (vw : Value) (x y p : G) (w : World) : Prop where
  pa : Blk w ga 22 (u8s l).toArray
  pb : Blk w gb 22 (u8s m).toArray
  ea : El w g1 x
  eb : El w g2 y
  t : IsTb w gt (tb y) tov
  k : Bs w Any vw (elB p)
  x : Ext No w0 w
abbrev T5S (w0 : World) (ga gb g1 g2 gt : Nat) (l m : List UInt8) (vw : Value) (x y p : G) (w : World) : Prop :=
  ((w.cell? ⟨g1, 0, none⟩ = some (.int .u64 (hi x : Int)) ∧ w.cell? ⟨g1, 1, none⟩ = some (.int .u64 (lo x : Int))) ∧ (w.cell? ⟨g2, 0, none⟩ = some (.int .u64 (hi y : Int)) ∧ w.cell? ⟨g2, 1, none⟩ = some (.int .u64 (lo y : Int)))) ∧ Hid (T5 w0 ga gb g1 g2 gt l m vw x y p w)
section
variable {w0 w w' : World} {ga gb g1 g2 gt : Nat} {l m : List UInt8} {vw : Value} {x y p : G}
theorem T5.S (h : T5 w0 ga gb g1 g2 gt l m vw x y p w) : T5S w0 ga gb g1 g2 gt l m vw x y p w := ⟨⟨h.ea, h.eb⟩, h⟩
theorem T5.no (h : T5S w0 ga gb g1 g2 gt l m vw x y p w) (hx : Ext No w w') : T5S w0 ga gb g1 g2 gt l m vw x y p w' :=
  T5.S ⟨h.2.out.pa.ext_no hx, h.2.out.pb.ext_no hx, h.2.out.ea.no hx, h.2.out.eb.no hx, h.2.out.t.ext_no hx, h.2.out.k.ext_no hx, h.2.out.x.trans hx⟩
theorem T5.times (h : T5S w0 ga gb g1 g2 gt l m vw x y p w) (hp : mul x y = p) : Calls Try.prog 28 #[.agg #[.int .u64 (hi x : Int), .int .u64 (lo x : Int)], .agg #[.int .u64 (hi y : Int), .int .u64 (lo y : Int)]] w fun e w' => e = .returned (.agg #[.int .u64 (hi p : Int), .int .u64 (lo p : Int)]) ∧ T5S w0 ga gb g1 g2 gt l m vw x y p w' := by
  refine (fTimes_any x y w).mono ?_
  rintro e w' ⟨rfl, hx⟩
  rw [hp]
  exact ⟨rfl, T5.no h hx⟩
theorem T5.tab (h : T5S w0 ga gb g1 g2 gt l m vw x y p w) (hp : mul x y = p) : Calls Try.prog 30 #[.pointer (some ⟨gt, 0, none⟩), .agg #[.int .u64 (hi x : Int), .int .u64 (lo x : Int)]] w fun e w' => e = .returned (.agg #[.int .u64 (hi p : Int), .int .u64 (lo p : Int)]) ∧ T5S w0 ga gb g1 g2 gt l m vw x y p w' := by
  refine (fTimesT_any gt x y w h.2.out.t).mono ?_
  rintro e w' ⟨rfl, hx⟩
  rw [hp]
  exact ⟨rfl, T5.no h hx⟩
theorem T5.add (h : T5S w0 ga gb g1 g2 gt l m vw x y p w) (s : G) (hs : x ^^^ y = s) : Calls Try.prog 31 #[.agg #[.int .u64 (hi x : Int), .int .u64 (lo x : Int)], .agg #[.int .u64 (hi y : Int), .int .u64 (lo y : Int)]] w fun e w' => e = .returned (.agg #[.int .u64 (hi s : Int), .int .u64 (lo s : Int)]) ∧ T5S w0 ga gb g1 g2 gt l m vw x y p w' := by
  refine (eAdd_any x y w).mono ?_
  rintro e w' ⟨rfl, hx⟩
  rw [hs]
  exact ⟨rfl, T5.no h hx⟩
theorem T5.bytes (h : T5S w0 ga gb g1 g2 gt l m vw x y p w) (z : G) (L : List UInt8) (hL : elB z = L) : Calls Try.prog 29 #[.agg #[.int .u64 (hi z : Int), .int .u64 (lo z : Int)]] w fun e w' => ∃ v, e = .returned v ∧ Hid (Bs w' Any v L) ∧ T5S w0 ga gb g1 g2 gt l m vw x y p w' := by
  subst hL
  refine (eBytes_agg z w).mono ?_
  rintro e w' ⟨v, rfl, hb, hx⟩
  exact ⟨v, rfl, hb, T5.no h hx⟩
theorem T5.same (h : T5S w0 ga gb g1 g2 gt l m vw x y p w) (v1 v2 : Value) (L : List UInt8) (h1 : Bs w Any v1 L) (h2 : Bs w Any v2 L) : Calls Try.prog 27 #[v1, v2] w fun e w' => e = .returned (.bool true) ∧ T5S w0 ga gb g1 g2 gt l m vw x y p w' := by
  refine (rSame_eq v1 v2 L w h1 h2).mono ?_
  rintro e w' ⟨rfl, hx⟩
  exact ⟨rfl, T5.no h hx⟩
theorem T5.sa (h : T5S w0 ga gb g1 g2 gt l m vw x y p w) (hl : l.length = 16) : Bs w Any (.slice (some ⟨ga, 0, none⟩) 16 16) l := (Bs.whole (g := ga) (t := 22) h.2.out.pa hl.symm (Nat.le_refl _) (by unfold maxLen; decide)).any
theorem T5.sb (h : T5S w0 ga gb g1 g2 gt l m vw x y p w) (hl : m.length = 16) : Bs w Any (.slice (some ⟨gb, 0, none⟩) 16 16) m := (Bs.whole (g := gb) (t := 22) h.2.out.pb hl.symm (Nat.le_refl _) (by unfold maxLen; decide)).any
theorem T5.xor (h : T5S w0 ga gb g1 g2 gt l m vw x y p w) (hl : l.length = 16) (hm : m.length = 16) (hx : elL l = x) (hy : elL m = y) (s : G) (hs : x ^^^ y = s) (v1 : Value) (L : List UInt8) (h1 : Bs w Any v1 L) : Calls Try.prog 32 #[.slice (some ⟨ga, 0, none⟩) 16 16, .slice (some ⟨gb, 0, none⟩) 16 16] w fun e w' => ∃ v, e = .returned v ∧ Hid (Bs w' Any v (elB s)) ∧ Hid (Bs w' Any v1 L) ∧ T5S w0 ga gb g1 g2 gt l m vw x y p w' := by
  subst hs
  refine (rXor_any _ _ l m w hl hm (T5.sa h hl) (T5.sb h hm) x y hx hy).mono ?_
  rintro e w' ⟨v, rfl, hb, hx⟩
  exact ⟨v, rfl, hb, h1.ext_no hx, T5.no h hx⟩
theorem T5.works (h : T5S w0 ga gb g1 g2 gt l m vw x y p w) : Calls Try.prog 33 #[] w fun e w' => e = .returned (.bool true) ∧ T5S w0 ga gb g1 g2 gt l m vw x y p w' := by
  refine (works05 w).mono ?_
  rintro e w' ⟨rfl, hx⟩
  exact ⟨rfl, T5.no h hx⟩
end
/-- Behind x and y. -/
structure T2 (w0 : World) (ga gb g1 g2 : Nat) (l m : List UInt8) (x y : G) (w : World) : Prop where
  pa : Blk w ga 22 (u8s l).toArray
  pb : Blk w gb 22 (u8s m).toArray
  ea : El w g1 x
  eb : El w g2 y
  x : Ext No w0 w
section
variable {w0 w w' : World} {ga gb g1 g2 : Nat} {l m : List UInt8} {x y : G}
theorem T2.no (h : T2 w0 ga gb g1 g2 l m x y w) (hx : Ext No w w') : T2 w0 ga gb g1 g2 l m x y w' := ⟨h.pa.ext_no hx, h.pb.ext_no hx, h.ea.no hx, h.eb.no hx, h.x.trans hx⟩
theorem T2.sa (h : T2 w0 ga gb g1 g2 l m x y w) (hl : l.length = 16) : Bs w Any (.slice (some ⟨ga, 0, none⟩) 16 16) l := (Bs.whole (g := ga) (t := 22) h.pa hl.symm (Nat.le_refl _) (by unfold maxLen; decide)).any
theorem T2.sb (h : T2 w0 ga gb g1 g2 l m x y w) (hl : m.length = 16) : Bs w Any (.slice (some ⟨gb, 0, none⟩) 16 16) m := (Bs.whole (g := gb) (t := 22) h.pb hl.symm (Nat.le_refl _) (by unfold maxLen; decide)).any
end
set_option maxRecDepth 100000 in
set_option maxHeartbeats 12000000 in
theorem times05_any (l m : List UInt8) (w : World) (hl : l.length = 16) (hm : m.length = 16) : Calls Try.prog 3 #[.agg (u8s l).toArray, .agg (u8s m).toArray] w fun e' w' => e' = .returned (.bool true) ∧ Ext No w w' := by
  have HL := Lib.hid hl
  have HM := Lib.hid hm
  clear hl hm
  go_enter Try.func3, Try.ntmps3
  go_upto_region 1 with fail
  have HA : Hid (Blk ((w.alloc (.cells (u8s l).toArray 22)).alloc (.cells (u8s m).toArray 22)) w.heap.size 22 (u8s l).toArray) := Lib.hid ((Blk.new w _ _).alloc _)
  have hb0 := Blk.new (w.alloc (.cells (u8s l).toArray 22)) 22 (u8s m).toArray
  rw [World.size_alloc] at hb0
  have HB := Lib.hid hb0
  have HX := Lib.hid (((Ext.refl No w).alloc (.cells (u8s l).toArray 22)).alloc (.cells (u8s m).toArray 22))
  clear hb0
  generalize ((w.alloc (.cells (u8s l).toArray 22)).alloc (.cells (u8s m).toArray 22)) = w2 at *
  have hw2 := HX.out.size
  obtain ⟨x, hx⟩ : ∃ x, elL l = x := ⟨_, rfl⟩
  obtain ⟨y, hy⟩ : ∃ y, elL m = y := ⟨_, rfl⟩
  have HEX := Lib.hid hx
  have HEY := Lib.hid hy
  clear hx hy
  go_cut [5, 6] (fun s5 s6 wx => ∃ g1 g2 : Nat, s5 = .pointer (some ⟨g1, 0, none⟩) ∧ s6 = .pointer (some ⟨g2, 0, none⟩) ∧ Hid (E3 w2 g1 g2 g2 x y y wx))
  case first =>
    go_region_with ((first
      | (go_at_call 22; (with_reducible refine (fFrom_agg (.slice (some ⟨w.heap.size, 0, none⟩) 16 16) l _ ?_ x HEX.out).mono ?_); (exact (Bs.whole (g := w.heap.size) (t := 22) (by first | exact HA.out | exact HA.out.alloc _ | exact (HA.out.alloc _).alloc _) HL.out.symm (Nat.le_refl _) (by unfold maxLen; decide)).any); rintro e' w6 ⟨rfl, hx6⟩; obtain ⟨hc6, hf6⟩ := ecell hx6; have hz6 := hx6.size; (try simp at hz6); (try have y6 := zA hx6); (try have y6 := zAd hx6); (try have y6 := zAA hx6); (try have y6 := zAAd hx6); (try have y6c := Blk.c2 y6); (try have y6c := And.intro (Blk.c2 y6.1) (Blk.c2 y6.2)))
      | (go_at_call 22; (with_reducible refine (fFrom_agg (.slice (some ⟨w.heap.size + 1, 0, none⟩) 16 16) m _ ?_ y HEY.out).mono ?_); (exact (Bs.whole (g := w.heap.size + 1) (t := 22) (by first | exact HB.out | exact Blk.ext_no (by exact HB.out) hx6 | exact (Blk.ext_no (by exact HB.out) hx6).alloc _ | exact ((Blk.ext_no (by exact HB.out) hx6).alloc _).alloc _ | exact Blk.ext_no (by exact HB.out.alloc _) hx6 | exact (Blk.ext_no (by exact HB.out.alloc _) hx6).alloc _ | exact Blk.ext_no (by exact (HB.out.alloc _).alloc _) hx6) HM.out.symm (Nat.le_refl _) (by unfold maxLen; decide)).any); rintro e' w7 ⟨rfl, hx7⟩; obtain ⟨hc7, hf7⟩ := ecell hx7; have hz7 := hx7.size; (try simp at hz7); (try have y7 := zA hx7); (try have y7 := zAA hx7); (try have y7c := Blk.c2 y7); (try have y7c := And.intro (Blk.c2 y7.1) (Blk.c2 y7.2)); (try have y67 := zOf y6 hx7); (try have y67 := zOfA y6 hx7); (try have y67 := And.intro (zOf y6.1 hx7) (zOf y6.2 hx7)); (try have y67c := Blk.c2 y67); (try have y67c := And.intro (Blk.c2 y67.1) (Blk.c2 y67.2)))))
    all_goals
      go_wp2_with fail
      go_meet
      case rel =>
        refine ⟨_, _, rfl, rfl, Lib.hid ⟨?_, ?_, ?_, ?_⟩⟩
        iterate 3 (· repeat (first
          | with_reducible exact El.new _ _ (by simp)
          | with_reducible exact El.new _ _ rfl
          | ((with_reducible refine El.set2 ?_); (first | assumption | exact y7 | exact y67 | exact y7.1 | exact y7.2 | exact y67.1 | exact y67.2 | exact ZB.far2 y7.1 (by simp) | exact ZB.far2 y7.2 (by simp) | exact ZB.far2 y67.1 (by simp) | exact ZB.far2 y67.2 (by simp) | exact ZB.far2 y7 (by omega) | exact ZB.far2 y67 (by omega)))
          | with_reducible refine El.far2 ?_ (by first | (simp; done) | omega | (simp; omega))
          | with_reducible refine El.alloc ?_ _))
        · repeat (first | with_reducible refine Ext.setCell ?_ (fun h => by simp at h <;> omega) _ | with_reducible refine Ext.alloc ?_ _ | with_reducible refine Ext.drew ?_ | with_reducible exact Ext.refl No _ | with_reducible refine Ext.trans ?_ hx7 | with_reducible refine Ext.trans ?_ hx6)
  case rest =>
    obtain ⟨g1, g2, rfl, rfl, HE⟩ := hcut
    obtain ⟨p, hp⟩ : ∃ p, mul x y = p := ⟨_, rfl⟩
    obtain ⟨s, hs⟩ : ∃ s, x ^^^ y = s := ⟨_, rfl⟩
    have HEP := Lib.hid hp
    have HES := Lib.hid hs
    have HXL : Hid (elB x = l) := Lib.hid (by rw [← HEX.out]; exact elB_elL l HL.out)
    clear hp hs
    have HT : Hid (T2 w w.heap.size (w.heap.size + 1) g1 g2 l m x y _) := Lib.hid ⟨HA.out.ext_no HE.out.x, HB.out.ext_no HE.out.x, HE.out.a, HE.out.b, HX.out.trans HE.out.x⟩
    clear HA HB HX hw2 HE
    go_upto_region 2 with fail
    go_region_with ((first
      | (go_at_call 25; (with_reducible refine (rBits_any (.slice (some ⟨w.heap.size, 0, none⟩) 16 16) l _ ?_).mono ?_); (first | exact HT.out.sa HL.out | exact (HT.out.no (Ext.refl No _).drew).sa HL.out); rintro e' w9 ⟨v9, rfl, hr9, hx9⟩; have HS9 := Lib.hid (T2.no (T2.no HT.out (Ext.refl No _).drew) hx9); have HR9 := Lib.hid hr9; clear hr9 hx9)
      | (go_at_call 25; (with_reducible refine (rBits_any (.slice (some ⟨w.heap.size + 1, 0, none⟩) 16 16) m _ ?_).mono ?_); (first | exact HS9.out.sb HM.out); rintro e' w10 ⟨v10, rfl, hr10, hx10⟩; have HS10 := Lib.hid (T2.no (HS9.out) hx10); have HR10 := Lib.hid hr10; have HR9' := Lib.hid (HR9.out.no hx10); clear hr10 hx10)
      | (go_at_call 24; refine (rTimes_any _ _ (elL l) (elL m) _ HR9'.out HR10.out).mono ?_; rintro e' w11 ⟨v11, rfl, hr11, hx11⟩; have HS11 := Lib.hid (HS10.out.no hx11); have HR11 := Lib.hid hr11; clear hr11 hx11)
      | (go_at_call 23; refine (rBytes_any _ (mul (elL l) (elL m)) _ HR11.out).mono ?_; rintro e' w12 ⟨v12, rfl, hr12, hx12⟩; have HS12 := Lib.hid (HS11.out.no hx12); have HR12 := Lib.hid hr12; clear hr12 hx12)))
    all_goals
      have P12 := HS12.out.eb
      unfold El at P12
      clear HT HS9 HS10 HS11 HR9 HR9' HR10 HR11
      rw [HEX.out, HEY.out, HEP.out] at HR12
      go_wp2_with fail
      refine (fBuild_agg y _).mono ?_
      rintro e14 w14 ⟨gt, rfl, hgt, ht14, hx14⟩
      have HW : Hid (T5 w w.heap.size (w.heap.size + 1) g1 g2 gt l m v12 x y p w14) := Lib.hid ⟨HS12.out.pa.ext_no hx14, HS12.out.pb.ext_no hx14, HS12.out.ea.no hx14, HS12.out.eb.no hx14, ht14, HR12.out.ext_no hx14, HS12.out.x.trans hx14⟩
      clear HS12 HR12 P12 hgt ht14 hx14
      go_upto_region 6 with fail
      go_region_held3 (fun w' => ((w'.cell? ⟨g1, 0, none⟩ = some (.int .u64 (hi x : Int)) ∧ w'.cell? ⟨g1, 1, none⟩ = some (.int .u64 (lo x : Int))) ∧ (w'.cell? ⟨g2, 0, none⟩ = some (.int .u64 (hi y : Int)) ∧ w'.cell? ⟨g2, 1, none⟩ = some (.int .u64 (lo y : Int)))) ∧ Hid (T5 w w.heap.size (w.heap.size + 1) g1 g2 gt l m v12 x y p w'))
        (first | assumption | exact T5.S HW.out | exact T5.no (T5.S HW.out) (Ext.refl No _).drew | exact T5.no (by assumption) (Ext.refl No _).drew)
        (first
          | (go_at_call 28; refine (T5.times (w0 := w) (ga := w.heap.size) (gb := w.heap.size + 1) (g1 := g1) (g2 := g2) (gt := gt) (l := l) (m := m) (vw := v12) (x := x) (y := y) (p := p) (by assumption) HEP.out).mono ?_; rintro e' w20 ⟨rfl, hS20⟩)
          | (go_at_call 30; refine (T5.tab (w0 := w) (ga := w.heap.size) (gb := w.heap.size + 1) (g1 := g1) (g2 := g2) (gt := gt) (l := l) (m := m) (vw := v12) (x := x) (y := y) (p := p) (by assumption) HEP.out).mono ?_; rintro e' w21 ⟨rfl, hS21⟩)
          | (go_at_call 31; refine (T5.add (w0 := w) (ga := w.heap.size) (gb := w.heap.size + 1) (g1 := g1) (g2 := g2) (gt := gt) (l := l) (m := m) (vw := v12) (x := x) (y := y) (p := p) (by assumption) s HES.out).mono ?_; rintro e' w22 ⟨rfl, hS22⟩)
          | (go_at_call 29; (with_reducible refine (T5.bytes (w0 := w) (ga := w.heap.size) (gb := w.heap.size + 1) (g1 := g1) (g2 := g2) (gt := gt) (l := l) (m := m) (vw := v12) (x := x) (y := y) (p := p) (by assumption) p (elB p) rfl).mono ?_); rintro e' w23 ⟨v23, rfl, HB23, hS23⟩)
          | (go_at_call 29; (with_reducible refine (T5.bytes (w0 := w) (ga := w.heap.size) (gb := w.heap.size + 1) (g1 := g1) (g2 := g2) (gt := gt) (l := l) (m := m) (vw := v12) (x := x) (y := y) (p := p) (by assumption) x l HXL.out).mono ?_); rintro e' w24 ⟨v24, rfl, HB24, hS24⟩)
          | (go_at_call 29; (with_reducible refine (T5.bytes (w0 := w) (ga := w.heap.size) (gb := w.heap.size + 1) (g1 := g1) (g2 := g2) (gt := gt) (l := l) (m := m) (vw := v12) (x := x) (y := y) (p := p) (by assumption) s (elB s) rfl).mono ?_); rintro e' w25 ⟨v25, rfl, HB25, hS25⟩)
          | (go_at_call 32; refine (T5.xor (w0 := w) (ga := w.heap.size) (gb := w.heap.size + 1) (g1 := g1) (g2 := g2) (gt := gt) (l := l) (m := m) (vw := v12) (x := x) (y := y) (p := p) (by assumption) HL.out HM.out HEX.out HEY.out s HES.out v25 (elB s) HB25.out).mono ?_; rintro e' w26 ⟨v26, rfl, HB26, HB25', hS26⟩)
          | (go_at_call 27; (with_reducible refine (T5.same (w0 := w) (ga := w.heap.size) (gb := w.heap.size + 1) (g1 := g1) (g2 := g2) (gt := gt) (l := l) (m := m) (vw := v12) (x := x) (y := y) (p := p) (by assumption) v23 v12 (elB p) HB23.out (And.right ‹T5S w w.heap.size (w.heap.size + 1) g1 g2 gt l m v12 x y p _›).out.k).mono ?_); rintro e' w27 ⟨rfl, hS27⟩)
          | (go_at_call 27; (with_reducible refine (T5.same (w0 := w) (ga := w.heap.size) (gb := w.heap.size + 1) (g1 := g1) (g2 := g2) (gt := gt) (l := l) (m := m) (vw := v12) (x := x) (y := y) (p := p) (by assumption) v24 (.slice (some ⟨w.heap.size, 0, none⟩) 16 16) l HB24.out (T5.sa hS24 HL.out)).mono ?_); rintro e' w28 ⟨rfl, hS28⟩)
          | (go_at_call 27; (with_reducible refine (T5.same (w0 := w) (ga := w.heap.size) (gb := w.heap.size + 1) (g1 := g1) (g2 := g2) (gt := gt) (l := l) (m := m) (vw := v12) (x := x) (y := y) (p := p) (by assumption) v25 v26 (elB s) HB25'.out HB26.out).mono ?_); rintro e' w29 ⟨rfl, hS29⟩)
          | (go_at_call 33; refine (T5.works (w0 := w) (ga := w.heap.size) (gb := w.heap.size + 1) (g1 := g1) (g2 := g2) (gt := gt) (l := l) (m := m) (vw := v12) (x := x) (y := y) (p := p) (by assumption)).mono ?_; rintro e' w30 ⟨rfl, hS30⟩))
      have HXF := Lib.hid hS30.2.out.x
      clear hS20 hS21 hS22 hS23 hS24 hS25 hS26 hS27 hS28 hS29 hS30
      go_wp2
      go_ret
      exact ⟨rfl, HXF.out⟩

open Go.ChangeShapes Go.WideShapes in
set_option maxRecDepth 100000 in
theorem walk_FieldTimes (W : World) (v0 v1 : Value) (u0 : Rd Try.prog W 22 v0.cells.toList) (u1 : Rd Try.prog W 22 v1.cells.toList)
    {r : Reach} {base : Nat} (ok0 : Value.okWide Try.prog W r base 22 v0) (ok1 : Value.okWide Try.prog W r base 22 v1) :
    Calls Try.prog 3 #[v0, v1] W fun e W' => e = .returned (.bool true) ∧ Ext No W W' := by
  obtain ⟨l, hl, rfl⟩ := bytesN_of (n := 16) Try.underlying22 (by kernel_rfl) ok0 u0
  obtain ⟨m, hm, rfl⟩ := bytesN_of (n := 16) Try.underlying22 (by kernel_rfl) ok1 u1
  exact times05_any l m W hl hm
end Go.Proofs.Ytljddghamgjfbaa
