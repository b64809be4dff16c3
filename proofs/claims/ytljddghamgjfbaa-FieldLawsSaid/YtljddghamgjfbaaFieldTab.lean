/- The table of an element (package field): Build. -/
import Derived.Test.YtljddghamgjfbaaField
set_option linter.unusedVariables false
set_option linter.unusedSimpArgs false
namespace Go.Proofs.Ytljddghamgjfbaa
open Go.RowKit Go.Deep Fm

def tabC (b : Nat → G) (o : Nat → Nat) : Array Value := ((List.range 16).flatMap (fun j => [Value.int .u64 (hi (b j) : Int), Value.int .u64 (lo (b j) : Int)]) ++ (List.range 16).map (fun j => Value.int .u64 (o j : Int))).toArray
abbrev IsTb (w : World) (g : Nat) (b : Nat → G) (o : Nat → Nat) : Prop := Blk w g 97 (tabC b o)
theorem lt16 {j : Nat} (h : j < 16) : j = 0 ∨ j = 1 ∨ j = 2 ∨ j = 3 ∨ j = 4 ∨ j = 5 ∨ j = 6 ∨ j = 7 ∨ j = 8 ∨ j = 9 ∨ j = 10 ∨ j = 11 ∨ j = 12 ∨ j = 13 ∨ j = 14 ∨ j = 15 := by omega
theorem tabC_hi (b : Nat → G) (o : Nat → Nat) {j : Nat} (h : j < 16) : (tabC b o)[j * 2]? = some (.int .u64 (hi (b j) : Int)) := by
  rcases lt16 h with rfl | rfl | rfl | rfl | rfl | rfl | rfl | rfl | rfl | rfl | rfl | rfl | rfl | rfl | rfl | rfl <;> rfl
theorem tabC_lo (b : Nat → G) (o : Nat → Nat) {j : Nat} (h : j < 16) : (tabC b o)[j * 2 + 1]? = some (.int .u64 (lo (b j) : Int)) := by
  rcases lt16 h with rfl | rfl | rfl | rfl | rfl | rfl | rfl | rfl | rfl | rfl | rfl | rfl | rfl | rfl | rfl | rfl <;> rfl
theorem tabC_ov (b : Nat → G) (o : Nat → Nat) {j : Nat} (h : j < 16) : (tabC b o)[32 + j]? = some (.int .u64 (o j : Int)) := by
  rcases lt16 h with rfl | rfl | rfl | rfl | rfl | rfl | rfl | rfl | rfl | rfl | rfl | rfl | rfl | rfl | rfl | rfl <;> rfl
def upd1 {α : Type} (f : Nat → α) (j : Nat) (x : α) : Nat → α := fun i => if i = j then x else f i
theorem tabC_set (b : Nat → G) (o : Nat → Nat) (e : G) {j : Nat} (h : j < 16) : ((tabC b o).setIfInBounds (j * 2) (.int .u64 (hi e : Int))).setIfInBounds (j * 2 + 1) (.int .u64 (lo e : Int)) = tabC (upd1 b j e) o := by
  rcases lt16 h with rfl | rfl | rfl | rfl | rfl | rfl | rfl | rfl | rfl | rfl | rfl | rfl | rfl | rfl | rfl | rfl <;> rfl
theorem tabC_seto (b : Nat → G) (o : Nat → Nat) (x : Nat) {j : Nat} (h : j < 16) : (tabC b o).setIfInBounds (32 + j) (.int .u64 (x : Int)) = tabC b (upd1 o j x) := by
  rcases lt16 h with rfl | rfl | rfl | rfl | rfl | rfl | rfl | rfl | rfl | rfl | rfl | rfl | rfl | rfl | rfl | rfl <;> rfl
theorem tabC_zero : tabC (fun _ => 0#128) (fun _ => 0) = (List.replicate 48 (Value.int .u64 0)).toArray := by rfl
/-- What an element is, times four bits. -/
def tb (e : G) (j : Nat) : G := (if j.testBit 3 then e else 0#128) ^^^ (if j.testBit 2 then nx e else 0#128) ^^^ (if j.testBit 1 then nx (nx e) else 0#128) ^^^ (if j.testBit 0 then nx (nx (nx e)) else 0#128)
/-- What is left of four bits that went over the end. -/
def tov (j : Nat) : Nat := hi (nx (nx (nx (nx (mkE 0 j)))))
theorem tb_add (e : G) (i k : Nat) (hi_ : i = 2 ∨ i = 4 ∨ i = 8) (hk : k < i) : tb e i ^^^ tb e k = tb e (i + k) := by
  have : ∀ x : G, x ^^^ 0#128 = x := fun x => BitVec.xor_zero
  rcases hi_ with rfl | rfl | rfl
  · rcases (by omega : k = 0 ∨ k = 1) with rfl | rfl <;> simp [tb, Nat.testBit] <;> simp [BitVec.xor_assoc]
  · rcases (by omega : k = 0 ∨ k = 1 ∨ k = 2 ∨ k = 3) with rfl | rfl | rfl | rfl <;> simp [tb, Nat.testBit] <;> simp [BitVec.xor_assoc]
  · rcases (by omega : k = 0 ∨ k = 1 ∨ k = 2 ∨ k = 3 ∨ k = 4 ∨ k = 5 ∨ k = 6 ∨ k = 7) with rfl | rfl | rfl | rfl | rfl | rfl | rfl | rfl <;> simp [tb, Nat.testBit] <;> simp [BitVec.xor_assoc]
/-- Within Build: a table of which two entries are known. -/
structure TbS (w0 : World) (g j k : Nat) (x y : G) (o : Nat → Nat) (w : World) : Prop where
  t : ∃ b, IsTb w g b o ∧ b j = x ∧ b k = y
  x : Ext No w0 w
  g : w0.heap.size ≤ g
  jk : j < 16 ∧ k < 16
abbrev TbSS (w0 : World) (g j k : Nat) (x y : G) (o : Nat → Nat) (w : World) : Prop :=
  ((w.cell? ⟨g, j * 2, none⟩ = some (.int .u64 (hi x : Int)) ∧ w.cell? ⟨g, j * 2 + 1, none⟩ = some (.int .u64 (lo x : Int))) ∧ (w.cell? ⟨g, k * 2, none⟩ = some (.int .u64 (hi y : Int)) ∧ w.cell? ⟨g, k * 2 + 1, none⟩ = some (.int .u64 (lo y : Int)))) ∧ Hid (TbS w0 g j k x y o w)
section
variable {w0 w w' : World} {g j k : Nat} {x y : G} {o : Nat → Nat}
theorem TbS.S (h : TbS w0 g j k x y o w) : TbSS w0 g j k x y o w := by
  obtain ⟨b, hb, h1, h2⟩ := h.t
  subst h1 h2
  exact ⟨⟨⟨(hb.cell _).trans (tabC_hi b o h.jk.1), (hb.cell _).trans (tabC_lo b o h.jk.1)⟩, ⟨(hb.cell _).trans (tabC_hi b o h.jk.2), (hb.cell _).trans (tabC_lo b o h.jk.2)⟩⟩, h⟩
theorem TbS.no (h : TbSS w0 g j k x y o w) (hx : Ext No w w') : TbSS w0 g j k x y o w' :=
  let ⟨b, hb, h1, h2⟩ := h.2.out.t
  TbS.S ⟨⟨b, hb.ext_no hx, h1, h2⟩, h.2.out.x.trans hx, h.2.out.g, h.2.out.jk⟩
theorem IsTb.put {b : Nat → G} {i : Nat} (h : IsTb w g b o) (hi_ : i < 16) (e : G) : IsTb ((w.setCell ⟨g, i * 2, none⟩ (.int .u64 (hi e : Int))).setCell ⟨g, i * 2 + 1, none⟩ (.int .u64 (lo e : Int))) g (upd1 b i e) o := by
  have := Blk.set_ (Blk.set_ h (i * 2) (.int .u64 (hi e : Int))) (i * 2 + 1) (.int .u64 (lo e : Int))
  rw [tabC_set b o e hi_] at this
  exact this
theorem TbS.put (h : TbSS w0 g j k x y o w) (i : Nat) (hi_ : i < 16) (hij : i ≠ j) (hik : i ≠ k) (e : G) : TbSS w0 g j k x y o ((w.setCell ⟨g, i * 2, none⟩ (.int .u64 (hi e : Int))).setCell ⟨g, i * 2 + 1, none⟩ (.int .u64 (lo e : Int))) := by
  obtain ⟨b, hb, h1, h2⟩ := h.2.out.t
  refine TbS.S ⟨⟨_, hb.put hi_ e, by unfold upd1; rw [if_neg (fun h => hij h.symm), h1], by unfold upd1; rw [if_neg (fun h => hik h.symm), h2]⟩, ?_, h.2.out.g, h.2.out.jk⟩
  have hg := h.2.out.g
  refine Ext.setCell ?_ (fun h => by have h : g < w0.heap.size := h; omega) _
  exact Ext.setCell h.2.out.x (fun h => by have h : g < w0.heap.size := h; omega) _
theorem TbS.next (h : TbSS w0 g j k x y o w) : Calls Try.prog 72 #[.agg #[.int .u64 (hi x : Int), .int .u64 (lo x : Int)]] w fun e w' => e = .returned (.agg #[.int .u64 (hi (nx x) : Int), .int .u64 (lo (nx x) : Int)]) ∧ Ext No w w' ∧ TbSS w0 g j k x y o w' := by
  refine (eNext_any x w).mono ?_
  rintro e w' ⟨rfl, hx⟩
  exact ⟨rfl, hx, TbS.no h hx⟩
theorem TbS.add (h : TbSS w0 g j k x y o w) : Calls Try.prog 31 #[.agg #[.int .u64 (hi x : Int), .int .u64 (lo x : Int)], .agg #[.int .u64 (hi y : Int), .int .u64 (lo y : Int)]] w fun e w' => e = .returned (.agg #[.int .u64 (hi (x ^^^ y) : Int), .int .u64 (lo (x ^^^ y) : Int)]) ∧ Ext No w w' ∧ TbSS w0 g j k x y o w' := by
  refine (eAdd_any x y w).mono ?_
  rintro e w' ⟨rfl, hx⟩
  exact ⟨rfl, hx, TbS.no h hx⟩
end
/-- What loop 1 of Build has made: entries 8, .. down to 2 z. -/
def Bl1 (e : G) (b : Nat → G) (z : Nat) : Prop := b 0 = tb e 0 ∧ b 8 = tb e 8 ∧ (z < 4 → b 4 = tb e 4) ∧ (z < 2 → b 2 = tb e 2) ∧ (z < 1 → b 1 = tb e 1)
theorem tb_1248 (e : G) : tb e 8 = e ∧ tb e 4 = nx e ∧ tb e 2 = nx (nx e) ∧ tb e 1 = nx (nx (nx e)) ∧ tb e 0 = 0#128 := by
  refine ⟨?_, ?_, ?_, ?_, ?_⟩ <;> simp [tb, Nat.testBit]
theorem Bl1.step {e : G} {b : Nat → G} {z : Nat} (h : Bl1 e b z) (hz : z = 4 ∨ z = 2 ∨ z = 1) : Bl1 e (upd1 b z (nx (b (2 * z)))) (z / 2) ∧ b (2 * z) = tb e (2 * z) := by
  obtain ⟨t8, t4, t2, t1, t0⟩ := tb_1248 e
  obtain ⟨h0, h8, h4, h2, h1⟩ := h
  rcases hz with rfl | rfl | rfl
  · refine ⟨⟨h0, h8, fun _ => ?_, fun h => absurd h (by decide), fun h => absurd h (by decide)⟩, h8⟩
    show (if 4 = 4 then nx (b 8) else b 4) = _
    rw [if_pos rfl, h8, t8, t4]
  · refine ⟨⟨h0, h8, fun _ => h4 (by omega), fun _ => ?_, fun h => absurd h (by decide)⟩, h4 (by omega)⟩
    show (if 2 = 2 then nx (b 4) else b 2) = _
    rw [if_pos rfl, h4 (by omega), t4, t2]
  · refine ⟨⟨h0, h8, fun _ => h4 (by omega), fun _ => h2 (by omega), fun _ => ?_⟩, h2 (by omega)⟩
    show (if 1 = 1 then nx (b 2) else b 1) = _
    rw [if_pos rfl, h2 (by omega), t2, t1]
theorem eNext_agg (a : G) (w : World) : Calls Try.prog 72 #[.agg #[.int .u64 (hi a : Int), .int .u64 (lo a : Int)]] w fun e w' => e = .returned (.agg #[.int .u64 (hi (nx a) : Int), .int .u64 (lo (nx a) : Int)]) ∧ Ext No w w' := eNext_any a w
theorem tabC_congr {b b' : Nat → G} {o o' : Nat → Nat} (hb : ∀ j, j < 16 → b j = b' j) (ho : ∀ j, j < 16 → o j = o' j) : tabC b o = tabC b' o' := by
  unfold tabC
  rw [List.flatMap_def, List.flatMap_def, List.map_congr_left (g := fun j => [Value.int .u64 (hi (b' j) : Int), Value.int .u64 (lo (b' j) : Int)]) (fun j hj => by rw [hb j (List.mem_range.1 hj)]), List.map_congr_left (g := fun j => Value.int .u64 (o' j : Int)) (fun j hj => by rw [ho j (List.mem_range.1 hj)])]
theorem IsTb.puto {w : World} {g : Nat} {b : Nat → G} {o : Nat → Nat} {i : Nat} (h : IsTb w g b o) (hi_ : i < 16) (x : Nat) : IsTb (w.setCell ⟨g, 32 + i, none⟩ (.int .u64 (x : Int))) g b (upd1 o i x) := by
  have := Blk.set_ h (32 + i) (.int .u64 (x : Int))
  rw [tabC_seto b o x hi_] at this
  exact this
/-- What loop 2 of Build has made: the first n entries. -/
def Bl2 (e : G) (b : Nat → G) (n : Nat) : Prop := (∀ j, j < n → b j = tb e j) ∧ b 2 = tb e 2 ∧ b 4 = tb e 4 ∧ b 8 = tb e 8
theorem Bl1.to2 {e : G} {b : Nat → G} (h : Bl1 e b 0) : Bl2 e b 2 := by
  obtain ⟨h0, h8, h4, h2, h1⟩ := h
  refine ⟨fun j hj => ?_, h2 (by omega), h4 (by omega), h8⟩
  rcases (by omega : j = 0 ∨ j = 1) with rfl | rfl
  · exact h0
  · exact h1 (by omega)
theorem Bl2.step {e : G} {b : Nat → G} {z k : Nat} (h : Bl2 e b (z + k)) (hz : z = 2 ∨ z = 4 ∨ z = 8) (hk : 0 < k) (hkz : k < z) : Bl2 e (upd1 b (z + k) (b z ^^^ b k)) (z + (k + 1)) := by
  obtain ⟨h1, h2, h4, h8⟩ := h
  have e1 : b z ^^^ b k = tb e (z + k) := by
    rw [h1 z (by omega), h1 k (by omega), tb_add e z k hz hkz]
  rw [e1]
  refine ⟨fun j hj => ?_, ?_, ?_, ?_⟩
  · unfold upd1
    by_cases c : j = z + k
    · rw [if_pos c, c]
    · rw [if_neg c, h1 j (by omega)]
  · unfold upd1; rw [if_neg (by omega), h2]
  · unfold upd1
    by_cases c : 4 = z + k
    · rw [if_pos c, ← c]
    · rw [if_neg c, h4]
  · unfold upd1
    by_cases c : 8 = z + k
    · rw [if_pos c, ← c]
    · rw [if_neg c, h8]
set_option maxRecDepth 100000 in
set_option maxHeartbeats 4000000 in
theorem fBuild_any (e : G) (w : World) : Calls Try.prog 26 #[ev e] w fun e' w' => ∃ g, e' = .returned (.pointer (some ⟨g, 0, none⟩)) ∧ w.heap.size ≤ g ∧ IsTb w' g (tb e) tov ∧ Ext No w w' := by
  have h1 := hi_lt e
  have h2 := lo_lt e
  unfold ev
  go_enter Try.func26, Try.ntmps26
  go_wp2_with fail
  change Code.wp _ _ _ _ ((w.alloc (.cells #[.int .u64 (hi e : Int), .int .u64 (lo e : Int)] 25)).alloc (.cells (List.replicate 48 (Value.int .u64 0)).toArray 97))
  have hb0 : Blk ((w.alloc (.cells #[.int .u64 (hi e : Int), .int .u64 (lo e : Int)] 25)).alloc (.cells (List.replicate 48 (Value.int .u64 0)).toArray 97)) w.heap.size 25 #[.int .u64 (hi e : Int), .int .u64 (lo e : Int)] := (Blk.new w _ _).alloc _
  have ht0 : IsTb ((w.alloc (.cells #[.int .u64 (hi e : Int), .int .u64 (lo e : Int)] 25)).alloc (.cells (List.replicate 48 (Value.int .u64 0)).toArray 97)) (w.heap.size + 1) (fun _ => 0#128) (fun _ => 0) := by
    have := Blk.new (w.alloc (.cells #[.int .u64 (hi e : Int), .int .u64 (lo e : Int)] 25)) 97 (List.replicate 48 (Value.int .u64 0)).toArray
    rw [World.size_alloc, ← tabC_zero] at this
    exact this
  have hx0 := ((Ext.refl No w).alloc (.cells #[.int .u64 (hi e : Int), .int .u64 (lo e : Int)] 25)).alloc (.cells (List.replicate 48 (Value.int .u64 0)).toArray 97)
  generalize ((w.alloc (.cells #[.int .u64 (hi e : Int), .int .u64 (lo e : Int)] 25)).alloc (.cells (List.replicate 48 (Value.int .u64 0)).toArray 97)) = w2 at *
  have B := Blk.c2 hb0
  have t0 : w2.cell? ⟨w.heap.size + 1, 16, none⟩ = some (.int .u64 0) := ht0.cell 16
  have t1 : w2.cell? ⟨w.heap.size + 1, 17, none⟩ = some (.int .u64 0) := ht0.cell 17
  have f0 := Blk.frozen ht0 16
  have f1 := Blk.frozen ht0 17
  have hl := Blk.lt ht0
  have HI := Lib.hid (And.intro ht0 hx0)
  clear hb0 ht0 hx0
  go_region
  go_wp2_with fail
  have hg2 : w.heap.size ≤ w.heap.size + 1 := by omega
  generalize w.heap.size + 1 = g at *
  go_loopw [4] (fun i wr => ∃ (z : Nat) (zi : Int), ((z = 4 ∧ zi = 4) ∨ (z = 2 ∧ zi = 2) ∨ (z = 1 ∧ zi = 1) ∨ (z = 0 ∧ zi = 0)) ∧ i = .int .i64 zi ∧ ∃ b, Hid (IsTb wr g b (fun _ => 0)) ∧ Hid (Bl1 e b z) ∧ Hid (Ext No w wr)) (fun i _ => (intOf i).toNat)
  case atStart =>
    refine ⟨4, 4, .inl ⟨rfl, rfl⟩, rfl, upd1 (fun _ => 0#128) 8 e, Lib.hid (IsTb.put HI.out.1 (i := 8) (by omega) e), Lib.hid ⟨?_, ?_, fun h => absurd h (by decide), fun h => absurd h (by decide), fun h => absurd h (by decide)⟩, Lib.hid ?_⟩
    · rw [(tb_1248 e).2.2.2.2]; rfl
    · rw [(tb_1248 e).1]; rfl
    · repeat (first | with_reducible refine Ext.setCell ?_ (by simp; try omega) _ | with_reducible refine Ext.drew ?_ | with_reducible exact HI.out.2)
  case round =>
    clear HI t0 t1 f0 f1 hl B
    obtain ⟨z, zi, hz, rfl, b, HT, HB, HX⟩ := hrel
    have w8 : IntKind.i64.wrap 8 = 8 := by decide
    have w4 : IntKind.i64.wrap 4 = 4 := by decide
    have w2' : IntKind.i64.wrap 2 = 2 := by decide
    rcases (by omega : ((z = 4 ∧ zi = 4) ∨ (z = 2 ∧ zi = 2) ∨ (z = 1 ∧ zi = 1)) ∨ (z = 0 ∧ zi = 0)) with hz3 | ⟨rfl, rfl⟩
    · have HST := Lib.hid (HB.out.step (by omega))
      have HS0 := Lib.hid (TbS.S (w0 := w) (g := g) (j := 2 * z) (k := 2 * z) (x := b (2 * z)) (y := b (2 * z)) (o := fun _ => 0) (w := wr) ⟨⟨b, HT.out, rfl, rfl⟩, HX.out, hg2, by omega, by omega⟩)
      have f0 := Blk.frozen HT.out (z * 2)
      have f1 := Blk.frozen HT.out (z * 2 + 1)
      rcases hz3 with ⟨rfl, rfl⟩ | ⟨rfl, rfl⟩ | ⟨rfl, rfl⟩
      · go_wp2_with fail
        go_region_held3 (fun w' => ((w'.cell? ⟨g, 16, none⟩ = some (.int .u64 (hi (b 8) : Int)) ∧ w'.cell? ⟨g, 17, none⟩ = some (.int .u64 (lo (b 8) : Int))) ∧ (w'.cell? ⟨g, 16, none⟩ = some (.int .u64 (hi (b 8) : Int)) ∧ w'.cell? ⟨g, 17, none⟩ = some (.int .u64 (lo (b 8) : Int)))) ∧ Hid (TbS w g 8 8 (b 8) (b 8) (fun _ => 0) w'))
          (first | assumption | exact HS0.out | exact TbS.no HS0.out (Ext.refl No _).drew | exact TbS.no (w0 := w) (g := g) (o := fun _ => 0) (by assumption) (Ext.refl No _).drew | exact TbS.put (w0 := w) (g := g) (j := 8) (k := 8) (x := b 8) (y := b 8) (o := fun _ => 0) (by assumption) 4 (by omega) (by omega) (by omega) (nx (b 8)))
          (first | (go_at_call 72; refine (TbS.next (w0 := w) (g := g) (j := 8) (k := 8) (x := b 8) (y := b 8) (o := fun _ => 0) (by assumption)).mono ?_; rintro e' w1 ⟨rfl, hx1, hS1⟩; have HW1 := Lib.hid (hS1.2.out.x); have HT1 : Hid (IsTb w1 g b (fun _ => 0)) := Lib.hid (Blk.ext_no (by exact HT.out) hx1); have f2 : w1.frozen? ⟨g, 8, none⟩ = false := Blk.frozen HT1.out 8; have f3 : w1.frozen? ⟨g, 9, none⟩ = false := Blk.frozen HT1.out 9; have c2 : w1.cell? ⟨g, 8, none⟩ = _ := (Blk.cell HT1.out 8).trans (tabC_hi b _ (j := 4) (by omega)); have c3 : w1.cell? ⟨g, 9, none⟩ = _ := (Blk.cell HT1.out 9).trans (tabC_lo b _ (j := 4) (by omega)); have g1 := Blk.lt HT1.out))
        go_wp2
        go_roundw
        case rel => exact ⟨2, 2, by omega, rfl, _, Lib.hid (IsTb.put HT1.out (i := 4) (by omega) (nx (b 8))), Lib.hid HST.out.1, Lib.hid (by repeat (first | with_reducible refine Ext.setCell ?_ (by simp; try omega) _ | with_reducible refine Ext.drew ?_ | with_reducible exact HW1.out))⟩
        case measure => simp [intOf]
      · go_wp2_with fail
        go_region_held3 (fun w' => ((w'.cell? ⟨g, 8, none⟩ = some (.int .u64 (hi (b 4) : Int)) ∧ w'.cell? ⟨g, 9, none⟩ = some (.int .u64 (lo (b 4) : Int))) ∧ (w'.cell? ⟨g, 8, none⟩ = some (.int .u64 (hi (b 4) : Int)) ∧ w'.cell? ⟨g, 9, none⟩ = some (.int .u64 (lo (b 4) : Int)))) ∧ Hid (TbS w g 4 4 (b 4) (b 4) (fun _ => 0) w'))
          (first | assumption | exact HS0.out | exact TbS.no HS0.out (Ext.refl No _).drew | exact TbS.no (w0 := w) (g := g) (o := fun _ => 0) (by assumption) (Ext.refl No _).drew | exact TbS.put (w0 := w) (g := g) (j := 4) (k := 4) (x := b 4) (y := b 4) (o := fun _ => 0) (by assumption) 2 (by omega) (by omega) (by omega) (nx (b 4)))
          (first | (go_at_call 72; refine (TbS.next (w0 := w) (g := g) (j := 4) (k := 4) (x := b 4) (y := b 4) (o := fun _ => 0) (by assumption)).mono ?_; rintro e' w1 ⟨rfl, hx1, hS1⟩; have HW1 := Lib.hid (hS1.2.out.x); have HT1 : Hid (IsTb w1 g b (fun _ => 0)) := Lib.hid (Blk.ext_no (by exact HT.out) hx1); have f2 : w1.frozen? ⟨g, 4, none⟩ = false := Blk.frozen HT1.out 4; have f3 : w1.frozen? ⟨g, 5, none⟩ = false := Blk.frozen HT1.out 5; have c2 : w1.cell? ⟨g, 4, none⟩ = _ := (Blk.cell HT1.out 4).trans (tabC_hi b _ (j := 2) (by omega)); have c3 : w1.cell? ⟨g, 5, none⟩ = _ := (Blk.cell HT1.out 5).trans (tabC_lo b _ (j := 2) (by omega)); have g1 := Blk.lt HT1.out))
        go_wp2
        go_roundw
        case rel => exact ⟨1, 1, by omega, rfl, _, Lib.hid (IsTb.put HT1.out (i := 2) (by omega) (nx (b 4))), Lib.hid HST.out.1, Lib.hid (by repeat (first | with_reducible refine Ext.setCell ?_ (by simp; try omega) _ | with_reducible refine Ext.drew ?_ | with_reducible exact HW1.out))⟩
        case measure => simp [intOf]
      · go_wp2_with fail
        go_region_held3 (fun w' => ((w'.cell? ⟨g, 4, none⟩ = some (.int .u64 (hi (b 2) : Int)) ∧ w'.cell? ⟨g, 5, none⟩ = some (.int .u64 (lo (b 2) : Int))) ∧ (w'.cell? ⟨g, 4, none⟩ = some (.int .u64 (hi (b 2) : Int)) ∧ w'.cell? ⟨g, 5, none⟩ = some (.int .u64 (lo (b 2) : Int)))) ∧ Hid (TbS w g 2 2 (b 2) (b 2) (fun _ => 0) w'))
          (first | assumption | exact HS0.out | exact TbS.no HS0.out (Ext.refl No _).drew | exact TbS.no (w0 := w) (g := g) (o := fun _ => 0) (by assumption) (Ext.refl No _).drew | exact TbS.put (w0 := w) (g := g) (j := 2) (k := 2) (x := b 2) (y := b 2) (o := fun _ => 0) (by assumption) 1 (by omega) (by omega) (by omega) (nx (b 2)))
          (first | (go_at_call 72; refine (TbS.next (w0 := w) (g := g) (j := 2) (k := 2) (x := b 2) (y := b 2) (o := fun _ => 0) (by assumption)).mono ?_; rintro e' w1 ⟨rfl, hx1, hS1⟩; have HW1 := Lib.hid (hS1.2.out.x); have HT1 : Hid (IsTb w1 g b (fun _ => 0)) := Lib.hid (Blk.ext_no (by exact HT.out) hx1); have f2 : w1.frozen? ⟨g, 2, none⟩ = false := Blk.frozen HT1.out 2; have f3 : w1.frozen? ⟨g, 3, none⟩ = false := Blk.frozen HT1.out 3; have c2 : w1.cell? ⟨g, 2, none⟩ = _ := (Blk.cell HT1.out 2).trans (tabC_hi b _ (j := 1) (by omega)); have c3 : w1.cell? ⟨g, 3, none⟩ = _ := (Blk.cell HT1.out 3).trans (tabC_lo b _ (j := 1) (by omega)); have g1 := Blk.lt HT1.out))
        go_wp2
        go_roundw
        case rel => exact ⟨0, 0, by omega, rfl, _, Lib.hid (IsTb.put HT1.out (i := 1) (by omega) (nx (b 2))), Lib.hid HST.out.1, Lib.hid (by repeat (first | with_reducible refine Ext.setCell ?_ (by simp; try omega) _ | with_reducible refine Ext.drew ?_ | with_reducible exact HW1.out))⟩
        case measure => simp [intOf]
    · have HB0 := Lib.hid HB.out.to2
      go_wp2_with fail
      go_loopw [5] (fun i wr => ∃ (z : Nat) (zi : Int), ((z = 2 ∧ zi = 2) ∨ (z = 4 ∧ zi = 4) ∨ (z = 8 ∧ zi = 8) ∨ (z = 16 ∧ zi = 16)) ∧ i = .int .i64 zi ∧ ∃ b, Hid (IsTb wr g b (fun _ => 0)) ∧ Hid (Bl2 e b z) ∧ Hid (Ext No w wr)) (fun i _ => 16 - (intOf i).toNat)
      case atStart => exact ⟨2, 2, .inl ⟨rfl, rfl⟩, rfl, b, HT, HB0, HX⟩
      case round =>
        clear HT HB HX HB0
        obtain ⟨z, zi, hz, rfl, b, HT, HB, HX⟩ := hrel
        rcases hz with ⟨rfl, rfl⟩ | ⟨rfl, rfl⟩ | ⟨rfl, rfl⟩ | ⟨rfl, rfl⟩
        · have HB2a : Hid (Bl2 e b (2 + 1)) := Lib.hid ⟨fun j hj => by
            by_cases c : j = 2
            · rw [c]; exact HB.out.2.1
            · exact HB.out.1 j (by omega), HB.out.2⟩
          go_wp2_with fail
          go_loopw [6] (fun i wr => ∃ (k : Nat) (ki : Int), 1 ≤ k ∧ k ≤ 2 ∧ ki = k ∧ i = .int .i64 ki ∧ ∃ b, Hid (IsTb wr g b (fun _ => 0)) ∧ Hid (Bl2 e b (2 + k)) ∧ Hid (Ext No w wr)) (fun i _ => 2 - (intOf i).toNat)
          case atStart => exact ⟨1, 1, by omega, by omega, rfl, rfl, b, HT, Lib.hid HB2a.out, HX⟩
          case round =>
            clear HT HB HX HB2a
            obtain ⟨k, ki, hk1, hk2, hki, rfl, b, HT, HB, HX⟩ := hrel
            by_cases hkz : k < 2
            · have HST := Lib.hid (HB.out.step (by omega) (by omega) hkz)
              have HS0 := Lib.hid (TbS.S (w0 := w) (g := g) (j := 2) (k := k) (x := b 2) (y := b k) (o := fun _ => 0) (w := wr) ⟨⟨b, HT.out, rfl, rfl⟩, HX.out, hg2, by omega, by omega⟩)
              obtain ⟨rfl, rfl⟩ : k = 1 ∧ ki = 1 := by omega
              · clear hki hk1 hk2 hkz
                have ws : IntKind.i64.wrap 3 = 3 := by decide
                go_wp2_with fail
                go_region_held3 (fun w' => ((w'.cell? ⟨g, 4, none⟩ = some (.int .u64 (hi (b 2) : Int)) ∧ w'.cell? ⟨g, 5, none⟩ = some (.int .u64 (lo (b 2) : Int))) ∧ (w'.cell? ⟨g, 2, none⟩ = some (.int .u64 (hi (b 1) : Int)) ∧ w'.cell? ⟨g, 3, none⟩ = some (.int .u64 (lo (b 1) : Int)))) ∧ Hid (TbS w g 2 1 (b 2) (b 1) (fun _ => 0) w'))
                  (first | assumption | exact HS0.out | exact TbS.no HS0.out (Ext.refl No _).drew | exact TbS.no (w0 := w) (g := g) (o := fun _ => 0) (by assumption) (Ext.refl No _).drew | exact TbS.put (w0 := w) (g := g) (j := 2) (k := 1) (x := b 2) (y := b 1) (o := fun _ => 0) (by assumption) 3 (by omega) (by omega) (by omega) (b 2 ^^^ b 1))
                  (first | (go_at_call 31; refine (TbS.add (w0 := w) (g := g) (j := 2) (k := 1) (x := b 2) (y := b 1) (o := fun _ => 0) (by assumption)).mono ?_; rintro e' w1 ⟨rfl, hx1, hS1⟩; have HW1 := Lib.hid (hS1.2.out.x); have HT1 : Hid (IsTb w1 g b (fun _ => 0)) := Lib.hid (Blk.ext_no (by exact HT.out) hx1); have f2 : w1.frozen? ⟨g, 6, none⟩ = false := Blk.frozen HT1.out 6; have f3 : w1.frozen? ⟨g, 7, none⟩ = false := Blk.frozen HT1.out 7; have c2 : w1.cell? ⟨g, 6, none⟩ = _ := (Blk.cell HT1.out 6).trans (tabC_hi b _ (j := 3) (by omega)); have c3 : w1.cell? ⟨g, 7, none⟩ = _ := (Blk.cell HT1.out 7).trans (tabC_lo b _ (j := 3) (by omega)); have g1 := Blk.lt HT1.out))
                go_wp2
                go_roundw
                case rel => exact ⟨2, 2, by omega, by omega, by omega, rfl, _, Lib.hid (IsTb.put HT1.out (i := 3) (by omega) (b 2 ^^^ b 1)), Lib.hid HST.out, Lib.hid (by repeat (first | with_reducible refine Ext.setCell ?_ (by simp; try omega) _ | with_reducible refine Ext.drew ?_ | with_reducible exact HW1.out))⟩
                case measure => simp [intOf]
            · have hkk : k = 2 := by omega
              subst hkk
              subst hki
              go_wp2_with fail
              go_roundw
              case rel => exact ⟨4, 4, by omega, rfl, b, HT, Lib.hid HB.out, HX⟩
              case measure => simp [intOf]
        · have HB2a : Hid (Bl2 e b (4 + 1)) := Lib.hid ⟨fun j hj => by
            by_cases c : j = 4
            · rw [c]; exact HB.out.2.2.1
            · exact HB.out.1 j (by omega), HB.out.2⟩
          go_wp2_with fail
          go_loopw [6] (fun i wr => ∃ (k : Nat) (ki : Int), 1 ≤ k ∧ k ≤ 4 ∧ ki = k ∧ i = .int .i64 ki ∧ ∃ b, Hid (IsTb wr g b (fun _ => 0)) ∧ Hid (Bl2 e b (4 + k)) ∧ Hid (Ext No w wr)) (fun i _ => 4 - (intOf i).toNat)
          case atStart => exact ⟨1, 1, by omega, by omega, rfl, rfl, b, HT, Lib.hid HB2a.out, HX⟩
          case round =>
            clear HT HB HX HB2a
            obtain ⟨k, ki, hk1, hk2, hki, rfl, b, HT, HB, HX⟩ := hrel
            by_cases hkz : k < 4
            · have HST := Lib.hid (HB.out.step (by omega) (by omega) hkz)
              have HS0 := Lib.hid (TbS.S (w0 := w) (g := g) (j := 4) (k := k) (x := b 4) (y := b k) (o := fun _ => 0) (w := wr) ⟨⟨b, HT.out, rfl, rfl⟩, HX.out, hg2, by omega, by omega⟩)
              rcases (by omega : (k = 1 ∧ ki = 1) ∨ (k = 2 ∧ ki = 2) ∨ (k = 3 ∧ ki = 3)) with ⟨rfl, rfl⟩ | ⟨rfl, rfl⟩ | ⟨rfl, rfl⟩
              · clear hki hk1 hk2 hkz
                have ws : IntKind.i64.wrap 5 = 5 := by decide
                go_wp2_with fail
                go_region_held3 (fun w' => ((w'.cell? ⟨g, 8, none⟩ = some (.int .u64 (hi (b 4) : Int)) ∧ w'.cell? ⟨g, 9, none⟩ = some (.int .u64 (lo (b 4) : Int))) ∧ (w'.cell? ⟨g, 2, none⟩ = some (.int .u64 (hi (b 1) : Int)) ∧ w'.cell? ⟨g, 3, none⟩ = some (.int .u64 (lo (b 1) : Int)))) ∧ Hid (TbS w g 4 1 (b 4) (b 1) (fun _ => 0) w'))
                  (first | assumption | exact HS0.out | exact TbS.no HS0.out (Ext.refl No _).drew | exact TbS.no (w0 := w) (g := g) (o := fun _ => 0) (by assumption) (Ext.refl No _).drew | exact TbS.put (w0 := w) (g := g) (j := 4) (k := 1) (x := b 4) (y := b 1) (o := fun _ => 0) (by assumption) 5 (by omega) (by omega) (by omega) (b 4 ^^^ b 1))
                  (first | (go_at_call 31; refine (TbS.add (w0 := w) (g := g) (j := 4) (k := 1) (x := b 4) (y := b 1) (o := fun _ => 0) (by assumption)).mono ?_; rintro e' w1 ⟨rfl, hx1, hS1⟩; have HW1 := Lib.hid (hS1.2.out.x); have HT1 : Hid (IsTb w1 g b (fun _ => 0)) := Lib.hid (Blk.ext_no (by exact HT.out) hx1); have f2 : w1.frozen? ⟨g, 10, none⟩ = false := Blk.frozen HT1.out 10; have f3 : w1.frozen? ⟨g, 11, none⟩ = false := Blk.frozen HT1.out 11; have c2 : w1.cell? ⟨g, 10, none⟩ = _ := (Blk.cell HT1.out 10).trans (tabC_hi b _ (j := 5) (by omega)); have c3 : w1.cell? ⟨g, 11, none⟩ = _ := (Blk.cell HT1.out 11).trans (tabC_lo b _ (j := 5) (by omega)); have g1 := Blk.lt HT1.out))
                go_wp2
                go_roundw
                case rel => exact ⟨2, 2, by omega, by omega, by omega, rfl, _, Lib.hid (IsTb.put HT1.out (i := 5) (by omega) (b 4 ^^^ b 1)), Lib.hid HST.out, Lib.hid (by repeat (first | with_reducible refine Ext.setCell ?_ (by simp; try omega) _ | with_reducible refine Ext.drew ?_ | with_reducible exact HW1.out))⟩
                case measure => simp [intOf]
              · clear hki hk1 hk2 hkz
                have ws : IntKind.i64.wrap 6 = 6 := by decide
                go_wp2_with fail
                go_region_held3 (fun w' => ((w'.cell? ⟨g, 8, none⟩ = some (.int .u64 (hi (b 4) : Int)) ∧ w'.cell? ⟨g, 9, none⟩ = some (.int .u64 (lo (b 4) : Int))) ∧ (w'.cell? ⟨g, 4, none⟩ = some (.int .u64 (hi (b 2) : Int)) ∧ w'.cell? ⟨g, 5, none⟩ = some (.int .u64 (lo (b 2) : Int)))) ∧ Hid (TbS w g 4 2 (b 4) (b 2) (fun _ => 0) w'))
                  (first | assumption | exact HS0.out | exact TbS.no HS0.out (Ext.refl No _).drew | exact TbS.no (w0 := w) (g := g) (o := fun _ => 0) (by assumption) (Ext.refl No _).drew | exact TbS.put (w0 := w) (g := g) (j := 4) (k := 2) (x := b 4) (y := b 2) (o := fun _ => 0) (by assumption) 6 (by omega) (by omega) (by omega) (b 4 ^^^ b 2))
                  (first | (go_at_call 31; refine (TbS.add (w0 := w) (g := g) (j := 4) (k := 2) (x := b 4) (y := b 2) (o := fun _ => 0) (by assumption)).mono ?_; rintro e' w1 ⟨rfl, hx1, hS1⟩; have HW1 := Lib.hid (hS1.2.out.x); have HT1 : Hid (IsTb w1 g b (fun _ => 0)) := Lib.hid (Blk.ext_no (by exact HT.out) hx1); have f2 : w1.frozen? ⟨g, 12, none⟩ = false := Blk.frozen HT1.out 12; have f3 : w1.frozen? ⟨g, 13, none⟩ = false := Blk.frozen HT1.out 13; have c2 : w1.cell? ⟨g, 12, none⟩ = _ := (Blk.cell HT1.out 12).trans (tabC_hi b _ (j := 6) (by omega)); have c3 : w1.cell? ⟨g, 13, none⟩ = _ := (Blk.cell HT1.out 13).trans (tabC_lo b _ (j := 6) (by omega)); have g1 := Blk.lt HT1.out))
                go_wp2
                go_roundw
                case rel => exact ⟨3, 3, by omega, by omega, by omega, rfl, _, Lib.hid (IsTb.put HT1.out (i := 6) (by omega) (b 4 ^^^ b 2)), Lib.hid HST.out, Lib.hid (by repeat (first | with_reducible refine Ext.setCell ?_ (by simp; try omega) _ | with_reducible refine Ext.drew ?_ | with_reducible exact HW1.out))⟩
                case measure => simp [intOf]
              · clear hki hk1 hk2 hkz
                have ws : IntKind.i64.wrap 7 = 7 := by decide
                go_wp2_with fail
                go_region_held3 (fun w' => ((w'.cell? ⟨g, 8, none⟩ = some (.int .u64 (hi (b 4) : Int)) ∧ w'.cell? ⟨g, 9, none⟩ = some (.int .u64 (lo (b 4) : Int))) ∧ (w'.cell? ⟨g, 6, none⟩ = some (.int .u64 (hi (b 3) : Int)) ∧ w'.cell? ⟨g, 7, none⟩ = some (.int .u64 (lo (b 3) : Int)))) ∧ Hid (TbS w g 4 3 (b 4) (b 3) (fun _ => 0) w'))
                  (first | assumption | exact HS0.out | exact TbS.no HS0.out (Ext.refl No _).drew | exact TbS.no (w0 := w) (g := g) (o := fun _ => 0) (by assumption) (Ext.refl No _).drew | exact TbS.put (w0 := w) (g := g) (j := 4) (k := 3) (x := b 4) (y := b 3) (o := fun _ => 0) (by assumption) 7 (by omega) (by omega) (by omega) (b 4 ^^^ b 3))
                  (first | (go_at_call 31; refine (TbS.add (w0 := w) (g := g) (j := 4) (k := 3) (x := b 4) (y := b 3) (o := fun _ => 0) (by assumption)).mono ?_; rintro e' w1 ⟨rfl, hx1, hS1⟩; have HW1 := Lib.hid (hS1.2.out.x); have HT1 : Hid (IsTb w1 g b (fun _ => 0)) := Lib.hid (Blk.ext_no (by exact HT.out) hx1); have f2 : w1.frozen? ⟨g, 14, none⟩ = false := Blk.frozen HT1.out 14; have f3 : w1.frozen? ⟨g, 15, none⟩ = false := Blk.frozen HT1.out 15; have c2 : w1.cell? ⟨g, 14, none⟩ = _ := (Blk.cell HT1.out 14).trans (tabC_hi b _ (j := 7) (by omega)); have c3 : w1.cell? ⟨g, 15, none⟩ = _ := (Blk.cell HT1.out 15).trans (tabC_lo b _ (j := 7) (by omega)); have g1 := Blk.lt HT1.out))
                go_wp2
                go_roundw
                case rel => exact ⟨4, 4, by omega, by omega, by omega, rfl, _, Lib.hid (IsTb.put HT1.out (i := 7) (by omega) (b 4 ^^^ b 3)), Lib.hid HST.out, Lib.hid (by repeat (first | with_reducible refine Ext.setCell ?_ (by simp; try omega) _ | with_reducible refine Ext.drew ?_ | with_reducible exact HW1.out))⟩
                case measure => simp [intOf]
            · have hkk : k = 4 := by omega
              subst hkk
              subst hki
              go_wp2_with fail
              go_roundw
              case rel => exact ⟨8, 8, by omega, rfl, b, HT, Lib.hid HB.out, HX⟩
              case measure => simp [intOf]
        · have HB2a : Hid (Bl2 e b (8 + 1)) := Lib.hid ⟨fun j hj => by
            by_cases c : j = 8
            · rw [c]; exact HB.out.2.2.2
            · exact HB.out.1 j (by omega), HB.out.2⟩
          go_wp2_with fail
          go_loopw [6] (fun i wr => ∃ (k : Nat) (ki : Int), 1 ≤ k ∧ k ≤ 8 ∧ ki = k ∧ i = .int .i64 ki ∧ ∃ b, Hid (IsTb wr g b (fun _ => 0)) ∧ Hid (Bl2 e b (8 + k)) ∧ Hid (Ext No w wr)) (fun i _ => 8 - (intOf i).toNat)
          case atStart => exact ⟨1, 1, by omega, by omega, rfl, rfl, b, HT, Lib.hid HB2a.out, HX⟩
          case round =>
            clear HT HB HX HB2a
            obtain ⟨k, ki, hk1, hk2, hki, rfl, b, HT, HB, HX⟩ := hrel
            by_cases hkz : k < 8
            · have HST := Lib.hid (HB.out.step (by omega) (by omega) hkz)
              have HS0 := Lib.hid (TbS.S (w0 := w) (g := g) (j := 8) (k := k) (x := b 8) (y := b k) (o := fun _ => 0) (w := wr) ⟨⟨b, HT.out, rfl, rfl⟩, HX.out, hg2, by omega, by omega⟩)
              rcases (by omega : (k = 1 ∧ ki = 1) ∨ (k = 2 ∧ ki = 2) ∨ (k = 3 ∧ ki = 3) ∨ (k = 4 ∧ ki = 4) ∨ (k = 5 ∧ ki = 5) ∨ (k = 6 ∧ ki = 6) ∨ (k = 7 ∧ ki = 7)) with ⟨rfl, rfl⟩ | ⟨rfl, rfl⟩ | ⟨rfl, rfl⟩ | ⟨rfl, rfl⟩ | ⟨rfl, rfl⟩ | ⟨rfl, rfl⟩ | ⟨rfl, rfl⟩
              · clear hki hk1 hk2 hkz
                have ws : IntKind.i64.wrap 9 = 9 := by decide
                go_wp2_with fail
                go_region_held3 (fun w' => ((w'.cell? ⟨g, 16, none⟩ = some (.int .u64 (hi (b 8) : Int)) ∧ w'.cell? ⟨g, 17, none⟩ = some (.int .u64 (lo (b 8) : Int))) ∧ (w'.cell? ⟨g, 2, none⟩ = some (.int .u64 (hi (b 1) : Int)) ∧ w'.cell? ⟨g, 3, none⟩ = some (.int .u64 (lo (b 1) : Int)))) ∧ Hid (TbS w g 8 1 (b 8) (b 1) (fun _ => 0) w'))
                  (first | assumption | exact HS0.out | exact TbS.no HS0.out (Ext.refl No _).drew | exact TbS.no (w0 := w) (g := g) (o := fun _ => 0) (by assumption) (Ext.refl No _).drew | exact TbS.put (w0 := w) (g := g) (j := 8) (k := 1) (x := b 8) (y := b 1) (o := fun _ => 0) (by assumption) 9 (by omega) (by omega) (by omega) (b 8 ^^^ b 1))
                  (first | (go_at_call 31; refine (TbS.add (w0 := w) (g := g) (j := 8) (k := 1) (x := b 8) (y := b 1) (o := fun _ => 0) (by assumption)).mono ?_; rintro e' w1 ⟨rfl, hx1, hS1⟩; have HW1 := Lib.hid (hS1.2.out.x); have HT1 : Hid (IsTb w1 g b (fun _ => 0)) := Lib.hid (Blk.ext_no (by exact HT.out) hx1); have f2 : w1.frozen? ⟨g, 18, none⟩ = false := Blk.frozen HT1.out 18; have f3 : w1.frozen? ⟨g, 19, none⟩ = false := Blk.frozen HT1.out 19; have c2 : w1.cell? ⟨g, 18, none⟩ = _ := (Blk.cell HT1.out 18).trans (tabC_hi b _ (j := 9) (by omega)); have c3 : w1.cell? ⟨g, 19, none⟩ = _ := (Blk.cell HT1.out 19).trans (tabC_lo b _ (j := 9) (by omega)); have g1 := Blk.lt HT1.out))
                go_wp2
                go_roundw
                case rel => exact ⟨2, 2, by omega, by omega, by omega, rfl, _, Lib.hid (IsTb.put HT1.out (i := 9) (by omega) (b 8 ^^^ b 1)), Lib.hid HST.out, Lib.hid (by repeat (first | with_reducible refine Ext.setCell ?_ (by simp; try omega) _ | with_reducible refine Ext.drew ?_ | with_reducible exact HW1.out))⟩
                case measure => simp [intOf]
              · clear hki hk1 hk2 hkz
                have ws : IntKind.i64.wrap 10 = 10 := by decide
                go_wp2_with fail
                go_region_held3 (fun w' => ((w'.cell? ⟨g, 16, none⟩ = some (.int .u64 (hi (b 8) : Int)) ∧ w'.cell? ⟨g, 17, none⟩ = some (.int .u64 (lo (b 8) : Int))) ∧ (w'.cell? ⟨g, 4, none⟩ = some (.int .u64 (hi (b 2) : Int)) ∧ w'.cell? ⟨g, 5, none⟩ = some (.int .u64 (lo (b 2) : Int)))) ∧ Hid (TbS w g 8 2 (b 8) (b 2) (fun _ => 0) w'))
                  (first | assumption | exact HS0.out | exact TbS.no HS0.out (Ext.refl No _).drew | exact TbS.no (w0 := w) (g := g) (o := fun _ => 0) (by assumption) (Ext.refl No _).drew | exact TbS.put (w0 := w) (g := g) (j := 8) (k := 2) (x := b 8) (y := b 2) (o := fun _ => 0) (by assumption) 10 (by omega) (by omega) (by omega) (b 8 ^^^ b 2))
                  (first | (go_at_call 31; refine (TbS.add (w0 := w) (g := g) (j := 8) (k := 2) (x := b 8) (y := b 2) (o := fun _ => 0) (by assumption)).mono ?_; rintro e' w1 ⟨rfl, hx1, hS1⟩; have HW1 := Lib.hid (hS1.2.out.x); have HT1 : Hid (IsTb w1 g b (fun _ => 0)) := Lib.hid (Blk.ext_no (by exact HT.out) hx1); have f2 : w1.frozen? ⟨g, 20, none⟩ = false := Blk.frozen HT1.out 20; have f3 : w1.frozen? ⟨g, 21, none⟩ = false := Blk.frozen HT1.out 21; have c2 : w1.cell? ⟨g, 20, none⟩ = _ := (Blk.cell HT1.out 20).trans (tabC_hi b _ (j := 10) (by omega)); have c3 : w1.cell? ⟨g, 21, none⟩ = _ := (Blk.cell HT1.out 21).trans (tabC_lo b _ (j := 10) (by omega)); have g1 := Blk.lt HT1.out))
                go_wp2
                go_roundw
                case rel => exact ⟨3, 3, by omega, by omega, by omega, rfl, _, Lib.hid (IsTb.put HT1.out (i := 10) (by omega) (b 8 ^^^ b 2)), Lib.hid HST.out, Lib.hid (by repeat (first | with_reducible refine Ext.setCell ?_ (by simp; try omega) _ | with_reducible refine Ext.drew ?_ | with_reducible exact HW1.out))⟩
                case measure => simp [intOf]
              · clear hki hk1 hk2 hkz
                have ws : IntKind.i64.wrap 11 = 11 := by decide
                go_wp2_with fail
                go_region_held3 (fun w' => ((w'.cell? ⟨g, 16, none⟩ = some (.int .u64 (hi (b 8) : Int)) ∧ w'.cell? ⟨g, 17, none⟩ = some (.int .u64 (lo (b 8) : Int))) ∧ (w'.cell? ⟨g, 6, none⟩ = some (.int .u64 (hi (b 3) : Int)) ∧ w'.cell? ⟨g, 7, none⟩ = some (.int .u64 (lo (b 3) : Int)))) ∧ Hid (TbS w g 8 3 (b 8) (b 3) (fun _ => 0) w'))
                  (first | assumption | exact HS0.out | exact TbS.no HS0.out (Ext.refl No _).drew | exact TbS.no (w0 := w) (g := g) (o := fun _ => 0) (by assumption) (Ext.refl No _).drew | exact TbS.put (w0 := w) (g := g) (j := 8) (k := 3) (x := b 8) (y := b 3) (o := fun _ => 0) (by assumption) 11 (by omega) (by omega) (by omega) (b 8 ^^^ b 3))
                  (first | (go_at_call 31; refine (TbS.add (w0 := w) (g := g) (j := 8) (k := 3) (x := b 8) (y := b 3) (o := fun _ => 0) (by assumption)).mono ?_; rintro e' w1 ⟨rfl, hx1, hS1⟩; have HW1 := Lib.hid (hS1.2.out.x); have HT1 : Hid (IsTb w1 g b (fun _ => 0)) := Lib.hid (Blk.ext_no (by exact HT.out) hx1); have f2 : w1.frozen? ⟨g, 22, none⟩ = false := Blk.frozen HT1.out 22; have f3 : w1.frozen? ⟨g, 23, none⟩ = false := Blk.frozen HT1.out 23; have c2 : w1.cell? ⟨g, 22, none⟩ = _ := (Blk.cell HT1.out 22).trans (tabC_hi b _ (j := 11) (by omega)); have c3 : w1.cell? ⟨g, 23, none⟩ = _ := (Blk.cell HT1.out 23).trans (tabC_lo b _ (j := 11) (by omega)); have g1 := Blk.lt HT1.out))
                go_wp2
                go_roundw
                case rel => exact ⟨4, 4, by omega, by omega, by omega, rfl, _, Lib.hid (IsTb.put HT1.out (i := 11) (by omega) (b 8 ^^^ b 3)), Lib.hid HST.out, Lib.hid (by repeat (first | with_reducible refine Ext.setCell ?_ (by simp; try omega) _ | with_reducible refine Ext.drew ?_ | with_reducible exact HW1.out))⟩
                case measure => simp [intOf]
              · clear hki hk1 hk2 hkz
                have ws : IntKind.i64.wrap 12 = 12 := by decide
                go_wp2_with fail
                go_region_held3 (fun w' => ((w'.cell? ⟨g, 16, none⟩ = some (.int .u64 (hi (b 8) : Int)) ∧ w'.cell? ⟨g, 17, none⟩ = some (.int .u64 (lo (b 8) : Int))) ∧ (w'.cell? ⟨g, 8, none⟩ = some (.int .u64 (hi (b 4) : Int)) ∧ w'.cell? ⟨g, 9, none⟩ = some (.int .u64 (lo (b 4) : Int)))) ∧ Hid (TbS w g 8 4 (b 8) (b 4) (fun _ => 0) w'))
                  (first | assumption | exact HS0.out | exact TbS.no HS0.out (Ext.refl No _).drew | exact TbS.no (w0 := w) (g := g) (o := fun _ => 0) (by assumption) (Ext.refl No _).drew | exact TbS.put (w0 := w) (g := g) (j := 8) (k := 4) (x := b 8) (y := b 4) (o := fun _ => 0) (by assumption) 12 (by omega) (by omega) (by omega) (b 8 ^^^ b 4))
                  (first | (go_at_call 31; refine (TbS.add (w0 := w) (g := g) (j := 8) (k := 4) (x := b 8) (y := b 4) (o := fun _ => 0) (by assumption)).mono ?_; rintro e' w1 ⟨rfl, hx1, hS1⟩; have HW1 := Lib.hid (hS1.2.out.x); have HT1 : Hid (IsTb w1 g b (fun _ => 0)) := Lib.hid (Blk.ext_no (by exact HT.out) hx1); have f2 : w1.frozen? ⟨g, 24, none⟩ = false := Blk.frozen HT1.out 24; have f3 : w1.frozen? ⟨g, 25, none⟩ = false := Blk.frozen HT1.out 25; have c2 : w1.cell? ⟨g, 24, none⟩ = _ := (Blk.cell HT1.out 24).trans (tabC_hi b _ (j := 12) (by omega)); have c3 : w1.cell? ⟨g, 25, none⟩ = _ := (Blk.cell HT1.out 25).trans (tabC_lo b _ (j := 12) (by omega)); have g1 := Blk.lt HT1.out))
                go_wp2
                go_roundw
                case rel => exact ⟨5, 5, by omega, by omega, by omega, rfl, _, Lib.hid (IsTb.put HT1.out (i := 12) (by omega) (b 8 ^^^ b 4)), Lib.hid HST.out, Lib.hid (by repeat (first | with_reducible refine Ext.setCell ?_ (by simp; try omega) _ | with_reducible refine Ext.drew ?_ | with_reducible exact HW1.out))⟩
                case measure => simp [intOf]
              · clear hki hk1 hk2 hkz
                have ws : IntKind.i64.wrap 13 = 13 := by decide
                go_wp2_with fail
                go_region_held3 (fun w' => ((w'.cell? ⟨g, 16, none⟩ = some (.int .u64 (hi (b 8) : Int)) ∧ w'.cell? ⟨g, 17, none⟩ = some (.int .u64 (lo (b 8) : Int))) ∧ (w'.cell? ⟨g, 10, none⟩ = some (.int .u64 (hi (b 5) : Int)) ∧ w'.cell? ⟨g, 11, none⟩ = some (.int .u64 (lo (b 5) : Int)))) ∧ Hid (TbS w g 8 5 (b 8) (b 5) (fun _ => 0) w'))
                  (first | assumption | exact HS0.out | exact TbS.no HS0.out (Ext.refl No _).drew | exact TbS.no (w0 := w) (g := g) (o := fun _ => 0) (by assumption) (Ext.refl No _).drew | exact TbS.put (w0 := w) (g := g) (j := 8) (k := 5) (x := b 8) (y := b 5) (o := fun _ => 0) (by assumption) 13 (by omega) (by omega) (by omega) (b 8 ^^^ b 5))
                  (first | (go_at_call 31; refine (TbS.add (w0 := w) (g := g) (j := 8) (k := 5) (x := b 8) (y := b 5) (o := fun _ => 0) (by assumption)).mono ?_; rintro e' w1 ⟨rfl, hx1, hS1⟩; have HW1 := Lib.hid (hS1.2.out.x); have HT1 : Hid (IsTb w1 g b (fun _ => 0)) := Lib.hid (Blk.ext_no (by exact HT.out) hx1); have f2 : w1.frozen? ⟨g, 26, none⟩ = false := Blk.frozen HT1.out 26; have f3 : w1.frozen? ⟨g, 27, none⟩ = false := Blk.frozen HT1.out 27; have c2 : w1.cell? ⟨g, 26, none⟩ = _ := (Blk.cell HT1.out 26).trans (tabC_hi b _ (j := 13) (by omega)); have c3 : w1.cell? ⟨g, 27, none⟩ = _ := (Blk.cell HT1.out 27).trans (tabC_lo b _ (j := 13) (by omega)); have g1 := Blk.lt HT1.out))
                go_wp2
                go_roundw
                case rel => exact ⟨6, 6, by omega, by omega, by omega, rfl, _, Lib.hid (IsTb.put HT1.out (i := 13) (by omega) (b 8 ^^^ b 5)), Lib.hid HST.out, Lib.hid (by repeat (first | with_reducible refine Ext.setCell ?_ (by simp; try omega) _ | with_reducible refine Ext.drew ?_ | with_reducible exact HW1.out))⟩
                case measure => simp [intOf]
              · clear hki hk1 hk2 hkz
                have ws : IntKind.i64.wrap 14 = 14 := by decide
                go_wp2_with fail
                go_region_held3 (fun w' => ((w'.cell? ⟨g, 16, none⟩ = some (.int .u64 (hi (b 8) : Int)) ∧ w'.cell? ⟨g, 17, none⟩ = some (.int .u64 (lo (b 8) : Int))) ∧ (w'.cell? ⟨g, 12, none⟩ = some (.int .u64 (hi (b 6) : Int)) ∧ w'.cell? ⟨g, 13, none⟩ = some (.int .u64 (lo (b 6) : Int)))) ∧ Hid (TbS w g 8 6 (b 8) (b 6) (fun _ => 0) w'))
                  (first | assumption | exact HS0.out | exact TbS.no HS0.out (Ext.refl No _).drew | exact TbS.no (w0 := w) (g := g) (o := fun _ => 0) (by assumption) (Ext.refl No _).drew | exact TbS.put (w0 := w) (g := g) (j := 8) (k := 6) (x := b 8) (y := b 6) (o := fun _ => 0) (by assumption) 14 (by omega) (by omega) (by omega) (b 8 ^^^ b 6))
                  (first | (go_at_call 31; refine (TbS.add (w0 := w) (g := g) (j := 8) (k := 6) (x := b 8) (y := b 6) (o := fun _ => 0) (by assumption)).mono ?_; rintro e' w1 ⟨rfl, hx1, hS1⟩; have HW1 := Lib.hid (hS1.2.out.x); have HT1 : Hid (IsTb w1 g b (fun _ => 0)) := Lib.hid (Blk.ext_no (by exact HT.out) hx1); have f2 : w1.frozen? ⟨g, 28, none⟩ = false := Blk.frozen HT1.out 28; have f3 : w1.frozen? ⟨g, 29, none⟩ = false := Blk.frozen HT1.out 29; have c2 : w1.cell? ⟨g, 28, none⟩ = _ := (Blk.cell HT1.out 28).trans (tabC_hi b _ (j := 14) (by omega)); have c3 : w1.cell? ⟨g, 29, none⟩ = _ := (Blk.cell HT1.out 29).trans (tabC_lo b _ (j := 14) (by omega)); have g1 := Blk.lt HT1.out))
                go_wp2
                go_roundw
                case rel => exact ⟨7, 7, by omega, by omega, by omega, rfl, _, Lib.hid (IsTb.put HT1.out (i := 14) (by omega) (b 8 ^^^ b 6)), Lib.hid HST.out, Lib.hid (by repeat (first | with_reducible refine Ext.setCell ?_ (by simp; try omega) _ | with_reducible refine Ext.drew ?_ | with_reducible exact HW1.out))⟩
                case measure => simp [intOf]
              · clear hki hk1 hk2 hkz
                have ws : IntKind.i64.wrap 15 = 15 := by decide
                go_wp2_with fail
                go_region_held3 (fun w' => ((w'.cell? ⟨g, 16, none⟩ = some (.int .u64 (hi (b 8) : Int)) ∧ w'.cell? ⟨g, 17, none⟩ = some (.int .u64 (lo (b 8) : Int))) ∧ (w'.cell? ⟨g, 14, none⟩ = some (.int .u64 (hi (b 7) : Int)) ∧ w'.cell? ⟨g, 15, none⟩ = some (.int .u64 (lo (b 7) : Int)))) ∧ Hid (TbS w g 8 7 (b 8) (b 7) (fun _ => 0) w'))
                  (first | assumption | exact HS0.out | exact TbS.no HS0.out (Ext.refl No _).drew | exact TbS.no (w0 := w) (g := g) (o := fun _ => 0) (by assumption) (Ext.refl No _).drew | exact TbS.put (w0 := w) (g := g) (j := 8) (k := 7) (x := b 8) (y := b 7) (o := fun _ => 0) (by assumption) 15 (by omega) (by omega) (by omega) (b 8 ^^^ b 7))
                  (first | (go_at_call 31; refine (TbS.add (w0 := w) (g := g) (j := 8) (k := 7) (x := b 8) (y := b 7) (o := fun _ => 0) (by assumption)).mono ?_; rintro e' w1 ⟨rfl, hx1, hS1⟩; have HW1 := Lib.hid (hS1.2.out.x); have HT1 : Hid (IsTb w1 g b (fun _ => 0)) := Lib.hid (Blk.ext_no (by exact HT.out) hx1); have f2 : w1.frozen? ⟨g, 30, none⟩ = false := Blk.frozen HT1.out 30; have f3 : w1.frozen? ⟨g, 31, none⟩ = false := Blk.frozen HT1.out 31; have c2 : w1.cell? ⟨g, 30, none⟩ = _ := (Blk.cell HT1.out 30).trans (tabC_hi b _ (j := 15) (by omega)); have c3 : w1.cell? ⟨g, 31, none⟩ = _ := (Blk.cell HT1.out 31).trans (tabC_lo b _ (j := 15) (by omega)); have g1 := Blk.lt HT1.out))
                go_wp2
                go_roundw
                case rel => exact ⟨8, 8, by omega, by omega, by omega, rfl, _, Lib.hid (IsTb.put HT1.out (i := 15) (by omega) (b 8 ^^^ b 7)), Lib.hid HST.out, Lib.hid (by repeat (first | with_reducible refine Ext.setCell ?_ (by simp; try omega) _ | with_reducible refine Ext.drew ?_ | with_reducible exact HW1.out))⟩
                case measure => simp [intOf]
            · have hkk : k = 8 := by omega
              subst hkk
              subst hki
              go_wp2_with fail
              go_roundw
              case rel => exact ⟨16, 16, by omega, rfl, b, HT, Lib.hid HB.out, HX⟩
              case measure => simp [intOf]
        · have HBB := Lib.hid (fun j hj => HB.out.1 j hj)
          clear HB
          go_wp2_with fail
          go_loopw [62] (fun i wr => ∃ z : Nat, z ≤ 16 ∧ i = .int .i64 z ∧ ∃ o, Hid (IsTb wr g b o) ∧ Hid (∀ j, j < z → o j = tov j) ∧ Hid (Ext No w wr)) (fun i _ => 16 - (intOf i).toNat)
          case atStart => exact ⟨0, by omega, rfl, fun _ => 0, HT, Lib.hid (fun j hj => absurd hj (Nat.not_lt_zero _)), HX⟩
          case round =>
            clear HT HX
            obtain ⟨z, hz, rfl, o, HT, HO, HX⟩ := hrel
            by_cases hz16 : z < 16
            · have hgw := Blk.lt HT.out
              have hzb : decide ((z : Int) < 16) = true := decide_eq_true (by omega)
              go_wp2_with fail
              have hm0 : hi (mkE 0 z) = 0 := hi_mk (by omega) (by omega)
              have hm1 : lo (mkE 0 z) = z := lo_mk (by omega) (by omega)
              have HQ : Hid (Blk (wr.alloc (.cells #[.int .u64 0, .int .u64 (z : Int)] 25)) wr.heap.size 25 #[.int .u64 (hi (nxn 0 (mkE 0 z)) : Int), .int .u64 (lo (nxn 0 (mkE 0 z)) : Int)]) := Lib.hid (by
                show Blk _ _ _ #[.int .u64 (hi (mkE 0 z) : Int), .int .u64 (lo (mkE 0 z) : Int)]
                rw [hm0, hm1]; exact Blk.new _ _ _)
              have HT2 := Lib.hid (HT.out.alloc (.cells #[.int .u64 0, .int .u64 (z : Int)] 25))
              have HX2 := Lib.hid (HX.out.alloc (.cells #[.int .u64 0, .int .u64 (z : Int)] 25))
              have hwx : w.heap.size ≤ wr.heap.size := HX.out.size
              clear hm0 hm1 HT HX
              generalize wr.alloc (.cells #[.int .u64 0, .int .u64 (z : Int)] 25) = w3 at *
              generalize wr.heap.size = gx at *
              go_loopw [68] (fun i wq => ∃ y : Nat, y ≤ 4 ∧ i = .int .i64 y ∧ Hid (Blk wq gx 25 #[.int .u64 (hi (nxn y (mkE 0 z)) : Int), .int .u64 (lo (nxn y (mkE 0 z)) : Int)]) ∧ Hid (IsTb wq g b o) ∧ Hid (Ext No w wq)) (fun i _ => 4 - (intOf i).toNat)
              case atStart => exact ⟨0, by omega, rfl, HQ, HT2, HX2⟩
              case round =>
                clear HQ HT2 HX2
                obtain ⟨y, hy, rfl, HQ, HT2, HX2⟩ := hrel
                by_cases hy4 : y < 4
                · have Q := Blk.c2 HQ.out
                  go_wp2_with (go_at_call 72; refine (eNext_agg _ _).mono ?_; rintro e' w4 ⟨rfl, hx4⟩; have HQ4 := Lib.hid (HQ.out.ext_no hx4); have HT4 := Lib.hid (Blk.ext_no HT2.out hx4); have HX4 := Lib.hid (HX2.out.trans hx4); clear hx4; have Q4 := Blk.c2 HQ4.out)
                  go_roundw
                  case rel => exact ⟨y + 1, by omega, by go_num, Lib.hid (Blk.set_ (Blk.set_ HQ4.out 0 _) 1 _), Lib.hid (Blk.far (Blk.far HT4.out (by show g ≠ gx; omega) _) (by show g ≠ gx; omega) _), Lib.hid (by repeat (first | with_reducible refine Ext.setCell ?_ (fun h => by have h : gx < w.heap.size := h; omega) _ | with_reducible refine Ext.drew ?_ | with_reducible exact HX4.out))⟩
                  case measure => simp [intOf]; omega
                · have hye : y = 4 := by omega
                  subst hye
                  have Q := (Blk.c2 HQ.out).1
                  have c2 := (Blk.cell HT2.out (32 + z)).trans (tabC_ov b o (j := z) (by omega))
                  have f2 := Blk.frozen HT2.out (32 + z)
                  have g2 := Blk.lt HT2.out
                  have j0 : (0 : Int) ≤ (z : Int) := by omega
                  have j1 : (z : Int) < 16 := by omega
                  go_wp2_with fail
                  go_region
                  go_wp2
                  go_roundw
                  case rel => exact ⟨z + 1, by omega, by go_num, _, Lib.hid (IsTb.puto HT2.out (i := z) (by omega) (hi (nxn 4 (mkE 0 z)))), Lib.hid (fun j hj => by
                    unfold upd1
                    by_cases c : j = z
                    · rw [if_pos c, c]; rfl
                    · rw [if_neg c]; exact HO.out j (by omega)), Lib.hid (by repeat (first | with_reducible refine Ext.setCell ?_ (fun h => by have h : g < w.heap.size := h; omega) _ | with_reducible refine Ext.drew ?_ | with_reducible exact HX2.out))⟩
                  case measure => simp [intOf]; omega
            · have hze : z = 16 := by omega
              subst hze
              have HF : Hid (IsTb wr g (tb e) tov) := Lib.hid (by
                have := HT.out
                unfold IsTb at this
                rw [tabC_congr HBB.out HO.out] at this
                exact this)
              go_wp2
              go_ret
              exact ⟨g, rfl, hg2, HF.out, HX.out⟩
end Go.Proofs.Ytljddghamgjfbaa
