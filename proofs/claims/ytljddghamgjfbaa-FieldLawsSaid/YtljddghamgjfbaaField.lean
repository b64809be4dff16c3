/- Numbers of 128 bits (package field): what its functions do. Elements as bit vectors. -/
import Derived.Test.YtljddghamgjfbaaOctet
import Derived.Test.YtljddghamgjfbaaFieldMath
import Derived.Test.YtljddghamgjfbaaRefP1
import Derived.Laws.CopyOwn
import Derived.Deep.RegionLaw
set_option linter.unusedVariables false
set_option linter.unusedSimpArgs false
namespace Go.Proofs.Ytljddghamgjfbaa
open Go.RowKit Go.Deep Fm

/-! ### Elements -/
def hi (e : G) : Nat := e.toNat / 18446744073709551616
def lo (e : G) : Nat := e.toNat % 18446744073709551616
def mkE (h l : Nat) : G := BitVec.ofNat 128 (h * 18446744073709551616 + l)
def ev (e : G) : Value := .agg #[.int .u64 (hi e : Int), .int .u64 (lo e : Int)]
theorem hi_lt (e : G) : hi e < 18446744073709551616 := by
  have := e.isLt
  unfold hi
  exact Nat.div_lt_of_lt_mul (by simpa using this)
theorem lo_lt (e : G) : lo e < 18446744073709551616 := Nat.mod_lt _ (by omega)
theorem two128 : (2 : Nat) ^ 128 = 340282366920938463463374607431768211456 := by decide
theorem hi_mk {h l : Nat} (hh : h < 18446744073709551616) (hl : l < 18446744073709551616) : hi (mkE h l) = h := by
  unfold hi mkE
  rw [BitVec.toNat_ofNat, Nat.mod_eq_of_lt (by rw [two128]; omega)]; omega
theorem lo_mk {h l : Nat} (hh : h < 18446744073709551616) (hl : l < 18446744073709551616) : lo (mkE h l) = l := by
  unfold lo mkE
  rw [BitVec.toNat_ofNat, Nat.mod_eq_of_lt (show h * 18446744073709551616 + l < 2 ^ 128 by rw [two128]; omega)]; omega
theorem el_ext {a b : G} (h1 : hi a = hi b) (h2 : lo a = lo b) : a = b := by
  apply BitVec.eq_of_toNat_eq
  unfold hi lo at *
  omega
theorem hi_xor (a b : G) : hi (a ^^^ b) = hi a ^^^ hi b := by
  unfold hi
  rw [BitVec.toNat_xor, show (18446744073709551616 : Nat) = 2 ^ 64 by decide, Nat.xor_div_two_pow]
theorem lo_xor (a b : G) : lo (a ^^^ b) = lo a ^^^ lo b := by
  unfold lo
  rw [BitVec.toNat_xor, show (18446744073709551616 : Nat) = 2 ^ 64 by decide, Nat.xor_mod_two_pow]
theorem hi_nx (e : G) : hi (nx e) = (hi e / 2) ^^^ (lo e % 2 * 16212958658533785600) := by
  unfold hi lo
  rw [nxF_eq]
  unfold nxF
  rw [show (18446744073709551616 : Nat) = 2 ^ 64 by decide, Nat.xor_div_two_pow]
  congr 1
  · rw [Nat.div_div_eq_div_mul, Nat.div_div_eq_div_mul, Nat.mul_comm]
  · have : e.toNat % 2 ^ 64 % 2 = e.toNat % 2 := by omega
    rw [this]
    rcases Nat.mod_two_eq_zero_or_one e.toNat with h | h <;> rw [h]
theorem lo_nx (e : G) : lo (nx e) = lo e / 2 + hi e % 2 * 9223372036854775808 := by
  unfold hi lo
  rw [nxF_eq]
  unfold nxF
  rw [show (18446744073709551616 : Nat) = 2 ^ 64 by decide, Nat.xor_mod_two_pow]
  have h0 : e.toNat % 2 * 299076299051606071403356588563077529600 % 2 ^ 64 = 0 := by
    rcases Nat.mod_two_eq_zero_or_one e.toNat with h | h <;> rw [h]
  rw [h0, Nat.xor_zero]
  omega

theorem eAdd_any (a b : G) (w : World) : Calls Try.prog 31 #[ev a, ev b] w fun e w' => e = .returned (ev (a ^^^ b)) ∧ Ext No w w' := by
  refine (PGcmSeals.field_Element_Add.calls (hi a) (lo a) (hi b) (lo b) (hi (a ^^^ b)) (lo (a ^^^ b)) w ?_).mono ?_
  · unfold PGcmSeals.field_Element_Add.f
    rw [u64_xor_nat _ _ (hi_lt a) (hi_lt b), u64_xor_nat _ _ (lo_lt a) (lo_lt b), hi_xor, lo_xor]
  · rintro e w' ⟨rfl, hb⟩
    exact ⟨rfl, Ext.of_below hb⟩
theorem eNext_any (a : G) (w : World) : Calls Try.prog 72 #[ev a] w fun e w' => e = .returned (ev (nx a)) ∧ Ext No w w' := by
  refine (PGcmSeals.field_Element_next.calls (hi a) (lo a) (hi (nx a)) (lo (nx a)) w ?_).mono ?_
  · have h1 := hi_lt a
    have h2 := lo_lt a
    have e1 : ((hi a : Nat) : Int) / 2 = ((hi a / 2 : Nat) : Int) := by omega
    have e2 : ((lo a : Nat) : Int) / 2 = ((lo a / 2 : Nat) : Int) := by omega
    have e3 : IntKind.u64.wrap (((hi a : Nat) : Int) * 9223372036854775808) = ((hi a % 2 * 9223372036854775808 : Nat) : Int) := by rw [IntKind.wrap_u64]; omega
    have e4 : bits .and .u64 ((lo a : Nat) : Int) 1 = ((lo a % 2 : Nat) : Int) := by
      have := u64_and_nat (lo a) 1 h2 (by omega)
      rw [Nat.and_one_is_mod] at this
      exact this
    have e5 : (lo a / 2) ||| (hi a % 2 * 9223372036854775808) = lo a / 2 + hi a % 2 * 9223372036854775808 := by
      rw [Nat.or_comm, nat_join 63 _ _ (by rw [show (2 : Nat) ^ 63 = 9223372036854775808 by decide]; omega) (by rw [show (2 : Nat) ^ 63 = 9223372036854775808 by decide]; omega), Nat.add_comm]
    unfold PGcmSeals.field_Element_next.f
    rw [e1, e2, e3, e4, u64_or_nat _ _ (by omega) (by omega), e5, hi_nx, lo_nx]
    by_cases c : lo a % 2 = 1
    · rw [if_pos (by omega), c, Nat.one_mul]
      have := u64_xor_nat (hi a / 2) 16212958658533785600 (by omega) (by omega)
      rw [show ((16212958658533785600 : Nat) : Int) = 16212958658533785600 from rfl] at this
      rw [this]
    · have c0 : lo a % 2 = 0 := by omega
      rw [if_neg (by omega), c0, Nat.zero_mul, Nat.xor_zero]
  · rintro e w' ⟨rfl, hb⟩
    exact ⟨rfl, Ext.of_below hb⟩

/-! ### Sixteen bytes -/
def pad16 (l : List UInt8) : List UInt8 := (l ++ List.replicate 16 0).take 16
theorem pad16_length (l : List UInt8) : (pad16 l).length = 16 := by simp [pad16]
/-- The element of bytes. -/
def elL (l : List UInt8) : G := mkE (getL ((pad16 l).take 8)) (getL ((pad16 l).drop 8))
theorem size_u8 : (Try.prog.info? 5).map (·.size) = some 1 := by kernel_rfl
theorem copy16_src {w : World} {A : Option Addr} {l : List UInt8} {c : Nat} (h : Bs w Any (.slice A l.length c) l) :
    ((u8s l).take 16).length = Nat.min l.length 16 ∧
    (0 < ((u8s l).take 16).length → ∀ (W : World), Ext No w W → ∃ ad, A = some ad ∧ ∀ j v, ((u8s l).take 16)[j]? = some v → W.cell? (ad.add j) = some v) ∧
    0 + ((u8s l).take 16).length ≤ (List.replicate 16 (Value.int .u8 0)).length ∧ ∀ v ∈ (u8s l).take 16, v.oneCell' = true := by
  refine ⟨by rw [List.length_take, u8s_length]; exact Nat.min_comm _ _, fun h0 W hx => ?_, by rw [List.length_take]; simp; omega, fun v hv => u8s_one l v (List.mem_of_mem_take hv)⟩
  rw [List.length_take, u8s_length] at h0
  obtain ⟨_, A', c', e, _, _, hn⟩ := h.ext_no hx
  injection e with e1 _ e2
  obtain ⟨b, off, hA, _, hc⟩ := hn (by omega)
  refine ⟨⟨b, off, none⟩, e1.trans hA, fun j v hj => ?_⟩
  rw [show (⟨b, off, none⟩ : Addr).add j = ⟨b, off + j, none⟩ by unfold Addr.add; split <;> simp_all]
  refine hc j v ?_
  have hl : j < ((u8s l).take 16).length := (List.getElem?_eq_some_iff.1 hj).1
  rw [List.length_take] at hl
  rwa [List.getElem?_take_of_lt (by omega)] at hj
/-- A part of an array of bytes that is known whole. -/
theorem Bs.arr {w : World} {g : Nat} {t : TypeId} {L : List UInt8} (h : Blk w g t (u8s L).toArray) (a b c : Nat) {n : Nat} (hn : n = b - a) (hab : a ≤ b) (hb : b ≤ L.length) (hc : n ≤ c) (hm : c ≤ maxLen) :
    Bs w (fun k => k = g) (.slice (some ⟨g, a, none⟩) n c) ((L.take b).drop a) := by
  have e : ((L.take b).drop a).length = n := by rw [List.length_drop, List.length_take]; omega
  unfold Bs
  rw [e]
  refine ⟨by rw [u8s_length, e, Nat.mul_one], _, c, rfl, hc, hm, fun h0 => ⟨g, a, rfl, rfl, fun j u hu => ?_⟩⟩
  rw [h.cell]
  have hj : j < (u8s ((L.take b).drop a)).length := (List.getElem?_eq_some_iff.1 hu).1
  rw [u8s_length, e] at hj
  rw [List.getElem?_toArray, ← hu]
  unfold u8s
  rw [List.map_drop, List.map_take, List.getElem?_drop, List.getElem?_take_of_lt (by omega)]
theorem Ext.then_below {a b c : World} {B : Nat} (h : Ext No a b) (hb : Below B b c) (hB : a.heap.size ≤ B) : Ext No a c :=
  ⟨hb.os.trans h.os, hb.tape.trans h.tape, hb.output.trans h.output, Nat.le_trans h.size hb.size, fun k hk _ => (hb.block k (Nat.lt_of_lt_of_le hk hB)).trans (h.block k hk (fun h => h))⟩
theorem Blk.below_lt {a b : World} {B g : Nat} {t : TypeId} {cs : Array Value} (h : Blk a g t cs) (hb : Below B a b) (hg : g < B) : Blk b g t cs := (hb.block g hg).trans h
/-- Within From: the array's block, the result's block. -/
structure FrS (w0 : World) (L : List UInt8) (w : World) : Prop where
  b : Blk w (w0.heap.size + 1) 22 (u8s L).toArray
  r : ∃ u v, Blk w w0.heap.size 25 #[u, v]
  x : Ext No w0 w
section
variable {w0 w w' : World} {L : List UInt8}
theorem FrS.drew (h : Hid (FrS w0 L w)) : Hid (FrS w0 L w.drew) := ⟨h.out.b, h.out.r, h.out.x.drew⟩
theorem FrS.set2 (h : Hid (FrS w0 L w)) (u v : Value) : Hid (FrS w0 L ((w.setCell ⟨w0.heap.size, 0, none⟩ u).setCell ⟨w0.heap.size, 1, none⟩ v)) := by
  obtain ⟨x, y, hr⟩ := h.out.r
  refine ⟨Blk.far (Blk.far h.out.b (by simp) _) (by simp) _, ⟨_, _, Blk.set_ (Blk.set_ hr 0 u) 1 v⟩, ?_⟩
  refine Ext.setCell ?_ (by simp) _
  exact Ext.setCell h.out.x (by simp) _
theorem FrS.get1 (hL : L.length = 16) (h : Hid (FrS w0 L w)) : Calls Try.prog 71 #[.slice (some ⟨w0.heap.size + 1, 0, none⟩) 8 16] w fun e w' => e = .returned (.int .u64 (getL (L.take 8) : Int)) ∧ w = w' :=
  oGet_any _ (L.take 8) w (Bs.arr h.out.b 0 8 16 (n := 8) rfl (by omega) (by omega) (by omega) (by unfold maxLen; decide)).any
theorem FrS.get2 (hL : L.length = 16) (h : Hid (FrS w0 L w)) : Calls Try.prog 71 #[.slice (some ⟨w0.heap.size + 1, 8, none⟩) 8 8] w fun e w' => e = .returned (.int .u64 (getL (L.drop 8) : Int)) ∧ w = w' := by
  have := (Bs.arr h.out.b 8 16 8 (n := 8) rfl (by omega) (by omega) (by omega) (by unfold maxLen; decide)).any
  rw [List.take_of_length_le (by omega)] at this
  exact oGet_any _ (L.drop 8) w this
end
theorem splice16 (l : List UInt8) : splice (List.replicate 16 (Value.int .u8 0)) 0 ((u8s l).take 16) = u8s (pad16 l) := by
  have e : List.replicate 16 (Value.int .u8 0) = u8s (List.replicate 16 0) := by simp [u8s, u8v]
  unfold splice pad16
  rw [List.take_zero, List.nil_append, Nat.zero_add, List.length_take, u8s_length, e]
  unfold u8s
  rw [← List.map_take, ← List.map_drop, ← List.map_append]
  congr 1
  rw [List.take_append, List.drop_replicate, List.take_replicate]
  congr 2
  omega
set_option maxRecDepth 100000 in
set_option maxHeartbeats 1000000 in
theorem fFrom_any (v : Value) (l : List UInt8) (w : World) (h : Bs w Any v l) :
    Calls Try.prog 22 #[v] w fun e w' => e = .returned (ev (elL l)) ∧ Ext No w w' := by
  have hL1 := pad16_length l
  have hs := h
  obtain ⟨A, c, rfl, hc, hm, b, o, hA⟩ := h.slice
  have HP := Lib.hid (copy16_src hs)
  have HL := Lib.hid (getL_lt ((pad16 l).take 8))
  have HR := Lib.hid (getL_lt ((pad16 l).drop 8))
  have hx0 := ((Ext.refl No w).alloc (.cells #[.int .u64 0, .int .u64 0] 25)).alloc (.cells (List.replicate 16 (Value.int .u8 0)).toArray 22)
  have hb0 : Blk ((w.alloc (.cells #[.int .u64 0, .int .u64 0] 25)).alloc (.cells (List.replicate 16 (Value.int .u8 0)).toArray 22)) (w.heap.size + 1) 22 (List.replicate 16 (Value.int .u8 0)).toArray := by
    have := Blk.new (w.alloc (.cells #[.int .u64 0, .int .u64 0] 25)) 22 (List.replicate 16 (Value.int .u8 0)).toArray
    rw [World.size_alloc] at this
    exact this
  have he0 := (Blk.new w 25 #[.int .u64 0, .int .u64 0]).alloc (.cells (List.replicate 16 (Value.int .u8 0)).toArray 22)
  have HX0 := Lib.hid (And.intro hx0 (And.intro hb0 he0))
  clear hA h hs hx0 hb0 he0
  go_enter Try.func22, Try.ntmps22
  go_wp2_with ((with_reducible show wpList _ _ _ _ _ _); refine wpList_copy_splice (o := ⟨some 6, _, _, _, _, _⟩) rfl (.tmp 4) (.tmp 5) 27 27 rfl 5 Try.underlying27 size_u8 (some ⟨w.heap.size + 1, 0, none⟩) A 16 16 l.length c rfl rfl (w.heap.size + 1) 0 (List.replicate 16 (Value.int .u8 0)) 22 HX0.out.2.1 ((u8s l).take 16) HP.out.1 (fun h0 => ⟨rfl, HP.out.2.1 h0 _ HX0.out.1⟩) HP.out.2.2.1 HP.out.2.2.2 (w.heap.size + 1) _ (Below.refl _ _) (Nat.le_refl _) ?_; intro w1 hblk hbel)
  have hbk : Blk w1 (w.heap.size + 1) 22 (u8s (pad16 l)).toArray := by
    have := hblk.out
    rw [splice16] at this
    exact this
  have hx1 : Ext No w w1 := HX0.out.1.then_below hbel (by omega)
  have hr1 : Blk w1 w.heap.size 25 #[.int .u64 0, .int .u64 0] := HX0.out.2.2.below_lt hbel (by omega)
  have HF : Hid (FrS w (pad16 l) w1) := Lib.hid ⟨hbk, ⟨_, _, hr1⟩, hx1⟩
  have B1 := Blk.c2 hr1
  clear hbk hx1 hr1 HX0 hbel hblk
  go_region_held3 (fun w' => Hid (FrS w (pad16 l) w'))
    (first | assumption | exact HF | exact FrS.drew HF | exact FrS.drew (by assumption) | exact FrS.set2 (by assumption) _ _)
    (first
      | (go_at_call 71; with_reducible refine (FrS.get1 hL1 (by assumption)).mono ?_; rintro e w' ⟨rfl, rfl⟩)
      | (go_at_call 71; with_reducible refine (FrS.get2 hL1 (by assumption)).mono ?_; rintro e w' ⟨rfl, rfl⟩))
  have he : ev (elL l) = .agg #[.int .u64 (getL ((pad16 l).take 8) : Int), .int .u64 (getL ((pad16 l).drop 8) : Int)] := by
    unfold ev elL
    rw [hi_mk HL.out HR.out, lo_mk HL.out HR.out]
  have HE := Lib.hid he
  have hS := ‹Hid (FrS w (pad16 l) ((w1.setCell ⟨w.heap.size, 0, none⟩ (.int .u64 (getL ((pad16 l).take 8) : Int))).setCell ⟨w.heap.size, 1, none⟩ (.int .u64 (getL ((pad16 l).drop 8) : Int))).drew)›
  have hx := hS.out.x
  clear hS he HF HL HR HP
  generalize getL ((pad16 l).take 8) = x1 at *
  generalize getL ((pad16 l).drop 8) = x2 at *
  go_wp2
  exact bodyPost_ret (v := .agg #[.int .u64 (x1 : Int), .int .u64 (x2 : Int)]) (by simp [results, Try.results22, go_sem, B1]) rfl ⟨by rw [HE.out], hx⟩

/-! ### The sixteen bytes of an element -/
def elB (e : G) : List UInt8 := putL (hi e) 8 ++ putL (lo e) 8
/-- Within a function whose parameter e was boxed. -/
structure BxS (w0 : World) (e : G) (w : World) : Prop where
  b : Blk w w0.heap.size 25 #[.int .u64 (hi e : Int), .int .u64 (lo e : Int)]
  x : Ext No w0 w
abbrev BxSS (w0 : World) (e : G) (w : World) : Prop := (w.cell? ⟨w0.heap.size, 0, none⟩ = some (.int .u64 (hi e : Int)) ∧ w.cell? ⟨w0.heap.size, 1, none⟩ = some (.int .u64 (lo e : Int))) ∧ Hid (BxS w0 e w)
section
variable {w0 w w' : World} {e : G}
theorem BxS.S (h : BxS w0 e w) : BxSS w0 e w := ⟨(Blk.c2 h.b).1, h⟩
theorem BxS.no (h : BxSS w0 e w) (hx : Ext No w w') : BxSS w0 e w' := BxS.S ⟨h.2.out.b.ext_no hx, h.2.out.x.trans hx⟩
theorem BxS.put (h : BxSS w0 e w) (n : Nat) (hn : n < 18446744073709551616) : Calls Try.prog 74 #[.int .u64 (n : Int), .int .i64 8] w fun e' w' => ∃ A c, e' = .returned (.slice A 8 c) ∧ (Own w' w.heap.size (.slice A 8 c) (putL n 8) ∧ Ext No w w') ∧ BxSS w0 e w' := by
  refine (oPut_any n 8 w (by omega) (by omega)).mono ?_
  rintro e' w' ⟨v, rfl, ho, hx⟩
  obtain ⟨A, c, rfl, _⟩ := ho.slice
  rw [putL_length] at ho ⊢
  exact ⟨A, c, rfl, ⟨ho, hx⟩, BxS.no h hx⟩
end
set_option maxRecDepth 100000 in
set_option maxHeartbeats 1000000 in
theorem eBytes_any (e : G) (w : World) : Calls Try.prog 29 #[ev e] w fun e' w' => ∃ A n c, e' = .returned (.slice A n c) ∧ Own w' w.heap.size (.slice A n c) (elB e) ∧ Ext No w w' := by
  have h1 := hi_lt e
  have h2 := lo_lt e
  have HB : Hid (BxS w e (w.alloc (.cells #[.int .u64 (hi e : Int), .int .u64 (lo e : Int)] 25))) := Lib.hid ⟨Blk.new w _ _, (Ext.refl No w).alloc _⟩
  have hpl := putL_length (hi e) 8
  have hpm := putL_length (lo e) 8
  have HLL := Lib.hid (And.intro hpl hpm)
  clear hpl hpm
  unfold ev
  go_enter Try.func29, Try.ntmps29
  go_wp2_with fail
  go_region_held3 (fun w' => (w'.cell? ⟨w.heap.size, 0, none⟩ = some (.int .u64 (hi e : Int)) ∧ w'.cell? ⟨w.heap.size, 1, none⟩ = some (.int .u64 (lo e : Int))) ∧ Hid (BxS w e w'))
    (first | assumption | exact BxS.S HB.out | exact BxS.no (BxS.S HB.out) (Ext.refl No _).drew | exact BxS.no (by assumption) (Ext.refl No _).drew | exact BxS.no (by assumption) ((Ext.refl No _).alloc _) | exact BxS.no (by assumption) hx3)
    (first
      | (go_at_call 74; with_reducible refine (BxS.put (by assumption) (hi e) h1).mono ?_; rintro e' w1 ⟨A1, c1, rfl, HO1, hS1⟩)
      | (go_at_call 74; with_reducible refine (BxS.put (by assumption) (lo e) h2).mono ?_; rintro e' w2 ⟨A2, c2, rfl, HO2, hS2⟩)
      | (go_at_call 73; refine (oJoin_any Any _ [putL (hi e) 8, putL (lo e) 8] _ (Parts.lit2 (HO1.1.any.ext_no HO2.2) HO2.1.any trivial) (by simp [HLL.out.1, HLL.out.2])).mono ?_; rintro e' w3 ⟨A, n, c, rfl, ho3, hx3⟩))
  have hS := ‹(w3.cell? ⟨w.heap.size, 0, none⟩ = some (.int .u64 (hi e : Int)) ∧ w3.cell? ⟨w.heap.size, 1, none⟩ = some (.int .u64 (lo e : Int))) ∧ Hid (BxS w e w3)›
  have hS1' := hS1.2.out.x.size
  have hs2' := HO2.2.size
  have HF : Hid (Own w3 w.heap.size (.slice A n c) (elB e) ∧ Ext No w w3) := Lib.hid ⟨by
    have := ho3.less (base' := w.heap.size) (by simp; omega)
    simpa [elB] using this, hS.2.out.x⟩
  clear hS ho3 hx3
  go_wp2
  go_ret
  exact ⟨A, n, c, rfl, HF.out.1, HF.out.2⟩

/-! ### Is it nought? -/
set_option maxRecDepth 100000 in
set_option maxHeartbeats 1000000 in
theorem eZero_any (e : G) (w : World) : Calls Try.prog 36 #[ev e] w fun e' w' => e' = .returned (.bool (decide (e = 0#128))) ∧ Ext No w w' := by
  have h1 := hi_lt e
  have h2 := lo_lt e
  have hz : decide (e = 0#128) = (decide ((hi e : Int) = 0) && decide ((lo e : Int) = 0)) := by
    rw [Bool.eq_iff_iff, Bool.and_eq_true, decide_eq_true_eq, decide_eq_true_eq, decide_eq_true_eq]
    constructor
    · rintro rfl; exact ⟨by decide, by decide⟩
    · rintro ⟨a, b⟩; exact el_ext (by rw [show hi 0#128 = 0 by decide]; omega) (by rw [show lo 0#128 = 0 by decide]; omega)
  rw [hz]
  clear hz
  unfold ev
  generalize hi e = x at *
  generalize lo e = y at *
  go_enter Try.func36, Try.ntmps36
  go_wp2_with fail
  all_goals
    go_ret
    exact ⟨by simp [*], (Ext.refl No w).alloc _⟩
end Go.Proofs.Ytljddghamgjfbaa
