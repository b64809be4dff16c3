/- OpenOps12, SealLaw, SealAny, SealReg, SealWorks. -/
import Derived.Test.YtmbbkkonmkbnoaaS12A
import Derived.Deep.MidRow
import Derived.Test.YtmbbkkonmkbnoaaS12F
import Derived.Test.YtmbbkkonmkbnoaaS12D
set_option linter.unusedVariables false
set_option linter.unusedSimpArgs false
namespace Go.Proofs.Ytmbbkkonmkbnoaa
open Go.RowKit Go.ChangeShapes Go.WideShapes Go.Deep
theorem flat_len {α β : Type} (f : α → List β) (k : Nat) (hf : ∀ x, (f x).length = k) (xs : List α) : (xs.flatMap f).length = xs.length * k := by
  induction xs with
  | nil => simp
  | cons v ls ih => rw [List.flatMap_cons, List.length_append, ih, hf, List.length_cons, Nat.add_mul]; omega
theorem flat_get {α β : Type} (f : α → List β) (k : Nat) (hf : ∀ x, (f x).length = k) (xs : List α) (i j : Nat) (hi : i < xs.length) (hj : j < k) : (xs.flatMap f)[i * k + j]? = (f xs[i])[j]? := by
  induction xs generalizing i with
  | nil => simp at hi
  | cons v ls ih =>
    rw [List.flatMap_cons]
    cases i with
    | zero => rw [List.getElem?_append_left (by rw [hf]; omega)]; simp
    | succ i => rw [List.getElem?_append_right (by rw [hf, Nat.add_mul]; omega), hf, show (i + 1) * k + j - k = i * k + j by rw [Nat.add_mul]; omega, ih i (by simpa using hi)]; rfl
theorem cons_of {n : Nat} {cs : List Value} (h : cs.length = n + 1) : ∃ a t, cs = a :: t ∧ t.length = n := by
  cases cs with
  | nil => simp at h
  | cons a t => exact ⟨a, t, rfl, by simpa using h⟩
theorem bytes_one {W : World} {a : Value} (h : Rd Try.prog W 22 [a]) : ∃ A c l, a = .slice A (List.length l) c ∧ Bs W (fun b => b < W.heap.size) (.slice A (List.length l) c) l := by
  obtain ⟨A, c, l, e, hb⟩ := bytes_of h
  injection e with e
  exact ⟨A, c, l, e, hb⟩
theorem bool_one {W : World} {a : Value} (h : Rd Try.prog W 4 [a]) : ∃ b : Bool, a = .bool b := by
  obtain ⟨b, e⟩ := Rd.bool Try.underlying4 h
  injection e with e
  exact ⟨b, e⟩
theorem int_one {W : World} {a : Value} (h : Rd Try.prog W 3 [a]) : ∃ n : Int, a = .int .i64 n ∧ (-9223372036854775808 ≤ n ∧ n ≤ 9223372036854775807) := by
  obtain ⟨n, e, hw⟩ := Rd.int Try.underlying3 h
  injection e with e
  refine ⟨n, e, ?_⟩
  have h : IntKind.i64.min ≤ n ∧ n ≤ IntKind.i64.max := by simpa [Lit.wf] using hw
  rwa [show IntKind.i64.min = -9223372036854775808 from by decide, show IntKind.i64.max = 9223372036854775807 from by decide] at h
theorem u8_one {W : World} {a : Value} (h : Rd Try.prog W 5 [a]) : ∃ n : Int, a = .int .u8 n ∧ (0 ≤ n ∧ n ≤ 255) := by
  obtain ⟨n, e, hw⟩ := Rd.int Try.underlying5 h
  injection e with e
  refine ⟨n, e, ?_⟩
  have h : IntKind.u8.min ≤ n ∧ n ≤ IntKind.u8.max := by simpa [Lit.wf] using hw
  rwa [show IntKind.u8.min = 0 from by decide, show IntKind.u8.max = 255 from by decide] at h
theorem u16_one {W : World} {a : Value} (h : Rd Try.prog W 23 [a]) : ∃ n : Int, a = .int .u16 n ∧ (0 ≤ n ∧ n ≤ 65535) := by
  obtain ⟨n, e, hw⟩ := Rd.int Try.underlying23 h
  injection e with e
  refine ⟨n, e, ?_⟩
  have h : IntKind.u16.min ≤ n ∧ n ≤ IntKind.u16.max := by simpa [Lit.wf] using hw
  rwa [show IntKind.u16.min = 0 from by decide, show IntKind.u16.max = 65535 from by decide] at h
structure Op12 where
  kind : Int
  key : Int
  nonce : Int
  bA : Option Addr
  bc : Nat
  bd : List UInt8
  tA : Option Addr
  tc : Nat
  td : List UInt8
  turn : Int
  short : Bool
namespace Op12
def cs (x : Op12) : List Value := [.int .i64 x.kind, .int .u8 x.key, .int .u8 x.nonce, .slice x.bA x.bd.length x.bc, .slice x.tA x.td.length x.tc, .int .u16 x.turn, .bool x.short]
theorem cs_length (x : Op12) : x.cs.length = 7 := rfl
theorem cs_one (x : Op12) : ∀ y ∈ x.cs, y.oneCell' = true := by
  intro y hy
  simp only [cs, List.mem_cons, List.not_mem_nil, or_false] at hy
  rcases hy with rfl | rfl | rfl | rfl | rfl | rfl | rfl <;> rfl
structure Ok (w : World) (F : Nat → Prop) (x : Op12) : Prop where
  kind : -9223372036854775808 ≤ x.kind ∧ x.kind ≤ 9223372036854775807
  key : 0 ≤ x.key ∧ x.key ≤ 255
  nonce : 0 ≤ x.nonce ∧ x.nonce ≤ 255
  b : Bs w F (.slice x.bA x.bd.length x.bc) x.bd
  t : Bs w F (.slice x.tA x.td.length x.tc) x.td
  turn : 0 ≤ x.turn ∧ x.turn ≤ 65535
theorem Ok.ext {S F : Nat → Prop} {w w' : World} {x : Op12} (h : Ok w F x) (he : Ext S w w') (hd : ∀ b, F b → b < w.heap.size → ¬ S b) : Ok w' F x := ⟨h.kind, h.key, h.nonce, h.b.ext he hd, h.t.ext he hd, h.turn⟩
theorem Ok.ext_no {F : Nat → Prop} {w w' : World} {x : Op12} (h : Ok w F x) (he : Ext No w w') : Ok w' F x := h.ext he (fun _ _ _ h => h)
end Op12
def Op12s (w : World) (F : Nat → Prop) (B : Nat) (v : Value) (ls : List Op12) : Prop := Sl w F 7 v ls.length (ls.flatMap Op12.cs) ∧ ∀ x ∈ ls, Op12.Ok w (fun b => b < B) x
theorem Op12s.ext_no {F : Nat → Prop} {w w' : World} {v : Value} {B : Nat} {ls : List Op12} (h : Op12s w F B v ls) (he : Ext No w w') : Op12s w' F B v ls := ⟨Sl.ext_no h.1 he, fun x hx => (h.2 x hx).ext_no he⟩
theorem Op12s.slice {F : Nat → Prop} {w : World} {v : Value} {B : Nat} {ls : List Op12} (h : Op12s w F B v ls) : ∃ A c, v = .slice A ls.length c ∧ ls.length ≤ c ∧ c ≤ maxLen ∧
    ∃ b off, ∀ k, (hk : k < ls.length) → A = some ⟨b, off, none⟩ ∧ F b ∧ b < w.heap.size ∧ w.rangeAt b (off + k * 7) ls[k].cs ∧ Op12.Ok w (fun b => b < B) ls[k] := by
  obtain ⟨⟨h1, A, c, hv, hc, hm, hn⟩, hok⟩ := h
  refine ⟨A, c, hv, hc, hm, ?_⟩
  rcases Nat.eq_zero_or_pos ls.length with h0 | h0
  · exact ⟨0, 0, fun k hk => absurd hk (by omega)⟩
  · obtain ⟨b, off, hA, hF, hcell⟩ := hn h0
    refine ⟨b, off, fun k hk => ?_⟩
    have hr : w.rangeAt b (off + k * 7) ls[k].cs := fun j u hu => by
      have hj : j < 7 := by have := (List.getElem?_eq_some_iff.1 hu).1; rwa [Op12.cs_length] at this
      rw [Nat.add_assoc]
      exact hcell _ _ (by rw [flat_get Op12.cs 7 Op12.cs_length ls k j hk hj]; exact hu)
    exact ⟨hA, hF, World.block_lt_of_cell? w _ (hr 0 _ rfl), hr, hok _ (List.getElem_mem hk)⟩
theorem op12_of {W : World} {cs : List Value} (h : Rd Try.prog W 58 cs) : ∃ x : Op12, cs = x.cs ∧ Op12.Ok W (fun b => b < W.heap.size) x := by
  have hCint : Try.prog.cellsOf 3 = 1 := by kernel_rfl
  have hCu8 : Try.prog.cellsOf 5 = 1 := by kernel_rfl
  have hCbytes : Try.prog.cellsOf 22 = 1 := by kernel_rfl
  have hCu16 : Try.prog.cellsOf 23 = 1 := by kernel_rfl
  have hCbool : Try.prog.cellsOf 4 = 1 := by kernel_rfl
  have hCv : Try.prog.cellsOf 58 = 7 := by kernel_rfl
  obtain ⟨hl, hf⟩ := Rd.struct Try.underlying58 h
  rw [hCv] at hl
  obtain ⟨a0, s0, rfl, l0⟩ := cons_of hl
  obtain ⟨a1, s1, rfl, l1⟩ := cons_of l0
  obtain ⟨a2, s2, rfl, l2⟩ := cons_of l1
  obtain ⟨a3, s3, rfl, l3⟩ := cons_of l2
  obtain ⟨a4, s4, rfl, l4⟩ := cons_of l3
  obtain ⟨a5, s5, rfl, l5⟩ := cons_of l4
  obtain ⟨a6, s6, rfl, l6⟩ := cons_of l5
  obtain rfl : s6 = [] := List.length_eq_zero_iff.1 l6
  have f0 : Rd Try.prog W 3 [a0] := by
    have h : Rd Try.prog W 3 (List.take (Try.prog.cellsOf 3) (List.drop 0 [a0, a1, a2, a3, a4, a5, a6])) := hf 0 _ rfl
    rw [hCint] at h
    exact h
  have f1 : Rd Try.prog W 5 [a1] := by
    have h : Rd Try.prog W 5 (List.take (Try.prog.cellsOf 5) (List.drop 1 [a0, a1, a2, a3, a4, a5, a6])) := hf 1 _ rfl
    rw [hCu8] at h
    exact h
  have f2 : Rd Try.prog W 5 [a2] := by
    have h : Rd Try.prog W 5 (List.take (Try.prog.cellsOf 5) (List.drop 2 [a0, a1, a2, a3, a4, a5, a6])) := hf 2 _ rfl
    rw [hCu8] at h
    exact h
  have f3 : Rd Try.prog W 22 [a3] := by
    have h : Rd Try.prog W 22 (List.take (Try.prog.cellsOf 22) (List.drop 3 [a0, a1, a2, a3, a4, a5, a6])) := hf 3 _ rfl
    rw [hCbytes] at h
    exact h
  have f4 : Rd Try.prog W 22 [a4] := by
    have h : Rd Try.prog W 22 (List.take (Try.prog.cellsOf 22) (List.drop 4 [a0, a1, a2, a3, a4, a5, a6])) := hf 4 _ rfl
    rw [hCbytes] at h
    exact h
  have f5 : Rd Try.prog W 23 [a5] := by
    have h : Rd Try.prog W 23 (List.take (Try.prog.cellsOf 23) (List.drop 5 [a0, a1, a2, a3, a4, a5, a6])) := hf 5 _ rfl
    rw [hCu16] at h
    exact h
  have f6 : Rd Try.prog W 4 [a6] := by
    have h : Rd Try.prog W 4 (List.take (Try.prog.cellsOf 4) (List.drop 6 [a0, a1, a2, a3, a4, a5, a6])) := hf 6 _ rfl
    rw [hCbool] at h
    exact h
  obtain ⟨n0, rfl, b0⟩ := int_one f0
  obtain ⟨n1, rfl, b1⟩ := u8_one f1
  obtain ⟨n2, rfl, b2⟩ := u8_one f2
  obtain ⟨A3, c3, d3, rfl, b3⟩ := bytes_one f3
  obtain ⟨A4, c4, d4, rfl, b4⟩ := bytes_one f4
  obtain ⟨n5, rfl, b5⟩ := u16_one f5
  obtain ⟨n6, rfl⟩ := bool_one f6
  exact ⟨⟨n0, n1, n2, A3, c3, d3, A4, c4, d4, n5, n6⟩, rfl, ⟨b0, b1, b2, b3, b4, b5⟩⟩
theorem op12s_of {W : World} {cs : List Value} (h : Rd Try.prog W 59 cs) : ∃ A c ls, cs = [.slice A (List.length ls) c] ∧ Op12s W Any W.heap.size (.slice A (List.length ls) c) ls := by
  have hC : Try.prog.cellsOf 58 = 7 := by kernel_rfl
  obtain ⟨A, len, cap, hcs, hl, hcm, hA0, b, off, hi⟩ := Rd.slice Try.underlying59 (by rw [hC]; omega) h
  have hrow : ∀ i, i < len → ∃ x : Op12, (∀ j u, x.cs[j]? = some u → W.cell? ⟨b, off + i * 7 + j, none⟩ = some u) ∧ Op12.Ok W (fun b => b < W.heap.size) x := by
    intro i hlt
    obtain ⟨_, cs', hcl, hcell, hrd⟩ := hi i hlt
    obtain ⟨x, rfl, hx⟩ := op12_of hrd
    rw [hC] at hcell
    exact ⟨x, hcell, hx⟩
  have hx : ∃ f : Nat → Op12, ∀ i, i < len → (∀ j u, (f i).cs[j]? = some u → W.cell? ⟨b, off + i * 7 + j, none⟩ = some u) ∧ Op12.Ok W (fun b => b < W.heap.size) (f i) :=
    ⟨fun i => if hi : i < len then (hrow i hi).choose else ⟨0, 0, 0, none, 0, [], none, 0, [], 0, false⟩, fun i hlt => by
      simp only [hlt, dif_pos]
      exact (hrow i hlt).choose_spec⟩
  obtain ⟨f, hf⟩ := hx
  have hll : ((List.range len).map f).length = len := by simp
  refine ⟨A, cap, (List.range len).map f, by rw [hll]; exact hcs, ?_⟩
  refine ⟨⟨by rw [flat_len Op12.cs 7 Op12.cs_length], A, cap, rfl, by rw [hll]; exact hl, hcm, fun h0 => ?_⟩, fun x hx => ?_⟩
  · rw [hll] at h0
    refine ⟨b, off, (hi 0 h0).1, trivial, fun j u hu => ?_⟩
    have hj : j < len * 7 := by
      have := (List.getElem?_eq_some_iff.1 hu).1
      rwa [flat_len Op12.cs 7 Op12.cs_length, hll] at this
    have hq : j / 7 < len := by omega
    have e : j = j / 7 * 7 + j % 7 := by omega
    have hr : j % 7 < 7 := by omega
    rw [e] at hu ⊢
    rw [flat_get Op12.cs 7 Op12.cs_length _ _ _ (by rw [hll]; exact hq) hr] at hu
    rw [← Nat.add_assoc]
    refine (hf (j / 7) hq).1 _ u ?_
    simpa using hu
  · obtain ⟨i, hi', rfl⟩ := List.mem_map.1 hx
    exact (hf i (List.mem_range.1 hi')).2
end Go.Proofs.Ytmbbkkonmkbnoaa
namespace Go.Proofs.Ytmbbkkonmkbnoaa
open Go.RowKit Go.Deep
set_option maxRecDepth 100000 in
theorem op12s_val {W : World} {v : Value} {r : Reach} {base : Nat} (u : Rd Try.prog W 59 v.cells.toList) (ok : Value.okWide Try.prog W r base 59 v) : ∃ ls, Op12s W Any W.heap.size v ls := by
  obtain ⟨Aa, na, ca, rfl⟩ := Go.WideShapes.okWide_slice Try.underlying59 ok
  obtain ⟨A1, c1, ls, e1, h1⟩ := op12s_of u
  have e1 : [Value.slice Aa na ca] = [.slice A1 ls.length c1] := e1
  injection e1 with e1
  rw [e1]
  exact ⟨ls, h1⟩
set_option maxRecDepth 100000 in
set_option maxRecDepth 100000 in
theorem op12_val {W : World} {v : Value} {r : Reach} {base : Nat} (u : Rd Try.prog W 58 v.cells.toList) (ok : Value.okWide Try.prog W r base 58 v) : ∃ x : Op12, v = .agg x.cs.toArray ∧ Op12.Ok W (fun b => b < W.heap.size) x := by
  obtain ⟨cs, rfl, -⟩ := Go.WideShapes.okWide_struct Try.underlying58 ok
  obtain ⟨x, e, hx⟩ := op12_of u
  refine ⟨x, ?_, hx⟩
  have e : cs.toList = x.cs := e
  rw [← e]
theorem size_op12 : (Try.prog.info? 58).map (·.size) = some 7 := by kernel_rfl
end Go.Proofs.Ytmbbkkonmkbnoaa
namespace Go.Proofs.Ytmbbkkonmkbnoaa
open Go.RowKit Go.Deep
/-- Acts that are not more than is waited for. -/
def Light (most : Nat) (ls : List Op12) : Prop := ls.length ≤ most ∧ ∀ x ∈ ls, x.bd.length ≤ 60 ∧ x.td.length ≤ 60
def LightPost (most : Nat) (ls : List Op12) (w : World) (e : Ending) (w' : World) : Prop := Ext No w w' ∧ ∃ q, e = .returned (.bool q) ∧ (q = true → Light most ls) ∧ (q = false → ¬ Light most ls)
set_option maxRecDepth 100000 in
set_option maxHeartbeats 1000000 in
theorem lLight12 (v : Value) (ls : List Op12) (most B : Nat) (w : World) (h : Op12s w Any B v ls) :
    Calls Try.prog 32 #[v, .int .i64 (most : Int)] w (LightPost most ls w) := by
  obtain ⟨A, c, rfl, hc, hm, b, o, hrow⟩ := h.slice
  unfold maxLen at hm
  have HR := Lib.hid hrow
  have HX := Lib.hid (Ext.refl No w)
  clear h hrow
  by_cases hl : most < ls.length
  · have hl' : (most : Int) < (ls.length : Int) := by omega
    go_enter Try.func32, Try.ntmps32
    go_wp2
    go_ret
    exact ⟨HX.out, false, rfl, (fun h => by cases h), fun _ h => by have := h.1; omega⟩
  · have hl' : ¬ (most : Int) < (ls.length : Int) := by omega
    go_enter Try.func32, Try.ntmps32
    go_wp2
    go_loop [5] (fun i => ∃ k : Nat, k ≤ ls.length ∧ i = .int .i64 k ∧ Hid (∀ x ∈ ls.take k, x.bd.length ≤ 60 ∧ x.td.length ≤ 60)) (fun i => ls.length - (intOf i).toNat)
    case atStart => exact ⟨0, by omega, rfl, Lib.hid (by simp)⟩
    case round =>
      obtain ⟨k, hk, rfl, HT⟩ := hrel
      by_cases hlt : k < ls.length
      · obtain ⟨hA, -, hbl, hr, -⟩ := HR.out k hlt
        subst hA
        obtain ⟨x, hx⟩ : ∃ x, ls[k] = x := ⟨_, rfl⟩
        have HTK : Hid (ls.take (k + 1) = ls.take k ++ [x]) := Lib.hid (by rw [← hx]; exact List.take_succ_eq_append_getElem hlt)
        have HXM : Hid (x ∈ ls) := Lib.hid (by rw [← hx]; exact List.getElem_mem hlt)
        rw [hx] at hr
        have q3 : w.cell? ⟨b, o + k * 7 + 3, none⟩ = some (.slice x.bA x.bd.length x.bc) := hr 3 _ rfl
        have q4 : w.cell? ⟨b, o + k * 7 + 4, none⟩ = some (.slice x.tA x.td.length x.tc) := hr 4 _ rfl
        have k0 : (0 : Int) ≤ (k : Int) := by omega
        have k1 : (k : Int) < (ls.length : Int) := by omega
        clear hr hx
        by_cases h3 : 60 < x.bd.length
        · have h3' : (60 : Int) < (x.bd.length : Int) := by omega
          go_wp2
          go_ret
          exact ⟨HX.out, false, rfl, (fun h => by cases h), fun _ h => by have := (h.2 x HXM.out).1; omega⟩
        · have h3' : ¬ (60 : Int) < (x.bd.length : Int) := by omega
          by_cases h4 : 60 < x.td.length
          · have h4' : (60 : Int) < (x.td.length : Int) := by omega
            go_wp2
            go_ret
            exact ⟨HX.out, false, rfl, (fun h => by cases h), fun _ h => by have := (h.2 x HXM.out).2; omega⟩
          · have h4' : ¬ (60 : Int) < (x.td.length : Int) := by omega
            have HN : Hid (∀ y ∈ ls.take (k + 1), y.bd.length ≤ 60 ∧ y.td.length ≤ 60) := Lib.hid (fun y hy => by
              rw [HTK.out] at hy
              rcases List.mem_append.1 hy with hy | hy
              · exact HT.out y hy
              · rw [List.mem_singleton.1 hy]; omega)
            go_wp2
            go_round
            case rel => exact ⟨k + 1, by omega, by go_num, HN⟩
            case measure => simp [intOf]; omega
      · obtain rfl : k = ls.length := by omega
        have HL : Hid (Light most ls) := Lib.hid ⟨by omega, by have := HT.out; rwa [List.take_length] at this⟩
        go_wp2
        go_ret
        exact ⟨HX.out, true, rfl, (fun _ => HL.out), fun h => by cases h⟩
instance (most : Nat) (ls : List Op12) : Decidable (Light most ls) := by unfold Light; infer_instance
/-- light, as it answers. -/
theorem lLightQ (v : Value) (ls : List Op12) (most B : Nat) (q : Bool) (hq : decide (Light most ls) = q) (w : World) (h : Op12s w Any B v ls) :
    Calls Try.prog 32 #[v, .int .i64 (most : Int)] w fun e w' => e = .returned (.bool q) ∧ Ext No w w' :=
  (lLight12 v ls most B w h).mono (by
    rintro e w' ⟨hx, p, rfl, h1, h2⟩
    refine ⟨?_, hx⟩
    rw [← hq]
    cases p with
    | true => rw [decide_eq_true (h1 rfl)]
    | false => rw [decide_eq_false (h2 rfl)])
theorem lLight1 (v : Value) (ls : List Op12) (B : Nat) (q : Bool) (hq : decide (Light 1 ls) = q) (w : World) (h : Op12s w Any B v ls) : Calls Try.prog 32 #[v, .int .i64 1] w fun e w' => e = .returned (.bool q) ∧ Ext No w w' := lLightQ v ls 1 B q hq w h
theorem lLight10 (v : Value) (ls : List Op12) (B : Nat) (q : Bool) (hq : decide (Light 10 ls) = q) (w : World) (h : Op12s w Any B v ls) : Calls Try.prog 32 #[v, .int .i64 10] w fun e w' => e = .returned (.bool q) ∧ Ext No w w' := lLightQ v ls 10 B q hq w h
theorem lLight12' (v : Value) (ls : List Op12) (B : Nat) (q : Bool) (hq : decide (Light 12 ls) = q) (w : World) (h : Op12s w Any B v ls) : Calls Try.prog 32 #[v, .int .i64 12] w fun e w' => e = .returned (.bool q) ∧ Ext No w w' := lLightQ v ls 12 B q hq w h
theorem lLight20 (v : Value) (ls : List Op12) (B : Nat) (q : Bool) (hq : decide (Light 20 ls) = q) (w : World) (h : Op12s w Any B v ls) : Calls Try.prog 32 #[v, .int .i64 20] w fun e w' => e = .returned (.bool q) ∧ Ext No w w' := lLightQ v ls 20 B q hq w h
theorem lLight40 (v : Value) (ls : List Op12) (B : Nat) (q : Bool) (hq : decide (Light 40 ls) = q) (w : World) (h : Op12s w Any B v ls) : Calls Try.prog 32 #[v, .int .i64 40] w fun e w' => e = .returned (.bool q) ∧ Ext No w w' := lLightQ v ls 40 B q hq w h
end Go.Proofs.Ytmbbkkonmkbnoaa
namespace Go.Proofs.Ytmbbkkonmkbnoaa
open Go.RowKit Go.Deep Ae Fm
theorem own_len' {w : World} {base n : Nat} {v : Value} {l : List UInt8} (h : Own w base v l) (hn : l.length = n) : ∃ A c, v = .slice A n c ∧ By w (.slice A n c) l := by
  obtain ⟨A, c, rfl, _⟩ := h.slice
  have hb := By.of_own h
  rw [hn] at hb
  exact ⟨A, c, by rw [hn], hb⟩
def sealB (S : Sr) (key nonce beside text : List UInt8) : List UInt8 := if S.ideal = true then noiseL (S.count + 1) (text.length + 16) else sealL (kys key) nonce (hOf16 (kys key)) beside text
def sealSr (S : Sr) (key nonce beside text : List UInt8) : Sr := noted (if S.ideal = true then { S with count := S.count + 1 } else S) ⟨key, nonce, beside, text, sealB S key nonce beside text⟩
theorem sealB_length (S : Sr) (key nonce beside text : List UInt8) (hk : key.length = 32) : (sealB S key nonce beside text).length = text.length + 16 := by
  unfold sealB
  split
  · exact noiseL_length _ _ (by omega)
  · exact sealL_length _ _ _ _ _ (kys_length key hk)
theorem sealSr_ideal (S : Sr) (a b c d : List UInt8) : (sealSr S a b c d).ideal = S.ideal := by unfold sealSr noted; split <;> rfl
theorem sealSr_book (S : Sr) (a b c d : List UInt8) : (sealSr S a b c d).book = S.book ++ [⟨a, b, c, d, sealB S a b c d⟩] := by unfold sealSr noted; split <;> rfl
theorem sealSr_count (S : Sr) (a b c d : List UInt8) : (sealSr S a b c d).count ≤ S.count + 1 := by unfold sealSr noted; split <;> simp
theorem sealSr_kids (S : Sr) (a b c d : List UInt8) : (sealSr S a b c d).kids = S.kids := by unfold sealSr noted; split <;> rfl
theorem sealSr_forged (S : Sr) (a b c d : List UInt8) : (sealSr S a b c d).forged = S.forged := by unfold sealSr noted; split <;> rfl
section
variable {W w : World} {g : Nat} {F : Nat → Prop} {S : Sr} {kv nv bv tv sv : Value} {key nonce beside text sealed : List UInt8}
theorem aSeal (h : Sl1 W w g F S) (hk : Bs w Any kv key) (hn : Bs w Any nv nonce) (hb : Bs w Any bv beside) (ht : Bs w Any tv text) (hkl : key.length = 32) (hnl : nonce.length = 12) (hbl : beside.length ≤ 100000) (htl : text.length ≤ 80000) (hbk : S.book.length ≤ 100000) (hc : S.count ≤ 100000) :
    Calls Try.prog 35 #[sp g, kv, nv, bv, tv] w fun x w' => ∃ A c F', x = .returned (.tuple #[.slice A (text.length + 16) c, .int .i64 0]) ∧ By w' (.slice A (text.length + 16) c) (sealB S key nonce beside text) ∧ Slr w' g F' (sealSr S key nonce beside text) ∧ Ext F w w' ∧ ∀ b, F' b → F b ∨ w.heap.size ≤ b := by
  have hl := sealB_length S key nonce beside text hkl
  cases hi : S.ideal with
  | true =>
    refine (sSeal_i g F S kv nv bv tv key nonce beside text w h.s hi hk hn hb ht hkl hnl (by omega) (by omega) (by omega) (by omega)).mono ?_
    rintro x w' ⟨r, F', rfl, ho, hs, hx, hF⟩
    have e1 : sealB S key nonce beside text = noiseL (S.count + 1) (text.length + 16) := by unfold sealB; rw [if_pos hi]
    have e2 : sealSr S key nonce beside text = noted { S with count := S.count + 1 } ⟨key, nonce, beside, text, noiseL (S.count + 1) (text.length + 16)⟩ := by unfold sealSr; rw [if_pos hi, e1]
    rw [e1] at hl
    obtain ⟨A, c, rfl, hb⟩ := own_len' ho hl
    exact ⟨A, c, F', rfl, by rw [e1]; exact hb, by rw [e2]; exact hs, hx, hF⟩
  | false =>
    refine (sSeal_r g F S kv nv bv tv key nonce beside text w h.s hi hk hn hb ht hkl hnl (by omega) (by omega) (by omega)).mono ?_
    rintro x w' ⟨r, F', rfl, ho, hs, hx, hF⟩
    have e1 : sealB S key nonce beside text = sealL (kys key) nonce (hOf16 (kys key)) beside text := by unfold sealB; rw [if_neg (by rw [hi]; decide)]
    have e2 : sealSr S key nonce beside text = noted S ⟨key, nonce, beside, text, sealL (kys key) nonce (hOf16 (kys key)) beside text⟩ := by unfold sealSr; rw [if_neg (by rw [hi]; decide), e1]
    rw [e1] at hl
    obtain ⟨A, c, rfl, hb⟩ := own_len' ho hl
    exact ⟨A, c, F', rfl, by rw [e1]; exact hb, by rw [e2]; exact hs, hx, hF⟩
/-- What was sealed opens: the first entry of its place that fits. -/
theorem aOpen_back (h : Sl1 W w g F S) (hk : Bs w Any kv key) (hn : Bs w Any nv nonce) (hb : Bs w Any bv beside) (hs : Bs w Any sv sealed) (hkl : key.length = 32) (hnl : nonce.length = 12) (hbl : beside.length ≤ 100000) (htl : text.length ≤ 80000) (hbk : S.book.length ≤ 100000) (htx : ∀ e ∈ S.book, e.text.length ≤ 100000)
    (hkn : knownE S.book key nonce beside sealed = some text) (hse : S.ideal = false → sealed = sealL (kys key) nonce (hOf16 (kys key)) beside text) (hsl : sealed.length = text.length + 16) :
    Calls Try.prog 37 #[sp g, kv, nv, bv, sv] w fun x w' => ∃ A c, x = .returned (.tuple #[.slice A text.length c, .int .i64 0]) ∧ By w' (.slice A text.length c) text ∧ Sl1 W w' g F S ∧ Ext F w w' := by
  cases hi : S.ideal with
  | true =>
    refine (sOpen_i g F S kv nv bv sv key nonce beside sealed w h.s hi hk hn hb hs hkl hnl (by omega) (fun e he => Nat.le_trans (htx e he) (by decide)) (some text) hkn).mono ?_
    rintro x w' ⟨r, rfl, ho, hx⟩
    obtain ⟨A, c, rfl, hb⟩ := own_len' (n := text.length) ho rfl
    exact ⟨A, c, rfl, hb, h.no hx, hx.no⟩
  | false =>
    have hkk := kys_length key hkl
    have hl := strm_length (kys key) nonce text hkk
    have e16 : sealed.length - 16 = text.length := by omega
    have e1 : sealed.take text.length = strm (kys key) nonce text := by rw [hse hi]; unfold sealL; rw [List.take_left' hl]
    have e2 : sealed.drop text.length = tagL (kys key) nonce (hOf16 (kys key)) beside (strm (kys key) nonce text) := by rw [hse hi]; unfold sealL; rw [List.drop_left' hl]
    refine (sOpen_r g F S kv nv bv sv key nonce beside sealed w h.s hi hk hn hb hs hkl hnl (by omega) (by omega) (by omega) (by omega) (fun e he => Nat.le_trans (htx e he) (by decide)) (some text) hkn true (by rw [e16, e1, e2]; exact decide_eq_true rfl)).mono ?_
    rintro x w' ⟨r, rfl, ho, hs', hx⟩
    rw [if_pos rfl, e16, e1, strm_twice _ _ _ hkk] at ho
    obtain ⟨A, c, rfl, hb⟩ := own_len' (n := text.length) ho rfl
    have e0 : ({ S with forged := S.forged || (true && !(some text).isSome) } : Sr) = S := by simp
    rw [e0] at hs'
    have hx' := hx.mono (S' := F) (fun i _ e => by have e : i = g := e; rw [e]; exact h.s.at_)
    exact ⟨A, c, rfl, hb, h.step hs' hx' (fun _ h => .inl h), hx'⟩
end
end Go.Proofs.Ytmbbkkonmkbnoaa
namespace Go.Proofs.Ytmbbkkonmkbnoaa
open Go.RowKit Go.Deep
/-- A value, with a note whether it was made yet. -/
def fs : Value → Value
  | .tuple a => a.getD 0 undef
  | v => v
def sn : Value → Value
  | .tuple a => a.getD 1 undef
  | v => v
theorem sn_mk (a b : Value) : sn (.tuple #[a, b]) = b := rfl
/-- What bytes' facts are kept by: blocks of bytes, and of rows of one, are not written. -/
structure Kp (T : Nat → Prop) (w w' : World) : Prop where
  x : Ext T w w'
  u : ∀ b, U8 w b → ¬ T b
  r : ∀ b cs, Blk w b 22 cs → ¬ T b
section
variable {T F F' : Nat → Prop} {W w w' : World} {g : Nat} {S S' : Sr} {EX : World → Prop} {v : Value}
theorem Kp.no (hx : Ext No w w') : Kp No w w' := ⟨hx, fun _ _ h => h, fun _ _ _ h => h⟩
theorem Sl1.kp (h : Sl1 W w g F S) (hx : Ext F w w') : Kp F w w' := ⟨hx, fun b hb => h.s.u8 hb, fun b cs hb => h.s.far hb⟩
structure GQ (W : World) (g : Nat) (F : Nat → Prop) (S S' : Sr) (EX : World → Prop) (v : Value) (w : World) : Prop where
  x : Ext No W w
  old : fs v = .bool false → Sl1 W w g F S
  new_ : fs v = .bool true → ∃ F', Sl1 W w g F' S'
  ex : EX w
theorem GQ.no (h : GQ W g F S S' EX v w) (hx : Ext No w w') (hE : ∀ T a b, Kp T a b → EX a → EX b) : GQ W g F S S' EX v w' :=
  ⟨h.x.trans hx, fun e => (h.old e).no hx, fun e => let ⟨F', a⟩ := h.new_ e; ⟨F', a.no hx⟩, hE _ _ _ (Kp.no hx) h.ex⟩
theorem GQ.start (h : Sl1 W w g F S) (he : EX w.drew) (u : Value) : GQ W g F S S' EX (.tuple #[.bool false, u]) w.drew :=
  ⟨h.x.drew, fun _ => h.no (Ext.refl No w).drew, fun e => (by simp [fs] at e), he⟩
theorem GQ.done (h : GQ W g F S S' EX v w) (hv : fs v = .bool false) (s : Slr w' g F' S') (hx : Ext F w w') (hF : ∀ b, F' b → F b ∨ w.heap.size ≤ b) (hE : ∀ T a b, Kp T a b → EX a → EX b) (r : Value) : GQ W g F S S' EX (.tuple #[.bool true, r]) w' ∧ Kp F w w' :=
  have a := h.old hv
  have b := a.step s hx hF
  ⟨⟨b.x, fun e => (by simp [fs] at e), fun _ => ⟨F', b⟩, hE _ _ _ (a.kp hx) h.ex⟩, a.kp hx⟩
/-- Bytes of so many; a row of one; an answer. -/
def PB (n : Nat) (l : List UInt8) (v : Value) (w : World) : Prop := ∃ A c, v = .slice A n c ∧ By w (.slice A n c) l
def PR (x : Value) (v : Value) (w : World) : Prop := ∃ b, v = .slice (some ⟨b, 0, none⟩) 1 1 ∧ Blk w b 22 #[x]
def PT (n : Nat) (l : List UInt8) (k : Int) (v : Value) (w : World) : Prop := ∃ A c, v = .tuple #[.slice A n c, .int .i64 k] ∧ By w (.slice A n c) l
theorem PB.kp {n : Nat} {l : List UInt8} (h : PB n l v w) (k : Kp T w w') : PB n l v w' := let ⟨A, c, e, hb⟩ := h; ⟨A, c, e, hb.ext k.x k.u⟩
theorem PT.kp {n : Nat} {l : List UInt8} {c : Int} (h : PT n l c v w) (k : Kp T w w') : PT n l c v w' := let ⟨A, c, e, hb⟩ := h; ⟨A, c, e, hb.ext k.x k.u⟩
theorem PR.kp {x : Value} (h : PR x v w) (k : Kp T w w') : PR x v w' := let ⟨b, e, hb⟩ := h; ⟨b, e, hb.ext k.x (k.r _ _ hb)⟩
theorem By.kp {l : List UInt8} (h : By w v l) (k : Kp T w w') : By w' v l := h.ext k.x k.u
end
theorem pb_own {w : World} {base n : Nat} {r : Value} {l : List UInt8} (h : Own w base r l) (hn : l.length = n) : PB n l r w := let ⟨A, c, e, hb⟩ := own_len' h hn; ⟨A, c, e, e ▸ hb⟩
theorem lKey4' (n : Int) (h0 : 0 ≤ n) (h1 : n ≤ 255) (w : World) : Calls Try.prog 36 #[.int .u8 n] w fun e w' => ∃ r, e = .returned r ∧ PB 32 (key4 n.toNat) r w' ∧ Ext No w w' := by
  obtain ⟨m, rfl⟩ : ∃ m : Nat, n = (m : Int) := ⟨n.toNat, by omega⟩
  exact (lKey4 m (by omega) w).mono (by rintro e w' ⟨r, rfl, ho, hx⟩; exact ⟨r, rfl, pb_own ho (key4_length _), hx⟩)
theorem lNonce1' (n : Int) (h0 : 0 ≤ n) (h1 : n ≤ 255) (w : World) : Calls Try.prog 34 #[.int .u64 n, .int .u32 1] w fun e w' => ∃ r, e = .returned r ∧ PB 12 (nonceL n.toNat 1) r w' ∧ Ext No w w' := by
  obtain ⟨m, rfl⟩ : ∃ m : Nat, n = (m : Int) := ⟨n.toNat, by omega⟩
  exact (sNonce_any m 1 w (by omega) (by decide)).mono (by rintro e w' ⟨r, rfl, ho, hx⟩; exact ⟨r, rfl, pb_own ho (nonceL_length _ _), hx⟩)
theorem lNonce9' (n : Int) (h0 : 0 ≤ n) (h1 : n ≤ 255) (w : World) : Calls Try.prog 34 #[.int .u64 9, .int .u32 n] w fun e w' => ∃ r, e = .returned r ∧ PB 12 (nonceL 9 n.toNat) r w' ∧ Ext No w w' := by
  obtain ⟨m, rfl⟩ : ∃ m : Nat, n = (m : Int) := ⟨n.toNat, by omega⟩
  exact (sNonce_any 9 m w (by decide) (by omega)).mono (by rintro e w' ⟨r, rfl, ho, hx⟩; exact ⟨r, rfl, pb_own ho (nonceL_length _ _), hx⟩)
theorem aSealL {W w : World} {g : Nat} {F : Nat → Prop} {S : Sr} {kv nv bv tv : Value} {key nonce beside text : List UInt8} {L : Nat} (hL : text.length + 16 = L) (h : Sl1 W w g F S) (hk : Bs w Any kv key) (hn : Bs w Any nv nonce) (hb : Bs w Any bv beside) (ht : Bs w Any tv text) (hkl : key.length = 32) (hnl : nonce.length = 12) (hbl : beside.length ≤ 100000) (htl : text.length ≤ 80000) (hbk : S.book.length ≤ 100000) (hc : S.count ≤ 100000) :
    Calls Try.prog 35 #[sp g, kv, nv, bv, tv] w fun x w' => ∃ A c F', x = .returned (.tuple #[.slice A L c, .int .i64 0]) ∧ By w' (.slice A L c) (sealB S key nonce beside text) ∧ Slr w' g F' (sealSr S key nonce beside text) ∧ Ext F w w' ∧ ∀ b, F' b → F b ∨ w.heap.size ≤ b := by
  subst hL
  exact aSeal h hk hn hb ht hkl hnl hbl htl hbk hc
theorem rSame_q (v1 v2 : Value) (l1 l2 : List UInt8) (q : Bool) (hq : decide (l1 = l2) = q) (w : World) (h1 : Bs w Any v1 l1) (h2 : Bs w Any v2 l2) :
    Calls Try.prog 25 #[v1, v2] w fun e w' => e = .returned (.bool q) ∧ Ext No w w' :=
  (rSame_any v1 v2 l1 l2 w h1 h2).mono (by rintro e w' ⟨rfl, n, rfl⟩; exact ⟨by rw [hq], (Ext.refl No w).drewN n⟩)
/-- A book whose first entry is known. -/
structure BkI (i : Bool) (e0 : En) (k : Nat) (S : Sr) : Prop where
  i : S.ideal = i
  b : ∃ r, S.book = e0 :: r ∧ r.length = k ∧ ∀ e ∈ r, e.text.length ≤ 100000
  c : S.count ≤ k + 1
theorem BkI.len {i : Bool} {e0 : En} {k : Nat} {S : Sr} (h : BkI i e0 k S) : S.book.length = k + 1 := by obtain ⟨r, e, hl, _⟩ := h.b; rw [e, List.length_cons, hl]
theorem BkI.step {i : Bool} {e0 : En} {k : Nat} {S : Sr} (h : BkI i e0 k S) (a b c d : List UInt8) (hd : d.length ≤ 100000) : BkI i e0 (k + 1) (sealSr S a b c d) := by
  obtain ⟨r, e, hl, ht⟩ := h.b
  refine ⟨by rw [sealSr_ideal]; exact h.i, ⟨r ++ [⟨a, b, c, d, sealB S a b c d⟩], by rw [sealSr_book, e]; rfl, by simp [hl], fun x hx => ?_⟩, Nat.le_trans (sealSr_count S a b c d) (by have := h.c; omega)⟩
  rcases List.mem_append.1 hx with hx | hx
  · exact ht x hx
  · rw [List.mem_singleton.1 hx]; exact hd
theorem BkI.known {i : Bool} {e0 : En} {k : Nat} {S : Sr} (h : BkI i e0 k S) : knownE S.book e0.key e0.nonce e0.beside e0.sealed = some e0.text := by
  obtain ⟨r, e, _, _⟩ := h.b
  unfold knownE placesE
  rw [e, List.filter_cons_of_pos (by simp), List.find?_cons_of_pos (by simp [hitE])]
  rfl
theorem BkI.texts {i : Bool} {e0 : En} {k : Nat} {S : Sr} (h : BkI i e0 k S) (h0 : e0.text.length ≤ 100000) : ∀ e ∈ S.book, e.text.length ≤ 100000 := by
  obtain ⟨r, e, _, ht⟩ := h.b
  intro x hx
  rw [e] at hx
  rcases List.mem_cons.1 hx with rfl | hx
  · exact h0
  · exact ht x hx
end Go.Proofs.Ytmbbkkonmkbnoaa
namespace Go.Proofs.Ytmbbkkonmkbnoaa
open Go.RowKit Go.Deep Ae Fm
def abc : List UInt8 := [97, 98, 99]
def CT12 : List UInt8 := sealL (kys (key4 1)) (nonceL 1 2) (hOf16 (kys (key4 1))) [] abc
def e12 : En := ⟨key4 1, nonceL 1 2, [120], abc, noiseL 1 19⟩
def S12 : Sr := ⟨true, [e12], [], 1, false, false⟩
def r12 : En := ⟨key4 1, nonceL 1 2, [], abc, CT12⟩
def R12 : Sr := ⟨false, [r12], [], 0, false, false⟩
theorem noted_new (S : Sr) (e : En) (h : S.book = []) (hr : S.reused = false) : noted S e = ⟨S.ideal, [e], S.kids, S.count, false, S.forged⟩ := by
  unfold noted placesE; rw [h, hr]; rfl
theorem known_one (e : En) (k n b s : List UInt8) (he : e.key.length = 32) (hk : k.length = 32) : knownE [e] k n b s = if e.key = k ∧ e.nonce = n ∧ e.beside = b ∧ e.sealed = s then some e.text else none := by
  rw [knownE_all (fun x hx => by rw [List.mem_singleton.1 hx]; exact he) hk]
  by_cases h : e.key = k ∧ e.nonce = n ∧ e.beside = b ∧ e.sealed = s
  · rw [if_pos h]; obtain ⟨h1, h2, h3, h4⟩ := h; simp [h1, h2, h3, h4]
  · rw [if_neg h]
    simp only [List.find?_cons, List.find?_nil]
    have : (decide (e.key = k) && decide (e.nonce = n) && decide (e.beside = b) && decide (e.sealed = s)) = false := by
      rw [Bool.eq_false_iff]; intro hh; apply h; simpa [and_assoc] using hh
    rw [this]; rfl
theorem nonce_ne : nonceL 1 2 ≠ nonceL 1 3 := by decide
theorem own_len {w : World} {base n : Nat} {v : Value} {l : List UInt8} (h : Own w base v l) (hn : l.length = n) : ∃ A c, v = .slice A n c ∧ By w (.slice A n c) l := by
  obtain ⟨A, c, rfl, _⟩ := h.slice
  have hb := By.of_own h
  rw [hn] at hb
  exact ⟨A, c, by rw [hn], hb⟩
section
variable {W w : World} {gs gr : Nat} {Fs Fr : Nat → Prop} {R : Sr} {kv nv bv tv sv : Value}
theorem w12a (t : Two2 W w gs Fs (Sr.new true) gr Fr R) (hk : Bs w Any kv (key4 1)) (hn : Bs w Any nv (nonceL 1 2)) (hb : Bs w Any bv [120]) (ht : Bs w Any tv abc) :
    Calls Try.prog 35 #[sp gs, kv, nv, bv, tv] w fun x w' => ∃ A c F', x = .returned (.tuple #[.slice A 19 c, .int .i64 0]) ∧ By w' (.slice A 19 c) (noiseL 1 19) ∧ Two2 W w' gs F' S12 gr Fr R :=
  (sSeal_i gs Fs (Sr.new true) kv nv bv tv (key4 1) (nonceL 1 2) [120] abc w t.a.s rfl hk hn hb ht (key4_length 1) (nonceL_length 1 2) (by decide) (by decide) (by decide) (by decide)).mono (by
    rintro x w' ⟨r, F', rfl, ho, hs, hx, hn⟩
    obtain ⟨A, c, rfl, hb⟩ := own_len (n := 19) ho (noiseL_length _ _ (by decide))
    rw [noted_new _ _ rfl rfl] at hs
    exact ⟨A, c, F', rfl, hb, t.left hs hx hn⟩)
theorem w12b (t : Two2 W w gs Fs S12 gr Fr R) (hk : Bs w Any kv (key4 1)) (hn : Bs w Any nv (nonceL 1 2)) (hb : Bs w Any bv [120]) (hs : Bs w Any sv (noiseL 1 19)) :
    Calls Try.prog 37 #[sp gs, kv, nv, bv, sv] w fun x w' => ∃ A c, x = .returned (.tuple #[.slice A 3 c, .int .i64 0]) ∧ By w' (.slice A 3 c) abc ∧ Ext No w w' :=
  (sOpen_i gs Fs S12 kv nv bv sv (key4 1) (nonceL 1 2) [120] (noiseL 1 19) w t.a.s rfl hk hn hb hs (key4_length 1) (nonceL_length 1 2) (by decide) (fun e he => by rw [List.mem_singleton.1 he]; decide) (some abc)
    (by show knownE [e12] _ _ _ _ = _; rw [known_one _ _ _ _ _ (key4_length 1) (key4_length 1)]; exact if_pos ⟨rfl, rfl, rfl, rfl⟩)).mono (by
    rintro x w' ⟨r, rfl, ho, hx⟩
    obtain ⟨A, c, rfl, hb⟩ := own_len (n := 3) ho rfl
    exact ⟨A, c, rfl, hb, hx⟩)
theorem w12c (t : Two2 W w gs Fs S12 gr Fr R) (hk : Bs w Any kv (key4 1)) (hn : Bs w Any nv (nonceL 1 3)) (hb : Bs w Any bv [120]) (hs : Bs w Any sv (noiseL 1 19)) :
    Calls Try.prog 37 #[sp gs, kv, nv, bv, sv] w fun x w' => ∃ A n c, x = .returned (.tuple #[.slice A n c, .int .i64 6]) ∧ Ext No w w' :=
  (sOpen_i gs Fs S12 kv nv bv sv (key4 1) (nonceL 1 3) [120] (noiseL 1 19) w t.a.s rfl hk hn hb hs (key4_length 1) (nonceL_length 1 3) (by decide) (fun e he => by rw [List.mem_singleton.1 he]; decide) none
    (by show knownE [e12] _ _ _ _ = _; rw [known_one _ _ _ _ _ (key4_length 1) (key4_length 1)]; exact if_neg (fun h => nonce_ne h.2.1))).mono (by
    rintro x w' ⟨r, rfl, ho, hx⟩
    obtain ⟨A, c, rfl, _⟩ := ho.slice
    exact ⟨A, _, c, rfl, hx⟩)
theorem w12d (t : Two2 W w gs Fs R gr Fr (Sr.new false)) (hk : Bs w Any kv (key4 1)) (hn : Bs w Any nv (nonceL 1 2)) (ht : Bs w Any tv abc) :
    Calls Try.prog 35 #[sp gr, kv, nv, .slice none 0 0, tv] w fun x w' => ∃ A c F', x = .returned (.tuple #[.slice A 19 c, .int .i64 0]) ∧ By w' (.slice A 19 c) CT12 ∧ Two2 W w' gs Fs R gr F' R12 ∧ Ext Fr w w' :=
  (sSeal_r gr Fr (Sr.new false) kv nv (.slice none 0 0) tv (key4 1) (nonceL 1 2) [] abc w t.b.s rfl hk hn (Bs.nil _ _) ht (key4_length 1) (nonceL_length 1 2) (by decide) (by decide) (by decide)).mono (by
    rintro x w' ⟨r, F', rfl, ho, hs, hx, hn⟩
    obtain ⟨A, c, rfl, hb⟩ := own_len (n := 19) ho (sealL_length _ _ _ _ _ (kys_length _ (key4_length 1)))
    rw [noted_new _ _ rfl rfl] at hs
    exact ⟨A, c, F', rfl, hb, t.right hs hx hn, hx⟩)
theorem ct_len : CT12.length = 19 := sealL_length _ _ _ _ _ (kys_length _ (key4_length 1))
theorem w12e (t : Two2 W w gs Fs R gr Fr R12) (hk : Bs w Any kv (key4 1)) (hn : Bs w Any nv (nonceL 1 2)) (hs : Bs w Any sv CT12) :
    Calls Try.prog 37 #[sp gr, kv, nv, .slice none 0 0, sv] w fun x w' => ∃ A c, x = .returned (.tuple #[.slice A 3 c, .int .i64 0]) ∧ By w' (.slice A 3 c) abc ∧ Two2 W w' gs Fs R gr Fr R12 ∧ Ext (One gr) w w' := by
  have hkk := kys_length _ (key4_length 1)
  have hl : (strm (kys (key4 1)) (nonceL 1 2) abc).length = 3 := strm_length (kys (key4 1)) (nonceL 1 2) abc hkk
  have e16 : CT12.length - 16 = 3 := by rw [ct_len]
  have e1 : CT12.take 3 = strm (kys (key4 1)) (nonceL 1 2) abc := by unfold CT12 sealL; rw [List.take_left' hl]
  have e2 : CT12.drop 3 = tagL (kys (key4 1)) (nonceL 1 2) (hOf16 (kys (key4 1))) [] (strm (kys (key4 1)) (nonceL 1 2) abc) := by unfold CT12 sealL; rw [List.drop_left' hl]
  refine (sOpen_r gr Fr R12 kv nv (.slice none 0 0) sv (key4 1) (nonceL 1 2) [] CT12 w t.b.s rfl hk hn (Bs.nil _ _) hs (key4_length 1) (nonceL_length 1 2) (by decide) (by rw [ct_len]; decide) (by rw [ct_len]; decide) (by decide) (fun e he => by rw [List.mem_singleton.1 he]; decide) (some abc)
    (by show knownE [r12] _ _ _ _ = _; rw [known_one _ _ _ _ _ (key4_length 1) (key4_length 1)]; exact if_pos ⟨rfl, rfl, rfl, rfl⟩) true (by rw [e16, e1, e2]; exact decide_eq_true rfl)).mono ?_
  rintro x w' ⟨r, rfl, ho, hs', hx⟩
  rw [if_pos rfl, e16, e1, strm_twice _ _ _ hkk] at ho
  obtain ⟨A, c, rfl, hb⟩ := own_len (n := 3) ho rfl
  exact ⟨A, c, rfl, hb, t.right hs' (hx.mono fun i _ e => by have e : i = gr := e; rw [e]; exact t.b.s.at_) (fun _ h => .inl h), hx⟩
theorem w12f (t : Two2 W w gs Fs S12 gr Fr R) (hk : Bs w Any kv (key4 1)) (hp : Parts w Any nv [[112]]) :
    Calls Try.prog 40 #[sp gs, kv, nv] w fun x w' => ∃ A c F' S', x = .returned (.slice A 32 c) ∧ S'.ideal = true ∧ S'.book = [e12] ∧ Two2 W w' gs F' S' gr Fr R :=
  (sDerive_i gs Fs S12 kv nv (key4 1) [[112]] w t.a.s rfl hk hp (by rw [key4_length]; decide) (by decide) (by decide) (fun c hc => by cases hc) (by decide)).mono (by
    rintro x w' ⟨r, F', rfl, ho, hs, hx, hn⟩
    obtain ⟨A, c, rfl, _⟩ := own_len (n := 32) ho (noiseL_length _ _ (by decide))
    exact ⟨A, c, F', _, rfl, rfl, rfl, t.left hs hx hn⟩)
end
theorem lit120 (w : World) {g : Nat} (hg : g = w.heap.size) : Bs (strLit w #[.int .u8 120]) Any (.slice (some ⟨g, 0, none⟩) 1 1) [120] := (bs_strLit w [120] (by unfold maxLen; decide) hg).any
theorem lit112 (w : World) {g : Nat} (hg : g = w.heap.size) : Bs (strLit w #[.int .u8 112]) Any (.slice (some ⟨g, 0, none⟩) 1 1) [112] := (bs_strLit w [112] (by unfold maxLen; decide) hg).any
theorem lit97 (w : World) {g : Nat} (hg : g = w.heap.size) : Bs (strLit w #[.int .u8 97, .int .u8 98, .int .u8 99]) Any (.slice (some ⟨g, 0, none⟩) 3 3) abc := (bs_strLit w [97, 98, 99] (by unfold maxLen; decide) hg).any
theorem w12str {w : World} {A : Option Addr} {c : Nat} (h : By w (.slice A 3 c) abc) : (convert 22 9 (.slice A 3 c)).run Try.prog w = .ok (.string ⟨#[97, 98, 99]⟩) w := conv_bs h
set_option maxRecDepth 100000 in
set_option maxHeartbeats 8000000 in
theorem lWorks12 (w : World) : Calls Try.prog 33 #[] w fun e w' => e = .returned (.bool true) ∧ Ext No w w' := by
  have hcx := run_conv_new #[.int .u8 120] 1 1
  have hca := run_conv_new #[.int .u8 97, .int .u8 98, .int .u8 99] 3 3
  have hcp := run_conv_new #[.int .u8 112] 1 1
  go_enter Try.func33, Try.ntmps33
  go_wp2_with (first
    | (go_at_call 16; (with_reducible refine (sNew_any true _).mono ?_); rintro e_ w1 ⟨gs, Fs, rfl, hs, hx, hn⟩; have T1_w1 := Lib.hid (Sl1.new hs (Ext.refl No w) hx hn); clear hs hx hn)
    | (go_at_call 16; (with_reducible refine (sNew_any false _).mono ?_); rintro e_ w2 ⟨gr, Fr, rfl, hs, hx, hn⟩; have T_w2 := Lib.hid (Two2.new T1_w1.out hs hx hn); clear hs hx hn)
    | (go_at_call 36; (with_reducible refine (lKey1 _).mono ?_); rintro e_ w3 ⟨kv, rfl, ho, hx⟩; have T_w3 := Lib.hid (T_w2.out.no hx); obtain ⟨Ak, ck, rfl, -⟩ := ho.slice; have K_w3 := Lib.hid (By.of_own ho); clear ho; clear hx)
    | (go_at_call 34; (with_reducible refine (lNonce12 _).mono ?_); rintro e_ w4 ⟨nv, rfl, ho, hx⟩; have T_w4 := Lib.hid (T_w3.out.no hx); have K_w4 := Lib.hid (K_w3.out.ext_no hx); obtain ⟨An, cn, rfl, -⟩ := ho.slice; have N_w4 := Lib.hid (By.of_own ho); clear ho; clear hx)
    | (go_at_call 35; (with_reducible refine (w12a (T_w4.out.no (((Ext.refl No w4).strLit #[.int .u8 120]).strLit #[.int .u8 97, .int .u8 98, .int .u8 99])) (K_w4.out.any.ext_no (((Ext.refl No w4).strLit #[.int .u8 120]).strLit #[.int .u8 97, .int .u8 98, .int .u8 99])) (N_w4.out.any.ext_no (((Ext.refl No w4).strLit #[.int .u8 120]).strLit #[.int .u8 97, .int .u8 98, .int .u8 99])) ((lit120 w4 rfl).ext_no ((Ext.refl No _).strLit #[.int .u8 97, .int .u8 98, .int .u8 99])) ((lit97 (strLit w4 #[.int .u8 120]) (size_strLit _ _).symm).ext_no (Ext.refl No _))).mono ?_); rintro e_ w5 ⟨Aa, ca, F1, rfl, hb, ht⟩; have T_w5 := Lib.hid ht; have a_w5 := Lib.hid hb; clear ht hb)
    | (go_at_call 36; (with_reducible refine (lKey1 _).mono ?_); rintro e_ w6 ⟨kv, rfl, ho, hx⟩; have T_w6 := Lib.hid (T_w5.out.no hx); have a_w6 := Lib.hid (a_w5.out.ext_no hx); obtain ⟨Ak, ck, rfl, -⟩ := ho.slice; have K_w6 := Lib.hid (By.of_own ho); clear ho; clear hx)
    | (go_at_call 34; (with_reducible refine (lNonce12 _).mono ?_); rintro e_ w7 ⟨nv, rfl, ho, hx⟩; have T_w7 := Lib.hid (T_w6.out.no hx); have a_w7 := Lib.hid (a_w6.out.ext_no hx); have K_w7 := Lib.hid (K_w6.out.ext_no hx); obtain ⟨An, cn, rfl, -⟩ := ho.slice; have N_w7 := Lib.hid (By.of_own ho); clear ho; clear hx)
    | (go_at_call 37; (with_reducible refine (w12b (T_w7.out.no ((Ext.refl No w7).strLit #[.int .u8 120])) (K_w7.out.any.ext_no ((Ext.refl No w7).strLit #[.int .u8 120])) (N_w7.out.any.ext_no ((Ext.refl No w7).strLit #[.int .u8 120])) ((lit120 w7 rfl).ext_no (Ext.refl No _)) (a_w7.out.any.ext_no ((Ext.refl No w7).strLit #[.int .u8 120]))).mono ?_); rintro e_ w8 ⟨Ab, cb, rfl, hb, hx⟩; have T_w8 := Lib.hid (T_w7.out.no (((Ext.refl No w7).strLit #[.int .u8 120]).trans hx)); have a_w8 := Lib.hid (a_w7.out.ext_no (((Ext.refl No w7).strLit #[.int .u8 120]).trans hx)); have b_w8 := Lib.hid hb; clear hb hx)
    | (go_at_call 36; (with_reducible refine (lKey1 _).mono ?_); rintro e_ w9 ⟨kv, rfl, ho, hx⟩; have T_w9 := Lib.hid (T_w8.out.no hx); have a_w9 := Lib.hid (a_w8.out.ext_no hx); have b_w9 := Lib.hid (b_w8.out.ext_no hx); obtain ⟨Ak, ck, rfl, -⟩ := ho.slice; have K_w9 := Lib.hid (By.of_own ho); clear ho; clear hx)
    | (go_at_call 34; (with_reducible refine (lNonce13 _).mono ?_); rintro e_ w10 ⟨nv, rfl, ho, hx⟩; have T_w10 := Lib.hid (T_w9.out.no hx); have a_w10 := Lib.hid (a_w9.out.ext_no hx); have b_w10 := Lib.hid (b_w9.out.ext_no hx); have K_w10 := Lib.hid (K_w9.out.ext_no hx); obtain ⟨An, cn, rfl, -⟩ := ho.slice; have N_w10 := Lib.hid (By.of_own ho); clear ho; clear hx)
    | (go_at_call 37; (with_reducible refine (w12c (T_w10.out.no ((Ext.refl No w10).strLit #[.int .u8 120])) (K_w10.out.any.ext_no ((Ext.refl No w10).strLit #[.int .u8 120])) (N_w10.out.any.ext_no ((Ext.refl No w10).strLit #[.int .u8 120])) ((lit120 w10 rfl).ext_no (Ext.refl No _)) (a_w10.out.any.ext_no ((Ext.refl No w10).strLit #[.int .u8 120]))).mono ?_); rintro e_ w11 ⟨Ac, nc, cc, rfl, hx⟩; have T_w11 := Lib.hid (T_w10.out.no (((Ext.refl No w10).strLit #[.int .u8 120]).trans hx)); have a_w11 := Lib.hid (a_w10.out.ext_no (((Ext.refl No w10).strLit #[.int .u8 120]).trans hx)); have b_w11 := Lib.hid (b_w10.out.ext_no (((Ext.refl No w10).strLit #[.int .u8 120]).trans hx)); clear hx)
    | (go_at_call 36; (with_reducible refine (lKey1 _).mono ?_); rintro e_ w12 ⟨kv, rfl, ho, hx⟩; have T_w12 := Lib.hid (T_w11.out.no hx); have a_w12 := Lib.hid (a_w11.out.ext_no hx); have b_w12 := Lib.hid (b_w11.out.ext_no hx); obtain ⟨Ak, ck, rfl, -⟩ := ho.slice; have K_w12 := Lib.hid (By.of_own ho); clear ho; clear hx)
    | (go_at_call 34; (with_reducible refine (lNonce12 _).mono ?_); rintro e_ w13 ⟨nv, rfl, ho, hx⟩; have T_w13 := Lib.hid (T_w12.out.no hx); have a_w13 := Lib.hid (a_w12.out.ext_no hx); have b_w13 := Lib.hid (b_w12.out.ext_no hx); have K_w13 := Lib.hid (K_w12.out.ext_no hx); obtain ⟨An, cn, rfl, -⟩ := ho.slice; have N_w13 := Lib.hid (By.of_own ho); clear ho; clear hx)
    | (go_at_call 35; (with_reducible refine (w12d (T_w13.out.no ((Ext.refl No w13).strLit #[.int .u8 97, .int .u8 98, .int .u8 99])) (K_w13.out.any.ext_no ((Ext.refl No w13).strLit #[.int .u8 97, .int .u8 98, .int .u8 99])) (N_w13.out.any.ext_no ((Ext.refl No w13).strLit #[.int .u8 97, .int .u8 98, .int .u8 99])) ((lit97 w13 rfl).ext_no (Ext.refl No _))).mono ?_); rintro e_ w14 ⟨Ad, cd, F2, rfl, hb, ht, hx⟩; have a_w14 := Lib.hid ((T_w13.out.no ((Ext.refl No w13).strLit #[.int .u8 97, .int .u8 98, .int .u8 99])).b.by_ hx (a_w13.out.ext_no ((Ext.refl No w13).strLit #[.int .u8 97, .int .u8 98, .int .u8 99]))); have b_w14 := Lib.hid ((T_w13.out.no ((Ext.refl No w13).strLit #[.int .u8 97, .int .u8 98, .int .u8 99])).b.by_ hx (b_w13.out.ext_no ((Ext.refl No w13).strLit #[.int .u8 97, .int .u8 98, .int .u8 99]))); have T_w14 := Lib.hid ht; have c_w14 := Lib.hid hb; clear ht hb hx)
    | (go_at_call 36; (with_reducible refine (lKey1 _).mono ?_); rintro e_ w15 ⟨kv, rfl, ho, hx⟩; have T_w15 := Lib.hid (T_w14.out.no hx); have a_w15 := Lib.hid (a_w14.out.ext_no hx); have b_w15 := Lib.hid (b_w14.out.ext_no hx); have c_w15 := Lib.hid (c_w14.out.ext_no hx); obtain ⟨Ak, ck, rfl, -⟩ := ho.slice; have K_w15 := Lib.hid (By.of_own ho); clear ho; clear hx)
    | (go_at_call 34; (with_reducible refine (lNonce12 _).mono ?_); rintro e_ w16 ⟨nv, rfl, ho, hx⟩; have T_w16 := Lib.hid (T_w15.out.no hx); have a_w16 := Lib.hid (a_w15.out.ext_no hx); have b_w16 := Lib.hid (b_w15.out.ext_no hx); have c_w16 := Lib.hid (c_w15.out.ext_no hx); have K_w16 := Lib.hid (K_w15.out.ext_no hx); obtain ⟨An, cn, rfl, -⟩ := ho.slice; have N_w16 := Lib.hid (By.of_own ho); clear ho; clear hx)
    | (go_at_call 37; (with_reducible refine (w12e T_w16.out K_w16.out.any N_w16.out.any c_w16.out.any).mono ?_); rintro e_ w17 ⟨Ae, ce, rfl, hb, ht, hx⟩; have hxf := hx.mono (S' := F2) (fun i _ e => by have e : i = gr := e; rw [e]; exact T_w16.out.b.s.at_); have a_w17 := Lib.hid (T_w16.out.b.by_ hxf a_w16.out); have b_w17 := Lib.hid (T_w16.out.b.by_ hxf b_w16.out); have c_w17 := Lib.hid (T_w16.out.b.by_ hxf c_w16.out); have T_w17 := Lib.hid ht; have hcb := w12str b_w17.out; have hcd := w12str hb; clear ht hb hx hxf)
    | (go_at_call 36; (with_reducible refine (lKey1 _).mono ?_); rintro e_ w18 ⟨kv, rfl, ho, hx⟩; have T_w18 := Lib.hid (T_w17.out.no hx); have a_w18 := Lib.hid (a_w17.out.ext_no hx); have b_w18 := Lib.hid (b_w17.out.ext_no hx); have c_w18 := Lib.hid (c_w17.out.ext_no hx); obtain ⟨Ak, ck, rfl, -⟩ := ho.slice; have K_w18 := Lib.hid (By.of_own ho); clear ho; clear hx)
    | (go_at_call 40; (with_reducible refine (w12f (T_w18.out.no (((Ext.refl No w18).strLit #[.int .u8 112]).alloc _)) (K_w18.out.any.ext_no (((Ext.refl No w18).strLit #[.int .u8 112]).alloc _)) (Parts.lit1 ((lit112 w18 rfl).ext_no (Ext.refl No _)) trivial (hg := (size_strLit _ _).symm))).mono ?_); rintro e_ w19 ⟨Af, cf, F3, S3, rfl, hi, hbk, ht⟩; have T_w19 := Lib.hid ht; have hbl : S3.book.length = 1 := (by rw [hbk]; rfl); have HI3 := Lib.hid hi; have HB3 := Lib.hid hbl; clear hi hbk ht hbl hcb hcd)
    | (go_at_call 73; (with_reducible refine (sIdeal_any T_w19.out.a.s).mono ?_); rintro e_ w_ ⟨rfl, rfl⟩; rw [HI3.out])
    | (go_at_call 74; (with_reducible refine (sReused_any T_w19.out.b.s).mono ?_); rintro e_ w_ ⟨rfl, rfl⟩; (try rw [show R12.reused = false from rfl]))
    | (go_at_call 75; (with_reducible refine (sForged_any T_w19.out.b.s).mono ?_); rintro e_ w_ ⟨rfl, rfl⟩; (try rw [show R12.forged = false from rfl]))
    | (go_at_call 76; (with_reducible refine (sSealed_any T_w19.out.a.s).mono ?_); rintro e_ w_ ⟨rfl, rfl⟩; rw [HB3.out]))
  go_ret
  exact ⟨rfl, T_w19.out.a.x⟩
end Go.Proofs.Ytmbbkkonmkbnoaa
