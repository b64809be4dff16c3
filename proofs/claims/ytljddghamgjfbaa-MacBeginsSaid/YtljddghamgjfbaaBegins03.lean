/- The laws of chapter 3: MacBegins. -/
import Derived.Test.YtljddghamgjfbaaLaw03
set_option linter.unusedVariables false
set_option linter.unusedSimpArgs false
namespace Go.Proofs.Ytljddghamgjfbaa
open Go.RowKit Go.Deep Go.Proofs.YtljddghamgjfbaaW.PrintWords Sh Rs

theorem mExpand_one (kv : Value) (key info : List UInt8) (iA : Option Addr) (ic p : Nat) (h : p ≤ 8160) (w : World) (hk : Bs w Any kv key) (hkb : key.length ≤ 1000000) (hi : Bs w Any (.slice iA info.length ic) info) (hib : info.length ≤ 900000) :
    Calls Try.prog 59 #[kv, .int .i64 (p : Int), .slice (some ⟨w.heap.size, 0, none⟩) 1 1] (w.alloc (.cells #[.slice iA info.length ic] 27)) fun e w' => ∃ A c, e = .returned (.slice A p c) ∧ Bs w' Any (.slice A p c) (expand key p info) ∧ Ext No w w' := by
  have hp := Parts.lit1 (g := w.heap.size) hi trivial rfl
  have hx1 := (Ext.refl No w).alloc (.cells #[.slice iA info.length ic] 27)
  have := mExpand_any kv _ (p : Int) key _ _ (hk.ext_no hx1) hkb hp (by simp) (by simp; omega)
  rw [show ([info] : List (List UInt8)).flatten = info by simp] at this
  refine this.mono ?_
  rintro e w' ⟨v', rfl, hb, hx⟩
  obtain ⟨A, c, rfl, -⟩ := hb.slice
  rw [expandI_len _ _ _ h] at hb ⊢
  refine ⟨A, c, rfl, ?_, hx1.trans hx⟩
  have he : expandI key (p : Int) info = expand key p info := by unfold expandI; rw [if_neg (by omega)]; rfl
  rwa [he] at hb
theorem slice_cap {w : World} {A : Option Addr} {p q c : Nat} {key info : List UInt8} (h : Bs w Any (.slice A (p + q) c) (expand key (p + q) info)) : p ≤ c := by
  obtain ⟨A', c', e, hc, -⟩ := h.slice
  injection e with e1 e2 e3
  rw [expand_len] at hc
  omega
theorem pre_take {w : World} {A : Option Addr} {p q c : Nat} {key info : List UInt8} (h : Bs w Any (.slice A (p + q) c) (expand key (p + q) info)) : Bs w Any (.slice A p c) (expand key p info) := by
  obtain ⟨h1, A', c', e, hc, hm, hn⟩ := h
  injection e with e1 e2 e3
  subst e1 e3
  rw [expand_len] at hc hn h1
  rw [← expand_take key info p (p + q) (by omega)]
  have hl : ((expand key (p + q) info).take p).length = p := by rw [List.length_take, expand_len]; omega
  refine ⟨by rw [u8s_length]; omega, A, c, by rw [hl], by omega, hm, fun h0 => ?_⟩
  rw [hl] at h0
  obtain ⟨b, off, hA, hF, hcell⟩ := hn (by omega)
  refine ⟨b, off, hA, hF, fun j u hu => hcell j u ?_⟩
  have hj := (List.getElem?_eq_some_iff.1 hu).1
  rw [u8s_length, hl] at hj
  unfold u8s at hu ⊢
  rwa [List.map_take, List.getElem?_take_of_lt hj] at hu
set_option maxRecDepth 100000 in
set_option maxHeartbeats 4000000 in
theorem begins03 (kv iv : Value) (key info : List UInt8) (p q : Nat) (w : World) (hk : Bs w Any kv key) (hi : Bs w Any iv info) (hp : p < 256) (hq : q < 256) :
    Calls Try.prog 16 #[kv, .int .u8 (p : Int), .int .u8 (q : Int), iv] w fun e' w' => e' = .returned (.bool true) ∧ Ext No w w' := by
  obtain ⟨kA, kc, rfl, -⟩ := hk.slice
  obtain ⟨iA, ic, rfl, -⟩ := hi.slice
  by_cases h1 : 300 < key.length
  · go_enter Try.func16, Try.ntmps16
    go_wp2_with (go_at_call 54; refine (works03 _).mono ?_; rintro e2 w2 ⟨rfl, hx2⟩; have HX2 := Lib.hid hx2; clear hx2)
    go_ret
    exact ⟨rfl, HX2.out⟩
  · by_cases h2 : 300 < info.length
    · go_enter Try.func16, Try.ntmps16
      go_wp2_with (go_at_call 54; refine (works03 _).mono ?_; rintro e2 w2 ⟨rfl, hx2⟩; have HX2 := Lib.hid hx2; clear hx2)
      go_ret
      exact ⟨rfl, HX2.out⟩
    · have HK := Lib.hid hk
      have HI := Lib.hid hi
      have HE := Lib.hid (fun (wx : World) (hx : Ext No w wx) (z : Nat) (hz : z ≤ 8160) => mExpand_one (.slice kA key.length kc) key info iA ic z hz wx (hk.ext_no hx) (by omega) (hi.ext_no hx) (by omega))
      have HC : Hid (∀ a b : Nat, ((a : Int) + (b : Int)) = ((a + b : Nat) : Int)) := Lib.hid (fun a b => (Int.natCast_add a b).symm)
      have HX0 := Lib.hid (Ext.refl No w)
      clear hk hi
      go_enter Try.func16, Try.ntmps16
      go_wp2_with (first
        | (go_at_call 59; (with_reducible refine (HE.out w HX0.out p (by omega)).mono ?_); rintro e1 w1 ⟨A1, c1, rfl, hb1, hx1⟩; have HB1 := Lib.hid hb1; have HX1 := Lib.hid hx1; clear hb1 hx1)
        | (go_at_call 59; rw [HC.out p q]; (with_reducible refine (HE.out w1 HX1.out (p + q) (by omega)).mono ?_); rintro e2 w2 ⟨A2, c2, rfl, hb2, hx2⟩; have hc2 := slice_cap hb2; have HB2 := Lib.hid hb2; have HB1' := Lib.hid (HB1.out.ext_no hx2); have HX2 := Lib.hid (HX1.out.trans hx2); clear hb2 hx2)
        | (go_at_call 27; (with_reducible refine (lSame _ _ (expand key p info) w2 HB1'.out (pre_take HB2.out)).mono ?_); rintro e3 w3 ⟨rfl, hx3⟩; have HX3 := Lib.hid (HX2.out.trans hx3); clear hx3)
        | (go_at_call 54; refine (works03 _).mono ?_; rintro e4 w4 ⟨rfl, hx4⟩; have HX4 := Lib.hid (HX3.out.trans hx4); clear hx4))
      go_ret
      exact ⟨rfl, HX4.out⟩
open Go.ChangeShapes Go.WideShapes in
set_option maxRecDepth 100000 in
theorem walk_MacBegins (W : World) (v0 v1 v2 v3 : Value) (u0 : Rd Try.prog W 27 v0.cells.toList) (u1 : Rd Try.prog W 5 v1.cells.toList) (u2 : Rd Try.prog W 5 v2.cells.toList) (u3 : Rd Try.prog W 27 v3.cells.toList)
    {r : Reach} {base : Nat} (ok0 : Value.okWide Try.prog W r base 27 v0) (ok1 : Value.okWide Try.prog W r base 5 v1) (ok2 : Value.okWide Try.prog W r base 5 v2) (ok3 : Value.okWide Try.prog W r base 27 v3) :
    Calls Try.prog 16 #[v0, v1, v2, v3] W fun e W' => e = .returned (.bool true) ∧ Ext No W W' := by
  obtain ⟨A, len, cap, rfl⟩ := okWide_slice Try.underlying27 ok0
  obtain ⟨A', c', b, he, hb⟩ := bytes_of u0
  have he : [Value.slice A len cap] = [.slice A' b.length c'] := he
  simp only [List.cons.injEq, Value.slice.injEq, and_true] at he
  obtain ⟨rfl, rfl, rfl⟩ := he
  obtain ⟨A3, len3, cap3, rfl⟩ := okWide_slice Try.underlying27 ok3
  obtain ⟨A3', c3', b3, he3, hb3⟩ := bytes_of u3
  have he3 : [Value.slice A3 len3 cap3] = [.slice A3' b3.length c3'] := he3
  simp only [List.cons.injEq, Value.slice.injEq, and_true] at he3
  obtain ⟨rfl, rfl, rfl⟩ := he3
  obtain ⟨n, rfl, hn⟩ := Rd.int_val Try.underlying5 ok1 u1
  obtain ⟨m, rfl, hm⟩ := Rd.int_val Try.underlying5 ok2 u2
  have b1 := bounds_u8 hn
  have b2 := bounds_u8 hm
  obtain ⟨p, rfl⟩ : ∃ p : Nat, n = (p : Int) := ⟨n.toNat, by omega⟩
  obtain ⟨q, rfl⟩ : ∃ q : Nat, m = (q : Int) := ⟨m.toNat, by omega⟩
  exact begins03 _ _ b b3 p q W hb.any hb3.any (by omega) (by omega)
end Go.Proofs.Ytljddghamgjfbaa
