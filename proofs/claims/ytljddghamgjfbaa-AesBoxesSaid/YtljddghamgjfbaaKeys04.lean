/- The laws of chapter 4: AesKeys, AesBoxes. -/
import Derived.Test.YtljddghamgjfbaaLaw04
import Derived.Test.YtljddghamgjfbaaAesRef
import Derived.Test.YtljddghamgjfbaaOpenBytes
set_option linter.unusedVariables false
set_option linter.unusedSimpArgs false
namespace Go.Proofs.Ytljddghamgjfbaa
open Go.RowKit Go.Deep Go.Proofs.YtljddghamgjfbaaW.PrintWords Ae

set_option maxRecDepth 100000 in
set_option maxHeartbeats 2000000 in
theorem keys04 (kv : Value) (key : List UInt8) (w : World) (hk : Bs w Any kv key) : Calls Try.prog 12 #[kv] w fun e' w' => e' = .returned (.bool true) ∧ Ext No w w' := by
  obtain ⟨kA, kc, rfl, -⟩ := hk.slice
  have HK := Lib.hid hk
  clear hk
  by_cases h1 : 100 < key.length
  · go_enter Try.func12, Try.ntmps12
    go_wp2_with (go_at_call 47; refine (works04 _).mono ?_; rintro e2 w2 ⟨rfl, hx2⟩; have HX2 := Lib.hid hx2; clear hx2)
    go_ret
    exact ⟨rfl, HX2.out⟩
  · by_cases h2 : key.length = 32
    · have HNC := Lib.hid (fun (wx : World) (hx : Ext No w wx) (tg : Nat) (ht : IsT wx tg) => aNew_any tg (.slice kA key.length kc) key wx (HK.out.ext_no hx) h2 ht)
      obtain ⟨KK, hKK⟩ : ∃ x, kys key = x := ⟨_, rfl⟩
      rw [hKK] at HNC
      have t1 : ((key.length : Int) == 32) = true := by simp [h2]
      clear hKK h2
      go_enter Try.func12, Try.ntmps12
      go_wp2_with (first
        | (go_at_call 44; refine (aBuild_any w).mono ?_; rintro e1 w1 ⟨tg, rfl, hg1, ht1, hx1⟩; have HT1 := Lib.hid ht1; have HX1 := Lib.hid hx1; clear ht1 hx1 hg1)
        | (go_at_call 49; refine (HNC.out w1 HX1.out tg HT1.out).mono ?_; rintro e3 w3 ⟨gc, rfl, hg3, hc3, hx3⟩; have HX3 := Lib.hid (HX1.out.trans hx3); clear hg3 hc3 hx3)
        | (go_at_call 47; refine (works04 _).mono ?_; rintro e4 w4 ⟨rfl, hx4⟩; have HX4 := Lib.hid (HX3.out.trans hx4); clear hx4))
      go_ret
      exact ⟨rfl, HX4.out⟩
    · have HNC := Lib.hid (fun (wx : World) (hx : Ext No w wx) (tg : Nat) => aNew_size tg (.slice kA key.length kc) key wx (HK.out.ext_no hx) h2)
      have t1 : ((key.length : Int) == 32) = false := by simp; omega
      go_enter Try.func12, Try.ntmps12
      go_wp2_with (first
        | (go_at_call 44; refine (aBuild_any w).mono ?_; rintro e1 w1 ⟨tg, rfl, hg1, ht1, hx1⟩; have HX1 := Lib.hid hx1; clear ht1 hx1 hg1)
        | (go_at_call 49; refine (HNC.out w1 HX1.out tg).mono ?_; rintro e3 w3 ⟨rfl, hx3⟩; have HX3 := Lib.hid (HX1.out.trans hx3); clear hx3)
        | (go_at_call 47; refine (works04 _).mono ?_; rintro e4 w4 ⟨rfl, hx4⟩; have HX4 := Lib.hid (HX3.out.trans hx4); clear hx4))
      go_ret
      exact ⟨rfl, HX4.out⟩
open Go.ChangeShapes Go.WideShapes in
set_option maxRecDepth 100000 in
theorem walk_AesKeys (W : World) (v0 : Value) (u0 : Rd Try.prog W 27 v0.cells.toList)
    {r : Reach} {base : Nat} (ok0 : Value.okWide Try.prog W r base 27 v0) :
    Calls Try.prog 12 #[v0] W fun e W' => e = .returned (.bool true) ∧ Ext No W W' := by
  obtain ⟨A, len, cap, rfl⟩ := okWide_slice Try.underlying27 ok0
  obtain ⟨A', c', b, he, hb⟩ := bytes_of u0
  have he : [Value.slice A len cap] = [.slice A' b.length c'] := he
  simp only [List.cons.injEq, Value.slice.injEq, and_true] at he
  obtain ⟨rfl, rfl, rfl⟩ := he
  exact keys04 _ b W hb.any
theorem rBox_any (c : UInt8) (w : World) : Calls Try.prog 46 #[.int .u8 (c.toNat : Int)] w fun e w' => e = .returned (.int .u8 ((bx c).toNat : Int)) ∧ Ext No w w' := by
  rw [bx_nat]
  refine (PAesBlocks.deedboxref04_Box.calls 300 _ _ w (Ar.box_f c.toNat c.toNat_lt)).mono ?_
  rintro e w' ⟨rfl, hx⟩
  obtain ⟨n, rfl⟩ := hx
  exact ⟨rfl, (Ext.refl No w).drewN n⟩
set_option maxRecDepth 100000 in
set_option maxHeartbeats 2000000 in
theorem boxes04 (c : UInt8) (w : World) : Calls Try.prog 10 #[.int .u8 (c.toNat : Int)] w fun e' w' => e' = .returned (.bool true) ∧ Ext No w w' := by
  have HB1 := Lib.hid (fun tg wx ht => aBox_any tg c wx ht)
  have HB2 := Lib.hid (fun wx => rBox_any c wx)
  obtain ⟨d, hd⟩ : ∃ d, bx c = d := ⟨_, rfl⟩
  rw [hd] at HB1 HB2
  clear hd
  go_enter Try.func10, Try.ntmps10
  go_wp2_with (first
    | (go_at_call 44; refine (aBuild_any w).mono ?_; rintro e1 w1 ⟨tg, rfl, hg1, ht1, hx1⟩; have HT1 := Lib.hid ht1; have HX1 := Lib.hid hx1; clear ht1 hx1 hg1)
    | (go_at_call 45; refine (HB1.out tg w1 HT1.out).mono ?_; rintro e2 w2 ⟨rfl, hx2⟩; have HX2 := Lib.hid (HX1.out.trans hx2); clear hx2)
    | (go_at_call 46; refine (HB2.out w2).mono ?_; rintro e3 w3 ⟨rfl, hx3⟩; have HX3 := Lib.hid (HX2.out.trans hx3); clear hx3)
    | (go_at_call 47; refine (works04 _).mono ?_; rintro e4 w4 ⟨rfl, hx4⟩; have HX4 := Lib.hid (HX3.out.trans hx4); clear hx4))
  go_ret
  exact ⟨rfl, HX4.out⟩
open Go.ChangeShapes Go.WideShapes in
set_option maxRecDepth 100000 in
theorem walk_AesBoxes (W : World) (v0 : Value) (u0 : Rd Try.prog W 5 v0.cells.toList)
    {r : Reach} {base : Nat} (ok0 : Value.okWide Try.prog W r base 5 v0) :
    Calls Try.prog 10 #[v0] W fun e W' => e = .returned (.bool true) ∧ Ext No W W' := by
  obtain ⟨n, rfl, hn⟩ := Rd.int_val Try.underlying5 ok0 u0
  have b1 := bounds_u8 hn
  obtain ⟨p, rfl⟩ : ∃ p : Nat, n = (p : Int) := ⟨n.toNat, by omega⟩
  have := boxes04 (UInt8.ofNat p) W
  rwa [toNat_of (by omega)] at this
end Go.Proofs.Ytljddghamgjfbaa
