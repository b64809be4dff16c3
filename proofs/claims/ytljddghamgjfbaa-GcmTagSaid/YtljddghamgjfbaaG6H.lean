/- GcmPure2, Opens06. -/
import Derived.Test.YtljddghamgjfbaaG6G
import Derived.Test.YtljddghamgjfbaaG6R
set_option linter.unusedVariables false
set_option linter.unusedSimpArgs false
namespace Go.Proofs.Ytljddghamgjfbaa
open Go.RowKit Go.Proofs.YtljddghamgjfbaaW.PrintWords Go.Proofs.YtljddghamgjfbaaW.PrintLast Go.Proofs.YtljddghamgjfbaaW.PrintMore PGcmSeals Ae Fm Rt
/-- What sealed bytes are, opened, and the code. -/
def openL (KK nonce : List UInt8) (h : G) (a s : List UInt8) : List UInt8 × Nat :=
  if nonce.length = 12 then (if s.length < 16 then ([], 3) else
    if tagL KK nonce h a (s.take (s.length - 16)) = s.drop (s.length - 16) then (strm KK nonce (s.take (s.length - 16)), 0) else ([], 6)) else ([], 17)
namespace Gr
theorem open_f (WL : List (List UInt8)) (h60 : WL.length = 60) (h4 : ∀ x ∈ WL, x.length = 4) (KK : List UInt8) (hKK : WL.flatten = KK) (nonce : List UInt8) (h : G) (a s : List UInt8) (ha : a.length ≤ 300) (hs : s.length ≤ 300) (k : Nat) (hk : 50000 ≤ k) :
    deedboxref06_Open.f k (i8 Ar.bxs) (WL.map i8) (bl h) (i8 nonce) (i8 a) (i8 s) = some (i8 (openL KK nonce h a s).1, ((openL KK nonce h a s).2 : Int)) := by
  have hkl : KK.length = 240 := by rw [← hKK, flat4 _ h4, h60]
  unfold deedboxref06_Open.f openL
  rw [i8_length, i8_length]
  by_cases hn : nonce.length = 12
  · rw [if_pos (by omega), if_pos hn]
    by_cases h16 : s.length < 16
    · have e : wrap64 ((s.length : Int) - 16) = (s.length : Int) - 16 := by unfold wrap64; omega
      rw [e, if_pos (by omega), if_pos h16]
      rfl
    · have e : wrap64 ((s.length : Int) - 16) = ((s.length - 16 : Nat) : Int) := by unfold wrap64; omega
      have et : (i8 s).take (s.length - 16) = i8 (s.take (s.length - 16)) := by simp [i8, List.map_take]
      have ed : (i8 s).drop (s.length - 16) = i8 (s.drop (s.length - 16)) := by simp [i8, List.map_drop]
      have hl : (s.take (s.length - 16)).length ≤ 300 := by rw [List.length_take]; omega
      have htl := tagL_length KK nonce h a (s.take (s.length - 16)) hkl
      rw [e, if_neg (by omega), if_pos (by omega), if_pos (by omega), if_neg h16, Int.toNat_natCast, et, ed, tag_f WL h60 h4 KK hKK nonce hn h a _ ha hl k hk, Option.bind_some, same_f _ _ (by omega) k (by omega), Option.bind_some]
      by_cases e : tagL KK nonce h a (s.take (s.length - 16)) = s.drop (s.length - 16)
      · rw [decide_eq_true e, if_pos rfl, if_pos e, stream_f WL h60 h4 KK hKK (bl h) nonce hn _ (by omega) k (by omega), Option.bind_some]
        rfl
      · rw [decide_eq_false e, if_neg (by simp), if_neg e]
        rfl
  · rw [if_neg (by omega), if_neg hn]
    rfl
end Gr
end Go.Proofs.Ytljddghamgjfbaa
namespace Go.Proofs.Ytljddghamgjfbaa
open Go.RowKit Go.Deep Go.Proofs.YtljddghamgjfbaaW.PrintWords Go.Proofs.YtljddghamgjfbaaW.PrintLast Go.Proofs.YtljddghamgjfbaaW.PrintMore Ae Fm Rt
theorem gOpen_all (g gc tg gh : Nat) (KK : List UInt8) (h : G) (nv av sv : Value) (nonce a s : List UInt8) (w : World) (hg : IsG w g gc tg gh KK h) (hn : Bs w Any nv nonce) (ha : Bs w Any av a) (hal : a.length ≤ 1000000) (hs : Bs w Any sv s) (hsl : s.length ≤ 100000) :
    Calls Try.prog 69 #[pB g, nv, av, sv] w fun e w' => ∃ v', e = .returned (.tuple #[v', .int .i64 ((openL KK nonce h a s).2 : Int)]) ∧ Own w' w.heap.size v' (openL KK nonce h a s).1 ∧ Ext No w w' := by
  unfold openL
  by_cases hnl : nonce.length = 12
  · simp only [if_pos hnl]
    by_cases hsh : s.length < 16
    · simp only [if_pos hsh]
      exact (gOpen_short g nv av sv nonce s w hn hnl hs hsh).mono fun e w' ⟨h1, h2⟩ => ⟨_, h1, Own.nil _ _, h2⟩
    · simp only [if_neg hsh]
      have := gOpen_any g gc tg gh KK h nv av sv nonce a s w hg hn hnl ha hal hs hsl (by omega) _ rfl
      by_cases ht : tagL KK nonce h a (s.take (s.length - 16)) = s.drop (s.length - 16)
      · simp only [if_pos ht]
        simp only [decide_eq_true ht, if_true] at this
        exact this
      · simp only [if_neg ht]
        simp only [decide_eq_false ht, Bool.false_eq_true, if_false] at this
        exact this
  · simp only [if_neg hnl]
    exact (gOpen_size g nv av sv nonce w hn hnl).mono fun e w' ⟨h1, h2⟩ => ⟨_, h1, Own.nil _ _, h2⟩
theorem rOpen_any (kv nv av tv : Value) (WL : List (List UInt8)) (h60 : WL.length = 60) (h4 : ∀ x ∈ WL, x.length = 4) (KK : List UInt8) (hKK : WL.flatten = KK) (h : G) (nonce a b : List UInt8) (w : World) (hk : RKey w kv WL h) (hn : Bs w Any nv nonce) (ha : Bs w Any av a) (hal : a.length ≤ 300) (hb : Bs w Any tv b) (hbl : b.length ≤ 300) :
    Calls Try.prog 70 #[kv, nv, av, tv] w fun e w' => ∃ v', e = .returned (.tuple #[v', .int .i64 ((openL KK nonce h a b).2 : Int)]) ∧ Bs w' Any v' (openL KK nonce h a b).1 ∧ Ext No w w' := by
  obtain ⟨bv, wv, hv, rfl, h1, h2, h3⟩ := hk
  obtain ⟨A1, c1, rfl, -⟩ := h1.slice
  obtain ⟨A2, c2, rfl, -⟩ := h2.slice
  obtain ⟨A3, c3, rfl⟩ := Kd.V_slice h3
  obtain ⟨_, hc3, hC3⟩ := Kd.V_reads' h3
  obtain ⟨A4, c4, rfl, -⟩ := hn.slice
  obtain ⟨A5, c5, rfl, -⟩ := ha.slice
  obtain ⟨A6, c6, rfl, -⟩ := hb.slice
  obtain ⟨a1, a2, a3⟩ := h1.C
  obtain ⟨b1, b2, b3⟩ := h2.C
  obtain ⟨d1, d2, d3⟩ := hn.C
  obtain ⟨e1, e2, e3⟩ := ha.C
  obtain ⟨f1, f2, f3⟩ := hb.C
  have hf := Gr.open_f WL h60 h4 KK hKK nonce h a b hal hbl 50000 (Nat.le_refl _)
  obtain ⟨R, hR⟩ : ∃ x, (openL KK nonce h a b).1 = x := ⟨_, rfl⟩
  obtain ⟨C, hC⟩ : ∃ x : Int, ((openL KK nonce h a b).2 : Int) = x := ⟨_, rfl⟩
  rw [hR, hC] at hf ⊢
  rw [a1, b1, d1, e1, f1]
  refine (PGcmSeals.deedboxref06_Open.calls 50000 A1 c1 (i8 Ar.bxs) A2 c2 (WL.map i8) A3 c3 (bl h) A4 c4 (i8 nonce) A5 c5 (i8 a) A6 c6 (i8 b) (i8 R) C w a3 a2 b3 b2 hC3 hc3 d3 d2 e3 e2 f3 f2 hf).mono ?_
  rintro e w' ⟨v', rfl, hr, hb⟩
  exact ⟨v', rfl, (Own.of_R hr).any, Ext.of_below hb⟩
set_option maxRecDepth 100000 in
set_option maxHeartbeats 2000000 in
theorem opens06 (kv nv av tv : Value) (key nonce a b : List UInt8) (w : World) (hk : Bs w Any kv key) (hn : Bs w Any nv nonce) (ha : Bs w Any av a) (hb : Bs w Any tv b) : Calls Try.prog 19 #[kv, nv, av, tv] w fun e' w' => e' = .returned (.bool true) ∧ Ext No w w' := by
  obtain ⟨kA, kc, rfl, -⟩ := hk.slice
  obtain ⟨nA, nc, rfl, -⟩ := hn.slice
  obtain ⟨aA, ac, rfl, -⟩ := ha.slice
  obtain ⟨tA, tc, rfl, -⟩ := hb.slice
  by_cases hall : key.length ≤ 100 ∧ nonce.length ≤ 40 ∧ a.length ≤ 200 ∧ b.length ≤ 200
  · obtain ⟨h1, h2, h3, h4⟩ := hall
    have HK := Lib.hid (fun (wx : World) (hx : Ext No w wx) => rKey32_any (.slice kA key.length kc) key wx (hk.ext_no hx))
    have hkl := k32_length key
    obtain ⟨K, hK⟩ : ∃ x, k32 key = x := ⟨_, rfl⟩
    rw [hK] at HK hkl
    have HN := Lib.hid (fun (tg : Nat) (v : Value) (wx : World) (h : Bs wx Any v K) (ht : IsT wx tg) => gNew_any tg v K wx h hkl ht)
    have HR := Lib.hid (fun (v : Value) (wx : World) (h : Bs wx Any v K) => rNew6_any v K wx h hkl)
    have hkk := kys_length K hkl
    have h60 := wds_length K 60
    have h44 := wds_four K hkl 60
    have hkf : (wds K 60).flatten = kys K := rfl
    obtain ⟨KK, hKK⟩ : ∃ x, kys K = x := ⟨_, rfl⟩
    obtain ⟨WF, hWF⟩ : ∃ x, wds K = x := ⟨_, rfl⟩
    rw [hKK] at HN HR hkk hkf
    rw [hWF] at HR h60 h44 hkf
    obtain ⟨WL, hWL⟩ : ∃ x, WF 60 = x := ⟨_, rfl⟩
    rw [hWL] at HR h60 h44 hkf
    obtain ⟨H, hH⟩ : ∃ x, hOf16 KK = x := ⟨_, rfl⟩
    rw [hH] at HN HR
    have HS := Lib.hid (fun (g gc tg gh : Nat) (wx : World) (hx : Ext No w wx) (hg : IsG wx g gc tg gh KK H) => gOpen_all g gc tg gh KK H _ _ _ nonce a b wx hg (hn.ext_no hx) (ha.ext_no hx) (by omega) (hb.ext_no hx) (by omega))
    have HQ := Lib.hid (fun (kv : Value) (wx : World) (hx : Ext No w wx) (hk : RKey wx kv WL H) => rOpen_any kv _ _ _ WL h60 h44 KK hkf H nonce a b wx hk (hn.ext_no hx) (ha.ext_no hx) (by omega) (hb.ext_no hx) (by omega))
    obtain ⟨OL, hOL⟩ : ∃ x, (openL KK nonce H a b).1 = x := ⟨_, rfl⟩
    obtain ⟨OC, hOC⟩ : ∃ x : Int, ((openL KK nonce H a b).2 : Int) = x := ⟨_, rfl⟩
    rw [hOL, hOC] at HS HQ
    clear hk hn ha hb hK hkl hkk h60 h44 hkf hKK hWF hWL hH hOL hOC
    go_enter Try.func19, Try.ntmps19
    go_wp2_with (first
      | (go_at_call 44; refine (aBuild_any _).mono ?_; rintro e1 w1 ⟨tg, rfl, hg1, ht1, hx1⟩; have HT1 := Lib.hid ht1; have HX1 := Lib.hid hx1; clear ht1 hx1 hg1)
      | (go_at_call 65; (with_reducible refine (HK.out w1 HX1.out).mono ?_); rintro e2 w2 ⟨v2, rfl, ho2, hx2⟩; have HK2 := Lib.hid ho2.any; have HT2 := Lib.hid (HT1.out.ext_no hx2); have HX2 := Lib.hid (HX1.out.trans hx2); clear ho2 hx2)
      | (go_at_call 64; refine (HN.out tg _ w2 HK2.out HT2.out).mono ?_; rintro e3 w3 ⟨g, gc, gh, rfl, hg3, hi3, hx3⟩; have HI3 := Lib.hid hi3; have HX3 := Lib.hid (HX2.out.trans hx3); clear hg3 hi3 hx3)
      | (go_at_call 69; refine (HS.out g gc tg gh w3 HX3.out HI3.out).mono ?_; rintro e4 w4 ⟨v4, rfl, ho4, hx4⟩; have HS4 := Lib.hid ho4.any; have HX4 := Lib.hid (HX3.out.trans hx4); clear ho4 hx4)
      | (go_at_call 65; (with_reducible refine (HK.out w4 HX4.out).mono ?_); rintro e5 w5 ⟨v5, rfl, ho5, hx5⟩; have HK5 := Lib.hid ho5.any; have HS5 := Lib.hid (HS4.out.ext_no hx5); have HX5 := Lib.hid (HX4.out.trans hx5); clear ho5 hx5)
      | (go_at_call 68; refine (HR.out _ w5 HK5.out).mono ?_; rintro e6 w6 ⟨v6, rfl, hk6, hx6⟩; have HK6 := Lib.hid hk6; have HS6 := Lib.hid (HS5.out.ext_no hx6); have HX6 := Lib.hid (HX5.out.trans hx6); clear hk6 hx6)
      | (go_at_call 70; refine (HQ.out v6 w6 HX6.out HK6.out).mono ?_; rintro e7 w7 ⟨v7, rfl, ho7, hx7⟩; have HR7 := Lib.hid ho7; have HS7 := Lib.hid (HS6.out.ext_no hx7); have HX7 := Lib.hid (HX6.out.trans hx7); clear ho7 hx7)
      | (go_at_call 27; refine (lSame6 _ _ OL OL w7 HS7.out HR7.out true (by simp)).mono ?_; rintro e8 w8 ⟨rfl, hx8⟩; have HX8 := Lib.hid (HX7.out.trans hx8); clear hx8)
      | (go_at_call 63; refine (works06 _).mono ?_; rintro e9 w9 ⟨rfl, hx9⟩; have HX9 := Lib.hid (HX8.out.trans hx9); clear hx9))
    go_ret
    exact ⟨rfl, HX9.out⟩
  · have hany : 100 < key.length ∨ 40 < nonce.length ∨ 200 < a.length ∨ 200 < b.length := by omega
    clear hk hn ha hb hall
    have HA := Lib.hid hany
    clear hany
    go_enter Try.func19, Try.ntmps19
    go_wp2_with (first
      | (go_at_call 63; refine (works06 _).mono ?_; rintro e2 w2 ⟨rfl, hx2⟩; have HX2 := Lib.hid hx2; clear hx2)
      | (exfalso; have := HA.out; omega))
    all_goals (go_ret; exact ⟨rfl, HX2.out⟩)
open Go.ChangeShapes Go.WideShapes in
set_option maxRecDepth 100000 in
theorem walk_GcmOpens (W : World) (v0 v1 v2 v3 : Value) (u0 : Rd Try.prog W 27 v0.cells.toList) (u1 : Rd Try.prog W 27 v1.cells.toList) (u2 : Rd Try.prog W 27 v2.cells.toList) (u3 : Rd Try.prog W 27 v3.cells.toList)
    {r : Reach} {base : Nat} (ok0 : Value.okWide Try.prog W r base 27 v0) (ok1 : Value.okWide Try.prog W r base 27 v1) (ok2 : Value.okWide Try.prog W r base 27 v2) (ok3 : Value.okWide Try.prog W r base 27 v3) :
    Calls Try.prog 19 #[v0, v1, v2, v3] W fun e W' => e = .returned (.bool true) ∧ Ext No W W' := by
  obtain ⟨A0, c0, l0, rfl, h0⟩ := bytes_val u0 ok0
  obtain ⟨A1, c1, l1, rfl, h1⟩ := bytes_val u1 ok1
  obtain ⟨A2, c2, l2, rfl, h2⟩ := bytes_val u2 ok2
  obtain ⟨A3, c3, l3, rfl, h3⟩ := bytes_val u3 ok3
  exact opens06 _ _ _ _ l0 l1 l2 l3 W h0.any h1.any h2.any h3.any
end Go.Proofs.Ytljddghamgjfbaa
