/- Tag06. -/
import Derived.Test.YtljddghamgjfbaaG6I
import Derived.StillTailTactics
import Derived.IntWalk
import Derived.Deep.RegionHeld3
set_option linter.unusedVariables false
set_option linter.unusedSimpArgs false
namespace Go.Proofs.Ytljddghamgjfbaa
open Go.RowKit Go.Deep Go.Proofs.YtljddghamgjfbaaW.PrintWords Go.Proofs.YtljddghamgjfbaaW.PrintLast Go.Proofs.YtljddghamgjfbaaW.PrintMore Ae Fm Rt
/-- A byte of an own row is put. -/
theorem Own.put {w : World} {base : Nat} {v : Value} {l : List UInt8} (h : Own w base v l) {i : Nat} (hi : i < l.length) : ∃ g c, v = .slice (some ⟨g, 0, none⟩) l.length c ∧ (l.length ≤ c ∧ c ≤ maxLen) ∧ base ≤ g ∧ w.cell? ⟨g, i, none⟩ = some (.int .u8 ((l.getD i 0).toNat : Int)) ∧ w.frozen? ⟨g, i, none⟩ = false ∧
    ∀ b : UInt8, Own (w.setCell ⟨g, i, none⟩ (.int .u8 (b.toNat : Int))) base v (l.set i b) := by
  obtain ⟨h1, ⟨rfl, h2⟩ | ⟨g, cap, cur, rfl, hb, hh, hc, hm, hs, ht⟩⟩ := h
  · omega
  have hB : Blk w g 5 cur := hh
  have hn : l.length ≤ cur.size := by omega
  refine ⟨g, cap, rfl, ⟨hc, hm⟩, hb, ?_, hB.frozen i, fun b => ?_⟩
  · rw [hB.cell i, ← Array.getElem?_toList]
    have e : (cur.toList.take l.length)[i]? = (u8s l)[i]? := by rw [show l.length = l.length * 1 by omega, ht]
    rw [List.getElem?_take_of_lt hi, u8s_get hi] at e
    rw [e, List.getD_eq_getElem?_getD, List.getElem?_eq_getElem hi]
    rfl
  · have hB2 := hB.set_ i (.int .u8 (b.toNat : Int))
    refine ⟨by simp [u8s_length], .inr ⟨g, cap, _, by rw [List.length_set], hb, hB2, by rw [List.length_set]; exact hc, hm, by rw [Array.size_setIfInBounds]; exact hs, ?_⟩⟩
    rw [Array.toList_setIfInBounds, List.length_set, List.take_set, ht]
    simp [u8s, u8v, List.map_set]
theorem bit_ne (k : Nat) : UInt8.ofNat (2 ^ (k % 8)) ≠ 0 := by
  have : k % 8 < 8 := Nat.mod_lt _ (by omega)
  obtain ⟨m, hm⟩ : ∃ m, k % 8 = m := ⟨_, rfl⟩
  rw [hm] at this ⊢
  match m, this with
  | 0, _ | 1, _ | 2, _ | 3, _ | 4, _ | 5, _ | 6, _ | 7, _ => decide
/-- The tag, cut: what each operation leaves. -/
def FC (g gn g4 sl n c : Nat) (av : Value) : Nat → Value → World → Prop
  | 0, v, _ => v = pB g
  | 1, v, _ => v = .slice (some ⟨gn, 0, none⟩) 12 12
  | 2, v, _ => v = av
  | 3, v, _ => v = .slice (some ⟨g4, 0, none⟩) sl c
  | 4, v, _ => v = .slice (some ⟨g4, 0, none⟩) sl c
  | 5, v, _ => v = .int .i64 (sl : Int)
  | 6, v, _ => v = .int .i64 (n : Int)
  | 7, v, _ => v = .slice (some ⟨g4, n, none⟩) 15 (c - n)
  | 8, v, _ => v = .tuple #[.slice none 0 0, .int .i64 3]
  | 9, v, _ => v = .tuple #[.slice none 0 0, .int .i64 3]
  | 10, v, _ => v = .slice none 0 0
  | 11, v, _ => v = .int .i64 3
  | 12, v, _ => v = .slice none 0 0
  | 13, v, _ => v = .int .i64 3
  | _, _, _ => True
theorem FC.no {g gn g4 sl n c : Nat} {av : Value} {w w' : World} : ∀ j v, FC g gn g4 sl n c av j v w → FC g gn g4 sl n c av j v w' := by
  intro j v H
  match j, H with
  | 0, H | 1, H | 2, H | 3, H | 4, H | 5, H | 6, H | 7, H | 8, H | 9, H | 10, H | 11, H | 12, H | 13, H => exact H
  | m + 14, _ => trivial
set_option maxRecDepth 100000 in
set_option maxHeartbeats 2000000 in
theorem tag06 (kv av tv : Value) (key nonce a b : List UInt8) (bit : UInt8) (w : World) (hk : Bs w Any kv key) (hn : nonce.length = 12) (ha : Bs w Any av a) (hb : Bs w Any tv b) : Calls Try.prog 21 #[kv, .agg (u8s nonce).toArray, av, tv, .int .u8 (bit.toNat : Int)] w fun e' w' => e' = .returned (.bool true) ∧ Ext No w w' := by
  obtain ⟨kA, kc, rfl, -⟩ := hk.slice
  obtain ⟨aA, ac, rfl, -⟩ := ha.slice
  obtain ⟨tA, tc, rfl, -⟩ := hb.slice
  have hx0 : Ext No w (w.alloc (.cells (u8s nonce).toArray 90)) := (Ext.refl No w).alloc _
  have hn0 := bs_n12 (Blk.new w 90 (u8s nonce).toArray) hn
  have hk := hk.ext_no hx0
  have ha := ha.ext_no hx0
  have hb := hb.ext_no hx0
  have HX0 := Lib.hid hx0
  clear hx0
  by_cases hall : key.length ≤ 100 ∧ a.length ≤ 200 ∧ b.length ≤ 200
  · obtain ⟨h1, h2, h3⟩ := hall
    obtain ⟨w0, hw0⟩ : ∃ x, w.alloc (.cells (u8s nonce).toArray 90) = x := ⟨_, rfl⟩
    rw [hw0] at hk hn0 ha hb HX0
    have HW0 := Lib.hid hw0
    have HK := Lib.hid (fun (wx : World) (hx : Ext No w0 wx) => rKey32_any (.slice kA key.length kc) key wx (hk.ext_no hx))
    have hkl := k32_length key
    obtain ⟨K, hK⟩ : ∃ x, k32 key = x := ⟨_, rfl⟩
    rw [hK] at HK hkl
    have HN := Lib.hid (fun (tg : Nat) (v : Value) (wx : World) (h : Bs wx Any v K) (ht : IsT wx tg) => gNew_any tg v K wx h hkl ht)
    have hkk := kys_length K hkl
    obtain ⟨KK, hKK⟩ : ∃ x, kys K = x := ⟨_, rfl⟩
    rw [hKK] at HN hkk
    obtain ⟨H, hH⟩ : ∃ x, hOf16 KK = x := ⟨_, rfl⟩
    rw [hH] at HN
    have hsl := (seal_parts KK nonce H a b hkk).1
    obtain ⟨k, hk2⟩ : ∃ k, bit.toNat % 128 = k := ⟨_, rfl⟩
    have hk128 : k < 128 := by omega
    obtain ⟨X, hX⟩ : ∃ x, UInt8.ofNat (2 ^ (k % 8)) = x := ⟨_, rfl⟩
    have hX0 : X ≠ 0 := by rw [← hX]; exact bit_ne k
    obtain ⟨i, hi⟩ : ∃ i, k / 8 = i := ⟨_, rfl⟩
    have hi16 : i < 16 := by omega
    have hot := open_turned KK nonce H a hn b hkk i hi16 X hX0
    have HS := Lib.hid (fun (g gc tg gh : Nat) (wx : World) (hx : Ext No w0 wx) (hg : IsG wx g gc tg gh KK H) => gSeal_any g gc tg gh KK H _ _ _ nonce a b wx hg (hn0.ext_no hx) hn (ha.ext_no hx) (by omega) (hb.ext_no hx) (by omega))
    obtain ⟨SL, hSL⟩ : ∃ x, sealL KK nonce H a b = x := ⟨_, rfl⟩
    rw [hSL] at HS hsl hot
    obtain ⟨p, hp⟩ : ∃ p, b.length + i = p := ⟨_, rfl⟩
    rw [hp] at hot
    obtain ⟨y, hy⟩ : ∃ y, SL.getD p 0 ^^^ X = y := ⟨_, rfl⟩
    rw [hy] at hot
    obtain ⟨TL, hTL⟩ : ∃ x, SL.set p y = x := ⟨_, rfl⟩
    have htl : TL.length = b.length + 16 := by rw [← hTL, List.length_set, hsl]
    rw [hTL] at hot
    have HO := Lib.hid (fun (g gc tg gh : Nat) (wx : World) (sv : Value) (hx : Ext No w0 wx) (hg : IsG wx g gc tg gh KK H) (hs : Bs wx Any sv TL) => gOpen_all g gc tg gh KK H _ _ sv nonce a _ wx hg (hn0.ext_no hx) (ha.ext_no hx) (by omega) hs (by omega))
    simp only [hot] at HO
    have HP := Lib.hid (fun (g : Nat) (wx : World) (sv av : Value) (s : List UInt8) (hx : Ext No w0 wx) (hs : Bs wx Any sv s) (hsl : s.length < 16) => gOpen_short g _ av sv nonce s wx (hn0.ext_no hx) hn hs hsl)
    have hlen : ¬ (SL.length : Int) < 16 := by omega
    have eb : ((bit.toNat : Int)) % 128 = (k : Int) := by omega
    have ei : (k : Int) / 8 = (i : Int) := by omega
    have es : (SL.length : Int) - 16 = (b.length : Int) := by omega
    have HSL := Lib.hid hsl
    have HPE := Lib.hid hp
    have HI16 := Lib.hid hi16
    have HPL : Hid (((b.length : Int) + (i : Int)) = (p : Int)) := Lib.hid (by omega)
    have HTL := Lib.hid htl
    have HTE := Lib.hid hTL
    have HY := Lib.hid hy
    have HXE := Lib.hid hX
    have hbit := bit.toNat_lt
    clear hk hn0 ha hb hK hkl hkk hKK hH hSL hsl hot hn hX0 hX hy hTL htl hk2 hi hp
    go_enter Try.func21, Try.ntmps21
    go_wp2_with (first
      | (go_at_call 44; (try rw [HW0.out]); refine (aBuild_any _).mono ?_; rintro e1 w1 ⟨tg, rfl, hg1, ht1, hx1⟩; have HT1 := Lib.hid ht1; have HX1 := Lib.hid hx1; clear ht1 hx1 hg1)
      | (go_at_call 65; (with_reducible refine (HK.out w1 HX1.out).mono ?_); rintro e2 w2 ⟨v2, rfl, ho2, hx2⟩; have HK2 := Lib.hid ho2.any; have HT2 := Lib.hid (HT1.out.ext_no hx2); have HX2 := Lib.hid (HX1.out.trans hx2); clear ho2 hx2)
      | (go_at_call 64; refine (HN.out tg _ w2 HK2.out HT2.out).mono ?_; rintro e3 w3 ⟨g, gc, gh, rfl, hg3, hi3, hx3⟩; have HI3 := Lib.hid hi3; have HX3 := Lib.hid (HX2.out.trans hx3); clear hg3 hi3 hx3)
      | (go_at_call 66; (with_reducible refine (HS.out g gc tg gh w3 HX3.out HI3.out).mono ?_); rintro e4 w4 ⟨v4, rfl, ho4, hx4⟩; obtain ⟨g4, c4, rfl, hc4, hg4, p1, p2, p3⟩ := Own.put ho4 (i := p) (by rw [HSL.out]; have := HPE.out; omega); have HS4 := Lib.hid p3; have HI4 := Lib.hid (HI3.out.no hx4); have HX4 := Lib.hid (HX3.out.trans hx4); have HC4 := Lib.hid p1; have HF4 := Lib.hid p2; have HG4 := Lib.hid hg4; have HCC := Lib.hid hc4; clear hc4; have HX34 := Lib.hid hx4; clear ho4 hx4 p1 p2 p3 hg4))
    rw [eb]
    have p1 : w4.drew.cell? ⟨g4, p, none⟩ = _ := HC4.out
    have p2 : w4.drew.frozen? ⟨g4, p, none⟩ = _ := HF4.out
    have q2 : (p : Int) < (SL.length : Int) := by have := HSL.out; have := HPE.out; omega
    rw [HPL.out]
    clear eb ei es hi16
    obtain ⟨m, hm⟩ : ∃ m, k % 8 = m := ⟨_, rfl⟩
    have hm8 : m < 8 := by omega
    have q6 : (k : Int).tmod 8 = (m : Int) := by rw [Int.tmod_eq_emod_of_nonneg (by omega)]; omega
    have q4 : IntKind.u8.wrap (2 ^ m) = (X.toNat : Int) := by
      rw [← HXE.out, hm]
      match m, hm8 with
      | 0, _ | 1, _ | 2, _ | 3, _ | 4, _ | 5, _ | 6, _ | 7, _ => decide
    have q5 : bits .xor .u8 ((SL.getD p 0).toNat : Int) (X.toNat : Int) = (y.toNat : Int) := by rw [xor_u8, HY.out]
    obtain ⟨sx, hsx⟩ : ∃ x, SL.getD p 0 = x := ⟨_, rfl⟩
    rw [hsx] at q5 p1
    clear hsx hm
    have HS5 : Hid (Own (w4.drew.setCell ⟨g4, p, none⟩ (.int .u8 (y.toNat : Int))) w3.heap.size (.slice (some ⟨g4, 0, none⟩) SL.length c4) TL) := Lib.hid (by rw [← HTE.out]; exact HS4.out y)
    have hx35 : Ext No w3 (w4.drew.setCell ⟨g4, p, none⟩ (.int .u8 (y.toNat : Int))) := Ext.setCell HX34.out.drew (fun hh => by have hh : g4 < w3.heap.size := hh; have := HG4.out; omega) _
    have HX5 := Lib.hid (HX3.out.trans hx35)
    have HI5 := Lib.hid (HI3.out.no hx35)
    clear hx35
    go_still_tail 11, (by kernel_rfl)
    change wpList _ _ _ _ _ w4.drew
    generalize w4.drew = w5 at *
    clear q4 q5 q6 hm8
    go_wp2_with (first
      | (go_at_call 69; (with_reducible refine (HO.out g gc tg gh _ _ HX5.out HI5.out HS5.out.any).mono ?_); rintro e6 w6 ⟨v6, rfl, ho6, hx6⟩; obtain ⟨A6, c6, rfl, -⟩ := ho6.slice; have HX6 := Lib.hid (HX5.out.trans hx6); have HS6 := Lib.hid (HS5.out.any.ext_no hx6); have HI6 := Lib.hid (HI5.out.no hx6); clear ho6 hx6))
    obtain ⟨n, hn15⟩ : ∃ n, b.length + 1 = n := ⟨_, rfl⟩
    have HRS : Hid (∀ wx, Ext No w6 wx → Bs wx Any (.slice (some ⟨g4, n, none⟩) 15 (c4 - n)) (TL.drop n)) := Lib.hid (fun wx hx => by
      have h1 := HSL.out
      have h2 := HTL.out
      have h3 := HCC.out
      have := (HS6.out.ext_no hx)
      rw [show SL.length = TL.length by omega] at this
      have h4 := this.rest (k := n) (by omega) (A' := some ⟨g4, 0 + n, none⟩) (m := 15) (c' := c4 - n) (by omega) (fun _ => rfl) (by omega) (by omega)
      rwa [Nat.zero_add] at h4)
    have HC15 := Lib.hid (fun (wx : World) (hx : Ext No w6 wx) => HP.out g wx _ (.slice aA a.length ac) (TL.drop n) (HX6.out.trans hx) (HRS.out wx hx) (by rw [List.length_drop, HTL.out]; omega))
    have H15 : Hid ((SL.length : Int) - 15 = (n : Int)) := Lib.hid (by have := HSL.out; omega)
    have HNW : Hid (IntKind.i64.wrap (n : Int) = (n : Int)) := Lib.hid (IntWalk.i64_in _ (by omega))
    have HL15 : Hid (SL.length - n = 15) := Lib.hid (by have := HSL.out; omega)
    have HN1 : Hid ((n : Int) ≤ (SL.length : Int)) := Lib.hid (by have := HSL.out; omega)
    have HN2 : Hid (¬ c4 = n) := Lib.hid (by have := HSL.out; have := HCC.out; omega)
    clear hn15
    refine RF.region (vs := fun _ => undef) rfl (fun vs => ((Value.slice kA key.length kc) :: (Value.agg (u8s nonce).toArray) :: (Value.slice aA a.length ac) :: (Value.slice tA b.length tc) :: (Value.int IntKind.u8 (bit.toNat : Int)) :: undef :: (Value.pointer (some ⟨w.heap.size, 0, none⟩)) :: undef :: undef :: undef :: (Value.bool false) :: (pB g) :: (Value.int IntKind.i64 0) :: (Value.slice (some ⟨g4, 0, none⟩) SL.length c4) :: (Value.int IntKind.i64 0) :: (Value.int IntKind.i64 (k : Int)) :: (Value.int IntKind.i64 (p : Int)) :: (Value.slice A6 0 c6) :: (Value.int IntKind.i64 6) :: (vs 12) :: (vs 13) :: (Value.slice kA key.length kc) :: (Value.int IntKind.i64 (key.length : Int)) :: (Value.bool (decide (100 < (key.length : Int)))) :: (Value.bool (decide (100 < (key.length : Int)))) :: (Value.slice aA a.length ac) :: (Value.int IntKind.i64 (a.length : Int)) :: (Value.bool (decide (200 < (a.length : Int)))) :: (Value.bool (decide (100 < (key.length : Int)) || decide (200 < (a.length : Int)))) :: (Value.bool (decide (100 < (key.length : Int)) || decide (200 < (a.length : Int)))) :: (Value.slice tA b.length tc) :: (Value.int IntKind.i64 (b.length : Int)) :: (Value.bool (decide (200 < (b.length : Int)))) :: (Value.bool (decide (100 < (key.length : Int)) || decide (200 < (a.length : Int)) || decide (200 < (b.length : Int)))) :: undef :: (Value.tuple #[pB g, Value.int IntKind.i64 0]) :: (pB tg) :: (Value.slice kA key.length kc) :: v2 :: (Value.tuple #[pB g, Value.int IntKind.i64 0]) :: (pB g) :: (Value.int IntKind.i64 0) :: (Value.int IntKind.i64 0) :: (Value.bool false) :: (Value.bool false) :: (pB g) :: (Value.bool false) :: (Value.bool false) :: (Value.tuple #[Value.slice (some ⟨g4, 0, none⟩) SL.length c4, Value.int IntKind.i64 0]) :: (pB g) :: (Value.slice (some ⟨w.heap.size, 0, none⟩) 12 12) :: (Value.slice aA a.length ac) :: (Value.slice tA b.length tc) :: (Value.tuple #[Value.slice (some ⟨g4, 0, none⟩) SL.length c4, Value.int IntKind.i64 0]) :: (Value.slice (some ⟨g4, 0, none⟩) SL.length c4) :: (Value.int IntKind.i64 0) :: (Value.int IntKind.i64 0) :: (Value.bool false) :: (Value.bool false) :: (Value.slice (some ⟨g4, 0, none⟩) SL.length c4) :: (Value.int IntKind.i64 (SL.length : Int)) :: (Value.bool (decide ((SL.length : Int) < 16))) :: (Value.bool (decide ((SL.length : Int) < 16))) :: (Value.int IntKind.u8 (bit.toNat : Int)) :: (Value.int IntKind.i64 (bit.toNat : Int)) :: (Value.int IntKind.i64 (k : Int)) :: (Value.slice (some ⟨g4, 0, none⟩) SL.length c4) :: (Value.int IntKind.i64 (SL.length : Int)) :: (Value.int IntKind.i64 (b.length : Int)) :: (Value.int IntKind.i64 (k : Int)) :: (Value.int IntKind.i64 (i : Int)) :: (Value.int IntKind.i64 (p : Int)) :: (Value.slice (some ⟨g4, 0, none⟩) SL.length c4) :: (Value.int IntKind.i64 (p : Int)) :: (Value.slice (some ⟨g4, 0, none⟩) SL.length c4) :: (Value.int IntKind.i64 (p : Int)) :: (Value.pointer (some ⟨g4, p, none⟩)) :: (Value.int IntKind.u8 (sx.toNat : Int)) :: (Value.int IntKind.i64 (k : Int)) :: (Value.int IntKind.i64 (m : Int)) :: (Value.int IntKind.u8 (X.toNat : Int)) :: (Value.int IntKind.u8 (y.toNat : Int)) :: (Value.pointer (some ⟨g4, p, none⟩)) :: (Value.tuple #[Value.slice A6 0 c6, Value.int IntKind.i64 6]) :: (pB g) :: (Value.slice (some ⟨w.heap.size, 0, none⟩) 12 12) :: (Value.slice aA a.length ac) :: (Value.slice (some ⟨g4, 0, none⟩) SL.length c4) :: (Value.tuple #[Value.slice A6 0 c6, Value.int IntKind.i64 6]) :: (Value.slice A6 0 c6) :: (Value.int IntKind.i64 6) :: (vs 9) :: (vs 0) :: (vs 1) :: (vs 2) :: (vs 3) :: (vs 4) :: (vs 5) :: (vs 6) :: (vs 7) :: (vs 8) :: (vs 10) :: (vs 11) :: undef :: undef :: undef :: undef :: undef :: undef :: undef :: undef :: undef :: []).toArray)
      (FC g w.heap.size g4 SL.length n c4 (.slice aA a.length ac)) (fun _ wz => Ext No w6 wz) rfl (by kernel_rfl) ?_ ?_ ?_
    · exact (Ext.refl No w6).drew
    · refine ⟨⟨⟨⟨⟨⟨⟨⟨⟨⟨⟨⟨⟨⟨trivial, ?_⟩, ?_⟩, ?_⟩, ?_⟩, ?_⟩, ?_⟩, ?_⟩, ?_⟩, ?_⟩, ?_⟩, ?_⟩, ?_⟩, ?_⟩, ?_⟩
      · refine RF.Step.plain rfl rfl (fun vs wx hG hv hd K hK => ?_)
        go_simp
        exact hK _ _ hG rfl (fun _ _ h => h)
      · refine RF.Step.plain rfl rfl (fun vs wx hG hv hd K hK => ?_)
        go_simp
        exact hK _ _ hG rfl (fun _ _ h => h)
      · refine RF.Step.plain rfl rfl (fun vs wx hG hv hd K hK => ?_)
        go_simp
        exact hK _ _ hG rfl (fun _ _ h => h)
      · refine RF.Step.plain rfl rfl (fun vs wx hG hv hd K hK => ?_)
        go_simp
        exact hK _ _ hG rfl (fun _ _ h => h)
      · refine RF.Step.plain rfl rfl (fun vs wx hG hv hd K hK => ?_)
        go_simp
        exact hK _ _ hG rfl (fun _ _ h => h)
      · refine RF.Step.plain rfl rfl (fun vs wx hG hv hd K hK => ?_)
        have h0 : vs 4 = Value.slice (some ⟨g4, 0, none⟩) SL.length c4 := by first | exact hd.1 | exact hd.2.1 | exact hd.2.2.1 | exact hd.2.2.2.1 | exact hd.2.2.2.2.1
        go_simp
        have h4 := hK _ _ hG rfl (fun _ _ h => h)
        first | (simpa only [RF.upd, h0, Nat.reduceEqDiff, if_true, if_false, reduceIte] using h4) | (simp only [RF.upd, h0, Nat.reduceEqDiff, if_true, if_false, reduceIte] at h4 ⊢; exact h4)
      · refine RF.Step.plain rfl rfl (fun vs wx hG hv hd K hK => ?_)
        have h0 : vs 5 = .int .i64 (SL.length : Int) := by first | exact hd.1 | exact hd.2.1 | exact hd.2.2.1 | exact hd.2.2.2.1 | exact hd.2.2.2.2.1
        have e15 := H15.out
        have e16 := HNW.out
        go_simp
        have h4 := hK _ _ hG rfl (fun _ _ h => h)
        first | (simpa only [RF.upd, h0, Nat.reduceEqDiff, if_true, if_false, reduceIte] using h4) | (simp only [RF.upd, h0, Nat.reduceEqDiff, if_true, if_false, reduceIte] at h4 ⊢; exact h4)
      · refine RF.Step.plain rfl rfl (fun vs wx hG hv hd K hK => ?_)
        have h0 : vs 3 = Value.slice (some ⟨g4, 0, none⟩) SL.length c4 := by first | exact hd.1 | exact hd.2.1 | exact hd.2.2.1 | exact hd.2.2.2.1 | exact hd.2.2.2.2.1
        have h1 : vs 6 = .int .i64 (n : Int) := by first | exact hd.1 | exact hd.2.1 | exact hd.2.2.1 | exact hd.2.2.2.1 | exact hd.2.2.2.2.1
        have e1 := HL15.out
        have e2 := HN1.out
        have e3 := HN2.out
        go_simp
        have h4 := hK _ _ hG rfl (fun _ _ h => h)
        first | (simpa only [RF.upd, h0, h1, Nat.reduceEqDiff, if_true, if_false, reduceIte] using h4) | (simp only [RF.upd, h0, h1, Nat.reduceEqDiff, if_true, if_false, reduceIte] at h4 ⊢; exact h4)
      · refine RF.Step.plain rfl rfl (fun vs wx hG hv hd K hK => ?_)
        have h0 : vs 0 = pB g := by first | exact hd.1 | exact hd.2.1 | exact hd.2.2.1 | exact hd.2.2.2.1 | exact hd.2.2.2.2.1
        have h1 : vs 1 = Value.slice (some ⟨w.heap.size, 0, none⟩) 12 12 := by first | exact hd.1 | exact hd.2.1 | exact hd.2.2.1 | exact hd.2.2.2.1 | exact hd.2.2.2.2.1
        have h2 : vs 2 = Value.slice aA a.length ac := by first | exact hd.1 | exact hd.2.1 | exact hd.2.2.1 | exact hd.2.2.2.1 | exact hd.2.2.2.2.1
        have h3 : vs 7 = Value.slice (some ⟨g4, n, none⟩) 15 (c4 - n) := by first | exact hd.1 | exact hd.2.1 | exact hd.2.2.1 | exact hd.2.2.2.1 | exact hd.2.2.2.2.1
        go_simp
        refine (HC15.out wx hG).mono ?_
        rintro e' w' ⟨rfl, hx⟩
        have h4 := hK _ _ (Ext.trans hG hx) rfl (fun j _ h => FC.no j _ h)
        first | (simpa only [RF.upd, h0, h1, h2, h3, Nat.reduceEqDiff, if_true, if_false, reduceIte] using h4) | (simp only [RF.upd, h0, h1, h2, h3, Nat.reduceEqDiff, if_true, if_false, reduceIte] at h4 ⊢; exact h4)
      · refine RF.Step.plain rfl rfl (fun vs wx hG hv hd K hK => ?_)
        have h0 : vs 8 = Value.tuple #[.slice none 0 0, .int .i64 3] := by first | exact hd.1 | exact hd.2.1 | exact hd.2.2.1 | exact hd.2.2.2.1 | exact hd.2.2.2.2.1
        go_simp
        have h4 := hK _ _ hG rfl (fun _ _ h => h)
        first | (simpa only [RF.upd, h0, Nat.reduceEqDiff, if_true, if_false, reduceIte] using h4) | (simp only [RF.upd, h0, Nat.reduceEqDiff, if_true, if_false, reduceIte] at h4 ⊢; exact h4)
      · refine RF.Step.plain rfl rfl (fun vs wx hG hv hd K hK => ?_)
        have h0 : vs 9 = Value.tuple #[.slice none 0 0, .int .i64 3] := by first | exact hd.1 | exact hd.2.1 | exact hd.2.2.1 | exact hd.2.2.2.1 | exact hd.2.2.2.2.1
        go_simp
        have h4 := hK _ _ hG rfl (fun _ _ h => h)
        first | (simpa only [RF.upd, h0, Nat.reduceEqDiff, if_true, if_false, reduceIte] using h4) | (simp only [RF.upd, h0, Nat.reduceEqDiff, if_true, if_false, reduceIte] at h4 ⊢; exact h4)
      · refine RF.Step.plain rfl rfl (fun vs wx hG hv hd K hK => ?_)
        have h0 : vs 9 = Value.tuple #[.slice none 0 0, .int .i64 3] := by first | exact hd.1 | exact hd.2.1 | exact hd.2.2.1 | exact hd.2.2.2.1 | exact hd.2.2.2.2.1
        go_simp
        have h4 := hK _ _ hG rfl (fun _ _ h => h)
        first | (simpa only [RF.upd, h0, Nat.reduceEqDiff, if_true, if_false, reduceIte] using h4) | (simp only [RF.upd, h0, Nat.reduceEqDiff, if_true, if_false, reduceIte] at h4 ⊢; exact h4)
      · refine RF.Step.plain rfl rfl (fun vs wx hG hv hd K hK => ?_)
        have h0 : vs 10 = .slice none 0 0 := by first | exact hd.1 | exact hd.2.1 | exact hd.2.2.1 | exact hd.2.2.2.1 | exact hd.2.2.2.2.1
        go_simp
        have h4 := hK _ _ hG rfl (fun _ _ h => h)
        first | (simpa only [RF.upd, h0, Nat.reduceEqDiff, if_true, if_false, reduceIte] using h4) | (simp only [RF.upd, h0, Nat.reduceEqDiff, if_true, if_false, reduceIte] at h4 ⊢; exact h4)
      · refine RF.Step.plain rfl rfl (fun vs wx hG hv hd K hK => ?_)
        have h0 : vs 11 = .int .i64 3 := by first | exact hd.1 | exact hd.2.1 | exact hd.2.2.1 | exact hd.2.2.2.1 | exact hd.2.2.2.2.1
        go_simp
        have h4 := hK _ _ hG rfl (fun _ _ h => h)
        first | (simpa only [RF.upd, h0, Nat.reduceEqDiff, if_true, if_false, reduceIte] using h4) | (simp only [RF.upd, h0, Nat.reduceEqDiff, if_true, if_false, reduceIte] at h4 ⊢; exact h4)
    · intro vs w7 hG hF
      have h12 : vs 12 = .slice none 0 0 := hF 12 (by decide)
      have h13 : vs 13 = .int .i64 3 := hF 13 (by decide)
      have HX7 := Lib.hid (HX6.out.trans hG)
      rw [h12, h13]
      clear hG hF h12 h13
      go_wp2_with (go_at_call 63; refine (works06 _).mono ?_; rintro e8 w8 ⟨rfl, hx8⟩; have HX8 := Lib.hid (HX7.out.trans hx8); clear hx8)
      go_ret
      exact ⟨rfl, HX0.out.trans HX8.out⟩
  · have hany : 100 < key.length ∨ 200 < a.length ∨ 200 < b.length := by omega
    clear hk hn ha hb hall hn0
    have HA := Lib.hid hany
    clear hany
    go_enter Try.func21, Try.ntmps21
    go_wp2_with (first
      | (go_at_call 63; refine (works06 _).mono ?_; rintro e2 w2 ⟨rfl, hx2⟩; have HX2 := Lib.hid hx2; clear hx2)
      | (exfalso; have := HA.out; omega))
    all_goals (go_ret; exact ⟨rfl, HX0.out.trans HX2.out⟩)
open Go.ChangeShapes Go.WideShapes in
set_option maxRecDepth 100000 in
theorem walk_GcmTag (W : World) (v0 v1 v2 v3 v4 : Value) (u0 : Rd Try.prog W 27 v0.cells.toList) (u1 : Rd Try.prog W 90 v1.cells.toList) (u2 : Rd Try.prog W 27 v2.cells.toList) (u3 : Rd Try.prog W 27 v3.cells.toList) (u4 : Rd Try.prog W 5 v4.cells.toList)
    {r : Reach} {base : Nat} (ok0 : Value.okWide Try.prog W r base 27 v0) (ok1 : Value.okWide Try.prog W r base 90 v1) (ok2 : Value.okWide Try.prog W r base 27 v2) (ok3 : Value.okWide Try.prog W r base 27 v3) (ok4 : Value.okWide Try.prog W r base 5 v4) :
    Calls Try.prog 21 #[v0, v1, v2, v3, v4] W fun e W' => e = .returned (.bool true) ∧ Ext No W W' := by
  obtain ⟨A0, c0, l0, rfl, h0⟩ := bytes_val u0 ok0
  obtain ⟨l, hl, rfl⟩ := bytesN_of und_12 (by kernel_rfl) ok1 u1
  obtain ⟨A2, c2, l2, rfl, h2⟩ := bytes_val u2 ok2
  obtain ⟨A3, c3, l3, rfl, h3⟩ := bytes_val u3 ok3
  obtain ⟨n, rfl, hn⟩ := Rd.int_val Try.underlying5 ok4 u4
  have b1 := bounds_u8 hn
  obtain ⟨p, rfl⟩ : ∃ p : Nat, n = (p : Int) := ⟨n.toNat, by omega⟩
  have := tag06 _ _ _ l0 l l2 l3 (UInt8.ofNat p) W h0.any hl h2.any h3.any
  rwa [toNat_of (by omega)] at this
end Go.Proofs.Ytljddghamgjfbaa
