/- The product of elements (package field): Times, Hash. -/
import Derived.Test.YtljddghamgjfbaaFieldMul
set_option linter.unusedVariables false
set_option linter.unusedSimpArgs false
namespace Go.Proofs.Ytljddghamgjfbaa
open Go.RowKit Go.Deep Fm

theorem fBuild_agg (e : G) (w : World) : Calls Try.prog 26 #[.agg #[.int .u64 (hi e : Int), .int .u64 (lo e : Int)]] w fun e' w' => ∃ g, e' = .returned (.pointer (some ⟨g, 0, none⟩)) ∧ w.heap.size ≤ g ∧ IsTb w' g (tb e) tov ∧ Ext No w w' := fBuild_any e w
theorem fTimesT_agg (g : Nat) (a b : G) (w : World) (h : IsTb w g (tb b) tov) : Calls Try.prog 30 #[.pointer (some ⟨g, 0, none⟩), .agg #[.int .u64 (hi a : Int), .int .u64 (lo a : Int)]] w fun e' w' => e' = .returned (.agg #[.int .u64 (hi (mul a b) : Int), .int .u64 (lo (mul a b) : Int)]) ∧ Ext No w w' := fTimesT_any g a b w h

set_option maxRecDepth 100000 in
set_option maxHeartbeats 2000000 in
theorem fTimes_any (a b : G) (w : World) : Calls Try.prog 28 #[ev a, ev b] w fun e' w' => e' = .returned (ev (mul a b)) ∧ Ext No w w' := by
  unfold ev
  have ha : Blk (((w.alloc (.cells #[.int .u64 (hi a : Int), .int .u64 (lo a : Int)] 25)).alloc (.cells #[.int .u64 (hi b : Int), .int .u64 (lo b : Int)] 25)).alloc (.cells #[.int .u64 0, .int .u64 0] 25)) w.heap.size 25 #[.int .u64 (hi a : Int), .int .u64 (lo a : Int)] := ((Blk.new w _ _).alloc _).alloc _
  have hb : Blk (((w.alloc (.cells #[.int .u64 (hi a : Int), .int .u64 (lo a : Int)] 25)).alloc (.cells #[.int .u64 (hi b : Int), .int .u64 (lo b : Int)] 25)).alloc (.cells #[.int .u64 0, .int .u64 0] 25)) (w.heap.size + 1) 25 #[.int .u64 (hi b : Int), .int .u64 (lo b : Int)] := by
    have := (Blk.new (w.alloc (.cells #[.int .u64 (hi a : Int), .int .u64 (lo a : Int)] 25)) 25 #[.int .u64 (hi b : Int), .int .u64 (lo b : Int)]).alloc (.cells #[.int .u64 0, .int .u64 0] 25)
    rw [World.size_alloc] at this
    exact this
  have hr : Blk (((w.alloc (.cells #[.int .u64 (hi a : Int), .int .u64 (lo a : Int)] 25)).alloc (.cells #[.int .u64 (hi b : Int), .int .u64 (lo b : Int)] 25)).alloc (.cells #[.int .u64 0, .int .u64 0] 25)) (w.heap.size + 1 + 1) 25 #[.int .u64 0, .int .u64 0] := by
    have := Blk.new ((w.alloc (.cells #[.int .u64 (hi a : Int), .int .u64 (lo a : Int)] 25)).alloc (.cells #[.int .u64 (hi b : Int), .int .u64 (lo b : Int)] 25)) 25 #[.int .u64 0, .int .u64 0]
    rw [World.size_alloc, World.size_alloc] at this
    exact this
  have hx := (((Ext.refl No w).alloc (.cells #[.int .u64 (hi a : Int), .int .u64 (lo a : Int)] 25)).alloc (.cells #[.int .u64 (hi b : Int), .int .u64 (lo b : Int)] 25)).alloc (.cells #[.int .u64 0, .int .u64 0] 25)
  have HH := Lib.hid (And.intro ha (And.intro hb (And.intro hr hx)))
  clear ha hb hr hx
  go_enter Try.func28, Try.ntmps28
  go_wp2_with fail
  generalize (((w.alloc (.cells #[.int .u64 (hi a : Int), .int .u64 (lo a : Int)] 25)).alloc (.cells #[.int .u64 (hi b : Int), .int .u64 (lo b : Int)] 25)).alloc (.cells #[.int .u64 0, .int .u64 0] 25)) = w2 at *
  have PA := Blk.c2 HH.out.1
  have PB := Blk.c2 HH.out.2.1
  have PR := Blk.c2 HH.out.2.2.1
  go_region_with ((first
    | (go_at_call 26; refine (fBuild_agg b _).mono ?_; rintro e' w6 ⟨g, rfl, hg6, ht6, hx6⟩; have HT6 := Lib.hid ht6; have HX6 := Lib.hid (HH.out.2.2.2.drew.trans hx6); have PA6 := Blk.c2 (Blk.ext_no (by exact HH.out.1) hx6); have HR6 := Lib.hid (Blk.ext_no (by exact HH.out.2.2.1) hx6); clear hx6 ht6)
    | (go_at_call 30; refine (fTimesT_agg g a b _ (by exact HT6.out)).mono ?_; rintro e' w7 ⟨rfl, hx7⟩; have HX7 := Lib.hid (HX6.out.trans hx7); have PR7 := Blk.c2 (Blk.ext_no (by exact HR6.out) hx7); clear hx7)))
  all_goals
    generalize hE : mul a b = o9 at *
    have HE := Lib.hid hE
    clear hE
    go_wp2
    exact bodyPost_ret (v := .agg #[.int .u64 (hi o9 : Int), .int .u64 (lo o9 : Int)]) (by simp [results, Try.results28, go_sem, PR7]) rfl ⟨by rw [HE.out], by repeat (first | with_reducible refine Ext.drew ?_ | with_reducible refine Ext.setCell ?_ (by simp; try omega) _ | with_reducible exact HX7.out)⟩

/-- A row of blocks: each one is added, and all multiplied. -/
def hashL (h : G) : Nat → G → List UInt8 → G
  | 0, from_, _ => from_
  | n + 1, from_, l => if l = [] then from_ else hashL h n (mul (from_ ^^^ elL (l.take 16)) h) (l.drop 16)
theorem hashL_nil (h : G) (n : Nat) (f : G) : hashL h n f [] = f := by cases n <;> simp [hashL]
theorem hashL_more (h : G) : ∀ (n m : Nat) (f : G) (l : List UInt8), l.length ≤ 16 * n → n ≤ m → hashL h m f l = hashL h n f l := by
  intro n
  induction n with
  | zero =>
    intro m f l hl _
    obtain rfl : l = [] := List.eq_nil_of_length_eq_zero (by omega)
    rw [hashL_nil, hashL_nil]
  | succ n ih =>
    intro m f l hl hm
    obtain ⟨m, rfl⟩ : ∃ m', m = m' + 1 := ⟨m - 1, by omega⟩
    simp only [hashL]
    by_cases c : l = []
    · rw [if_pos c, if_pos c]
    · rw [if_neg c, if_neg c, ih m _ _ (by rw [List.length_drop]; omega) (by omega)]
def hash (h f : G) (l : List UInt8) : G := hashL h l.length f l
theorem hash_nil (h f : G) : hash h f [] = f := rfl
theorem hash_step (h f : G) (l : List UInt8) (hl : l ≠ []) : hash h f l = hash h (mul (f ^^^ elL (l.take 16)) h) (l.drop 16) := by
  unfold hash
  have h0 : 0 < l.length := List.length_pos_iff.2 hl
  obtain ⟨n, hn⟩ : ∃ n, l.length = n + 1 := ⟨l.length - 1, by omega⟩
  rw [hn]
  simp only [hashL]
  rw [if_neg hl]
  exact hashL_more h (l.drop 16).length n _ _ (by omega) (by rw [List.length_drop]; omega)
section
variable {F : Nat → Prop} {w : World} {A : Option Addr} {n c k : Nat} {l : List UInt8}
theorem Bs.empty (w : World) (F : Nat → Prop) (A : Option Addr) {c : Nat} (hc : c ≤ maxLen) : Bs w F (.slice A 0 c) [] := ⟨rfl, A, c, rfl, Nat.zero_le _, hc, fun h => absurd h (Nat.lt_irrefl 0)⟩
theorem Bs.lt {v : Value} (h : Bs w F v l) : Bs w (fun b => F b ∧ b < w.heap.size) v l := by
  obtain ⟨h1, A, c, hv, h2, h3, h4⟩ := h
  refine ⟨h1, A, c, hv, h2, h3, fun h0 => ?_⟩
  obtain ⟨b, off, e, hf, hc⟩ := h4 h0
  exact ⟨b, off, e, ⟨hf, World.block_lt_of_cell? w _ (hc 0 _ (List.getElem?_eq_getElem (by rw [u8s_length]; exact h0)))⟩, hc⟩
theorem Bs.len (h : Bs w F (.slice A n c) l) : n = l.length := by
  obtain ⟨_, A', c', e, _⟩ := h
  injection e
/-- The first k bytes of a slice. -/
theorem Bs.head (h : Bs w F (.slice A n c) l) (hk : k ≤ l.length) : Bs w F (.slice A k c) (l.take k) := by
  have hl : (l.take k).length = k := by rw [List.length_take]; omega
  obtain ⟨h1, A', c', e, h2, h3, h4⟩ := h
  injection e with e1 e2 e3
  subst e1 e3
  unfold Bs
  rw [hl]
  refine ⟨by rw [u8s_length, hl, Nat.mul_one], A, c, rfl, by omega, h3, fun h0 => ?_⟩
  obtain ⟨b, off, hA, hF, hc⟩ := h4 (by omega)
  refine ⟨b, off, hA, hF, fun j u hu => hc j u ?_⟩
  have hj : j < (u8s (l.take k)).length := (List.getElem?_eq_some_iff.1 hu).1
  rw [u8s_length, hl] at hj
  unfold u8s at hu ⊢
  rwa [List.map_take, List.getElem?_take_of_lt hj] at hu
/-- The bytes behind the first k. -/
theorem Bs.rest {b off : Nat} (h : Bs w F (.slice (some ⟨b, off, none⟩) n c) l) (hk : k ≤ l.length) {A' : Option Addr} {m c' : Nat} (hm : m = l.length - k) (hA : k < l.length → A' = some ⟨b, off + k, none⟩) (hc' : m ≤ c') (hx : c' ≤ maxLen) : Bs w F (.slice A' m c') (l.drop k) := by
  have hl : (l.drop k).length = m := by rw [List.length_drop, hm]
  obtain ⟨h1, A0, c0, e, h2, h3, h4⟩ := h
  injection e with e1 e2 e3
  unfold Bs
  rw [hl]
  refine ⟨by rw [u8s_length, hl, Nat.mul_one], A', c', rfl, hc', hx, fun h0 => ?_⟩
  obtain ⟨b', off', hA0, hF, hc⟩ := h4 (by omega)
  rw [← e1] at hA0
  injection hA0 with hA0
  injection hA0 with hb ho
  subst hb ho
  refine ⟨b, off + k, hA (by omega), hF, fun j u hu => ?_⟩
  rw [Nat.add_assoc]
  refine hc (k + j) u ?_
  unfold u8s at hu ⊢
  rwa [List.map_drop, List.getElem?_drop] at hu
end
set_option maxRecDepth 100000 in
set_option maxHeartbeats 2000000 in
theorem fHashT_any (g : Nat) (h f : G) (v : Value) (l : List UInt8) (w : World) (ht : IsTb w g (tb h) tov) (hv : Bs w Any v l) : Calls Try.prog 34 #[.pointer (some ⟨g, 0, none⟩), ev f, v] w fun e' w' => e' = .returned (ev (hash h f l)) ∧ Ext No w w' := by
  obtain ⟨A, c, rfl, hc, hm, b, o, hA⟩ := hv.slice
  unfold maxLen at hm
  have HV := Lib.hid (hv.lt.mono fun b hb => hb.2)
  have HT := Lib.hid ht
  clear ht hA hv
  unfold ev
  go_enter Try.func34, Try.ntmps34
  go_wp2_with fail
  have HP := Lib.hid ((Blk.new w 25 #[.int .u64 (hi f : Int), .int .u64 (lo f : Int)]).alloc (.cells #[.int .u64 0, .int .u64 0] 25))
  have HQ := Lib.hid (Blk.new (w.alloc (.cells #[.int .u64 (hi f : Int), .int .u64 (lo f : Int)] 25)) 25 #[.int .u64 0, .int .u64 0])
  have HX := Lib.hid (((Ext.refl No w).alloc (.cells #[.int .u64 (hi f : Int), .int .u64 (lo f : Int)] 25)).alloc (.cells #[.int .u64 0, .int .u64 0] 25))
  rw [World.size_alloc] at HQ
  have HV1 := Lib.hid (HV.out.ext_no HX.out)
  have hgl : g < w.heap.size := Blk.lt HT.out
  generalize ((w.alloc (.cells #[.int .u64 (hi f : Int), .int .u64 (lo f : Int)] 25)).alloc (.cells #[.int .u64 0, .int .u64 0] 25)) = w2 at *
  generalize hgo : w.heap.size = go at *
  go_loopw [2] (fun s wr => ∃ (A : Option Addr) (c : Nat) (l' : List UInt8) (f' : G), s = .slice A l'.length c ∧ l'.length ≤ c ∧ c ≤ 9223372036854775807 ∧ Hid (Bs wr (fun b => b < go) (.slice A l'.length c) l') ∧ Hid (hash h f l = hash h f' l') ∧ Hid (Blk wr go 25 #[.int .u64 (hi f' : Int), .int .u64 (lo f' : Int)]) ∧ Hid (∃ u v, Blk wr (go + 1) 25 #[u, v]) ∧ Hid (Ext No w wr)) (fun s _ => match s with | .slice _ n _ => n | _ => 0)
  case atStart => exact ⟨A, c, l, f, rfl, hc, by omega, HV1, Lib.hid rfl, HP, Lib.hid ⟨_, _, HQ.out⟩, HX⟩
  case round =>
    clear HP HQ HX HV1 hc hm
    obtain ⟨A, c, l', f', rfl, hc, hm, HB, HE, HP, HQ, HX⟩ := hrel
    by_cases h0 : 0 < l'.length
    · obtain ⟨A', c', e', _, _, b', o', hA'⟩ := HB.out.slice
      obtain ⟨hA0, _, hbl, _⟩ := hA' 0 h0
      injection e' with e1 _ e3
      subst e1 e3 hA0
      clear hA'
      have P := Blk.c2 HP.out
      have HT2 := Lib.hid (HT.out.ext_no HX.out)
      rcases (by omega : 16 < l'.length ∨ l'.length ≤ 16) with hk | hk
      · have hst := hash_step h f' l' (by intro e; rw [e] at h0; exact absurd h0 (by simp))
        have HST := Lib.hid hst
        have HB1 := Lib.hid (HB.out.head (k := 16) (by omega))
        have HB2 := Lib.hid (HB.out.rest (k := 16) (by omega) (A' := some ⟨b', o' + 16, none⟩) (m := l'.length - 16) (c' := c - 16) rfl (fun _ => rfl) (by omega) (by unfold maxLen; omega))
        have hck : ¬ c = 16 := by omega
        clear hst
        go_wp2_with fail
        go_region_with ((first
          | (go_at_call 22; refine (fFrom_any _ (l'.take 16) _ (by exact HB1.out.any)).mono ?_; rintro e' w6 ⟨rfl, hx6⟩; have HX6 := Lib.hid (HX.out.drew.trans hx6); have HBX := Lib.hid (show Ext No wr w6 from (Ext.refl No wr).drew.trans hx6); have P6 := Blk.c2 (HP.out.ext_no HBX.out); clear hx6)
          | (go_at_call 31; refine (fAdd_agg f' (elL (l'.take 16)) _).mono ?_; rintro e' w7 ⟨rfl, hx7⟩; have HX7 := Lib.hid (HX6.out.trans hx7); have HBX7 := Lib.hid (HBX.out.trans hx7); clear hx7)
          | (go_at_call 30; refine (fTimesT_agg g (f' ^^^ elL (l'.take 16)) h _ (by exact HT2.out.ext_no HBX7.out)).mono ?_; rintro e' w8 ⟨rfl, hx8⟩; have HX8 := Lib.hid (HX7.out.trans hx8); have HBX8 := Lib.hid (HBX7.out.trans hx8); have HP8 := Lib.hid (HP.out.ext_no HBX8.out); have P8 := Blk.c2 HP8.out; clear hx8)))
        all_goals
          have HQ8 := Lib.hid (show ∃ u v, Blk w8 (go + 1) 25 #[u, v] from let ⟨u, v, hq⟩ := HQ.out; ⟨u, v, hq.ext_no HBX8.out⟩)
          clear P6 HX6 HBX HX7 HBX7 HP HQ HX HT2
          generalize mul (f' ^^^ elL (l'.take 16)) h = m9 at *
          go_wp2
          go_roundw
          case rel =>
            have hxs : Ext (One go) w8 ((w8.setCell ⟨go, 0, none⟩ (.int .u64 (hi m9 : Int))).setCell ⟨go, 1, none⟩ (.int .u64 (lo m9 : Int))) := Ext.setCell (S := One go) (Ext.setCell (S := One go) (Ext.refl _ _) (fun _ => rfl) _) (fun _ => rfl) _
            refine ⟨_, _, l'.drop 16, m9, by rw [List.length_drop], by rw [List.length_drop]; omega, by omega, Lib.hid ?_, Lib.hid (by rw [HE.out, HST.out]; try rw [hash_nil]), Lib.hid ?_, Lib.hid ?_, Lib.hid ?_⟩
            · have := (HB2.out.ext_no HBX8.out).ext hxs (fun b hb _ h => by have h : b = go := h; omega)
              rw [List.length_drop]
              exact this
            · exact Blk.set_ (Blk.set_ HP8.out 0 _) 1 _
            · obtain ⟨u, v, hq⟩ := HQ8.out
              exact ⟨u, v, hq.ext hxs (fun h => by have h : go + 1 = go := h; omega)⟩
            · exact HX8.out.transS hxs (fun i hi h => by have h : i = go := h; omega)
          case measure => first | (show l'.length - 16 < l'.length; omega) | (show 0 < l'.length; omega) | (simp; omega)
      · have hst := hash_step h f' l' (by intro e; rw [e] at h0; exact absurd h0 (by simp))
        have HST : Hid (hash h f' l' = mul (f' ^^^ elL l') h) := Lib.hid (by
          rw [List.take_of_length_le (by omega), List.drop_of_length_le (by omega), hash_nil] at hst
          exact hst)
        clear hst
        by_cases hck : c = l'.length
        · subst hck
          go_wp2_with fail
          go_region_with ((first
            | (go_at_call 22; refine (fFrom_any _ (l') _ (by exact HB.out.any)).mono ?_; rintro e' w6 ⟨rfl, hx6⟩; have HX6 := Lib.hid (HX.out.drew.trans hx6); have HBX := Lib.hid (show Ext No wr w6 from (Ext.refl No wr).drew.trans hx6); have P6 := Blk.c2 (HP.out.ext_no HBX.out); clear hx6)
            | (go_at_call 31; refine (fAdd_agg f' (elL (l')) _).mono ?_; rintro e' w7 ⟨rfl, hx7⟩; have HX7 := Lib.hid (HX6.out.trans hx7); have HBX7 := Lib.hid (HBX.out.trans hx7); clear hx7)
            | (go_at_call 30; refine (fTimesT_agg g (f' ^^^ elL (l')) h _ (by exact HT2.out.ext_no HBX7.out)).mono ?_; rintro e' w8 ⟨rfl, hx8⟩; have HX8 := Lib.hid (HX7.out.trans hx8); have HBX8 := Lib.hid (HBX7.out.trans hx8); have HP8 := Lib.hid (HP.out.ext_no HBX8.out); have P8 := Blk.c2 HP8.out; clear hx8)))
          all_goals
            have HQ8 := Lib.hid (show ∃ u v, Blk w8 (go + 1) 25 #[u, v] from let ⟨u, v, hq⟩ := HQ.out; ⟨u, v, hq.ext_no HBX8.out⟩)
            clear P6 HX6 HBX HX7 HBX7 HP HQ HX HT2
            generalize mul (f' ^^^ elL (l')) h = m9 at *
            go_wp2
            go_roundw
            case rel =>
              have hxs : Ext (One go) w8 ((w8.setCell ⟨go, 0, none⟩ (.int .u64 (hi m9 : Int))).setCell ⟨go, 1, none⟩ (.int .u64 (lo m9 : Int))) := Ext.setCell (S := One go) (Ext.setCell (S := One go) (Ext.refl _ _) (fun _ => rfl) _) (fun _ => rfl) _
              refine ⟨_, _, [], m9, rfl, Nat.zero_le _, by omega, Lib.hid (Bs.empty _ _ _ (by unfold maxLen; omega)), Lib.hid (by rw [HE.out, HST.out]; try rw [hash_nil]), Lib.hid ?_, Lib.hid ?_, Lib.hid ?_⟩
              · exact Blk.set_ (Blk.set_ HP8.out 0 _) 1 _
              · obtain ⟨u, v, hq⟩ := HQ8.out
                exact ⟨u, v, hq.ext hxs (fun h => by have h : go + 1 = go := h; omega)⟩
              · exact HX8.out.transS hxs (fun i hi h => by have h : i = go := h; omega)
            case measure => first | (show l'.length - 16 < l'.length; omega) | (show 0 < l'.length; omega) | (simp; omega)
        · have hck2 : ¬ l'.length = c := fun e => hck e.symm
          go_wp2_with fail
          go_region_with ((first
            | (go_at_call 22; refine (fFrom_any _ (l') _ (by exact HB.out.any)).mono ?_; rintro e' w6 ⟨rfl, hx6⟩; have HX6 := Lib.hid (HX.out.drew.trans hx6); have HBX := Lib.hid (show Ext No wr w6 from (Ext.refl No wr).drew.trans hx6); have P6 := Blk.c2 (HP.out.ext_no HBX.out); clear hx6)
            | (go_at_call 31; refine (fAdd_agg f' (elL (l')) _).mono ?_; rintro e' w7 ⟨rfl, hx7⟩; have HX7 := Lib.hid (HX6.out.trans hx7); have HBX7 := Lib.hid (HBX.out.trans hx7); clear hx7)
            | (go_at_call 30; refine (fTimesT_agg g (f' ^^^ elL (l')) h _ (by exact HT2.out.ext_no HBX7.out)).mono ?_; rintro e' w8 ⟨rfl, hx8⟩; have HX8 := Lib.hid (HX7.out.trans hx8); have HBX8 := Lib.hid (HBX7.out.trans hx8); have HP8 := Lib.hid (HP.out.ext_no HBX8.out); have P8 := Blk.c2 HP8.out; clear hx8)))
          all_goals
            have HQ8 := Lib.hid (show ∃ u v, Blk w8 (go + 1) 25 #[u, v] from let ⟨u, v, hq⟩ := HQ.out; ⟨u, v, hq.ext_no HBX8.out⟩)
            clear P6 HX6 HBX HX7 HBX7 HP HQ HX HT2
            generalize mul (f' ^^^ elL (l')) h = m9 at *
            go_wp2
            go_roundw
            case rel =>
              have hxs : Ext (One go) w8 ((w8.setCell ⟨go, 0, none⟩ (.int .u64 (hi m9 : Int))).setCell ⟨go, 1, none⟩ (.int .u64 (lo m9 : Int))) := Ext.setCell (S := One go) (Ext.setCell (S := One go) (Ext.refl _ _) (fun _ => rfl) _) (fun _ => rfl) _
              refine ⟨_, _, [], m9, rfl, Nat.zero_le _, by omega, Lib.hid (Bs.empty _ _ _ (by unfold maxLen; omega)), Lib.hid (by rw [HE.out, HST.out]; try rw [hash_nil]), Lib.hid ?_, Lib.hid ?_, Lib.hid ?_⟩
              · exact Blk.set_ (Blk.set_ HP8.out 0 _) 1 _
              · obtain ⟨u, v, hq⟩ := HQ8.out
                exact ⟨u, v, hq.ext hxs (fun h => by have h : go + 1 = go := h; omega)⟩
              · exact HX8.out.transS hxs (fun i hi h => by have h : i = go := h; omega)
            case measure => first | (show l'.length - 16 < l'.length; omega) | (show 0 < l'.length; omega) | (simp; omega)
    · have hl0 : l' = [] := List.eq_nil_of_length_eq_zero (by omega)
      have P := Blk.c2 HP.out
      have hq0 := HQ.out
      obtain ⟨u, v, hq⟩ := hq0
      have Q := Blk.c2 hq
      have HE2 : Hid (hash h f l = f') := Lib.hid (by rw [HE.out, hl0]; rfl)
      have HX9 := Lib.hid (HX.out)
      clear hq HQ HP HE hl0
      go_wp2_with fail
      exact bodyPost_ret (v := .agg #[.int .u64 (hi f' : Int), .int .u64 (lo f' : Int)]) (by simp [results, Try.results34, go_sem, P, Q]) rfl ⟨by rw [HE2.out], by repeat (first | with_reducible refine Ext.drew ?_ | with_reducible refine Ext.setCell ?_ (fun h => by have h : go + 1 < w.heap.size := h; omega) _ | with_reducible exact HX9.out)⟩
end Go.Proofs.Ytljddghamgjfbaa
