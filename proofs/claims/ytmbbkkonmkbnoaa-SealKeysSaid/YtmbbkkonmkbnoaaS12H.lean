/- KeysP, SameAll. -/
import Derived.Test.YtmbbkkonmkbnoaaS12G
import Derived.Test.YtmbbkkonmkbnoaaS12A
import Derived.BigQuiet
set_option linter.unusedVariables false
set_option linter.unusedSimpArgs false
namespace Go.Proofs.Ytmbbkkonmkbnoaa
open Go.RowKit
theorem putL_inj (s : Nat) : ∀ (m n : Nat), m < 256 ^ s → n < 256 ^ s → putL m s = putL n s → m = n := by
  induction s with
  | zero => intro m n hm hn _; simp at hm hn; omega
  | succ s ih =>
    intro m n hm hn h
    unfold putL at h
    have hl : (putL (m / 256) s).length = (putL (n / 256) s).length := by rw [putL_length, putL_length]
    obtain ⟨h1, h2⟩ := List.append_inj h hl
    have e1 := ih (m / 256) (n / 256) (by rw [Nat.div_lt_iff_lt_mul (by omega)]; rw [Nat.pow_succ] at hm; exact hm) (by rw [Nat.div_lt_iff_lt_mul (by omega)]; rw [Nat.pow_succ] at hn; exact hn) h1
    injection h2 with h2
    have h3 := congrArg UInt8.toNat h2
    rw [UInt8.toNat_ofNat', UInt8.toNat_ofNat'] at h3
    omega
theorem noiseL_inj {m n a b : Nat} (hm : m < 1000000000) (hn : n < 1000000000) (h : noiseL m a = noiseL n b) : m = n := by
  unfold noiseL at h
  have hl : (putL m 8).length = (putL n 8).length := by rw [putL_length, putL_length]
  have h1 := (List.append_inj h hl).1
  have h2 : (1000000000 : Nat) < 256 ^ 8 := by decide
  exact putL_inj 8 m n (by omega) (by omega) h1
theorem packL_cons (p : List UInt8) (ls : List (List UInt8)) : packL (p :: ls) = putL p.length 4 ++ p ++ packL ls := by unfold packL; simp
theorem packL_inj : ∀ (l m : List (List UInt8)), (∀ p ∈ l, p.length < 1000000000) → (∀ p ∈ m, p.length < 1000000000) → packL l = packL m → l = m := by
  have h4 : (1000000000 : Nat) < 256 ^ 4 := by decide
  intro l
  induction l with
  | nil =>
    intro m _ _ h
    cases m with
    | nil => rfl
    | cons q m =>
      have := congrArg List.length h
      have e0 : (packL ([] : List (List UInt8))).length = 0 := rfl
      rw [packL_cons, List.length_append, List.length_append, putL_length] at this
      omega
  | cons p l ih =>
    intro m hl hm h
    cases m with
    | nil =>
      have := congrArg List.length h
      have e0 : (packL ([] : List (List UInt8))).length = 0 := rfl
      rw [packL_cons, List.length_append, List.length_append, putL_length] at this
      omega
    | cons q m =>
      rw [packL_cons, packL_cons, List.append_assoc, List.append_assoc] at h
      obtain ⟨h1, h2⟩ := List.append_inj h (by rw [putL_length, putL_length])
      have hlen := putL_inj 4 _ _ (Nat.lt_trans (hl p (List.mem_cons_self ..)) h4) (Nat.lt_trans (hm q (List.mem_cons_self ..)) h4) h1
      obtain ⟨h3, h5⟩ := List.append_inj h2 hlen
      rw [h3, ih m (fun x hx => hl x (List.mem_cons_of_mem _ hx)) (fun x hx => hm x (List.mem_cons_of_mem _ hx)) h5]
theorem key4_inj {a b : Nat} : key4 a = key4 b ↔ a % 4 = b % 4 := by
  unfold key4
  constructor
  · intro h
    injection h with h _
    have h3 := congrArg UInt8.toNat h
    rw [UInt8.toNat_ofNat', UInt8.toNat_ofNat'] at h3
    omega
  · intro h; rw [h]
/-- Each child's key is a noise of its own. -/
structure Kd (k : Nat) (S : Sr) : Prop where
  i : S.ideal = true
  c : S.count ≤ k
  l : S.kids.length ≤ k
  n : ∀ c ∈ S.kids, ∃ n, 1 ≤ n ∧ n ≤ S.count ∧ c.key = noiseL n 32
  u : ∀ c ∈ S.kids, ∀ d ∈ S.kids, c.key = d.key → c = d
theorem Kd.new : Kd 0 (Sr.new true) := ⟨rfl, Nat.le_refl _, Nat.le_refl _, (fun c h => by cases h), (fun c h => by cases h)⟩
theorem Kd.step {k : Nat} {S : Sr} (h : Kd k S) (hk : k < 100000) (f w : List UInt8) : Kd (k + 1) (kidSr S f w) := by
  unfold kidSr
  cases hf : S.kids.find? (hitC f w) with
  | some c => exact ⟨h.i, Nat.le_succ_of_le h.c, Nat.le_succ_of_le h.l, h.n, h.u⟩
  | none =>
    have hc := h.c
    have old : ∀ c ∈ S.kids, c.key ≠ noiseL (S.count + 1) 32 := fun c hc' e => by
      obtain ⟨n, h1, h2, h3⟩ := h.n c hc'
      rw [h3] at e
      have := noiseL_inj (by omega) (by omega) e
      omega
    refine ⟨h.i, by show S.count + 1 ≤ k + 1; omega, by show (S.kids ++ _).length ≤ _; rw [List.length_append]; have := h.l; simp; omega, fun c hc' => ?_, fun c hc' d hd e => ?_⟩
    · rcases List.mem_append.1 hc' with hc' | hc'
      · obtain ⟨n, h1, h2, h3⟩ := h.n c hc'
        exact ⟨n, h1, Nat.le_succ_of_le h2, h3⟩
      · rw [List.mem_singleton.1 hc']
        exact ⟨S.count + 1, by omega, Nat.le_refl _, rfl⟩
    · rcases List.mem_append.1 hc' with hc' | hc' <;> rcases List.mem_append.1 hd with hd | hd
      · exact h.u c hc' d hd e
      · rw [List.mem_singleton.1 hd] at e; exact absurd e (old c hc')
      · rw [List.mem_singleton.1 hc'] at e; exact absurd e.symm (old d hd)
      · rw [List.mem_singleton.1 hc', List.mem_singleton.1 hd]
/-- A child that is there stays, and answers. -/
theorem kid_has {S : Sr} {f w : List UInt8} : ∃ c, (kidSr S f w).kids.find? (hitC f w) = some c ∧ c.key = kidKey S f w := by
  unfold kidSr kidKey
  cases hf : S.kids.find? (hitC f w) with
  | some c => exact ⟨c, hf, rfl⟩
  | none => exact ⟨⟨f, w, noiseL (S.count + 1) 32⟩, by show (S.kids ++ _).find? _ = _; rw [List.find?_append, hf]; simp [hitC], rfl⟩
theorem kid_stays {S : Sr} {f w f' w' : List UInt8} {c : Ch} (h : S.kids.find? (hitC f w) = some c) : (kidSr S f' w').kids.find? (hitC f w) = some c := by
  unfold kidSr
  cases hf : S.kids.find? (hitC f' w') with
  | some d => exact h
  | none => show (S.kids ++ _).find? _ = _; rw [List.find?_append, h]; rfl
theorem kid_again {S : Sr} {f w : List UInt8} {c : Ch} (h : S.kids.find? (hitC f w) = some c) : kidKey S f w = c.key := by unfold kidKey; rw [h]
theorem hit_eq {f w : List UInt8} {S : Sr} {c : Ch} (h : S.kids.find? (hitC f w) = some c) : c ∈ S.kids ∧ c.from_ = f ∧ c.what = w := by
  have h1 := List.find?_some h
  unfold hitC at h1
  rw [Bool.and_eq_true, decide_eq_true_eq, decide_eq_true_eq] at h1
  exact ⟨List.mem_of_find?_eq_some h, h1.1, h1.2⟩
/-- Unlike keys of unlike keys, or for unlike ends; the same again. -/
theorem kid_apart {k : Nat} {S : Sr} (h : Kd k S) (hk : k < 100000) {f w f' w' : List UInt8} {c : Ch} (hc : S.kids.find? (hitC f w) = some c) : decide (c.key = kidKey S f' w') = decide (f = f' ∧ w = w') := by
  obtain ⟨d, hd, he⟩ := kid_has (S := S) (f := f') (w := w')
  have hc' := kid_stays (f' := f') (w' := w') hc
  have h2 := h.step hk f' w'
  obtain ⟨m1, a1, a2⟩ := hit_eq hc'
  obtain ⟨m2, b1, b2⟩ := hit_eq hd
  rw [← he, decide_eq_decide]
  constructor
  · intro e
    have := h2.u c m1 d m2 e
    rw [this] at a1 a2
    exact ⟨a1.symm.trans b1, a2.symm.trans b2⟩
  · rintro ⟨rfl, rfl⟩
    rw [hc'] at hd
    injection hd with hd
    rw [hd]
theorem Kd.keys {k : Nat} {S : Sr} (h : Kd k S) : ∀ c ∈ S.kids, c.key.length ≤ 1000000 := fun c hc => by
  obtain ⟨n, _, _, h3⟩ := h.n c hc
  rw [h3, noiseL_length _ _ (by decide)]; decide
theorem Kd.klen {k : Nat} {S : Sr} (h : Kd k S) (f w : List UInt8) : (kidKey S f w).length = 32 := by
  unfold kidKey
  cases hf : S.kids.find? (hitC f w) with
  | some c =>
    obtain ⟨n, _, _, h3⟩ := h.n c (List.mem_of_find?_eq_some hf)
    show c.key.length = 32
    rw [h3, noiseL_length _ _ (by decide)]
  | none => exact noiseL_length _ _ (by decide)
end Go.Proofs.Ytmbbkkonmkbnoaa
namespace Go.Proofs.Ytmbbkkonmkbnoaa
open Go.RowKit Go.Deep
theorem rSame_q1 (v1 v2 : Value) (l1 l2 : List UInt8) (q : Bool) (hq : decide (l1 = l2) = q) (w : World) (h1 : Bs w Any v1 l1) (h2 : Bs w Any v2 l2) :
    Calls Try.prog 25 #[v1, v2] w fun e w' => e = .returned (.bool q) ∧ Ext No w w' :=
  (rSame_any v1 v2 l1 l2 w h1 h2).mono (by rintro e w' ⟨rfl, n, rfl⟩; exact ⟨by rw [hq], (Ext.refl No w).drewN n⟩)
set_option maxRecDepth 100000 in
set_option maxHeartbeats 1000000 in
theorem rSameAll_any (v1 v2 : Value) (l m : List (List UInt8)) (q : Bool) (hq : decide (l = m) = q) (w : World) (h1 : Parts w Any v1 l) (h2 : Parts w Any v2 m) :
    Calls Try.prog 21 #[v1, v2] w fun e w' => e = .returned (.bool q) ∧ Ext No w w' := by
  obtain ⟨A, c, rfl, hc, hcm, b, o, hA⟩ := h1.slice
  obtain ⟨B, d, rfl, hd, hdm, b', o', hB⟩ := h2.slice
  unfold maxLen at hcm hdm
  have HA := Lib.hid hA
  have HB := Lib.hid hB
  have HQ := Lib.hid hq
  clear h1 h2 hA hB hq
  by_cases hl : l.length = m.length
  · have ht : ((l.length : Int) != (m.length : Int)) = false := by simp [hl]
    have HL := Lib.hid hl
    clear hl
    go_enter Try.func21, Try.ntmps21
    go_wp2
    go_loopw [5] (fun i wr => ∃ k : Nat, k ≤ l.length ∧ i = .int .i64 k ∧ Hid (l.take k = m.take k) ∧ Ext No w wr) (fun i _ => l.length - (intOf i).toNat)
    case atStart => exact ⟨0, by omega, rfl, Lib.hid rfl, Ext.refl No w⟩
    case round =>
      obtain ⟨k, hk, rfl, HT, hxr⟩ := hrel
      have HXR := Lib.hid hxr
      by_cases hlt : k < l.length
      · have hlt2 : k < m.length := by have := HL.out; omega
        obtain ⟨A', c', rfl, ⟨_, hbl⟩, e1, hbs⟩ := HA.out k hlt
        obtain ⟨B', d', rfl, ⟨_, hbl2⟩, e2, hbs2⟩ := HB.out k hlt2
        have hi0 : (0 : Int) ≤ (k : Int) := by omega
        have hi1 : (k : Int) < (l.length : Int) := by omega
        have hi2 : (k : Int) < (m.length : Int) := by omega
        have e1' : wr.cell? ⟨b, o + k, none⟩ = _ := (hxr.cell (p := ⟨b, o + k, none⟩) hbl (fun h => h)).trans e1
        have e2' : wr.cell? ⟨b', o' + k, none⟩ = _ := (hxr.cell (p := ⟨b', o' + k, none⟩) hbl2 (fun h => h)).trans e2
        have hb1 : b < wr.heap.size := Nat.lt_of_lt_of_le hbl hxr.size
        have hb2 : b' < wr.heap.size := Nat.lt_of_lt_of_le hbl2 hxr.size
        obtain ⟨x, hx⟩ : ∃ x, l[k] = x := ⟨_, rfl⟩
        obtain ⟨y, hy⟩ : ∃ y, m[k] = y := ⟨_, rfl⟩
        have hs1 : l.take (k + 1) = l.take k ++ [x] := by rw [← hx]; exact List.take_succ_eq_append_getElem hlt
        have hs2 : m.take (k + 1) = m.take k ++ [y] := by rw [← hy]; exact List.take_succ_eq_append_getElem hlt2
        rw [hx] at hbs e1 e1'
        rw [hy] at hbs2 e2 e2'
        have HX1 := Lib.hid hbs
        have HX2 := Lib.hid hbs2
        by_cases heq : x = y
        · have HS : Hid (l.take (k + 1) = m.take (k + 1)) := Lib.hid (by rw [hs1, hs2, HT.out, heq])
          have HD : Hid (decide (x = y) = true) := Lib.hid (decide_eq_true heq)
          clear hs1 hs2 hx hy heq hbs hbs2 hxr e1 e2
          go_wp2_with fail
          go_region_held3 (fun w' => w'.cell? ⟨b, o + k, none⟩ = some (.slice A' x.length c') ∧ w'.cell? ⟨b', o' + k, none⟩ = some (.slice B' y.length d'))
            (first | go_keep | exact ⟨(hx9.cell (p := ⟨b, o + k, none⟩) (by simpa using hb1) (fun h => h)).trans (by go_keep), (hx9.cell (p := ⟨b', o' + k, none⟩) (by simpa using hb2) (fun h => h)).trans (by go_keep)⟩)
            (first | (go_at_call 25; refine (rSame_q1 _ _ x y true HD.out _ ((HX1.out.any.ext_no HXR.out).ext_no ((Ext.refl No wr).drew)) ((HX2.out.any.ext_no HXR.out).ext_no ((Ext.refl No wr).drew))).mono ?_; rintro e w9 ⟨rfl, hx9⟩))
          have HX9 := Lib.hid (HXR.out.trans (((Ext.refl No wr).drew).trans hx9))
          clear hx9
          go_wp2
          go_roundw
          case rel => exact ⟨k + 1, by omega, by go_num, HS, HX9.out⟩
          case measure => simp [intOf]; omega
        · have HD : Hid (decide (x = y) = false) := Lib.hid (decide_eq_false heq)
          have HN : Hid (q = false) := Lib.hid (by
            rw [← HQ.out]
            refine decide_eq_false (fun e => heq ?_)
            subst e
            rw [← hx, ← hy])
          clear hs1 hs2 hx hy heq hbs hbs2 hxr e1 e2
          go_wp2_with fail
          go_region_held3 (fun w' => w'.cell? ⟨b, o + k, none⟩ = some (.slice A' x.length c') ∧ w'.cell? ⟨b', o' + k, none⟩ = some (.slice B' y.length d'))
            (first | go_keep | exact ⟨(hx9.cell (p := ⟨b, o + k, none⟩) (by simpa using hb1) (fun h => h)).trans (by go_keep), (hx9.cell (p := ⟨b', o' + k, none⟩) (by simpa using hb2) (fun h => h)).trans (by go_keep)⟩)
            (first | (go_at_call 25; refine (rSame_q1 _ _ x y false HD.out _ ((HX1.out.any.ext_no HXR.out).ext_no ((Ext.refl No wr).drew)) ((HX2.out.any.ext_no HXR.out).ext_no ((Ext.refl No wr).drew))).mono ?_; rintro e w9 ⟨rfl, hx9⟩))
          have HX9 := Lib.hid (HXR.out.trans (((Ext.refl No wr).drew).trans hx9))
          clear hx9
          go_wp2
          go_ret
          exact ⟨by rw [HN.out]; rfl, HX9.out⟩
      · have hke : k = l.length := by omega
        have HE : Hid (q = true) := Lib.hid (by
          rw [← HQ.out]
          have h := HT.out
          have hl := HL.out
          rw [List.take_of_length_le (by omega), List.take_of_length_le (by omega)] at h
          exact decide_eq_true h)
        clear hke hxr
        go_wp2
        go_ret
        exact ⟨by rw [HE.out]; rfl, HXR.out⟩
  · have ht : ((l.length : Int) != (m.length : Int)) = true := by simp; omega
    have HN : Hid (q = false) := Lib.hid (by rw [← HQ.out]; exact decide_eq_false (fun e => hl (by rw [e])))
    have HX := Lib.hid (Ext.refl No w)
    clear hl
    go_enter Try.func21, Try.ntmps21
    go_wp2
    go_ret
    exact ⟨by rw [HN.out]; rfl, HX.out⟩
end Go.Proofs.Ytmbbkkonmkbnoaa
