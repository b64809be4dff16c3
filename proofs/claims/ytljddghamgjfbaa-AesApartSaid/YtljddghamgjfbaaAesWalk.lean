/- Package aes: the tables. -/
import Derived.Test.YtljddghamgjfbaaAesMath
import Derived.Test.YtljddghamgjfbaaArr
import Derived.Laws.BitsAllLaws
import Derived.Laws.Shifts
set_option linter.unusedVariables false
set_option linter.unusedSimpArgs false
namespace Go.Proofs.Ytljddghamgjfbaa
open Go.RowKit Go.Deep Ae

set_option maxRecDepth 100000 in
theorem aDouble_any (c : UInt8) (w : World) : Calls Try.prog 82 #[.int .u8 (c.toNat : Int)] w fun e w' => e = .returned (.int .u8 ((db c).toNat : Int)) ∧ w = w' := by
  have hc := c.toNat_lt
  obtain ⟨d, hd⟩ : ∃ d, db c = d := ⟨_, rfl⟩
  rw [hd]
  have HD := Lib.hid hd
  clear hd
  by_cases h : 128 ≤ c.toNat
  · go_enter Try.func82, Try.ntmps82
    go_wp2
    go_ret
    refine ⟨congrArg (fun z => Ending.returned (Value.int .u8 z)) ?_, rfl⟩
    show bits .xor .u8 ((c.toNat : Int) * 2 % 256) 27 = _
    rw [← HD.out, db_nat, show ((c.toNat : Int) * 2 % 256) = ((c.toNat * 2 % 256 : Nat) : Int) by simp, show (27 : Int) = ((27 : Nat) : Int) from rfl, u8_xor_nat _ _ (by omega) (by omega)]
    unfold dblN
    rw [if_pos (by rw [Nat.ble_eq]; exact h)]
    rfl
  · go_enter Try.func82, Try.ntmps82
    go_wp2
    go_ret
    refine ⟨congrArg (fun z => Ending.returned (Value.int .u8 z)) ?_, rfl⟩
    show (c.toNat : Int) * 2 = _
    rw [← HD.out, db_nat]
    unfold dblN
    rw [if_neg (by rw [Nat.ble_eq]; exact h)]
    simp

/-- A table's block. -/
abbrev IsT (w : World) (g : Nat) : Prop := Blk w g 114 (u8s tbl).toArray
theorem z512 : Try.zeroCells114 = (u8s (List.replicate 512 0)).toArray := by kernel_rfl
theorem z256 : Try.zeroCells112 = (u8s (List.replicate 256 0)).toArray := by kernel_rfl
/-- A row of numbers as cells. -/
def iv (n : Nat) : Value := Value.int IntKind.i64 (n : Int)
def i64s (l : List Nat) : List Value := l.map iv
theorem i64s_length (l : List Nat) : (i64s l).length = l.length := by simp [i64s]
theorem i64s_get (l : List Nat) (i : Nat) (h : i < l.length) : (i64s l).toArray[i]? = some (.int .i64 ((l.getD i 0 : Nat) : Int)) := by
  simp [i64s, iv, h, List.getD_eq_getElem?_getD]
theorem i64s_set (l : List Nat) (i n : Nat) : (i64s l).toArray.setIfInBounds i (.int .i64 (n : Int)) = (i64s (l.set i n)).toArray := by
  simp [i64s, iv, List.map_set]
theorem zi256 : Try.zeroCells115 = (i64s (List.replicate 256 0)).toArray := by kernel_rfl
theorem xor_u8 (a x : UInt8) : bits .xor .u8 (a.toNat : Int) (x.toNat : Int) = ((a ^^^ x).toNat : Int) := by
  rw [u8_xor_nat _ _ a.toNat_lt x.toNat_lt, UInt8.toNat_xor]
/-- Within Build, loop 1. -/
structure Bd1 (w0 : World) (k : Nat) (c : UInt8) (w : World) : Prop where
  t : Blk w w0.heap.size 114 (u8s (List.replicate 512 0)).toArray
  p : ∃ P : List UInt8, P.length = 256 ∧ (∀ j, j < k → (P.getD j 0).toNat = pwN j) ∧ Blk w (w0.heap.size + 1) 112 (u8s P).toArray
  l : ∃ L : List Nat, L.length = 256 ∧ (∀ j, j < k → L.getD (pwN j) 0 = j) ∧ Blk w (w0.heap.size + 1 + 1) 115 (i64s L).toArray
  c : k < 255 → c.toNat = pwN k
  x : Ext No w0 w
theorem pw_inj {i j : Nat} (hi : i < 255) (hj : j < 255) (h : pwN i = pwN j) : i = j := by
  rw [← lg_pw i hi, ← lg_pw j hj, h]
theorem getD_set {α : Type} (l : List α) (i j : Nat) (x d : α) (h : i < l.length) : (l.set i x).getD j d = if i = j then x else l.getD j d := by
  rw [List.getD_eq_getElem?_getD, List.getElem?_set, List.getD_eq_getElem?_getD]
  by_cases e : i = j
  · rw [if_pos e, if_pos e, if_pos (by omega)]; rfl
  · rw [if_neg e, if_neg e]
theorem Bd1.step {w0 w : World} {k : Nat} {c : UInt8} (h : Bd1 w0 k c w) (hk : k < 255) :
    Bd1 w0 (k + 1) (c ^^^ db c) ((w.setCell ⟨w0.heap.size + 1, k, none⟩ (.int .u8 (c.toNat : Int))).setCell ⟨w0.heap.size + 1 + 1, c.toNat, none⟩ (.int .i64 (k : Int))) := by
  obtain ⟨P, hP, hP2, hP3⟩ := h.p
  obtain ⟨L, hL, hL2, hL3⟩ := h.l
  have hc := h.c hk
  have hcl := c.toNat_lt
  refine ⟨(h.t.far (by simp) _).far (by simp; omega) _, ⟨P.set k c, by rw [List.length_set, hP], fun j hj => ?_, ?_⟩, ⟨L.set c.toNat k, by rw [List.length_set, hL], fun j hj => ?_, ?_⟩, fun hk2 => ?_, ?_⟩
  · rw [getD_set _ _ _ _ _ (by omega)]
    by_cases e : k = j
    · subst e; rw [if_pos rfl, hc]
    · rw [if_neg e, hP2 j (by omega)]
  · have := (Blk.set_ hP3 k (.int .u8 (c.toNat : Int))).far (p := ⟨w0.heap.size + 1 + 1, c.toNat, none⟩) (by simp) (.int .i64 (k : Int))
    rwa [u8s_set] at this
  · rw [getD_set _ _ _ _ _ (by omega), hc]
    by_cases e : pwN k = pwN j
    · rw [if_pos e]; exact pw_inj hk (by omega) e
    · rw [if_neg e]
      refine hL2 j ?_
      have : j ≠ k := fun h => e (by rw [h])
      omega
  · have := Blk.set_ (hL3.far (p := ⟨w0.heap.size + 1, k, none⟩) (by simp) (.int .u8 (c.toNat : Int))) c.toNat (.int .i64 (k : Int))
    rwa [i64s_set] at this
  · rw [UInt8.toNat_xor, db_nat, hc, pw_step k (by omega)]; rfl
  · refine Ext.setCell (Ext.setCell h.x (fun h => ?_) _) (fun h => ?_) _
    · have h : w0.heap.size + 1 < w0.heap.size := h; omega
    · have h : w0.heap.size + 1 + 1 < w0.heap.size := h; omega
/-- Within Build, loop 2: so many boxes, so many doubles. -/
structure Bd2 (w0 : World) (k m : Nat) (w : World) : Prop where
  t : ∃ T : List UInt8, T.length = 512 ∧ (∀ j, j < k → (T.getD j 0).toNat = bxN j) ∧ (∀ j, j < m → (T.getD (256 + j) 0).toNat = dblN j) ∧ Blk w w0.heap.size 114 (u8s T).toArray
  p : ∃ P : List UInt8, P.length = 256 ∧ (∀ j, j < 255 → (P.getD j 0).toNat = pwN j) ∧ Blk w (w0.heap.size + 1) 112 (u8s P).toArray
  l : ∃ L : List Nat, L.length = 256 ∧ (∀ j, 0 < j → j < 256 → L.getD j 0 = lgN j) ∧ Blk w (w0.heap.size + 1 + 1) 115 (i64s L).toArray
  x : Ext No w0 w
theorem Bd2.drewN {w0 w : World} {k m : Nat} (h : Bd2 w0 k m w) (n : Nat) : Bd2 w0 k m (w.drewN n) := ⟨h.t, h.p, h.l, h.x.drewN n⟩
theorem Bd2.drew {w0 w : World} {k m : Nat} (h : Bd2 w0 k m w) : Bd2 w0 k m w.drew := ⟨h.t, h.p, h.l, h.x.drew⟩
theorem Bd1.to2 {w0 w : World} {c : UInt8} (h : Bd1 w0 255 c w) : Bd2 w0 0 0 w := by
  obtain ⟨P, hP, hP2, hP3⟩ := h.p
  obtain ⟨L, hL, hL2, hL3⟩ := h.l
  refine ⟨⟨List.replicate 512 0, List.length_replicate, fun j hj => by omega, fun j hj => by omega, h.t⟩, ⟨P, hP, hP2, hP3⟩, ⟨L, hL, fun j h0 hj => ?_, hL3⟩, h.x⟩
  have := pw_lg j h0 hj
  rw [← hL2 (lgN j) this.2, this.1]
theorem Bd2.two {w0 w : World} {k : Nat} (h : Bd2 w0 k k w) (hk : k < 256) : Bd2 w0 k (k + 1) (w.setCell ⟨w0.heap.size, 256 + k, none⟩ (.int .u8 (dblN k : Int))) := by
  obtain ⟨T, hT, hT1, hT2, hT3⟩ := h.t
  obtain ⟨P, hP, hP2, hP3⟩ := h.p
  obtain ⟨L, hL, hL2, hL3⟩ := h.l
  refine ⟨⟨T.set (256 + k) (UInt8.ofNat (dblN k)), by rw [List.length_set, hT], fun j hj => ?_, fun j hj => ?_, ?_⟩, ⟨P, hP, hP2, hP3.far (by simp) _⟩, ⟨L, hL, hL2, hL3.far (by simp; omega) _⟩, ?_⟩
  · rw [getD_set _ _ _ _ _ (by omega), if_neg (by omega)]
    exact hT1 j hj
  · rw [getD_set _ _ _ _ _ (by omega)]
    by_cases e : k = j
    · subst e
      rw [if_pos rfl, toNat_of (dbl_lt k hk)]
    · rw [if_neg (by omega)]
      exact hT2 j (by omega)
  · have := Blk.set_ hT3 (256 + k) (.int .u8 ((UInt8.ofNat (dblN k)).toNat : Int))
    rw [u8s_set, toNat_of (dbl_lt k hk)] at this
    exact this
  · exact Ext.setCell h.x (fun h => by have h : w0.heap.size < w0.heap.size := h; omega) _
theorem Bd2.box {w0 w : World} {k : Nat} (h : Bd2 w0 k (k + 1) w) (hk : k < 256) : Bd2 w0 (k + 1) (k + 1) (w.setCell ⟨w0.heap.size, k, none⟩ (.int .u8 (bxN k : Int))) := by
  obtain ⟨T, hT, hT1, hT2, hT3⟩ := h.t
  obtain ⟨P, hP, hP2, hP3⟩ := h.p
  obtain ⟨L, hL, hL2, hL3⟩ := h.l
  refine ⟨⟨T.set k (UInt8.ofNat (bxN k)), by rw [List.length_set, hT], fun j hj => ?_, fun j hj => ?_, ?_⟩, ⟨P, hP, hP2, hP3.far (by simp) _⟩, ⟨L, hL, hL2, hL3.far (by simp; omega) _⟩, ?_⟩
  · rw [getD_set _ _ _ _ _ (by omega)]
    by_cases e : k = j
    · subst e
      rw [if_pos rfl, toNat_of (bx_lt k hk)]
    · rw [if_neg (by omega)]
      exact hT1 j (by omega)
  · rw [getD_set _ _ _ _ _ (by omega), if_neg (by omega)]
    exact hT2 j hj
  · have := Blk.set_ hT3 k (.int .u8 ((UInt8.ofNat (bxN k)).toNat : Int))
    rw [u8s_set, toNat_of (bx_lt k hk)] at this
    exact this
  · exact Ext.setCell h.x (fun h => by have h : w0.heap.size < w0.heap.size := h; omega) _
theorem sbK_succ (v k : Nat) (hv : v < 256) (hk : k < 5) : bits .xor .u8 (sbK v k : Int) (bits .or .u8 ((v * 2 ^ k % 256 : Nat) : Int) ((v / 2 ^ (8 - k) : Nat) : Int)) = (sbK v (k + 1) : Int) := by
  have h1 : v / 2 ^ (8 - k) < 256 := Nat.lt_of_le_of_lt (Nat.div_le_self _ _) hv
  have h2 : v * 2 ^ k % 256 < 256 := Nat.mod_lt _ (by omega)
  rw [u8_or_nat _ _ h2 h1, u8_xor_nat _ _ (sbK_lt v k hv (by omega)) (Nat.or_lt_two_pow (n := 8) h2 h1)]
  rfl
theorem Bd2.done {w0 w : World} (h : Bd2 w0 256 256 w) : IsT w w0.heap.size := by
  obtain ⟨T, hT, hT1, hT2, hT3⟩ := h.t
  have : T = tbl := by
    apply List.ext_getElem?
    intro i
    by_cases h1 : i < 256
    · have h2 := tbl_box (UInt8.ofNat i)
      rw [toNat_of h1] at h2
      rw [h2, List.getElem?_eq_getElem (by omega)]
      congr 1
      have h3 := hT1 i h1
      rw [List.getD_eq_getElem?_getD, List.getElem?_eq_getElem (by omega)] at h3
      apply UInt8.toNat_inj.1
      rw [bx_nat, toNat_of h1]
      exact h3
    · by_cases h2 : i < 512
      · obtain ⟨j, rfl⟩ : ∃ j, i = 256 + j := ⟨i - 256, by omega⟩
        have h4 := tbl_two (UInt8.ofNat j)
        rw [toNat_of (by omega)] at h4
        rw [h4, List.getElem?_eq_getElem (by omega)]
        congr 1
        have h3 := hT2 j (by omega)
        rw [List.getD_eq_getElem?_getD, List.getElem?_eq_getElem (by omega)] at h3
        apply UInt8.toNat_inj.1
        rw [db_nat, toNat_of (by omega)]
        exact h3
      · rw [List.getElem?_eq_none (by omega), List.getElem?_eq_none (by rw [tbl_length]; omega)]
  show Blk w _ _ (u8s tbl).toArray
  rw [← this]
  exact hT3
set_option maxRecDepth 100000 in
set_option maxHeartbeats 4000000 in
theorem aBuild_any (w : World) : Calls Try.prog 44 #[] w fun e' w' => ∃ g, e' = .returned (pB g) ∧ w.heap.size ≤ g ∧ IsT w' g ∧ Ext No w w' := by
  go_enter Try.func44, Try.ntmps44
  go_wp2_with fail
  have HS : Hid (Bd1 w 0 1 (((w.alloc (.cells Try.zeroCells114 114)).alloc (.cells Try.zeroCells112 112)).alloc (.cells Try.zeroCells115 115))) := Lib.hid (by
    rw [z512, z256, zi256]
    refine ⟨((Blk.new w _ _).alloc _).alloc _, ⟨List.replicate 256 0, List.length_replicate, fun j hj => by omega, ?_⟩, ⟨List.replicate 256 0, List.length_replicate, fun j hj => by omega, ?_⟩, fun _ => rfl, (((Ext.refl No w).alloc _).alloc _).alloc _⟩
    · have := (Blk.new (w.alloc (.cells (u8s (List.replicate 512 0)).toArray 114)) 112 (u8s (List.replicate 256 0)).toArray).alloc (.cells (i64s (List.replicate 256 0)).toArray 115)
      rwa [World.size_alloc] at this
    · have := Blk.new ((w.alloc (.cells (u8s (List.replicate 512 0)).toArray 114)).alloc (.cells (u8s (List.replicate 256 0)).toArray 112)) 115 (i64s (List.replicate 256 0)).toArray
      rwa [World.size_alloc, World.size_alloc] at this)
  generalize (((w.alloc (.cells Try.zeroCells114 114)).alloc (.cells Try.zeroCells112 112)).alloc (.cells Try.zeroCells115 115)) = w1 at *
  go_loopw [4, 13] (fun x i wr => ∃ (k : Nat) (c : UInt8), k ≤ 255 ∧ i = .int .i64 (k : Int) ∧ x = .int .u8 (c.toNat : Int) ∧ Hid (Bd1 w k c wr)) (fun _ i _ => 255 - (intOf i).toNat)
  case atStart => exact ⟨0, 1, by omega, rfl, rfl, HS⟩
  case round =>
    obtain ⟨k, c, hk, rfl, rfl, HR⟩ := hrel
    clear HS
    by_cases hlt : k < 255
    · have hcl : (c.toNat : Int) < 256 := by have := c.toNat_lt; omega
      have HN := Lib.hid (HR.out.step hlt)
      have HXC := Lib.hid (xor_u8 c (db c))
      obtain ⟨P, hP, -, hP3⟩ := HR.out.p
      obtain ⟨L, hL, -, hL3⟩ := HR.out.l
      have e1 := (hP3.cell k).trans (u8s_get' P k (by omega))
      have f1 := hP3.frozen k
      have e2 := (hL3.cell c.toNat).trans (i64s_get L c.toNat (by have := c.toNat_lt; omega))
      have f2 := hL3.frozen c.toNat
      have HP3 := Lib.hid hP3
      have HL3 := Lib.hid hL3
      clear hP3 hL3 hP hL
      clear HR
      go_wp2_with fail
      generalize (wr.setCell ⟨w.heap.size + 1, k, none⟩ (.int .u8 (c.toNat : Int))).setCell ⟨w.heap.size + 1 + 1, c.toNat, none⟩ (.int .i64 (k : Int)) = w2 at *
      refine (aDouble_any c w2).mono ?_
      rintro e3 w3 ⟨rfl, rfl⟩
      obtain ⟨d, hd⟩ : ∃ d, db c = d := ⟨_, rfl⟩
      rw [hd] at HXC HN ⊢
      clear hd e1 e2 f1 f2
      go_wp2_with fail
      rw [HXC.out]
      go_roundw
      case rel => exact ⟨k + 1, c ^^^ d, by omega, by go_num, rfl, HN⟩
      case measure => simp [intOf]; omega
    · obtain rfl : k = 255 := by omega
      have HS2 := Lib.hid HR.out.to2
      clear HR
      go_wp2_with fail
      rw [show ((255 : Nat) : Int) = 255 from rfl]
      go_loopw [27] (fun i wr => ∃ (k : Nat), k ≤ 256 ∧ i = .int .i64 (k : Int) ∧ Hid (Bd2 w k k wr)) (fun i _ => 256 - (intOf i).toNat)
      case atStart => exact ⟨0, by omega, rfl, HS2⟩
      case round =>
        clear HS2
        obtain ⟨k, hk, rfl, HR⟩ := hrel
        by_cases hlt : k < 256
        · obtain ⟨T, hT, -, -, hT3⟩ := HR.out.t
          have e1 : wr.cell? ⟨w.heap.size, 256 + k, none⟩ = _ := (hT3.cell (256 + k)).trans (u8s_get' T (256 + k) (by omega))
          have f1 : wr.frozen? ⟨w.heap.size, 256 + k, none⟩ = _ := hT3.frozen (256 + k)
          have HN := Lib.hid (HR.out.two hlt).drew
          have HDB : Hid (∀ wx, Calls Try.prog 82 #[.int .u8 (k : Int)] wx fun e w' => e = .returned (.int .u8 (dblN k : Int)) ∧ wx = w') := Lib.hid (fun wx => by
            have := aDouble_any (UInt8.ofNat k) wx
            rwa [db_nat, toNat_of hlt] at this)
          clear hT hT3 HR
          go_wp2_with fail
          go_region_with (first | (go_at_call 82; refine (HDB.out _).mono ?_; rintro e3 w3 ⟨rfl, rfl⟩))
          generalize (wr.setCell ⟨w.heap.size, 256 + k, none⟩ (.int .u8 (dblN k : Int))).drew = w2 at *
          clear e1 f1
          obtain ⟨v, hv⟩ : ∃ v, invN k = v := ⟨_, rfl⟩
          have hvl : v < 256 := by rw [← hv]; exact inv_lt k hlt
          have HV := Lib.hid hv
          have HBX : Hid (bxN k = sbK v 5) := Lib.hid (by rw [bx_eq k hlt, hv])
          have HSB := Lib.hid (fun j => sbK_succ v j hvl)
          by_cases h0 : 0 < k
          · obtain ⟨a, ha⟩ : ∃ a, lgN k = a := ⟨_, rfl⟩
            have hal : a < 255 := by rw [← ha]; exact (pw_lg k h0 hlt).2
            have hiv : pwN ((255 - a) % 255) = v := by rw [← hv, ← ha]; unfold invN; rw [if_neg (by omega)]
            obtain ⟨b, hb⟩ : ∃ b, (255 - a) % 255 = b := ⟨_, rfl⟩
            have hbl : b < 255 := by omega
            rw [hb] at hiv
            obtain ⟨L, hL, hL2, hL3⟩ := HN.out.l
            obtain ⟨P, hP, hP2, hP3⟩ := HN.out.p
            have e1 : w2.cell? ⟨w.heap.size + 1 + 1, k, none⟩ = some (.int .i64 (a : Int)) := by rw [hL3.cell, i64s_get _ _ (by omega), hL2 k h0 hlt, ha]
            have e2 : w2.cell? ⟨w.heap.size + 1, b, none⟩ = some (.int .u8 (v : Int)) := by rw [hP3.cell, u8s_get' _ _ (by omega), hP2 b hbl, hiv]
            have hbi : (255 - (a : Int)) % 255 = (b : Int) := by omega
            have t1 : ((k : Int) != 0) = true := by simp; omega
            have t2 : ((k : Int) == 0) = false := by simp; omega
            clear hL hL2 hL3 hP hP2 hP3 ha hiv hb hv HDB
            go_wp2_with fail
            go_loopw [9, 48] (fun o j wr => ∃ (q : Nat) (qi : Int), ((q = 0 ∧ qi = 0) ∨ (q = 1 ∧ qi = 1) ∨ (q = 2 ∧ qi = 2) ∨ (q = 3 ∧ qi = 3) ∨ (q = 4 ∧ qi = 4) ∨ (q = 5 ∧ qi = 5)) ∧ j = .int .i64 qi ∧ o = .int .u8 (sbK v q : Int) ∧ Hid (Bd2 w k (k + 1) wr)) (fun _ j _ => 5 - (intOf j).toNat)
            case atStart => exact ⟨0, 0, .inl ⟨rfl, rfl⟩, rfl, rfl, HN⟩
            case round =>
              clear HN e1 e2 hbi t1 t2
              obtain ⟨q, qi, hq, rfl, rfl, HN⟩ := hrel
              rcases (by omega : ((q = 0 ∧ qi = 0) ∨ (q = 1 ∧ qi = 1) ∨ (q = 2 ∧ qi = 2) ∨ (q = 3 ∧ qi = 3) ∨ (q = 4 ∧ qi = 4)) ∨ (q = 5 ∧ qi = 5)) with h5 | ⟨rfl, rfl⟩
              · have hsl := sbK_lt v q hvl (by omega)
                rcases h5 with ⟨rfl, rfl⟩ | ⟨rfl, rfl⟩ | ⟨rfl, rfl⟩ | ⟨rfl, rfl⟩ | ⟨rfl, rfl⟩
                all_goals
                  clear hq
                · have HST : bits .xor .u8 (sbK v 0 : Int) (bits .or .u8 (v : Int) ((v : Int) / 256)) = (sbK v 1 : Int) := by
                    have h := HSB.out 0 (by omega)
                    rw [show ((v * 2 ^ 0 % 256 : Nat) : Int) = (v : Int) by omega, show ((v / 2 ^ (8 - 0) : Nat) : Int) = ((v : Int) / 256) by omega] at h
                    exact h
                  obtain ⟨s0, hs0⟩ : ∃ x, sbK v 0 = x := ⟨_, rfl⟩
                  obtain ⟨s1, hs1⟩ : ∃ x, sbK v 1 = x := ⟨_, rfl⟩
                  have HS1 := Lib.hid hs1
                  rw [hs0, hs1] at HST
                  rw [hs0]
                  clear hs0 hs1
                  go_wp2_with fail
                  go_quiet (fail)
                  go_wp2_with fail
                  go_roundw
                  case rel => exact ⟨1, 1, by omega, rfl, by rw [HS1.out], Lib.hid (HN.out.drewN _)⟩
                  case measure => simp [intOf]
                · have HST : bits .xor .u8 (sbK v 1 : Int) (bits .or .u8 ((v : Int) * 2 % 256) ((v : Int) / 128)) = (sbK v 2 : Int) := by
                    have h := HSB.out 1 (by omega)
                    rw [show ((v * 2 ^ 1 % 256 : Nat) : Int) = ((v : Int) * 2 % 256) by omega, show ((v / 2 ^ (8 - 1) : Nat) : Int) = ((v : Int) / 128) by omega] at h
                    exact h
                  obtain ⟨s0, hs0⟩ : ∃ x, sbK v 1 = x := ⟨_, rfl⟩
                  obtain ⟨s1, hs1⟩ : ∃ x, sbK v 2 = x := ⟨_, rfl⟩
                  have HS1 := Lib.hid hs1
                  rw [hs0, hs1] at HST
                  rw [hs0]
                  clear hs0 hs1
                  go_wp2_with fail
                  go_quiet (fail)
                  go_wp2_with fail
                  go_roundw
                  case rel => exact ⟨2, 2, by omega, rfl, by rw [HS1.out], Lib.hid (HN.out.drewN _)⟩
                  case measure => simp [intOf]
                · have HST : bits .xor .u8 (sbK v 2 : Int) (bits .or .u8 ((v : Int) * 4 % 256) ((v : Int) / 64)) = (sbK v 3 : Int) := by
                    have h := HSB.out 2 (by omega)
                    rw [show ((v * 2 ^ 2 % 256 : Nat) : Int) = ((v : Int) * 4 % 256) by omega, show ((v / 2 ^ (8 - 2) : Nat) : Int) = ((v : Int) / 64) by omega] at h
                    exact h
                  obtain ⟨s0, hs0⟩ : ∃ x, sbK v 2 = x := ⟨_, rfl⟩
                  obtain ⟨s1, hs1⟩ : ∃ x, sbK v 3 = x := ⟨_, rfl⟩
                  have HS1 := Lib.hid hs1
                  rw [hs0, hs1] at HST
                  rw [hs0]
                  clear hs0 hs1
                  go_wp2_with fail
                  go_quiet (fail)
                  go_wp2_with fail
                  go_roundw
                  case rel => exact ⟨3, 3, by omega, rfl, by rw [HS1.out], Lib.hid (HN.out.drewN _)⟩
                  case measure => simp [intOf]
                · have HST : bits .xor .u8 (sbK v 3 : Int) (bits .or .u8 ((v : Int) * 8 % 256) ((v : Int) / 32)) = (sbK v 4 : Int) := by
                    have h := HSB.out 3 (by omega)
                    rw [show ((v * 2 ^ 3 % 256 : Nat) : Int) = ((v : Int) * 8 % 256) by omega, show ((v / 2 ^ (8 - 3) : Nat) : Int) = ((v : Int) / 32) by omega] at h
                    exact h
                  obtain ⟨s0, hs0⟩ : ∃ x, sbK v 3 = x := ⟨_, rfl⟩
                  obtain ⟨s1, hs1⟩ : ∃ x, sbK v 4 = x := ⟨_, rfl⟩
                  have HS1 := Lib.hid hs1
                  rw [hs0, hs1] at HST
                  rw [hs0]
                  clear hs0 hs1
                  go_wp2_with fail
                  go_quiet (fail)
                  go_wp2_with fail
                  go_roundw
                  case rel => exact ⟨4, 4, by omega, rfl, by rw [HS1.out], Lib.hid (HN.out.drewN _)⟩
                  case measure => simp [intOf]
                · have HST : bits .xor .u8 (sbK v 4 : Int) (bits .or .u8 ((v : Int) * 16 % 256) ((v : Int) / 16)) = (sbK v 5 : Int) := by
                    have h := HSB.out 4 (by omega)
                    rw [show ((v * 2 ^ 4 % 256 : Nat) : Int) = ((v : Int) * 16 % 256) by omega, show ((v / 2 ^ (8 - 4) : Nat) : Int) = ((v : Int) / 16) by omega] at h
                    exact h
                  obtain ⟨s0, hs0⟩ : ∃ x, sbK v 4 = x := ⟨_, rfl⟩
                  obtain ⟨s1, hs1⟩ : ∃ x, sbK v 5 = x := ⟨_, rfl⟩
                  have HS1 := Lib.hid hs1
                  rw [hs0, hs1] at HST
                  rw [hs0]
                  clear hs0 hs1
                  go_wp2_with fail
                  go_quiet (fail)
                  go_wp2_with fail
                  go_roundw
                  case rel => exact ⟨5, 5, by omega, rfl, by rw [HS1.out], Lib.hid (HN.out.drewN _)⟩
                  case measure => simp [intOf]
              · obtain ⟨T, hT, -, -, hT3⟩ := HN.out.t
                have e1 := (hT3.cell k).trans (u8s_get' T k (by omega))
                have f1 := hT3.frozen k
                have HN2 := Lib.hid (HN.out.box hlt)
                obtain ⟨s5, hs5⟩ : ∃ x, sbK v 5 = x := ⟨_, rfl⟩
                rw [HBX.out, hs5] at HN2
                rw [hs5]
                clear hs5 hT hT3 hq HN
                go_wp2_with fail
                go_roundw
                case rel => exact ⟨k + 1, by omega, by go_num, HN2⟩
                case measure => simp [intOf]; omega
          · have hk0 : k = 0 := by omega
            obtain rfl : v = 0 := by rw [← HV.out, hk0]; rfl
            have t1 : ((k : Int) != 0) = false := by simp [hk0]
            have t2 : ((k : Int) == 0) = true := by simp [hk0]
            clear HDB hv hk0
            go_wp2_with fail
            clear t1 t2
            go_loopw [9, 48] (fun o j wr => ∃ (q : Nat) (qi : Int), ((q = 0 ∧ qi = 0) ∨ (q = 1 ∧ qi = 1) ∨ (q = 2 ∧ qi = 2) ∨ (q = 3 ∧ qi = 3) ∨ (q = 4 ∧ qi = 4) ∨ (q = 5 ∧ qi = 5)) ∧ j = .int .i64 qi ∧ o = .int .u8 (sbK 0 q : Int) ∧ Hid (Bd2 w k (k + 1) wr)) (fun _ j _ => 5 - (intOf j).toNat)
            case atStart => exact ⟨0, 0, .inl ⟨rfl, rfl⟩, rfl, rfl, HN⟩
            case round =>
              clear HN
              obtain ⟨q, qi, hq, rfl, rfl, HN⟩ := hrel
              rcases (by omega : ((q = 0 ∧ qi = 0) ∨ (q = 1 ∧ qi = 1) ∨ (q = 2 ∧ qi = 2) ∨ (q = 3 ∧ qi = 3) ∨ (q = 4 ∧ qi = 4)) ∨ (q = 5 ∧ qi = 5)) with h5 | ⟨rfl, rfl⟩
              · have hsl := sbK_lt 0 q (by omega) (by omega)
                rcases h5 with ⟨rfl, rfl⟩ | ⟨rfl, rfl⟩ | ⟨rfl, rfl⟩ | ⟨rfl, rfl⟩ | ⟨rfl, rfl⟩
                all_goals
                  clear hq
                · have HST : bits .xor .u8 (sbK 0 0 : Int) (bits .or .u8 0 0) = (sbK 0 1 : Int) := HSB.out 0 (by omega)
                  obtain ⟨s0, hs0⟩ : ∃ x, sbK 0 0 = x := ⟨_, rfl⟩
                  obtain ⟨s1, hs1⟩ : ∃ x, sbK 0 1 = x := ⟨_, rfl⟩
                  have HS1 := Lib.hid hs1
                  rw [hs0, hs1] at HST
                  rw [hs0]
                  clear hs0 hs1
                  go_wp2_with fail
                  go_quiet (fail)
                  go_wp2_with fail
                  go_roundw
                  case rel => exact ⟨1, 1, by omega, rfl, by rw [HS1.out], Lib.hid (HN.out.drewN _)⟩
                  case measure => simp [intOf]
                · have HST : bits .xor .u8 (sbK 0 1 : Int) (bits .or .u8 0 0) = (sbK 0 2 : Int) := HSB.out 1 (by omega)
                  obtain ⟨s0, hs0⟩ : ∃ x, sbK 0 1 = x := ⟨_, rfl⟩
                  obtain ⟨s1, hs1⟩ : ∃ x, sbK 0 2 = x := ⟨_, rfl⟩
                  have HS1 := Lib.hid hs1
                  rw [hs0, hs1] at HST
                  rw [hs0]
                  clear hs0 hs1
                  go_wp2_with fail
                  go_quiet (fail)
                  go_wp2_with fail
                  go_roundw
                  case rel => exact ⟨2, 2, by omega, rfl, by rw [HS1.out], Lib.hid (HN.out.drewN _)⟩
                  case measure => simp [intOf]
                · have HST : bits .xor .u8 (sbK 0 2 : Int) (bits .or .u8 0 0) = (sbK 0 3 : Int) := HSB.out 2 (by omega)
                  obtain ⟨s0, hs0⟩ : ∃ x, sbK 0 2 = x := ⟨_, rfl⟩
                  obtain ⟨s1, hs1⟩ : ∃ x, sbK 0 3 = x := ⟨_, rfl⟩
                  have HS1 := Lib.hid hs1
                  rw [hs0, hs1] at HST
                  rw [hs0]
                  clear hs0 hs1
                  go_wp2_with fail
                  go_quiet (fail)
                  go_wp2_with fail
                  go_roundw
                  case rel => exact ⟨3, 3, by omega, rfl, by rw [HS1.out], Lib.hid (HN.out.drewN _)⟩
                  case measure => simp [intOf]
                · have HST : bits .xor .u8 (sbK 0 3 : Int) (bits .or .u8 0 0) = (sbK 0 4 : Int) := HSB.out 3 (by omega)
                  obtain ⟨s0, hs0⟩ : ∃ x, sbK 0 3 = x := ⟨_, rfl⟩
                  obtain ⟨s1, hs1⟩ : ∃ x, sbK 0 4 = x := ⟨_, rfl⟩
                  have HS1 := Lib.hid hs1
                  rw [hs0, hs1] at HST
                  rw [hs0]
                  clear hs0 hs1
                  go_wp2_with fail
                  go_quiet (fail)
                  go_wp2_with fail
                  go_roundw
                  case rel => exact ⟨4, 4, by omega, rfl, by rw [HS1.out], Lib.hid (HN.out.drewN _)⟩
                  case measure => simp [intOf]
                · have HST : bits .xor .u8 (sbK 0 4 : Int) (bits .or .u8 0 0) = (sbK 0 5 : Int) := HSB.out 4 (by omega)
                  obtain ⟨s0, hs0⟩ : ∃ x, sbK 0 4 = x := ⟨_, rfl⟩
                  obtain ⟨s1, hs1⟩ : ∃ x, sbK 0 5 = x := ⟨_, rfl⟩
                  have HS1 := Lib.hid hs1
                  rw [hs0, hs1] at HST
                  rw [hs0]
                  clear hs0 hs1
                  go_wp2_with fail
                  go_quiet (fail)
                  go_wp2_with fail
                  go_roundw
                  case rel => exact ⟨5, 5, by omega, rfl, by rw [HS1.out], Lib.hid (HN.out.drewN _)⟩
                  case measure => simp [intOf]
              · obtain ⟨T, hT, -, -, hT3⟩ := HN.out.t
                have e1 := (hT3.cell k).trans (u8s_get' T k (by omega))
                have f1 := hT3.frozen k
                have HN2 := Lib.hid (HN.out.box hlt)
                obtain ⟨s5, hs5⟩ : ∃ x, sbK 0 5 = x := ⟨_, rfl⟩
                rw [HBX.out, hs5] at HN2
                rw [hs5]
                clear hs5 hT hT3 hq HN
                go_wp2_with fail
                go_roundw
                case rel => exact ⟨k + 1, by omega, by go_num, HN2⟩
                case measure => simp [intOf]; omega
        · obtain rfl : k = 256 := by omega
          go_wp2_with fail
          go_ret
          exact ⟨_, rfl, Nat.le_refl _, HR.out.done, HR.out.x⟩
end Go.Proofs.Ytljddghamgjfbaa
