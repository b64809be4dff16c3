/- The law CellDoes. -/
import Derived.Test.YtbemmjejgklieaaLaw10
import Derived.StillTailTactics
set_option linter.unusedVariables false
set_option linter.unusedSimpArgs false
namespace Go.Proofs.Ytbemmjejgklieaa
open Go.RowKit Go.Deep

def rdc (dn : Bool) (at_ : Int) : Int := if at_ < 0 ∨ 4 ≤ at_ then 2 else if dn = true then 5 else 0
def rdl (L : Nat → List UInt8) (dn : Bool) (at_ : Int) : List UInt8 := if at_ < 0 ∨ 4 ≤ at_ then [] else if dn = true then [] else pad (L at_.toNat)
/-- The reference's rows for the sectors L. -/
def rowsOf (L : Nat → List UInt8) : List (List UInt8) := [pad (L 0), pad (L 1), pad (L 2), pad (L 3)]
theorem rowsOf_get {L : Nat → List UInt8} {k : Nat} (hk : k < 4) : (rowsOf L).getD k [] = pad (L k) := by
  rcases (by omega : k = 0 ∨ k = 1 ∨ k = 2 ∨ k = 3) with rfl | rfl | rfl | rfl <;> rfl
theorem rowsOf_upd {L : Nat → List UInt8} {k : Nat} {l : List UInt8} (hk : k < 4) : (rowsOf L).set k (pad l) = rowsOf (upd L k l) := by
  rcases (by omega : k = 0 ∨ k = 1 ∨ k = 2 ∨ k = 3) with rfl | rfl | rfl | rfl <;> rfl
theorem rowsOf_zero : rowsOf (fun _ => []) = zero4 := by
  have : pad [] = List.replicate 1024 0 := by unfold pad; rw [List.nil_append, List.length_nil, Nat.sub_zero]
  unfold rowsOf zero4
  rw [this]
  rfl

theorem cRead_all (gp gc : Nat) (at_ : Int) (L : Nat → List UInt8) (n f s : Int) (d dn : Bool) (w : World) (hc : IsCell w gp gc L n) (hp : IsPw w gp f d dn s) (hL : ∀ j, (L j).length ≤ 1024) :
    Calls Try.prog 31 #[ptr gc, .int .i64 at_] w fun e w' => ∃ A c, e = .returned (.tuple #[.slice A (rdl L dn at_).length c, .int .i64 (rdc dn at_)]) ∧ Bs w' Any (.slice A (rdl L dn at_).length c) (rdl L dn at_) ∧ Ext No w w' := by
  by_cases ha : at_ < 0 ∨ 4 ≤ at_
  · refine (cRead_range gc at_ w ha).mono ?_
    rintro e w' ⟨rfl, rfl⟩
    have hx := Ext.refl No w
    have e1 : rdl L dn at_ = [] := by unfold rdl; rw [if_pos ha]
    have e2 : rdc dn at_ = 2 := by unfold rdc; rw [if_pos ha]
    rw [e1, e2]
    exact ⟨none, 0, rfl, Bs.nil _ _, hx⟩
  · obtain ⟨k, rfl⟩ : ∃ k : Nat, at_ = (k : Int) := ⟨at_.toNat, by omega⟩
    cases dn with
    | true =>
      refine (cRead_down gp gc L n f s d k w hc hp (by omega) (by omega)).mono ?_
      rintro e w' ⟨rfl, rfl⟩
      have hx := Ext.refl No w
      have e1 : rdl L true (k : Int) = [] := by unfold rdl; rw [if_neg ha, if_pos rfl]
      have e2 : rdc true (k : Int) = 5 := by unfold rdc; rw [if_neg ha, if_pos rfl]
      rw [e1, e2]
      exact ⟨none, 0, rfl, Bs.nil _ _, hx⟩
    | false =>
      refine (cRead_ok gp gc L n f s d k w hc hp (by omega) (hL k)).mono ?_
      rintro e w' ⟨r, rfl, ho, hx⟩
      have e1 : rdl L false (k : Int) = pad (L k) := by unfold rdl; rw [if_neg ha, if_neg Bool.false_ne_true]; rfl
      have e2 : rdc false (k : Int) = 0 := by unfold rdc; rw [if_neg ha, if_neg Bool.false_ne_true]
      rw [e1, e2]
      obtain ⟨A, c, rfl, _⟩ := ho.slice
      exact ⟨A, c, rfl, ho.any, hx⟩
theorem rcRead_all (F : Nat → Prop) (at_ : Int) (L : Nat → List UInt8) (n f s : Int) (d dn : Bool) (A : Option Addr) (c : Nat) (ls : List (List UInt8)) (w : World) (hls : ls = rowsOf L) (hp : Parts w F (.slice A 4 c) ls) :
    Calls Try.prog 34 #[rcv s f d dn (.slice A 4 c) n, .int .i64 at_] w fun e w' => ∃ A c, e = .returned (.tuple #[.slice A (rdl L dn at_).length c, .int .i64 (rdc dn at_)]) ∧ Bs w' Any (.slice A (rdl L dn at_).length c) (rdl L dn at_) ∧ Ext No w w' := by
  by_cases ha : at_ < 0 ∨ 4 ≤ at_
  · refine (rcRead_range s f n at_ d dn A 4 c w ha).mono ?_
    rintro e w' ⟨rfl, hx⟩
    have e1 : rdl L dn at_ = [] := by unfold rdl; rw [if_pos ha]
    have e2 : rdc dn at_ = 2 := by unfold rdc; rw [if_pos ha]
    rw [e1, e2]
    exact ⟨none, 0, rfl, Bs.nil _ _, hx⟩
  · obtain ⟨k, rfl⟩ : ∃ k : Nat, at_ = (k : Int) := ⟨at_.toNat, by omega⟩
    cases dn with
    | true =>
      refine (rcRead_down s f n k d A 4 c w (by omega)).mono ?_
      rintro e w' ⟨rfl, hx⟩
      have e1 : rdl L true (k : Int) = [] := by unfold rdl; rw [if_neg ha, if_pos rfl]
      have e2 : rdc true (k : Int) = 5 := by unfold rdc; rw [if_neg ha, if_pos rfl]
      rw [e1, e2]
      exact ⟨none, 0, rfl, Bs.nil _ _, hx⟩
    | false =>
      refine (rcRead_ok F s f n k d _ ls w (by omega) (by rw [hls]; simp [rowsOf]; omega) hp).mono ?_
      rintro e w' ⟨v, rfl, ho, hx⟩
      have e1 : rdl L false (k : Int) = pad (L k) := by unfold rdl; rw [if_neg ha, if_neg Bool.false_ne_true]; rfl
      have e2 : rdc false (k : Int) = 0 := by unfold rdc; rw [if_neg ha, if_neg Bool.false_ne_true]
      rw [e1, e2]
      rw [hls, rowsOf_get (by omega)] at ho
      obtain ⟨A, c, rfl, _⟩ := ho.slice
      exact ⟨A, c, rfl, ho.any.ext_no hx, hx⟩
/-- A write that is refused answers so. -/
def wrc (at_ : Int) : Int := if at_ < 0 ∨ 4 ≤ at_ then 2 else 17
theorem cWrite_not (gc : Nat) (at_ : Int) (A : Option Addr) (n c : Nat) (w : World) (h : at_ < 0 ∨ 4 ≤ at_ ∨ 1024 < n) :
    Calls Try.prog 30 #[ptr gc, .int .i64 at_, .slice A n c] w fun e w' => e = .returned (.int .i64 (wrc at_)) ∧ Ext No w w' := by
  unfold wrc
  by_cases ha : at_ < 0 ∨ 4 ≤ at_
  · rw [if_pos ha]; exact cWrite_range gc at_ A n c w ha
  · rw [if_neg ha]
    obtain ⟨k, rfl⟩ : ∃ k : Nat, at_ = (k : Int) := ⟨at_.toNat, by omega⟩
    exact cWrite_size gc k A n c w (by omega) (by omega)
theorem rcWrite_not (at_ n f s : Int) (d dn : Bool) (A B : Option Addr) (m c m' c' : Nat) (w : World) (h : at_ < 0 ∨ 4 ≤ at_ ∨ 1024 < m') :
    Calls Try.prog 35 #[rcv s f d dn (.slice A m c) n, .int .i64 at_, .slice B m' c'] w fun e w' => e = .returned (.tuple #[rcv s f d dn (.slice A m c) n, .int .i64 (wrc at_)]) ∧ Ext No w w' := by
  unfold wrc
  by_cases ha : at_ < 0 ∨ 4 ≤ at_
  · rw [if_pos ha]; exact rcWrite_range s f n at_ d dn A B m c m' c' w ha
  · rw [if_neg ha]
    obtain ⟨k, rfl⟩ : ∃ k : Nat, at_ = (k : Int) := ⟨at_.toNat, by omega⟩
    exact rcWrite_size s f n k d dn A B m c m' c' w (by omega) (by omega)

theorem Sl.mono_lt1 {w : World} {F F' : Nat → Prop} {v : Value} {n : Nat} {xs : List Value} (h : Sl w F 1 v n xs) (hF : ∀ b, F b → b < w.heap.size → F' b) : Sl w F' 1 v n xs := by
  obtain ⟨h1, A, c, hv, h2, h3, h4⟩ := h
  refine ⟨h1, A, c, hv, h2, h3, fun h0 => ?_⟩
  obtain ⟨b, off, e, hf, hc⟩ := h4 h0
  have : 0 < xs.length := by omega
  exact ⟨b, off, e, hF b hf (World.block_lt_of_cell? w _ (hc 0 _ (List.getElem?_eq_getElem this))), hc⟩
theorem Parts.mono_lt {w : World} {F F' : Nat → Prop} {v : Value} {ls : List (List UInt8)} (h : Parts w F v ls) (hF : ∀ b, F b → b < w.heap.size → F' b) : Parts w F' v ls := by
  obtain ⟨vs, h1, h2⟩ := h
  exact ⟨vs, h1.mono_lt1 hF, fun i hi => let ⟨u, h3, h4⟩ := h2 i hi; ⟨u, h3, Sl.mono_lt1 h4 hF⟩⟩
abbrev Off3 (g h r : Nat) : Nat → Prop := fun b => b ≠ g ∧ b ≠ h ∧ b ≠ r
/-- Bytes don't lie in a block that holds no byte. -/
theorem Bs.off_blk {w : World} {F : Nat → Prop} {v : Value} {l : List UInt8} {g : Nat} {t : TypeId} {cs : Array Value} (h : Bs w F v l) (hb : Blk w g t cs) (hn : ∀ (i : Nat) (z : Int), cs[i]? ≠ some (Value.int .u8 z)) : Bs w (fun b => F b ∧ b ≠ g) v l := by
  obtain ⟨h1, A, c, hv, h2, h3, h4⟩ := h
  refine ⟨h1, A, c, hv, h2, h3, fun h0 => ?_⟩
  obtain ⟨b, off, e, hf, hc⟩ := h4 h0
  refine ⟨b, off, e, ⟨hf, fun hbg => ?_⟩, hc⟩
  subst hbg
  have := hc 0 _ (u8s_get (l := l) (k := 0) h0)
  rw [hb.cell] at this
  exact hn _ _ this
/-- The code's part of the state. -/
def Im10 (w : World) (gp : Nat) (f s n : Int) (d dn : Bool) (L : Nat → List UInt8) : Prop := IsPw w gp f d dn s ∧ IsCell w gp (gp + 1) L n ∧ (∀ j, (L j).length ≤ 1024)
/-- The reference's part. -/
def Re10 (w : World) (gp gr : Nat) (f s n : Int) (d dn : Bool) (A : Option Addr) (c : Nat) (ls : List (List UInt8)) : Prop :=
  Blk w gr 56 #[.int .i64 s, .int .i64 f, .bool d, .bool dn, .slice A 4 c, .int .i64 n] ∧ Parts w (Off3 gp (gp + 1) gr) (.slice A 4 c) ls
/-- The state of the law's loop: the power, the cell, the reference's cell. -/
def St10 (w : World) (gp gr : Nat) (f s n : Int) (d dn : Bool) (L : Nat → List UInt8) (A : Option Addr) (c : Nat) (ls : List (List UInt8)) : Prop :=
  Im10 w gp f s n d dn L ∧ Re10 w gp gr f s n d dn A c ls ∧ ls = rowsOf L ∧ -1 ≤ f ∧ f ≤ 9223372036854775807
section
variable {w w' : World} {gp gr : Nat} {f s n : Int} {d dn : Bool} {L : Nat → List UInt8} {A : Option Addr} {c : Nat} {ls : List (List UInt8)}
theorem Im10.no (h : Im10 w gp f s n d dn L) (hx : Ext No w w') : Im10 w' gp f s n d dn L := ⟨Blk.ext_no h.1 hx, h.2.1.ext_no hx, h.2.2⟩
theorem Re10.no (h : Re10 w gp gr f s n d dn A c ls) (hx : Ext No w w') : Re10 w' gp gr f s n d dn A c ls := ⟨h.1.ext_no hx, h.2.ext_no hx⟩
theorem St10.no (h : St10 w gp gr f s n d dn L A c ls) (hx : Ext No w w') : St10 w' gp gr f s n d dn L A c ls := ⟨h.1.no hx, h.2.1.no hx, h.2.2⟩
theorem Re10.two (h : Re10 w gp gr f s n d dn A c ls) (hg : gp + 1 < gr) (hx : Ext (Two gp (gp + 1)) w w') : Re10 w' gp gr f s n d dn A c ls :=
  ⟨h.1.ext hx (fun hh => by have hh : gr = gp ∨ gr = gp + 1 := hh; omega), h.2.ext hx (fun b hb _ hh => by have hh : b = gp ∨ b = gp + 1 := hh; rcases hh with hh | hh; exact hb.1 hh; exact hb.2.1 hh)⟩
theorem Im10.ofGr {cs : Array Value} {t : TypeId} (h : Im10 w gp f s n d dn L) (hg : gp + 1 < gr) (hb : Blk w gr t cs) (hn : ∀ (i : Nat) (z : Int), cs[i]? ≠ some (Value.int .u8 z)) (hx : Ext (One gr) w w') : Im10 w' gp f s n d dn L := by
  refine ⟨Blk.ext h.1 hx (fun hh => by have hh : gp = gr := hh; omega), ?_, h.2.2⟩
  obtain ⟨s0, s1, s2, s3, hc, h0, h1, h2, h3⟩ := h.2.1
  have kp : ∀ {v l}, Bs w (Off2 gp (gp + 1)) v l → Bs w' (Off2 gp (gp + 1)) v l := fun hv => ((hv.off_blk hb hn).ext hx (fun b hb' _ hh => hb'.2 hh)).mono fun b hb' => hb'.1
  exact ⟨s0, s1, s2, s3, hc.ext hx (fun hh => by have hh : gp + 1 = gr := hh; omega), kp h0, kp h1, kp h2, kp h3⟩
theorem no_u8 {a b e : Int} {x y : Bool} {B : Option Addr} {m k : Nat} (i : Nat) (z : Int) : (#[.int .i64 a, .int .i64 b, .bool x, .bool y, .slice B m k, .int .i64 e] : Array Value)[i]? ≠ some (.int .u8 z) := by
  intro h
  match i, h with
  | 0, h => cases h
  | 1, h => cases h
  | 2, h => cases h
  | 3, h => cases h
  | 4, h => cases h
  | 5, h => cases h
  | (i + 6), h => simp at h
end
/-- All six cells of the reference's cell written. -/
def setR (w : World) (gr : Nat) (s f : Int) (d dn : Bool) (A : Option Addr) (c : Nat) (n : Int) : World := (((((w.setCell ⟨gr, 0, none⟩ (.int .i64 s)).setCell ⟨gr, 1, none⟩ (.int .i64 f)).setCell ⟨gr, 2, none⟩ (.bool d)).setCell ⟨gr, 3, none⟩ (.bool dn)).setCell ⟨gr, 4, none⟩ (.slice A 4 c)).setCell ⟨gr, 5, none⟩ (.int .i64 n)
/-- The power in it written. -/
def setP (w : World) (gr : Nat) (s f : Int) (d dn : Bool) : World := (((w.setCell ⟨gr, 0, none⟩ (.int .i64 s)).setCell ⟨gr, 1, none⟩ (.int .i64 f)).setCell ⟨gr, 2, none⟩ (.bool d)).setCell ⟨gr, 3, none⟩ (.bool dn)
theorem setR_ext (w : World) (gr : Nat) (s f : Int) (d dn : Bool) (A : Option Addr) (c : Nat) (n : Int) : Ext (One gr) w (setR w gr s f d dn A c n) := by
  unfold setR
  refine Ext.setCell (S := One gr) ?_ (fun _ => rfl) _
  refine Ext.setCell (S := One gr) ?_ (fun _ => rfl) _
  refine Ext.setCell (S := One gr) ?_ (fun _ => rfl) _
  refine Ext.setCell (S := One gr) ?_ (fun _ => rfl) _
  refine Ext.setCell (S := One gr) ?_ (fun _ => rfl) _
  exact ext_set _ _ _ _
theorem setP_ext (w : World) (gr : Nat) (s f : Int) (d dn : Bool) : Ext (One gr) w (setP w gr s f d dn) := by
  unfold setP
  refine Ext.setCell (S := One gr) ?_ (fun _ => rfl) _
  refine Ext.setCell (S := One gr) ?_ (fun _ => rfl) _
  refine Ext.setCell (S := One gr) ?_ (fun _ => rfl) _
  exact ext_set _ _ _ _
section
variable {w w' : World} {gp gr : Nat} {f s n f0 s0 n0 : Int} {d dn d0 dn0 : Bool} {L : Nat → List UInt8} {A A0 : Option Addr} {c c0 : Nat} {ls ls0 : List (List UInt8)}
theorem Re10.setR (h : Re10 w gp gr f0 s0 n0 d0 dn0 A0 c0 ls0) (hp : Parts w (Off3 gp (gp + 1) gr) (.slice A 4 c) ls) : Re10 (setR w gr s f d dn A c n) gp gr f s n d dn A c ls :=
  ⟨Blk.set_ (Blk.set_ (Blk.set_ (Blk.set_ (Blk.set_ (Blk.set_ h.1 0 _) 1 _) 2 _) 3 _) 4 _) 5 _, hp.ext (setR_ext ..) (fun b hb _ hh => hb.2.2 hh)⟩
theorem Re10.setP (h : Re10 w gp gr f0 s0 n0 d0 dn0 A0 c0 ls0) : Re10 (setP w gr s f d dn) gp gr f s n0 d dn A0 c0 ls0 :=
  ⟨Blk.set_ (Blk.set_ (Blk.set_ (Blk.set_ h.1 0 _) 1 _) 2 _) 3 _, h.2.ext (setP_ext ..) (fun b hb _ hh => hb.2.2 hh)⟩
end
theorem rSame_ext (v1 v2 : Value) (l1 l2 : List UInt8) (w : World) (h1 : Bs w Any v1 l1) (h2 : Bs w Any v2 l2) (h : l1 = l2) :
    Calls Try.prog 32 #[v1, v2] w fun e w' => e = .returned (.bool true) ∧ Ext No w w' := by
  refine (rSame_true v1 v2 l1 l2 w h1 h2 h).mono ?_
  rintro e w' ⟨rfl, n, rfl⟩
  exact ⟨rfl, (Ext.refl _ _).drewN n⟩

set_option maxRecDepth 100000 in
set_option maxHeartbeats 4000000 in
theorem does10_any (A : Option Addr) (len cap : Nat) (w : World) (hl : Acts10 w A len cap) :
    Calls Try.prog 6 #[.slice A len cap] w fun e w' => e = .returned (.bool true) ∧ Ext No w w' := by
  have HL := Lib.hid hl
  clear hl
  go_enter Try.func6, Try.ntmps6
  go_wp2_with (first
    | (go_at_call 27; refine (light10_any _ _ _ _ HL.out).mono ?_; rintro e w0 ⟨r, rfl, hx0⟩; have HX0 := Lib.hid hx0; clear hx0; cases r)
    | (go_at_call 28; refine (works10 _).mono ?_; rintro e w1 ⟨rfl, hx1⟩)
    | (go_at_call 15; refine (pNew_any _).mono ?_; rintro e w' ⟨rfl, rfl⟩)
    | (go_at_call 29; refine (cNew_any _ _).mono ?_; rintro e w' ⟨rfl, rfl⟩))
  · go_ret
    exact ⟨rfl, HX0.out.trans hx1⟩
  have hi0 : IsPw ((w0.alloc (.cells (pwc (-1) false false 0) 129)).alloc (.cells #[ptr w0.heap.size, .slice none 0 0, .slice none 0 0, .slice none 0 0, .slice none 0 0, .int .i64 0] 132)) w0.heap.size (-1) false false 0 := (Blk.new w0 _ _).alloc _
  have hi1 : IsCell ((w0.alloc (.cells (pwc (-1) false false 0) 129)).alloc (.cells #[ptr w0.heap.size, .slice none 0 0, .slice none 0 0, .slice none 0 0, .slice none 0 0, .int .i64 0] 132)) w0.heap.size (w0.heap.size + 1) (fun _ => []) 0 := by
    have := IsCell.new (w0.alloc (.cells (pwc (-1) false false 0) 129)) w0.heap.size
    rw [World.size_alloc] at this
    exact this
  have hi2 : Ext No w ((w0.alloc (.cells (pwc (-1) false false 0) 129)).alloc (.cells #[ptr w0.heap.size, .slice none 0 0, .slice none 0 0, .slice none 0 0, .slice none 0 0, .int .i64 0] 132)) := (HX0.out.alloc _).alloc _
  have hsz := HX0.out.size
  have hs2 : ((w0.alloc (.cells (pwc (-1) false false 0) 129)).alloc (.cells #[ptr w0.heap.size, .slice none 0 0, .slice none 0 0, .slice none 0 0, .slice none 0 0, .int .i64 0] 132)).heap.size = w0.heap.size + 2 := by simp
  generalize ((w0.alloc (.cells (pwc (-1) false false 0) 129)).alloc (.cells #[ptr w0.heap.size, .slice none 0 0, .slice none 0 0, .slice none 0 0, .slice none 0 0, .int .i64 0] 132)) = w1 at *
  generalize w0.heap.size = gp at *
  refine (rNew_any w1).mono ?_
  rintro e w2 ⟨rfl, hx2⟩
  have HI := Lib.hid (And.intro (Blk.ext_no hi0 hx2) (And.intro (hi1.ext_no hx2) (hi2.trans hx2)))
  have hs3 : gp + 2 ≤ w2.heap.size := by have := hx2.size; omega
  clear hi0 hi1 hi2 hx2 hs2 HX0
  go_wp2_with fail
  refine (rcNew_any 0 (-1) false false w2).mono ?_
  rintro e w3 ⟨lv, rfl, hpt, hx3⟩
  have hgr : w2.heap.size ≤ w3.heap.size := hx3.size
  have hl4 : zero4.length = 4 := rfl
  obtain ⟨Ar, cr, rfl, _⟩ := hpt.slice
  rw [hl4] at hpt
  rw [hl4]
  have HS := Lib.hid (show St10 (w3.alloc (.cells #[.int .i64 0, .int .i64 (-1), .bool false, .bool false, .slice Ar 4 cr, .int .i64 0] 56)) gp w3.heap.size (-1) 0 0 false false (fun _ => []) Ar cr zero4 from
    ⟨⟨(Blk.ext_no HI.out.1 hx3).alloc _, (HI.out.2.1.ext_no hx3).ext_no ((Ext.refl No _).alloc _), fun _ => Nat.zero_le _⟩, ⟨Blk.new _ _ _, (Parts.mono_lt hpt fun b hb hlt => ⟨by omega, by omega, by omega⟩).ext_no ((Ext.refl No _).alloc _)⟩, rowsOf_zero.symm, by omega, by omega⟩)
  have HX := Lib.hid ((HI.out.2.2.trans hx3).alloc (.cells #[.int .i64 0, .int .i64 (-1), .bool false, .bool false, .slice Ar 4 cr, .int .i64 0] 56))
  clear hpt hx3 hl4 HI
  go_wp2_with fail
  generalize (w3.alloc (.cells #[.int .i64 0, .int .i64 (-1), .bool false, .bool false, .slice Ar 4 cr, .int .i64 0] 56)) = w5 at *
  generalize w3.heap.size = gr at *
  go_loopw [7] (fun i wr => ∃ k : Nat, k ≤ len ∧ i = .int .i64 k ∧ ∃ f s n d dn L Ar cr ls, Hid (St10 wr gp gr f s n d dn L Ar cr ls) ∧ Hid (Ext No w wr)) (fun i _ => len - (intOf i).toNat)
  case atStart => exact ⟨0, by omega, rfl, _, _, _, _, _, _, _, _, _, HS, HX⟩
  case round =>
    clear HS HX
    obtain ⟨k, hk, rfl, f, s, n, d, dn, L, Ar, cr, ls, HS, HX⟩ := hrel
    by_cases hlt : k < len
    · obtain ⟨hnc, hcm, hel⟩ := HL.out
      unfold maxLen at hcm
      obtain ⟨b, off, kind, at2, Ab2, lb2, cb2, num, done2, rfl, hc0, hc1, hc2, hc3, hc4, hb1, hb2, hbs⟩ := hel k hlt
      have hbl : b < w.heap.size := World.block_lt_of_cell? w _ hc0
      rw [← HX.out.cell (p := ⟨b, off + k * 5, none⟩) hbl (fun h => h)] at hc0
      rw [← HX.out.cell (p := ⟨b, off + k * 5 + 1, none⟩) hbl (fun h => h)] at hc1
      rw [← HX.out.cell (p := ⟨b, off + k * 5 + 2, none⟩) hbl (fun h => h)] at hc2
      rw [← HX.out.cell (p := ⟨b, off + k * 5 + 3, none⟩) hbl (fun h => h)] at hc3
      rw [← HX.out.cell (p := ⟨b, off + k * 5 + 4, none⟩) hbl (fun h => h)] at hc4
      have hbl3 : b < wr.heap.size := by have := HX.out.size; omega
      have hgr2 : gr < wr.heap.size := HS.out.2.1.1.lt
      have hgp2 : gp + 1 < wr.heap.size := HS.out.1.2.1.lt
      have R0 := Blk.c6 HS.out.2.1.1
      have HBS := Lib.hid (hbs.ext_no HX.out)
      clear hel HL hbs
      have hgg : gp + 1 < gr := by omega
      have hx1 : Ext No wr (wr.alloc (.cells #[.int .i64 kind, .int .i64 at2, .slice Ab2 lb2.length cb2, .int .i64 num, .bool done2] 48)) := (Ext.refl No wr).alloc _
      have hbo := Blk.new wr 48 #[.int .i64 kind, .int .i64 at2, .slice Ab2 lb2.length cb2, .int .i64 num, .bool done2]
      have HS1 := Lib.hid (HS.out.no hx1)
      have HX1 := Lib.hid (HX.out.trans hx1)
      have HBS1 := Lib.hid (HBS.out.ext_no hx1)
      have HBO := Lib.hid hbo
      clear hx1 hbo
      by_cases k0 : kind = 0
      · subst k0
        go_wp2_with fail
        generalize (wr.alloc (.cells #[.int .i64 0, .int .i64 at2, .slice Ab2 lb2.length cb2, .int .i64 num, .bool done2] 48)) = w6 at *
        clear R0 hc0 hc1 hc2 hc3 hc4 HS HX HBS
        generalize wr.heap.size = go at *
        refine (cRead_all gp (gp + 1) at2 L n f s d dn w6 HS1.out.1.2.1 HS1.out.1.1 HS1.out.1.2.2).mono ?_
        rintro e w7 ⟨A7, c7, rfl, hr7, hx7⟩
        have HS7 := Lib.hid (HS1.out.no hx7)
        have HX7 := Lib.hid (HX1.out.trans hx7)
        have HBO7 := Lib.hid (HBO.out.ext_no hx7)
        have HR7 := Lib.hid hr7
        have B7 := Blk.c5 HBO7.out
        have R7 := Blk.c6 HS7.out.2.1.1
        clear hr7 hx7 HS1 HX1 HBO
        go_wp2_with fail
        refine (rcRead_all (Off3 gp (gp + 1) gr) at2 L n f s d dn Ar cr ls w7 HS7.out.2.2.1 HS7.out.2.1.2).mono ?_
        rintro e w8 ⟨A8, c8, rfl, hr8, hx8⟩
        have HS8 := Lib.hid (HS7.out.no hx8)
        have HX8 := Lib.hid (HX7.out.trans hx8)
        have HR8 := Lib.hid (And.intro (HR7.out.ext_no hx8) hr8)
        clear hr8 hx8 HS7 HX7 HBO7 HR7 B7 R7
        generalize rdl L dn at2 = lx at *
        generalize rdc dn at2 = cx at *
        go_wp2_with (go_at_call 32; refine (rSame_ext _ _ lx lx w8 HR8.out.1 HR8.out.2 rfl).mono ?_; rintro e w9 ⟨rfl, hx9⟩; have HZ := Lib.hid (HS8.out.no hx9); have HZX := Lib.hid (HX8.out.trans hx9); have R9 := Blk.c6 HZ.out.2.1.1; have g9 := hx9.size; clear hx9 HS8 HX8)
        go_quiet ((first | (go_at_call 36; exact quiet_left (cWrites_any gp (gp + 1) _ _ _ (HZ.out.1.2.1.ext_no ((Ext.refl No _).drewN _)))) | (go_at_call 25; exact quiet_left (pSteps_any gp _ _ _ _ _ (Blk.drewN HZ.out.1.1 _)))))
        go_wp2
        go_roundw
        case rel => exact ⟨k + 1, by omega, by go_num, _, _, _, _, _, _, _, _, _, Lib.hid (HZ.out.no ((Ext.refl No _).drewN _)), Lib.hid (HZX.out.drewN _)⟩
        case measure => simp [intOf]; omega
      · by_cases k1 : kind = 1
        · subst k1
          clear k0
          by_cases hact : at2 < 0 ∨ 4 ≤ at2 ∨ 1024 < lb2.length
          · have HACT := Lib.hid hact
            clear hact
            go_wp2_with fail
            generalize (wr.alloc (.cells #[.int .i64 1, .int .i64 at2, .slice Ab2 lb2.length cb2, .int .i64 num, .bool done2] 48)) = w6 at *
            clear R0 hc0 hc1 hc2 hc3 hc4 HS HX HBS
            generalize wr.heap.size = go at *
            refine (rcWrite_not at2 n f s d dn Ar Ab2 4 cr _ cb2 w6 HACT.out).mono ?_
            rintro e w7 ⟨rfl, hx7⟩
            have HX7 := Lib.hid (HX1.out.trans hx7)
            have HI7 := Lib.hid (HS1.out.1.no hx7)
            have HR7 := Lib.hid (HS1.out.2.1.no hx7)
            have HBO7 := Lib.hid (HBO.out.ext_no hx7)
            have HBS7 := Lib.hid (HBS1.out.ext_no hx7)
            have B7 := Blk.c5 HBO7.out
            have R7 := Blk.c6 HR7.out.1
            have g71 : go < w7.heap.size + 1 := by have := HBO7.out.lt; omega
            have g72 : gr < w7.heap.size + 1 := by have := HR7.out.1.lt; omega
            clear hx7 HX1 HBO
            go_wp2_with fail
            have HX8 := Lib.hid (show Ext No w ((setR w7 gr s f d dn Ar cr n).alloc (.cells #[.int .i64 s, .int .i64 f, .bool d, .bool dn, .slice Ar 4 cr, .int .i64 n] 56)) from (HX7.out.transS (setR_ext ..) (fun i hi h => by have h : i = gr := h; omega)).alloc _)
            have HI8 := Lib.hid (show Im10 ((setR w7 gr s f d dn Ar cr n).alloc (.cells #[.int .i64 s, .int .i64 f, .bool d, .bool dn, .slice Ar 4 cr, .int .i64 n] 56)) gp f s n d dn L from (HI7.out.ofGr hgg HR7.out.1 no_u8 (setR_ext ..)).no ((Ext.refl No _).alloc _))
            have HR8 := Lib.hid (show Re10 ((setR w7 gr s f d dn Ar cr n).alloc (.cells #[.int .i64 s, .int .i64 f, .bool d, .bool dn, .slice Ar 4 cr, .int .i64 n] 56)) gp gr f s n d dn Ar cr ls from (Re10.setR HR7.out HR7.out.2).no ((Ext.refl No _).alloc _))
            have HBS8 := Lib.hid (show Bs ((setR w7 gr s f d dn Ar cr n).alloc (.cells #[.int .i64 s, .int .i64 f, .bool d, .bool dn, .slice Ar 4 cr, .int .i64 n] 56)) _ _ _ from (HBS7.out.ext (setR_ext w7 gr s f d dn Ar cr n) (fun b hb _ hh => by have hh : b = gr := hh; omega)).ext_no ((Ext.refl No _).alloc _))
            change Calls _ _ _ ((setR w7 gr s f d dn Ar cr n).alloc (.cells #[.int .i64 s, .int .i64 f, .bool d, .bool dn, .slice Ar 4 cr, .int .i64 n] 56)) _
            generalize ((setR w7 gr s f d dn Ar cr n).alloc (.cells #[.int .i64 s, .int .i64 f, .bool d, .bool dn, .slice Ar 4 cr, .int .i64 n] 56)) = w8 at *
            clear R7 B7 g71 g72 HI7 HR7 HBO7 HBS7 HX7
            refine (cWrite_not (gp + 1) at2 Ab2 _ cb2 w8 HACT.out).mono ?_
            rintro e w9 ⟨rfl, hx9⟩
            have HZ := Lib.hid (show St10 w9 gp gr f s n d dn L Ar cr ls from ⟨HI8.out.no hx9, HR8.out.no hx9, HS1.out.2.2⟩)
            have HZX := Lib.hid (HX8.out.trans hx9)
            have R9 := Blk.c6 HZ.out.2.1.1
            clear hx9 HS1 HI8 HR8 HBS8 HX8 HBS1
            go_wp2_with fail
            go_quiet ((first | (go_at_call 36; exact quiet_left (cWrites_any gp (gp + 1) _ _ _ (HZ.out.1.2.1.ext_no ((Ext.refl No _).drewN _)))) | (go_at_call 25; exact quiet_left (pSteps_any gp _ _ _ _ _ (Blk.drewN HZ.out.1.1 _)))))
            go_wp2
            go_roundw
            case rel => exact ⟨k + 1, by omega, by go_num, _, _, _, _, _, _, _, _, _, Lib.hid (HZ.out.no ((Ext.refl No _).drewN _)), Lib.hid (HZX.out.drewN _)⟩
            case measure => simp [intOf]; omega
          · obtain ⟨kk, rfl⟩ : ∃ kk : Nat, at2 = (kk : Int) := ⟨at2.toNat, by omega⟩
            have hkk4 : kk < 4 := by omega
            have hle : lb2.length ≤ 1024 := by omega
            clear hact
            have hf1 : -1 ≤ f := HS.out.2.2.2.1
            have hf2 : f ≤ 9223372036854775807 := HS.out.2.2.2.2
            have hl4 : ls.length = 4 := by rw [HS.out.2.2.1]; rfl
            have HL4 := Lib.hid hl4
            clear hl4
            cases hd : pdone f d dn with
            | true =>
              have HD := Lib.hid hd
              clear hd
              go_wp2_with fail
              generalize (wr.alloc (.cells #[.int .i64 1, .int .i64 (kk : Int), .slice Ab2 lb2.length cb2, .int .i64 num, .bool done2] 48)) = w6 at *
              clear R0 hc0 hc1 hc2 hc3 hc4 HS HX HBS
              generalize wr.heap.size = go at *
              have hgr6 : gr < w6.heap.size := HS1.out.2.1.1.lt
              refine (rcWrite_yes (Off3 gp (gp + 1) gr) s f n kk d dn (.slice Ar 4 cr) _ ls lb2 w6 hkk4 HL4.out hle hf1 hf2 HD.out (fun b hb => ⟨by omega, by omega, by omega⟩) HS1.out.2.1.2 (HBS1.out.any)).mono ?_
              rintro e w7 ⟨lv7, rfl, hpt, hx7⟩
              obtain ⟨A7, c7, rfl, _⟩ := hpt.slice
              have hl7 : (ls.set kk (pad lb2)).length = 4 := by rw [List.length_set]; exact HL4.out
              rw [hl7] at hpt
              rw [hl7]
              have HPT := Lib.hid hpt
              clear hpt hl7
              have HX7 := Lib.hid (HX1.out.trans hx7)
              have HI7 := Lib.hid (HS1.out.1.no hx7)
              have HR7 := Lib.hid (HS1.out.2.1.no hx7)
              have HBO7 := Lib.hid (HBO.out.ext_no hx7)
              have HBS7 := Lib.hid (HBS1.out.ext_no hx7)
              have B7 := Blk.c5 HBO7.out
              have R7 := Blk.c6 HR7.out.1
              have g71 : go < w7.heap.size + 1 := by have := HBO7.out.lt; omega
              have g72 : gr < w7.heap.size + 1 := by have := HR7.out.1.lt; omega
              clear hx7 HX1 HBO
              go_wp2_with fail
              have HX8 := Lib.hid (show Ext No w ((setR w7 gr (ps' s dn) (pf' f dn) d (pdn' f dn) A7 c7 (wrap64 (n + 1))).alloc (.cells #[.int .i64 (ps' s dn), .int .i64 (pf' f dn), .bool d, .bool (pdn' f dn), .slice A7 4 c7, .int .i64 (wrap64 (n + 1))] 56)) from (HX7.out.transS (setR_ext ..) (fun i hi h => by have h : i = gr := h; omega)).alloc _)
              have HI8 := Lib.hid (show Im10 ((setR w7 gr (ps' s dn) (pf' f dn) d (pdn' f dn) A7 c7 (wrap64 (n + 1))).alloc (.cells #[.int .i64 (ps' s dn), .int .i64 (pf' f dn), .bool d, .bool (pdn' f dn), .slice A7 4 c7, .int .i64 (wrap64 (n + 1))] 56)) gp f s n d dn L from (HI7.out.ofGr hgg HR7.out.1 no_u8 (setR_ext ..)).no ((Ext.refl No _).alloc _))
              have HR8 := Lib.hid (show Re10 ((setR w7 gr (ps' s dn) (pf' f dn) d (pdn' f dn) A7 c7 (wrap64 (n + 1))).alloc (.cells #[.int .i64 (ps' s dn), .int .i64 (pf' f dn), .bool d, .bool (pdn' f dn), .slice A7 4 c7, .int .i64 (wrap64 (n + 1))] 56)) gp gr (pf' f dn) (ps' s dn) (wrap64 (n + 1)) d (pdn' f dn) A7 c7 (ls.set kk (pad lb2)) from (Re10.setR HR7.out HPT.out).no ((Ext.refl No _).alloc _))
              have HBS8 := Lib.hid (show Bs ((setR w7 gr (ps' s dn) (pf' f dn) d (pdn' f dn) A7 c7 (wrap64 (n + 1))).alloc (.cells #[.int .i64 (ps' s dn), .int .i64 (pf' f dn), .bool d, .bool (pdn' f dn), .slice A7 4 c7, .int .i64 (wrap64 (n + 1))] 56)) _ _ _ from (HBS7.out.ext (setR_ext w7 gr (ps' s dn) (pf' f dn) d (pdn' f dn) A7 c7 (wrap64 (n + 1))) (fun b hb _ hh => by have hh : b = gr := hh; omega)).ext_no ((Ext.refl No _).alloc _))
              change Calls _ _ _ ((setR w7 gr (ps' s dn) (pf' f dn) d (pdn' f dn) A7 c7 (wrap64 (n + 1))).alloc (.cells #[.int .i64 (ps' s dn), .int .i64 (pf' f dn), .bool d, .bool (pdn' f dn), .slice A7 4 c7, .int .i64 (wrap64 (n + 1))] 56)) _
              generalize ((setR w7 gr (ps' s dn) (pf' f dn) d (pdn' f dn) A7 c7 (wrap64 (n + 1))).alloc (.cells #[.int .i64 (ps' s dn), .int .i64 (pf' f dn), .bool d, .bool (pdn' f dn), .slice A7 4 c7, .int .i64 (wrap64 (n + 1))] 56)) = w8 at *
              clear R7 B7 g71 g72 HI7 HR7 HBO7 HBS7 HX7
              refine (cWrite_any gp (gp + 1) kk L n f s d dn _ lb2 w8 hkk4 (HBS8.out.mono fun b hb => ⟨by omega, by omega⟩) hle HI8.out.2.1 HI8.out.1 hf1 hf2 (by omega)).mono ?_
              rintro e w9 ⟨rfl, hp9, hc9, hx9⟩
              rw [HD.out] at hc9
              have HZ := Lib.hid (show St10 w9 gp gr (pf' f dn) (ps' s dn) (wrap64 (n + 1)) d (pdn' f dn) (upd L kk lb2) A7 c7 (ls.set kk (pad lb2)) from ⟨⟨hp9, hc9, fun j => by unfold upd; split; exact hle; exact HI8.out.2.2 j⟩, HR8.out.two hgg hx9, by rw [HS1.out.2.2.1]; exact rowsOf_upd hkk4, pf'_lo hf1, pf'_hi hf2⟩)
              have HZX := Lib.hid (HX8.out.transS hx9 (fun i hi h => by have h : i = gp ∨ i = gp + 1 := h; omega))
              have R9 := Blk.c6 HZ.out.2.1.1
              clear hp9 hc9 hx9 HS1 HI8 HR8 HBS8 HX8 HBS1 HPT HD
              generalize pf' f dn = f9 at *
              generalize pdn' f dn = dn9 at *
              generalize ps' s dn = s9 at *
              generalize wrap64 (n + 1) = n9 at *
              go_wp2_with fail
              go_quiet ((first | (go_at_call 36; exact quiet_left (cWrites_any gp (gp + 1) _ _ _ (HZ.out.1.2.1.ext_no ((Ext.refl No _).drewN _)))) | (go_at_call 25; exact quiet_left (pSteps_any gp _ _ _ _ _ (Blk.drewN HZ.out.1.1 _)))))
              go_wp2
              go_roundw
              case rel => exact ⟨k + 1, by omega, by go_num, _, _, _, _, _, _, _, _, _, Lib.hid (HZ.out.no ((Ext.refl No _).drewN _)), Lib.hid (HZX.out.drewN _)⟩
              case measure => simp [intOf]; omega
            | false =>
              have HD := Lib.hid hd
              clear hd
              go_wp2_with fail
              generalize (wr.alloc (.cells #[.int .i64 1, .int .i64 (kk : Int), .slice Ab2 lb2.length cb2, .int .i64 num, .bool done2] 48)) = w6 at *
              clear R0 hc0 hc1 hc2 hc3 hc4 HS HX HBS
              generalize wr.heap.size = go at *
              refine (rcWrite_no (Off3 gp (gp + 1) gr) s f n kk d dn Ar Ab2 4 cr _ cb2 w6 hkk4 hle hf1 hf2 HD.out).mono ?_
              rintro e w7 ⟨rfl, hx7⟩
              have HX7 := Lib.hid (HX1.out.trans hx7)
              have HI7 := Lib.hid (HS1.out.1.no hx7)
              have HR7 := Lib.hid (HS1.out.2.1.no hx7)
              have HBO7 := Lib.hid (HBO.out.ext_no hx7)
              have HBS7 := Lib.hid (HBS1.out.ext_no hx7)
              have B7 := Blk.c5 HBO7.out
              have R7 := Blk.c6 HR7.out.1
              have g71 : go < w7.heap.size + 1 := by have := HBO7.out.lt; omega
              have g72 : gr < w7.heap.size + 1 := by have := HR7.out.1.lt; omega
              clear hx7 HX1 HBO
              go_wp2_with fail
              have HX8 := Lib.hid (show Ext No w ((setR w7 gr (ps' s dn) (pf' f dn) d (pdn' f dn) Ar cr n).alloc (.cells #[.int .i64 (ps' s dn), .int .i64 (pf' f dn), .bool d, .bool (pdn' f dn), .slice Ar 4 cr, .int .i64 n] 56)) from (HX7.out.transS (setR_ext ..) (fun i hi h => by have h : i = gr := h; omega)).alloc _)
              have HI8 := Lib.hid (show Im10 ((setR w7 gr (ps' s dn) (pf' f dn) d (pdn' f dn) Ar cr n).alloc (.cells #[.int .i64 (ps' s dn), .int .i64 (pf' f dn), .bool d, .bool (pdn' f dn), .slice Ar 4 cr, .int .i64 n] 56)) gp f s n d dn L from (HI7.out.ofGr hgg HR7.out.1 no_u8 (setR_ext ..)).no ((Ext.refl No _).alloc _))
              have HR8 := Lib.hid (show Re10 ((setR w7 gr (ps' s dn) (pf' f dn) d (pdn' f dn) Ar cr n).alloc (.cells #[.int .i64 (ps' s dn), .int .i64 (pf' f dn), .bool d, .bool (pdn' f dn), .slice Ar 4 cr, .int .i64 n] 56)) gp gr (pf' f dn) (ps' s dn) n d (pdn' f dn) Ar cr ls from (Re10.setR HR7.out HR7.out.2).no ((Ext.refl No _).alloc _))
              have HBS8 := Lib.hid (show Bs ((setR w7 gr (ps' s dn) (pf' f dn) d (pdn' f dn) Ar cr n).alloc (.cells #[.int .i64 (ps' s dn), .int .i64 (pf' f dn), .bool d, .bool (pdn' f dn), .slice Ar 4 cr, .int .i64 n] 56)) _ _ _ from (HBS7.out.ext (setR_ext w7 gr (ps' s dn) (pf' f dn) d (pdn' f dn) Ar cr n) (fun b hb _ hh => by have hh : b = gr := hh; omega)).ext_no ((Ext.refl No _).alloc _))
              change Calls _ _ _ ((setR w7 gr (ps' s dn) (pf' f dn) d (pdn' f dn) Ar cr n).alloc (.cells #[.int .i64 (ps' s dn), .int .i64 (pf' f dn), .bool d, .bool (pdn' f dn), .slice Ar 4 cr, .int .i64 n] 56)) _
              generalize ((setR w7 gr (ps' s dn) (pf' f dn) d (pdn' f dn) Ar cr n).alloc (.cells #[.int .i64 (ps' s dn), .int .i64 (pf' f dn), .bool d, .bool (pdn' f dn), .slice Ar 4 cr, .int .i64 n] 56)) = w8 at *
              clear R7 B7 g71 g72 HI7 HR7 HBO7 HBS7 HX7
              refine (cWrite_any gp (gp + 1) kk L n f s d dn _ lb2 w8 hkk4 (HBS8.out.mono fun b hb => ⟨by omega, by omega⟩) hle HI8.out.2.1 HI8.out.1 hf1 hf2 (by omega)).mono ?_
              rintro e w9 ⟨rfl, hp9, hc9, hx9⟩
              rw [HD.out] at hc9
              have HZ := Lib.hid (show St10 w9 gp gr (pf' f dn) (ps' s dn) n d (pdn' f dn) L Ar cr ls from ⟨⟨hp9, hc9, HI8.out.2.2⟩, HR8.out.two hgg hx9, HS1.out.2.2.1, pf'_lo hf1, pf'_hi hf2⟩)
              have HZX := Lib.hid (HX8.out.transS hx9 (fun i hi h => by have h : i = gp ∨ i = gp + 1 := h; omega))
              have R9 := Blk.c6 HZ.out.2.1.1
              clear hp9 hc9 hx9 HS1 HI8 HR8 HBS8 HX8 HBS1 HD
              generalize pf' f dn = f9 at *
              generalize pdn' f dn = dn9 at *
              generalize ps' s dn = s9 at *
              go_wp2_with fail
              go_quiet ((first | (go_at_call 36; exact quiet_left (cWrites_any gp (gp + 1) _ _ _ (HZ.out.1.2.1.ext_no ((Ext.refl No _).drewN _)))) | (go_at_call 25; exact quiet_left (pSteps_any gp _ _ _ _ _ (Blk.drewN HZ.out.1.1 _)))))
              go_wp2
              go_roundw
              case rel => exact ⟨k + 1, by omega, by go_num, _, _, _, _, _, _, _, _, _, Lib.hid (HZ.out.no ((Ext.refl No _).drewN _)), Lib.hid (HZX.out.drewN _)⟩
              case measure => simp [intOf]; omega
        · by_cases k2 : kind = 2
          · subst k2
            clear k0 k1
            have hgo : gr < wr.heap.size := hgr2
            go_wp2_with fail
            generalize (wr.alloc (.cells #[.int .i64 2, .int .i64 at2, .slice Ab2 lb2.length cb2, .int .i64 num, .bool done2] 48)) = w6 at *
            clear R0 hc0 hc1 hc2 hc3 hc4 HS HX HBS
            generalize wr.heap.size = go at *
            refine (pFuse_any gp num f s d dn done2 w6 HS1.out.1.1).mono ?_
            rintro e w7 ⟨rfl, hp7, hx7⟩
            have HI7 := Lib.hid (show Im10 w7 gp (max num (-1)) s n done2 dn L from ⟨hp7, HS1.out.1.2.1.ext_pw (by omega) hx7, HS1.out.1.2.2⟩)
            have HX7 := Lib.hid (HX1.out.transS hx7 (fun i hi h => by have h : i = gp := h; omega))
            have HR7 := Lib.hid (HS1.out.2.1.two hgg (hx7.mono fun _ _ h => .inl h))
            have HBO7 := Lib.hid (HBO.out.ext hx7 (fun h => by have h : go = gp := h; omega))
            have B7 := Blk.c5 HBO7.out
            have R7 := Blk.c6 HR7.out.1
            clear hp7 hx7 HX1 HBO
            go_wp2_with fail
            refine (rFuse_any s f num d dn done2 w7).mono ?_
            rintro e w8 ⟨rfl, hx8⟩
            have HI8 := Lib.hid (HI7.out.no hx8)
            have HR8 := Lib.hid (HR7.out.no hx8)
            have HX8 := Lib.hid (HX7.out.trans hx8)
            have R8 := Blk.c6 HR8.out.1
            have hm1 : -1 ≤ max num (-1) := by omega
            have hm2 : max num (-1) ≤ 9223372036854775807 := by omega
            clear hx8 HI7 HR7 HX7 HBO7 B7 R7
            generalize max num (-1) = num2 at *
            go_wp2_with fail
            have HZ := Lib.hid (show St10 ((((w8.setCell ⟨gr, 0, none⟩ (.int .i64 s)).setCell ⟨gr, 1, none⟩ (.int .i64 num2)).setCell ⟨gr, 2, none⟩ (.bool done2)).setCell ⟨gr, 3, none⟩ (.bool dn)) gp gr num2 s n done2 dn L Ar cr ls from ⟨HI8.out.ofGr hgg HR8.out.1 no_u8 (setP_ext w8 gr s num2 done2 dn), Re10.setP HR8.out, HS1.out.2.2.1, by omega, by omega⟩)
            have HZX := Lib.hid (show Ext No w ((((w8.setCell ⟨gr, 0, none⟩ (.int .i64 s)).setCell ⟨gr, 1, none⟩ (.int .i64 num2)).setCell ⟨gr, 2, none⟩ (.bool done2)).setCell ⟨gr, 3, none⟩ (.bool dn)) from HX8.out.transS (setP_ext w8 gr s num2 done2 dn) (fun i hi h => by have h : i = gr := h; omega))
            generalize ((((w8.setCell ⟨gr, 0, none⟩ (.int .i64 s)).setCell ⟨gr, 1, none⟩ (.int .i64 num2)).setCell ⟨gr, 2, none⟩ (.bool done2)).setCell ⟨gr, 3, none⟩ (.bool dn)) = w9 at *
            have R9 := Blk.c6 HZ.out.2.1.1
            clear R8 HI8 HR8 HX8 HS1 HBS1
            go_quiet ((first | (go_at_call 36; exact quiet_left (cWrites_any gp (gp + 1) _ _ _ (HZ.out.1.2.1.ext_no ((Ext.refl No _).drewN _)))) | (go_at_call 25; exact quiet_left (pSteps_any gp _ _ _ _ _ (Blk.drewN HZ.out.1.1 _)))))
            go_wp2
            go_roundw
            case rel => exact ⟨k + 1, by omega, by go_num, _, _, _, _, _, _, _, _, _, Lib.hid (HZ.out.no ((Ext.refl No _).drewN _)), Lib.hid (HZX.out.drewN _)⟩
            case measure => simp [intOf]; omega
          · by_cases k3 : kind = 3
            · subst k3
              clear k0 k1 k2
              have hgo : gr < wr.heap.size := hgr2
              go_wp2_with fail
              generalize (wr.alloc (.cells #[.int .i64 3, .int .i64 at2, .slice Ab2 lb2.length cb2, .int .i64 num, .bool done2] 48)) = w6 at *
              clear R0 hc0 hc1 hc2 hc3 hc4 HS HX HBS
              generalize wr.heap.size = go at *
              refine (pBack_any gp f s d dn w6 HS1.out.1.1).mono ?_
              rintro e w7 ⟨rfl, hp7, hx7⟩
              have HI7 := Lib.hid (show Im10 w7 gp (-1) s n false false L from ⟨hp7, HS1.out.1.2.1.ext_pw (by omega) hx7, HS1.out.1.2.2⟩)
              have HX7 := Lib.hid (HX1.out.transS hx7 (fun i hi h => by have h : i = gp := h; omega))
              have HR7 := Lib.hid (HS1.out.2.1.two hgg (hx7.mono fun _ _ h => .inl h))
              have HBO7 := Lib.hid (HBO.out.ext hx7 (fun h => by have h : go = gp := h; omega))
              have B7 := Blk.c5 HBO7.out
              have R7 := Blk.c6 HR7.out.1
              clear hp7 hx7 HX1 HBO
              go_wp2_with fail
              refine (rBack_any s f d dn w7).mono ?_
              rintro e w8 ⟨rfl, hx8⟩
              have HI8 := Lib.hid (HI7.out.no hx8)
              have HR8 := Lib.hid (HR7.out.no hx8)
              have HX8 := Lib.hid (HX7.out.trans hx8)
              have R8 := Blk.c6 HR8.out.1
              clear hx8 HI7 HR7 HX7 HBO7 B7 R7
              go_wp2_with fail
              have HZ := Lib.hid (show St10 ((((w8.setCell ⟨gr, 0, none⟩ (.int .i64 s)).setCell ⟨gr, 1, none⟩ (.int .i64 (-1))).setCell ⟨gr, 2, none⟩ (.bool false)).setCell ⟨gr, 3, none⟩ (.bool false)) gp gr (-1) s n false false L Ar cr ls from ⟨HI8.out.ofGr hgg HR8.out.1 no_u8 (setP_ext w8 gr s (-1) false false), Re10.setP HR8.out, HS1.out.2.2.1, by omega, by omega⟩)
              have HZX := Lib.hid (show Ext No w ((((w8.setCell ⟨gr, 0, none⟩ (.int .i64 s)).setCell ⟨gr, 1, none⟩ (.int .i64 (-1))).setCell ⟨gr, 2, none⟩ (.bool false)).setCell ⟨gr, 3, none⟩ (.bool false)) from HX8.out.transS (setP_ext w8 gr s (-1) false false) (fun i hi h => by have h : i = gr := h; omega))
              generalize ((((w8.setCell ⟨gr, 0, none⟩ (.int .i64 s)).setCell ⟨gr, 1, none⟩ (.int .i64 (-1))).setCell ⟨gr, 2, none⟩ (.bool false)).setCell ⟨gr, 3, none⟩ (.bool false)) = w9 at *
              have R9 := Blk.c6 HZ.out.2.1.1
              clear R8 HI8 HR8 HX8 HS1 HBS1
              go_quiet ((first | (go_at_call 36; exact quiet_left (cWrites_any gp (gp + 1) _ _ _ (HZ.out.1.2.1.ext_no ((Ext.refl No _).drewN _)))) | (go_at_call 25; exact quiet_left (pSteps_any gp _ _ _ _ _ (Blk.drewN HZ.out.1.1 _)))))
              go_wp2
              go_roundw
              case rel => exact ⟨k + 1, by omega, by go_num, _, _, _, _, _, _, _, _, _, Lib.hid (HZ.out.no ((Ext.refl No _).drewN _)), Lib.hid (HZX.out.drewN _)⟩
              case measure => simp [intOf]; omega
            · have q0 : (kind == 0) = false := by simpa using k0
              have q1 : (kind == 1) = false := by simpa using k1
              have q2 : (kind == 2) = false := by simpa using k2
              have q3 : (kind == 3) = false := by simpa using k3
              go_wp2_with fail
              generalize (wr.alloc (.cells #[.int .i64 kind, .int .i64 at2, .slice Ab2 lb2.length cb2, .int .i64 num, .bool done2] 48)) = w6 at *
              clear hc0 hc1 hc2 hc3 hc4 HS HX HBS
              generalize wr.heap.size = go at *
              have HZ := HS1
              have HZX := HX1
              have R9 := Blk.c6 HZ.out.2.1.1
              clear R0 HS1 HX1
              go_quiet ((first | (go_at_call 36; exact quiet_left (cWrites_any gp (gp + 1) _ _ _ (HZ.out.1.2.1.ext_no ((Ext.refl No _).drewN _)))) | (go_at_call 25; exact quiet_left (pSteps_any gp _ _ _ _ _ (Blk.drewN HZ.out.1.1 _)))))
              go_wp2
              go_roundw
              case rel => exact ⟨k + 1, by omega, by go_num, _, _, _, _, _, _, _, _, _, Lib.hid (HZ.out.no ((Ext.refl No _).drewN _)), Lib.hid (HZX.out.drewN _)⟩
              case measure => simp [intOf]; omega
    · go_wp2_with (go_at_call 28; refine (works10 _).mono ?_; rintro e w3 ⟨rfl, hx3⟩)
      go_ret
      exact ⟨rfl, HX.out.trans hx3⟩
end Go.Proofs.Ytbemmjejgklieaa
