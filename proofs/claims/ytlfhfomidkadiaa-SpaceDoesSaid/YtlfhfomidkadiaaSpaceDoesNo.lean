/- The law SpaceDoes: the reference's calls; inputs that are let go or refused. -/
import Derived.Test.YtlfhfomidkadiaaSpaceRef
import Derived.Test.YtlfhfomidkadiaaOpen15
set_option linter.unusedVariables false
set_option linter.unusedSimpArgs false
namespace Go.Proofs.Ytlfhfomidkadiaa
open Go.RowKit Go.Deep Go.Proofs.YtlfhfomidkadiaaW.PrintWords Go.Proofs.YtlfhfomidkadiaaW.PrintLast Go.Proofs.YtlfhfomidkadiaaW.PrintMore

/-- The reference's row. -/
abbrev RS (w : World) (base : Nat) (P : Nat → Prop) (v : Value) (L : List Bool) : Prop := Kd.R Kd.bool 4 w base P v L
abbrev Off3 (g h r : Nat) : Nat → Prop := fun b => b ≠ g ∧ b ≠ h ∧ b ≠ r
theorem RS.slice {w : World} {base : Nat} {P : Nat → Prop} {v : Value} {L : List Bool} (h : RS w base P v L) : ∃ A c, v = .slice A L.length c ∧ L.length ≤ c ∧ ∀ k, (hk : k < L.length) → ∃ ad, A = some ad ∧ w.cell? (ad.add k) = some (.bool L[k]) := by
  obtain ⟨A, c, rfl, hl, hc⟩ := Kd.R_reads h
  refine ⟨A, c, rfl, hl, fun k hk => ?_⟩
  obtain ⟨ad, hA, hcell⟩ := Kd.at_bool hc (k : Int) (by omega) (by omega)
  rw [rd_get hk, Int.toNat_natCast] at hcell
  exact ⟨ad, hA, hcell⟩
theorem RS.step {w w' : World} {base : Nat} {P : Nat → Prop} {v : Value} {L : List Bool} (h : RS w base P v L) (hk : ∀ b, P b → b < w.heap.size → w'.heap[b]? = w.heap[b]?) : RS w' base P v L := Kd.R_step h hk
theorem RS.ext {S : Nat → Prop} {w w' : World} {base : Nat} {P : Nat → Prop} {v : Value} {L : List Bool} (h : RS w base P v L) (hx : Ext S w w') (hd : ∀ b, P b → b < w.heap.size → ¬ S b) : RS w' base P v L := h.step fun b hb hl => hx.block b hl (hd b hb hl)
theorem RS.no {w w' : World} {base : Nat} {P : Nat → Prop} {v : Value} {L : List Bool} (h : RS w base P v L) (hx : Ext No w w') : RS w' base P v L := h.ext hx fun _ _ _ h => h
theorem rNew_calls (n f : Nat) (w : World) (h : okNew n f) : Calls Try.prog 12 #[.int .i64 (n : Int), .int .i64 (f : Int)] w fun e w' => ∃ v, e = .returned (.tuple #[.agg #[.int .i64 (f : Int), v], .int .i64 0]) ∧ RS w' w.heap.size (fun b => w.heap.size ≤ b) v (fillRun (List.replicate n false) 0 f true) ∧ Ext No w w' := by
  refine (PSpaceDoes.deedboxref15_New.calls (n + 2) n f f _ 0 w (rNew_ok n f h (n + 2) (by omega))).mono ?_
  rintro e w' ⟨v, rfl, hr, hb⟩
  exact ⟨v, rfl, Kd.R_mono (Kd.R_bound hr) (fun k hk => hk.2.1), Ext.of_below hb⟩
theorem rNew_not (n f : Int) (w : World) (h : ¬ okNew n f) : Calls Try.prog 12 #[.int .i64 n, .int .i64 f] w fun e w' => ∃ v, e = .returned (.tuple #[.agg #[.int .i64 0, v], .int .i64 2]) ∧ (∃ A c, v = .slice A 0 c) ∧ Ext No w w' := by
  refine (PSpaceDoes.deedboxref15_New.calls 1 n f 0 [] 2 w (rNew_no n f h)).mono ?_
  rintro e w' ⟨v, rfl, hr, hb⟩
  obtain ⟨A, c, rfl⟩ := Kd.R_slice hr
  exact ⟨_, rfl, ⟨A, c, rfl⟩, Ext.of_below hb⟩
theorem rFree_calls (f : Int) (base : Nat) (P : Nat → Prop) (v : Value) (L : List Bool) (w : World) (h : RS w base P v L) (hL : L.length ≤ 100000) : Calls Try.prog 14 #[.agg #[.int .i64 f, v]] w fun e w' => e = .returned (.int .i64 (freeOf L)) ∧ Ext No w w' := by
  obtain ⟨A, c, rfl, hl, hc⟩ := Kd.R_reads h
  refine (PSpaceDoes.deedboxref15_Free.calls (L.length + 1) f A c L _ w hc hl (rFree_f L f hL (L.length + 1) (by omega))).mono ?_
  rintro e w' ⟨rfl, hb⟩
  exact ⟨rfl, Ext.of_below hb⟩
/-- What a call of the reference that gives a new row leaves. -/
def RPost (w0 w : World) (v v1 : Value) (L : List Bool) (w' : World) : Prop := RS w' w0.heap.size (fun k => v.ownBlock = some k ∨ w.heap.size ≤ k) v1 L ∧ Ext No w0 w' ∧ Ext (fun k => v.ownBlock = some k) w w'
theorem RPost.of {w0 w w' : World} {v v1 : Value} {L : List Bool} (hB : Ext No w0 w) (h1 : Kd.R Kd.bool 4 w' w0.heap.size (fun k => (v.ownBlock = some k ∨ w.heap.size ≤ k)) v1 L) (h2 : Below w0.heap.size w0 w') (h3 : Kept w w' (fun k => v.ownBlock = some k)) : RPost w0 w v v1 L w' :=
  ⟨h1, Ext.of_below h2, ⟨h2.os.trans hB.os.symm, h2.tape.trans hB.tape.symm, h2.output.trans hB.output.symm, h3.1, h3.2⟩⟩
theorem RS.self {w : World} {base : Nat} {P : Nat → Prop} {v : Value} {L : List Bool} (h : RS w base P v L) : Kd.R Kd.bool 4 w base (fun k => v.ownBlock = some k) v L := by
  obtain ⟨h0, inner, ho, hr⟩ := h
  exact ⟨fun k hk => hk, inner, ho, hr.imp_ (fun _ _ hp => hp)⟩
section
variable (f : Nat) (v : Value) (L : List Bool) (w0 w : World) (P : Nat → Prop)
theorem rTake_calls (n : Int) (hB : Ext No w0 w) (hr : RS w w0.heap.size P v L) (hL : L.length ≤ 100000) (hf : Fixed f L) (hn : n ≤ 9223372036854775807) :
    Calls Try.prog 15 #[.agg #[.int .i64 (f : Int), v], .int .i64 n] w fun e w' => ∃ v1, e = .returned (.tuple #[.agg #[.int .i64 (f : Int), v1], .int .i64 (takeF L n).2.1, .int .i64 (takeF L n).2.2]) ∧ RPost w0 w v v1 (takeF L n).1 w' := by
  refine (PSpaceDoes.deedboxref15_Take.calls (3 * L.length + 11) f (fun k => v.ownBlock = some k) v L n f _ _ _ w0 w hB.below hr.self (rTake_f L f n hf hn hL _ (by omega))).mono ?_
  rintro e w' ⟨v1, rfl, h1, h2, h3⟩
  exact ⟨v1, rfl, RPost.of hB h1 h2 h3⟩
theorem rMark_calls (at_ n : Int) (hB : Ext No w0 w) (hr : RS w w0.heap.size P v L) (hL : L.length ≤ 100000) (hn : -9223372036854775808 ≤ n) :
    Calls Try.prog 17 #[.agg #[.int .i64 (f : Int), v], .int .i64 at_, .int .i64 n] w fun e w' => ∃ v1, e = .returned (.tuple #[.agg #[.int .i64 (f : Int), v1], .int .i64 (setF f L at_ n true 10).2]) ∧ RPost w0 w v v1 (setF f L at_ n true 10).1 w' := by
  refine (PSpaceDoes.deedboxref15_Mark.calls (L.length + 2) f (fun k => v.ownBlock = some k) v L at_ n f _ _ w0 w hB.below hr.self (rMark_f L f at_ n hL hn _ (by omega))).mono ?_
  rintro e w' ⟨v1, rfl, h1, h2, h3⟩
  exact ⟨v1, rfl, RPost.of hB h1 h2 h3⟩
theorem rGive_calls (at_ n : Int) (hB : Ext No w0 w) (hr : RS w w0.heap.size P v L) (hL : L.length ≤ 100000) (hn : -9223372036854775808 ≤ n) :
    Calls Try.prog 19 #[.agg #[.int .i64 (f : Int), v], .int .i64 at_, .int .i64 n] w fun e w' => ∃ v1, e = .returned (.tuple #[.agg #[.int .i64 (f : Int), v1], .int .i64 (setF f L at_ n false 9).2]) ∧ RPost w0 w v v1 (setF f L at_ n false 9).1 w' := by
  refine (PSpaceDoes.deedboxref15_Give.calls (L.length + 2) f (fun k => v.ownBlock = some k) v L at_ n f _ _ w0 w hB.below hr.self (rGive_f L f at_ n hL hn _ (by omega))).mono ?_
  rintro e w' ⟨v1, rfl, h1, h2, h3⟩
  exact ⟨v1, rfl, RPost.of hB h1 h2 h3⟩
end

/-- What stands behind an act: the space, the old copy, the reference's variable and row. -/
structure All15 (w0 : World) (gs g5 b5 c5 gr nn f : Nat) (L Lo : List Bool) (A : Option Addr) (c : Nat) (w : World) : Prop where
  s : IsSp w (gs + 1) gs nn f L
  o : IsSp w g5 b5 c5 f Lo
  b : Blk w gr 30 #[.int .i64 (f : Int), .slice A nn c]
  r : RS w gs (Off3 gs (gs + 1) gr) (.slice A nn c) L
  x : Ext No w0 w
  n : L.length = nn
  m : nn ≤ 4096
abbrev S15 (w0 : World) (gs g5 b5 c5 gr nn f : Nat) (L Lo : List Bool) (A : Option Addr) (c : Nat) (w : World) : Prop :=
  (w.cell? ⟨gr, 0, none⟩ = some (.int .i64 (f : Int)) ∧ w.cell? ⟨gr, 1, none⟩ = some (.slice A nn c)) ∧ Hid (All15 w0 gs g5 b5 c5 gr nn f L Lo A c w)
section
variable {w0 : World} {gs g5 b5 c5 gr nn f : Nat} {L Lo : List Bool} {A : Option Addr} {c : Nat} {w w' : World}
theorem All15.no (h : All15 w0 gs g5 b5 c5 gr nn f L Lo A c w) (hx : Ext No w w') : All15 w0 gs g5 b5 c5 gr nn f L Lo A c w' := ⟨h.s.no hx, h.o.no hx, h.b.ext_no hx, RS.no h.r hx, h.x.trans hx, h.n, h.m⟩
theorem All15.S (h : All15 w0 gs g5 b5 c5 gr nn f L Lo A c w) : S15 w0 gs g5 b5 c5 gr nn f L Lo A c w := ⟨(Blk.c2 h.b).1, h⟩
theorem S15.no (h : S15 w0 gs g5 b5 c5 gr nn f L Lo A c w) (hx : Ext No w w') : S15 w0 gs g5 b5 c5 gr nn f L Lo A c w' := (h.2.out.no hx).S
theorem S15.drew (h : S15 w0 gs g5 b5 c5 gr nn f L Lo A c w) : S15 w0 gs g5 b5 c5 gr nn f L Lo A c w.drew := h.no (Ext.refl No w).drew
theorem S15.free (h : S15 w0 gs g5 b5 c5 gr nn f L Lo A c w) : Calls Try.prog 21 #[ptr (gs + 1)] w fun e w' => e = .returned (.int .i64 (freeOf L)) ∧ S15 w0 gs g5 b5 c5 gr nn f L Lo A c w' := by
  refine (spFree_any _ _ _ _ _ w h.2.out.s).mono ?_
  rintro e w' ⟨rfl, n, rfl⟩
  exact ⟨rfl, h.no ((Ext.refl No w).drewN n)⟩
theorem S15.old (h : S15 w0 gs g5 b5 c5 gr nn f L Lo A c w) : Calls Try.prog 21 #[ptr g5] w fun e w' => e = .returned (.int .i64 (freeOf Lo)) ∧ S15 w0 gs g5 b5 c5 gr nn f L Lo A c w' := by
  refine (spFree_any _ _ _ _ _ w h.2.out.o).mono ?_
  rintro e w' ⟨rfl, n, rfl⟩
  exact ⟨rfl, h.no ((Ext.refl No w).drewN n)⟩
theorem S15.size (h : S15 w0 gs g5 b5 c5 gr nn f L Lo A c w) : Calls Try.prog 22 #[ptr (gs + 1)] w fun e w' => e = .returned (.int .i64 nn) ∧ S15 w0 gs g5 b5 c5 gr nn f L Lo A c w' := by
  refine (spSize_any _ _ _ _ _ w h.2.out.s).mono ?_
  rintro e w' ⟨rfl, rfl⟩
  rw [h.2.out.n]
  exact ⟨rfl, h⟩
theorem S15.ref (h : S15 w0 gs g5 b5 c5 gr nn f L Lo A c w) : Calls Try.prog 14 #[.agg #[.int .i64 (f : Int), .slice A nn c]] w fun e w' => e = .returned (.int .i64 (freeOf L)) ∧ S15 w0 gs g5 b5 c5 gr nn f L Lo A c w' := by
  refine (rFree_calls _ _ _ _ L w h.2.out.r (by rw [h.2.out.n]; have := h.2.out.m; omega)).mono ?_
  rintro e w' ⟨rfl, hx⟩
  exact ⟨rfl, h.no hx⟩
end

theorem All15.row {w0 : World} {gs g5 b5 c5 gr nn f : Nat} {L Lo : List Bool} {A : Option Addr} {c : Nat} {w : World} (h : All15 w0 gs g5 b5 c5 gr nn f L Lo A c w) (hn : 0 < nn) : ∃ g7, A = some ⟨g7, 0, none⟩ ∧ nn ≤ c ∧ ∀ y, y < nn → ∃ z, w.cell? ⟨g7, y, none⟩ = some (.bool z) ∧ takenAt L (y : Int) = z := by
  obtain ⟨inner, ho⟩ := Kd.R_own h.r
  obtain ⟨g, cap, cur, e, _⟩ := own_form ho (by rw [h.n]; exact hn)
  obtain ⟨A', c', e2, hl, hc⟩ := RS.slice h.r
  rw [h.n] at e e2 hl
  injection e with e1 _ e3
  injection e2 with e4 _ e5
  refine ⟨g, e1, by rw [e5]; exact hl, fun y hy => ?_⟩
  have hyl : y < L.length := by rw [h.n]; exact hy
  obtain ⟨ad, ha, hcell⟩ := hc y hyl
  rw [← e4, e1] at ha
  injection ha with ha
  subst ha
  rw [show (⟨g, 0, none⟩ : Addr).add y = ⟨g, y, none⟩ by unfold Addr.add; split <;> simp_all] at hcell
  refine ⟨L[y], hcell, ?_⟩
  unfold takenAt
  rw [decide_eq_false (by omega), decide_eq_false (by omega)]
  simp only [Int.toNat_natCast]
  simp [hyl]

/-- The reference's variable written, and a block made. -/
def putR (w : World) (gr : Nat) (f : Int) (A : Option Addr) (n c : Nat) : World := ((w.setCell ⟨gr, 0, none⟩ (.int .i64 f)).setCell ⟨gr, 1, none⟩ (.slice A n c)).alloc (.cells #[.int .i64 f, .slice A n c] 30)
theorem putR_ext (w : World) (gr : Nat) (f : Int) (A : Option Addr) (n c : Nat) : Ext (One gr) w (putR w gr f A n c) := by
  unfold putR
  refine Ext.alloc ?_ _
  refine Ext.setCell (S := One gr) ?_ (fun _ => rfl) _
  exact Ext.setCell (S := One gr) (Ext.refl _ _) (fun _ => rfl) _
theorem putR_blk {w : World} {gr : Nat} {x y : Value} (f : Int) (A : Option Addr) (n c : Nat) (h : Blk w gr 30 #[x, y]) : Blk (putR w gr f A n c) gr 30 #[.int .i64 f, .slice A n c] :=
  Blk.alloc (Blk.set_ (Blk.set_ h 0 _) 1 _) _
/-- The reference's variable written. -/
def setR2 (w : World) (gr : Nat) (f : Int) (A : Option Addr) (n c : Nat) : World := (w.setCell ⟨gr, 0, none⟩ (.int .i64 f)).setCell ⟨gr, 1, none⟩ (.slice A n c)
theorem setR2_ext (w : World) (gr : Nat) (f : Int) (A : Option Addr) (n c : Nat) : Ext (One gr) w (setR2 w gr f A n c) := by
  unfold setR2
  refine Ext.setCell (S := One gr) ?_ (fun _ => rfl) _
  exact Ext.setCell (S := One gr) (Ext.refl _ _) (fun _ => rfl) _
theorem setR2_blk {w : World} {gr : Nat} {x y : Value} (f : Int) (A : Option Addr) (n c : Nat) (h : Blk w gr 30 #[x, y]) : Blk (setR2 w gr f A n c) gr 30 #[.int .i64 f, .slice A n c] :=
  Blk.set_ (Blk.set_ h 0 _) 1 _
set_option maxRecDepth 100000 in
set_option maxHeartbeats 4000000 in
theorem does15_no (A : Option Addr) (len cap : Nat) (n first ask : Int) (w : World) (hl : Acts15 w A len cap) (hn0 : -9223372036854775808 ≤ n) (hn1 : n ≤ 9223372036854775807) (hf0 : -9223372036854775808 ≤ first) (hf1 : first ≤ 9223372036854775807) (hk0 : -9223372036854775808 ≤ ask) (hk1 : ask ≤ 9223372036854775807) (hnot : (60 < len ∨ (60 < n ∧ n ≤ 4096)) ∨ ¬ okNew n first) :
    Calls Try.prog 3 #[.int .i64 n, .int .i64 first, .slice A len cap, .int .i64 ask] w fun e w' => e = .returned (.bool true) ∧ Ext No w w' := by
  have HL := Lib.hid hl
  clear hl
  by_cases hlight : 60 < len ∨ (60 < n ∧ n ≤ 4096)
  · rcases hlight with h60 | ⟨h1, h2⟩
    · go_enter Try.func3, Try.ntmps3
      go_wp2_with fail
      refine (works15 _).mono ?_
      rintro e w1 ⟨rfl, hx1⟩
      go_wp2
      go_ret
      exact ⟨rfl, hx1⟩
    · by_cases h60 : 60 < len
      all_goals
        go_enter Try.func3, Try.ntmps3
        go_wp2_with fail
        refine (works15 _).mono ?_
        rintro e w1 ⟨rfl, hx1⟩
        go_wp2
        go_ret
        exact ⟨rfl, hx1⟩
  · have h60 : ¬ 60 < len := fun h => hlight (.inl h)
    have hok : ¬ okNew n first := hnot.resolve_left hlight
    rcases (by
      by_cases c : n ≤ 60
      · exact .inl c
      · right; by_cases c2 : n ≤ 4096
        · exact absurd (.inr ⟨by omega, c2⟩) hlight
        · omega : n ≤ 60 ∨ 4096 < n) with hq | hq
    all_goals
      have HOK := Lib.hid hok
      clear hlight hok
      go_enter Try.func3, Try.ntmps3
      go_wp2_with fail
      refine (spNew_no n first w HOK.out).mono ?_
      rintro e w1 ⟨rfl, hx1⟩
      go_wp2_with fail
      refine (rNew_not n first w1 HOK.out).mono ?_
      rintro e w2 ⟨v, rfl, ⟨A2, c2, rfl⟩, hx2⟩
      have HX2 := Lib.hid (hx1.trans hx2)
      clear hx1 hx2
      go_wp2_with fail
      go_loop [13] (fun i => i = .int .i64 0) (fun _ => 0)
      case atStart => rfl
      case round =>
        subst hrel
        go_wp2_with fail
        all_goals
          refine (works15 _).mono ?_
          rintro e w3 ⟨rfl, hx3⟩
          go_wp2
          go_ret
          exact ⟨rfl, (HX2.out.alloc _).trans hx3⟩

end Go.Proofs.Ytlfhfomidkadiaa
