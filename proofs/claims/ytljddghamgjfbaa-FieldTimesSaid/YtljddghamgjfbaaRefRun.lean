/- Chapter 5's reference: its functions, run. -/
import Derived.Test.YtljddghamgjfbaaRefBits
set_option linter.unusedVariables false
set_option linter.unusedSimpArgs false
namespace Go.Proofs.Ytljddghamgjfbaa
open Go.RowKit Go.Deep Go.Proofs.YtljddghamgjfbaaW.PrintWords Fm Rt

/-- A row of bits, wherever it lies. -/
def RB (w : World) (v : Value) (L : List Bool) : Prop := Kd.V Kd.bool 4 w 0 (fun _ => True) v L
theorem RB.no {w w' : World} {v : Value} {L : List Bool} (h : RB w v L) (hx : Ext No w w') : RB w' v L := Kd.V_step h (fun k _ hk => hx.block k hk (fun h => h))
theorem RB.of {w : World} {base : Nat} {ok : Nat → Prop} {v : Value} {L : List Bool} (h : Kd.R Kd.bool 4 w base ok v L) : RB w v L := Kd.V_mono (Kd.R_V h) (fun _ _ => trivial)
theorem rBits_any (v : Value) (l : List UInt8) (w : World) (h : Bs w Any v l) : Calls Try.prog 25 #[v] w fun e w' => ∃ v', e = .returned v' ∧ RB w' v' (bl (elL l)) ∧ Ext No w w' := by
  obtain ⟨A, c, rfl, _⟩ := h.slice
  obtain ⟨h1, h2, h3⟩ := h.C
  rw [h1]
  refine (PGcmSeals.deedboxref05_Bits.calls 200 A c (i8 l) (bl (elL l)) w h3 h2 (bits_bl l 200 (by omega))).mono ?_
  rintro e w' ⟨v', rfl, hr, hb⟩
  exact ⟨v', rfl, RB.of hr, Ext.of_below hb⟩
theorem rTimes_any (v1 v2 : Value) (a b : G) (w : World) (h1 : RB w v1 (bl a)) (h2 : RB w v2 (bl b)) : Calls Try.prog 24 #[v1, v2] w fun e w' => ∃ v', e = .returned v' ∧ RB w' v' (bl (mul a b)) ∧ Ext No w w' := by
  obtain ⟨A1, c1, rfl⟩ := Kd.V_slice h1
  obtain ⟨_, hc1, hC1⟩ := Kd.V_reads' h1
  obtain ⟨A2, c2, rfl⟩ := Kd.V_slice h2
  obtain ⟨_, hc2, hC2⟩ := Kd.V_reads' h2
  refine (PGcmSeals.deedboxref05_Times.calls 50000 A1 c1 (bl a) A2 c2 (bl b) (bl (mul a b)) w hC1 hc1 hC2 hc2 (times_bl a b 50000 (by omega))).mono ?_
  rintro e w' ⟨v', rfl, hr, hb⟩
  exact ⟨v', rfl, RB.of hr, Ext.of_below hb⟩
theorem rBytes_any (v : Value) (x : G) (w : World) (h : RB w v (bl x)) : Calls Try.prog 23 #[v] w fun e w' => ∃ v', e = .returned v' ∧ Bs w' Any v' (elB x) ∧ Ext No w w' := by
  obtain ⟨A1, c1, rfl⟩ := Kd.V_slice h
  obtain ⟨_, hc1, hC1⟩ := Kd.V_reads' h
  refine (PGcmSeals.deedboxref05_Bytes.calls 200 A1 c1 (bl x) (i8 (elB x)) w hC1 hc1 (bytes_bl x 200 (by omega))).mono ?_
  rintro e w' ⟨v', rfl, hr, hb⟩
  exact ⟨v', rfl, (Own.of_R hr).any, Ext.of_below hb⟩
theorem rHash_any (v1 v2 v3 : Value) (h f : G) (l : List UInt8) (w : World) (h1 : RB w v1 (bl h)) (h2 : RB w v2 (bl f)) (h3 : Bs w Any v3 l) (hl : l.length ≤ 300) : Calls Try.prog 35 #[v1, v2, v3] w fun e w' => ∃ v', e = .returned v' ∧ RB w' v' (bl (hash h f l)) ∧ Ext No w w' := by
  obtain ⟨A1, c1, rfl⟩ := Kd.V_slice h1
  obtain ⟨_, hc1, hC1⟩ := Kd.V_reads' h1
  obtain ⟨A2, c2, rfl⟩ := Kd.V_slice h2
  obtain ⟨A3, c3, rfl, _⟩ := h3.slice
  obtain ⟨e3, h32, h33⟩ := h3.C
  rw [e3]
  refine (PGcmSeals.deedboxref05_Hash.calls 60000 A1 c1 (bl h) (fun _ => True) A2 c2 (bl f) A3 c3 (i8 l) (bl (hash h f l)) w hC1 hc1 h2 h33 h32 (hash_bl h f l hl 60000 (by omega))).mono ?_
  rintro e w' ⟨v', rfl, hr, hb⟩
  exact ⟨v', rfl, Kd.V_mono hr (fun _ _ => trivial), Ext.of_below hb⟩
end Go.Proofs.Ytljddghamgjfbaa
