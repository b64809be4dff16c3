/- Xor of the reference. -/
import Derived.Test.YtljddghamgjfbaaRefRun
import Derived.Laws.BitsAllLaws
set_option linter.unusedVariables false
set_option linter.unusedSimpArgs false
namespace Go.Proofs.Ytljddghamgjfbaa
open Go.RowKit Go.Deep Go.Proofs.YtljddghamgjfbaaW.PrintWords Fm Rt
namespace Rt
open PGcmSeals
def xorL (l m : List UInt8) (i : Nat) : List UInt8 := (List.range i).map fun j => (l[j]?).getD 0 ^^^ (m[j]?).getD 0
theorem xor_all (l m : List UInt8) (hl : l.length = 16) (hm : m.length = 16) : ∀ n i F, i + n = 16 → n + 1 ≤ F → deedboxref01_Xor.l0 F (i8 l) (i8 m) (i8 (xorL l m i)) (i : Int) = some (i8 (xorL l m 16))
  | 0, i, F, e, hF => by
    obtain ⟨k, rfl⟩ : ∃ k, F = k + 1 := ⟨F - 1, by omega⟩
    obtain rfl : i = 16 := by omega
    simp only [deedboxref01_Xor.l0]
    rw [i8_length, if_neg (by omega)]
  | n + 1, i, F, e, hF => by
    obtain ⟨k, rfl⟩ : ∃ k, F = k + 1 := ⟨F - 1, by omega⟩
    simp only [deedboxref01_Xor.l0]
    have hxl : (xorL l m i).length = i := by simp [xorL]
    rw [i8_length, i8_length, i8_length, hxl, if_pos (by omega), if_pos (by omega), if_pos (by omega), if_pos (by omega), i8_rd l (by omega), i8_rd m (by omega), w1 (by omega), u8_xor_nat _ _ (UInt8.toNat_lt _) (UInt8.toNat_lt _), ← UInt8.toNat_xor]
    have ih := xor_all l m hl hm n (i + 1) k (by omega) (by omega)
    rw [← ih, show xorL l m (i + 1) = xorL l m i ++ [(l[i]?).getD 0 ^^^ (m[i]?).getD 0] by unfold xorL; rw [List.range_succ, List.map_append]; rfl, i8_append]
    rfl
theorem xor_f (l m : List UInt8) (hl : l.length = 16) (hm : m.length = 16) : deedboxref01_Xor.f 20 (i8 l) (i8 m) = some (i8 (elB (elL l ^^^ elL m))) := by
  have : elB (elL l ^^^ elL m) = xorL l m 16 := elB_of _ _ (by simp [xorL]) fun j hj => by
    rw [BitVec.getLsbD_xor, elL_bit l hj, elL_bit m hj]
    unfold bitL xorL
    rw [List.getElem?_map, List.getElem?_range (by omega), Option.map_some, Option.getD_some, UInt8.toNat_xor, Nat.testBit_xor]
  rw [this]
  exact xor_all l m hl hm 16 0 20 (by omega) (by omega)
end Rt
theorem rXor_any (v1 v2 : Value) (l m : List UInt8) (w : World) (hl : l.length = 16) (hm : m.length = 16) (h1 : Bs w Any v1 l) (h2 : Bs w Any v2 m) (x y : G) (hx : elL l = x) (hy : elL m = y) : Calls Try.prog 32 #[v1, v2] w fun e w' => ∃ v', e = .returned v' ∧ Bs w' Any v' (elB (x ^^^ y)) ∧ Ext No w w' := by
  subst hx hy
  obtain ⟨A1, c1, rfl, _⟩ := h1.slice
  obtain ⟨A2, c2, rfl, _⟩ := h2.slice
  obtain ⟨e1, h12, h13⟩ := h1.C
  obtain ⟨e2, h22, h23⟩ := h2.C
  rw [e1, e2]
  refine (PGcmSeals.deedboxref01_Xor.calls 20 A1 c1 (i8 l) A2 c2 (i8 m) _ w h13 h12 h23 h22 (xor_f l m hl hm)).mono ?_
  rintro e w' ⟨v', rfl, hr, hb⟩
  exact ⟨v', rfl, (Own.of_R hr).any, Ext.of_below hb⟩
end Go.Proofs.Ytljddghamgjfbaa
