/- Words of 32 bits, turned. -/
import Derived.Test.YtljddghamgjfbaaShaMath
import Derived.Laws.BitsAllLaws
import Derived.Laws.Shifts
set_option linter.unusedVariables false
set_option linter.unusedSimpArgs false
namespace Go.Proofs.Ytljddghamgjfbaa
open Go.RowKit Sh

theorem rotN (x : Nat) (hx : x < M) (n : Nat) (hn : 0 < n) (hn2 : n < 32) :
    Go.bits .or .u32 ((x : Int) * 2 ^ (32 - n) % 4294967296) ((x : Int) / 2 ^ n) = ((rotr n x : Nat) : Int) := by
  have e1 : (x : Int) * 2 ^ (32 - n) % 4294967296 = ((x * 2 ^ (32 - n) % M : Nat) : Int) := by simp [M]
  have e2 : (x : Int) / 2 ^ n = ((x / 2 ^ n : Nat) : Int) := by simp
  rw [e1, e2, u32_or_nat _ _ (Nat.mod_lt _ (by decide)) (Nat.lt_of_le_of_lt (Nat.div_le_self _ _) hx), Nat.or_comm]
  rfl
theorem rot_any (x : Nat) (hx : x < M) (k : Int) (n : Nat) (w : World) (hn : 0 < n) (hn2 : n < 32) (hk : Go.bits .and .u64 (IntKind.u64.wrap k) 31 = ((32 - n : Nat) : Int)) :
    Calls Try.prog 105 #[.int .u32 (x : Int), .int .i64 k] w fun e w' => e = .returned (.int .u32 ((rotr n x : Nat) : Int)) ∧ w = w' := by
  have HR := Lib.hid (rotN x hx n hn hn2)
  have e1 : IntKind.u64.wrap (32 - ((32 - n : Nat) : Int)) = (n : Int) := by rw [IntKind.wrap_u64]; omega
  go_enter Try.func105, Try.ntmps105
  go_wp2
  go_ret
  exact ⟨by rw [← HR.out]; rfl, rfl⟩
end Go.Proofs.Ytljddghamgjfbaa
