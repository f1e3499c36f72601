/- The magnitude of a number, walked. No condition. -/
import Derived.Test.YtalhiopcegnobaaSprB
import Derived.WalkKit
import Derived.WalkSpells
import Derived.WalkLawsBesides
namespace Go.Fw.Spr
open Go.Fw Go.Proofs Go.RowKit

theorem run67 (b : Nat) (w : World) : (callFunc 67 #[.float .f64 b]).run Try.prog w = .ok (.value (.int .u64 b)) w := by
  rw [run_callFunc_extern (e := Extern.MathFloatBits.float64bits) Try.func67 rfl rfl (by kernel_rfl) (by kernel_rfl)]; rfl
theorem run75 (n : Int) (w : World) : (callFunc 75 #[.int .u64 n]).run Try.prog w = .ok (.value (.float .f64 n.toNat)) w := by
  rw [run_callFunc_extern (e := Extern.MathFloatBits.float64frombits) Try.func75 rfl rfl (by kernel_rfl) (by kernel_rfl)]; rfl

set_option maxHeartbeats 400000 in
theorem abs_any (b : Nat) (w : World) : Calls Try.prog 62 #[.float .f64 b] w fun e w' => e = .returned (.float .f64 (iandNot .u64 b (2 ^ 63)).toNat) ∧ w' = w := by
  have h67 := run67
  have h75 := run75
  go_enter Try.func62, Try.ntmps62
  go_wp2
  trace_state
  go_ret
  exact ⟨rfl, rfl⟩
end Go.Fw.Spr
