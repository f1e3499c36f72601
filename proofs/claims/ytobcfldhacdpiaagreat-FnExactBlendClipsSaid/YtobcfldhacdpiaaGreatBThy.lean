/- What the laws' own functions compute. No condition. -/
import Derived.Test.YtobcfldhacdpiaaGreatAThy
import Derived.Test.YtobcfldhacdpiaaGreatBPure
set_option linter.unusedVariables false
set_option linter.unusedSimpArgs false
namespace Go.Fw
def c_RootKey (x : dRootKey) : Nat := 4
def m_RootKey (x : dRootKey) (k : Int) : dRootKey := (k, ((fofInt .f32 (k + 1), (fofInt .f32 (k + 1 + 1), (fofInt .f32 (k + 1 + 1 + 1), ()))), ()))
def z_RootKey (x : dRootKey) : Nat := 0
theorem b1_RootKey (x : dRootKey) : c_RootKey x ≤ 16 * (1 + z_RootKey x) := by  unfold c_RootKey z_RootKey; omega
end Go.Fw
