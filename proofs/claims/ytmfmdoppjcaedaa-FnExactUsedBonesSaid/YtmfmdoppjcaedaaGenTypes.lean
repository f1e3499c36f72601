/- The types of the data. No condition. -/
import Derived.Test.YtmfmdoppjcaedaaFwD
namespace Go.Fw
abbrev tVec : Ty := (.pair (.flt .f32) (.pair (.flt .f32) (.pair (.flt .f32) .unit)))
abbrev dVec : Type := (Nat × (Nat × (Nat × Unit)))
abbrev tRootKey : Ty := (.pair (.int .i64) (.pair tVec .unit))
abbrev dRootKey : Type := (Int × (dVec × Unit))
abbrev tSkel : Ty := (.pair (.slice tRootKey) .unit)
abbrev dSkel : Type := ((List dRootKey) × Unit)
abbrev tSkinPoint : Ty := (.pair tVec (.pair (.slice (.int .i64)) (.pair (.slice (.flt .f32)) .unit)))
abbrev dSkinPoint : Type := (dVec × ((List Int) × ((List Nat) × Unit)))
abbrev zVec : dVec := ((0 : Nat), (0 : Nat), (0 : Nat), ())
abbrev zRootKey : dRootKey := ((0 : Int), zVec, ())
abbrev zSkinPoint : dSkinPoint := (zVec, [], [], ())
end Go.Fw
