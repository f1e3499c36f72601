/- The types of the data. No condition. -/
import Derived.Test.YtmfmdoppjcaedaaFwD
namespace Go.Fw
abbrev tVec : Ty := (.pair (.flt .f32) (.pair (.flt .f32) (.pair (.flt .f32) .unit)))
abbrev dVec : Type := (Nat × (Nat × (Nat × Unit)))
abbrev tTurn : Ty := (.pair (.flt .f32) tVec)
abbrev dTurn : Type := (Nat × dVec)
abbrev tPose : Ty := (.pair tVec (.pair (.slice tTurn) .unit))
abbrev dPose : Type := (dVec × ((List dTurn) × Unit))
abbrev tPacking : Ty := (.pair (.int .i64) (.pair (.int .i64) (.pair (.flt .f32) .unit)))
abbrev dPacking : Type := (Int × (Int × (Nat × Unit)))
abbrev zVec : dVec := ((0 : Nat), (0 : Nat), (0 : Nat), ())
abbrev zTurn : dTurn := ((0 : Nat), (0 : Nat), (0 : Nat), (0 : Nat), ())
abbrev zPose : dPose := (zVec, [], ())
end Go.Fw
