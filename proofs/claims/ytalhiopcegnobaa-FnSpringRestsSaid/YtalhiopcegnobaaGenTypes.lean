/- The types of the data. No condition. -/
import Derived.Test.YtalhiopcegnobaaFwD
namespace Go.Fw
abbrev tVec : Ty := (.pair (.flt .f32) (.pair (.flt .f32) (.pair (.flt .f32) .unit)))
abbrev dVec : Type := (Nat × (Nat × (Nat × Unit)))
abbrev tTurn : Ty := (.pair (.flt .f32) tVec)
abbrev dTurn : Type := (Nat × dVec)
abbrev tSrc : Ty := (.pair (.rslice (.int .u8)) (.pair (.int .i64) (.pair (.int .u64) .unit)))
abbrev dSrc : Type := ((List Int) × (Int × (Int × Unit)))
end Go.Fw
