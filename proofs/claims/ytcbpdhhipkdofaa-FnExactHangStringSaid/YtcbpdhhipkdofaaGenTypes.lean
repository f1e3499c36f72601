/- The types of the data. No condition. -/
import Derived.Test.YtcbpdhhipkdofaaFwD
namespace Go.Fw
abbrev tVec : Ty := (.pair (.flt .f32) (.pair (.flt .f32) (.pair (.flt .f32) .unit)))
abbrev dVec : Type := (Nat × (Nat × (Nat × Unit)))
abbrev tString : Ty := (.pair (.slice tVec) (.pair (.slice tVec) (.pair (.slice .bool) (.pair (.slice (.flt .f32)) (.pair tVec (.pair (.flt .f32) (.pair (.int .i64) .unit)))))))
abbrev dString : Type := ((List dVec) × ((List dVec) × ((List Bool) × ((List Nat) × (dVec × (Nat × (Int × Unit)))))))
abbrev zVec : dVec := ((0 : Nat), (0 : Nat), (0 : Nat), ())
end Go.Fw
