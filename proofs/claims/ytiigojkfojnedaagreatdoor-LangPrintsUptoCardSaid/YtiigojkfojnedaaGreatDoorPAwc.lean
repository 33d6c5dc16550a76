/- A text of this proof. -/
import Derived.Test.YtiigojkfojnedaaGreatDoorPZg
import Derived.Test.YtiigojkfojnedaaGreatDoorPKx
set_option linter.unusedVariables false
set_option linter.unusedSimpArgs false
set_option maxRecDepth 100000
namespace Go.Abs.Tz
open Go.Abs
def a8 : List AV := [(.str [112,114,111,99,32,102,40,113,91,51,93,41,32,123,32,102,111,114,32,105,32,61,32,48,32,58,32,51,32,123,32,119,105,116,104,105,110,32,123,32,104,32,113,91,105,93,59,32,125,32,97,112,112,108,121,32,123,32,122,32,113,91,105,93,59,32,125,32,125,32,125])]
def r8 : AV := (.tup [(.str [112,114,111,99,32,102,40,113,91,51,93,41,32,123,10,32,32,102,111,114,32,105,32,61,32,48,32,58,32,51,32,123,10,32,32,32,32,119,105,116,104,105,110,32,123,10,32,32,32,32,32,32,104,32,113,91,105,93,59,10,32,32,32,32,125,32,97,112,112,108,121,32,123,10,32,32,32,32,32,32,122,32,113,91,105,93,59,10,32,32,32,32,125,10,32,32,125,10,125,10]),(.int .i64 0),(.int .i64 0)])
theorem aw8 (u : Nat) : cvK (C u) 60 (.fn (.func 56) [] []) a8 { blks := [],touched := [] } = some (r8,{ blks := [],touched := [] }) := by kernel_rfl
end Go.Abs.Tz
