/- A text of this proof. -/
import Derived.Test.YtiigojkfojnedaaGreatDoorPZg
import Derived.Test.YtiigojkfojnedaaGreatDoorPKx
set_option linter.unusedVariables false
set_option linter.unusedSimpArgs false
set_option maxRecDepth 100000
namespace Go.Abs.Tz
open Go.Abs
def a1 : List AV := [(.agg [(.list .any [(.agg [(.str [109,97,105,110]),(.list .any [(.agg [(.str [113]),(.int .i64 2)])]),(.list .any [(.agg [(.int .i64 1),(.int .i64 4),(.str []),(.list .any [(.agg [(.str [113]),(.list .any [(.agg [(.int .i64 1),(.int .i64 0),(.str []),(.list .nil [])])])])]),(.int .i64 0),(.int .i64 0),(.str []),(.list .nil []),(.int .i64 0),(.int .i64 0),(.str []),(.list .nil []),(.list .nil []),(.list .nil [])]),(.agg [(.int .i64 1),(.int .i64 9),(.str []),(.list .any [(.agg [(.str [113]),(.list .any [(.agg [(.int .i64 1),(.int .i64 0),(.str []),(.list .nil [])])])]),(.agg [(.str [113]),(.list .any [(.agg [(.int .i64 1),(.int .i64 1),(.str []),(.list .nil [])])])])]),(.int .i64 0),(.int .i64 0),(.str []),(.list .nil []),(.int .i64 0),(.int .i64 0),(.str []),(.list .nil []),(.list .nil []),(.list .nil [])]),(.agg [(.int .i64 5),(.int .i64 0),(.str [98]),(.list .any [(.agg [(.str [113]),(.list .any [(.agg [(.int .i64 1),(.int .i64 0),(.str []),(.list .nil [])])])])]),(.int .i64 0),(.int .i64 0),(.str []),(.list .nil []),(.int .i64 0),(.int .i64 0),(.str []),(.list .nil []),(.list .nil []),(.list .nil [])]),(.agg [(.int .i64 7),(.int .i64 0),(.str [98]),(.list .nil []),(.int .i64 0),(.int .i64 0),(.str []),(.list .nil []),(.int .i64 0),(.int .i64 0),(.str []),(.list .nil []),(.list .any [(.agg [(.int .i64 1),(.int .i64 1),(.str []),(.list .any [(.agg [(.str [113]),(.list .any [(.agg [(.int .i64 1),(.int .i64 1),(.str []),(.list .nil [])])])])]),(.int .i64 0),(.int .i64 0),(.str []),(.list .nil []),(.int .i64 0),(.int .i64 0),(.str []),(.list .nil []),(.list .nil []),(.list .nil [])])]),(.list .nil [])])])])])])]
def r1 : AV := (.tup [(.int .i64 5),(.int .i64 0)])
theorem aw1 (u : Nat) : cvK (C u) 60 (.fn (.func 70) [] []) a1 { blks := [],touched := [] } = some (r1,{ blks := [],touched := [] }) := by kernel_rfl
end Go.Abs.Tz
set_option maxRecDepth 100000
namespace Go.Abs.Tz
open Go.Abs
def a2 : List AV := [(.agg [(.list .any [(.agg [(.str [109,97,105,110]),(.list .any [(.agg [(.str [113]),(.int .i64 2)])]),(.list .any [(.agg [(.int .i64 1),(.int .i64 4),(.str []),(.list .any [(.agg [(.str [113]),(.list .any [(.agg [(.int .i64 1),(.int .i64 0),(.str []),(.list .nil [])])])])]),(.int .i64 0),(.int .i64 0),(.str []),(.list .nil []),(.int .i64 0),(.int .i64 0),(.str []),(.list .nil []),(.list .nil []),(.list .nil [])]),(.agg [(.int .i64 1),(.int .i64 9),(.str []),(.list .any [(.agg [(.str [113]),(.list .any [(.agg [(.int .i64 1),(.int .i64 0),(.str []),(.list .nil [])])])]),(.agg [(.str [113]),(.list .any [(.agg [(.int .i64 1),(.int .i64 1),(.str []),(.list .nil [])])])])]),(.int .i64 0),(.int .i64 0),(.str []),(.list .nil []),(.int .i64 0),(.int .i64 0),(.str []),(.list .nil []),(.list .nil []),(.list .nil [])]),(.agg [(.int .i64 5),(.int .i64 0),(.str [98]),(.list .any [(.agg [(.str [113]),(.list .any [(.agg [(.int .i64 1),(.int .i64 0),(.str []),(.list .nil [])])])])]),(.int .i64 0),(.int .i64 0),(.str []),(.list .nil []),(.int .i64 0),(.int .i64 0),(.str []),(.list .nil []),(.list .nil []),(.list .nil [])]),(.agg [(.int .i64 7),(.int .i64 0),(.str [98]),(.list .nil []),(.int .i64 0),(.int .i64 0),(.str []),(.list .nil []),(.int .i64 0),(.int .i64 0),(.str []),(.list .nil []),(.list .any [(.agg [(.int .i64 1),(.int .i64 1),(.str []),(.list .any [(.agg [(.str [113]),(.list .any [(.agg [(.int .i64 1),(.int .i64 1),(.str []),(.list .nil [])])])])]),(.int .i64 0),(.int .i64 0),(.str []),(.list .nil []),(.int .i64 0),(.int .i64 0),(.str []),(.list .nil []),(.list .nil []),(.list .nil [])])]),(.list .nil [])])])])])]),(.list .full [.int .i64 0,.int .i64 3,.int .i64 0,.int .i64 0])]
def r2 : AV := (.tup [(.agg [(.int .i64 1),(.int .i64 1),(.str []),(.list .any [(.agg [(.str [113]),(.list .any [(.agg [(.int .i64 1),(.int .i64 1),(.str []),(.list .any [])])])])]),(.int .i64 0),(.int .i64 0),(.str []),(.list .any []),(.int .i64 0),(.int .i64 0),(.str []),(.list .any []),(.list .any []),(.list .any [])]),(.int .i64 0)])
theorem aw2 (u : Nat) : cvK (C u) 60 (.fn (.func 72) [] []) a2 { blks := [],touched := [] } = some (r2,{ blks := [],touched := [] }) := by kernel_rfl
end Go.Abs.Tz
set_option maxRecDepth 100000
namespace Go.Abs.Tz
open Go.Abs
def a3 : List AV := [(.str [112,114,111,99,32,102,40,113,91,49,93,41,32,123,32,116,97,107,101,32,113,91,49,93,59,32,125])]
def r3 : AV := (.tup [(.agg [(.list .nil [])]),(.int .i64 27),(.int .i64 5)])
theorem aw3 (u : Nat) : cvK (C u) 60 (.fn (.func 39) [] []) a3 { blks := [],touched := [] } = some (r3,{ blks := [],touched := [] }) := by kernel_rfl
end Go.Abs.Tz
set_option maxRecDepth 100000
namespace Go.Abs.Tz
open Go.Abs
def a4 : List AV := [(.str [112,114,111,99,32,102,40,41,32,123,32,105,102,32,40])]
def r4 : AV := (.tup [(.agg [(.list .nil [])]),(.int .i64 14),(.int .i64 4)])
theorem aw4 (u : Nat) : cvK (C u) 60 (.fn (.func 39) [] []) a4 { blks := [],touched := [] } = some (r4,{ blks := [],touched := [] }) := by kernel_rfl
end Go.Abs.Tz
set_option maxRecDepth 100000
namespace Go.Abs.Tz
open Go.Abs
def a5 : List AV := [(.str [112,114,111,99,32,104,40,41,32,123,125])]
def r5 : AV := (.tup [(.agg [(.list .nil [])]),(.int .i64 5),(.int .i64 4)])
theorem aw5 (u : Nat) : cvK (C u) 60 (.fn (.func 39) [] []) a5 { blks := [],touched := [] } = some (r5,{ blks := [],touched := [] }) := by kernel_rfl
end Go.Abs.Tz
set_option maxRecDepth 100000
namespace Go.Abs.Tz
open Go.Abs
def a6 : List AV := [(.agg [.int .i64 5,.int .i64 0,.str [],.list .full [.agg [.int .i64 1,.int .i64 2,.str [],.list .nil []],.agg [.int .i64 3,.int .i64 0,.str [],.list .full [.agg [.int .i64 2,.int .i64 0,.str [105],.list .nil []],.agg [.int .i64 1,.int .i64 1,.str [],.list .nil []]]]]])]
def r6 : AV := (.tup [(.str [50,32,42,32,40,105,32,43,32,49,41]),(.int .i64 0)])
theorem aw6 (u : Nat) : cvK (C u) 60 (.fn (.func 26) [] []) a6 { blks := [],touched := [] } = some (r6,{ blks := [],touched := [] }) := by kernel_rfl
end Go.Abs.Tz
set_option maxRecDepth 100000
namespace Go.Abs.Tz
open Go.Abs
def a7 : List AV := [(.agg [.int .i64 5,.int .i64 0,.str [],.list .full [.agg [.int .i64 1,.int .i64 2,.str [],.list .nil []],.agg [.int .i64 3,.int .i64 0,.str [],.list .full [.agg [.int .i64 2,.int .i64 0,.str [105],.list .nil []],.agg [.int .i64 1,.int .i64 1,.str [],.list .nil []]]]]]),(.list .full [.str [105]]),(.list .full [.int .i64 3])]
def r7 : AV := (.tup [(.int .i64 8),(.int .i64 0)])
theorem aw7 (u : Nat) : cvK (C u) 60 (.fn (.func 32) [] []) a7 { blks := [],touched := [] } = some (r7,{ blks := [],touched := [] }) := by kernel_rfl
end Go.Abs.Tz
