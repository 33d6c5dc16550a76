/- The executor's functions are the program's (0). -/
import Derived.Test.YtiigojkfojnedaaGreatDoorXZg
import Derived.Test.YtiigojkfojnedaaGreatDoorProg
set_option linter.unusedVariables false
set_option linter.unusedSimpArgs false
set_option maxRecDepth 100000
namespace Go.Abs.Tz
open Go.Abs Go.Proofs
theorem k19 : FnOK Tryz.prog 19 g19 := ⟨_, _, fun d => ([] : List Nat).contains d, Tryz.func19, rfl, by kernel_rfl, by kernel_rfl, by kernel_rfl⟩
theorem k28 : FnOK Tryz.prog 28 g28 := ⟨_, _, fun d => ([] : List Nat).contains d, Tryz.func28, rfl, by kernel_rfl, by kernel_rfl, by kernel_rfl⟩
theorem k85 : FnOK Tryz.prog 85 g85 := ⟨_, _, fun d => ([] : List Nat).contains d, Tryz.func85, rfl, by kernel_rfl, by kernel_rfl, by kernel_rfl⟩
theorem k99 : FnOK Tryz.prog 99 g99 := ⟨_, _, fun d => ([] : List Nat).contains d, Tryz.func99, rfl, by kernel_rfl, by kernel_rfl, by kernel_rfl⟩
theorem k108 : FnOK Tryz.prog 108 g108 := ⟨_, _, fun d => ([] : List Nat).contains d, Tryz.func108, rfl, by kernel_rfl, by kernel_rfl, by kernel_rfl⟩
theorem k110 : FnOK Tryz.prog 110 g110 := ⟨_, _, fun d => ([] : List Nat).contains d, Tryz.func110, rfl, by kernel_rfl, by kernel_rfl, by kernel_rfl⟩
theorem k177 : FnOK Tryz.prog 177 g177 := ⟨_, _, fun d => ([] : List Nat).contains d, Tryz.func177, rfl, by kernel_rfl, by kernel_rfl, by kernel_rfl⟩
theorem k178 : FnOK Tryz.prog 178 g178 := ⟨_, _, fun d => ([] : List Nat).contains d, Tryz.func178, rfl, by kernel_rfl, by kernel_rfl, by kernel_rfl⟩
theorem k180 : FnOK Tryz.prog 180 g180 := ⟨_, _, fun d => ([] : List Nat).contains d, Tryz.func180, rfl, by kernel_rfl, by kernel_rfl, by kernel_rfl⟩
theorem k181 : FnOK Tryz.prog 181 g181 := ⟨_, _, fun d => ([] : List Nat).contains d, Tryz.func181, rfl, by kernel_rfl, by kernel_rfl, by kernel_rfl⟩
theorem k202 : FnOK Tryz.prog 202 g202 := ⟨_, _, fun d => ([] : List Nat).contains d, Tryz.func202, rfl, by kernel_rfl, by kernel_rfl, by kernel_rfl⟩
theorem k203 : FnOK Tryz.prog 203 g203 := ⟨_, _, fun d => ([2, 3, 6] : List Nat).contains d, Tryz.func203, rfl, by kernel_rfl, by kernel_rfl, by kernel_rfl⟩
theorem k225 : FnOK Tryz.prog 225 g225 := ⟨_, _, fun d => ([2, 5] : List Nat).contains d, Tryz.func225, rfl, by kernel_rfl, by kernel_rfl, by kernel_rfl⟩
theorem k228 : FnOK Tryz.prog 228 g228 := ⟨_, _, fun d => ([] : List Nat).contains d, Tryz.func228, rfl, by kernel_rfl, by kernel_rfl, by kernel_rfl⟩
theorem k241 : FnOK Tryz.prog 241 g241 := ⟨_, _, fun d => ([] : List Nat).contains d, Tryz.func241, rfl, by kernel_rfl, by kernel_rfl, by kernel_rfl⟩
theorem k246 : FnOK Tryz.prog 246 g246 := ⟨_, _, fun d => ([] : List Nat).contains d, Tryz.func246, rfl, by kernel_rfl, by kernel_rfl, by kernel_rfl⟩
theorem k267 : FnOK Tryz.prog 267 g267 := ⟨_, _, fun d => ([] : List Nat).contains d, Tryz.func267, rfl, by kernel_rfl, by kernel_rfl, by kernel_rfl⟩
theorem k275 : FnOK Tryz.prog 275 g275 := ⟨_, _, fun d => ([] : List Nat).contains d, Tryz.func275, rfl, by kernel_rfl, by kernel_rfl, by kernel_rfl⟩

end Go.Abs.Tz

/- The executor's functions are the program's (1). -/
set_option maxRecDepth 100000
namespace Go.Abs.Tz
open Go.Abs Go.Proofs
theorem k34 : FnOK Tryz.prog 34 g34 := ⟨_, _, fun d => ([] : List Nat).contains d, Tryz.func34, rfl, by kernel_rfl, by kernel_rfl, by kernel_rfl⟩
theorem k39 : FnOK Tryz.prog 39 g39 := ⟨_, _, fun d => ([] : List Nat).contains d, Tryz.func39, rfl, by kernel_rfl, by kernel_rfl, by kernel_rfl⟩
theorem k70 : FnOK Tryz.prog 70 g70 := ⟨_, _, fun d => ([] : List Nat).contains d, Tryz.func70, rfl, by kernel_rfl, by kernel_rfl, by kernel_rfl⟩
theorem k105 : FnOK Tryz.prog 105 g105 := ⟨_, _, fun d => ([] : List Nat).contains d, Tryz.func105, rfl, by kernel_rfl, by kernel_rfl, by kernel_rfl⟩
theorem k118 : FnOK Tryz.prog 118 g118 := ⟨_, _, fun d => ([] : List Nat).contains d, Tryz.func118, rfl, by kernel_rfl, by kernel_rfl, by kernel_rfl⟩
theorem k134 : FnOK Tryz.prog 134 g134 := ⟨_, _, fun d => ([1] : List Nat).contains d, Tryz.func134, rfl, by kernel_rfl, by kernel_rfl, by kernel_rfl⟩
theorem k171 : FnOK Tryz.prog 171 g171 := ⟨_, _, fun d => ([] : List Nat).contains d, Tryz.func171, rfl, by kernel_rfl, by kernel_rfl, by kernel_rfl⟩
theorem k172 : FnOK Tryz.prog 172 g172 := ⟨_, _, fun d => ([] : List Nat).contains d, Tryz.func172, rfl, by kernel_rfl, by kernel_rfl, by kernel_rfl⟩
theorem k204 : FnOK Tryz.prog 204 g204 := ⟨_, _, fun d => ([2, 3] : List Nat).contains d, Tryz.func204, rfl, by kernel_rfl, by kernel_rfl, by kernel_rfl⟩
theorem k205 : FnOK Tryz.prog 205 g205 := ⟨_, _, fun d => ([] : List Nat).contains d, Tryz.func205, rfl, by kernel_rfl, by kernel_rfl, by kernel_rfl⟩
theorem k232 : FnOK Tryz.prog 232 g232 := ⟨_, _, fun d => ([5] : List Nat).contains d, Tryz.func232, rfl, by kernel_rfl, by kernel_rfl, by kernel_rfl⟩
theorem k239 : FnOK Tryz.prog 239 g239 := ⟨_, _, fun d => ([] : List Nat).contains d, Tryz.func239, rfl, by kernel_rfl, by kernel_rfl, by kernel_rfl⟩
theorem k245 : FnOK Tryz.prog 245 g245 := ⟨_, _, fun d => ([] : List Nat).contains d, Tryz.func245, rfl, by kernel_rfl, by kernel_rfl, by kernel_rfl⟩
theorem k248 : FnOK Tryz.prog 248 g248 := ⟨_, _, fun d => ([] : List Nat).contains d, Tryz.func248, rfl, by kernel_rfl, by kernel_rfl, by kernel_rfl⟩
theorem k283 : FnOK Tryz.prog 283 g283 := ⟨_, _, fun d => ([] : List Nat).contains d, Tryz.func283, rfl, by kernel_rfl, by kernel_rfl, by kernel_rfl⟩
theorem k291 : FnOK Tryz.prog 291 g291 := ⟨_, _, fun d => ([] : List Nat).contains d, Tryz.func291, rfl, by kernel_rfl, by kernel_rfl, by kernel_rfl⟩
theorem k308 : FnOK Tryz.prog 308 g308 := ⟨_, _, fun d => ([] : List Nat).contains d, Tryz.func308, rfl, by kernel_rfl, by kernel_rfl, by kernel_rfl⟩
theorem k309 : FnOK Tryz.prog 309 g309 := ⟨_, _, fun d => ([] : List Nat).contains d, Tryz.func309, rfl, by kernel_rfl, by kernel_rfl, by kernel_rfl⟩

end Go.Abs.Tz
