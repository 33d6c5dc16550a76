/- The executor's functions are the program's (4). -/
import Derived.Test.YtiigojkfojnedaaGreatDoorXZg
import Derived.Test.YtiigojkfojnedaaGreatDoorProg
set_option linter.unusedVariables false
set_option linter.unusedSimpArgs false
set_option maxRecDepth 100000
namespace Go.Abs.Tz
open Go.Abs Go.Proofs
theorem k4 : FnOK Tryz.prog 4 g4 := ⟨_, _, fun d => ([] : List Nat).contains d, Tryz.func4, rfl, by kernel_rfl, by kernel_rfl, by kernel_rfl⟩
theorem k30 : FnOK Tryz.prog 30 g30 := ⟨_, _, fun d => ([] : List Nat).contains d, Tryz.func30, rfl, by kernel_rfl, by kernel_rfl, by kernel_rfl⟩
theorem k31 : FnOK Tryz.prog 31 g31 := ⟨_, _, fun d => ([] : List Nat).contains d, Tryz.func31, rfl, by kernel_rfl, by kernel_rfl, by kernel_rfl⟩
theorem k33 : FnOK Tryz.prog 33 g33 := ⟨_, _, fun d => ([] : List Nat).contains d, Tryz.func33, rfl, by kernel_rfl, by kernel_rfl, by kernel_rfl⟩
theorem k66 : FnOK Tryz.prog 66 g66 := ⟨_, _, fun d => ([] : List Nat).contains d, Tryz.func66, rfl, by kernel_rfl, by kernel_rfl, by kernel_rfl⟩
theorem k114 : FnOK Tryz.prog 114 g114 := ⟨_, _, fun d => ([1] : List Nat).contains d, Tryz.func114, rfl, by kernel_rfl, by kernel_rfl, by kernel_rfl⟩
theorem k115 : FnOK Tryz.prog 115 g115 := ⟨_, _, fun d => ([] : List Nat).contains d, Tryz.func115, rfl, by kernel_rfl, by kernel_rfl, by kernel_rfl⟩
theorem k116 : FnOK Tryz.prog 116 g116 := ⟨_, _, fun d => ([] : List Nat).contains d, Tryz.func116, rfl, by kernel_rfl, by kernel_rfl, by kernel_rfl⟩
theorem k130 : FnOK Tryz.prog 130 g130 := ⟨_, _, fun d => ([1] : List Nat).contains d, Tryz.func130, rfl, by kernel_rfl, by kernel_rfl, by kernel_rfl⟩
theorem k135 : FnOK Tryz.prog 135 g135 := ⟨_, _, fun d => ([3] : List Nat).contains d, Tryz.func135, rfl, by kernel_rfl, by kernel_rfl, by kernel_rfl⟩
theorem k136 : FnOK Tryz.prog 136 g136 := ⟨_, _, fun d => ([] : List Nat).contains d, Tryz.func136, rfl, by kernel_rfl, by kernel_rfl, by kernel_rfl⟩
theorem k179 : FnOK Tryz.prog 179 g179 := ⟨_, _, fun d => ([] : List Nat).contains d, Tryz.func179, rfl, by kernel_rfl, by kernel_rfl, by kernel_rfl⟩
theorem k192 : FnOK Tryz.prog 192 g192 := ⟨_, _, fun d => ([] : List Nat).contains d, Tryz.func192, rfl, by kernel_rfl, by kernel_rfl, by kernel_rfl⟩
theorem k209 : FnOK Tryz.prog 209 g209 := ⟨_, _, fun d => ([] : List Nat).contains d, Tryz.func209, rfl, by kernel_rfl, by kernel_rfl, by kernel_rfl⟩
theorem k227 : FnOK Tryz.prog 227 g227 := ⟨_, _, fun d => ([] : List Nat).contains d, Tryz.func227, rfl, by kernel_rfl, by kernel_rfl, by kernel_rfl⟩
theorem k247 : FnOK Tryz.prog 247 g247 := ⟨_, _, fun d => ([] : List Nat).contains d, Tryz.func247, rfl, by kernel_rfl, by kernel_rfl, by kernel_rfl⟩
theorem k268 : FnOK Tryz.prog 268 g268 := ⟨_, _, fun d => ([] : List Nat).contains d, Tryz.func268, rfl, by kernel_rfl, by kernel_rfl, by kernel_rfl⟩
theorem k276 : FnOK Tryz.prog 276 g276 := ⟨_, _, fun d => ([] : List Nat).contains d, Tryz.func276, rfl, by kernel_rfl, by kernel_rfl, by kernel_rfl⟩
theorem k297 : FnOK Tryz.prog 297 g297 := ⟨_, _, fun d => ([2, 5] : List Nat).contains d, Tryz.func297, rfl, by kernel_rfl, by kernel_rfl, by kernel_rfl⟩

end Go.Abs.Tz

/- The executor's functions are the program's (5). -/
set_option maxRecDepth 100000
namespace Go.Abs.Tz
open Go.Abs Go.Proofs
theorem k25 : FnOK Tryz.prog 25 g25 := ⟨_, _, fun d => ([5, 6] : List Nat).contains d, Tryz.func25, rfl, by kernel_rfl, by kernel_rfl, by kernel_rfl⟩
theorem k26 : FnOK Tryz.prog 26 g26 := ⟨_, _, fun d => ([] : List Nat).contains d, Tryz.func26, rfl, by kernel_rfl, by kernel_rfl, by kernel_rfl⟩
theorem k29 : FnOK Tryz.prog 29 g29 := ⟨_, _, fun d => ([] : List Nat).contains d, Tryz.func29, rfl, by kernel_rfl, by kernel_rfl, by kernel_rfl⟩
theorem k96 : FnOK Tryz.prog 96 g96 := ⟨_, _, fun d => ([] : List Nat).contains d, Tryz.func96, rfl, by kernel_rfl, by kernel_rfl, by kernel_rfl⟩
theorem k117 : FnOK Tryz.prog 117 g117 := ⟨_, _, fun d => ([] : List Nat).contains d, Tryz.func117, rfl, by kernel_rfl, by kernel_rfl, by kernel_rfl⟩
theorem k124 : FnOK Tryz.prog 124 g124 := ⟨_, _, fun d => ([22] : List Nat).contains d, Tryz.func124, rfl, by kernel_rfl, by kernel_rfl, by kernel_rfl⟩
theorem k126 : FnOK Tryz.prog 126 g126 := ⟨_, _, fun d => ([3] : List Nat).contains d, Tryz.func126, rfl, by kernel_rfl, by kernel_rfl, by kernel_rfl⟩
theorem k137 : FnOK Tryz.prog 137 g137 := ⟨_, _, fun d => ([] : List Nat).contains d, Tryz.func137, rfl, by kernel_rfl, by kernel_rfl, by kernel_rfl⟩
theorem k175 : FnOK Tryz.prog 175 g175 := ⟨_, _, fun d => ([] : List Nat).contains d, Tryz.func175, rfl, by kernel_rfl, by kernel_rfl, by kernel_rfl⟩
theorem k189 : FnOK Tryz.prog 189 g189 := ⟨_, _, fun d => ([] : List Nat).contains d, Tryz.func189, rfl, by kernel_rfl, by kernel_rfl, by kernel_rfl⟩
theorem k190 : FnOK Tryz.prog 190 g190 := ⟨_, _, fun d => ([] : List Nat).contains d, Tryz.func190, rfl, by kernel_rfl, by kernel_rfl, by kernel_rfl⟩
theorem k208 : FnOK Tryz.prog 208 g208 := ⟨_, _, fun d => ([3] : List Nat).contains d, Tryz.func208, rfl, by kernel_rfl, by kernel_rfl, by kernel_rfl⟩
theorem k233 : FnOK Tryz.prog 233 g233 := ⟨_, _, fun d => ([] : List Nat).contains d, Tryz.func233, rfl, by kernel_rfl, by kernel_rfl, by kernel_rfl⟩
theorem k265 : FnOK Tryz.prog 265 g265 := ⟨_, _, fun d => ([] : List Nat).contains d, Tryz.func265, rfl, by kernel_rfl, by kernel_rfl, by kernel_rfl⟩
theorem k294 : FnOK Tryz.prog 294 g294 := ⟨_, _, fun d => ([] : List Nat).contains d, Tryz.func294, rfl, by kernel_rfl, by kernel_rfl, by kernel_rfl⟩
theorem k295 : FnOK Tryz.prog 295 g295 := ⟨_, _, fun d => ([] : List Nat).contains d, Tryz.func295, rfl, by kernel_rfl, by kernel_rfl, by kernel_rfl⟩
theorem k296 : FnOK Tryz.prog 296 g296 := ⟨_, _, fun d => ([] : List Nat).contains d, Tryz.func296, rfl, by kernel_rfl, by kernel_rfl, by kernel_rfl⟩
theorem k315 : FnOK Tryz.prog 315 g315 := ⟨_, _, fun d => ([] : List Nat).contains d, Tryz.func315, rfl, by kernel_rfl, by kernel_rfl, by kernel_rfl⟩

end Go.Abs.Tz
