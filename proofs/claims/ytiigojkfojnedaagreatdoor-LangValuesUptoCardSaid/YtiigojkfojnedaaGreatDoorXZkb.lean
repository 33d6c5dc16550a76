/- The executor's functions are the program's (2). -/
import Derived.Test.YtiigojkfojnedaaGreatDoorXZg
import Derived.Test.YtiigojkfojnedaaGreatDoorProg
set_option linter.unusedVariables false
set_option linter.unusedSimpArgs false
set_option maxRecDepth 100000
namespace Go.Abs.Tz
open Go.Abs Go.Proofs
theorem k18 : FnOK Tryz.prog 18 g18 := ⟨_, _, fun d => ([3, 5, 6] : List Nat).contains d, Tryz.func18, rfl, by kernel_rfl, by kernel_rfl, by kernel_rfl⟩
theorem k21 : FnOK Tryz.prog 21 g21 := ⟨_, _, fun d => ([] : List Nat).contains d, Tryz.func21, rfl, by kernel_rfl, by kernel_rfl, by kernel_rfl⟩
theorem k56 : FnOK Tryz.prog 56 g56 := ⟨_, _, fun d => ([] : List Nat).contains d, Tryz.func56, rfl, by kernel_rfl, by kernel_rfl, by kernel_rfl⟩
theorem k72 : FnOK Tryz.prog 72 g72 := ⟨_, _, fun d => ([] : List Nat).contains d, Tryz.func72, rfl, by kernel_rfl, by kernel_rfl, by kernel_rfl⟩
theorem k107 : FnOK Tryz.prog 107 g107 := ⟨_, _, fun d => ([1] : List Nat).contains d, Tryz.func107, rfl, by kernel_rfl, by kernel_rfl, by kernel_rfl⟩
theorem k112 : FnOK Tryz.prog 112 g112 := ⟨_, _, fun d => ([4, 5, 7] : List Nat).contains d, Tryz.func112, rfl, by kernel_rfl, by kernel_rfl, by kernel_rfl⟩
theorem k187 : FnOK Tryz.prog 187 g187 := ⟨_, _, fun d => ([] : List Nat).contains d, Tryz.func187, rfl, by kernel_rfl, by kernel_rfl, by kernel_rfl⟩
theorem k188 : FnOK Tryz.prog 188 g188 := ⟨_, _, fun d => ([1, 4] : List Nat).contains d, Tryz.func188, rfl, by kernel_rfl, by kernel_rfl, by kernel_rfl⟩
theorem k206 : FnOK Tryz.prog 206 g206 := ⟨_, _, fun d => ([3] : List Nat).contains d, Tryz.func206, rfl, by kernel_rfl, by kernel_rfl, by kernel_rfl⟩
theorem k207 : FnOK Tryz.prog 207 g207 := ⟨_, _, fun d => ([] : List Nat).contains d, Tryz.func207, rfl, by kernel_rfl, by kernel_rfl, by kernel_rfl⟩
theorem k231 : FnOK Tryz.prog 231 g231 := ⟨_, _, fun d => ([] : List Nat).contains d, Tryz.func231, rfl, by kernel_rfl, by kernel_rfl, by kernel_rfl⟩
theorem k244 : FnOK Tryz.prog 244 g244 := ⟨_, _, fun d => ([] : List Nat).contains d, Tryz.func244, rfl, by kernel_rfl, by kernel_rfl, by kernel_rfl⟩
theorem k266 : FnOK Tryz.prog 266 g266 := ⟨_, _, fun d => ([] : List Nat).contains d, Tryz.func266, rfl, by kernel_rfl, by kernel_rfl, by kernel_rfl⟩
theorem k271 : FnOK Tryz.prog 271 g271 := ⟨_, _, fun d => ([1, 5] : List Nat).contains d, Tryz.func271, rfl, by kernel_rfl, by kernel_rfl, by kernel_rfl⟩
theorem k273 : FnOK Tryz.prog 273 g273 := ⟨_, _, fun d => ([] : List Nat).contains d, Tryz.func273, rfl, by kernel_rfl, by kernel_rfl, by kernel_rfl⟩
theorem k274 : FnOK Tryz.prog 274 g274 := ⟨_, _, fun d => ([] : List Nat).contains d, Tryz.func274, rfl, by kernel_rfl, by kernel_rfl, by kernel_rfl⟩
theorem k282 : FnOK Tryz.prog 282 g282 := ⟨_, _, fun d => ([] : List Nat).contains d, Tryz.func282, rfl, by kernel_rfl, by kernel_rfl, by kernel_rfl⟩
theorem k298 : FnOK Tryz.prog 298 g298 := ⟨_, _, fun d => ([] : List Nat).contains d, Tryz.func298, rfl, by kernel_rfl, by kernel_rfl, by kernel_rfl⟩

end Go.Abs.Tz

/- The executor's functions are the program's (3). -/
set_option maxRecDepth 100000
namespace Go.Abs.Tz
open Go.Abs Go.Proofs
theorem k32 : FnOK Tryz.prog 32 g32 := ⟨_, _, fun d => ([] : List Nat).contains d, Tryz.func32, rfl, by kernel_rfl, by kernel_rfl, by kernel_rfl⟩
theorem k43 : FnOK Tryz.prog 43 g43 := ⟨_, _, fun d => ([24] : List Nat).contains d, Tryz.func43, rfl, by kernel_rfl, by kernel_rfl, by kernel_rfl⟩
theorem k65 : FnOK Tryz.prog 65 g65 := ⟨_, _, fun d => ([] : List Nat).contains d, Tryz.func65, rfl, by kernel_rfl, by kernel_rfl, by kernel_rfl⟩
theorem k113 : FnOK Tryz.prog 113 g113 := ⟨_, _, fun d => ([] : List Nat).contains d, Tryz.func113, rfl, by kernel_rfl, by kernel_rfl, by kernel_rfl⟩
theorem k176 : FnOK Tryz.prog 176 g176 := ⟨_, _, fun d => ([] : List Nat).contains d, Tryz.func176, rfl, by kernel_rfl, by kernel_rfl, by kernel_rfl⟩
theorem k191 : FnOK Tryz.prog 191 g191 := ⟨_, _, fun d => ([] : List Nat).contains d, Tryz.func191, rfl, by kernel_rfl, by kernel_rfl, by kernel_rfl⟩
theorem k193 : FnOK Tryz.prog 193 g193 := ⟨_, _, fun d => ([] : List Nat).contains d, Tryz.func193, rfl, by kernel_rfl, by kernel_rfl, by kernel_rfl⟩
theorem k201 : FnOK Tryz.prog 201 g201 := ⟨_, _, fun d => ([] : List Nat).contains d, Tryz.func201, rfl, by kernel_rfl, by kernel_rfl, by kernel_rfl⟩
theorem k223 : FnOK Tryz.prog 223 g223 := ⟨_, _, fun d => ([] : List Nat).contains d, Tryz.func223, rfl, by kernel_rfl, by kernel_rfl, by kernel_rfl⟩
theorem k226 : FnOK Tryz.prog 226 g226 := ⟨_, _, fun d => ([3] : List Nat).contains d, Tryz.func226, rfl, by kernel_rfl, by kernel_rfl, by kernel_rfl⟩
theorem k229 : FnOK Tryz.prog 229 g229 := ⟨_, _, fun d => ([] : List Nat).contains d, Tryz.func229, rfl, by kernel_rfl, by kernel_rfl, by kernel_rfl⟩
theorem k230 : FnOK Tryz.prog 230 g230 := ⟨_, _, fun d => ([] : List Nat).contains d, Tryz.func230, rfl, by kernel_rfl, by kernel_rfl, by kernel_rfl⟩
theorem k240 : FnOK Tryz.prog 240 g240 := ⟨_, _, fun d => ([] : List Nat).contains d, Tryz.func240, rfl, by kernel_rfl, by kernel_rfl, by kernel_rfl⟩
theorem k242 : FnOK Tryz.prog 242 g242 := ⟨_, _, fun d => ([] : List Nat).contains d, Tryz.func242, rfl, by kernel_rfl, by kernel_rfl, by kernel_rfl⟩
theorem k243 : FnOK Tryz.prog 243 g243 := ⟨_, _, fun d => ([] : List Nat).contains d, Tryz.func243, rfl, by kernel_rfl, by kernel_rfl, by kernel_rfl⟩
theorem k270 : FnOK Tryz.prog 270 g270 := ⟨_, _, fun d => ([] : List Nat).contains d, Tryz.func270, rfl, by kernel_rfl, by kernel_rfl, by kernel_rfl⟩
theorem k272 : FnOK Tryz.prog 272 g272 := ⟨_, _, fun d => ([] : List Nat).contains d, Tryz.func272, rfl, by kernel_rfl, by kernel_rfl, by kernel_rfl⟩
theorem k310 : FnOK Tryz.prog 310 g310 := ⟨_, _, fun d => ([] : List Nat).contains d, Tryz.func310, rfl, by kernel_rfl, by kernel_rfl, by kernel_rfl⟩

end Go.Abs.Tz
