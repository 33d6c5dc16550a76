/- A text of this proof. -/
import Derived.Test.YtiigojkfojnedaaGreatDoorPZg
import Derived.Test.YtiigojkfojnedaaGreatDoorProg
set_option linter.unusedVariables false
set_option linter.unusedSimpArgs false
set_option maxRecDepth 100000
namespace Go.Abs.Tz
open Go.Abs Go.Proofs
theorem fk {n : Nat} {fn : Func} {g : AF} (esc : List Nat) (hf : Tryz.prog.funcs[n]? = some fn)
  (h : (fn.body.map fun c => (fn.name == "runtime.NumGoroutine",cCode Tryz.prog (fun d => esc.contains d) fn.ntmps true c,cRess Tryz.prog fn.results.toList)) = some (false,g.code,some g.results)) : FnOK Tryz.prog n g := by
 cases hb : fn.body with
 | none => rw [hb] at h; cases h
 | some c =>
  rw [hb] at h
  simp only [Option.map_some,Option.some.injEq,Prod.mk.injEq] at h
  exact ⟨fn,c,_,hf,hb,h.1,h.2.1.symm,h.2.2⟩
end Go.Abs.Tz
set_option maxRecDepth 100000
namespace Go.Abs.Tz
open Go.Abs Go.Proofs
theorem k4 : FnOK Tryz.prog 4 g4 := fk [] Tryz.func4 (by kernel_rfl)
theorem k22 : FnOK Tryz.prog 22 g22 := fk [] Tryz.func22 (by kernel_rfl)
theorem k29 : FnOK Tryz.prog 29 g29 := fk [] Tryz.func29 (by kernel_rfl)
theorem k33 : FnOK Tryz.prog 33 g33 := fk [] Tryz.func33 (by kernel_rfl)
theorem k39 : FnOK Tryz.prog 39 g39 := fk [] Tryz.func39 (by kernel_rfl)
theorem k43 : FnOK Tryz.prog 43 g43 := fk [24] Tryz.func43 (by kernel_rfl)
theorem k88 : FnOK Tryz.prog 88 g88 := fk [] Tryz.func88 (by kernel_rfl)
theorem k93 : FnOK Tryz.prog 93 g93 := fk [] Tryz.func93 (by kernel_rfl)
theorem k96 : FnOK Tryz.prog 96 g96 := fk [] Tryz.func96 (by kernel_rfl)
theorem k102 : FnOK Tryz.prog 102 g102 := fk [] Tryz.func102 (by kernel_rfl)
theorem k114 : FnOK Tryz.prog 114 g114 := fk [1] Tryz.func114 (by kernel_rfl)
theorem k115 : FnOK Tryz.prog 115 g115 := fk [] Tryz.func115 (by kernel_rfl)
theorem k116 : FnOK Tryz.prog 116 g116 := fk [] Tryz.func116 (by kernel_rfl)
theorem k152 : FnOK Tryz.prog 152 g152 := fk [] Tryz.func152 (by kernel_rfl)
theorem k189 : FnOK Tryz.prog 189 g189 := fk [] Tryz.func189 (by kernel_rfl)
theorem k202 : FnOK Tryz.prog 202 g202 := fk [] Tryz.func202 (by kernel_rfl)
theorem k205 : FnOK Tryz.prog 205 g205 := fk [] Tryz.func205 (by kernel_rfl)
theorem k208 : FnOK Tryz.prog 208 g208 := fk [3] Tryz.func208 (by kernel_rfl)
theorem k229 : FnOK Tryz.prog 229 g229 := fk [] Tryz.func229 (by kernel_rfl)
theorem k244 : FnOK Tryz.prog 244 g244 := fk [] Tryz.func244 (by kernel_rfl)
theorem k248 : FnOK Tryz.prog 248 g248 := fk [] Tryz.func248 (by kernel_rfl)
theorem k268 : FnOK Tryz.prog 268 g268 := fk [] Tryz.func268 (by kernel_rfl)
theorem k283 : FnOK Tryz.prog 283 g283 := fk [] Tryz.func283 (by kernel_rfl)
theorem k298 : FnOK Tryz.prog 298 g298 := fk [] Tryz.func298 (by kernel_rfl)
end Go.Abs.Tz
set_option maxRecDepth 100000
namespace Go.Abs.Tz
open Go.Abs Go.Proofs
theorem k18 : FnOK Tryz.prog 18 g18 := fk [3,5,6] Tryz.func18 (by kernel_rfl)
theorem k19 : FnOK Tryz.prog 19 g19 := fk [] Tryz.func19 (by kernel_rfl)
theorem k30 : FnOK Tryz.prog 30 g30 := fk [] Tryz.func30 (by kernel_rfl)
theorem k94 : FnOK Tryz.prog 94 g94 := fk [] Tryz.func94 (by kernel_rfl)
theorem k101 : FnOK Tryz.prog 101 g101 := fk [] Tryz.func101 (by kernel_rfl)
theorem k107 : FnOK Tryz.prog 107 g107 := fk [1] Tryz.func107 (by kernel_rfl)
theorem k108 : FnOK Tryz.prog 108 g108 := fk [] Tryz.func108 (by kernel_rfl)
theorem k110 : FnOK Tryz.prog 110 g110 := fk [] Tryz.func110 (by kernel_rfl)
theorem k136 : FnOK Tryz.prog 136 g136 := fk [] Tryz.func136 (by kernel_rfl)
theorem k137 : FnOK Tryz.prog 137 g137 := fk [] Tryz.func137 (by kernel_rfl)
theorem k150 : FnOK Tryz.prog 150 g150 := fk [] Tryz.func150 (by kernel_rfl)
theorem k168 : FnOK Tryz.prog 168 g168 := fk [] Tryz.func168 (by kernel_rfl)
theorem k169 : FnOK Tryz.prog 169 g169 := fk [] Tryz.func169 (by kernel_rfl)
theorem k171 : FnOK Tryz.prog 171 g171 := fk [] Tryz.func171 (by kernel_rfl)
theorem k172 : FnOK Tryz.prog 172 g172 := fk [] Tryz.func172 (by kernel_rfl)
theorem k178 : FnOK Tryz.prog 178 g178 := fk [] Tryz.func178 (by kernel_rfl)
theorem k181 : FnOK Tryz.prog 181 g181 := fk [] Tryz.func181 (by kernel_rfl)
theorem k190 : FnOK Tryz.prog 190 g190 := fk [] Tryz.func190 (by kernel_rfl)
theorem k209 : FnOK Tryz.prog 209 g209 := fk [] Tryz.func209 (by kernel_rfl)
theorem k225 : FnOK Tryz.prog 225 g225 := fk [2,5] Tryz.func225 (by kernel_rfl)
theorem k227 : FnOK Tryz.prog 227 g227 := fk [] Tryz.func227 (by kernel_rfl)
theorem k241 : FnOK Tryz.prog 241 g241 := fk [] Tryz.func241 (by kernel_rfl)
theorem k267 : FnOK Tryz.prog 267 g267 := fk [] Tryz.func267 (by kernel_rfl)
theorem k282 : FnOK Tryz.prog 282 g282 := fk [] Tryz.func282 (by kernel_rfl)
theorem k309 : FnOK Tryz.prog 309 g309 := fk [] Tryz.func309 (by kernel_rfl)
end Go.Abs.Tz
set_option maxRecDepth 100000
namespace Go.Abs.Tz
open Go.Abs Go.Proofs
theorem k3 : FnOK Tryz.prog 3 g3 := fk [] Tryz.func3 (by kernel_rfl)
theorem k28 : FnOK Tryz.prog 28 g28 := fk [] Tryz.func28 (by kernel_rfl)
theorem k56 : FnOK Tryz.prog 56 g56 := fk [] Tryz.func56 (by kernel_rfl)
theorem k65 : FnOK Tryz.prog 65 g65 := fk [] Tryz.func65 (by kernel_rfl)
theorem k70 : FnOK Tryz.prog 70 g70 := fk [] Tryz.func70 (by kernel_rfl)
theorem k85 : FnOK Tryz.prog 85 g85 := fk [] Tryz.func85 (by kernel_rfl)
theorem k103 : FnOK Tryz.prog 103 g103 := fk [] Tryz.func103 (by kernel_rfl)
theorem k118 : FnOK Tryz.prog 118 g118 := fk [] Tryz.func118 (by kernel_rfl)
theorem k126 : FnOK Tryz.prog 126 g126 := fk [3] Tryz.func126 (by kernel_rfl)
theorem k165 : FnOK Tryz.prog 165 g165 := fk [] Tryz.func165 (by kernel_rfl)
theorem k176 : FnOK Tryz.prog 176 g176 := fk [] Tryz.func176 (by kernel_rfl)
theorem k187 : FnOK Tryz.prog 187 g187 := fk [] Tryz.func187 (by kernel_rfl)
theorem k191 : FnOK Tryz.prog 191 g191 := fk [] Tryz.func191 (by kernel_rfl)
theorem k219 : FnOK Tryz.prog 219 g219 := fk [] Tryz.func219 (by kernel_rfl)
theorem k220 : FnOK Tryz.prog 220 g220 := fk [] Tryz.func220 (by kernel_rfl)
theorem k226 : FnOK Tryz.prog 226 g226 := fk [3] Tryz.func226 (by kernel_rfl)
theorem k228 : FnOK Tryz.prog 228 g228 := fk [] Tryz.func228 (by kernel_rfl)
theorem k230 : FnOK Tryz.prog 230 g230 := fk [] Tryz.func230 (by kernel_rfl)
theorem k232 : FnOK Tryz.prog 232 g232 := fk [5] Tryz.func232 (by kernel_rfl)
theorem k240 : FnOK Tryz.prog 240 g240 := fk [] Tryz.func240 (by kernel_rfl)
theorem k266 : FnOK Tryz.prog 266 g266 := fk [] Tryz.func266 (by kernel_rfl)
theorem k273 : FnOK Tryz.prog 273 g273 := fk [] Tryz.func273 (by kernel_rfl)
theorem k275 : FnOK Tryz.prog 275 g275 := fk [] Tryz.func275 (by kernel_rfl)
theorem k294 : FnOK Tryz.prog 294 g294 := fk [] Tryz.func294 (by kernel_rfl)
theorem k315 : FnOK Tryz.prog 315 g315 := fk [] Tryz.func315 (by kernel_rfl)
end Go.Abs.Tz
