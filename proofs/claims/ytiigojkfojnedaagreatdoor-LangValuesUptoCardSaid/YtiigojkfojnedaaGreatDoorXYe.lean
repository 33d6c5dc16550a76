/- The card of LangValues (second form): the statement, the card. -/
import Derived.Test.YtiigojkfojnedaaGreatDoorXYf
set_option linter.unusedVariables false
set_option linter.unusedSimpArgs false
set_option maxRecDepth 100000
namespace Go.Proofs.YtiigojkfojnedaaGreatDoor
open Go Go.Abs Go.Abs.Tz Go.ChangeShapes Go.WideShapes Go.ChangeAt Go.RowKit

theorem witness (os : Os) (H : Type) (enc : TypeId × Value → H) : ∃ (w : World) (tape : Tape) (i : Input), w.os = os ∧ (w.forCall tape i).Shaped Tryz.checked.prog ∧ i.vars = [] ∧ Input.okWide Tryz.checked.prog (w.forCall tape i) .any w.heap.size 4 i ∧
      (Rows.OpenSpec.upto Rows.langValuesSpec).preRow enc Tryz.checked.prog Tryz.f4 Rows.langValuesUptoRow.domain false Rows.langValuesUptoRow.laid (w.forCall tape i).memory i.args ∧ ({ } : Assume).holds Tryz.checked.prog (lone (Frame.enter Tryz.checked.prog 4 i.args .normal) [] (w.forCall tape i)) :=
  (witness_row_atRef (enc := enc) (C := Tryz.checked) false (witWorld os) witArgs rfl (variablesMet os) (restMet os) (inputMet os) (rowMet os enc))
theorem lifted (os : Os) (started : os.Started) (H : Type) (enc : TypeId × Value → H) (F : Stop.Interp) :
    ReturnsInHanded {} Tryz.checked os 4 .any ((Rows.OpenSpec.upto Rows.langValuesSpec).preRow enc Tryz.prog Tryz.f4 Rows.langValuesUptoRow.domain false Rows.langValuesUptoRow.laid) (((Rows.OpenSpec.upto Rows.langValuesSpec).at F).post enc Tryz.prog Tryz.f4 false true false false) :=
  returnsInHanded_of_row (C := Tryz.checked) (s := Rows.OpenSpec.upto Rows.langValuesSpec) ownNone started (by kernel_rfl) Tryz.func4
    (witness os H enc)
    (fun W base args ds gs before hval hW _ hcond _ hL _ _ => contract H enc W base args ds gs before hval hW (hcond _ rfl) hL)

theorem said : Rows.LangValuesUptoSaid :=
  OpenClaim.holds_of_cond 4 Tryz.f4 rfl rfl rfl rfl rfl rfl rfl ⟨rfl, rfl, rfl, rfl, rfl⟩ rfl rfl rfl rfl rfl (by kernel_rfl) Tryz.func4 V.joined
    (of_decide_eq_true (by kernel_rfl)) (by unfold Func.isWrapper; first | (rw [if_pos (by decide +kernel)]; kernel_rfl) | (rw [if_neg (by decide +kernel)]; exact ⟨rfl, rfl⟩))
    (fun os started H enc _ F => by rw [OpenClaim.pre_eq_preRow]; exact lifted os started H enc F)

theorem plain (f : FuncId) (fn : Func) (hf : Tryz.pinned.checked.prog.funcNamed "spoondrift/spoondriftlaw20.LangValues" = some f) (hfn : Tryz.pinned.checked.prog.funcs[f]? = some fn) :
    true = Tryz.pinned.checked.prog.looks [] ∧ ∀ (j : Nat) t, fn.params[j]? = some t → Tryz.pinned.checked.prog.wantsStandIn t = false := by
  obtain rfl : f = 4 := Option.some.inj ((show Tryz.prog.funcNamed "spoondrift/spoondriftlaw20.LangValues" = some 4 by kernel_rfl).symm.trans hf) |>.symm
  obtain rfl : fn = Tryz.f4 := (Option.some.inj (Tryz.func4.symm.trans hfn)).symm
  refine ⟨by kernel_rfl, fun j t ht => ?_⟩
  rw [Tryz.params4] at ht
  have h : t = 27 ∨ t = 42 ∨ t = 43 := by simpa using Array.mem_of_getElem? ht
  rcases h with rfl | rfl | rfl
  · exact (show Tryz.prog.wantsStandIn 27 = false by kernel_rfl)
  · exact (show Tryz.prog.wantsStandIn 42 = false by kernel_rfl)
  · exact (show Tryz.prog.wantsStandIn 43 = false by kernel_rfl)

theorem hw : Rows.langValuesUptoRow.wfByText (Rows.OpenSpec.upto Rows.langValuesSpec) = true := by kernel_rfl
theorem hm : Tryz.pinned.checked.prog.mainIs = some (true, "fd8623b6c98a97f7bff546c0a072d3be35203e3e70e8f6090f755cb59d3c8153".toList) := by kernel_rfl
theorem hg : false = Rows.langValuesUptoRow.goesBy Tryz.pinned.checked.prog := by kernel_rfl

/-- The card. -/
theorem langValuesUpto_holds : Rows.LangValuesUptoCardSaid :=
  Claim7.holds_tied_plain_at .later [] _ _ _ _ said (fun _ h => by cases h) hw (fun _ h => by cases h) langValuesUpto_row_tie rfl ⟨rfl, rfl⟩ hm rfl plain hg
end Go.Proofs.YtiigojkfojnedaaGreatDoor
