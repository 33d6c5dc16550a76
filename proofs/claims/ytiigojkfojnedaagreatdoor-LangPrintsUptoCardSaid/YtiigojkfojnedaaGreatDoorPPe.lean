/- A text of this proof. -/
import Derived.Test.YtiigojkfojnedaaGreatDoorPYa
import Derived.Test.YtiigojkfojnedaaGreatDoorPPf
import Derived.Test.YtiigojkfojnedaaGreatDoorPPh
set_option linter.unusedVariables false
set_option linter.unusedSimpArgs false
set_option maxRecDepth 100000
namespace Go.Proofs.YtiigojkfojnedaaGreatDoor
open Go Go.Abs Go.Abs.Tz Go.ChangeShapes Go.WideShapes Go.ChangeAt Go.RowKit
theorem ownNone : ownKnob Tryz.prog.godebug = none := by kernel_rfl
def witArgs : Array Value := #[.agg #[.slice none 0 0],.agg #[.int .i64 0,.int .i64 0,.string .empty,.slice none 0 0]]
noncomputable def witWorld (os : Os) : World := World.doorLaid Tryz.prog 2000 os
theorem laid_met (os : Os) : laidMetH Tryz.prog Rows.langPrintsUptoRow.laid ((witWorld os).forCall (fun _ _ => 0) ⟨#[],witArgs,[]⟩).memory := by
 rw [MakeChecks.laidMetH_plain _ _ _ (by kernel_rfl)]
 exact laidMet_of_run' 300 (by kernel_rfl) (by kernel_rfl)
theorem reads (os : Os) {H : Type} (enc : TypeId × Value -> H) : ∃ places,DataW.whole enc Tryz.prog ((witWorld os).forCall (fun _ _ => 0) ⟨#[],witArgs,[]⟩).memory Tryz.f3.params.toList Rows.langPrintsSpec.vars false witArgs.toList 8 =
  some ([.agg [.nil],.agg [.lit (.int .i64 0),.lit (.int .i64 0),.lit (.string []),.nil]],[],places) := ⟨[],by kernel_rfl⟩
theorem variablesMet (os : Os) : ((witWorld os).forCall (fun _ _ => 0) ⟨#[],witArgs,[]⟩).variablesRefB Tryz.checked.prog = true := by kernel_rfl
theorem restMet (os : Os) : (((witWorld os).forCall (fun _ _ => 0) ⟨#[],witArgs,[]⟩).heap.toList.drop Tryz.checked.prog.globals.size).take ((begin Tryz.checked.prog (fun _ _ => 0) default).world.heap.size - Tryz.checked.prog.globals.size) =
   (begin Tryz.checked.prog (fun _ _ => 0) default).world.heap.toList.drop Tryz.checked.prog.globals.size := by kernel_rfl
theorem inputMet (os : Os) : Input.okWideB Tryz.checked.prog ((witWorld os).forCall (fun _ _ => 0) ⟨#[],witArgs,[]⟩) 3 ⟨#[],witArgs,[]⟩ = true := by kernel_rfl
theorem rowMet (os : Os) {H : Type} (enc : TypeId × Value -> H) : (Rows.OpenSpec.upto Rows.langPrintsSpec).preRow enc Tryz.prog Tryz.f3 Rows.langPrintsUptoRow.domain false Rows.langPrintsUptoRow.laid ((witWorld os).forCall (fun _ _ => 0) ⟨#[],witArgs,[]⟩).memory witArgs := by
 obtain ⟨places,hx⟩ := reads os enc
 exact OpenSpec.preRow_of_cond 8 hx (by kernel_rfl) (fun k hk => by cases hk; kernel_rfl) (by kernel_rfl) (laid_met os)
end Go.Proofs.YtiigojkfojnedaaGreatDoor
set_option maxRecDepth 100000
namespace Go.Proofs.YtiigojkfojnedaaGreatDoor
open Go Go.Abs Go.Abs.Tz Go.ChangeShapes Go.WideShapes Go.ChangeAt Go.RowKit
theorem witness (os : Os) (H : Type) (enc : TypeId × Value -> H) : ∃ (w : World) (tape : Tape) (i : Input),w.os = os /\ (w.forCall tape i).Shaped Tryz.checked.prog /\ i.vars = [] /\ Input.okWide Tryz.checked.prog (w.forCall tape i) .any w.heap.size 3 i ∧
   (Rows.OpenSpec.upto Rows.langPrintsSpec).preRow enc Tryz.checked.prog Tryz.f3 Rows.langPrintsUptoRow.domain false Rows.langPrintsUptoRow.laid (w.forCall tape i).memory i.args /\ ({ } : Assume).holds Tryz.checked.prog (lone (Frame.enter Tryz.checked.prog 3 i.args .normal) [] (w.forCall tape i)) :=
 (witness_row_atRef (enc := enc) (C := Tryz.checked) false (witWorld os) witArgs rfl (variablesMet os) (restMet os) (inputMet os) (rowMet os enc))
theorem lifted (os : Os) (started : os.Started) (H : Type) (enc : TypeId × Value -> H) (F : Stop.Interp) :
  ReturnsInHanded {} Tryz.checked os 3 .any ((Rows.OpenSpec.upto Rows.langPrintsSpec).preRow enc Tryz.prog Tryz.f3 Rows.langPrintsUptoRow.domain false Rows.langPrintsUptoRow.laid) (((Rows.OpenSpec.upto Rows.langPrintsSpec).at F).post enc Tryz.prog Tryz.f3 false true false false) :=
 returnsInHanded_of_row (C := Tryz.checked) (s := Rows.OpenSpec.upto Rows.langPrintsSpec) ownNone started (by kernel_rfl) Tryz.func3
  (witness os H enc)
  (fun W base args ds gs before hval hW _ hcond _ hL _ _ => contract H enc W base args ds gs before hval hW (hcond _ rfl) hL)
theorem said : Rows.LangPrintsUptoSaid :=
 OpenClaim.holds_of_cond 3 Tryz.f3 rfl rfl rfl rfl rfl rfl rfl ⟨rfl,rfl,rfl,rfl,rfl⟩ rfl rfl rfl rfl rfl (by kernel_rfl) Tryz.func3 V.joined
  (of_decide_eq_true (by kernel_rfl)) (by unfold Func.isWrapper; first | (rw [if_pos (by decide +kernel)]; kernel_rfl) | (rw [if_neg (by decide +kernel)]; exact ⟨rfl,rfl⟩))
  (fun os started H enc _ F => by rw [OpenClaim.pre_eq_preRow]; exact lifted os started H enc F)
theorem plain (f : FuncId) (fn : Func) (hf : Tryz.pinned.checked.prog.funcNamed "spoondrift/spoondriftlaw20.LangPrints" = some f) (hfn : Tryz.pinned.checked.prog.funcs[f]? = some fn) :
  true = Tryz.pinned.checked.prog.looks [] /\ ∀ (j : Nat) t,fn.params[j]? = some t -> Tryz.pinned.checked.prog.wantsStandIn t = false := by
 obtain rfl : f = 3 := Option.some.inj ((show Tryz.prog.funcNamed "spoondrift/spoondriftlaw20.LangPrints" = some 3 by kernel_rfl).symm.trans hf) |>.symm
 obtain rfl : fn = Tryz.f3 := (Option.some.inj (Tryz.func3.symm.trans hfn)).symm
 refine ⟨by kernel_rfl,fun j t ht => ?_⟩
 rw [Tryz.params3] at ht
 have h : t = 24 \/ t = 27 := by simpa using Array.mem_of_getElem? ht
 rcases h with rfl | rfl
 ·exact (show Tryz.prog.wantsStandIn 24 = false by kernel_rfl)
 ·exact (show Tryz.prog.wantsStandIn 27 = false by kernel_rfl)
theorem hw : Rows.langPrintsUptoRow.wfByText (Rows.OpenSpec.upto Rows.langPrintsSpec) = true := by kernel_rfl
theorem hm : Tryz.pinned.checked.prog.mainIs = some (true,"fd8623b6c98a97f7bff546c0a072d3be35203e3e70e8f6090f755cb59d3c8153".toList) := by kernel_rfl
theorem hg : false = Rows.langPrintsUptoRow.goesBy Tryz.pinned.checked.prog := by kernel_rfl
theorem langPrintsUpto_holds : Rows.LangPrintsUptoCardSaid :=
 Claim7.holds_tied_plain_at .later [] _ _ _ _ said (fun _ h => by cases h) hw (fun _ h => by cases h) langPrintsUpto_row_tie rfl ⟨rfl,rfl⟩ hm rfl plain hg
end Go.Proofs.YtiigojkfojnedaaGreatDoor
