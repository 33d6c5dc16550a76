/- The card of LangValues (second form). -/
import Derived.Test.YtiigojkfojnedaaGreatDoorXYa
set_option linter.unusedVariables false
set_option linter.unusedSimpArgs false
set_option maxRecDepth 100000
namespace Go.Abs.Tz
open Go Go.Abs Go.Proofs Go.Proofs.YtiigojkfojnedaaGreatDoor Go.ChangeShapes Go.WideShapes Go.ChangeAt Go.RowKit

theorem cells_of_slice {w : World} {base : Nat} {t e : TypeId} {v : Value} (hu : Tryz.prog.underlying t = some (.slice e)) (h : Value.okWide Tryz.prog w .any base t v) : v.cells = #[v] := by
  unfold Value.okWide at h
  rw [hu] at h
  unfold Cell.okWide at h
  rw [hu] at h
  dsimp only at h
  unfold Cell.ok at h
  rw [hu] at h
  cases v <;> first | rfl | (simp at h; done)
theorem agg_of_struct {w : World} {base : Nat} {v : Value} (h : Value.okWide Tryz.prog w .any base 27 v) : ∃ cs, v = .agg cs := by
  unfold Value.okWide at h
  rw [Tryz.underlying27] at h
  obtain ⟨cs, h, _⟩ := h
  exact ⟨cs, h⟩

theorem laidOut : laidOutB Tryz.prog = true := by kernel_rfl

theorem contract (H : Type) (enc : TypeId × Value → H) (W : World) (base : Nat) (args : Array Value) (ds gs : List (DataW H)) (before : List MemPlace)
    (hval : ∀ (j : Nat) t v, Tryz.f4.params[j]? = some t → args[j]? = some v → Value.okWide Tryz.prog W .any base t v)
    (hW : DataW.Whole enc Tryz.prog Tryz.f4.params.toList Rows.langValuesSpec.vars false W args.toList ds gs before)
    (hsm : Rows.uptoSmall H (ds ++ gs) = true) (hL : laidMetH Tryz.prog Rows.langValuesUptoRow.laid W) :
    Calls Tryz.prog 4 args W fun e W' => ∃ v, e = .returned v ∧ Rows.langValuesSpec.post enc Tryz.prog Tryz.f4 false true false false W args v W' := by
  have hW' := hW
  obtain ⟨p, q, hA0, hV, rfl, hfz, hnd⟩ := hW
  have hA : DataW.TrodAll enc Tryz.prog W 0 (fun _ => true) true Tryz.f4.params.toList args.toList ds p := hA0
  rw [Tryz.params4] at hA hval
  obtain ⟨v0, v1, v2, d0, d1, d2, p0, p1, p2, rfl, rfl, rfl, h0, h1, h2⟩ := trodAll_three hA
  obtain ⟨rfl, rfl⟩ := trodVars_none hV
  have k0 := hval 0 27 v0 rfl rfl
  have k1 := cells_of_slice Tryz.underlying42 (hval 1 42 v1 rfl rfl)
  have k2 := cells_of_slice Tryz.underlying43 (hval 2 43 v2 rfl rfl)
  obtain ⟨cs, rfl⟩ := agg_of_struct k0
  obtain ⟨n0, t0⟩ := h0
  obtain ⟨n1, t1⟩ := h1
  obtain ⟨n2, t2⟩ := h2
  obtain ⟨el, ⟨x, rfl, hx, hcnt⟩, hpw, hone⟩ := trod_idx n0 _ _ t0
  obtain ⟨cn, ss, r1, hn, l1⟩ := open_strs t1 k1
  obtain ⟨cb, ns, r2, hb, l2⟩ := open_ints t2 k2
  have hbulk : Rows.uptoBulkAll [d0, d1, d2] ≤ 1048576 := by
    have := of_decide_eq_true hsm
    simpa using this
  simp only [Rows.uptoBulkAll] at hbulk
  rw [MakeChecks.laidMetH_plain _ _ _ (by kernel_rfl)] at hL
  obtain ⟨u, hgl⟩ := gl_of_laid (by simp [Rows.langValuesUptoRow]) (by simp [Rows.langValuesUptoRow]) (by simp [Rows.langValuesUptoRow]) hL
  have hx' : VR (ghW W) noLB x.av (.agg cs) := by
    cases x with
    | mk a b s c l =>
      have hc : (Value.agg cs).cells.toList = cs.toList := by simp [Value.cells]
      rw [hc] at hpw hone
      simp only [Idx.av, AV.cells] at hpw ⊢
      refine .agg _ _ _ (by simpa using hpw.1.symm) (fun i hi => hone _ (by simp)) (fun i hi hi' => ?_)
      have := hpw.2 i hi (by simpa using hi')
      simpa using this
  have hargs : PW (VR (ghW W) noLB) [x.av, strsAV cn ss, intsAV cb ns] (#[.agg cs, v1, v2] : Array Value).toList := ⟨rfl, fun i hi hi' => by
    match i, hi with
    | 0, _ => exact hx'
    | 1, _ => exact r1
    | 2, _ => exact r2⟩
  dsimp only at hcnt l1 l2
  refine (calls_of_cvl Tryz.func4 rfl (by kernel_rfl) hgl hargs (f4 cn cb ss ns hn hb (by omega) (by omega) x hx (by omega))).mono fun e W' he => ?_
  obtain ⟨r, rfl, ⟨g', hr⟩, hB⟩ := he
  cases hr
  have hlt : ∀ y : MemPlace, y ∈ p0 ++ p1 ++ p2 ++ [] → y.block < W.heap.size := hW'.lt
  have b0 := Below.trod (t := 27) laidOut (by kernel_rfl) (of_decide_eq_true (by kernel_rfl)) ⟨n0, t0⟩ hB (fun y hy => hlt y (by simp [hy]))
  have b1 := Below.trod (t := 42) laidOut (by kernel_rfl) (of_decide_eq_true (by kernel_rfl)) ⟨n1, t1⟩ hB (fun y hy => hlt y (by simp [hy]))
  have b2 := Below.trod (t := 43) laidOut (by kernel_rfl) (of_decide_eq_true (by kernel_rfl)) ⟨n2, t2⟩ hB (fun y hy => hlt y (by simp [hy]))
  refine ⟨_, rfl, [d0, d1, d2], [], _, [], _, [], hW', trodAll_mk1 (shut_bool Tryz.underlying4 _), trodAll_mk3 b0 b1 b2, rfl, hB.frame _, fun h => by cases h⟩
end Go.Abs.Tz

/- The card of LangValues (second form): the witness, the statement, the card. -/
set_option maxRecDepth 100000
namespace Go.Proofs.YtiigojkfojnedaaGreatDoor
open Go Go.Abs Go.Abs.Tz Go.ChangeShapes Go.WideShapes Go.ChangeAt Go.RowKit

theorem ownNone : ownKnob Tryz.prog.godebug = none := by kernel_rfl
def witArgs : Array Value := #[.agg #[.int .i64 0, .int .i64 0, .string .empty, .slice none 0 0], .slice none 0 0, .slice none 0 0]
noncomputable def witWorld (os : Os) : World := World.doorLaid Tryz.prog 2000 os

theorem laid_met (os : Os) : laidMetH Tryz.prog Rows.langValuesUptoRow.laid ((witWorld os).forCall (fun _ _ => 0) ⟨#[], witArgs, []⟩).memory := by
  rw [MakeChecks.laidMetH_plain _ _ _ (by kernel_rfl)]
  exact laidMet_of_run' 300 (by kernel_rfl) (by kernel_rfl)
theorem reads (os : Os) {H : Type} (enc : TypeId × Value → H) : ∃ places, DataW.whole enc Tryz.prog ((witWorld os).forCall (fun _ _ => 0) ⟨#[], witArgs, []⟩).memory Tryz.f4.params.toList Rows.langValuesSpec.vars false witArgs.toList 8 =
    some ([.agg [.lit (.int .i64 0), .lit (.int .i64 0), .lit (.string []), .nil], .nil, .nil], [], places) := ⟨[], by kernel_rfl⟩

theorem variablesMet (os : Os) : ((witWorld os).forCall (fun _ _ => 0) ⟨#[], witArgs, []⟩).variablesRefB Tryz.checked.prog = true := by kernel_rfl
theorem restMet (os : Os) : (((witWorld os).forCall (fun _ _ => 0) ⟨#[], witArgs, []⟩).heap.toList.drop Tryz.checked.prog.globals.size).take ((begin Tryz.checked.prog (fun _ _ => 0) default).world.heap.size - Tryz.checked.prog.globals.size) =
      (begin Tryz.checked.prog (fun _ _ => 0) default).world.heap.toList.drop Tryz.checked.prog.globals.size := by kernel_rfl
theorem inputMet (os : Os) : Input.okWideB Tryz.checked.prog ((witWorld os).forCall (fun _ _ => 0) ⟨#[], witArgs, []⟩) 4 ⟨#[], witArgs, []⟩ = true := by kernel_rfl
theorem rowMet (os : Os) {H : Type} (enc : TypeId × Value → H) : (Rows.OpenSpec.upto Rows.langValuesSpec).preRow enc Tryz.prog Tryz.f4 Rows.langValuesUptoRow.domain false Rows.langValuesUptoRow.laid ((witWorld os).forCall (fun _ _ => 0) ⟨#[], witArgs, []⟩).memory witArgs := by
  obtain ⟨places, hx⟩ := reads os enc
  exact OpenSpec.preRow_of_cond 8 hx (by kernel_rfl) (fun k hk => by cases hk; kernel_rfl) (by kernel_rfl) (laid_met os)

end Go.Proofs.YtiigojkfojnedaaGreatDoor
