/- Proved: the tied card of LangTexts (Rows.LangTextsCardSaid): for every text the call answers true, and the text reads as it did; there is no further condition. The other texts of this folder are parts of the same proof; a program of mine has written them shorter. -/
import Derived.Test.YtiigojkfojnedaaGreatDoorPKj
import Derived.Test.YtiigojkfojnedaaGreatDoorPTf
set_option linter.unusedVariables false
set_option linter.unusedSimpArgs false
set_option maxRecDepth 100000
set_option maxHeartbeats 8000000
open Go.Proofs.Tryz renaming prog->Φ,f7->eF,params7->aia,underlying9->vA,func7->aib,checked->o6
namespace Go.ab.Tz
open Go Go.ab Go.Proofs Go.Proofs.YtiigojkfojnedaaGreatDoor Go.ChangeShapes Go.WideShapes Go.ChangeAt Go.RowKit
theorem WK{w:World}{base:Nat}{t:TypeId}{v:Value}(hu:Φ.underlying t=some .string)(h:Value.okWide Φ w .any base t v):v.cells= #[v]:=by unfold Value.okWide at h;rw[hu]at h;unfold Cell.okWide at h;rw[hu]at h;dsimp only at h;unfold Cell.ok at h;rw[hu]at h;cases v<;>first|rfl|(simp at h;done)
theorem laidOut:laidOutB Φ=true:=by kernel_rfl
theorem WT(H:Type)(enc:TypeId×Value->H)(W:World)(base:Nat)(args:Array Value)(ds gs:List (DataW H))(before:List MemPlace)
  (Aj:∀(j:Nat) t v,eF.params[j]?=some t->args[j]?=some v->Value.okWide Φ W .any base t v)
  (hW:DataW.Whole enc Φ eF.params.toList Rows.langTextsSpec.vars false W args.toList ds gs before) (hL:laidMetH Φ Rows.langTextsRow.laid W):
  Calls Φ 7 args W fun e W'=>∃v,e= .returned v/\Rows.langTextsSpec.post enc Φ eF false true false false W args v W':=by
 have QY:=hW;obtain⟨p,q,QQ,hV,rfl,Zs,x8⟩:=hW;have hA:DataW.TrodAll enc Φ W 0 (fun _=>true) true eF.params.toList args.toList ds p:=QQ;rw[aia]at hA Aj;obtain⟨v0,d0,rfl,rfl,h0⟩:=trodAll_one hA;obtain⟨rfl,rfl⟩:=trodVars_none hV;have k0:=WK vA (Aj 0 9 v0 rfl rfl);obtain⟨n0,t0⟩:=h0;have t1:=t0;rw[k0]at t1;obtain⟨s,q0,r0,-⟩:=DataW.trod_string vA t1;simp only[List.cons.injEq,and_true]at q0;subst q0;rw[MakeChecks.laidMetH_plain _ _ _ (by kernel_rfl)]at hL;obtain⟨u,eB⟩:=Ye (by simp[Rows.langTextsRow]) (by simp[Rows.langTextsRow]) (by simp[Rows.langTextsRow]) hL;have jz:PW (VR (l5 W) cd) [.str (s.data.toList.map UInt8.toNat)] (#[.string s]:Array Value).toList:=⟨rfl,fun i hi ae=>by
  match i,hi with
  |0,_=>exact .str _ _ _ rfl⟩
 refine(WE aib rfl (by kernel_rfl) eB jz (f7 _ (adV _))).mono fun e W' he=>?_;obtain⟨r,rfl,⟨g',hr⟩,hB⟩:=he;cases hr;have ν:∀y:MemPlace,y∈p++[]->y.block<W.heap.size:=QY.lt;have b0:=Below.trod (t:=9) laidOut (by kernel_rfl) (of_decide_eq_true (by kernel_rfl)) ⟨n0,t0⟩ hB (fun y hy=>ν y (by simp[hy]));refine⟨_,rfl,[d0],[],_,[],_,[],QY,trodAll_mk1 (shut_bool Tryz.underlying4 _),trodAll_mk1 b0,rfl,hB.frame _,fun h=>by cases h⟩
end Go.ab.Tz
namespace Go.Proofs.YtiigojkfojnedaaGreatDoor
open Go Go.ab Go.ab.Tz Go.ChangeShapes Go.WideShapes Go.ChangeAt Go.RowKit
theorem aeC:ownKnob Φ.godebug=none:=by kernel_rfl
def uf:Array Value:= #[.string .empty]
noncomputable def yW(os:Os):World:=World.doorLaid Φ 2000 os
theorem adj(os:Os):laidMetH Φ Rows.langTextsRow.laid ((yW os).forCall (fun _ _=>0) ⟨#[],uf,[]⟩).memory:=by rw[MakeChecks.laidMetH_plain _ _ _ (by kernel_rfl)];exact laidMet_of_run' 300 (by kernel_rfl) (by kernel_rfl)
theorem reads(os:Os){H:Type}(enc:TypeId×Value->H):∃places,DataW.whole enc Φ ((yW os).forCall (fun _ _=>0) ⟨#[],uf,[]⟩).memory eF.params.toList Rows.langTextsSpec.vars false uf.toList 8=
  some ([.lit (.string [])],[],places):=⟨[],by kernel_rfl⟩
theorem agw(os:Os):((yW os).forCall (fun _ _=>0) ⟨#[],uf,[]⟩).variablesRefB o6.prog=true:=by kernel_rfl
theorem afv(os:Os):(((yW os).forCall (fun _ _=>0) ⟨#[],uf,[]⟩).heap.toList.drop o6.prog.globals.size).take ((begin o6.prog (fun _ _=>0) default).world.heap.size-o6.prog.globals.size)=
   (begin o6.prog (fun _ _=>0) default).world.heap.toList.drop o6.prog.globals.size:=by kernel_rfl
theorem aaS(os:Os):Input.okWideB o6.prog ((yW os).forCall (fun _ _=>0) ⟨#[],uf,[]⟩) 7 ⟨#[],uf,[]⟩=true:=by kernel_rfl
theorem afD(os:Os){H:Type}(enc:TypeId×Value->H):(OpenSpec.ofChange Rows.langTextsSpec).preRow enc Φ eF Rows.langTextsRow.domain false Rows.langTextsRow.laid ((yW os).forCall (fun _ _=>0) ⟨#[],uf,[]⟩).memory uf:=by obtain⟨places,hx⟩:=reads os enc;exact OpenSpec.preRow_of_cond 8 hx (by kernel_rfl) (fun k hk=>by cases hk) (by kernel_rfl) (adj os)
theorem witness(os:Os)(H:Type)(enc:TypeId×Value->H):∃(w:World) (tape:Tape) (i:Input),w.os=os/\(w.forCall tape i).Shaped o6.prog/\i.vars=[]/\Input.okWide o6.prog (w.forCall tape i) .any w.heap.size 7 i∧
   (OpenSpec.ofChange Rows.langTextsSpec).preRow enc o6.prog eF Rows.langTextsRow.domain false Rows.langTextsRow.laid (w.forCall tape i).memory i.args/\({}:Assume).holds o6.prog (lone (Frame.enter o6.prog 7 i.args .normal) [] (w.forCall tape i)):=
 (witness_row_atRef (enc:=enc) (C:=o6) false (yW os) uf rfl (agw os) (afv os) (aaS os) (afD os enc))
theorem lifted(os:Os)(started:os.Started)(H:Type)(enc:TypeId×Value->H)(F:Stop.Interp):
  ReturnsInHanded {} o6 os 7 .any ((OpenSpec.ofChange Rows.langTextsSpec).preRow enc Φ eF Rows.langTextsRow.domain false Rows.langTextsRow.laid) (((OpenSpec.ofChange Rows.langTextsSpec).at F).post enc Φ eF false true false false):=
 returnsInHanded_of_row (C:=o6) (s:=OpenSpec.ofChange Rows.langTextsSpec) aeC started (by kernel_rfl) aib
  (witness os H enc)
  (fun W base args ds gs before Aj hW _ ag6 _ hL _ _=>WT H enc W base args ds gs before Aj hW hL)
theorem said:Rows.LangTextsSaid:=
 OpenClaim.holds_of_cond 7 eF rfl rfl rfl rfl rfl rfl rfl ⟨rfl,rfl,rfl,rfl,rfl⟩ rfl rfl rfl rfl rfl (by kernel_rfl) aib VT.aa1
  (of_decide_eq_true (by kernel_rfl)) (by unfold Func.isWrapper;first|(rw[if_pos (by decide+kernel)];kernel_rfl)|(rw[if_neg (by decide+kernel)];exact⟨rfl,rfl⟩))
  (fun os started H enc _ F=>by rw[OpenClaim.pre_eq_preRow];exact lifted os started H enc F)
theorem plain(f:FuncId)(fn:Func)(hf:Tryz.pinned.checked.prog.funcNamed "spoondrift/spoondriftlaw20.LangTexts" =some f)(nT:Tryz.pinned.checked.prog.funcs[f]?=some fn):
  true=Tryz.pinned.checked.prog.looks []/\∀(j:Nat) t,fn.params[j]?=some t->Tryz.pinned.checked.prog.wantsStandIn t=false:=by
 obtain rfl:f=7:=Option.some.inj ((show Φ.funcNamed "spoondrift/spoondriftlaw20.LangTexts" =some 7 by kernel_rfl).symm.trans hf)|>.symm;obtain rfl:fn=eF:=(Option.some.inj (aib.symm.trans nT)).symm;refine⟨by kernel_rfl,fun j t ht=>?_⟩;rw[aia]at ht;have h:t=9:=by simpa using Array.mem_of_getElem? ht
 subst h;exact(show Φ.wantsStandIn 9=false by kernel_rfl)
theorem hw:Rows.langTextsRow.wfByText (OpenSpec.ofChange Rows.langTextsSpec)=true:=by kernel_rfl
theorem hm:Tryz.pinned.checked.prog.mainIs=some (true,"fd8623b6c98a97f7bff546c0a072d3be35203e3e70e8f6090f755cb59d3c8153".toList):=by kernel_rfl
theorem hg:false=Rows.langTextsRow.goesBy Tryz.pinned.checked.prog:=by kernel_rfl
theorem langTexts_holds:Rows.LangTextsCardSaid:=
 Claim7.holds_tied_plain_at .later [] _ _ _ _ said (fun _ h=>by cases h) hw (fun _ h=>by cases h) langTexts_row_tie rfl ⟨rfl,rfl⟩ hm rfl plain hg
end Go.Proofs.YtiigojkfojnedaaGreatDoor
