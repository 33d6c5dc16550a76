/- Proved: the tied card of LangChanges (Rows.LangChangesCardSaid): for every two texts and every path the call answers true, and what is passed in reads as it did; there is no further condition. The other texts of this folder are parts of the same proof; a program of mine has written them shorter. -/
import Derived.Test.YtiigojkfojnedaaGreatDoorQKy
import Derived.Test.YtiigojkfojnedaaGreatDoorQUf
set_option linter.unusedVariables false
set_option linter.unusedSimpArgs false
set_option maxRecDepth 100000
set_option maxHeartbeats 8000000
open Go.Proofs.Tryz renaming prog->Ψ,f8->eA,params8->ah',underlying9->tf,func8->aia,checked->oE
namespace Go.ah.Tz
open Go Go.ah Go.Proofs Go.Proofs.YtiigojkfojnedaaGreatDoor Go.ChangeShapes Go.WideShapes Go.ChangeAt Go.RowKit
theorem Pj{w:World}{base:Nat}{t:TypeId}{v:Value}(hu:Ψ.underlying t=some .string)(h:Value.okWide Ψ w .any base t v):v.cells= #[v]:=by unfold Value.okWide at h;rw[hu]at h;unfold Cell.okWide at h;rw[hu]at h;dsimp only at h;unfold Cell.ok at h;rw[hu]at h;cases v<;>first|rfl|(simp at h;done)
theorem V'{w:World}{base:Nat}{t e:TypeId}{v:Value}(hu:Ψ.underlying t=some (.slice e))(h:Value.okWide Ψ w .any base t v):v.cells= #[v]:=by unfold Value.okWide at h;rw[hu]at h;unfold Cell.okWide at h;rw[hu]at h;dsimp only at h;unfold Cell.ok at h;rw[hu]at h;cases v<;>first|rfl|(simp at h;done)
theorem laidOut:laidOutB Ψ=true:=by kernel_rfl
theorem Wf(H:Type)(enc:TypeId×Value->H)(W:World)(base:Nat)(args:Array Value)(ds gs:List (DataW H))(before:List MemPlace)
  (wo:∀(j:Nat) t v,eA.params[j]?=some t->args[j]?=some v->Value.okWide Ψ W .any base t v)
  (hW:DataW.Whole enc Ψ eA.params.toList Rows.langChangesSpec.vars false W args.toList ds gs before) (hL:laidMetH Ψ Rows.langChangesRow.laid W):
  Calls Ψ 8 args W fun e W'=>∃v,e= .returned v/\Rows.langChangesSpec.post enc Ψ eA false true false false W args v W':=by
 have Qs:=hW;obtain⟨p,q,XU,hV,rfl,Y2,xY⟩:=hW;have hA:DataW.TrodAll enc Ψ W 0 (fun _=>true) true eA.params.toList args.toList ds p:=XU;rw[ah']at hA wo;obtain⟨v0,v1,v2,d0,d1,d2,p0,p1,p2,rfl,rfl,rfl,h0,h1,h2⟩:=trodAll_three hA;obtain⟨rfl,rfl⟩:=trodVars_none hV;have k0:=Pj tf (wo 0 9 v0 rfl rfl);have k1:=Pj tf (wo 1 9 v1 rfl rfl);have k2:=V' Tryz.underlying43 (wo 2 43 v2 rfl rfl);obtain⟨n0,t0⟩:=h0;obtain⟨n1,t1⟩:=h1;obtain⟨n2,t2⟩:=h2;have u0:=t0;have u1:=t1;rw[k0]at u0;rw[k1]at u1;obtain⟨s0,q0,r0,-⟩:=DataW.trod_string tf u0;obtain⟨s1,q1,r1,-⟩:=DataW.trod_string tf u1;simp only[List.cons.injEq,and_true]at q0 q1;subst q0 q1;obtain⟨cb,ns,r2,hb,l2⟩:=open_ints t2 k2;rw[MakeChecks.laidMetH_plain _ _ _ (by kernel_rfl)]at hL;obtain⟨u,di⟩:=XH (by simp[Rows.langChangesRow]) (by simp[Rows.langChangesRow]) (by simp[Rows.langChangesRow]) hL;have jd:PW (VR (kr W) bS) [.str (s0.data.toList.map UInt8.toNat),.str (s1.data.toList.map UInt8.toNat),dC cb ns] (#[.string s0,.string s1,v2]:Array Value).toList:=⟨rfl,fun i hi aj=>by
  match i,hi with
  |0,_=>exact .str _ _ _ rfl
  |1,_=>exact .str _ _ _ rfl
  |2,_=>exact r2⟩
 refine(V3 aia rfl (by kernel_rfl) di jd (f8 _ _ (SP _) (SP _) ns cb hb)).mono fun e W' he=>?_;obtain⟨r,rfl,⟨g',hr⟩,hB⟩:=he;cases hr;have ρ:∀y:MemPlace,y∈p0++p1++p2++[]->y.block<W.heap.size:=Qs.lt;have b0:=Below.trod (t:=9) laidOut (by kernel_rfl) (of_decide_eq_true (by kernel_rfl)) ⟨n0,t0⟩ hB (fun y hy=>ρ y (by simp[hy]));have b1:=Below.trod (t:=9) laidOut (by kernel_rfl) (of_decide_eq_true (by kernel_rfl)) ⟨n1,t1⟩ hB (fun y hy=>ρ y (by simp[hy]));have b2:=Below.trod (t:=43) laidOut (by kernel_rfl) (of_decide_eq_true (by kernel_rfl)) ⟨n2,t2⟩ hB (fun y hy=>ρ y (by simp[hy]));refine⟨_,rfl,[d0,d1,d2],[],_,[],_,[],Qs,trodAll_mk1 (shut_bool Tryz.underlying4 _),trodAll_mk3 b0 b1 b2,rfl,hB.frame _,fun h=>by cases h⟩
end Go.ah.Tz
namespace Go.Proofs.YtiigojkfojnedaaGreatDoor
open Go Go.ah Go.ah.Tz Go.ChangeShapes Go.WideShapes Go.ChangeAt Go.RowKit
theorem aem:ownKnob Ψ.godebug=none:=by kernel_rfl
def uc:Array Value:= #[.string .empty,.string .empty,.slice none 0 0]
noncomputable def yL(os:Os):World:=World.doorLaid Ψ 2000 os
theorem acX(os:Os):laidMetH Ψ Rows.langChangesRow.laid ((yL os).forCall (fun _ _=>0) ⟨#[],uc,[]⟩).memory:=by rw[MakeChecks.laidMetH_plain _ _ _ (by kernel_rfl)];exact laidMet_of_run' 300 (by kernel_rfl) (by kernel_rfl)
theorem reads(os:Os){H:Type}(enc:TypeId×Value->H):∃places,DataW.whole enc Ψ ((yL os).forCall (fun _ _=>0) ⟨#[],uc,[]⟩).memory eA.params.toList Rows.langChangesSpec.vars false uc.toList 8=
  some ([.lit (.string []),.lit (.string []),.nil],[],places):=⟨[],by kernel_rfl⟩
theorem ags(os:Os):((yL os).forCall (fun _ _=>0) ⟨#[],uc,[]⟩).variablesRefB oE.prog=true:=by kernel_rfl
theorem afk(os:Os):(((yL os).forCall (fun _ _=>0) ⟨#[],uc,[]⟩).heap.toList.drop oE.prog.globals.size).take ((begin oE.prog (fun _ _=>0) default).world.heap.size-oE.prog.globals.size)=
   (begin oE.prog (fun _ _=>0) default).world.heap.toList.drop oE.prog.globals.size:=by kernel_rfl
theorem aay(os:Os):Input.okWideB oE.prog ((yL os).forCall (fun _ _=>0) ⟨#[],uc,[]⟩) 8 ⟨#[],uc,[]⟩=true:=by kernel_rfl
theorem afs(os:Os){H:Type}(enc:TypeId×Value->H):(OpenSpec.ofChange Rows.langChangesSpec).preRow enc Ψ eA Rows.langChangesRow.domain false Rows.langChangesRow.laid ((yL os).forCall (fun _ _=>0) ⟨#[],uc,[]⟩).memory uc:=by obtain⟨places,hx⟩:=reads os enc;exact OpenSpec.preRow_of_cond 8 hx (by kernel_rfl) (fun k hk=>by cases hk) (by kernel_rfl) (acX os)
theorem witness(os:Os)(H:Type)(enc:TypeId×Value->H):∃(w:World) (tape:Tape) (i:Input),w.os=os/\(w.forCall tape i).Shaped oE.prog/\i.vars=[]/\Input.okWide oE.prog (w.forCall tape i) .any w.heap.size 8 i∧
   (OpenSpec.ofChange Rows.langChangesSpec).preRow enc oE.prog eA Rows.langChangesRow.domain false Rows.langChangesRow.laid (w.forCall tape i).memory i.args/\({}:Assume).holds oE.prog (lone (Frame.enter oE.prog 8 i.args .normal) [] (w.forCall tape i)):=
 (witness_row_atRef (enc:=enc) (C:=oE) false (yL os) uc rfl (ags os) (afk os) (aay os) (afs os enc))
theorem lifted(os:Os)(started:os.Started)(H:Type)(enc:TypeId×Value->H)(F:Stop.Interp):
  ReturnsInHanded {} oE os 8 .any ((OpenSpec.ofChange Rows.langChangesSpec).preRow enc Ψ eA Rows.langChangesRow.domain false Rows.langChangesRow.laid) (((OpenSpec.ofChange Rows.langChangesSpec).at F).post enc Ψ eA false true false false):=
 returnsInHanded_of_row (C:=oE) (s:=OpenSpec.ofChange Rows.langChangesSpec) aem started (by kernel_rfl) aia
  (witness os H enc)
  (fun W base args ds gs before wo hW _ ag4 _ hL _ _=>Wf H enc W base args ds gs before wo hW hL)
theorem said:Rows.LangChangesSaid:=
 OpenClaim.holds_of_cond 8 eA rfl rfl rfl rfl rfl rfl rfl ⟨rfl,rfl,rfl,rfl,rfl⟩ rfl rfl rfl rfl rfl (by kernel_rfl) aia VU.aaJ
  (of_decide_eq_true (by kernel_rfl)) (by unfold Func.isWrapper;first|(rw[if_pos (by decide+kernel)];kernel_rfl)|(rw[if_neg (by decide+kernel)];exact⟨rfl,rfl⟩))
  (fun os started H enc _ F=>by rw[OpenClaim.pre_eq_preRow];exact lifted os started H enc F)
theorem plain(f:FuncId)(fn:Func)(hf:Tryz.pinned.checked.prog.funcNamed "spoondrift/spoondriftlaw20.LangChanges" =some f)(mB:Tryz.pinned.checked.prog.funcs[f]?=some fn):
  true=Tryz.pinned.checked.prog.looks []/\∀(j:Nat) t,fn.params[j]?=some t->Tryz.pinned.checked.prog.wantsStandIn t=false:=by
 obtain rfl:f=8:=Option.some.inj ((show Ψ.funcNamed "spoondrift/spoondriftlaw20.LangChanges" =some 8 by kernel_rfl).symm.trans hf)|>.symm;obtain rfl:fn=eA:=(Option.some.inj (aia.symm.trans mB)).symm;refine⟨by kernel_rfl,fun j t ht=>?_⟩;rw[ah']at ht;have h:t=9\/t=43:=by simpa using Array.mem_of_getElem? ht
 rcases h with rfl|rfl
 ·exact(show Ψ.wantsStandIn 9=false by kernel_rfl)
 ·exact(show Ψ.wantsStandIn 43=false by kernel_rfl)
theorem hw:Rows.langChangesRow.wfByText (OpenSpec.ofChange Rows.langChangesSpec)=true:=by kernel_rfl
theorem hm:Tryz.pinned.checked.prog.mainIs=some (true,"fd8623b6c98a97f7bff546c0a072d3be35203e3e70e8f6090f755cb59d3c8153".toList):=by kernel_rfl
theorem hg:false=Rows.langChangesRow.goesBy Tryz.pinned.checked.prog:=by kernel_rfl
theorem langChanges_holds:Rows.LangChangesCardSaid:=
 Claim7.holds_tied_plain_at .later [] _ _ _ _ said (fun _ h=>by cases h) hw (fun _ h=>by cases h) langChanges_row_tie rfl ⟨rfl,rfl⟩ hm rfl plain hg
end Go.Proofs.YtiigojkfojnedaaGreatDoor
