import Derived.Test.YtiigojkfojnedaaGreatDoorTZc
import Derived.Test.YtiigojkfojnedaaGreatDoorCards
import Derived.Test.YtiigojkfojnedaaGreatDoorTie
import Derived.ProofKit
import Derived.OpenShut
import Derived.LaidMore
import Derived.Deep.DeepWitnessRowRef
import Derived.Test.YtiigojkfojnedaaGreatDoorTLu
set_option linter.all false
set_option maxRecDepth 100000
set_option maxHeartbeats 8000000
open Go.Proofs.Tryz renaming prog->Ψ,underlying51->wz,f5->re,params5->amc,underlying52->amd,func5->amf,checked->pz
open List renaming mem_cons->cw,not_mem_nil->lF,getElem_cons_zero->lE
open Nat renaming succ_lt_succ->al',beq->gm,eq_of_beq_eq_true->E0
open Go.World renaming var?_cell->ama
open Array renaming getElem?_toList->BQ
open Option.some renaming injEq->bc
open Option renaming map_eq_some_iff->bE
open Bool renaming and_eq_true->dW
open Go.IntKind renaming u8->alw,u16->ame
open Int renaming toNat_of_nonneg->amb
namespace Go.Δ.Tz
open Go.Δ Go.Proofs Go.Proofs.YtiigojkfojnedaaGreatDoor
section
variable{H:Type}{enc:TypeId×Value->H}{w:World}{base:Nat}{sp:Nat->Bool}{held:Bool}
theorem Z2:Ψ.cellsOf 9=1:=by kernel_rfl
def JU(el:AV)(d:DataW H):Prop:=∃bs:List UInt8,el= .str (bs.map UInt8.toNat)/\d= .lit (.string bs)
theorem aj8{fuel:Nat}{cs:List Value}{y:DataW H×List MemPlace}(h:DataW.trod enc Ψ w base sp held fuel 42 cs=some y):
  ∃v:Value,cs=[v]/\v.oneCell'=true/\((VR (kM w) bV (.list .nil []) v/\y.1= .nil)\/∃(l:List AV) (ds rest:List (DataW H)),VR (kM w) bV (.list .any l) v/\y.1= .slice ds rest/\l.length=ds.length∧
   ∀i (h:i<l.length) (h':i<ds.length),JU l[i] ds[i]):=
 Yb (A:=JU) Tryz.underlying42 Z2 (by decide) (fun n _ ae y' ht _=>by
  obtain⟨s,rfl,rfl,_⟩:=DataW.trod_string Tryz.underlying9 ht
  refine⟨.str (s.data.toList.map UInt8.toNat),⟨_,rfl,rfl⟩,⟨rfl,fun i hi ab=>?_⟩,fun v hv=>?_⟩
  ·match i,ab with
   |0,_=>exact .str _ _ _ rfl
  ·simp only[cw,lF,or_false]at hv;subst hv;rfl) h
end
open Go.RowKit (Below)
theorem OF{P:Program}{w:World}:∀{l:List (String×DataW Unit)} {ps:List MemPlace},DataW.LaidVars P w l ps->∀{n:String} {d:DataW Unit},(n,d)∈l→
  ∃g t cs fuel p,P.globalNamed n=some g/\(P.globals[g]?).map (·.type)=some t/\w.var? P n=some cs/\DataW.trod (fun _=>()) P w 0 (fun _=>true) false fuel t cs.toList=some (d,p)/\∀i,i<cs.size->MemPlace.cell g i∈ps:=by
 intro l;induction l with
 |nil=>intro ps _ n d hm;cases hm
 |cons x r ih=>
  obtain⟨n0,d0⟩:=x
  rintro ps ⟨g,t,cs,fuel,p,q,h1,h2,h3,h4,h5,rfl⟩ n d hm
  rcases cw.1 hm with he|hm
  ·cases he;refine⟨g,t,cs,fuel,p,h1,h2,h3,h4,fun i hi=>?_⟩;simp only[List.mem_append];left;left;simp only[MemPlace.row,List.mem_map,List.mem_range];exact⟨i,hi,by simp⟩
  ·obtain⟨g',t',ae,abi,p',k1,k2,k3,k4,k5⟩:=ih h5 hm;exact⟨g',t',ae,abi,p',k1,k2,k3,k4,fun i hi=>List.mem_append_right _ (k5 i hi)⟩
theorem XP{H:Type}:∀(texts:List (List UInt8)) (l:List AV),l.length=texts.length->(∀i (h:i<l.length) (h':i<texts.length),JU (H:=H) l[i] (.lit (.string texts[i])))->l=texts.map fun bs=>AV.str (bs.map UInt8.toNat)
 |[],[],_,_=>rfl
 |t::ts,a::l,hl,h=>by obtain⟨bs,h1,h2⟩:=h 0 (by simp) (by simp);simp only[lE]at h1 h2;cases h2;have:=XP ts l (by simpa using hl) (fun i hi ab=>h (i+1) (al' hi) (al' ab));rw[List.map_cons,<-this,h1]
 |[],_::_,hl,_=>by simp at hl
 |_::_,[],hl,_=>by simp at hl
theorem Tp{w:World}{n:String}{g:Nat}{cs:Array Value}{fuel:Nat}{texts:List (List UInt8)}{rest:List (DataW Unit)}{p:List MemPlace}(hg:Ψ.globalNamed n=some g)(hv:w.var? Ψ n=some cs)
  (ht:DataW.trod (fun _=>()) Ψ w 0 (fun _=>true) false fuel 42 cs.toList=some (.slice (texts.map fun bs=> .lit (.string bs)) rest,p)):
  VR (kM w) bV (.ref [.list .any (texts.map fun bs=>AV.str (bs.map UInt8.toNat))]) (.pointer (some ⟨g,0,none⟩)):=by
 obtain⟨v,h1,h2,h3⟩:=aj8 ht;rcases h3 with⟨_,h3⟩|⟨l,ds,ak7,h3,h4,h5,h6⟩
 ·cases h3
 ·simp only[DataW.slice.injEq]at h4;obtain⟨rfl,_⟩:=h4;have hl:l=texts.map fun bs=>AV.str (bs.map UInt8.toNat):=XP (H:=Unit) texts l (by simpa using h5) (fun i hi ab=>by
   have:=h6 i hi (by simpa using ab)
   rw[List.getElem_map]at this;exact this)
  subst hl;have hc:w.cell? ⟨g,0,none⟩=some v:=by rw[ama hg hv 0,<-BQ,h1];rfl
  refine .ref _ _ g 0 (fun _=>v) (fun i hi=>⟨?_,h2⟩) (fun i hi=>?_)
  ·have:i=0:=by simpa using hi
   subst this;exact hc
  ·have:i=0:=by simpa using hi
   subst this;exact h3
def XY:List (List UInt8):=[[120],[121],[122],[104],[115],[115,100],[116],[116,100],[99,120],[99,122],[115,119,97,112],[99,99,120]]
def XZ:List (List UInt8):=[[112,114,111,99],[116,97,107,101],[100,114,111,112],[98,111,114,114,111,119],[109,101,97,115,117,114,101],[114,101,115,101,116],[105,102],[101,108,115,101],[102,111,114],[117,110,100,111],[119,105,116,104,105,110],[97,112,112,108,121]]
theorem afe{H:Type}:Rows.laid_spoondrift_lang_gates (H:=H)= .slice (XY.map fun bs=> .lit (.string bs)) []:=rfl
theorem aff{H:Type}:Rows.laid_spoondrift_lang_keywords (H:=H)= .slice (XZ.map fun bs=> .lit (.string bs)) []:=rfl
theorem abu(u:Nat):gl u 0= .ref [.list .any (XY.map fun bs=>AV.str (bs.map UInt8.toNat))]:=by kernel_rfl
theorem abv(u:Nat):gl u 1= .ref [.list .any (XZ.map fun bs=>AV.str (bs.map UInt8.toNat))]:=by kernel_rfl
theorem ah_{P:Program}{w:World}{fuel:Nat}{u:TypeId}{cs:List Value}{x:DataW Unit×List MemPlace}{d:DataW Unit}(h:DataW.trod (fun _=>()) P w 0 (fun _=>true) false fuel u cs=some x)(hd:x.1= .ptr d):∃e,P.underlying u=some (.pointer e):=by
 cases fuel with
 |zero=>simp[DataW.trod]at h
 |succ n=>
  unfold DataW.trod at h
  dsimp only at h;split at h
  all_goals first
   |exact⟨_,‹P.underlying u=some (.pointer _)›⟩
   |(
     exfalso
     (repeat' split at h)<;>first
     |(cases h;done)
     |(simp only[bc]at h;subst h;cases hd;done)
     |(simp only[bE,Option.bind_eq_some_iff]at h;grind)
     |grind)
theorem abw{w:World}{cs:Array Value}{fuel:Nat}{nm:String}{d:DataW Unit}{p:List MemPlace}(hg:Ψ.globalNamed "strconv.ErrSyntax" =some 8)(hv:w.var? Ψ "strconv.ErrSyntax" =some cs)
  (ht:DataW.trod (fun _=>()) Ψ w 0 (fun _=>true) false fuel 153 cs.toList=some (.iface nm (.ptr d),p))
  (ai:cs.size=1->∀u v,w.cell? ⟨8,0,none⟩=some (.iface u v)->Value.okWide Ψ w .any 0 u v):
  ∃u,VR (kM w) bV (.ref [.iface u .cU]) (.pointer (some ⟨8,0,none⟩)):=by
 cases fuel with
 |zero=>simp[DataW.trod]at ht
 |succ n=>
  have hu:=Tryz.underlying153
  obtain⟨u,v,jf,m,e,NU⟩:∃u v,cs.toList=[.iface u v]/\∃(m:Nat) (e:TypeId),Ψ.underlying u=some (.pointer e):=by
   unfold DataW.trod at ht;rw[hu]at ht;split at ht<;>first|(cases ht;done)|(simp_all;done)|skip
   refine⟨_,_,‹cs.toList=[Value.iface _ _]›,0,?_⟩;split at ht<;>first|(cases ht;done)|skip
   simp only[bE,Prod.mk.injEq,DataW.iface.injEq]at ht;obtain⟨x,hx,⟨_,hd⟩,_⟩:=ht;exact ah_ hx hd
  have hc:w.cell? ⟨8,0,none⟩=some (.iface u v):=by rw[ama hg hv 0,<-BQ,jf];rfl
  have hs:cs.size=1:=by have:=congrArg List.length jf;simpa using this
  have rP:v.oneCell'=true:=by have hw:=ai hs _ _ hc;unfold Value.okWide at hw;rw[NU]at hw;unfold Cell.okWide at hw;rw[NU]at hw;dsimp only at hw;unfold Cell.ok at hw;rw[NU]at hw;cases v<;>first|rfl|(simp at hw;done)
  refine⟨u,.ref _ _ 8 0 (fun _=> .iface u v) (fun i hi=>⟨?_,rfl⟩) (fun i hi=>?_)⟩
  ·have:i=0:=by simpa using hi
   subst this;exact hc
  ·have:i=0:=by simpa using hi
   subst this;exact .iface _ _ _ _ (.cU _ _ rP)
theorem AQ:Ψ.globalNamed "spoondrift/lang.gates" =some 0/\Ψ.globalNamed "spoondrift/lang.keywords" =some 1/\Ψ.globalNamed "strconv.ErrSyntax" =some 8:=⟨by kernel_rfl,by kernel_rfl,by kernel_rfl⟩
theorem L7:(Ψ.globals[0]?).map (·.type)=some 42/\(Ψ.globals[1]?).map (·.type)=some 42/\(Ψ.globals[8]?).map (·.type)=some 153:=⟨by kernel_rfl,by kernel_rfl,by kernel_rfl⟩
theorem abt{w:World}{l:List (String×DataW Unit)}(hG:("spoondrift/lang.gates",Rows.laid_spoondrift_lang_gates)∈l)(hK:("spoondrift/lang.keywords",Rows.laid_spoondrift_lang_keywords)∈l)(hE:("strconv.ErrSyntax",Rows.laid_strconv_ErrSyntax)∈l)
  (h:laidMet Ψ l w):∃u,mP (kM w) (gl u):=by
 obtain⟨ps,hL,_,cT⟩:=h;obtain⟨u,z8⟩:∃u,VR (kM w) bV (.ref [.iface u .cU]) (.pointer (some ⟨8,0,none⟩)):=by obtain⟨g,t,cs,fuel,p,h1,h2,h3,h4,h5⟩:=OF hL hE;rw[AQ.2.2]at h1;cases h1;rw[L7.2.2]at h2;cases h2;exact abw AQ.2.2 h3 h4 fun hs u v hc=>(cT 8 0 (h5 0 (by omega))).2 u v hc
 refine⟨u,?_⟩;have z0:VR (kM w) bV (gl u 0) (.pointer (some ⟨0,0,none⟩)):=by obtain⟨g,t,cs,fuel,p,h1,h2,h3,h4,-⟩:=OF hL hG;rw[AQ.1]at h1;cases h1;rw[L7.1]at h2;cases h2;rw[afe]at h4;rw[abu];exact Tp AQ.1 h3 h4
 have z1:VR (kM w) bV (gl u 1) (.pointer (some ⟨1,0,none⟩)):=by obtain⟨g,t,cs,fuel,p,h1,h2,h3,h4,-⟩:=OF hL hK;rw[AQ.2.1]at h1;cases h1;rw[L7.2.1]at h2;cases h2;rw[aff]at h4;rw[abv];exact Tp AQ.2.1 h3 h4
 intro n;by_cases n0:n=0
 ·subst n0;exact z0
 by_cases n1:n=1
 ·subst n1;exact z1
 by_cases n8:n=8
 ·subst n8;exact z8
 ·have:gl u n= .cU:=by
   have e0:gm n 0=false:=by cases hb:gm n 0 with|false=>rfl|true=>exact absurd (E0 hb) n0
   have e1:gm n 1=false:=by cases hb:gm n 1 with|false=>rfl|true=>exact absurd (E0 hb) n1
   have e8:gm n 8=false:=by cases hb:gm n 8 with|false=>rfl|true=>exact absurd (E0 hb) n8
   simp only[gl,e0,e1,e8,cond_false]
  rw[this];exact .cU _ _ rfl
theorem ZR{u:Nat}{f:FuncId}{fn:Func}{w:World}{args:List AV}{bN:Array Value}{r:AV}{m':Mem}(hf:Ψ.funcs[f]?=some fn)(hb:fn.body.isNone=false)(hn:(fn.name== "runtime.NumGoroutine")=false)
  (eE:mP (kM w) (gl u)) (iG:PW (VR (kM w) bV) args bN.toList) (h:ah (C u) (.fn (.func f) [] []) args {ε:=[],ζ:=[]}=some (r,m')):
  Calls Ψ f bN w fun e w'=>∃x,e= .returned x/\(∃g',VR g' bV r x)/\Below w.heap.size w w':=by
 obtain⟨k,hk⟩:=oA.1 h;have nU:VR (kM w) bV (.fn (.func f) [] []) (.func (.func f) #[] #[]):= .fn _ _ _ _ _ _ _ rfl rfl rfl (fun i hi=>by simp at hi) (fun i hi=>by simp at hi);have hc:=Ym w.heap.size u k 0 (kM w) bV (fun _=>none) {ε:=[],ζ:=[]} w _ _ _ _ _ bN (afX w _ _) (ag0 w) eE nU iG hk;have dY:(do let d<-Deferred.ofValue (.func (.func f) #[] #[]) bN;invoke d.target d.args:Sem Next).run Ψ w= .ok (.enter f bN) w:=by
  have h1:(do let d<-Deferred.ofValue (.func (.func f) #[] #[]) bN;invoke d.target d.args:Sem Next).run Ψ w=(callFunc f (#[]++bN++ #[])).run Ψ w:=by simp only[Deferred.ofValue,Sem.run_bind,Sem.run_pure,Result.andThen_ok,invoke]
  rw[h1];have h2:(#[]++bN++ #[]:Array Value)=bN:=by simp
  rw[h2];exact Ew hf hb hn
 unfold tH at hc;rw[dY]at hc;rcases hc with⟨f',vs,h1,h2⟩|⟨x,w',h1,h2⟩|⟨l,f',tmps,fO,wD,h1,h2⟩
 ·simp only[Result.ok.injEq,Next.enter.injEq,and_true]at h1;obtain⟨rfl,rfl⟩:=h1;refine(callsIn_wide.1 h2).mono fun e w' he=>?_;obtain⟨x,rfl,g',aE,hs,hm,hv,ho,-,-⟩:=he;exact⟨x,rfl,⟨g',hv⟩,hs.below (own:=er fun _=>none) ⟨fun b o hb=>by simp[er]at hb,Nat.le_refl _⟩⟩
 ·cases h1
 ·cases h1
section
variable{H:Type}{enc:TypeId×Value->H}{w:World}{base:Nat}{sp:Nat->Bool}{held:Bool}
theorem Z1:Ψ.cellsOf 5=1:=by kernel_rfl
def JT(el:AV)(d:DataW H):Prop:=∃n:Nat,n<256/\el= .int .u8 n
theorem aj7{fuel:Nat}{cs:List Value}{y:DataW H×List MemPlace}(h:DataW.trod enc Ψ w base sp held fuel 51 cs=some y):
  ∃v:Value,cs=[v]/\v.oneCell'=true/\((VR (kM w) bV (.list .nil []) v/\y.1= .nil)\/∃(l:List AV) (ds rest:List (DataW H)),VR (kM w) bV (.list .any l) v/\y.1= .slice ds rest/\l.length=ds.length∧
   ∀i (h:i<l.length) (h':i<ds.length),JT l[i] ds[i]):=
 Yb (A:=JT) wz Z1 (by decide) (fun n _ ae y' ht _=>by
  obtain⟨k,rfl,rfl,hk⟩:=DataW.trod_int Tryz.underlying5 ht
  have hr:0<=k/\k<256:=by simp only[Lit.wf,dW,decide_eq_true_eq]at hk;have h1:alw.min=0:=rfl;have h2:alw.max=255:=rfl;omega
  refine⟨.int .u8 k,⟨k.toNat,by omega,by rw[amb hr.1]⟩,⟨rfl,fun i hi ab=>?_⟩,fun v hv=>?_⟩
  ·match i,ab with
   |0,_=>exact .int _ _ _
  ·simp only[cw,lF,or_false]at hv;subst hv;rfl) h
theorem QN:∀(l:List AV) (ds:List (DataW H)),l.length=ds.length->(∀i (h:i<l.length) (h':i<ds.length),JT l[i] ds[i])->∃bs:List Nat,l=bs.map (fun b:Nat=>AV.int .u8 (b:Int))/\∀b∈bs,b<256
 |[],[],_,_=>⟨[],rfl,by simp⟩
 |a::l,d::ds,hl,h=>by
  obtain⟨n,h1,h2⟩:=h 0 (by simp) (by simp);obtain⟨xs,k1,k2⟩:=QN l ds (by simpa using hl) (fun i hi ab=>h (i+1) (al' hi) (al' ab));simp only[lE]at h2;exact⟨n::xs,by rw[h2,k1];rfl,fun b hb=>by
   rcases cw.1 hb with rfl|hb
   ·exact h1
   ·exact k2 b hb⟩
 |[],_::_,hl,_=>by simp at hl
 |_::_,[],hl,_=>by simp at hl
theorem O'{fuel:Nat}{v:Value}{y:DataW H×List MemPlace}(h:DataW.trod enc Ψ w base sp held fuel 51 v.cells.toList=some y)(hv:v.cells= #[v]):
  ∃(c:ξ) (bs:List Nat),VR (kM w) bV (eB c bs) v/\br c/\(c= .nil->bs=[])/\∀b∈bs,b<256:=by
 rw[hv]at h;obtain⟨v',h1,-,h2⟩:=aj7 h;cases h1;rcases h2 with⟨h2,-⟩|⟨l,ds,rest,h2,h3,h4,h5⟩
 ·exact⟨.nil,[],h2,.inl rfl,fun _=>rfl,by simp⟩
 ·obtain⟨bs,rfl,h6⟩:=QN l ds h4 h5;exact⟨.any,bs,h2,.inr rfl,fun h=>(by cases h),h6⟩
end
end Go.Δ.Tz
namespace Go.Proofs.YtiigojkfojnedaaGreatDoor.VW
open Go Go.ChangeShapes Go.WideShapes Go.ChangeAt Go.RowKit
noncomputable abbrev jP:Program:=Tryz.pinned.checked.prog
abbrev jS:ChangeSpec:=(OpenSpec.ofChange Rows.langBegunSpec).bare
abbrev jC:OpenClaim:=Rows.langBegunRow
noncomputable abbrev jj(q:Program->FuncId->Func->ChangeSpec->OpenClaim->Bool):Bool:=q jP 5 re jS jC
theorem j0:jj (fun P f fn s c=>c.wf (OpenSpec.ofChange s))=true:=by kernel_rfl
theorem j1:jj (fun P f fn s c=>laidOutB P)=true:=by kernel_rfl
theorem j2:jj (fun P f fn s c=>mapsRowed P)=true:=by kernel_rfl
theorem j3:jj (fun P f fn s c=>fn.params.all (P.readableRec ·))=true:=by kernel_rfl
theorem j4:jj (fun P f fn s c=>namedTie P c.named s.vars)=true:=by kernel_rfl
theorem j5:jj (fun P f fn s c=>(c.stops==[]))=true:=by kernel_rfl
theorem j6:jj (fun P f fn s c=>(P.stops==[]))=true:=by kernel_rfl
theorem j7:jj (fun P f fn s c=>(c.knobs==[]))=true:=by kernel_rfl
theorem j8:jj (fun P f fn s c=>(P.stopKnobs==[]))=true:=by kernel_rfl
theorem j9:jj (fun P f fn s c=>(c.inPlace==P.inPlace f))=true:=by kernel_rfl
theorem Oi:jj (fun P f fn s c=>(c.unfollowed==P.unfollowed f))=true:=by kernel_rfl
theorem j11:jj (fun P f fn s c=>(c.recurses==P.recurses f))=true:=by kernel_rfl
theorem j12:jj (fun P f fn s c=>(c.named==P.varsNamed f))=true:=by kernel_rfl
theorem j13:jj (fun P f fn s c=>(c.maps==(fn.params.toList++s.plain.varTypes P).any (P.mapsRec ·)))=true:=by kernel_rfl
theorem j14:jj (fun P f fn s c=>(c.ifaces==(fn.params.toList++s.plain.varTypes P).any (P.ifacesRec ·)))=true:=by kernel_rfl
theorem j15:jj (fun P f fn s c=>(c.mapsOut==P.mapsAmong fn.resultTypes.toList))=true:=by kernel_rfl
theorem j16:jj (fun P f fn s c=>(c.loops==(fn.params.toList++s.plain.varTypes P).any (P.loopsFrom ·)))=true:=by kernel_rfl
theorem j17:jj (fun P f fn s c=>(c.wideKeys==(fn.params.toList++s.plain.varTypes P++fn.resultTypes.toList).any (P.wideKeysFrom ·)))=true:=by kernel_rfl
theorem j18:jj (fun P f fn s c=>s.vars.all (P.varReadable ·))=true:=by kernel_rfl
theorem j19:jj (fun P f fn s c=>fn.resultTypes.all (fun t=>P.readableRec t&&decide (t<P.types.size)))=true:=by kernel_rfl
theorem j20:jj (fun P f fn s c=>(c.ifacesOut==fn.resultTypes.toList.any (P.ifacesRec ·)))=true:=by kernel_rfl
theorem j21:jj (fun P f fn s c=>(c.loopsOut==fn.resultTypes.toList.any (P.loopsFrom ·)))=true:=by kernel_rfl
theorem j22:jj (fun P f fn s c=>(c.plainKeys==P.plainKeys))=true:=by kernel_rfl
theorem j23:jj (fun P f fn s c=>c.shortTexts.isNone)=true:=by kernel_rfl
theorem Oj:jj (fun P f fn s c=>P.stopsHeard)=true:=by kernel_rfl
theorem j25:jj (fun P f fn s c=>P.mayEnter)=true:=by kernel_rfl
theorem j26:jj (fun P f fn s c=>(c.lifted==P.liftsFinal))=true:=by kernel_rfl
theorem j27:jj (fun P f fn s c=>(P.make==some c.make))=true:=by kernel_rfl
theorem j28:jj (fun P f fn s c=>(c.kinds==(if c.domain.isEmpty then[]else fn.params.toList.map fun t=>match P.underlying t with|some (.int k)=>some k|_=>none)))=true:=by kernel_rfl
theorem j29:jj (fun P f fn s c=>(c.pinned==c.pinnedBy))=true:=by kernel_rfl
theorem j30:jj (fun P f fn s c=>(c.veiled==(fn.params.toList++s.plain.varTypes P++fn.resultTypes.toList).any (P.veiledRec ·)))=true:=by kernel_rfl
theorem j31:jj (fun P f fn s c=>c.veiledFits P fn.params.toList (fn.params.toList++s.plain.varTypes P++fn.resultTypes.toList))=true:=by kernel_rfl
theorem adp:joinedFacts jP 5 re jS jC=true:=by unfold joinedFacts;simp only[dW];exact⟨⟨⟨⟨⟨⟨⟨⟨⟨⟨⟨⟨⟨⟨⟨⟨⟨⟨⟨⟨⟨⟨⟨⟨⟨⟨⟨⟨⟨⟨⟨j0,j1⟩,j2⟩,j3⟩,j4⟩,j5⟩,j6⟩,j7⟩,j8⟩,j9⟩,Oi⟩,j11⟩,j12⟩,j13⟩,j14⟩,j15⟩,j16⟩,j17⟩,j18⟩,j19⟩,j20⟩,j21⟩,j22⟩,j23⟩,Oj⟩,j25⟩,j26⟩,j27⟩,j28⟩,j29⟩,j30⟩,j31⟩
end Go.Proofs.YtiigojkfojnedaaGreatDoor.VW
namespace Go.Δ.Tz
open Go Go.Δ Go.Proofs Go.Proofs.YtiigojkfojnedaaGreatDoor Go.ChangeShapes Go.WideShapes Go.ChangeAt Go.RowKit
theorem KW{w:World}{base:Nat}{t e:TypeId}{v:Value}(hu:Ψ.underlying t=some (.slice e))(h:Value.okWide Ψ w .any base t v):v.cells= #[v]:=by unfold Value.okWide at h;rw[hu]at h;unfold Cell.okWide at h;rw[hu]at h;dsimp only at h;unfold Cell.ok at h;rw[hu]at h;cases v<;>first|rfl|(simp at h;done)
theorem Z4{w:World}{base:Nat}{t:TypeId}{k:IntKind}{v:Value}(hu:Ψ.underlying t=some (.int k))(h:Value.okWide Ψ w .any base t v):v.cells= #[v]:=by unfold Value.okWide at h;rw[hu]at h;unfold Cell.okWide at h;rw[hu]at h;dsimp only at h;unfold Cell.ok at h;rw[hu]at h;cases v<;>first|rfl|(simp at h;done)
theorem laidOut:laidOutB Ψ=true:=by kernel_rfl
theorem aad(H:Type)(enc:TypeId×Value->H)(W:World)(base:Nat)(args:Array Value)(ds gs:List (DataW H))(before:List MemPlace)
  (vN:∀(j:Nat) t v,re.params[j]?=some t->args[j]?=some v->Value.okWide Ψ W .any base t v)
  (hW:DataW.Whole enc Ψ re.params.toList Rows.langBegunSpec.vars false W args.toList ds gs before) (hL:laidMetH Ψ Rows.langBegunRow.laid W):
  Calls Ψ 5 args W fun e W'=>∃v,e= .returned v/\Rows.langBegunSpec.post enc Ψ re false true false false W args v W':=by
 have TR:=hW;obtain⟨p,q,hA0,hV,rfl,hfz,y_⟩:=hW;have hA:DataW.TrodAll enc Ψ W 0 (fun _=>true) true re.params.toList args.toList ds p:=hA0;rw[amc]at hA vN;obtain⟨v0,v1,v2,v3,d0,d1,d2,d3,p0,p1,p2,p3,rfl,rfl,rfl,h0,h1,h2,h3⟩:=trodAll_four hA;obtain⟨rfl,rfl⟩:=trodVars_none hV;have k0:=KW wz (vN 0 51 v0 rfl rfl);have k1:=KW wz (vN 1 51 v1 rfl rfl);have k2:=KW wz (vN 2 51 v2 rfl rfl);have k3:=Z4 amd (vN 3 52 v3 rfl rfl);obtain⟨n0,t0⟩:=h0;obtain⟨n1,t1⟩:=h1;obtain⟨n2,t2⟩:=h2;obtain⟨n3,t3⟩:=h3;obtain⟨c0,b0,r0,g0,m0,-⟩:=O' t0 k0;obtain⟨c1,b1,r1,g1,m1,-⟩:=O' t1 k1;obtain⟨c2,b2,r2,g2,-,-⟩:=O' t2 k2;have XT:=t3;rw[k3]at XT;obtain⟨k,e3,-,hk⟩:=DataW.trod_int amd XT;obtain rfl:v3= .int .u16 k:=by simpa using e3
 have hr:0<=k/\k<65536:=by simp only[Lit.wf,dW,decide_eq_true_eq]at hk;have h1:ame.min=0:=rfl;have h2:ame.max=65535:=rfl;omega
 obtain⟨at_,rfl⟩:∃at_:Nat,k=at_:=⟨k.toNat,(amb hr.1).symm⟩;rw[MakeChecks.laidMetH_plain _ _ _ (by kernel_rfl)]at hL;obtain⟨u,eE⟩:=abt (by simp[Rows.langBegunRow]) (by simp[Rows.langBegunRow]) (by simp[Rows.langBegunRow]) hL;have iG:PW (VR (kM W) bV) [eB c0 b0,eB c1 b1,eB c2 b2,.int .u16 at_] (#[v0,v1,v2,.int .u16 at_]:Array Value).toList:=⟨rfl,fun i hi ab=>by
  match i,hi with
  |0,_=>exact r0
  |1,_=>exact r1
  |2,_=>exact r2
  |3,_=>exact .int _ _ _⟩
 refine(ZR amf rfl (by kernel_rfl) eE iG (f5 c0 c1 c2 g0 g1 g2 b0 b1 b2 m0 m1 at_ (by omega))).mono fun e W' he=>?_;obtain⟨r,rfl,⟨g',hr⟩,hB⟩:=he;cases hr;have χ:∀y:MemPlace,y∈p0++p1++p2++p3++[]->y.block<W.heap.size:=TR.lt;have b0:=Below.trod (t:=51) laidOut (by kernel_rfl) (of_decide_eq_true (by kernel_rfl)) ⟨n0,t0⟩ hB (fun y hy=>χ y (by simp[hy]));have b1:=Below.trod (t:=51) laidOut (by kernel_rfl) (of_decide_eq_true (by kernel_rfl)) ⟨n1,t1⟩ hB (fun y hy=>χ y (by simp[hy]));have b2:=Below.trod (t:=51) laidOut (by kernel_rfl) (of_decide_eq_true (by kernel_rfl)) ⟨n2,t2⟩ hB (fun y hy=>χ y (by simp[hy]));have b3:=Below.trod (t:=52) laidOut (by kernel_rfl) (of_decide_eq_true (by kernel_rfl)) ⟨n3,t3⟩ hB (fun y hy=>χ y (by simp[hy]));refine⟨_,rfl,[d0,d1,d2,d3],[],_,[],_,[],TR,trodAll_mk1 (shut_bool Tryz.underlying4 _),trodAll_mk4 b0 b1 b2 b3,rfl,hB.frame _,fun h=>by cases h⟩
end Go.Δ.Tz
namespace Go.Proofs.YtiigojkfojnedaaGreatDoor
open Go Go.Δ Go.Δ.Tz Go.ChangeShapes Go.WideShapes Go.ChangeAt Go.RowKit
theorem agZ:ownKnob Ψ.godebug=none:=by kernel_rfl
def uS:Array Value:= #[.slice none 0 0,.slice none 0 0,.slice none 0 0,.int .u16 0]
noncomputable def zV(os:Os):World:=World.doorLaid Ψ 2000 os
theorem afg(os:Os):laidMetH Ψ Rows.langBegunRow.laid ((zV os).forCall (fun _ _=>0) ⟨#[],uS,[]⟩).memory:=by rw[MakeChecks.laidMetH_plain _ _ _ (by kernel_rfl)];exact laidMet_of_run' 300 (by kernel_rfl) (by kernel_rfl)
theorem reads(os:Os){H:Type}(enc:TypeId×Value->H):∃places,DataW.whole enc Ψ ((zV os).forCall (fun _ _=>0) ⟨#[],uS,[]⟩).memory re.params.toList Rows.langBegunSpec.vars false uS.toList 8=
  some ([.nil,.nil,.nil,.lit (.int .u16 0)],[],places):=⟨[],by kernel_rfl⟩
theorem aj_(os:Os):((zV os).forCall (fun _ _=>0) ⟨#[],uS,[]⟩).variablesRefB pz.prog=true:=by kernel_rfl
theorem aiJ(os:Os):(((zV os).forCall (fun _ _=>0) ⟨#[],uS,[]⟩).heap.toList.drop pz.prog.globals.size).take ((begin pz.prog (fun _ _=>0) default).world.heap.size-pz.prog.globals.size)=
   (begin pz.prog (fun _ _=>0) default).world.heap.toList.drop pz.prog.globals.size:=by kernel_rfl
theorem ade(os:Os):Input.okWideB pz.prog ((zV os).forCall (fun _ _=>0) ⟨#[],uS,[]⟩) 5 ⟨#[],uS,[]⟩=true:=by kernel_rfl
theorem aiR(os:Os){H:Type}(enc:TypeId×Value->H):(OpenSpec.ofChange Rows.langBegunSpec).preRow enc Ψ re Rows.langBegunRow.domain false Rows.langBegunRow.laid ((zV os).forCall (fun _ _=>0) ⟨#[],uS,[]⟩).memory uS:=by obtain⟨places,hx⟩:=reads os enc;exact OpenSpec.preRow_of_cond 8 hx (by kernel_rfl) (fun k hk=>by cases hk) (by kernel_rfl) (afg os)
theorem witness(os:Os)(H:Type)(enc:TypeId×Value->H):∃(w:World) (tape:Tape) (i:Input),w.os=os/\(w.forCall tape i).Shaped pz.prog/\i.vars=[]/\Input.okWide pz.prog (w.forCall tape i) .any w.heap.size 5 i∧
   (OpenSpec.ofChange Rows.langBegunSpec).preRow enc pz.prog re Rows.langBegunRow.domain false Rows.langBegunRow.laid (w.forCall tape i).memory i.args/\({}:Assume).holds pz.prog (lone (Frame.enter pz.prog 5 i.args .normal) [] (w.forCall tape i)):=
 (witness_row_atRef (enc:=enc) (C:=pz) false (zV os) uS rfl (aj_ os) (aiJ os) (ade os) (aiR os enc))
theorem lifted(os:Os)(started:os.Started)(H:Type)(enc:TypeId×Value->H)(F:Stop.Interp):
  ReturnsInHanded {} pz os 5 .any ((OpenSpec.ofChange Rows.langBegunSpec).preRow enc Ψ re Rows.langBegunRow.domain false Rows.langBegunRow.laid) (((OpenSpec.ofChange Rows.langBegunSpec).at F).post enc Ψ re false true false false):=
 returnsInHanded_of_row (C:=pz) (s:=OpenSpec.ofChange Rows.langBegunSpec) agZ started (by kernel_rfl) amf
  (witness os H enc)
  (fun W base args ds gs before vN hW _ akM _ hL _ _=>aad H enc W base args ds gs before vN hW hL)
theorem said:Rows.LangBegunSaid:=
 OpenClaim.holds_of_cond 5 re rfl rfl rfl rfl rfl rfl rfl ⟨rfl,rfl,rfl,rfl,rfl⟩ rfl rfl rfl rfl rfl (by kernel_rfl) amf VW.adp
  (of_decide_eq_true (by kernel_rfl)) (by unfold Func.isWrapper;first|(rw[if_pos (by decide+kernel)];kernel_rfl)|(rw[if_neg (by decide+kernel)];exact⟨rfl,rfl⟩))
  (fun os started H enc _ F=>by rw[OpenClaim.pre_eq_preRow];exact lifted os started H enc F)
theorem plain(f:FuncId)(fn:Func)(hf:Tryz.pinned.checked.prog.funcNamed "spoondrift/spoondriftlaw20.LangBegun" =some f)(nU:Tryz.pinned.checked.prog.funcs[f]?=some fn):
  true=Tryz.pinned.checked.prog.looks []/\∀(j:Nat) t,fn.params[j]?=some t->Tryz.pinned.checked.prog.wantsStandIn t=false:=by
 obtain rfl:f=5:=Option.some.inj ((show Ψ.funcNamed "spoondrift/spoondriftlaw20.LangBegun" =some 5 by kernel_rfl).symm.trans hf)|>.symm;obtain rfl:fn=re:=(Option.some.inj (amf.symm.trans nU)).symm;refine⟨by kernel_rfl,fun j t ht=>?_⟩;rw[amc]at ht;have h:t=51\/t=52:=by simpa using Array.mem_of_getElem? ht
 rcases h with rfl|rfl
 ·exact(show Ψ.wantsStandIn 51=false by kernel_rfl)
 ·exact(show Ψ.wantsStandIn 52=false by kernel_rfl)
theorem hw:Rows.langBegunRow.wfByText (OpenSpec.ofChange Rows.langBegunSpec)=true:=by kernel_rfl
theorem hm:Tryz.pinned.checked.prog.mainIs=some (true,"fd8623b6c98a97f7bff546c0a072d3be35203e3e70e8f6090f755cb59d3c8153".toList):=by kernel_rfl
theorem hg:false=Rows.langBegunRow.goesBy Tryz.pinned.checked.prog:=by kernel_rfl
theorem langBegun_holds:Rows.LangBegunCardSaid:=
 Claim7.holds_tied_plain_at .later [] _ _ _ _ said (fun _ h=>by cases h) hw (fun _ h=>by cases h) langBegun_row_tie rfl ⟨rfl,rfl⟩ hm rfl plain hg
end Go.Proofs.YtiigojkfojnedaaGreatDoor
