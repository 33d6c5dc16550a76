import Derived.Test.YtiigojkfojnedaaGreatDoorSZc
import Derived.Test.YtiigojkfojnedaaGreatDoorCards
import Derived.Test.YtiigojkfojnedaaGreatDoorTie
import Derived.ProofKit
import Derived.OpenShut
import Derived.LaidMore
import Derived.Deep.DeepWitnessRowRef
import Derived.Test.YtiigojkfojnedaaGreatDoorSLu
set_option linter.all false
set_option maxRecDepth 100000
set_option maxHeartbeats 8000000
open Go.Proofs.Tryz renaming prog->Ψ,underlying51->yt,f11->rC,params11->ams,func11->amt,checked->pN
open List renaming mem_cons->cy,not_mem_nil->lE,getElem_cons_zero->kJ
open Nat renaming succ_lt_succ->amq,beq->gj,eq_of_beq_eq_true->Fo
open Go.World renaming var?_cell->amr
open Array renaming getElem?_toList->Cl
open Option.some renaming injEq->bh
open Option renaming map_eq_some_iff->bD
open Bool renaming and_eq_true->ej
open Go.IntKind renaming u8->alQ
namespace Go.Θ.Tz
open Go.Θ Go.Proofs Go.Proofs.YtiigojkfojnedaaGreatDoor
section
variable{H:Type}{enc:TypeId×Value->H}{w:World}{base:Nat}{sp:Nat->Bool}{held:Bool}
theorem aam:Ψ.cellsOf 9=1:=by kernel_rfl
def J9(el:AV)(d:DataW H):Prop:=∃bs:List UInt8,el= .str (bs.map UInt8.toNat)/\d= .lit (.string bs)
theorem akr{fuel:Nat}{cs:List Value}{y:DataW H×List MemPlace}(h:DataW.trod enc Ψ w base sp held fuel 42 cs=some y):
  ∃v:Value,cs=[v]/\v.oneCell'=true/\((VR (kP w) bV (.list .nil []) v/\y.1= .nil)\/∃(l:List AV) (ds rest:List (DataW H)),VR (kP w) bV (.list .any l) v/\y.1= .slice ds rest/\l.length=ds.length∧
   ∀i (h:i<l.length) (h':i<ds.length),J9 l[i] ds[i]):=
 Yt (A:=J9) Tryz.underlying42 aam (by decide) (fun n _ ah y' ht _=>by
  obtain⟨s,rfl,rfl,_⟩:=DataW.trod_string Tryz.underlying9 ht
  refine⟨.str (s.data.toList.map UInt8.toNat),⟨_,rfl,rfl⟩,⟨rfl,fun i hi ae=>?_⟩,fun v hv=>?_⟩
  ·match i,ae with
   |0,_=>exact .str _ _ _ rfl
  ·simp only[cy,lE,or_false]at hv;subst hv;rfl) h
end
open Go.RowKit (Below)
theorem OH{P:Program}{w:World}:∀{l:List (String×DataW Unit)} {ps:List MemPlace},DataW.LaidVars P w l ps->∀{n:String} {d:DataW Unit},(n,d)∈l→
  ∃g t cs fuel p,P.globalNamed n=some g/\(P.globals[g]?).map (·.type)=some t/\w.var? P n=some cs/\DataW.trod (fun _=>()) P w 0 (fun _=>true) false fuel t cs.toList=some (d,p)/\∀i,i<cs.size->MemPlace.cell g i∈ps:=by
 intro l;induction l with
 |nil=>intro ps _ n d hm;cases hm
 |cons x r ih=>
  obtain⟨n0,d0⟩:=x
  rintro ps ⟨g,t,cs,fuel,p,q,h1,h2,h3,h4,h5,rfl⟩ n d hm
  rcases cy.1 hm with he|hm
  ·cases he;refine⟨g,t,cs,fuel,p,h1,h2,h3,h4,fun i hi=>?_⟩;simp only[List.mem_append];left;left;simp only[MemPlace.row,List.mem_map,List.mem_range];exact⟨i,hi,by simp⟩
  ·obtain⟨g',t',ah,abF,p',k1,k2,k3,k4,k5⟩:=ih h5 hm;exact⟨g',t',ah,abF,p',k1,k2,k3,k4,fun i hi=>List.mem_append_right _ (k5 i hi)⟩
theorem X6{H:Type}:∀(texts:List (List UInt8)) (l:List AV),l.length=texts.length->(∀i (h:i<l.length) (h':i<texts.length),J9 (H:=H) l[i] (.lit (.string texts[i])))->l=texts.map fun bs=>AV.str (bs.map UInt8.toNat)
 |[],[],_,_=>rfl
 |t::ts,a::l,hl,h=>by obtain⟨bs,h1,h2⟩:=h 0 (by simp) (by simp);simp only[kJ]at h1 h2;cases h2;have:=X6 ts l (by simpa using hl) (fun i hi ae=>h (i+1) (amq hi) (amq ae));rw[List.map_cons,<-this,h1]
 |[],_::_,hl,_=>by simp at hl
 |_::_,[],hl,_=>by simp at hl
theorem TI{w:World}{n:String}{g:Nat}{cs:Array Value}{fuel:Nat}{texts:List (List UInt8)}{rest:List (DataW Unit)}{p:List MemPlace}(hg:Ψ.globalNamed n=some g)(hv:w.var? Ψ n=some cs)
  (ht:DataW.trod (fun _=>()) Ψ w 0 (fun _=>true) false fuel 42 cs.toList=some (.slice (texts.map fun bs=> .lit (.string bs)) rest,p)):
  VR (kP w) bV (.ref [.list .any (texts.map fun bs=>AV.str (bs.map UInt8.toNat))]) (.pointer (some ⟨g,0,none⟩)):=by
 obtain⟨v,h1,h2,h3⟩:=akr ht;rcases h3 with⟨_,h3⟩|⟨l,ds,alp,h3,h4,h5,h6⟩
 ·cases h3
 ·simp only[DataW.slice.injEq]at h4;obtain⟨rfl,_⟩:=h4;have hl:l=texts.map fun bs=>AV.str (bs.map UInt8.toNat):=X6 (H:=Unit) texts l (by simpa using h5) (fun i hi ae=>by
   have:=h6 i hi (by simpa using ae)
   rw[List.getElem_map]at this;exact this)
  subst hl;have hc:w.cell? ⟨g,0,none⟩=some v:=by rw[amr hg hv 0,<-Cl,h1];rfl
  refine .ref _ _ g 0 (fun _=>v) (fun i hi=>⟨?_,h2⟩) (fun i hi=>?_)
  ·have:i=0:=by simpa using hi
   subst this;exact hc
  ·have:i=0:=by simpa using hi
   subst this;exact h3
def Yd:List (List UInt8):=[[120],[121],[122],[104],[115],[115,100],[116],[116,100],[99,120],[99,122],[115,119,97,112],[99,99,120]]
def Ye:List (List UInt8):=[[112,114,111,99],[116,97,107,101],[100,114,111,112],[98,111,114,114,111,119],[109,101,97,115,117,114,101],[114,101,115,101,116],[105,102],[101,108,115,101],[102,111,114],[117,110,100,111],[119,105,116,104,105,110],[97,112,112,108,121]]
theorem afB{H:Type}:Rows.laid_spoondrift_lang_gates (H:=H)= .slice (Yd.map fun bs=> .lit (.string bs)) []:=rfl
theorem afC{H:Type}:Rows.laid_spoondrift_lang_keywords (H:=H)= .slice (Ye.map fun bs=> .lit (.string bs)) []:=rfl
theorem abP(u:Nat):gl u 0= .ref [.list .any (Yd.map fun bs=>AV.str (bs.map UInt8.toNat))]:=by kernel_rfl
theorem abQ(u:Nat):gl u 1= .ref [.list .any (Ye.map fun bs=>AV.str (bs.map UInt8.toNat))]:=by kernel_rfl
theorem aiy{P:Program}{w:World}{fuel:Nat}{u:TypeId}{cs:List Value}{x:DataW Unit×List MemPlace}{d:DataW Unit}(h:DataW.trod (fun _=>()) P w 0 (fun _=>true) false fuel u cs=some x)(hd:x.1= .ptr d):∃e,P.underlying u=some (.pointer e):=by
 cases fuel with
 |zero=>simp[DataW.trod]at h
 |succ n=>
  unfold DataW.trod at h
  dsimp only at h;split at h
  all_goals first
   |exact⟨_,‹P.underlying u=some (.pointer _)›⟩
   |(
     exfalso
     (repeat' split at h)<;>first
     |(cases h;done)
     |(simp only[bh]at h;subst h;cases hd;done)
     |(simp only[bD,Option.bind_eq_some_iff]at h;grind)
     |grind)
theorem abR{w:World}{cs:Array Value}{fuel:Nat}{nm:String}{d:DataW Unit}{p:List MemPlace}(hg:Ψ.globalNamed "strconv.ErrSyntax" =some 8)(hv:w.var? Ψ "strconv.ErrSyntax" =some cs)
  (ht:DataW.trod (fun _=>()) Ψ w 0 (fun _=>true) false fuel 153 cs.toList=some (.iface nm (.ptr d),p))
  (ai:cs.size=1->∀u v,w.cell? ⟨8,0,none⟩=some (.iface u v)->Value.okWide Ψ w .any 0 u v):
  ∃u,VR (kP w) bV (.ref [.iface u .cY]) (.pointer (some ⟨8,0,none⟩)):=by
 cases fuel with
 |zero=>simp[DataW.trod]at ht
 |succ n=>
  have hu:=Tryz.underlying153
  obtain⟨u,v,jm,m,e,N8⟩:∃u v,cs.toList=[.iface u v]/\∃(m:Nat) (e:TypeId),Ψ.underlying u=some (.pointer e):=by
   unfold DataW.trod at ht;rw[hu]at ht;split at ht<;>first|(cases ht;done)|(simp_all;done)|skip
   refine⟨_,_,‹cs.toList=[Value.iface _ _]›,0,?_⟩;split at ht<;>first|(cases ht;done)|skip
   simp only[bD,Prod.mk.injEq,DataW.iface.injEq]at ht;obtain⟨x,hx,⟨_,hd⟩,_⟩:=ht;exact aiy hx hd
  have hc:w.cell? ⟨8,0,none⟩=some (.iface u v):=by rw[amr hg hv 0,<-Cl,jm];rfl
  have hs:cs.size=1:=by have:=congrArg List.length jm;simpa using this
  have sa:v.oneCell'=true:=by have hw:=ai hs _ _ hc;unfold Value.okWide at hw;rw[N8]at hw;unfold Cell.okWide at hw;rw[N8]at hw;dsimp only at hw;unfold Cell.ok at hw;rw[N8]at hw;cases v<;>first|rfl|(simp at hw;done)
  refine⟨u,.ref _ _ 8 0 (fun _=> .iface u v) (fun i hi=>⟨?_,rfl⟩) (fun i hi=>?_)⟩
  ·have:i=0:=by simpa using hi
   subst this;exact hc
  ·have:i=0:=by simpa using hi
   subst this;exact .iface _ _ _ _ (.cY _ _ sa)
theorem Be:Ψ.globalNamed "spoondrift/lang.gates" =some 0/\Ψ.globalNamed "spoondrift/lang.keywords" =some 1/\Ψ.globalNamed "strconv.ErrSyntax" =some 8:=⟨by kernel_rfl,by kernel_rfl,by kernel_rfl⟩
theorem Mf:(Ψ.globals[0]?).map (·.type)=some 42/\(Ψ.globals[1]?).map (·.type)=some 42/\(Ψ.globals[8]?).map (·.type)=some 153:=⟨by kernel_rfl,by kernel_rfl,by kernel_rfl⟩
theorem abO{w:World}{l:List (String×DataW Unit)}(hG:("spoondrift/lang.gates",Rows.laid_spoondrift_lang_gates)∈l)(hK:("spoondrift/lang.keywords",Rows.laid_spoondrift_lang_keywords)∈l)(hE:("strconv.ErrSyntax",Rows.laid_strconv_ErrSyntax)∈l)
  (h:laidMet Ψ l w):∃u,ni (kP w) (gl u):=by
 obtain⟨ps,hL,_,cX⟩:=h;obtain⟨u,z8⟩:∃u,VR (kP w) bV (.ref [.iface u .cY]) (.pointer (some ⟨8,0,none⟩)):=by obtain⟨g,t,cs,fuel,p,h1,h2,h3,h4,h5⟩:=OH hL hE;rw[Be.2.2]at h1;cases h1;rw[Mf.2.2]at h2;cases h2;exact abR Be.2.2 h3 h4 fun hs u v hc=>(cX 8 0 (h5 0 (by omega))).2 u v hc
 refine⟨u,?_⟩;have z0:VR (kP w) bV (gl u 0) (.pointer (some ⟨0,0,none⟩)):=by obtain⟨g,t,cs,fuel,p,h1,h2,h3,h4,-⟩:=OH hL hG;rw[Be.1]at h1;cases h1;rw[Mf.1]at h2;cases h2;rw[afB]at h4;rw[abP];exact TI Be.1 h3 h4
 have z1:VR (kP w) bV (gl u 1) (.pointer (some ⟨1,0,none⟩)):=by obtain⟨g,t,cs,fuel,p,h1,h2,h3,h4,-⟩:=OH hL hK;rw[Be.2.1]at h1;cases h1;rw[Mf.2.1]at h2;cases h2;rw[afC]at h4;rw[abQ];exact TI Be.2.1 h3 h4
 intro n;by_cases n0:n=0
 ·subst n0;exact z0
 by_cases n1:n=1
 ·subst n1;exact z1
 by_cases n8:n=8
 ·subst n8;exact z8
 ·have:gl u n= .cY:=by
   have e0:gj n 0=false:=by cases hb:gj n 0 with|false=>rfl|true=>exact absurd (Fo hb) n0
   have e1:gj n 1=false:=by cases hb:gj n 1 with|false=>rfl|true=>exact absurd (Fo hb) n1
   have e8:gj n 8=false:=by cases hb:gj n 8 with|false=>rfl|true=>exact absurd (Fo hb) n8
   simp only[gl,e0,e1,e8,cond_false]
  rw[this];exact .cY _ _ rfl
theorem aab{u:Nat}{f:FuncId}{fn:Func}{w:World}{args:List AV}{bK:Array Value}{r:AV}{m':Mem}(hf:Ψ.funcs[f]?=some fn)(hb:fn.body.isNone=false)(hn:(fn.name== "runtime.NumGoroutine")=false)
  (eH:ni (kP w) (gl u)) (iG:PW (VR (kP w) bV) args bK.toList) (h:ab (C u) (.fn (.func f) [] []) args {ε:=[],η:=[]}=some (r,m')):
  Calls Ψ f bK w fun e w'=>∃x,e= .returned x/\(∃g',VR g' bV r x)/\Below w.heap.size w w':=by
 obtain⟨k,hk⟩:=oO.1 h;have oq:VR (kP w) bV (.fn (.func f) [] []) (.func (.func f) #[] #[]):= .fn _ _ _ _ _ _ _ rfl rfl rfl (fun i hi=>by simp at hi) (fun i hi=>by simp at hi);have hc:=YE w.heap.size u k 0 (kP w) bV (fun _=>none) {ε:=[],η:=[]} w _ _ _ _ _ bK (agk w _ _) (ahp w) eH oq iG hk;have dZ:(do let d<-Deferred.ofValue (.func (.func f) #[] #[]) bK;invoke d.target d.args:Sem Next).run Ψ w= .ok (.enter f bK) w:=by
  have h1:(do let d<-Deferred.ofValue (.func (.func f) #[] #[]) bK;invoke d.target d.args:Sem Next).run Ψ w=(callFunc f (#[]++bK++ #[])).run Ψ w:=by simp only[Deferred.ofValue,Sem.run_bind,Sem.run_pure,Result.andThen_ok,invoke]
  rw[h1];have h2:(#[]++bK++ #[]:Array Value)=bK:=by simp
  rw[h2];exact EY hf hb hn
 unfold tS at hc;rw[dZ]at hc;rcases hc with⟨f',vs,h1,h2⟩|⟨x,w',h1,h2⟩|⟨l,f',tmps,fQ,wL,h1,h2⟩
 ·simp only[Result.ok.injEq,Next.enter.injEq,and_true]at h1;obtain⟨rfl,rfl⟩:=h1;refine(callsIn_wide.1 h2).mono fun e w' he=>?_;obtain⟨x,rfl,g',aD,hs,hm,hv,ho,-,-⟩:=he;exact⟨x,rfl,⟨g',hv⟩,hs.below (own:=eD fun _=>none) ⟨fun b o hb=>by simp[eD]at hb,Nat.le_refl _⟩⟩
 ·cases h1
 ·cases h1
section
variable{H:Type}{enc:TypeId×Value->H}{w:World}{base:Nat}{sp:Nat->Bool}{held:Bool}
theorem aal:Ψ.cellsOf 5=1:=by kernel_rfl
def J8(el:AV)(d:DataW H):Prop:=∃n:Nat,n<256/\el= .int .u8 n
theorem akq{fuel:Nat}{cs:List Value}{y:DataW H×List MemPlace}(h:DataW.trod enc Ψ w base sp held fuel 51 cs=some y):
  ∃v:Value,cs=[v]/\v.oneCell'=true/\((VR (kP w) bV (.list .nil []) v/\y.1= .nil)\/∃(l:List AV) (ds rest:List (DataW H)),VR (kP w) bV (.list .any l) v/\y.1= .slice ds rest/\l.length=ds.length∧
   ∀i (h:i<l.length) (h':i<ds.length),J8 l[i] ds[i]):=
 Yt (A:=J8) yt aal (by decide) (fun n _ ah y' ht _=>by
  obtain⟨k,rfl,rfl,hk⟩:=DataW.trod_int Tryz.underlying5 ht
  have hr:0<=k/\k<256:=by simp only[Lit.wf,ej,decide_eq_true_eq]at hk;have h1:alQ.min=0:=rfl;have h2:alQ.max=255:=rfl;omega
  refine⟨.int .u8 k,⟨k.toNat,by omega,by rw[Int.toNat_of_nonneg hr.1]⟩,⟨rfl,fun i hi ae=>?_⟩,fun v hv=>?_⟩
  ·match i,ae with
   |0,_=>exact .int _ _ _
  ·simp only[cy,lE,or_false]at hv;subst hv;rfl) h
theorem QQ:∀(l:List AV) (ds:List (DataW H)),l.length=ds.length->(∀i (h:i<l.length) (h':i<ds.length),J8 l[i] ds[i])->∃bs:List Nat,l=bs.map (fun b:Nat=>AV.int .u8 (b:Int))/\∀b∈bs,b<256
 |[],[],_,_=>⟨[],rfl,by simp⟩
 |a::l,d::ds,hl,h=>by
  obtain⟨n,h1,h2⟩:=h 0 (by simp) (by simp);obtain⟨xs,k1,k2⟩:=QQ l ds (by simpa using hl) (fun i hi ae=>h (i+1) (amq hi) (amq ae));simp only[kJ]at h2;exact⟨n::xs,by rw[h2,k1];rfl,fun b hb=>by
   rcases cy.1 hb with rfl|hb
   ·exact h1
   ·exact k2 b hb⟩
 |[],_::_,hl,_=>by simp at hl
 |_::_,[],hl,_=>by simp at hl
theorem WY{fuel:Nat}{v:Value}{y:DataW H×List MemPlace}(h:DataW.trod enc Ψ w base sp held fuel 51 v.cells.toList=some y)(hv:v.cells= #[v]):
  ∃(c:ρ) (bs:List Nat),VR (kP w) bV (gn c bs) v/\bp c/\(c= .nil->bs=[])/\∀b∈bs,b<256:=by
 rw[hv]at h;obtain⟨v',h1,-,h2⟩:=akq h;cases h1;rcases h2 with⟨h2,-⟩|⟨l,ds,rest,h2,h3,h4,h5⟩
 ·exact⟨.nil,[],h2,.inl rfl,fun _=>rfl,by simp⟩
 ·obtain⟨bs,rfl,h6⟩:=QQ l ds h4 h5;exact⟨.any,bs,h2,.inr rfl,fun h=>(by cases h),h6⟩
end
end Go.Θ.Tz
namespace Go.Proofs.YtiigojkfojnedaaGreatDoor.VW
open Go Go.ChangeShapes Go.WideShapes Go.ChangeAt Go.RowKit
noncomputable abbrev jP:Program:=Tryz.pinned.checked.prog
abbrev jS:ChangeSpec:=(OpenSpec.ofChange Rows.langLaidSpec).bare
abbrev jC:OpenClaim:=Rows.langLaidRow
noncomputable abbrev jj(q:Program->FuncId->Func->ChangeSpec->OpenClaim->Bool):Bool:=q jP 11 rC jS jC
theorem j0:jj (fun P f fn s c=>c.wf (OpenSpec.ofChange s))=true:=by kernel_rfl
theorem j1:jj (fun P f fn s c=>laidOutB P)=true:=by kernel_rfl
theorem j2:jj (fun P f fn s c=>mapsRowed P)=true:=by kernel_rfl
theorem j3:jj (fun P f fn s c=>fn.params.all (P.readableRec ·))=true:=by kernel_rfl
theorem j4:jj (fun P f fn s c=>namedTie P c.named s.vars)=true:=by kernel_rfl
theorem j5:jj (fun P f fn s c=>(c.stops==[]))=true:=by kernel_rfl
theorem j6:jj (fun P f fn s c=>(P.stops==[]))=true:=by kernel_rfl
theorem j7:jj (fun P f fn s c=>(c.knobs==[]))=true:=by kernel_rfl
theorem j8:jj (fun P f fn s c=>(P.stopKnobs==[]))=true:=by kernel_rfl
theorem j9:jj (fun P f fn s c=>(c.inPlace==P.inPlace f))=true:=by kernel_rfl
theorem Oo:jj (fun P f fn s c=>(c.unfollowed==P.unfollowed f))=true:=by kernel_rfl
theorem j11:jj (fun P f fn s c=>(c.recurses==P.recurses f))=true:=by kernel_rfl
theorem j12:jj (fun P f fn s c=>(c.named==P.varsNamed f))=true:=by kernel_rfl
theorem j13:jj (fun P f fn s c=>(c.maps==(fn.params.toList++s.plain.varTypes P).any (P.mapsRec ·)))=true:=by kernel_rfl
theorem j14:jj (fun P f fn s c=>(c.ifaces==(fn.params.toList++s.plain.varTypes P).any (P.ifacesRec ·)))=true:=by kernel_rfl
theorem j15:jj (fun P f fn s c=>(c.mapsOut==P.mapsAmong fn.resultTypes.toList))=true:=by kernel_rfl
theorem j16:jj (fun P f fn s c=>(c.loops==(fn.params.toList++s.plain.varTypes P).any (P.loopsFrom ·)))=true:=by kernel_rfl
theorem j17:jj (fun P f fn s c=>(c.wideKeys==(fn.params.toList++s.plain.varTypes P++fn.resultTypes.toList).any (P.wideKeysFrom ·)))=true:=by kernel_rfl
theorem j18:jj (fun P f fn s c=>s.vars.all (P.varReadable ·))=true:=by kernel_rfl
theorem j19:jj (fun P f fn s c=>fn.resultTypes.all (fun t=>P.readableRec t&&decide (t<P.types.size)))=true:=by kernel_rfl
theorem j20:jj (fun P f fn s c=>(c.ifacesOut==fn.resultTypes.toList.any (P.ifacesRec ·)))=true:=by kernel_rfl
theorem j21:jj (fun P f fn s c=>(c.loopsOut==fn.resultTypes.toList.any (P.loopsFrom ·)))=true:=by kernel_rfl
theorem j22:jj (fun P f fn s c=>(c.plainKeys==P.plainKeys))=true:=by kernel_rfl
theorem j23:jj (fun P f fn s c=>c.shortTexts.isNone)=true:=by kernel_rfl
theorem Oq:jj (fun P f fn s c=>P.stopsHeard)=true:=by kernel_rfl
theorem j25:jj (fun P f fn s c=>P.mayEnter)=true:=by kernel_rfl
theorem j26:jj (fun P f fn s c=>(c.lifted==P.liftsFinal))=true:=by kernel_rfl
theorem j27:jj (fun P f fn s c=>(P.make==some c.make))=true:=by kernel_rfl
theorem j28:jj (fun P f fn s c=>(c.kinds==(if c.domain.isEmpty then[]else fn.params.toList.map fun t=>match P.underlying t with|some (.int k)=>some k|_=>none)))=true:=by kernel_rfl
theorem j29:jj (fun P f fn s c=>(c.pinned==c.pinnedBy))=true:=by kernel_rfl
theorem j30:jj (fun P f fn s c=>(c.veiled==(fn.params.toList++s.plain.varTypes P++fn.resultTypes.toList).any (P.veiledRec ·)))=true:=by kernel_rfl
theorem j31:jj (fun P f fn s c=>c.veiledFits P fn.params.toList (fn.params.toList++s.plain.varTypes P++fn.resultTypes.toList))=true:=by kernel_rfl
theorem adA:joinedFacts jP 11 rC jS jC=true:=by unfold joinedFacts;simp only[ej];exact⟨⟨⟨⟨⟨⟨⟨⟨⟨⟨⟨⟨⟨⟨⟨⟨⟨⟨⟨⟨⟨⟨⟨⟨⟨⟨⟨⟨⟨⟨⟨j0,j1⟩,j2⟩,j3⟩,j4⟩,j5⟩,j6⟩,j7⟩,j8⟩,j9⟩,Oo⟩,j11⟩,j12⟩,j13⟩,j14⟩,j15⟩,j16⟩,j17⟩,j18⟩,j19⟩,j20⟩,j21⟩,j22⟩,j23⟩,Oq⟩,j25⟩,j26⟩,j27⟩,j28⟩,j29⟩,j30⟩,j31⟩
end Go.Proofs.YtiigojkfojnedaaGreatDoor.VW
namespace Go.Θ.Tz
open Go Go.Θ Go.Proofs Go.Proofs.YtiigojkfojnedaaGreatDoor Go.ChangeShapes Go.WideShapes Go.ChangeAt Go.RowKit
theorem Si{w:World}{base:Nat}{t e:TypeId}{v:Value}(hu:Ψ.underlying t=some (.slice e))(h:Value.okWide Ψ w .any base t v):v.cells= #[v]:=by unfold Value.okWide at h;rw[hu]at h;unfold Cell.okWide at h;rw[hu]at h;dsimp only at h;unfold Cell.ok at h;rw[hu]at h;cases v<;>first|rfl|(simp at h;done)
theorem laidOut:laidOutB Ψ=true:=by kernel_rfl
theorem aay(H:Type)(enc:TypeId×Value->H)(W:World)(base:Nat)(args:Array Value)(ds gs:List (DataW H))(before:List MemPlace)
  (zt:∀(j:Nat) t v,rC.params[j]?=some t->args[j]?=some v->Value.okWide Ψ W .any base t v)
  (hW:DataW.Whole enc Ψ rC.params.toList Rows.langLaidSpec.vars false W args.toList ds gs before) (hL:laidMetH Ψ Rows.langLaidRow.laid W):
  Calls Ψ 11 args W fun e W'=>∃v,e= .returned v/\Rows.langLaidSpec.post enc Ψ rC false true false false W args v W':=by
 have Ui:=hW;obtain⟨p,q,hA0,hV,rfl,hfz,zl⟩:=hW;have hA:DataW.TrodAll enc Ψ W 0 (fun _=>true) true rC.params.toList args.toList ds p:=hA0;rw[ams]at hA zt;obtain⟨v0,v1,d0,d1,p0,p1,rfl,rfl,rfl,h0,h1⟩:=trodAll_two hA;obtain⟨rfl,rfl⟩:=trodVars_none hV;have k0:=Si yt (zt 0 51 v0 rfl rfl);have k1:=Si yt (zt 1 51 v1 rfl rfl);obtain⟨n0,t0⟩:=h0;obtain⟨n1,t1⟩:=h1;obtain⟨c0,b0,r0,g0,m0,-⟩:=WY t0 k0;obtain⟨c1,b1,r1,g1,m1,-⟩:=WY t1 k1;rw[MakeChecks.laidMetH_plain _ _ _ (by kernel_rfl)]at hL;obtain⟨u,eH⟩:=abO (by simp[Rows.langLaidRow]) (by simp[Rows.langLaidRow]) (by simp[Rows.langLaidRow]) hL;have iG:PW (VR (kP W) bV) [gn c0 b0,gn c1 b1] (#[v0,v1]:Array Value).toList:=⟨rfl,fun i hi ae=>by
  match i,hi with
  |0,_=>exact r0
  |1,_=>exact r1⟩
 refine(aab amt rfl (by kernel_rfl) eH iG (f11 c0 c1 g0 g1 b0 b1 m0 m1)).mono fun e W' he=>?_;obtain⟨r,rfl,⟨g',hr⟩,hB⟩:=he;cases hr;have ψ:∀y:MemPlace,y∈p0++p1++[]->y.block<W.heap.size:=Ui.lt;have b0:=Below.trod (t:=51) laidOut (by kernel_rfl) (of_decide_eq_true (by kernel_rfl)) ⟨n0,t0⟩ hB (fun y hy=>ψ y (by simp[hy]));have b1:=Below.trod (t:=51) laidOut (by kernel_rfl) (of_decide_eq_true (by kernel_rfl)) ⟨n1,t1⟩ hB (fun y hy=>ψ y (by simp[hy]));refine⟨_,rfl,[d0,d1],[],_,[],_,[],Ui,trodAll_mk1 (shut_bool Tryz.underlying4 _),trodAll_mk2 b0 b1,rfl,hB.frame _,fun h=>by cases h⟩
end Go.Θ.Tz
namespace Go.Proofs.YtiigojkfojnedaaGreatDoor
open Go Go.Θ Go.Θ.Tz Go.ChangeShapes Go.WideShapes Go.ChangeAt Go.RowKit
theorem aho:ownKnob Ψ.godebug=none:=by kernel_rfl
def u4:Array Value:= #[.slice none 0 0,.slice none 0 0]
noncomputable def Ak(os:Os):World:=World.doorLaid Ψ 2000 os
theorem afD(os:Os):laidMetH Ψ Rows.langLaidRow.laid ((Ak os).forCall (fun _ _=>0) ⟨#[],u4,[]⟩).memory:=by rw[MakeChecks.laidMetH_plain _ _ _ (by kernel_rfl)];exact laidMet_of_run' 300 (by kernel_rfl) (by kernel_rfl)
theorem reads(os:Os){H:Type}(enc:TypeId×Value->H):∃places,DataW.whole enc Ψ ((Ak os).forCall (fun _ _=>0) ⟨#[],u4,[]⟩).memory rC.params.toList Rows.langLaidSpec.vars false u4.toList 8=
  some ([.nil,.nil],[],places):=⟨[],by kernel_rfl⟩
theorem akt(os:Os):((Ak os).forCall (fun _ _=>0) ⟨#[],u4,[]⟩).variablesRefB pN.prog=true:=by kernel_rfl
theorem ai8(os:Os):(((Ak os).forCall (fun _ _=>0) ⟨#[],u4,[]⟩).heap.toList.drop pN.prog.globals.size).take ((begin pN.prog (fun _ _=>0) default).world.heap.size-pN.prog.globals.size)=
   (begin pN.prog (fun _ _=>0) default).world.heap.toList.drop pN.prog.globals.size:=by kernel_rfl
theorem adq(os:Os):Input.okWideB pN.prog ((Ak os).forCall (fun _ _=>0) ⟨#[],u4,[]⟩) 11 ⟨#[],u4,[]⟩=true:=by kernel_rfl
theorem aje(os:Os){H:Type}(enc:TypeId×Value->H):(OpenSpec.ofChange Rows.langLaidSpec).preRow enc Ψ rC Rows.langLaidRow.domain false Rows.langLaidRow.laid ((Ak os).forCall (fun _ _=>0) ⟨#[],u4,[]⟩).memory u4:=by obtain⟨places,hx⟩:=reads os enc;exact OpenSpec.preRow_of_cond 8 hx (by kernel_rfl) (fun k hk=>by cases hk) (by kernel_rfl) (afD os)
theorem witness(os:Os)(H:Type)(enc:TypeId×Value->H):∃(w:World) (tape:Tape) (i:Input),w.os=os/\(w.forCall tape i).Shaped pN.prog/\i.vars=[]/\Input.okWide pN.prog (w.forCall tape i) .any w.heap.size 11 i∧
   (OpenSpec.ofChange Rows.langLaidSpec).preRow enc pN.prog rC Rows.langLaidRow.domain false Rows.langLaidRow.laid (w.forCall tape i).memory i.args/\({}:Assume).holds pN.prog (lone (Frame.enter pN.prog 11 i.args .normal) [] (w.forCall tape i)):=
 (witness_row_atRef (enc:=enc) (C:=pN) false (Ak os) u4 rfl (akt os) (ai8 os) (adq os) (aje os enc))
theorem lifted(os:Os)(started:os.Started)(H:Type)(enc:TypeId×Value->H)(F:Stop.Interp):
  ReturnsInHanded {} pN os 11 .any ((OpenSpec.ofChange Rows.langLaidSpec).preRow enc Ψ rC Rows.langLaidRow.domain false Rows.langLaidRow.laid) (((OpenSpec.ofChange Rows.langLaidSpec).at F).post enc Ψ rC false true false false):=
 returnsInHanded_of_row (C:=pN) (s:=OpenSpec.ofChange Rows.langLaidSpec) aho started (by kernel_rfl) amt
  (witness os H enc)
  (fun W base args ds gs before zt hW _ ak5 _ hL _ _=>aay H enc W base args ds gs before zt hW hL)
theorem said:Rows.LangLaidSaid:=
 OpenClaim.holds_of_cond 11 rC rfl rfl rfl rfl rfl rfl rfl ⟨rfl,rfl,rfl,rfl,rfl⟩ rfl rfl rfl rfl rfl (by kernel_rfl) amt VW.adA
  (of_decide_eq_true (by kernel_rfl)) (by unfold Func.isWrapper;first|(rw[if_pos (by decide+kernel)];kernel_rfl)|(rw[if_neg (by decide+kernel)];exact⟨rfl,rfl⟩))
  (fun os started H enc _ F=>by rw[OpenClaim.pre_eq_preRow];exact lifted os started H enc F)
theorem plain(f:FuncId)(fn:Func)(hf:Tryz.pinned.checked.prog.funcNamed "spoondrift/spoondriftlaw20.LangLaid" =some f)(oq:Tryz.pinned.checked.prog.funcs[f]?=some fn):
  true=Tryz.pinned.checked.prog.looks []/\∀(j:Nat) t,fn.params[j]?=some t->Tryz.pinned.checked.prog.wantsStandIn t=false:=by
 obtain rfl:f=11:=Option.some.inj ((show Ψ.funcNamed "spoondrift/spoondriftlaw20.LangLaid" =some 11 by kernel_rfl).symm.trans hf)|>.symm;obtain rfl:fn=rC:=(Option.some.inj (amt.symm.trans oq)).symm;refine⟨by kernel_rfl,fun j t ht=>?_⟩;rw[ams]at ht;have h:t=51:=by simpa using Array.mem_of_getElem? ht
 subst h;exact(show Ψ.wantsStandIn 51=false by kernel_rfl)
theorem hw:Rows.langLaidRow.wfByText (OpenSpec.ofChange Rows.langLaidSpec)=true:=by kernel_rfl
theorem hm:Tryz.pinned.checked.prog.mainIs=some (true,"fd8623b6c98a97f7bff546c0a072d3be35203e3e70e8f6090f755cb59d3c8153".toList):=by kernel_rfl
theorem hg:false=Rows.langLaidRow.goesBy Tryz.pinned.checked.prog:=by kernel_rfl
theorem langLaid_holds:Rows.LangLaidCardSaid:=
 Claim7.holds_tied_plain_at .later [] _ _ _ _ said (fun _ h=>by cases h) hw (fun _ h=>by cases h) langLaid_row_tie rfl ⟨rfl,rfl⟩ hm rfl plain hg
end Go.Proofs.YtiigojkfojnedaaGreatDoor
