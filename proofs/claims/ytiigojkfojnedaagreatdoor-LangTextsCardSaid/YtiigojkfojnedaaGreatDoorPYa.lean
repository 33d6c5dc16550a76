import Derived.Test.YtiigojkfojnedaaGreatDoorPHa
import Derived.Test.YtiigojkfojnedaaGreatDoorPZc
import Derived.Test.YtiigojkfojnedaaGreatDoorCards
import Derived.Test.YtiigojkfojnedaaGreatDoorTie
import Derived.ProofKit
import Derived.OpenShut
import Derived.LaidMore
import Derived.Deep.DeepWitnessRowRef
set_option linter.unusedVariables false
set_option linter.unusedSimpArgs false
set_option maxRecDepth 100000
set_option maxHeartbeats 8000000
open Go.Proofs.Tryz renaming prog->Φ
open List renaming mem_map->jv,mem_cons->dX
open Nat renaming succ_lt_succ->aif,beq->fW,eq_of_beq_eq_true->DB
open Go.World renaming var?_cell->aih
open Array renaming getElem?_toList->AU
open Option.some renaming injEq->bj
open Option renaming map_eq_some_iff->bL
namespace Go.ab.Tz
open Go.ab Go.Proofs Go.Proofs.YtiigojkfojnedaaGreatDoor
section
variable{H:Type}{enc:TypeId×Value->H}{w:World}{base:Nat}{sp:Nat->Bool}{held:Bool}
theorem WI:Φ.cellsOf 9=1:=by kernel_rfl
theorem adV(l:List UInt8):dJ (l.map UInt8.toNat):=by intro b hb;obtain⟨x,-,rfl⟩:=jv.1 hb;exact x.toNat_lt
def IA(el:AV)(d:DataW H):Prop:=∃bs:List UInt8,el= .str (bs.map UInt8.toNat)/\d= .lit (.string bs)
theorem agv{fuel:Nat}{cs:List Value}{y:DataW H×List MemPlace}(h:DataW.trod enc Φ w base sp held fuel 42 cs=some y):
  ∃v:Value,cs=[v]/\v.oneCell'=true/\((VR (l5 w) cd (.list .nil []) v/\y.1= .nil)\/∃(l:List AV) (ds rest:List (DataW H)),VR (l5 w) cd (.list .any l) v/\y.1= .slice ds rest/\l.length=ds.length∧
   ∀i (h:i<l.length) (h':i<ds.length),IA l[i] ds[i]):=
 agx (A:=IA) Tryz.underlying42 WI (by decide) (fun n _ ξ y' ht _=>by
  obtain⟨s,rfl,rfl,_⟩:=DataW.trod_string Tryz.underlying9 ht
  refine⟨.str (s.data.toList.map UInt8.toNat),⟨_,rfl,rfl⟩,⟨rfl,fun i hi ae=>?_⟩,fun v hv=>?_⟩
  ·match i,ae with
   |0,_=>exact .str _ _ _ rfl
  ·simp only[dX,List.not_mem_nil,or_false]at hv;subst hv;rfl) h
end
open Go.RowKit (Below)
theorem Md{P:Program}{w:World}:∀{l:List (String×DataW Unit)} {ps:List MemPlace},DataW.LaidVars P w l ps->∀{n:String} {d:DataW Unit},(n,d)∈l→
  ∃g t cs fuel p,P.globalNamed n=some g/\(P.globals[g]?).map (·.type)=some t/\w.var? P n=some cs/\DataW.trod (fun _=>()) P w 0 (fun _=>true) false fuel t cs.toList=some (d,p)/\∀i,i<cs.size->MemPlace.cell g i∈ps:=by
 intro l;induction l with
 |nil=>intro ps _ n d hm;cases hm
 |cons x r ih=>
  obtain⟨n0,d0⟩:=x
  rintro ps ⟨g,t,cs,fuel,p,q,h1,h2,h3,h4,h5,rfl⟩ n d hm
  rcases dX.1 hm with he|hm
  ·cases he;refine⟨g,t,cs,fuel,p,h1,h2,h3,h4,fun i hi=>?_⟩;simp only[List.mem_append];left;left;simp only[MemPlace.row,jv,List.mem_range];exact⟨i,hi,by simp⟩
  ·obtain⟨g',t',ξ,X7,p',k1,k2,k3,k4,k5⟩:=ih h5 hm;exact⟨g',t',ξ,X7,p',k1,k2,k3,k4,fun i hi=>List.mem_append_right _ (k5 i hi)⟩
theorem UO{H:Type}:∀(texts:List (List UInt8)) (l:List AV),l.length=texts.length->(∀i (h:i<l.length) (h':i<texts.length),IA (H:=H) l[i] (.lit (.string texts[i])))->l=texts.map fun bs=>AV.str (bs.map UInt8.toNat)
 |[],[],_,_=>rfl
 |t::ts,a::l,hl,h=>by obtain⟨bs,h1,h2⟩:=h 0 (by simp) (by simp);simp only[List.getElem_cons_zero]at h1 h2;cases h2;have:=UO ts l (by simpa using hl) (fun i hi ae=>h (i+1) (aif hi) (aif ae));rw[List.map_cons,<-this,h1]
 |[],_::_,hl,_=>by simp at hl
 |_::_,[],hl,_=>by simp at hl
theorem QK{w:World}{n:String}{g:Nat}{cs:Array Value}{fuel:Nat}{texts:List (List UInt8)}{rest:List (DataW Unit)}{p:List MemPlace}(hg:Φ.globalNamed n=some g)(hv:w.var? Φ n=some cs)
  (ht:DataW.trod (fun _=>()) Φ w 0 (fun _=>true) false fuel 42 cs.toList=some (.slice (texts.map fun bs=> .lit (.string bs)) rest,p)):
  VR (l5 w) cd (.ref [.list .any (texts.map fun bs=>AV.str (bs.map UInt8.toNat))]) (.pointer (some ⟨g,0,none⟩)):=by
 obtain⟨v,h1,h2,h3⟩:=agv ht;rcases h3 with⟨_,h3⟩|⟨l,ds,ahr,h3,h4,h5,h6⟩
 ·cases h3
 ·simp only[DataW.slice.injEq]at h4;obtain⟨rfl,_⟩:=h4;have hl:l=texts.map fun bs=>AV.str (bs.map UInt8.toNat):=UO (H:=Unit) texts l (by simpa using h5) (fun i hi ae=>by
   have:=h6 i hi (by simpa using ae)
   rw[List.getElem_map]at this;exact this)
  subst hl;have hc:w.cell? ⟨g,0,none⟩=some v:=by rw[aih hg hv 0,<-AU,h1];rfl
  refine .ref _ _ g 0 (fun _=>v) (fun i hi=>⟨?_,h2⟩) (fun i hi=>?_)
  ·have:i=0:=by simpa using hi
   subst this;exact hc
  ·have:i=0:=by simpa using hi
   subst this;exact h3
def UR:List (List UInt8):=[[120],[121],[122],[104],[115],[115,100],[116],[116,100],[99,120],[99,122],[115,119,97,112],[99,99,120]]
def US:List (List UInt8):=[[112,114,111,99],[116,97,107,101],[100,114,111,112],[98,111,114,114,111,119],[109,101,97,115,117,114,101],[114,101,115,101,116],[105,102],[101,108,115,101],[102,111,114],[117,110,100,111],[119,105,116,104,105,110],[97,112,112,108,121]]
theorem adh{H:Type}:Rows.laid_spoondrift_lang_gates (H:=H)= .slice (UR.map fun bs=> .lit (.string bs)) []:=rfl
theorem adi{H:Type}:Rows.laid_spoondrift_lang_keywords (H:=H)= .slice (US.map fun bs=> .lit (.string bs)) []:=rfl
theorem Yf(u:Nat):gl u 0= .ref [.list .any (UR.map fun bs=>AV.str (bs.map UInt8.toNat))]:=by kernel_rfl
theorem Yg(u:Nat):gl u 1= .ref [.list .any (US.map fun bs=>AV.str (bs.map UInt8.toNat))]:=by kernel_rfl
theorem afa{P:Program}{w:World}{fuel:Nat}{u:TypeId}{cs:List Value}{x:DataW Unit×List MemPlace}{d:DataW Unit}(h:DataW.trod (fun _=>()) P w 0 (fun _=>true) false fuel u cs=some x)(hd:x.1= .ptr d):∃e,P.underlying u=some (.pointer e):=by
 cases fuel with
 |zero=>simp[DataW.trod]at h
 |succ n=>
  unfold DataW.trod at h
  dsimp only at h;split at h
  all_goals first
   |exact⟨_,‹P.underlying u=some (.pointer _)›⟩
   |(
     exfalso
     (repeat' split at h)<;>first
     |(cases h;done)
     |(simp only[bj]at h;subst h;cases hd;done)
     |(simp only[bL,Option.bind_eq_some_iff]at h;grind)
     |grind)
theorem Yh{w:World}{cs:Array Value}{fuel:Nat}{nm:String}{d:DataW Unit}{p:List MemPlace}(hg:Φ.globalNamed "strconv.ErrSyntax" =some 8)(hv:w.var? Φ "strconv.ErrSyntax" =some cs)
  (ht:DataW.trod (fun _=>()) Φ w 0 (fun _=>true) false fuel 153 cs.toList=some (.iface nm (.ptr d),p))
  (Θ:cs.size=1->∀u v,w.cell? ⟨8,0,none⟩=some (.iface u v)->Value.okWide Φ w .any 0 u v):
  ∃u,VR (l5 w) cd (.ref [.iface u .dd]) (.pointer (some ⟨8,0,none⟩)):=by
 cases fuel with
 |zero=>simp[DataW.trod]at ht
 |succ n=>
  have hu:=Tryz.underlying153
  obtain⟨u,v,fw,m,e,LA⟩:∃u v,cs.toList=[.iface u v]/\∃(m:Nat) (e:TypeId),Φ.underlying u=some (.pointer e):=by
   unfold DataW.trod at ht;rw[hu]at ht;split at ht<;>first|(cases ht;done)|(simp_all;done)|skip
   refine⟨_,_,‹cs.toList=[Value.iface _ _]›,0,?_⟩;split at ht<;>first|(cases ht;done)|skip
   simp only[bL,Prod.mk.injEq,DataW.iface.injEq]at ht;obtain⟨x,hx,⟨_,hd⟩,_⟩:=ht;exact afa hx hd
  have hc:w.cell? ⟨8,0,none⟩=some (.iface u v):=by rw[aih hg hv 0,<-AU,fw];rfl
  have hs:cs.size=1:=by have:=congrArg List.length fw;simpa using this
  have G4:v.oneCell'=true:=by have hw:=Θ hs _ _ hc;unfold Value.okWide at hw;rw[LA]at hw;unfold Cell.okWide at hw;rw[LA]at hw;dsimp only at hw;unfold Cell.ok at hw;rw[LA]at hw;cases v<;>first|rfl|(simp at hw;done)
  refine⟨u,.ref _ _ 8 0 (fun _=> .iface u v) (fun i hi=>⟨?_,rfl⟩) (fun i hi=>?_)⟩
  ·have:i=0:=by simpa using hi
   subst this;exact hc
  ·have:i=0:=by simpa using hi
   subst this;exact .iface _ _ _ _ (.dd _ _ G4)
theorem zJ:Φ.globalNamed "spoondrift/lang.gates" =some 0/\Φ.globalNamed "spoondrift/lang.keywords" =some 1/\Φ.globalNamed "strconv.ErrSyntax" =some 8:=⟨by kernel_rfl,by kernel_rfl,by kernel_rfl⟩
theorem JY:(Φ.globals[0]?).map (·.type)=some 42/\(Φ.globals[1]?).map (·.type)=some 42/\(Φ.globals[8]?).map (·.type)=some 153:=⟨by kernel_rfl,by kernel_rfl,by kernel_rfl⟩
theorem Ye{w:World}{l:List (String×DataW Unit)}(hG:("spoondrift/lang.gates",Rows.laid_spoondrift_lang_gates)∈l)(hK:("spoondrift/lang.keywords",Rows.laid_spoondrift_lang_keywords)∈l)(hE:("strconv.ErrSyntax",Rows.laid_strconv_ErrSyntax)∈l)
  (h:laidMet Φ l w):∃u,mX (l5 w) (gl u):=by
 obtain⟨ps,hL,_,bo⟩:=h;obtain⟨u,z8⟩:∃u,VR (l5 w) cd (.ref [.iface u .dd]) (.pointer (some ⟨8,0,none⟩)):=by obtain⟨g,t,cs,fuel,p,h1,h2,h3,h4,h5⟩:=Md hL hE;rw[zJ.2.2]at h1;cases h1;rw[JY.2.2]at h2;cases h2;exact Yh zJ.2.2 h3 h4 fun hs u v hc=>(bo 8 0 (h5 0 (by omega))).2 u v hc
 refine⟨u,?_⟩;have z0:VR (l5 w) cd (gl u 0) (.pointer (some ⟨0,0,none⟩)):=by obtain⟨g,t,cs,fuel,p,h1,h2,h3,h4,-⟩:=Md hL hG;rw[zJ.1]at h1;cases h1;rw[JY.1]at h2;cases h2;rw[adh]at h4;rw[Yf];exact QK zJ.1 h3 h4
 have z1:VR (l5 w) cd (gl u 1) (.pointer (some ⟨1,0,none⟩)):=by obtain⟨g,t,cs,fuel,p,h1,h2,h3,h4,-⟩:=Md hL hK;rw[zJ.2.1]at h1;cases h1;rw[JY.2.1]at h2;cases h2;rw[adi]at h4;rw[Yg];exact QK zJ.2.1 h3 h4
 intro n;by_cases n0:n=0
 ·subst n0;exact z0
 by_cases n1:n=1
 ·subst n1;exact z1
 by_cases n8:n=8
 ·subst n8;exact z8
 ·have:gl u n= .dd:=by
   have e0:fW n 0=false:=by cases hb:fW n 0 with|false=>rfl|true=>exact absurd (DB hb) n0
   have e1:fW n 1=false:=by cases hb:fW n 1 with|false=>rfl|true=>exact absurd (DB hb) n1
   have e8:fW n 8=false:=by cases hb:fW n 8 with|false=>rfl|true=>exact absurd (DB hb) n8
   simp only[gl,e0,e1,e8,cond_false]
  rw[this];exact .dd _ _ rfl
theorem WE{u:Nat}{f:FuncId}{fn:Func}{w:World}{args:List AV}{bU:Array Value}{r:AV}{m':Mem}(hf:Φ.funcs[f]?=some fn)(hb:fn.body.isNone=false)(hn:(fn.name== "runtime.NumGoroutine")=false)
  (eB:mX (l5 w) (gl u)) (jz:PW (VR (l5 w) cd) args bU.toList) (h:aS (C u) (.fn (.func f) [] []) args {ε:=[],η:=[]}=some (r,m')):
  Calls Φ f bU w fun e w'=>∃x,e= .returned x/\(∃g',VR g' cd r x)/\Below w.heap.size w w':=by
 obtain⟨k,hk⟩:=qO.1 h;have nT:VR (l5 w) cd (.fn (.func f) [] []) (.func (.func f) #[] #[]):= .fn _ _ _ _ _ _ _ rfl rfl rfl (fun i hi=>by simp at hi) (fun i hi=>by simp at hi);have hc:=Vc w.heap.size u k 0 (l5 w) cd (fun _=>none) {ε:=[],η:=[]} w _ _ _ _ _ bU (adF w _ _) (aeD w) eB nT jz hk;have dy:(do let d<-Deferred.ofValue (.func (.func f) #[] #[]) bU;invoke d.target d.args:Sem Next).run Φ w= .ok (.enter f bU) w:=by
  have h1:(do let d<-Deferred.ofValue (.func (.func f) #[] #[]) bU;invoke d.target d.args:Sem Next).run Φ w=(callFunc f (#[]++bU++ #[])).run Φ w:=by simp only[Deferred.ofValue,Sem.run_bind,Sem.run_pure,Result.andThen_ok,invoke]
  rw[h1];have h2:(#[]++bU++ #[]:Array Value)=bU:=by simp
  rw[h2];exact Ia hf hb hn
 unfold AX at hc;rw[dy]at hc;rcases hc with⟨f',vs,h1,h2⟩|⟨x,w',h1,h2⟩|⟨l,f',tmps,fH,zd,h1,h2⟩
 ·simp only[Result.ok.injEq,Next.enter.injEq,and_true]at h1;obtain⟨rfl,rfl⟩:=h1;refine(callsIn_wide.1 h2).mono fun e w' he=>?_;obtain⟨x,rfl,g',aK,hs,hm,hv,ho,-,-⟩:=he;exact⟨x,rfl,⟨g',hv⟩,hs.below (own:=ez fun _=>none) ⟨fun b o hb=>by simp[ez]at hb,Nat.le_refl _⟩⟩
 ·cases h1
 ·cases h1
end Go.ab.Tz
