import Derived.Test.YtiigojkfojnedaaGreatDoorQHa
import Derived.Test.YtiigojkfojnedaaGreatDoorQZc
import Derived.Test.YtiigojkfojnedaaGreatDoorCards
import Derived.Test.YtiigojkfojnedaaGreatDoorTie
import Derived.ProofKit
import Derived.OpenShut
import Derived.LaidMore
import Derived.Deep.DeepWitnessRowRef
set_option linter.unusedVariables false
set_option linter.unusedSimpArgs false
set_option maxRecDepth 100000
set_option maxHeartbeats 8000000
open Go.Proofs.Tryz renaming prog->Ψ
open List renaming mem_map->jy,mem_cons->dO,not_mem_nil->aie,getElem_cons_zero->me
open Nat renaming succ_lt_succ->aif,beq->fQ,eq_of_beq_eq_true->Dy
open Go.World renaming var?_cell->aih
open Array renaming getElem?_toList->AE
open Option.some renaming injEq->aZ
open Option renaming map_eq_some_iff->bH
namespace Go.ah.Tz
open Go.ah Go.Proofs Go.Proofs.YtiigojkfojnedaaGreatDoor
section
variable{H:Type}{enc:TypeId×Value->H}{w:World}{base:Nat}{sp:Nat->Bool}{held:Bool}
theorem V9:Ψ.cellsOf 9=1:=by kernel_rfl
theorem V8:Ψ.cellsOf 3=1:=by kernel_rfl
theorem VH(d:DataW H):1<=Rows.uptoBulk d:=by
 cases d with
 |lit l=>cases l<;>simp[Rows.uptoBulk]
 |nil=>simp[Rows.uptoBulk]
 |ptr d=>simp[Rows.uptoBulk]
 |slice elems spare=>simp[Rows.uptoBulk]
 |agg parts=>simp[Rows.uptoBulk]
 |iface t d=>simp[Rows.uptoBulk]
 |map entries=>simp[Rows.uptoBulk]
 |held h=>simp[Rows.uptoBulk]
theorem VG(l:List (DataW H)):l.length<=Rows.uptoBulkAll l:=by
 induction l with
 |nil=>simp
 |cons x r ih=>have:=VH x;simp only[Rows.uptoBulkAll,List.length_cons];omega
theorem SP(l:List UInt8):cX (l.map UInt8.toNat):=by intro b hb;obtain⟨x,-,rfl⟩:=jy.1 hb;exact x.toNat_lt
def Il(el:AV)(d:DataW H):Prop:=∃bs:List UInt8,el= .str (bs.map UInt8.toNat)/\d= .lit (.string bs)
def Ik(el:AV)(d:DataW H):Prop:=∃n:Int,el= .int .i64 n/\d= .lit (.int .i64 n)
theorem agr{fuel:Nat}{cs:List Value}{y:DataW H×List MemPlace}(h:DataW.trod enc Ψ w base sp held fuel 42 cs=some y):
  ∃v:Value,cs=[v]/\v.oneCell'=true/\((VR (kr w) bS (.list .nil []) v/\y.1= .nil)\/∃(l:List AV) (ds rest:List (DataW H)),VR (kr w) bS (.list .any l) v/\y.1= .slice ds rest/\l.length=ds.length∧
   ∀i (h:i<l.length) (h':i<ds.length),Il l[i] ds[i]):=
 Uo (A:=Il) Tryz.underlying42 V9 (by decide) (fun n _ ξ y' ht _=>by
  obtain⟨s,rfl,rfl,_⟩:=DataW.trod_string Tryz.underlying9 ht
  refine⟨.str (s.data.toList.map UInt8.toNat),⟨_,rfl,rfl⟩,⟨rfl,fun i hi aj=>?_⟩,fun v hv=>?_⟩
  ·match i,aj with
   |0,_=>exact .str _ _ _ rfl
  ·simp only[dO,aie,or_false]at hv;subst hv;rfl) h
theorem agq{fuel:Nat}{cs:List Value}{y:DataW H×List MemPlace}(h:DataW.trod enc Ψ w base sp held fuel 43 cs=some y):
  ∃v:Value,cs=[v]/\v.oneCell'=true/\((VR (kr w) bS (.list .nil []) v/\y.1= .nil)\/∃(l:List AV) (ds rest:List (DataW H)),VR (kr w) bS (.list .any l) v/\y.1= .slice ds rest/\l.length=ds.length∧
   ∀i (h:i<l.length) (h':i<ds.length),Ik l[i] ds[i]):=
 Uo (A:=Ik) Tryz.underlying43 V8 (by decide) (fun n _ ξ y' ht _=>by
  obtain⟨k,rfl,rfl,_⟩:=DataW.trod_int Tryz.underlying3 ht
  refine⟨.int .i64 k,⟨_,rfl,rfl⟩,⟨rfl,fun i hi aj=>?_⟩,fun v hv=>?_⟩
  ·match i,aj with
   |0,_=>exact .int _ _ _
  ·simp only[dO,aie,or_false]at hv;subst hv;rfl) h
theorem Rz:∀(l:List AV) (ds:List (DataW H)),l.length=ds.length->(∀i (h:i<l.length) (h':i<ds.length),Ik l[i] ds[i])->∃ss:List Int,l=ss.map (AV.int .i64)/\ss.length=ds.length
 |[],[],_,_=>⟨[],rfl,rfl⟩
 |a::l,d::ds,hl,h=>by obtain⟨x,h1,h2⟩:=h 0 (by simp) (by simp);obtain⟨xs,k1,k2⟩:=Rz l ds (by simpa using hl) (fun i hi aj=>h (i+1) (aif hi) (aif aj));simp only[me]at h1;exact⟨x::xs,by rw[h1,k1];rfl,by simpa using k2⟩
 |[],_::_,hl,_=>by simp at hl
 |_::_,[],hl,_=>by simp at hl
theorem open_ints{fuel:Nat}{v:Value}{y:DataW H×List MemPlace}(h:DataW.trod enc Ψ w base sp held fuel 43 v.cells.toList=some y)(hv:v.cells= #[v]):
  ∃(c:χ) (ns:List Int),VR (kr w) bS (dC c ns) v/\((c= .nil/\ns=[])\/c= .any)/\ns.length<=Rows.uptoBulk y.1:=by
 rw[hv]at h;obtain⟨v',h1,-,h2⟩:=agq h;cases h1;rcases h2 with⟨h2,-⟩|⟨l,ds,rest,h2,h3,h4,h5⟩
 ·exact⟨.nil,[],h2,.inl ⟨rfl,rfl⟩,Nat.zero_le _⟩
 ·obtain⟨ss,rfl,h6⟩:=Rz l ds h4 h5;refine⟨.any,ss,h2,.inr rfl,?_⟩;rw[h3,h6];have:=VG ds;simp only[Rows.uptoBulk];omega
end
open Go.RowKit (Below)
theorem LN{P:Program}{w:World}:∀{l:List (String×DataW Unit)} {ps:List MemPlace},DataW.LaidVars P w l ps->∀{n:String} {d:DataW Unit},(n,d)∈l→
  ∃g t cs fuel p,P.globalNamed n=some g/\(P.globals[g]?).map (·.type)=some t/\w.var? P n=some cs/\DataW.trod (fun _=>()) P w 0 (fun _=>true) false fuel t cs.toList=some (d,p)/\∀i,i<cs.size->MemPlace.cell g i∈ps:=by
 intro l;induction l with
 |nil=>intro ps _ n d hm;cases hm
 |cons x r ih=>
  obtain⟨n0,d0⟩:=x
  rintro ps ⟨g,t,cs,fuel,p,q,h1,h2,h3,h4,h5,rfl⟩ n d hm
  rcases dO.1 hm with he|hm
  ·cases he;refine⟨g,t,cs,fuel,p,h1,h2,h3,h4,fun i hi=>?_⟩;simp only[List.mem_append];left;left;simp only[MemPlace.row,jy,List.mem_range];exact⟨i,hi,by simp⟩
  ·obtain⟨g',t',ξ,Xx,p',k1,k2,k3,k4,k5⟩:=ih h5 hm;exact⟨g',t',ξ,Xx,p',k1,k2,k3,k4,fun i hi=>List.mem_append_right _ (k5 i hi)⟩
theorem Ua{H:Type}:∀(texts:List (List UInt8)) (l:List AV),l.length=texts.length->(∀i (h:i<l.length) (h':i<texts.length),Il (H:=H) l[i] (.lit (.string texts[i])))->l=texts.map fun bs=>AV.str (bs.map UInt8.toNat)
 |[],[],_,_=>rfl
 |t::ts,a::l,hl,h=>by obtain⟨bs,h1,h2⟩:=h 0 (by simp) (by simp);simp only[me]at h1 h2;cases h2;have:=Ua ts l (by simpa using hl) (fun i hi aj=>h (i+1) (aif hi) (aif aj));rw[List.map_cons,<-this,h1]
 |[],_::_,hl,_=>by simp at hl
 |_::_,[],hl,_=>by simp at hl
theorem Qe{w:World}{n:String}{g:Nat}{cs:Array Value}{fuel:Nat}{texts:List (List UInt8)}{rest:List (DataW Unit)}{p:List MemPlace}(hg:Ψ.globalNamed n=some g)(hv:w.var? Ψ n=some cs)
  (ht:DataW.trod (fun _=>()) Ψ w 0 (fun _=>true) false fuel 42 cs.toList=some (.slice (texts.map fun bs=> .lit (.string bs)) rest,p)):
  VR (kr w) bS (.ref [.list .any (texts.map fun bs=>AV.str (bs.map UInt8.toNat))]) (.pointer (some ⟨g,0,none⟩)):=by
 obtain⟨v,h1,h2,h3⟩:=agr ht;rcases h3 with⟨_,h3⟩|⟨l,ds,ahr,h3,h4,h5,h6⟩
 ·cases h3
 ·simp only[DataW.slice.injEq]at h4;obtain⟨rfl,_⟩:=h4;have hl:l=texts.map fun bs=>AV.str (bs.map UInt8.toNat):=Ua (H:=Unit) texts l (by simpa using h5) (fun i hi aj=>by
   have:=h6 i hi (by simpa using aj)
   rw[List.getElem_map]at this;exact this)
  subst hl;have hc:w.cell? ⟨g,0,none⟩=some v:=by rw[aih hg hv 0,<-AE,h1];rfl
  refine .ref _ _ g 0 (fun _=>v) (fun i hi=>⟨?_,h2⟩) (fun i hi=>?_)
  ·have:i=0:=by simpa using hi
   subst this;exact hc
  ·have:i=0:=by simpa using hi
   subst this;exact h3
def Ue:List (List UInt8):=[[120],[121],[122],[104],[115],[115,100],[116],[116,100],[99,120],[99,122],[115,119,97,112],[99,99,120]]
def Uf:List (List UInt8):=[[112,114,111,99],[116,97,107,101],[100,114,111,112],[98,111,114,114,111,119],[109,101,97,115,117,114,101],[114,101,115,101,116],[105,102],[101,108,115,101],[102,111,114],[117,110,100,111],[119,105,116,104,105,110],[97,112,112,108,121]]
theorem acV{H:Type}:Rows.laid_spoondrift_lang_gates (H:=H)= .slice (Ue.map fun bs=> .lit (.string bs)) []:=rfl
theorem acW{H:Type}:Rows.laid_spoondrift_lang_keywords (H:=H)= .slice (Uf.map fun bs=> .lit (.string bs)) []:=rfl
theorem XI(u:Nat):gl u 0= .ref [.list .any (Ue.map fun bs=>AV.str (bs.map UInt8.toNat))]:=by kernel_rfl
theorem XJ(u:Nat):gl u 1= .ref [.list .any (Uf.map fun bs=>AV.str (bs.map UInt8.toNat))]:=by kernel_rfl
theorem aeY{P:Program}{w:World}{fuel:Nat}{u:TypeId}{cs:List Value}{x:DataW Unit×List MemPlace}{d:DataW Unit}(h:DataW.trod (fun _=>()) P w 0 (fun _=>true) false fuel u cs=some x)(hd:x.1= .ptr d):∃e,P.underlying u=some (.pointer e):=by
 cases fuel with
 |zero=>simp[DataW.trod]at h
 |succ n=>
  unfold DataW.trod at h
  dsimp only at h;split at h
  all_goals first
   |exact⟨_,‹P.underlying u=some (.pointer _)›⟩
   |(
     exfalso
     (repeat' split at h)<;>first
     |(cases h;done)
     |(simp only[aZ]at h;subst h;cases hd;done)
     |(simp only[bH,Option.bind_eq_some_iff]at h;grind)
     |grind)
theorem XK{w:World}{cs:Array Value}{fuel:Nat}{nm:String}{d:DataW Unit}{p:List MemPlace}(hg:Ψ.globalNamed "strconv.ErrSyntax" =some 8)(hv:w.var? Ψ "strconv.ErrSyntax" =some cs)
  (ht:DataW.trod (fun _=>()) Ψ w 0 (fun _=>true) false fuel 153 cs.toList=some (.iface nm (.ptr d),p))
  (ab:cs.size=1->∀u v,w.cell? ⟨8,0,none⟩=some (.iface u v)->Value.okWide Ψ w .any 0 u v):
  ∃u,VR (kr w) bS (.ref [.iface u .cR]) (.pointer (some ⟨8,0,none⟩)):=by
 cases fuel with
 |zero=>simp[DataW.trod]at ht
 |succ n=>
  have hu:=Tryz.underlying153
  obtain⟨u,v,fp,m,e,Lh⟩:∃u v,cs.toList=[.iface u v]/\∃(m:Nat) (e:TypeId),Ψ.underlying u=some (.pointer e):=by
   unfold DataW.trod at ht;rw[hu]at ht;split at ht<;>first|(cases ht;done)|(simp_all;done)|skip
   refine⟨_,_,‹cs.toList=[Value.iface _ _]›,0,?_⟩;split at ht<;>first|(cases ht;done)|skip
   simp only[bH,Prod.mk.injEq,DataW.iface.injEq]at ht;obtain⟨x,hx,⟨_,hd⟩,_⟩:=ht;exact aeY hx hd
  have hc:w.cell? ⟨8,0,none⟩=some (.iface u v):=by rw[aih hg hv 0,<-AE,fp];rfl
  have hs:cs.size=1:=by have:=congrArg List.length fp;simpa using this
  have GV:v.oneCell'=true:=by have hw:=ab hs _ _ hc;unfold Value.okWide at hw;rw[Lh]at hw;unfold Cell.okWide at hw;rw[Lh]at hw;dsimp only at hw;unfold Cell.ok at hw;rw[Lh]at hw;cases v<;>first|rfl|(simp at hw;done)
  refine⟨u,.ref _ _ 8 0 (fun _=> .iface u v) (fun i hi=>⟨?_,rfl⟩) (fun i hi=>?_)⟩
  ·have:i=0:=by simpa using hi
   subst this;exact hc
  ·have:i=0:=by simpa using hi
   subst this;exact .iface _ _ _ _ (.cR _ _ GV)
theorem zA:Ψ.globalNamed "spoondrift/lang.gates" =some 0/\Ψ.globalNamed "spoondrift/lang.keywords" =some 1/\Ψ.globalNamed "strconv.ErrSyntax" =some 8:=⟨by kernel_rfl,by kernel_rfl,by kernel_rfl⟩
theorem JH:(Ψ.globals[0]?).map (·.type)=some 42/\(Ψ.globals[1]?).map (·.type)=some 42/\(Ψ.globals[8]?).map (·.type)=some 153:=⟨by kernel_rfl,by kernel_rfl,by kernel_rfl⟩
theorem XH{w:World}{l:List (String×DataW Unit)}(hG:("spoondrift/lang.gates",Rows.laid_spoondrift_lang_gates)∈l)(hK:("spoondrift/lang.keywords",Rows.laid_spoondrift_lang_keywords)∈l)(hE:("strconv.ErrSyntax",Rows.laid_strconv_ErrSyntax)∈l)
  (h:laidMet Ψ l w):∃u,mJ (kr w) (gl u):=by
 obtain⟨ps,hL,_,bA⟩:=h;obtain⟨u,z8⟩:∃u,VR (kr w) bS (.ref [.iface u .cR]) (.pointer (some ⟨8,0,none⟩)):=by obtain⟨g,t,cs,fuel,p,h1,h2,h3,h4,h5⟩:=LN hL hE;rw[zA.2.2]at h1;cases h1;rw[JH.2.2]at h2;cases h2;exact XK zA.2.2 h3 h4 fun hs u v hc=>(bA 8 0 (h5 0 (by omega))).2 u v hc
 refine⟨u,?_⟩;have z0:VR (kr w) bS (gl u 0) (.pointer (some ⟨0,0,none⟩)):=by obtain⟨g,t,cs,fuel,p,h1,h2,h3,h4,-⟩:=LN hL hG;rw[zA.1]at h1;cases h1;rw[JH.1]at h2;cases h2;rw[acV]at h4;rw[XI];exact Qe zA.1 h3 h4
 have z1:VR (kr w) bS (gl u 1) (.pointer (some ⟨1,0,none⟩)):=by obtain⟨g,t,cs,fuel,p,h1,h2,h3,h4,-⟩:=LN hL hK;rw[zA.2.1]at h1;cases h1;rw[JH.2.1]at h2;cases h2;rw[acW]at h4;rw[XJ];exact Qe zA.2.1 h3 h4
 intro n;by_cases n0:n=0
 ·subst n0;exact z0
 by_cases n1:n=1
 ·subst n1;exact z1
 by_cases n8:n=8
 ·subst n8;exact z8
 ·have:gl u n= .cR:=by
   have e0:fQ n 0=false:=by cases hb:fQ n 0 with|false=>rfl|true=>exact absurd (Dy hb) n0
   have e1:fQ n 1=false:=by cases hb:fQ n 1 with|false=>rfl|true=>exact absurd (Dy hb) n1
   have e8:fQ n 8=false:=by cases hb:fQ n 8 with|false=>rfl|true=>exact absurd (Dy hb) n8
   simp only[gl,e0,e1,e8,cond_false]
  rw[this];exact .cR _ _ rfl
theorem V3{u:Nat}{f:FuncId}{fn:Func}{w:World}{args:List AV}{bR:Array Value}{r:AV}{m':Mem}(hf:Ψ.funcs[f]?=some fn)(hb:fn.body.isNone=false)(hn:(fn.name== "runtime.NumGoroutine")=false)
  (di:mJ (kr w) (gl u)) (jd:PW (VR (kr w) bS) args bR.toList) (h:aU (C u) (.fn (.func f) [] []) args {ε:=[],θ:=[]}=some (r,m')):
  Calls Ψ f bR w fun e w'=>∃x,e= .returned x/\(∃g',VR g' bS r x)/\Below w.heap.size w w':=by
 obtain⟨k,hk⟩:=qD.1 h;have mB:VR (kr w) bS (.fn (.func f) [] []) (.func (.func f) #[] #[]):= .fn _ _ _ _ _ _ _ rfl rfl rfl (fun i hi=>by simp at hi) (fun i hi=>by simp at hi);have hc:=Uz w.heap.size u k 0 (kr w) bS (fun _=>none) {ε:=[],θ:=[]} w _ _ _ _ _ bR (adn w _ _) (aen w) di mB jd hk;have dj:(do let d<-Deferred.ofValue (.func (.func f) #[] #[]) bR;invoke d.target d.args:Sem Next).run Ψ w= .ok (.enter f bR) w:=by
  have h1:(do let d<-Deferred.ofValue (.func (.func f) #[] #[]) bR;invoke d.target d.args:Sem Next).run Ψ w=(callFunc f (#[]++bR++ #[])).run Ψ w:=by simp only[Deferred.ofValue,Sem.run_bind,Sem.run_pure,Result.andThen_ok,invoke]
  rw[h1];have h2:(#[]++bR++ #[]:Array Value)=bR:=by simp
  rw[h2];exact HY hf hb hn
 unfold AH at hc;rw[dj]at hc;rcases hc with⟨f',vs,h1,h2⟩|⟨x,w',h1,h2⟩|⟨l,f',tmps,fL,yZ,h1,h2⟩
 ·simp only[Result.ok.injEq,Next.enter.injEq,and_true]at h1;obtain⟨rfl,rfl⟩:=h1;refine(callsIn_wide.1 h2).mono fun e w' he=>?_;obtain⟨x,rfl,g',aO,hs,hm,hv,ho,-,-⟩:=he;exact⟨x,rfl,⟨g',hv⟩,hs.below (own:=eh fun _=>none) ⟨fun b o hb=>by simp[eh]at hb,Nat.le_refl _⟩⟩
 ·cases h1
 ·cases h1
end Go.ah.Tz
