import Derived.Test.YtiigojkfojnedaaGreatDoorPKw
set_option linter.unusedVariables false
set_option linter.unusedSimpArgs false
set_option linter.unusedSectionVars false
set_option maxRecDepth 100000
set_option maxHeartbeats 8000000
open List renaming length_drop->kz,mem_append_right->xb,getElem_mem->cz,getElem?_eq_getElem->eo,eq_nil_of_length_eq_zero->lU,take_of_length_le->dY,set_append_left->lW,length_set->ft,getD_eq_getElem?_getD->kT,length_cons->dO,nil_append->cO,append_assoc->cr,append_cancel_left->ahW
open Go.IntKind renaming wrap->aT
open Nat renaming lt_or_ge->bP,le_refl->bQ
open Bool renaming true_and->uk,false_or->ahU,and_false->ahV,false_and->ahH,and_self->vq
open Option.some renaming injEq->bj
open Prod.mk renaming injEq->aL
namespace Go.ab.Tz
open Go.ab
variable{u:Nat}
attribute [local simp] exec eG eu fz aF d_ fQ fe bq gN bT gF gS hU hZ mD AV.cells newVar hH rd wr gg single fy bF er dL κ bf RV.get ba dU jy
attribute [local simp] Sh.mh Sh.mg Sh.lh Sh.lg Sh.th Sh.tg Sh.fh Sh.fg Sh.bx Sh.nc Sh.si Sh.cs Sh.as Sh.b Sh.bk Sh.cl Sh.i Sh.q Sh.y Sh.x Sh.ap Sh.aq Sh.al Sh.z Sh.e Sh.n Sh.nt Sh.s Sh.k Sh.m Sh.l Sh.lt Sh.f Sh.mi Sh.c1 Sh.c2 Sh.st Sh.bi Sh.bt Sh.ia Sh.an Sh.oo Sh.ln Sh.ex Sh.mc Sh.ju Sh.z4 Sh.o Sh.og Sh.oh
attribute [local simp] vg u6
def qA(s:List Nat)(q:Nat):List Tok:=if q<s.length then(if(dK q (s.drop q)).kind=0 then[dK q (s.drop q)]else dK q (s.drop q)::rest s (q+(dK q (s.drop q)).text.length))else[]
theorem Uu(s:List Nat)(n:Nat)(hn:n<=s.length):rest s n=qA s (n+bI false (s.drop n)):=M1 s n hn
section
variable(s:List Nat)(eA:AV)
def Ny(s:List Nat)(q:Nat)(wr la:Int)(a:RS):Prop:=match a with
 | .r st=>wr= -1/\st.l=qA s q/\la=st.last
 | .w w=>wr=(w:Int)
def fj(cs:List AV)(a:RS):Prop:=
 ∃(q:Nat) (wr la:Int),cs=mW s q++[.n wr,.n la,eA]/\q<=s.length/\Ny s q wr la a
variable{s eA}(hs:dJ s)(hl:s.length<1000000000)
include hs hl
theorem Ni{q:Nat}(h:q<s.length):(dK q (s.drop q)).Ok:=by have hd:s.drop q=s[q]::s.drop (q+1):=List.drop_eq_getElem_cons h;rw[hd];refine UU q _ _ (fun x hx=>hs x (List.mem_of_mem_drop (by rw[hd];exact hx))) ?_;rw[<-hd];simp;omega
theorem fj.sW{cs:List AV}{a:RS}(h:fj s eA cs a):∃(q:Nat) (wr la:Int) (t:Tok),cs=[.str s,.n 2,.str eJ,.n q,.n t.at_,.n t.kind,.str t.cut,.n t.bB,.bool (decide (q=s.length)),.n wr,.n la,eA]/\q<=s.length∧
  t=dK q (s.drop q)/\Ny s q wr la a:=by
 obtain⟨q,wr,la,rfl,hq,h⟩:=h;exact⟨q,wr,la,_,rfl,hq,rfl,h⟩
theorem UW:dK s.length (s.drop s.length)=⟨s.length,0,[],-1⟩:=by simp[dK]
theorem f198(w:List Nat)(hw:w∈xl)(iA:w≠[]){B:List θ}{p:Nat}{cs:List AV}{a:RS}(hp:p<B.length)(h:fj s eA cs a)(T:List Nat):
  kf u 198 [.μ p 0,.str w] {ε:=B.set p (.cells cs),η:=T}=some (.bool (a.aD w),{ε:=B.set p (.cells cs),η:=T}):=by
 obtain⟨q,wr,la,t,rfl,hq,ht,h⟩:=h.sW hs hl;have hg:∀cs,(B.set p (θ.cells cs))[p]?=some (.cells cs):=fun cs=>by simp[hp]
 refine bz (g:=ux) rfl rfl rfl ?_;have dV:∀n,n=B.length->[AV.μ p 0,.str w].map (exp n false)=[AV.μ p 0,.str w]:=fun n hn=>by simp[exp,hn,hp]
 rw[dV _ (by simp)];cases a with
 |w x=>
  have hw:¬wr<0:=by have:wr=(x:Int):=h;omega
  simp[ux,c198,hg,hw,RS.aD,RS.rX]
 |r st=>
  obtain⟨rfl,gY,-⟩:=h
  by_cases hc:q=s.length
  ·have hb:(RS.r st).aD w=false:=by
    have:st.l=[]:=by rw[gY,qA,if_neg (by omega)]
    simp only[RS.aD,RS.rX,PS.aD,PS.hd,this];exact beq_eq_false_iff_ne.2 (Ne.symm iA)
   simp[ux,c198,hg,hc,hb]
  ·have ν:q<s.length:=by omega
   have qp:=Ni hs hl ν;rw[<-ht]at qp;have hb:(RS.r st).aD w=(t.text==w):=by
    have e:st.hd=t.text:=by simp only[PS.hd,gY,qA,ν,if_true,<-ht];by_cases hk:t.kind=0<;>simp[hk]
    show(st.hd==w)=_;rw[e]
   rw[hb];by_cases dh:t.bB<0
   ·rw[Ed dh];by_cases he:t.text=w
    ·simp[ux,c198,hg,hc,he,dh]
    ·simp[ux,c198,hg,hc,he,dh]
   ·obtain⟨h1,h2⟩:=qp.bB (by omega);have he:=h2 w hw;have fL:¬(2:Int)<t.kind:=by omega
    by_cases kJ:t.cut=w
    ·simp[ux,c198,hg,hc,he,kJ,dh,fL]
    ·simp[ux,c198,hg,hc,he,kJ,dh,fL]
theorem f236(may:Bool)(f:Tok->Bool){B:List θ}{p:Nat}{cs:List AV}{a:RS}(hp:p<B.length)(h:fj s eA cs a)(hm:∀st t l,a= .r st->st.l=t::l->may=f t):
  ∃x ξ b,(∀T,kf u 236 [.μ p 0,.bool may] {ε:=B.set p (.cells cs),η:=T}=some (.str x,{ε:=B.set p (.cells ξ),η:=T}))/\fj s eA ξ b/\Δ (gR s.length f) a x b/\(x=[]\/∃t:Tok,t.Ok/\x=t.text/\f t=true/\t.bB<0):=by
 obtain⟨q,wr,la,t,rfl,hq,ht,h⟩:=h.sW hs hl;have hg:∀cs,(B.set p (θ.cells cs))[p]?=some (.cells cs):=fun cs=>by simp[hp]
 have go:∀(x:List Nat) (ξ:List AV),(κ (C u).gl (aS (C u)) c236 {env:=[.μ p 0,.bool may],loc:=[],mem:= {ε:=B.set p (.cells [.str s,.n 2,.str eJ,.n q,.n t.at_,.n t.kind,.str t.cut,.n t.bB,.bool (decide (q=s.length)),.n wr,.n la,eA]),η:=[]}} fun r=>(∀i,r.1≠ .exit i)/\r.2.mem= {ε:=B.set p (.cells ξ),η:=[]}/\bq r.2.env 4= .str x)→
   ∀T,kf u 236 [.μ p 0,.bool may] {ε:=B.set p (.cells [.str s,.n 2,.str eJ,.n q,.n t.at_,.n t.kind,.str t.cut,.n t.bB,.bool (decide (q=s.length)),.n wr,.n la,eA]),η:=T}=some (.str x,{ε:=B.set p (.cells ξ),η:=T}):=by
  intro x ξ hr T;refine kQ (g:=FO) rfl rfl rfl hp (by simp[exp]) ?_ T;exact hr.mono fun r ⟨h1,h2,h3⟩=>⟨h1,⟨[],by simp[h2]⟩,[.str x],by simp[FO,h3],rfl⟩
 unfold c236 at go;cases a with
 |w x=>
  have iA:wr=(x:Int):=h
  have hw:0<=wr:=by omega
  refine⟨[],_,.w x,go [] [.str s,.n 2,.str eJ,.n q,.n t.at_,.n t.kind,.str t.cut,.n t.bB,.bool (decide (q=s.length)),.n wr,.n la,eA] ?_,⟨q,wr,la,by rw[ht];rfl,hq,h⟩,rfl,.inl rfl⟩;simp[aQ,hg,hw]
 |r st=>
  obtain⟨rfl,gY,uP⟩:=h
  by_cases hc:q=s.length
  ·have tJ:st.l=[]:=by rw[gY,qA,if_neg (by omega)]
   have hte:t=⟨s.length,0,[],-1⟩:=by rw[ht,hc];exact UW hs hl
   have fR:t.at_=s.length:=by rw[hte]
   refine⟨[],_,.w s.length,go [] [.str s,.n 2,.str eJ,.n q,.n t.at_,.n t.kind,.str t.cut,.n t.bB,.bool (decide (q=s.length)),.n s.length,.n la,eA] ?_,⟨q,s.length,la,by rw[ht];rfl,hq,rfl⟩,by simp[Δ,gR,tJ],.inl rfl⟩;cases may<;>simp[aQ,hg,hc,fR,Mem.put,Mem.ρ,ρ,bh,lo]
  ·have ν:q<s.length:=by omega
   have qp:=Ni hs hl ν;rw[<-ht]at qp;have fR:t.at_=q:=by rw[ht,Dr ν];(repeat' split)<;>rfl
   obtain⟨rl,G',CB⟩:∃rl,st.l=t::rl/\(t.kind≠0->rl=rest s (q+t.text.length)):=by
    simp only[qA,ν,if_true,<-ht]at gY;by_cases hk:t.kind=0
    ·rw[if_pos hk]at gY;exact⟨_,gY,fun h=>absurd hk h⟩
    ·rw[if_neg hk]at gY;exact⟨_,gY,fun _=>rfl⟩
   have hm:=hm st t rl rfl G';have CA:(q=s.length)=False:=by simp[hc]
   have U4:∀w:Nat,Δ (gR s.length f) (.r st) [] (.w w)->(κ (C u).gl (aS (C u)) _ {env:=[.μ p 0,.bool may],loc:=[],mem:= {ε:=B.set p (.cells [.str s,.n 2,.str eJ,.n q,.n t.at_,.n t.kind,.str t.cut,.n t.bB,.bool (decide (q=s.length)),.n (-1),.n la,eA]),η:=[]}} fun r=>(∀i,r.1≠ .exit i)/\r.2.mem= {ε:=B.set p (.cells [.str s,.n 2,.str eJ,.n q,.n t.at_,.n t.kind,.str t.cut,.n t.bB,.bool (decide (q=s.length)),.n w,.n la,eA]),η:=[]}/\bq r.2.env 4= .str [])->_:=fun w Zt hr=>(⟨[],_,.w w,go [] _ hr,⟨q,w,la,by rw[ht];rfl,hq,rfl⟩,Zt,.inl rfl⟩:∃x ξ b,(∀T,kf u 236 [.μ p 0,.bool may] {ε:=B.set p (.cells [.str s,.n 2,.str eJ,.n q,.n t.at_,.n t.kind,.str t.cut,.n t.bB,.bool (decide (q=s.length)),.n (-1),.n la,eA]),η:=T}=some (.str x,{ε:=B.set p (.cells ξ),η:=T}))/\fj s eA ξ b/\Δ (gR s.length f) (.r st) x b/\(x=[]\/∃t:Tok,t.Ok/\x=t.text/\f t=true/\t.bB<0));cases may with
   |false=>
    refine U4 t.at_ (by simp[Δ,gR,G',<-hm]) ?_
    simp[aQ,hg,hc,Mem.put,Mem.ρ,ρ,bh,lo]
   |true=>
    by_cases hw:0<=t.bB
    ·obtain⟨w,jE⟩:∃w:Nat,t.bB=w:=⟨t.bB.toNat,by omega⟩;refine U4 w ?_ ?_
     ·simp only[Δ,gR,G',<-hm];by_cases hk:t.kind=0
      ·have:=qp.zero hk;have:w=t.at_:=by omega
       simp[hk,this]
      ·simp[hk,jE]
     ·have iz:0<=(w:Int):=by omega
      simp[aQ,hg,hc,jE,iz,Mem.put,Mem.ρ,ρ,bh,lo]
    ·have iz:t.bB<0:=by omega
     have hk:t.kind≠0:=fun hk=>by have:=qp.zero hk;omega
     have hlen:=Il q (s.drop q);rw[<-ht,kz]at hlen;have MO:=fun m=>f128 (u:=u) s q t.at_ t.kind t.bB false t.text (q+t.text.length) rfl (by omega) (by omega) m;have dh:aT .i64 ((t.at_:Int)+t.text.length)=(t.at_:Int)+t.text.length:=wrap_i64 (by omega) (by omega);have hle:=Ax false (s.drop (q+t.text.length));simp only[kz]at hle;refine⟨t.text,mW s (q+t.text.length+bI false (s.drop (q+t.text.length)))++[.n (-1),.n ((t.at_:Int)+t.text.length),eA],.r ⟨t.at_+t.text.length,rl⟩,go t.text _ ?_,⟨_,_,_,rfl,by omega,rfl,?_,by simp⟩,by simp[Δ,gR,G',<-hm,hk,hw],.inr ⟨t,qp,rfl,hm.symm,iz⟩⟩
     ·rw[Ed iz];have jE:¬0<=t.bB:=by omega
      simp[aQ,hg,hc,jE,dh,MO,mW,Mem.put,Mem.ρ,ρ,bh,lo]
     ·show rl=_;rw[CB hk,Uu s _ (by omega)]
theorem f196(w:List Nat)(hw:w∈xl)(iA:w≠[])(a:RS):iV u (fj s eA) 196 [.str w] (ak s.length w) Eu a:=by intro B p cs hp h;have H6:=fun T=>f198 (u:=u) hs hl w hw iA hp h T;obtain⟨x,ξ,b,k1,h2,h3,h4⟩:=f236 (u:=u) hs hl (a.aD w) (fun t=>t.text==w) hp h (fun st t l ha τ=>by subst ha;simp[RS.aD,RS.rX,PS.aD,PS.hd,τ]);refine⟨.aO [],x,ξ,b,kQ (g:=Fs) rfl rfl rfl hp (by simp[exp]) ?_,h2,h3,rfl⟩;simp[Fs,c196,H6,k1];rfl
theorem agr{f:Tok->Bool}{x:List Nat}(h:x=[]\/∃t:Tok,t.Ok/\x=t.text/\f t=true/\t.bB<0):dJ x:=by
 rcases h with rfl|⟨t,h,rfl,_⟩
 ·exact pE
 ·exact h.str
theorem f197(a:RS):iV u (fj s eA) 197 [] (fU s.length) Es a:=by
 intro B p cs hp h;have h0:=h;obtain⟨q,wr,la,t,rfl,hq,ht,h⟩:=h.sW hs hl;have hg:∀cs,(B.set p (θ.cells cs))[p]?=some (.cells cs):=fun cs=>by simp[hp]
 have afl:=fun m=>f217 (u:=u) t.cut m;obtain⟨may,tI,hm⟩:∃may,may=(decide (wr<0)&&t.kind==1&&(decide (0<=t.bB)||!kI t.cut))/\∀st t' l,a= .r st->st.l=t'::l->may=(t'.kind==1&& !kI t'.text):=by
  refine⟨_,rfl,fun st t' l ha τ=>?_⟩;subst ha;obtain⟨rfl,gY,-⟩:=h;have ν:q<s.length:=by
   rcases bP q s.length with h|h
   ·exact h
   ·rw[gY,qA,if_neg (by omega)]at τ;cases τ
  have qp:=Ni hs hl ν;rw[<-ht]at qp;have:t'=t:=by
   rw[gY]at τ;simp only[qA,ν,if_true,<-ht]at τ;by_cases hk:t.kind=0
   ·rw[if_pos hk]at τ;cases τ;rfl
   ·rw[if_neg hk]at τ;cases τ;rfl
  subst this;by_cases hw:t'.bB<0
  ·have iz:¬0<=t'.bB:=by omega
   rw[Ed hw];simp[iz]
  ·have iz:0<=t'.bB:=by omega
   have eI:kI t'.text=false:=by
    cases hc:kI t'.text with
    |false=>rfl
    |true=>exact absurd rfl ((qp.bB iz).2 _ (xb _ (List.contains_iff_mem.1 hc)))
   simp[iz,eI]
 obtain⟨x,ξ,b,k1,h2,h3,h4⟩:=f236 (u:=u) hs hl may (fun t=>t.kind==1&& !kI t.text) hp h0 hm;refine⟨.str x,x,ξ,b,kQ (g:=xC) rfl rfl rfl hp rfl ?_,h2,h3,rfl,agr hs hl h4⟩;subst tI;by_cases c1:wr<0
 ·by_cases c2:t.kind=1
  ·have oq:((t.kind:Int)==1)=true:=beq_iff_eq.2 (by omega);have D1:(t.kind==1)=true:=beq_iff_eq.2 c2;by_cases c3:0<=t.bB
   ·simp only[c1,D1,c3,decide_true,uk,Bool.true_or]at k1;simp[xC,Bi,hg,c1,oq,c3,k1];rfl
   ·simp only[c1,D1,c3,decide_true,decide_false,uk,ahU]at k1;simp[xC,Bi,hg,c1,oq,c3,afl,k1];rfl
  ·have oq:((t.kind:Int)==1)=false:=beq_eq_false_iff_ne.2 (by omega);have Bj:(t.kind==1)=false:=beq_eq_false_iff_ne.2 c2;simp only[Bj,ahV,ahH]at k1;simp[xC,Bi,hg,c1,oq,k1];rfl
 ·simp only[c1,decide_false,ahH]at k1;simp[xC,Bi,hg,c1,k1];rfl
theorem f199(a:RS):iV u (fj s eA) 199 [] (sQ s.length) En a:=by
 intro B p cs hp h;have h0:=h;obtain⟨q,wr,la,t,rfl,hq,ht,h⟩:=h.sW hs hl;have hg:∀cs,(B.set p (θ.cells cs))[p]?=some (.cells cs):=fun cs=>by simp[hp]
 obtain⟨may,tI,hm⟩:∃may,may=(decide (wr<0)&&t.kind==2)/\∀st t' l,a= .r st->st.l=t'::l->may=(t'.kind==2):=by
  refine⟨_,rfl,fun st t' l ha τ=>?_⟩;subst ha;obtain⟨rfl,gY,-⟩:=h;have ν:q<s.length:=by
   rcases bP q s.length with h|h
   ·exact h
   ·rw[gY,qA,if_neg (by omega)]at τ;cases τ
  have:t'=t:=by
   rw[gY]at τ;simp only[qA,ν,if_true,<-ht]at τ;by_cases hk:t.kind=0
   ·rw[if_pos hk]at τ;cases τ;rfl
   ·rw[if_neg hk]at τ;cases τ;rfl
  subst this;simp
 obtain⟨x,ξ,b,k1,h2,h3,h4⟩:=f236 (u:=u) hs hl may (fun t=>t.kind==2) hp h0 hm;have hx:numOf x<100/\x.length<=2/\∀c∈x,dI c=true:=by
  rcases h4 with rfl|⟨t,ht,rfl,hf,hw⟩
  ·exact⟨by decide,by decide,by simp⟩
  ·obtain⟨_,k2,_⟩:=Ty ht (by simpa using hf) hw;exact⟨k2,ht.num (by simpa using hf) hw⟩
 refine⟨.n (numOf x),numOf x,ξ,b,kQ (g:=Ft) rfl rfl rfl hp rfl ?_,h2,h3.map numOf,rfl,hx.1⟩;refine χ (fun st=>st.e 0= .μ p 0/\st.mem= {ε:=B.set p (.cells [.str s,.n 2,.str eJ,.n q,.n t.at_,.n t.kind,.str t.cut,.n t.bB,.bool (decide (q=s.length)),.n wr,.n la,eA]),η:=[]}) (by simp) fun s1 ⟨h1,h2⟩=>?_;refine χ (fun st=>st.e 3= .str x/\st.mem= {ε:=B.set p (.cells ξ),η:=[]}) (by
  subst tI
  by_cases c1:wr<0
  ·by_cases c2:t.kind=2
   ·have oq:((t.kind:Int)==2)=true:=beq_iff_eq.2 (by omega);have D1:(t.kind==2)=true:=beq_iff_eq.2 c2;simp only[c1,D1,decide_true,uk]at k1;simp[h1,h2,hg,c1,oq,k1]
   ·have oq:((t.kind:Int)==2)=false:=beq_eq_false_iff_ne.2 (by omega);have Bj:(t.kind==2)=false:=beq_eq_false_iff_ne.2 c2;simp only[Bj,ahV]at k1;simp[h1,h2,hg,c1,oq,k1]
  ·simp only[c1,decide_false,ahH]at k1;simp[h1,h2,hg,c1,k1]) fun s1 ⟨h1,h2⟩=>?_
 obtain⟨kM,qs,hx3⟩:=hx;have hb:∀i (h:i<x.length),48<=x[i]/\x[i]<=57:=fun i h=>Bv (hx3 _ (cz h));have RZ:∀i (h:i<x.length),numOf (x.take (i+1))=10*numOf (x.take i)+(x[i]-48):=fun i h=>by simp only[numOf];rw[List.take_add_one,eo h,Option.toList_some,List.foldl_append];rfl
 have YR:∀i,i<=2->numOf (x.take i)<1000:=fun i hi=>by
  have e0:numOf (x.take 0)=0:=rfl;have e1:numOf (x.take 1)<=9:=by
   rcases bP 0 x.length with h|h
   ·rw[RZ 0 h,e0];have:=hb 0 h;omega
   ·have:x=[]:=lU (by omega);rw[this];decide
  match i,hi with
  |0,_=>rw[e0];omega
  |1,_=>omega
  |2,_=>rw[dY qs];omega
 refine χ (fun st=>st.e 3= .str x/\st.e 4= .n 0/\st.mem= {ε:=B.set p (.cells ξ),η:=[]}) (by simp[h1,h2]) fun s1 ⟨h1,h3,h2⟩=>?_;let I:Nat->St->Prop:=fun i st=>st.e 3= .str x/\st.e 4= .n (numOf (x.take i))/\st.e 5= .n i/\st.mem= {ε:=B.set p (.cells ξ),η:=[]};refine aZ (fun st=>st.e 4= .n (numOf x)/\st.mem= {ε:=B.set p (.cells ξ),η:=[]}) ?_ fun s2 ⟨h1,h2⟩=>by simp[Ft,h1,h2]
 refine χ (I 0) (by simp[I,h1,h2,h3,numOf]) fun s2 hI=>?_;refine κ.block (κ.ki (I:=I) x.length hI fun i st hi τ=>?_);obtain⟨h1,h2,h3,h4⟩:=τ;unfold SF;rcases bP i x.length with ν|cD
 ·have dE:(i:Int)<x.length:=by omega
  obtain⟨b1,b2⟩:=hb i ν;have b3:=YR i (by omega);have w1:aT .i64 (10*(numOf (x.take i):Int))=10*(numOf (x.take i):Int):=wrap_i64 (by omega) (by omega);have w2:aT .u8 ((x[i]:Int)-48)=(x[i]:Int)-48:=by have h:∀y:Int,aT .u8 y=y % 256:=fun y=>rfl;rw[h];omega
  have w3:aT .i64 ((x[i]:Int)-48)=(x[i]:Int)-48:=wrap_i64 (by omega) (by omega);have w4:aT .i64 (10*(numOf (x.take i):Int)+((x[i]:Int)-48))=(numOf (x.take (i+1)):Int):=by rw[wrap_i64 (by omega) (by omega),RZ i ν];omega
  have w5:aT .i64 ((i:Int)+1)=(i:Int)+1:=wrap_i64 (by omega) (by omega);refine κ.done .normal (fun st=>I (i+1) st) (by simp[I,h1,h2,h3,h4,ν,dE,w1,w2,w3,w4,w5]) fun s' h=> .inl ⟨rfl,ν,h⟩
 ·have:i=x.length:=by omega
  subst this;rw[dY (bQ _)]at h2;refine κ.done (.exit 0) (fun st=>st.e 4= .n (numOf x)/\st.mem= {ε:=B.set p (.cells ξ),η:=[]}) (by simp[h1,h2,h3,h4]) fun s' h=> .inr ⟨by simp,.inl ⟨rfl,.inl ⟨rfl,h⟩⟩⟩
end
attribute [local simp] zx AK Ay ζ.fK
section
variable{s:List Nat}{eA:AV}(hs:dJ s)(hl:s.length<1000000000)
include hs hl
theorem f311{k:Nat}(ih:∀a:RS,a.sz<k->iV u (fj s eA) 281 [] (ai s.length k) Ei a)(a:RS)(ha:a.sz<k+1):iV u (fj s eA) 311 [] (lC s.length (ai s.length k)) Ei a:=by
 intro B p cs hp h;have dw:=fun T=>f198 (u:=u) hs hl [40] (by decide) (by simp) hp h T;cases hb:a.aD [40]with
 |true=>
  rw[hb]at dw
  have ji:=jL hb (by simp);obtain⟨_,x1,aW,a1,k1,r1,g1,rfl⟩:=f196 (u:=u) hs hl [40] (by decide) (by simp) a B p cs hp h;have oO:=g1.take ji;obtain⟨_,x,aV,a2,k2,r2,g2,rfl,hx⟩:=ih a1 (by omega) B p aW hp r1;obtain⟨_,x3,aP,a3,k3,r3,g3,rfl⟩:=f196 (u:=u) hs hl [41] (by decide) (by simp) a2 B p aV hp r2;refine⟨.agg x.four,x,aP,a3,kQ (g:=uy) rfl rfl rfl hp rfl ?_,r3,?_,rfl,hx⟩
  ·simp[uy,Bl,aQ,dw,k1,k2,k3];exact hx.zy _ _
  ·refine Δ.as (P:=fun t=>(ak s.length [40] t).bind fun _ t=>(ai s.length k t).bind fun x t=>(ak s.length [41] t).map fun _=>x) (g1.bind (g2.bind (g3.map fun _=>x))) fun t ht=>?_;subst ht;exact if_pos hb
 |false=>
  rw[hb]at dw
  have eI:∀st,a= .r st->st.aD [40]=false:=fun st hs=>by subst hs;exact hb
  have e0:dJ []:=fun b hb=>by cases hb
  have h0:=h;obtain⟨q,wr,la,tk,rfl,hq,ht,h⟩:=h.sW hs hl;have hg:∀cs,(B.set p (θ.cells cs))[p]?=some (.cells cs):=fun cs=>by simp[hp]
  have Aa:∀st,a= .r st->wr<0/\st.kd=tk.kind:=fun st τ=>by
   subst τ;obtain⟨rfl,gY,-⟩:=h;refine⟨by decide,?_⟩;rw[ht];simp only[PS.kd,gY,qA];rcases bP q s.length with ν|cD
   ·rw[if_pos ν];by_cases hk:(dK q (s.drop q)).kind=0<;>simp[hk]
   ·rw[if_neg (by omega),show q=s.length by omega,UW hs hl]
  by_cases hk:wr<0/\tk.kind=2
  ·obtain⟨je,fo⟩:=hk;obtain⟨_,n,aW,a1,k1,r1,g1,rfl,hn⟩:=f199 (u:=u) hs hl a B p _ hp h0;have hx:(ζ.mk 1 n [] .nil []).eD:=⟨⟨.inl rfl,trivial⟩,e0,trivial⟩;refine⟨.agg (ζ.mk 1 n [] .nil []).four,_,aW,a1,kQ (g:=uy) rfl rfl rfl hp rfl ?_,r1,?_,rfl,hx⟩
   ·have:=hx.zy (B.set p (.cells aW)) B.length;simp only[ζ.four,ζ.ψ]at this⊢;have dm:((tk.kind:Int)==2)=true:=beq_iff_eq.2 (by omega);simp[uy,Bl,aQ,hg,dw,k1,je,dm,cX,this]
   ·refine Δ.as (P:=fun t=>(sQ s.length t).map fun n:Nat=>ζ.mk 1 (n:Int) [] .nil []) (g1.map _) fun t nz=>?_;simp[lC,eI t nz,(Aa t nz).2,fo]
  ·obtain⟨_,x,aW,a1,k1,r1,g1,rfl,hn⟩:=f197 (u:=u) hs hl a B p _ hp h0;have hx:(ζ.mk 2 0 x .nil []).eD:=⟨⟨.inl rfl,trivial⟩,hn,trivial⟩;refine⟨.agg (ζ.mk 2 0 x .nil []).four,_,aW,a1,kQ (g:=uy) rfl rfl rfl hp rfl ?_,r1,?_,rfl,hx⟩
   ·have:=hx.zy (B.set p (.cells aW)) B.length;simp only[ζ.four,ζ.ψ]at this⊢;by_cases je:wr<0
    ·have dm:((tk.kind:Int)==2)=false:=beq_eq_false_iff_ne.2 (fun h=>hk ⟨je,by omega⟩);simp[uy,Bl,aQ,hg,dw,k1,je,dm,cX,this]
    ·simp[uy,Bl,aQ,hg,dw,k1,je,cX,this]
   ·refine Δ.as (P:=fun t=>(fU s.length t).map fun n=>ζ.mk 2 0 n .nil []) (g1.map _) fun t nz=>?_;have:¬tk.kind=2:=fun h=>hk ⟨(Aa t nz).1,h⟩;simp[lC,eI t nz,(Aa t nz).2,this]
theorem f300{k:Nat}(ih:∀a:RS,a.sz<k->iV u (fj s eA) 281 [] (ai s.length k) Ei a)(a:RS)(ha:a.sz<k+1):iV u (fj s eA) 300 [] (tY s.length (lC s.length (ai s.length k))) Ei a:=by
 intro B p cs hp h;have Db:=fun a ha=>f311 (u:=u) hs hl ih a ha;have jB:=BG s.length (fl s.length k);generalize hA:lC s.length (ai s.length k)=A at*;obtain⟨_,x1,aW,a1,k1,r1,g1,rfl,kM⟩:=Db a ha B p cs hp h;have oO:=g1.sz jB;let F:ζ->PS->R ζ:=fun x t=>(ak s.length [42] t).bind fun _ t=>(A t).map fun y=> .mk 5 0 [] .any [x,y];let cc:PS->Bool:=fun t=>t.aD [42];suffices hm:∃x ξ b,(∀T,kf u 300 [.μ p 0] {ε:=B.set p (.cells cs),η:=T}=some (.agg x.four,{ε:=B.set p (.cells ξ),η:=T}))/\fj s eA ξ b/\Δ (cK cc F (a1.sz+1) x1) a1 x b/\x.eD by obtain⟨x,ξ,b,m1,m2,m3,m4⟩:=hm;exact⟨_,x,ξ,b,m1,m2,g1.bind (Q:=fun x t=>cK cc F (t.l.length+1) x t) m3.fuel,rfl,m4⟩
 have dy:κ (C u).gl (aS (C u)) Ps {env:=[.μ p 0],loc:=[],mem:= {ε:=B.set p (.cells cs),η:=[]}} fun r=>(∀i,r.1≠ .exit i)/\∃L x ξ b,r.2.mem= {ε:=B.set p (.cells ξ),η:=[]}/\bq r.2.env 2= .Ω 2 0 0/\bT r.2.loc 2=some (0,.cells L)/\bJ L x.four/\fj s eA ξ b/\Δ (cK cc F (a1.sz+1) x1) a1 x b/\x.eD:=by
  refine χ (fun st=>st.e 0= .μ p 0/\st.e 2= .Ω 2 0 0/\(∃z,st.q 2=some (0,.cells z)/\z.length=4)/\st.q 3=none/\st.mem= {ε:=B.set p (.cells cs),η:=[]}) (by simp[aQ]) fun s1 ⟨h1,h2,⟨z,h3,hz⟩,h4,h5⟩=>?_;let I:Nat->St->Prop:=fun i st=>st.e 0= .μ p 0/\st.e 2= .Ω 2 0 0/\(∃z,st.q 2=some (0,.cells z)/\z.length=4)/\st.e 3= .Ω 3 0 0/\∃L x ξ b,st.q 3=some (0,.cells L)/\st.mem= {ε:=B.set p (.cells ξ),η:=[]}/\bJ L x.four/\fj s eA ξ b/\x.eD/\b.sz+i<=a1.sz∧
   ∀y b',Δ (cK cc F (a1.sz+1-i) x) b y b'->Δ (cK cc F (a1.sz+1) x1) a1 y b'
  refine χ (I 0) (by
   simp[aQ,h1,h2,h3,hz,h4,h5,k1]
   exact⟨by simp[h1],by simp[h2],⟨z,by simp[h3],hz⟩,by simp,x1.four,x1,aW,a1,by simp,rfl,iL kM,r1,kM,bQ _,fun _ _ h=>h⟩) fun s1 hI=>?_
  refine aZ (fun st=>st.e 2= .Ω 2 0 0/\(∃z,st.q 2=some (0,.cells z)/\z.length=4)/\st.e 3= .Ω 3 0 0/\∃L x ξ b,st.q 3=some (0,.cells L)/\st.mem= {ε:=B.set p (.cells ξ),η:=[]}/\bJ L x.four/\fj s eA ξ b/\x.eD/\Δ (cK cc F (a1.sz+1) x1) a1 x b) ?_ fun s2 ⟨h2,⟨z,h3,hz⟩,h4,L,x,ξ,b,h5,h6,hL,h7,h8,h9⟩=>?_
  ·refine κ.block (κ.ki (I:=I) a1.sz hI fun i st hi τ=>?_);obtain⟨h1,h2,⟨z,h3,hz⟩,h4,L,x,ξ,b,h5,h6,hL,h7,h8,h9,aG⟩:=τ;have dw:=fun T=>f198 (u:=u) hs hl [42] (by decide) (by simp) hp h7 T;unfold SX;have l_:a1.sz+1-i=(a1.sz-i)+1:=by omega
   rw[l_]at aG;cases hb:b.aD [42]with
   |false=>
    rw[hb]at dw
    refine κ.done (.exit 0) (fun st=>st.e 2= .Ω 2 0 0/\st.q 2=some (0,.cells z)/\st.e 3= .Ω 3 0 0/\st.q 3=some (0,.cells L)/\st.mem= {ε:=B.set p (.cells ξ),η:=[]}) (by simp[h1,h2,h3,h4,h5,h6,dw]) fun s' ⟨m1,m2,m3,m4,m5⟩=> .inr ⟨by simp,.inl ⟨rfl,.inl ⟨rfl,m1,⟨z,m2,hz⟩,m3,L,x,ξ,b,m4,m5,hL,h7,h8,aG x b (Δ.u3 hb)⟩⟩⟩
   |true=>
    rw[hb]at dw
    have ji:=jL hb (by simp);obtain⟨_,w,aV,b2,k2,r2,g2,rfl⟩:=f196 (u:=u) hs hl [42] (by decide) (by simp) b B p ξ hp h7;have mf:=g2.take ji;obtain⟨_,y,aP,b3,k3,r3,g3,rfl,hy⟩:=Db b2 (by omega) B p aV hp r2;have yd:=g3.sz jB;have hx:(ζ.mk 5 0 [] .any [x,y]).eD:=⟨⟨.inr rfl,h8.1,hy.1,trivial⟩,pE,h8.2,hy.2,trivial⟩;have eh:L.length=4:=by rw[hL.len,x.fK]
    have eH:L.take 4=L:=dY (by omega);have dv:shaped true 4 (.agg L)=true:=by simp[shaped,eh]
    have xL:bJ [.n 5,.n 0,.str [],.list .full [.agg L,.agg y.four]] (ζ.mk 5 0 [] .any [x,y]).four:=by simp only[ζ.four,ζ.ψ,ζ.gA];exact .cons (.int _ _) (.cons (.int _ _) (.cons (.str _) (.cons (.list .full (.cons (.agg hL) (.cons (.agg (iL hy)) .nil))) .nil)))
    refine κ.done .normal (fun st=>st.e 0= .μ p 0/\st.e 2= .Ω 2 0 0/\st.q 2=some (0,.cells z)/\st.e 3= .Ω 3 0 0/\st.q 3=some (0,.cells [.n 5,.n 0,.str [],.list .full [.agg L,.agg y.four]])/\st.mem= {ε:=B.set p (.cells aP),η:=[]}) (by simp[h1,h2,h3,h4,h5,h6,dw,k2,k3,cX,b_,cj,dG,eh,eH,dv,bJ.rq hL]) fun s' ⟨m1,m2,m3,m4,m5,m6⟩=> .inl ⟨rfl,by omega,m1,m2,⟨z,m3,hz⟩,m4,_,_,aP,b3,m5,m6,xL,r3,hx,by omega,fun y' b' hg=>aG y' b' (Δ.u4 hb (g2.bind (g3.map _)) (by rw[show a1.sz+1-(i+1)=a1.sz-i by omega]at hg;exact hg))⟩
  ·have eh:L.length=4:=by rw[hL.len,x.fK]
   have eH:L.take 4=L:=dY (by omega);refine κ.done .ret (fun st=>st.e 2= .Ω 2 0 0/\st.q 2=some (0,.cells L)/\st.mem= {ε:=B.set p (.cells ξ),η:=[]}) (by simp[h2,h3,h4,h5,h6,hz,eh,eH]) fun s' ⟨m1,m2,m3⟩=>⟨by simp,L,x,ξ,b,m3,m1,m2,hL,h7,h9,h8⟩
 obtain⟨r,e1,e2,L,x,ξ,b,e3,e4,e5,hL,e6,e7,e8⟩:=dy;have eh:L.length=4:=by rw[hL.len,x.fK]
 have eH:L.take 4=L:=dY (by omega);exact⟨x,ξ,b,kQ (g:=Gs) rfl rfl rfl hp rfl ⟨r,e1,e2,⟨[],by simp[e3]⟩,[.agg L],by simp[Gs,e4,e5,eh,eH],(Dv.agg hL).ax _ _ _⟩,e6,e7,e8⟩
theorem f281{k:Nat}(ih:∀a:RS,a.sz<k->iV u (fj s eA) 281 [] (ai s.length k) Ei a)(a:RS)(ha:a.sz<k+1):iV u (fj s eA) 281 [] (ai s.length (k+1)) Ei a:=by
 intro B p cs hp h;have Db:=fun a ha=>f300 (u:=u) hs hl ih a ha;have jB:=JF s.length (BG s.length (fl s.length k));show∃v x ξ b,_/\_/\Δ (AR s.length (tY s.length (lC s.length (ai s.length k)))) a x b/\_;generalize hA:tY s.length (lC s.length (ai s.length k))=A at*;obtain⟨_,x1,aW,a1,k1,r1,g1,rfl,kM⟩:=Db a ha B p cs hp h;have oO:=g1.sz jB;let F:ζ->PS->R ζ:=fun x t=>(ak s.length t.hd t).bind fun w t=>(A t).map fun y=> .mk (if w=[45]then 4 else 3) 0 [] .any [x,y];let cc:PS->Bool:=fun t=>t.aD [43]||t.aD [45];suffices hm:∃x ξ b,(∀T,kf u 281 [.μ p 0] {ε:=B.set p (.cells cs),η:=T}=some (.agg x.four,{ε:=B.set p (.cells ξ),η:=T}))/\fj s eA ξ b/\Δ (cK cc F (a1.sz+1) x1) a1 x b/\x.eD by obtain⟨x,ξ,b,m1,m2,m3,m4⟩:=hm;exact⟨_,x,ξ,b,m1,m2,g1.bind (Q:=fun x t=>cK cc F (t.l.length+1) x t) m3.fuel,rfl,m4⟩
 have dy:κ (C u).gl (aS (C u)) Pk {env:=[.μ p 0],loc:=[],mem:= {ε:=B.set p (.cells cs),η:=[]}} fun r=>(∀i,r.1≠ .exit i)/\∃L x ξ b,r.2.mem= {ε:=B.set p (.cells ξ),η:=[]}/\bq r.2.env 2= .Ω 2 0 0/\bT r.2.loc 2=some (0,.cells L)/\bJ L x.four/\fj s eA ξ b/\Δ (cK cc F (a1.sz+1) x1) a1 x b/\x.eD:=by
  refine χ (fun st=>st.e 0= .μ p 0/\st.e 2= .Ω 2 0 0/\(∃z,st.q 2=some (0,.cells z)/\z.length=4)/\st.q 3=none/\st.mem= {ε:=B.set p (.cells cs),η:=[]}) (by simp[aQ]) fun s1 ⟨h1,h2,⟨z,h3,hz⟩,h4,h5⟩=>?_;let I:Nat->St->Prop:=fun i st=>st.e 0= .μ p 0/\st.e 2= .Ω 2 0 0/\(∃z,st.q 2=some (0,.cells z)/\z.length=4)/\st.e 3= .Ω 3 0 0/\∃L x ξ b,st.q 3=some (0,.cells L)/\st.mem= {ε:=B.set p (.cells ξ),η:=[]}/\bJ L x.four/\fj s eA ξ b/\x.eD/\b.sz+i<=a1.sz∧
   ∀y b',Δ (cK cc F (a1.sz+1-i) x) b y b'->Δ (cK cc F (a1.sz+1) x1) a1 y b'
  refine χ (I 0) (by
   simp[aQ,h1,h2,h3,hz,h4,h5,k1]
   exact⟨by simp[h1],by simp[h2],⟨z,by simp[h3],hz⟩,by simp,x1.four,x1,aW,a1,by simp,rfl,iL kM,r1,kM,bQ _,fun _ _ h=>h⟩) fun s1 hI=>?_
  refine aZ (fun st=>st.e 2= .Ω 2 0 0/\(∃z,st.q 2=some (0,.cells z)/\z.length=4)/\st.e 3= .Ω 3 0 0/\∃L x ξ b,st.q 3=some (0,.cells L)/\st.mem= {ε:=B.set p (.cells ξ),η:=[]}/\bJ L x.four/\fj s eA ξ b/\x.eD/\Δ (cK cc F (a1.sz+1) x1) a1 x b) ?_ fun s2 ⟨h2,⟨z,h3,hz⟩,h4,L,x,ξ,b,h5,h6,hL,h7,h8,h9⟩=>?_
  ·refine κ.block (κ.ki (I:=I) a1.sz hI fun i st hi τ=>?_);obtain⟨h1,h2,⟨z,h3,hz⟩,h4,L,x,ξ,b,h5,h6,hL,h7,h8,h9,aG⟩:=τ;have dw:=fun T=>f198 (u:=u) hs hl [43] (by decide) (by simp) hp h7 T;have jH:=fun T=>f198 (u:=u) hs hl [45] (by decide) (by simp) hp h7 T;unfold SU;have l_:a1.sz+1-i=(a1.sz-i)+1:=by omega
   rw[l_]at aG;have jd:b.rX cc=(b.aD [43]||b.aD [45]):=by cases b<;>rfl
   cases hb:(b.aD [43]||b.aD [45])with
   |false=>
    obtain⟨bR,dt⟩:=Bool.or_eq_false_iff.1 hb
    rw[bR]at dw;rw[dt]at jH;refine κ.done (.exit 0) (fun st=>st.e 2= .Ω 2 0 0/\st.q 2=some (0,.cells z)/\st.e 3= .Ω 3 0 0/\st.q 3=some (0,.cells L)/\st.mem= {ε:=B.set p (.cells ξ),η:=[]}) (by simp[h1,h2,h3,h4,h5,h6,dw,jH]) fun s' ⟨m1,m2,m3,m4,m5⟩=> .inr ⟨by simp,.inl ⟨rfl,.inl ⟨rfl,m1,⟨z,m2,hz⟩,m3,L,x,ξ,b,m4,m5,hL,h7,h8,aG x b (Δ.u3 (jd.trans hb))⟩⟩⟩
   |true=>
    have ji:0<b.sz:=by
     rcases Bool.or_eq_true_iff.1 hb with h|h
     ·exact jL h (by simp)
     ·exact jL h (by simp)
    obtain⟨w,aV,b2,k2,r2,g2,-⟩:=f236 (u:=u) hs hl true (fun t=>t.text==b.hd) hp h7 (fun st t l ha τ=>by subst ha;simp[RS.hd,PS.hd,τ]);have mf:=g2.take ji;obtain⟨_,y,aP,b3,k3,r3,g3,rfl,hy⟩:=Db b2 (by omega) B p aV hp r2;have yd:=g3.sz jB;have eh:L.length=4:=by rw[hL.len,x.fK]
    have eH:L.take 4=L:=dY (by omega);have dv:shaped true 4 (.agg L)=true:=by simp[shaped,eh]
    obtain⟨K,hK⟩:∃K:Int,K=if w=[45]then 4 else 3:=⟨_,rfl⟩;have step:Δ (F x) b (.mk K 0 [] .any [x,y]) b3:=by subst hK;exact Δ.as (P:=fun t=>(gR s.length (fun t=>t.text==b.hd) t).bind fun w t=>(A t).map fun y=>ζ.mk (if w=[45]then 4 else 3) 0 [] .any [x,y]) (g2.bind (Q:=fun w t=>(A t).map fun y=>ζ.mk (if w=[45]then 4 else 3) 0 [] .any [x,y]) (g3.map _)) fun t ht=>by subst ht;rfl
    have hx:(ζ.mk K 0 [] .any [x,y]).eD:=⟨⟨.inr rfl,h8.1,hy.1,trivial⟩,pE,h8.2,hy.2,trivial⟩;have xL:bJ [.n K,.n 0,.str [],.list .full [.agg L,.agg y.four]] (ζ.mk K 0 [] .any [x,y]).four:=by simp only[ζ.four,ζ.ψ,ζ.gA];exact .cons (.int _ _) (.cons (.int _ _) (.cons (.str _) (.cons (.list .full (.cons (.agg hL) (.cons (.agg (iL hy)) .nil))) .nil)))
    refine κ.done .normal (fun st=>st.e 0= .μ p 0/\st.e 2= .Ω 2 0 0/\st.q 2=some (0,.cells z)/\st.e 3= .Ω 3 0 0/\st.q 3=some (0,.cells [.n K,.n 0,.str [],.list .full [.agg L,.agg y.four]])/\st.mem= {ε:=B.set p (.cells aP),η:=[]}) (by
     subst hK
     by_cases hw:w=[45]
     ·cases bR:b.aD [43]with
      |true=>rw[bR]at dw;simp[h1,h2,h3,h4,h5,h6,dw,k2,k3,hw,cX,b_,cj,dG,eh,eH,dv,bJ.rq hL]
      |false=>rw[bR]at dw;rw[bR,ahU]at hb;rw[hb]at jH;simp[h1,h2,h3,h4,h5,h6,dw,jH,k2,k3,hw,cX,b_,cj,dG,eh,eH,dv,bJ.rq hL]
     ·cases bR:b.aD [43]with
      |true=>rw[bR]at dw;simp[h1,h2,h3,h4,h5,h6,dw,k2,k3,hw,cX,b_,cj,dG,eh,eH,dv,bJ.rq hL]
      |false=>rw[bR]at dw;rw[bR,ahU]at hb;rw[hb]at jH;simp[h1,h2,h3,h4,h5,h6,dw,jH,k2,k3,hw,cX,b_,cj,dG,eh,eH,dv,bJ.rq hL]) fun s' ⟨m1,m2,m3,m4,m5,m6⟩=> .inl ⟨rfl,by omega,m1,m2,⟨z,m3,hz⟩,m4,_,_,aP,b3,m5,m6,xL,r3,hx,by omega,fun y' b' hg=>aG y' b' (Δ.u4 (jd.trans hb) step (by rw[show a1.sz+1-(i+1)=a1.sz-i by omega]at hg;exact hg))⟩
  ·have eh:L.length=4:=by rw[hL.len,x.fK]
   have eH:L.take 4=L:=dY (by omega);refine κ.done .ret (fun st=>st.e 2= .Ω 2 0 0/\st.q 2=some (0,.cells L)/\st.mem= {ε:=B.set p (.cells ξ),η:=[]}) (by simp[h2,h3,h4,h5,h6,hz,eh,eH]) fun s' ⟨m1,m2,m3⟩=>⟨by simp,L,x,ξ,b,m3,m1,m2,hL,h7,h9,h8⟩
 obtain⟨r,e1,e2,L,x,ξ,b,e3,e4,e5,hL,e6,e7,e8⟩:=dy;have eh:L.length=4:=by rw[hL.len,x.fK]
 have eH:L.take 4=L:=dY (by omega);exact⟨x,ξ,b,kQ (g:=Gi) rfl rfl rfl hp rfl ⟨r,e1,e2,⟨[],by simp[e3]⟩,[.agg L],by simp[Gi,e4,e5,eh,eH],(Dv.agg hL).ax _ _ _⟩,e6,e7,e8⟩
theorem Ao:∀(k:Nat) (a:RS),a.sz<k->iV u (fj s eA) 281 [] (ai s.length k) Ei a
 |0,_,h=>by omega
 |k+1,a,h=>f281 hs hl (fun a h=>Ao k a h) a h
theorem f280{k:Nat}(a:RS)(ha:a.sz<k):iV u (fj s eA) 280 [] (sX s.length (ai s.length k)) (fun x v=>v= .aO [.str x.1,.agg x.2.four]/\dJ x.1/\x.2.eD) a:=by intro B p cs hp h;obtain⟨_,n,aW,a1,k1,r1,g1,rfl,hn⟩:=f197 (u:=u) hs hl a B p cs hp h;have s1:=g1.sz (jx _);obtain⟨_,w1,aV,a2,k2,r2,g2,rfl⟩:=f196 (u:=u) hs hl [91] (by decide) (by simp) a1 B p aW hp r1;have s2:=g2.sz (cI _ _);obtain⟨_,x,aP,a3,k3,r3,g3,rfl,hx⟩:=Ao (u:=u) hs hl k a2 (by omega) B p aV hp r2;obtain⟨_,w2,dT,a4,k4,r4,g4,rfl⟩:=f196 (u:=u) hs hl [93] (by decide) (by simp) a3 B p aP hp r3;refine⟨_,(n,x),dT,a4,kQ (g:=Gg) rfl rfl rfl hp rfl ?_,r4,g1.bind (Q:=fun n s'=>(ak s.length [91] s').bind fun _ s'=>(ai s.length k s').bind fun x s'=>(ak s.length [93] s').map fun _=>(n,x)) (g2.bind (Q:=fun _ s'=>(ai s.length k s').bind fun x s'=>(ak s.length [93] s').map fun _=>(n,x)) (g3.bind (Q:=fun x s'=>(ak s.length [93] s').map fun _=>(n,x)) (g4.map fun _=>(n,x)))),rfl,hn,hx⟩;simp[Gg,Pj,aQ,k1,k2,k3,k4];exact(Dv.aO (.cons (.str n) (.cons (.agg (iL hx)) .nil))).ax _ _ _
theorem f279{k:Nat}(a:RS)(ha:a.sz<k):iV u (fj s eA) 279 [] (gQ s.length (ai s.length k)) Ep a:=by
 intro B p cs hp h;obtain⟨_,n,aW,a1,k1,r1,g1,rfl,hn⟩:=f197 (u:=u) hs hl a B p cs hp h;have s1:=g1.sz (jx _);have dw:=fun T=>f198 (u:=u) hs hl [91] (by decide) (by simp) hp r1 T;cases hb:a1.aD [91]with
 |false=>
  rw[hb]at dw
  have eI:∀st,a1= .r st->st.aD [91]=false:=fun st hs=>by subst hs;exact hb
  refine⟨_,⟨n,.nil,[]⟩,aW,a1,kQ (g:=vL) rfl rfl rfl hp rfl ?_,r1,g1.bind (Δ.as (Δ.pure _ _) fun st hs=>by simp[eI st hs]),rfl,hn,.inl rfl,by simp⟩;simp[vL,D0,aQ,k1,dw,cX];rfl
 |true=>
  rw[hb]at dw
  obtain⟨_,w1,aV,a2,k2,r2,g2,rfl⟩:=f196 (u:=u) hs hl [91] (by decide) (by simp) a1 B p aW hp r1;have s2:=g2.sz (cI _ _);obtain⟨_,x,aP,a3,k3,r3,g3,rfl,hx⟩:=Ao (u:=u) hs hl k a2 (by omega) B p aV hp r2;have s3:=g3.sz (fl _ _);have e0:∀i cs,(B++[θ.front i 4 27]).set p (.cells cs)=B.set p (.cells cs)++[.front i 4 27]:=fun i cs=>lW _ _ hp;have nx:∀i,p<(B++[θ.front i 4 27]).length:=fun i=>by simp;omega
  have jH:=fun T=>f198 (u:=u) hs hl [58] (by decide) (by simp) (B:=B++[.front 1 4 27]) (nx 1) r3 T;simp only[e0]at jH;have qX:=fun T=>NT {ε:=B.set p (.cells aP),η:=T} x.fK (Dv.agg (iL hx)).ρ;simp only[ft,Mem.push]at qX;cases dt:a3.aD [58]with
  |false=>
   rw[dt]at jH
   have eI:∀st,a3= .r st->st.aD [58]=false:=fun st hs=>by subst hs;exact dt
   obtain⟨_,w2,dT,a4,k4,r4,g4,rfl⟩:=f196 (u:=u) hs hl [93] (by decide) (by simp) a3 (B++[.front 1 4 27]) p aP (nx 1) r3;simp only[e0]at k4;have cm:(⟨n,.any,[x]⟩:φ).Ok:=⟨hn,.inr rfl,by simpa using hx⟩;refine⟨_,⟨n,.any,[x]⟩,dT,a4,kQ (g:=vL) rfl rfl rfl hp rfl ?_,r4,?_,rfl,cm⟩
   ·simp[vL,D0,aQ,k1,k2,k3,k4,dw,jH,cX,qX,b_,cj,dG];exact(Dv.agg (.cons (.str n) (.cons (.list _ (.cons (.agg (iL hx)) .nil)) .nil))).ax _ _ _|>.trans (by simp[φ.av,ζ.gA,Γ.exp])
   ·refine g1.bind (Δ.as (P:=fun t=>(ak s.length [91] t).bind fun _ t=>(ai s.length k t).bind fun x t=>(if t.aD [58]then(ak s.length [58] t).bind fun _ t=>(ai s.length k t).map fun y=>[x,y]else .ok [x] t).bind fun l t=>(ak s.length [93] t).map fun _=>⟨n,.any,l⟩) ?_ fun st hs=>by subst hs;exact if_pos hb);exact g2.bind (g3.bind (Δ.bind (Δ.as (Δ.pure [x] a3) fun st hs=>by simp[eI st hs]) (g4.map fun _=>_)))
  |true=>
   rw[dt]at jH
   obtain⟨_,w2,dT,a4,k4,r4,g4,rfl⟩:=f196 (u:=u) hs hl [58] (by decide) (by simp) a3 (B++[.front 1 4 27]) p aP (nx 1) r3;have s4:=g4.sz (cI _ _);obtain⟨_,y,ie,a5,k5,r5,g5,rfl,hy⟩:=Ao (u:=u) hs hl k a4 (by omega) (B++[.front 1 4 27]) p dT (nx 1) r4;obtain⟨_,w3,ox,a6,k6,r6,g6,rfl⟩:=f196 (u:=u) hs hl [93] (by decide) (by simp) a5 (B++[.front 2 4 27]) p ie (nx 2) r5;simp only[e0]at k4 k5 k6;have uC:=fun T=>NU (B.set p (.cells ie)) T x.fK y.fK (Dv.agg (iL hy)).ρ;simp only[ft]at uC;have cm:(⟨n,.any,[x,y]⟩:φ).Ok:=⟨hn,.inr rfl,by simpa using⟨hx,hy⟩⟩;refine⟨_,⟨n,.any,[x,y]⟩,ox,a6,kQ (g:=vL) rfl rfl rfl hp rfl ?_,r6,?_,rfl,cm⟩
   ·simp[vL,D0,aQ,k1,k2,k3,k4,k5,k6,dw,jH,cX,qX,uC,b_,cj,dG];exact(Dv.agg (.cons (.str n) (.cons (.list _ (.cons (.agg (iL hx)) (.cons (.agg (iL hy)) .nil))) .nil))).ax _ _ _|>.trans (by simp[φ.av,ζ.gA,Γ.exp])
   ·refine g1.bind (Δ.as (P:=fun t=>(ak s.length [91] t).bind fun _ t=>(ai s.length k t).bind fun x t=>(if t.aD [58]then(ak s.length [58] t).bind fun _ t=>(ai s.length k t).map fun y=>[x,y]else .ok [x] t).bind fun l t=>(ak s.length [93] t).map fun _=>⟨n,.any,l⟩) ?_ fun st hs=>by subst hs;exact if_pos hb);exact g2.bind (g3.bind (Δ.bind (Δ.as (P:=fun t=>(ak s.length [58] t).bind fun _ t=>(ai s.length k t).map fun y=>[x,y]) (g4.bind (g5.map fun y=>[x,y])) fun st hs=>by subst hs;exact if_pos dt) (g6.map fun _=>_)))
end
end Go.ab.Tz
namespace Go.ab
theorem Δ.bd{α:Type}{P:PS->R α}{a b:RS}{x:α}(h:Δ P a x b)(k:df P):b.sz+a.bad<=a.sz+b.bad:=by
 have:=h.sz k;cases a with
 |w w=>simp only[Δ]at h;subst h;simp[RS.sz,RS.bad]
 |r s=>cases b<;>simp[RS.bad]<;>omega
theorem Δ.jK{α:Type}{P:PS->R α}{a b:RS}{x:α}(h:Δ P a x b)(k:cU P)(ha:a.bad=0):b.sz+1<=a.sz+b.bad:=by
 have:=h.sz k.nk;cases a with
 |w w=>cases ha
 |r s=>
  cases b with
  |w w=>simp[RS.sz,RS.bad]
  |r t=>
   simp only[Δ]at h
   cases hp:P s with
   |no w=>rw[hp]at h;cases h
   |ok y t'=>
    rw[hp]at h
    obtain⟨_,ht⟩:=h;cases ht;have:=k _ _ _ hp;simp only[RS.sz,RS.bad];omega
theorem Δ.span{e:Nat}{P:PS->R (δ×List (List Sp))}{a b:RS}{x:δ×List (List Sp)}(h:Δ P a x b):∃sp,Δ (ub e P) a (x.1,sp) b:=by
 cases a with
 |w w=>exact⟨.mk 0 0 [],h⟩
 |r s=>
  simp only[Δ,ub]at h⊢
  cases hp:P s with
  |no w=>rw[hp]at h;exact⟨.mk 0 0 [],h⟩
  |ok y t=>
   rw[hp]at h
   obtain⟨rfl,rfl⟩:=h;exact⟨_,rfl,rfl⟩
namespace Tz
open Go.ab
variable{u:Nat}
attribute [local simp] exec eG eu fz aF d_ fQ fe bq gN bT gF gS hU hZ mD AV.cells newVar hH rd wr gg single fy bF er dL κ bf RV.get ba dU jy
attribute [local simp] Sh.mh Sh.mg Sh.lh Sh.lg Sh.th Sh.tg Sh.fh Sh.fg Sh.bx Sh.nc Sh.si Sh.cs Sh.as Sh.b Sh.bk Sh.cl Sh.i Sh.q Sh.y Sh.x Sh.ap Sh.aq Sh.al Sh.z Sh.e Sh.n Sh.nt Sh.s Sh.k Sh.m Sh.l Sh.lt Sh.f Sh.mi Sh.c1 Sh.c2 Sh.st Sh.bi Sh.bt Sh.ia Sh.an Sh.oo Sh.ln Sh.ex Sh.mc Sh.ju Sh.z4 Sh.o Sh.og Sh.oh
attribute [local simp] vg u6 zx AK Ay ζ.fK
theorem X8{i:Nat}{w:List Nat}(hi:i<12)(h:bu.getD i []=w)(hj:∀j,j<i->bu.getD j []≠w):eY w=i+1:=by
 have hl:i<bu.length:=hi;have e:∀j (h:j<bu.length),bu.getD j []=bu[j]:=fun j h=>by rw[kT,eo h];rfl
 have:bu.findIdx? (fun x=>x==w)=some i:=by rw[List.findIdx?_eq_some_iff_getElem];refine⟨hl,by rw[<-e i hl,h];simp,fun j jD=>?_⟩;have:=hj j jD;rw[e j (by omega)]at this;simpa using this
 rw[eY,this]
theorem X9{w:List Nat}(hj:∀j,j<12->bu.getD j []≠w):eY w=0:=by
 have:bu.findIdx? (fun x=>x==w)=none:=by rw[List.findIdx?_eq_none_iff];intro x hx;obtain⟨j,h,rfl⟩:=List.getElem_of_mem hx;have:=hj j h;rw[kT,eo h]at this;simpa using this
 rw[eY,this]
def xD(a:RS):Nat:=match a with
 | .r st=>eY st.hd
 | .w _=>0
def dj(l:List Nat):List AV:=l.map fun n:Nat=> .n (n:Int)
theorem Sg(l:List Nat):(dj l).all (shaped false 1)=true:=by simp[dj,List.all_map,shaped,AV.one,Function.comp]
theorem aaU(l:List Nat):(dj l).map ρ=dj l:=by simp[dj,ρ,Function.comp]
theorem MD{B ext:List θ}{cp:Γ}{l:List Nat}(v:Nat)(hl:l.length<5000000000):
  ∃c1 sg c2 l4,(∀T,gL {ε:=B++ext,η:=T} false 1 8 3 (.list .full []) (.list cp (dj l))=some (.list c1 (dj l),{ε:=B++sg,η:=T}))∧
   (∀T,gL {ε:=B++sg,η:=T} false 1 8 3 (.list c1 (dj l)) (.list .full [.n v])=some (.list c2 (dj (l++[v])),{ε:=B++l4,η:=T}))∧
   ∃y,l4=ext++y:=by
 have wb:(dj l).length=l.length:=by simp[dj]
 have iy:dj (l++[v])=dj l++[.n v]:=by simp[dj]
 obtain⟨c1,sg,h1,sG,je⟩:∃c1 sg,(∀T,gL {ε:=B++ext,η:=T} false 1 8 3 (.list .full []) (.list cp (dj l))=some (.list c1 (dj l),{ε:=B++sg,η:=T}))/\Row (B++ext).length (B++sg) 1 3 c1 (dj l).length/\∃y,sg=ext++y:=by
  cases l with
  |nil=>exact⟨.full,ext,fun T=>by simp[gL,dj],Row.full,[],by simp⟩
  |cons a l=>
   have h0:=Sg (a::l)
   have h3:=aaU (a::l);refine⟨.own (B++ext).length,ext++[.front (a::l).length 1 3],fun T=>?_,.inr ⟨_,rfl,bQ _,?_⟩,_,rfl⟩
   ·have e1:dj (a::l)= .n a::dj l:=rfl;simp only[dO]at hl;have e2:(dj l).length=l.length:=by simp[dj]
    rw[e1]at h0 h3⊢;have hn:(AV.n a::dj l).map (Mem.ρ {ε:=B++ext,η:=T})= .n a::dj l:=h3;unfold gL;have q1:(([]:List AV).length+(AV.n a::dj l).length)*8<=140737488355328:=by simp[e2];omega
    have q2:([]:List AV).length+(AV.n a::dj l).length<=140737488355328:=by simp[e2];omega
    have q3:([]:List AV).all (shaped false 1)=true:=rfl;simp only[h0,q3,q1,q2,decide_true,vq,if_true,show(0<1)=True by simp,hn,cO,Mem.push,cr];simp[e2]
   ·rw[<-cr,wb];simp
 obtain⟨y1,rfl⟩:=je;have aaw:Row (B++ext).length ((B++ext)++y1) 1 3 c1 (dj l).length:=by rw[cr];exact sG
 obtain⟨c2,y2,h2,Ah,zZ⟩:=oT (bytes:=8) aaw (Sg l) (show shaped false 1 (.n (v:Int))=true by rfl) (show ρ (.n (v:Int))=_ by rfl) (by omega) (by rw[wb];omega) (by rw[wb];omega);exact⟨c1,ext++y1,c2,ext++y2,h1,fun T=>by rw[iy];have:=h2 T;simpa only[cr]using this,y2,rfl⟩
theorem vf{n:Nat}{B ext:List θ}{ag:Bool}{sz bytes:Nat}{e:TypeId}{c:Γ}{l:List AV}{v:AV}(q_:B.length<=n)(h:Row n (B++ext) sz e c l.length)(dM:n<=(B++ext).length)(hl:l.all (shaped ag sz)=true)(hv:shaped ag sz v=true)(hn:ρ v=v)
  (hs:0<sz) (hb:(l.length+1)*bytes<=140737488355328) (aX:l.length+1<=140737488355328):
  ∃c' ext',(∀T,gL {ε:=B++ext,η:=T} ag sz bytes e (.list c l) (.list .full [v])=some (.list c' (l++[v]),{ε:=B++ext',η:=T}))/\Row n (B++ext') sz e c' (l.length+1)/\(∀ff e' c' k',e'≠e->Row B.length (B++ext) ff e' c' k'->Row B.length (B++ext') ff e' c' k')/\ext.length<=ext'.length/\∀t,t<n->(B++ext')[t]?=(B++ext)[t]?:=by
 have hB:Row B.length (B++ext) sz e c l.length:=by
  rcases h with h|⟨t,h1,h2,h3⟩
  ·exact .inl h
  ·exact .inr ⟨t,h1,by omega,h3⟩
 obtain⟨c',ext',h1,h2,h3⟩:=oT (bytes:=bytes) hB hl hv hn hs hb aX;rcases h with⟨hc,h0⟩|⟨t,rfl,ht,hr⟩
 ·have:l=[]:=lU h0;subst this;have q1:bytes<=140737488355328:=by simpa using hb
  have e1:gL {ε:=B++ext,η:=[]} ag sz bytes e (.list c []) (.list .full [v])=some (.list (.own (B.length+ext.length)) [v],{ε:=B++(ext++[.front 1 sz e]),η:=[]}):=by rcases hc with rfl|rfl<;>simp[gL,hv,hs,Mem.push,Mem.ρ,hn,q1]
  have e2:=h1 [];rw[e1]at e2;simp only[bj,aL,AV.list.injEq,Mem.mk.injEq,and_true,cO]at e2;obtain⟨rfl,e3⟩:=e2;have e4:ext'=ext++[.front 1 sz e]:=(ahW e3).symm;subst e4;refine⟨_,_,h1,.inr ⟨_,rfl,by simp at dM;omega,?_⟩,h3.rows,by simp,fun t ht=>?_⟩
  ·rw[<-cr];have:B.length+ext.length=(B++ext).length:=by simp
   rw[this];simp
  ·rw[<-cr,List.getElem?_append_left (by omega)]
 ·have wv:=oR hr;have jV:(B++ext).set t (.front (l.length+1) sz e)=B++ext.set (t-B.length) (.front (l.length+1) sz e):=by rw[List.set_append,if_neg (by omega)]
  have e1:gL {ε:=B++ext,η:=[]} ag sz bytes e (.list (.own t) l) (.list .full [v])=some (.list (.own t) (l++[v]),{ε:=B++ext.set (t-B.length) (.front (l.length+1) sz e),η:=[]}):=by simp only[gL];simp only[List.all_cons,hv,List.all_nil,vq,hl,hs,decide_true,dO,List.length_nil,Nat.zero_add,hb,aX,hr,uk,if_true,and_self,List.map_cons,List.map_nil,Mem.ρ,hn,Mem.put,jV]
  have e2:=h1 [];rw[e1]at e2;simp only[bj,aL,AV.list.injEq,Mem.mk.injEq,and_true]at e2;obtain⟨rfl,e3⟩:=e2;have e4:=(ahW e3).symm;subst e4;refine⟨_,_,h1,.inr ⟨t,rfl,ht,?_⟩,h3.rows,by simp,fun t' nz=>?_⟩
  ·rw[<-jV,List.getElem?_set_self wv]
  ·rw[<-jV,List.getElem?_set_ne (by omega)]
section
variable{s:List Nat}{eA:AV}(hs:dJ s)(hl:s.length<1000000000)
include hs hl
theorem f278{B:List θ}{p:Nat}{cs:List AV}{a:RS}(D:List θ)(hp:p<B.length)(h:fj s eA cs a)(T:List Nat):
  kf u 278 [.μ p 0] (aY B p cs D T)=some (.n (xD a),(aY B p cs D T)):=by
 have H6:=fun w hw iA T=>f198 (u:=u) hs hl w hw iA (B:=B++D) (p:=p) (by simp;omega) h T;simp only[lW _ _ hp]at H6;refine bz (g:=BU) rfl rfl rfl ?_;have dV:[AV.μ p 0].map (exp (B.set p (θ.cells cs)++D).length false)=[AV.μ p 0]:=by
  have:p<B.length+D.length:=by omega
  simp[exp,this]
 dsimp only;rw[dV];generalize hX:B.set p (θ.cells cs)++D=X at*;let I:Nat->St->Prop:=fun i st=>st.e 0= .μ p 0/\st.e 3= .n ((i:Int)+1)/\st.mem= {ε:=X,η:=[]}/\∀j,j<i->a.aD (bu.getD j [])=false;have aha:bu.length=12:=rfl;refine χ (fun st=>st.e 0= .μ p 0/\st.mem= {ε:=X,η:=[]}) (by simp) fun s1 ⟨h1,h2⟩=>?_;refine aZ (fun st=>st.mem= {ε:=X,η:=[]}/\∀j,j<12->a.aD (bu.getD j [])=false) ?_ fun s2 ⟨h1,h2⟩=>?_
 ·refine χ (I 0) (by simp[I,h1,h2]) fun s1 hI=>?_;refine κ.block (κ.ki (I:=I) 12 hI fun i st hi τ=>?_);obtain⟨h1,h2,h3,h4⟩:=τ;unfold SQ;rcases bP i 12 with ν|cD
  ·have dE:(i:Int)+1<=12:=by omega
   have MS:=fun m=>f157 (u:=u) (i+1) (by omega) (by omega) m;simp only[Nat.add_sub_cancel,Int.natCast_add,Int.cast_ofNat_Int]at MS;have hw:aT .i64 ((i:Int)+1+1)=((i:Int)+1)+1:=wrap_i64 (by omega) (by omega);have cE:bu.getD i []∈xl:=by rw[kT,eo (by omega)];exact xb _ (xb _ (cz (by omega)))
   have aj:bu.getD i []≠[]:=by
    have:∀i,i<12->bu.getD i []≠[]:=by decide
    exact this i ν
   have q:=H6 _ cE aj [];have pt:∀st,a= .r st->a.aD (bu.getD i [])=(st.hd==bu.getD i []):=fun st h=>by subst h;rfl
   generalize mO:bu.getD i []=wd at*;cases hb:a.aD wd with
   |false=>
    rw[hb]at q
    refine κ.done .normal (fun st=>st.e 0= .μ p 0/\st.e 3= .n (((i+1:Nat):Int)+1)/\st.mem= {ε:=X,η:=[]}) (by simp[h1,h2,h3,dE,MS,hw,q]) fun s' ⟨m1,m2,m3⟩=> .inl ⟨rfl,ν,m1,m2,m3,fun j hj=>?_⟩;rcases bP j i with h|h
    ·exact h4 j h
    ·rw[show j=i by omega,mO];exact hb
   |true=>
    rw[hb]at q
    refine κ.done .ret (fun st=>st.e 2= .n ((i:Int)+1)/\st.mem= {ε:=X,η:=[]}) (by simp[h1,h2,h3,dE,MS,q]) fun s' ⟨m1,m2⟩=> .inr ⟨by simp,.inr ⟨by simp,?_⟩⟩;have Kz:xD a=i+1:=by
     cases a with
     |w w=>cases hb
     |r st=>
      refine X8 ν (mO.trans (beq_iff_eq.1 hb).symm) fun j hj=>?_
      exact fun he=>beq_eq_false_iff_ne.1 (h4 j hj) he.symm
    simp[BU,m1,m2,Kz]
  ·have:i=12:=by omega
   subst this;refine κ.done (.exit 0) (fun st=>st.mem= {ε:=X,η:=[]}) (by simp[h1,h2,h3]) fun s' h=> .inr ⟨by simp,.inl ⟨rfl,.inl ⟨rfl,h,h4⟩⟩⟩
 ·have Kz:xD a=0:=by
   cases a with
   |w w=>rfl
   |r st=>exact X9 fun j hj he=>beq_eq_false_iff_ne.1 (h2 j hj) he.symm
  simp[BU,h1,Kz]
end
end Tz
end Go.ab
namespace Go.ab
section
variable{α:Type}(e:Nat)(P:PS->R α)
def sY(N:Nat)(l:List α)(s:PS):R (List α):=(cK (fun s=>s.aD [44]) (fun l s=>(ak e [44] s).bind fun _ s=>(P s).map fun y=>l++[y]) N l s).bind fun l s=>(ak e [41] s).map fun _=>l
def nK(a:RS)(l:List α)(b:RS):Prop:=
 (l=[]/\b=a)\/(l≠[]/\∃N,b.sz<N/\∀y b',Δ (sY e P N l) b y b'->Δ (ml e P) a y b')\/(∃w,b= .w w/\∀y,Δ (ml e P) a y b)
variable{e P}{a b c d:RS}{l:List α}{x:α}
theorem nK.start(ha:a.aD [41]=false)(h:Δ P a x b):nK e P a [x] b:=by
 refine .inr (.inl ⟨by simp,b.sz+1,by omega,fun y b' hy=>?_⟩);have h2:Δ (fun s=>sY e P (s.l.length+1) [x] s) b y b':=by
  cases b with
  |w w=>exact hy
  |r s=>exact hy
 refine Δ.as (P:=fun s=>(P s).bind fun x s=>sY e P (s.l.length+1) [x] s) (h.bind (Q:=fun x s=>sY e P (s.l.length+1) [x] s) h2) fun s hs=>?_;subst hs;exact if_neg (by rw[show PS.aD s [41]=false from ha];simp)
theorem UQ{f:Tok->Bool}{s:PS}(hf:∀t l,s.l=t::l->f t=false):gR e f s= .no (s.at_ e):=by
 obtain⟨la,l⟩:=s;cases l with
 |nil=>rfl
 |cons t l=>simp[gR,hf t l rfl,PS.at_]
theorem nK.step(hP:df P)(hb:b.bad=0)(h:nK e P a l b)(hl:l≠[])(eI:b.aD [41]=false){w:List Nat}(h1:Δ (ak e [44]) b w c)(h2:Δ P c x d):nK e P a (l++[x]) d:=by
 rcases h with⟨h,_⟩|⟨_,N,hN,hg⟩|⟨w,rfl,_⟩
 ·exact absurd h hl
 ·cases hc:b.aD [44]with
  |true=>
   have ν:=h1.take (jL hc (by simp))
   have mf:=h2.sz hP;obtain⟨M,rfl⟩:∃M,N=M+1:=⟨N-1,by omega⟩;refine .inr (.inl ⟨by simp,M,by omega,fun y b' hy=>hg y b' ?_⟩);cases b with
   |w w=>cases hb
   |r s=>
    have hc:s.aD [44]=true:=hc
    have e1:∀s',s'.aD [44]=true->sY e P (M+1) l s'=(ak e [44] s').bind fun _ s'=>(P s').bind fun y s'=>sY e P M (l++[y]) s':=fun s' hs=>by
     simp only[sY,cK,hs,if_true];cases ak e [44] s' with
     |no w=>rfl
     |ok z s2=>
      simp only[R.bind]
      cases P s2<;>rfl
    have:=h1.bind (Q:=fun _ s'=>(P s').bind fun y s'=>sY e P M (l++[y]) s') (h2.bind (Q:=fun y s'=>sY e P M (l++[y]) s') hy);simpa only[Δ,e1 s hc]using this
  |false=>
   refine .inr (.inr ?_)
   cases b with
   |w w=>cases hb
   |r s=>
    have hc:(s.hd==[44])=false:=hc
    have eI:(s.hd==[41])=false:=eI;have q1:ak e [44] s= .no (s.at_ e):=UQ fun t l ht=>by simpa[PS.hd,ht]using hc
    have q2:ak e [41] s= .no (s.at_ e):=UQ fun t l ht=>by simpa[PS.hd,ht]using eI
    simp only[Δ,q1]at h1;subst h1;simp only[Δ]at h2;subst h2;refine⟨_,rfl,fun y=>hg y _ ?_⟩;obtain⟨M,rfl⟩:∃M,N=M+1:=⟨N-1,by omega⟩;have dt:s.aD [44]=false:=hc;simp[Δ,sY,cK,dt,R.bind,q2,R.map]
 ·cases hb
theorem nK.done(h:nK e P a l b)(p0:b.bad=1\/b.aD [41]=true){w:List Nat}(h1:Δ (ak e [41]) b w c):Δ (ml e P) a l c:=by
 rcases h with⟨rfl,rfl⟩|⟨_,N,hN,hg⟩|⟨w,rfl,hg⟩
 ·cases b with
  |w w=>exact h1
  |r s=>
   have hb:s.aD [41]=true:=p0.elim (fun h=>by cases h) id
   refine Δ.as (P:=fun s=>(ak e [41] s).map fun _=>[]) (h1.map fun _=>[]) fun t ht=>?_;cases ht;exact if_pos hb
 ·refine hg l c ?_;cases b with
  |w w=>exact h1
  |r s=>
   have hb:s.aD [41]=true:=p0.elim (fun h=>by cases h) id
   have dt:s.aD [44]=false:=by have:s.hd=[41]:=beq_iff_eq.1 hb;simp[PS.aD,this]
   obtain⟨M,rfl⟩:∃M,N=M+1:=⟨N-1,by omega⟩;refine Δ.as (P:=fun s=>(ak e [41] s).map fun _=>l) (h1.map fun _=>l) fun t ht=>?_;cases ht;simp[sY,cK,dt,R.bind]
 ·simp only[Δ]at h1;subst h1;exact hg l
end
theorem xx(e:Nat){ix:PS->R ζ}(h:df ix):cU (gQ e ix):=
 (cU.take _ _).bind fun _=> .ite ((cI e _).bind fun _=>h.bind fun _=>(df.ite ((cI e _).bind fun _=>h.map) (.ok _)).bind fun _=>(cI e _).map) (.ok _)
theorem zq(e:Nat):cU (ry e):=(cU.take _ _).bind fun _=>(cI e _).bind fun _=>(Em e).bind fun _=>(cI e _).map
end Go.ab
