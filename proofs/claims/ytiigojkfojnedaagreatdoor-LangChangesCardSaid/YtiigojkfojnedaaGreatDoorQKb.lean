import Derived.Test.YtiigojkfojnedaaGreatDoorQKw
set_option linter.unusedVariables false
set_option linter.unusedSimpArgs false
set_option linter.unusedSectionVars false
set_option maxRecDepth 100000
set_option maxHeartbeats 8000000
open List renaming length_drop->kK,mem_append_right->s_,getElem_mem->cL,getElem?_eq_getElem->dr,eq_nil_of_length_eq_zero->ma,take_of_length_le->dY,set_append_left->lL,length_set->fj,getD_eq_getElem?_getD->kJ,append_assoc->cj,length_cons->eZ,nil_append->cI,append_cancel_left->ahT
open Go.IntKind renaming wrap->a_
open Nat renaming lt_or_ge->bP,le_refl->bF
open Bool renaming true_and->ug,false_or->ahR,and_false->ahS,false_and->ahE,and_self->vm
open Option.some renaming injEq->aZ
open Prod.mk renaming injEq->aN
namespace Go.ah.Tz
open Go.ah
variable{u:Nat}
attribute [local simp] exec ed dP eX aC dQ ft eL ζ gg τ fW gy gH gI lf AV.cells newVar gE rd wr fK single eV bY ek dF μ aY RV.get aV dB iE
attribute [local simp] vd u2
def oz(s:List Nat)(q:Nat):List Tok:=if q<s.length then(if(dA q (s.drop q)).kind=0 then[dA q (s.drop q)]else dA q (s.drop q)::rest s (q+(dA q (s.drop q)).text.length))else[]
theorem TD(s:List Nat)(n:Nat)(hn:n<=s.length):rest s n=oz s (n+bO false (s.drop n)):=TE s n hn
section
variable(s:List Nat)(ej:AV)
def M'(s:List Nat)(q:Nat)(wr la:Int)(a:RS):Prop:=match a with
 | .r st=>wr= -1/\st.l=oz s q/\la=st.last/\la<=s.length
 | .w w=>wr=(w:Int)
def eY(cs:List AV)(a:RS):Prop:=
 ∃(q:Nat) (wr la:Int),cs=sM s q++[.int .i64 wr,.int .i64 la,ej]/\q<=s.length/\M' s q wr la a
variable{s ej}(hs:cX s)(hl:s.length<1000000000)
include hs hl
theorem MW{q:Nat}(h:q<s.length):(dA q (s.drop q)).Ok:=by have hd:s.drop q=s[q]::s.drop (q+1):=List.drop_eq_getElem_cons h;rw[hd];refine Uh q _ _ (fun x hx=>hs x (List.mem_of_mem_drop (by rw[hd];exact hx))) ?_;rw[<-hd];simp;omega
theorem eY.sO{cs:List AV}{a:RS}(h:eY s ej cs a):∃(q:Nat) (wr la:Int) (t:Tok),cs=[.str s,.int .i64 2,.str eD,.int .i64 q,.int .i64 t.at_,.int .i64 t.kind,.str t.cut,.int .i64 t.cZ,.bool (decide (q=s.length)),.int .i64 wr,.int .i64 la,ej]/\q<=s.length∧
  t=dA q (s.drop q)/\M' s q wr la a:=by
 obtain⟨q,wr,la,rfl,hq,h⟩:=h;exact⟨q,wr,la,_,rfl,hq,rfl,h⟩
theorem agm{q:Nat}(h:q<=s.length):(dA q (s.drop q)).at_<=s.length:=by
 by_cases ρ:q<s.length
 ·have:(dA q (s.drop q)).at_=q:=by rw[H7 ρ];(repeat' split)<;>rfl
  omega
 ·have:q=s.length:=by omega
  subst this;simp[dA]
theorem MV:dA s.length (s.drop s.length)=⟨s.length,0,[],-1⟩:=by simp[dA]
theorem f198(w:List Nat)(hw:w∈xf)(iq:w≠[]){B:List κ}{p:Nat}{cs:List AV}{a:RS}(hp:p<B.length)(h:eY s ej cs a)(T:List Nat):
  kf u 198 [.ν p 0,.str w] {ε:=B.set p (.cells cs),θ:=T}=some (.bool (a.aB w),{ε:=B.set p (.cells cs),θ:=T}):=by
 obtain⟨q,wr,la,t,rfl,hq,ht,h⟩:=h.sO hs hl;have hg:∀cs,(B.set p (κ.cells cs))[p]?=some (.cells cs):=fun cs=>by simp[hp]
 refine bD (g:=uv) rfl rfl rfl ?_;have dL:∀n,n=B.length->[AV.ν p 0,.str w].map (exp n false)=[AV.ν p 0,.str w]:=fun n hn=>by simp[exp,hn,hp]
 rw[dL _ (by simp)];cases a with
 |w x=>
  have hw:¬wr<0:=by have:wr=(x:Int):=h;omega
  simp[uv,c198,hg,hw,RS.aB,RS.rM]
 |r st=>
  obtain⟨rfl,gV,-⟩:=h
  by_cases hc:q=s.length
  ·have hb:(RS.r st).aB w=false:=by
    have:st.l=[]:=by rw[gV,oz,if_neg (by omega)]
    simp only[RS.aB,RS.rM,PS.aB,PS.hd,this];exact beq_eq_false_iff_ne.2 (Ne.symm iq)
   simp[uv,c198,hg,hc,hb]
  ·have ρ:q<s.length:=by omega
   have pS:=MW hs hl ρ;rw[<-ht]at pS;have hb:(RS.r st).aB w=(t.text==w):=by
    have e:st.hd=t.text:=by simp only[PS.hd,gV,oz,ρ,if_true,<-ht];by_cases hk:t.kind=0<;>simp[hk]
    show(st.hd==w)=_;rw[e]
   rw[hb];by_cases cV:t.cZ<0
   ·rw[I_ cV];by_cases he:t.text=w
    ·simp[uv,c198,hg,hc,he,cV]
    ·simp[uv,c198,hg,hc,he,cV]
   ·obtain⟨h1,h2⟩:=pS.cZ (by omega);have he:=h2 w hw;have fF:¬(2:Int)<t.kind:=by omega
    by_cases gM:t.cut=w
    ·simp[uv,c198,hg,hc,he,gM,cV,fF]
    ·simp[uv,c198,hg,hc,he,gM,cV,fF]
theorem f236(may:Bool)(f:Tok->Bool){B:List κ}{p:Nat}{cs:List AV}{a:RS}(hp:p<B.length)(h:eY s ej cs a)(hm:∀st t l,a= .r st->st.l=t::l->may=f t):
  ∃x ξ b,(∀T,kf u 236 [.ν p 0,.bool may] {ε:=B.set p (.cells cs),θ:=T}=some (.str x,{ε:=B.set p (.cells ξ),θ:=T}))/\eY s ej ξ b/\Θ (gR s.length f) a x b/\(x=[]\/∃t:Tok,t.Ok/\x=t.text/\f t=true/\t.cZ<0):=by
 obtain⟨q,wr,la,t,rfl,hq,ht,h⟩:=h.sO hs hl;have hg:∀cs,(B.set p (κ.cells cs))[p]?=some (.cells cs):=fun cs=>by simp[hp]
 have go:∀(x:List Nat) (ξ:List AV),(μ (C u).gl (aU (C u)) c236 {env:=[.ν p 0,.bool may],loc:=[],mem:= {ε:=B.set p (.cells [.str s,.int .i64 2,.str eD,.int .i64 q,.int .i64 t.at_,.int .i64 t.kind,.str t.cut,.int .i64 t.cZ,.bool (decide (q=s.length)),.int .i64 wr,.int .i64 la,ej]),θ:=[]}} fun r=>(∀i,r.1≠ .exit i)/\r.2.mem= {ε:=B.set p (.cells ξ),θ:=[]}/\ζ r.2.env 4= .str x)→
   ∀T,kf u 236 [.ν p 0,.bool may] {ε:=B.set p (.cells [.str s,.int .i64 2,.str eD,.int .i64 q,.int .i64 t.at_,.int .i64 t.kind,.str t.cut,.int .i64 t.cZ,.bool (decide (q=s.length)),.int .i64 wr,.int .i64 la,ej]),θ:=T}=some (.str x,{ε:=B.set p (.cells ξ),θ:=T}):=by
  intro x ξ hr T;refine kG (g:=FE) rfl rfl rfl hp (by simp[exp]) ?_ T;exact hr.mono fun r ⟨h1,h2,h3⟩=>⟨h1,⟨[],by simp[h2]⟩,[.str x],by simp[FE,h3],rfl⟩
 unfold c236 at go;cases a with
 |w x=>
  have iq:wr=(x:Int):=h
  have hw:0<=wr:=by omega
  refine⟨[],_,.w x,go [] [.str s,.int .i64 2,.str eD,.int .i64 q,.int .i64 t.at_,.int .i64 t.kind,.str t.cut,.int .i64 t.cZ,.bool (decide (q=s.length)),.int .i64 wr,.int .i64 la,ej] ?_,⟨q,wr,la,by rw[ht];rfl,hq,h⟩,rfl,.inl rfl⟩;simp[aR,hg,hw]
 |r st=>
  obtain⟨rfl,gV,wc⟩:=h
  by_cases hc:q=s.length
  ·have wh:st.l=[]:=by rw[gV,oz,if_neg (by omega)]
   have hte:t=⟨s.length,0,[],-1⟩:=by rw[ht,hc];exact MV hs hl
   have fM:t.at_=s.length:=by rw[hte]
   refine⟨[],_,.w s.length,go [] [.str s,.int .i64 2,.str eD,.int .i64 q,.int .i64 t.at_,.int .i64 t.kind,.str t.cut,.int .i64 t.cZ,.bool (decide (q=s.length)),.int .i64 s.length,.int .i64 la,ej] ?_,⟨q,s.length,la,by rw[ht];rfl,hq,rfl⟩,by simp[Θ,gR,wh],.inl rfl⟩;cases may<;>simp[aR,hg,hc,fM,Mem.put,Mem.φ,φ,bp,lo]
  ·have ρ:q<s.length:=by omega
   have pS:=MW hs hl ρ;rw[<-ht]at pS;have fM:t.at_=q:=by rw[ht,H7 ρ];(repeat' split)<;>rfl
   obtain⟨rl,G4,Cr⟩:∃rl,st.l=t::rl/\(t.kind≠0->rl=rest s (q+t.text.length)):=by
    simp only[oz,ρ,if_true,<-ht]at gV;by_cases hk:t.kind=0
    ·rw[if_pos hk]at gV;exact⟨_,gV,fun h=>absurd hk h⟩
    ·rw[if_neg hk]at gV;exact⟨_,gV,fun _=>rfl⟩
   have hm:=hm st t rl rfl G4;have Cq:(q=s.length)=False:=by simp[hc]
   have Ur:∀w:Nat,Θ (gR s.length f) (.r st) [] (.w w)->(μ (C u).gl (aU (C u)) _ {env:=[.ν p 0,.bool may],loc:=[],mem:= {ε:=B.set p (.cells [.str s,.int .i64 2,.str eD,.int .i64 q,.int .i64 t.at_,.int .i64 t.kind,.str t.cut,.int .i64 t.cZ,.bool (decide (q=s.length)),.int .i64 (-1),.int .i64 la,ej]),θ:=[]}} fun r=>(∀i,r.1≠ .exit i)/\r.2.mem= {ε:=B.set p (.cells [.str s,.int .i64 2,.str eD,.int .i64 q,.int .i64 t.at_,.int .i64 t.kind,.str t.cut,.int .i64 t.cZ,.bool (decide (q=s.length)),.int .i64 w,.int .i64 la,ej]),θ:=[]}/\ζ r.2.env 4= .str [])->_:=fun w Y3 hr=>(⟨[],_,.w w,go [] _ hr,⟨q,w,la,by rw[ht];rfl,hq,rfl⟩,Y3,.inl rfl⟩:∃x ξ b,(∀T,kf u 236 [.ν p 0,.bool may] {ε:=B.set p (.cells [.str s,.int .i64 2,.str eD,.int .i64 q,.int .i64 t.at_,.int .i64 t.kind,.str t.cut,.int .i64 t.cZ,.bool (decide (q=s.length)),.int .i64 (-1),.int .i64 la,ej]),θ:=T}=some (.str x,{ε:=B.set p (.cells ξ),θ:=T}))/\eY s ej ξ b/\Θ (gR s.length f) (.r st) x b/\(x=[]\/∃t:Tok,t.Ok/\x=t.text/\f t=true/\t.cZ<0));cases may with
   |false=>
    refine Ur t.at_ (by simp[Θ,gR,G4,<-hm]) ?_
    simp[aR,hg,hc,Mem.put,Mem.φ,φ,bp,lo]
   |true=>
    by_cases hw:0<=t.cZ
    ·obtain⟨w,ji⟩:∃w:Nat,t.cZ=w:=⟨t.cZ.toNat,by omega⟩;refine Ur w ?_ ?_
     ·simp only[Θ,gR,G4,<-hm];by_cases hk:t.kind=0
      ·have:=pS.zero hk;have:w=t.at_:=by omega
       simp[hk,this]
      ·simp[hk,ji]
     ·have lW:0<=(w:Int):=by omega
      simp[aR,hg,hc,ji,lW,Mem.put,Mem.φ,φ,bp,lo]
    ·have lW:t.cZ<0:=by omega
     have hk:t.kind≠0:=fun hk=>by have:=pS.zero hk;omega
     have hlen:=MU q (s.drop q);rw[<-ht,kK]at hlen;have ae6:=fun m=>f128 (u:=u) s q t.at_ t.kind t.cZ false t.text (q+t.text.length) rfl (by omega) (by omega) m;have cV:a_ .i64 ((t.at_:Int)+t.text.length)=(t.at_:Int)+t.text.length:=wrap_i64 (by omega) (by omega);have hle:=CL false (s.drop (q+t.text.length));simp only[kK]at hle;refine⟨t.text,sM s (q+t.text.length+bO false (s.drop (q+t.text.length)))++[.int .i64 (-1),.int .i64 ((t.at_:Int)+t.text.length),ej],.r ⟨t.at_+t.text.length,rl⟩,go t.text _ ?_,⟨_,_,_,rfl,by omega,rfl,?_,by simp,by omega⟩,by simp[Θ,gR,G4,<-hm,hk,hw],.inr ⟨t,pS,rfl,hm.symm,lW⟩⟩
     ·rw[I_ lW];have ji:¬0<=t.cZ:=by omega
      simp[aR,hg,hc,ji,cV,ae6,sM,Mem.put,Mem.φ,φ,bp,lo]
     ·show rl=_;rw[Cr hk,TD s _ (by omega)]
theorem f196(w:List Nat)(hw:w∈xf)(iq:w≠[])(a:RS):iN u (eY s ej) 196 [.str w] (aw s.length w) Eu a:=by intro B p cs hp h;have HR:=fun T=>f198 (u:=u) hs hl w hw iq hp h T;obtain⟨x,ξ,b,k1,h2,h3,h4⟩:=f236 (u:=u) hs hl (a.aB w) (fun t=>t.text==w) hp h (fun st t l ha ψ=>by subst ha;simp[RS.aB,RS.rM,PS.aB,PS.hd,ψ]);refine⟨.aP [],x,ξ,b,kG (g:=Fh) rfl rfl rfl hp (by simp[exp]) ?_,h2,h3,rfl⟩;simp[Fh,c196,HR,k1];rfl
theorem agl{f:Tok->Bool}{x:List Nat}(h:x=[]\/∃t:Tok,t.Ok/\x=t.text/\f t=true/\t.cZ<0):cX x:=by
 rcases h with rfl|⟨t,h,rfl,_⟩
 ·exact oZ
 ·exact h.str
theorem f197(a:RS):iN u (eY s ej) 197 [] (fN s.length) Es a:=by
 intro B p cs hp h;have h0:=h;obtain⟨q,wr,la,t,rfl,hq,ht,h⟩:=h.sO hs hl;have hg:∀cs,(B.set p (κ.cells cs))[p]?=some (.cells cs):=fun cs=>by simp[hp]
 have afa:=fun m=>f217 (u:=u) t.cut m;obtain⟨may,tI,hm⟩:∃may,may=(decide (wr<0)&&t.kind==1&&(decide (0<=t.cZ)||!ku t.cut))/\∀st t' l,a= .r st->st.l=t'::l->may=(t'.kind==1&& !ku t'.text):=by
  refine⟨_,rfl,fun st t' l ha ψ=>?_⟩;subst ha;obtain⟨rfl,gV,-⟩:=h;have ρ:q<s.length:=by
   rcases bP q s.length with h|h
   ·exact h
   ·rw[gV,oz,if_neg (by omega)]at ψ;cases ψ
  have pS:=MW hs hl ρ;rw[<-ht]at pS;have:t'=t:=by
   rw[gV]at ψ;simp only[oz,ρ,if_true,<-ht]at ψ;by_cases hk:t.kind=0
   ·rw[if_pos hk]at ψ;cases ψ;rfl
   ·rw[if_neg hk]at ψ;cases ψ;rfl
  subst this;by_cases hw:t'.cZ<0
  ·have lW:¬0<=t'.cZ:=by omega
   rw[I_ hw];simp[lW]
  ·have lW:0<=t'.cZ:=by omega
   have eS:ku t'.text=false:=by
    cases hc:ku t'.text with
    |false=>rfl
    |true=>exact absurd rfl ((pS.cZ lW).2 _ (s_ _ (List.contains_iff_mem.1 hc)))
   simp[lW,eS]
 obtain⟨x,ξ,b,k1,h2,h3,h4⟩:=f236 (u:=u) hs hl may (fun t=>t.kind==1&& !ku t.text) hp h0 hm;refine⟨.str x,x,ξ,b,kG (g:=xu) rfl rfl rfl hp rfl ?_,h2,h3,rfl,agl hs hl h4⟩;subst tI;by_cases c1:wr<0
 ·by_cases c2:t.kind=1
  ·have nU:((t.kind:Int)==1)=true:=beq_iff_eq.2 (by omega);have DW:(t.kind==1)=true:=beq_iff_eq.2 c2;by_cases c3:0<=t.cZ
   ·simp only[c1,DW,c3,decide_true,ug,Bool.true_or]at k1;simp[xu,A9,hg,c1,nU,c3,k1];rfl
   ·simp only[c1,DW,c3,decide_true,decide_false,ug,ahR]at k1;simp[xu,A9,hg,c1,nU,c3,afa,k1];rfl
  ·have nU:((t.kind:Int)==1)=false:=beq_eq_false_iff_ne.2 (by omega);have A_:(t.kind==1)=false:=beq_eq_false_iff_ne.2 c2;simp only[A_,ahS,ahE]at k1;simp[xu,A9,hg,c1,nU,k1];rfl
 ·simp only[c1,decide_false,ahE]at k1;simp[xu,A9,hg,c1,k1];rfl
theorem f199(a:RS):iN u (eY s ej) 199 [] (sH s.length) En a:=by
 intro B p cs hp h;have h0:=h;obtain⟨q,wr,la,t,rfl,hq,ht,h⟩:=h.sO hs hl;have hg:∀cs,(B.set p (κ.cells cs))[p]?=some (.cells cs):=fun cs=>by simp[hp]
 obtain⟨may,tI,hm⟩:∃may,may=(decide (wr<0)&&t.kind==2)/\∀st t' l,a= .r st->st.l=t'::l->may=(t'.kind==2):=by
  refine⟨_,rfl,fun st t' l ha ψ=>?_⟩;subst ha;obtain⟨rfl,gV,-⟩:=h;have ρ:q<s.length:=by
   rcases bP q s.length with h|h
   ·exact h
   ·rw[gV,oz,if_neg (by omega)]at ψ;cases ψ
  have:t'=t:=by
   rw[gV]at ψ;simp only[oz,ρ,if_true,<-ht]at ψ;by_cases hk:t.kind=0
   ·rw[if_pos hk]at ψ;cases ψ;rfl
   ·rw[if_neg hk]at ψ;cases ψ;rfl
  subst this;simp
 obtain⟨x,ξ,b,k1,h2,h3,h4⟩:=f236 (u:=u) hs hl may (fun t=>t.kind==2) hp h0 hm;have hx:numOf x<100/\x.length<=2/\∀c∈x,dx c=true:=by
  rcases h4 with rfl|⟨t,ht,rfl,hf,hw⟩
  ·exact⟨by decide,by decide,by simp⟩
  ·obtain⟨_,k2,_⟩:=SM ht (by simpa using hf) hw;exact⟨k2,ht.num (by simpa using hf) hw⟩
 refine⟨.int .i64 (numOf x),numOf x,ξ,b,kG (g:=Fi) rfl rfl rfl hp rfl ?_,h2,h3.map numOf,rfl,hx.1⟩;refine ω (fun st=>ζ st.env 0= .ν p 0/\st.mem= {ε:=B.set p (.cells [.str s,.int .i64 2,.str eD,.int .i64 q,.int .i64 t.at_,.int .i64 t.kind,.str t.cut,.int .i64 t.cZ,.bool (decide (q=s.length)),.int .i64 wr,.int .i64 la,ej]),θ:=[]}) (by simp) fun s1 ⟨h1,h2⟩=>?_;refine ω (fun st=>ζ st.env 3= .str x/\st.mem= {ε:=B.set p (.cells ξ),θ:=[]}) (by
  subst tI
  by_cases c1:wr<0
  ·by_cases c2:t.kind=2
   ·have nU:((t.kind:Int)==2)=true:=beq_iff_eq.2 (by omega);have DW:(t.kind==2)=true:=beq_iff_eq.2 c2;simp only[c1,DW,decide_true,ug]at k1;simp[h1,h2,hg,c1,nU,k1]
   ·have nU:((t.kind:Int)==2)=false:=beq_eq_false_iff_ne.2 (by omega);have A_:(t.kind==2)=false:=beq_eq_false_iff_ne.2 c2;simp only[A_,ahS]at k1;simp[h1,h2,hg,c1,nU,k1]
  ·simp only[c1,decide_false,ahE]at k1;simp[h1,h2,hg,c1,k1]) fun s1 ⟨h1,h2⟩=>?_
 obtain⟨kD,pV,hx3⟩:=hx;have hb:∀i (h:i<x.length),48<=x[i]/\x[i]<=57:=fun i h=>Bi (hx3 _ (cL h));have Rk:∀i (h:i<x.length),numOf (x.take (i+1))=10*numOf (x.take i)+(x[i]-48):=fun i h=>by simp only[numOf];rw[List.take_add_one,dr h,Option.toList_some,List.foldl_append];rfl
 have Yl:∀i,i<=2->numOf (x.take i)<1000:=fun i hi=>by
  have e0:numOf (x.take 0)=0:=rfl;have e1:numOf (x.take 1)<=9:=by
   rcases bP 0 x.length with h|h
   ·rw[Rk 0 h,e0];have:=hb 0 h;omega
   ·have:x=[]:=ma (by omega);rw[this];decide
  match i,hi with
  |0,_=>rw[e0];omega
  |1,_=>omega
  |2,_=>rw[dY pV];omega
 refine ω (fun st=>ζ st.env 3= .str x/\ζ st.env 4= .int .i64 0/\st.mem= {ε:=B.set p (.cells ξ),θ:=[]}) (by simp[h1,h2]) fun s1 ⟨h1,h3,h2⟩=>?_;let I:Nat->St->Prop:=fun i st=>ζ st.env 3= .str x/\ζ st.env 4= .int .i64 (numOf (x.take i))/\ζ st.env 5= .int .i64 i/\st.mem= {ε:=B.set p (.cells ξ),θ:=[]};refine bc (fun st=>ζ st.env 4= .int .i64 (numOf x)/\st.mem= {ε:=B.set p (.cells ξ),θ:=[]}) ?_ fun s2 ⟨h1,h2⟩=>by simp[Fi,h1,h2]
 refine ω (I 0) (by simp[I,h1,h2,h3,numOf]) fun s2 hI=>?_;refine μ.block (μ.jt (I:=I) x.length hI fun i st hi ψ=>?_);obtain⟨h1,h2,h3,h4⟩:=ψ;unfold R0;rcases bP i x.length with ρ|cG
 ·have dq:(i:Int)<x.length:=by omega
  obtain⟨b1,b2⟩:=hb i ρ;have b3:=Yl i (by omega);have w1:a_ .i64 (10*(numOf (x.take i):Int))=10*(numOf (x.take i):Int):=wrap_i64 (by omega) (by omega);have w2:a_ .u8 ((x[i]:Int)-48)=(x[i]:Int)-48:=by have h:∀y:Int,a_ .u8 y=y % 256:=fun y=>rfl;rw[h];omega
  have w3:a_ .i64 ((x[i]:Int)-48)=(x[i]:Int)-48:=wrap_i64 (by omega) (by omega);have w4:a_ .i64 (10*(numOf (x.take i):Int)+((x[i]:Int)-48))=(numOf (x.take (i+1)):Int):=by rw[wrap_i64 (by omega) (by omega),Rk i ρ];omega
  have w5:a_ .i64 ((i:Int)+1)=(i:Int)+1:=wrap_i64 (by omega) (by omega);refine μ.done .normal (fun st=>I (i+1) st) (by simp[I,h1,h2,h3,h4,ρ,dq,w1,w2,w3,w4,w5]) fun s' h=> .inl ⟨rfl,ρ,h⟩
 ·have:i=x.length:=by omega
  subst this;rw[dY (bF _)]at h2;refine μ.done (.exit 0) (fun st=>ζ st.env 4= .int .i64 (numOf x)/\st.mem= {ε:=B.set p (.cells ξ),θ:=[]}) (by simp[h1,h2,h3,h4]) fun s' h=> .inr ⟨by simp,.inl ⟨rfl,.inl ⟨rfl,h⟩⟩⟩
end
attribute [local simp] zm Au Ah η.gK
section
variable{s:List Nat}{ej:AV}(hs:cX s)(hl:s.length<1000000000)
include hs hl
theorem f311{k:Nat}(ih:∀a:RS,a.sz<k->iN u (eY s ej) 281 [] (au s.length k) Ei a)(a:RS)(ha:a.sz<k+1):iN u (eY s ej) 311 [] (lj s.length (au s.length k)) Ei a:=by
 intro B p cs hp h;have df:=fun T=>f198 (u:=u) hs hl [40] (by decide) (by simp) hp h T;cases hb:a.aB [40]with
 |true=>
  rw[hb]at df
  have jh:=jD hb (by simp);obtain⟨_,x1,aX,a1,k1,r1,g1,rfl⟩:=f196 (u:=u) hs hl [40] (by decide) (by simp) a B p cs hp h;have ot:=g1.take jh;obtain⟨_,x,aW,a2,k2,r2,g2,rfl,hx⟩:=ih a1 (by omega) B p aX hp r1;obtain⟨_,x3,aQ,a3,k3,r3,g3,rfl⟩:=f196 (u:=u) hs hl [41] (by decide) (by simp) a2 B p aW hp r2;refine⟨.agg x.four,x,aQ,a3,kG (g:=uw) rfl rfl rfl hp rfl ?_,r3,?_,rfl,hx⟩
  ·simp[uw,Ba,aR,df,k1,k2,k3];exact hx.zn _ _
  ·refine Θ.as (P:=fun t=>(aw s.length [40] t).bind fun _ t=>(au s.length k t).bind fun x t=>(aw s.length [41] t).map fun _=>x) (g1.bind (g2.bind (g3.map fun _=>x))) fun t ht=>?_;subst ht;exact if_pos hb
 |false=>
  rw[hb]at df
  have eS:∀st,a= .r st->st.aB [40]=false:=fun st hs=>by subst hs;exact hb
  have e0:cX []:=fun b hb=>by cases hb
  have h0:=h;obtain⟨q,wr,la,tk,rfl,hq,ht,h⟩:=h.sO hs hl;have hg:∀cs,(B.set p (κ.cells cs))[p]?=some (.cells cs):=fun cs=>by simp[hp]
  have zQ:∀st,a= .r st->wr<0/\st.kd=tk.kind:=fun st ψ=>by
   subst ψ;obtain⟨rfl,gV,-⟩:=h;refine⟨by decide,?_⟩;rw[ht];simp only[PS.kd,gV,oz];rcases bP q s.length with ρ|cG
   ·rw[if_pos ρ];by_cases hk:(dA q (s.drop q)).kind=0<;>simp[hk]
   ·rw[if_neg (by omega),show q=s.length by omega,MV hs hl]
  by_cases hk:wr<0/\tk.kind=2
  ·obtain⟨h_,eF⟩:=hk;obtain⟨_,n,aX,a1,k1,r1,g1,rfl,hn⟩:=f199 (u:=u) hs hl a B p _ hp h0;have hx:(η.mk 1 n [] .nil []).ey:=⟨⟨.inl rfl,trivial⟩,e0,trivial⟩;refine⟨.agg (η.mk 1 n [] .nil []).four,_,aX,a1,kG (g:=uw) rfl rfl rfl hp rfl ?_,r1,?_,rfl,hx⟩
   ·have:=hx.zn (B.set p (.cells aX)) B.length;simp only[η.four,η.Δ]at this⊢;have da:((tk.kind:Int)==2)=true:=beq_iff_eq.2 (by omega);simp[uw,Ba,aR,hg,df,k1,h_,da,cF,this]
   ·refine Θ.as (P:=fun t=>(sH s.length t).map fun n:Nat=>η.mk 1 (n:Int) [] .nil []) (g1.map _) fun t mW=>?_;simp[lj,eS t mW,(zQ t mW).2,eF]
  ·obtain⟨_,x,aX,a1,k1,r1,g1,rfl,hn⟩:=f197 (u:=u) hs hl a B p _ hp h0;have hx:(η.mk 2 0 x .nil []).ey:=⟨⟨.inl rfl,trivial⟩,hn,trivial⟩;refine⟨.agg (η.mk 2 0 x .nil []).four,_,aX,a1,kG (g:=uw) rfl rfl rfl hp rfl ?_,r1,?_,rfl,hx⟩
   ·have:=hx.zn (B.set p (.cells aX)) B.length;simp only[η.four,η.Δ]at this⊢;by_cases h_:wr<0
    ·have da:((tk.kind:Int)==2)=false:=beq_eq_false_iff_ne.2 (fun h=>hk ⟨h_,by omega⟩);simp[uw,Ba,aR,hg,df,k1,h_,da,cF,this]
    ·simp[uw,Ba,aR,hg,df,k1,h_,cF,this]
   ·refine Θ.as (P:=fun t=>(fN s.length t).map fun n=>η.mk 2 0 n .nil []) (g1.map _) fun t mW=>?_;have:¬tk.kind=2:=fun h=>hk ⟨(zQ t mW).1,h⟩;simp[lj,eS t mW,(zQ t mW).2,this]
theorem f300{k:Nat}(ih:∀a:RS,a.sz<k->iN u (eY s ej) 281 [] (au s.length k) Ei a)(a:RS)(ha:a.sz<k+1):iN u (eY s ej) 300 [] (tY s.length (lj s.length (au s.length k))) Ei a:=by
 intro B p cs hp h;have C_:=fun a ha=>f311 (u:=u) hs hl ih a ha;have jf:=Bu s.length (e_ s.length k);generalize hA:lj s.length (au s.length k)=A at*;obtain⟨_,x1,aX,a1,k1,r1,g1,rfl,kD⟩:=C_ a ha B p cs hp h;have ot:=g1.sz jf;let F:η->PS->R η:=fun x t=>(aw s.length [42] t).bind fun _ t=>(A t).map fun y=> .mk 5 0 [] .any [x,y];let cc:PS->Bool:=fun t=>t.aB [42];suffices hm:∃x ξ b,(∀T,kf u 300 [.ν p 0] {ε:=B.set p (.cells cs),θ:=T}=some (.agg x.four,{ε:=B.set p (.cells ξ),θ:=T}))/\eY s ej ξ b/\Θ (cw cc F (a1.sz+1) x1) a1 x b/\x.ey by obtain⟨x,ξ,b,m1,m2,m3,m4⟩:=hm;exact⟨_,x,ξ,b,m1,m2,g1.bind (Q:=fun x t=>cw cc F (t.l.length+1) x t) m3.fuel,rfl,m4⟩
 have dj:μ (C u).gl (aU (C u)) O3 {env:=[.ν p 0],loc:=[],mem:= {ε:=B.set p (.cells cs),θ:=[]}} fun r=>(∀i,r.1≠ .exit i)/\∃L x ξ b,r.2.mem= {ε:=B.set p (.cells ξ),θ:=[]}/\ζ r.2.env 2= .ae 2 0 0/\τ r.2.loc 2=some (0,.cells L)/\bB L x.four/\eY s ej ξ b/\Θ (cw cc F (a1.sz+1) x1) a1 x b/\x.ey:=by
  refine ω (fun st=>ζ st.env 0= .ν p 0/\ζ st.env 2= .ae 2 0 0/\(∃z,τ st.loc 2=some (0,.cells z)/\z.length=4)/\τ st.loc 3=none/\st.mem= {ε:=B.set p (.cells cs),θ:=[]}) (by simp[aR]) fun s1 ⟨h1,h2,⟨z,h3,hz⟩,h4,h5⟩=>?_;let I:Nat->St->Prop:=fun i st=>ζ st.env 0= .ν p 0/\ζ st.env 2= .ae 2 0 0/\(∃z,τ st.loc 2=some (0,.cells z)/\z.length=4)/\ζ st.env 3= .ae 3 0 0/\∃L x ξ b,τ st.loc 3=some (0,.cells L)/\st.mem= {ε:=B.set p (.cells ξ),θ:=[]}/\bB L x.four/\eY s ej ξ b/\x.ey/\b.sz+i<=a1.sz∧
   ∀y b',Θ (cw cc F (a1.sz+1-i) x) b y b'->Θ (cw cc F (a1.sz+1) x1) a1 y b'
  refine ω (I 0) (by
   simp[aR,h1,h2,h3,hz,h4,h5,k1]
   exact⟨by simp[h1],by simp[h2],⟨z,by simp[h3],hz⟩,by simp,x1.four,x1,aX,a1,by simp,rfl,iD kD,r1,kD,bF _,fun _ _ h=>h⟩) fun s1 hI=>?_
  refine bc (fun st=>ζ st.env 2= .ae 2 0 0/\(∃z,τ st.loc 2=some (0,.cells z)/\z.length=4)/\ζ st.env 3= .ae 3 0 0/\∃L x ξ b,τ st.loc 3=some (0,.cells L)/\st.mem= {ε:=B.set p (.cells ξ),θ:=[]}/\bB L x.four/\eY s ej ξ b/\x.ey/\Θ (cw cc F (a1.sz+1) x1) a1 x b) ?_ fun s2 ⟨h2,⟨z,h3,hz⟩,h4,L,x,ξ,b,h5,h6,hL,h7,h8,h9⟩=>?_
  ·refine μ.block (μ.jt (I:=I) a1.sz hI fun i st hi ψ=>?_);obtain⟨h1,h2,⟨z,h3,hz⟩,h4,L,x,ξ,b,h5,h6,hL,h7,h8,h9,aH⟩:=ψ;have df:=fun T=>f198 (u:=u) hs hl [42] (by decide) (by simp) hp h7 T;unfold Sf;have lT:a1.sz+1-i=(a1.sz-i)+1:=by omega
   rw[lT]at aH;cases hb:b.aB [42]with
   |false=>
    rw[hb]at df
    refine μ.done (.exit 0) (fun st=>ζ st.env 2= .ae 2 0 0/\τ st.loc 2=some (0,.cells z)/\ζ st.env 3= .ae 3 0 0/\τ st.loc 3=some (0,.cells L)/\st.mem= {ε:=B.set p (.cells ξ),θ:=[]}) (by simp[h1,h2,h3,h4,h5,h6,df]) fun s' ⟨m1,m2,m3,m4,m5⟩=> .inr ⟨by simp,.inl ⟨rfl,.inl ⟨rfl,m1,⟨z,m2,hz⟩,m3,L,x,ξ,b,m4,m5,hL,h7,h8,aH x b (Θ.uX hb)⟩⟩⟩
   |true=>
    rw[hb]at df
    have jh:=jD hb (by simp);obtain⟨_,w,aW,b2,k2,r2,g2,rfl⟩:=f196 (u:=u) hs hl [42] (by decide) (by simp) b B p ξ hp h7;have lV:=g2.take jh;obtain⟨_,y,aQ,b3,k3,r3,g3,rfl,hy⟩:=C_ b2 (by omega) B p aW hp r2;have x7:=g3.sz jf;have hx:(η.mk 5 0 [] .any [x,y]).ey:=⟨⟨.inr rfl,h8.1,hy.1,trivial⟩,oZ,h8.2,hy.2,trivial⟩;have dU:L.length=4:=by rw[hL.len,x.gK]
    have eB:L.take 4=L:=dY (by omega);have eu:shaped true 4 (.agg L)=true:=by simp[shaped,dU]
    have xE:bB [.int .i64 5,.int .i64 0,.str [],.list .full [.agg L,.agg y.four]] (η.mk 5 0 [] .any [x,y]).four:=by simp only[η.four,η.Δ,η.jA];exact .cons (.int _ _) (.cons (.int _ _) (.cons (.str _) (.cons (.list .full (.cons (.agg hL) (.cons (.agg (iD hy)) .nil))) .nil)))
    refine μ.done .normal (fun st=>ζ st.env 0= .ν p 0/\ζ st.env 2= .ae 2 0 0/\τ st.loc 2=some (0,.cells z)/\ζ st.env 3= .ae 3 0 0/\τ st.loc 3=some (0,.cells [.int .i64 5,.int .i64 0,.str [],.list .full [.agg L,.agg y.four]])/\st.mem= {ε:=B.set p (.cells aQ),θ:=[]}) (by simp[h1,h2,h3,h4,h5,h6,df,k2,k3,cF,dm,dy,fm,dU,eB,eu,bB.rb hL]) fun s' ⟨m1,m2,m3,m4,m5,m6⟩=> .inl ⟨rfl,by omega,m1,m2,⟨z,m3,hz⟩,m4,_,_,aQ,b3,m5,m6,xE,r3,hx,by omega,fun y' b' hg=>aH y' b' (Θ.uY hb (g2.bind (g3.map _)) (by rw[show a1.sz+1-(i+1)=a1.sz-i by omega]at hg;exact hg))⟩
  ·have dU:L.length=4:=by rw[hL.len,x.gK]
   have eB:L.take 4=L:=dY (by omega);refine μ.done .ret (fun st=>ζ st.env 2= .ae 2 0 0/\τ st.loc 2=some (0,.cells L)/\st.mem= {ε:=B.set p (.cells ξ),θ:=[]}) (by simp[h2,h3,h4,h5,h6,hz,dU,eB]) fun s' ⟨m1,m2,m3⟩=>⟨by simp,L,x,ξ,b,m3,m1,m2,hL,h7,h9,h8⟩
 obtain⟨r,e1,e2,L,x,ξ,b,e3,e4,e5,hL,e6,e7,e8⟩:=dj;have dU:L.length=4:=by rw[hL.len,x.gK]
 have eB:L.take 4=L:=dY (by omega);exact⟨x,ξ,b,kG (g:=Ge) rfl rfl rfl hp rfl ⟨r,e1,e2,⟨[],by simp[e3]⟩,[.agg L],by simp[Ge,e4,e5,dU,eB],(Dv.agg hL).ai _ _ _⟩,e6,e7,e8⟩
theorem f281{k:Nat}(ih:∀a:RS,a.sz<k->iN u (eY s ej) 281 [] (au s.length k) Ei a)(a:RS)(ha:a.sz<k+1):iN u (eY s ej) 281 [] (au s.length (k+1)) Ei a:=by
 intro B p cs hp h;have C_:=fun a ha=>f300 (u:=u) hs hl ih a ha;have jf:=Jp s.length (Bu s.length (e_ s.length k));show∃v x ξ b,_/\_/\Θ (AB s.length (tY s.length (lj s.length (au s.length k)))) a x b/\_;generalize hA:tY s.length (lj s.length (au s.length k))=A at*;obtain⟨_,x1,aX,a1,k1,r1,g1,rfl,kD⟩:=C_ a ha B p cs hp h;have ot:=g1.sz jf;let F:η->PS->R η:=fun x t=>(aw s.length t.hd t).bind fun w t=>(A t).map fun y=> .mk (if w=[45]then 4 else 3) 0 [] .any [x,y];let cc:PS->Bool:=fun t=>t.aB [43]||t.aB [45];suffices hm:∃x ξ b,(∀T,kf u 281 [.ν p 0] {ε:=B.set p (.cells cs),θ:=T}=some (.agg x.four,{ε:=B.set p (.cells ξ),θ:=T}))/\eY s ej ξ b/\Θ (cw cc F (a1.sz+1) x1) a1 x b/\x.ey by obtain⟨x,ξ,b,m1,m2,m3,m4⟩:=hm;exact⟨_,x,ξ,b,m1,m2,g1.bind (Q:=fun x t=>cw cc F (t.l.length+1) x t) m3.fuel,rfl,m4⟩
 have dj:μ (C u).gl (aU (C u)) OU {env:=[.ν p 0],loc:=[],mem:= {ε:=B.set p (.cells cs),θ:=[]}} fun r=>(∀i,r.1≠ .exit i)/\∃L x ξ b,r.2.mem= {ε:=B.set p (.cells ξ),θ:=[]}/\ζ r.2.env 2= .ae 2 0 0/\τ r.2.loc 2=some (0,.cells L)/\bB L x.four/\eY s ej ξ b/\Θ (cw cc F (a1.sz+1) x1) a1 x b/\x.ey:=by
  refine ω (fun st=>ζ st.env 0= .ν p 0/\ζ st.env 2= .ae 2 0 0/\(∃z,τ st.loc 2=some (0,.cells z)/\z.length=4)/\τ st.loc 3=none/\st.mem= {ε:=B.set p (.cells cs),θ:=[]}) (by simp[aR]) fun s1 ⟨h1,h2,⟨z,h3,hz⟩,h4,h5⟩=>?_;let I:Nat->St->Prop:=fun i st=>ζ st.env 0= .ν p 0/\ζ st.env 2= .ae 2 0 0/\(∃z,τ st.loc 2=some (0,.cells z)/\z.length=4)/\ζ st.env 3= .ae 3 0 0/\∃L x ξ b,τ st.loc 3=some (0,.cells L)/\st.mem= {ε:=B.set p (.cells ξ),θ:=[]}/\bB L x.four/\eY s ej ξ b/\x.ey/\b.sz+i<=a1.sz∧
   ∀y b',Θ (cw cc F (a1.sz+1-i) x) b y b'->Θ (cw cc F (a1.sz+1) x1) a1 y b'
  refine ω (I 0) (by
   simp[aR,h1,h2,h3,hz,h4,h5,k1]
   exact⟨by simp[h1],by simp[h2],⟨z,by simp[h3],hz⟩,by simp,x1.four,x1,aX,a1,by simp,rfl,iD kD,r1,kD,bF _,fun _ _ h=>h⟩) fun s1 hI=>?_
  refine bc (fun st=>ζ st.env 2= .ae 2 0 0/\(∃z,τ st.loc 2=some (0,.cells z)/\z.length=4)/\ζ st.env 3= .ae 3 0 0/\∃L x ξ b,τ st.loc 3=some (0,.cells L)/\st.mem= {ε:=B.set p (.cells ξ),θ:=[]}/\bB L x.four/\eY s ej ξ b/\x.ey/\Θ (cw cc F (a1.sz+1) x1) a1 x b) ?_ fun s2 ⟨h2,⟨z,h3,hz⟩,h4,L,x,ξ,b,h5,h6,hL,h7,h8,h9⟩=>?_
  ·refine μ.block (μ.jt (I:=I) a1.sz hI fun i st hi ψ=>?_);obtain⟨h1,h2,⟨z,h3,hz⟩,h4,L,x,ξ,b,h5,h6,hL,h7,h8,h9,aH⟩:=ψ;have df:=fun T=>f198 (u:=u) hs hl [43] (by decide) (by simp) hp h7 T;have jq:=fun T=>f198 (u:=u) hs hl [45] (by decide) (by simp) hp h7 T;unfold Sb;have lT:a1.sz+1-i=(a1.sz-i)+1:=by omega
   rw[lT]at aH;have iS:b.rM cc=(b.aB [43]||b.aB [45]):=by cases b<;>rfl
   cases hb:(b.aB [43]||b.aB [45])with
   |false=>
    obtain⟨bN,cQ⟩:=Bool.or_eq_false_iff.1 hb
    rw[bN]at df;rw[cQ]at jq;refine μ.done (.exit 0) (fun st=>ζ st.env 2= .ae 2 0 0/\τ st.loc 2=some (0,.cells z)/\ζ st.env 3= .ae 3 0 0/\τ st.loc 3=some (0,.cells L)/\st.mem= {ε:=B.set p (.cells ξ),θ:=[]}) (by simp[h1,h2,h3,h4,h5,h6,df,jq]) fun s' ⟨m1,m2,m3,m4,m5⟩=> .inr ⟨by simp,.inl ⟨rfl,.inl ⟨rfl,m1,⟨z,m2,hz⟩,m3,L,x,ξ,b,m4,m5,hL,h7,h8,aH x b (Θ.uX (iS.trans hb))⟩⟩⟩
   |true=>
    have jh:0<b.sz:=by
     rcases Bool.or_eq_true_iff.1 hb with h|h
     ·exact jD h (by simp)
     ·exact jD h (by simp)
    obtain⟨w,aW,b2,k2,r2,g2,-⟩:=f236 (u:=u) hs hl true (fun t=>t.text==b.hd) hp h7 (fun st t l ha ψ=>by subst ha;simp[RS.hd,PS.hd,ψ]);have lV:=g2.take jh;obtain⟨_,y,aQ,b3,k3,r3,g3,rfl,hy⟩:=C_ b2 (by omega) B p aW hp r2;have x7:=g3.sz jf;have dU:L.length=4:=by rw[hL.len,x.gK]
    have eB:L.take 4=L:=dY (by omega);have eu:shaped true 4 (.agg L)=true:=by simp[shaped,dU]
    obtain⟨K,hK⟩:∃K:Int,K=if w=[45]then 4 else 3:=⟨_,rfl⟩;have step:Θ (F x) b (.mk K 0 [] .any [x,y]) b3:=by subst hK;exact Θ.as (P:=fun t=>(gR s.length (fun t=>t.text==b.hd) t).bind fun w t=>(A t).map fun y=>η.mk (if w=[45]then 4 else 3) 0 [] .any [x,y]) (g2.bind (Q:=fun w t=>(A t).map fun y=>η.mk (if w=[45]then 4 else 3) 0 [] .any [x,y]) (g3.map _)) fun t ht=>by subst ht;rfl
    have hx:(η.mk K 0 [] .any [x,y]).ey:=⟨⟨.inr rfl,h8.1,hy.1,trivial⟩,oZ,h8.2,hy.2,trivial⟩;have xE:bB [.int .i64 K,.int .i64 0,.str [],.list .full [.agg L,.agg y.four]] (η.mk K 0 [] .any [x,y]).four:=by simp only[η.four,η.Δ,η.jA];exact .cons (.int _ _) (.cons (.int _ _) (.cons (.str _) (.cons (.list .full (.cons (.agg hL) (.cons (.agg (iD hy)) .nil))) .nil)))
    refine μ.done .normal (fun st=>ζ st.env 0= .ν p 0/\ζ st.env 2= .ae 2 0 0/\τ st.loc 2=some (0,.cells z)/\ζ st.env 3= .ae 3 0 0/\τ st.loc 3=some (0,.cells [.int .i64 K,.int .i64 0,.str [],.list .full [.agg L,.agg y.four]])/\st.mem= {ε:=B.set p (.cells aQ),θ:=[]}) (by
     subst hK
     by_cases hw:w=[45]
     ·cases bN:b.aB [43]with
      |true=>rw[bN]at df;simp[h1,h2,h3,h4,h5,h6,df,k2,k3,hw,cF,dm,dy,fm,dU,eB,eu,bB.rb hL]
      |false=>rw[bN]at df;rw[bN,ahR]at hb;rw[hb]at jq;simp[h1,h2,h3,h4,h5,h6,df,jq,k2,k3,hw,cF,dm,dy,fm,dU,eB,eu,bB.rb hL]
     ·cases bN:b.aB [43]with
      |true=>rw[bN]at df;simp[h1,h2,h3,h4,h5,h6,df,k2,k3,hw,cF,dm,dy,fm,dU,eB,eu,bB.rb hL]
      |false=>rw[bN]at df;rw[bN,ahR]at hb;rw[hb]at jq;simp[h1,h2,h3,h4,h5,h6,df,jq,k2,k3,hw,cF,dm,dy,fm,dU,eB,eu,bB.rb hL]) fun s' ⟨m1,m2,m3,m4,m5,m6⟩=> .inl ⟨rfl,by omega,m1,m2,⟨z,m3,hz⟩,m4,_,_,aQ,b3,m5,m6,xE,r3,hx,by omega,fun y' b' hg=>aH y' b' (Θ.uY (iS.trans hb) step (by rw[show a1.sz+1-(i+1)=a1.sz-i by omega]at hg;exact hg))⟩
  ·have dU:L.length=4:=by rw[hL.len,x.gK]
   have eB:L.take 4=L:=dY (by omega);refine μ.done .ret (fun st=>ζ st.env 2= .ae 2 0 0/\τ st.loc 2=some (0,.cells L)/\st.mem= {ε:=B.set p (.cells ξ),θ:=[]}) (by simp[h2,h3,h4,h5,h6,hz,dU,eB]) fun s' ⟨m1,m2,m3⟩=>⟨by simp,L,x,ξ,b,m3,m1,m2,hL,h7,h9,h8⟩
 obtain⟨r,e1,e2,L,x,ξ,b,e3,e4,e5,hL,e6,e7,e8⟩:=dj;have dU:L.length=4:=by rw[hL.len,x.gK]
 have eB:L.take 4=L:=dY (by omega);exact⟨x,ξ,b,kG (g:=F6) rfl rfl rfl hp rfl ⟨r,e1,e2,⟨[],by simp[e3]⟩,[.agg L],by simp[F6,e4,e5,dU,eB],(Dv.agg hL).ai _ _ _⟩,e6,e7,e8⟩
theorem z_:∀(k:Nat) (a:RS),a.sz<k->iN u (eY s ej) 281 [] (au s.length k) Ei a
 |0,_,h=>by omega
 |k+1,a,h=>f281 hs hl (fun a h=>z_ k a h) a h
theorem f280{k:Nat}(a:RS)(ha:a.sz<k):iN u (eY s ej) 280 [] (sP s.length (au s.length k)) (fun x v=>v= .aP [.str x.1,.agg x.2.four]/\cX x.1/\x.2.ey) a:=by intro B p cs hp h;obtain⟨_,n,aX,a1,k1,r1,g1,rfl,hn⟩:=f197 (u:=u) hs hl a B p cs hp h;have s1:=g1.sz (jb _);obtain⟨_,w1,aW,a2,k2,r2,g2,rfl⟩:=f196 (u:=u) hs hl [91] (by decide) (by simp) a1 B p aX hp r1;have s2:=g2.sz (cr _ _);obtain⟨_,x,aQ,a3,k3,r3,g3,rfl,hx⟩:=z_ (u:=u) hs hl k a2 (by omega) B p aW hp r2;obtain⟨_,w2,dK,a4,k4,r4,g4,rfl⟩:=f196 (u:=u) hs hl [93] (by decide) (by simp) a3 B p aQ hp r3;refine⟨_,(n,x),dK,a4,kG (g:=F0) rfl rfl rfl hp rfl ?_,r4,g1.bind (Q:=fun n s'=>(aw s.length [91] s').bind fun _ s'=>(au s.length k s').bind fun x s'=>(aw s.length [93] s').map fun _=>(n,x)) (g2.bind (Q:=fun _ s'=>(au s.length k s').bind fun x s'=>(aw s.length [93] s').map fun _=>(n,x)) (g3.bind (Q:=fun x s'=>(aw s.length [93] s').map fun _=>(n,x)) (g4.map fun _=>(n,x)))),rfl,hn,hx⟩;simp[F0,OT,aR,k1,k2,k3,k4];exact(Dv.aP (.cons (.str n) (.cons (.agg (iD hx)) .nil))).ai _ _ _
theorem f279{k:Nat}(a:RS)(ha:a.sz<k):iN u (eY s ej) 279 [] (gP s.length (au s.length k)) Ep a:=by
 intro B p cs hp h;obtain⟨_,n,aX,a1,k1,r1,g1,rfl,hn⟩:=f197 (u:=u) hs hl a B p cs hp h;have s1:=g1.sz (jb _);have df:=fun T=>f198 (u:=u) hs hl [91] (by decide) (by simp) hp r1 T;cases hb:a1.aB [91]with
 |false=>
  rw[hb]at df
  have eS:∀st,a1= .r st->st.aB [91]=false:=fun st hs=>by subst hs;exact hb
  refine⟨_,⟨n,.nil,[]⟩,aX,a1,kG (g:=vJ) rfl rfl rfl hp rfl ?_,r1,g1.bind (Θ.as (Θ.pure _ _) fun st hs=>by simp[eS st hs]),rfl,hn,.inl rfl,by simp⟩;simp[vJ,DV,aR,k1,df,cF];rfl
 |true=>
  rw[hb]at df
  obtain⟨_,w1,aW,a2,k2,r2,g2,rfl⟩:=f196 (u:=u) hs hl [91] (by decide) (by simp) a1 B p aX hp r1;have s2:=g2.sz (cr _ _);obtain⟨_,x,aQ,a3,k3,r3,g3,rfl,hx⟩:=z_ (u:=u) hs hl k a2 (by omega) B p aW hp r2;have s3:=g3.sz (e_ _ _);have e0:∀i cs,(B++[κ.front i 4 27]).set p (.cells cs)=B.set p (.cells cs)++[.front i 4 27]:=fun i cs=>lL _ _ hp;have mV:∀i,p<(B++[κ.front i 4 27]).length:=fun i=>by simp;omega
  have jq:=fun T=>f198 (u:=u) hs hl [58] (by decide) (by simp) (B:=B++[.front 1 4 27]) (mV 1) r3 T;simp only[e0]at jq;have qN:=fun T=>Nu {ε:=B.set p (.cells aQ),θ:=T} x.gK (Dv.agg (iD hx)).φ;simp only[fj,Mem.push]at qN;cases cQ:a3.aB [58]with
  |false=>
   rw[cQ]at jq
   have eS:∀st,a3= .r st->st.aB [58]=false:=fun st hs=>by subst hs;exact cQ
   obtain⟨_,w2,dK,a4,k4,r4,g4,rfl⟩:=f196 (u:=u) hs hl [93] (by decide) (by simp) a3 (B++[.front 1 4 27]) p aQ (mV 1) r3;simp only[e0]at k4;have bW:(⟨n,.any,[x]⟩:Γ).Ok:=⟨hn,.inr rfl,by simpa using hx⟩;refine⟨_,⟨n,.any,[x]⟩,dK,a4,kG (g:=vJ) rfl rfl rfl hp rfl ?_,r4,?_,rfl,bW⟩
   ·simp[vJ,DV,aR,k1,k2,k3,k4,df,jq,cF,qN,dm,dy,fm];exact(Dv.agg (.cons (.str n) (.cons (.list _ (.cons (.agg (iD hx)) .nil)) .nil))).ai _ _ _|>.trans (by simp[Γ.av,η.jA,χ.exp])
   ·refine g1.bind (Θ.as (P:=fun t=>(aw s.length [91] t).bind fun _ t=>(au s.length k t).bind fun x t=>(if t.aB [58]then(aw s.length [58] t).bind fun _ t=>(au s.length k t).map fun y=>[x,y]else .ok [x] t).bind fun l t=>(aw s.length [93] t).map fun _=>⟨n,.any,l⟩) ?_ fun st hs=>by subst hs;exact if_pos hb);exact g2.bind (g3.bind (Θ.bind (Θ.as (Θ.pure [x] a3) fun st hs=>by simp[eS st hs]) (g4.map fun _=>_)))
  |true=>
   rw[cQ]at jq
   obtain⟨_,w2,dK,a4,k4,r4,g4,rfl⟩:=f196 (u:=u) hs hl [58] (by decide) (by simp) a3 (B++[.front 1 4 27]) p aQ (mV 1) r3;have s4:=g4.sz (cr _ _);obtain⟨_,y,hS,a5,k5,r5,g5,rfl,hy⟩:=z_ (u:=u) hs hl k a4 (by omega) (B++[.front 1 4 27]) p dK (mV 1) r4;obtain⟨_,w3,nV,a6,k6,r6,g6,rfl⟩:=f196 (u:=u) hs hl [93] (by decide) (by simp) a5 (B++[.front 2 4 27]) p hS (mV 2) r5;simp only[e0]at k4 k5 k6;have uB:=fun T=>Nv (B.set p (.cells hS)) T x.gK y.gK (Dv.agg (iD hy)).φ;simp only[fj]at uB;have bW:(⟨n,.any,[x,y]⟩:Γ).Ok:=⟨hn,.inr rfl,by simpa using⟨hx,hy⟩⟩;refine⟨_,⟨n,.any,[x,y]⟩,nV,a6,kG (g:=vJ) rfl rfl rfl hp rfl ?_,r6,?_,rfl,bW⟩
   ·simp[vJ,DV,aR,k1,k2,k3,k4,k5,k6,df,jq,cF,qN,uB,dm,dy,fm];exact(Dv.agg (.cons (.str n) (.cons (.list _ (.cons (.agg (iD hx)) (.cons (.agg (iD hy)) .nil))) .nil))).ai _ _ _|>.trans (by simp[Γ.av,η.jA,χ.exp])
   ·refine g1.bind (Θ.as (P:=fun t=>(aw s.length [91] t).bind fun _ t=>(au s.length k t).bind fun x t=>(if t.aB [58]then(aw s.length [58] t).bind fun _ t=>(au s.length k t).map fun y=>[x,y]else .ok [x] t).bind fun l t=>(aw s.length [93] t).map fun _=>⟨n,.any,l⟩) ?_ fun st hs=>by subst hs;exact if_pos hb);exact g2.bind (g3.bind (Θ.bind (Θ.as (P:=fun t=>(aw s.length [58] t).bind fun _ t=>(au s.length k t).map fun y=>[x,y]) (g4.bind (g5.map fun y=>[x,y])) fun st hs=>by subst hs;exact if_pos cQ) (g6.map fun _=>_)))
end
end Go.ah.Tz
namespace Go.ah
theorem Θ.bd{α:Type}{P:PS->R α}{a b:RS}{x:α}(h:Θ P a x b)(k:cT P):b.sz+a.bad<=a.sz+b.bad:=by
 have:=h.sz k;cases a with
 |w w=>simp only[Θ]at h;subst h;simp[RS.sz,RS.bad]
 |r s=>cases b<;>simp[RS.bad]<;>omega
theorem Θ.jB{α:Type}{P:PS->R α}{a b:RS}{x:α}(h:Θ P a x b)(k:cD P)(ha:a.bad=0):b.sz+1<=a.sz+b.bad:=by
 have:=h.sz k.mQ;cases a with
 |w w=>cases ha
 |r s=>
  cases b with
  |w w=>simp[RS.sz,RS.bad]
  |r t=>
   simp only[Θ]at h
   cases hp:P s with
   |no w=>rw[hp]at h;cases h
   |ok y t'=>
    rw[hp]at h
    obtain⟨_,ht⟩:=h;cases ht;have:=k _ _ _ hp;simp only[RS.sz,RS.bad];omega
theorem Θ.span{e:Nat}{P:PS->R (δ×List (List Sp))}{a b:RS}{x:δ×List (List Sp)}(h:Θ P a x b):∃sp,Θ (t_ e P) a (x.1,sp) b/\∀s t,a= .r s->b= .r t->sp= .mk (s.at_ e) t.last x.2:=by
 cases a with
 |w w=>exact⟨.mk 0 0 [],h,fun s t h=>by cases h⟩
 |r s=>
  simp only[Θ,t_]at h⊢
  cases hp:P s with
  |no w=>rw[hp]at h;exact⟨.mk 0 0 [],h,fun s t _ h'=>by rw[h]at h';cases h'⟩
  |ok y t=>
   rw[hp]at h
   obtain⟨rfl,rfl⟩:=h;exact⟨_,⟨rfl,rfl⟩,fun s' t' h1 h2=>by cases h1;cases h2;rfl⟩
theorem Θ.BJ{α:Type}{P:PS->R α}{a b:RS}{x:α}(h:Θ P a x b)(hb:b.bad=0):a.bad=0:=by
 cases a with
 |r s=>rfl
 |w w=>simp only[Θ]at h;subst h;cases hb
namespace Tz
open Go.ah
variable{u:Nat}
attribute [local simp] exec ed dP eX aC dQ ft eL ζ gg τ fW gy gH gI lf AV.cells newVar gE rd wr fK single eV bY ek dF μ aY RV.get aV dB iE
attribute [local simp] vd u2 zm Au Ah η.gK
theorem Xy{i:Nat}{w:List Nat}(hi:i<12)(h:bu.getD i []=w)(hj:∀j,j<i->bu.getD j []≠w):eP w=i+1:=by
 have hl:i<bu.length:=hi;have e:∀j (h:j<bu.length),bu.getD j []=bu[j]:=fun j h=>by rw[kJ,dr h];rfl
 have:bu.findIdx? (fun x=>x==w)=some i:=by rw[List.findIdx?_eq_some_iff_getElem];refine⟨hl,by rw[<-e i hl,h];simp,fun j jg=>?_⟩;have:=hj j jg;rw[e j (by omega)]at this;simpa using this
 rw[eP,this]
theorem Xz{w:List Nat}(hj:∀j,j<12->bu.getD j []≠w):eP w=0:=by
 have:bu.findIdx? (fun x=>x==w)=none:=by rw[List.findIdx?_eq_none_iff];intro x hx;obtain⟨j,h,rfl⟩:=List.getElem_of_mem hx;have:=hj j h;rw[kJ,dr h]at this;simpa using this
 rw[eP,this]
def xw(a:RS):Nat:=match a with
 | .r st=>eP st.hd
 | .w _=>0
def cB(l:List Nat):List AV:=l.map fun n:Nat=> .int .i64 (n:Int)
theorem RA(l:List Nat):(cB l).all (shaped false 1)=true:=by simp[cB,List.all_map,shaped,AV.one,Function.comp]
theorem aaC(l:List Nat):(cB l).map φ=cB l:=by simp[cB,φ,Function.comp]
structure jx where
 fr:Int
 to:Int
 path:List Nat
mutual
def rq:Sp->List Nat->List jx
 | .mk f t ins,p=>ox ins p 0++[⟨f,t,p⟩]
def ox:List (List Sp)->List Nat->Nat->List jx
 |[],_,_=>[]
 |b::l,p,j=>j_ b (p++[j]) 0++ox l p (j+1)
def j_:List Sp->List Nat->Nat->List jx
 |[],_,_=>[]
 |x::l,p,i=>rq x (p++[i])++j_ l p (i+1)
end
theorem af7(l:List Sp)(x:Sp)(p:List Nat)(i:Nat):j_ (l++[x]) p i=j_ l p i++rq x (p++[i+l.length]):=by
 induction l generalizing i with
 |nil=>simp[j_]
 |cons y l ih=>simp only[List.cons_append,j_,ih,cj,eZ,show i+1+l.length=i+(l.length+1) by omega]
def jx.Ok(n:Nat)(x:jx):Prop:=0<=x.fr/\x.fr<=n/\0<=x.to/\x.to<=n
def sQ(g:χ×jx):AV:= .agg [.int .i64 g.2.fr,.int .i64 g.2.to,.list g.1 (cB g.2.path)]
def ja(n:Nat)(lS dz:List AV)(fl:List jx):Prop:=∃gl:List (χ×jx),gl.map (·.2)=fl/\dz=lS++gl.map sQ/\∀x∈fl,x.Ok n
theorem ja.refl{n:Nat}{l:List AV}:ja n l l []:=⟨[],rfl,by simp,by simp⟩
theorem ja.trans{n:Nat}{a b c:List AV}{f g:List jx}(h:ja n a b f)(k:ja n b c g):ja n a c (f++g):=by obtain⟨x,rfl,rfl,h⟩:=h;obtain⟨y,rfl,rfl,k⟩:=k;exact⟨x++y,by simp,by simp,fun z hz=>(List.mem_append.1 hz).elim (h z) (k z)⟩
theorem ja.one{n:Nat}{a:List AV}(c:χ){x:jx}(h:x.Ok n):ja n a (a++[sQ (c,x)]) [x]:=⟨[(c,x)],rfl,rfl,by simpa using h⟩
theorem ja.blk{n:Nat}{l l':List AV}{b:List Sp}{p:List Nat}(h:ja n l l' (j_ b (p++[0]) 0)):ja n l l' (ox [b] p 0):=by simpa[ox]using h
theorem ja.ε{n:Nat}{l l' RJ:List AV}{b d:List Sp}{p:List Nat}(h:ja n l l' (j_ b (p++[0]) 0))(k:ja n l' RJ (j_ d (p++[1]) 0)):ja n l RJ (ox [b,d] p 0):=by simpa[ox]using h.trans k
theorem Mk{B ext:List κ}{cp:χ}{l:List Nat}(v:Nat)(hl:l.length<5000000000):
  ∃c1 rS c2 lN,(∀T,f_ {ε:=B++ext,θ:=T} false 1 8 3 (.list .full []) (.list cp (cB l))=some (.list c1 (cB l),{ε:=B++rS,θ:=T}))∧
   (∀T,f_ {ε:=B++rS,θ:=T} false 1 8 3 (.list c1 (cB l)) (.list .full [.int .i64 v])=some (.list c2 (cB (l++[v])),{ε:=B++lN,θ:=T}))∧
   ∃y,lN=ext++y:=by
 have vZ:(cB l).length=l.length:=by simp[cB]
 have kz:cB (l++[v])=cB l++[.int .i64 v]:=by simp[cB]
 obtain⟨c1,rS,h1,sq,h_⟩:∃c1 rS,(∀T,f_ {ε:=B++ext,θ:=T} false 1 8 3 (.list .full []) (.list cp (cB l))=some (.list c1 (cB l),{ε:=B++rS,θ:=T}))/\Row (B++ext).length (B++rS) 1 3 c1 (cB l).length/\∃y,rS=ext++y:=by
  cases l with
  |nil=>exact⟨.full,ext,fun T=>by simp[f_,cB],Row.full,[],by simp⟩
  |cons a l=>
   have h0:=RA (a::l)
   have h3:=aaC (a::l);refine⟨.own (B++ext).length,ext++[.front (a::l).length 1 3],fun T=>?_,.inr ⟨_,rfl,bF _,?_⟩,_,rfl⟩
   ·have e1:cB (a::l)= .int .i64 a::cB l:=rfl;simp only[eZ]at hl;have e2:(cB l).length=l.length:=by simp[cB]
    rw[e1]at h0 h3⊢;have hn:(AV.int .i64 a::cB l).map (Mem.φ {ε:=B++ext,θ:=T})= .int .i64 a::cB l:=h3;unfold f_;have q1:(([]:List AV).length+(AV.int .i64 a::cB l).length)*8<=140737488355328:=by simp[e2];omega
    have q2:([]:List AV).length+(AV.int .i64 a::cB l).length<=140737488355328:=by simp[e2];omega
    have q3:([]:List AV).all (shaped false 1)=true:=rfl;simp only[h0,q3,q1,q2,decide_true,vm,if_true,show(0<1)=True by simp,hn,cI,Mem.push,cj];simp[e2]
   ·rw[<-cj,vZ];simp
 obtain⟨y1,rfl⟩:=h_;have aad:Row (B++ext).length ((B++ext)++y1) 1 3 c1 (cB l).length:=by rw[cj];exact sq
 obtain⟨c2,y2,h2,zV,hg2⟩:=qf (bytes:=8) aad (RA l) (show shaped false 1 (.int .i64 (v:Int))=true by rfl) (show φ (.int .i64 (v:Int))=_ by rfl) (by omega) (by rw[vZ];omega) (by rw[vZ];omega);exact⟨c1,ext++y1,c2,ext++y2,h1,fun T=>by rw[kz];have:=h2 T;simpa only[cj]using this,y2,rfl⟩
theorem u_{n:Nat}{B ext:List κ}{ag:Bool}{sz bytes:Nat}{e:TypeId}{c:χ}{l:List AV}{v:AV}(qR:B.length<=n)(h:Row n (B++ext) sz e c l.length)(eR:n<=(B++ext).length)(hl:l.all (shaped ag sz)=true)(hv:shaped ag sz v=true)(hn:φ v=v)
  (hs:0<sz) (hb:(l.length+1)*bytes<=140737488355328) (bf:l.length+1<=140737488355328):
  ∃c' ext',(∀T,f_ {ε:=B++ext,θ:=T} ag sz bytes e (.list c l) (.list .full [v])=some (.list c' (l++[v]),{ε:=B++ext',θ:=T}))/\Row n (B++ext') sz e c' (l.length+1)/\(∀eW e' c' k',e'≠e->Row B.length (B++ext) eW e' c' k'->Row B.length (B++ext') eW e' c' k')/\ext.length<=ext'.length/\∀t,t<n->(B++ext')[t]?=(B++ext)[t]?:=by
 have hB:Row B.length (B++ext) sz e c l.length:=by
  rcases h with h|⟨t,h1,h2,h3⟩
  ·exact .inl h
  ·exact .inr ⟨t,h1,by omega,h3⟩
 obtain⟨c',ext',h1,h2,h3⟩:=qf (bytes:=bytes) hB hl hv hn hs hb bf;rcases h with⟨hc,h0⟩|⟨t,rfl,ht,hr⟩
 ·have:l=[]:=ma h0;subst this;have q1:bytes<=140737488355328:=by simpa using hb
  have e1:f_ {ε:=B++ext,θ:=[]} ag sz bytes e (.list c []) (.list .full [v])=some (.list (.own (B.length+ext.length)) [v],{ε:=B++(ext++[.front 1 sz e]),θ:=[]}):=by rcases hc with rfl|rfl<;>simp[f_,hv,hs,Mem.push,Mem.φ,hn,q1]
  have e2:=h1 [];rw[e1]at e2;simp only[aZ,aN,AV.list.injEq,Mem.mk.injEq,and_true,cI]at e2;obtain⟨rfl,e3⟩:=e2;have e4:ext'=ext++[.front 1 sz e]:=(ahT e3).symm;subst e4;refine⟨_,_,h1,.inr ⟨_,rfl,by simp at eR;omega,?_⟩,h3.rows,by simp,fun t ht=>?_⟩
  ·rw[<-cj];have:B.length+ext.length=(B++ext).length:=by simp
   rw[this];simp
  ·rw[<-cj,List.getElem?_append_left (by omega)]
 ·have wm:=oX hr;have ky:(B++ext).set t (.front (l.length+1) sz e)=B++ext.set (t-B.length) (.front (l.length+1) sz e):=by rw[List.set_append,if_neg (by omega)]
  have e1:f_ {ε:=B++ext,θ:=[]} ag sz bytes e (.list (.own t) l) (.list .full [v])=some (.list (.own t) (l++[v]),{ε:=B++ext.set (t-B.length) (.front (l.length+1) sz e),θ:=[]}):=by simp only[f_];simp only[List.all_cons,hv,List.all_nil,vm,hl,hs,decide_true,eZ,List.length_nil,Nat.zero_add,hb,bf,hr,ug,if_true,and_self,List.map_cons,List.map_nil,Mem.φ,hn,Mem.put,ky]
  have e2:=h1 [];rw[e1]at e2;simp only[aZ,aN,AV.list.injEq,Mem.mk.injEq,and_true]at e2;obtain⟨rfl,e3⟩:=e2;have e4:=(ahT e3).symm;subst e4;refine⟨_,_,h1,.inr ⟨t,rfl,ht,?_⟩,h3.rows,by simp,fun t' mW=>?_⟩
  ·rw[<-ky,List.getElem?_set_self wm]
  ·rw[<-ky,List.getElem?_set_ne (by omega)]
section
variable{s:List Nat}{ej:AV}(hs:cX s)(hl:s.length<1000000000)
include hs hl
theorem f278{B:List κ}{p:Nat}{cs:List AV}{a:RS}(D:List κ)(hp:p<B.length)(h:eY s ej cs a)(T:List Nat):
  kf u 278 [.ν p 0] {ε:=B.set p (.cells cs)++D,θ:=T}=some (.int .i64 (xw a),{ε:=B.set p (.cells cs)++D,θ:=T}):=by
 have HR:=fun w hw iq T=>f198 (u:=u) hs hl w hw iq (B:=B++D) (p:=p) (by simp;omega) h T;simp only[lL _ _ hp]at HR;refine bD (g:=BH) rfl rfl rfl ?_;have dL:[AV.ν p 0].map (exp (B.set p (κ.cells cs)++D).length false)=[AV.ν p 0]:=by
  have:p<B.length+D.length:=by omega
  simp[exp,this]
 dsimp only;rw[dL];generalize hX:B.set p (κ.cells cs)++D=X at*;let I:Nat->St->Prop:=fun i st=>ζ st.env 0= .ν p 0/\ζ st.env 3= .int .i64 ((i:Int)+1)/\st.mem= {ε:=X,θ:=[]}/\∀j,j<i->a.aB (bu.getD j [])=false;have ag_:bu.length=12:=rfl;refine ω (fun st=>ζ st.env 0= .ν p 0/\st.mem= {ε:=X,θ:=[]}) (by simp) fun s1 ⟨h1,h2⟩=>?_;refine bc (fun st=>st.mem= {ε:=X,θ:=[]}/\∀j,j<12->a.aB (bu.getD j [])=false) ?_ fun s2 ⟨h1,h2⟩=>?_
 ·refine ω (I 0) (by simp[I,h1,h2]) fun s1 hI=>?_;refine μ.block (μ.jt (I:=I) 12 hI fun i st hi ψ=>?_);obtain⟨h1,h2,h3,h4⟩:=ψ;unfold Sa;rcases bP i 12 with ρ|cG
  ·have dq:(i:Int)+1<=12:=by omega
   have Mv:=fun m=>f157 (u:=u) (i+1) (by omega) (by omega) m;simp only[Nat.add_sub_cancel,Int.natCast_add,Int.cast_ofNat_Int]at Mv;have hw:a_ .i64 ((i:Int)+1+1)=((i:Int)+1)+1:=wrap_i64 (by omega) (by omega);have ca:bu.getD i []∈xf:=by rw[kJ,dr (by omega)];exact s_ _ (s_ _ (cL (by omega)))
   have ak:bu.getD i []≠[]:=by
    have:∀i,i<12->bu.getD i []≠[]:=by decide
    exact this i ρ
   have q:=HR _ ca ak [];have oS:∀st,a= .r st->a.aB (bu.getD i [])=(st.hd==bu.getD i []):=fun st h=>by subst h;rfl
   generalize mD:bu.getD i []=wd at*;cases hb:a.aB wd with
   |false=>
    rw[hb]at q
    refine μ.done .normal (fun st=>ζ st.env 0= .ν p 0/\ζ st.env 3= .int .i64 (((i+1:Nat):Int)+1)/\st.mem= {ε:=X,θ:=[]}) (by simp[h1,h2,h3,dq,Mv,hw,q]) fun s' ⟨m1,m2,m3⟩=> .inl ⟨rfl,ρ,m1,m2,m3,fun j hj=>?_⟩;rcases bP j i with h|h
    ·exact h4 j h
    ·rw[show j=i by omega,mD];exact hb
   |true=>
    rw[hb]at q
    refine μ.done .ret (fun st=>ζ st.env 2= .int .i64 ((i:Int)+1)/\st.mem= {ε:=X,θ:=[]}) (by simp[h1,h2,h3,dq,Mv,q]) fun s' ⟨m1,m2⟩=> .inr ⟨by simp,.inr ⟨by simp,?_⟩⟩;have Kl:xw a=i+1:=by
     cases a with
     |w w=>cases hb
     |r st=>
      refine Xy ρ (mD.trans (beq_iff_eq.1 hb).symm) fun j hj=>?_
      exact fun he=>beq_eq_false_iff_ne.1 (h4 j hj) he.symm
    simp[BH,m1,m2,Kl]
  ·have:i=12:=by omega
   subst this;refine μ.done (.exit 0) (fun st=>st.mem= {ε:=X,θ:=[]}) (by simp[h1,h2,h3]) fun s' h=> .inr ⟨by simp,.inl ⟨rfl,.inl ⟨rfl,h,h4⟩⟩⟩
 ·have Kl:xw a=0:=by
   cases a with
   |w w=>rfl
   |r st=>exact Xz fun j hj he=>beq_eq_false_iff_ne.1 (h2 j hj) he.symm
  simp[BH,h1,Kl]
end
end Tz
end Go.ah
namespace Go.ah
section
variable{α:Type}(e:Nat)(P:PS->R α)
def sR(N:Nat)(l:List α)(s:PS):R (List α):=(cw (fun s=>s.aB [44]) (fun l s=>(aw e [44] s).bind fun _ s=>(P s).map fun y=>l++[y]) N l s).bind fun l s=>(aw e [41] s).map fun _=>l
def nq(a:RS)(l:List α)(b:RS):Prop:=
 (l=[]/\b=a)\/(l≠[]/\∃N,b.sz<N/\∀y b',Θ (sR e P N l) b y b'->Θ (lY e P) a y b')\/(∃w,b= .w w/\∀y,Θ (lY e P) a y b)
variable{e P}{a b c d:RS}{l:List α}{x:α}
theorem nq.start(ha:a.aB [41]=false)(h:Θ P a x b):nq e P a [x] b:=by
 refine .inr (.inl ⟨by simp,b.sz+1,by omega,fun y b' hy=>?_⟩);have h2:Θ (fun s=>sR e P (s.l.length+1) [x] s) b y b':=by
  cases b with
  |w w=>exact hy
  |r s=>exact hy
 refine Θ.as (P:=fun s=>(P s).bind fun x s=>sR e P (s.l.length+1) [x] s) (h.bind (Q:=fun x s=>sR e P (s.l.length+1) [x] s) h2) fun s hs=>?_;subst hs;exact if_neg (by rw[show PS.aB s [41]=false from ha];simp)
theorem Ud{f:Tok->Bool}{s:PS}(hf:∀t l,s.l=t::l->f t=false):gR e f s= .no (s.at_ e):=by
 obtain⟨la,l⟩:=s;cases l with
 |nil=>rfl
 |cons t l=>simp[gR,hf t l rfl,PS.at_]
theorem nq.step(hP:cT P)(hb:b.bad=0)(h:nq e P a l b)(hl:l≠[])(eS:b.aB [41]=false){w:List Nat}(h1:Θ (aw e [44]) b w c)(h2:Θ P c x d):nq e P a (l++[x]) d:=by
 rcases h with⟨h,_⟩|⟨_,N,hN,hg⟩|⟨w,rfl,_⟩
 ·exact absurd h hl
 ·cases hc:b.aB [44]with
  |true=>
   have ρ:=h1.take (jD hc (by simp))
   have lV:=h2.sz hP;obtain⟨M,rfl⟩:∃M,N=M+1:=⟨N-1,by omega⟩;refine .inr (.inl ⟨by simp,M,by omega,fun y b' hy=>hg y b' ?_⟩);cases b with
   |w w=>cases hb
   |r s=>
    have hc:s.aB [44]=true:=hc
    have e1:∀s',s'.aB [44]=true->sR e P (M+1) l s'=(aw e [44] s').bind fun _ s'=>(P s').bind fun y s'=>sR e P M (l++[y]) s':=fun s' hs=>by
     simp only[sR,cw,hs,if_true];cases aw e [44] s' with
     |no w=>rfl
     |ok z s2=>
      simp only[R.bind]
      cases P s2<;>rfl
    have:=h1.bind (Q:=fun _ s'=>(P s').bind fun y s'=>sR e P M (l++[y]) s') (h2.bind (Q:=fun y s'=>sR e P M (l++[y]) s') hy);simpa only[Θ,e1 s hc]using this
  |false=>
   refine .inr (.inr ?_)
   cases b with
   |w w=>cases hb
   |r s=>
    have hc:(s.hd==[44])=false:=hc
    have eS:(s.hd==[41])=false:=eS;have q1:aw e [44] s= .no (s.at_ e):=Ud fun t l ht=>by simpa[PS.hd,ht]using hc
    have q2:aw e [41] s= .no (s.at_ e):=Ud fun t l ht=>by simpa[PS.hd,ht]using eS
    simp only[Θ,q1]at h1;subst h1;simp only[Θ]at h2;subst h2;refine⟨_,rfl,fun y=>hg y _ ?_⟩;obtain⟨M,rfl⟩:∃M,N=M+1:=⟨N-1,by omega⟩;have cQ:s.aB [44]=false:=hc;simp[Θ,sR,cw,cQ,R.bind,q2,R.map]
 ·cases hb
theorem nq.done(h:nq e P a l b)(pC:b.bad=1\/b.aB [41]=true){w:List Nat}(h1:Θ (aw e [41]) b w c):Θ (lY e P) a l c:=by
 rcases h with⟨rfl,rfl⟩|⟨_,N,hN,hg⟩|⟨w,rfl,hg⟩
 ·cases b with
  |w w=>exact h1
  |r s=>
   have hb:s.aB [41]=true:=pC.elim (fun h=>by cases h) id
   refine Θ.as (P:=fun s=>(aw e [41] s).map fun _=>[]) (h1.map fun _=>[]) fun t ht=>?_;cases ht;exact if_pos hb
 ·refine hg l c ?_;cases b with
  |w w=>exact h1
  |r s=>
   have hb:s.aB [41]=true:=pC.elim (fun h=>by cases h) id
   have cQ:s.aB [44]=false:=by have:s.hd=[41]:=beq_iff_eq.1 hb;simp[PS.aB,this]
   obtain⟨M,rfl⟩:∃M,N=M+1:=⟨N-1,by omega⟩;refine Θ.as (P:=fun s=>(aw e [41] s).map fun _=>l) (h1.map fun _=>l) fun t ht=>?_;cases ht;simp[sR,cw,cQ,R.bind]
 ·simp only[Θ]at h1;subst h1;exact hg l
end
theorem xp(e:Nat){ix:PS->R η}(h:cT ix):cD (gP e ix):=
 (cD.take _ _).bind fun _=> .ite ((cr e _).bind fun _=>h.bind fun _=>(cT.ite ((cr e _).bind fun _=>h.map) (.ok _)).bind fun _=>(cr e _).map) (.ok _)
theorem ze(e:Nat):cD (ri e):=(cD.take _ _).bind fun _=>(cr e _).bind fun _=>(Ee e).bind fun _=>(cr e _).map
end Go.ah
