import Derived.Test.YtiigojkfojnedaaGreatDoorROa
import Derived.Test.YtiigojkfojnedaaGreatDoorRNa
import Derived.Test.YtiigojkfojnedaaGreatDoorRHw
import Derived.Test.YtiigojkfojnedaaGreatDoorRMm
set_option linter.all false
set_option maxRecDepth 100000
set_option maxHeartbeats 8000000
open List renaming mem_map->fb,nil_append->bB,getElem_of_mem->vX,mem_append->dQ,mem_singleton->fY,length_map->cz,length_append->cX,length_nil->eT,length_cons->cN,map_cons->ax,map_nil->aI,all_eq_true->dL,mem_cons->cB
open Prod.mk renaming injEq->az
open Bool renaming and_eq_true->dy,and_self->vT
open Nat renaming le_refl->b_,mul_le_mul_right->nu,blt->pZ,blt_eq->akH
open List.cons renaming injEq->sk
namespace Go.Δ.Tz
open Go.Δ
theorem cZ.can{ts:List (List Nat)}{k:Nat}{i:ζ}(h:cZ ts k i)(ht:∀t∈ts,df t=true):i.Can:=by
 induction h with
 |fix h1 h2=>exact .fix h1 h2
 |dZ h=>exact .dZ (ht _ h)
 |bin h0 h1 h2 ha hb dJ gm=>exact .bin h1 h2 dJ gm
theorem bU.named{fr:Nat}{s:Sc}(h:bU fr s):(∀t∈s.aC,df t=true)/\(∀t∈s.cu,df t=true)/\(∀t∈s.bits,df t=true)/\(∀t∈s.turns,df t=true):=by
 have h1:∀t∈s.aC,df t=true:=fun t ht=>by obtain⟨a,i,h1,-,rfl⟩:=h.aC t ht;exact pP a i (by omega) (by omega)
 refine⟨h1,fun t ht=>h1 t (h.cu t ht),fun t ht=>?_,fun t ht=>?_⟩
 ·obtain⟨i,-,rfl⟩:=h.bits t ht;exact pP 98 i (by omega) (by omega)
 ·obtain⟨i,-,rfl⟩:=h.turns t ht;exact pP 105 i (by omega) (by omega)
theorem gE.can{fr:Nat}{s:Sc}(hs:bU fr s){p:ρ}(h:gE s.aC s.turns p):p.Can:=
 ⟨hs.named.1 _ h.nm,by rw[h.cp];cases p.ix<;>rfl,h.len,fun x hx=>(h.lW x hx).can hs.named.2.2.2⟩
section
variable{bH:List (List Nat×Nat)}(dd:∀nm k,(nm,k)∈bH->df nm=true)
include dd
mutual
theorem fB.can{d fr aA:Nat}{s s':Sc}{x:δ}(h:fB bH d fr s x aA s')(hs:bU fr s):x.Can:=by
 match h with
 | .gate (pl:=pl) h1 h2 h3 h4 hc=>
  have:pl≠[]:=fun e=>by rw[e]at h3;have:=(CQ h1 h2).2.2.1;simp at h3;omega
  have mz:Ξ pl= .any:=by cases pl<;>first|exact absurd rfl this|rfl
  rw[hc,mz];exact .gate h1 h2 h3 fun p hp=>(h4 p hp).can hs
 | .take h1=>exact .take (pP 113 _ (by omega) (by omega)) (h1.can hs.named.2.2.2)
 | .drop h1=>exact .drop (hs.named.2.1 _ h1)
 | .borrow hd h1 h2 hc hn=>rw[hn];exact .borrow (pP 114 _ (by omega) (by omega)) (h1.can hs.named.2.2.2) (aY.can h2 hs.mI.inner)
 | .measure h1 h2=>
  refine .measure ?_ (h1.can hs)
  rcases h2 with rfl|h2
  ·exact pP 98 _ (by omega) (by omega)
  ·exact hs.named.2.2.1 _ h2
 | .reset h1=>exact .reset (h1.can hs)
 | .cond hd h1 h2 h3 hc hn gQ gR=>rw[hn,gR];exact .cond (hs.named.2.2.1 _ h1) (aY.can h2 hs.inner) (aY.can h3 (hs.inner.mono (aY.le h2)))
 | .loop hd h1 h2 h3 hc hn=>rw[hn];exact .loop (pP 105 _ (by omega) (by omega)) (h1.can hs.named.2.2.2) (h2.can hs.named.2.2.2) (aY.can h3 hs.dZ.inner)
 | .call h1 h2 h3 hc=>rw[hc];exact .call (dd _ _ h1) fun p hp=>(h3 p hp).can hs
 | .qT hd h2 hc hn=>rw[hn];exact .qT (aY.can h2 hs.inner)
 | .within hd h2 h3 hc hn gQ gR=>rw[hn,gR];exact .within (aY.can h2 hs.inner) (aY.can h3 (hs.inner.mono (aY.le h2)))
theorem aY.can{d fr aA:Nat}{s:Sc}{l:List δ}(h:aY bH d fr s l aA)(hs:bU fr s):δ.jQ l:=by
 match h with
 | .nil=>exact .nil
 | .cons h1 h2=>exact .cons (fB.can h1 hs) (aY.can h2 (h1.sc hs))
end
end
theorem Wl{l:List ξ}{fr:Nat}(h:fZ l fr):∀nm k,(nm,k)∈kZ l->df nm=true:=by intro nm k hk;obtain⟨x,hx,e⟩:=fb.1 hk;obtain⟨i,-,-,h3⟩:=h.names x hx;rw[az]at e;rw[<-e.1,h3];exact pP 112 i (by omega) (by omega)
theorem pg.scope{bH:List (List Nat×Nat)}{fr aA:Nat}{x:ξ}(h:pg bH fr aA x)(hf:aA<=675):bU (fr+1+x.au.length) ⟨x.au.map ai.name,[],[],[]⟩:=by have hle:=aY.le h.body;have kH:bU (fr+1) ⟨[],[],[],[]⟩:=⟨by simp,by simp,by simp,by simp⟩;obtain⟨-,p2⟩:=Ot 0 x.au (fr+1) (by omega) (fun i hi=>by have:=h.au i hi;rwa[show fr+1+1+i=fr+2+i by omega]) _ kH;simpa only[bB]using p2
theorem pg.can{bH:List (List Nat×Nat)}(dd:∀nm k,(nm,k)∈bH->df nm=true){fr aA:Nat}{x:ξ}(h:pg bH fr aA x)(hf:aA<=675):x.Can:=by refine⟨by rw[h.nm];exact pP 112 _ (by omega) (by omega),h.Kc,fun y hy=>?_,h.Q9,aY.can dd h.body (h.scope hf)⟩;obtain⟨j,hj,rfl⟩:=vX hy;obtain⟨h1,h2,h3⟩:=h.au j hj;exact⟨by rw[h1];exact pP 113 _ (by omega) (by omega),by omega,by omega⟩
theorem fZ.can{l:List ξ}{fr:Nat}(h:fZ l fr)(hf:fr<=675):∀x∈l,x.Can:=by
 induction h with
 |nil=>intro x hx;cases hx
 |@snoc l x fr aA h1 h2 ih=>
  have hle:=h2.le
  intro y hy;rcases dQ.1 hy with hy|hy
  ·exact ih (by omega) y hy
  ·obtain rfl:=fY.1 hy;exact h2.can (Wl h1) hf
theorem zh{w:List Nat}(h:df w=true):w.length<=8:=by simp only[df,dy,decide_eq_true_eq]at h;exact h.1.1.1.2
theorem cZ.Ri{ts:List (List Nat)}{k:Nat}{i:ζ}(h:cZ ts k i)(hk:k<=2):i.cnt=1:=by
 cases h with
 |fix=>simp[ζ.cnt,ζ.bK]
 |dZ=>simp[ζ.cnt,ζ.bK]
 |bin h0=>omega
theorem cZ.Zn{ts:List (List Nat)}{k:Nat}{i:ζ}(h:cZ ts k i)(hk:k<=4):i.cnt<=3:=by
 cases h with
 |fix=>simp[ζ.cnt,ζ.bK]
 |dZ=>simp[ζ.cnt,ζ.bK]
 |bin h0 h1 h2 ha hb=>
  have:=ha.Ri (by omega)
  have:=hb.Ri (by omega);simp[ζ.cnt,ζ.bK];omega
theorem cZ.ji{ts:List (List Nat)}{k:Nat}{i:ζ}(h:cZ ts k i)(hk:k<=4)(ht:∀t∈ts,df t=true):i.text.length<=39:=by have:=ζ.r_ i (ζ.V4 (may:=df) (no:=1) (by decide) (fun s hs=>zh hs) i (h.part df ht 1));have:=h.Zn hk;omega
theorem gE.ji{fr:Nat}{s:Sc}(hs:bU fr s){p:ρ}(h:gE s.aC s.turns p):p.text.length<=91:=by
 have h1:=zh (hs.named.1 _ h.nm);have h2:=h.len;have h3:∀x∈p.ix,x.text.length<=39:=fun x hx=>(h.lW x hx).ji (b_ _) hs.named.2.2.2;obtain⟨nm,c,ix⟩:=p;simp only at h1 h2 h3
 match ix,h2,h3 with
 |[],_,_=>simp[ρ.text];omega
 |[a],_,h3=>have:=h3 a (by simp);simp[ρ.text];omega
 |[a,b],_,h3=>have:=h3 a (by simp);have:=h3 b (by simp);simp[ρ.text];omega
 |_::_::_::_,h2,_=>simp at h2
theorem IM{fr:Nat}{s:Sc}(hs:bU fr s){l:List ρ}(h:∀p∈l,gE s.aC s.turns p)(hl:l.length<=3):(mK l).length<=279:=by
 have:=Cs (l.map ρ.text) 91 fun x hx=>by obtain⟨p,hp,rfl⟩:=fb.1 hx;exact(h p hp).ji hs
 rw[cz]at this;have h2:l.length*93<=3*93:=nu _ hl;unfold mK;omega
section
variable{bH:List (List Nat×Nat)}(dd:∀nm k,(nm,k)∈bH->df nm=true/\k<=3)
include dd
mutual
theorem fB.ji{d fr aA:Nat}{s s':Sc}{x:δ}(h:fB bH d fr s x aA s')(hs:bU fr s)(b:List Nat)(hb:b.length<=2*d)(oI:d<=5):(gn x b).length<=320*x.cnt:=by
 have ek:(b++fo).length=b.length+2:=by simp[fo]
 match h with
 | .gate (g:=g) h1 h2 h3 h4 hc=>
  have h5:=SH (g-1).toNat
  have:=IM hs h4 (by rw[h3];unfold ga;split<;>(try split)<;>omega)
  simp only[bD,gn,bY,if_true];generalize fu.getD (g-1).toNat []=W at h5⊢;simp[bf,δ.cnt,bz];omega
 | .take h1=>
  have:=h1.ji (b_ _) hs.named.2.2.2
  simp[bD,gn,bY,bf,δ.cnt,bz,bV];omega
 | .drop h1=>
  have:=zh (hs.named.2.1 _ h1)
  simp[bD,gn,bY,bf,δ.cnt,bz];omega
 | .borrow hd h1 h2 hc hn=>
  have:=h1.ji (b_ _) hs.named.2.2.2
  have:=aY.ji h2 hs.mI.inner (b++fo) (by omega) (by omega);simp[bD,gn,bY,bf,δ.cnt,bz,bV];omega
 | .measure (nm:=nm) (p:=p) h1 h2=>
  have:=IM hs (l:=[p]) (by simpa using h1) (by simp)
  have hn:nm.length<=8:=by
   rcases h2 with rfl|h2
   ·exact zh (pP 98 _ (by omega) (by omega))
   ·exact zh (hs.named.2.2.1 _ h2)
  simp[bD,gn,bY,bf,δ.cnt,bz];omega
 | .reset (p:=p) h1=>
  have:=IM hs (l:=[p]) (by simpa using h1) (by simp)
  simp[bD,gn,bY,bf,δ.cnt,bz];omega
 | .cond (nm:=nm) (els:=els) hd h1 h2 h3 hc hn gQ gR=>
  have:=zh (hs.named.2.2.1 _ h1)
  have h4:=aY.ji h2 hs.inner (b++fo) (by omega) (by omega);have h5:=aY.ji h3 (hs.inner.mono (aY.le h2)) (b++fo) (by omega) (by omega);have h6:=PT 7;simp only[bD,gn,bY,bf,δ.cnt,bz];generalize om 7=B7 at h6⊢;by_cases he:els.length=0<;>simp[he]<;>omega
 | .loop hd h1 h2 h3 hc hn=>
  have:=h1.ji (by omega) hs.named.2.2.2
  have:=h2.ji (by omega) hs.named.2.2.2;have:=aY.ji h3 hs.dZ.inner (b++fo) (by omega) (by omega);simp[bD,gn,bY,bf,δ.cnt,bz,bV];omega
 | .call h1 h2 h3 hc=>
  have:=zh (dd _ _ h1).1
  have:=IM hs h3 (by rw[h2];exact(dd _ _ h1).2);simp[bD,gn,bY,bf,δ.cnt,bz];omega
 | .qT hd h2 hc hn=>
  have:=aY.ji h2 hs.inner (b++fo) (by omega) (by omega)
  simp[bD,gn,bY,bf,δ.cnt,bz];omega
 | .within hd h2 h3 hc hn gQ gR=>
  have h4:=aY.ji h2 hs.inner (b++fo) (by omega) (by omega)
  have h5:=aY.ji h3 (hs.inner.mono (aY.le h2)) (b++fo) (by omega) (by omega);simp[bD,gn,bY,bf,δ.cnt,bz,om];omega
theorem aY.ji{d fr aA:Nat}{s:Sc}{l:List δ}(h:aY bH d fr s l aA)(hs:bU fr s)(b:List Nat)(hb:b.length<=2*d)(oI:d<=5):(cW l b).length<=320*δ.bK l:=by
 match h with
 | .nil=>simp[cW]
 | .cons h1 h2=>
  have:=fB.ji h1 hs b hb oI
  have:=aY.ji h2 (h1.sc hs) b hb oI;simp only[cW,cX,δ.bK];omega
end
end
theorem ag6(a b:List ξ):cM (a++b)=cM a++cM b:=by
 induction a with
 |nil=>rfl
 |cons x a ih=>simp[cM,ih]
theorem pg.ji{bH:List (List Nat×Nat)}(dd:∀nm k,(nm,k)∈bH->df nm=true/\k<=3){fr aA:Nat}{x:ξ}(h:pg bH fr aA x)(hf:aA<=675):x.text.length<=13000:=by
 have h1:=aY.ji dd h.body (h.scope hf) fo (by simp[fo]) (by omega);have h2:=h.cnt;have h3:=Cs (x.au.map ai.text) 12 fun y hy=>by obtain⟨p,hp,rfl⟩:=fb.1 hy;obtain⟨j,hj,rfl⟩:=vX hp;have e:=(h.au j hj).1;have:=Cv (x.au[j].size.toNat);simp[ai.text,e,bV];omega
 have h4:=h.yd;rw[cz]at h3;have h5:x.au.length*14<=2*14:=nu _ h4;have h6:=h.nm;simp only[ξ.text,cX,h6];simp[bV];omega
theorem fZ.ji{l:List ξ}{fr:Nat}(h:fZ l fr)(hf:fr<=675):(cM l).length<=13000*l.length:=by
 induction h with
 |nil=>simp[cM]
 |@snoc l x fr aA h1 h2 ih=>
  have hle:=h2.le
  have abf:=h1.yd;have hn:=Wl h1;have:=ih (by omega);have:=h2.ji (fun nm k hk=>⟨hn nm k hk,by
   obtain⟨y,hy,e⟩:=fb.1 hk
   rw[az]at e;have:=abf y hy;omega⟩) hf
  rw[ag6];simp only[cX,cM,eT,cN];omega
theorem fZ.ai'{l:List ξ}{fr:Nat}(h:fZ l fr)(hf:fr<=675)(h1:1<=l.length):dB (cM l):=by
 have φ:l≠[]:=fun e=>by rw[e]at h1;simp at h1
 obtain⟨w,e1,e2,e3,e4⟩:=Wg (h.can hf) φ;rw[e1];intro b hb;rcases dQ.1 hb with hb|hb
 ·exact e3.ok b hb
 ·rw[fY.1 hb];omega
theorem OM{l:List ξ}{fr:Nat}(h:fZ l fr)(hf:fr<=675)(h1:1<=l.length)(h4:l.length<=4):(cY (cM l)).1.1=l/\(cY (cM l)).2.1=0/\(cY (cM l)).2.2=0:=by
 have hlen:=h.ji hf;have h65:¬65536<(cM l).length:=by omega
 have φ:l≠[]:=fun e=>by rw[e]at h1;simp at h1
 obtain⟨w,e1,e2,e3,e4⟩:=Wg (h.can hf) φ;have ht:dK (cM l)=BJ 0 w:=by rw[e1];exact ajh e3 e4 (by simp[bZ])
 have rK:TS (qN l) (dK (cM l)):=by rw[ht,<-e2];exact ajg w 0
 obtain⟨k_,-,e5⟩:=ahk (cM l).length (h.can hf) rK;have hc:=h.right hf h1 (by omega);simp[cY,h65,e5,hc]
end Go.Δ.Tz
namespace Go.Δ
theorem uS{α:Type}{q:α->α->Bool}(l:List α)(h:∀x∈l,q x x=true):dC q l l=true:=
 JI rfl fun i h1 _=>h _ (List.getElem_mem h1)
theorem ζ.sB(x:ζ):x.eqv x=true:=by refine ζ.jd (Q:=fun x=>x.eqv x=true) (fun k n s c l ih=>?_) x;simp only[ζ.eqv,ζ.uY,uS l ih,beq_self_eq_true,vT]
theorem ρ.sB(p:ρ):p.eqv p=true:=by simp[ρ.eqv,uS p.ix fun x _=>x.sB]
theorem ai.sB(p:ai):p.eqv p=true:=by simp[ai.eqv]
theorem δ.sB(x:δ):x.eqv x=true:=by refine δ.jd (Q:=fun x=>x.eqv x=true) (fun k g nm cp pl size to cb body ce els h1 h2=>?_) x;simp only[δ.eqv,δ.uY,uS body h1,uS els h2,uS pl fun p _=>p.sB,ζ.sB,beq_self_eq_true,vT]
theorem ξ.sB(p:ξ):p.eqv p=true:=by simp[ξ.eqv,uS p.au fun x _=>x.sB,δ.uY,uS p.body fun x _=>x.sB]
theorem z_{α β γ:Type}{q:α->β->Bool}{f:α->γ}{g:β->γ}:∀{l:List α} {l':List β},(∀x∈l,∀y∈l',q x y=true->f x=g y)->dC q l l'=true->l.map f=l'.map g
 |[],[],_,_=>rfl
 |a::l,b::l',h,hq=>by simp only[dC,dy]at hq;rw[ax,ax,h a (by simp) b (by simp) hq.1,z_ (fun x hx y hy=>h x (by simp[hx]) y (by simp[hy])) hq.2]
 |[],_::_,_,hq=>by simp[dC]at hq
 |_::_,[],_,hq=>by simp[dC]at hq
theorem ζ.aja(l:List ζ):ζ.texts l=l.map ζ.text:=by
 induction l with
 |nil=>rfl
 |cons a l ih=>simp only[ζ.texts,ih,ax]
theorem ζ.uX(x:ζ):∀y:ζ,x.eqv y=true->x.text=y.text/\x.kind=y.kind:=by refine ζ.jd (Q:=fun x=>∀y:ζ,x.eqv y=true->x.text=y.text/\x.kind=y.kind) (fun k n s c l ih y hy=>?_) x;obtain⟨k',n',s',c',l'⟩:=y;simp only[ζ.eqv,ζ.uY,dy,beq_iff_eq]at hy;obtain⟨rfl,rfl,rfl,hl⟩:=hy;have h1:=z_ (f:=ζ.text) (g:=ζ.text) (fun a ha b _ h=>(ih a ha b h).1) hl;have h2:=z_ (f:=ζ.kind) (g:=ζ.kind) (fun a ha b _ h=>(ih a ha b h).2) hl;simp only[ζ.text,ζ.kind,ζ.aja,h1,h2,and_self]
theorem ρ.uX{p q:ρ}(h:p.eqv q=true):p.text=q.text:=by
 obtain⟨nm,c,ix⟩:=p;obtain⟨rV,c',ix'⟩:=q;simp only[ρ.eqv,dy,beq_iff_eq]at h;obtain⟨rfl,h⟩:=h;have h1:=z_ (f:=ζ.text) (g:=ζ.text) (fun a _ b _ h=>(ζ.uX a b h).1) h
 match ix,ix',h1 with
 |[],[],_=>rfl
 |[a],[b],h1=>simp only[ax,aI,sk,and_true]at h1;simp only[ρ.text,h1]
 |[_],_::_::_,h1=>simp at h1
 |_::_::_,[_],h1=>simp at h1
 |a::b::l,a'::b'::l',h1=>simp only[ax,sk]at h1;simp only[ρ.text,h1.1,h1.2.1]
theorem KT{l l':List δ}(h:∀x∈l,∀y∈l',x.eqv y=true->∀b,gn x b=gn y b)(hq:dC δ.eqv l l'=true)(b:List Nat):cW l b=cW l' b/\l.length=l'.length:=by
 induction l generalizing l' with
 |nil=>cases l' with
  |nil=>exact⟨rfl,rfl⟩
  |cons=>simp[dC]at hq
 |cons a l ih=>cases l' with
  |nil=>simp[dC]at hq
  |cons a' l'=>
   simp only[dC,dy]at hq
   obtain⟨i1,i2⟩:=ih (fun x hx y hy=>h x (by simp[hx]) y (by simp[hy])) hq.2;simp only[cW,h a (by simp) a' (by simp) hq.1,i1,cN,i2,and_self]
theorem δ.uX(x:δ):∀y:δ,x.eqv y=true->∀b,gn x b=gn y b:=by
 refine δ.jd (Q:=fun x=>∀y:δ,x.eqv y=true->∀b,gn x b=gn y b) (fun k g nm cp pl size to cb body ce els h1 h2 y hy b=>?_) x;obtain⟨k',g',rV,dD,qL,aiT,O9,Q_,sr,Rd,Ao⟩:=y;simp only[δ.eqv,δ.uY,dy,beq_iff_eq]at hy;obtain⟨rfl,rfl,rfl,e1,e2,e3,e4,e5⟩:=hy;have p1:=(ζ.uX _ _ e1).1;have p2:=(ζ.uX _ _ e2).1;have p3:=fun b=>KT (fun x hx y _=>h1 x hx y) e3 b;have p4:=fun b=>KT (fun x hx y _=>h2 x hx y) e4 b;have p5:=z_ (f:=ρ.text) (g:=ρ.text) (fun a _ b _ h=>ρ.uX h) e5;have p6:bY k g nm pl size to=bY k g nm qL aiT O9:=by simp only[bY,mK,p1,p2,p5]
 simp only[gn,p6,(p3 _).1,(p4 _).1,(p4 []).2]
theorem ξ.uX{p q:ξ}(h:p.eqv q=true):p.text=q.text:=by
 simp only[ξ.eqv,δ.uY,dy,beq_iff_eq]at h;obtain⟨h1,h2,h3⟩:=h;have p1:=(KT (fun x _ y _=>δ.uX x y) h3 fo).1;have p2:=z_ (f:=ai.text) (g:=ai.text) (fun a _ b _ h=>by
  simp only[ai.eqv,dy,beq_iff_eq]at h
  simp only[ai.text,h.1,h.2]) h2
 simp only[ξ.text,h1,p1,p2]
theorem Z'{l l':List ξ}(h:dC ξ.eqv l l'=true):cM l=cM l':=by
 induction l generalizing l' with
 |nil=>cases l' with
  |nil=>rfl
  |cons=>simp[dC]at h
 |cons a l ih=>cases l' with
  |nil=>simp[dC]at h
  |cons a' l'=>
   simp only[dC,dy]at h
   simp only[cM,ξ.uX h.1,ih h.2]
namespace Tz
open Go.Δ
theorem aiH{l l':List ξ}{fr aA:Nat}(h:fZ l fr)(hf:fr<=675)(h1:1<=l.length)(h4:l.length<=4)(k:fZ l' aA)(kf:aA<=675)(k1:1<=l'.length)(k4:l'.length<=4):(cM l'==cM l)=dC ξ.eqv l l':=by
 cases ha:dC ξ.eqv l l' with
 |true=>rw[Z' ha];simp
 |false=>
  cases hb:(cM l'==cM l)with
  |false=>rfl
  |true=>
   have e:cM l'=cM l:=by simpa using hb
   have a1:=(OM h hf h1 h4).1;have a2:=(OM k kf k1 k4).1;rw[e,a1]at a2;rw[a2,uS l' fun p _=>p.sB]at ha;cases ha
end Tz
end Go.Δ
namespace Go.Δ
def BF(s:List Nat):Bool:=s.all fun b=>pZ b 256
def v_(c:τ):Bool:=match c with
 | .nil=>true
 | .any=>true
 |_=>false
mutual
def ζ.okB:ζ->Bool
 | .mk _ _ s c l=>BF s&&(v_ c&&ζ.rW l)
def ζ.rW:List ζ->Bool
 |[]=>true
 |x::l=>x.okB&&ζ.rW l
end
def ρ.okB(p:ρ):Bool:=BF p.name&&(v_ p.c&&ζ.rW p.ix)
mutual
def δ.okB:δ->Bool
 | .mk _ _ nm cp pl size to cb body ce els=>BF nm&&(v_ cp&&(pl.all ρ.okB&&(size.okB&&(to.okB&&(v_ cb&&(δ.rW body&&(v_ ce&&δ.rW els)))))))
def δ.rW:List δ->Bool
 |[]=>true
 |x::l=>x.okB&&δ.rW l
end
def ξ.okB(p:ξ):Bool:=BF p.name&&(v_ p.cp&&(p.au.all (fun x=>BF x.name)&&(v_ p.cb&&(δ.rW p.body&&(!(decide (p.cp= .nil))||p.au.isEmpty)))))
theorem EC{s:List Nat}(h:BF s=true):dB s:=fun b hb=>akH.mp (dL.1 h b hb)
theorem xU{c:τ}(h:v_ c=true):bm c:=by cases c<;>first|exact .inl rfl|exact .inr rfl|cases h
theorem ζ.Bo{l:List ζ}(h:ζ.rW l=true):∀x∈l,x.okB=true:=by
 induction l with
 |nil=>intro x hx;cases hx
 |cons a l ih=>
  simp only[ζ.rW,dy]at h
  intro x hx;rcases cB.1 hx with rfl|hx
  ·exact h.1
  ·exact ih h.2 x hx
theorem ζ.D_{l:List ζ}(h:∀x∈l,x.gu):ζ.cm l/\ζ.Strs l:=by
 induction l with
 |nil=>exact⟨trivial,trivial⟩
 |cons a l ih=>
  obtain⟨i1,i2⟩:=ih fun x hx=>h x (by simp[hx])
  exact⟨⟨(h a (by simp)).1,i1⟩,⟨(h a (by simp)).2,i2⟩⟩
theorem ζ.vE(x:ζ):x.okB=true->x.gu:=by refine ζ.jd (Q:=fun x=>x.okB=true->x.gu) (fun k n s c l ih h=>?_) x;simp only[ζ.okB,dy]at h;obtain⟨i1,i2⟩:=ζ.D_ fun x hx=>ih x hx (ζ.Bo h.2.2 x hx);exact⟨⟨xU h.2.1,i1⟩,EC h.1,i2⟩
theorem ρ.vE{p:ρ}(h:p.okB=true):p.Ok:=by simp only[ρ.okB,dy]at h;exact⟨EC h.1,xU h.2.1,fun x hx=>x.vE (ζ.Bo h.2.2 x hx)⟩
theorem δ.Bo{l:List δ}(h:δ.rW l=true):∀x∈l,x.okB=true:=by
 induction l with
 |nil=>intro x hx;cases hx
 |cons a l ih=>
  simp only[δ.rW,dy]at h
  intro x hx;rcases cB.1 hx with rfl|hx
  ·exact h.1
  ·exact ih h.2 x hx
theorem δ.D_{l:List δ}(h:∀x∈l,x.Ok):δ.cm l:=by
 induction l with
 |nil=>trivial
 |cons a l ih=>exact⟨h a (by simp),ih fun x hx=>h x (by simp[hx])⟩
theorem δ.vE(x:δ):x.okB=true->x.Ok:=by refine δ.jd (Q:=fun x=>x.okB=true->x.Ok) (fun k g nm cp pl size to cb body ce els h1 h2 h=>?_) x;simp only[δ.okB,dy]at h;obtain⟨a1,a2,a3,a4,a5,a6,a7,a8,a9⟩:=h;exact⟨EC a1,xU a2,fun p hp=>ρ.vE (dL.1 a3 p hp),size.vE a4,to.vE a5,xU a6,δ.D_ fun y hy=>h1 y hy (δ.Bo a7 y hy),xU a8,δ.D_ fun y hy=>h2 y hy (δ.Bo a9 y hy)⟩
theorem ξ.vE{p:ξ}(h:p.okB=true):p.Ok:=by
 simp only[ξ.okB,dy,Bool.or_eq_true,Bool.not_eq_true',decide_eq_false_iff_not]at h;obtain⟨a1,a2,a3,a4,a5,a6⟩:=h;refine⟨EC a1,xU a2,fun x hx=>EC (dL.1 a3 x hx),xU a4,δ.D_ fun y hy=>y.vE (δ.Bo a5 y hy),fun e=>?_⟩;rcases a6 with a6|a6
 ·exact absurd e a6
 ·exact List.isEmpty_iff.1 a6
end Go.Δ
namespace Go.Δ.Tz
open Go.Δ
variable{u:Nat}
attribute [local simp] exec ef dR e_ aJ dF fE eR br fM bR iL iS jm jE mo AV.cells newVar jA rd wr iu single dk cD ff eF μ cF RV.get cK fV kT tQ
theorem VN(l:List ξ)(h:l.all ξ.okB=true):∀x∈l,x.Ok:=fun x hx=>ξ.vE (dL.1 h x hx)
theorem Ol(s:List Nat)(hs:dB s)(hl:s.length<1000000000)(aj:∀x∈(cY s).1.1,x.Ok)(m:Mem):kf u 39 [.str s] m=some (.aU [.agg [.list (Ξ (cY s).1.1) ((cY s).1.1.map ξ.av)],.n (cY s).2.1,.n (cY s).2.2],m):=by have Wp:=fun m=>f124 (u:=u) s hs hl m;simp only[zu]at Wp;have hp:=Dv.list (Ξ (cY s).1.1) (bL.of ξ.av _ fun x hx=>ξ.jR (aj x hx));rw[fq (kE _)]at hp;have hv:Dv (.aU [.agg [.list (Ξ (cY s).1.1) ((cY s).1.1.map ξ.av)],.n (cY s).2.1,.n (cY s).2.2]) (.aU [.agg [.list (Ξ (cY s).1.1) ((cY s).1.1.map ξ.av)],.n (cY s).2.1,.n (cY s).2.2]):= .aU (.cons (.agg (.cons hp .nil)) (.cons (.int _ _) (.cons (.int _ _) .nil)));refine dt (g:=G5) rfl rfl rfl ?_;simp only[ax,aI,exp,G5,QX];refine Ψ (fun st=>st.e 0= .str s/\st.e 2= .ak 2 0 0/\st.q 2=some (0,.cells [.list .nil []])/\st.q 5=none/\st.mem= {ε:=m.ε,η:=[]}) (by simp[bJ]) fun s1 ⟨h1,h2,h3,h4,h5⟩=>?_;simp[h1,h2,h3,h4,h5,Wp,bJ];exact hv.aQ _ _ _
theorem ahR(s:List Nat):(cY s).2.2=0->mQ (cY s).1.1=0/\gC (cY s).1.1<1000000000/\(cY s).2.1=0:=by
 unfold cY;split
 ·intro h;exact absurd h (by decide)
 ·rename_i Dl;split
  ·intro h;exact absurd (show(4:Int)=0 from h) (by decide)
  ·rename_i x t hx;split
   ·rename_i hc;intro _;have:=Xw hx;have:=Xi s;exact⟨hc,by dsimp only;omega,rfl⟩
   ·rename_i hc;intro h;exact absurd h hc
def Ix(s:List Nat):List Nat:=if(cY s).2.2=0 then cM (cY s).1.1 else[]
theorem V1(s:List Nat)(hs:dB s)(hl:s.length<1000000000)(aj:∀x∈(cY s).1.1,x.Ok)(m:Mem):kf u 56 [.str s] m=some (.aU [.str (Ix s),.n (cY s).2.1,.n (cY s).2.2],m):=by
 have xw:=fun m=>Ol (u:=u) s hs hl aj m;have hf:=ahR s;have hz:∀bs n (a:List Nat) (i j:Int),aQ bs n 8 (.aU [.str a,.n i,.n j])= .aU [.str a,.n i,.n j]:=fun _ _ _ _ _=>rfl;refine dt (g:=G7) rfl rfl rfl ?_;simp only[ax,aI,exp,G7,QZ];unfold Ix;refine Ψ (fun st=>st.e 0= .str s/\st.q 5=none/\st.mem= {ε:=m.ε,η:=[]}) (by simp) fun s1 ⟨h1,h2,h3⟩=>?_;by_cases he:(cY s).2.2=0
 ·obtain⟨hc,hw,h0⟩:=hf he;have Wv:=fun m=>f25 (u:=u) (Ξ (cY s).1.1) (kE _) _ aj hw m;simp only[IS,hc,if_true,ti]at Wv;rw[if_pos he,h0,he];rw[h0,he]at xw;simp[h1,h2,h3,xw,Wv,bJ,hz]
 ·have sN:((cY s).2.2 !=0)=true:=by simpa using he
  rw[if_neg he];simp[h1,h2,h3,xw,bJ,sN,hz]
def T0:List Nat:=[112,114,111,99,32,109,97,105,110,40,113,91,50,93,41,32,123,32,104,32,113,91,48,93,59,32,99,120,32,113,91,48,93,44,32,113,91,49,93,59,32,109,101,97,115,117,114,101,32,113,91,48,93,32,58,32,98,59,32,105,102,32,98,32,123,32,120,32,113,91,49,93,59,32,125,32,125]
def T3:List Nat:=[112,114,111,99,32,102,40,113,91,49,93,41,32,123,32,116,97,107,101,32,113,91,49,93,59,32,125]
def T4:List Nat:=[112,114,111,99,32,102,40,41,32,123,32,105,102,32,40]
def T5:List Nat:=[112,114,111,99,32,104,40,41,32,123,125]
def T8:List Nat:=[112,114,111,99,32,102,40,113,91,51,93,41,32,123,32,102,111,114,32,105,32,61,32,48,32,58,32,51,32,123,32,119,105,116,104,105,110,32,123,32,104,32,113,91,105,93,59,32,125,32,97,112,112,108,121,32,123,32,122,32,113,91,105,93,59,32,125,32,125,32,125]
def T9:List Nat:=[112,114,111,99,32,102,40,113,91,51,93,41,32,123,10,32,32,102,111,114,32,105,32,61,32,48,32,58,32,51,32,123,10,32,32,32,32,119,105,116,104,105,110,32,123,10,32,32,32,32,32,32,104,32,113,91,105,93,59,10,32,32,32,32,125,32,97,112,112,108,121,32,123,10,32,32,32,32,32,32,122,32,113,91,105,93,59,10,32,32,32,32,125,10,32,32,125,10,125,10]
noncomputable def yA:AV:= .list (Ξ (cY T0).1.1) ((cY T0).1.1.map ξ.av)
def xA:AV:= .agg [.n 5,.n 0,.str [],.list .full [.agg [.n 1,.n 2,.str [],.list .nil []],.agg [.n 3,.n 0,.str [],.list .full [.agg [.n 2,.n 0,.str [105],.list .nil []],.agg [.n 1,.n 1,.str [],.list .nil []]]]]]
def sA:List AV:=[(.n 1),(.n 1),(.str []),(.list .any [(.agg [(.str [113]),(.list .any [(.agg [(.n 1),(.n 1),(.str []),(.list .any [])])])])]),(.n 0),(.n 0),(.str []),(.list .any []),(.n 0),(.n 0),(.str []),(.list .any []),(.list .any []),(.list .any [])]
theorem YD(u:Nat)(b1 b2:θ):cv (C u) 60 (.fn (.func 70) [] []) [.agg [yA]] {ε:=[b1,b2],η:=[]}=some (.aU [.n 5,.n 0],{ε:=[b1,b2],η:=[]}):=by kernel_rfl
theorem YE(u:Nat)(b1 b2:θ):cv (C u) 60 (.fn (.func 72) [] []) [.agg [yA],.list .full [.n 0,.n 3,.n 0,.n 0]] {ε:=[b1,b2],η:=[]}=some (.aU [.agg sA,.n 0],{ε:=[b1,b2],η:=[]}):=by kernel_rfl
theorem YF(u:Nat)(b1 b2:θ):cv (C u) 60 (.fn (.func 26) [] []) [xA] {ε:=[b1,b2],η:=[]}=some (.aU [.str [50,32,42,32,40,105,32,43,32,49,41],.n 0],{ε:=[b1,b2],η:=[]}):=by kernel_rfl
theorem YG(u:Nat)(b1 b2:θ):cv (C u) 60 (.fn (.func 32) [] []) [xA,.list .full [.str [105]],.list .full [.n 3]] {ε:=[b1,b2],η:=[]}=some (.aU [.n 8,.n 0],{ε:=[b1,b2],η:=[]}):=by kernel_rfl
theorem rd0:(cY T0).2=(0,0):=by kernel_rfl
theorem rd3:cY T3=(([],[]),27,5):=by kernel_rfl
theorem rd4:cY T4=(([],[]),14,4):=by kernel_rfl
theorem rd5:cY T5=(([],[]),5,4):=by kernel_rfl
theorem rd8:Ix T8=T9:=by kernel_rfl
theorem rd9:(cY T8).2=(0,0):=by kernel_rfl
theorem okB(s:List Nat)(h:s.all (fun b=>pZ b 256)=true):dB s:=fun b hb=>akH.mp (dL.1 h b hb)
theorem ok0:(cY T0).1.1.all ξ.okB=true:=by kernel_rfl
theorem ok3:(cY T3).1.1.all ξ.okB=true:=by kernel_rfl
theorem ok4:(cY T4).1.1.all ξ.okB=true:=by kernel_rfl
theorem ok5:(cY T5).1.1.all ξ.okB=true:=by kernel_rfl
theorem ok8:(cY T8).1.1.all ξ.okB=true:=by kernel_rfl
theorem aai(b1 b2:θ):kf u 19 [] {ε:=[b1,b2],η:=[]}=some (.bool true,{ε:=[b1,b2],η:=[]}):=by
 have xw:=fun(s:List Nat) (h:s.all (fun b=>pZ b 256)=true) (hl:pZ s.length 1000000000=true) (aj:(cY s).1.1.all ξ.okB=true)=>Ol (u:=u) s (okB s h) (akH.mp hl) (VN _ aj) {ε:=[b1,b2],η:=[]};have q0:kf u 39 [.str T0] {ε:=[b1,b2],η:=[]}=some (.aU [.agg [yA],.n 0,.n 0],{ε:=[b1,b2],η:=[]}):=by have h:=xw T0 (by kernel_rfl) (by kernel_rfl) ok0;rw[rd0]at h;exact h
 have q3:=xw T3 (by kernel_rfl) (by kernel_rfl) ok3;have q4:=xw T4 (by kernel_rfl) (by kernel_rfl) ok4;have q5:=xw T5 (by kernel_rfl) (by kernel_rfl) ok5;have q8:=V1 (u:=u) T8 (okB T8 (by kernel_rfl)) (akH.mp (by kernel_rfl)) (VN _ ok8) {ε:=[b1,b2],η:=[]};rw[rd3]at q3;rw[rd4]at q4;rw[rd5]at q5;rw[rd8,rd9]at q8;have q1:=ot.2 ⟨60,YD u b1 b2⟩;have q2:=ot.2 ⟨60,YE u b1 b2⟩;have q6:=ot.2 ⟨60,YF u b1 b2⟩;have q7:=ot.2 ⟨60,YG u b1 b2⟩;simp only[T0,T3,T4,T5,T8,T9,xA,sA,aI]at q0 q1 q2 q3 q4 q5 q6 q7 q8;generalize yA=y at*;refine dt (g:=g19) rfl rfl rfl ?_;simp only[aI,g19,Qn];let K1:St->Prop:=fun st=>st.mem= {ε:=[b1,b2],η:=[]}/\st.e 1= .ak 1 0 0/\st.q 1=some (0,.cells [y])/\st.e 2= .n 0/\st.e 3= .n 0;refine Ψ (fun st=>st.mem= {ε:=[b1,b2],η:=[]}/\st.loc=[]) (by simp) fun s1 ⟨h1,h2⟩=>?_;refine Ψ (fun st=>K1 st/\st.q 6=none/\st.q 8=none/\st.q 11=none/\st.q 14=none/\st.q 17=none) (by simp[K1,h1,h2,q0,bJ]) fun s1 ⟨⟨h1,h2,h3,h4,h5⟩,n6,n8,zg,vB,s9⟩=>?_;let K2:St->Prop:=fun st=>K1 st/\st.e 4= .n 5/\st.e 5= .n 0;refine Ψ (fun st=>K2 st/\st.q 6=none/\st.q 8=none/\st.q 11=none/\st.q 14=none/\st.q 17=none) (by simp[K2,K1,h1,h2,h3,h4,h5,n6,n8,zg,vB,s9,q1]) fun s1 ⟨⟨⟨h1,h2,h3,h4,h5⟩,h6,h7⟩,n6,n8,zg,vB,s9⟩=>?_;let K3:St->Prop:=fun st=>K2 st/\st.e 6= .ak 6 0 0/\(∃l,st.q 6=some (0,.cells (.n 1:: .n 1::l)))/\st.e 7= .n 0;refine Ψ (fun st=>K3 st/\st.q 8=none/\st.q 11=none/\st.q 14=none/\st.q 17=none) (by simp[K3,K2,K1,h1,h2,h3,h4,h5,h6,h7,n6,n8,zg,vB,s9,q2,bJ,shaped,AV.one,Mem.ν,ν,cG]) fun s1 ⟨⟨⟨⟨h1,h2,h3,h4,h5⟩,h6,h7⟩,h8,⟨l,h9⟩,aE⟩,n8,zg,vB,s9⟩=>?_;let K4:St->Prop:=fun st=>K3 st/\st.e 9= .n 27/\st.e 10= .n 5;refine Ψ (fun st=>K4 st/\st.q 11=none/\st.q 14=none/\st.q 17=none) (by simp[K4,K3,K2,K1,h1,h2,h3,h4,h5,h6,h7,h8,h9,aE,n8,zg,vB,s9,q3,bJ]) fun s1 ⟨⟨⟨⟨⟨h1,h2,h3,h4,h5⟩,h6,h7⟩,h8,⟨l,h9⟩,aE⟩,cH,dq⟩,zg,vB,s9⟩=>?_;let K5:St->Prop:=fun st=>K4 st/\st.e 12= .n 14/\st.e 13= .n 4;refine Ψ (fun st=>K5 st/\st.q 14=none/\st.q 17=none) (by simp[K5,K4,K3,K2,K1,h1,h2,h3,h4,h5,h6,h7,h8,h9,aE,cH,dq,zg,vB,s9,q4,bJ]) fun s1 ⟨⟨⟨⟨⟨⟨h1,h2,h3,h4,h5⟩,h6,h7⟩,h8,⟨l,h9⟩,aE⟩,cH,dq⟩,jT,oE⟩,vB,s9⟩=>?_;let K6:St->Prop:=fun st=>K5 st/\st.e 15= .n 5/\st.e 16= .n 4;refine Ψ (fun st=>K6 st/\st.q 17=none) (by simp[K6,K5,K4,K3,K2,K1,h1,h2,h3,h4,h5,h6,h7,h8,h9,aE,cH,dq,jT,oE,vB,s9,q5,bJ]) fun s1 ⟨⟨⟨⟨⟨⟨⟨h1,h2,h3,h4,h5⟩,h6,h7⟩,h8,⟨l,h9⟩,aE⟩,cH,dq⟩,jT,oE⟩,nG,mT⟩,s9⟩=>?_;let K7:St->Prop:=fun st=>K6 st/\st.e 17= .ak 17 0 0/\st.q 17=some (0,.cells [.n 5,.n 0,.str [],.list .full [.agg [.n 1,.n 2,.str [],.list .nil []],.agg [.n 3,.n 0,.str [],.list .full [.agg [.n 2,.n 0,.str [105],.list .nil []],.agg [.n 1,.n 1,.str [],.list .nil []]]]]]);refine Ψ (K7) (by simp[K7,K6,K5,K4,K3,K2,K1,h1,h2,h3,h4,h5,h6,h7,h8,h9,aE,cH,dq,jT,oE,nG,mT,s9,bJ,dG,shaped,Mem.ν,ν,cG]) fun s1 ⟨⟨⟨⟨⟨⟨⟨h1,h2,h3,h4,h5⟩,h6,h7⟩,h8,⟨l,h9⟩,aE⟩,cH,dq⟩,jT,oE⟩,nG,mT⟩,qf,bo⟩=>?_;let K8:St->Prop:=fun st=>K7 st/\st.e 18= .str [50,32,42,32,40,105,32,43,32,49,41]/\st.e 19= .n 0;refine Ψ (K8) (by simp[K8,K7,K6,K5,K4,K3,K2,K1,h1,h2,h3,h4,h5,h6,h7,h8,h9,aE,cH,dq,jT,oE,nG,mT,qf,bo,q6]) fun s1 ⟨⟨⟨⟨⟨⟨⟨⟨h1,h2,h3,h4,h5⟩,h6,h7⟩,h8,⟨l,h9⟩,aE⟩,cH,dq⟩,jT,oE⟩,nG,mT⟩,qf,bo⟩,bu,yg⟩=>?_;let K9:St->Prop:=fun st=>K8 st/\st.e 20= .n 8/\st.e 21= .n 0;refine Ψ (K9) (by simp[K9,K8,K7,K6,K5,K4,K3,K2,K1,h1,h2,h3,h4,h5,h6,h7,h8,h9,aE,cH,dq,jT,oE,nG,mT,qf,bo,bu,yg,q7,shaped,AV.one,Mem.ν,ν]) fun s1 ⟨⟨⟨⟨⟨⟨⟨⟨⟨h1,h2,h3,h4,h5⟩,h6,h7⟩,h8,⟨l,h9⟩,aE⟩,cH,dq⟩,jT,oE⟩,nG,mT⟩,qf,bo⟩,bu,yg⟩,h21,h22⟩=>?_;simp[h1,h2,h3,h4,h5,h6,h7,h8,h9,aE,cH,dq,jT,oE,nG,mT,qf,bo,bu,yg,h21,h22,q8]
structure Md (cp:τ) (bc:List ξ):Prop where
 cp:bm cp
 made:∃fr,fZ bc fr/\fr<=675
 len:1<=bc.length/\bc.length<=4
section
variable{cp:τ}{bc:List ξ}(h:Md cp bc)
include h
theorem Md.ok:∀x∈bc,x.Ok:=by obtain⟨fr,h1,h2⟩:=h.made;exact h1.str h2
theorem Md.wt:gC bc<100000:=by obtain⟨fr,h1,h2⟩:=h.made;have:=h1.wt;have:=h.len.2;omega
theorem Md.right:mQ bc=0:=by obtain⟨fr,h1,h2⟩:=h.made;exact h1.right h2 h.len.1 (by have:=h.len.2;omega)
theorem Md.text:dB (cM bc):=by obtain⟨fr,h1,h2⟩:=h.made;exact h1.ai' h2 h.len.1
theorem Md.ji:(cM bc).length<1000000:=by obtain⟨fr,h1,h2⟩:=h.made;have:=h1.ji h2;have:=h.len.2;omega
theorem Md.read:(cY (cM bc)).1.1=bc/\(cY (cM bc)).2.1=0/\(cY (cM bc)).2.2=0:=by obtain⟨fr,h1,h2⟩:=h.made;exact OM h1 h2 h.len.1 h.len.2
theorem Md.cap:Ξ bc= .any:=by
 have:=h.len.1;cases bc with
 |nil=>simp at this
 |cons=>rfl
theorem Md.print(m:Mem):kf u 25 [.agg [.list cp (bc.map ξ.av)]] m=some (.aU [.str (cM bc),.n 0],m):=by have:=f25 (u:=u) cp h.cp bc h.ok (by have:=h.wt;omega) m;rw[IS,h.right,if_pos rfl]at this;exact this
theorem Md.check(m:Mem):kf u 43 [.agg [.list cp (bc.map ξ.av)]] m=some (.n 0,m):=by have:=f43 (u:=u) cp h.cp bc h.ok (by have:=h.wt;omega) m;rw[h.right]at this;exact this
theorem Md.parse(m:Mem):kf u 39 [.str (cM bc)] m=some (.aU [.agg [.list .any (bc.map ξ.av)],.n 0,.n 0],m):=by have:=Ol (u:=u) (cM bc) h.text (by have:=h.ji;omega) (by rw[h.read.1];exact h.ok) m;obtain⟨e1,e2,e3⟩:=h.read;rw[e1,e2,e3,h.cap]at this;exact this
theorem Md.tidy(m:Mem):kf u 56 [.str (cM bc)] m=some (.aU [.str (cM bc),.n 0,.n 0],m):=by have:=V1 (u:=u) (cM bc) h.text (by have:=h.ji;omega) (by rw[h.read.1];exact h.ok) m;obtain⟨e1,e2,e3⟩:=h.read;rw[Ix,e1,e2,e3,if_pos rfl]at this;exact this
end
theorem Md.same{cp cq:τ}{p q:List ξ}(h:Md cp p)(k:Md cq q)(m:Mem):kf u 74 [.agg [.list cp (p.map ξ.av)],.agg [.list cq (q.map ξ.av)]] m=some (.bool (dC ξ.eqv p q),m):=
 f74 cp cq h.cp k.cp p q h.ok k.ok (by have:=h.wt;omega) (by have:=k.wt;omega) m
theorem Md.aiF{cp cq:τ}{p q:List ξ}(h:Md cp p)(k:Md cq q)(m:Mem):kf u 76 [.agg [.list cp (p.map ξ.av)],.agg [.list cq (q.map ξ.av)]] m=some (.bool (dC ξ.eqv p q),m):=
 f76 cp cq h.cp k.cp p q h.ok k.ok (by have:=h.wt;omega) (by have:=k.wt;omega) m
theorem Vx(c:τ)(hc:bm c)(bs:List Nat)(hn:c= .nil->bs=[])(B:List θ):∃b b' cp bc,Md cp bc/\(∀T,kf u 36 [gg c bs] {ε:=B,η:=T}=some (.κ B.length 0,{ε:=B++[b],η:=T}))∧
  ∀T,kf u 35 [.κ B.length 0] {ε:=B++[b],η:=T}=some (.agg [.list cp (bc.map ξ.av)],{ε:=B++[b'],η:=T}):=by
 obtain⟨c1,tT,q36⟩:=f36 (u:=u) c hc bs hn B;obtain⟨n',x',cp,fr,bc,h1,h2,h3,h4,h5,Ww⟩:=f35 (u:=u) (ps:=B.length) (c:=c1) (bs:=bs.take 300) (n:=0) (x:=2463534242) (B:=B++[.cells (aP c1 (bs.take 300) 0 2463534242)]) (by simp;omega) (by simp) (by omega);have e:(B++[θ.cells (aP c1 (bs.take 300) 0 2463534242)]).set B.length (.cells (aP c1 (bs.take 300) n' x'))=B++[.cells (aP c1 (bs.take 300) n' x')]:=by rw[List.set_append_right _ _ (b_ _)];simp
 rw[e]at Ww;exact⟨_,_,cp,bc,⟨h5,⟨fr,h2,by omega⟩,h4⟩,q36,Ww⟩
theorem f12(c c':τ)(hc:bm c)(gQ:bm c')(bs lP:List Nat)(hn:c= .nil->bs=[])(gR:c'= .nil->lP=[]):kf u 12 [gg c bs,gg c' lP] {ε:=[],η:=[]}=some (.bool true,{ε:=[],η:=[]}):=by
 obtain⟨b1,xQ,cp,p,hp,q1,q2⟩:=Vx (u:=u) c hc bs hn [];obtain⟨b2,Ab,cq,q,hq,q3,q4⟩:=Vx (u:=u) c' gQ lP gR [xQ];have Ω:(cM q==cM p)=dC ξ.eqv p q:=by obtain⟨fr,h1,h2⟩:=hp.made;obtain⟨aA,k1,k2⟩:=hq.made;exact aiH h1 h2 hp.len.1 hp.len.2 k1 k2 hq.len.1 hq.len.2
 have hrefl:dC ξ.eqv p p=true:=uS p fun x _=>x.sB;have qs:Md .any p:=⟨.inr rfl,hp.made,hp.len⟩;let M:Mem:= {ε:=[xQ,Ab],η:=[]};have e1:=hp.print (u:=u) M;have e2:=hp.parse (u:=u) M;have e3:=hp.tidy (u:=u) M;have e4:=hq.print (u:=u) M;have e5:=hp.check (u:=u) M;have e6:=qs.same (u:=u) hp M;have e7:=hp.same (u:=u) hq M;have e8:=hp.aiF (u:=u) hq M;have e9:=aai (u:=u) xQ Ab;rw[hrefl]at e6;have hex:∀(c:τ) (bs:List Nat),bm c->exp 0 false (gg c bs)=gg c bs:=fun c bs h=>by
  have:aX 0 false (bs.map fun b:Nat=>AV.int .u8 (b:Int))=bs.map fun b:Nat=>AV.int .u8 (b:Int):=by rw[ft,List.map_map];rfl
  simp only[gg,exp,this,fq h]
 refine dt (g:=g12) rfl rfl rfl ?_;simp only[ax,aI,eT,hex c bs hc,hex c' lP gQ];generalize gg c bs=A1 at q1⊢;generalize gg c' lP=A2 at q3⊢;generalize cM p=s at*;generalize cM q=s' at*;generalize dC ξ.eqv p q=z at*;generalize p.map ξ.av=X at*;generalize q.map ξ.av=Y at*;simp only[eT,bB,cN,List.cons_append]at q1 q2 q3 q4;unfold g12 c12;have hM:M= {ε:=[xQ,Ab],η:=[]}:=rfl;rw[hM]at e1 e2 e3 e4 e5 e6 e7 e8;let K:St->Prop:=fun st=>(st.mem= {ε:=[xQ,Ab],η:=[]}/\st.e 5= .ak 5 0 0/\st.q 5=some (0,.cells [.list cp X])/\st.e 6= .ak 6 0 0/\st.q 6=some (0,.cells [.list cq Y]));refine Ψ (fun st=>st.e 0=A1/\st.e 1=A2/\st.mem= {ε:=[],η:=[]}/\st.loc=[]) (by simp) fun s1 ⟨h0,h1,h2,h3⟩=>?_;refine Ψ (fun st=>K st/\st.q 9=none) (by simp[K,h0,h1,h2,h3,q1,q2,q3,q4,bJ]) fun s1 ⟨⟨h2,h5,l5,h6,l6⟩,n9⟩=>?_;refine Ψ (fun st=>(K st/\st.q 9=none)/\st.e 7= .str s/\st.e 8= .n 0) (by simp[K,h2,h5,l5,h6,l6,n9,e1]) fun s1 ⟨⟨⟨h2,h5,l5,h6,l6⟩,n9⟩,h7,h8⟩=>?_;refine Ψ (fun st=>(K st/\st.e 7= .str s/\st.e 8= .n 0)/\st.e 9= .ak 9 0 0/\st.q 9=some (0,.cells [.list .any X])/\st.e 10= .n 0/\st.e 11= .n 0) (by simp[K,h2,h5,l5,h6,l6,n9,h7,h8,e2,bJ]) fun s1 ⟨⟨⟨h2,h5,l5,h6,l6⟩,h7,h8⟩,h9,l9,aE,cH⟩=>?_;refine Ψ (fun st=>((K st/\st.e 7= .str s/\st.e 8= .n 0)/\st.e 9= .ak 9 0 0/\st.q 9=some (0,.cells [.list .any X])/\st.e 10= .n 0/\st.e 11= .n 0)/\st.e 12= .str s/\st.e 13= .n 0/\st.e 14= .n 0) (by simp[K,h2,h5,l5,h6,l6,h7,h8,h9,l9,aE,cH,e3]) fun s1 ⟨⟨⟨⟨h2,h5,l5,h6,l6⟩,h7,h8⟩,h9,l9,aE,cH⟩,dq,jT,oE⟩=>?_;refine Ψ (fun st=>(((K st/\st.e 7= .str s/\st.e 8= .n 0)/\st.e 9= .ak 9 0 0/\st.q 9=some (0,.cells [.list .any X])/\st.e 10= .n 0/\st.e 11= .n 0)/\st.e 12= .str s/\st.e 13= .n 0/\st.e 14= .n 0)/\st.e 15= .str s'/\st.e 16= .n 0) (by simp[K,h2,h5,l5,h6,l6,h7,h8,h9,l9,aE,cH,dq,jT,oE,e4]) fun s1 ⟨⟨⟨⟨⟨h2,h5,l5,h6,l6⟩,h7,h8⟩,h9,l9,aE,cH⟩,dq,jT,oE⟩,nG,mT⟩=>?_;have w0:IntKind.wrap .i64 0=0:=wrap_i64 (by omega) (by omega);have L4:decide (s'=s)=z:=by rw[<-Ω,Bool.eq_iff_iff];simp
 refine μ.done .ret (fun st=>st.mem= {ε:=[xQ,Ab],η:=[]}/\st.e 4= .bool true) (by cases z<;>simp[h2,h5,l5,h6,l6,h7,h8,h9,l9,aE,cH,dq,jT,oE,nG,mT,e5,e6,e7,e8,e9,w0,L4,c7,de]) fun s' ⟨m1,m2⟩=>⟨by simp,⟨[xQ,Ab],by simp[m1]⟩,[.bool true],by simp[m2],by simp⟩
end Go.Δ.Tz
