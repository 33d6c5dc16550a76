import Derived.Test.YtiigojkfojnedaaGreatDoorTHe
set_option linter.all false
set_option maxRecDepth 100000
set_option maxHeartbeats 8000000
open Nat renaming lt_or_ge->cX,le_refl->bA,add_mul->kF,mul_le_mul_right->mq
open List renaming getElem?_eq_none->hU,append_nil->de,map_cons->aA,map_nil->aP,getElem?_append_left->eo,set_append_left->mT,getElem?_eq_getElem->dN,getElem?_set->wx,set_set->aln,take_succ_cons->sv,getElem_cons_succ->qY,getElem_mem->df,drop_eq_getElem_cons->mQ,append_assoc->bH,set_append_right->ya,take_length->po,drop_length->alo,all_map->pg,all_eq_true->dS,map_map->dc,map_congr_left->dD,length_append->cD,mem_cons->cw,length_cons->cE,length_nil->eI,mem_map->eT,length_map->cF
open Go.IntKind renaming wrap->bC
open Bool renaming true_eq_false->BS
namespace Go.Δ.Tz
open Go.Δ
variable{u:Nat}
attribute [local simp] exec dT dG eR aH dr ff eH aI fA bQ gX ib iC iL AV.cells newVar iH rd wr gL single dd cA eU ef κ cH RV.get cJ fF jU
theorem κ.fin{gl:Nat->AV}{c:cu}{a:AC}{s:St}{Q:Ex×St->Prop}{M:St->Prop}(ex:Ex)(h:∃s',exec gl c dL a s=some (ex,s')/\M s')(k:∀s',M s'->Q (ex,s')):κ gl c a s Q:=by obtain⟨s',h1,h2⟩:=h;exact⟨_,h1,k s' h2⟩
theorem Cn{C:iK}{f:FuncId}{p:Prim}{fst args cap:List AV}{m:Mem}{r:AV×Mem}(hp:C.iX f=some p)(h:p ((fst++args++cap).map (exp m.ε.length (C.bm f))) m=some r):ah C (.fn (.func f) fst cap) args m=some r:=by apply sF;simp only[body,hp,h]
theorem sJ{α:Type}{l:List α}{i:Nat}{x:α}(h:l[i]?=some x):i<l.length:=by
 rcases cX i l.length with hl|hl
 ·exact hl
 ·rw[hU hl]at h;cases h
theorem f277(m:Mem)(id:Nat)(es:List (AV×AV))(hid:m.ε[id]?=some (.map es)):kf u 277 [.map id] m=some (.map m.ε.length,m.push (.map es)):=by
 have χ:=sJ hid;refine Cn (p:=xK) (by rfl) ?_;have he:∀k,([]++[AV.map id]++[]).map (exp m.ε.length k)=[.map id]:=fun k=>by simp[exp,χ]
 rw[he];simp only[xK,hid]
theorem f233{ck id:Nat}{pr ow:AV}{b:Int}{nb:Nat}{es:List cY}(m:Mem)(dz:m.ε[ck]?=some (.cells [pr,ow,.n nb]))(hid:m.ε[id]?=some (.map (es.map bI)))(nm:List Nat)(w d:Int)(vE:nb<1000000000000):
  kf u 233 [.μ ck 0,eL id b,.str nm,.agg [.n w,.n d]] m=
   some (eL m.ε.length nb,{ε:=m.ε.set ck (.cells [pr,ow,.n (nb+1:Nat)])++[.map ((if nm=[]then es else jr es nm w d).map bI)],ζ:=m.ζ}):=by
 have lx:=sJ dz;have nY:=sJ hid;have SD:=f277 (u:=u) {ε:=m.ε,ζ:=[]} id (es.map bI) hid;have hw:bC .i64 ((nb:Int)+1)=(nb:Int)+1:=wrap_i64 (by omega) (by omega);refine VA (g:=GN) rfl rfl rfl ?_ rfl;have eJ:([AV.μ ck 0,eL id b,.str nm,.agg [.n w,.n d]]++[]).map (exp m.ε.length true)=[AV.μ ck 0,.agg [.map id,.n b],.str nm,.agg [.n w,.n d]]:=by simp only[de,aA,aP,eL,exp,bn,lx,nY,if_true]
 rw[eJ];simp only[GN,c233];have eK:∀M:Mem,M.ν=ν:=fun _=>rfl;let K:St->Prop:=fun st=>st.e 0= .μ ck 0/\st.e 2= .str nm/\st.e 7= .aj 7 0 0/\st.q 7=some (0,.cells [.n w,.n d])/\st.e 8= .aj 8 0 0/\st.q 8=some (0,.cells [.gY,.n 0]);refine Θ (fun st=>K st/\st.e 5= .aj 5 0 0/\st.q 5=some (0,.cells [.map id,.n b])/\st.mem= {ε:=m.ε,ζ:=[]}) (by simp[K,bL]) fun s1 ⟨⟨h1,h2,h3,h4,h5,h6⟩,h7,h8,h9⟩=>?_;simp only[Mem.push]at SD;have k1:(m.ε++[θ.map (es.map bI)])[ck]?=some (.cells [pr,ow,.n nb]):=by rw[eo lx];exact dz
 let K2:St->Prop:=fun st=>K st/\∃v,st.e 9= .aj 9 v 0/\st.q 9=some (v,.cells [.map m.ε.length,.n nb]);refine Θ (fun st=>K2 st/\st.mem= {ε:=m.ε++[.map (es.map bI)],ζ:=[]}) (by simp[K2,K,h1,h2,h3,h4,h5,h6,h7,h8,h9,SD,k1,dz,cZ,pC,c8,eZ,AV.gS,AV.beq,AV.beq_refl,dp]) fun s1 ⟨⟨⟨h1,h2,h3,h4,h5,h6⟩,v,h7,h8⟩,h9⟩=>?_;have hA:(m.ε.set ck (.cells [pr,ow,.n ((nb:Int)+1)])).length=m.ε.length:=by simp
 have lO:(m.ε++[θ.map (es.map bI)]).set ck (.cells [pr,ow,.n ((nb:Int)+1)])=m.ε.set ck (.cells [pr,ow,.n ((nb:Int)+1)])++[.map (es.map bI)]:=mT _ _ lx;generalize hAe:m.ε.set ck (.cells [pr,ow,.n ((nb:Int)+1)])=A at*;refine Θ (fun st=>K2 st/\st.mem= {ε:=A++[.map (es.map bI)],ζ:=[]}) (by simp[K2,K,h1,h2,h3,h4,h5,h6,h7,h8,h9,k1,hw,Mem.put,eK,ν,bo,lo,lO]) fun s1 ⟨⟨⟨h1,h2,h3,h4,h5,h6⟩,v,h7,h8⟩,h9⟩=>?_;have k2:(A++[θ.map (es.map bI)])[m.ε.length]?=some (.map (es.map bI)):=by rw[<-hA];simp
 have k3:∀y,(A++[θ.map (es.map bI)]).set m.ε.length y=A++[y]:=fun y=>by rw[<-hA];simp
 have vo:((nb+1:Nat):Int)=(nb:Int)+1:=by omega
 rw[vo,hAe];have vD:m.ε.length<A.length+1:=by omega
 refine Θ (fun st=>K2 st/\st.mem= {ε:=A++[.map ((if nm=[]then es else jr es nm w d).map bI)],ζ:=[]}) (by
  by_cases hn:nm=[]
  ·simp[K2,K,h1,h2,h3,h4,h5,h6,h7,h8,h9,hn]
  ·simp[K2,K,h1,h2,h3,h4,h5,h6,h7,h8,h9,hn,k2,k3,isKey,plain,sd,IV,Mem.put]) fun s1 ⟨⟨⟨h1,h2,h3,h4,h5,h6⟩,v,h7,h8⟩,h9⟩=>?_
 simp[h1,h2,h3,h4,h5,h6,h7,h8,h9,exp,bn,eL,vD]
theorem PK{α:Type}{l:List α}{i:Nat}{x:α}(h:l[i]?=some x):l.set i x=l:=by
 have hl:=sJ h;rw[dN hl]at h;have:l[i]=x:=by simpa using h
 rw[<-this];exact List.set_getElem_self hl
def bM(B:List θ)(ck id:Nat)(pr ow:AV)(nb:Nat)(es:List cY):List θ:=(B.set ck (.cells [pr,ow,.n nb])).set id (.map (es.map bI))
section
variable{B:List θ}{ck id:Nat}{pr ow:AV}{nb:Nat}{es:List cY}(hc:ck<B.length)(hi:id<B.length)(τ:ck≠id)
theorem Y3:(bM B ck id pr ow nb es).length=B.length:=by simp[bM]
include hc hi τ
theorem Y1(ext:List θ):(bM B ck id pr ow nb es++ext)[ck]?=some (.cells [pr,ow,.n nb]):=by rw[eo (by simp[bM];omega)];simp[bM,wx,Ne.symm τ,hc]
theorem Y2(ext:List θ):(bM B ck id pr ow nb es++ext)[id]?=some (.map (es.map bI)):=by rw[eo (by simp[bM];omega)];simp[bM,wx,hi]
theorem Y4(ext:List θ)(n:Nat):(bM B ck id pr ow nb es++ext).set ck (.cells [pr,ow,.n n])=bM B ck id pr ow n es++ext:=by rw[mT _ _ (by simp[bM];omega)];simp only[bM];rw[List.set_comm _ _ (Ne.symm τ),aln]
theorem Y5(ext:List θ)(e_:List cY):(bM B ck id pr ow nb es++ext).set id (.map (e_.map bI))=bM B ck id pr ow nb e_++ext:=by rw[mT _ _ (by simp[bM];omega)];simp only[bM,aln]
end
theorem adb(ps:List φ)(own:Nat)(x:δ)(L:b_):lA ps own x L=first (fun p:ξ×List δ=>gn ps own p.2 (inside L x.kind x.name)) x.blocks:=by
 rw[ada];unfold δ.blocks;by_cases he:bh x.kind=true
 ·have hb:aS x.kind=true:=by simp only[aS,bh,decide_eq_true_eq]at he⊢;omega
  simp only[he,hb,if_true,first];split
  ·rfl
  ·split<;>simp_all
 ·by_cases hb:aS x.kind=true
  ·by_cases hz:gn ps own x.body (inside L x.kind x.name)=0<;>simp[he,hb,first,hz]
  ·simp[he,hb,first]
def pA:List (ξ×List δ)->Nat
 |[]=>0
 |p::l=>1+δ.bX p.2+pA l
theorem Zo(l:List (ξ×List δ))(i:Nat)(h:i<l.length):pA (l.take (i+1))=pA (l.take i)+(1+δ.bX l[i].2):=by
 induction l generalizing i with
 |nil=>simp at h
 |cons a l ih=>
  cases i with
  |zero=>simp[pA]
  |succ i=>simp only[sv,pA,qY,ih i (by simpa using h)];omega
theorem Zn(x:δ):pA x.blocks<=x.wt:=by
 have:=δ.JM x;unfold δ.blocks;split
 ·simp only[pA];omega
 ·split<;>simp only[pA]<;>omega
theorem Zp(l:List (ξ×List δ))(i:Nat):pA (l.take i)<=pA l:=by
 induction l generalizing i with
 |nil=>simp
 |cons a l ih=>cases i with
  |zero=>simp[pA]
  |succ i=>have:=ih i;simp only[sv,pA];omega
theorem akt(l:List δ)(i:Nat)(h:i<l.length):δ.bX (l.take (i+1))=δ.bX (l.take i)+l[i].wt:=by
 induction l generalizing i with
 |nil=>simp at h
 |cons a l ih=>
  cases i with
  |zero=>simp[δ.bX]
  |succ i=>simp only[sv,δ.bX,qY,ih i (by simpa using h)];omega
theorem XM{ps:List φ}{own:Nat}{L:b_}{x:δ}(h:d_ ps own L x=0)(hk:x.kind=2\/x.kind=4\/x.kind=8):x.name≠[]:=by
 rw[qW]at h;have hn:fC L x.name=0:=by rcases hk with hk|hk|hk<;>simp[hk]at h<;>split at h<;>first|assumption|(rename_i hn;exact absurd h hn)
 have:=(O3 hn).1
 rintro he
 rw[he]at this;simp[c_]at this
theorem f193(dH:ξ)(mZ:br dH)(ps:List φ)(cT:∀x∈ps,x.Ok)(dQ:ps.length<1000000000000)(own:Nat)(l:List δ):
  ∀(cb:ξ),br cb->δ.da l->∀(es:List cY) (L:b_) (b nb ck id:Nat) (m:Mem),m.ε[ck]?=some (.cells [.list dH (ps.map φ.av),.n own,.n nb])->m.ε[id]?=some (.map (es.map bI))->fY es b nb L->b<nb->nb+δ.bX l<100000000000→
   ∃(eF:Nat) (e_:List cY),nb<=eF/\eF<=nb+δ.bX l∧
    kf u 193 [.μ ck 0,eL id b,.list cb (δ.ψ l)] m=some (.n (gn ps own l L),{ε:=bM m.ε ck id (.list dH (ps.map φ.av)) (.n own) eF e_,ζ:=m.ζ}):=by
 refine δ.lists (P:=fun l=>∀(cb:ξ),br cb->δ.da l->∀(es:List cY) (L:b_) (b nb ck id:Nat) (m:Mem),m.ε[ck]?=some (.cells [.list dH (ps.map φ.av),.n own,.n nb])->m.ε[id]?=some (.map (es.map bI))->fY es b nb L->b<nb->nb+δ.bX l<100000000000→
   ∃(eF:Nat) (e_:List cY),nb<=eF/\eF<=nb+δ.bX l∧
    kf u 193 [.μ ck 0,eL id b,.list cb (δ.ψ l)] m=some (.n (gn ps own l L),{ε:=bM m.ε ck id (.list dH (ps.map φ.av)) (.n own) eF e_,ζ:=m.ζ})) (fun l ih cb rG ai es L b nb ck id m dz hid hs hb hw=>?_) l
 have lx:=sJ dz;have nY:=sJ hid;have τ:ck≠id:=by rintro rfl;rw[dz]at hid;cases hid
 have vC:=δ.ET l;let M:Nat->List cY->List θ:=bM m.ε ck id (.list dH (ps.map φ.av)) (.n own);have hM0:M nb es=m.ε:=by simp only[M,bM];rw[PK dz,PK hid]
 have OQ:∀n e ext,(M n e++ext)[ck]?=some (.cells [.list dH (ps.map φ.av),.n own,.n n]):=fun n e ext=>Y1 lx nY τ ext;have OS:∀n e ext,(M n e++ext)[id]?=some (.map (e.map bI)):=fun n e ext=>Y2 lx nY τ ext;have Wp:∀n e ext (n':Nat),(M n e++ext).set ck (.cells [.list dH (ps.map φ.av),.n own,.n n'])=M n' e++ext:=fun n e ext n'=>Y4 lx nY τ ext n';have msi:∀n e ext e',(M n e++ext).set id (.map (e'.map bI))=M n e'++ext:=fun n e ext e'=>Y5 lx nY τ ext e';have OV:∀n e,(M n e).length=m.ε.length:=fun n e=>Y3;let Fin:St->Prop:=fun st=>∃eF e_ ext,nb<=eF/\eF<=nb+δ.bX l/\st.mem= {ε:=M eF e_++ext,ζ:=[]};have dY:κ (C u).gl (ah (C u)) AL.code {env:=([]++[AV.μ ck 0,eL id b,.list cb (δ.ψ l)]++[]).map (exp m.ε.length false),loc:=[],mem:= {ε:=m.ε,ζ:=[]}} fun r=>
   (∀i,r.1≠ .exit i)/\Fin r.2/\aI r.2.env 6= .n (gn ps own l L):=by
  have eJ:([]++[AV.μ ck 0,eL id b,.list cb (δ.ψ l)]++[]).map (exp m.ε.length false)=[AV.μ ck 0,.agg [.map id,.n b],.list cb (δ.ψ l)]:=by simp only[List.nil_append,de,aA,aP,ru rG ai];simp only[eL,exp,bn,lx,nY,if_true]
  rw[eJ];simp only[AL,c193];let K:St->Prop:=fun st=>st.e 0= .μ ck 0/\st.e 4= .aj 4 0 0/\st.q 4=some (0,.cells [.map id,.n b]);refine Θ (fun st=>K st/\st.e 2= .list cb (δ.ψ l)/\st.mem= {ε:=m.ε,ζ:=[]}) (by simp[K,bL]) fun s1 ⟨⟨h1,h2,h3⟩,h4,h5⟩=>?_;refine bP (fun st=>Fin st/\gn ps own l L=0) ?_ fun s2 ⟨⟨eF,e_,ext,h1,h2,h3⟩,h4⟩=>κ.fin (M:=fun st=>st.mem= {ε:=M eF e_++ext,ζ:=[]}/\st.e 6= .n 0) .ret (by simp[h3]) fun s' ⟨e1,e2⟩=>⟨by simp,⟨eF,e_,ext,h1,h2,e1⟩,by simp[e2,h4]⟩;let I:Nat->St->Prop:=fun i st=>K st/\st.e 15= .list cb (δ.ψ l)/\st.e 16= .n l.length/\st.e 17= .n i/\∃(iA:Nat) (ei:List cY) (ext:List θ) (Li:b_),nb<=iA/\iA<=nb+δ.bX (l.take i)/\fY ei b iA Li/\st.mem= {ε:=M iA ei++ext,ζ:=[]}/\gn ps own (l.drop i) Li=gn ps own l L;refine Θ (fun st=>K st/\st.e 15= .list cb (δ.ψ l)/\st.e 16= .n l.length/\st.e 17= .n 0/\st.mem= {ε:=m.ε,ζ:=[]}) (by simp[K,h1,h2,h3,h4,h5,uP]) fun s4 ⟨a1,a2,a3,a4,a5⟩=>?_;have hI:I 0 s4:=⟨a1,a2,a3,a4,nb,es,[],L,bA _,by simp[δ.bX],hs,by rw[a5,de,hM0],rfl⟩;refine κ.block (κ.upto (I:=I) l.length hI (fun i st χ Ω=>?_) (fun st Ω=>?_))
  ·obtain⟨⟨h1,h2,h3⟩,q1,q2,q3,iA,ei,ext,Li,pR,nf,Ia,Γ,ep⟩:=Ω;have kP:bC .i64 ((i:Int)+1)=(i:Int)+1:=wrap_i64 (by omega) (by omega);have hg:=Jt l i χ;have hm:l[i]∈l:=df χ;have rO:=δ.jE ai _ hm;have xz:=ih _ hm;have DP:=akt l i χ;have xx:=aku l (i+1);rw[mQ χ]at ep;generalize l[i]=y at*;have hu:gn ps own (y::l.drop (i+1)) Li=if d_ ps own Li y≠0 then d_ ps own Li y else if lA ps own y Li≠0 then lA ps own y Li else gn ps own (l.drop (i+1)) (after Li y.kind y.name):=rfl;rw[hu]at ep;have CD:=f232 (u:=u) (B:=M iA ei) dH mZ ps cT dQ own b iA ei Li (by simpa using OQ iA ei []) (by simpa using OS iA ei []) Ia y rO (by omega) ext [];have rq:=fun m=>f108 (u:=u) y rO m;have k0:=cell0 y;have k2:=oz y;have kt:=R_ y;have kl:=δ.mw y;simp only[δ.av,eL]at hg CD rq;let J:St->Prop:=fun st=>K st/\st.e 15= .list cb (δ.ψ l)/\st.e 16= .n l.length/\st.e 17= .n i;let J2:St->Prop:=fun st=>J st/\∃v,st.e 8= .aj 8 v 0/\st.q 8=some (v,.cells y.cells);let MM:Nat->List cY->List θ->St->Prop:=fun n e x st=>st.mem= {ε:=M n e++x,ζ:=[]};refine Θ (fun st=>J st/\MM iA ei ext st/\st.e 18= .bool true) (by simp[J,K,MM,h1,h2,h3,q1,q2,q3,Γ,χ]) fun s5 ⟨⟨⟨h1,h2,h3⟩,q1,q2,q3⟩,Γ,q4⟩=>?_;refine Θ (fun st=>J st/\MM iA ei ext st) (by simp only[MM]at Γ;simp[J,K,MM,h1,h2,h3,q1,q2,q3,q4,Γ]) fun s5 ⟨⟨⟨h1,h2,h3⟩,q1,q2,q3⟩,Γ⟩=>?_;refine bP (fun st=>J st/\∃(n2:Nat) (e2:List cY) (x2:List θ),nb<=n2/\n2<=nb+δ.bX (l.take (i+1))/\fY e2 b n2 (after Li y.kind y.name)/\MM n2 e2 x2 st/\gn ps own (l.drop (i+1)) (after Li y.kind y.name)=gn ps own l L) ?_ fun s6 ⟨⟨⟨h1,h2,h3⟩,q1,q2,q3⟩,n2,e2,x2,a1,a2,a3,a4,a5⟩=>by simp only[MM]at a4;exact κ.fin (M:=fun st=>K st/\st.e 15= .list cb (δ.ψ l)/\st.e 16= .n l.length/\st.e 17= .n ((i:Int)+1)/\MM n2 e2 x2 st) .normal (by simp[K,MM,h1,h2,h3,q1,q2,q3,kP,a4]) fun s' ⟨b1,b2,b3,b4,b5⟩=> .inl ⟨rfl,b1,b2,b3,b4,n2,e2,x2,_,a1,a2,a3,b5,a5⟩
   refine κ.block ?_;refine Θ (fun st=>J2 st/\MM iA ei ext st) (by simp only[MM]at Γ;simp[J2,J,K,MM,h1,h2,h3,q1,q2,q3,Γ,χ,hg,kl,kt,uP]) fun s5 ⟨⟨⟨⟨h1,h2,h3⟩,q1,q2,q3⟩,v,q4,q5⟩,Γ⟩=>?_;simp only[MM]at Γ;by_cases uu:d_ ps own Li y=0
   case neg=>
    rw[if_pos uu]at ep
    rw[ep]at uu CD;refine bP (fun _=>False) ?_ fun _ h=>h.elim;refine κ.fin (M:=fun st=>MM iA ei ext st/\st.e 6= .n (gn ps own l L)) .ret (by simp[MM,h1,h2,h3,q1,q2,q3,q4,q5,Γ,kl,kt,CD,bne_true uu,uu]) fun s' ⟨b1,b2⟩=>?_;have hf:Fin s':=⟨iA,ei,ext,pR,by omega,b1⟩;simp[hf,b2]
   rw[if_neg (by simpa using uu)]at ep;rw[uu]at CD;refine Θ (fun st=>J2 st/\MM iA ei ext st) (by simp[J2,J,K,MM,h1,h2,h3,q1,q2,q3,q4,q5,Γ,kl,kt,CD]) fun s5 ⟨⟨⟨⟨h1,h2,h3⟩,q1,q2,q3⟩,v,q4,q5⟩,Γ⟩=>?_;simp only[MM]at Γ;refine Θ (fun st=>J2 st/\MM iA ei ext st/\st.e 10= .str []/\∃v,st.e 11= .aj 11 v 0/\st.q 11=some (v,.cells [.n 0,.n 0])) (by simp[J2,J,K,MM,h1,h2,h3,q1,q2,q3,q4,q5,Γ,dp]) fun s5 ⟨⟨⟨⟨h1,h2,h3⟩,q1,q2,q3⟩,v,q4,q5⟩,Γ,q6,v2,q7,q8⟩=>?_;simp only[MM]at Γ;let Nw:List Nat->Int->Int->Prop:=fun qO w0 d0=>∀cm:Nat,iA<=cm->fY (if qO=[]then ei else jr ei qO w0 d0) cm ((cm+1:Nat):Int) (inside Li y.kind y.name);have qx:∀cm:Nat,iA<=cm->fY ei cm ((cm+1:Nat):Int) Li.inner:=fun cm hj=>by have:=(Ia.mono (show(iA:Int)<=(cm:Int) by omega)).inner;simpa using this
   obtain⟨qO,w0,d0,sM,acW⟩:∃qO w0 d0,Nw qO w0 d0/\((y.kind=4/\qO=y.name/\w0=1/\d0= -2)\/(y.kind=8/\qO=y.name/\w0=3/\d0=0)\/(y.kind≠4/\y.kind≠8/\qO=[]/\w0=0/\d0=0)):=by
    by_cases lH:y.kind=4
    ·have H3:=XM uu (by omega);refine⟨y.name,1,-2,fun cm hj=>?_,.inl ⟨lH,rfl,rfl,rfl⟩⟩;have:=(qx cm hj).put y.name 1 (-2) (by decide) (by omega);have hr:decide ((-2:Int)=(cm:Int))=false:=by simp
     simpa[inside,lH,H3,jZ,hr]using this
    ·by_cases rE:y.kind=8
     ·have H3:=XM uu (by omega);refine⟨y.name,3,0,fun cm hj=>?_,.inr (.inl ⟨rE,rfl,rfl,rfl⟩)⟩;have:=(qx cm hj).put y.name 3 0 (by decide) (by omega);simpa[inside,rE,H3,jZ]using this
     ·refine⟨[],0,0,fun cm hj=>?_,.inr (.inr ⟨lH,rE,rfl,rfl,rfl⟩)⟩;simpa[inside,lH,rE]using qx cm hj
   refine Θ (fun st=>J2 st/\MM iA ei ext st/\st.e 10= .str qO/\∃v,st.e 11= .aj 11 v 0/\st.q 11=some (v,.cells [.n w0,.n d0])) (by
    rcases acW with⟨lH,rfl,rfl,rfl⟩|⟨rE,rfl,rfl,rfl⟩|⟨lH,rE,rfl,rfl,rfl⟩
    ·simp[J2,J,K,MM,h1,h2,h3,q1,q2,q3,q4,q5,q6,q7,q8,Γ,kl,k0,k2,lH,dp]
    ·simp[J2,J,K,MM,h1,h2,h3,q1,q2,q3,q4,q5,q6,q7,q8,Γ,kl,k0,k2,rE,dp]
    ·simp[J2,J,K,MM,h1,h2,h3,q1,q2,q3,q4,q5,q6,q7,q8,Γ,kl,k0,gi lH,gi rE]) fun s5 ⟨⟨⟨⟨h1,h2,h3⟩,q1,q2,q3⟩,v,q4,q5⟩,Γ,q6,v2,q7,q8⟩=>?_
   simp only[MM]at Γ;let E:ξ×List δ->Int:=fun p=>gn ps own p.2 (inside Li y.kind y.name);rw[adb]at ep;have akJ:=Zn y;refine bP (fun st=>J2 st/\first E y.blocks=0/\∃(cm:Nat) (xj:List θ),iA<=cm/\cm<=iA+y.wt/\MM cm ei xj st) ?_ fun s6 ⟨⟨⟨⟨h1,h2,h3⟩,q1,q2,q3⟩,v,q4,q5⟩,hz,cm,xj,a1,a2,Γ⟩=>?_
   ·let J3:St->Prop:=fun st=>J2 st/\st.e 10= .str qO/\(∃v,st.e 11= .aj 11 v 0/\st.q 11=some (v,.cells [.n w0,.n d0]))/\st.e 42=iN y/\st.e 43= .n y.blocks.length;let I2:Nat->St->Prop:=fun j st=>J3 st/\st.e 44= .n j/\(∀k (hk:k<y.blocks.length),k<j->E y.blocks[k]=0)/\∃(cm:Nat) (xj:List θ),iA<=cm/\cm<=iA+pA (y.blocks.take j)/\MM cm ei xj st;have akI:y.blocks.length<=2:=by unfold δ.blocks;split<;>(try split)<;>simp
    refine Θ (fun st=>J3 st/\st.e 44= .n 0/\MM iA ei ext st) (by
     simp only[iN]at rq
     simp[J3,J2,J,K,MM,h1,h2,h3,q1,q2,q3,q4,q5,q6,q7,q8,Γ,kl,kt,rq,iN]) fun s6 ⟨d1,d2,d3⟩=>?_
    have hI:I2 0 s6:=⟨d1,d2,fun k _ hk=>absurd hk (by omega),iA,ext,bA _,by simp[pA],d3⟩;refine κ.block (κ.upto (I:=I2) y.blocks.length hI (fun j st eW Ω=>?_) (fun st Ω=>?_))
    ·obtain⟨⟨⟨⟨⟨h1,h2,h3⟩,q1,q2,q3⟩,v,q4,q5⟩,q6,⟨v2,q7,q8⟩,z1,z2⟩,z3,z4,cm,xj,a1,a2,Γ⟩:=Ω;simp only[MM]at Γ;have rS:bC .i64 ((j:Int)+1)=(j:Int)+1:=wrap_i64 (by omega) (by omega);have C7:=Zo y.blocks j eW;have yL:=Zp y.blocks (j+1);have H5:=df eW;have vm:=Fl rO H5;have CE:=f233 (u:=u) (b:=b) {ε:=M cm ei++xj,ζ:=[]} (OQ cm ei xj) (OS cm ei xj) qO w0 d0 (by omega);have DI:=sM cm a1;generalize MO:(if qO=[]then ei else jr ei qO w0 d0)=yx at*;have acv:(M cm ei++xj).set ck (.cells [.list dH (ps.map φ.av),.n own,.n (cm+1:Nat)])++[.map (yx.map bI)]=M (cm+1) ei++(xj++[.map (yx.map bI)]):=by rw[Wp,bH]
     rw[acv]at CE;have xm:(M cm ei++xj).length=(M (cm+1) ei++xj).length:=by simp[OV]
     rw[xm]at CE;have Nr:cm+1+δ.bX (y.blocks[j]).2<100000000000:=by omega
     have acT:∃(eF:Nat) (e_:List cY),cm+1<=eF/\eF<=cm+1+δ.bX (y.blocks[j]).2∧
       kf u 193 [.μ ck 0,eL (M (cm+1) ei++xj).length cm,.list (y.blocks[j]).1 (δ.ψ (y.blocks[j]).2)] {ε:=M (cm+1) ei++(xj++[.map (yx.map bI)]),ζ:=[]}=some (.n (E y.blocks[j]),{ε:=M eF ei++(xj++[.map (e_.map bI)]),ζ:=[]}):=by
      have go:∀c l',br c->δ.da l'->cm+1+δ.bX l'<100000000000->(∀(cb:ξ),br cb->δ.da l'->∀(es:List cY) (L:b_) (b nb ck id:Nat) (m:Mem),m.ε[ck]?=some (.cells [.list dH (ps.map φ.av),.n own,.n nb])->m.ε[id]?=some (.map (es.map bI))->fY es b nb L->b<nb->nb+δ.bX l'<100000000000→
        ∃(eF:Nat) (e_:List cY),nb<=eF/\eF<=nb+δ.bX l'/\kf u 193 [.μ ck 0,eL id b,.list cb (δ.ψ l')] m=some (.n (gn ps own l' L),{ε:=bM m.ε ck id (.list dH (ps.map φ.av)) (.n own) eF e_,ζ:=m.ζ}))→
        ∃(eF:Nat) (e_:List cY),cm+1<=eF/\eF<=cm+1+δ.bX l'/\kf u 193 [.μ ck 0,eL (M (cm+1) ei++xj).length cm,.list c (δ.ψ l')] {ε:=M (cm+1) ei++(xj++[.map (yx.map bI)]),ζ:=[]}=some (.n (gn ps own l' (inside Li y.kind y.name)),{ε:=M eF ei++(xj++[.map (e_.map bI)]),ζ:=[]}):=by
       intro c l' hc sS vP hP;obtain⟨eF,e_,p1,p2,p3⟩:=hP c hc sS yx _ cm (cm+1) ck (M (cm+1) ei++xj).length {ε:=M (cm+1) ei++(xj++[.map (yx.map bI)]),ζ:=[]} (OQ _ _ _) (by rw[<-bH];simp) DI (by omega) (by omega);refine⟨eF,e_,p1,p2,?_⟩;rw[p3];have:bM (M (cm+1) ei++(xj++[.map (yx.map bI)])) ck (M (cm+1) ei++xj).length (.list dH (ps.map φ.av)) (.n own) eF e_=M eF ei++(xj++[.map (e_.map bI)]):=by
        have hX:(M eF ei++xj).length=(M (cm+1) ei++xj).length:=by simp[OV]
        rw[bM,Wp,<-bH,<-hX,ya _ _ (bA _),bH];simp
       simp only[this]
      rcases Fm H5 with he|he<;>rw[he]at vm Nr⊢<;>simp only[E]
      ·exact go _ _ vm.1 vm.2.1 Nr xz.1
      ·exact go _ _ vm.1 vm.2.1 Nr xz.2
     obtain⟨D9,LG,p1,p2,p3⟩:=acT;simp only[eL]at CE p3;generalize(M (cm+1) ei++xj).length=ln at*;simp only[iN,fy]at z1;refine Θ (fun st=>J3 st/\st.e 44= .n j/\MM cm ei xj st/\st.e 45= .bool true) (by simp[J3,J2,J,K,MM,h1,h2,h3,q1,q2,q3,q4,q5,q6,q7,q8,z1,z2,z3,Γ,eW,iN,fy]) fun s7 ⟨⟨⟨⟨⟨h1,h2,h3⟩,q1,q2,q3⟩,v,q4,q5⟩,q6,⟨v2,q7,q8⟩,z1,z2⟩,z3,Γ,z5⟩=>?_;simp only[MM]at Γ;refine Θ (fun st=>J3 st/\st.e 44= .n j/\MM cm ei xj st) (by simp[J3,J2,J,K,MM,h1,h2,h3,q1,q2,q3,q4,q5,q6,q7,q8,z1,z2,z3,z5,Γ]) fun s7 ⟨⟨⟨⟨⟨h1,h2,h3⟩,q1,q2,q3⟩,v,q4,q5⟩,q6,⟨v2,q7,q8⟩,z1,z2⟩,z3,Γ⟩=>?_;simp only[MM]at Γ;simp only[iN,fy]at z1;by_cases yQ:E y.blocks[j]=0
     ·rw[yQ]at p3;refine Θ (fun st=>J3 st/\st.e 44= .n j/\MM D9 ei (xj++[.map (LG.map bI)]) st) (by simp[J3,J2,J,K,MM,h1,h2,h3,q1,q2,q3,q4,q5,q6,q7,q8,z1,z2,z3,Γ,eW,iN,fy,CE,p3]) fun s7 ⟨⟨⟨⟨⟨h1,h2,h3⟩,q1,q2,q3⟩,v,q4,q5⟩,q6,⟨v2,q7,q8⟩,z1,z2⟩,z3,Γ⟩=>?_;simp only[MM]at Γ;have z6:=Ch (P:=fun k=>∀hk:k<y.blocks.length,E y.blocks[k]=0) (n:=y.blocks.length) (fun k a b c=>z4 k c b) (fun _=>yQ);exact κ.fin (M:=fun st=>J3 st/\st.e 44= .n ((j:Int)+1)/\MM D9 ei (xj++[.map (LG.map bI)]) st) .normal (by simp[J3,J2,J,K,MM,h1,h2,h3,q1,q2,q3,q4,q5,q6,q7,q8,z1,z2,z3,Γ,rS]) fun s' ⟨d1,d2,d3⟩=> .inl ⟨rfl,d1,d2,fun k hk vz=>z6 k hk vz hk,D9,_,by omega,by omega,d3⟩
     ·have rJ:=LM eW z4 yQ;have Ue:=ep;rw[if_pos (show first E y.blocks≠0 by rw[rJ];exact yQ)]at Ue;have C6:E y.blocks[j]=gn ps own l L:=rJ.symm.trans Ue;rw[C6]at yQ p3;refine bP (fun _=>False) ?_ fun _ h=>h.elim;refine κ.fin (M:=fun st=>MM D9 ei (xj++[.map (LG.map bI)]) st/\st.e 6= .n (gn ps own l L)) .ret (by simp[MM,h1,h2,h3,q1,q2,q3,q4,q5,q6,q7,q8,z1,z2,z3,Γ,eW,fy,CE,p3,bne_true yQ,yQ]) fun s' ⟨b1,b2⟩=>?_;have hf:Fin s':=⟨D9,ei,_,by omega,by omega,b1⟩;simp[hf,b2]
    ·obtain⟨⟨⟨⟨⟨h1,h2,h3⟩,q1,q2,q3⟩,v,q4,q5⟩,q6,⟨v2,q7,q8⟩,z1,z2⟩,z3,z4,cm,xj,a1,a2,Γ⟩:=Ω;simp only[MM]at Γ;rw[po]at a2;have hz:=F0 (f:=E) fun k hk=>z4 k hk hk;refine κ.fin (M:=fun st=>J2 st/\MM cm ei xj st) (.exit 3) (by simp[J2,J,K,MM,VO,h1,h2,h3,q1,q2,q3,q4,q5,z1,z2,z3,Γ]) fun s' ⟨d1,d2⟩=>?_;exact⟨by simp,.inl ⟨rfl,.inl ⟨rfl,d1,hz,cm,xj,a1,by omega,d2⟩⟩⟩
   ·simp only[MM]at Γ;rw[if_neg (show¬first E y.blocks≠0 by simpa using hz)]at ep;have Ib:=Ia.mono (show(iA:Int)<=(cm:Int) by omega);have m1:=OS cm ei xj;have m2:=msi cm ei xj;by_cases gE:y.kind=2
    ·refine κ.fin (M:=fun st=>J st/\MM cm (jr ei y.name 1 b) xj st) .normal (by simp[J,K,MM,h1,h2,h3,q1,q2,q3,q4,q5,Γ,kl,k0,k2,gE,dp,m1,m2,isKey,plain,sd,IV,Mem.put]) fun s' ⟨d1,d2⟩=>?_;have hl:fY (jr ei y.name 1 b) b cm (after Li y.kind y.name):=by have:=Ib.put y.name 1 b (by decide) (by omega);simpa[after,gE,jZ]using this
     simp;exact⟨d1,cm,by omega,by omega,_,hl,⟨xj,d2⟩,ep⟩
    by_cases rK:y.kind=3
    ·refine κ.fin (M:=fun st=>J st/\MM cm (nK ei y.name) xj st) .normal (by simp[J,K,MM,h1,h2,h3,q1,q2,q3,q4,q5,Γ,kl,k0,k2,rK,dp,m1,m2,isKey,afW,Mem.put]) fun s' ⟨d1,d2⟩=>?_;have hl:fY (nK ei y.name) b cm (after Li y.kind y.name):=by have:=Ib.del y.name;simpa[after,rK]using this
     simp;exact⟨d1,cm,by omega,by omega,_,hl,⟨xj,d2⟩,ep⟩
    by_cases pP:y.kind=5
    ·refine κ.fin (M:=fun st=>J st/\MM cm (jr ei y.name 2 0) xj st) .normal (by simp[J,K,MM,h1,h2,h3,q1,q2,q3,q4,q5,Γ,kl,k0,k2,pP,dp,m1,m2,isKey,plain,sd,IV,Mem.put]) fun s' ⟨d1,d2⟩=>?_;have hl:fY (jr ei y.name 2 0) b cm (after Li y.kind y.name):=by have:=Ib.put y.name 2 0 (by decide) (by omega);simpa[after,pP,jZ]using this
     simp;exact⟨d1,cm,by omega,by omega,_,hl,⟨xj,d2⟩,ep⟩
    ·refine κ.fin (M:=fun st=>J st/\MM cm (ei) xj st) .normal (by simp[J,K,MM,h1,h2,h3,q1,q2,q3,q4,q5,Γ,kl,k0,k2,gi gE,gi rK,gi pP]) fun s' ⟨d1,d2⟩=>?_;have hl:fY (ei) b cm (after Li y.kind y.name):=by simpa[after,gE,rK,pP]using Ib
     simp;exact⟨d1,cm,by omega,by omega,_,hl,⟨xj,d2⟩,ep⟩
  ·obtain⟨⟨h1,h2,h3⟩,q1,q2,q3,iA,ei,ext,Li,pR,nf,Ia,Γ,ep⟩:=Ω;rw[po]at nf;rw[alo]at ep;have hz:gn ps own l L=0:=ep.symm;refine κ.fin (M:=fun st=>st.mem= {ε:=M iA ei++ext,ζ:=[]}) (.exit 0) (by simp[VP,h1,h2,h3,q1,q2,q3,Γ]) fun s' d1=>?_;have hf:Fin s':=⟨iA,ei,ext,pR,nf,d1⟩;simp[hf,hz]
 obtain⟨r,r1,r2,⟨eF,e_,ext,r3,r4,r5⟩,r6⟩:=dY;exact⟨eF,e_,r3,r4,kz (g:=AL) rfl rfl rfl (OV eF e_) ⟨r,r1,r2,⟨ext,r5⟩,[_],by simp[AL];exact r6,by simp⟩⟩
theorem yq{c:ξ}(h:br c)(n:Nat):c.lo n=true:=by rcases h with rfl|rfl<;>rfl
theorem η.II(n:Nat)(x:η):x.Ok->lo n x.av=true:=by
 refine η.kR (Q:=fun x=>x.Ok->lo n x.av=true) (fun k nn s c l ih h=>?_) x;simp only[η.Ok]at h;have:bo n (η.ψ l)=true:=by rw[np,η.eM,pg,dS];exact fun y hy=>ih y hy (η.jE h.2 y hy)
 simp[η.av,lo,bo,yq h.1,this]
theorem ρ.II(n:Nat)(p:ρ)(h:p.Ok):lo n p.av=true:=by
 have:bo n (p.ix.map η.av)=true:=by rw[np,pg,dS];exact fun y hy=>η.II n y (h.2.2 y hy).1
 simp[ρ.av,lo,bo,yq h.2.1,this]
theorem afR(n:Nat)(a b:List AV):bo n (a++b)=(bo n a&&bo n b):=by simp[np]
theorem δ.OM(n:Nat)(x:δ):x.Ok->bo n x.cells=true:=by
 refine δ.kR (Q:=fun x=>x.Ok->bo n x.cells=true) (fun kk g nm cp pl size to cb body ce els h1 h2 h=>?_) x;simp only[δ.Ok]at h;obtain⟨-,k1,k2,k3,k4,k5,k6,k7,k8⟩:=h;have e1:bo n (pl.map ρ.av)=true:=by rw[np,pg,dS];exact fun p hp=>ρ.II n p (k2 p hp)
 have e2:∀y:η,y.Ok->bo n y.four=true:=fun y hy=>by have:=η.II n y hy;rwa[η.iM,lo]at this
 have go:∀l:List δ,δ.da l->(∀y∈l,y.Ok->bo n y.cells=true)->bo n (δ.ψ l)=true:=by intro l hl hy;rw[np,δ.eM,pg,dS];exact fun y hm=>by simp only[Function.comp,δ.av,lo];exact hy y hm (δ.jE hl y hm)
 simp[δ.cells,afR,bo,lo,yq k1,yq k5,yq k7,e1,e2 _ k3.1,e2 _ k4.1,go body k6 h1,go els k8 h2]
theorem δ.afH(n:Nat)(l:List δ)(h:δ.da l):bo n (δ.ψ l)=true:=by rw[np,δ.eM,pg,dS];exact fun y hm=>by simp only[Function.comp,δ.av,lo];exact δ.OM n y (δ.jE h y hm)
theorem ahu(n:Nat)(l:List ay):bo n (l.map ay.av)=true:=by rw[np,pg,dS];exact fun y hm=>rfl
theorem Kg(gl:Nat->AV)(cv:cu)(l:List aV):∀s:St,(ef gl cv l s).bind List.getLast?=dT gl cv l s:=by
 induction l with
 |nil=>intro s;rfl
 |cons o l ih=>
  intro s
  simp only[ef,dT];cases h:dG gl cv o s with
  |none=>rfl
  |some s'=>
   have:=ih s'
   simp only;cases hs:ef gl cv l s' with
   |none=>rw[hs]at this;simpa using this
   |some tr=>
    rw[hs]at this
    simp only[Option.bind_some,Option.map_some]at this⊢;rw[<-this];cases tr with
    |nil=>
     exfalso
     cases l with
     |nil=>simp[ef]at hs
     |cons o' l'=>
      simp only[ef]at hs
      split at hs
      ·rw[Option.map_eq_some_iff]at hs;obtain⟨_,_,hs⟩:=hs;cases hs
      ·cases hs
    |cons a tr=>rw[List.getLast?_cons_cons]
theorem Kd(gl:Nat->AV)(cv:cu)(l:List aV)(s:St):eU gl cv l [] [] s=dT gl cv l s:=by rw[<-Kg];simp only[eU];cases ef gl cv l s<;>rfl
theorem Lf{c:ξ}(h:br c)(b:Prop)[Decidable b]:(if c= .nil then ξ.nil else if c= .full/\b then .full else .any)=c:=by rcases h with rfl|rfl<;>simp
theorem ahr(x:ay)(l:List ay)(L:b_):qQ (x::l) L=if c_ x.name=false then 4 else if x.size<1\/12<x.size then 3 else if L x.name≠ .none then 5 else qQ l (L.put x.name (.j_ false)):=rfl
theorem f126(dH:ξ)(mZ:br dH)(ps:List φ)(cT:∀x∈ps,x.Ok)(cM:jq ps<10000000000)(k:Nat)(hk:k<ps.length)(ck:Nat)(m:Mem)(dz:m.ε[ck]?=some (.cells [.list dH (ps.map φ.av),.n k,.n 0])):
  ∃nb:Nat,kf u 126 [.μ ck 0] m=some (.n (sg ps k ps[k]),{ε:=m.ε.set ck (.cells [.list dH (ps.map φ.av),.n k,.n nb]),ζ:=m.ζ}):=by
 have lx:=sJ dz;have hlen:=W3 ps;have hm:ps[k]∈ps:=df hk;have ai:=cT _ hm;have lz:=φ.uU hm;simp only[φ.wt]at lz;have eK:∀M:Mem,M.ν=ν:=fun _=>rfl;have vF:cL (ps[k].aq.map ay.av)=ps[k].aq.map ay.av:=by rw[fM,dc];exact dD fun _ _=>rfl
 have vE:cL (δ.ψ ps[k].body)=δ.ψ ps[k].body:=by rw[fM,δ.eM,dc];exact dD fun y _=>by simp only[Function.comp,δ.av,ν,δ.zx]
 have jv:(ps.map φ.av).all (fun e=>decide (e.cells.length=3))=true:=by simp[φ.av]
 have UZ:∀p∈ps.take k,p.Ok:=fun p hp=>cT p (List.mem_of_mem_take hp);generalize DQ:ps[k]=x at*;let xc:List AV:=[.str x.name,.list x.cp (x.aq.map ay.av),.list x.cb (δ.ψ x.body)];let B1:List θ:=m.ε++[.cells xc];let rp:Nat->θ:=fun n=> .cells [.list dH (ps.map φ.av),.n k,.n n];have d0:∀ext,(B1++ext)[ck]?=some (rp 0):=fun ext=>by simp only[B1,bH];rw[eo lx];exact dz
 have d1:∀ext,(B1++ext)[m.ε.length]?=some (.cells xc):=fun ext=>by simp[B1]
 have Hr:B1.length=m.ε.length+1:=by simp[B1]
 let Fin:St->Prop:=fun st=>∃(nb:Nat) (ext:List θ),st.mem= {ε:=m.ε.set ck (rp nb)++ext,ζ:=[]};have wO:∀{st:St} {ext:List θ},st.mem= {ε:=B1++ext,ζ:=[]}->Fin st:=fun{st ext} h=>⟨0,[.cells xc]++ext,by rw[h,PK (x:=rp 0) dz];simp[B1]⟩;have dY:κ (C u).gl (ah (C u)) AI.code {env:=([]++[AV.μ ck 0]++[]).map (exp m.ε.length false),loc:=[],mem:= {ε:=m.ε,ζ:=[]}} fun r=>
   (∀i,r.1≠ .exit i)/\Fin r.2/\aI r.2.env 2= .n (sg ps k x):=by
  have eJ:([]++[AV.μ ck 0]++[]).map (exp m.ε.length false)=[AV.μ ck 0]:=by simp[exp,lx]
  rw[eJ];simp only[AI,QU];let K:St->Prop:=fun st=>st.e 0= .μ ck 0/\st.e 3= .μ m.ε.length 0;let MM:List θ->St->Prop:=fun ext st=>st.mem= {ε:=B1++ext,ζ:=[]};refine Θ (fun st=>st.e 0= .μ ck 0/\st.mem= {ε:=m.ε,ζ:=[]}) (by simp) fun s1 ⟨h1,h2⟩=>?_;have abP:(m.ε++[θ.cells [AV.str [],AV.list ξ.nil [],AV.list ξ.nil []]])[ck]?=some (.cells [.list dH (ps.map φ.av),.n k,.n 0]):=by rw[eo lx];exact dz
  refine Θ (fun st=>K st/\MM [] st) (by simp[K,MM,B1,xc,h1,h2,dz,abP,hk,DQ,φ.av,cZ,pC,c8,eZ,AV.gS,AV.beq,AV.kH,Mem.push,Mem.put,eK,ν,cL,vF,vE,bo,lo,yq ai.2.1,yq ai.2.2.2.1,ahu,δ.afH _ _ ai.2.2.2.2.1]) fun s1 ⟨⟨h1,h2⟩,h3⟩=>?_;simp only[MM,de]at h3;have FH:=d0 [];have d10:=d1 [];simp only[de,rp,xc]at FH d10;have rr:=fun m=>f113 (u:=u) x.name ai.1 m;have sQ:Fix B1.length (.fn (.func 190) [] [.μ m.ε.length 0]):=by
   intro kk bb fb;have:m.ε.length<kk:=by omega
   simp[exp,bn,Fn.below,this]
  let S1:St->Prop:=fun st=>K st/\MM [] st;have ak2:¬4<x.aq.length->¬(4:Int)<(x.aq.length:Int):=fun h=>by omega
  have Ax:=fun c hc=>f189 (u:=u) (q:=fun p=>p.name==x.name) sQ c hc (ps.take k) UZ (by rw[List.length_take];omega) (fun p hp=>f190 x.name [.list x.cp (x.aq.map ay.av),.list x.cb (δ.ψ x.body)] (by simpa[xc]using d1 []) p (UZ p hp)) [] [];simp only[de,List.map_take]at Ax;unfold sg;cases hn:c_ x.name with
  |false=>
   rw[hn]at rr
   refine bP (fun _=>False) ?_ fun _ h=>h.elim;refine κ.fin (M:=fun st=>MM [] st/\st.e 2= .n 4) .ret (by simp[MM,h1,h2,h3,d10,rr]) fun s' ⟨b1,b2⟩=>?_;have hf:Fin s':=wO b1;simp[hf,b2]
  |true=>
  rw[hn]at rr
  simp only[BS,if_false];have oR:(k:Int)<=(ps.length:Int):=by omega
  have xi:((k:Int)).toNat=k:=by omega
  by_cases Ie:((ps.take k).any fun p=>p.name==x.name)=true
  ·rw[if_pos Ie];refine bP (fun _=>False) ?_ fun _ h=>h.elim;refine κ.fin (M:=fun st=>MM [] st/\st.e 2= .n 5) .ret (by
    rw[Ie]at Ax
    simp[-eU,-ef,Kd,MM,h1,h2,h3,FH,d10,rr,bound,oR,xi,φ.av,Ax _ mZ,Lf mZ]) fun s' ⟨b1,b2⟩=>?_
   have hf:Fin s':=wO b1;simp[hf,b2]
  rw[if_neg Ie];have ac7:((ps.take k).any fun p=>p.name==x.name)=false:=by simpa using Ie
  rw[ac7]at Ax;by_cases H4:4<x.aq.length
  ·rw[if_pos H4];have NB:(4:Int)<(x.aq.length:Int):=by omega
   refine bP (fun _=>False) ?_ fun _ h=>h.elim;refine κ.fin (M:=fun st=>MM [] st/\st.e 2= .n 2) .ret (by simp[-eU,-ef,Kd,MM,h1,h2,h3,FH,d10,rr,bound,oR,xi,φ.av,Ax _ mZ,Lf mZ,NB]) fun s' ⟨b1,b2⟩=>?_;have hf:Fin s':=wO b1;simp[hf,b2]
  rw[if_neg H4];have NB:¬(4:Int)<(x.aq.length:Int):=by omega
  refine Θ (S1) (by simp[S1,K,-eU,-ef,Kd,MM,h1,h2,h3,FH,d10,rr,bound,oR,xi,φ.av,Ax _ mZ,Lf mZ,NB]) fun s1 ⟨⟨h1,h2⟩,h3⟩=>?_;simp only[MM,de]at h3;let id:Nat:=m.ε.length+1;let S2:List cY->St->Prop:=fun es st=>K st/\(∃v,st.e 4= .aj 4 v 0/\st.q 4=some (v,.cells [.map id,.n 0]))/\MM [.map (es.map bI)] st;refine Θ (S2 []) (by simp[S2,K,MM,h1,h2,h3,dp,Mem.push,Hr,id]) fun s1 ⟨⟨h1,h2⟩,⟨v,h4,h5⟩,h3⟩=>?_;simp only[MM]at h3;have hid:∀(es:List cY) ext,(B1++(θ.map (es.map bI)::ext))[id]?=some (.map (es.map bI)):=fun es ext=>by show(B1++(θ.map (es.map bI)::ext))[m.ε.length+1]?=_;rw[<-Hr];simp
  have lO:∀(es e_:List cY),(B1++[θ.map (es.map bI)]).set id (.map (e_.map bI))=B1++[.map (e_.map bI)]:=fun es e_=>by show(B1++[θ.map (es.map bI)]).set (m.ε.length+1) _=_;rw[<-Hr];simp
  refine bP (fun st=>qQ x.aq o6=0/\∃es,fY es 0 1 (qR x.aq o6)/\S2 es st) ?_ fun s1 ⟨hz,es,hs,⟨h1,h2⟩,⟨v,h4,h5⟩,h3⟩=>?_
  ·let I:Nat->St->Prop:=fun i st=>st.e 45= .list x.cp (x.aq.map ay.av)/\st.e 46= .n x.aq.length/\st.e 47= .n i/\∃es L',fY es 0 1 L'/\S2 es st/\qQ (x.aq.drop i) L'=qQ x.aq o6/\qR (x.aq.drop i) L'=qR x.aq o6;have yu:=d1 [.map []];simp only[xc]at yu;refine Θ (fun st=>st.e 45= .list x.cp (x.aq.map ay.av)/\st.e 46= .n x.aq.length/\st.e 47= .n 0/\S2 [] st) (by simp[S2,K,MM,h1,h2,h3,h4,h5,yu]) fun s4 ⟨a1,a2,a3,a4⟩=>?_;refine κ.block (κ.loop (I:=I) x.aq.length ⟨a1,a2,a3,[],o6,fY.empty 0 1,a4,rfl,rfl⟩ fun i st hi Ω=>?_);obtain⟨q1,q2,q3,es,L',sY,⟨⟨h1,h2⟩,⟨v,h4,h5⟩,h3⟩,q4,q5⟩:=Ω;simp only[MM]at h3;rcases cX i x.aq.length with eW|du
   ·have kP:bC .i64 ((i:Int)+1)=(i:Int)+1:=wrap_i64 (by omega) (by omega);rw[mQ eW]at q4 q5;rw[ahr]at q4;simp only[qR]at q5;have acJ:cV x.aq[i].name:=ai.2.2.1 _ (df eW);have f191:=f191 (u:=u) (B:=B1++[.map (es.map bI)]) (by simpa using hid es []) sY x.aq[i].name acJ [] [];simp only[eL,de]at f191;have akS:id<(B1++[θ.map (es.map bI)]).length:=by simp[Hr,id]
    by_cases vF:c_ x.aq[i].name=false
    ·rw[if_pos vF]at q4;have τ:fC L' x.aq[i].name=4:=by simp[fC,vF]
     rw[τ]at f191;right;have hx:∃s',exec (C u).gl (ah (C u)) dL rX st=some (.ret,s')/\MM [.map (es.map bI)] s'/\s'.e 2= .n 4:=by simp[MM,rX,h1,h2,h3,h4,h5,q1,q2,q3,eW,ay.av,f191]
     obtain⟨s',b0,b1,b2⟩:=hx;refine⟨_,b0,by simp,?_⟩;have hf:Fin s':=wO b1;simp[hf,b2,<-q4]
    rw[if_neg vF]at q4;have Ny:c_ x.aq[i].name=true:=by simpa using vF
    have UR:fC L' x.aq[i].name≠4:=by simp only[fC,Ny,BS,if_false];split<;>decide
    by_cases aJ:x.aq[i].size<1\/12<x.aq[i].size
    ·rw[if_pos aJ]at q4;right;have hx:∃s',exec (C u).gl (ah (C u)) dL rX st=some (.ret,s')/\MM [.map (es.map bI)] s'/\s'.e 2= .n 3:=by
      rcases aJ with aJ|aJ
      ·simp[MM,rX,h1,h2,h3,h4,h5,q1,q2,q3,eW,ay.av,f191,gi UR,aJ]
      ·have:¬x.aq[i].size<1:=by omega
       simp[MM,rX,h1,h2,h3,h4,h5,q1,q2,q3,eW,ay.av,f191,gi UR,aJ,this]
     obtain⟨s',b0,b1,b2⟩:=hx;refine⟨_,b0,by simp,?_⟩;have hf:Fin s':=wO b1;simp[hf,b2,<-q4]
    rw[if_neg aJ]at q4;have ur:¬x.aq[i].size<1:=by omega
    have ng:¬12<x.aq[i].size:=by omega
    by_cases xm:L' x.aq[i].name= .none
    ·rw[if_neg (by simpa using xm)]at q4;have τ:fC L' x.aq[i].name=0:=by simp[fC,Ny,xm]
     rw[τ]at f191;left;refine⟨eW,?_⟩;have hx:∃s',exec (C u).gl (ah (C u)) dL rX st=some (.normal,s')/\S2 (jr es x.aq[i].name 1 (-1)) s'/\s'.e 45= .list x.cp (x.aq.map ay.av)/\s'.e 46= .n x.aq.length/\s'.e 47= .n ((i:Int)+1):=by simp[S2,K,MM,rX,h1,h2,h3,h4,h5,q1,q2,q3,eW,ay.av,f191,ur,ng,kP,dp,hid,lO,isKey,plain,sd,IV,Mem.put]
     obtain⟨s',b0,b1,b2,b3,b4⟩:=hx;have:=sY.put x.aq[i].name 1 (-1) (by decide) (by omega);exact⟨s',b0,b2,b3,b4,_,_,by simpa[jZ]using this,b1,q4,q5⟩
    ·rw[if_pos xm]at q4;have τ:fC L' x.aq[i].name=5:=by simp[fC,Ny,xm]
     rw[τ]at f191;right;have hx:∃s',exec (C u).gl (ah (C u)) dL rX st=some (.ret,s')/\MM [.map (es.map bI)] s'/\s'.e 2= .n 5:=by simp[MM,rX,h1,h2,h3,h4,h5,q1,q2,q3,eW,ay.av,f191,ur,ng]
     obtain⟨s',b0,b1,b2⟩:=hx;refine⟨_,b0,by simp,?_⟩;have hf:Fin s':=wO b1;simp[hf,b2,<-q4]
   ·right;have:i=x.aq.length:=by omega
    subst this;rw[alo]at q4 q5;simp only[qQ]at q4;simp only[qR]at q5;have hx:∃s',exec (C u).gl (ah (C u)) dL rX st=some (.exit 1,s')/\S2 es s':=by simp[S2,K,MM,rX,h1,h2,h3,h4,h5,q1,q2,q3]
    obtain⟨s',b0,b1⟩:=hx;refine⟨_,b0,by simp,.inl ⟨rfl,.inl ⟨rfl,q4.symm,es,?_,b1⟩⟩⟩;rw[<-q5];exact sY
  simp only[MM]at h3;rw[hz];simp only[ne_eq,not_true_eq_false,if_false];have yu:=d1 [.map (es.map bI)];have Sm:=d0 [.map (es.map bI)];simp only[xc]at yu;simp only[rp]at Sm;have hcw:=δ.Lb x.body;have Lo:=fun m=>f135 (u:=u) x.cb ai.2.2.2.1 x.body ai.2.2.2.2.1 (by omega) m;have SA:=fun m=>f192 (u:=u) x.body x.cb ai.2.2.2.1 ai.2.2.2.2.1 1 (by omega) (by omega) m;have hdp:lW (δ.dx x.body) 1=δ.dx x.body:=by unfold lW;split<;>omega
  rw[hdp]at SA;have SB:∀m,kf u 192 [.list x.cb (δ.ψ x.body),.n 1] m=some (.n (δ.dx x.body),m):=SA;by_cases hc:120<δ.bO x.body
  ·rw[if_pos hc];have gD:(120:Int)<(δ.bO x.body:Int):=by omega
   refine bP (fun _=>False) ?_ fun _ h=>h.elim;refine κ.fin (M:=fun st=>MM [.map (es.map bI)] st/\st.e 2= .n 2) .ret (by simp[MM,h1,h2,h3,h4,h5,yu,Lo,gD]) fun s' ⟨b1,b2⟩=>?_;have hf:Fin s':=wO b1;simp[hf,b2]
  rw[if_neg hc];have eD:¬(120:Int)<(δ.bO x.body:Int):=by omega
  by_cases hd:6<δ.dx x.body
  ·rw[if_pos hd];have kx:(6:Int)<(δ.dx x.body:Int):=by omega
   refine bP (fun _=>False) ?_ fun _ h=>h.elim;refine κ.fin (M:=fun st=>MM [.map (es.map bI)] st/\st.e 2= .n 11) .ret (by simp[MM,h1,h2,h3,h4,h5,yu,Lo,eD,SB,kx]) fun s' ⟨b1,b2⟩=>?_;have hf:Fin s':=wO b1;simp[hf,b2]
  rw[if_neg hd];have iq:¬(6:Int)<(δ.dx x.body:Int):=by omega
  refine Θ (S2 es) (by simp[S2,K,MM,h1,h2,h3,h4,h5,yu,Lo,eD,SB,iq]) fun s1 ⟨⟨h1,h2⟩,⟨v,h4,h5⟩,h3⟩=>?_;simp only[MM]at h3;let B2:List θ:=m.ε.set ck (rp 1);have Hs:(B1++[θ.map (es.map bI)]).set ck (.cells [.list dH (ps.map φ.av),.n k,.n 1])=B2++[.cells xc,.map (es.map bI)]:=by simp only[B1,bH];rw[mT _ _ lx];rfl
  have CX:B2.length=m.ε.length:=by simp[B2]
  have abQ:(B2++[θ.cells xc,.map (es.map bI)])[ck]?=some (.cells [.list dH (ps.map φ.av),.n k,.n (1:Nat)]):=by rw[eo (by omega)];simp[B2,rp,lx]
  have aca:(B2++[θ.cells xc,.map (es.map bI)])[id]?=some (.map (es.map bI)):=by show(B2++[θ.cells xc,.map (es.map bI)])[m.ε.length+1]?=_;rw[<-CX];simp
  obtain⟨eF,e_,p1,p2,p3⟩:=f193 (u:=u) dH mZ ps cT (by omega) k x.body x.cb ai.2.2.2.1 ai.2.2.2.2.1 es _ 0 1 ck id {ε:=B2++[.cells xc,.map (es.map bI)],ζ:=[]} abQ aca hs (by omega) (by omega);have HA:bM (B2++[θ.cells xc,.map (es.map bI)]) ck id (.list dH (ps.map φ.av)) (.n k) eF e_=m.ε.set ck (rp eF)++[.cells xc,.map (e_.map bI)]:=by
   unfold bM;rw[mT _ _ (by omega)];have:B2.set ck (.cells [.list dH (ps.map φ.av),.n k,.n eF])=m.ε.set ck (rp eF):=by simp[B2,rp]
   rw[this,ya _ _ (by simp[id])];simp[id]
  simp only[HA,eL]at p3;have p3':kf u 193 [.μ ck 0,.agg [.map id,.n 0],.list x.cb (δ.ψ x.body)] {ε:=B2++[.cells xc,.map (es.map bI)],ζ:=[]}=some (.n (gn ps k x.body (qR x.aq o6)),{ε:=m.ε.set ck (rp eF)++[.cells xc,.map (e_.map bI)],ζ:=[]}):=p3;refine Θ (fun st=>K st/\(∃v,st.e 4= .aj 4 v 0/\st.q 4=some (v,.cells [.map id,.n 0]))/\st.mem= {ε:=B2++[.cells xc,.map (es.map bI)],ζ:=[]}) (by simp[K,h1,h2,h3,h4,h5,Sm,Hs,Mem.put,eK,ν,bo,lo]) fun s1 ⟨⟨h1,h2⟩,⟨v,h4,h5⟩,h3⟩=>?_;have d3e:(B2++[θ.cells xc,.map (es.map bI)])[m.ε.length]?=some (.cells [.str x.name,.list x.cp (x.aq.map ay.av),.list x.cb (δ.ψ x.body)]):=by rw[<-CX];simp[xc]
  refine κ.fin (M:=fun st=>st.mem= {ε:=m.ε.set ck (rp eF)++[.cells xc,.map (e_.map bI)],ζ:=[]}/\st.e 2= .n (gn ps k x.body (qR x.aq o6))) .ret (by simp[h1,h2,h3,h4,h5,d3e,p3']) fun s' ⟨b1,b2⟩=>?_;have hf:Fin s':=⟨eF,_,b1⟩;simp[hf,b2]
 obtain⟨r,r1,r2,⟨nb,ext,r3⟩,r4⟩:=dY;exact⟨nb,kz (g:=AI) rfl rfl rfl (by simp) ⟨r,r1,r2,⟨ext,r3⟩,[_],by simp[AI];exact r4,by simp⟩⟩
theorem f43(dH:ξ)(mZ:br dH)(ps:List φ)(cT:∀x∈ps,x.Ok)(cM:jq ps<10000000000)(m:Mem):
  kf u 43 [tq dH ps] m=some (.n (mW ps),m):=by
 refine eN (g:=Hg) rfl rfl rfl ?_;simp only[aA,aP,SQ mZ cT];simp only[Hg,RN];have hlen:=W3 ps;have eK:∀M:Mem,M.ν=ν:=fun _=>rfl;have vF:cL (ps.map φ.av)=ps.map φ.av:=by
  rw[fM,dc];refine dD fun p _=>?_;have h1:cL (p.aq.map ay.av)=p.aq.map ay.av:=by rw[fM,dc];exact dD fun _ _=>rfl
  have h2:cL (δ.ψ p.body)=δ.ψ p.body:=by rw[fM,δ.eM,dc];exact dD fun y _=>by simp only[Function.comp,δ.av,ν,δ.zx]
  simp only[Function.comp,φ.av,ν,cL,h1,h2]
 simp only[tq]at*;let K:List θ->St->Prop:=fun ext st=>st.e 1= .aj 1 0 0/\st.q 1=some (0,.cells [.list dH (ps.map φ.av)])/\st.mem= {ε:=m.ε++ext,ζ:=[]};refine Θ (K []) (by simp[K,bL]) fun s1 ⟨h1,h2,h3⟩=>?_;unfold mW;by_cases ho:ps.length<1\/12<ps.length
 ·rw[if_pos ho];refine bP (fun _=>False) ?_ fun _ h=>h.elim;by_cases h0:ps.length<1
  ·have:(ps.length:Int)<1:=by omega
   simp[h1,h2,h3,this]
  ·have L_:¬(ps.length:Int)<1:=by omega
   have Ma:(12:Int)<ps.length:=by omega
   simp[h1,h2,h3,L_,Ma]
 rw[if_neg ho];have L_:¬(ps.length:Int)<1:=by omega
 have Ma:¬(12:Int)<ps.length:=by omega
 refine Θ (K []) (by simp[K,h1,h2,h3,L_,Ma]) fun s1 ⟨h1,h2,h3⟩=>?_;refine bP (fun st=>(∃ext,K ext st)/\tv ps 0 ps=0) ?_ fun s2 ⟨⟨ext,h1,h2,h3⟩,h4⟩=>by simp[h3,h4]
 let I:Nat->St->Prop:=fun i st=>(∃ext,K ext st)/\st.e 17= .n ps.length/\st.e 18= .n i/\tv ps i (ps.drop i)=tv ps 0 ps;refine Θ (fun st=>K [] st/\st.e 17= .n ps.length/\st.e 18= .n 0) (by simp[K,h1,h2,h3]) fun s4 ⟨a1,a2,a3⟩=>?_;refine κ.block (κ.loop (I:=I) ps.length ⟨⟨[],a1⟩,a2,a3,rfl⟩ fun i st hi Ω=>?_);obtain⟨⟨ext,h1,h2,h3⟩,q1,q2,q3⟩:=Ω;rcases cX i ps.length with χ|du
 ·have kP:bC .i64 ((i:Int)+1)=(i:Int)+1:=wrap_i64 (by omega) (by omega);have sU:(m.ε++(ext++[θ.cells [.list dH (ps.map φ.av),.n i,.n 0]]))[(m.ε++ext).length]?=some (.cells [.list dH (ps.map φ.av),.n i,.n 0]):=by rw[<-bH];simp
  obtain⟨nb,e⟩:=f126 (u:=u) dH mZ ps cT cM i χ (m.ε++ext).length {ε:=m.ε++(ext++[.cells [.list dH (ps.map φ.av),.n i,.n 0]]),ζ:=[]} sU;have lO:(m.ε++(ext++[θ.cells [.list dH (ps.map φ.av),.n i,.n 0]])).set (m.ε++ext).length (.cells [.list dH (ps.map φ.av),.n i,.n nb])=m.ε++(ext++[.cells [.list dH (ps.map φ.av),.n i,.n nb]]):=by rw[<-bH,ya _ _ (bA _)];simp
  simp only[lO,cD]at e;rw[mQ χ]at q3;simp only[tv]at q3;by_cases hz:sg ps i ps[i]=0
  ·rw[if_neg (by simpa using hz)]at q3;rw[hz]at e;left;refine⟨χ,?_⟩;have hx:∃s',exec (C u).gl (ah (C u)) dL Bo st=some (.normal,s')/\K (ext++[.cells [.list dH (ps.map φ.av),.n i,.n nb]]) s'/\s'.e 17= .n ps.length/\s'.e 18= .n ((i:Int)+1):=by simp[K,Bo,h1,h2,h3,q1,q2,χ,e,kP,dp,Mem.push,eK,ν,cL,vF]
   obtain⟨s',b1,b2,b3,b4⟩:=hx;exact⟨s',b1,⟨_,b2⟩,b3,b4,q3⟩
  ·rw[if_pos hz]at q3;rw[q3]at e hz;right;simp[Bo,h1,h2,h3,q1,q2,χ,e,bne_true hz,dp,Mem.push,eK,ν,cL,vF]
 ·right;have:i=ps.length:=by omega
  subst this;rw[alo]at q3;simp only[tv]at q3;have hx:∃s',exec (C u).gl (ah (C u)) dL Bo st=some (.exit 0,s')/\K ext s':=by simp[K,Bo,h1,h2,h3,q1,q2]
  obtain⟨s',b1,b2⟩:=hx;refine⟨_,b1,by simp,?_⟩;left;exact⟨rfl,.inl ⟨rfl,⟨ext,b2⟩,q3.symm⟩⟩
def Co{α:Type}(l:List α):ξ:=match l with
 |[]=> .nil
 |_=> .any
def _root_.Go.Δ.ρ.copy(p:ρ):ρ:=⟨p.name,Co p.ix,Ld p.ix⟩
mutual
def _root_.Go.Δ.δ.copy:δ->δ
 | .mk k g nm _ pl size to _ body _ els=> .mk k g nm (Co pl) (pl.map ρ.copy) size.copy to.copy (Co body) (Jo body) (Co els) (Jo els)
def Jo:List δ->List δ
 |[]=>[]
 |s::l=>s.copy::Jo l
end
def _root_.Go.Δ.φ.copy(p:φ):φ:=⟨p.name,p.cp,p.aq,Co p.body,Jo p.body⟩
structure ox (n:Nat) (bs:List θ) (sz:Nat) (e:TypeId) (c:ξ) (len:Nat):Prop where
 r:Row n bs sz e c len
 n:len=0->c= .nil
theorem ox.nil{n:Nat}{bs:List θ}{sz:Nat}{e:TypeId}:ox n bs sz e .nil 0:=⟨Row.nil,fun _=>rfl⟩
end Go.Δ.Tz
namespace Go.Δ
def paren(b:Bool)(s:List Nat):List Nat:=if b then 40::(s++[41])else s
def xJ(k:Int):List Nat:=if k=3 then[32,43,32]else if k=4 then[32,45,32]else[32,42,32]
def fU(k:Int):Bool:=decide (k=3)||decide (k=4)
def η.kind:η->Int
 | .mk k _ _ _ _=>k
def xC(k n:Int)(s:List Nat)(ks:List Int)(ts:List (List Nat)):List Nat:=
 if k=1 then fp n.toNat else if k=2 then s else
  match ks,ts with
  |[ka,kb],[ta,tb]=>paren (decide (k=5)&&fU ka) ta++xJ k++paren (if k=5 then decide (3<=kb)else fU kb) tb
  |_,_=>[]
mutual
def η.text:η->List Nat
 | .mk k n s _ l=>xC k n s (l.map η.kind) (η.texts l)
def η.texts:List η->List (List Nat)
 |[]=>[]
 |x::l=>x.text::η.texts l
end
mutual
def η.mu:η->Prop
 | .mk k n s _ l=>kW k n l.length=0/\(k=2->s.length<=8)/\η.E3 l
def η.E3:List η->Prop
 |[]=>True
 |x::l=>x.mu/\η.E3 l
end
theorem η.XK{l:List η}(h:η.E3 l):∀x∈l,x.mu:=by
 induction l with
 |nil=>intro x hx;cases hx
 |cons a l ih=>
  intro x hx
  rcases cw.1 hx with rfl|hx
  ·exact h.1
  ·exact ih h.2 x hx
theorem η.WQ{may:List Nat->Bool}{no:Int}(gG:no≠0)(hm:∀s,may s=true->s.length<=8)(x:η):x.part may no=0->x.mu:=by
 refine η.kR (Q:=fun x=>x.part may no=0->x.mu) (fun k n s c l ih h=>?_) x;simp only[η.part]at h;split at h
 ·contradiction
 ·rename_i h0;split at h
  ·exact absurd h gG
  ·rename_i h2;refine⟨by simpa using h0,fun hk=>?_,?_⟩
   ·cases hb:may s with
    |true=>exact hm s hb
    |false=>exact absurd ⟨hk,hb⟩ h2
   ·induction l with
    |nil=>trivial
    |cons a l xy=>
     simp only[η.parts]at h
     split at h
     ·contradiction
     ·rename_i ha;refine⟨ih a (by simp) (by simpa using ha),?_⟩;have go:∀l:List η,(∀y∈l,y.part may no=0->y.mu)->η.parts may no l=0->η.E3 l:=by
       intro l;induction l with
       |nil=>intro _ _;trivial
       |cons b l oV=>
        intro h1 h2
        simp only[η.parts]at h2;split at h2
        ·contradiction
        ·rename_i hb;exact⟨h1 b (by simp) (by simpa using hb),oV (fun y hy=>h1 y (by simp[hy])) h2⟩
      exact go l (fun y hy=>ih y (by simp[hy])) h
theorem va(n:Nat):(fp n).length<=2:=by unfold fp;split<;>simp
theorem I6(b:Bool)(s:List Nat):(paren b s).length<=s.length+2:=by unfold paren;split<;>simp
theorem agm(k:Int):(xJ k).length=3:=by unfold xJ;split<;>(try split)<;>rfl
theorem η.so(x:η):x.mu->x.text.length<=13*x.cnt:=by
 refine η.kR (Q:=fun x=>x.mu->x.text.length<=13*x.cnt) (fun k n s c l ih h=>?_) x;simp only[η.mu]at h;obtain⟨h1,h2,h3⟩:=h;simp only[η.text,η.cnt,xC];split
 ·have:=va n.toNat;omega
 ·split
  ·rename_i hk;have:=h2 hk;omega
  ·match l with
   |[]=>simp
   |[a]=>simp
   |[a,b]=>
    have ha:=ih a (by simp) (η.XK h3 a (by simp))
    have hb:=ih b (by simp) (η.XK h3 b (by simp));have p1:=I6 (decide (k=5)&&fU a.kind) a.text;have p2:=I6 (if k=5 then decide (3<=b.kind)else fU b.kind) b.text;have p3:=agm k;simp only[aA,aP,η.texts,cD,η.bO];omega
   |a::b::c::l=>simp[η.texts]
def lG:List (List Nat)->List Nat
 |[]=>[]
 |[x]=>x
 |x::l=>x++[44,32]++lG l
def ρ.text(p:ρ):List Nat:=match p.ix with
 |[]=>p.name
 |[a]=>p.name++[91]++a.text++[93]
 |a::b::_=>p.name++[91]++a.text++[32,58,32]++b.text++[93]
def nq(l:List ρ):List Nat:=lG (l.map ρ.text)
def ρ.mu(p:ρ):Prop:=p.name.length<=8/\p.ix.length<=2/\∀x∈p.ix,x.mu/\x.cnt<=9
theorem ρ.so(p:ρ)(h:p.mu):p.text.length<=250:=by
 obtain⟨nm,c,ix⟩:=p;obtain⟨h1,h2,h3⟩:=h;simp only at h1 h2 h3
 match ix with
 |[]=>simp[ρ.text];omega
 |[a]=>
  obtain⟨a1,a2⟩:=h3 a (by simp)
  have:=η.so a a1;simp[ρ.text];omega
 |[a,b]=>
  obtain⟨a1,a2⟩:=h3 a (by simp)
  obtain⟨b1,b2⟩:=h3 b (by simp);have:=η.so a a1;have:=η.so b b1;simp[ρ.text];omega
 |a::b::c::l=>simp at h2
theorem Cu(l:List (List Nat))(n:Nat)(h:∀x∈l,x.length<=n):(lG l).length<=l.length*(n+2):=by
 induction l with
 |nil=>simp[lG]
 |cons a l ih=>
  have ha:=h a (by simp)
  have hl:=ih fun x hx=>h x (by simp[hx]);cases l with
  |nil=>simp[lG];omega
  |cons b l=>
   simp only[lG,cD,cE,eI]at hl⊢
   have:(l.length+1+1)*(n+2)=(l.length+1)*(n+2)+(n+2):=by rw[kF (l.length+1)];omega
   omega
def fD:List Nat:=[32,32]
def cg(k g:Int)(nm:List Nat)(pl:List ρ)(size to:η):List Nat:=
 if k=1 then fq.getD (g-1).toNat []++[32]++nq pl
 else if k=2 then[116,97,107,101,32]++nm++[91]++size.text++[93]
 else if k=3 then[100,114,111,112,32]++nm
 else if k=4 then[98,111,114,114,111,119,32]++nm++[91]++size.text++[93]
 else if k=5 then[109,101,97,115,117,114,101,32]++nq pl++[32,58,32]++nm
 else if k=6 then[114,101,115,101,116,32]++nq pl
 else if k=7 then[105,102,32]++nm
 else if k=8 then[102,111,114,32]++nm++[32,61,32]++size.text++[32,58,32]++to.text
 else if k=9 then nm++[40]++nq pl++[41]
 else if k=10 then[117,110,100,111]
 else[119,105,116,104,105,110]
def mU(k:Int):List Nat:=if k=7 then[101,108,115,101]else[97,112,112,108,121]
mutual
def dj:List δ->List Nat->List Nat
 |[],_=>[]
 |s::l,b=>jm s b++dj l b
def jm:δ->List Nat->List Nat
 | .mk k g nm _ pl size to _ body _ els,b=>b++cg k g nm pl size to++
   (if aS k=false then[59,10]
    else[32,123,10]++dj body (b++fD)++
    (if bh k=true/\¬(k=7/\els.length=0)then b++[125,32]++mU k++[32,123,10]++dj els (b++fD)else[])++b++[125,10])
end
def ay.text(p:ay):List Nat:=p.name++[91]++fp p.size.toNat++[93]
def φ.text(p:φ):List Nat:=[112,114,111,99,32]++p.name++[40]++lG (p.aq.map ay.text)++[41,32,123,10]++dj p.body fD++[125,10]
def fI:List φ->List Nat
 |[]=>[]
 |p::l=>p.text++fI l
def vR(x:η):Prop:=x.mu/\x.cnt<=9
def Eg(pl:List ρ):Prop:=pl.length<=4/\∀p∈pl,p.mu
def AZ(k g:Int)(nm:List Nat)(pl:List ρ)(size to:η):Prop:=
 (1<=k/\k<=11)/\(k=1->1<=g/\g<=12)/\(k=2\/k=3\/k=4\/k=5\/k=7\/k=8\/k=9->nm.length<=8)∧
 (k=1\/k=5\/k=6\/k=9->Eg pl)/\(k=2\/k=4\/k=8->vR size)/\(k=8->vR to)
mutual
def δ.R:δ->Prop
 | .mk k g nm _ pl size to _ body _ els=>AZ k g nm pl size to/\(aS k=true->δ.Rs body)/\(bh k=true->δ.Rs els)
def δ.Rs:List δ->Prop
 |[]=>True
 |s::l=>s.R/\δ.Rs l
end
theorem δ.aiT{l:List δ}(h:δ.Rs l):∀x∈l,x.R:=by
 induction l with
 |nil=>intro x hx;cases hx
 |cons a l ih=>
  intro x hx
  rcases cw.1 hx with rfl|hx
  ·exact h.1
  ·exact ih h.2 x hx
theorem v8{l:List ρ}(h:Eg l):(nq l).length<=1008:=by
 have:=Cu (l.map ρ.text) 250 (fun x hx=>by
  obtain⟨p,hp,rfl⟩:=eT.1 hx
  exact ρ.so p (h.2 p hp))
 have h4:=h.1;rw[cF]at this;have:l.length*252<=4*252:=mq _ h4;unfold nq;omega
theorem rW{x:η}(h:vR x):x.text.length<=117:=by have:=η.so x h.1;have:=h.2;omega
theorem L9(n:Nat):(fq.getD n []).length<=4:=by
 match n with
 |0|1|2|3|4|5|6|7|8|9|10|11=>decide
 |n+12=>simp[fq]
theorem Uo{k g:Int}{nm:List Nat}{pl:List ρ}{size to:η}(h:AZ k g nm pl size to):(cg k g nm pl size to).length<=1100:=by
 obtain⟨h0,h1,h2,h3,h4,h5⟩:=h;have hk:k=1\/k=2\/k=3\/k=4\/k=5\/k=6\/k=7\/k=8\/k=9\/k=10\/k=11:=by omega
 rcases hk with rfl|rfl|rfl|rfl|rfl|rfl|rfl|rfl|rfl|rfl|rfl
 ·have:=v8 (h3 (by simp));have:=L9 (g-1).toNat;simp[cg];simp at this;omega
 ·have:=rW (h4 (by simp));have:=h2 (by simp);simp[cg];omega
 ·have:=h2 (by simp);simp[cg];omega
 ·have:=rW (h4 (by simp));have:=h2 (by simp);simp[cg];omega
 ·have:=v8 (h3 (by simp));have:=h2 (by simp);simp[cg];omega
 ·have:=v8 (h3 (by simp));simp[cg];omega
 ·have:=h2 (by simp);simp[cg];omega
 ·have:=rW (h4 (by simp));have:=rW (h5 rfl);have:=h2 (by simp);simp[cg];omega
 ·have:=v8 (h3 (by simp));have:=h2 (by simp);simp[cg];omega
 ·simp[cg]
 ·simp[cg]
theorem Kl(k:Int):(mU k).length<=5:=by unfold mU;split<;>simp
theorem Wc(D:Nat)(l:List δ):∀b,δ.Rs l->b.length+2*δ.dx l<=D->(dj l b).length<=δ.bO l*(3*D+1200):=by
 refine δ.lists (P:=fun l=>∀b,δ.Rs l->b.length+2*δ.dx l<=D->(dj l b).length<=δ.bO l*(3*D+1200)) (fun l ih b hR hD=>?_) l;induction l with
 |nil=>simp[dj]
 |cons s l xy=>
  have hs:=ih s (by simp)
  have h2:=xy (fun y hy=>ih y (by simp[hy])) hR.2 (by simp only[δ.dx]at hD;omega);obtain⟨k,g,nm,cp,pl,size,to,cb,body,ce,els⟩:=s;obtain⟨hh,hb,he⟩:=hR.1;have hl:=Uo hh;have C7:=Kl k;simp only[δ.dx,δ.deep]at hD;simp only[δ.body,δ.els]at hs;simp only[dj,jm,cD,δ.bO,δ.cnt,kF,Nat.one_mul];have ep:(b++fD).length=b.length+2:=by simp[fD]
  cases hk:aS k with
  |false=>
   have A6:bh k=false:=by simp only[aS,bh,decide_eq_false_iff_not]at hk⊢;omega
   simp[hk,A6];omega
  |true=>
   simp only[hk,if_true]at hD
   have h3:=hs.1 (b++fD) (hb hk) (by rw[ep];omega);cases A6:bh k with
   |false=>simp[hk,A6];omega
   |true=>
    simp only[A6,if_true]at hD
    have h4:=hs.2 (b++fD) (he A6) (by rw[ep];omega);simp only[hk,A6,if_true];by_cases hx:k=7/\els.length=0
    ·rw[if_neg (by simp),if_neg (by simp[hx])];simp;omega
    ·rw[if_neg (by simp),if_pos ⟨trivial,hx⟩];simp;omega
end Go.Δ
namespace Go.Δ.Tz
open Go.Δ
theorem S0{α:Type}{f:α->Int}{l:List α}(h:first f l=0):∀x∈l,f x=0:=by
 induction l with
 |nil=>intro x hx;cases hx
 |cons a l ih=>
  simp only[first]at h
  split at h
  ·contradiction
  ·rename_i h0;intro x hx;rcases cw.1 hx with rfl|hx
   ·simpa using h0
   ·exact ih h x hx
theorem FT{L:b_}(hL:k_ L){x:η}(h:x.err (iT L) 1=0):vR x:=by
 unfold η.err at h;split at h
 ·cases h
 ·rename_i h9;refine⟨η.WQ (no:=1) (by decide) (fun s hs=>hL s ?_) x h,by omega⟩;simp only[iT,decide_eq_true_eq]at hs;rw[hs];exact fun h=>by cases h
theorem Ph{L:b_}(hL:k_ L){p:ρ}(h:jo L p=0):p.mu:=by
 unfold jo at h;split at h
 ·cases h
 ·rename_i h1;split at h
  ·cases h
  ·rename_i h2;refine⟨hL _ fun he=>h1 (by rw[he];rfl),by omega,fun x hx=>?_⟩;have:=FT hL (S0 h x hx);exact this
theorem zw{L:b_}{s:List Nat}(h:fC L s=0):s.length<=8:=O1 (O3 h).1
def EV(ps:List φ)(own:Nat):Prop:=∀n q,n<own->ps[n]?=some q->q.name.length<=8/\q.aq.length<=4
theorem ah4{ps:List φ}{s:List Nat}{n:Nat}(h:p8 ps s=some n):∃q,ps[n]?=some q/\q.name=s:=by rw[p8,List.findIdx?_eq_some_iff_getElem]at h;obtain⟨h1,h2,_⟩:=h;exact⟨ps[n],dN h1,by simpa using h2⟩
theorem ajG{ps:List φ}{own:Nat}{L:b_}(hL:k_ L)(hb:EV ps own){k g:Int}{nm:List Nat}{cp:ξ}{pl:List ρ}{size to:η}{cb ce:ξ}{body els:List δ}
  (h:d_ ps own L (.mk k g nm cp pl size to cb body ce els)=0):AZ k g nm pl size to:=by
 have dQ:first (jo L) pl=0->pl.length<=4->Eg pl:=fun h1 h2=>⟨h2,fun p hp=>Ph hL (S0 h1 p hp)⟩
 simp only[d_]at h;split at h
 ·rename_i hk;subst hk;split at h
  ·cases h
  ·rename_i hg;split at h
   ·cases h
   ·rename_i ha;have:fL g<=3:=by unfold fL;split<;>(try split)<;>omega
    refine⟨by omega,fun _=>by omega,by omega,fun _=>dQ h (by omega),by omega,by omega⟩
 ·rename_i pO;split at h
  ·rename_i hk;split at h
   ·contradiction
   ·rename_i hn;have gF:fC L nm=0:=by simpa using hn
    have:=zw gF;exact⟨by omega,by omega,fun _=>this,by omega,fun _=>FT hL h,by omega⟩
  ·rename_i gE;split at h
   ·rename_i hk;subst hk;split at h
    ·contradiction
    ·rename_i hn;have gF:fC L nm=0:=by simpa using hn
     have:=zw gF;split at h
     ·contradiction
     ·rename_i hs;exact⟨by omega,by omega,fun _=>this,by omega,fun _=>FT hL (by simpa using hs),fun _=>FT hL h⟩
   ·rename_i Ng;split at h
    ·rename_i hk;subst hk;refine⟨by omega,by omega,fun _=>hL nm fun he=>?_,by omega,by omega,by omega⟩;rw[he]at h;cases h
    ·rename_i rK;split at h
     ·rename_i hk;subst hk;split at h
      ·rename_i p;split at h
       ·contradiction
       ·rename_i hp;have sW:jo L p=0:=by simpa using hp
        refine⟨by omega,by omega,fun _=>?_,fun _=>⟨by simp,fun q hq=>?_⟩,by omega,by omega⟩
        ·split at h
         ·rename_i yK;exact hL nm (by rw[yK];exact fun h=>by cases h)
         ·exact zw h
        ·simp at hq;subst hq;exact Ph hL sW
      ·cases h
     ·rename_i pP;split at h
      ·rename_i hk;subst hk;split at h
       ·rename_i p;refine⟨by omega,by omega,by omega,fun _=>⟨by simp,fun q hq=>?_⟩,by omega,by omega⟩;simp at hq;subst hq;exact Ph hL h
       ·cases h
      ·rename_i Nd;split at h
       ·rename_i hk;subst hk;refine⟨by omega,by omega,fun _=>hL nm fun he=>?_,by omega,by omega,by omega⟩;rw[he]at h;simp at h
       ·rename_i Nf;split at h
        ·rename_i hk;subst hk;split at h
         ·cases h
         ·rename_i n hn;split at h
          ·cases h
          ·rename_i χ;obtain⟨q,hq,H8⟩:=ah4 hn;rw[hq]at h;have:=hb n q (by omega) hq;dsimp only at h;split at h
           ·cases h
           ·rename_i hl;refine⟨by omega,by omega,fun _=>by rw[<-H8];exact this.1,fun _=>dQ h (by omega),by omega,by omega⟩
        ·split at h
         ·rename_i Nh hk;refine⟨by omega,by omega,by omega,by omega,by omega,by omega⟩
         ·cases h
theorem PO{ps:List φ}{own:Nat}{L:b_}{x:δ}(h:d_ ps own L x=0)(hk:x.kind=2\/x.kind=4\/x.kind=8):fC L x.name=0:=by rw[qW]at h;rcases hk with hk|hk|hk<;>simp[hk]at h<;>split at h<;>first|assumption|(rename_i hn;exact absurd h hn)
theorem adf{ps:List φ}{own:Nat}{L:b_}(hL:k_ L){x:δ}(h:d_ ps own L x=0):k_ (inside L x.kind x.name):=by
 by_cases h4:x.kind=4
 ·have:inside L x.kind x.name=L.inner.put x.name (.j_ false):=by simp[inside,h4]
  rw[this];exact hL.inner.put (zw (PO h (by omega))) _
 by_cases h8:x.kind=8
 ·have:inside L x.kind x.name=L.inner.put x.name .dR:=by simp[inside,h8]
  rw[this];exact hL.inner.put (zw (PO h (by omega))) _
 ·have:inside L x.kind x.name=L.inner:=by simp[inside,h4,h8]
  rw[this];exact hL.inner
theorem YK{ps:List φ}{own:Nat}{L:b_}(hL:k_ L){x:δ}(h:d_ ps own L x=0):k_ (after L x.kind x.name):=by
 by_cases h2:x.kind=2
 ·have:after L x.kind x.name=L.put x.name (.j_ true):=by simp[after,h2]
  rw[this];exact hL.put (zw (PO h (by omega))) _
 by_cases h3:x.kind=3
 ·have:after L x.kind x.name=L.put x.name .none:=by simp[after,h3]
  rw[this];exact hL.del _
 by_cases h5:x.kind=5
 ·have:after L x.kind x.name=L.put x.name .bit:=by simp[after,h5]
  rw[this];refine hL.put ?_ _;rw[qW]at h;simp[h5]at h;split at h
  ·split at h
   ·split at h
    ·rename_i yK;exact hL _ (by rw[yK];exact fun h=>by cases h)
    ·exact zw h
   ·contradiction
  ·cases h
 ·have:after L x.kind x.name=L:=by simp[after,h2,h3,h5]
  rw[this];exact hL
theorem Zl{ps:List φ}{own:Nat}(hb:EV ps own)(l:List δ):∀L,k_ L->gn ps own l L=0->δ.Rs l:=by
 refine δ.lists (P:=fun l=>∀L,k_ L->gn ps own l L=0->δ.Rs l) (fun l ih L hL h=>?_) l;induction l generalizing L with
 |nil=>trivial
 |cons s l xy=>
  simp only[gn]at h
  split at h
  ·contradiction
  ·rename_i h0;have wX:d_ ps own L s=0:=by simpa using h0
   split at h
   ·contradiction
   ·rename_i h1;have kr:lA ps own s L=0:=by simpa using h1
    refine⟨?_,xy (fun y hy=>ih y (by simp[hy])) _ (YK hL wX) h⟩;have hi:=adf hL wX;have hs:=ih s (by simp);obtain⟨k,g,nm,cp,pl,size,to,cb,body,ce,els⟩:=s;simp only[δ.body,δ.els]at hs;simp only[δ.kind,δ.name]at hi;refine⟨ajG hL hb wX,fun hk=>?_,fun hk=>?_⟩
    ·simp only[lA,hk,if_true]at kr;split at kr
     ·contradiction
     ·rename_i h2;exact hs.1 _ hi (by simpa using h2)
    ·have xh:aS k=true:=by simp only[aS,bh,decide_eq_true_eq]at hk⊢;omega
     simp only[lA,hk,xh,if_true]at kr;split at kr
     ·contradiction
     ·exact hs.2 _ hi kr
structure B_ (x:φ):Prop where
 name:x.name.length<=8
 aq:x.aq.length<=4
 par:∀p∈x.aq,p.name.length<=8/\1<=p.size/\p.size<=12
 body:δ.Rs x.body
 bO:δ.bO x.body<=120
 dx:δ.dx x.body<=6
theorem ahq(l:List ay):∀L,k_ L->qQ l L=0->(∀p∈l,p.name.length<=8/\1<=p.size/\p.size<=12)/\k_ (qR l L):=by
 induction l with
 |nil=>intro L hL _;exact⟨fun p hp=>(by cases hp),hL⟩
 |cons x l ih=>
  intro L hL h
  simp only[qQ]at h;split at h
  ·cases h
  ·rename_i h1;split at h
   ·cases h
   ·rename_i h2;split at h
    ·cases h
    ·have hn:x.name.length<=8:=O1 (by simpa using h1);obtain⟨a,b⟩:=ih _ (hL.put hn _) h;refine⟨fun p hp=>?_,b⟩;rcases cw.1 hp with rfl|hp
     ·exact⟨hn,by omega⟩
     ·exact a p hp
theorem af_:k_ o6:=fun _ h=>absurd rfl h
theorem ah1{ps:List φ}{own:Nat}{x:φ}(hb:EV ps own)(h:sg ps own x=0):B_ x:=by
 unfold sg at h;split at h
 ·cases h
 ·rename_i h1;split at h
  ·cases h
  ·split at h
   ·cases h
   ·rename_i h3;split at h
    ·contradiction
    ·rename_i h4;split at h
     ·cases h
     ·rename_i h5;split at h
      ·cases h
      ·rename_i h6;obtain⟨a,b⟩:=ahq x.aq o6 af_ (by simpa using h4);exact⟨O1 (by simpa using h1),by omega,a,Zl hb _ _ b h,by omega,by omega⟩
theorem ah8(ps:List φ):∀k,EV ps k->tv ps k (ps.drop k)=0->∀n q,k<=n->ps[n]?=some q->B_ q:=by
 intro k;induction hd:ps.length-k generalizing k with
 |zero=>
  intro _ _ n q hn hq
  rw[hU (by omega)]at hq;cases hq
 |succ d ih=>
  intro hb h n q hn hq
  have hk:k<ps.length:=by omega
  rw[mQ hk]at h;simp only[tv]at h;split at h
  ·contradiction
  ·rename_i h0;have hr:=ah1 hb (by simpa using h0);rcases cX k n with χ|du
   ·refine ih (k+1) (by omega) (fun m q' hm vG=>?_) h n q χ hq;rcases cX m k with h2|h2
    ·exact hb m q' h2 vG
    ·have:m=k:=by omega
     subst this;rw[dN hk]at vG;cases vG;exact⟨hr.name,hr.aq⟩
   ·have:n=k:=by omega
    subst this;rw[dN hk]at hq;cases hq;exact hr
theorem Z5{ps:List φ}(h:mW ps=0):ps.length<=12/\∀q∈ps,B_ q:=by
 unfold mW at h;split at h
 ·cases h
 ·rename_i h1;refine⟨by omega,fun q hq=>?_⟩;obtain⟨n,hn,rfl⟩:=List.getElem_of_mem hq;exact ah8 ps 0 (fun n q hn=>by omega) (by simpa using h) n _ (by omega) (dN hn)
theorem φ.so{x:φ}(h:B_ x):x.text.length<=200000:=by
 have h1:=Wc 20 x.body fD h.body (by have:=h.dx;simp[fD];omega);have h2:δ.bO x.body*(3*20+1200)<=120*(3*20+1200):=mq _ h.bO;have h3:=Cu (x.aq.map ay.text) 12 (fun t ht=>by
  obtain⟨p,hp,rfl⟩:=eT.1 ht
  have:=(h.par p hp).1;have:=va p.size.toNat;simp[ay.text];omega)
 rw[cF]at h3;have h4:x.aq.length*(12+2)<=4*(12+2):=mq _ h.aq;have:=h.name;simp only[φ.text,cD,cE,eI];omega
end Go.Δ.Tz
