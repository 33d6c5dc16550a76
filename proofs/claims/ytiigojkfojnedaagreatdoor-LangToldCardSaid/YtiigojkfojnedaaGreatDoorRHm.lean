import Derived.Test.YtiigojkfojnedaaGreatDoorRHe
set_option linter.all false
set_option maxRecDepth 100000
set_option maxHeartbeats 8000000
open Nat renaming lt_or_ge->di,le_refl->b_,add_mul->kA,mul_le_mul_right->nu
open List renaming getElem?_eq_none->gW,append_nil->dM,map_cons->ax,map_nil->aI,getElem?_append_left->d_,set_append_left->ns,getElem?_eq_getElem->dp,getElem?_set->vW,set_set->aky,take_succ_cons->tF,getElem_cons_succ->pX,getElem_mem->db,drop_eq_getElem_cons->oc,append_assoc->bQ,set_append_right->xI,take_length->pa,drop_length->akz,all_map->o8,all_eq_true->dL,map_map->cT,map_congr_left->dh,length_append->cX,mem_cons->cB,length_cons->cN,length_nil->eT,mem_map->fb,length_map->cz
open Go.IntKind renaming wrap->bN
open Bool renaming true_eq_false->BR
namespace Go.Δ.Tz
open Go.Δ
variable{u:Nat}
attribute [local simp] exec ef dR e_ aJ dF fE eR br fM bR iL iS jm jE AV.cells newVar jA rd wr iu single dk cD ff eF μ cF RV.get cK fV kT
theorem μ.fin{gl:Nat->AV}{c:cg}{a:AC}{s:St}{Q:Ex×St->Prop}{M:St->Prop}(ex:Ex)(h:∃s',exec gl c dP a s=some (ex,s')/\M s')(k:∀s',M s'->Q (ex,s')):μ gl c a s Q:=by obtain⟨s',h1,h2⟩:=h;exact⟨_,h1,k s' h2⟩
theorem Cl{C:iF}{f:FuncId}{p:Prim}{fst args cap:List AV}{m:Mem}{r:AV×Mem}(hp:C.gM f=some p)(h:p ((fst++args++cap).map (exp m.ε.length (C.ba f))) m=some r):ab C (.fn (.func f) fst cap) args m=some r:=by apply sy;simp only[body,hp,h]
theorem sF{α:Type}{l:List α}{i:Nat}{x:α}(h:l[i]?=some x):i<l.length:=by
 rcases di i l.length with hl|hl
 ·exact hl
 ·rw[gW hl]at h;cases h
theorem f277(m:Mem)(id:Nat)(es:List (AV×AV))(hid:m.ε[id]?=some (.map es)):kf u 277 [.map id] m=some (.map m.ε.length,m.push (.map es)):=by
 have ψ:=sF hid;refine Cl (p:=xm) (by rfl) ?_;have he:∀k,([]++[AV.map id]++[]).map (exp m.ε.length k)=[.map id]:=fun k=>by simp[exp,ψ]
 rw[he];simp only[xm,hid]
theorem f233{ck id:Nat}{pr ow:AV}{b:Int}{nb:Nat}{es:List cU}(m:Mem)(dw:m.ε[ck]?=some (.cells [pr,ow,.n nb]))(hid:m.ε[id]?=some (.map (es.map bE)))(nm:List Nat)(w d:Int)(vk:nb<1000000000000):
  kf u 233 [.κ ck 0,eJ id b,.str nm,.agg [.n w,.n d]] m=
   some (eJ m.ε.length nb,{ε:=m.ε.set ck (.cells [pr,ow,.n (nb+1:Nat)])++[.map ((if nm=[]then es else jh es nm w d).map bE)],η:=m.η}):=by
 have kW:=sF dw;have nN:=sF hid;have RE:=f277 (u:=u) {ε:=m.ε,η:=[]} id (es.map bE) hid;have hw:bN .i64 ((nb:Int)+1)=(nb:Int)+1:=wrap_i64 (by omega) (by omega);refine UT (g:=GC) rfl rfl rfl ?_ rfl;have eG:([AV.κ ck 0,eJ id b,.str nm,.agg [.n w,.n d]]++[]).map (exp m.ε.length true)=[AV.κ ck 0,.agg [.map id,.n b],.str nm,.agg [.n w,.n d]]:=by simp only[dM,ax,aI,eJ,exp,aX,kW,nN,if_true]
 rw[eG];simp only[GC,c233];have eI:∀M:Mem,M.ν=ν:=fun _=>rfl;let K:St->Prop:=fun st=>st.e 0= .κ ck 0/\st.e 2= .str nm/\st.e 7= .ak 7 0 0/\st.q 7=some (0,.cells [.n w,.n d])/\st.e 8= .ak 8 0 0/\st.q 8=some (0,.cells [.fQ,.n 0]);refine Ψ (fun st=>K st/\st.e 5= .ak 5 0 0/\st.q 5=some (0,.cells [.map id,.n b])/\st.mem= {ε:=m.ε,η:=[]}) (by simp[K,bJ]) fun s1 ⟨⟨h1,h2,h3,h4,h5,h6⟩,h7,h8,h9⟩=>?_;simp only[Mem.push]at RE;have k1:(m.ε++[θ.map (es.map bE)])[ck]?=some (.cells [pr,ow,.n nb]):=by rw[d_ kW];exact dw
 let K2:St->Prop:=fun st=>K st/\∃v,st.e 9= .ak 9 v 0/\st.q 9=some (v,.cells [.map m.ε.length,.n nb]);refine Ψ (fun st=>K2 st/\st.mem= {ε:=m.ε++[.map (es.map bE)],η:=[]}) (by simp[K2,K,h1,h2,h3,h4,h5,h6,h7,h8,h9,RE,k1,dw,c7,uV,de,fL,AV.gO,AV.beq,AV.beq_refl,dG]) fun s1 ⟨⟨⟨h1,h2,h3,h4,h5,h6⟩,v,h7,h8⟩,h9⟩=>?_;have hA:(m.ε.set ck (.cells [pr,ow,.n ((nb:Int)+1)])).length=m.ε.length:=by simp
 have lB:(m.ε++[θ.map (es.map bE)]).set ck (.cells [pr,ow,.n ((nb:Int)+1)])=m.ε.set ck (.cells [pr,ow,.n ((nb:Int)+1)])++[.map (es.map bE)]:=ns _ _ kW;generalize hAe:m.ε.set ck (.cells [pr,ow,.n ((nb:Int)+1)])=A at*;refine Ψ (fun st=>K2 st/\st.mem= {ε:=A++[.map (es.map bE)],η:=[]}) (by simp[K2,K,h1,h2,h3,h4,h5,h6,h7,h8,h9,k1,hw,Mem.put,eI,ν,bn,lo,lB]) fun s1 ⟨⟨⟨h1,h2,h3,h4,h5,h6⟩,v,h7,h8⟩,h9⟩=>?_;have k2:(A++[θ.map (es.map bE)])[m.ε.length]?=some (.map (es.map bE)):=by rw[<-hA];simp
 have k3:∀y,(A++[θ.map (es.map bE)]).set m.ε.length y=A++[y]:=fun y=>by rw[<-hA];simp
 have vb:((nb+1:Nat):Int)=(nb:Int)+1:=by omega
 rw[vb,hAe];have vj:m.ε.length<A.length+1:=by omega
 refine Ψ (fun st=>K2 st/\st.mem= {ε:=A++[.map ((if nm=[]then es else jh es nm w d).map bE)],η:=[]}) (by
  by_cases hn:nm=[]
  ·simp[K2,K,h1,h2,h3,h4,h5,h6,h7,h8,h9,hn]
  ·simp[K2,K,h1,h2,h3,h4,h5,h6,h7,h8,h9,hn,k2,k3,isKey,plain,rY,Iv,Mem.put]) fun s1 ⟨⟨⟨h1,h2,h3,h4,h5,h6⟩,v,h7,h8⟩,h9⟩=>?_
 simp[h1,h2,h3,h4,h5,h6,h7,h8,h9,exp,aX,eJ,vj]
theorem OZ{α:Type}{l:List α}{i:Nat}{x:α}(h:l[i]?=some x):l.set i x=l:=by
 have hl:=sF h;rw[dp hl]at h;have:l[i]=x:=by simpa using h
 rw[<-this];exact List.set_getElem_self hl
def bM(B:List θ)(ck id:Nat)(pr ow:AV)(nb:Nat)(es:List cU):List θ:=(B.set ck (.cells [pr,ow,.n nb])).set id (.map (es.map bE))
section
variable{B:List θ}{ck id:Nat}{pr ow:AV}{nb:Nat}{es:List cU}(hc:ck<B.length)(hi:id<B.length)(φ:ck≠id)
theorem Ya:(bM B ck id pr ow nb es).length=B.length:=by simp[bM]
include hc hi φ
theorem X9(ext:List θ):(bM B ck id pr ow nb es++ext)[ck]?=some (.cells [pr,ow,.n nb]):=by rw[d_ (by simp[bM];omega)];simp[bM,vW,Ne.symm φ,hc]
theorem X_(ext:List θ):(bM B ck id pr ow nb es++ext)[id]?=some (.map (es.map bE)):=by rw[d_ (by simp[bM];omega)];simp[bM,vW,hi]
theorem Yb(ext:List θ)(n:Nat):(bM B ck id pr ow nb es++ext).set ck (.cells [pr,ow,.n n])=bM B ck id pr ow n es++ext:=by rw[ns _ _ (by simp[bM];omega)];simp only[bM];rw[List.set_comm _ _ (Ne.symm φ),aky]
theorem Yc(ext:List θ)(eU:List cU):(bM B ck id pr ow nb es++ext).set id (.map (eU.map bE))=bM B ck id pr ow nb eU++ext:=by rw[ns _ _ (by simp[bM];omega)];simp only[bM,aky]
end
theorem ace(ps:List ξ)(own:Nat)(x:δ)(L:bT):kX ps own x L=first (fun p:τ×List δ=>gb ps own p.2 (inside L x.kind x.name)) x.blocks:=by
 rw[acd];unfold δ.blocks;by_cases he:bz x.kind=true
 ·have hb:bf x.kind=true:=by simp only[bf,bz,decide_eq_true_eq]at he⊢;omega
  simp only[he,hb,if_true,first];split
  ·rfl
  ·split<;>simp_all
 ·by_cases hb:bf x.kind=true
  ·by_cases hz:gb ps own x.body (inside L x.kind x.name)=0<;>simp[he,hb,first,hz]
  ·simp[he,hb,first]
def pq:List (τ×List δ)->Nat
 |[]=>0
 |p::l=>1+δ.bC p.2+pq l
theorem Yw(l:List (τ×List δ))(i:Nat)(h:i<l.length):pq (l.take (i+1))=pq (l.take i)+(1+δ.bC l[i].2):=by
 induction l generalizing i with
 |nil=>simp at h
 |cons a l ih=>
  cases i with
  |zero=>simp[pq]
  |succ i=>simp only[tF,pq,pX,ih i (by simpa using h)];omega
theorem Yv(x:δ):pq x.blocks<=x.wt:=by
 have:=δ.xB x;unfold δ.blocks;split
 ·simp only[pq];omega
 ·split<;>simp only[pq]<;>omega
theorem Yx(l:List (τ×List δ))(i:Nat):pq (l.take i)<=pq l:=by
 induction l generalizing i with
 |nil=>simp
 |cons a l ih=>cases i with
  |zero=>simp[pq]
  |succ i=>have:=ih i;simp only[tF,pq];omega
theorem ajG(l:List δ)(i:Nat)(h:i<l.length):δ.bC (l.take (i+1))=δ.bC (l.take i)+l[i].wt:=by
 induction l generalizing i with
 |nil=>simp at h
 |cons a l ih=>
  cases i with
  |zero=>simp[δ.bC]
  |succ i=>simp only[tF,δ.bC,pX,ih i (by simpa using h)];omega
theorem W2{ps:List ξ}{own:Nat}{L:bT}{x:δ}(h:dV ps own L x=0)(hk:x.kind=2\/x.kind=4\/x.kind=8):x.name≠[]:=by
 rw[qS]at h;have hn:fA L x.name=0:=by rcases hk with hk|hk|hk<;>simp[hk]at h<;>split at h<;>first|assumption|(rename_i hn;exact absurd h hn)
 have:=(Oc hn).1
 rintro he
 rw[he]at this;simp[df]at this
theorem f193(dE:τ)(mV:bm dE)(ps:List ξ)(dd:∀x∈ps,x.Ok)(dS:ps.length<1000000000000)(own:Nat)(l:List δ):
  ∀(cb:τ),bm cb->δ.cm l->∀(es:List cU) (L:bT) (b nb ck id:Nat) (m:Mem),m.ε[ck]?=some (.cells [.list dE (ps.map ξ.av),.n own,.n nb])->m.ε[id]?=some (.map (es.map bE))->fT es b nb L->b<nb->nb+δ.bC l<100000000000→
   ∃(eE:Nat) (eU:List cU),nb<=eE/\eE<=nb+δ.bC l∧
    kf u 193 [.κ ck 0,eJ id b,.list cb (δ.χ l)] m=some (.n (gb ps own l L),{ε:=bM m.ε ck id (.list dE (ps.map ξ.av)) (.n own) eE eU,η:=m.η}):=by
 refine δ.lists (P:=fun l=>∀(cb:τ),bm cb->δ.cm l->∀(es:List cU) (L:bT) (b nb ck id:Nat) (m:Mem),m.ε[ck]?=some (.cells [.list dE (ps.map ξ.av),.n own,.n nb])->m.ε[id]?=some (.map (es.map bE))->fT es b nb L->b<nb->nb+δ.bC l<100000000000→
   ∃(eE:Nat) (eU:List cU),nb<=eE/\eE<=nb+δ.bC l∧
    kf u 193 [.κ ck 0,eJ id b,.list cb (δ.χ l)] m=some (.n (gb ps own l L),{ε:=bM m.ε ck id (.list dE (ps.map ξ.av)) (.n own) eE eU,η:=m.η})) (fun l ih cb rz aj es L b nb ck id m dw hid hs hb hw=>?_) l
 have kW:=sF dw;have nN:=sF hid;have φ:ck≠id:=by rintro rfl;rw[dw]at hid;cases hid
 have wR:=δ.zM l;let M:Nat->List cU->List θ:=bM m.ε ck id (.list dE (ps.map ξ.av)) (.n own);have hM0:M nb es=m.ε:=by simp only[M,bM];rw[OZ dw,OZ hid]
 have NU:∀n e ext,(M n e++ext)[ck]?=some (.cells [.list dE (ps.map ξ.av),.n own,.n n]):=fun n e ext=>X9 kW nN φ ext;have NW:∀n e ext,(M n e++ext)[id]?=some (.map (e.map bE)):=fun n e ext=>X_ kW nN φ ext;have VD:∀n e ext (n':Nat),(M n e++ext).set ck (.cells [.list dE (ps.map ξ.av),.n own,.n n'])=M n' e++ext:=fun n e ext n'=>Yb kW nN φ ext n';have msi:∀n e ext e',(M n e++ext).set id (.map (e'.map bE))=M n e'++ext:=fun n e ext e'=>Yc kW nN φ ext e';have NZ:∀n e,(M n e).length=m.ε.length:=fun n e=>Ya;let Fin:St->Prop:=fun st=>∃eE eU ext,nb<=eE/\eE<=nb+δ.bC l/\st.mem= {ε:=M eE eU++ext,η:=[]};have dT:μ (C u).gl (ab (C u)) AD.code {env:=([]++[AV.κ ck 0,eJ id b,.list cb (δ.χ l)]++[]).map (exp m.ε.length false),loc:=[],mem:= {ε:=m.ε,η:=[]}} fun r=>
   (∀i,r.1≠ .exit i)/\Fin r.2/\br r.2.env 6= .n (gb ps own l L):=by
  have eG:([]++[AV.κ ck 0,eJ id b,.list cb (δ.χ l)]++[]).map (exp m.ε.length false)=[AV.κ ck 0,.agg [.map id,.n b],.list cb (δ.χ l)]:=by simp only[List.nil_append,dM,ax,aI,rp rz aj];simp only[eJ,exp,aX,kW,nN,if_true]
  rw[eG];simp only[AD,c193];let K:St->Prop:=fun st=>st.e 0= .κ ck 0/\st.e 4= .ak 4 0 0/\st.q 4=some (0,.cells [.map id,.n b]);refine Ψ (fun st=>K st/\st.e 2= .list cb (δ.χ l)/\st.mem= {ε:=m.ε,η:=[]}) (by simp[K,bJ]) fun s1 ⟨⟨h1,h2,h3⟩,h4,h5⟩=>?_;refine bS (fun st=>Fin st/\gb ps own l L=0) ?_ fun s2 ⟨⟨eE,eU,ext,h1,h2,h3⟩,h4⟩=>μ.fin (M:=fun st=>st.mem= {ε:=M eE eU++ext,η:=[]}/\st.e 6= .n 0) .ret (by simp[h3]) fun s' ⟨e1,e2⟩=>⟨by simp,⟨eE,eU,ext,h1,h2,e1⟩,by simp[e2,h4]⟩;let I:Nat->St->Prop:=fun i st=>K st/\st.e 15= .list cb (δ.χ l)/\st.e 16= .n l.length/\st.e 17= .n i/\∃(ie:Nat) (ei:List cU) (ext:List θ) (Li:bT),nb<=ie/\ie<=nb+δ.bC (l.take i)/\fT ei b ie Li/\st.mem= {ε:=M ie ei++ext,η:=[]}/\gb ps own (l.drop i) Li=gb ps own l L;refine Ψ (fun st=>K st/\st.e 15= .list cb (δ.χ l)/\st.e 16= .n l.length/\st.e 17= .n 0/\st.mem= {ε:=m.ε,η:=[]}) (by simp[K,h1,h2,h3,h4,h5,uF]) fun s4 ⟨a1,a2,a3,a4,a5⟩=>?_;have hI:I 0 s4:=⟨a1,a2,a3,a4,nb,es,[],L,b_ _,by simp[δ.bC],hs,by rw[a5,dM,hM0],rfl⟩;refine μ.block (μ.upto (I:=I) l.length hI (fun i st ψ Ω=>?_) (fun st Ω=>?_))
  ·obtain⟨⟨h1,h2,h3⟩,q1,q2,q3,ie,ei,ext,Li,pJ,mX,HN,Γ,ek⟩:=Ω;have mE:bN .i64 ((i:Int)+1)=(i:Int)+1:=wrap_i64 (by omega) (by omega);have hg:=I7 l i ψ;have hm:l[i]∈l:=db ψ;have rI:=δ.gK aj _ hm;have w8:=ih _ hm;have DK:=ajG l i ψ;have wZ:=ajH l (i+1);rw[oc ψ]at ek;generalize l[i]=y at*;have hu:gb ps own (y::l.drop (i+1)) Li=if dV ps own Li y≠0 then dV ps own Li y else if kX ps own y Li≠0 then kX ps own y Li else gb ps own (l.drop (i+1)) (after Li y.kind y.name):=rfl;rw[hu]at ek;have CB:=f232 (u:=u) (B:=M ie ei) dE mV ps dd dS own b ie ei Li (by simpa using NU ie ei []) (by simpa using NW ie ei []) HN y rI (by omega) ext [];have rm:=fun m=>f108 (u:=u) y rI m;have k0:=cell0 y;have k2:=oq y;have kt:=Rg y;have kl:=δ.ll y;simp only[δ.av,eJ]at hg CB rm;let J:St->Prop:=fun st=>K st/\st.e 15= .list cb (δ.χ l)/\st.e 16= .n l.length/\st.e 17= .n i;let J2:St->Prop:=fun st=>J st/\∃v,st.e 8= .ak 8 v 0/\st.q 8=some (v,.cells y.cells);let MM:Nat->List cU->List θ->St->Prop:=fun n e x st=>st.mem= {ε:=M n e++x,η:=[]};refine Ψ (fun st=>J st/\MM ie ei ext st/\st.e 18= .bool true) (by simp[J,K,MM,h1,h2,h3,q1,q2,q3,Γ,ψ]) fun s5 ⟨⟨⟨h1,h2,h3⟩,q1,q2,q3⟩,Γ,q4⟩=>?_;refine Ψ (fun st=>J st/\MM ie ei ext st) (by simp only[MM]at Γ;simp[J,K,MM,h1,h2,h3,q1,q2,q3,q4,Γ]) fun s5 ⟨⟨⟨h1,h2,h3⟩,q1,q2,q3⟩,Γ⟩=>?_;refine bS (fun st=>J st/\∃(n2:Nat) (e2:List cU) (x2:List θ),nb<=n2/\n2<=nb+δ.bC (l.take (i+1))/\fT e2 b n2 (after Li y.kind y.name)/\MM n2 e2 x2 st/\gb ps own (l.drop (i+1)) (after Li y.kind y.name)=gb ps own l L) ?_ fun s6 ⟨⟨⟨h1,h2,h3⟩,q1,q2,q3⟩,n2,e2,x2,a1,a2,a3,a4,a5⟩=>by simp only[MM]at a4;exact μ.fin (M:=fun st=>K st/\st.e 15= .list cb (δ.χ l)/\st.e 16= .n l.length/\st.e 17= .n ((i:Int)+1)/\MM n2 e2 x2 st) .normal (by simp[K,MM,h1,h2,h3,q1,q2,q3,mE,a4]) fun s' ⟨b1,b2,b3,b4,b5⟩=> .inl ⟨rfl,b1,b2,b3,b4,n2,e2,x2,_,a1,a2,a3,b5,a5⟩
   refine μ.block ?_;refine Ψ (fun st=>J2 st/\MM ie ei ext st) (by simp only[MM]at Γ;simp[J2,J,K,MM,h1,h2,h3,q1,q2,q3,Γ,ψ,hg,kl,kt,uF]) fun s5 ⟨⟨⟨⟨h1,h2,h3⟩,q1,q2,q3⟩,v,q4,q5⟩,Γ⟩=>?_;simp only[MM]at Γ;by_cases ud:dV ps own Li y=0
   case neg=>
    rw[if_pos ud]at ek
    rw[ek]at ud CB;refine bS (fun _=>False) ?_ fun _ h=>h.elim;refine μ.fin (M:=fun st=>MM ie ei ext st/\st.e 6= .n (gb ps own l L)) .ret (by simp[MM,h1,h2,h3,q1,q2,q3,q4,q5,Γ,kl,kt,CB,bne_true ud,ud]) fun s' ⟨b1,b2⟩=>?_;have hf:Fin s':=⟨ie,ei,ext,pJ,by omega,b1⟩;simp[hf,b2]
   rw[if_neg (by simpa using ud)]at ek;rw[ud]at CB;refine Ψ (fun st=>J2 st/\MM ie ei ext st) (by simp[J2,J,K,MM,h1,h2,h3,q1,q2,q3,q4,q5,Γ,kl,kt,CB]) fun s5 ⟨⟨⟨⟨h1,h2,h3⟩,q1,q2,q3⟩,v,q4,q5⟩,Γ⟩=>?_;simp only[MM]at Γ;refine Ψ (fun st=>J2 st/\MM ie ei ext st/\st.e 10= .str []/\∃v,st.e 11= .ak 11 v 0/\st.q 11=some (v,.cells [.n 0,.n 0])) (by simp[J2,J,K,MM,h1,h2,h3,q1,q2,q3,q4,q5,Γ,dG]) fun s5 ⟨⟨⟨⟨h1,h2,h3⟩,q1,q2,q3⟩,v,q4,q5⟩,Γ,q6,v2,q7,q8⟩=>?_;simp only[MM]at Γ;let Nw:List Nat->Int->Int->Prop:=fun qG w0 d0=>∀cd:Nat,ie<=cd->fT (if qG=[]then ei else jh ei qG w0 d0) cd ((cd+1:Nat):Int) (inside Li y.kind y.name);have qm:∀cd:Nat,ie<=cd->fT ei cd ((cd+1:Nat):Int) Li.inner:=fun cd hj=>by have:=(HN.mono (show(ie:Int)<=(cd:Int) by omega)).inner;simpa using this
   obtain⟨qG,w0,d0,sJ,abZ⟩:∃qG w0 d0,Nw qG w0 d0/\((y.kind=4/\qG=y.name/\w0=1/\d0= -2)\/(y.kind=8/\qG=y.name/\w0=3/\d0=0)\/(y.kind≠4/\y.kind≠8/\qG=[]/\w0=0/\d0=0)):=by
    by_cases lr:y.kind=4
    ·have wS:=W2 ud (by omega);refine⟨y.name,1,-2,fun cd hj=>?_,.inl ⟨lr,rfl,rfl,rfl⟩⟩;have:=(qm cd hj).put y.name 1 (-2) (by decide) (by omega);have hr:decide ((-2:Int)=(cd:Int))=false:=by simp
     simpa[inside,lr,wS,jY,hr]using this
    ·by_cases ru:y.kind=8
     ·have wS:=W2 ud (by omega);refine⟨y.name,3,0,fun cd hj=>?_,.inr (.inl ⟨ru,rfl,rfl,rfl⟩)⟩;have:=(qm cd hj).put y.name 3 0 (by decide) (by omega);simpa[inside,ru,wS,jY]using this
     ·refine⟨[],0,0,fun cd hj=>?_,.inr (.inr ⟨lr,ru,rfl,rfl,rfl⟩)⟩;simpa[inside,lr,ru]using qm cd hj
   refine Ψ (fun st=>J2 st/\MM ie ei ext st/\st.e 10= .str qG/\∃v,st.e 11= .ak 11 v 0/\st.q 11=some (v,.cells [.n w0,.n d0])) (by
    rcases abZ with⟨lr,rfl,rfl,rfl⟩|⟨ru,rfl,rfl,rfl⟩|⟨lr,ru,rfl,rfl,rfl⟩
    ·simp[J2,J,K,MM,h1,h2,h3,q1,q2,q3,q4,q5,q6,q7,q8,Γ,kl,k0,k2,lr,dG]
    ·simp[J2,J,K,MM,h1,h2,h3,q1,q2,q3,q4,q5,q6,q7,q8,Γ,kl,k0,k2,ru,dG]
    ·simp[J2,J,K,MM,h1,h2,h3,q1,q2,q3,q4,q5,q6,q7,q8,Γ,kl,k0,eK lr,eK ru]) fun s5 ⟨⟨⟨⟨h1,h2,h3⟩,q1,q2,q3⟩,v,q4,q5⟩,Γ,q6,v2,q7,q8⟩=>?_
   simp only[MM]at Γ;let E:τ×List δ->Int:=fun p=>gb ps own p.2 (inside Li y.kind y.name);rw[ace]at ek;have ajV:=Yv y;refine bS (fun st=>J2 st/\first E y.blocks=0/\∃(cd:Nat) (xj:List θ),ie<=cd/\cd<=ie+y.wt/\MM cd ei xj st) ?_ fun s6 ⟨⟨⟨⟨h1,h2,h3⟩,q1,q2,q3⟩,v,q4,q5⟩,hz,cd,xj,a1,a2,Γ⟩=>?_
   ·let J3:St->Prop:=fun st=>J2 st/\st.e 10= .str qG/\(∃v,st.e 11= .ak 11 v 0/\st.q 11=some (v,.cells [.n w0,.n d0]))/\st.e 42=iG y/\st.e 43= .n y.blocks.length;let I2:Nat->St->Prop:=fun j st=>J3 st/\st.e 44= .n j/\(∀k (hk:k<y.blocks.length),k<j->E y.blocks[k]=0)/\∃(cd:Nat) (xj:List θ),ie<=cd/\cd<=ie+pq (y.blocks.take j)/\MM cd ei xj st;have ajU:y.blocks.length<=2:=by unfold δ.blocks;split<;>(try split)<;>simp
    refine Ψ (fun st=>J3 st/\st.e 44= .n 0/\MM ie ei ext st) (by
     simp only[iG]at rm
     simp[J3,J2,J,K,MM,h1,h2,h3,q1,q2,q3,q4,q5,q6,q7,q8,Γ,kl,kt,rm,iG]) fun s6 ⟨d1,d2,d3⟩=>?_
    have hI:I2 0 s6:=⟨d1,d2,fun k _ hk=>absurd hk (by omega),ie,ext,b_ _,by simp[pq],d3⟩;refine μ.block (μ.upto (I:=I2) y.blocks.length hI (fun j st fG Ω=>?_) (fun st Ω=>?_))
    ·obtain⟨⟨⟨⟨⟨h1,h2,h3⟩,q1,q2,q3⟩,v,q4,q5⟩,q6,⟨v2,q7,q8⟩,z1,z2⟩,z3,z4,cd,xj,a1,a2,Γ⟩:=Ω;simp only[MM]at Γ;have rM:bN .i64 ((j:Int)+1)=(j:Int)+1:=wrap_i64 (by omega) (by omega);have C2:=Yw y.blocks j fG;have yr:=Yx y.blocks (j+1);have HJ:=db fG;have u_:=E9 rI HJ;have CC:=f233 (u:=u) (b:=b) {ε:=M cd ei++xj,η:=[]} (NU cd ei xj) (NW cd ei xj) qG w0 d0 (by omega);have DD:=sJ cd a1;generalize L7:(if qG=[]then ei else jh ei qG w0 d0)=x8 at*;have abG:(M cd ei++xj).set ck (.cells [.list dE (ps.map ξ.av),.n own,.n (cd+1:Nat)])++[.map (x8.map bE)]=M (cd+1) ei++(xj++[.map (x8.map bE)]):=by rw[VD,bQ]
     rw[abG]at CC;have AY:(M cd ei++xj).length=(M (cd+1) ei++xj).length:=by simp[NZ]
     rw[AY]at CC;have MB:cd+1+δ.bC (y.blocks[j]).2<100000000000:=by omega
     have abX:∃(eE:Nat) (eU:List cU),cd+1<=eE/\eE<=cd+1+δ.bC (y.blocks[j]).2∧
       kf u 193 [.κ ck 0,eJ (M (cd+1) ei++xj).length cd,.list (y.blocks[j]).1 (δ.χ (y.blocks[j]).2)] {ε:=M (cd+1) ei++(xj++[.map (x8.map bE)]),η:=[]}=some (.n (E y.blocks[j]),{ε:=M eE ei++(xj++[.map (eU.map bE)]),η:=[]}):=by
      have go:∀c l',bm c->δ.cm l'->cd+1+δ.bC l'<100000000000->(∀(cb:τ),bm cb->δ.cm l'->∀(es:List cU) (L:bT) (b nb ck id:Nat) (m:Mem),m.ε[ck]?=some (.cells [.list dE (ps.map ξ.av),.n own,.n nb])->m.ε[id]?=some (.map (es.map bE))->fT es b nb L->b<nb->nb+δ.bC l'<100000000000→
        ∃(eE:Nat) (eU:List cU),nb<=eE/\eE<=nb+δ.bC l'/\kf u 193 [.κ ck 0,eJ id b,.list cb (δ.χ l')] m=some (.n (gb ps own l' L),{ε:=bM m.ε ck id (.list dE (ps.map ξ.av)) (.n own) eE eU,η:=m.η}))→
        ∃(eE:Nat) (eU:List cU),cd+1<=eE/\eE<=cd+1+δ.bC l'/\kf u 193 [.κ ck 0,eJ (M (cd+1) ei++xj).length cd,.list c (δ.χ l')] {ε:=M (cd+1) ei++(xj++[.map (x8.map bE)]),η:=[]}=some (.n (gb ps own l' (inside Li y.kind y.name)),{ε:=M eE ei++(xj++[.map (eU.map bE)]),η:=[]}):=by
       intro c l' hc fO hwl hP;obtain⟨eE,eU,p1,p2,p3⟩:=hP c hc fO x8 _ cd (cd+1) ck (M (cd+1) ei++xj).length {ε:=M (cd+1) ei++(xj++[.map (x8.map bE)]),η:=[]} (NU _ _ _) (by rw[<-bQ];simp) DD (by omega) (by omega);refine⟨eE,eU,p1,p2,?_⟩;rw[p3];have:bM (M (cd+1) ei++(xj++[.map (x8.map bE)])) ck (M (cd+1) ei++xj).length (.list dE (ps.map ξ.av)) (.n own) eE eU=M eE ei++(xj++[.map (eU.map bE)]):=by
        have hX:(M eE ei++xj).length=(M (cd+1) ei++xj).length:=by simp[NZ]
        rw[bM,VD,<-bQ,<-hX,xI _ _ (b_ _),bQ];simp
       simp only[this]
      rcases E_ HJ with he|he<;>rw[he]at u_ MB⊢<;>simp only[E]
      ·exact go _ _ u_.1 u_.2.1 MB w8.1
      ·exact go _ _ u_.1 u_.2.1 MB w8.2
     obtain⟨D7,KU,p1,p2,p3⟩:=abX;simp only[eJ]at CC p3;generalize(M (cd+1) ei++xj).length=ln at*;simp only[iG,fp]at z1;refine Ψ (fun st=>J3 st/\st.e 44= .n j/\MM cd ei xj st/\st.e 45= .bool true) (by simp[J3,J2,J,K,MM,h1,h2,h3,q1,q2,q3,q4,q5,q6,q7,q8,z1,z2,z3,Γ,fG,iG,fp]) fun s7 ⟨⟨⟨⟨⟨h1,h2,h3⟩,q1,q2,q3⟩,v,q4,q5⟩,q6,⟨v2,q7,q8⟩,z1,z2⟩,z3,Γ,z5⟩=>?_;simp only[MM]at Γ;refine Ψ (fun st=>J3 st/\st.e 44= .n j/\MM cd ei xj st) (by simp[J3,J2,J,K,MM,h1,h2,h3,q1,q2,q3,q4,q5,q6,q7,q8,z1,z2,z3,z5,Γ]) fun s7 ⟨⟨⟨⟨⟨h1,h2,h3⟩,q1,q2,q3⟩,v,q4,q5⟩,q6,⟨v2,q7,q8⟩,z1,z2⟩,z3,Γ⟩=>?_;simp only[MM]at Γ;simp only[iG,fp]at z1;by_cases yz:E y.blocks[j]=0
     ·rw[yz]at p3;refine Ψ (fun st=>J3 st/\st.e 44= .n j/\MM D7 ei (xj++[.map (KU.map bE)]) st) (by simp[J3,J2,J,K,MM,h1,h2,h3,q1,q2,q3,q4,q5,q6,q7,q8,z1,z2,z3,Γ,fG,iG,fp,CC,p3]) fun s7 ⟨⟨⟨⟨⟨h1,h2,h3⟩,q1,q2,q3⟩,v,q4,q5⟩,q6,⟨v2,q7,q8⟩,z1,z2⟩,z3,Γ⟩=>?_;simp only[MM]at Γ;have z6:=Cf (P:=fun k=>∀hk:k<y.blocks.length,E y.blocks[k]=0) (n:=y.blocks.length) (fun k a b c=>z4 k c b) (fun _=>yz);exact μ.fin (M:=fun st=>J3 st/\st.e 44= .n ((j:Int)+1)/\MM D7 ei (xj++[.map (KU.map bE)]) st) .normal (by simp[J3,J2,J,K,MM,h1,h2,h3,q1,q2,q3,q4,q5,q6,q7,q8,z1,z2,z3,Γ,rM]) fun s' ⟨d1,d2,d3⟩=> .inl ⟨rfl,d1,d2,fun k hk vh=>z6 k hk vh hk,D7,_,by omega,by omega,d3⟩
     ·have rC:=K_ fG z4 yz;have Tt:=ek;rw[if_pos (show first E y.blocks≠0 by rw[rC];exact yz)]at Tt;have C1:E y.blocks[j]=gb ps own l L:=rC.symm.trans Tt;rw[C1]at yz p3;refine bS (fun _=>False) ?_ fun _ h=>h.elim;refine μ.fin (M:=fun st=>MM D7 ei (xj++[.map (KU.map bE)]) st/\st.e 6= .n (gb ps own l L)) .ret (by simp[MM,h1,h2,h3,q1,q2,q3,q4,q5,q6,q7,q8,z1,z2,z3,Γ,fG,fp,CC,p3,bne_true yz,yz]) fun s' ⟨b1,b2⟩=>?_;have hf:Fin s':=⟨D7,ei,_,by omega,by omega,b1⟩;simp[hf,b2]
    ·obtain⟨⟨⟨⟨⟨h1,h2,h3⟩,q1,q2,q3⟩,v,q4,q5⟩,q6,⟨v2,q7,q8⟩,z1,z2⟩,z3,z4,cd,xj,a1,a2,Γ⟩:=Ω;simp only[MM]at Γ;rw[pa]at a2;have hz:=FJ (f:=E) fun k hk=>z4 k hk hk;refine μ.fin (M:=fun st=>J2 st/\MM cd ei xj st) (.exit 3) (by simp[J2,J,K,MM,U9,h1,h2,h3,q1,q2,q3,q4,q5,z1,z2,z3,Γ]) fun s' ⟨d1,d2⟩=>?_;exact⟨by simp,.inl ⟨rfl,.inl ⟨rfl,d1,hz,cd,xj,a1,by omega,d2⟩⟩⟩
   ·simp only[MM]at Γ;rw[if_neg (show¬first E y.blocks≠0 by simpa using hz)]at ek;have HO:=HN.mono (show(ie:Int)<=(cd:Int) by omega);have m1:=NW cd ei xj;have m2:=msi cd ei xj;by_cases gy:y.kind=2
    ·refine μ.fin (M:=fun st=>J st/\MM cd (jh ei y.name 1 b) xj st) .normal (by simp[J,K,MM,h1,h2,h3,q1,q2,q3,q4,q5,Γ,kl,k0,k2,gy,dG,m1,m2,isKey,plain,rY,Iv,Mem.put]) fun s' ⟨d1,d2⟩=>?_;have hl:fT (jh ei y.name 1 b) b cd (after Li y.kind y.name):=by have:=HO.put y.name 1 b (by decide) (by omega);simpa[after,gy,jY]using this
     simp;exact⟨d1,cd,by omega,by omega,_,hl,⟨xj,d2⟩,ek⟩
    by_cases rE:y.kind=3
    ·refine μ.fin (M:=fun st=>J st/\MM cd (nA ei y.name) xj st) .normal (by simp[J,K,MM,h1,h2,h3,q1,q2,q3,q4,q5,Γ,kl,k0,k2,rE,dG,m1,m2,isKey,afb,Mem.put]) fun s' ⟨d1,d2⟩=>?_;have hl:fT (nA ei y.name) b cd (after Li y.kind y.name):=by have:=HO.del y.name;simpa[after,rE]using this
     simp;exact⟨d1,cd,by omega,by omega,_,hl,⟨xj,d2⟩,ek⟩
    by_cases pG:y.kind=5
    ·refine μ.fin (M:=fun st=>J st/\MM cd (jh ei y.name 2 0) xj st) .normal (by simp[J,K,MM,h1,h2,h3,q1,q2,q3,q4,q5,Γ,kl,k0,k2,pG,dG,m1,m2,isKey,plain,rY,Iv,Mem.put]) fun s' ⟨d1,d2⟩=>?_;have hl:fT (jh ei y.name 2 0) b cd (after Li y.kind y.name):=by have:=HO.put y.name 2 0 (by decide) (by omega);simpa[after,pG,jY]using this
     simp;exact⟨d1,cd,by omega,by omega,_,hl,⟨xj,d2⟩,ek⟩
    ·refine μ.fin (M:=fun st=>J st/\MM cd (ei) xj st) .normal (by simp[J,K,MM,h1,h2,h3,q1,q2,q3,q4,q5,Γ,kl,k0,k2,eK gy,eK rE,eK pG]) fun s' ⟨d1,d2⟩=>?_;have hl:fT (ei) b cd (after Li y.kind y.name):=by simpa[after,gy,rE,pG]using HO
     simp;exact⟨d1,cd,by omega,by omega,_,hl,⟨xj,d2⟩,ek⟩
  ·obtain⟨⟨h1,h2,h3⟩,q1,q2,q3,ie,ei,ext,Li,pJ,mX,HN,Γ,ek⟩:=Ω;rw[pa]at mX;rw[akz]at ek;have hz:gb ps own l L=0:=ek.symm;refine μ.fin (M:=fun st=>st.mem= {ε:=M ie ei++ext,η:=[]}) (.exit 0) (by simp[U_,h1,h2,h3,q1,q2,q3,Γ]) fun s' d1=>?_;have hf:Fin s':=⟨ie,ei,ext,pJ,mX,d1⟩;simp[hf,hz]
 obtain⟨r,r1,r2,⟨eE,eU,ext,r3,r4,r5⟩,r6⟩:=dT;exact⟨eE,eU,r3,r4,ku (g:=AD) rfl rfl rfl (NZ eE eU) ⟨r,r1,r2,⟨ext,r5⟩,[_],by simp[AD];exact r6,by simp⟩⟩
theorem xV{c:τ}(h:bm c)(n:Nat):c.lo n=true:=by rcases h with rfl|rfl<;>rfl
theorem ζ.Ii(n:Nat)(x:ζ):x.Ok->lo n x.av=true:=by
 refine ζ.jd (Q:=fun x=>x.Ok->lo n x.av=true) (fun k nn s c l ih h=>?_) x;simp only[ζ.Ok]at h;have:bn n (ζ.χ l)=true:=by rw[m_,ζ.dW,o8,dL];exact fun y hy=>ih y hy (ζ.gK h.2 y hy)
 simp[ζ.av,lo,bn,xV h.1,this]
theorem ρ.Ii(n:Nat)(p:ρ)(h:p.Ok):lo n p.av=true:=by
 have:bn n (p.ix.map ζ.av)=true:=by rw[m_,o8,dL];exact fun y hy=>ζ.Ii n y (h.2.2 y hy).1
 simp[ρ.av,lo,bn,xV h.2.1,this]
theorem ae9(n:Nat)(a b:List AV):bn n (a++b)=(bn n a&&bn n b):=by simp[m_]
theorem δ.NQ(n:Nat)(x:δ):x.Ok->bn n x.cells=true:=by
 refine δ.jd (Q:=fun x=>x.Ok->bn n x.cells=true) (fun kk g nm cp pl size to cb body ce els h1 h2 h=>?_) x;simp only[δ.Ok]at h;obtain⟨-,k1,k2,k3,k4,k5,k6,k7,k8⟩:=h;have e1:bn n (pl.map ρ.av)=true:=by rw[m_,o8,dL];exact fun p hp=>ρ.Ii n p (k2 p hp)
 have e2:∀y:ζ,y.Ok->bn n y.four=true:=fun y hy=>by have:=ζ.Ii n y hy;rwa[ζ.fm,lo]at this
 have go:∀l:List δ,δ.cm l->(∀y∈l,y.Ok->bn n y.cells=true)->bn n (δ.χ l)=true:=by intro l hl hy;rw[m_,δ.dW,o8,dL];exact fun y hm=>by simp only[Function.comp,δ.av,lo];exact hy y hm (δ.gK hl y hm)
 simp[δ.cells,ae9,bn,lo,xV k1,xV k5,xV k7,e1,e2 _ k3.1,e2 _ k4.1,go body k6 h1,go els k8 h2]
theorem δ.aeZ(n:Nat)(l:List δ)(h:δ.cm l):bn n (δ.χ l)=true:=by rw[m_,δ.dW,o8,dL];exact fun y hm=>by simp only[Function.comp,δ.av,lo];exact δ.NQ n y (δ.gK h y hm)
theorem agI(n:Nat)(l:List ai):bn n (l.map ai.av)=true:=by rw[m_,o8,dL];exact fun y hm=>rfl
theorem JK(gl:Nat->AV)(cv:cg)(l:List aN):∀s:St,(eF gl cv l s).bind List.getLast?=ef gl cv l s:=by
 induction l with
 |nil=>intro s;rfl
 |cons o l ih=>
  intro s
  simp only[eF,ef];cases h:dR gl cv o s with
  |none=>rfl
  |some s'=>
   have:=ih s'
   simp only;cases hs:eF gl cv l s' with
   |none=>rw[hs]at this;simpa using this
   |some tr=>
    rw[hs]at this
    simp only[Option.bind_some,Option.map_some]at this⊢;rw[<-this];cases tr with
    |nil=>
     exfalso
     cases l with
     |nil=>simp[eF]at hs
     |cons o' l'=>
      simp only[eF]at hs
      split at hs
      ·rw[Option.map_eq_some_iff]at hs;obtain⟨_,_,hs⟩:=hs;cases hs
      ·cases hs
    |cons a tr=>rw[List.getLast?_cons_cons]
theorem JG(gl:Nat->AV)(cv:cg)(l:List aN)(s:St):ff gl cv l [] [] s=ef gl cv l s:=by rw[<-JK];simp only[ff];cases eF gl cv l s<;>rfl
theorem Ku{c:τ}(h:bm c)(b:Prop)[Decidable b]:(if c= .nil then τ.nil else if c= .full/\b then .full else .any)=c:=by rcases h with rfl|rfl<;>simp
theorem agF(x:ai)(l:List ai)(L:bT):qJ (x::l) L=if df x.name=false then 4 else if x.size<1\/12<x.size then 3 else if L x.name≠ .none then 5 else qJ l (L.put x.name (.j_ false)):=rfl
theorem f126(dE:τ)(mV:bm dE)(ps:List ξ)(dd:∀x∈ps,x.Ok)(cI:gC ps<10000000000)(k:Nat)(hk:k<ps.length)(ck:Nat)(m:Mem)(dw:m.ε[ck]?=some (.cells [.list dE (ps.map ξ.av),.n k,.n 0])):
  ∃nb:Nat,kf u 126 [.κ ck 0] m=some (.n (rZ ps k ps[k]),{ε:=m.ε.set ck (.cells [.list dE (ps.map ξ.av),.n k,.n nb]),η:=m.η}):=by
 have kW:=sF dw;have hlen:=We ps;have hm:ps[k]∈ps:=db hk;have aj:=dd _ hm;have nT:=ξ.kP hm;simp only[ξ.wt]at nT;have eI:∀M:Mem,M.ν=ν:=fun _=>rfl;have vl:cG (ps[k].au.map ai.av)=ps[k].au.map ai.av:=by rw[fH,cT];exact dh fun _ _=>rfl
 have vk:cG (δ.χ ps[k].body)=δ.χ ps[k].body:=by rw[fH,δ.dW,cT];exact dh fun y _=>by simp only[Function.comp,δ.av,ν,δ.zk]
 have jU:(ps.map ξ.av).all (fun e=>decide (e.cells.length=3))=true:=by simp[ξ.av]
 have Uo:∀p∈ps.take k,p.Ok:=fun p hp=>dd p (List.mem_of_mem_take hp);generalize DL:ps[k]=x at*;let xc:List AV:=[.str x.name,.list x.cp (x.au.map ai.av),.list x.cb (δ.χ x.body)];let B1:List θ:=m.ε++[.cells xc];let rk:Nat->θ:=fun n=> .cells [.list dE (ps.map ξ.av),.n k,.n n];have d0:∀ext,(B1++ext)[ck]?=some (rk 0):=fun ext=>by simp only[B1,bQ];rw[d_ kW];exact dw
 have d1:∀ext,(B1++ext)[m.ε.length]?=some (.cells xc):=fun ext=>by simp[B1]
 have He:B1.length=m.ε.length+1:=by simp[B1]
 let Fin:St->Prop:=fun st=>∃(nb:Nat) (ext:List θ),st.mem= {ε:=m.ε.set ck (rk nb)++ext,η:=[]};have wm:∀{st:St} {ext:List θ},st.mem= {ε:=B1++ext,η:=[]}->Fin st:=fun{st ext} h=>⟨0,[.cells xc]++ext,by rw[h,OZ (x:=rk 0) dw];simp[B1]⟩;have dT:μ (C u).gl (ab (C u)) Az.code {env:=([]++[AV.κ ck 0]++[]).map (exp m.ε.length false),loc:=[],mem:= {ε:=m.ε,η:=[]}} fun r=>
   (∀i,r.1≠ .exit i)/\Fin r.2/\br r.2.env 2= .n (rZ ps k x):=by
  have eG:([]++[AV.κ ck 0]++[]).map (exp m.ε.length false)=[AV.κ ck 0]:=by simp[exp,kW]
  rw[eG];simp only[Az,Qa];let K:St->Prop:=fun st=>st.e 0= .κ ck 0/\st.e 3= .κ m.ε.length 0;let MM:List θ->St->Prop:=fun ext st=>st.mem= {ε:=B1++ext,η:=[]};refine Ψ (fun st=>st.e 0= .κ ck 0/\st.mem= {ε:=m.ε,η:=[]}) (by simp) fun s1 ⟨h1,h2⟩=>?_;have aa5:(m.ε++[θ.cells [AV.str [],AV.list τ.nil [],AV.list τ.nil []]])[ck]?=some (.cells [.list dE (ps.map ξ.av),.n k,.n 0]):=by rw[d_ kW];exact dw
  refine Ψ (fun st=>K st/\MM [] st) (by simp[K,MM,B1,xc,h1,h2,dw,aa5,hk,DL,ξ.av,c7,uV,de,fL,AV.gO,AV.beq,AV.kC,Mem.push,Mem.put,eI,ν,cG,vl,vk,bn,lo,xV aj.2.1,xV aj.2.2.2.1,agI,δ.aeZ _ _ aj.2.2.2.2.1]) fun s1 ⟨⟨h1,h2⟩,h3⟩=>?_;simp only[MM,dM]at h3;have Fs:=d0 [];have d10:=d1 [];simp only[dM,rk,xc]at Fs d10;have rn:=fun m=>f113 (u:=u) x.name aj.1 m;have sP:Fix B1.length (.fn (.func 190) [] [.κ m.ε.length 0]):=by
   intro kk bb eC;have:m.ε.length<kk:=by omega
   simp[exp,aX,Fn.below,this]
  let S1:St->Prop:=fun st=>K st/\MM [] st;have akb:¬4<x.au.length->¬(4:Int)<(x.au.length:Int):=fun h=>by omega
  have Am:=fun c hc=>f189 (u:=u) (q:=fun p=>p.name==x.name) sP c hc (ps.take k) Uo (by rw[List.length_take];omega) (fun p hp=>f190 x.name [.list x.cp (x.au.map ai.av),.list x.cb (δ.χ x.body)] (by simpa[xc]using d1 []) p (Uo p hp)) [] [];simp only[dM,List.map_take]at Am;unfold rZ;cases hn:df x.name with
  |false=>
   rw[hn]at rn
   refine bS (fun _=>False) ?_ fun _ h=>h.elim;refine μ.fin (M:=fun st=>MM [] st/\st.e 2= .n 4) .ret (by simp[MM,h1,h2,h3,d10,rn]) fun s' ⟨b1,b2⟩=>?_;have hf:Fin s':=wm b1;simp[hf,b2]
  |true=>
  rw[hn]at rn
  simp only[BR,if_false];have wO:(k:Int)<=(ps.length:Int):=by omega
  have wP:((k:Int)).toNat=k:=by omega
  by_cases HQ:((ps.take k).any fun p=>p.name==x.name)=true
  ·rw[if_pos HQ];refine bS (fun _=>False) ?_ fun _ h=>h.elim;refine μ.fin (M:=fun st=>MM [] st/\st.e 2= .n 5) .ret (by
    rw[HQ]at Am
    simp[-ff,-eF,JG,MM,h1,h2,h3,Fs,d10,rn,bound,wO,wP,ξ.av,Am _ mV,Ku mV]) fun s' ⟨b1,b2⟩=>?_
   have hf:Fin s':=wm b1;simp[hf,b2]
  rw[if_neg HQ];have ab9:((ps.take k).any fun p=>p.name==x.name)=false:=by simpa using HQ
  rw[ab9]at Am;by_cases HI:4<x.au.length
  ·rw[if_pos HI];have MK:(4:Int)<(x.au.length:Int):=by omega
   refine bS (fun _=>False) ?_ fun _ h=>h.elim;refine μ.fin (M:=fun st=>MM [] st/\st.e 2= .n 2) .ret (by simp[-ff,-eF,JG,MM,h1,h2,h3,Fs,d10,rn,bound,wO,wP,ξ.av,Am _ mV,Ku mV,MK]) fun s' ⟨b1,b2⟩=>?_;have hf:Fin s':=wm b1;simp[hf,b2]
  rw[if_neg HI];have MK:¬(4:Int)<(x.au.length:Int):=by omega
  refine Ψ (S1) (by simp[S1,K,-ff,-eF,JG,MM,h1,h2,h3,Fs,d10,rn,bound,wO,wP,ξ.av,Am _ mV,Ku mV,MK]) fun s1 ⟨⟨h1,h2⟩,h3⟩=>?_;simp only[MM,dM]at h3;let id:Nat:=m.ε.length+1;let S2:List cU->St->Prop:=fun es st=>K st/\(∃v,st.e 4= .ak 4 v 0/\st.q 4=some (v,.cells [.map id,.n 0]))/\MM [.map (es.map bE)] st;refine Ψ (S2 []) (by simp[S2,K,MM,h1,h2,h3,dG,Mem.push,He,id]) fun s1 ⟨⟨h1,h2⟩,⟨v,h4,h5⟩,h3⟩=>?_;simp only[MM]at h3;have hid:∀(es:List cU) ext,(B1++(θ.map (es.map bE)::ext))[id]?=some (.map (es.map bE)):=fun es ext=>by show(B1++(θ.map (es.map bE)::ext))[m.ε.length+1]?=_;rw[<-He];simp
  have lB:∀(es eU:List cU),(B1++[θ.map (es.map bE)]).set id (.map (eU.map bE))=B1++[.map (eU.map bE)]:=fun es eU=>by show(B1++[θ.map (es.map bE)]).set (m.ε.length+1) _=_;rw[<-He];simp
  refine bS (fun st=>qJ x.au oW=0/\∃es,fT es 0 1 (qK x.au oW)/\S2 es st) ?_ fun s1 ⟨hz,es,hs,⟨h1,h2⟩,⟨v,h4,h5⟩,h3⟩=>?_
  ·let I:Nat->St->Prop:=fun i st=>st.e 45= .list x.cp (x.au.map ai.av)/\st.e 46= .n x.au.length/\st.e 47= .n i/\∃es L',fT es 0 1 L'/\S2 es st/\qJ (x.au.drop i) L'=qJ x.au oW/\qK (x.au.drop i) L'=qK x.au oW;have xY:=d1 [.map []];simp only[xc]at xY;refine Ψ (fun st=>st.e 45= .list x.cp (x.au.map ai.av)/\st.e 46= .n x.au.length/\st.e 47= .n 0/\S2 [] st) (by simp[S2,K,MM,h1,h2,h3,h4,h5,xY]) fun s4 ⟨a1,a2,a3,a4⟩=>?_;refine μ.block (μ.loop (I:=I) x.au.length ⟨a1,a2,a3,[],oW,fT.empty 0 1,a4,rfl,rfl⟩ fun i st hi Ω=>?_);obtain⟨q1,q2,q3,es,L',sV,⟨⟨h1,h2⟩,⟨v,h4,h5⟩,h3⟩,q4,q5⟩:=Ω;simp only[MM]at h3;rcases di i x.au.length with fG|eH
   ·have mE:bN .i64 ((i:Int)+1)=(i:Int)+1:=wrap_i64 (by omega) (by omega);rw[oc fG]at q4 q5;rw[agF]at q4;simp only[qK]at q5;have abU:dB x.au[i].name:=aj.2.2.1 _ (db fG);have f191:=f191 (u:=u) (B:=B1++[.map (es.map bE)]) (by simpa using hid es []) sV x.au[i].name abU [] [];simp only[eJ,dM]at f191;have aj4:id<(B1++[θ.map (es.map bE)]).length:=by simp[He,id]
    by_cases vl:df x.au[i].name=false
    ·rw[if_pos vl]at q4;have φ:fA L' x.au[i].name=4:=by simp[fA,vl]
     rw[φ]at f191;right;have hx:∃s',exec (C u).gl (ab (C u)) dP rS st=some (.ret,s')/\MM [.map (es.map bE)] s'/\s'.e 2= .n 4:=by simp[MM,rS,h1,h2,h3,h4,h5,q1,q2,q3,fG,ai.av,f191]
     obtain⟨s',b0,b1,b2⟩:=hx;refine⟨_,b0,by simp,?_⟩;have hf:Fin s':=wm b1;simp[hf,b2,<-q4]
    rw[if_neg vl]at q4;have MH:df x.au[i].name=true:=by simpa using vl
    have Uh:fA L' x.au[i].name≠4:=by simp only[fA,MH,BR,if_false];split<;>decide
    by_cases aO:x.au[i].size<1\/12<x.au[i].size
    ·rw[if_pos aO]at q4;right;have hx:∃s',exec (C u).gl (ab (C u)) dP rS st=some (.ret,s')/\MM [.map (es.map bE)] s'/\s'.e 2= .n 3:=by
      rcases aO with aO|aO
      ·simp[MM,rS,h1,h2,h3,h4,h5,q1,q2,q3,fG,ai.av,f191,eK Uh,aO]
      ·have:¬x.au[i].size<1:=by omega
       simp[MM,rS,h1,h2,h3,h4,h5,q1,q2,q3,fG,ai.av,f191,eK Uh,aO,this]
     obtain⟨s',b0,b1,b2⟩:=hx;refine⟨_,b0,by simp,?_⟩;have hf:Fin s':=wm b1;simp[hf,b2,<-q4]
    rw[if_neg aO]at q4;have uc:¬x.au[i].size<1:=by omega
    have nR:¬12<x.au[i].size:=by omega
    by_cases AY:L' x.au[i].name= .none
    ·rw[if_neg (by simpa using AY)]at q4;have φ:fA L' x.au[i].name=0:=by simp[fA,MH,AY]
     rw[φ]at f191;left;refine⟨fG,?_⟩;have hx:∃s',exec (C u).gl (ab (C u)) dP rS st=some (.normal,s')/\S2 (jh es x.au[i].name 1 (-1)) s'/\s'.e 45= .list x.cp (x.au.map ai.av)/\s'.e 46= .n x.au.length/\s'.e 47= .n ((i:Int)+1):=by simp[S2,K,MM,rS,h1,h2,h3,h4,h5,q1,q2,q3,fG,ai.av,f191,uc,nR,mE,dG,hid,lB,isKey,plain,rY,Iv,Mem.put]
     obtain⟨s',b0,b1,b2,b3,b4⟩:=hx;have:=sV.put x.au[i].name 1 (-1) (by decide) (by omega);exact⟨s',b0,b2,b3,b4,_,_,by simpa[jY]using this,b1,q4,q5⟩
    ·rw[if_pos AY]at q4;have φ:fA L' x.au[i].name=5:=by simp[fA,MH,AY]
     rw[φ]at f191;right;have hx:∃s',exec (C u).gl (ab (C u)) dP rS st=some (.ret,s')/\MM [.map (es.map bE)] s'/\s'.e 2= .n 5:=by simp[MM,rS,h1,h2,h3,h4,h5,q1,q2,q3,fG,ai.av,f191,uc,nR]
     obtain⟨s',b0,b1,b2⟩:=hx;refine⟨_,b0,by simp,?_⟩;have hf:Fin s':=wm b1;simp[hf,b2,<-q4]
   ·right;have:i=x.au.length:=by omega
    subst this;rw[akz]at q4 q5;simp only[qJ]at q4;simp only[qK]at q5;have hx:∃s',exec (C u).gl (ab (C u)) dP rS st=some (.exit 1,s')/\S2 es s':=by simp[S2,K,MM,rS,h1,h2,h3,h4,h5,q1,q2,q3]
    obtain⟨s',b0,b1⟩:=hx;refine⟨_,b0,by simp,.inl ⟨rfl,.inl ⟨rfl,q4.symm,es,?_,b1⟩⟩⟩;rw[<-q5];exact sV
  simp only[MM]at h3;rw[hz];simp only[ne_eq,not_true_eq_false,if_false];have xY:=d1 [.map (es.map bE)];have Ro:=d0 [.map (es.map bE)];simp only[xc]at xY;simp only[rk]at Ro;have hcw:=δ.Kp x.body;have KF:=fun m=>f135 (u:=u) x.cb aj.2.2.2.1 x.body aj.2.2.2.2.1 (by omega) m;have RB:=fun m=>f192 (u:=u) x.body x.cb aj.2.2.2.1 aj.2.2.2.2.1 1 (by omega) (by omega) m;have hdp:lR (δ.du x.body) 1=δ.du x.body:=by unfold lR;split<;>omega
  rw[hdp]at RB;have RC:∀m,kf u 192 [.list x.cb (δ.χ x.body),.n 1] m=some (.n (δ.du x.body),m):=RB;by_cases hc:120<δ.bK x.body
  ·rw[if_pos hc];have gQ:(120:Int)<(δ.bK x.body:Int):=by omega
   refine bS (fun _=>False) ?_ fun _ h=>h.elim;refine μ.fin (M:=fun st=>MM [.map (es.map bE)] st/\st.e 2= .n 2) .ret (by simp[MM,h1,h2,h3,h4,h5,xY,KF,gQ]) fun s' ⟨b1,b2⟩=>?_;have hf:Fin s':=wm b1;simp[hf,b2]
  rw[if_neg hc];have ew:¬(120:Int)<(δ.bK x.body:Int):=by omega
  by_cases hd:6<δ.du x.body
  ·rw[if_pos hd];have kp:(6:Int)<(δ.du x.body:Int):=by omega
   refine bS (fun _=>False) ?_ fun _ h=>h.elim;refine μ.fin (M:=fun st=>MM [.map (es.map bE)] st/\st.e 2= .n 11) .ret (by simp[MM,h1,h2,h3,h4,h5,xY,KF,ew,RC,kp]) fun s' ⟨b1,b2⟩=>?_;have hf:Fin s':=wm b1;simp[hf,b2]
  rw[if_neg hd];have g_:¬(6:Int)<(δ.du x.body:Int):=by omega
  refine Ψ (S2 es) (by simp[S2,K,MM,h1,h2,h3,h4,h5,xY,KF,ew,RC,g_]) fun s1 ⟨⟨h1,h2⟩,⟨v,h4,h5⟩,h3⟩=>?_;simp only[MM]at h3;let B2:List θ:=m.ε.set ck (rk 1);have Hf:(B1++[θ.map (es.map bE)]).set ck (.cells [.list dE (ps.map ξ.av),.n k,.n 1])=B2++[.cells xc,.map (es.map bE)]:=by simp only[B1,bQ];rw[ns _ _ kW];rfl
  have CS:B2.length=m.ε.length:=by simp[B2]
  have aa6:(B2++[θ.cells xc,.map (es.map bE)])[ck]?=some (.cells [.list dE (ps.map ξ.av),.n k,.n (1:Nat)]):=by rw[d_ (by omega)];simp[B2,rk,kW]
  have abq:(B2++[θ.cells xc,.map (es.map bE)])[id]?=some (.map (es.map bE)):=by show(B2++[θ.cells xc,.map (es.map bE)])[m.ε.length+1]?=_;rw[<-CS];simp
  obtain⟨eE,eU,p1,p2,p3⟩:=f193 (u:=u) dE mV ps dd (by omega) k x.body x.cb aj.2.2.2.1 aj.2.2.2.2.1 es _ 0 1 ck id {ε:=B2++[.cells xc,.map (es.map bE)],η:=[]} aa6 abq hs (by omega) (by omega);have Hl:bM (B2++[θ.cells xc,.map (es.map bE)]) ck id (.list dE (ps.map ξ.av)) (.n k) eE eU=m.ε.set ck (rk eE)++[.cells xc,.map (eU.map bE)]:=by
   unfold bM;rw[ns _ _ (by omega)];have:B2.set ck (.cells [.list dE (ps.map ξ.av),.n k,.n eE])=m.ε.set ck (rk eE):=by simp[B2,rk]
   rw[this,xI _ _ (by simp[id])];simp[id]
  simp only[Hl,eJ]at p3;have p3':kf u 193 [.κ ck 0,.agg [.map id,.n 0],.list x.cb (δ.χ x.body)] {ε:=B2++[.cells xc,.map (es.map bE)],η:=[]}=some (.n (gb ps k x.body (qK x.au oW)),{ε:=m.ε.set ck (rk eE)++[.cells xc,.map (eU.map bE)],η:=[]}):=p3;refine Ψ (fun st=>K st/\(∃v,st.e 4= .ak 4 v 0/\st.q 4=some (v,.cells [.map id,.n 0]))/\st.mem= {ε:=B2++[.cells xc,.map (es.map bE)],η:=[]}) (by simp[K,h1,h2,h3,h4,h5,Ro,Hf,Mem.put,eI,ν,bn,lo]) fun s1 ⟨⟨h1,h2⟩,⟨v,h4,h5⟩,h3⟩=>?_;have ZI:(B2++[θ.cells xc,.map (es.map bE)])[m.ε.length]?=some (.cells [.str x.name,.list x.cp (x.au.map ai.av),.list x.cb (δ.χ x.body)]):=by rw[<-CS];simp[xc]
  refine μ.fin (M:=fun st=>st.mem= {ε:=m.ε.set ck (rk eE)++[.cells xc,.map (eU.map bE)],η:=[]}/\st.e 2= .n (gb ps k x.body (qK x.au oW))) .ret (by simp[h1,h2,h3,h4,h5,ZI,p3']) fun s' ⟨b1,b2⟩=>?_;have hf:Fin s':=⟨eE,_,b1⟩;simp[hf,b2]
 obtain⟨r,r1,r2,⟨nb,ext,r3⟩,r4⟩:=dT;exact⟨nb,ku (g:=Az) rfl rfl rfl (by simp) ⟨r,r1,r2,⟨ext,r3⟩,[_],by simp[Az];exact r4,by simp⟩⟩
theorem f43(dE:τ)(mV:bm dE)(ps:List ξ)(dd:∀x∈ps,x.Ok)(cI:gC ps<10000000000)(m:Mem):
  kf u 43 [ti dE ps] m=some (.n (mQ ps),m):=by
 refine dt (g:=G6) rfl rfl rfl ?_;simp only[ax,aI,RU mV dd];simp only[G6,QY];have hlen:=We ps;have eI:∀M:Mem,M.ν=ν:=fun _=>rfl;have vl:cG (ps.map ξ.av)=ps.map ξ.av:=by
  rw[fH,cT];refine dh fun p _=>?_;have h1:cG (p.au.map ai.av)=p.au.map ai.av:=by rw[fH,cT];exact dh fun _ _=>rfl
  have h2:cG (δ.χ p.body)=δ.χ p.body:=by rw[fH,δ.dW,cT];exact dh fun y _=>by simp only[Function.comp,δ.av,ν,δ.zk]
  simp only[Function.comp,ξ.av,ν,cG,h1,h2]
 simp only[ti]at*;let K:List θ->St->Prop:=fun ext st=>st.e 1= .ak 1 0 0/\st.q 1=some (0,.cells [.list dE (ps.map ξ.av)])/\st.mem= {ε:=m.ε++ext,η:=[]};refine Ψ (K []) (by simp[K,bJ]) fun s1 ⟨h1,h2,h3⟩=>?_;unfold mQ;by_cases ho:ps.length<1\/12<ps.length
 ·rw[if_pos ho];refine bS (fun _=>False) ?_ fun _ h=>h.elim;by_cases h0:ps.length<1
  ·have:(ps.length:Int)<1:=by omega
   simp[h1,h2,h3,this]
  ·have Lo:¬(ps.length:Int)<1:=by omega
   have Lp:(12:Int)<ps.length:=by omega
   simp[h1,h2,h3,Lo,Lp]
 rw[if_neg ho];have Lo:¬(ps.length:Int)<1:=by omega
 have Lp:¬(12:Int)<ps.length:=by omega
 refine Ψ (K []) (by simp[K,h1,h2,h3,Lo,Lp]) fun s1 ⟨h1,h2,h3⟩=>?_;refine bS (fun st=>(∃ext,K ext st)/\tm ps 0 ps=0) ?_ fun s2 ⟨⟨ext,h1,h2,h3⟩,h4⟩=>by simp[h3,h4]
 let I:Nat->St->Prop:=fun i st=>(∃ext,K ext st)/\st.e 17= .n ps.length/\st.e 18= .n i/\tm ps i (ps.drop i)=tm ps 0 ps;refine Ψ (fun st=>K [] st/\st.e 17= .n ps.length/\st.e 18= .n 0) (by simp[K,h1,h2,h3]) fun s4 ⟨a1,a2,a3⟩=>?_;refine μ.block (μ.loop (I:=I) ps.length ⟨⟨[],a1⟩,a2,a3,rfl⟩ fun i st hi Ω=>?_);obtain⟨⟨ext,h1,h2,h3⟩,q1,q2,q3⟩:=Ω;rcases di i ps.length with ψ|eH
 ·have mE:bN .i64 ((i:Int)+1)=(i:Int)+1:=wrap_i64 (by omega) (by omega);have sR:(m.ε++(ext++[θ.cells [.list dE (ps.map ξ.av),.n i,.n 0]]))[(m.ε++ext).length]?=some (.cells [.list dE (ps.map ξ.av),.n i,.n 0]):=by rw[<-bQ];simp
  obtain⟨nb,e⟩:=f126 (u:=u) dE mV ps dd cI i ψ (m.ε++ext).length {ε:=m.ε++(ext++[.cells [.list dE (ps.map ξ.av),.n i,.n 0]]),η:=[]} sR;have lB:(m.ε++(ext++[θ.cells [.list dE (ps.map ξ.av),.n i,.n 0]])).set (m.ε++ext).length (.cells [.list dE (ps.map ξ.av),.n i,.n nb])=m.ε++(ext++[.cells [.list dE (ps.map ξ.av),.n i,.n nb]]):=by rw[<-bQ,xI _ _ (b_ _)];simp
  simp only[lB,cX]at e;rw[oc ψ]at q3;simp only[tm]at q3;by_cases hz:rZ ps i ps[i]=0
  ·rw[if_neg (by simpa using hz)]at q3;rw[hz]at e;left;refine⟨ψ,?_⟩;have hx:∃s',exec (C u).gl (ab (C u)) dP Bj st=some (.normal,s')/\K (ext++[.cells [.list dE (ps.map ξ.av),.n i,.n nb]]) s'/\s'.e 17= .n ps.length/\s'.e 18= .n ((i:Int)+1):=by simp[K,Bj,h1,h2,h3,q1,q2,ψ,e,mE,dG,Mem.push,eI,ν,cG,vl]
   obtain⟨s',b1,b2,b3,b4⟩:=hx;exact⟨s',b1,⟨_,b2⟩,b3,b4,q3⟩
  ·rw[if_pos hz]at q3;rw[q3]at e hz;right;simp[Bj,h1,h2,h3,q1,q2,ψ,e,bne_true hz,dG,Mem.push,eI,ν,cG,vl]
 ·right;have:i=ps.length:=by omega
  subst this;rw[akz]at q3;simp only[tm]at q3;have hx:∃s',exec (C u).gl (ab (C u)) dP Bj st=some (.exit 0,s')/\K ext s':=by simp[K,Bj,h1,h2,h3,q1,q2]
  obtain⟨s',b1,b2⟩:=hx;refine⟨_,b1,by simp,?_⟩;left;exact⟨rfl,.inl ⟨rfl,⟨ext,b2⟩,q3.symm⟩⟩
def Cm{α:Type}(l:List α):τ:=match l with
 |[]=> .nil
 |_=> .any
def _root_.Go.Δ.ρ.copy(p:ρ):ρ:=⟨p.name,Cm p.ix,Kr p.ix⟩
mutual
def _root_.Go.Δ.δ.copy:δ->δ
 | .mk k g nm _ pl size to _ body _ els=> .mk k g nm (Cm pl) (pl.map ρ.copy) size.copy to.copy (Cm body) (I3 body) (Cm els) (I3 els)
def I3:List δ->List δ
 |[]=>[]
 |s::l=>s.copy::I3 l
end
def _root_.Go.Δ.ξ.copy(p:ξ):ξ:=⟨p.name,p.cp,p.au,Cm p.body,I3 p.body⟩
structure oe (n:Nat) (bs:List θ) (sz:Nat) (e:TypeId) (c:τ) (len:Nat):Prop where
 r:Row n bs sz e c len
 n:len=0->c= .nil
theorem oe.nil{n:Nat}{bs:List θ}{sz:Nat}{e:TypeId}:oe n bs sz e .nil 0:=⟨Row.nil,fun _=>rfl⟩
end Go.Δ.Tz
namespace Go.Δ
def paren(b:Bool)(s:List Nat):List Nat:=if b then 40::(s++[41])else s
def xl(k:Int):List Nat:=if k=3 then[32,43,32]else if k=4 then[32,45,32]else[32,42,32]
def gJ(k:Int):Bool:=decide (k=3)||decide (k=4)
def ζ.kind:ζ->Int
 | .mk k _ _ _ _=>k
def w_(k n:Int)(s:List Nat)(ks:List Int)(ts:List (List Nat)):List Nat:=
 if k=1 then gi n.toNat else if k=2 then s else
  match ks,ts with
  |[ka,kb],[ta,tb]=>paren (decide (k=5)&&gJ ka) ta++xl k++paren (if k=5 then decide (3<=kb)else gJ kb) tb
  |_,_=>[]
mutual
def ζ.text:ζ->List Nat
 | .mk k n s _ l=>w_ k n s (l.map ζ.kind) (ζ.texts l)
def ζ.texts:List ζ->List (List Nat)
 |[]=>[]
 |x::l=>x.text::ζ.texts l
end
mutual
def ζ.mn:ζ->Prop
 | .mk k n s _ l=>kN k n l.length=0/\(k=2->s.length<=8)/\ζ.ET l
def ζ.ET:List ζ->Prop
 |[]=>True
 |x::l=>x.mn/\ζ.ET l
end
theorem ζ.W0{l:List ζ}(h:ζ.ET l):∀x∈l,x.mn:=by
 induction l with
 |nil=>intro x hx;cases hx
 |cons a l ih=>
  intro x hx
  rcases cB.1 hx with rfl|hx
  ·exact h.1
  ·exact ih h.2 x hx
theorem ζ.V4{may:List Nat->Bool}{no:Int}(gz:no≠0)(hm:∀s,may s=true->s.length<=8)(x:ζ):x.part may no=0->x.mn:=by
 refine ζ.jd (Q:=fun x=>x.part may no=0->x.mn) (fun k n s c l ih h=>?_) x;simp only[ζ.part]at h;split at h
 ·contradiction
 ·rename_i h0;split at h
  ·exact absurd h gz
  ·rename_i h2;refine⟨by simpa using h0,fun hk=>?_,?_⟩
   ·cases hb:may s with
    |true=>exact hm s hb
    |false=>exact absurd ⟨hk,hb⟩ h2
   ·induction l with
    |nil=>trivial
    |cons a l w7=>
     simp only[ζ.parts]at h
     split at h
     ·contradiction
     ·rename_i ha;refine⟨ih a (by simp) (by simpa using ha),?_⟩;have go:∀l:List ζ,(∀y∈l,y.part may no=0->y.mn)->ζ.parts may no l=0->ζ.ET l:=by
       intro l;induction l with
       |nil=>intro _ _;trivial
       |cons b l oR=>
        intro h1 h2
        simp only[ζ.parts]at h2;split at h2
        ·contradiction
        ·rename_i hb;exact⟨h1 b (by simp) (by simpa using hb),oR (fun y hy=>h1 y (by simp[hy])) h2⟩
      exact go l (fun y hy=>ih y (by simp[hy])) h
theorem Cv(n:Nat):(gi n).length<=2:=by unfold gi;split<;>simp
theorem IG(b:Bool)(s:List Nat):(paren b s).length<=s.length+2:=by unfold paren;split<;>simp
theorem afD(k:Int):(xl k).length=3:=by unfold xl;split<;>(try split)<;>rfl
theorem ζ.r_(x:ζ):x.mn->x.text.length<=13*x.cnt:=by
 refine ζ.jd (Q:=fun x=>x.mn->x.text.length<=13*x.cnt) (fun k n s c l ih h=>?_) x;simp only[ζ.mn]at h;obtain⟨h1,h2,h3⟩:=h;simp only[ζ.text,ζ.cnt,w_];split
 ·have:=Cv n.toNat;omega
 ·split
  ·rename_i hk;have:=h2 hk;omega
  ·match l with
   |[]=>simp
   |[a]=>simp
   |[a,b]=>
    have ha:=ih a (by simp) (ζ.W0 h3 a (by simp))
    have hb:=ih b (by simp) (ζ.W0 h3 b (by simp));have p1:=IG (decide (k=5)&&gJ a.kind) a.text;have p2:=IG (if k=5 then decide (3<=b.kind)else gJ b.kind) b.text;have p3:=afD k;simp only[ax,aI,ζ.texts,cX,ζ.bK];omega
   |a::b::c::l=>simp[ζ.texts]
def lq:List (List Nat)->List Nat
 |[]=>[]
 |[x]=>x
 |x::l=>x++[44,32]++lq l
def ρ.text(p:ρ):List Nat:=match p.ix with
 |[]=>p.name
 |[a]=>p.name++[91]++a.text++[93]
 |a::b::_=>p.name++[91]++a.text++[32,58,32]++b.text++[93]
def mK(l:List ρ):List Nat:=lq (l.map ρ.text)
def ρ.mn(p:ρ):Prop:=p.name.length<=8/\p.ix.length<=2/\∀x∈p.ix,x.mn/\x.cnt<=9
theorem ρ.r_(p:ρ)(h:p.mn):p.text.length<=250:=by
 obtain⟨nm,c,ix⟩:=p;obtain⟨h1,h2,h3⟩:=h;simp only at h1 h2 h3
 match ix with
 |[]=>simp[ρ.text];omega
 |[a]=>
  obtain⟨a1,a2⟩:=h3 a (by simp)
  have:=ζ.r_ a a1;simp[ρ.text];omega
 |[a,b]=>
  obtain⟨a1,a2⟩:=h3 a (by simp)
  obtain⟨b1,b2⟩:=h3 b (by simp);have:=ζ.r_ a a1;have:=ζ.r_ b b1;simp[ρ.text];omega
 |a::b::c::l=>simp at h2
theorem Cs(l:List (List Nat))(n:Nat)(h:∀x∈l,x.length<=n):(lq l).length<=l.length*(n+2):=by
 induction l with
 |nil=>simp[lq]
 |cons a l ih=>
  have ha:=h a (by simp)
  have hl:=ih fun x hx=>h x (by simp[hx]);cases l with
  |nil=>simp[lq];omega
  |cons b l=>
   simp only[lq,cX,cN,eT]at hl⊢
   have:(l.length+1+1)*(n+2)=(l.length+1)*(n+2)+(n+2):=by rw[kA (l.length+1)];omega
   omega
def fo:List Nat:=[32,32]
def bY(k g:Int)(nm:List Nat)(pl:List ρ)(size to:ζ):List Nat:=
 if k=1 then fu.getD (g-1).toNat []++[32]++mK pl
 else if k=2 then[116,97,107,101,32]++nm++[91]++size.text++[93]
 else if k=3 then[100,114,111,112,32]++nm
 else if k=4 then[98,111,114,114,111,119,32]++nm++[91]++size.text++[93]
 else if k=5 then[109,101,97,115,117,114,101,32]++mK pl++[32,58,32]++nm
 else if k=6 then[114,101,115,101,116,32]++mK pl
 else if k=7 then[105,102,32]++nm
 else if k=8 then[102,111,114,32]++nm++[32,61,32]++size.text++[32,58,32]++to.text
 else if k=9 then nm++[40]++mK pl++[41]
 else if k=10 then[117,110,100,111]
 else[119,105,116,104,105,110]
def om(k:Int):List Nat:=if k=7 then[101,108,115,101]else[97,112,112,108,121]
mutual
def cW:List δ->List Nat->List Nat
 |[],_=>[]
 |s::l,b=>gn s b++cW l b
def gn:δ->List Nat->List Nat
 | .mk k g nm _ pl size to _ body _ els,b=>b++bY k g nm pl size to++
   (if bf k=false then[59,10]
    else[32,123,10]++cW body (b++fo)++
    (if bz k=true/\¬(k=7/\els.length=0)then b++[125,32]++om k++[32,123,10]++cW els (b++fo)else[])++b++[125,10])
end
def ai.text(p:ai):List Nat:=p.name++[91]++gi p.size.toNat++[93]
def ξ.text(p:ξ):List Nat:=[112,114,111,99,32]++p.name++[40]++lq (p.au.map ai.text)++[41,32,123,10]++cW p.body fo++[125,10]
def cM:List ξ->List Nat
 |[]=>[]
 |p::l=>p.text++cM l
def vu(x:ζ):Prop:=x.mn/\x.cnt<=9
def Ec(pl:List ρ):Prop:=pl.length<=4/\∀p∈pl,p.mn
def AQ(k g:Int)(nm:List Nat)(pl:List ρ)(size to:ζ):Prop:=
 (1<=k/\k<=11)/\(k=1->1<=g/\g<=12)/\(k=2\/k=3\/k=4\/k=5\/k=7\/k=8\/k=9->nm.length<=8)∧
 (k=1\/k=5\/k=6\/k=9->Ec pl)/\(k=2\/k=4\/k=8->vu size)/\(k=8->vu to)
mutual
def δ.R:δ->Prop
 | .mk k g nm _ pl size to _ body _ els=>AQ k g nm pl size to/\(bf k=true->δ.Rs body)/\(bz k=true->δ.Rs els)
def δ.Rs:List δ->Prop
 |[]=>True
 |s::l=>s.R/\δ.Rs l
end
theorem δ.ah8{l:List δ}(h:δ.Rs l):∀x∈l,x.R:=by
 induction l with
 |nil=>intro x hx;cases hx
 |cons a l ih=>
  intro x hx
  rcases cB.1 hx with rfl|hx
  ·exact h.1
  ·exact ih h.2 x hx
theorem vG{l:List ρ}(h:Ec l):(mK l).length<=1008:=by
 have:=Cs (l.map ρ.text) 250 (fun x hx=>by
  obtain⟨p,hp,rfl⟩:=fb.1 hx
  exact ρ.r_ p (h.2 p hp))
 have h4:=h.1;rw[cz]at this;have:l.length*252<=4*252:=nu _ h4;unfold mK;omega
theorem rR{x:ζ}(h:vu x):x.text.length<=117:=by have:=ζ.r_ x h.1;have:=h.2;omega
theorem SH(n:Nat):(fu.getD n []).length<=4:=by
 match n with
 |0|1|2|3|4|5|6|7|8|9|10|11=>decide
 |n+12=>simp[fu]
theorem TD{k g:Int}{nm:List Nat}{pl:List ρ}{size to:ζ}(h:AQ k g nm pl size to):(bY k g nm pl size to).length<=1100:=by
 obtain⟨h0,h1,h2,h3,h4,h5⟩:=h;have hk:k=1\/k=2\/k=3\/k=4\/k=5\/k=6\/k=7\/k=8\/k=9\/k=10\/k=11:=by omega
 rcases hk with rfl|rfl|rfl|rfl|rfl|rfl|rfl|rfl|rfl|rfl|rfl
 ·have:=vG (h3 (by simp));have:=SH (g-1).toNat;simp[bY];simp at this;omega
 ·have:=rR (h4 (by simp));have:=h2 (by simp);simp[bY];omega
 ·have:=h2 (by simp);simp[bY];omega
 ·have:=rR (h4 (by simp));have:=h2 (by simp);simp[bY];omega
 ·have:=vG (h3 (by simp));have:=h2 (by simp);simp[bY];omega
 ·have:=vG (h3 (by simp));simp[bY];omega
 ·have:=h2 (by simp);simp[bY];omega
 ·have:=rR (h4 (by simp));have:=rR (h5 rfl);have:=h2 (by simp);simp[bY];omega
 ·have:=vG (h3 (by simp));have:=h2 (by simp);simp[bY];omega
 ·simp[bY]
 ·simp[bY]
theorem PT(k:Int):(om k).length<=5:=by unfold om;split<;>simp
theorem Vp(D:Nat)(l:List δ):∀b,δ.Rs l->b.length+2*δ.du l<=D->(cW l b).length<=δ.bK l*(3*D+1200):=by
 refine δ.lists (P:=fun l=>∀b,δ.Rs l->b.length+2*δ.du l<=D->(cW l b).length<=δ.bK l*(3*D+1200)) (fun l ih b hR hD=>?_) l;induction l with
 |nil=>simp[cW]
 |cons s l w7=>
  have hs:=ih s (by simp)
  have h2:=w7 (fun y hy=>ih y (by simp[hy])) hR.2 (by simp only[δ.du]at hD;omega);obtain⟨k,g,nm,cp,pl,size,to,cb,body,ce,els⟩:=s;obtain⟨hh,hb,he⟩:=hR.1;have hl:=TD hh;have C2:=PT k;simp only[δ.du,δ.deep]at hD;simp only[δ.body,δ.els]at hs;simp only[cW,gn,cX,δ.bK,δ.cnt,kA,Nat.one_mul];have ek:(b++fo).length=b.length+2:=by simp[fo]
  cases hk:bf k with
  |false=>
   have AW:bz k=false:=by simp only[bf,bz,decide_eq_false_iff_not]at hk⊢;omega
   simp[hk,AW];omega
  |true=>
   simp only[hk,if_true]at hD
   have h3:=hs.1 (b++fo) (hb hk) (by rw[ek];omega);cases AW:bz k with
   |false=>simp[hk,AW];omega
   |true=>
    simp only[AW,if_true]at hD
    have h4:=hs.2 (b++fo) (he AW) (by rw[ek];omega);simp only[hk,AW,if_true];by_cases hx:k=7/\els.length=0
    ·rw[if_neg (by simp),if_neg (by simp[hx])];simp;omega
    ·rw[if_neg (by simp),if_pos ⟨trivial,hx⟩];simp;omega
end Go.Δ
namespace Go.Δ.Tz
open Go.Δ
theorem R_{α:Type}{f:α->Int}{l:List α}(h:first f l=0):∀x∈l,f x=0:=by
 induction l with
 |nil=>intro x hx;cases hx
 |cons a l ih=>
  simp only[first]at h
  split at h
  ·contradiction
  ·rename_i h0;intro x hx;rcases cB.1 hx with rfl|hx
   ·simpa using h0
   ·exact ih h x hx
theorem FC{L:bT}(hL:kR L){x:ζ}(h:x.err (iN L) 1=0):vu x:=by
 unfold ζ.err at h;split at h
 ·cases h
 ·rename_i h9;refine⟨ζ.V4 (no:=1) (by decide) (fun s hs=>hL s ?_) x h,by omega⟩;simp only[iN,decide_eq_true_eq]at hs;rw[hs];exact fun h=>by cases h
theorem Ox{L:bT}(hL:kR L){p:ρ}(h:jg L p=0):p.mn:=by
 unfold jg at h;split at h
 ·cases h
 ·rename_i h1;split at h
  ·cases h
  ·rename_i h2;refine⟨hL _ fun he=>h1 (by rw[he];rfl),by omega,fun x hx=>?_⟩;have:=FC hL (R_ h x hx);exact this
theorem zj{L:bT}{s:List Nat}(h:fA L s=0):s.length<=8:=Ob (Oc h).1
def EL(ps:List ξ)(own:Nat):Prop:=∀n q,n<own->ps[n]?=some q->q.name.length<=8/\q.au.length<=4
theorem ahh{ps:List ξ}{s:List Nat}{n:Nat}(h:pS ps s=some n):∃q,ps[n]?=some q/\q.name=s:=by rw[pS,List.findIdx?_eq_some_iff_getElem]at h;obtain⟨h1,h2,_⟩:=h;exact⟨ps[n],dp h1,by simpa using h2⟩
theorem aiX{ps:List ξ}{own:Nat}{L:bT}(hL:kR L)(hb:EL ps own){k g:Int}{nm:List Nat}{cp:τ}{pl:List ρ}{size to:ζ}{cb ce:τ}{body els:List δ}
  (h:dV ps own L (.mk k g nm cp pl size to cb body ce els)=0):AQ k g nm pl size to:=by
 have dS:first (jg L) pl=0->pl.length<=4->Ec pl:=fun h1 h2=>⟨h2,fun p hp=>Ox hL (R_ h1 p hp)⟩
 simp only[dV]at h;split at h
 ·rename_i hk;subst hk;split at h
  ·cases h
  ·rename_i hg;split at h
   ·cases h
   ·rename_i ha;have:ga g<=3:=by unfold ga;split<;>(try split)<;>omega
    refine⟨by omega,fun _=>by omega,by omega,fun _=>dS h (by omega),by omega,by omega⟩
 ·rename_i pF;split at h
  ·rename_i hk;split at h
   ·contradiction
   ·rename_i hn;have gR:fA L nm=0:=by simpa using hn
    have:=zj gR;exact⟨by omega,by omega,fun _=>this,by omega,fun _=>FC hL h,by omega⟩
  ·rename_i gy;split at h
   ·rename_i hk;subst hk;split at h
    ·contradiction
    ·rename_i hn;have gR:fA L nm=0:=by simpa using hn
     have:=zj gR;split at h
     ·contradiction
     ·rename_i hs;exact⟨by omega,by omega,fun _=>this,by omega,fun _=>FC hL (by simpa using hs),fun _=>FC hL h⟩
   ·rename_i Mq;split at h
    ·rename_i hk;subst hk;refine⟨by omega,by omega,fun _=>hL nm fun he=>?_,by omega,by omega,by omega⟩;rw[he]at h;cases h
    ·rename_i rE;split at h
     ·rename_i hk;subst hk;split at h
      ·rename_i p;split at h
       ·contradiction
       ·rename_i hp;have qs:jg L p=0:=by simpa using hp
        refine⟨by omega,by omega,fun _=>?_,fun _=>⟨by simp,fun q hq=>?_⟩,by omega,by omega⟩
        ·split at h
         ·rename_i yq;exact hL nm (by rw[yq];exact fun h=>by cases h)
         ·exact zj h
        ·simp at hq;subst hq;exact Ox hL qs
      ·cases h
     ·rename_i pG;split at h
      ·rename_i hk;subst hk;split at h
       ·rename_i p;refine⟨by omega,by omega,by omega,fun _=>⟨by simp,fun q hq=>?_⟩,by omega,by omega⟩;simp at hq;subst hq;exact Ox hL h
       ·cases h
      ·rename_i Mo;split at h
       ·rename_i hk;subst hk;refine⟨by omega,by omega,fun _=>hL nm fun he=>?_,by omega,by omega,by omega⟩;rw[he]at h;simp at h
       ·rename_i Mp;split at h
        ·rename_i hk;subst hk;split at h
         ·cases h
         ·rename_i n hn;split at h
          ·cases h
          ·rename_i ψ;obtain⟨q,hq,HK⟩:=ahh hn;rw[hq]at h;have:=hb n q (by omega) hq;dsimp only at h;split at h
           ·cases h
           ·rename_i hl;refine⟨by omega,by omega,fun _=>by rw[<-HK];exact this.1,fun _=>dS h (by omega),by omega,by omega⟩
        ·split at h
         ·rename_i Mr hk;refine⟨by omega,by omega,by omega,by omega,by omega,by omega⟩
         ·cases h
theorem O3{ps:List ξ}{own:Nat}{L:bT}{x:δ}(h:dV ps own L x=0)(hk:x.kind=2\/x.kind=4\/x.kind=8):fA L x.name=0:=by rw[qS]at h;rcases hk with hk|hk|hk<;>simp[hk]at h<;>split at h<;>first|assumption|(rename_i hn;exact absurd h hn)
theorem acg{ps:List ξ}{own:Nat}{L:bT}(hL:kR L){x:δ}(h:dV ps own L x=0):kR (inside L x.kind x.name):=by
 by_cases h4:x.kind=4
 ·have:inside L x.kind x.name=L.inner.put x.name (.j_ false):=by simp[inside,h4]
  rw[this];exact hL.inner.put (zj (O3 h (by omega))) _
 by_cases h8:x.kind=8
 ·have:inside L x.kind x.name=L.inner.put x.name .dZ:=by simp[inside,h8]
  rw[this];exact hL.inner.put (zj (O3 h (by omega))) _
 ·have:inside L x.kind x.name=L.inner:=by simp[inside,h4,h8]
  rw[this];exact hL.inner
theorem XS{ps:List ξ}{own:Nat}{L:bT}(hL:kR L){x:δ}(h:dV ps own L x=0):kR (after L x.kind x.name):=by
 by_cases h2:x.kind=2
 ·have:after L x.kind x.name=L.put x.name (.j_ true):=by simp[after,h2]
  rw[this];exact hL.put (zj (O3 h (by omega))) _
 by_cases h3:x.kind=3
 ·have:after L x.kind x.name=L.put x.name .none:=by simp[after,h3]
  rw[this];exact hL.del _
 by_cases h5:x.kind=5
 ·have:after L x.kind x.name=L.put x.name .bit:=by simp[after,h5]
  rw[this];refine hL.put ?_ _;rw[qS]at h;simp[h5]at h;split at h
  ·split at h
   ·split at h
    ·rename_i yq;exact hL _ (by rw[yq];exact fun h=>by cases h)
    ·exact zj h
   ·contradiction
  ·cases h
 ·have:after L x.kind x.name=L:=by simp[after,h2,h3,h5]
  rw[this];exact hL
theorem Yt{ps:List ξ}{own:Nat}(hb:EL ps own)(l:List δ):∀L,kR L->gb ps own l L=0->δ.Rs l:=by
 refine δ.lists (P:=fun l=>∀L,kR L->gb ps own l L=0->δ.Rs l) (fun l ih L hL h=>?_) l;induction l generalizing L with
 |nil=>trivial
 |cons s l w7=>
  simp only[gb]at h
  split at h
  ·contradiction
  ·rename_i h0;have wD:dV ps own L s=0:=by simpa using h0
   split at h
   ·contradiction
   ·rename_i h1;have nF:kX ps own s L=0:=by simpa using h1
    refine⟨?_,w7 (fun y hy=>ih y (by simp[hy])) _ (XS hL wD) h⟩;have hi:=acg hL wD;have hs:=ih s (by simp);obtain⟨k,g,nm,cp,pl,size,to,cb,body,ce,els⟩:=s;simp only[δ.body,δ.els]at hs;simp only[δ.kind,δ.name]at hi;refine⟨aiX hL hb wD,fun hk=>?_,fun hk=>?_⟩
    ·simp only[kX,hk,if_true]at nF;split at nF
     ·contradiction
     ·rename_i h2;exact hs.1 _ hi (by simpa using h2)
    ·have wN:bf k=true:=by simp only[bf,bz,decide_eq_true_eq]at hk⊢;omega
     simp only[kX,hk,wN,if_true]at nF;split at nF
     ·contradiction
     ·exact hs.2 _ hi nF
structure B8 (x:ξ):Prop where
 name:x.name.length<=8
 au:x.au.length<=4
 par:∀p∈x.au,p.name.length<=8/\1<=p.size/\p.size<=12
 body:δ.Rs x.body
 bK:δ.bK x.body<=120
 du:δ.du x.body<=6
theorem agE(l:List ai):∀L,kR L->qJ l L=0->(∀p∈l,p.name.length<=8/\1<=p.size/\p.size<=12)/\kR (qK l L):=by
 induction l with
 |nil=>intro L hL _;exact⟨fun p hp=>(by cases hp),hL⟩
 |cons x l ih=>
  intro L hL h
  simp only[qJ]at h;split at h
  ·cases h
  ·rename_i h1;split at h
   ·cases h
   ·rename_i h2;split at h
    ·cases h
    ·have hn:x.name.length<=8:=Ob (by simpa using h1);obtain⟨a,b⟩:=ih _ (hL.put hn _) h;refine⟨fun p hp=>?_,b⟩;rcases cB.1 hp with rfl|hp
     ·exact⟨hn,by omega⟩
     ·exact a p hp
theorem afp:kR oW:=fun _ h=>absurd rfl h
theorem ahe{ps:List ξ}{own:Nat}{x:ξ}(hb:EL ps own)(h:rZ ps own x=0):B8 x:=by
 unfold rZ at h;split at h
 ·cases h
 ·rename_i h1;split at h
  ·cases h
  ·split at h
   ·cases h
   ·rename_i h3;split at h
    ·contradiction
    ·rename_i h4;split at h
     ·cases h
     ·rename_i h5;split at h
      ·cases h
      ·rename_i h6;obtain⟨a,b⟩:=agE x.au oW afp (by simpa using h4);exact⟨Ob (by simpa using h1),by omega,a,Yt hb _ _ b h,by omega,by omega⟩
theorem ahl(ps:List ξ):∀k,EL ps k->tm ps k (ps.drop k)=0->∀n q,k<=n->ps[n]?=some q->B8 q:=by
 intro k;induction hd:ps.length-k generalizing k with
 |zero=>
  intro _ _ n q hn hq
  rw[gW (by omega)]at hq;cases hq
 |succ d ih=>
  intro hb h n q hn hq
  have hk:k<ps.length:=by omega
  rw[oc hk]at h;simp only[tm]at h;split at h
  ·contradiction
  ·rename_i h0;have hr:=ahe hb (by simpa using h0);rcases di k n with ψ|eH
   ·refine ih (k+1) (by omega) (fun m q' hm vn=>?_) h n q ψ hq;rcases di m k with h2|h2
    ·exact hb m q' h2 vn
    ·have:m=k:=by omega
     subst this;rw[dp hk]at vn;cases vn;exact⟨hr.name,hr.au⟩
   ·have:n=k:=by omega
    subst this;rw[dp hk]at hq;cases hq;exact hr
theorem Zj{ps:List ξ}(h:mQ ps=0):ps.length<=12/\∀q∈ps,B8 q:=by
 unfold mQ at h;split at h
 ·cases h
 ·rename_i h1;refine⟨by omega,fun q hq=>?_⟩;obtain⟨n,hn,rfl⟩:=List.getElem_of_mem hq;exact ahl ps 0 (fun n q hn=>by omega) (by simpa using h) n _ (by omega) (dp hn)
theorem ξ.r_{x:ξ}(h:B8 x):x.text.length<=200000:=by
 have h1:=Vp 20 x.body fo h.body (by have:=h.du;simp[fo];omega);have h2:δ.bK x.body*(3*20+1200)<=120*(3*20+1200):=nu _ h.bK;have h3:=Cs (x.au.map ai.text) 12 (fun t ht=>by
  obtain⟨p,hp,rfl⟩:=fb.1 ht
  have:=(h.par p hp).1;have:=Cv p.size.toNat;simp[ai.text];omega)
 rw[cz]at h3;have h4:x.au.length*(12+2)<=4*(12+2):=nu _ h.au;have:=h.name;simp only[ξ.text,cX,cN,eT];omega
end Go.Δ.Tz
