import Derived.Test.YtiigojkfojnedaaGreatDoorSHe
set_option linter.all false
set_option maxRecDepth 100000
set_option maxHeartbeats 8000000
open Nat renaming lt_or_ge->da,le_refl->bS,add_mul->kK,mul_le_mul_right->mD
open List renaming getElem?_eq_none->h_,append_nil->dF,map_cons->az,map_nil->aJ,getElem?_append_left->ek,set_append_left->nr,getElem?_eq_getElem->dn,getElem?_set->wH,set_set->alI,take_succ_cons->sL,getElem_cons_succ->pF,getElem_mem->c_,drop_eq_getElem_cons->nk,append_assoc->bO,set_append_right->yl,take_length->pH,drop_length->alJ,all_map->nj,all_eq_true->dO,map_map->cT,map_congr_left->de,length_append->cI,mem_cons->cy,length_cons->cD,length_nil->eO,mem_map->eP,length_map->cg
open Go.IntKind renaming wrap->bC
open Bool renaming true_eq_false->Cn
namespace Go.Θ.Tz
open Go.Θ
variable{u:Nat}
attribute [local simp] exec dY dP eX aI dw fA eN aK fL bQ iu iE iM jd AV.cells newVar iX rd wr gT single dk cE e_ ew κ cK RV.get cL fT kz
theorem κ.fin{gl:Nat->AV}{c:cx}{a:AC}{s:St}{Q:Ex×St->Prop}{M:St->Prop}(ex:Ex)(h:∃s',exec gl c dN a s=some (ex,s')/\M s')(k:∀s',M s'->Q (ex,s')):κ gl c a s Q:=by obtain⟨s',h1,h2⟩:=h;exact⟨_,h1,k s' h2⟩
theorem CL{C:iL}{f:FuncId}{p:Prim}{fst args cap:List AV}{m:Mem}{r:AV×Mem}(hp:C.gQ f=some p)(h:p ((fst++args++cap).map (exp m.ε.length (C.bf f))) m=some r):ab C (.fn (.func f) fst cap) args m=some r:=by apply sS;simp only[body,hp,h]
theorem sX{α:Type}{l:List α}{i:Nat}{x:α}(h:l[i]?=some x):i<l.length:=by
 rcases da i l.length with hl|hl
 ·exact hl
 ·rw[h_ hl]at h;cases h
theorem f277(m:Mem)(id:Nat)(es:List (AV×AV))(hid:m.ε[id]?=some (.map es)):kf u 277 [.map id] m=some (.map m.ε.length,m.push (.map es)):=by
 have ψ:=sX hid;refine CL (p:=xS) (by rfl) ?_;have he:∀k,([]++[AV.map id]++[]).map (exp m.ε.length k)=[.map id]:=fun k=>by simp[exp,ψ]
 rw[he];simp only[xS,hid]
theorem f233{ck id:Nat}{pr ow:AV}{b:Int}{nb:Nat}{es:List c7}(m:Mem)(dC:m.ε[ck]?=some (.cells [pr,ow,.n nb]))(hid:m.ε[id]?=some (.map (es.map bF)))(nm:List Nat)(w d:Int)(vM:nb<1000000000000):
  kf u 233 [.μ ck 0,eM id b,.str nm,.agg [.n w,.n d]] m=
   some (eM m.ε.length nb,{ε:=m.ε.set ck (.cells [pr,ow,.n (nb+1:Nat)])++[.map ((if nm=[]then es else ju es nm w d).map bF)],η:=m.η}):=by
 have lu:=sX dC;have ou:=sX hid;have SK:=f277 (u:=u) {ε:=m.ε,η:=[]} id (es.map bF) hid;have hw:bC .i64 ((nb:Int)+1)=(nb:Int)+1:=wrap_i64 (by omega) (by omega);refine VI (g:=G') rfl rfl rfl ?_ rfl;have eL:([AV.μ ck 0,eM id b,.str nm,.agg [.n w,.n d]]++[]).map (exp m.ε.length true)=[AV.μ ck 0,.agg [.map id,.n b],.str nm,.agg [.n w,.n d]]:=by simp only[dF,az,aJ,eM,exp,aX,lu,ou,if_true]
 rw[eL];simp only[G',c233];have er:∀M:Mem,M.ν=ν:=fun _=>rfl;let K:St->Prop:=fun st=>st.e 0= .μ ck 0/\st.e 2= .str nm/\st.e 7= .aj 7 0 0/\st.q 7=some (0,.cells [.n w,.n d])/\st.e 8= .aj 8 0 0/\st.q 8=some (0,.cells [.gZ,.n 0]);refine Δ (fun st=>K st/\st.e 5= .aj 5 0 0/\st.q 5=some (0,.cells [.map id,.n b])/\st.mem= {ε:=m.ε,η:=[]}) (by simp[K,bz]) fun s1 ⟨⟨h1,h2,h3,h4,h5,h6⟩,h7,h8,h9⟩=>?_;simp only[Mem.push]at SK;have k1:(m.ε++[θ.map (es.map bF)])[ck]?=some (.cells [pr,ow,.n nb]):=by rw[ek lu];exact dC
 let K2:St->Prop:=fun st=>K st/\∃v,st.e 9= .aj 9 v 0/\st.q 9=some (v,.cells [.map m.ε.length,.n nb]);refine Δ (fun st=>K2 st/\st.mem= {ε:=m.ε++[.map (es.map bF)],η:=[]}) (by simp[K2,K,h1,h2,h3,h4,h5,h6,h7,h8,h9,SK,k1,dC,cN,nY,cQ,eK,AV.gK,AV.beq,AV.beq_refl,dd]) fun s1 ⟨⟨⟨h1,h2,h3,h4,h5,h6⟩,v,h7,h8⟩,h9⟩=>?_;have hA:(m.ε.set ck (.cells [pr,ow,.n ((nb:Int)+1)])).length=m.ε.length:=by simp
 have kR:(m.ε++[θ.map (es.map bF)]).set ck (.cells [pr,ow,.n ((nb:Int)+1)])=m.ε.set ck (.cells [pr,ow,.n ((nb:Int)+1)])++[.map (es.map bF)]:=nr _ _ lu;generalize hAe:m.ε.set ck (.cells [pr,ow,.n ((nb:Int)+1)])=A at*;refine Δ (fun st=>K2 st/\st.mem= {ε:=A++[.map (es.map bF)],η:=[]}) (by simp[K2,K,h1,h2,h3,h4,h5,h6,h7,h8,h9,k1,hw,Mem.put,er,ν,ba,lo,kR]) fun s1 ⟨⟨⟨h1,h2,h3,h4,h5,h6⟩,v,h7,h8⟩,h9⟩=>?_;have k2:(A++[θ.map (es.map bF)])[m.ε.length]?=some (.map (es.map bF)):=by rw[<-hA];simp
 have k3:∀y,(A++[θ.map (es.map bF)]).set m.ε.length y=A++[y]:=fun y=>by rw[<-hA];simp
 have vz:((nb+1:Nat):Int)=(nb:Int)+1:=by omega
 rw[vz,hAe];have vL:m.ε.length<A.length+1:=by omega
 refine Δ (fun st=>K2 st/\st.mem= {ε:=A++[.map ((if nm=[]then es else ju es nm w d).map bF)],η:=[]}) (by
  by_cases hn:nm=[]
  ·simp[K2,K,h1,h2,h3,h4,h5,h6,h7,h8,h9,hn]
  ·simp[K2,K,h1,h2,h3,h4,h5,h6,h7,h8,h9,hn,k2,k3,isKey,plain,sB,Jb,Mem.put]) fun s1 ⟨⟨⟨h1,h2,h3,h4,h5,h6⟩,v,h7,h8⟩,h9⟩=>?_
 simp[h1,h2,h3,h4,h5,h6,h7,h8,h9,exp,aX,eM,vL]
theorem PN{α:Type}{l:List α}{i:Nat}{x:α}(h:l[i]?=some x):l.set i x=l:=by
 have hl:=sX h;rw[dn hl]at h;have:l[i]=x:=by simpa using h
 rw[<-this];exact List.set_getElem_self hl
def bM(B:List θ)(ck id:Nat)(pr ow:AV)(nb:Nat)(es:List c7):List θ:=(B.set ck (.cells [pr,ow,.n nb])).set id (.map (es.map bF))
section
variable{B:List θ}{ck id:Nat}{pr ow:AV}{nb:Nat}{es:List c7}(hc:ck<B.length)(hi:id<B.length)(φ:ck≠id)
theorem Zk:(bM B ck id pr ow nb es).length=B.length:=by simp[bM]
include hc hi φ
theorem Zi(ext:List θ):(bM B ck id pr ow nb es++ext)[ck]?=some (.cells [pr,ow,.n nb]):=by rw[ek (by simp[bM];omega)];simp[bM,wH,Ne.symm φ,hc]
theorem Zj(ext:List θ):(bM B ck id pr ow nb es++ext)[id]?=some (.map (es.map bF)):=by rw[ek (by simp[bM];omega)];simp[bM,wH,hi]
theorem Zl(ext:List θ)(n:Nat):(bM B ck id pr ow nb es++ext).set ck (.cells [pr,ow,.n n])=bM B ck id pr ow n es++ext:=by rw[nr _ _ (by simp[bM];omega)];simp only[bM];rw[List.set_comm _ _ (Ne.symm φ),alI]
theorem Zm(ext:List θ)(fb:List c7):(bM B ck id pr ow nb es++ext).set id (.map (fb.map bF))=bM B ck id pr ow nb fb++ext:=by rw[nr _ _ (by simp[bM];omega)];simp only[bM,alI]
end
theorem adp(ps:List τ)(own:Nat)(x:δ)(L:bX):lv ps own x L=first (fun p:ρ×List δ=>gm ps own p.2 (inside L x.kind x.name)) x.blocks:=by
 rw[ado];unfold δ.blocks;by_cases he:bm x.kind=true
 ·have hb:aU x.kind=true:=by simp only[aU,bm,decide_eq_true_eq]at he⊢;omega
  simp only[he,hb,if_true,first];split
  ·rfl
  ·split<;>simp_all
 ·by_cases hb:aU x.kind=true
  ·by_cases hz:gm ps own x.body (inside L x.kind x.name)=0<;>simp[he,hb,first,hz]
  ·simp[he,hb,first]
def pO:List (ρ×List δ)->Nat
 |[]=>0
 |p::l=>1+δ.bI p.2+pO l
theorem ZG(l:List (ρ×List δ))(i:Nat)(h:i<l.length):pO (l.take (i+1))=pO (l.take i)+(1+δ.bI l[i].2):=by
 induction l generalizing i with
 |nil=>simp at h
 |cons a l ih=>
  cases i with
  |zero=>simp[pO]
  |succ i=>simp only[sL,pO,pF,ih i (by simpa using h)];omega
theorem ZF(x:δ):pO x.blocks<=x.wt:=by
 have:=δ.Ck x;unfold δ.blocks;split
 ·simp only[pO];omega
 ·split<;>simp only[pO]<;>omega
theorem ZH(l:List (ρ×List δ))(i:Nat):pO (l.take i)<=pO l:=by
 induction l generalizing i with
 |nil=>simp
 |cons a l ih=>cases i with
  |zero=>simp[pO]
  |succ i=>have:=ih i;simp only[sL,pO];omega
theorem akO(l:List δ)(i:Nat)(h:i<l.length):δ.bI (l.take (i+1))=δ.bI (l.take i)+l[i].wt:=by
 induction l generalizing i with
 |nil=>simp at h
 |cons a l ih=>
  cases i with
  |zero=>simp[δ.bI]
  |succ i=>simp only[sL,δ.bI,pF,ih i (by simpa using h)];omega
theorem X2{ps:List τ}{own:Nat}{L:bX}{x:δ}(h:eh ps own L x=0)(hk:x.kind=2\/x.kind=4\/x.kind=8):x.name≠[]:=by
 rw[rq]at h;have hn:fG L x.name=0:=by rcases hk with hk|hk|hk<;>simp[hk]at h<;>split at h<;>first|assumption|(rename_i hn;exact absurd h hn)
 have:=(O3 hn).1
 rintro he
 rw[he]at this;simp[dc]at this
theorem f193(dJ:ρ)(nD:bp dJ)(ps:List τ)(cX:∀x∈ps,x.Ok)(dH:ps.length<1000000000000)(own:Nat)(l:List δ):
  ∀(cb:ρ),bp cb->δ.cJ l->∀(es:List c7) (L:bX) (b nb ck id:Nat) (m:Mem),m.ε[ck]?=some (.cells [.list dJ (ps.map τ.av),.n own,.n nb])->m.ε[id]?=some (.map (es.map bF))->fZ es b nb L->b<nb->nb+δ.bI l<100000000000→
   ∃(eJ:Nat) (fb:List c7),nb<=eJ/\eJ<=nb+δ.bI l∧
    kf u 193 [.μ ck 0,eM id b,.list cb (δ.χ l)] m=some (.n (gm ps own l L),{ε:=bM m.ε ck id (.list dJ (ps.map τ.av)) (.n own) eJ fb,η:=m.η}):=by
 refine δ.lists (P:=fun l=>∀(cb:ρ),bp cb->δ.cJ l->∀(es:List c7) (L:bX) (b nb ck id:Nat) (m:Mem),m.ε[ck]?=some (.cells [.list dJ (ps.map τ.av),.n own,.n nb])->m.ε[id]?=some (.map (es.map bF))->fZ es b nb L->b<nb->nb+δ.bI l<100000000000→
   ∃(eJ:Nat) (fb:List c7),nb<=eJ/\eJ<=nb+δ.bI l∧
    kf u 193 [.μ ck 0,eM id b,.list cb (δ.χ l)] m=some (.n (gm ps own l L),{ε:=bM m.ε ck id (.list dJ (ps.map τ.av)) (.n own) eJ fb,η:=m.η})) (fun l ih cb rT ai es L b nb ck id m dC hid hs hb hw=>?_) l
 have lu:=sX dC;have ou:=sX hid;have φ:ck≠id:=by rintro rfl;rw[dC]at hid;cases hid
 have vJ:=δ.Al l;let M:Nat->List c7->List θ:=bM m.ε ck id (.list dJ (ps.map τ.av)) (.n own);have hM0:M nb es=m.ε:=by simp only[M,bM];rw[PN dC,PN hid]
 have OR:∀n e ext,(M n e++ext)[ck]?=some (.cells [.list dJ (ps.map τ.av),.n own,.n n]):=fun n e ext=>Zi lu ou φ ext;have OT:∀n e ext,(M n e++ext)[id]?=some (.map (e.map bF)):=fun n e ext=>Zj lu ou φ ext;have WA:∀n e ext (n':Nat),(M n e++ext).set ck (.cells [.list dJ (ps.map τ.av),.n own,.n n'])=M n' e++ext:=fun n e ext n'=>Zl lu ou φ ext n';have msi:∀n e ext e',(M n e++ext).set id (.map (e'.map bF))=M n e'++ext:=fun n e ext e'=>Zm lu ou φ ext e';have OX:∀n e,(M n e).length=m.ε.length:=fun n e=>Zk;let Fin:St->Prop:=fun st=>∃eJ fb ext,nb<=eJ/\eJ<=nb+δ.bI l/\st.mem= {ε:=M eJ fb++ext,η:=[]};have dZ:κ (C u).gl (ab (C u)) Ba.code {env:=([]++[AV.μ ck 0,eM id b,.list cb (δ.χ l)]++[]).map (exp m.ε.length false),loc:=[],mem:= {ε:=m.ε,η:=[]}} fun r=>
   (∀i,r.1≠ .exit i)/\Fin r.2/\aK r.2.env 6= .n (gm ps own l L):=by
  have eL:([]++[AV.μ ck 0,eM id b,.list cb (δ.χ l)]++[]).map (exp m.ε.length false)=[AV.μ ck 0,.agg [.map id,.n b],.list cb (δ.χ l)]:=by simp only[List.nil_append,dF,az,aJ,rN rT ai];simp only[eM,exp,aX,lu,ou,if_true]
  rw[eL];simp only[Ba,c193];let K:St->Prop:=fun st=>st.e 0= .μ ck 0/\st.e 4= .aj 4 0 0/\st.q 4=some (0,.cells [.map id,.n b]);refine Δ (fun st=>K st/\st.e 2= .list cb (δ.χ l)/\st.mem= {ε:=m.ε,η:=[]}) (by simp[K,bz]) fun s1 ⟨⟨h1,h2,h3⟩,h4,h5⟩=>?_;refine bJ (fun st=>Fin st/\gm ps own l L=0) ?_ fun s2 ⟨⟨eJ,fb,ext,h1,h2,h3⟩,h4⟩=>κ.fin (M:=fun st=>st.mem= {ε:=M eJ fb++ext,η:=[]}/\st.e 6= .n 0) .ret (by simp[h3]) fun s' ⟨e1,e2⟩=>⟨by simp,⟨eJ,fb,ext,h1,h2,e1⟩,by simp[e2,h4]⟩;let I:Nat->St->Prop:=fun i st=>K st/\st.e 15= .list cb (δ.χ l)/\st.e 16= .n l.length/\st.e 17= .n i/\∃(iA:Nat) (ei:List c7) (ext:List θ) (Li:bX),nb<=iA/\iA<=nb+δ.bI (l.take i)/\fZ ei b iA Li/\st.mem= {ε:=M iA ei++ext,η:=[]}/\gm ps own (l.drop i) Li=gm ps own l L;refine Δ (fun st=>K st/\st.e 15= .list cb (δ.χ l)/\st.e 16= .n l.length/\st.e 17= .n 0/\st.mem= {ε:=m.ε,η:=[]}) (by simp[K,h1,h2,h3,h4,h5,u0]) fun s4 ⟨a1,a2,a3,a4,a5⟩=>?_;have hI:I 0 s4:=⟨a1,a2,a3,a4,nb,es,[],L,bS _,by simp[δ.bI],hs,by rw[a5,dF,hM0],rfl⟩;refine κ.block (κ.upto (I:=I) l.length hI (fun i st ψ Ω=>?_) (fun st Ω=>?_))
  ·obtain⟨⟨h1,h2,h3⟩,q1,q2,q3,iA,ei,ext,Li,p_,nF,Is,Γ,eC⟩:=Ω;have kS:bC .i64 ((i:Int)+1)=(i:Int)+1:=wrap_i64 (by omega) (by omega);have hg:=JI l i ψ;have hm:l[i]∈l:=c_ ψ;have r_:=δ.iB ai _ hm;have xI:=ih _ hm;have Ec:=akO l i ψ;have xG:=akP l (i+1);rw[nk ψ]at eC;generalize l[i]=y at*;have hu:gm ps own (y::l.drop (i+1)) Li=if eh ps own Li y≠0 then eh ps own Li y else if lv ps own y Li≠0 then lv ps own y Li else gm ps own (l.drop (i+1)) (after Li y.kind y.name):=rfl;rw[hu]at eC;have C1:=f232 (u:=u) (B:=M iA ei) dJ nD ps cX dH own b iA ei Li (by simpa using OR iA ei []) (by simpa using OT iA ei []) Is y r_ (by omega) ext [];have rL:=fun m=>f108 (u:=u) y r_ m;have k0:=cell0 y;have k2:=oN y;have kt:=Sg y;have kl:=δ.lH y;simp only[δ.av,eM]at hg C1 rL;let J:St->Prop:=fun st=>K st/\st.e 15= .list cb (δ.χ l)/\st.e 16= .n l.length/\st.e 17= .n i;let J2:St->Prop:=fun st=>J st/\∃v,st.e 8= .aj 8 v 0/\st.q 8=some (v,.cells y.cells);let MM:Nat->List c7->List θ->St->Prop:=fun n e x st=>st.mem= {ε:=M n e++x,η:=[]};refine Δ (fun st=>J st/\MM iA ei ext st/\st.e 18= .bool true) (by simp[J,K,MM,h1,h2,h3,q1,q2,q3,Γ,ψ]) fun s5 ⟨⟨⟨h1,h2,h3⟩,q1,q2,q3⟩,Γ,q4⟩=>?_;refine Δ (fun st=>J st/\MM iA ei ext st) (by simp only[MM]at Γ;simp[J,K,MM,h1,h2,h3,q1,q2,q3,q4,Γ]) fun s5 ⟨⟨⟨h1,h2,h3⟩,q1,q2,q3⟩,Γ⟩=>?_;refine bJ (fun st=>J st/\∃(n2:Nat) (e2:List c7) (x2:List θ),nb<=n2/\n2<=nb+δ.bI (l.take (i+1))/\fZ e2 b n2 (after Li y.kind y.name)/\MM n2 e2 x2 st/\gm ps own (l.drop (i+1)) (after Li y.kind y.name)=gm ps own l L) ?_ fun s6 ⟨⟨⟨h1,h2,h3⟩,q1,q2,q3⟩,n2,e2,x2,a1,a2,a3,a4,a5⟩=>by simp only[MM]at a4;exact κ.fin (M:=fun st=>K st/\st.e 15= .list cb (δ.χ l)/\st.e 16= .n l.length/\st.e 17= .n ((i:Int)+1)/\MM n2 e2 x2 st) .normal (by simp[K,MM,h1,h2,h3,q1,q2,q3,kS,a4]) fun s' ⟨b1,b2,b3,b4,b5⟩=> .inl ⟨rfl,b1,b2,b3,b4,n2,e2,x2,_,a1,a2,a3,b5,a5⟩
   refine κ.block ?_;refine Δ (fun st=>J2 st/\MM iA ei ext st) (by simp only[MM]at Γ;simp[J2,J,K,MM,h1,h2,h3,q1,q2,q3,Γ,ψ,hg,kl,kt,u0]) fun s5 ⟨⟨⟨⟨h1,h2,h3⟩,q1,q2,q3⟩,v,q4,q5⟩,Γ⟩=>?_;simp only[MM]at Γ;by_cases uB:eh ps own Li y=0
   case neg=>
    rw[if_pos uB]at eC
    rw[eC]at uB C1;refine bJ (fun _=>False) ?_ fun _ h=>h.elim;refine κ.fin (M:=fun st=>MM iA ei ext st/\st.e 6= .n (gm ps own l L)) .ret (by simp[MM,h1,h2,h3,q1,q2,q3,q4,q5,Γ,kl,kt,C1,bne_true uB,uB]) fun s' ⟨b1,b2⟩=>?_;have hf:Fin s':=⟨iA,ei,ext,p_,by omega,b1⟩;simp[hf,b2]
   rw[if_neg (by simpa using uB)]at eC;rw[uB]at C1;refine Δ (fun st=>J2 st/\MM iA ei ext st) (by simp[J2,J,K,MM,h1,h2,h3,q1,q2,q3,q4,q5,Γ,kl,kt,C1]) fun s5 ⟨⟨⟨⟨h1,h2,h3⟩,q1,q2,q3⟩,v,q4,q5⟩,Γ⟩=>?_;simp only[MM]at Γ;refine Δ (fun st=>J2 st/\MM iA ei ext st/\st.e 10= .str []/\∃v,st.e 11= .aj 11 v 0/\st.q 11=some (v,.cells [.n 0,.n 0])) (by simp[J2,J,K,MM,h1,h2,h3,q1,q2,q3,q4,q5,Γ,dd]) fun s5 ⟨⟨⟨⟨h1,h2,h3⟩,q1,q2,q3⟩,v,q4,q5⟩,Γ,q6,v2,q7,q8⟩=>?_;simp only[MM]at Γ;let Nw:List Nat->Int->Int->Prop:=fun re w0 d0=>∀cu:Nat,iA<=cu->fZ (if re=[]then ei else ju ei re w0 d0) cu ((cu+1:Nat):Int) (inside Li y.kind y.name);have qO:∀cu:Nat,iA<=cu->fZ ei cu ((cu+1:Nat):Int) Li.inner:=fun cu hj=>by have:=(Is.mono (show(iA:Int)<=(cu:Int) by omega)).inner;simpa using this
   obtain⟨re,w0,d0,s8,ac7⟩:∃re w0 d0,Nw re w0 d0/\((y.kind=4/\re=y.name/\w0=1/\d0= -2)\/(y.kind=8/\re=y.name/\w0=3/\d0=0)\/(y.kind≠4/\y.kind≠8/\re=[]/\w0=0/\d0=0)):=by
    by_cases lK:y.kind=4
    ·have xw:=X2 uB (by omega);refine⟨y.name,1,-2,fun cu hj=>?_,.inl ⟨lK,rfl,rfl,rfl⟩⟩;have:=(qO cu hj).put y.name 1 (-2) (by decide) (by omega);have hr:decide ((-2:Int)=(cu:Int))=false:=by simp
     simpa[inside,lK,xw,ke,hr]using this
    ·by_cases rR:y.kind=8
     ·have xw:=X2 uB (by omega);refine⟨y.name,3,0,fun cu hj=>?_,.inr (.inl ⟨rR,rfl,rfl,rfl⟩)⟩;have:=(qO cu hj).put y.name 3 0 (by decide) (by omega);simpa[inside,rR,xw,ke]using this
     ·refine⟨[],0,0,fun cu hj=>?_,.inr (.inr ⟨lK,rR,rfl,rfl,rfl⟩)⟩;simpa[inside,lK,rR]using qO cu hj
   refine Δ (fun st=>J2 st/\MM iA ei ext st/\st.e 10= .str re/\∃v,st.e 11= .aj 11 v 0/\st.q 11=some (v,.cells [.n w0,.n d0])) (by
    rcases ac7 with⟨lK,rfl,rfl,rfl⟩|⟨rR,rfl,rfl,rfl⟩|⟨lK,rR,rfl,rfl,rfl⟩
    ·simp[J2,J,K,MM,h1,h2,h3,q1,q2,q3,q4,q5,q6,q7,q8,Γ,kl,k0,k2,lK,dd]
    ·simp[J2,J,K,MM,h1,h2,h3,q1,q2,q3,q4,q5,q6,q7,q8,Γ,kl,k0,k2,rR,dd]
    ·simp[J2,J,K,MM,h1,h2,h3,q1,q2,q3,q4,q5,q6,q7,q8,Γ,kl,k0,ff lK,ff rR]) fun s5 ⟨⟨⟨⟨h1,h2,h3⟩,q1,q2,q3⟩,v,q4,q5⟩,Γ,q6,v2,q7,q8⟩=>?_
   simp only[MM]at Γ;let E:ρ×List δ->Int:=fun p=>gm ps own p.2 (inside Li y.kind y.name);rw[adp]at eC;have ak2:=ZF y;refine bJ (fun st=>J2 st/\first E y.blocks=0/\∃(cu:Nat) (xj:List θ),iA<=cu/\cu<=iA+y.wt/\MM cu ei xj st) ?_ fun s6 ⟨⟨⟨⟨h1,h2,h3⟩,q1,q2,q3⟩,v,q4,q5⟩,hz,cu,xj,a1,a2,Γ⟩=>?_
   ·let J3:St->Prop:=fun st=>J2 st/\st.e 10= .str re/\(∃v,st.e 11= .aj 11 v 0/\st.q 11=some (v,.cells [.n w0,.n d0]))/\st.e 42=iN y/\st.e 43= .n y.blocks.length;let I2:Nat->St->Prop:=fun j st=>J3 st/\st.e 44= .n j/\(∀k (hk:k<y.blocks.length),k<j->E y.blocks[k]=0)/\∃(cu:Nat) (xj:List θ),iA<=cu/\cu<=iA+pO (y.blocks.take j)/\MM cu ei xj st;have ak1:y.blocks.length<=2:=by unfold δ.blocks;split<;>(try split)<;>simp
    refine Δ (fun st=>J3 st/\st.e 44= .n 0/\MM iA ei ext st) (by
     simp only[iN]at rL
     simp[J3,J2,J,K,MM,h1,h2,h3,q1,q2,q3,q4,q5,q6,q7,q8,Γ,kl,kt,rL,iN]) fun s6 ⟨d1,d2,d3⟩=>?_
    have hI:I2 0 s6:=⟨d1,d2,fun k _ hk=>absurd hk (by omega),iA,ext,bS _,by simp[pO],d3⟩;refine κ.block (κ.upto (I:=I2) y.blocks.length hI (fun j st eW Ω=>?_) (fun st Ω=>?_))
    ·obtain⟨⟨⟨⟨⟨h1,h2,h3⟩,q1,q2,q3⟩,v,q4,q5⟩,q6,⟨v2,q7,q8⟩,z1,z2⟩,z3,z4,cu,xj,a1,a2,Γ⟩:=Ω;simp only[MM]at Γ;have sh:bC .i64 ((j:Int)+1)=(j:Int)+1:=wrap_i64 (by omega) (by omega);have Du:=ZG y.blocks j eW;have yU:=ZH y.blocks (j+1);have Il:=c_ eW;have vu:=FI r_ Il;have C2:=f233 (u:=u) (b:=b) {ε:=M cu ei++xj,η:=[]} (OR cu ei xj) (OT cu ei xj) re w0 d0 (by omega);have D5:=s8 cu a1;generalize MV:(if re=[]then ei else ju ei re w0 d0)=yJ at*;have acN:(M cu ei++xj).set ck (.cells [.list dJ (ps.map τ.av),.n own,.n (cu+1:Nat)])++[.map (yJ.map bF)]=M (cu+1) ei++(xj++[.map (yJ.map bF)]):=by rw[WA,bO]
     rw[acN]at C2;have xu:(M cu ei++xj).length=(M (cu+1) ei++xj).length:=by simp[OX]
     rw[xu]at C2;have NA:cu+1+δ.bI (y.blocks[j]).2<100000000000:=by omega
     have ac4:∃(eJ:Nat) (fb:List c7),cu+1<=eJ/\eJ<=cu+1+δ.bI (y.blocks[j]).2∧
       kf u 193 [.μ ck 0,eM (M (cu+1) ei++xj).length cu,.list (y.blocks[j]).1 (δ.χ (y.blocks[j]).2)] {ε:=M (cu+1) ei++(xj++[.map (yJ.map bF)]),η:=[]}=some (.n (E y.blocks[j]),{ε:=M eJ ei++(xj++[.map (fb.map bF)]),η:=[]}):=by
      have go:∀c l',bp c->δ.cJ l'->cu+1+δ.bI l'<100000000000->(∀(cb:ρ),bp cb->δ.cJ l'->∀(es:List c7) (L:bX) (b nb ck id:Nat) (m:Mem),m.ε[ck]?=some (.cells [.list dJ (ps.map τ.av),.n own,.n nb])->m.ε[id]?=some (.map (es.map bF))->fZ es b nb L->b<nb->nb+δ.bI l'<100000000000→
        ∃(eJ:Nat) (fb:List c7),nb<=eJ/\eJ<=nb+δ.bI l'/\kf u 193 [.μ ck 0,eM id b,.list cb (δ.χ l')] m=some (.n (gm ps own l' L),{ε:=bM m.ε ck id (.list dJ (ps.map τ.av)) (.n own) eJ fb,η:=m.η}))→
        ∃(eJ:Nat) (fb:List c7),cu+1<=eJ/\eJ<=cu+1+δ.bI l'/\kf u 193 [.μ ck 0,eM (M (cu+1) ei++xj).length cu,.list c (δ.χ l')] {ε:=M (cu+1) ei++(xj++[.map (yJ.map bF)]),η:=[]}=some (.n (gm ps own l' (inside Li y.kind y.name)),{ε:=M eJ ei++(xj++[.map (fb.map bF)]),η:=[]}):=by
       intro c l' hc iH xF hP;obtain⟨eJ,fb,p1,p2,p3⟩:=hP c hc iH yJ _ cu (cu+1) ck (M (cu+1) ei++xj).length {ε:=M (cu+1) ei++(xj++[.map (yJ.map bF)]),η:=[]} (OR _ _ _) (by rw[<-bO];simp) D5 (by omega) (by omega);refine⟨eJ,fb,p1,p2,?_⟩;rw[p3];have:bM (M (cu+1) ei++(xj++[.map (yJ.map bF)])) ck (M (cu+1) ei++xj).length (.list dJ (ps.map τ.av)) (.n own) eJ fb=M eJ ei++(xj++[.map (fb.map bF)]):=by
        have hX:(M eJ ei++xj).length=(M (cu+1) ei++xj).length:=by simp[OX]
        rw[bM,WA,<-bO,<-hX,yl _ _ (bS _),bO];simp
       simp only[this]
      rcases FJ Il with he|he<;>rw[he]at vu NA⊢<;>simp only[E]
      ·exact go _ _ vu.1 vu.2.1 NA xI.1
      ·exact go _ _ vu.1 vu.2.1 NA xI.2
     obtain⟨EF,LP,p1,p2,p3⟩:=ac4;simp only[eM]at C2 p3;generalize(M (cu+1) ei++xj).length=ln at*;simp only[iN,fE]at z1;refine Δ (fun st=>J3 st/\st.e 44= .n j/\MM cu ei xj st/\st.e 45= .bool true) (by simp[J3,J2,J,K,MM,h1,h2,h3,q1,q2,q3,q4,q5,q6,q7,q8,z1,z2,z3,Γ,eW,iN,fE]) fun s7 ⟨⟨⟨⟨⟨h1,h2,h3⟩,q1,q2,q3⟩,v,q4,q5⟩,q6,⟨v2,q7,q8⟩,z1,z2⟩,z3,Γ,z5⟩=>?_;simp only[MM]at Γ;refine Δ (fun st=>J3 st/\st.e 44= .n j/\MM cu ei xj st) (by simp[J3,J2,J,K,MM,h1,h2,h3,q1,q2,q3,q4,q5,q6,q7,q8,z1,z2,z3,z5,Γ]) fun s7 ⟨⟨⟨⟨⟨h1,h2,h3⟩,q1,q2,q3⟩,v,q4,q5⟩,q6,⟨v2,q7,q8⟩,z1,z2⟩,z3,Γ⟩=>?_;simp only[MM]at Γ;simp only[iN,fE]at z1;by_cases yZ:E y.blocks[j]=0
     ·rw[yZ]at p3;refine Δ (fun st=>J3 st/\st.e 44= .n j/\MM EF ei (xj++[.map (LP.map bF)]) st) (by simp[J3,J2,J,K,MM,h1,h2,h3,q1,q2,q3,q4,q5,q6,q7,q8,z1,z2,z3,Γ,eW,iN,fE,C2,p3]) fun s7 ⟨⟨⟨⟨⟨h1,h2,h3⟩,q1,q2,q3⟩,v,q4,q5⟩,q6,⟨v2,q7,q8⟩,z1,z2⟩,z3,Γ⟩=>?_;simp only[MM]at Γ;have z6:=CE (P:=fun k=>∀hk:k<y.blocks.length,E y.blocks[k]=0) (n:=y.blocks.length) (fun k a b c=>z4 k c b) (fun _=>yZ);exact κ.fin (M:=fun st=>J3 st/\st.e 44= .n ((j:Int)+1)/\MM EF ei (xj++[.map (LP.map bF)]) st) .normal (by simp[J3,J2,J,K,MM,h1,h2,h3,q1,q2,q3,q4,q5,q6,q7,q8,z1,z2,z3,Γ,sh]) fun s' ⟨d1,d2,d3⟩=> .inl ⟨rfl,d1,d2,fun k hk vF=>z6 k hk vF hk,EF,_,by omega,by omega,d3⟩
     ·have rW:=LZ eW z4 yZ;have Uv:=eC;rw[if_pos (show first E y.blocks≠0 by rw[rW];exact yZ)]at Uv;have Dt:E y.blocks[j]=gm ps own l L:=rW.symm.trans Uv;rw[Dt]at yZ p3;refine bJ (fun _=>False) ?_ fun _ h=>h.elim;refine κ.fin (M:=fun st=>MM EF ei (xj++[.map (LP.map bF)]) st/\st.e 6= .n (gm ps own l L)) .ret (by simp[MM,h1,h2,h3,q1,q2,q3,q4,q5,q6,q7,q8,z1,z2,z3,Γ,eW,fE,C2,p3,bne_true yZ,yZ]) fun s' ⟨b1,b2⟩=>?_;have hf:Fin s':=⟨EF,ei,_,by omega,by omega,b1⟩;simp[hf,b2]
    ·obtain⟨⟨⟨⟨⟨h1,h2,h3⟩,q1,q2,q3⟩,v,q4,q5⟩,q6,⟨v2,q7,q8⟩,z1,z2⟩,z3,z4,cu,xj,a1,a2,Γ⟩:=Ω;simp only[MM]at Γ;rw[pH]at a2;have hz:=Gg (f:=E) fun k hk=>z4 k hk hk;refine κ.fin (M:=fun st=>J2 st/\MM cu ei xj st) (.exit 3) (by simp[J2,J,K,MM,V0,h1,h2,h3,q1,q2,q3,q4,q5,z1,z2,z3,Γ]) fun s' ⟨d1,d2⟩=>?_;exact⟨by simp,.inl ⟨rfl,.inl ⟨rfl,d1,hz,cu,xj,a1,by omega,d2⟩⟩⟩
   ·simp only[MM]at Γ;rw[if_neg (show¬first E y.blocks≠0 by simpa using hz)]at eC;have It:=Is.mono (show(iA:Int)<=(cu:Int) by omega);have m1:=OT cu ei xj;have m2:=msi cu ei xj;by_cases gE:y.kind=2
    ·refine κ.fin (M:=fun st=>J st/\MM cu (ju ei y.name 1 b) xj st) .normal (by simp[J,K,MM,h1,h2,h3,q1,q2,q3,q4,q5,Γ,kl,k0,k2,gE,dd,m1,m2,isKey,plain,sB,Jb,Mem.put]) fun s' ⟨d1,d2⟩=>?_;have hl:fZ (ju ei y.name 1 b) b cu (after Li y.kind y.name):=by have:=It.put y.name 1 b (by decide) (by omega);simpa[after,gE,ke]using this
     simp;exact⟨d1,cu,by omega,by omega,_,hl,⟨xj,d2⟩,eC⟩
    by_cases rY:y.kind=3
    ·refine κ.fin (M:=fun st=>J st/\MM cu (n9 ei y.name) xj st) .normal (by simp[J,K,MM,h1,h2,h3,q1,q2,q3,q4,q5,Γ,kl,k0,k2,rY,dd,m1,m2,isKey,agj,Mem.put]) fun s' ⟨d1,d2⟩=>?_;have hl:fZ (n9 ei y.name) b cu (after Li y.kind y.name):=by have:=It.del y.name;simpa[after,rY]using this
     simp;exact⟨d1,cu,by omega,by omega,_,hl,⟨xj,d2⟩,eC⟩
    by_cases p8:y.kind=5
    ·refine κ.fin (M:=fun st=>J st/\MM cu (ju ei y.name 2 0) xj st) .normal (by simp[J,K,MM,h1,h2,h3,q1,q2,q3,q4,q5,Γ,kl,k0,k2,p8,dd,m1,m2,isKey,plain,sB,Jb,Mem.put]) fun s' ⟨d1,d2⟩=>?_;have hl:fZ (ju ei y.name 2 0) b cu (after Li y.kind y.name):=by have:=It.put y.name 2 0 (by decide) (by omega);simpa[after,p8,ke]using this
     simp;exact⟨d1,cu,by omega,by omega,_,hl,⟨xj,d2⟩,eC⟩
    ·refine κ.fin (M:=fun st=>J st/\MM cu (ei) xj st) .normal (by simp[J,K,MM,h1,h2,h3,q1,q2,q3,q4,q5,Γ,kl,k0,k2,ff gE,ff rY,ff p8]) fun s' ⟨d1,d2⟩=>?_;have hl:fZ (ei) b cu (after Li y.kind y.name):=by simpa[after,gE,rY,p8]using It
     simp;exact⟨d1,cu,by omega,by omega,_,hl,⟨xj,d2⟩,eC⟩
  ·obtain⟨⟨h1,h2,h3⟩,q1,q2,q3,iA,ei,ext,Li,p_,nF,Is,Γ,eC⟩:=Ω;rw[pH]at nF;rw[alJ]at eC;have hz:gm ps own l L=0:=eC.symm;refine κ.fin (M:=fun st=>st.mem= {ε:=M iA ei++ext,η:=[]}) (.exit 0) (by simp[V1,h1,h2,h3,q1,q2,q3,Γ]) fun s' d1=>?_;have hf:Fin s':=⟨iA,ei,ext,p_,nF,d1⟩;simp[hf,hz]
 obtain⟨r,r1,r2,⟨eJ,fb,ext,r3,r4,r5⟩,r6⟩:=dZ;exact⟨eJ,fb,r3,r4,kF (g:=Ba) rfl rfl rfl (OX eJ fb) ⟨r,r1,r2,⟨ext,r5⟩,[_],by simp[Ba];exact r6,by simp⟩⟩
theorem yE{c:ρ}(h:bp c)(n:Nat):c.lo n=true:=by rcases h with rfl|rfl<;>rfl
theorem ζ.I1(n:Nat)(x:ζ):x.Ok->lo n x.av=true:=by
 refine ζ.jR (Q:=fun x=>x.Ok->lo n x.av=true) (fun k nn s c l ih h=>?_) x;simp only[ζ.Ok]at h;have:ba n (ζ.χ l)=true:=by rw[mn,ζ.eo,nj,dO];exact fun y hy=>ih y hy (ζ.iB h.2 y hy)
 simp[ζ.av,lo,ba,yE h.1,this]
theorem ξ.I1(n:Nat)(p:ξ)(h:p.Ok):lo n p.av=true:=by
 have:ba n (p.ix.map ζ.av)=true:=by rw[mn,nj,dO];exact fun y hy=>ζ.I1 n y (h.2.2 y hy).1
 simp[ξ.av,lo,ba,yE h.2.1,this]
theorem agd(n:Nat)(a b:List AV):ba n (a++b)=(ba n a&&ba n b):=by simp[mn]
theorem δ.ON(n:Nat)(x:δ):x.Ok->ba n x.cells=true:=by
 refine δ.jR (Q:=fun x=>x.Ok->ba n x.cells=true) (fun kk g nm cp pl size to cb body ce els h1 h2 h=>?_) x;simp only[δ.Ok]at h;obtain⟨-,k1,k2,k3,k4,k5,k6,k7,k8⟩:=h;have e1:ba n (pl.map ξ.av)=true:=by rw[mn,nj,dO];exact fun p hp=>ξ.I1 n p (k2 p hp)
 have e2:∀y:ζ,y.Ok->ba n y.four=true:=fun y hy=>by have:=ζ.I1 n y hy;rwa[ζ.fD,lo]at this
 have go:∀l:List δ,δ.cJ l->(∀y∈l,y.Ok->ba n y.cells=true)->ba n (δ.χ l)=true:=by intro l hl hy;rw[mn,δ.eo,nj,dO];exact fun y hm=>by simp only[Function.comp,δ.av,lo];exact hy y hm (δ.iB hl y hm)
 simp[δ.cells,agd,ba,lo,yE k1,yE k5,yE k7,e1,e2 _ k3.1,e2 _ k4.1,go body k6 h1,go els k8 h2]
theorem δ.af5(n:Nat)(l:List δ)(h:δ.cJ l):ba n (δ.χ l)=true:=by rw[mn,δ.eo,nj,dO];exact fun y hm=>by simp only[Function.comp,δ.av,lo];exact δ.ON n y (δ.iB h y hm)
theorem ahT(n:Nat)(l:List ak):ba n (l.map ak.av)=true:=by rw[mn,nj,dO];exact fun y hm=>rfl
theorem Ks(gl:Nat->AV)(cv:cx)(l:List aW):∀s:St,(ew gl cv l s).bind List.getLast?=dY gl cv l s:=by
 induction l with
 |nil=>intro s;rfl
 |cons o l ih=>
  intro s
  simp only[ew,dY];cases h:dP gl cv o s with
  |none=>rfl
  |some s'=>
   have:=ih s'
   simp only;cases hs:ew gl cv l s' with
   |none=>rw[hs]at this;simpa using this
   |some tr=>
    rw[hs]at this
    simp only[Option.bind_some,Option.map_some]at this⊢;rw[<-this];cases tr with
    |nil=>
     exfalso
     cases l with
     |nil=>simp[ew]at hs
     |cons o' l'=>
      simp only[ew]at hs
      split at hs
      ·rw[Option.map_eq_some_iff]at hs;obtain⟨_,_,hs⟩:=hs;cases hs
      ·cases hs
    |cons a tr=>rw[List.getLast?_cons_cons]
theorem Ko(gl:Nat->AV)(cv:cx)(l:List aW)(s:St):e_ gl cv l [] [] s=dY gl cv l s:=by rw[<-Ks];simp only[e_];cases ew gl cv l s<;>rfl
theorem Lq{c:ρ}(h:bp c)(b:Prop)[Decidable b]:(if c= .nil then ρ.nil else if c= .full/\b then .full else .any)=c:=by rcases h with rfl|rfl<;>simp
theorem ahQ(x:ak)(l:List ak)(L:bX):ri (x::l) L=if dc x.name=false then 4 else if x.size<1\/12<x.size then 3 else if L x.name≠ .none then 5 else ri l (L.put x.name (.ki false)):=rfl
theorem f126(dJ:ρ)(nD:bp dJ)(ps:List τ)(cX:∀x∈ps,x.Ok)(cO:g_ ps<10000000000)(k:Nat)(hk:k<ps.length)(ck:Nat)(m:Mem)(dC:m.ε[ck]?=some (.cells [.list dJ (ps.map τ.av),.n k,.n 0])):
  ∃nb:Nat,kf u 126 [.μ ck 0] m=some (.n (sD ps k ps[k]),{ε:=m.ε.set ck (.cells [.list dJ (ps.map τ.av),.n k,.n nb]),η:=m.η}):=by
 have lu:=sX dC;have hlen:=Xi ps;have hm:ps[k]∈ps:=c_ hk;have ai:=cX _ hm;have mg:=τ.oI hm;simp only[τ.wt]at mg;have er:∀M:Mem,M.ν=ν:=fun _=>rfl;have vN:cw (ps[k].au.map ak.av)=ps[k].au.map ak.av:=by rw[fH,cT];exact de fun _ _=>rfl
 have vM:cw (δ.χ ps[k].body)=δ.χ ps[k].body:=by rw[fH,δ.eo,cT];exact de fun y _=>by simp only[Function.comp,δ.av,ν,δ.zN]
 have jX:(ps.map τ.av).all (fun e=>decide (e.cells.length=3))=true:=by simp[τ.av]
 have Vc:∀p∈ps.take k,p.Ok:=fun p hp=>cX p (List.mem_of_mem_take hp);generalize Ed:ps[k]=x at*;let xc:List AV:=[.str x.name,.list x.cp (x.au.map ak.av),.list x.cb (δ.χ x.body)];let B1:List θ:=m.ε++[.cells xc];let rK:Nat->θ:=fun n=> .cells [.list dJ (ps.map τ.av),.n k,.n n];have d0:∀ext,(B1++ext)[ck]?=some (rK 0):=fun ext=>by simp only[B1,bO];rw[ek lu];exact dC
 have d1:∀ext,(B1++ext)[m.ε.length]?=some (.cells xc):=fun ext=>by simp[B1]
 have HO:B1.length=m.ε.length+1:=by simp[B1]
 let Fin:St->Prop:=fun st=>∃(nb:Nat) (ext:List θ),st.mem= {ε:=m.ε.set ck (rK nb)++ext,η:=[]};have wX:∀{st:St} {ext:List θ},st.mem= {ε:=B1++ext,η:=[]}->Fin st:=fun{st ext} h=>⟨0,[.cells xc]++ext,by rw[h,PN (x:=rK 0) dC];simp[B1]⟩;have dZ:κ (C u).gl (ab (C u)) A8.code {env:=([]++[AV.μ ck 0]++[]).map (exp m.ε.length false),loc:=[],mem:= {ε:=m.ε,η:=[]}} fun r=>
   (∀i,r.1≠ .exit i)/\Fin r.2/\aK r.2.env 2= .n (sD ps k x):=by
  have eL:([]++[AV.μ ck 0]++[]).map (exp m.ε.length false)=[AV.μ ck 0]:=by simp[exp,lu]
  rw[eL];simp only[A8,QY];let K:St->Prop:=fun st=>st.e 0= .μ ck 0/\st.e 3= .μ m.ε.length 0;let MM:List θ->St->Prop:=fun ext st=>st.mem= {ε:=B1++ext,η:=[]};refine Δ (fun st=>st.e 0= .μ ck 0/\st.mem= {ε:=m.ε,η:=[]}) (by simp) fun s1 ⟨h1,h2⟩=>?_;have ab9:(m.ε++[θ.cells [AV.str [],AV.list ρ.nil [],AV.list ρ.nil []]])[ck]?=some (.cells [.list dJ (ps.map τ.av),.n k,.n 0]):=by rw[ek lu];exact dC
  refine Δ (fun st=>K st/\MM [] st) (by simp[K,MM,B1,xc,h1,h2,dC,ab9,hk,Ed,τ.av,cN,nY,cQ,eK,AV.gK,AV.beq,AV.kM,Mem.push,Mem.put,er,ν,cw,vN,vM,ba,lo,yE ai.2.1,yE ai.2.2.2.1,ahT,δ.af5 _ _ ai.2.2.2.2.1]) fun s1 ⟨⟨h1,h2⟩,h3⟩=>?_;simp only[MM,dF]at h3;have F2:=d0 [];have d10:=d1 [];simp only[dF,rK,xc]at F2 d10;have rM:=fun m=>f113 (u:=u) x.name ai.1 m;have tf:Fix B1.length (.fn (.func 190) [] [.μ m.ε.length 0]):=by
   intro kk bb eI;have:m.ε.length<kk:=by omega
   simp[exp,aX,Fn.below,this]
  let S1:St->Prop:=fun st=>K st/\MM [] st;have alj:¬4<x.au.length->¬(4:Int)<(x.au.length:Int):=fun h=>by omega
  have AS:=fun c hc=>f189 (u:=u) (q:=fun p=>p.name==x.name) tf c hc (ps.take k) Vc (by rw[List.length_take];omega) (fun p hp=>f190 x.name [.list x.cp (x.au.map ak.av),.list x.cb (δ.χ x.body)] (by simpa[xc]using d1 []) p (Vc p hp)) [] [];simp only[dF,List.map_take]at AS;unfold sD;cases hn:dc x.name with
  |false=>
   rw[hn]at rM
   refine bJ (fun _=>False) ?_ fun _ h=>h.elim;refine κ.fin (M:=fun st=>MM [] st/\st.e 2= .n 4) .ret (by simp[MM,h1,h2,h3,d10,rM]) fun s' ⟨b1,b2⟩=>?_;have hf:Fin s':=wX b1;simp[hf,b2]
  |true=>
  rw[hn]at rM
  simp only[Cn,if_false];have ux:(k:Int)<=(ps.length:Int):=by omega
  have xq:((k:Int)).toNat=k:=by omega
  by_cases Iv:((ps.take k).any fun p=>p.name==x.name)=true
  ·rw[if_pos Iv];refine bJ (fun _=>False) ?_ fun _ h=>h.elim;refine κ.fin (M:=fun st=>MM [] st/\st.e 2= .n 5) .ret (by
    rw[Iv]at AS
    simp[-e_,-ew,Ko,MM,h1,h2,h3,F2,d10,rM,bound,ux,xq,τ.av,AS _ nD,Lq nD]) fun s' ⟨b1,b2⟩=>?_
   have hf:Fin s':=wX b1;simp[hf,b2]
  rw[if_neg Iv];have adh:((ps.take k).any fun p=>p.name==x.name)=false:=by simpa using Iv
  rw[adh]at AS;by_cases Ik:4<x.au.length
  ·rw[if_pos Ik];have NL:(4:Int)<(x.au.length:Int):=by omega
   refine bJ (fun _=>False) ?_ fun _ h=>h.elim;refine κ.fin (M:=fun st=>MM [] st/\st.e 2= .n 2) .ret (by simp[-e_,-ew,Ko,MM,h1,h2,h3,F2,d10,rM,bound,ux,xq,τ.av,AS _ nD,Lq nD,NL]) fun s' ⟨b1,b2⟩=>?_;have hf:Fin s':=wX b1;simp[hf,b2]
  rw[if_neg Ik];have NL:¬(4:Int)<(x.au.length:Int):=by omega
  refine Δ (S1) (by simp[S1,K,-e_,-ew,Ko,MM,h1,h2,h3,F2,d10,rM,bound,ux,xq,τ.av,AS _ nD,Lq nD,NL]) fun s1 ⟨⟨h1,h2⟩,h3⟩=>?_;simp only[MM,dF]at h3;let id:Nat:=m.ε.length+1;let S2:List c7->St->Prop:=fun es st=>K st/\(∃v,st.e 4= .aj 4 v 0/\st.q 4=some (v,.cells [.map id,.n 0]))/\MM [.map (es.map bF)] st;refine Δ (S2 []) (by simp[S2,K,MM,h1,h2,h3,dd,Mem.push,HO,id]) fun s1 ⟨⟨h1,h2⟩,⟨v,h4,h5⟩,h3⟩=>?_;simp only[MM]at h3;have hid:∀(es:List c7) ext,(B1++(θ.map (es.map bF)::ext))[id]?=some (.map (es.map bF)):=fun es ext=>by show(B1++(θ.map (es.map bF)::ext))[m.ε.length+1]?=_;rw[<-HO];simp
  have kR:∀(es fb:List c7),(B1++[θ.map (es.map bF)]).set id (.map (fb.map bF))=B1++[.map (fb.map bF)]:=fun es fb=>by show(B1++[θ.map (es.map bF)]).set (m.ε.length+1) _=_;rw[<-HO];simp
  refine bJ (fun st=>ri x.au pA=0/\∃es,fZ es 0 1 (rj x.au pA)/\S2 es st) ?_ fun s1 ⟨hz,es,hs,⟨h1,h2⟩,⟨v,h4,h5⟩,h3⟩=>?_
  ·let I:Nat->St->Prop:=fun i st=>st.e 45= .list x.cp (x.au.map ak.av)/\st.e 46= .n x.au.length/\st.e 47= .n i/\∃es L',fZ es 0 1 L'/\S2 es st/\ri (x.au.drop i) L'=ri x.au pA/\rj (x.au.drop i) L'=rj x.au pA;have yH:=d1 [.map []];simp only[xc]at yH;refine Δ (fun st=>st.e 45= .list x.cp (x.au.map ak.av)/\st.e 46= .n x.au.length/\st.e 47= .n 0/\S2 [] st) (by simp[S2,K,MM,h1,h2,h3,h4,h5,yH]) fun s4 ⟨a1,a2,a3,a4⟩=>?_;refine κ.block (κ.loop (I:=I) x.au.length ⟨a1,a2,a3,[],pA,fZ.empty 0 1,a4,rfl,rfl⟩ fun i st hi Ω=>?_);obtain⟨q1,q2,q3,es,L',tu,⟨⟨h1,h2⟩,⟨v,h4,h5⟩,h3⟩,q4,q5⟩:=Ω;simp only[MM]at h3;rcases da i x.au.length with eW|dD
   ·have kS:bC .i64 ((i:Int)+1)=(i:Int)+1:=wrap_i64 (by omega) (by omega);rw[nk eW]at q4 q5;rw[ahQ]at q4;simp only[rj]at q5;have ac1:du x.au[i].name:=ai.2.2.1 _ (c_ eW);have f191:=f191 (u:=u) (B:=B1++[.map (es.map bF)]) (by simpa using hid es []) tu x.au[i].name ac1 [] [];simp only[eM,dF]at f191;have ak':id<(B1++[θ.map (es.map bF)]).length:=by simp[HO,id]
    by_cases vN:dc x.au[i].name=false
    ·rw[if_pos vN]at q4;have φ:fG L' x.au[i].name=4:=by simp[fG,vN]
     rw[φ]at f191;right;have hx:∃s',exec (C u).gl (ab (C u)) dN sr st=some (.ret,s')/\MM [.map (es.map bF)] s'/\s'.e 2= .n 4:=by simp[MM,sr,h1,h2,h3,h4,h5,q1,q2,q3,eW,ak.av,f191]
     obtain⟨s',b0,b1,b2⟩:=hx;refine⟨_,b0,by simp,?_⟩;have hf:Fin s':=wX b1;simp[hf,b2,<-q4]
    rw[if_neg vN]at q4;have NH:dc x.au[i].name=true:=by simpa using vN
    have U7:fG L' x.au[i].name≠4:=by simp only[fG,NH,Cn,if_false];split<;>decide
    by_cases aL:x.au[i].size<1\/12<x.au[i].size
    ·rw[if_pos aL]at q4;right;have hx:∃s',exec (C u).gl (ab (C u)) dN sr st=some (.ret,s')/\MM [.map (es.map bF)] s'/\s'.e 2= .n 3:=by
      rcases aL with aL|aL
      ·simp[MM,sr,h1,h2,h3,h4,h5,q1,q2,q3,eW,ak.av,f191,ff U7,aL]
      ·have:¬x.au[i].size<1:=by omega
       simp[MM,sr,h1,h2,h3,h4,h5,q1,q2,q3,eW,ak.av,f191,ff U7,aL,this]
     obtain⟨s',b0,b1,b2⟩:=hx;refine⟨_,b0,by simp,?_⟩;have hf:Fin s':=wX b1;simp[hf,b2,<-q4]
    rw[if_neg aL]at q4;have uA:¬x.au[i].size<1:=by omega
    have nG:¬12<x.au[i].size:=by omega
    by_cases xu:L' x.au[i].name= .none
    ·rw[if_neg (by simpa using xu)]at q4;have φ:fG L' x.au[i].name=0:=by simp[fG,NH,xu]
     rw[φ]at f191;left;refine⟨eW,?_⟩;have hx:∃s',exec (C u).gl (ab (C u)) dN sr st=some (.normal,s')/\S2 (ju es x.au[i].name 1 (-1)) s'/\s'.e 45= .list x.cp (x.au.map ak.av)/\s'.e 46= .n x.au.length/\s'.e 47= .n ((i:Int)+1):=by simp[S2,K,MM,sr,h1,h2,h3,h4,h5,q1,q2,q3,eW,ak.av,f191,uA,nG,kS,dd,hid,kR,isKey,plain,sB,Jb,Mem.put]
     obtain⟨s',b0,b1,b2,b3,b4⟩:=hx;have:=tu.put x.au[i].name 1 (-1) (by decide) (by omega);exact⟨s',b0,b2,b3,b4,_,_,by simpa[ke]using this,b1,q4,q5⟩
    ·rw[if_pos xu]at q4;have φ:fG L' x.au[i].name=5:=by simp[fG,NH,xu]
     rw[φ]at f191;right;have hx:∃s',exec (C u).gl (ab (C u)) dN sr st=some (.ret,s')/\MM [.map (es.map bF)] s'/\s'.e 2= .n 5:=by simp[MM,sr,h1,h2,h3,h4,h5,q1,q2,q3,eW,ak.av,f191,uA,nG]
     obtain⟨s',b0,b1,b2⟩:=hx;refine⟨_,b0,by simp,?_⟩;have hf:Fin s':=wX b1;simp[hf,b2,<-q4]
   ·right;have:i=x.au.length:=by omega
    subst this;rw[alJ]at q4 q5;simp only[ri]at q4;simp only[rj]at q5;have hx:∃s',exec (C u).gl (ab (C u)) dN sr st=some (.exit 1,s')/\S2 es s':=by simp[S2,K,MM,sr,h1,h2,h3,h4,h5,q1,q2,q3]
    obtain⟨s',b0,b1⟩:=hx;refine⟨_,b0,by simp,.inl ⟨rfl,.inl ⟨rfl,q4.symm,es,?_,b1⟩⟩⟩;rw[<-q5];exact tu
  simp only[MM]at h3;rw[hz];simp only[ne_eq,not_true_eq_false,if_false];have yH:=d1 [.map (es.map bF)];have Su:=d0 [.map (es.map bF)];simp only[xc]at yH;simp only[rK]at Su;have hcw:=δ.Lm x.body;have Lz:=fun m=>f135 (u:=u) x.cb ai.2.2.2.1 x.body ai.2.2.2.2.1 (by omega) m;have SG:=fun m=>f192 (u:=u) x.body x.cb ai.2.2.2.1 ai.2.2.2.2.1 1 (by omega) (by omega) m;have hdp:l7 (δ.dA x.body) 1=δ.dA x.body:=by unfold l7;split<;>omega
  rw[hdp]at SG;have SH:∀m,kf u 192 [.list x.cb (δ.χ x.body),.n 1] m=some (.n (δ.dA x.body),m):=SG;by_cases hc:120<δ.bL x.body
  ·rw[if_pos hc];have gX:(120:Int)<(δ.bL x.body:Int):=by omega
   refine bJ (fun _=>False) ?_ fun _ h=>h.elim;refine κ.fin (M:=fun st=>MM [.map (es.map bF)] st/\st.e 2= .n 2) .ret (by simp[MM,h1,h2,h3,h4,h5,yH,Lz,gX]) fun s' ⟨b1,b2⟩=>?_;have hf:Fin s':=wX b1;simp[hf,b2]
  rw[if_neg hc];have eG:¬(120:Int)<(δ.bL x.body:Int):=by omega
  by_cases hd:6<δ.dA x.body
  ·rw[if_pos hd];have kD:(6:Int)<(δ.dA x.body:Int):=by omega
   refine bJ (fun _=>False) ?_ fun _ h=>h.elim;refine κ.fin (M:=fun st=>MM [.map (es.map bF)] st/\st.e 2= .n 11) .ret (by simp[MM,h1,h2,h3,h4,h5,yH,Lz,eG,SH,kD]) fun s' ⟨b1,b2⟩=>?_;have hf:Fin s':=wX b1;simp[hf,b2]
  rw[if_neg hd];have iq:¬(6:Int)<(δ.dA x.body:Int):=by omega
  refine Δ (S2 es) (by simp[S2,K,MM,h1,h2,h3,h4,h5,yH,Lz,eG,SH,iq]) fun s1 ⟨⟨h1,h2⟩,⟨v,h4,h5⟩,h3⟩=>?_;simp only[MM]at h3;let B2:List θ:=m.ε.set ck (rK 1);have HP:(B1++[θ.map (es.map bF)]).set ck (.cells [.list dJ (ps.map τ.av),.n k,.n 1])=B2++[.cells xc,.map (es.map bF)]:=by simp only[B1,bO];rw[nr _ _ lu];rfl
  have Dk:B2.length=m.ε.length:=by simp[B2]
  have ab_:(B2++[θ.cells xc,.map (es.map bF)])[ck]?=some (.cells [.list dJ (ps.map τ.av),.n k,.n (1:Nat)]):=by rw[ek (by omega)];simp[B2,rK,lu]
  have acx:(B2++[θ.cells xc,.map (es.map bF)])[id]?=some (.map (es.map bF)):=by show(B2++[θ.cells xc,.map (es.map bF)])[m.ε.length+1]?=_;rw[<-Dk];simp
  obtain⟨eJ,fb,p1,p2,p3⟩:=f193 (u:=u) dJ nD ps cX (by omega) k x.body x.cb ai.2.2.2.1 ai.2.2.2.2.1 es _ 0 1 ck id {ε:=B2++[.cells xc,.map (es.map bF)],η:=[]} ab_ acx hs (by omega) (by omega);have HW:bM (B2++[θ.cells xc,.map (es.map bF)]) ck id (.list dJ (ps.map τ.av)) (.n k) eJ fb=m.ε.set ck (rK eJ)++[.cells xc,.map (fb.map bF)]:=by
   unfold bM;rw[nr _ _ (by omega)];have:B2.set ck (.cells [.list dJ (ps.map τ.av),.n k,.n eJ])=m.ε.set ck (rK eJ):=by simp[B2,rK]
   rw[this,yl _ _ (by simp[id])];simp[id]
  simp only[HW,eM]at p3;have p3':kf u 193 [.μ ck 0,.agg [.map id,.n 0],.list x.cb (δ.χ x.body)] {ε:=B2++[.cells xc,.map (es.map bF)],η:=[]}=some (.n (gm ps k x.body (rj x.au pA)),{ε:=m.ε.set ck (rK eJ)++[.cells xc,.map (fb.map bF)],η:=[]}):=p3;refine Δ (fun st=>K st/\(∃v,st.e 4= .aj 4 v 0/\st.q 4=some (v,.cells [.map id,.n 0]))/\st.mem= {ε:=B2++[.cells xc,.map (es.map bF)],η:=[]}) (by simp[K,h1,h2,h3,h4,h5,Su,HP,Mem.put,er,ν,ba,lo]) fun s1 ⟨⟨h1,h2⟩,⟨v,h4,h5⟩,h3⟩=>?_;have d3e:(B2++[θ.cells xc,.map (es.map bF)])[m.ε.length]?=some (.cells [.str x.name,.list x.cp (x.au.map ak.av),.list x.cb (δ.χ x.body)]):=by rw[<-Dk];simp[xc]
  refine κ.fin (M:=fun st=>st.mem= {ε:=m.ε.set ck (rK eJ)++[.cells xc,.map (fb.map bF)],η:=[]}/\st.e 2= .n (gm ps k x.body (rj x.au pA))) .ret (by simp[h1,h2,h3,h4,h5,d3e,p3']) fun s' ⟨b1,b2⟩=>?_;have hf:Fin s':=⟨eJ,_,b1⟩;simp[hf,b2]
 obtain⟨r,r1,r2,⟨nb,ext,r3⟩,r4⟩:=dZ;exact⟨nb,kF (g:=A8) rfl rfl rfl (by simp) ⟨r,r1,r2,⟨ext,r3⟩,[_],by simp[A8];exact r4,by simp⟩⟩
theorem f43(dJ:ρ)(nD:bp dJ)(ps:List τ)(cX:∀x∈ps,x.Ok)(cO:g_ ps<10000000000)(m:Mem):
  kf u 43 [tH dJ ps] m=some (.n (nw ps),m):=by
 refine dI (g:=HC) rfl rfl rfl ?_;simp only[az,aJ,S9 nD cX];simp only[HC,RU];have hlen:=Xi ps;have er:∀M:Mem,M.ν=ν:=fun _=>rfl;have vN:cw (ps.map τ.av)=ps.map τ.av:=by
  rw[fH,cT];refine de fun p _=>?_;have h1:cw (p.au.map ak.av)=p.au.map ak.av:=by rw[fH,cT];exact de fun _ _=>rfl
  have h2:cw (δ.χ p.body)=δ.χ p.body:=by rw[fH,δ.eo,cT];exact de fun y _=>by simp only[Function.comp,δ.av,ν,δ.zN]
  simp only[Function.comp,τ.av,ν,cw,h1,h2]
 simp only[tH]at*;let K:List θ->St->Prop:=fun ext st=>st.e 1= .aj 1 0 0/\st.q 1=some (0,.cells [.list dJ (ps.map τ.av)])/\st.mem= {ε:=m.ε++ext,η:=[]};refine Δ (K []) (by simp[K,bz]) fun s1 ⟨h1,h2,h3⟩=>?_;unfold nw;by_cases ho:ps.length<1\/12<ps.length
 ·rw[if_pos ho];refine bJ (fun _=>False) ?_ fun _ h=>h.elim;by_cases h0:ps.length<1
  ·have:(ps.length:Int)<1:=by omega
   simp[h1,h2,h3,this]
  ·have Mi:¬(ps.length:Int)<1:=by omega
   have Mj:(12:Int)<ps.length:=by omega
   simp[h1,h2,h3,Mi,Mj]
 rw[if_neg ho];have Mi:¬(ps.length:Int)<1:=by omega
 have Mj:¬(12:Int)<ps.length:=by omega
 refine Δ (K []) (by simp[K,h1,h2,h3,Mi,Mj]) fun s1 ⟨h1,h2,h3⟩=>?_;refine bJ (fun st=>(∃ext,K ext st)/\tI ps 0 ps=0) ?_ fun s2 ⟨⟨ext,h1,h2,h3⟩,h4⟩=>by simp[h3,h4]
 let I:Nat->St->Prop:=fun i st=>(∃ext,K ext st)/\st.e 17= .n ps.length/\st.e 18= .n i/\tI ps i (ps.drop i)=tI ps 0 ps;refine Δ (fun st=>K [] st/\st.e 17= .n ps.length/\st.e 18= .n 0) (by simp[K,h1,h2,h3]) fun s4 ⟨a1,a2,a3⟩=>?_;refine κ.block (κ.loop (I:=I) ps.length ⟨⟨[],a1⟩,a2,a3,rfl⟩ fun i st hi Ω=>?_);obtain⟨⟨ext,h1,h2,h3⟩,q1,q2,q3⟩:=Ω;rcases da i ps.length with ψ|dD
 ·have kS:bC .i64 ((i:Int)+1)=(i:Int)+1:=wrap_i64 (by omega) (by omega);have tm:(m.ε++(ext++[θ.cells [.list dJ (ps.map τ.av),.n i,.n 0]]))[(m.ε++ext).length]?=some (.cells [.list dJ (ps.map τ.av),.n i,.n 0]):=by rw[<-bO];simp
  obtain⟨nb,e⟩:=f126 (u:=u) dJ nD ps cX cO i ψ (m.ε++ext).length {ε:=m.ε++(ext++[.cells [.list dJ (ps.map τ.av),.n i,.n 0]]),η:=[]} tm;have kR:(m.ε++(ext++[θ.cells [.list dJ (ps.map τ.av),.n i,.n 0]])).set (m.ε++ext).length (.cells [.list dJ (ps.map τ.av),.n i,.n nb])=m.ε++(ext++[.cells [.list dJ (ps.map τ.av),.n i,.n nb]]):=by rw[<-bO,yl _ _ (bS _)];simp
  simp only[kR,cI]at e;rw[nk ψ]at q3;simp only[tI]at q3;by_cases hz:sD ps i ps[i]=0
  ·rw[if_neg (by simpa using hz)]at q3;rw[hz]at e;left;refine⟨ψ,?_⟩;have hx:∃s',exec (C u).gl (ab (C u)) dN BM st=some (.normal,s')/\K (ext++[.cells [.list dJ (ps.map τ.av),.n i,.n nb]]) s'/\s'.e 17= .n ps.length/\s'.e 18= .n ((i:Int)+1):=by simp[K,BM,h1,h2,h3,q1,q2,ψ,e,kS,dd,Mem.push,er,ν,cw,vN]
   obtain⟨s',b1,b2,b3,b4⟩:=hx;exact⟨s',b1,⟨_,b2⟩,b3,b4,q3⟩
  ·rw[if_pos hz]at q3;rw[q3]at e hz;right;simp[BM,h1,h2,h3,q1,q2,ψ,e,bne_true hz,dd,Mem.push,er,ν,cw,vN]
 ·right;have:i=ps.length:=by omega
  subst this;rw[alJ]at q3;simp only[tI]at q3;have hx:∃s',exec (C u).gl (ab (C u)) dN BM st=some (.exit 0,s')/\K ext s':=by simp[K,BM,h1,h2,h3,q1,q2]
  obtain⟨s',b1,b2⟩:=hx;refine⟨_,b1,by simp,?_⟩;left;exact⟨rfl,.inl ⟨rfl,⟨ext,b2⟩,q3.symm⟩⟩
def CM{α:Type}(l:List α):ρ:=match l with
 |[]=> .nil
 |_=> .any
def _root_.Go.Θ.ξ.copy(p:ξ):ξ:=⟨p.name,CM p.ix,Lo p.ix⟩
mutual
def _root_.Go.Θ.δ.copy:δ->δ
 | .mk k g nm _ pl size to _ body _ els=> .mk k g nm (CM pl) (pl.map ξ.copy) size.copy to.copy (CM body) (JC body) (CM els) (JC els)
def JC:List δ->List δ
 |[]=>[]
 |s::l=>s.copy::JC l
end
def _root_.Go.Θ.τ.copy(p:τ):τ:=⟨p.name,p.cp,p.au,CM p.body,JC p.body⟩
structure oM (n:Nat) (bs:List θ) (sz:Nat) (e:TypeId) (c:ρ) (len:Nat):Prop where
 r:Row n bs sz e c len
 n:len=0->c= .nil
theorem oM.nil{n:Nat}{bs:List θ}{sz:Nat}{e:TypeId}:oM n bs sz e .nil 0:=⟨Row.nil,fun _=>rfl⟩
end Go.Θ.Tz
namespace Go.Θ
def paren(b:Bool)(s:List Nat):List Nat:=if b then 40::(s++[41])else s
def xR(k:Int):List Nat:=if k=3 then[32,43,32]else if k=4 then[32,45,32]else[32,42,32]
def fW(k:Int):Bool:=decide (k=3)||decide (k=4)
def ζ.kind:ζ->Int
 | .mk k _ _ _ _=>k
def xK(k n:Int)(s:List Nat)(ks:List Int)(ts:List (List Nat)):List Nat:=
 if k=1 then fq n.toNat else if k=2 then s else
  match ks,ts with
  |[ka,kb],[ta,tb]=>paren (decide (k=5)&&fW ka) ta++xR k++paren (if k=5 then decide (3<=kb)else fW kb) tb
  |_,_=>[]
mutual
def ζ.text:ζ->List Nat
 | .mk k n s _ l=>xK k n s (l.map ζ.kind) (ζ.texts l)
def ζ.texts:List ζ->List (List Nat)
 |[]=>[]
 |x::l=>x.text::ζ.texts l
end
mutual
def ζ.mG:ζ->Prop
 | .mk k n s _ l=>kX k n l.length=0/\(k=2->s.length<=8)/\ζ.Fq l
def ζ.Fq:List ζ->Prop
 |[]=>True
 |x::l=>x.mG/\ζ.Fq l
end
theorem ζ.X0{l:List ζ}(h:ζ.Fq l):∀x∈l,x.mG:=by
 induction l with
 |nil=>intro x hx;cases hx
 |cons a l ih=>
  intro x hx
  rcases cy.1 hx with rfl|hx
  ·exact h.1
  ·exact ih h.2 x hx
theorem ζ.W5{may:List Nat->Bool}{no:Int}(gG:no≠0)(hm:∀s,may s=true->s.length<=8)(x:ζ):x.part may no=0->x.mG:=by
 refine ζ.jR (Q:=fun x=>x.part may no=0->x.mG) (fun k n s c l ih h=>?_) x;simp only[ζ.part]at h;split at h
 ·contradiction
 ·rename_i h0;split at h
  ·exact absurd h gG
  ·rename_i h2;refine⟨by simpa using h0,fun hk=>?_,?_⟩
   ·cases hb:may s with
    |true=>exact hm s hb
    |false=>exact absurd ⟨hk,hb⟩ h2
   ·induction l with
    |nil=>trivial
    |cons a l xH=>
     simp only[ζ.parts]at h
     split at h
     ·contradiction
     ·rename_i ha;refine⟨ih a (by simp) (by simpa using ha),?_⟩;have go:∀l:List ζ,(∀y∈l,y.part may no=0->y.mG)->ζ.parts may no l=0->ζ.Fq l:=by
       intro l;induction l with
       |nil=>intro _ _;trivial
       |cons b l pg=>
        intro h1 h2
        simp only[ζ.parts]at h2;split at h2
        ·contradiction
        ·rename_i hb;exact⟨h1 b (by simp) (by simpa using hb),pg (fun y hy=>h1 y (by simp[hy])) h2⟩
      exact go l (fun y hy=>ih y (by simp[hy])) h
theorem vh(n:Nat):(fq n).length<=2:=by unfold fq;split<;>simp
theorem Jk(b:Bool)(s:List Nat):(paren b s).length<=s.length+2:=by unfold paren;split<;>simp
theorem agL(k:Int):(xR k).length=3:=by unfold xR;split<;>(try split)<;>rfl
theorem ζ.sG(x:ζ):x.mG->x.text.length<=13*x.cnt:=by
 refine ζ.jR (Q:=fun x=>x.mG->x.text.length<=13*x.cnt) (fun k n s c l ih h=>?_) x;simp only[ζ.mG]at h;obtain⟨h1,h2,h3⟩:=h;simp only[ζ.text,ζ.cnt,xK];split
 ·have:=vh n.toNat;omega
 ·split
  ·rename_i hk;have:=h2 hk;omega
  ·match l with
   |[]=>simp
   |[a]=>simp
   |[a,b]=>
    have ha:=ih a (by simp) (ζ.X0 h3 a (by simp))
    have hb:=ih b (by simp) (ζ.X0 h3 b (by simp));have p1:=Jk (decide (k=5)&&fW a.kind) a.text;have p2:=Jk (if k=5 then decide (3<=b.kind)else fW b.kind) b.text;have p3:=agL k;simp only[az,aJ,ζ.texts,cI,ζ.bL];omega
   |a::b::c::l=>simp[ζ.texts]
def lI:List (List Nat)->List Nat
 |[]=>[]
 |[x]=>x
 |x::l=>x++[44,32]++lI l
def ξ.text(p:ξ):List Nat:=match p.ix with
 |[]=>p.name
 |[a]=>p.name++[91]++a.text++[93]
 |a::b::_=>p.name++[91]++a.text++[32,58,32]++b.text++[93]
def nK(l:List ξ):List Nat:=lI (l.map ξ.text)
def ξ.mG(p:ξ):Prop:=p.name.length<=8/\p.ix.length<=2/\∀x∈p.ix,x.mG/\x.cnt<=9
theorem ξ.sG(p:ξ)(h:p.mG):p.text.length<=250:=by
 obtain⟨nm,c,ix⟩:=p;obtain⟨h1,h2,h3⟩:=h;simp only at h1 h2 h3
 match ix with
 |[]=>simp[ξ.text];omega
 |[a]=>
  obtain⟨a1,a2⟩:=h3 a (by simp)
  have:=ζ.sG a a1;simp[ξ.text];omega
 |[a,b]=>
  obtain⟨a1,a2⟩:=h3 a (by simp)
  obtain⟨b1,b2⟩:=h3 b (by simp);have:=ζ.sG a a1;have:=ζ.sG b b1;simp[ξ.text];omega
 |a::b::c::l=>simp at h2
theorem CS(l:List (List Nat))(n:Nat)(h:∀x∈l,x.length<=n):(lI l).length<=l.length*(n+2):=by
 induction l with
 |nil=>simp[lI]
 |cons a l ih=>
  have ha:=h a (by simp)
  have hl:=ih fun x hx=>h x (by simp[hx]);cases l with
  |nil=>simp[lI];omega
  |cons b l=>
   simp only[lI,cI,cD,eO]at hl⊢
   have:(l.length+1+1)*(n+2)=(l.length+1)*(n+2)+(n+2):=by rw[kK (l.length+1)];omega
   omega
def fJ:List Nat:=[32,32]
def cm(k g:Int)(nm:List Nat)(pl:List ξ)(size to:ζ):List Nat:=
 if k=1 then fu.getD (g-1).toNat []++[32]++nK pl
 else if k=2 then[116,97,107,101,32]++nm++[91]++size.text++[93]
 else if k=3 then[100,114,111,112,32]++nm
 else if k=4 then[98,111,114,114,111,119,32]++nm++[91]++size.text++[93]
 else if k=5 then[109,101,97,115,117,114,101,32]++nK pl++[32,58,32]++nm
 else if k=6 then[114,101,115,101,116,32]++nK pl
 else if k=7 then[105,102,32]++nm
 else if k=8 then[102,111,114,32]++nm++[32,61,32]++size.text++[32,58,32]++to.text
 else if k=9 then nm++[40]++nK pl++[41]
 else if k=10 then[117,110,100,111]
 else[119,105,116,104,105,110]
def ns(k:Int):List Nat:=if k=7 then[101,108,115,101]else[97,112,112,108,121]
mutual
def dj:List δ->List Nat->List Nat
 |[],_=>[]
 |s::l,b=>jr s b++dj l b
def jr:δ->List Nat->List Nat
 | .mk k g nm _ pl size to _ body _ els,b=>b++cm k g nm pl size to++
   (if aU k=false then[59,10]
    else[32,123,10]++dj body (b++fJ)++
    (if bm k=true/\¬(k=7/\els.length=0)then b++[125,32]++ns k++[32,123,10]++dj els (b++fJ)else[])++b++[125,10])
end
def ak.text(p:ak):List Nat:=p.name++[91]++fq p.size.toNat++[93]
def τ.text(p:τ):List Nat:=[112,114,111,99,32]++p.name++[40]++lI (p.au.map ak.text)++[41,32,123,10]++dj p.body fJ++[125,10]
def fI:List τ->List Nat
 |[]=>[]
 |p::l=>p.text++fI l
def vW(x:ζ):Prop:=x.mG/\x.cnt<=9
def EN(pl:List ξ):Prop:=pl.length<=4/\∀p∈pl,p.mG
def Bo(k g:Int)(nm:List Nat)(pl:List ξ)(size to:ζ):Prop:=
 (1<=k/\k<=11)/\(k=1->1<=g/\g<=12)/\(k=2\/k=3\/k=4\/k=5\/k=7\/k=8\/k=9->nm.length<=8)∧
 (k=1\/k=5\/k=6\/k=9->EN pl)/\(k=2\/k=4\/k=8->vW size)/\(k=8->vW to)
mutual
def δ.R:δ->Prop
 | .mk k g nm _ pl size to _ body _ els=>Bo k g nm pl size to/\(aU k=true->δ.Rs body)/\(bm k=true->δ.Rs els)
def δ.Rs:List δ->Prop
 |[]=>True
 |s::l=>s.R/\δ.Rs l
end
theorem δ.ajg{l:List δ}(h:δ.Rs l):∀x∈l,x.R:=by
 induction l with
 |nil=>intro x hx;cases hx
 |cons a l ih=>
  intro x hx
  rcases cy.1 hx with rfl|hx
  ·exact h.1
  ·exact ih h.2 x hx
theorem wb{l:List ξ}(h:EN l):(nK l).length<=1008:=by
 have:=CS (l.map ξ.text) 250 (fun x hx=>by
  obtain⟨p,hp,rfl⟩:=eP.1 hx
  exact ξ.sG p (h.2 p hp))
 have h4:=h.1;rw[cg]at this;have:l.length*252<=4*252:=mD _ h4;unfold nK;omega
theorem sq{x:ζ}(h:vW x):x.text.length<=117:=by have:=ζ.sG x h.1;have:=h.2;omega
theorem Mh(n:Nat):(fu.getD n []).length<=4:=by
 match n with
 |0|1|2|3|4|5|6|7|8|9|10|11=>decide
 |n+12=>simp[fu]
theorem UD{k g:Int}{nm:List Nat}{pl:List ξ}{size to:ζ}(h:Bo k g nm pl size to):(cm k g nm pl size to).length<=1100:=by
 obtain⟨h0,h1,h2,h3,h4,h5⟩:=h;have hk:k=1\/k=2\/k=3\/k=4\/k=5\/k=6\/k=7\/k=8\/k=9\/k=10\/k=11:=by omega
 rcases hk with rfl|rfl|rfl|rfl|rfl|rfl|rfl|rfl|rfl|rfl|rfl
 ·have:=wb (h3 (by simp));have:=Mh (g-1).toNat;simp[cm];simp at this;omega
 ·have:=sq (h4 (by simp));have:=h2 (by simp);simp[cm];omega
 ·have:=h2 (by simp);simp[cm];omega
 ·have:=sq (h4 (by simp));have:=h2 (by simp);simp[cm];omega
 ·have:=wb (h3 (by simp));have:=h2 (by simp);simp[cm];omega
 ·have:=wb (h3 (by simp));simp[cm];omega
 ·have:=h2 (by simp);simp[cm];omega
 ·have:=sq (h4 (by simp));have:=sq (h5 rfl);have:=h2 (by simp);simp[cm];omega
 ·have:=wb (h3 (by simp));have:=h2 (by simp);simp[cm];omega
 ·simp[cm]
 ·simp[cm]
theorem Kz(k:Int):(ns k).length<=5:=by unfold ns;split<;>simp
theorem Wm(D:Nat)(l:List δ):∀b,δ.Rs l->b.length+2*δ.dA l<=D->(dj l b).length<=δ.bL l*(3*D+1200):=by
 refine δ.lists (P:=fun l=>∀b,δ.Rs l->b.length+2*δ.dA l<=D->(dj l b).length<=δ.bL l*(3*D+1200)) (fun l ih b hR hD=>?_) l;induction l with
 |nil=>simp[dj]
 |cons s l xH=>
  have hs:=ih s (by simp)
  have h2:=xH (fun y hy=>ih y (by simp[hy])) hR.2 (by simp only[δ.dA]at hD;omega);obtain⟨k,g,nm,cp,pl,size,to,cb,body,ce,els⟩:=s;obtain⟨hh,hb,he⟩:=hR.1;have hl:=UD hh;have Du:=Kz k;simp only[δ.dA,δ.deep]at hD;simp only[δ.body,δ.els]at hs;simp only[dj,jr,cI,δ.bL,δ.cnt,kK,Nat.one_mul];have eC:(b++fJ).length=b.length+2:=by simp[fJ]
  cases hk:aU k with
  |false=>
   have Bu:bm k=false:=by simp only[aU,bm,decide_eq_false_iff_not]at hk⊢;omega
   simp[hk,Bu];omega
  |true=>
   simp only[hk,if_true]at hD
   have h3:=hs.1 (b++fJ) (hb hk) (by rw[eC];omega);cases Bu:bm k with
   |false=>simp[hk,Bu];omega
   |true=>
    simp only[Bu,if_true]at hD
    have h4:=hs.2 (b++fJ) (he Bu) (by rw[eC];omega);simp only[hk,Bu,if_true];by_cases hx:k=7/\els.length=0
    ·rw[if_neg (by simp),if_neg (by simp[hx])];simp;omega
    ·rw[if_neg (by simp),if_pos ⟨trivial,hx⟩];simp;omega
end Go.Θ
namespace Go.Θ.Tz
open Go.Θ
theorem Te{α:Type}{f:α->Int}{l:List α}(h:first f l=0):∀x∈l,f x=0:=by
 induction l with
 |nil=>intro x hx;cases hx
 |cons a l ih=>
  simp only[first]at h
  split at h
  ·contradiction
  ·rename_i h0;intro x hx;rcases cy.1 hx with rfl|hx
   ·simpa using h0
   ·exact ih h x hx
theorem F'{L:bX}(hL:lf L){x:ζ}(h:x.err (iV L) 1=0):vW x:=by
 unfold ζ.err at h;split at h
 ·cases h
 ·rename_i h9;refine⟨ζ.W5 (no:=1) (by decide) (fun s hs=>hL s ?_) x h,by omega⟩;simp only[iV,decide_eq_true_eq]at hs;rw[hs];exact fun h=>by cases h
theorem Pj{L:bX}(hL:lf L){p:ξ}(h:jt L p=0):p.mG:=by
 unfold jt at h;split at h
 ·cases h
 ·rename_i h1;split at h
  ·cases h
  ·rename_i h2;refine⟨hL _ fun he=>h1 (by rw[he];rfl),by omega,fun x hx=>?_⟩;have:=F' hL (Te h x hx);exact this
theorem zL{L:bX}{s:List Nat}(h:fG L s=0):s.length<=8:=O2 (O3 h).1
def Fh(ps:List τ)(own:Nat):Prop:=∀n q,n<own->ps[n]?=some q->q.name.length<=8/\q.au.length<=4
theorem ais{ps:List τ}{s:List Nat}{n:Nat}(h:ql ps s=some n):∃q,ps[n]?=some q/\q.name=s:=by rw[ql,List.findIdx?_eq_some_iff_getElem]at h;obtain⟨h1,h2,_⟩:=h;exact⟨ps[n],dn h1,by simpa using h2⟩
theorem aj5{ps:List τ}{own:Nat}{L:bX}(hL:lf L)(hb:Fh ps own){k g:Int}{nm:List Nat}{cp:ρ}{pl:List ξ}{size to:ζ}{cb ce:ρ}{body els:List δ}
  (h:eh ps own L (.mk k g nm cp pl size to cb body ce els)=0):Bo k g nm pl size to:=by
 have dH:first (jt L) pl=0->pl.length<=4->EN pl:=fun h1 h2=>⟨h2,fun p hp=>Pj hL (Te h1 p hp)⟩
 simp only[eh]at h;split at h
 ·rename_i hk;subst hk;split at h
  ·cases h
  ·rename_i hg;split at h
   ·cases h
   ·rename_i ha;have:gb g<=3:=by unfold gb;split<;>(try split)<;>omega
    refine⟨by omega,fun _=>by omega,by omega,fun _=>dH h (by omega),by omega,by omega⟩
 ·rename_i pZ;split at h
  ·rename_i hk;split at h
   ·contradiction
   ·rename_i hn;have gF:fG L nm=0:=by simpa using hn
    have:=zL gF;exact⟨by omega,by omega,fun _=>this,by omega,fun _=>F' hL h,by omega⟩
  ·rename_i gE;split at h
   ·rename_i hk;subst hk;split at h
    ·contradiction
    ·rename_i hn;have gF:fG L nm=0:=by simpa using hn
     have:=zL gF;split at h
     ·contradiction
     ·rename_i hs;exact⟨by omega,by omega,fun _=>this,by omega,fun _=>F' hL (by simpa using hs),fun _=>F' hL h⟩
   ·rename_i No;split at h
    ·rename_i hk;subst hk;refine⟨by omega,by omega,fun _=>hL nm fun he=>?_,by omega,by omega,by omega⟩;rw[he]at h;cases h
    ·rename_i rY;split at h
     ·rename_i hk;subst hk;split at h
      ·rename_i p;split at h
       ·contradiction
       ·rename_i hp;have qS:jt L p=0:=by simpa using hp
        refine⟨by omega,by omega,fun _=>?_,fun _=>⟨by simp,fun q hq=>?_⟩,by omega,by omega⟩
        ·split at h
         ·rename_i yT;exact hL nm (by rw[yT];exact fun h=>by cases h)
         ·exact zL h
        ·simp at hq;subst hq;exact Pj hL qS
      ·cases h
     ·rename_i p8;split at h
      ·rename_i hk;subst hk;split at h
       ·rename_i p;refine⟨by omega,by omega,by omega,fun _=>⟨by simp,fun q hq=>?_⟩,by omega,by omega⟩;simp at hq;subst hq;exact Pj hL h
       ·cases h
      ·rename_i Nl;split at h
       ·rename_i hk;subst hk;refine⟨by omega,by omega,fun _=>hL nm fun he=>?_,by omega,by omega,by omega⟩;rw[he]at h;simp at h
       ·rename_i Nn;split at h
        ·rename_i hk;subst hk;split at h
         ·cases h
         ·rename_i n hn;split at h
          ·cases h
          ·rename_i ψ;obtain⟨q,hq,Io⟩:=ais hn;rw[hq]at h;have:=hb n q (by omega) hq;dsimp only at h;split at h
           ·cases h
           ·rename_i hl;refine⟨by omega,by omega,fun _=>by rw[<-Io];exact this.1,fun _=>dH h (by omega),by omega,by omega⟩
        ·split at h
         ·rename_i Np hk;refine⟨by omega,by omega,by omega,by omega,by omega,by omega⟩
         ·cases h
theorem PT{ps:List τ}{own:Nat}{L:bX}{x:δ}(h:eh ps own L x=0)(hk:x.kind=2\/x.kind=4\/x.kind=8):fG L x.name=0:=by rw[rq]at h;rcases hk with hk|hk|hk<;>simp[hk]at h<;>split at h<;>first|assumption|(rename_i hn;exact absurd h hn)
theorem adr{ps:List τ}{own:Nat}{L:bX}(hL:lf L){x:δ}(h:eh ps own L x=0):lf (inside L x.kind x.name):=by
 by_cases h4:x.kind=4
 ·have:inside L x.kind x.name=L.inner.put x.name (.ki false):=by simp[inside,h4]
  rw[this];exact hL.inner.put (zL (PT h (by omega))) _
 by_cases h8:x.kind=8
 ·have:inside L x.kind x.name=L.inner.put x.name .dS:=by simp[inside,h8]
  rw[this];exact hL.inner.put (zL (PT h (by omega))) _
 ·have:inside L x.kind x.name=L.inner:=by simp[inside,h4,h8]
  rw[this];exact hL.inner
theorem Y2{ps:List τ}{own:Nat}{L:bX}(hL:lf L){x:δ}(h:eh ps own L x=0):lf (after L x.kind x.name):=by
 by_cases h2:x.kind=2
 ·have:after L x.kind x.name=L.put x.name (.ki true):=by simp[after,h2]
  rw[this];exact hL.put (zL (PT h (by omega))) _
 by_cases h3:x.kind=3
 ·have:after L x.kind x.name=L.put x.name .none:=by simp[after,h3]
  rw[this];exact hL.del _
 by_cases h5:x.kind=5
 ·have:after L x.kind x.name=L.put x.name .bit:=by simp[after,h5]
  rw[this];refine hL.put ?_ _;rw[rq]at h;simp[h5]at h;split at h
  ·split at h
   ·split at h
    ·rename_i yT;exact hL _ (by rw[yT];exact fun h=>by cases h)
    ·exact zL h
   ·contradiction
  ·cases h
 ·have:after L x.kind x.name=L:=by simp[after,h2,h3,h5]
  rw[this];exact hL
theorem ZD{ps:List τ}{own:Nat}(hb:Fh ps own)(l:List δ):∀L,lf L->gm ps own l L=0->δ.Rs l:=by
 refine δ.lists (P:=fun l=>∀L,lf L->gm ps own l L=0->δ.Rs l) (fun l ih L hL h=>?_) l;induction l generalizing L with
 |nil=>trivial
 |cons s l xH=>
  simp only[gm]at h
  split at h
  ·contradiction
  ·rename_i h0;have xb:eh ps own L s=0:=by simpa using h0
   split at h
   ·contradiction
   ·rename_i h1;have kA:lv ps own s L=0:=by simpa using h1
    refine⟨?_,xH (fun y hy=>ih y (by simp[hy])) _ (Y2 hL xb) h⟩;have hi:=adr hL xb;have hs:=ih s (by simp);obtain⟨k,g,nm,cp,pl,size,to,cb,body,ce,els⟩:=s;simp only[δ.body,δ.els]at hs;simp only[δ.kind,δ.name]at hi;refine⟨aj5 hL hb xb,fun hk=>?_,fun hk=>?_⟩
    ·simp only[lv,hk,if_true]at kA;split at kA
     ·contradiction
     ·rename_i h2;exact hs.1 _ hi (by simpa using h2)
    ·have xp:aU k=true:=by simp only[aU,bm,decide_eq_true_eq]at hk⊢;omega
     simp only[lv,hk,xp,if_true]at kA;split at kA
     ·contradiction
     ·exact hs.2 _ hi kA
structure Cw (x:τ):Prop where
 name:x.name.length<=8
 au:x.au.length<=4
 par:∀p∈x.au,p.name.length<=8/\1<=p.size/\p.size<=12
 body:δ.Rs x.body
 bL:δ.bL x.body<=120
 dA:δ.dA x.body<=6
theorem ahP(l:List ak):∀L,lf L->ri l L=0->(∀p∈l,p.name.length<=8/\1<=p.size/\p.size<=12)/\lf (rj l L):=by
 induction l with
 |nil=>intro L hL _;exact⟨fun p hp=>(by cases hp),hL⟩
 |cons x l ih=>
  intro L hL h
  simp only[ri]at h;split at h
  ·cases h
  ·rename_i h1;split at h
   ·cases h
   ·rename_i h2;split at h
    ·cases h
    ·have hn:x.name.length<=8:=O2 (by simpa using h1);obtain⟨a,b⟩:=ih _ (hL.put hn _) h;refine⟨fun p hp=>?_,b⟩;rcases cy.1 hp with rfl|hp
     ·exact⟨hn,by omega⟩
     ·exact a p hp
theorem agx:lf pA:=fun _ h=>absurd rfl h
theorem aip{ps:List τ}{own:Nat}{x:τ}(hb:Fh ps own)(h:sD ps own x=0):Cw x:=by
 unfold sD at h;split at h
 ·cases h
 ·rename_i h1;split at h
  ·cases h
  ·split at h
   ·cases h
   ·rename_i h3;split at h
    ·contradiction
    ·rename_i h4;split at h
     ·cases h
     ·rename_i h5;split at h
      ·cases h
      ·rename_i h6;obtain⟨a,b⟩:=ahP x.au pA agx (by simpa using h4);exact⟨O2 (by simpa using h1),by omega,a,ZD hb _ _ b h,by omega,by omega⟩
theorem aiw(ps:List τ):∀k,Fh ps k->tI ps k (ps.drop k)=0->∀n q,k<=n->ps[n]?=some q->Cw q:=by
 intro k;induction hd:ps.length-k generalizing k with
 |zero=>
  intro _ _ n q hn hq
  rw[h_ (by omega)]at hq;cases hq
 |succ d ih=>
  intro hb h n q hn hq
  have hk:k<ps.length:=by omega
  rw[nk hk]at h;simp only[tI]at h;split at h
  ·contradiction
  ·rename_i h0;have hr:=aip hb (by simpa using h0);rcases da k n with ψ|dD
   ·refine ih (k+1) (by omega) (fun m q' hm vP=>?_) h n q ψ hq;rcases da m k with h2|h2
    ·exact hb m q' h2 vP
    ·have:m=k:=by omega
     subst this;rw[dn hk]at vP;cases vP;exact⟨hr.name,hr.au⟩
   ·have:n=k:=by omega
    subst this;rw[dn hk]at hq;cases hq;exact hr
theorem aao{ps:List τ}(h:nw ps=0):ps.length<=12/\∀q∈ps,Cw q:=by
 unfold nw at h;split at h
 ·cases h
 ·rename_i h1;refine⟨by omega,fun q hq=>?_⟩;obtain⟨n,hn,rfl⟩:=List.getElem_of_mem hq;exact aiw ps 0 (fun n q hn=>by omega) (by simpa using h) n _ (by omega) (dn hn)
theorem τ.sG{x:τ}(h:Cw x):x.text.length<=200000:=by
 have h1:=Wm 20 x.body fJ h.body (by have:=h.dA;simp[fJ];omega);have h2:δ.bL x.body*(3*20+1200)<=120*(3*20+1200):=mD _ h.bL;have h3:=CS (x.au.map ak.text) 12 (fun t ht=>by
  obtain⟨p,hp,rfl⟩:=eP.1 ht
  have:=(h.par p hp).1;have:=vh p.size.toNat;simp[ak.text];omega)
 rw[cg]at h3;have h4:x.au.length*(12+2)<=4*(12+2):=mD _ h.au;have:=h.name;simp only[τ.text,cI,cD,eO];omega
end Go.Θ.Tz
