import Derived.Test.YtiigojkfojnedaaGreatDoorPHg
set_option linter.unusedVariables false
set_option linter.unusedSimpArgs false
set_option linter.unusedSectionVars false
set_option maxRecDepth 100000
set_option maxHeartbeats 8000000
open Nat renaming lt_or_ge->bP,le_refl->bQ
open Go.IntKind renaming wrap->aT
open List renaming append_nil->dx,map_cons->ah,map_nil->aw,getElem?_append_left->eg,set_append_left->lW,getElem?_set->vu,set_set->ahE,take_succ_cons->pK,getElem_cons_succ->qG,getElem_mem->cz,drop_eq_getElem_cons->ko,append_assoc->cr,set_append_right->IH,take_length->lX,drop_length->AZ,all_map->lv,all_eq_true->gz,map_map->di,map_congr_left->dz
open Bool renaming true_eq_false->Ix
namespace Go.ab.Tz
open Go.ab
variable{u:Nat}
attribute [local simp] exec eG eu fz aF d_ fQ fe bq gN bT gF gS hU hZ AV.cells newVar hH rd wr gg single fy bF er dL κ bf RV.get ba dU jy
theorem κ.fin{gl:Nat->AV}{c:cM}{a:AC}{s:St}{Q:Ex×St->Prop}{M:St->Prop}(ex:Ex)(h:∃s',exec gl c fT a s=some (ex,s')/\M s')(k:∀s',M s'->Q (ex,s')):κ gl c a s Q:=by obtain⟨s',h1,h2⟩:=h;exact⟨_,h1,k s' h2⟩
theorem Bo{C:iT}{f:FuncId}{p:Prim}{fst args cap:List AV}{m:Mem}{r:AV×Mem}(hp:C.jG f=some p)(h:p ((fst++args++cap).map (exp m.ε.length (C.bD f))) m=some r):aS C (.fn (.func f) fst cap) args m=some r:=by apply uw;simp only[body,hp,h]
theorem sk{α:Type}{l:List α}{i:Nat}{x:α}(h:l[i]?=some x):i<l.length:=by
 rcases bP i l.length with hl|hl
 ·exact hl
 ·rw[List.getElem?_eq_none hl]at h;cases h
theorem f277(m:Mem)(id:Nat)(es:List (AV×AV))(hid:m.ε[id]?=some (.map es)):kf u 277 [.map id] m=some (.map m.ε.length,m.push (.map es)):=by
 have ν:=sk hid;refine Bo (p:=wO) (by rfl) ?_;have he:∀k,([]++[AV.map id]++[]).map (exp m.ε.length k)=[.map id]:=fun k=>by simp[exp,ν]
 rw[he];simp only[wO,hid]
theorem f233{ck id:Nat}{pr ow:AV}{b:Int}{nb:Nat}{es:List aI}(m:Mem)(c_:m.ε[ck]?=some (.cells [pr,ow,.n nb]))(hid:m.ε[id]?=some (.map (es.map bK)))(nm:List Nat)(w d:Int)(wk:nb<1000000000000):
  kf u 233 [.μ ck 0,eC id b,.str nm,.agg [.n w,.n d]] m=
   some (eC m.ε.length nb,{ε:=m.ε.set ck (.cells [pr,ow,.n (nb+1:Nat)])++[.map ((if nm=[]then es else iS es nm w d).map bK)],η:=m.η}):=by
 have ll:=sk c_;have jU:=sk hid;have Qg:=f277 (u:=u) {ε:=m.ε,η:=[]} id (es.map bK) hid;have hw:aT .i64 ((nb:Int)+1)=(nb:Int)+1:=wrap_i64 (by omega) (by omega);refine Sn (g:=FL) rfl rfl rfl ?_ rfl;have dV:([AV.μ ck 0,eC id b,.str nm,.agg [.n w,.n d]]++[]).map (exp m.ε.length true)=[AV.μ ck 0,.agg [.map id,.n b],.str nm,.agg [.n w,.n d]]:=by simp only[dx,ah,aw,eC,exp,bn,ll,jU,if_true]
 rw[dV];simp only[FL,c233];have dM:∀M:Mem,M.ρ=ρ:=fun _=>rfl;let K:St->Prop:=fun st=>st.e 0= .μ ck 0/\st.e 2= .str nm/\st.e 7= .Ω 7 0 0/\st.q 7=some (0,.cells [.n w,.n d])/\st.e 8= .Ω 8 0 0/\st.q 8=some (0,.cells [.fP,.n 0]);refine χ (fun st=>K st/\st.e 5= .Ω 5 0 0/\st.q 5=some (0,.cells [.map id,.n b])/\st.mem= {ε:=m.ε,η:=[]}) (by simp[K,aQ]) fun s1 ⟨⟨h1,h2,h3,h4,h5,h6⟩,h7,h8,h9⟩=>?_;simp only[Mem.push]at Qg;have k1:(m.ε++[θ.map (es.map bK)])[ck]?=some (.cells [pr,ow,.n nb]):=by rw[eg ll];exact c_
 let K2:St->Prop:=fun st=>K st/\∃v,st.e 9= .Ω 9 v 0/\st.q 9=some (v,.cells [.map m.ε.length,.n nb]);refine χ (fun st=>K2 st/\st.mem= {ε:=m.ε++[.map (es.map bK)],η:=[]}) (by simp[K2,K,h1,h2,h3,h4,h5,h6,h7,h8,h9,Qg,k1,c_,b_,mF,cj,dG,AV.gh,AV.beq,AV.beq_refl,cX]) fun s1 ⟨⟨⟨h1,h2,h3,h4,h5,h6⟩,v,h7,h8⟩,h9⟩=>?_;have hA:(m.ε.set ck (.cells [pr,ow,.n ((nb:Int)+1)])).length=m.ε.length:=by simp
 have jV:(m.ε++[θ.map (es.map bK)]).set ck (.cells [pr,ow,.n ((nb:Int)+1)])=m.ε.set ck (.cells [pr,ow,.n ((nb:Int)+1)])++[.map (es.map bK)]:=lW _ _ ll;generalize Yq:m.ε.set ck (.cells [pr,ow,.n ((nb:Int)+1)])=A at*;refine χ (fun st=>K2 st/\st.mem= {ε:=A++[.map (es.map bK)],η:=[]}) (by simp[K2,K,h1,h2,h3,h4,h5,h6,h7,h8,h9,k1,hw,Mem.put,dM,ρ,bh,lo,jV]) fun s1 ⟨⟨⟨h1,h2,h3,h4,h5,h6⟩,v,h7,h8⟩,h9⟩=>?_;have k2:(A++[θ.map (es.map bK)])[m.ε.length]?=some (.map (es.map bK)):=by rw[<-hA];simp
 have k3:∀y,(A++[θ.map (es.map bK)]).set m.ε.length y=A++[y]:=fun y=>by rw[<-hA];simp
 have YZ:((nb+1:Nat):Int)=(nb:Int)+1:=by omega
 rw[YZ,Yq];have Cn:m.ε.length<A.length+1:=by omega
 refine χ (fun st=>K2 st/\st.mem= {ε:=A++[.map ((if nm=[]then es else iS es nm w d).map bK)],η:=[]}) (by
  by_cases hn:nm=[]
  ·simp[K2,K,h1,h2,h3,h4,h5,h6,h7,h8,h9,hn]
  ·simp[K2,K,h1,h2,h3,h4,h5,h6,h7,h8,h9,hn,k2,k3,isKey,plain,rA,HP,Mem.put]) fun s1 ⟨⟨⟨h1,h2,h3,h4,h5,h6⟩,v,h7,h8⟩,h9⟩=>?_
 simp[h1,h2,h3,h4,h5,h6,h7,h8,h9,exp,bn,eC,Cn]
theorem M_{α:Type}{l:List α}{i:Nat}{x:α}(h:l[i]?=some x):l.set i x=l:=by
 have hl:=sk h;rw[List.getElem?_eq_getElem hl]at h;have:l[i]=x:=by simpa using h
 rw[<-this];exact List.set_getElem_self hl
def bM(B:List θ)(ck id:Nat)(pr ow:AV)(nb:Nat)(es:List aI):List θ:=(B.set ck (.cells [pr,ow,.n nb])).set id (.map (es.map bK))
section
variable{B:List θ}{ck id:Nat}{pr ow:AV}{nb:Nat}{es:List aI}(hc:ck<B.length)(hi:id<B.length)(aj:ck≠id)
theorem VY:(bM B ck id pr ow nb es).length=B.length:=by simp[bM]
include hc hi aj
theorem VW(ext:List θ):(bM B ck id pr ow nb es++ext)[ck]?=some (.cells [pr,ow,.n nb]):=by rw[eg (by simp[bM];omega)];simp[bM,vu,Ne.symm aj,hc]
theorem VX(ext:List θ):(bM B ck id pr ow nb es++ext)[id]?=some (.map (es.map bK)):=by rw[eg (by simp[bM];omega)];simp[bM,vu,hi]
theorem VZ(ext:List θ)(n:Nat):(bM B ck id pr ow nb es++ext).set ck (.cells [pr,ow,.n n])=bM B ck id pr ow n es++ext:=by rw[lW _ _ (by simp[bM];omega)];simp only[bM];rw[List.set_comm _ _ (Ne.symm aj),ahE]
theorem V0(ext:List θ)(eR:List aI):(bM B ck id pr ow nb es++ext).set id (.map (eR.map bK))=bM B ck id pr ow nb eR++ext:=by rw[lW _ _ (by simp[bM];omega)];simp only[bM,ahE]
end
theorem aaR(ps:List ω)(own:Nat)(x:δ)(L:bw):sN ps own x L=first (fun p:Γ×List δ=>dF ps own p.2 (inside L x.kind x.name)) x.blocks:=by
 rw[Se];unfold δ.blocks;by_cases he:cB x.kind=true
 ·have hb:cg x.kind=true:=by simp only[cg,cB,decide_eq_true_eq]at he⊢;omega
  simp only[he,hb,if_true,first];split
  ·rfl
  ·split<;>simp_all
 ·by_cases hb:cg x.kind=true
  ·by_cases hz:dF ps own x.body (inside L x.kind x.name)=0<;>simp[he,hb,first,hz]
  ·simp[he,hb,first]
def o7:List (Γ×List δ)->Nat
 |[]=>0
 |p::l=>1+δ.bX p.2+o7 l
theorem Wf(l:List (Γ×List δ))(i:Nat)(h:i<l.length):o7 (l.take (i+1))=o7 (l.take i)+(1+δ.bX l[i].2):=by
 induction l generalizing i with
 |nil=>simp at h
 |cons a l ih=>
  cases i with
  |zero=>simp[o7]
  |succ i=>simp only[pK,o7,qG,ih i (by simpa using h)];omega
theorem We(x:δ):o7 x.blocks<=x.wt:=by
 have:=δ.vm x;unfold δ.blocks;split
 ·simp only[o7];omega
 ·split<;>simp only[o7]<;>omega
theorem Wg(l:List (Γ×List δ))(i:Nat):o7 (l.take i)<=o7 l:=by
 induction l generalizing i with
 |nil=>simp
 |cons a l ih=>cases i with
  |zero=>simp[o7]
  |succ i=>have:=ih i;simp only[pK,o7];omega
theorem agS(l:List δ)(i:Nat)(h:i<l.length):δ.bX (l.take (i+1))=δ.bX (l.take i)+l[i].wt:=by
 induction l generalizing i with
 |nil=>simp at h
 |cons a l ih=>
  cases i with
  |zero=>simp[δ.bX]
  |succ i=>simp only[pK,δ.bX,qG,ih i (by simpa using h)];omega
theorem UL{ps:List ω}{own:Nat}{L:bw}{x:δ}(h:c8 ps own L x=0)(hk:x.kind=2\/x.kind=4\/x.kind=8):x.name≠[]:=by
 rw[qD]at h;have hn:ek L x.name=0:=by rcases hk with hk|hk|hk<;>simp[hk]at h<;>split at h<;>first|assumption|(rename_i hn;exact absurd h hn)
 have:=(CZ hn).1
 rintro he
 rw[he]at this;simp[jZ]at this
theorem f193(aN:Γ)(cu:aJ aN)(ps:List ω)(bo:∀x∈ps,x.Ok)(cm:ps.length<1000000000000)(own:Nat)(l:List δ):
  ∀(cb:Γ),aJ cb->δ.cW l->∀(es:List aI) (L:bw) (b nb ck id:Nat) (m:Mem),m.ε[ck]?=some (.cells [.list aN (ps.map ω.av),.n own,.n nb])->m.ε[id]?=some (.map (es.map bK))->fF es b nb L->b<nb->nb+δ.bX l<100000000000→
   ∃(ey:Nat) (eR:List aI),nb<=ey/\ey<=nb+δ.bX l∧
    kf u 193 [.μ ck 0,eC id b,.list cb (δ.ψ l)] m=some (.n (dF ps own l L),{ε:=bM m.ε ck id (.list aN (ps.map ω.av)) (.n own) ey eR,η:=m.η}):=by
 refine δ.lists (P:=fun l=>∀(cb:Γ),aJ cb->δ.cW l->∀(es:List aI) (L:bw) (b nb ck id:Nat) (m:Mem),m.ε[ck]?=some (.cells [.list aN (ps.map ω.av),.n own,.n nb])->m.ε[id]?=some (.map (es.map bK))->fF es b nb L->b<nb->nb+δ.bX l<100000000000→
   ∃(ey:Nat) (eR:List aI),nb<=ey/\ey<=nb+δ.bX l∧
    kf u 193 [.μ ck 0,eC id b,.list cb (δ.ψ l)] m=some (.n (dF ps own l L),{ε:=bM m.ε ck id (.list aN (ps.map ω.av)) (.n own) ey eR,η:=m.η})) (fun l ih cb pX Θ es L b nb ck id m c_ hid hs hb hw=>?_) l
 have ll:=sk c_;have jU:=sk hid;have aj:ck≠id:=by rintro rfl;rw[c_]at hid;cases hid
 have gO:=δ.uh l;let M:Nat->List aI->List θ:=bM m.ε ck id (.list aN (ps.map ω.av)) (.n own);have Yz:M nb es=m.ε:=by simp only[M,bM];rw[M_ c_,M_ hid]
 have Mm:∀n e ext,(M n e++ext)[ck]?=some (.cells [.list aN (ps.map ω.av),.n own,.n n]):=fun n e ext=>VW ll jU aj ext;have Mo:∀n e ext,(M n e++ext)[id]?=some (.map (e.map bK)):=fun n e ext=>VX ll jU aj ext;have To:∀n e ext (n':Nat),(M n e++ext).set ck (.cells [.list aN (ps.map ω.av),.n own,.n n'])=M n' e++ext:=fun n e ext n'=>VZ ll jU aj ext n';have msi:∀n e ext e',(M n e++ext).set id (.map (e'.map bK))=M n e'++ext:=fun n e ext e'=>V0 ll jU aj ext e';have Mq:∀n e,(M n e).length=m.ε.length:=fun n e=>VY;let Fin:St->Prop:=fun st=>∃ey eR ext,nb<=ey/\ey<=nb+δ.bX l/\st.mem= {ε:=M ey eR++ext,η:=[]};have dy:κ (C u).gl (aS (C u)) zE.code {env:=([]++[AV.μ ck 0,eC id b,.list cb (δ.ψ l)]++[]).map (exp m.ε.length false),loc:=[],mem:= {ε:=m.ε,η:=[]}} fun r=>
   (∀i,r.1≠ .exit i)/\Fin r.2/\bq r.2.env 6= .n (dF ps own l L):=by
  have dV:([]++[AV.μ ck 0,eC id b,.list cb (δ.ψ l)]++[]).map (exp m.ε.length false)=[AV.μ ck 0,.agg [.map id,.n b],.list cb (δ.ψ l)]:=by simp only[List.nil_append,dx,ah,aw,np pX Θ];simp only[eC,exp,bn,ll,jU,if_true]
  rw[dV];simp only[zE,c193];let K:St->Prop:=fun st=>st.e 0= .μ ck 0/\st.e 4= .Ω 4 0 0/\st.q 4=some (0,.cells [.map id,.n b]);refine χ (fun st=>K st/\st.e 2= .list cb (δ.ψ l)/\st.mem= {ε:=m.ε,η:=[]}) (by simp[K,aQ]) fun s1 ⟨⟨h1,h2,h3⟩,h4,h5⟩=>?_;refine aZ (fun st=>Fin st/\dF ps own l L=0) ?_ fun s2 ⟨⟨ey,eR,ext,h1,h2,h3⟩,h4⟩=>κ.fin (M:=fun st=>st.mem= {ε:=M ey eR++ext,η:=[]}/\st.e 6= .n 0) .ret (by simp[h3]) fun s' ⟨e1,e2⟩=>⟨by simp,⟨ey,eR,ext,h1,h2,e1⟩,by simp[e2,h4]⟩;let I:Nat->St->Prop:=fun i st=>K st/\st.e 15= .list cb (δ.ψ l)/\st.e 16= .n l.length/\st.e 17= .n i/\∃(gP:Nat) (ei:List aI) (ext:List θ) (Li:bw),nb<=gP/\gP<=nb+δ.bX (l.take i)/\fF ei b gP Li/\st.mem= {ε:=M gP ei++ext,η:=[]}/\dF ps own (l.drop i) Li=dF ps own l L;refine χ (fun st=>K st/\st.e 15= .list cb (δ.ψ l)/\st.e 16= .n l.length/\st.e 17= .n 0/\st.mem= {ε:=m.ε,η:=[]}) (by simp[K,h1,h2,h3,h4,h5,ke]) fun s4 ⟨a1,a2,a3,a4,a5⟩=>?_;have hI:I 0 s4:=⟨a1,a2,a3,a4,nb,es,[],L,bQ _,by simp[δ.bX],hs,by rw[a5,dx,Yz],rfl⟩;refine κ.block (κ.upto (I:=I) l.length hI (fun i st ν τ=>?_) (fun st τ=>?_))
  ·obtain⟨⟨h1,h2,h3⟩,q1,q2,q3,gP,ei,ext,Li,nW,kK,Hb,cE,eT⟩:=τ;have ej:aT .i64 ((i:Int)+1)=(i:Int)+1:=wrap_i64 (by omega) (by omega);have hg:=vh l i ν;have hm:l[i]∈l:=cz ν;have gD:=δ.gb Θ _ hm;have mQ:=ih _ hm;have CI:=agS l i ν;have tN:=U_ l (i+1);rw[ko ν]at eT;generalize l[i]=y at*;have hu:dF ps own (y::l.drop (i+1)) Li=if c8 ps own Li y≠0 then c8 ps own Li y else if sN ps own y Li≠0 then sN ps own y Li else dF ps own (l.drop (i+1)) (after Li y.kind y.name):=rfl;rw[hu]at eT;have BD:=f232 (u:=u) (B:=M gP ei) aN cu ps bo cm own b gP ei Li (by simpa using Mm gP ei []) (by simpa using Mo gP ei []) Hb y gD (by omega) ext [];have qP:=fun m=>f108 (u:=u) y gD m;have k0:=cell0 y;have k2:=lY y;have kt:=zl y;have kl:=δ.i_ y;simp only[δ.av,eC]at hg BD qP;let J:St->Prop:=fun st=>K st/\st.e 15= .list cb (δ.ψ l)/\st.e 16= .n l.length/\st.e 17= .n i;let J2:St->Prop:=fun st=>J st/\∃v,st.e 8= .Ω 8 v 0/\st.q 8=some (v,.cells y.cells);let MM:Nat->List aI->List θ->St->Prop:=fun n e x st=>st.mem= {ε:=M n e++x,η:=[]};refine χ (fun st=>J st/\MM gP ei ext st/\st.e 18= .bool true) (by simp[J,K,MM,h1,h2,h3,q1,q2,q3,cE,ν]) fun s5 ⟨⟨⟨h1,h2,h3⟩,q1,q2,q3⟩,cE,q4⟩=>?_;refine χ (fun st=>J st/\MM gP ei ext st) (by simp only[MM]at cE;simp[J,K,MM,h1,h2,h3,q1,q2,q3,q4,cE]) fun s5 ⟨⟨⟨h1,h2,h3⟩,q1,q2,q3⟩,cE⟩=>?_;refine aZ (fun st=>J st/\∃(n2:Nat) (e2:List aI) (x2:List θ),nb<=n2/\n2<=nb+δ.bX (l.take (i+1))/\fF e2 b n2 (after Li y.kind y.name)/\MM n2 e2 x2 st/\dF ps own (l.drop (i+1)) (after Li y.kind y.name)=dF ps own l L) ?_ fun s6 ⟨⟨⟨h1,h2,h3⟩,q1,q2,q3⟩,n2,e2,x2,a1,a2,a3,a4,a5⟩=>by simp only[MM]at a4;exact κ.fin (M:=fun st=>K st/\st.e 15= .list cb (δ.ψ l)/\st.e 16= .n l.length/\st.e 17= .n ((i:Int)+1)/\MM n2 e2 x2 st) .normal (by simp[K,MM,h1,h2,h3,q1,q2,q3,ej,a4]) fun s' ⟨b1,b2,b3,b4,b5⟩=> .inl ⟨rfl,b1,b2,b3,b4,n2,e2,x2,_,a1,a2,a3,b5,a5⟩
   refine κ.block ?_;refine χ (fun st=>J2 st/\MM gP ei ext st) (by simp only[MM]at cE;simp[J2,J,K,MM,h1,h2,h3,q1,q2,q3,cE,ν,hg,kl,kt,ke]) fun s5 ⟨⟨⟨⟨h1,h2,h3⟩,q1,q2,q3⟩,v,q4,q5⟩,cE⟩=>?_;simp only[MM]at cE;by_cases kx:c8 ps own Li y=0
   case neg=>
    rw[if_pos kx]at eT
    rw[eT]at kx BD;refine aZ (fun _=>False) ?_ fun _ h=>h.elim;refine κ.fin (M:=fun st=>MM gP ei ext st/\st.e 6= .n (dF ps own l L)) .ret (by simp[MM,h1,h2,h3,q1,q2,q3,q4,q5,cE,kl,kt,BD,bne_true kx,kx]) fun s' ⟨b1,b2⟩=>?_;have hf:Fin s':=⟨gP,ei,ext,nW,by omega,b1⟩;simp[hf,b2]
   rw[if_neg (by simpa using kx)]at eT;rw[kx]at BD;refine χ (fun st=>J2 st/\MM gP ei ext st) (by simp[J2,J,K,MM,h1,h2,h3,q1,q2,q3,q4,q5,cE,kl,kt,BD]) fun s5 ⟨⟨⟨⟨h1,h2,h3⟩,q1,q2,q3⟩,v,q4,q5⟩,cE⟩=>?_;simp only[MM]at cE;refine χ (fun st=>J2 st/\MM gP ei ext st/\st.e 10= .str []/\∃v,st.e 11= .Ω 11 v 0/\st.q 11=some (v,.cells [.n 0,.n 0])) (by simp[J2,J,K,MM,h1,h2,h3,q1,q2,q3,q4,q5,cE,cX]) fun s5 ⟨⟨⟨⟨h1,h2,h3⟩,q1,q2,q3⟩,v,q4,q5⟩,cE,q6,v2,q7,q8⟩=>?_;simp only[MM]at cE;let Nw:List Nat->Int->Int->Prop:=fun qx w0 d0=>∀cw:Nat,gP<=cw->fF (if qx=[]then ei else iS ei qx w0 d0) cw ((cw+1:Nat):Int) (inside Li y.kind y.name);have uJ:∀cw:Nat,gP<=cw->fF ei cw ((cw+1:Nat):Int) Li.inner:=fun cw hj=>by have:=(Hb.mono (show(gP:Int)<=(cw:Int) by omega)).inner;simpa using this
   obtain⟨qx,w0,d0,su,aaA⟩:∃qx w0 d0,Nw qx w0 d0/\((y.kind=4/\qx=y.name/\w0=1/\d0= -2)\/(y.kind=8/\qx=y.name/\w0=3/\d0=0)\/(y.kind≠4/\y.kind≠8/\qx=[]/\w0=0/\d0=0)):=by
    by_cases l6:y.kind=4
    ·have Lc:=UL kx (by omega);refine⟨y.name,1,-2,fun cw hj=>?_,.inl ⟨l6,rfl,rfl,rfl⟩⟩;have:=(uJ cw hj).put y.name 1 (-2) (by decide) (by omega);have hr:decide ((-2:Int)=(cw:Int))=false:=by simp
     simpa[inside,l6,Lc,jY,hr]using this
    ·by_cases lf:y.kind=8
     ·have Lc:=UL kx (by omega);refine⟨y.name,3,0,fun cw hj=>?_,.inr (.inl ⟨lf,rfl,rfl,rfl⟩)⟩;have:=(uJ cw hj).put y.name 3 0 (by decide) (by omega);simpa[inside,lf,Lc,jY]using this
     ·refine⟨[],0,0,fun cw hj=>?_,.inr (.inr ⟨l6,lf,rfl,rfl,rfl⟩)⟩;simpa[inside,l6,lf]using uJ cw hj
   refine χ (fun st=>J2 st/\MM gP ei ext st/\st.e 10= .str qx/\∃v,st.e 11= .Ω 11 v 0/\st.q 11=some (v,.cells [.n w0,.n d0])) (by
    rcases aaA with⟨l6,rfl,rfl,rfl⟩|⟨lf,rfl,rfl,rfl⟩|⟨l6,lf,rfl,rfl,rfl⟩
    ·simp[J2,J,K,MM,h1,h2,h3,q1,q2,q3,q4,q5,q6,q7,q8,cE,kl,k0,k2,l6,cX]
    ·simp[J2,J,K,MM,h1,h2,h3,q1,q2,q3,q4,q5,q6,q7,q8,cE,kl,k0,k2,lf,cX]
    ·simp[J2,J,K,MM,h1,h2,h3,q1,q2,q3,q4,q5,q6,q7,q8,cE,kl,k0,dR l6,dR lf]) fun s5 ⟨⟨⟨⟨h1,h2,h3⟩,q1,q2,q3⟩,v,q4,q5⟩,cE,q6,v2,q7,q8⟩=>?_
   simp only[MM]at cE;let E:Γ×List δ->Int:=fun p=>dF ps own p.2 (inside Li y.kind y.name);rw[aaR]at eT;have ag4:=We y;refine aZ (fun st=>J2 st/\first E y.blocks=0/\∃(cw:Nat) (xj:List θ),gP<=cw/\cw<=gP+y.wt/\MM cw ei xj st) ?_ fun s6 ⟨⟨⟨⟨h1,h2,h3⟩,q1,q2,q3⟩,v,q4,q5⟩,hz,cw,xj,a1,a2,cE⟩=>?_
   ·let J3:St->Prop:=fun st=>J2 st/\st.e 10= .str qx/\(∃v,st.e 11= .Ω 11 v 0/\st.q 11=some (v,.cells [.n w0,.n d0]))/\st.e 42=h_ y/\st.e 43= .n y.blocks.length;let I2:Nat->St->Prop:=fun j st=>J3 st/\st.e 44= .n j/\(∀k (hk:k<y.blocks.length),k<j->E y.blocks[k]=0)/\∃(cw:Nat) (xj:List θ),gP<=cw/\cw<=gP+o7 (y.blocks.take j)/\MM cw ei xj st;have ag3:y.blocks.length<=2:=by unfold δ.blocks;split<;>(try split)<;>simp
    refine χ (fun st=>J3 st/\st.e 44= .n 0/\MM gP ei ext st) (by
     simp only[h_]at qP
     simp[J3,J2,J,K,MM,h1,h2,h3,q1,q2,q3,q4,q5,q6,q7,q8,cE,kl,kt,qP,h_]) fun s6 ⟨d1,d2,d3⟩=>?_
    have hI:I2 0 s6:=⟨d1,d2,fun k _ hk=>absurd hk (by omega),gP,ext,bQ _,by simp[o7],d3⟩;refine κ.block (κ.upto (I:=I2) y.blocks.length hI (fun j st cY τ=>?_) (fun st τ=>?_))
    ·obtain⟨⟨⟨⟨⟨h1,h2,h3⟩,q1,q2,q3⟩,v,q4,q5⟩,q6,⟨v2,q7,q8⟩,z1,z2⟩,z3,z4,cw,xj,a1,a2,cE⟩:=τ;simp only[MM]at cE;have pz:aT .i64 ((j:Int)+1)=(j:Int)+1:=wrap_i64 (by omega) (by omega);have xO:=Wf y.blocks j cY;have xN:=Wg y.blocks (j+1);have uS:=cz cY;have uD:=DU gD uS;have BE:=f233 (u:=u) (b:=b) {ε:=M cw ei++xj,η:=[]} (Mm cw ei xj) (Mo cw ei xj) qx w0 d0 (by omega);have Lr:=su cw a1;generalize Ku:(if qx=[]then ei else iS ei qx w0 d0)=xy at*;have aae:(M cw ei++xj).set ck (.cells [.list aN (ps.map ω.av),.n own,.n (cw+1:Nat)])++[.map (xy.map bK)]=M (cw+1) ei++(xj++[.map (xy.map bK)]):=by rw[To,cr]
     rw[aae]at BE;have qh:(M cw ei++xj).length=(M (cw+1) ei++xj).length:=by simp[Mq]
     rw[qh]at BE;have KZ:cw+1+δ.bX (y.blocks[j]).2<100000000000:=by omega
     have aay:∃(ey:Nat) (eR:List aI),cw+1<=ey/\ey<=cw+1+δ.bX (y.blocks[j]).2∧
       kf u 193 [.μ ck 0,eC (M (cw+1) ei++xj).length cw,.list (y.blocks[j]).1 (δ.ψ (y.blocks[j]).2)] {ε:=M (cw+1) ei++(xj++[.map (xy.map bK)]),η:=[]}=some (.n (E y.blocks[j]),{ε:=M ey ei++(xj++[.map (eR.map bK)]),η:=[]}):=by
      have go:∀c l',aJ c->δ.cW l'->cw+1+δ.bX l'<100000000000->(∀(cb:Γ),aJ cb->δ.cW l'->∀(es:List aI) (L:bw) (b nb ck id:Nat) (m:Mem),m.ε[ck]?=some (.cells [.list aN (ps.map ω.av),.n own,.n nb])->m.ε[id]?=some (.map (es.map bK))->fF es b nb L->b<nb->nb+δ.bX l'<100000000000→
        ∃(ey:Nat) (eR:List aI),nb<=ey/\ey<=nb+δ.bX l'/\kf u 193 [.μ ck 0,eC id b,.list cb (δ.ψ l')] m=some (.n (dF ps own l' L),{ε:=bM m.ε ck id (.list aN (ps.map ω.av)) (.n own) ey eR,η:=m.η}))→
        ∃(ey:Nat) (eR:List aI),cw+1<=ey/\ey<=cw+1+δ.bX l'/\kf u 193 [.μ ck 0,eC (M (cw+1) ei++xj).length cw,.list c (δ.ψ l')] {ε:=M (cw+1) ei++(xj++[.map (xy.map bK)]),η:=[]}=some (.n (dF ps own l' (inside Li y.kind y.name)),{ε:=M ey ei++(xj++[.map (eR.map bK)]),η:=[]}):=by
       intro c l' hc gY hwl hP;obtain⟨ey,eR,p1,p2,p3⟩:=hP c hc gY xy _ cw (cw+1) ck (M (cw+1) ei++xj).length {ε:=M (cw+1) ei++(xj++[.map (xy.map bK)]),η:=[]} (Mm _ _ _) (by rw[<-cr];simp) Lr (by omega) (by omega);refine⟨ey,eR,p1,p2,?_⟩;rw[p3];have:bM (M (cw+1) ei++(xj++[.map (xy.map bK)])) ck (M (cw+1) ei++xj).length (.list aN (ps.map ω.av)) (.n own) ey eR=M ey ei++(xj++[.map (eR.map bK)]):=by
        have hX:(M ey ei++xj).length=(M (cw+1) ei++xj).length:=by simp[Mq]
        rw[bM,To,<-cr,<-hX,IH _ _ (bQ _),cr];simp
       simp only[this]
      rcases DV uS with he|he<;>rw[he]at uD KZ⊢<;>simp only[E]
      ·exact go _ _ uD.1 uD.2.1 KZ mQ.1
      ·exact go _ _ uD.1 uD.2.1 KZ mQ.2
     obtain⟨CY,JH,p1,p2,p3⟩:=aay;simp only[eC]at BE p3;generalize(M (cw+1) ei++xj).length=ln at*;simp only[h_,e_]at z1;refine χ (fun st=>J3 st/\st.e 44= .n j/\MM cw ei xj st/\st.e 45= .bool true) (by simp[J3,J2,J,K,MM,h1,h2,h3,q1,q2,q3,q4,q5,q6,q7,q8,z1,z2,z3,cE,cY,h_,e_]) fun s7 ⟨⟨⟨⟨⟨h1,h2,h3⟩,q1,q2,q3⟩,v,q4,q5⟩,q6,⟨v2,q7,q8⟩,z1,z2⟩,z3,cE,z5⟩=>?_;simp only[MM]at cE;refine χ (fun st=>J3 st/\st.e 44= .n j/\MM cw ei xj st) (by simp[J3,J2,J,K,MM,h1,h2,h3,q1,q2,q3,q4,q5,q6,q7,q8,z1,z2,z3,z5,cE]) fun s7 ⟨⟨⟨⟨⟨h1,h2,h3⟩,q1,q2,q3⟩,v,q4,q5⟩,q6,⟨v2,q7,q8⟩,z1,z2⟩,z3,cE⟩=>?_;simp only[MM]at cE;simp only[h_,e_]at z1;by_cases pq:E y.blocks[j]=0
     ·rw[pq]at p3;refine χ (fun st=>J3 st/\st.e 44= .n j/\MM CY ei (xj++[.map (JH.map bK)]) st) (by simp[J3,J2,J,K,MM,h1,h2,h3,q1,q2,q3,q4,q5,q6,q7,q8,z1,z2,z3,cE,cY,h_,e_,BE,p3]) fun s7 ⟨⟨⟨⟨⟨h1,h2,h3⟩,q1,q2,q3⟩,v,q4,q5⟩,q6,⟨v2,q7,q8⟩,z1,z2⟩,z3,cE⟩=>?_;simp only[MM]at cE;have z6:=tw (P:=fun k=>∀hk:k<y.blocks.length,E y.blocks[k]=0) (n:=y.blocks.length) (fun k a b c=>z4 k c b) (fun _=>pq);exact κ.fin (M:=fun st=>J3 st/\st.e 44= .n ((j:Int)+1)/\MM CY ei (xj++[.map (JH.map bK)]) st) .normal (by simp[J3,J2,J,K,MM,h1,h2,h3,q1,q2,q3,q4,q5,q6,q7,q8,z1,z2,z3,cE,pz]) fun s' ⟨d1,d2,d3⟩=> .inl ⟨rfl,d1,d2,fun k hk KQ=>z6 k hk KQ hk,CY,_,by omega,by omega,d3⟩
     ·have p_:=zw cY z4 pq;have Q9:=eT;rw[if_pos (show first E y.blocks≠0 by rw[p_];exact pq)]at Q9;have B7:E y.blocks[j]=dF ps own l L:=p_.symm.trans Q9;rw[B7]at pq p3;refine aZ (fun _=>False) ?_ fun _ h=>h.elim;refine κ.fin (M:=fun st=>MM CY ei (xj++[.map (JH.map bK)]) st/\st.e 6= .n (dF ps own l L)) .ret (by simp[MM,h1,h2,h3,q1,q2,q3,q4,q5,q6,q7,q8,z1,z2,z3,cE,cY,e_,BE,p3,bne_true pq,pq]) fun s' ⟨b1,b2⟩=>?_;have hf:Fin s':=⟨CY,ei,_,by omega,by omega,b1⟩;simp[hf,b2]
    ·obtain⟨⟨⟨⟨⟨h1,h2,h3⟩,q1,q2,q3⟩,v,q4,q5⟩,q6,⟨v2,q7,q8⟩,z1,z2⟩,z3,z4,cw,xj,a1,a2,cE⟩:=τ;simp only[MM]at cE;rw[lX]at a2;have hz:=zu (f:=E) fun k hk=>z4 k hk hk;refine κ.fin (M:=fun st=>J2 st/\MM cw ei xj st) (.exit 3) (by simp[J2,J,K,MM,Sy,h1,h2,h3,q1,q2,q3,q4,q5,z1,z2,z3,cE]) fun s' ⟨d1,d2⟩=>?_;exact⟨by simp,.inl ⟨rfl,.inl ⟨rfl,d1,hz,cw,xj,a1,by omega,d2⟩⟩⟩
   ·simp only[MM]at cE;rw[if_neg (show¬first E y.blocks≠0 by simpa using hz)]at eT;have Hc:=Hb.mono (show(gP:Int)<=(cw:Int) by omega);have m1:=Mo cw ei xj;have m2:=msi cw ei xj;by_cases fo:y.kind=2
    ·refine κ.fin (M:=fun st=>J st/\MM cw (iS ei y.name 1 b) xj st) .normal (by simp[J,K,MM,h1,h2,h3,q1,q2,q3,q4,q5,cE,kl,k0,k2,fo,cX,m1,m2,isKey,plain,rA,HP,Mem.put]) fun s' ⟨d1,d2⟩=>?_;have hl:fF (iS ei y.name 1 b) b cw (after Li y.kind y.name):=by have:=Hc.put y.name 1 b (by decide) (by omega);simpa[after,fo,jY]using this
     simp;exact⟨d1,cw,by omega,by omega,_,hl,⟨xj,d2⟩,eT⟩
    by_cases jR:y.kind=3
    ·refine κ.fin (M:=fun st=>J st/\MM cw (nQ ei y.name) xj st) .normal (by simp[J,K,MM,h1,h2,h3,q1,q2,q3,q4,q5,cE,kl,k0,k2,jR,cX,m1,m2,isKey,adE,Mem.put]) fun s' ⟨d1,d2⟩=>?_;have hl:fF (nQ ei y.name) b cw (after Li y.kind y.name):=by have:=Hc.del y.name;simpa[after,jR]using this
     simp;exact⟨d1,cw,by omega,by omega,_,hl,⟨xj,d2⟩,eT⟩
    by_cases jT:y.kind=5
    ·refine κ.fin (M:=fun st=>J st/\MM cw (iS ei y.name 2 0) xj st) .normal (by simp[J,K,MM,h1,h2,h3,q1,q2,q3,q4,q5,cE,kl,k0,k2,jT,cX,m1,m2,isKey,plain,rA,HP,Mem.put]) fun s' ⟨d1,d2⟩=>?_;have hl:fF (iS ei y.name 2 0) b cw (after Li y.kind y.name):=by have:=Hc.put y.name 2 0 (by decide) (by omega);simpa[after,jT,jY]using this
     simp;exact⟨d1,cw,by omega,by omega,_,hl,⟨xj,d2⟩,eT⟩
    ·refine κ.fin (M:=fun st=>J st/\MM cw (ei) xj st) .normal (by simp[J,K,MM,h1,h2,h3,q1,q2,q3,q4,q5,cE,kl,k0,k2,dR fo,dR jR,dR jT]) fun s' ⟨d1,d2⟩=>?_;have hl:fF (ei) b cw (after Li y.kind y.name):=by simpa[after,fo,jR,jT]using Hc
     simp;exact⟨d1,cw,by omega,by omega,_,hl,⟨xj,d2⟩,eT⟩
  ·obtain⟨⟨h1,h2,h3⟩,q1,q2,q3,gP,ei,ext,Li,nW,kK,Hb,cE,eT⟩:=τ;rw[lX]at kK;rw[AZ]at eT;have hz:dF ps own l L=0:=eT.symm;refine κ.fin (M:=fun st=>st.mem= {ε:=M gP ei++ext,η:=[]}) (.exit 0) (by simp[Sz,h1,h2,h3,q1,q2,q3,cE]) fun s' d1=>?_;have hf:Fin s':=⟨gP,ei,ext,nW,kK,d1⟩;simp[hf,hz]
 obtain⟨r,r1,r2,⟨ey,eR,ext,r3,r4,r5⟩,r6⟩:=dy;exact⟨ey,eR,r3,r4,lO (g:=zE) rfl rfl rfl (Mq ey eR) ⟨r,r1,r2,⟨ext,r5⟩,[_],by simp[zE];exact r6,by simp⟩⟩
theorem xp{c:Γ}(h:aJ c)(n:Nat):c.lo n=true:=by rcases h with rfl|rfl<;>rfl
theorem ζ.HH(n:Nat)(x:ζ):x.Ok->lo n x.av=true:=by
 refine ζ.iB (Q:=fun x=>x.Ok->lo n x.av=true) (fun k nn s c l ih h=>?_) x;simp only[ζ.Ok]at h;have:bh n (ζ.ψ l)=true:=by rw[mS,ζ.dZ,lv,gz];exact fun y hy=>ih y hy (ζ.gb h.2 y hy)
 simp[ζ.av,lo,bh,xp h.1,this]
theorem φ.HH(n:Nat)(p:φ)(h:p.Ok):lo n p.av=true:=by
 have:bh n (p.ix.map ζ.av)=true:=by rw[mS,lv,gz];exact fun y hy=>ζ.HH n y (h.2.2 y hy).1
 simp[φ.av,lo,bh,xp h.2.1,this]
theorem adA(n:Nat)(a b:List AV):bh n (a++b)=(bh n a&&bh n b):=by simp[mS]
theorem δ.Mi(n:Nat)(x:δ):x.Ok->bh n x.cells=true:=by
 refine δ.iB (Q:=fun x=>x.Ok->bh n x.cells=true) (fun kk g nm cp pl size to cb body ce aA h1 h2 h=>?_) x;simp only[δ.Ok]at h;obtain⟨-,k1,k2,k3,k4,k5,k6,k7,k8⟩:=h;have e1:bh n (pl.map φ.av)=true:=by rw[mS,lv,gz];exact fun p hp=>φ.HH n p (k2 p hp)
 have e2:∀y:ζ,y.Ok->bh n y.four=true:=fun y hy=>by have:=ζ.HH n y hy;rwa[ζ.gA,lo]at this
 have go:∀l:List δ,δ.cW l->(∀y∈l,y.Ok->bh n y.cells=true)->bh n (δ.ψ l)=true:=by intro l hl hy;rw[mS,δ.dZ,lv,gz];exact fun y hm=>by simp only[Function.comp,δ.av,lo];exact hy y hm (δ.gb hl y hm)
 simp[δ.cells,adA,bh,lo,xp k1,xp k5,xp k7,e1,e2 _ k3.1,e2 _ k4.1,go body k6 h1,go aA k8 h2]
theorem δ.adx(n:Nat)(l:List δ)(h:δ.cW l):bh n (δ.ψ l)=true:=by rw[mS,δ.dZ,lv,gz];exact fun y hm=>by simp only[Function.comp,δ.av,lo];exact δ.Mi n y (δ.gb h y hm)
theorem aeV(n:Nat)(l:List aC):bh n (l.map aC.av)=true:=by rw[mS,lv,gz];exact fun y hm=>rfl
theorem IT(gl:Nat->AV)(cv:cM)(l:List aR):∀s:St,(dL gl cv l s).bind List.getLast?=eG gl cv l s:=by
 induction l with
 |nil=>intro s;rfl
 |cons o l ih=>
  intro s
  simp only[dL,eG];cases h:eu gl cv o s with
  |none=>rfl
  |some s'=>
   have:=ih s'
   simp only;cases hs:dL gl cv l s' with
   |none=>rw[hs]at this;simpa using this
   |some tr=>
    rw[hs]at this
    simp only[Option.bind_some,Option.map_some]at this⊢;rw[<-this];cases tr with
    |nil=>
     exfalso
     cases l with
     |nil=>simp[dL]at hs
     |cons o' l'=>
      simp only[dL]at hs
      split at hs
      ·rw[Option.map_eq_some_iff]at hs;obtain⟨_,_,hs⟩:=hs;cases hs
      ·cases hs
    |cons a tr=>rw[List.getLast?_cons_cons]
theorem y8(gl:Nat->AV)(cv:cM)(l:List aR)(s:St):er gl cv l [] [] s=eG gl cv l s:=by rw[<-IT];simp only[er];cases dL gl cv l s<;>rfl
theorem Jn{c:Γ}(h:aJ c)(b:Prop)[Decidable b]:(if c= .nil then Γ.nil else if c= .full/\b then .full else .any)=c:=by rcases h with rfl|rfl<;>simp
theorem aeT(x:aC)(l:List aC)(L:bw):oa (x::l) L=if jZ x.name=false then 4 else if x.size<1\/12<x.size then 3 else if L x.name≠ .none then 5 else oa l (L.put x.name (.nG false)):=rfl
theorem f126(aN:Γ)(cu:aJ aN)(ps:List ω)(bo:∀x∈ps,x.Ok)(dc:kR ps<10000000000)(k:Nat)(hk:k<ps.length)(ck:Nat)(m:Mem)(c_:m.ε[ck]?=some (.cells [.list aN (ps.map ω.av),.n k,.n 0])):
  ∃nb:Nat,kf u 126 [.μ ck 0] m=some (.n (sU ps k ps[k]),{ε:=m.ε.set ck (.cells [.list aN (ps.map ω.av),.n k,.n nb]),η:=m.η}):=by
 have ll:=sk c_;have hlen:=C6 ps;have hm:ps[k]∈ps:=cz hk;have Θ:=bo _ hm;have kL:=ω.my hm;simp only[ω.wt]at kL;have dM:∀M:Mem,M.ρ=ρ:=fun _=>rfl;have ra:cL (ps[k].ay.map aC.av)=ps[k].ay.map aC.av:=by rw[fC,di];exact dz fun _ _=>rfl
 have wk:cL (δ.ψ ps[k].body)=δ.ψ ps[k].body:=by rw[fC,δ.dZ,di];exact dz fun y _=>by simp only[Function.comp,δ.av,ρ,δ.yF]
 have pg:(ps.map ω.av).all (fun e=>decide (e.cells.length=3))=true:=by simp[ω.av]
 have RO:∀p∈ps.take k,p.Ok:=fun p hp=>bo p (List.mem_of_mem_take hp);generalize yl:ps[k]=x at*;let xc:List AV:=[.str x.name,.list x.cp (x.ay.map aC.av),.list x.cb (δ.ψ x.body)];let B1:List θ:=m.ε++[.cells xc];let qN:Nat->θ:=fun n=> .cells [.list aN (ps.map ω.av),.n k,.n n];have d0:∀ext,(B1++ext)[ck]?=some (qN 0):=fun ext=>by simp only[B1,cr];rw[eg ll];exact c_
 have d1:∀ext,(B1++ext)[m.ε.length]?=some (.cells xc):=fun ext=>by simp[B1]
 have GJ:B1.length=m.ε.length+1:=by simp[B1]
 let Fin:St->Prop:=fun st=>∃(nb:Nat) (ext:List θ),st.mem= {ε:=m.ε.set ck (qN nb)++ext,η:=[]};have vJ:∀{st:St} {ext:List θ},st.mem= {ε:=B1++ext,η:=[]}->Fin st:=fun{st ext} h=>⟨0,[.cells xc]++ext,by rw[h,M_ (x:=qN 0) c_];simp[B1]⟩;have dy:κ (C u).gl (aS (C u)) zD.code {env:=([]++[AV.μ ck 0]++[]).map (exp m.ε.length false),loc:=[],mem:= {ε:=m.ε,η:=[]}} fun r=>
   (∀i,r.1≠ .exit i)/\Fin r.2/\bq r.2.env 2= .n (sU ps k x):=by
  have dV:([]++[AV.μ ck 0]++[]).map (exp m.ε.length false)=[AV.μ ck 0]:=by simp[exp,ll]
  rw[dV];simp only[zD,Oj];let K:St->Prop:=fun st=>st.e 0= .μ ck 0/\st.e 3= .μ m.ε.length 0;let MM:List θ->St->Prop:=fun ext st=>st.mem= {ε:=B1++ext,η:=[]};refine χ (fun st=>st.e 0= .μ ck 0/\st.mem= {ε:=m.ε,η:=[]}) (by simp) fun s1 ⟨h1,h2⟩=>?_;have Y2:(m.ε++[θ.cells [AV.str [],AV.list Γ.nil [],AV.list Γ.nil []]])[ck]?=some (.cells [.list aN (ps.map ω.av),.n k,.n 0]):=by rw[eg ll];exact c_
  refine χ (fun st=>K st/\MM [] st) (by simp[K,MM,B1,xc,h1,h2,c_,Y2,hk,yl,ω.av,b_,mF,cj,dG,AV.gh,AV.beq,AV.fI,Mem.push,Mem.put,dM,ρ,cL,ra,wk,bh,lo,xp Θ.2.1,xp Θ.2.2.2.1,aeV,δ.adx _ _ Θ.2.2.2.2.1]) fun s1 ⟨⟨h1,h2⟩,h3⟩=>?_;simp only[MM,dx]at h3;have Ee:=d0 [];have d10:=d1 [];simp only[dx,qN,xc]at Ee d10;have qQ:=fun m=>f113 (u:=u) x.name Θ.1 m;have sx:Fix B1.length (.fn (.func 190) [] [.μ m.ε.length 0]):=by
   intro kk bb oI;have:m.ε.length<kk:=by omega
   simp[exp,bn,Fn.below,this]
  let S1:St->Prop:=fun st=>K st/\MM [] st;have ahi:¬4<x.ay.length->¬(4:Int)<(x.ay.length:Int):=fun h=>by omega
  have zp:=fun c hc=>f189 (u:=u) (q:=fun p=>p.name==x.name) sx c hc (ps.take k) RO (by rw[List.length_take];omega) (fun p hp=>f190 x.name [.list x.cp (x.ay.map aC.av),.list x.cb (δ.ψ x.body)] (by simpa[xc]using d1 []) p (RO p hp)) [] [];simp only[dx,List.map_take]at zp;unfold sU;cases hn:jZ x.name with
  |false=>
   rw[hn]at qQ
   refine aZ (fun _=>False) ?_ fun _ h=>h.elim;refine κ.fin (M:=fun st=>MM [] st/\st.e 2= .n 4) .ret (by simp[MM,h1,h2,h3,d10,qQ]) fun s' ⟨b1,b2⟩=>?_;have hf:Fin s':=vJ b1;simp[hf,b2]
  |true=>
  rw[hn]at qQ
  simp only[Ix,if_false];have Ac:(k:Int)<=(ps.length:Int):=by omega
  have wh:((k:Int)).toNat=k:=by omega
  by_cases Hf:((ps.take k).any fun p=>p.name==x.name)=true
  ·rw[if_pos Hf];refine aZ (fun _=>False) ?_ fun _ h=>h.elim;refine κ.fin (M:=fun st=>MM [] st/\st.e 2= .n 5) .ret (by
    rw[Hf]at zp
    simp[-er,-dL,y8,MM,h1,h2,h3,Ee,d10,qQ,bound,Ac,wh,ω.av,zp _ cu,Jn cu]) fun s' ⟨b1,b2⟩=>?_
   have hf:Fin s':=vJ b1;simp[hf,b2]
  rw[if_neg Hf];have aaL:((ps.take k).any fun p=>p.name==x.name)=false:=by simpa using Hf
  rw[aaL]at zp;by_cases uQ:4<x.ay.length
  ·rw[if_pos uQ];have x_:(4:Int)<(x.ay.length:Int):=by omega
   refine aZ (fun _=>False) ?_ fun _ h=>h.elim;refine κ.fin (M:=fun st=>MM [] st/\st.e 2= .n 2) .ret (by simp[-er,-dL,y8,MM,h1,h2,h3,Ee,d10,qQ,bound,Ac,wh,ω.av,zp _ cu,Jn cu,x_]) fun s' ⟨b1,b2⟩=>?_;have hf:Fin s':=vJ b1;simp[hf,b2]
  rw[if_neg uQ];have x_:¬(4:Int)<(x.ay.length:Int):=by omega
  refine χ (S1) (by simp[S1,K,-er,-dL,y8,MM,h1,h2,h3,Ee,d10,qQ,bound,Ac,wh,ω.av,zp _ cu,Jn cu,x_]) fun s1 ⟨⟨h1,h2⟩,h3⟩=>?_;simp only[MM,dx]at h3;let id:Nat:=m.ε.length+1;let S2:List aI->St->Prop:=fun es st=>K st/\(∃v,st.e 4= .Ω 4 v 0/\st.q 4=some (v,.cells [.map id,.n 0]))/\MM [.map (es.map bK)] st;refine χ (S2 []) (by simp[S2,K,MM,h1,h2,h3,cX,Mem.push,GJ,id]) fun s1 ⟨⟨h1,h2⟩,⟨v,h4,h5⟩,h3⟩=>?_;simp only[MM]at h3;have hid:∀(es:List aI) ext,(B1++(θ.map (es.map bK)::ext))[id]?=some (.map (es.map bK)):=fun es ext=>by show(B1++(θ.map (es.map bK)::ext))[m.ε.length+1]?=_;rw[<-GJ];simp
  have jV:∀(es eR:List aI),(B1++[θ.map (es.map bK)]).set id (.map (eR.map bK))=B1++[.map (eR.map bK)]:=fun es eR=>by show(B1++[θ.map (es.map bK)]).set (m.ε.length+1) _=_;rw[<-GJ];simp
  refine aZ (fun st=>oa x.ay j_=0/\∃es,fF es 0 1 (lQ x.ay j_)/\S2 es st) ?_ fun s1 ⟨hz,es,hs,⟨h1,h2⟩,⟨v,h4,h5⟩,h3⟩=>?_
  ·let I:Nat->St->Prop:=fun i st=>st.e 45= .list x.cp (x.ay.map aC.av)/\st.e 46= .n x.ay.length/\st.e 47= .n i/\∃es L',fF es 0 1 L'/\S2 es st/\oa (x.ay.drop i) L'=oa x.ay j_/\lQ (x.ay.drop i) L'=lQ x.ay j_;have xw:=d1 [.map []];simp only[xc]at xw;refine χ (fun st=>st.e 45= .list x.cp (x.ay.map aC.av)/\st.e 46= .n x.ay.length/\st.e 47= .n 0/\S2 [] st) (by simp[S2,K,MM,h1,h2,h3,h4,h5,xw]) fun s4 ⟨a1,a2,a3,a4⟩=>?_;refine κ.block (κ.loop (I:=I) x.ay.length ⟨a1,a2,a3,[],j_,fF.empty 0 1,a4,rfl,rfl⟩ fun i st hi τ=>?_);obtain⟨q1,q2,q3,es,L',cF,⟨⟨h1,h2⟩,⟨v,h4,h5⟩,h3⟩,q4,q5⟩:=τ;simp only[MM]at h3;rcases bP i x.ay.length with cY|cD
   ·have ej:aT .i64 ((i:Int)+1)=(i:Int)+1:=wrap_i64 (by omega) (by omega);rw[ko cY]at q4 q5;rw[aeT]at q4;simp only[lQ]at q5;have aat:dJ x.ay[i].name:=Θ.2.2.1 _ (cz cY);have f191:=f191 (u:=u) (B:=B1++[.map (es.map bK)]) (by simpa using hid es []) cF x.ay[i].name aat [] [];simp only[eC,dx]at f191;have ahb:id<(B1++[θ.map (es.map bK)]).length:=by simp[GJ,id]
    by_cases ra:jZ x.ay[i].name=false
    ·rw[if_pos ra]at q4;have aj:ek L' x.ay[i].name=4:=by simp[ek,ra]
     rw[aj]at f191;right;have hx:∃s',exec (C u).gl (aS (C u)) fT rm st=some (.ret,s')/\MM [.map (es.map bK)] s'/\s'.e 2= .n 4:=by simp[MM,rm,h1,h2,h3,h4,h5,q1,q2,q3,cY,aC.av,f191]
     obtain⟨s',b0,b1,b2⟩:=hx;refine⟨_,b0,by simp,?_⟩;have hf:Fin s':=vJ b1;simp[hf,b2,<-q4]
    rw[if_neg ra]at q4;have Ld:jZ x.ay[i].name=true:=by simpa using ra
    have RF:ek L' x.ay[i].name≠4:=by simp only[ek,Ld,Ix,if_false];split<;>decide
    by_cases bm:x.ay[i].size<1\/12<x.ay[i].size
    ·rw[if_pos bm]at q4;right;have hx:∃s',exec (C u).gl (aS (C u)) fT rm st=some (.ret,s')/\MM [.map (es.map bK)] s'/\s'.e 2= .n 3:=by
      rcases bm with bm|bm
      ·simp[MM,rm,h1,h2,h3,h4,h5,q1,q2,q3,cY,aC.av,f191,dR RF,bm]
      ·have:¬x.ay[i].size<1:=by omega
       simp[MM,rm,h1,h2,h3,h4,h5,q1,q2,q3,cY,aC.av,f191,dR RF,bm,this]
     obtain⟨s',b0,b1,b2⟩:=hx;refine⟨_,b0,by simp,?_⟩;have hf:Fin s':=vJ b1;simp[hf,b2,<-q4]
    rw[if_neg bm]at q4;have oO:¬x.ay[i].size<1:=by omega
    have mf:¬12<x.ay[i].size:=by omega
    by_cases qh:L' x.ay[i].name= .none
    ·rw[if_neg (by simpa using qh)]at q4;have aj:ek L' x.ay[i].name=0:=by simp[ek,Ld,qh]
     rw[aj]at f191;left;refine⟨cY,?_⟩;have hx:∃s',exec (C u).gl (aS (C u)) fT rm st=some (.normal,s')/\S2 (iS es x.ay[i].name 1 (-1)) s'/\s'.e 45= .list x.cp (x.ay.map aC.av)/\s'.e 46= .n x.ay.length/\s'.e 47= .n ((i:Int)+1):=by simp[S2,K,MM,rm,h1,h2,h3,h4,h5,q1,q2,q3,cY,aC.av,f191,oO,mf,ej,cX,hid,jV,isKey,plain,rA,HP,Mem.put]
     obtain⟨s',b0,b1,b2,b3,b4⟩:=hx;have:=cF.put x.ay[i].name 1 (-1) (by decide) (by omega);exact⟨s',b0,b2,b3,b4,_,_,by simpa[jY]using this,b1,q4,q5⟩
    ·rw[if_pos qh]at q4;have aj:ek L' x.ay[i].name=5:=by simp[ek,Ld,qh]
     rw[aj]at f191;right;have hx:∃s',exec (C u).gl (aS (C u)) fT rm st=some (.ret,s')/\MM [.map (es.map bK)] s'/\s'.e 2= .n 5:=by simp[MM,rm,h1,h2,h3,h4,h5,q1,q2,q3,cY,aC.av,f191,oO,mf]
     obtain⟨s',b0,b1,b2⟩:=hx;refine⟨_,b0,by simp,?_⟩;have hf:Fin s':=vJ b1;simp[hf,b2,<-q4]
   ·right;have:i=x.ay.length:=by omega
    subst this;rw[AZ]at q4 q5;simp only[oa]at q4;simp only[lQ]at q5;have hx:∃s',exec (C u).gl (aS (C u)) fT rm st=some (.exit 1,s')/\S2 es s':=by simp[S2,K,MM,rm,h1,h2,h3,h4,h5,q1,q2,q3]
    obtain⟨s',b0,b1⟩:=hx;refine⟨_,b0,by simp,.inl ⟨rfl,.inl ⟨rfl,q4.symm,es,?_,b1⟩⟩⟩;rw[<-q5];exact cF
  simp only[MM]at h3;rw[hz];simp only[ne_eq,not_true_eq_false,if_false];have xw:=d1 [.map (es.map bK)];have PZ:=d0 [.map (es.map bK)];simp only[xc]at xw;simp only[qN]at PZ;have Rf:=δ.xq x.body;have Jx:=fun m=>f135 (u:=u) x.cb Θ.2.2.2.1 x.body Θ.2.2.2.2.1 (by omega) m;have Qd:=fun m=>f192 (u:=u) x.body x.cb Θ.2.2.2.1 Θ.2.2.2.2.1 1 (by omega) (by omega) m;have Zc:lZ (δ.cH x.body) 1=δ.cH x.body:=by unfold lZ;split<;>omega
  rw[Zc]at Qd;have Qe:∀m,kf u 192 [.list x.cb (δ.ψ x.body),.n 1] m=some (.n (δ.cH x.body),m):=Qd;by_cases hc:120<δ.aU x.body
  ·rw[if_pos hc];have jb:(120:Int)<(δ.aU x.body:Int):=by omega
   refine aZ (fun _=>False) ?_ fun _ h=>h.elim;refine κ.fin (M:=fun st=>MM [.map (es.map bK)] st/\st.e 2= .n 2) .ret (by simp[MM,h1,h2,h3,h4,h5,xw,Jx,jb]) fun s' ⟨b1,b2⟩=>?_;have hf:Fin s':=vJ b1;simp[hf,b2]
  rw[if_neg hc];have jd:¬(120:Int)<(δ.aU x.body:Int):=by omega
  by_cases hd:6<δ.cH x.body
  ·rw[if_pos hd];have jA:(6:Int)<(δ.cH x.body:Int):=by omega
   refine aZ (fun _=>False) ?_ fun _ h=>h.elim;refine κ.fin (M:=fun st=>MM [.map (es.map bK)] st/\st.e 2= .n 11) .ret (by simp[MM,h1,h2,h3,h4,h5,xw,Jx,jd,Qe,jA]) fun s' ⟨b1,b2⟩=>?_;have hf:Fin s':=vJ b1;simp[hf,b2]
  rw[if_neg hd];have gn:¬(6:Int)<(δ.cH x.body:Int):=by omega
  refine χ (S2 es) (by simp[S2,K,MM,h1,h2,h3,h4,h5,xw,Jx,jd,Qe,gn]) fun s1 ⟨⟨h1,h2⟩,⟨v,h4,h5⟩,h3⟩=>?_;simp only[MM]at h3;let B2:List θ:=m.ε.set ck (qN 1);have Ys:(B1++[θ.map (es.map bK)]).set ck (.cells [.list aN (ps.map ω.av),.n k,.n 1])=B2++[.cells xc,.map (es.map bK)]:=by simp only[B1,cr];rw[lW _ _ ll];rfl
  have QR:B2.length=m.ε.length:=by simp[B2]
  have Y3:(B2++[θ.cells xc,.map (es.map bK)])[ck]?=some (.cells [.list aN (ps.map ω.av),.n k,.n (1:Nat)]):=by rw[eg (by omega)];simp[B2,qN,ll]
  have ZD:(B2++[θ.cells xc,.map (es.map bK)])[id]?=some (.map (es.map bK)):=by show(B2++[θ.cells xc,.map (es.map bK)])[m.ε.length+1]?=_;rw[<-QR];simp
  obtain⟨ey,eR,p1,p2,p3⟩:=f193 (u:=u) aN cu ps bo (by omega) k x.body x.cb Θ.2.2.2.1 Θ.2.2.2.2.1 es _ 0 1 ck id {ε:=B2++[.cells xc,.map (es.map bK)],η:=[]} Y3 ZD hs (by omega) (by omega);have GO:bM (B2++[θ.cells xc,.map (es.map bK)]) ck id (.list aN (ps.map ω.av)) (.n k) ey eR=m.ε.set ck (qN ey)++[.cells xc,.map (eR.map bK)]:=by
   unfold bM;rw[lW _ _ (by omega)];have:B2.set ck (.cells [.list aN (ps.map ω.av),.n k,.n ey])=m.ε.set ck (qN ey):=by simp[B2,qN]
   rw[this,IH _ _ (by simp[id])];simp[id]
  simp only[GO,eC]at p3;have p3':kf u 193 [.μ ck 0,.agg [.map id,.n 0],.list x.cb (δ.ψ x.body)] {ε:=B2++[.cells xc,.map (es.map bK)],η:=[]}=some (.n (dF ps k x.body (lQ x.ay j_)),{ε:=m.ε.set ck (qN ey)++[.cells xc,.map (eR.map bK)],η:=[]}):=p3;refine χ (fun st=>K st/\(∃v,st.e 4= .Ω 4 v 0/\st.q 4=some (v,.cells [.map id,.n 0]))/\st.mem= {ε:=B2++[.cells xc,.map (es.map bK)],η:=[]}) (by simp[K,h1,h2,h3,h4,h5,PZ,Ys,Mem.put,dM,ρ,bh,lo]) fun s1 ⟨⟨h1,h2⟩,⟨v,h4,h5⟩,h3⟩=>?_;have W6:(B2++[θ.cells xc,.map (es.map bK)])[m.ε.length]?=some (.cells [.str x.name,.list x.cp (x.ay.map aC.av),.list x.cb (δ.ψ x.body)]):=by rw[<-QR];simp[xc]
  refine κ.fin (M:=fun st=>st.mem= {ε:=m.ε.set ck (qN ey)++[.cells xc,.map (eR.map bK)],η:=[]}/\st.e 2= .n (dF ps k x.body (lQ x.ay j_))) .ret (by simp[h1,h2,h3,h4,h5,W6,p3']) fun s' ⟨b1,b2⟩=>?_;have hf:Fin s':=⟨ey,_,b1⟩;simp[hf,b2]
 obtain⟨r,r1,r2,⟨nb,ext,r3⟩,r4⟩:=dy;exact⟨nb,lO (g:=zD) rfl rfl rfl (by simp) ⟨r,r1,r2,⟨ext,r3⟩,[_],by simp[zD];exact r4,by simp⟩⟩
theorem f43(aN:Γ)(cu:aJ aN)(ps:List ω)(bo:∀x∈ps,x.Ok)(dc:kR ps<10000000000)(m:Mem):
  kf u 43 [dA aN ps] m=some (.n (kG ps),m):=by
 refine bz (g:=Gv) rfl rfl rfl ?_;simp only[ah,aw,l0 cu bo];simp only[Gv,Pv];have hlen:=C6 ps;have dM:∀M:Mem,M.ρ=ρ:=fun _=>rfl;have ra:cL (ps.map ω.av)=ps.map ω.av:=by
  rw[fC,di];refine dz fun p _=>?_;have h1:cL (p.ay.map aC.av)=p.ay.map aC.av:=by rw[fC,di];exact dz fun _ _=>rfl
  have h2:cL (δ.ψ p.body)=δ.ψ p.body:=by rw[fC,δ.dZ,di];exact dz fun y _=>by simp only[Function.comp,δ.av,ρ,δ.yF]
  simp only[Function.comp,ω.av,ρ,cL,h1,h2]
 simp only[dA]at*;let K:List θ->St->Prop:=fun ext st=>st.e 1= .Ω 1 0 0/\st.q 1=some (0,.cells [.list aN (ps.map ω.av)])/\st.mem= {ε:=m.ε++ext,η:=[]};refine χ (K []) (by simp[K,aQ]) fun s1 ⟨h1,h2,h3⟩=>?_;unfold kG;by_cases ho:ps.length<1\/12<ps.length
 ·rw[if_pos ho];refine aZ (fun _=>False) ?_ fun _ h=>h.elim;by_cases h0:ps.length<1
  ·have:(ps.length:Int)<1:=by omega
   simp[h1,h2,h3,this]
  ·have J1:¬(ps.length:Int)<1:=by omega
   have J4:(12:Int)<ps.length:=by omega
   simp[h1,h2,h3,J1,J4]
 rw[if_neg ho];have J1:¬(ps.length:Int)<1:=by omega
 have J4:¬(12:Int)<ps.length:=by omega
 refine χ (K []) (by simp[K,h1,h2,h3,J1,J4]) fun s1 ⟨h1,h2,h3⟩=>?_;refine aZ (fun st=>(∃ext,K ext st)/\pH ps 0 ps=0) ?_ fun s2 ⟨⟨ext,h1,h2,h3⟩,h4⟩=>by simp[h3,h4]
 let I:Nat->St->Prop:=fun i st=>(∃ext,K ext st)/\st.e 17= .n ps.length/\st.e 18= .n i/\pH ps i (ps.drop i)=pH ps 0 ps;refine χ (fun st=>K [] st/\st.e 17= .n ps.length/\st.e 18= .n 0) (by simp[K,h1,h2,h3]) fun s4 ⟨a1,a2,a3⟩=>?_;refine κ.block (κ.loop (I:=I) ps.length ⟨⟨[],a1⟩,a2,a3,rfl⟩ fun i st hi τ=>?_);obtain⟨⟨ext,h1,h2,h3⟩,q1,q2,q3⟩:=τ;rcases bP i ps.length with ν|cD
 ·have ej:aT .i64 ((i:Int)+1)=(i:Int)+1:=wrap_i64 (by omega) (by omega);have sE:(m.ε++(ext++[θ.cells [.list aN (ps.map ω.av),.n i,.n 0]]))[(m.ε++ext).length]?=some (.cells [.list aN (ps.map ω.av),.n i,.n 0]):=by rw[<-cr];simp
  obtain⟨nb,e⟩:=f126 (u:=u) aN cu ps bo dc i ν (m.ε++ext).length {ε:=m.ε++(ext++[.cells [.list aN (ps.map ω.av),.n i,.n 0]]),η:=[]} sE;have jV:(m.ε++(ext++[θ.cells [.list aN (ps.map ω.av),.n i,.n 0]])).set (m.ε++ext).length (.cells [.list aN (ps.map ω.av),.n i,.n nb])=m.ε++(ext++[.cells [.list aN (ps.map ω.av),.n i,.n nb]]):=by rw[<-cr,IH _ _ (bQ _)];simp
  simp only[jV,List.length_append]at e;rw[ko ν]at q3;simp only[pH]at q3;by_cases hz:sU ps i ps[i]=0
  ·rw[if_neg (by simpa using hz)]at q3;rw[hz]at e;left;refine⟨ν,?_⟩;have hx:∃s',exec (C u).gl (aS (C u)) fT Aw st=some (.normal,s')/\K (ext++[.cells [.list aN (ps.map ω.av),.n i,.n nb]]) s'/\s'.e 17= .n ps.length/\s'.e 18= .n ((i:Int)+1):=by simp[K,Aw,h1,h2,h3,q1,q2,ν,e,ej,cX,Mem.push,dM,ρ,cL,ra]
   obtain⟨s',b1,b2,b3,b4⟩:=hx;exact⟨s',b1,⟨_,b2⟩,b3,b4,q3⟩
  ·rw[if_pos hz]at q3;rw[q3]at e hz;right;simp[Aw,h1,h2,h3,q1,q2,ν,e,bne_true hz,cX,Mem.push,dM,ρ,cL,ra]
 ·right;have:i=ps.length:=by omega
  subst this;rw[AZ]at q3;simp only[pH]at q3;have hx:∃s',exec (C u).gl (aS (C u)) fT Aw st=some (.exit 0,s')/\K ext s':=by simp[K,Aw,h1,h2,h3,q1,q2]
  obtain⟨s',b1,b2⟩:=hx;refine⟨_,b1,by simp,?_⟩;left;exact⟨rfl,.inl ⟨rfl,⟨ext,b2⟩,q3.symm⟩⟩
end Go.ab.Tz
