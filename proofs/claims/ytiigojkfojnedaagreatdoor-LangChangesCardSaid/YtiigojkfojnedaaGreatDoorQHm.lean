import Derived.Test.YtiigojkfojnedaaGreatDoorQHg
set_option linter.unusedVariables false
set_option linter.unusedSimpArgs false
set_option linter.unusedSectionVars false
set_option maxRecDepth 100000
set_option maxHeartbeats 8000000
open Nat renaming lt_or_ge->bP,le_refl->bF
open Go.IntKind renaming wrap->a_
open List renaming append_nil->dW,map_cons->ay,map_nil->aA,getElem?_append_left->dX,set_append_left->lL,getElem?_set->vq,set_set->ahD,take_succ_cons->rE,getElem_cons_succ->qm,getElem_mem->cL,drop_eq_getElem_cons->jR,append_assoc->cj,set_append_right->Is,take_length->mL,drop_length->AJ,all_map->mK,all_eq_true->gu,map_map->c6,map_congr_left->dt
open Bool renaming true_eq_false->Ih
namespace Go.ah.Tz
open Go.ah
variable{u:Nat}
attribute [local simp] exec ed dP eX aC dQ ft eL ζ gg τ fW gy gH gI AV.cells newVar gE rd wr fK single eV bY ek dF μ aY RV.get aV dB iE
theorem μ.fin{gl:Nat->AV}{c:cx}{a:AC}{s:St}{Q:Ex×St->Prop}{M:St->Prop}(ex:Ex)(h:∃s',exec gl c fI a s=some (ex,s')/\M s')(k:∀s',M s'->Q (ex,s')):μ gl c a s Q:=by obtain⟨s',h1,h2⟩:=h;exact⟨_,h1,k s' h2⟩
theorem Bd{C:iM}{f:FuncId}{p:Prim}{fst args cap:List AV}{m:Mem}{r:AV×Mem}(hp:C.jm f=some p)(h:p ((fst++args++cap).map (exp m.ε.length (C.bw f))) m=some r):aU C (.fn (.func f) fst cap) args m=some r:=by apply ur;simp only[body,hp,h]
theorem rT{α:Type}{l:List α}{i:Nat}{x:α}(h:l[i]?=some x):i<l.length:=by
 rcases bP i l.length with hl|hl
 ·exact hl
 ·rw[List.getElem?_eq_none hl]at h;cases h
theorem f277(m:Mem)(id:Nat)(es:List (AV×AV))(hid:m.ε[id]?=some (.map es)):kf u 277 [.map id] m=some (.map m.ε.length,m.push (.map es)):=by
 have ρ:=rT hid;refine Bd (p:=wI) (by rfl) ?_;have he:∀k,([]++[AV.map id]++[]).map (exp m.ε.length k)=[.map id]:=fun k=>by simp[exp,ρ]
 rw[he];simp only[wI,hid]
theorem f233{ck id:Nat}{pr ow:AV}{b:Int}{nb:Nat}{es:List aL}(m:Mem)(cK:m.ε[ck]?=some (.cells [pr,ow,.int .i64 nb]))(hid:m.ε[id]?=some (.map (es.map bG)))(nm:List Nat)(w d:Int)(we:nb<1000000000000):
  kf u 233 [.ν ck 0,ew id b,.str nm,.agg [.int .i64 w,.int .i64 d]] m=
   some (ew m.ε.length nb,{ε:=m.ε.set ck (.cells [pr,ow,.int .i64 (nb+1:Nat)])++[.map ((if nm=[]then es else iL es nm w d).map bG)],θ:=m.θ}):=by
 have kR:=rT cK;have jJ:=rT hid;have PH:=f277 (u:=u) {ε:=m.ε,θ:=[]} id (es.map bG) hid;have hw:a_ .i64 ((nb:Int)+1)=(nb:Int)+1:=wrap_i64 (by omega) (by omega);refine RH (g:=FB) rfl rfl rfl ?_ rfl;have dL:([AV.ν ck 0,ew id b,.str nm,.agg [.int .i64 w,.int .i64 d]]++[]).map (exp m.ε.length true)=[AV.ν ck 0,.agg [.map id,.int .i64 b],.str nm,.agg [.int .i64 w,.int .i64 d]]:=by simp only[dW,ay,aA,ew,exp,bn,kR,jJ,if_true]
 rw[dL];simp only[FB,c233];have eR:∀M:Mem,M.φ=φ:=fun _=>rfl;let K:St->Prop:=fun st=>ζ st.env 0= .ν ck 0/\ζ st.env 2= .str nm/\ζ st.env 7= .ae 7 0 0/\τ st.loc 7=some (0,.cells [.int .i64 w,.int .i64 d])/\ζ st.env 8= .ae 8 0 0/\τ st.loc 8=some (0,.cells [.fJ,.int .i64 0]);refine ω (fun st=>K st/\ζ st.env 5= .ae 5 0 0/\τ st.loc 5=some (0,.cells [.map id,.int .i64 b])/\st.mem= {ε:=m.ε,θ:=[]}) (by simp[K,aR]) fun s1 ⟨⟨h1,h2,h3,h4,h5,h6⟩,h7,h8,h9⟩=>?_;simp only[Mem.push]at PH;have k1:(m.ε++[κ.map (es.map bG)])[ck]?=some (.cells [pr,ow,.int .i64 nb]):=by rw[dX kR];exact cK
 let K2:St->Prop:=fun st=>K st/\∃v,ζ st.env 9= .ae 9 v 0/\τ st.loc 9=some (v,.cells [.map m.ε.length,.int .i64 nb]);refine ω (fun st=>K2 st/\st.mem= {ε:=m.ε++[.map (es.map bG)],θ:=[]}) (by simp[K2,K,h1,h2,h3,h4,h5,h6,h7,h8,h9,PH,k1,cK,dm,vC,dy,fm,AV.gz,AV.beq,AV.beq_refl,cF]) fun s1 ⟨⟨⟨h1,h2,h3,h4,h5,h6⟩,v,h7,h8⟩,h9⟩=>?_;have hA:(m.ε.set ck (.cells [pr,ow,.int .i64 ((nb:Int)+1)])).length=m.ε.length:=by simp
 have ky:(m.ε++[κ.map (es.map bG)]).set ck (.cells [pr,ow,.int .i64 ((nb:Int)+1)])=m.ε.set ck (.cells [pr,ow,.int .i64 ((nb:Int)+1)])++[.map (es.map bG)]:=lL _ _ kR;generalize XV:m.ε.set ck (.cells [pr,ow,.int .i64 ((nb:Int)+1)])=A at*;refine ω (fun st=>K2 st/\st.mem= {ε:=A++[.map (es.map bG)],θ:=[]}) (by simp[K2,K,h1,h2,h3,h4,h5,h6,h7,h8,h9,k1,hw,Mem.put,eR,φ,bp,lo,ky]) fun s1 ⟨⟨⟨h1,h2,h3,h4,h5,h6⟩,v,h7,h8⟩,h9⟩=>?_;have k2:(A++[κ.map (es.map bG)])[m.ε.length]?=some (.map (es.map bG)):=by rw[<-hA];simp
 have k3:∀y,(A++[κ.map (es.map bG)]).set m.ε.length y=A++[y]:=fun y=>by rw[<-hA];simp
 have Yv:((nb+1:Nat):Int)=(nb:Int)+1:=by omega
 rw[Yv,XV];have Cb:m.ε.length<A.length+1:=by omega
 refine ω (fun st=>K2 st/\st.mem= {ε:=A++[.map ((if nm=[]then es else iL es nm w d).map bG)],θ:=[]}) (by
  by_cases hn:nm=[]
  ·simp[K2,K,h1,h2,h3,h4,h5,h6,h7,h8,h9,hn]
  ·simp[K2,K,h1,h2,h3,h4,h5,h6,h7,h8,h9,hn,k2,k3,isKey,plain,rj,HB,Mem.put]) fun s1 ⟨⟨⟨h1,h2,h3,h4,h5,h6⟩,v,h7,h8⟩,h9⟩=>?_
 simp[h1,h2,h3,h4,h5,h6,h7,h8,h9,exp,bn,ew,Cb]
theorem MK{α:Type}{l:List α}{i:Nat}{x:α}(h:l[i]?=some x):l.set i x=l:=by
 have hl:=rT h;rw[List.getElem?_eq_getElem hl]at h;have:l[i]=x:=by simpa using h
 rw[<-this];exact List.set_getElem_self hl
def bM(B:List κ)(ck id:Nat)(pr ow:AV)(nb:Nat)(es:List aL):List κ:=(B.set ck (.cells [pr,ow,.int .i64 nb])).set id (.map (es.map bG))
section
variable{B:List κ}{ck id:Nat}{pr ow:AV}{nb:Nat}{es:List aL}(hc:ck<B.length)(hi:id<B.length)(ak:ck≠id)
theorem Vh:(bM B ck id pr ow nb es).length=B.length:=by simp[bM]
include hc hi ak
theorem Vf(ext:List κ):(bM B ck id pr ow nb es++ext)[ck]?=some (.cells [pr,ow,.int .i64 nb]):=by rw[dX (by simp[bM];omega)];simp[bM,vq,Ne.symm ak,hc]
theorem Vg(ext:List κ):(bM B ck id pr ow nb es++ext)[id]?=some (.map (es.map bG)):=by rw[dX (by simp[bM];omega)];simp[bM,vq,hi]
theorem Vi(ext:List κ)(n:Nat):(bM B ck id pr ow nb es++ext).set ck (.cells [pr,ow,.int .i64 n])=bM B ck id pr ow n es++ext:=by rw[lL _ _ (by simp[bM];omega)];simp only[bM];rw[List.set_comm _ _ (Ne.symm ak),ahD]
theorem Vj(ext:List κ)(eI:List aL):(bM B ck id pr ow nb es++ext).set id (.map (eI.map bG))=bM B ck id pr ow nb eI++ext:=by rw[lL _ _ (by simp[bM];omega)];simp only[bM,ahD]
end
theorem aax(ps:List Ξ)(own:Nat)(x:δ)(L:bq):sB ps own x L=first (fun p:χ×List δ=>du ps own p.2 (inside L x.kind x.name)) x.blocks:=by
 rw[Rx];unfold δ.blocks;by_cases he:de x.kind=true
 ·have hb:dh x.kind=true:=by simp only[dh,de,decide_eq_true_eq]at he⊢;omega
  simp only[he,hb,if_true,first];split
  ·rfl
  ·split<;>simp_all
 ·by_cases hb:dh x.kind=true
  ·by_cases hz:du ps own x.body (inside L x.kind x.name)=0<;>simp[he,hb,first,hz]
  ·simp[he,hb,first]
def oF:List (χ×List δ)->Nat
 |[]=>0
 |p::l=>1+δ.bX p.2+oF l
theorem VB(l:List (χ×List δ))(i:Nat)(h:i<l.length):oF (l.take (i+1))=oF (l.take i)+(1+δ.bX l[i].2):=by
 induction l generalizing i with
 |nil=>simp at h
 |cons a l ih=>
  cases i with
  |zero=>simp[oF]
  |succ i=>simp only[rE,oF,qm,ih i (by simpa using h)];omega
theorem VA(x:δ):oF x.blocks<=x.wt:=by
 have:=δ.yM x;unfold δ.blocks;split
 ·simp only[oF];omega
 ·split<;>simp only[oF]<;>omega
theorem VC(l:List (χ×List δ))(i:Nat):oF (l.take i)<=oF l:=by
 induction l generalizing i with
 |nil=>simp
 |cons a l ih=>cases i with
  |zero=>simp[oF]
  |succ i=>have:=ih i;simp only[rE,oF];omega
theorem agN(l:List δ)(i:Nat)(h:i<l.length):δ.bX (l.take (i+1))=δ.bX (l.take i)+l[i].wt:=by
 induction l generalizing i with
 |nil=>simp at h
 |cons a l ih=>
  cases i with
  |zero=>simp[δ.bX]
  |succ i=>simp only[rE,δ.bX,qm,ih i (by simpa using h)];omega
theorem TY{ps:List Ξ}{own:Nat}{L:bq}{x:δ}(h:cJ ps own L x=0)(hk:x.kind=2\/x.kind=4\/x.kind=8):x.name≠[]:=by
 rw[qi]at h;have hn:dV L x.name=0:=by rcases hk with hk|hk|hk<;>simp[hk]at h<;>split at h<;>first|assumption|(rename_i hn;exact absurd h hn)
 have:=(CT hn).1
 rintro he
 rw[he]at this;simp[jM]at this
theorem f193(aS:χ)(cg:aJ aS)(ps:List Ξ)(bA:∀x∈ps,x.Ok)(bW:ps.length<1000000000000)(own:Nat)(l:List δ):
  ∀(cb:χ),aJ cb->δ.c7 l->∀(es:List aL) (L:bq) (b nb ck id:Nat) (m:Mem),m.ε[ck]?=some (.cells [.list aS (ps.map Ξ.av),.int .i64 own,.int .i64 nb])->m.ε[id]?=some (.map (es.map bG))->fC es b nb L->b<nb->nb+δ.bX l<100000000000→
   ∃(eg:Nat) (eI:List aL),nb<=eg/\eg<=nb+δ.bX l∧
    kf u 193 [.ν ck 0,ew id b,.list cb (δ.Δ l)] m=some (.int .i64 (du ps own l L),{ε:=bM m.ε ck id (.list aS (ps.map Ξ.av)) (.int .i64 own) eg eI,θ:=m.θ}):=by
 refine δ.lists (P:=fun l=>∀(cb:χ),aJ cb->δ.c7 l->∀(es:List aL) (L:bq) (b nb ck id:Nat) (m:Mem),m.ε[ck]?=some (.cells [.list aS (ps.map Ξ.av),.int .i64 own,.int .i64 nb])->m.ε[id]?=some (.map (es.map bG))->fC es b nb L->b<nb->nb+δ.bX l<100000000000→
   ∃(eg:Nat) (eI:List aL),nb<=eg/\eg<=nb+δ.bX l∧
    kf u 193 [.ν ck 0,ew id b,.list cb (δ.Δ l)] m=some (.int .i64 (du ps own l L),{ε:=bM m.ε ck id (.list aS (ps.map Ξ.av)) (.int .i64 own) eg eI,θ:=m.θ})) (fun l ih cb pz ab es L b nb ck id m cK hid hs hb hw=>?_) l
 have kR:=rT cK;have jJ:=rT hid;have ak:ck≠id:=by rintro rfl;rw[cK]at hid;cases hid
 have jU:=δ.wT l;let M:Nat->List aL->List κ:=bM m.ε ck id (.list aS (ps.map Ξ.av)) (.int .i64 own);have X3:M nb es=m.ε:=by simp only[M,bM];rw[MK cK,MK hid]
 have L1:∀n e ext,(M n e++ext)[ck]?=some (.cells [.list aS (ps.map Ξ.av),.int .i64 own,.int .i64 n]):=fun n e ext=>Vf kR jJ ak ext;have L6:∀n e ext,(M n e++ext)[id]?=some (.map (e.map bG)):=fun n e ext=>Vg kR jJ ak ext;have SD:∀n e ext (n':Nat),(M n e++ext).set ck (.cells [.list aS (ps.map Ξ.av),.int .i64 own,.int .i64 n'])=M n' e++ext:=fun n e ext n'=>Vi kR jJ ak ext n';have msi:∀n e ext e',(M n e++ext).set id (.map (e'.map bG))=M n e'++ext:=fun n e ext e'=>Vj kR jJ ak ext e';have L8:∀n e,(M n e).length=m.ε.length:=fun n e=>Vh;let Fin:St->Prop:=fun st=>∃eg eI ext,nb<=eg/\eg<=nb+δ.bX l/\st.mem= {ε:=M eg eI++ext,θ:=[]};have dj:μ (C u).gl (aU (C u)) zs.code {env:=([]++[AV.ν ck 0,ew id b,.list cb (δ.Δ l)]++[]).map (exp m.ε.length false),loc:=[],mem:= {ε:=m.ε,θ:=[]}} fun r=>
   (∀i,r.1≠ .exit i)/\Fin r.2/\ζ r.2.env 6= .int .i64 (du ps own l L):=by
  have dL:([]++[AV.ν ck 0,ew id b,.list cb (δ.Δ l)]++[]).map (exp m.ε.length false)=[AV.ν ck 0,.agg [.map id,.int .i64 b],.list cb (δ.Δ l)]:=by simp only[List.nil_append,dW,ay,aA,oL pz ab];simp only[ew,exp,bn,kR,jJ,if_true]
  rw[dL];simp only[zs,c193];let K:St->Prop:=fun st=>ζ st.env 0= .ν ck 0/\ζ st.env 4= .ae 4 0 0/\τ st.loc 4=some (0,.cells [.map id,.int .i64 b]);refine ω (fun st=>K st/\ζ st.env 2= .list cb (δ.Δ l)/\st.mem= {ε:=m.ε,θ:=[]}) (by simp[K,aR]) fun s1 ⟨⟨h1,h2,h3⟩,h4,h5⟩=>?_;refine bc (fun st=>Fin st/\du ps own l L=0) ?_ fun s2 ⟨⟨eg,eI,ext,h1,h2,h3⟩,h4⟩=>μ.fin (M:=fun st=>st.mem= {ε:=M eg eI++ext,θ:=[]}/\ζ st.env 6= .int .i64 0) .ret (by simp[h3]) fun s' ⟨e1,e2⟩=>⟨by simp,⟨eg,eI,ext,h1,h2,e1⟩,by simp[e2,h4]⟩;let I:Nat->St->Prop:=fun i st=>K st/\ζ st.env 15= .list cb (δ.Δ l)/\ζ st.env 16= .int .i64 l.length/\ζ st.env 17= .int .i64 i/\∃(gN:Nat) (ei:List aL) (ext:List κ) (Li:bq),nb<=gN/\gN<=nb+δ.bX (l.take i)/\fC ei b gN Li/\st.mem= {ε:=M gN ei++ext,θ:=[]}/\du ps own (l.drop i) Li=du ps own l L;refine ω (fun st=>K st/\ζ st.env 15= .list cb (δ.Δ l)/\ζ st.env 16= .int .i64 l.length/\ζ st.env 17= .int .i64 0/\st.mem= {ε:=m.ε,θ:=[]}) (by simp[K,h1,h2,h3,h4,h5,ng]) fun s4 ⟨a1,a2,a3,a4,a5⟩=>?_;have hI:I 0 s4:=⟨a1,a2,a3,a4,nb,es,[],L,bF _,by simp[δ.bX],hs,by rw[a5,dW,X3],rfl⟩;refine μ.block (μ.upto (I:=I) l.length hI (fun i st ρ ψ=>?_) (fun st ψ=>?_))
  ·obtain⟨⟨h1,h2,h3⟩,q1,q2,q3,gN,ei,ext,Li,oT,lA,G6,ca,eQ⟩:=ψ;have fU:a_ .i64 ((i:Int)+1)=(i:Int)+1:=wrap_i64 (by omega) (by omega);have hg:=Az l i ρ;have hm:l[i]∈l:=cL ρ;have jV:=δ.gO ab _ hm;have pX:=ih _ hm;have Cy:=agN l i ρ;have tM:=Ux l (i+1);rw[jR ρ]at eQ;generalize l[i]=y at*;have hu:du ps own (y::l.drop (i+1)) Li=if cJ ps own Li y≠0 then cJ ps own Li y else if sB ps own y Li≠0 then sB ps own y Li else du ps own (l.drop (i+1)) (after Li y.kind y.name):=rfl;rw[hu]at eQ;have Bq:=f232 (u:=u) (B:=M gN ei) aS cg ps bA bW own b gN ei Li (by simpa using L1 gN ei []) (by simpa using L6 gN ei []) G6 y jV (by omega) ext [];have qE:=fun m=>f108 (u:=u) y jV m;have k0:=cell0 y;have k2:=nx y;have kt:=IZ y;have kl:=δ.jT y;simp only[δ.av,ew]at hg Bq qE;let J:St->Prop:=fun st=>K st/\ζ st.env 15= .list cb (δ.Δ l)/\ζ st.env 16= .int .i64 l.length/\ζ st.env 17= .int .i64 i;let J2:St->Prop:=fun st=>J st/\∃v,ζ st.env 8= .ae 8 v 0/\τ st.loc 8=some (v,.cells y.cells);let MM:Nat->List aL->List κ->St->Prop:=fun n e x st=>st.mem= {ε:=M n e++x,θ:=[]};refine ω (fun st=>J st/\MM gN ei ext st/\ζ st.env 18= .bool true) (by simp[J,K,MM,h1,h2,h3,q1,q2,q3,ca,ρ]) fun s5 ⟨⟨⟨h1,h2,h3⟩,q1,q2,q3⟩,ca,q4⟩=>?_;refine ω (fun st=>J st/\MM gN ei ext st) (by simp only[MM]at ca;simp[J,K,MM,h1,h2,h3,q1,q2,q3,q4,ca]) fun s5 ⟨⟨⟨h1,h2,h3⟩,q1,q2,q3⟩,ca⟩=>?_;refine bc (fun st=>J st/\∃(n2:Nat) (e2:List aL) (x2:List κ),nb<=n2/\n2<=nb+δ.bX (l.take (i+1))/\fC e2 b n2 (after Li y.kind y.name)/\MM n2 e2 x2 st/\du ps own (l.drop (i+1)) (after Li y.kind y.name)=du ps own l L) ?_ fun s6 ⟨⟨⟨h1,h2,h3⟩,q1,q2,q3⟩,n2,e2,x2,a1,a2,a3,a4,a5⟩=>by simp only[MM]at a4;exact μ.fin (M:=fun st=>K st/\ζ st.env 15= .list cb (δ.Δ l)/\ζ st.env 16= .int .i64 l.length/\ζ st.env 17= .int .i64 ((i:Int)+1)/\MM n2 e2 x2 st) .normal (by simp[K,MM,h1,h2,h3,q1,q2,q3,fU,a4]) fun s' ⟨b1,b2,b3,b4,b5⟩=> .inl ⟨rfl,b1,b2,b3,b4,n2,e2,x2,_,a1,a2,a3,b5,a5⟩
   refine μ.block ?_;refine ω (fun st=>J2 st/\MM gN ei ext st) (by simp only[MM]at ca;simp[J2,J,K,MM,h1,h2,h3,q1,q2,q3,ca,ρ,hg,kl,kt,ng]) fun s5 ⟨⟨⟨⟨h1,h2,h3⟩,q1,q2,q3⟩,v,q4,q5⟩,ca⟩=>?_;simp only[MM]at ca;by_cases jX:cJ ps own Li y=0
   case neg=>
    rw[if_pos jX]at eQ
    rw[eQ]at jX Bq;refine bc (fun _=>False) ?_ fun _ h=>h.elim;refine μ.fin (M:=fun st=>MM gN ei ext st/\ζ st.env 6= .int .i64 (du ps own l L)) .ret (by simp[MM,h1,h2,h3,q1,q2,q3,q4,q5,ca,kl,kt,Bq,bne_true jX,jX]) fun s' ⟨b1,b2⟩=>?_;have hf:Fin s':=⟨gN,ei,ext,oT,by omega,b1⟩;simp[hf,b2]
   rw[if_neg (by simpa using jX)]at eQ;rw[jX]at Bq;refine ω (fun st=>J2 st/\MM gN ei ext st) (by simp[J2,J,K,MM,h1,h2,h3,q1,q2,q3,q4,q5,ca,kl,kt,Bq]) fun s5 ⟨⟨⟨⟨h1,h2,h3⟩,q1,q2,q3⟩,v,q4,q5⟩,ca⟩=>?_;simp only[MM]at ca;refine ω (fun st=>J2 st/\MM gN ei ext st/\ζ st.env 10= .str []/\∃v,ζ st.env 11= .ae 11 v 0/\τ st.loc 11=some (v,.cells [.int .i64 0,.int .i64 0])) (by simp[J2,J,K,MM,h1,h2,h3,q1,q2,q3,q4,q5,ca,cF]) fun s5 ⟨⟨⟨⟨h1,h2,h3⟩,q1,q2,q3⟩,v,q4,q5⟩,ca,q6,v2,q7,q8⟩=>?_;simp only[MM]at ca;let Nw:List Nat->Int->Int->Prop:=fun p8 w0 d0=>∀bZ:Nat,gN<=bZ->fC (if p8=[]then ei else iL ei p8 w0 d0) bZ ((bZ+1:Nat):Int) (inside Li y.kind y.name);have uG:∀bZ:Nat,gN<=bZ->fC ei bZ ((bZ+1:Nat):Int) Li.inner:=fun bZ hj=>by have:=(G6.mono (show(gN:Int)<=(bZ:Int) by omega)).inner;simpa using this
   obtain⟨p8,w0,d0,rY,aah⟩:∃p8 w0 d0,Nw p8 w0 d0/\((y.kind=4/\p8=y.name/\w0=1/\d0= -2)\/(y.kind=8/\p8=y.name/\w0=3/\d0=0)\/(y.kind≠4/\y.kind≠8/\p8=[]/\w0=0/\d0=0)):=by
    by_cases mR:y.kind=4
    ·have KR:=TY jX (by omega);refine⟨y.name,1,-2,fun bZ hj=>?_,.inl ⟨mR,rfl,rfl,rfl⟩⟩;have:=(uG bZ hj).put y.name 1 (-2) (by decide) (by omega);have hr:decide ((-2:Int)=(bZ:Int))=false:=by simp
     simpa[inside,mR,KR,jL,hr]using this
    ·by_cases kP:y.kind=8
     ·have KR:=TY jX (by omega);refine⟨y.name,3,0,fun bZ hj=>?_,.inr (.inl ⟨kP,rfl,rfl,rfl⟩)⟩;have:=(uG bZ hj).put y.name 3 0 (by decide) (by omega);simpa[inside,kP,KR,jL]using this
     ·refine⟨[],0,0,fun bZ hj=>?_,.inr (.inr ⟨mR,kP,rfl,rfl,rfl⟩)⟩;simpa[inside,mR,kP]using uG bZ hj
   refine ω (fun st=>J2 st/\MM gN ei ext st/\ζ st.env 10= .str p8/\∃v,ζ st.env 11= .ae 11 v 0/\τ st.loc 11=some (v,.cells [.int .i64 w0,.int .i64 d0])) (by
    rcases aah with⟨mR,rfl,rfl,rfl⟩|⟨kP,rfl,rfl,rfl⟩|⟨mR,kP,rfl,rfl,rfl⟩
    ·simp[J2,J,K,MM,h1,h2,h3,q1,q2,q3,q4,q5,q6,q7,q8,ca,kl,k0,k2,mR,cF]
    ·simp[J2,J,K,MM,h1,h2,h3,q1,q2,q3,q4,q5,q6,q7,q8,ca,kl,k0,k2,kP,cF]
    ·simp[J2,J,K,MM,h1,h2,h3,q1,q2,q3,q4,q5,q6,q7,q8,ca,kl,k0,eC mR,eC kP]) fun s5 ⟨⟨⟨⟨h1,h2,h3⟩,q1,q2,q3⟩,v,q4,q5⟩,ca,q6,v2,q7,q8⟩=>?_
   simp only[MM]at ca;let E:χ×List δ->Int:=fun p=>du ps own p.2 (inside Li y.kind y.name);rw[aax]at eQ;have ag2:=VA y;refine bc (fun st=>J2 st/\first E y.blocks=0/\∃(bZ:Nat) (xj:List κ),gN<=bZ/\bZ<=gN+y.wt/\MM bZ ei xj st) ?_ fun s6 ⟨⟨⟨⟨h1,h2,h3⟩,q1,q2,q3⟩,v,q4,q5⟩,hz,bZ,xj,a1,a2,ca⟩=>?_
   ·let J3:St->Prop:=fun st=>J2 st/\ζ st.env 10= .str p8/\(∃v,ζ st.env 11= .ae 11 v 0/\τ st.loc 11=some (v,.cells [.int .i64 w0,.int .i64 d0]))/\ζ st.env 42=g_ y/\ζ st.env 43= .int .i64 y.blocks.length;let I2:Nat->St->Prop:=fun j st=>J3 st/\ζ st.env 44= .int .i64 j/\(∀k (hk:k<y.blocks.length),k<j->E y.blocks[k]=0)/\∃(bZ:Nat) (xj:List κ),gN<=bZ/\bZ<=gN+oF (y.blocks.take j)/\MM bZ ei xj st;have ag1:y.blocks.length<=2:=by unfold δ.blocks;split<;>(try split)<;>simp
    refine ω (fun st=>J3 st/\ζ st.env 44= .int .i64 0/\MM gN ei ext st) (by
     simp only[g_]at qE
     simp[J3,J2,J,K,MM,h1,h2,h3,q1,q2,q3,q4,q5,q6,q7,q8,ca,kl,kt,qE,g_]) fun s6 ⟨d1,d2,d3⟩=>?_
    have hI:I2 0 s6:=⟨d1,d2,fun k _ hk=>absurd hk (by omega),gN,ext,bF _,by simp[oF],d3⟩;refine μ.block (μ.upto (I:=I2) y.blocks.length hI (fun j st dk ψ=>?_) (fun st ψ=>?_))
    ·obtain⟨⟨⟨⟨⟨h1,h2,h3⟩,q1,q2,q3⟩,v,q4,q5⟩,q6,⟨v2,q7,q8⟩,z1,z2⟩,z3,z4,bZ,xj,a1,a2,ca⟩:=ψ;simp only[MM]at ca;have oU:a_ .i64 ((j:Int)+1)=(j:Int)+1:=wrap_i64 (by omega) (by omega);have xH:=VB y.blocks j dk;have xG:=VC y.blocks (j+1);have GY:=cL dk;have uC:=DP jV GY;have Br:=f233 (u:=u) (b:=b) {ε:=M bZ ei++xj,θ:=[]} (L1 bZ ei xj) (L6 bZ ei xj) p8 w0 d0 (by omega);have K':=rY bZ a1;generalize Ke:(if p8=[]then ei else iL ei p8 w0 d0)=xq at*;have ZR:(M bZ ei++xj).set ck (.cells [.list aS (ps.map Ξ.av),.int .i64 own,.int .i64 (bZ+1:Nat)])++[.map (xq.map bG)]=M (bZ+1) ei++(xj++[.map (xq.map bG)]):=by rw[SD,cj]
     rw[ZR]at Br;have pK:(M bZ ei++xj).length=(M (bZ+1) ei++xj).length:=by simp[L8]
     rw[pK]at Br;have KL:bZ+1+δ.bX (y.blocks[j]).2<100000000000:=by omega
     have aaf:∃(eg:Nat) (eI:List aL),bZ+1<=eg/\eg<=bZ+1+δ.bX (y.blocks[j]).2∧
       kf u 193 [.ν ck 0,ew (M (bZ+1) ei++xj).length bZ,.list (y.blocks[j]).1 (δ.Δ (y.blocks[j]).2)] {ε:=M (bZ+1) ei++(xj++[.map (xq.map bG)]),θ:=[]}=some (.int .i64 (E y.blocks[j]),{ε:=M eg ei++(xj++[.map (eI.map bG)]),θ:=[]}):=by
      have go:∀c l',aJ c->δ.c7 l'->bZ+1+δ.bX l'<100000000000->(∀(cb:χ),aJ cb->δ.c7 l'->∀(es:List aL) (L:bq) (b nb ck id:Nat) (m:Mem),m.ε[ck]?=some (.cells [.list aS (ps.map Ξ.av),.int .i64 own,.int .i64 nb])->m.ε[id]?=some (.map (es.map bG))->fC es b nb L->b<nb->nb+δ.bX l'<100000000000→
        ∃(eg:Nat) (eI:List aL),nb<=eg/\eg<=nb+δ.bX l'/\kf u 193 [.ν ck 0,ew id b,.list cb (δ.Δ l')] m=some (.int .i64 (du ps own l' L),{ε:=bM m.ε ck id (.list aS (ps.map Ξ.av)) (.int .i64 own) eg eI,θ:=m.θ}))→
        ∃(eg:Nat) (eI:List aL),bZ+1<=eg/\eg<=bZ+1+δ.bX l'/\kf u 193 [.ν ck 0,ew (M (bZ+1) ei++xj).length bZ,.list c (δ.Δ l')] {ε:=M (bZ+1) ei++(xj++[.map (xq.map bG)]),θ:=[]}=some (.int .i64 (du ps own l' (inside Li y.kind y.name)),{ε:=M eg ei++(xj++[.map (eI.map bG)]),θ:=[]}):=by
       intro c l' hc gV hwl hP;obtain⟨eg,eI,p1,p2,p3⟩:=hP c hc gV xq _ bZ (bZ+1) ck (M (bZ+1) ei++xj).length {ε:=M (bZ+1) ei++(xj++[.map (xq.map bG)]),θ:=[]} (L1 _ _ _) (by rw[<-cj];simp) K' (by omega) (by omega);refine⟨eg,eI,p1,p2,?_⟩;rw[p3];have:bM (M (bZ+1) ei++(xj++[.map (xq.map bG)])) ck (M (bZ+1) ei++xj).length (.list aS (ps.map Ξ.av)) (.int .i64 own) eg eI=M eg ei++(xj++[.map (eI.map bG)]):=by
        have hX:(M eg ei++xj).length=(M (bZ+1) ei++xj).length:=by simp[L8]
        rw[bM,SD,<-cj,<-hX,Is _ _ (bF _),cj];simp
       simp only[this]
      rcases DQ GY with he|he<;>rw[he]at uC KL⊢<;>simp only[E]
      ·exact go _ _ uC.1 uC.2.1 KL pX.1
      ·exact go _ _ uC.1 uC.2.1 KL pX.2
     obtain⟨CS,Jr,p1,p2,p3⟩:=aaf;simp only[ew]at Br p3;generalize(M (bZ+1) ei++xj).length=ln at*;simp only[g_,eT]at z1;refine ω (fun st=>J3 st/\ζ st.env 44= .int .i64 j/\MM bZ ei xj st/\ζ st.env 45= .bool true) (by simp[J3,J2,J,K,MM,h1,h2,h3,q1,q2,q3,q4,q5,q6,q7,q8,z1,z2,z3,ca,dk,g_,eT]) fun s7 ⟨⟨⟨⟨⟨h1,h2,h3⟩,q1,q2,q3⟩,v,q4,q5⟩,q6,⟨v2,q7,q8⟩,z1,z2⟩,z3,ca,z5⟩=>?_;simp only[MM]at ca;refine ω (fun st=>J3 st/\ζ st.env 44= .int .i64 j/\MM bZ ei xj st) (by simp[J3,J2,J,K,MM,h1,h2,h3,q1,q2,q3,q4,q5,q6,q7,q8,z1,z2,z3,z5,ca]) fun s7 ⟨⟨⟨⟨⟨h1,h2,h3⟩,q1,q2,q3⟩,v,q4,q5⟩,q6,⟨v2,q7,q8⟩,z1,z2⟩,z3,ca⟩=>?_;simp only[MM]at ca;simp only[g_,eT]at z1;by_cases oQ:E y.blocks[j]=0
     ·rw[oQ]at p3;refine ω (fun st=>J3 st/\ζ st.env 44= .int .i64 j/\MM CS ei (xj++[.map (Jr.map bG)]) st) (by simp[J3,J2,J,K,MM,h1,h2,h3,q1,q2,q3,q4,q5,q6,q7,q8,z1,z2,z3,ca,dk,g_,eT,Br,p3]) fun s7 ⟨⟨⟨⟨⟨h1,h2,h3⟩,q1,q2,q3⟩,v,q4,q5⟩,q6,⟨v2,q7,q8⟩,z1,z2⟩,z3,ca⟩=>?_;simp only[MM]at ca;have z6:=tu (P:=fun k=>∀hk:k<y.blocks.length,E y.blocks[k]=0) (n:=y.blocks.length) (fun k a b c=>z4 k c b) (fun _=>oQ);exact μ.fin (M:=fun st=>J3 st/\ζ st.env 44= .int .i64 ((j:Int)+1)/\MM CS ei (xj++[.map (Jr.map bG)]) st) .normal (by simp[J3,J2,J,K,MM,h1,h2,h3,q1,q2,q3,q4,q5,q6,q7,q8,z1,z2,z3,ca,oU]) fun s' ⟨d1,d2,d3⟩=> .inl ⟨rfl,d1,d2,fun k hk KA=>z6 k hk KA hk,CS,_,by omega,by omega,d3⟩
     ·have pD:=zk dk z4 oQ;have QA:=eQ;rw[if_pos (show first E y.blocks≠0 by rw[pD];exact oQ)]at QA;have BS:E y.blocks[j]=du ps own l L:=pD.symm.trans QA;rw[BS]at oQ p3;refine bc (fun _=>False) ?_ fun _ h=>h.elim;refine μ.fin (M:=fun st=>MM CS ei (xj++[.map (Jr.map bG)]) st/\ζ st.env 6= .int .i64 (du ps own l L)) .ret (by simp[MM,h1,h2,h3,q1,q2,q3,q4,q5,q6,q7,q8,z1,z2,z3,ca,dk,eT,Br,p3,bne_true oQ,oQ]) fun s' ⟨b1,b2⟩=>?_;have hf:Fin s':=⟨CS,ei,_,by omega,by omega,b1⟩;simp[hf,b2]
    ·obtain⟨⟨⟨⟨⟨h1,h2,h3⟩,q1,q2,q3⟩,v,q4,q5⟩,q6,⟨v2,q7,q8⟩,z1,z2⟩,z3,z4,bZ,xj,a1,a2,ca⟩:=ψ;simp only[MM]at ca;rw[mL]at a2;have hz:=zj (f:=E) fun k hk=>z4 k hk hk;refine μ.fin (M:=fun st=>J2 st/\MM bZ ei xj st) (.exit 3) (by simp[J2,J,K,MM,RR,h1,h2,h3,q1,q2,q3,q4,q5,z1,z2,z3,ca]) fun s' ⟨d1,d2⟩=>?_;exact⟨by simp,.inl ⟨rfl,.inl ⟨rfl,d1,hz,bZ,xj,a1,by omega,d2⟩⟩⟩
   ·simp only[MM]at ca;rw[if_neg (show¬first E y.blocks≠0 by simpa using hz)]at eQ;have G7:=G6.mono (show(gN:Int)<=(bZ:Int) by omega);have m1:=L6 bZ ei xj;have m2:=msi bZ ei xj;by_cases eF:y.kind=2
    ·refine μ.fin (M:=fun st=>J st/\MM bZ (iL ei y.name 1 b) xj st) .normal (by simp[J,K,MM,h1,h2,h3,q1,q2,q3,q4,q5,ca,kl,k0,k2,eF,cF,m1,m2,isKey,plain,rj,HB,Mem.put]) fun s' ⟨d1,d2⟩=>?_;have hl:fC (iL ei y.name 1 b) b bZ (after Li y.kind y.name):=by have:=G7.put y.name 1 b (by decide) (by omega);simpa[after,eF,jL]using this
     simp;exact⟨d1,bZ,by omega,by omega,_,hl,⟨xj,d2⟩,eQ⟩
    by_cases jH:y.kind=3
    ·refine μ.fin (M:=fun st=>J st/\MM bZ (nB ei y.name) xj st) .normal (by simp[J,K,MM,h1,h2,h3,q1,q2,q3,q4,q5,ca,kl,k0,k2,jH,cF,m1,m2,isKey,adm,Mem.put]) fun s' ⟨d1,d2⟩=>?_;have hl:fC (nB ei y.name) b bZ (after Li y.kind y.name):=by have:=G7.del y.name;simpa[after,jH]using this
     simp;exact⟨d1,bZ,by omega,by omega,_,hl,⟨xj,d2⟩,eQ⟩
    by_cases jI:y.kind=5
    ·refine μ.fin (M:=fun st=>J st/\MM bZ (iL ei y.name 2 0) xj st) .normal (by simp[J,K,MM,h1,h2,h3,q1,q2,q3,q4,q5,ca,kl,k0,k2,jI,cF,m1,m2,isKey,plain,rj,HB,Mem.put]) fun s' ⟨d1,d2⟩=>?_;have hl:fC (iL ei y.name 2 0) b bZ (after Li y.kind y.name):=by have:=G7.put y.name 2 0 (by decide) (by omega);simpa[after,jI,jL]using this
     simp;exact⟨d1,bZ,by omega,by omega,_,hl,⟨xj,d2⟩,eQ⟩
    ·refine μ.fin (M:=fun st=>J st/\MM bZ (ei) xj st) .normal (by simp[J,K,MM,h1,h2,h3,q1,q2,q3,q4,q5,ca,kl,k0,k2,eC eF,eC jH,eC jI]) fun s' ⟨d1,d2⟩=>?_;have hl:fC (ei) b bZ (after Li y.kind y.name):=by simpa[after,eF,jH,jI]using G7
     simp;exact⟨d1,bZ,by omega,by omega,_,hl,⟨xj,d2⟩,eQ⟩
  ·obtain⟨⟨h1,h2,h3⟩,q1,q2,q3,gN,ei,ext,Li,oT,lA,G6,ca,eQ⟩:=ψ;rw[mL]at lA;rw[AJ]at eQ;have hz:du ps own l L=0:=eQ.symm;refine μ.fin (M:=fun st=>st.mem= {ε:=M gN ei++ext,θ:=[]}) (.exit 0) (by simp[RT,h1,h2,h3,q1,q2,q3,ca]) fun s' d1=>?_;have hf:Fin s':=⟨gN,ei,ext,oT,lA,d1⟩;simp[hf,hz]
 obtain⟨r,r1,r2,⟨eg,eI,ext,r3,r4,r5⟩,r6⟩:=dj;exact⟨eg,eI,r3,r4,lE (g:=zs) rfl rfl rfl (L8 eg eI) ⟨r,r1,r2,⟨ext,r5⟩,[_],by simp[zs];exact r6,by simp⟩⟩
theorem xk{c:χ}(h:aJ c)(n:Nat):c.lo n=true:=by rcases h with rfl|rfl<;>rfl
theorem η.Ht(n:Nat)(x:η):x.Ok->lo n x.av=true:=by
 refine η.jY (Q:=fun x=>x.Ok->lo n x.av=true) (fun k nn s c l ih h=>?_) x;simp only[η.Ok]at h;have:bp n (η.Δ l)=true:=by rw[nN,η.eo,mK,gu];exact fun y hy=>ih y hy (η.gO h.2 y hy)
 simp[η.av,lo,bp,xk h.1,this]
theorem Γ.Ht(n:Nat)(p:Γ)(h:p.Ok):lo n p.av=true:=by
 have:bp n (p.ix.map η.av)=true:=by rw[nN,mK,gu];exact fun y hy=>η.Ht n y (h.2.2 y hy).1
 simp[Γ.av,lo,bp,xk h.2.1,this]
theorem adi(n:Nat)(a b:List AV):bp n (a++b)=(bp n a&&bp n b):=by simp[nN]
theorem δ.LX(n:Nat)(x:δ):x.Ok->bp n x.cells=true:=by
 refine δ.jY (Q:=fun x=>x.Ok->bp n x.cells=true) (fun kk g nm cp pl size to cb body ce aG h1 h2 h=>?_) x;simp only[δ.Ok]at h;obtain⟨-,k1,k2,k3,k4,k5,k6,k7,k8⟩:=h;have e1:bp n (pl.map Γ.av)=true:=by rw[nN,mK,gu];exact fun p hp=>Γ.Ht n p (k2 p hp)
 have e2:∀y:η,y.Ok->bp n y.four=true:=fun y hy=>by have:=η.Ht n y hy;rwa[η.jA,lo]at this
 have go:∀l:List δ,δ.c7 l->(∀y∈l,y.Ok->bp n y.cells=true)->bp n (δ.Δ l)=true:=by intro l hl hy;rw[nN,δ.eo,mK,gu];exact fun y hm=>by simp only[Function.comp,δ.av,lo];exact hy y hm (δ.gO hl y hm)
 simp[δ.cells,adi,bp,lo,xk k1,xk k5,xk k7,e1,e2 _ k3.1,e2 _ k4.1,go body k6 h1,go aG k8 h2]
theorem δ.adf(n:Nat)(l:List δ)(h:δ.c7 l):bp n (δ.Δ l)=true:=by rw[nN,δ.eo,mK,gu];exact fun y hm=>by simp only[Function.comp,δ.av,lo];exact δ.LX n y (δ.gO h y hm)
theorem aeG(n:Nat)(l:List aI):bp n (l.map aI.av)=true:=by rw[nN,mK,gu];exact fun y hm=>rfl
theorem IE(gl:Nat->AV)(cv:cx)(l:List aT):∀s:St,(dF gl cv l s).bind List.getLast?=ed gl cv l s:=by
 induction l with
 |nil=>intro s;rfl
 |cons o l ih=>
  intro s
  simp only[dF,ed];cases h:dP gl cv o s with
  |none=>rfl
  |some s'=>
   have:=ih s'
   simp only;cases hs:dF gl cv l s' with
   |none=>rw[hs]at this;simpa using this
   |some tr=>
    rw[hs]at this
    simp only[Option.bind_some,Option.map_some]at this⊢;rw[<-this];cases tr with
    |nil=>
     exfalso
     cases l with
     |nil=>simp[dF]at hs
     |cons o' l'=>
      simp only[dF]at hs
      split at hs
      ·rw[Option.map_eq_some_iff]at hs;obtain⟨_,_,hs⟩:=hs;cases hs
      ·cases hs
    |cons a tr=>rw[List.getLast?_cons_cons]
theorem IB(gl:Nat->AV)(cv:cx)(l:List aT)(s:St):ek gl cv l [] [] s=ed gl cv l s:=by rw[<-IE];simp only[ek];cases dF gl cv l s<;>rfl
theorem I9{c:χ}(h:aJ c)(b:Prop)[Decidable b]:(if c= .nil then χ.nil else if c= .full/\b then .full else .any)=c:=by rcases h with rfl|rfl<;>simp
theorem aeD(x:aI)(l:List aI)(L:bq):nP (x::l) L=if jM x.name=false then 4 else if x.size<1\/12<x.size then 3 else if L x.name≠ .none then 5 else nP l (L.put x.name (.nf false)):=rfl
theorem f126(aS:χ)(cg:aJ aS)(ps:List Ξ)(bA:∀x∈ps,x.Ok)(cU:lH ps<10000000000)(k:Nat)(hk:k<ps.length)(ck:Nat)(m:Mem)(cK:m.ε[ck]?=some (.cells [.list aS (ps.map Ξ.av),.int .i64 k,.int .i64 0])):
  ∃nb:Nat,kf u 126 [.ν ck 0] m=some (.int .i64 (sK ps k ps[k]),{ε:=m.ε.set ck (.cells [.list aS (ps.map Ξ.av),.int .i64 k,.int .i64 nb]),θ:=m.θ}):=by
 have kR:=rT cK;have hlen:=HK ps;have hm:ps[k]∈ps:=cL hk;have ab:=bA _ hm;have ou:=Ξ.o_ hm;simp only[Ξ.wt]at ou;have eR:∀M:Mem,M.φ=φ:=fun _=>rfl;have qS:cW (ps[k].aK.map aI.av)=ps[k].aK.map aI.av:=by rw[fO,c6];exact dt fun _ _=>rfl
 have we:cW (δ.Δ ps[k].body)=δ.Δ ps[k].body:=by rw[fO,δ.eo,c6];exact dt fun y _=>by simp only[Function.comp,δ.av,φ,δ.yt]
 have oM:(ps.map Ξ.av).all (fun e=>decide (e.cells.length=3))=true:=by simp[Ξ.av]
 have Rc:∀p∈ps.take k,p.Ok:=fun p hp=>bA p (List.mem_of_mem_take hp);generalize yc:ps[k]=x at*;let xc:List AV:=[.str x.name,.list x.cp (x.aK.map aI.av),.list x.cb (δ.Δ x.body)];let B1:List κ:=m.ε++[.cells xc];let qC:Nat->κ:=fun n=> .cells [.list aS (ps.map Ξ.av),.int .i64 k,.int .i64 n];have d0:∀ext,(B1++ext)[ck]?=some (qC 0):=fun ext=>by simp only[B1,cj];rw[dX kR];exact cK
 have d1:∀ext,(B1++ext)[m.ε.length]?=some (.cells xc):=fun ext=>by simp[B1]
 have Gv:B1.length=m.ε.length+1:=by simp[B1]
 let Fin:St->Prop:=fun st=>∃(nb:Nat) (ext:List κ),st.mem= {ε:=m.ε.set ck (qC nb)++ext,θ:=[]};have vG:∀{st:St} {ext:List κ},st.mem= {ε:=B1++ext,θ:=[]}->Fin st:=fun{st ext} h=>⟨0,[.cells xc]++ext,by rw[h,MK (x:=qC 0) cK];simp[B1]⟩;have dj:μ (C u).gl (aU (C u)) zr.code {env:=([]++[AV.ν ck 0]++[]).map (exp m.ε.length false),loc:=[],mem:= {ε:=m.ε,θ:=[]}} fun r=>
   (∀i,r.1≠ .exit i)/\Fin r.2/\ζ r.2.env 2= .int .i64 (sK ps k x):=by
  have dL:([]++[AV.ν ck 0]++[]).map (exp m.ε.length false)=[AV.ν ck 0]:=by simp[exp,kR]
  rw[dL];simp only[zr,NV];let K:St->Prop:=fun st=>ζ st.env 0= .ν ck 0/\ζ st.env 3= .ν m.ε.length 0;let MM:List κ->St->Prop:=fun ext st=>st.mem= {ε:=B1++ext,θ:=[]};refine ω (fun st=>ζ st.env 0= .ν ck 0/\st.mem= {ε:=m.ε,θ:=[]}) (by simp) fun s1 ⟨h1,h2⟩=>?_;have Yy:(m.ε++[κ.cells [AV.str [],AV.list χ.nil [],AV.list χ.nil []]])[ck]?=some (.cells [.list aS (ps.map Ξ.av),.int .i64 k,.int .i64 0]):=by rw[dX kR];exact cK
  refine ω (fun st=>K st/\MM [] st) (by simp[K,MM,B1,xc,h1,h2,cK,Yy,hk,yc,Ξ.av,dm,vC,dy,fm,AV.gz,AV.beq,AV.ki,Mem.push,Mem.put,eR,φ,cW,qS,we,bp,lo,xk ab.2.1,xk ab.2.2.2.1,aeG,δ.adf _ _ ab.2.2.2.2.1]) fun s1 ⟨⟨h1,h2⟩,h3⟩=>?_;simp only[MM,dW]at h3;have D7:=d0 [];have d10:=d1 [];simp only[dW,qC,xc]at D7 d10;have qF:=fun m=>f113 (u:=u) x.name ab.1 m;have sc:Fix B1.length (.fn (.func 190) [] [.ν m.ε.length 0]):=by
   intro kk bb pH;have:m.ε.length<kk:=by omega
   simp[exp,bn,Fn.below,this]
  let S1:St->Prop:=fun st=>K st/\MM [] st;have ahi:¬4<x.aK.length->¬(4:Int)<(x.aK.length:Int):=fun h=>by omega
  have zd:=fun c hc=>f189 (u:=u) (q:=fun p=>p.name==x.name) sc c hc (ps.take k) Rc (by rw[List.length_take];omega) (fun p hp=>f190 x.name [.list x.cp (x.aK.map aI.av),.list x.cb (δ.Δ x.body)] (by simpa[xc]using d1 []) p (Rc p hp)) [] [];simp only[dW,List.map_take]at zd;unfold sK;cases hn:jM x.name with
  |false=>
   rw[hn]at qF
   refine bc (fun _=>False) ?_ fun _ h=>h.elim;refine μ.fin (M:=fun st=>MM [] st/\ζ st.env 2= .int .i64 4) .ret (by simp[MM,h1,h2,h3,d10,qF]) fun s' ⟨b1,b2⟩=>?_;have hf:Fin s':=vG b1;simp[hf,b2]
  |true=>
  rw[hn]at qF
  simp only[Ih,if_false];have uN:(k:Int)<=(ps.length:Int):=by omega
  have wa:((k:Int)).toNat=k:=by omega
  by_cases G_:((ps.take k).any fun p=>p.name==x.name)=true
  ·rw[if_pos G_];refine bc (fun _=>False) ?_ fun _ h=>h.elim;refine μ.fin (M:=fun st=>MM [] st/\ζ st.env 2= .int .i64 5) .ret (by
    rw[G_]at zd
    simp[-ek,-dF,IB,MM,h1,h2,h3,D7,d10,qF,bound,uN,wa,Ξ.av,zd _ cg,I9 cg]) fun s' ⟨b1,b2⟩=>?_
   have hf:Fin s':=vG b1;simp[hf,b2]
  rw[if_neg G_];have aas:((ps.take k).any fun p=>p.name==x.name)=false:=by simpa using G_
  rw[aas]at zd;by_cases xZ:4<x.aK.length
  ·rw[if_pos xZ];have x4:(4:Int)<(x.aK.length:Int):=by omega
   refine bc (fun _=>False) ?_ fun _ h=>h.elim;refine μ.fin (M:=fun st=>MM [] st/\ζ st.env 2= .int .i64 2) .ret (by simp[-ek,-dF,IB,MM,h1,h2,h3,D7,d10,qF,bound,uN,wa,Ξ.av,zd _ cg,I9 cg,x4]) fun s' ⟨b1,b2⟩=>?_;have hf:Fin s':=vG b1;simp[hf,b2]
  rw[if_neg xZ];have x4:¬(4:Int)<(x.aK.length:Int):=by omega
  refine ω (S1) (by simp[S1,K,-ek,-dF,IB,MM,h1,h2,h3,D7,d10,qF,bound,uN,wa,Ξ.av,zd _ cg,I9 cg,x4]) fun s1 ⟨⟨h1,h2⟩,h3⟩=>?_;simp only[MM,dW]at h3;let id:Nat:=m.ε.length+1;let S2:List aL->St->Prop:=fun es st=>K st/\(∃v,ζ st.env 4= .ae 4 v 0/\τ st.loc 4=some (v,.cells [.map id,.int .i64 0]))/\MM [.map (es.map bG)] st;refine ω (S2 []) (by simp[S2,K,MM,h1,h2,h3,cF,Mem.push,Gv,id]) fun s1 ⟨⟨h1,h2⟩,⟨v,h4,h5⟩,h3⟩=>?_;simp only[MM]at h3;have hid:∀(es:List aL) ext,(B1++(κ.map (es.map bG)::ext))[id]?=some (.map (es.map bG)):=fun es ext=>by show(B1++(κ.map (es.map bG)::ext))[m.ε.length+1]?=_;rw[<-Gv];simp
  have ky:∀(es eI:List aL),(B1++[κ.map (es.map bG)]).set id (.map (eI.map bG))=B1++[.map (eI.map bG)]:=fun es eI=>by show(B1++[κ.map (es.map bG)]).set (m.ε.length+1) _=_;rw[<-Gv];simp
  refine bc (fun st=>nP x.aK jN=0/\∃es,fC es 0 1 (lG x.aK jN)/\S2 es st) ?_ fun s1 ⟨hz,es,hs,⟨h1,h2⟩,⟨v,h4,h5⟩,h3⟩=>?_
  ·let I:Nat->St->Prop:=fun i st=>ζ st.env 45= .list x.cp (x.aK.map aI.av)/\ζ st.env 46= .int .i64 x.aK.length/\ζ st.env 47= .int .i64 i/\∃es L',fC es 0 1 L'/\S2 es st/\nP (x.aK.drop i) L'=nP x.aK jN/\lG (x.aK.drop i) L'=lG x.aK jN;have xo:=d1 [.map []];simp only[xc]at xo;refine ω (fun st=>ζ st.env 45= .list x.cp (x.aK.map aI.av)/\ζ st.env 46= .int .i64 x.aK.length/\ζ st.env 47= .int .i64 0/\S2 [] st) (by simp[S2,K,MM,h1,h2,h3,h4,h5,xo]) fun s4 ⟨a1,a2,a3,a4⟩=>?_;refine μ.block (μ.loop (I:=I) x.aK.length ⟨a1,a2,a3,[],jN,fC.empty 0 1,a4,rfl,rfl⟩ fun i st hi ψ=>?_);obtain⟨q1,q2,q3,es,L',cd,⟨⟨h1,h2⟩,⟨v,h4,h5⟩,h3⟩,q4,q5⟩:=ψ;simp only[MM]at h3;rcases bP i x.aK.length with dk|cG
   ·have fU:a_ .i64 ((i:Int)+1)=(i:Int)+1:=wrap_i64 (by omega) (by omega);rw[jR dk]at q4 q5;rw[aeD]at q4;simp only[lG]at q5;have aab:cX x.aK[i].name:=ab.2.2.1 _ (cL dk);have f191:=f191 (u:=u) (B:=B1++[.map (es.map bG)]) (by simpa using hid es []) cd x.aK[i].name aab [] [];simp only[ew,dW]at f191;have aha:id<(B1++[κ.map (es.map bG)]).length:=by simp[Gv,id]
    by_cases qS:jM x.aK[i].name=false
    ·rw[if_pos qS]at q4;have ak:dV L' x.aK[i].name=4:=by simp[dV,qS]
     rw[ak]at f191;right;have hx:∃s',exec (C u).gl (aU (C u)) fI qY st=some (.ret,s')/\MM [.map (es.map bG)] s'/\ζ s'.env 2= .int .i64 4:=by simp[MM,qY,h1,h2,h3,h4,h5,q1,q2,q3,dk,aI.av,f191]
     obtain⟨s',b0,b1,b2⟩:=hx;refine⟨_,b0,by simp,?_⟩;have hf:Fin s':=vG b1;simp[hf,b2,<-q4]
    rw[if_neg qS]at q4;have KS:jM x.aK[i].name=true:=by simpa using qS
    have Q6:dV L' x.aK[i].name≠4:=by simp only[dV,KS,Ih,if_false];split<;>decide
    by_cases bh:x.aK[i].size<1\/12<x.aK[i].size
    ·rw[if_pos bh]at q4;right;have hx:∃s',exec (C u).gl (aU (C u)) fI qY st=some (.ret,s')/\MM [.map (es.map bG)] s'/\ζ s'.env 2= .int .i64 3:=by
      rcases bh with bh|bh
      ·simp[MM,qY,h1,h2,h3,h4,h5,q1,q2,q3,dk,aI.av,f191,eC Q6,bh]
      ·have:¬x.aK[i].size<1:=by omega
       simp[MM,qY,h1,h2,h3,h4,h5,q1,q2,q3,dk,aI.av,f191,eC Q6,bh,this]
     obtain⟨s',b0,b1,b2⟩:=hx;refine⟨_,b0,by simp,?_⟩;have hf:Fin s':=vG b1;simp[hf,b2,<-q4]
    rw[if_neg bh]at q4;have ot:¬x.aK[i].size<1:=by omega
    have lV:¬12<x.aK[i].size:=by omega
    by_cases pK:L' x.aK[i].name= .none
    ·rw[if_neg (by simpa using pK)]at q4;have ak:dV L' x.aK[i].name=0:=by simp[dV,KS,pK]
     rw[ak]at f191;left;refine⟨dk,?_⟩;have hx:∃s',exec (C u).gl (aU (C u)) fI qY st=some (.normal,s')/\S2 (iL es x.aK[i].name 1 (-1)) s'/\ζ s'.env 45= .list x.cp (x.aK.map aI.av)/\ζ s'.env 46= .int .i64 x.aK.length/\ζ s'.env 47= .int .i64 ((i:Int)+1):=by simp[S2,K,MM,qY,h1,h2,h3,h4,h5,q1,q2,q3,dk,aI.av,f191,ot,lV,fU,cF,hid,ky,isKey,plain,rj,HB,Mem.put]
     obtain⟨s',b0,b1,b2,b3,b4⟩:=hx;have:=cd.put x.aK[i].name 1 (-1) (by decide) (by omega);exact⟨s',b0,b2,b3,b4,_,_,by simpa[jL]using this,b1,q4,q5⟩
    ·rw[if_pos pK]at q4;have ak:dV L' x.aK[i].name=5:=by simp[dV,KS,pK]
     rw[ak]at f191;right;have hx:∃s',exec (C u).gl (aU (C u)) fI qY st=some (.ret,s')/\MM [.map (es.map bG)] s'/\ζ s'.env 2= .int .i64 5:=by simp[MM,qY,h1,h2,h3,h4,h5,q1,q2,q3,dk,aI.av,f191,ot,lV]
     obtain⟨s',b0,b1,b2⟩:=hx;refine⟨_,b0,by simp,?_⟩;have hf:Fin s':=vG b1;simp[hf,b2,<-q4]
   ·right;have:i=x.aK.length:=by omega
    subst this;rw[AJ]at q4 q5;simp only[nP]at q4;simp only[lG]at q5;have hx:∃s',exec (C u).gl (aU (C u)) fI qY st=some (.exit 1,s')/\S2 es s':=by simp[S2,K,MM,qY,h1,h2,h3,h4,h5,q1,q2,q3]
    obtain⟨s',b0,b1⟩:=hx;refine⟨_,b0,by simp,.inl ⟨rfl,.inl ⟨rfl,q4.symm,es,?_,b1⟩⟩⟩;rw[<-q5];exact cd
  simp only[MM]at h3;rw[hz];simp only[ne_eq,not_true_eq_false,if_false];have xo:=d1 [.map (es.map bG)];have Pu:=d0 [.map (es.map bG)];simp only[xc]at xo;simp only[qC]at Pu;have QH:=δ.xm x.body;have Jj:=fun m=>f135 (u:=u) x.cb ab.2.2.2.1 x.body ab.2.2.2.2.1 (by omega) m;have PE:=fun m=>f192 (u:=u) x.body x.cb ab.2.2.2.1 ab.2.2.2.2.1 1 (by omega) (by omega) m;have YK:lM (δ.cM x.body) 1=δ.cM x.body:=by unfold lM;split<;>omega
  rw[YK]at PE;have PF:∀m,kf u 192 [.list x.cb (δ.Δ x.body),.int .i64 1] m=some (.int .i64 (δ.cM x.body),m):=PE;by_cases hc:120<δ.bj x.body
  ·rw[if_pos hc];have gj:(120:Int)<(δ.bj x.body:Int):=by omega
   refine bc (fun _=>False) ?_ fun _ h=>h.elim;refine μ.fin (M:=fun st=>MM [.map (es.map bG)] st/\ζ st.env 2= .int .i64 2) .ret (by simp[MM,h1,h2,h3,h4,h5,xo,Jj,gj]) fun s' ⟨b1,b2⟩=>?_;have hf:Fin s':=vG b1;simp[hf,b2]
  rw[if_neg hc];have iS:¬(120:Int)<(δ.bj x.body:Int):=by omega
  by_cases hd:6<δ.cM x.body
  ·rw[if_pos hd];have je:(6:Int)<(δ.cM x.body:Int):=by omega
   refine bc (fun _=>False) ?_ fun _ h=>h.elim;refine μ.fin (M:=fun st=>MM [.map (es.map bG)] st/\ζ st.env 2= .int .i64 11) .ret (by simp[MM,h1,h2,h3,h4,h5,xo,Jj,iS,PF,je]) fun s' ⟨b1,b2⟩=>?_;have hf:Fin s':=vG b1;simp[hf,b2]
  rw[if_neg hd];have gm:¬(6:Int)<(δ.cM x.body:Int):=by omega
  refine ω (S2 es) (by simp[S2,K,MM,h1,h2,h3,h4,h5,xo,Jj,iS,PF,gm]) fun s1 ⟨⟨h1,h2⟩,⟨v,h4,h5⟩,h3⟩=>?_;simp only[MM]at h3;let B2:List κ:=m.ε.set ck (qC 1);have XX:(B1++[κ.map (es.map bG)]).set ck (.cells [.list aS (ps.map Ξ.av),.int .i64 k,.int .i64 1])=B2++[.cells xc,.map (es.map bG)]:=by simp only[B1,cj];rw[lL _ _ kR];rfl
  have Ql:B2.length=m.ε.length:=by simp[B2]
  have Yz:(B2++[κ.cells xc,.map (es.map bG)])[ck]?=some (.cells [.list aS (ps.map Ξ.av),.int .i64 k,.int .i64 (1:Nat)]):=by rw[dX (by omega)];simp[B2,qC,kR]
  have Ze:(B2++[κ.cells xc,.map (es.map bG)])[id]?=some (.map (es.map bG)):=by show(B2++[κ.cells xc,.map (es.map bG)])[m.ε.length+1]?=_;rw[<-Ql];simp
  obtain⟨eg,eI,p1,p2,p3⟩:=f193 (u:=u) aS cg ps bA (by omega) k x.body x.cb ab.2.2.2.1 ab.2.2.2.2.1 es _ 0 1 ck id {ε:=B2++[.cells xc,.map (es.map bG)],θ:=[]} Yz Ze hs (by omega) (by omega);have GB:bM (B2++[κ.cells xc,.map (es.map bG)]) ck id (.list aS (ps.map Ξ.av)) (.int .i64 k) eg eI=m.ε.set ck (qC eg)++[.cells xc,.map (eI.map bG)]:=by
   unfold bM;rw[lL _ _ (by omega)];have:B2.set ck (.cells [.list aS (ps.map Ξ.av),.int .i64 k,.int .i64 eg])=m.ε.set ck (qC eg):=by simp[B2,qC]
   rw[this,Is _ _ (by simp[id])];simp[id]
  simp only[GB,ew]at p3;have p3':kf u 193 [.ν ck 0,.agg [.map id,.int .i64 0],.list x.cb (δ.Δ x.body)] {ε:=B2++[.cells xc,.map (es.map bG)],θ:=[]}=some (.int .i64 (du ps k x.body (lG x.aK jN)),{ε:=m.ε.set ck (qC eg)++[.cells xc,.map (eI.map bG)],θ:=[]}):=p3;refine ω (fun st=>K st/\(∃v,ζ st.env 4= .ae 4 v 0/\τ st.loc 4=some (v,.cells [.map id,.int .i64 0]))/\st.mem= {ε:=B2++[.cells xc,.map (es.map bG)],θ:=[]}) (by simp[K,h1,h2,h3,h4,h5,Pu,XX,Mem.put,eR,φ,bp,lo]) fun s1 ⟨⟨h1,h2⟩,⟨v,h4,h5⟩,h3⟩=>?_;have Ws:(B2++[κ.cells xc,.map (es.map bG)])[m.ε.length]?=some (.cells [.str x.name,.list x.cp (x.aK.map aI.av),.list x.cb (δ.Δ x.body)]):=by rw[<-Ql];simp[xc]
  refine μ.fin (M:=fun st=>st.mem= {ε:=m.ε.set ck (qC eg)++[.cells xc,.map (eI.map bG)],θ:=[]}/\ζ st.env 2= .int .i64 (du ps k x.body (lG x.aK jN))) .ret (by simp[h1,h2,h3,h4,h5,Ws,p3']) fun s' ⟨b1,b2⟩=>?_;have hf:Fin s':=⟨eg,_,b1⟩;simp[hf,b2]
 obtain⟨r,r1,r2,⟨nb,ext,r3⟩,r4⟩:=dj;exact⟨nb,lE (g:=zr) rfl rfl rfl (by simp) ⟨r,r1,r2,⟨ext,r3⟩,[_],by simp[zr];exact r4,by simp⟩⟩
theorem f43(aS:χ)(cg:aJ aS)(ps:List Ξ)(bA:∀x∈ps,x.Ok)(cU:lH ps<10000000000)(m:Mem):
  kf u 43 [dT aS ps] m=some (.int .i64 (ko ps),m):=by
 refine bD (g:=Gj) rfl rfl rfl ?_;simp only[ay,aA,nC cg bA];simp only[Gj,O7];have hlen:=HK ps;have eR:∀M:Mem,M.φ=φ:=fun _=>rfl;have qS:cW (ps.map Ξ.av)=ps.map Ξ.av:=by
  rw[fO,c6];refine dt fun p _=>?_;have h1:cW (p.aK.map aI.av)=p.aK.map aI.av:=by rw[fO,c6];exact dt fun _ _=>rfl
  have h2:cW (δ.Δ p.body)=δ.Δ p.body:=by rw[fO,δ.eo,c6];exact dt fun y _=>by simp only[Function.comp,δ.av,φ,δ.yt]
  simp only[Function.comp,Ξ.av,φ,cW,h1,h2]
 simp only[dT]at*;let K:List κ->St->Prop:=fun ext st=>ζ st.env 1= .ae 1 0 0/\τ st.loc 1=some (0,.cells [.list aS (ps.map Ξ.av)])/\st.mem= {ε:=m.ε++ext,θ:=[]};refine ω (K []) (by simp[K,aR]) fun s1 ⟨h1,h2,h3⟩=>?_;unfold ko;by_cases ho:ps.length<1\/12<ps.length
 ·rw[if_pos ho];refine bc (fun _=>False) ?_ fun _ h=>h.elim;by_cases h0:ps.length<1
  ·have:(ps.length:Int)<1:=by omega
   simp[h1,h2,h3,this]
  ·have JJ:¬(ps.length:Int)<1:=by omega
   have JK:(12:Int)<ps.length:=by omega
   simp[h1,h2,h3,JJ,JK]
 rw[if_neg ho];have JJ:¬(ps.length:Int)<1:=by omega
 have JK:¬(12:Int)<ps.length:=by omega
 refine ω (K []) (by simp[K,h1,h2,h3,JJ,JK]) fun s1 ⟨h1,h2,h3⟩=>?_;refine bc (fun st=>(∃ext,K ext st)/\o8 ps 0 ps=0) ?_ fun s2 ⟨⟨ext,h1,h2,h3⟩,h4⟩=>by simp[h3,h4]
 let I:Nat->St->Prop:=fun i st=>(∃ext,K ext st)/\ζ st.env 17= .int .i64 ps.length/\ζ st.env 18= .int .i64 i/\o8 ps i (ps.drop i)=o8 ps 0 ps;refine ω (fun st=>K [] st/\ζ st.env 17= .int .i64 ps.length/\ζ st.env 18= .int .i64 0) (by simp[K,h1,h2,h3]) fun s4 ⟨a1,a2,a3⟩=>?_;refine μ.block (μ.loop (I:=I) ps.length ⟨⟨[],a1⟩,a2,a3,rfl⟩ fun i st hi ψ=>?_);obtain⟨⟨ext,h1,h2,h3⟩,q1,q2,q3⟩:=ψ;rcases bP i ps.length with ρ|cG
 ·have fU:a_ .i64 ((i:Int)+1)=(i:Int)+1:=wrap_i64 (by omega) (by omega);have sn:(m.ε++(ext++[κ.cells [.list aS (ps.map Ξ.av),.int .i64 i,.int .i64 0]]))[(m.ε++ext).length]?=some (.cells [.list aS (ps.map Ξ.av),.int .i64 i,.int .i64 0]):=by rw[<-cj];simp
  obtain⟨nb,e⟩:=f126 (u:=u) aS cg ps bA cU i ρ (m.ε++ext).length {ε:=m.ε++(ext++[.cells [.list aS (ps.map Ξ.av),.int .i64 i,.int .i64 0]]),θ:=[]} sn;have ky:(m.ε++(ext++[κ.cells [.list aS (ps.map Ξ.av),.int .i64 i,.int .i64 0]])).set (m.ε++ext).length (.cells [.list aS (ps.map Ξ.av),.int .i64 i,.int .i64 nb])=m.ε++(ext++[.cells [.list aS (ps.map Ξ.av),.int .i64 i,.int .i64 nb]]):=by rw[<-cj,Is _ _ (bF _)];simp
  simp only[ky,List.length_append]at e;rw[jR ρ]at q3;simp only[o8]at q3;by_cases hz:sK ps i ps[i]=0
  ·rw[if_neg (by simpa using hz)]at q3;rw[hz]at e;left;refine⟨ρ,?_⟩;have hx:∃s',exec (C u).gl (aU (C u)) fI Ag st=some (.normal,s')/\K (ext++[.cells [.list aS (ps.map Ξ.av),.int .i64 i,.int .i64 nb]]) s'/\ζ s'.env 17= .int .i64 ps.length/\ζ s'.env 18= .int .i64 ((i:Int)+1):=by simp[K,Ag,h1,h2,h3,q1,q2,ρ,e,fU,cF,Mem.push,eR,φ,cW,qS]
   obtain⟨s',b1,b2,b3,b4⟩:=hx;exact⟨s',b1,⟨_,b2⟩,b3,b4,q3⟩
  ·rw[if_pos hz]at q3;rw[q3]at e hz;right;simp[Ag,h1,h2,h3,q1,q2,ρ,e,bne_true hz,cF,Mem.push,eR,φ,cW,qS]
 ·right;have:i=ps.length:=by omega
  subst this;rw[AJ]at q3;simp only[o8]at q3;have hx:∃s',exec (C u).gl (aU (C u)) fI Ag st=some (.exit 0,s')/\K ext s':=by simp[K,Ag,h1,h2,h3,q1,q2]
  obtain⟨s',b1,b2⟩:=hx;refine⟨_,b1,by simp,?_⟩;left;exact⟨rfl,.inl ⟨rfl,⟨ext,b2⟩,q3.symm⟩⟩
end Go.ah.Tz
