import Derived.Test.YtiigojkfojnedaaGreatDoorRKu
import Derived.Test.YtiigojkfojnedaaGreatDoorRHm
set_option linter.all false
set_option maxRecDepth 100000
set_option maxHeartbeats 8000000
open List renaming all_map->o8,getElem?_append_left->d_,take_of_length_le->fe,length_map->cz,append_assoc->bQ,set_append_left->ns,mem_singleton->fY,mem_append->dQ,cons_append->cy,length->lK,map_cons->ax,map_nil->aI
open Nat renaming le_refl->b_
namespace Go.Δ.Tz
open Go.Δ
variable{u:Nat}
attribute [local simp] exec ef dR e_ aJ dF fE eR br fM bR iL iS jm jE mo AV.cells newVar jA rd wr iu single dk cD ff eF μ cF RV.get cK fV kT
attribute [local simp] EA D8
theorem X8(l:List δ):(δ.χ l).all (shaped true 14)=true:=by rw[δ.dW];simp[o8,shaped,δ.av,δ.ll,Function.comp]
theorem aiU(l:List Sp):(Sp.χ l).all (shaped true 3)=true:=by
 rw[Sp.dW,o8];simp only[List.all_eq_true,Function.comp]
 rintro⟨f,t,i⟩ _
 rfl
theorem Sp.len(x:Sp):x.cells.length=3:=by cases x;rfl
theorem δ.afB{l:List δ}{x:δ}(h:δ.cm l)(hx:x.Ok):δ.cm (l++[x]):=by
 induction l with
 |nil=>exact⟨hx,trivial⟩
 |cons a l ih=>exact⟨h.1,ih h.2⟩
theorem aiZ(l:List δ)(x:δ):δ.χ (l++[x])=δ.χ l++[.agg x.cells]:=by simp[δ.dW,δ.av]
theorem aiV(l:List Sp)(x:Sp):Sp.χ (l++[x])=Sp.χ l++[.agg x.cells]:=by simp[Sp.dW]
section
variable{s:List Nat}{all:List Tok}{c:τ}(hl:all.length<1000000000)(aj:∀t∈all,t.Ok)(hc:bm c)
include hl aj hc
theorem f231{n k:Nat}(hkn:k+1<=n)(hb:∀a:RS,a.sz<k->tG u s all c 231 [] (eh s.length (aB s.length n) k) Eb a)(a:RS)(hak:a.sz<k+1):tG u s all c 231 [] (eh s.length (aB s.length n) (k+1)) Eb a:=by
 intro B p cs item T hp h;show∃v x ah dU b T',_/\_/\aH (zc s.length (iE s.length (aB s.length n) (eh s.length (aB s.length n) k))) a x b/\_;have ahw:=fun(a:RS) (h2:a.sz<k+1)=>f271 (u:=u) (n:=n) (k:=k) hl aj hc hb a (by omega) h2;have qj:eW (iE s.length (aB s.length n) (eh s.length (aB s.length n) k)):=KN _ (nB _ _) (An _ (nB _ _) _);generalize hP:iE s.length (aB s.length n) (eh s.length (aB s.length n) k)=P at*;obtain⟨_,w1,cL,a1,k1,r1,iB,rfl⟩:=f226 (u:=u) (item:=item) [123] hl aj a B p cs hp h;have s1:=iB.sz (eP _ _);let F:List δ×List Sp->PS->R (List δ×List Sp):=fun l t=>(uE s.length P t).map fun x=>(l.1++[x.1],l.2++[x.2]);let cc:PS->Bool:=fun t=>!t.aV [125];have dT:μ (C u).gl (ab (C u)) Qy {env:=[.κ p 0],loc:=[],mem:= {ε:=B.set p (.cells cs),η:=[]}} fun r=>(∀i,r.1≠ .exit i)/\∃lo li c4 c5 ah ext dU b,br r.2.env 2= .list c4 (δ.χ lo)/\br r.2.env 3= .list c5 (Sp.χ li)/\r.2.mem.ε=B.set p (.cells ah)++ext/\(∀i∈r.2.mem.η,i=p\/B.length<=i)∧
   c4.exp 0 false=Ξ lo/\c5.exp 0 false=Ξ li/\δ.cm lo/\cE s all c dU ah b/\aH (zc s.length P) a (lo,li) b:=by
  refine Ψ (fun st=>st.e 0= .κ p 0/\st.mem= {ε:=B.set p (.cells cs),η:=[]}) (by simp) fun s1 ⟨h1,h2⟩=>?_;refine Ψ (fun st=>st.e 0= .κ p 0/\st.e 4= .list .nil []/\st.mem= {ε:=B.set p (.cells cs),η:=[]}) (by simp[h1,h2]) fun s1 ⟨h1,h3,h2⟩=>?_;refine Ψ (fun st=>st.e 0= .κ p 0/\st.e 4= .list .nil []/\st.e 5= .list .nil []/\st.mem= {ε:=B.set p (.cells cs),η:=[]}) (by simp[h1,h2,h3]) fun s1 ⟨h1,h3,h4,h2⟩=>?_;refine Ψ (fun st=>st.e 0= .κ p 0/\st.e 4= .list .nil []/\st.e 5= .list .nil []/\st.mem= {ε:=B.set p (.cells cL),η:=[]}) (by simp[h1,h2,h3,h4,k1]) fun s1 ⟨h1,h3,h4,h2⟩=>?_;refine Ψ (fun st=>st=s1) (by simp) fun s2 hs=>?_;subst hs;let R2:St->List δ->List Sp->List AV->RS->Prop:=fun st lo li ah b=>st.e 0= .κ p 0/\∃c4 c5 ext tt dU,st.e 4= .list c4 (δ.χ lo)/\st.e 5= .list c5 (Sp.χ li)/\st.mem=(kK B p ah ext tt)/\(∀i∈tt,i=p\/B.length<=i)∧
   Row B.length (B.set p (.cells ah)++ext) 14 66 c4 lo.length/\Row B.length (B.set p (.cells ah)++ext) 3 198 c5 li.length/\(lo=[]->c4= .nil)/\(li=[]->c5= .nil)/\δ.cm lo/\cE s all c dU ah b
  let I:Nat->St->Prop:=fun i st=>∃lo li ah b,R2 st lo li ah b/\lo.length<=i/\li.length<=i/\b.sz<=a1.sz/\(b.sz+i<=a1.sz\/∃w,b= .w w)/\∀y b',aH (cJ cc F (a1.sz+1-i) (lo,li)) b y b'->aH (cJ cc F (a1.sz+1) ([],[])) a1 y b';have hI:I 0 s2:=⟨[],[],cL,a1,⟨h1,.nil,.nil,[],[],item,h3,h4,h2.trans (by simp),by simp,Row.nil,Row.nil,fun _=>rfl,fun _=>rfl,trivial,r1⟩,b_ _,b_ _,b_ _,.inl (b_ _),fun _ _ h=>h⟩;have hlen:=r1.sz;refine bS (fun st=>∃lo li ah b,R2 st lo li ah b/\aH (cJ cc F (a1.sz+1) ([],[])) a1 (lo,li) b) ?_ fun s3 ⟨lo,li,ah,b,⟨q1,c4,c5,ext,tt,dU,q2,q3,q4,q5,q6,q7,q8,q9,nf,pU⟩,hg⟩=>?_
  ·refine μ.block (μ.lH (I:=I) (a1.sz+1) hI fun i st hi Ω=>?_);obtain⟨lo,li,ah,b,⟨q1,c4,c5,ext,tt,dU,q2,q3,q4,q5,q6,q7,q8,q9,nf,pU⟩,jJ,nN,fD,yp,pE⟩:=Ω;have Td:∀aT:St,aT.e 0= .κ p 0/\aT.e 4= .list c4 (δ.χ lo)/\aT.e 5= .list c5 (Sp.χ li)/\aT.mem=(kK B p ah ext tt)->R2 aT lo li ah b:=fun aT ⟨m1,m2,m3,m4⟩=>⟨m1,c4,c5,ext,tt,dU,m2,m3,m4,q5,q6,q7,q8,q9,nf,pU⟩;obtain⟨k2,wr,iZ,gy,fW⟩:=pU;have gp:(B.set p (θ.cells ah)++ext)[p]?=some (.cells [.str s,.list c (all.map Tok.bp),.n k2,.n wr,dU]):=by rw[d_ (by simpa using hp),iZ];simp[hp]
   have pU:cE s all c dU ah b:=⟨k2,wr,iZ,gy,fW⟩;unfold Vb;cases b with
   |w w=>
    have hw:¬wr<0:=by have:wr=(w:Int):=fW;omega
    refine μ.done (.exit 0) (fun aT=>aT.e 0= .κ p 0/\aT.e 4= .list c4 (δ.χ lo)/\aT.e 5= .list c5 (Sp.χ li)/\aT.mem=(kK B p ah ext tt)) (by simp[q1,q2,q3,q4,gp,hw]) fun s' hh=> .inr ⟨by simp,.inl ⟨rfl,.inl ⟨rfl,lo,li,ah,.w w,Td s' hh,pE _ _ rfl⟩⟩⟩
   |r sb=>
    obtain⟨rfl,-,-⟩:=fW
    have yp:(RS.r sb).sz+i<=a1.sz:=yp.elim id fun⟨w,h⟩=>by cases h
    rw[show a1.sz+1-i=(a1.sz-i)+1 by omega]at pE;have qb:=fun t hb T=>Cg (u:=u) hl [125] ext hp pU t hb T;cases dr:(RS.r sb).aV [125]with
    |true=>
     have qb:=qb _ dr
     refine μ.done (.exit 0) (fun aT=>aT.e 0= .κ p 0/\aT.e 4= .list c4 (δ.χ lo)/\aT.e 5= .list c5 (Sp.χ li)/\aT.mem=(kK B p ah ext tt)) (by simp[q1,q2,q3,q4,gp,qb]) fun s' hh=> .inr ⟨by simp,.inl ⟨rfl,.inl ⟨rfl,lo,li,ah,.r sb,Td s' hh,pE _ _ (aH.D3 (show(!sb.aV [125])=false by rw[show sb.aV [125]=true from dr];rfl))⟩⟩⟩
    |false=>
     have qb:=qb _ dr
     obtain⟨_,⟨x,sp⟩,cA,rQ,b2,T2,k3,r3,dO,⟨rfl,hx⟩,pL⟩:=(ahw (.r sb) (by omega)).at ext hp pU tt;dsimp only at k3 hx;have rN:=δ.ll x;have Bb:x.cells.take 14=x.cells:=fe (by omega);have jW:=Sp.len sp;have ab4:sp.cells.take 3=sp.cells:=fe (by omega);have aO:=dO.sz (KL _ qj).KJ;have qn:(B.set p (θ.cells cA)).length=B.length:=by simp
     have p6:Row (B.set p (θ.cells cA)).length (B.set p (.cells cA)++ext) 14 66 c4 (δ.χ lo).length:=by rw[δ.dW,cz,qn];exact Row.swap q6 (by simp) (by simp)
     have p7:Row (B.set p (θ.cells cA)).length (B.set p (.cells cA)++ext) 3 198 c5 (Sp.χ li).length:=by rw[Sp.dW,cz,qn];exact Row.swap q7 (by simp) (by simp)
     have Ih:(δ.χ lo).length=lo.length:=by rw[δ.dW,cz]
     have Ip:(Sp.χ li).length=li.length:=by rw[Sp.dW,cz]
     have n1:ν (.agg x.cells)= .agg x.cells:=(Dv.agg (δ.fx x hx)).ν;have n2:ν (.agg sp.cells)= .agg sp.cells:=(Dv.agg (Sp.fx sp)).ν;have I4:shaped true 14 (.agg x.cells)=true:=by simp[shaped,rN]
     have I5:shaped true 3 (.agg sp.cells)=true:=by simp[shaped,jW]
     obtain⟨lQ,aaf,wG,qt,Me⟩:=vI (bytes:=216) p6 (X8 lo) I4 n1 (by omega) (by omega) (by omega);obtain⟨Cj,sE,u7,DB,Mf⟩:=vI (bytes:=40) (Me.rows 3 198 _ _ (by decide) p7) (aiU li) I5 n2 (by omega) (by omega) (by omega);have DA:=Mf.rows 14 66 _ _ (by decide) qt;rw[qn,Ih]at DA;rw[qn,Ip]at DB;have φ:∀(c:τ) (m:Nat) (X:List θ) (sz:Nat) (e:TypeId),Row B.length X sz e c (m+1)->c≠ .nil:=fun c m X sz e hr=>by
      rcases hr with⟨_,h⟩|⟨t,rfl,_⟩
      ·omega
      ·exact fun h=>by cases h
     refine μ.done .normal (fun aT=>aT.e 0= .κ p 0/\aT.e 4= .list lQ (δ.χ (lo++[x]))/\aT.e 5= .list Cj (Sp.χ (li++[sp]))/\aT.mem=(kK B p cA sE T2)) (by
      have N9:∀m:Mem,m.ν (.agg x.cells)= .agg x.cells:=fun _=>n1
      have N_:∀m:Mem,m.ν (.agg sp.cells)= .agg sp.cells:=fun _=>n2;simp[q1,q2,q3,q4,gp,qb,k3,rN,Bb,jW,ab4,I4,I5,N9,N_,wG,u7,aiZ,aiV,c7,de,nD]) fun s' ⟨m1,m2,m3,m4⟩=> .inl ⟨rfl,?_,lo++[x],li++[sp],cA,b2,⟨m1,lQ,Cj,sE,T2,rQ,m2,m3,m4,fun i hi=>(pL i hi).elim (q5 i) .inl,by simpa using DA,by simpa using DB,fun h=>by simp at h,fun h=>by simp at h,δ.afB nf hx,r3⟩,by simp;omega,by simp;omega,by omega,?_,fun y b' hg=>pE y b' (aH.D5 (show(!sb.aV [125])=true by rw[show sb.aV [125]=false from dr];rfl) (dO.map _) (by rw[show a1.sz+1-(i+1)=a1.sz-i by omega]at hg;exact hg))⟩
     ·omega
     ·cases b2 with
      |w w=>exact .inr ⟨w,rfl⟩
      |r t=>
       refine .inl ?_
       simp only[aH]at dO;cases oP:uE s.length P sb with
       |no w=>rw[oP]at dO;cases dO
       |ok y t'=>
        rw[oP]at dO
        obtain⟨_,vq⟩:=dO;cases vq;have:=KL _ qj _ _ _ oP;simp only[RS.sz]at yp⊢;omega
  ·obtain⟨_,w2,cA,b2,k2,r2,gx,rfl⟩:=(f226 (u:=u) (item:=dU) [125] hl aj b).at ext hp pU;have dN:∀{α:Type} (l:List α) (c:τ) (X:List θ) (sz:Nat) (e:TypeId),Row B.length X sz e c l.length->(l=[]->c= .nil)->c.exp 0 false=Ξ l:=fun l c X sz e hr hn=>by
    cases l with
    |nil=>rw[hn rfl];rfl
    |cons a l=>
     rcases hr with⟨_,h⟩|⟨t,rfl,_⟩
     ·cases h
     ·rfl
   refine μ.done .ret (fun aT=>aT.e 2= .list c4 (δ.χ lo)/\aT.e 3= .list c5 (Sp.χ li)/\aT.mem=(kK B p cA ext tt)) (by simp[q1,q2,q3,q4,k2]) fun s' ⟨m1,m2,m3⟩=>⟨by simp,lo,li,c4,c5,cA,ext,dU,b2,m1,m2,by rw[m3],by rw[m3];exact q5,dN _ _ _ _ _ q6 q8,dN _ _ _ _ _ q7 q9,nf,r2,?_⟩;exact iB.bind (Q:=fun _ t=>(cJ cc F (t.l.length+1) ([],[]) t).bind fun l t=>(aF s.length [125] t).map fun _=>l) (hg.fuel.bind (Q:=fun l t=>(aF s.length [125] t).map fun _=>l) (gx.map fun _=>(lo,li)))
 obtain⟨r,e1,e2,lo,li,c4,c5,ah,ext,dU,b,e3,e4,e5,e6,e7,e8,e9,pt,wc⟩:=dT;have hv:Dv (.aU [.list c4 (δ.χ lo),.list c5 (Sp.χ li)]) (.aU [.list (Ξ lo) (δ.χ lo),.list (Ξ li) (Sp.χ li)]):=by rw[<-e7,<-e8];exact .aU (.cons (.list c4 (zH e9)) (.cons (.list c5 (Sp.Aw li)) .nil))
 obtain⟨cA,rQ,T',Cy,Cz,CA⟩:=It (u:=u) hc (f:=231) (g:=GB) (args:=[]) (v:= .aU [.list (Ξ lo) (δ.χ lo),.list (Ξ li) (Sp.χ li)]) rfl rfl rfl hp rfl e1 e2 e5 pt e6 (l:=[.list c4 (δ.χ lo),.list c5 (Sp.χ li)]) (by simp[GB,e3,e4]) (hv.aQ _ _ _) T;exact⟨_,(lo,li),cA,rQ,b,T',Cy,Cz,wc,⟨rfl,e9⟩,CA⟩
theorem PZ{n:Nat}:∀k,k<=n->∀a:RS,a.sz<k->tG u s all c 231 [] (eh s.length (aB s.length n) k) Eb a
 |0,_,_,h=>by omega
 |k+1,hk,a,h=>f231 hl aj hc hk (fun a h=>PZ k (by omega) a h) a h
end
theorem ai.fx(x:ai):Fx x.av:=⟨rfl,rfl⟩
theorem agK(l:List ai):(l.map ai.av).all (shaped true 2)=true:=by simp[o8,ai.av,shaped,Function.comp]
def pT(p:Nat)(nm:List Nat)(c:τ)(l:List AV):List θ:=[.cells [.κ p 0],.cells [.str nm,.list c l,.list .nil []]]
def pI(B:List θ)(p:Nat)(nm:List Nat)(l:List ai)(B':List θ):Prop:=
 ∃c ext,B'=B++pT p nm c (l.map ai.av)++ext/\Row (B.length+2) B' 2 76 c l.length/\(l=[]->c= .nil)/\∀x∈l,dB x.name
section
variable{s:List Nat}{all:List Tok}{c:τ}(hl:all.length<1000000000)(aj:∀t∈all,t.Ok)
include hl aj
theorem f229{B:List θ}{p:Nat}(hp:p<B.length)(nm:List Nat)(n:Nat):Js u s all c (pI B p nm) (.fn (.func 229) [] [.κ B.length 0,.κ (B.length+1) 0]) (zq s.length) n B.length p:=by
 rintro l _ T cs a ⟨cp,ext,rfl,hr,hn,HF⟩ h ha hlen
 obtain⟨_,x,cL,a1,k1,r1,iB,rfl,hx⟩:=(f227 (u:=u) hl aj a).at (pT p nm cp (l.map ai.av)++ext) hp h;obtain⟨_,w2,cA,a2,k2,r2,gx,rfl⟩:=(f226 (u:=u) [91] hl aj a1).at (pT p nm cp (l.map ai.av)++ext) hp r1;obtain⟨_,m,cV,a3,k3,r3,dO,rfl,hm⟩:=(f230 (u:=u) hl aj a2).at (pT p nm cp (l.map ai.av)++ext) hp r2;obtain⟨_,w4,iI,a4,k4,r4,mS,rfl⟩:=(f226 (u:=u) [93] hl aj a3).at (pT p nm cp (l.map ai.av)++ext) hp r3;have e0:∀cs c l ext,(B++pT p nm c l++ext).set p (.cells cs)=B.set p (.cells cs)++pT p nm c l++ext:=fun cs c l ext=>by rw[bQ,ns _ _ hp,bQ]
 have jv:Row (B.set p (.cells iI)++pT p nm cp (l.map ai.av)).length (B.set p (.cells iI)++pT p nm cp (l.map ai.av)++ext) 2 76 cp (l.map ai.av).length:=by rw[cz];have:=Row.swap hr (P':=B.set p (.cells iI)++pT p nm cp (l.map ai.av)) (by simp[pT]) (by simp[pT]);simpa[pT]using this
 obtain⟨c',ext',eu,hH,-⟩:=vI (bytes:=24) jv (agK l) (show shaped true 2 (ai.av ⟨x,m⟩)=true by rfl) (show ν (ai.av ⟨x,m⟩)=_ by rfl) (by omega) (by simp;omega) (by simp;omega);rw[cz]at hH;have hL:∀cs c l ext,(B.set p (.cells cs)++pT p nm c l++ext).length=B.length+2+ext.length:=fun cs c l ext=>by simp[pT];omega
 have eG:∀n,B.length+2<=n->([]++[AV.κ B.length 0,.κ (B.length+1) 0]).map (exp n true)=[AV.κ B.length 0,.κ (B.length+1) 0]:=fun n hn=>by
  have a1:B.length+1<n:=by omega
  have a2:B.length<n:=by omega
  simp[exp,a1,a2]
 have g0:∀cs c l ext,(B.set p (.cells cs)++pT p nm c l++ext)[B.length]?=some (.cells [.κ p 0]):=fun cs c l ext=>by simp[pT]
 have g1:∀cs c l ext,(B.set p (.cells cs)++pT p nm c l++ext)[B.length+1]?=some (.cells [.str nm,.list c l,.list .nil []]):=fun cs c l ext=>by simp[pT]
 have g2:∀cs c l ext c' l',(B.set p (.cells cs)++pT p nm c l++ext).set (B.length+1) (.cells [.str nm,.list c' l',.list .nil []])=B.set p (.cells cs)++pT p nm c' l'++ext:=fun cs c l ext c' l'=>by simp[pT]
 have eI:∀M:Mem,M.ν (.list c' (l.map ai.av++[ai.av ⟨x,m⟩]))= .list c' (l.map ai.av++[ai.av ⟨x,m⟩]):=fun M=>by have:=(Dv.list c' (bL.of ai.av (l++[⟨x,m⟩]) fun y _=>ai.fx y)).ν;rw[List.map_append]at this;exact this
 have dT:μ (C u).gl (ab (C u)) c229 {env:=[.κ B.length 0,.κ (B.length+1) 0],loc:=[],mem:= {ε:=B.set p (.cells cs)++pT p nm cp (l.map ai.av)++ext,η:=[]}} fun r=>r.1= .normal/\∃tt,r.2.mem= {ε:=B.set p (.cells iI)++pT p nm c' ((l++[(⟨x,m⟩:ai)]).map ai.av)++ext',η:=tt}/\∀i∈tt,B.length<=i:=by
  have dX:shaped true 2 (.agg [.str x,.n m])=true:=rfl;have mX:∀M:Mem,M.ν (.agg [.str x,.n m])= .agg [.str x,.n m]:=fun _=>rfl;simp only[bQ,ai.av]at g0 g1 g2 k1 k2 k3 k4 eu eI⊢;simp[c229,bJ,dG,g0,g1,g2,k1,k2,k3,k4,dX,mX,eu,eI,Mem.put];refine⟨_,⟨rfl,rfl⟩,fun i hi=>?_⟩;split at hi
  ·cases hi
  ·have:=fY.1 hi;omega
 obtain⟨⟨ex,s'⟩,e1,rfl,tt,e2,e3⟩:=dT;have dw:=sv (C:=C u) (f:=229) (g:=Lj) (args:=[]) (cap:=[.κ B.length 0,.κ (B.length+1) 0]) (m:= {ε:=B.set p (.cells cs)++pT p nm cp (l.map ai.av)++ext,η:=T}) (l:=[]) rfl rfl rfl (by rw[eG _ (by rw[hL];omega)];exact e1) (by simp) (by rfl);refine⟨B++pT p nm c' ((l++[(⟨x,m⟩:ai)]).map ai.av)++ext',T++tt,⟨x,m⟩,iI,a4,by rw[e0,e0,dw];dsimp only at e2;rw[e2];rfl,⟨c',ext',rfl,?_,fun h=>by simp at h,fun y hy=>?_⟩,r4,?_,fun i hi=>(dQ.1 hi).imp id (e3 i)⟩
 ·have:=Row.swap hH (P':=B++pT p nm c' ((l++[(⟨x,m⟩:ai)]).map ai.av)) (by simp[pT]) (by simp[pT]);simpa[pT]using this
 ·rcases dQ.1 hy with hy|hy
  ·exact HF y hy
  ·rw[fY.1 hy];exact hx
 ·exact iB.bind (Q:=fun n t=>(aF s.length [91] t).bind fun _ t=>(uk s.length t).bind fun k t=>(aF s.length [93] t).map fun _=>(⟨n,k⟩:ai)) (gx.bind (dO.bind (Q:=fun(k:Nat) t=>(aF s.length [93] t).map fun _=>(⟨x,(k:Int)⟩:ai)) (mS.map fun _=>(⟨x,(m:Int)⟩:ai))))
variable(hc:bm c)
def XC:ξ×List Sp->AV->Prop:=fun x v=>v= .aU [x.1.av,.list (Ξ x.2) (Sp.χ x.2)]/\x.1.Ok
theorem RG(e:Nat):da (zq e):=(nC e).bind fun _=>(eP e _).bind fun _=>(KQ e).bind fun _=>(eP e _).map
include hc
theorem f188{n:Nat}(a:RS)(ha:a.sz<n):tG u s all c 188 [] (zs s.length (eh s.length (aB s.length n) n)) XC a:=by
 intro B p cs item T hp h;have g0:∀cs L (e:List θ),(B.set p (θ.cells cs)++θ.cells [.κ p 0]::θ.cells L::e)[B.length]?=some (.cells [.κ p 0]):=fun cs L e=>by simp
 have g1:∀cs L (e:List θ),(B.set p (θ.cells cs)++θ.cells [.κ p 0]::θ.cells L::e)[B.length+1]?=some (.cells L):=fun cs L e=>by simp
 have gs:∀cs L L' (e:List θ),(B.set p (θ.cells cs)++θ.cells [.κ p 0]::θ.cells L::e).set (B.length+1) (.cells L')=B.set p (θ.cells cs)++θ.cells [.κ p 0]::θ.cells L'::e:=fun cs L L' e=>by simp
 obtain⟨_,w1,cL,a1,k1,r1,iB,rfl⟩:=(f226 (u:=u) (item:=item) [112,114,111,99] hl aj a).at [.cells [.κ p 0],.cells [.str [],.list .nil [],.list .nil []]] hp h;have s1:=iB.sz (eP _ _);obtain⟨_,nm,cA,a2,k2,r2,gx,rfl,jV⟩:=(f227 (u:=u) (item:=item) hl aj a1).at [.cells [.κ p 0],.cells [.str [],.list .nil [],.list .nil []]] hp r1;have s2:=gx.sz (nC _);obtain⟨_,w3,cV,a3,k3,r3,dO,rfl⟩:=(f226 (u:=u) (item:=item) [40] hl aj a2).at [.cells [.κ p 0],.cells [.str nm,.list .nil [],.list .nil []]] hp r2;have s3:=dO.sz (eP _ _);obtain⟨B4,T4,ps,iI,a4,k4,⟨c4,ya,rfl,yP,MG,Mv⟩,r4,mS,DG⟩:=f228 (u:=u) hl aj (I:=pI B p nm) (fn:= .fn (.func 229) [] [.κ B.length 0,.κ (B.length+1) 0]) (P:=zq s.length) (k:=n) (N:=B.length) (M:=B.length+2) (p:=p) (RG hl aj _) rfl rfl
  (fun m hm=>by
   have q1:B.length+1<m:=by omega
   have q2:B.length<m:=by omega
   simp[exp,aX,Fn.below,q1,q2]) (fun l B' ⟨c,ext,h,_⟩=>by rw[h];simp[pT];omega) (f229 hl aj hp nm n) [] ⟨.nil,[],by simp;rfl,Row.nil,fun _=>rfl,by simp⟩ r3 (by omega)
 have s4:=mS.sz (KP _ (RG hl aj _));have e0:∀cs D,(B++D).set p (.cells cs)=B.set p (.cells cs)++D:=fun cs D=>ns _ _ hp;simp only[bQ,e0]at k4;have HW:kf u 228 [.κ p 0,.str [41],.fn (.func 229) [] [.κ B.length 0,.κ (B.length+1) 0]] {ε:=B.set p (.cells cV)++[.cells [.κ p 0],.cells [.str nm,.list .nil [],.list .nil []]],η:=[]}=some (.aU [],{ε:=B.set p (.cells iI)++(θ.cells [.κ p 0]::θ.cells [.str nm,.list c4 (ps.map ai.av),.list .nil []]::ya),η:=T4}):=k4;have ec:c4.exp 0 false=Ξ ps:=by
  cases ps with
  |nil=>rw[MG rfl];rfl
  |cons a l=>
   rcases yP with⟨_,h⟩|⟨t,rfl,_⟩
   ·cases h
   ·rfl
 obtain⟨_,⟨bl,bi⟩,uW,UO,a5,T5,k5,r5,wC,⟨rfl,ek⟩,DH⟩:=(PZ (u:=u) hl aj hc n (b_ _) a4 (by omega)).at (θ.cells [.κ p 0]::θ.cells [.str nm,.list c4 (ps.map ai.av),.list .nil []]::ya) hp r4 T4;dsimp only at k5 ek;have dT:μ (C u).gl (ab (C u)) JY {env:=[.κ p 0],loc:=[],mem:= {ε:=B.set p (.cells cs),η:=[]}} fun r=>r.1= .ret/\br r.2.env 2= .ak 2 0 0/\bR r.2.loc 2=some (0,.cells [.str nm,.list c4 (ps.map ai.av),.list (Ξ bl) (δ.χ bl)])/\br r.2.env 3= .list (Ξ bi) (Sp.χ bi)∧
   ∃tt,r.2.mem= {ε:=B.set p (.cells uW)++(θ.cells [.κ p 0]::θ.cells [.str nm,.list c4 (ps.map ai.av),.list (Ξ bl) (δ.χ bl)]::ya),η:=tt}/\∀i∈tt,i=p\/B.length<=i:=by
  have ht:∀i∈T5,i=p\/B.length<=i:=fun i hi=>(DH i hi).elim (fun h=>(DG i h).elim (fun h=>by cases h) id) .inl;have vk:cG (δ.χ bl)=δ.χ bl:=(zr 0 false _ (zH ek).1).2.2.1;simp[JY,bJ,Mem.push,Mem.put,Mem.ν,ν,cG,bn,lo,τ.lo,g0,g1,gs,k1,k2,k3,HW,k5];have hif:∀(q:Prop) [Decidable q] (i:Nat),i∈(if q then T5 else(B.length+1)::T5)->i=p\/B.length<=i:=fun q _ i hi=>by
   by_cases hq:q
   ·rw[if_pos hq]at hi;exact ht i hi
   ·rw[if_neg hq]at hi;exact(List.mem_cons.1 hi).elim (fun h=> .inr (by omega)) (ht i)
  exact⟨vk,_,⟨vk,rfl⟩,fun i hi=>hif _ i hi⟩
 obtain⟨⟨ex,s'⟩,e1,e2,e3,e4,e5,tt,e6,e7⟩:=dT;dsimp only at e2 e3 e4 e5 e6;subst e2;have dA:=Dv.list (Ξ bl) (zH ek);rw[Cn]at dA;have nR:=Dv.list (Ξ bi) (Sp.Aw bi);rw[Cn]at nR;have lA:=Dv.list c4 (bL.of ai.av ps fun y _=>ai.fx y);rw[ec]at lA;have hv:Dv (.aU [.agg [.str nm,.list c4 (ps.map ai.av),.list (Ξ bl) (δ.χ bl)],.list (Ξ bi) (Sp.χ bi)]) (.aU [(⟨nm,Ξ ps,ps,Ξ bl,bl⟩:ξ).av,.list (Ξ bi) (Sp.χ bi)]):=
  .aU (.cons (.agg (.cons (.str _) (.cons lA (.cons dA .nil)))) (.cons nR .nil))
 obtain⟨Cu,acm,T6,Cy,Cz,CA⟩:=It (u:=u) hc (f:=188) (g:=Gi) (args:=[]) (v:= .aU [(⟨nm,Ξ ps,ps,Ξ bl,bl⟩:ξ).av,.list (Ξ bi) (Sp.χ bi)]) rfl rfl rfl hp rfl e1 (by simp) (by rw[e6]) r5 (by rw[e6];exact e7) (l:=[.agg [.str nm,.list c4 (ps.map ai.av),.list (Ξ bl) (δ.χ bl)],.list (Ξ bi) (Sp.χ bi)]) (by simp[Gi,e3,e4,e5]) (hv.aQ _ _ _) T;refine⟨_,(⟨nm,Ξ ps,ps,Ξ bl,bl⟩,bi),Cu,acm,a5,T6,Cy,Cz,?_,⟨rfl,jV,kE _,Mv,kE _,ek,?_⟩,CA⟩
 ·exact iB.bind (gx.bind (Q:=fun n' t=>(aF s.length [40] t).bind fun _ t=>(oS s.length (zq s.length) t).bind fun ps t=>(eh s.length (aB s.length n) n t).map fun b=>((⟨n',Ξ ps,ps,Ξ b.1,b.1⟩:ξ),b.2)) (dO.bind (mS.bind (Q:=fun ps t=>(eh s.length (aB s.length n) n t).map fun b=>((⟨nm,Ξ ps,ps,Ξ b.1,b.1⟩:ξ),b.2)) (wC.map fun b=>((⟨nm,Ξ ps,ps,Ξ b.1,b.1⟩:ξ),b.2)))))
 ·intro h;cases ps with
  |nil=>rfl
  |cons a l=>cases h
end
end Go.Δ.Tz
namespace Go.Δ
def Wt{α:Type}(w:α->Nat)(P:PS->R α):Prop:=∀s x t,P s= .ok x t->w x+4*t.l.length<=4*s.l.length
theorem R.dc{α β:Type}{a:R α}{f:α->PS->R β}{y:β}{t:PS}(h:a.bind f= .ok y t):∃x s,a= .ok x s/\f x s= .ok y t:=by
 cases a with
 |ok x s=>exact⟨x,s,rfl,h⟩
 |no w=>cases h
theorem R.ib{α β:Type}{a:R α}{f:α->β}{y:β}{t:PS}(h:a.map f= .ok y t):∃x,a= .ok x t/\f x=y:=by
 cases a with
 |ok x s=>cases h;exact⟨x,rfl,rfl⟩
 |no w=>cases h
theorem Pf{e:Nat}{f:Tok->Bool}:∀s x t,ke e f s= .ok x t->4+4*t.l.length<=4*s.l.length:=fun s x t h=>by have:=Jb h;omega
theorem Wt.loop{α:Type}{w:α->Nat}{c:PS->Bool}{f:α->PS->R α}(h:∀x s y t,f x s= .ok y t->w y+4*t.l.length<=w x+4*s.l.length):∀n x s y t,cJ c f n x s= .ok y t->w y+4*t.l.length<=w x+4*s.l.length:=by
 intro n;induction n with
 |zero=>intro x s y t e;cases e
 |succ n ih=>
  intro x s y t e
  simp only[cJ]at e;split at e
  ·obtain⟨x',s',e1,e2⟩:=R.dc e;have:=h _ _ _ _ e1;have:=ih _ _ _ _ e2;omega
  ·cases e;omega
theorem sd:z0.cnt=1:=rfl
theorem fR{e:Nat}{w:List Nat}:∀s x t,aF e w s= .ok x t->4+4*t.l.length<=4*s.l.length:=Pf
theorem uK{e:Nat}:∀s x t,gS e s= .ok x t->4+4*t.l.length<=4*s.l.length:=Pf
theorem Xv{e:Nat}:∀s x t,uk e s= .ok x t->4+4*t.l.length<=4*s.l.length:=fun s x t h=>by obtain⟨y,h1,_⟩:=R.ib h;exact Pf _ _ _ h1
theorem aju{e:Nat}{ix:PS->R ζ}(h:Wt ζ.cnt ix):Wt ζ.cnt (fj e ix):=fun s x t k=>by
 simp only[fj]at k;split at k
 ·obtain⟨_,s1,k1,k⟩:=R.dc k;obtain⟨y,s2,k2,k⟩:=R.dc k;obtain⟨_,k3,rfl⟩:=R.ib k;have:=fR _ _ _ k1;have:=h _ _ _ k2;have:=fR _ _ _ k3;omega
 ·split at k
  ·obtain⟨n,k1,rfl⟩:=R.ib k;have:=Xv _ _ _ k1;simp only[ζ.cnt,ζ.bK];omega
  ·obtain⟨n,k1,rfl⟩:=R.ib k;have:=uK _ _ _ k1;simp only[ζ.cnt,ζ.bK];omega
theorem ajC{e:Nat}{at':PS->R ζ}(h:Wt ζ.cnt at'):Wt ζ.cnt (kY e at'):=fun s x t k=>by
 obtain⟨y,s1,k1,k⟩:=R.dc k;have:=h _ _ _ k1;have:=Wt.loop (w:=ζ.cnt) (fun x s y t k=>by
  obtain⟨_,s1,k1,k⟩:=R.dc k
  obtain⟨z,k2,rfl⟩:=R.ib k;have:=fR _ _ _ k1;have:=h _ _ _ k2;simp only[ζ.cnt,ζ.bK];omega) _ _ _ _ _ k
 omega
theorem ajE{e:Nat}{pr:PS->R ζ}(h:Wt ζ.cnt pr):Wt ζ.cnt (vN e pr):=fun s x t k=>by
 obtain⟨y,s1,k1,k⟩:=R.dc k;have:=h _ _ _ k1;have:=Wt.loop (w:=ζ.cnt) (fun x s y t k=>by
  obtain⟨_,s1,k1,k⟩:=R.dc k
  obtain⟨z,k2,rfl⟩:=R.ib k;have:=fR _ _ _ k1;have:=h _ _ _ k2;simp only[ζ.cnt,ζ.bK];omega) _ _ _ _ _ k
 omega
theorem ajv(e k:Nat):Wt ζ.cnt (aB e k):=by
 induction k with
 |zero=>intro s x t h;cases h
 |succ k ih=>exact ajE (ajC (aju ih))
theorem ajA{e:Nat}{ix:PS->R ζ}(h:Wt ζ.cnt ix):Wt ρ.wt (jZ e ix):=fun s x t k=>by
 obtain⟨n,s1,k1,k⟩:=R.dc k;have:=uK _ _ _ k1;split at k
 ·obtain⟨_,s2,k2,k⟩:=R.dc k;obtain⟨a,s3,k3,k⟩:=R.dc k;obtain⟨l,s4,k4,k⟩:=R.dc k;obtain⟨_,k5,rfl⟩:=R.ib k;have:=fR _ _ _ k2;have:=h _ _ _ k3;have:=fR _ _ _ k5;split at k4
  ·obtain⟨_,s6,k6,k4⟩:=R.dc k4;obtain⟨b,k7,rfl⟩:=R.ib k4;have:=fR _ _ _ k6;have:=h _ _ _ k7;simp only[ρ.wt,ζ.bK];omega
  ·cases k4;simp only[ρ.wt,ζ.bK];omega
 ·cases k;simp only[ρ.wt,ζ.bK];omega
theorem Xx{e:Nat}{ix:PS->R ζ}(h:Wt ζ.cnt ix):Wt (fun x=>x.2.cnt) (uD e ix):=fun s x t k=>by obtain⟨n,s1,k1,k⟩:=R.dc k;obtain⟨_,s2,k2,k⟩:=R.dc k;obtain⟨a,s3,k3,k⟩:=R.dc k;obtain⟨_,k4,rfl⟩:=R.ib k;have:=uK _ _ _ k1;have:=fR _ _ _ k2;have:=h _ _ _ k3;have:=fR _ _ _ k4;dsimp only;omega
theorem Wa(a b:List ρ):eL (a++b)=eL a+eL b:=by
 induction a with
 |nil=>simp[eL]
 |cons x a ih=>simp only[cy,eL,ih];omega
theorem ajF(a b:List δ):δ.bC (a++b)=δ.bC a+δ.bC b:=by
 induction a with
 |nil=>simp[δ.bC]
 |cons x a ih=>simp only[cy,δ.bC,ih];omega
theorem ag9(a b:List ξ):gC (a++b)=gC a+gC b:=by
 induction a with
 |nil=>simp[gC]
 |cons x a ih=>simp only[cy,gC,ih];omega
theorem Xu{α:Type}{w:List α->Nat}(yU:w []=0)(hw:∀l x,w (l++[x])=w l+w [x]){e:Nat}{P:PS->R α}(h:∀s x t,P s= .ok x t->w [x]+4*t.l.length<=4*s.l.length):Wt w (oS e P):=fun s x t k=>by
 simp only[oS]at k;split at k
 ·obtain⟨_,k1,rfl⟩:=R.ib k;have:=fR _ _ _ k1;omega
 ·obtain⟨y,s1,k1,k⟩:=R.dc k;obtain⟨l,s2,k2,k⟩:=R.dc k;obtain⟨_,k3,rfl⟩:=R.ib k;have:=h _ _ _ k1;have:=fR _ _ _ k3;have:=Wt.loop (w:=w) (fun x s y t k=>by
   obtain⟨_,s1,k1,k⟩:=R.dc k
   obtain⟨z,k2,rfl⟩:=R.ib k;have:=fR _ _ _ k1;have:=h _ _ _ k2;rw[hw];omega) _ _ _ _ _ k2
  omega
theorem ajy{e:Nat}{pl:PS->R ρ}(h:Wt ρ.wt pl):∀n l s x t,oU e pl n l s= .ok x t->eL x+4*t.l.length<=eL l+4*s.l.length:=by
 intro n;induction n with
 |zero=>intro l s x t k;cases k;omega
 |succ n ih=>
  intro l s x t k
  obtain⟨_,s1,k1,k⟩:=R.dc k;obtain⟨p,s2,k2,k⟩:=R.dc k;have:=fR _ _ _ k1;have:=h _ _ _ k2;have:=ih _ _ _ _ k;rw[Wa]at this;simp only[eL]at this;omega
theorem ajx{e:Nat}{ix:PS->R ζ}(h:Wt ζ.cnt ix):Wt δ.wt (lD e ix):=fun s x t k=>by
 have hp:=ajA (e:=e) h;dsimp only[lD]at k;split at k
 ·obtain⟨_,s1,k1,k⟩:=R.dc k;obtain⟨p,s2,k2,k⟩:=R.dc k;obtain⟨l,k3,rfl⟩:=R.ib k;have:=fR _ _ _ k1;have:=hp _ _ _ k2;have:=ajy hp _ _ _ _ _ k3;simp only[δ.wt,δ.bC,sd,eL]at*;omega
 split at k
 ·obtain⟨_,s1,k1,k⟩:=R.dc k;obtain⟨p,k2,rfl⟩:=R.ib k;have:=fR _ _ _ k1;have:=Xx h _ _ _ k2;simp only[δ.wt,δ.bC,sd,eL]at*;omega
 split at k
 ·obtain⟨_,s1,k1,k⟩:=R.dc k;obtain⟨p,k2,rfl⟩:=R.ib k;have:=fR _ _ _ k1;have:=uK _ _ _ k2;simp only[δ.wt,δ.bC,sd,eL]at*;omega
 split at k
 ·obtain⟨_,s1,k1,k⟩:=R.dc k;obtain⟨p,s2,k2,k⟩:=R.dc k;obtain⟨_,s3,k3,k⟩:=R.dc k;obtain⟨n,k4,rfl⟩:=R.ib k;have:=fR _ _ _ k1;have:=hp _ _ _ k2;have:=fR _ _ _ k3;have:=uK _ _ _ k4;simp only[δ.wt,δ.bC,sd,eL]at*;omega
 split at k
 ·obtain⟨_,s1,k1,k⟩:=R.dc k;obtain⟨p,k2,rfl⟩:=R.ib k;have:=fR _ _ _ k1;have:=hp _ _ _ k2;simp only[δ.wt,δ.bC,sd,eL]at*;omega
 ·obtain⟨n,s1,k1,k⟩:=R.dc k;obtain⟨_,s2,k2,k⟩:=R.dc k;obtain⟨l,k3,rfl⟩:=R.ib k;have:=uK _ _ _ k1;have:=fR _ _ _ k2;have:=Xu (w:=eL) rfl (fun l x=>Wa l [x]) (fun s x t k=>by have:=hp s x t k;simp only[eL];omega) _ _ _ k3;simp only[δ.wt,δ.bC,sd,eL]at*;omega
theorem ajD{e:Nat}{ix:PS->R ζ}{blk:PS->R (List δ×List Sp)}(h:Wt ζ.cnt ix)(hb:Wt (fun x=>δ.bC x.1) blk):Wt (fun x=>x.1.wt) (iE e ix blk):=fun s x t k=>by
 dsimp only[iE]at k;split at k
 ·obtain⟨_,s1,k1,k⟩:=R.dc k;obtain⟨p,s2,k2,k⟩:=R.dc k;obtain⟨b,k3,rfl⟩:=R.ib k;have:=fR _ _ _ k1;have:=Xx h _ _ _ k2;have:=hb _ _ _ k3;simp only[δ.wt,δ.bC,sd,eL]at*;omega
 split at k
 ·obtain⟨_,s1,k1,k⟩:=R.dc k;obtain⟨p,s2,k2,k⟩:=R.dc k;obtain⟨b,s3,k3,k⟩:=R.dc k;have:=fR _ _ _ k1;have:=uK _ _ _ k2;have:=hb _ _ _ k3;split at k
  ·obtain⟨_,s4,k4,k⟩:=R.dc k;obtain⟨d,k5,rfl⟩:=R.ib k;have:=fR _ _ _ k4;have:=hb _ _ _ k5;simp only[δ.wt,δ.bC,sd,eL]at*;omega
  ·cases k;simp only[δ.wt,δ.bC,sd,eL]at*;omega
 split at k
 ·obtain⟨_,s1,k1,k⟩:=R.dc k;obtain⟨p,s2,k2,k⟩:=R.dc k;obtain⟨_,s3,k3,k⟩:=R.dc k;obtain⟨a,s4,k4,k⟩:=R.dc k;obtain⟨_,s5,k5,k⟩:=R.dc k;obtain⟨c,s6,k6,k⟩:=R.dc k;obtain⟨d,k7,rfl⟩:=R.ib k;have:=fR _ _ _ k1;have:=uK _ _ _ k2;have:=fR _ _ _ k3;have:=h _ _ _ k4;have:=fR _ _ _ k5;have:=h _ _ _ k6;have:=hb _ _ _ k7;simp only[δ.wt,δ.bC,sd,eL]at*;omega
 split at k
 ·obtain⟨_,s1,k1,k⟩:=R.dc k;obtain⟨d,k2,rfl⟩:=R.ib k;have:=fR _ _ _ k1;have:=hb _ _ _ k2;simp only[δ.wt,δ.bC,sd,eL]at*;omega
 split at k
 ·obtain⟨_,s1,k1,k⟩:=R.dc k;obtain⟨b,s2,k2,k⟩:=R.dc k;obtain⟨_,s3,k3,k⟩:=R.dc k;obtain⟨d,k4,rfl⟩:=R.ib k;have:=fR _ _ _ k1;have:=hb _ _ _ k2;have:=fR _ _ _ k3;have:=hb _ _ _ k4;simp only[δ.wt,δ.bC,sd,eL]at*;omega
 ·obtain⟨y,k1,rfl⟩:=R.ib k;obtain⟨z,s2,k2,k⟩:=R.dc k1;obtain⟨_,k3,rfl⟩:=R.ib k;have:=ajx h _ _ _ k2;have:=fR _ _ _ k3;dsimp only;omega
theorem ajw{e:Nat}{st:PS->R (δ×List (List Sp))}(h:Wt (fun x=>x.1.wt) st):Wt (fun x=>δ.bC x.1) (zc e st):=fun s x t k=>by
 obtain⟨_,s1,k1,k⟩:=R.dc k;obtain⟨l,s2,k2,k⟩:=R.dc k;obtain⟨_,k3,rfl⟩:=R.ib k;have:=fR _ _ _ k1;have:=fR _ _ _ k3;have:=Wt.loop (w:=fun x:List δ×List Sp=>δ.bC x.1) (fun x s y t k=>by
  obtain⟨z,k1,rfl⟩:=R.ib k
  obtain⟨q,s1,k2,k3⟩:=R.dc k1;cases k3;have:=h _ _ _ k2;dsimp only at this⊢;rw[ajF];simp only[δ.bC];omega) _ _ _ _ _ k2
 simp only[δ.bC]at*;omega
theorem Xt{e:Nat}{ix:PS->R ζ}(h:Wt ζ.cnt ix):∀k,Wt (fun x=>δ.bC x.1) (eh e ix k)
 |0=>fun s x t e=>by cases e
 |k+1=>ajw (ajD h (Xt h k))
theorem ajz{e:Nat}:∀s x t,zq e s= .ok x t->[x].length+4*t.l.length<=4*s.l.length:=fun s x t k=>by obtain⟨n,s1,k1,k⟩:=R.dc k;obtain⟨_,s2,k2,k⟩:=R.dc k;obtain⟨m,s3,k3,k⟩:=R.dc k;obtain⟨_,k4,rfl⟩:=R.ib k;have:=uK _ _ _ k1;have:=fR _ _ _ k2;have:=Xv _ _ _ k3;have:=fR _ _ _ k4;simp only[List.length_cons,List.length_nil];omega
theorem ajB{e:Nat}{blk:PS->R (List δ×List Sp)}(hb:Wt (fun x=>δ.bC x.1) blk):Wt (fun x=>x.1.wt) (zs e blk):=fun s x t k=>by obtain⟨_,s1,k1,k⟩:=R.dc k;obtain⟨n,s2,k2,k⟩:=R.dc k;obtain⟨_,s3,k3,k⟩:=R.dc k;obtain⟨ps,s4,k4,k⟩:=R.dc k;obtain⟨b,k5,rfl⟩:=R.ib k;have:=fR _ _ _ k1;have:=uK _ _ _ k2;have:=fR _ _ _ k3;have:=Xu (w:=lK) rfl (fun l x=>by simp) ajz _ _ _ k4;have:=hb _ _ _ k5;simp only[ξ.wt]at*;omega
theorem Xw{e:Nat}{ts:List Tok}{x:List ξ×List (List Sp)}{t:PS}(k:Bu e ts= .ok x t):gC x.1<=4*ts.length:=by
 have:=Wt.loop (w:=fun x:List ξ×List (List Sp)=>gC x.1) (fun x s y t k=>by
  obtain⟨z,k1,rfl⟩:=R.ib k
  have:=ajB (Xt (ajv e _) _) _ _ _ k1;dsimp only at this⊢;rw[ag9];simp only[gC];omega) _ _ _ _ _ k
 simp only[gC]at this;omega
end Go.Δ
namespace Go.Δ.Tz
open Go.Δ
variable{u:Nat}
attribute [local simp] exec ef dR e_ aJ dF fE eR br fM bR iL iS jm jE mo AV.cells newVar jA rd wr iu single dk cD ff eF μ cF RV.get cK fV kT
attribute [local simp] EA D8
theorem ZG{C:iF}{f:FuncId}{v w:AV}{m:Mem}(h:exp m.ε.length (C.ba f) v=exp m.ε.length (C.ba f) w):ab C (.fn (.func f) [] []) [v] m=ab C (.fn (.func f) [] []) [w] m:=by
 apply Option.ext;intro r;rw[ot,ot];have:∀k,cv C k (.fn (.func f) [] []) [v] m=cv C k (.fn (.func f) [] []) [w] m:=fun k=>by
  cases k with
  |zero=>rfl
  |succ k=>simp only[cv,body,List.nil_append,List.append_nil,ax,aI,h]
 simp only[this]
theorem ξ.jR{x:ξ}(h:x.Ok):Fx x.av:=by have h1:=Dv.list x.cp (bL.of ai.av x.au fun y _=>ai.fx y);rw[fq h.2.1]at h1;have h2:=Dv.list x.cb (zH h.2.2.2.2.1);rw[fq h.2.2.2.1]at h2;exact .agg (.cons (.str _) (.cons h1 (.cons h2 .nil)))
theorem eW.prog(e n:Nat):eW (zs e (eh e (aB e n) n)):=(eW.take _ _).bind fun _=>(nC e).bind fun _=>(eP e _).bind fun _=>(KP e ((nC e).bind fun _=>(eP e _).bind fun _=>(KQ e).bind fun _=>(eP e _).map)).bind fun _=>(An e (nB e n) n).map
theorem aha(l:List ξ):(l.map ξ.av).all (shaped true 3)=true:=by simp[o8,ξ.av,shaped,Function.comp]
def cY(s:List Nat):(List ξ×List (List Sp))×Int×Int:=
 if 65536<s.length then(([],[]),0,11)else match Bu s.length (dK s)with
  | .no w=>(([],[]),(w:Int),4)
  | .ok x _=>if mQ x.1=0 then(x,0,0)else(([],[]),(s.length:Int),mQ x.1)
def zu(s:List Nat):AV:= .aU [.agg [.list (Ξ (cY s).1.1) ((cY s).1.1.map ξ.av)],.list (Ξ (cY s).1.2) (Sp.lists (cY s).1.2),.n (cY s).2.1,.n (cY s).2.2]
theorem f124(s:List Nat)(hs:dB s)(hl:s.length<1000000000)(m:Mem):kf u 124 [.str s] m=some (zu s,m):=by
 refine Y5 (g:=F0) rfl rfl rfl ?_;simp only[ax,aI,exp,F0,c124];refine Ψ (fun st=>st.e 0= .str s/\st.e 2= .ak 2 0 0/\st.q 2=some (0,.cells [.list .nil []])/\st.q 7=none/\st.mem= {ε:=m.ε,η:=[]}) (by simp[bJ]) fun s1 ⟨h1,h2,h3,h4,h5⟩=>?_;by_cases Dl:65536<s.length
 ·have Mz:(65536:Int)<s.length:=by omega
  simp[h1,h2,h3,h4,h5,Mz,dG,zu,cY,Dl];rfl
 have Mz:¬(65536:Int)<s.length:=by omega
 refine Ψ (fun st=>st.e 0= .str s/\st.e 2= .ak 2 0 0/\st.q 2=some (0,.cells [.list .nil []])/\st.q 7=none/\st.mem= {ε:=m.ε,η:=[]}) (by simp[h1,h2,h3,h4,h5,Mz]) fun s1 ⟨h1,h2,h3,h4,h5⟩=>?_;have aht:=fun m=>f130 (u:=u) s m;have Wr:=fun m=>f187 (u:=u) s hs hl m;have aj:=aji hs (by omega);have DI:=Xi s;generalize wJ:(if dK s=[]then τ.nil else τ.any)=ct at Wr;have hc:bm ct:=by rw[<-wJ];split<;>simp[bm]
 let K:St->Prop:=fun st=>st.e 0= .str s/\st.e 2= .ak 2 0 0/\st.q 2=some (0,.cells [.list .nil []]);obtain⟨B,S8⟩:∃B,B=m.ε++[θ.cells []]:=⟨_,rfl⟩;have qh:B.length=m.ε.length+1:=by rw[S8];simp
 obtain⟨p,Ur⟩:∃p,p=m.ε.length:=⟨_,rfl⟩;have hp:p<B.length:=by omega
 have hB:∀cs,B.set p (.cells cs)=m.ε++[.cells cs]:=fun cs=>by rw[S8,Ur];simp
 let K2:St->Prop:=fun st=>K st/\st.e 6= .κ p 0;refine Ψ (fun st=>K2 st/\st.q 7=none/\st.mem= {ε:=B.set p (.cells [.str s,.list ct ((dK s).map Tok.bp),.n 0,.n (-1),.eQ]),η:=[]}) (by
  rw[hB]
  simp[K2,K,h1,h2,h3,h4,h5,aht,Wr,dG,Mem.push,Mem.ν,ν,Ur];simp[fH,Function.comp,Tok.bp,ν,cG]) fun s1 ⟨⟨⟨h1,h2,h3⟩,h6⟩,h4,h5⟩=>?_
 let K3:St->Prop:=fun st=>K2 st/\st.e 7= .ak 7 0 0;refine Ψ (fun st=>K3 st/\st.q 7=some (0,.cells [.list .nil []])/\st.mem= {ε:=B.set p (.cells [.str s,.list ct ((dK s).map Tok.bp),.n 0,.n (-1),.eQ]),η:=[]}) (by simp[K3,K2,K,h1,h2,h3,h4,h5,h6,bJ]) fun s1 ⟨⟨⟨⟨h1,h2,h3⟩,h6⟩,h7⟩,h4,h5⟩=>?_;refine Ψ (fun st=>K3 st/\st.q 7=some (0,.cells [.list .nil []])/\st.e 8= .list .nil []/\st.mem= {ε:=B.set p (.cells [.str s,.list ct ((dK s).map Tok.bp),.n 0,.n (-1),.eQ]),η:=[]}) (by simp[K3,K2,K,h1,h2,h3,h4,h5,h6,h7]) fun s1 ⟨hK,h4,h8,h5⟩=>?_;have r0:cE s (dK s) ct .eQ [.str s,.list ct ((dK s).map Tok.bp),.n 0,.n (-1),.eQ] (.r ⟨0,dK s⟩):=⟨0,-1,rfl,Nat.zero_le _,rfl,rfl,rfl⟩;generalize aj0:[AV.str s,.list ct ((dK s).map Tok.bp),.n 0,.n (-1),.eQ]=ZB at*;have ahv:=fun(a:RS) (h:a.sz<(dK s).length+1)=>f188 (u:=u) (s:=s) (all:=dK s) (c:=ct) (by omega) aj hc a h;have qj:=eW.prog s.length ((dK s).length+1);obtain⟨a1,Hk⟩:∃a1,a1=RS.r ⟨0,dK s⟩:=⟨_,rfl⟩;have aaV:a1.sz=(dK s).length:=by rw[Hk];rfl
 generalize hP:zs s.length (eh s.length (aB s.length ((dK s).length+1)) ((dK s).length+1))=P at*;let F:List ξ×List (List Sp)->PS->R (List ξ×List (List Sp)):=fun l t=>(P t).map fun x=>(l.1++[x.1],l.2++[x.2]);let cc:PS->Bool:=fun t=>!t.l.isEmpty;let R2:St->List ξ->List (List Sp)->List AV->RS->Prop:=fun st lo li ah b=>K3 st/\∃c4 c5 ext tt dU,st.q 7=some (0,.cells [.list c4 (lo.map ξ.av)])/\st.e 8= .list c5 (Sp.lists li)/\st.mem=(kK B p ah ext tt)/\(∀i∈tt,i=p\/B.length<=i)∧
  Row B.length (B.set p (.cells ah)++ext) 3 70 c4 lo.length/\Row B.length (B.set p (.cells ah)++ext) 1 257 c5 li.length/\(lo=[]->c4= .nil)/\(li=[]->c5= .nil)/\(∀x∈lo,x.Ok)/\cE s (dK s) ct dU ah b
 refine bS (fun st=>∃lo li ah b,R2 st lo li ah b/\aH (cJ cc F (a1.sz+1) ([],[])) a1 (lo,li) b) ?_ fun s3 ⟨lo,li,ah,b,⟨⟨⟨⟨h1,h2,h3⟩,h6⟩,h7⟩,c4,c5,ext,tt,dU,q2,q3,q4,q5,q6,q7,q8,q9,nf,pU⟩,hg⟩=>?_
 ·let I:Nat->St->Prop:=fun i st=>∃lo li ah b,R2 st lo li ah b/\lo.length<=i/\li.length<=i/\b.sz<=a1.sz/\(b.sz+i<=a1.sz\/∃w,b= .w w)/\∀y b',aH (cJ cc F (a1.sz+1-i) (lo,li)) b y b'->aH (cJ cc F (a1.sz+1) ([],[])) a1 y b';have hI:I 0 s1:=⟨[],[],ZB,a1,⟨hK,.nil,.nil,[],[],.eQ,h4,h8,h5.trans (by simp),by simp,Row.nil,Row.nil,fun _=>rfl,fun _=>rfl,by simp,by rw[Hk];exact r0⟩,b_ _,b_ _,b_ _,.inl (b_ _),fun _ _ h=>h⟩;refine μ.block (μ.lH (I:=I) (a1.sz+1) hI fun i st hi Ω=>?_);obtain⟨lo,li,ah,b,⟨⟨⟨⟨h1,h2,h3⟩,h6⟩,h7⟩,c4,c5,ext,tt,dU,q2,q3,q4,q5,q6,q7,q8,q9,nf,pU⟩,jJ,nN,fD,yp,pE⟩:=Ω;obtain⟨k2,wr,iZ,gy,fW⟩:=pU;have gp:(B.set p (θ.cells ah)++ext)[p]?=some (.cells [.str s,.list ct ((dK s).map Tok.bp),.n k2,.n wr,dU]):=by rw[d_ (by simpa using hp),iZ];simp[hp]
  have pU:cE s (dK s) ct dU ah b:=⟨k2,wr,iZ,gy,fW⟩;have out:∀aT:St,K3 aT/\aT.q 7=some (0,.cells [.list c4 (lo.map ξ.av)])/\aT.e 8= .list c5 (Sp.lists li)/\aT.mem=(kK B p ah ext tt)->R2 aT lo li ah b:=fun aT ⟨m1,m2,m3,m4⟩=>⟨m1,c4,c5,ext,tt,dU,m2,m3,m4,q5,q6,q7,q8,q9,nf,pU⟩;unfold U3;cases b with
  |w w=>
   have hw:¬wr<0:=by have:wr=(w:Int):=fW;omega
   refine μ.done (.exit 0) (fun aT=>K3 aT/\aT.q 7=some (0,.cells [.list c4 (lo.map ξ.av)])/\aT.e 8= .list c5 (Sp.lists li)/\aT.mem=(kK B p ah ext tt)) (by simp[K3,K2,K,h1,h2,h3,h6,h7,q2,q3,q4,gp,hw]) fun s' hh=> .inr ⟨by simp,.inl ⟨rfl,.inl ⟨rfl,lo,li,ah,.w w,out s' hh,pE _ _ rfl⟩⟩⟩
  |r sb=>
   obtain⟨rfl,yy,-⟩:=fW
   have yp:(RS.r sb).sz+i<=a1.sz:=yp.elim id fun⟨w,h⟩=>by cases h
   rw[show a1.sz+1-i=(a1.sz-i)+1 by omega]at pE;have Mx:=congrArg lK yy;simp only[List.length_drop]at Mx;by_cases rG:sb.l=[]
   ·have rE:¬k2<(dK s).length:=by rw[rG]at Mx;simp at Mx;omega
    refine μ.done (.exit 0) (fun aT=>K3 aT/\aT.q 7=some (0,.cells [.list c4 (lo.map ξ.av)])/\aT.e 8= .list c5 (Sp.lists li)/\aT.mem=(kK B p ah ext tt)) (by simp[K3,K2,K,h1,h2,h3,h6,h7,q2,q3,q4,gp,rE]) fun s' hh=> .inr ⟨by simp,.inl ⟨rfl,.inl ⟨rfl,lo,li,ah,.r sb,out s' hh,pE _ _ (aH.D3 (show(!sb.l.isEmpty)=false by rw[rG];rfl))⟩⟩⟩
   ·have rE:k2<(dK s).length:=by have:0<sb.l.length:=List.length_pos_iff.2 rG;omega
    have abK:(!sb.l.isEmpty)=true:=by cases h:sb.l with
     |nil=>exact absurd h rG
     |cons a l=>rfl
    obtain⟨_,⟨x,sp⟩,cA,rQ,b2,T2,k3,r3,dO,⟨rfl,hx⟩,pL⟩:=(ahv (.r sb) (by omega)).at ext hp pU tt;dsimp only at k3 hx;have aO:=dO.sz qj.KJ;have qn:(B.set p (θ.cells cA)).length=B.length:=by simp
    have Ih:(lo.map ξ.av).length=lo.length:=cz _;have Ip:(Sp.lists li).length=li.length:=by rw[Sp.zd,cz]
    have p6:Row (B.set p (θ.cells cA)).length (B.set p (.cells cA)++ext) 3 70 c4 (lo.map ξ.av).length:=by rw[Ih,qn];exact Row.swap q6 (by simp) (by simp)
    have p7:Row (B.set p (θ.cells cA)).length (B.set p (.cells cA)++ext) 1 257 c5 (Sp.lists li).length:=by rw[Ip,qn];exact Row.swap q7 (by simp) (by simp)
    have n1:ν x.av=x.av:=(ξ.jR hx).ν;have n2:ν (.list (Ξ sp) (Sp.χ sp))= .list (Ξ sp) (Sp.χ sp):=(Dv.list (Ξ sp) (Sp.Aw sp)).ν;obtain⟨lQ,aaf,wG,qt,Me⟩:=vI (bytes:=64) p6 (aha lo) (show shaped true 3 x.av=true by rfl) n1 (by omega) (by omega) (by omega);obtain⟨Cj,sE,u7,DB,Mf⟩:=vI (bytes:=24) (Me.rows 1 257 _ _ (by decide) p7) (Vq li) (show shaped false 1 (.list (Ξ sp) (Sp.χ sp))=true by rfl) n2 (by omega) (by omega) (by omega);have DA:=Mf.rows 3 70 _ _ (by decide) qt;rw[qn,Ih]at DA;rw[qn,Ip]at DB;have lC:Sp.lists (li++[sp])=Sp.lists li++[.list (Ξ sp) (Sp.χ sp)]:=by simp[Sp.zd]
    have Uf:(lo++[x]).map ξ.av=lo.map ξ.av++[x.av]:=by simp
    refine μ.done .normal (fun aT=>K3 aT/\aT.q 7=some (0,.cells [.list lQ ((lo++[x]).map ξ.av)])/\aT.e 8= .list Cj (Sp.lists (li++[sp]))/\aT.mem=(kK B p cA sE T2)) (by
     have N9:∀m:Mem,m.ν (.agg [.str x.name,.list x.cp (x.au.map ai.av),.list x.cb (δ.χ x.body)])= .agg [.str x.name,.list x.cp (x.au.map ai.av),.list x.cb (δ.χ x.body)]:=fun _=>n1
     have N_:∀m:Mem,m.ν (.list (Ξ sp) (Sp.χ sp))= .list (Ξ sp) (Sp.χ sp):=fun _=>n2;have I4:shaped true 3 (.agg [.str x.name,.list x.cp (x.au.map ai.av),.list x.cb (δ.χ x.body)])=true:=rfl;have I5:shaped false 1 (.list (Ξ sp) (Sp.χ sp))=true:=rfl;simp only[ξ.av]at k3 wG;simp[K3,K2,K,h1,h2,h3,h6,h7,q2,q3,q4,gp,rE,k3,I4,I5,N9,N_,ξ.av,wG,u7,lC];done) fun s' ⟨m1,m2,m3,m4⟩=> .inl ⟨rfl,?_,lo++[x],li++[sp],cA,b2,⟨m1,lQ,Cj,sE,T2,rQ,m2,m3,m4,fun i hi=>(pL i hi).elim (q5 i) .inl,by simpa using DA,by simpa using DB,fun h=>by simp at h,fun h=>by simp at h,fun y hy=>(dQ.1 hy).elim (nf y) fun h=>by rw[fY.1 h];exact hx,r3⟩,by simp;omega,by simp;omega,by omega,?_,fun y b' hg=>pE y b' (aH.D5 abK (dO.map _) (by rw[show a1.sz+1-(i+1)=a1.sz-i by omega]at hg;exact hg))⟩
    ·omega
    ·cases b2 with
     |w w=>exact .inr ⟨w,rfl⟩
     |r t=>
      refine .inl ?_
      simp only[aH]at dO;cases oP:P sb with
      |no w=>rw[oP]at dO;cases dO
      |ok y t'=>
       rw[oP]at dO
       obtain⟨_,vq⟩:=dO;cases vq;have:=qj _ _ _ oP;simp only[RS.sz]at yp⊢;omega
 ·obtain⟨k2,wr,iZ,gy,fW⟩:=pU;have gp:(B.set p (θ.cells ah)++ext)[p]?=some (.cells [.str s,.list ct ((dK s).map Tok.bp),.n k2,.n wr,dU]):=by rw[d_ (by simpa using hp),iZ];simp[hp]
  have Γ:∃bs,B.set p (.cells ah)++ext=m.ε++bs:=⟨_,by rw[hB,bQ]⟩;have mD:∀i∈tt,m.ε.length<=i:=fun i hi=>(q5 i hi).elim (fun h=>by omega) fun h=>by omega
  have Uu:∀y,Bu s.length (dK s)=y->cJ cc F (a1.sz+1) ([],[]) ⟨0,dK s⟩=y:=fun y h=>by rw[<-h,aaV];simp only[Bu,hP];rfl
  rw[Hk]at hg;simp only[aH]at hg;rw[<-Hk]at hg;cases vm:Bu s.length (dK s)with
  |no w=>
   rw[Uu _ vm]at hg
   cases hg;have yU:wr=(w:Int):=fW;have hw:0<=wr:=by omega
   have hX:cY s=(([],[]),(w:Int),4):=by simp only[cY,Dl,if_false,vm]
   simp[h1,h2,h3,h6,h7,q2,q3,q4,gp,hw,dG,c7,de,nD,zu,hX];exact⟨Γ,mD,by rw[yU];rfl⟩
  |ok x t=>
   rw[Uu _ vm]at hg
   obtain⟨rfl,rfl⟩:=hg;obtain⟨rfl,-,-⟩:=fW;have dN:∀{α:Type} (l:List α) (c:τ) (X:List θ) (sz:Nat) (e:TypeId),Row B.length X sz e c l.length->(l=[]->c= .nil)->c.exp 0 false=Ξ l:=fun l c X sz e hr hn=>by
    cases l with
    |nil=>rw[hn rfl];rfl
    |cons a l=>
     rcases hr with⟨_,h⟩|⟨t,rfl,_⟩
     ·cases h
     ·rfl
   have e4:=dN _ _ _ _ _ q6 q8;have e5:=dN _ _ _ _ _ q7 q9;have wZ:=Xw vm;have dd:=Dv.list c4 (bL.of ξ.av lo fun y hy=>ξ.jR (nf y hy));rw[e4]at dd;have Wx:∀m,kf u 43 [.agg [.list c4 (lo.map ξ.av)]] m=some (.n (mQ lo),m):=fun m=>by
    refine Eq.trans (ZG (w:=ti (Ξ lo) lo) ?_) (f43 (Ξ lo) (kE lo) lo nf (by dsimp only at wZ;omega) m)
    ·have h1:=(Bq m.ε.length false (.agg [.list c4 (lo.map ξ.av)]) (Dv.agg (.cons dd .nil)).1).2.2.2;have lA:=Dv.list (Ξ lo) (bL.of ξ.av lo fun y hy=>ξ.jR (nf y hy));rw[Cn]at lA;have h2:=(Bq m.ε.length false (ti (Ξ lo) lo) (Dv.agg (.cons lA .nil)).1).2.2.2;show exp m.ε.length false _=exp m.ε.length false _;rw[h1,h2,(Dv.agg (.cons dd .nil)).2,(show Dv (ti (Ξ lo) lo) _ from Dv.agg (.cons lA .nil)).2]
   by_cases dw:mQ lo=0
   ·have hX:cY s=((lo,li),0,0):=by simp only[cY,Dl,if_false,vm,dw,if_true]
    have A8:=Dv.list c5 (Sp.CJ li);rw[e5]at A8;have hv:Dv (.aU [.agg [.list c4 (lo.map ξ.av)],.list c5 (Sp.lists li),.n 0,.n 0]) (zu s):=by rw[zu,hX];exact .aU (.cons (.agg (.cons dd .nil)) (.cons A8 (.cons (.int _ _) (.cons (.int _ _) .nil))))
    simp[h1,h2,h3,h6,h7,q2,q3,q4,gp,Wx,dw];exact⟨Γ,mD,hv.aQ _ _ _⟩
   ·have rA:(mQ lo !=0)=true:=by simpa using dw
    have hX:cY s=(([],[]),(s.length:Int),mQ lo):=by simp only[cY,Dl,if_false,vm,dw]
    simp[h1,h2,h3,h6,h7,q2,q3,q4,gp,Wx,rA,dG,zu,hX];exact⟨Γ,mD,rfl⟩
end Go.Δ.Tz
