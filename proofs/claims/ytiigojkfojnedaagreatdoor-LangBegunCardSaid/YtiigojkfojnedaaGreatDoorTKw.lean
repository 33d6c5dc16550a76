import Derived.Test.YtiigojkfojnedaaGreatDoorTKu
import Derived.Test.YtiigojkfojnedaaGreatDoorTHm
set_option linter.all false
set_option maxRecDepth 100000
set_option maxHeartbeats 8000000
open List renaming all_map->pg,getElem?_append_left->eo,take_of_length_le->fw,length_map->cF,append_assoc->bH,set_append_left->mT,mem_singleton->fK,mem_append->dE,cons_append->cy,length->ki,map_cons->aA,map_nil->aP
open Nat renaming le_refl->bA
namespace Go.Δ.Tz
open Go.Δ
variable{u:Nat}
attribute [local simp] exec dT dG eR aH dr ff eH aI fA bQ gX ib iC iL lq AV.cells newVar iH rd wr gL single dd cA eU ef κ cH RV.get cJ fF jU
attribute [local simp] EE D_
theorem Y0(l:List δ):(δ.ψ l).all (shaped true 14)=true:=by rw[δ.eM];simp[pg,shaped,δ.av,δ.mw,Function.comp]
theorem ajD(l:List Sp):(Sp.ψ l).all (shaped true 3)=true:=by
 rw[Sp.eM,pg];simp only[List.all_eq_true,Function.comp]
 rintro⟨f,t,i⟩ _
 rfl
theorem Sp.len(x:Sp):x.cells.length=3:=by cases x;rfl
theorem δ.agk{l:List δ}{x:δ}(h:δ.da l)(hx:x.Ok):δ.da (l++[x]):=by
 induction l with
 |nil=>exact⟨hx,trivial⟩
 |cons a l ih=>exact⟨h.1,ih h.2⟩
theorem ajI(l:List δ)(x:δ):δ.ψ (l++[x])=δ.ψ l++[.agg x.cells]:=by simp[δ.eM,δ.av]
theorem ajE(l:List Sp)(x:Sp):Sp.ψ (l++[x])=Sp.ψ l++[.agg x.cells]:=by simp[Sp.eM]
section
variable{s:List Nat}{all:List Tok}{c:ξ}(hl:all.length<1000000000)(ai:∀t∈all,t.Ok)(hc:br c)
include hl ai hc
theorem f231{n k:Nat}(hkn:k+1<=n)(hb:∀a:RS,a.sz<k->tN u s all c 231 [] (dw s.length (au s.length n) k) Eb a)(a:RS)(hak:a.sz<k+1):tN u s all c 231 [] (dw s.length (au s.length n) (k+1)) Eb a:=by
 intro B p cs item T hp h;show∃v x ae dZ b T',_/\_/\aF (vV s.length (g_ s.length (au s.length n) (dw s.length (au s.length n) k))) a x b/\_;have aii:=fun(a:RS) (h2:a.sz<k+1)=>f271 (u:=u) (n:=n) (k:=k) hl ai hc hb a (by omega) h2;have qu:fm (g_ s.length (au s.length n) (dw s.length (au s.length n) k)):=Lu _ (nL _ _) (Ay _ (nL _ _) _);generalize hP:g_ s.length (au s.length n) (dw s.length (au s.length n) k)=P at*;obtain⟨_,w1,cN,a1,k1,r1,iF,rfl⟩:=f226 (u:=u) (item:=item) [123] hl ai a B p cs hp h;have s1:=iF.sz (eV _ _);let F:List δ×List Sp->PS->R (List δ×List Sp):=fun l t=>(o9 s.length P t).map fun x=>(l.1++[x.1],l.2++[x.2]);let cc:PS->Bool:=fun t=>!t.aZ [125];have dY:κ (C u).gl (ah (C u)) Rl {env:=[.μ p 0],loc:=[],mem:= {ε:=B.set p (.cells cs),ζ:=[]}} fun r=>(∀i,r.1≠ .exit i)/\∃lo li c4 c5 ae ext dZ b,aI r.2.env 2= .list c4 (δ.ψ lo)/\aI r.2.env 3= .list c5 (Sp.ψ li)/\r.2.mem.ε=B.set p (.cells ae)++ext/\(∀i∈r.2.mem.ζ,i=p\/B.length<=i)∧
   c4.exp 0 false=Φ lo/\c5.exp 0 false=Φ li/\δ.da lo/\cK s all c dZ ae b/\aF (vV s.length P) a (lo,li) b:=by
  refine Θ (fun st=>st.e 0= .μ p 0/\st.mem= {ε:=B.set p (.cells cs),ζ:=[]}) (by simp) fun s1 ⟨h1,h2⟩=>?_;refine Θ (fun st=>st.e 0= .μ p 0/\st.e 4= .list .nil []/\st.mem= {ε:=B.set p (.cells cs),ζ:=[]}) (by simp[h1,h2]) fun s1 ⟨h1,h3,h2⟩=>?_;refine Θ (fun st=>st.e 0= .μ p 0/\st.e 4= .list .nil []/\st.e 5= .list .nil []/\st.mem= {ε:=B.set p (.cells cs),ζ:=[]}) (by simp[h1,h2,h3]) fun s1 ⟨h1,h3,h4,h2⟩=>?_;refine Θ (fun st=>st.e 0= .μ p 0/\st.e 4= .list .nil []/\st.e 5= .list .nil []/\st.mem= {ε:=B.set p (.cells cN),ζ:=[]}) (by simp[h1,h2,h3,h4,k1]) fun s1 ⟨h1,h3,h4,h2⟩=>?_;refine Θ (fun st=>st=s1) (by simp) fun s2 hs=>?_;subst hs;let R2:St->List δ->List Sp->List AV->RS->Prop:=fun st lo li ae b=>st.e 0= .μ p 0/\∃c4 c5 ext tt dZ,st.e 4= .list c4 (δ.ψ lo)/\st.e 5= .list c5 (Sp.ψ li)/\st.mem=(kU B p ae ext tt)/\(∀i∈tt,i=p\/B.length<=i)∧
   Row B.length (B.set p (.cells ae)++ext) 14 66 c4 lo.length/\Row B.length (B.set p (.cells ae)++ext) 3 198 c5 li.length/\(lo=[]->c4= .nil)/\(li=[]->c5= .nil)/\δ.da lo/\cK s all c dZ ae b
  let I:Nat->St->Prop:=fun i st=>∃lo li ae b,R2 st lo li ae b/\lo.length<=i/\li.length<=i/\b.sz<=a1.sz/\(b.sz+i<=a1.sz\/∃w,b= .w w)/\∀y b',aF (cd cc F (a1.sz+1-i) (lo,li)) b y b'->aF (cd cc F (a1.sz+1) ([],[])) a1 y b';have hI:I 0 s2:=⟨[],[],cN,a1,⟨h1,.nil,.nil,[],[],item,h3,h4,h2.trans (by simp),by simp,Row.nil,Row.nil,fun _=>rfl,fun _=>rfl,trivial,r1⟩,bA _,bA _,bA _,.inl (bA _),fun _ _ h=>h⟩;have hlen:=r1.sz;refine bP (fun st=>∃lo li ae b,R2 st lo li ae b/\aF (cd cc F (a1.sz+1) ([],[])) a1 (lo,li) b) ?_ fun s3 ⟨lo,li,ae,b,⟨q1,c4,c5,ext,tt,dZ,q2,q3,q4,q5,q6,q7,q8,q9,nr,p9⟩,hg⟩=>?_
  ·refine κ.block (κ.kD (I:=I) (a1.sz+1) hI fun i st hi Ω=>?_);obtain⟨lo,li,ae,b,⟨q1,c4,c5,ext,tt,dZ,q2,q3,q4,q5,q6,q7,q8,q9,nr,p9⟩,jL,nY,fG,yJ,pN⟩:=Ω;have TO:∀aL:St,aL.e 0= .μ p 0/\aL.e 4= .list c4 (δ.ψ lo)/\aL.e 5= .list c5 (Sp.ψ li)/\aL.mem=(kU B p ae ext tt)->R2 aL lo li ae b:=fun aL ⟨m1,m2,m3,m4⟩=>⟨m1,c4,c5,ext,tt,dZ,m2,m3,m4,q5,q6,q7,q8,q9,nr,p9⟩;obtain⟨k2,wr,jf,gE,gg⟩:=p9;have gp:(B.set p (θ.cells ae)++ext)[p]?=some (.cells [.str s,.list c (all.map Tok.bu),.n k2,.n wr,dZ]):=by rw[eo (by simpa using hp),jf];simp[hp]
   have p9:cK s all c dZ ae b:=⟨k2,wr,jf,gE,gg⟩;unfold VU;cases b with
   |w w=>
    have hw:¬wr<0:=by have:wr=(w:Int):=gg;omega
    refine κ.done (.exit 0) (fun aL=>aL.e 0= .μ p 0/\aL.e 4= .list c4 (δ.ψ lo)/\aL.e 5= .list c5 (Sp.ψ li)/\aL.mem=(kU B p ae ext tt)) (by simp[q1,q2,q3,q4,gp,hw]) fun s' hh=> .inr ⟨by simp,.inl ⟨rfl,.inl ⟨rfl,lo,li,ae,.w w,TO s' hh,pN _ _ rfl⟩⟩⟩
   |r sb=>
    obtain⟨rfl,-,-⟩:=gg
    have yJ:(RS.r sb).sz+i<=a1.sz:=yJ.elim id fun⟨w,h⟩=>by cases h
    rw[show a1.sz+1-i=(a1.sz-i)+1 by omega]at pN;have qb:=fun t hb T=>Ci (u:=u) hl [125] ext hp p9 t hb T;cases dt:(RS.r sb).aZ [125]with
    |true=>
     have qb:=qb _ dt
     refine κ.done (.exit 0) (fun aL=>aL.e 0= .μ p 0/\aL.e 4= .list c4 (δ.ψ lo)/\aL.e 5= .list c5 (Sp.ψ li)/\aL.mem=(kU B p ae ext tt)) (by simp[q1,q2,q3,q4,gp,qb]) fun s' hh=> .inr ⟨by simp,.inl ⟨rfl,.inl ⟨rfl,lo,li,ae,.r sb,TO s' hh,pN _ _ (aF.D5 (show(!sb.aZ [125])=false by rw[show sb.aZ [125]=true from dt];rfl))⟩⟩⟩
    |false=>
     have qb:=qb _ dt
     obtain⟨_,⟨x,sp⟩,cG,rV,b2,T2,k3,r3,dU,⟨rfl,hx⟩,pU⟩:=(aii (.r sb) (by omega)).at ext hp p9 tt;dsimp only at k3 hx;have rT:=δ.mw x;have Bh:x.cells.take 14=x.cells:=fw (by omega);have jX:=Sp.len sp;have ac1:sp.cells.take 3=sp.cells:=fw (by omega);have aJ:=dU.sz (Lt _ qu).Ls;have nX:(B.set p (θ.cells cG)).length=B.length:=by simp
     have p6:Row (B.set p (θ.cells cG)).length (B.set p (.cells cG)++ext) 14 66 c4 (δ.ψ lo).length:=by rw[δ.eM,cF,nX];exact Row.swap q6 (by simp) (by simp)
     have p7:Row (B.set p (θ.cells cG)).length (B.set p (.cells cG)++ext) 3 198 c5 (Sp.ψ li).length:=by rw[Sp.eM,cF,nX];exact Row.swap q7 (by simp) (by simp)
     have IG:(δ.ψ lo).length=lo.length:=by rw[δ.eM,cF]
     have IP:(Sp.ψ li).length=li.length:=by rw[Sp.eM,cF]
     have n1:ν (.agg x.cells)= .agg x.cells:=(Dv.agg (δ.fx x hx)).ν;have n2:ν (.agg sp.cells)= .agg sp.cells:=(Dv.agg (Sp.fx sp)).ν;have Jp:shaped true 14 (.agg x.cells)=true:=by simp[shaped,rT]
     have Jq:shaped true 3 (.agg sp.cells)=true:=by simp[shaped,jX]
     obtain⟨lV,aaW,w9,qC,MX⟩:=wa (bytes:=216) p6 (Y0 lo) Jp n1 (by omega) (by omega) (by omega);obtain⟨Cl,sH,vk,DG,MY⟩:=wa (bytes:=40) (MX.rows 3 198 _ _ (by decide) p7) (ajD li) Jq n2 (by omega) (by omega) (by omega);have DF:=MY.rows 14 66 _ _ (by decide) qC;rw[nX,IG]at DF;rw[nX,IP]at DG;have τ:∀(c:ξ) (m:Nat) (X:List θ) (sz:Nat) (e:TypeId),Row B.length X sz e c (m+1)->c≠ .nil:=fun c m X sz e hr=>by
      rcases hr with⟨_,h⟩|⟨t,rfl,_⟩
      ·omega
      ·exact fun h=>by cases h
     refine κ.done .normal (fun aL=>aL.e 0= .μ p 0/\aL.e 4= .list lV (δ.ψ (lo++[x]))/\aL.e 5= .list Cl (Sp.ψ (li++[sp]))/\aL.mem=(kU B p cG sH T2)) (by
      have OY:∀m:Mem,m.ν (.agg x.cells)= .agg x.cells:=fun _=>n1
      have OZ:∀m:Mem,m.ν (.agg sp.cells)= .agg sp.cells:=fun _=>n2;simp[q1,q2,q3,q4,gp,qb,k3,rT,Bh,jX,ac1,Jp,Jq,OY,OZ,w9,vk,ajI,ajE,cZ,c8,nO]) fun s' ⟨m1,m2,m3,m4⟩=> .inl ⟨rfl,?_,lo++[x],li++[sp],cG,b2,⟨m1,lV,Cl,sH,T2,rV,m2,m3,m4,fun i hi=>(pU i hi).elim (q5 i) .inl,by simpa using DF,by simpa using DG,fun h=>by simp at h,fun h=>by simp at h,δ.agk nr hx,r3⟩,by simp;omega,by simp;omega,by omega,?_,fun y b' hg=>pN y b' (aF.D6 (show(!sb.aZ [125])=true by rw[show sb.aZ [125]=false from dt];rfl) (dU.map _) (by rw[show a1.sz+1-(i+1)=a1.sz-i by omega]at hg;exact hg))⟩
     ·omega
     ·cases b2 with
      |w w=>exact .inr ⟨w,rfl⟩
      |r t=>
       refine .inl ?_
       simp only[aF]at dU;cases oT:o9 s.length P sb with
       |no w=>rw[oT]at dU;cases dU
       |ok y t'=>
        rw[oT]at dU
        obtain⟨_,vK⟩:=dU;cases vK;have:=Lt _ qu _ _ _ oT;simp only[RS.sz]at yJ⊢;omega
  ·obtain⟨_,w2,cG,b2,k2,r2,gC,rfl⟩:=(f226 (u:=u) (item:=dZ) [125] hl ai b).at ext hp p9;have dP:∀{α:Type} (l:List α) (c:ξ) (X:List θ) (sz:Nat) (e:TypeId),Row B.length X sz e c l.length->(l=[]->c= .nil)->c.exp 0 false=Φ l:=fun l c X sz e hr hn=>by
    cases l with
    |nil=>rw[hn rfl];rfl
    |cons a l=>
     rcases hr with⟨_,h⟩|⟨t,rfl,_⟩
     ·cases h
     ·rfl
   refine κ.done .ret (fun aL=>aL.e 2= .list c4 (δ.ψ lo)/\aL.e 3= .list c5 (Sp.ψ li)/\aL.mem=(kU B p cG ext tt)) (by simp[q1,q2,q3,q4,k2]) fun s' ⟨m1,m2,m3⟩=>⟨by simp,lo,li,c4,c5,cG,ext,dZ,b2,m1,m2,by rw[m3],by rw[m3];exact q5,dP _ _ _ _ _ q6 q8,dP _ _ _ _ _ q7 q9,nr,r2,?_⟩;exact iF.bind (Q:=fun _ t=>(cd cc F (t.l.length+1) ([],[]) t).bind fun l t=>(aD s.length [125] t).map fun _=>l) (hg.fuel.bind (Q:=fun l t=>(aD s.length [125] t).map fun _=>l) (gC.map fun _=>(lo,li)))
 obtain⟨r,e1,e2,lo,li,c4,c5,ae,ext,dZ,b,e3,e4,e5,e6,e7,e8,e9,pD,wI⟩:=dY;have hv:Dv (.aU [.list c4 (δ.ψ lo),.list c5 (Sp.ψ li)]) (.aU [.list (Φ lo) (δ.ψ lo),.list (Φ li) (Sp.ψ li)]):=by rw[<-e7,<-e8];exact .aU (.cons (.list c4 (Ju e9)) (.cons (.list c5 (Sp.AE li)) .nil))
 obtain⟨cG,rV,T',CA,CB,CC⟩:=IU (u:=u) hc (f:=231) (g:=GM) (args:=[]) (v:= .aU [.list (Φ lo) (δ.ψ lo),.list (Φ li) (Sp.ψ li)]) rfl rfl rfl hp rfl e1 e2 e5 pD e6 (l:=[.list c4 (δ.ψ lo),.list c5 (Sp.ψ li)]) (by simp[GM,e3,e4]) (hv.aK _ _ _) T;exact⟨_,(lo,li),cG,rV,b,T',CA,CB,wI,⟨rfl,e9⟩,CC⟩
theorem QJ{n:Nat}:∀k,k<=n->∀a:RS,a.sz<k->tN u s all c 231 [] (dw s.length (au s.length n) k) Eb a
 |0,_,_,h=>by omega
 |k+1,hk,a,h=>f231 hl ai hc hk (fun a h=>QJ k (by omega) a h) a h
end
theorem ay.fx(x:ay):Fx x.av:=⟨rfl,rfl⟩
theorem ahw(l:List ay):(l.map ay.av).all (shaped true 2)=true:=by simp[pg,ay.av,shaped,Function.comp]
def pT(p:Nat)(nm:List Nat)(c:ξ)(l:List AV):List θ:=[.cells [.μ p 0],.cells [.str nm,.list c l,.list .nil []]]
def pI(B:List θ)(p:Nat)(nm:List Nat)(l:List ay)(B':List θ):Prop:=
 ∃c ext,B'=B++pT p nm c (l.map ay.av)++ext/\Row (B.length+2) B' 2 76 c l.length/\(l=[]->c= .nil)/\∀x∈l,cV x.name
section
variable{s:List Nat}{all:List Tok}{c:ξ}(hl:all.length<1000000000)(ai:∀t∈all,t.Ok)
include hl ai
theorem f229{B:List θ}{p:Nat}(hp:p<B.length)(nm:List Nat)(n:Nat):JV u s all c (pI B p nm) (.fn (.func 229) [] [.μ B.length 0,.μ (B.length+1) 0]) (zC s.length) n B.length p:=by
 rintro l _ T cs a ⟨cp,ext,rfl,hr,hn,HX⟩ h ha hlen
 obtain⟨_,x,cN,a1,k1,r1,iF,rfl,hx⟩:=(f227 (u:=u) hl ai a).at (pT p nm cp (l.map ay.av)++ext) hp h;obtain⟨_,w2,cG,a2,k2,r2,gC,rfl⟩:=(f226 (u:=u) [91] hl ai a1).at (pT p nm cp (l.map ay.av)++ext) hp r1;obtain⟨_,m,c7,a3,k3,r3,dU,rfl,hm⟩:=(f230 (u:=u) hl ai a2).at (pT p nm cp (l.map ay.av)++ext) hp r2;obtain⟨_,w4,iP,a4,k4,r4,mY,rfl⟩:=(f226 (u:=u) [93] hl ai a3).at (pT p nm cp (l.map ay.av)++ext) hp r3;have e0:∀cs c l ext,(B++pT p nm c l++ext).set p (.cells cs)=B.set p (.cells cs)++pT p nm c l++ext:=fun cs c l ext=>by rw[bH,mT _ _ hp,bH]
 have jz:Row (B.set p (.cells iP)++pT p nm cp (l.map ay.av)).length (B.set p (.cells iP)++pT p nm cp (l.map ay.av)++ext) 2 76 cp (l.map ay.av).length:=by rw[cF];have:=Row.swap hr (P':=B.set p (.cells iP)++pT p nm cp (l.map ay.av)) (by simp[pT]) (by simp[pT]);simpa[pT]using this
 obtain⟨c',ext',dO,iu,-⟩:=wa (bytes:=24) jz (ahw l) (show shaped true 2 (ay.av ⟨x,m⟩)=true by rfl) (show ν (ay.av ⟨x,m⟩)=_ by rfl) (by omega) (by simp;omega) (by simp;omega);rw[cF]at iu;have hL:∀cs c l ext,(B.set p (.cells cs)++pT p nm c l++ext).length=B.length+2+ext.length:=fun cs c l ext=>by simp[pT];omega
 have eJ:∀n,B.length+2<=n->([]++[AV.μ B.length 0,.μ (B.length+1) 0]).map (exp n true)=[AV.μ B.length 0,.μ (B.length+1) 0]:=fun n hn=>by
  have a1:B.length+1<n:=by omega
  have a2:B.length<n:=by omega
  simp[exp,a1,a2]
 have g0:∀cs c l ext,(B.set p (.cells cs)++pT p nm c l++ext)[B.length]?=some (.cells [.μ p 0]):=fun cs c l ext=>by simp[pT]
 have g1:∀cs c l ext,(B.set p (.cells cs)++pT p nm c l++ext)[B.length+1]?=some (.cells [.str nm,.list c l,.list .nil []]):=fun cs c l ext=>by simp[pT]
 have g2:∀cs c l ext c' l',(B.set p (.cells cs)++pT p nm c l++ext).set (B.length+1) (.cells [.str nm,.list c' l',.list .nil []])=B.set p (.cells cs)++pT p nm c' l'++ext:=fun cs c l ext c' l'=>by simp[pT]
 have eK:∀M:Mem,M.ν (.list c' (l.map ay.av++[ay.av ⟨x,m⟩]))= .list c' (l.map ay.av++[ay.av ⟨x,m⟩]):=fun M=>by have:=(Dv.list c' (bS.of ay.av (l++[⟨x,m⟩]) fun y _=>ay.fx y)).ν;rw[List.map_append]at this;exact this
 have dY:κ (C u).gl (ah (C u)) c229 {env:=[.μ B.length 0,.μ (B.length+1) 0],loc:=[],mem:= {ε:=B.set p (.cells cs)++pT p nm cp (l.map ay.av)++ext,ζ:=[]}} fun r=>r.1= .normal/\∃tt,r.2.mem= {ε:=B.set p (.cells iP)++pT p nm c' ((l++[(⟨x,m⟩:ay)]).map ay.av)++ext',ζ:=tt}/\∀i∈tt,B.length<=i:=by
  have ej:shaped true 2 (.agg [.str x,.n m])=true:=rfl;have nf:∀M:Mem,M.ν (.agg [.str x,.n m])= .agg [.str x,.n m]:=fun _=>rfl;simp only[bH,ay.av]at g0 g1 g2 k1 k2 k3 k4 dO eK⊢;simp[c229,bL,dp,g0,g1,g2,k1,k2,k3,k4,ej,nf,dO,eK,Mem.put];refine⟨_,⟨rfl,rfl⟩,fun i hi=>?_⟩;split at hi
  ·cases hi
  ·have:=fK.1 hi;omega
 obtain⟨⟨ex,s'⟩,e1,rfl,tt,e2,e3⟩:=dY;have dz:=sB (C:=C u) (f:=229) (g:=L4) (args:=[]) (cap:=[.μ B.length 0,.μ (B.length+1) 0]) (m:= {ε:=B.set p (.cells cs)++pT p nm cp (l.map ay.av)++ext,ζ:=T}) (l:=[]) rfl rfl rfl (by rw[eJ _ (by rw[hL];omega)];exact e1) (by simp) (by rfl);refine⟨B++pT p nm c' ((l++[(⟨x,m⟩:ay)]).map ay.av)++ext',T++tt,⟨x,m⟩,iP,a4,by rw[e0,e0,dz];dsimp only at e2;rw[e2];rfl,⟨c',ext',rfl,?_,fun h=>by simp at h,fun y hy=>?_⟩,r4,?_,fun i hi=>(dE.1 hi).imp id (e3 i)⟩
 ·have:=Row.swap iu (P':=B++pT p nm c' ((l++[(⟨x,m⟩:ay)]).map ay.av)) (by simp[pT]) (by simp[pT]);simpa[pT]using this
 ·rcases dE.1 hy with hy|hy
  ·exact HX y hy
  ·rw[fK.1 hy];exact hx
 ·exact iF.bind (Q:=fun n t=>(aD s.length [91] t).bind fun _ t=>(r8 s.length t).bind fun k t=>(aD s.length [93] t).map fun _=>(⟨n,k⟩:ay)) (gC.bind (dU.bind (Q:=fun(k:Nat) t=>(aD s.length [93] t).map fun _=>(⟨x,(k:Int)⟩:ay)) (mY.map fun _=>(⟨x,(m:Int)⟩:ay))))
variable(hc:br c)
def Yo:φ×List Sp->AV->Prop:=fun x v=>v= .aU [x.1.av,.list (Φ x.2) (Sp.ψ x.2)]/\x.1.Ok
theorem SG(e:Nat):dk (zC e):=(nN e).bind fun _=>(eV e _).bind fun _=>(Ly e).bind fun _=>(eV e _).map
include hc
theorem f188{n:Nat}(a:RS)(ha:a.sz<n):tN u s all c 188 [] (tu s.length (dw s.length (au s.length n) n)) Yo a:=by
 intro B p cs item T hp h;have g0:∀cs L (e:List θ),(B.set p (θ.cells cs)++θ.cells [.μ p 0]::θ.cells L::e)[B.length]?=some (.cells [.μ p 0]):=fun cs L e=>by simp
 have g1:∀cs L (e:List θ),(B.set p (θ.cells cs)++θ.cells [.μ p 0]::θ.cells L::e)[B.length+1]?=some (.cells L):=fun cs L e=>by simp
 have gs:∀cs L L' (e:List θ),(B.set p (θ.cells cs)++θ.cells [.μ p 0]::θ.cells L::e).set (B.length+1) (.cells L')=B.set p (θ.cells cs)++θ.cells [.μ p 0]::θ.cells L'::e:=fun cs L L' e=>by simp
 obtain⟨_,w1,cN,a1,k1,r1,iF,rfl⟩:=(f226 (u:=u) (item:=item) [112,114,111,99] hl ai a).at [.cells [.μ p 0],.cells [.str [],.list .nil [],.list .nil []]] hp h;have s1:=iF.sz (eV _ _);obtain⟨_,nm,cG,a2,k2,r2,gC,rfl,jW⟩:=(f227 (u:=u) (item:=item) hl ai a1).at [.cells [.μ p 0],.cells [.str [],.list .nil [],.list .nil []]] hp r1;have s2:=gC.sz (nN _);obtain⟨_,w3,c7,a3,k3,r3,dU,rfl⟩:=(f226 (u:=u) (item:=item) [40] hl ai a2).at [.cells [.μ p 0],.cells [.str nm,.list .nil [],.list .nil []]] hp r2;have s3:=dU.sz (eV _ _);obtain⟨B4,T4,ps,iP,a4,k4,⟨c4,yz,rfl,ze,Nx,Nn⟩,r4,mY,DL⟩:=f228 (u:=u) hl ai (I:=pI B p nm) (fn:= .fn (.func 229) [] [.μ B.length 0,.μ (B.length+1) 0]) (P:=zC s.length) (k:=n) (N:=B.length) (M:=B.length+2) (p:=p) (SG hl ai _) rfl rfl
  (fun m hm=>by
   have q1:B.length+1<m:=by omega
   have q2:B.length<m:=by omega
   simp[exp,bn,Fn.below,q1,q2]) (fun l B' ⟨c,ext,h,_⟩=>by rw[h];simp[pT];omega) (f229 hl ai hp nm n) [] ⟨.nil,[],by simp;rfl,Row.nil,fun _=>rfl,by simp⟩ r3 (by omega)
 have s4:=mY.sz (Lx _ (SG hl ai _));have e0:∀cs D,(B++D).set p (.cells cs)=B.set p (.cells cs)++D:=fun cs D=>mT _ _ hp;simp only[bH,e0]at k4;have Il:kf u 228 [.μ p 0,.str [41],.fn (.func 229) [] [.μ B.length 0,.μ (B.length+1) 0]] {ε:=B.set p (.cells c7)++[.cells [.μ p 0],.cells [.str nm,.list .nil [],.list .nil []]],ζ:=[]}=some (.aU [],{ε:=B.set p (.cells iP)++(θ.cells [.μ p 0]::θ.cells [.str nm,.list c4 (ps.map ay.av),.list .nil []]::yz),ζ:=T4}):=k4;have ec:c4.exp 0 false=Φ ps:=by
  cases ps with
  |nil=>rw[Nx rfl];rfl
  |cons a l=>
   rcases ze with⟨_,h⟩|⟨t,rfl,_⟩
   ·cases h
   ·rfl
 obtain⟨_,⟨bl,bi⟩,u_,Vv,a5,T5,k5,r5,wV,⟨rfl,ep⟩,DM⟩:=(QJ (u:=u) hl ai hc n (bA _) a4 (by omega)).at (θ.cells [.μ p 0]::θ.cells [.str nm,.list c4 (ps.map ay.av),.list .nil []]::yz) hp r4 T4;dsimp only at k5 ep;have dY:κ (C u).gl (ah (C u)) Kv {env:=[.μ p 0],loc:=[],mem:= {ε:=B.set p (.cells cs),ζ:=[]}} fun r=>r.1= .ret/\aI r.2.env 2= .aj 2 0 0/\bQ r.2.loc 2=some (0,.cells [.str nm,.list c4 (ps.map ay.av),.list (Φ bl) (δ.ψ bl)])/\aI r.2.env 3= .list (Φ bi) (Sp.ψ bi)∧
   ∃tt,r.2.mem= {ε:=B.set p (.cells u_)++(θ.cells [.μ p 0]::θ.cells [.str nm,.list c4 (ps.map ay.av),.list (Φ bl) (δ.ψ bl)]::yz),ζ:=tt}/\∀i∈tt,i=p\/B.length<=i:=by
  have ht:∀i∈T5,i=p\/B.length<=i:=fun i hi=>(DM i hi).elim (fun h=>(DL i h).elim (fun h=>by cases h) id) .inl;have vE:cL (δ.ψ bl)=δ.ψ bl:=(Ef 0 false _ (Ju ep).1).2.2.1;simp[Kv,bL,Mem.push,Mem.put,Mem.ν,ν,cL,bo,lo,ξ.lo,g0,g1,gs,k1,k2,k3,Il,k5];have hif:∀(q:Prop) [Decidable q] (i:Nat),i∈(if q then T5 else(B.length+1)::T5)->i=p\/B.length<=i:=fun q _ i hi=>by
   by_cases hq:q
   ·rw[if_pos hq]at hi;exact ht i hi
   ·rw[if_neg hq]at hi;exact(List.mem_cons.1 hi).elim (fun h=> .inr (by omega)) (ht i)
  exact⟨vE,_,⟨vE,rfl⟩,fun i hi=>hif _ i hi⟩
 obtain⟨⟨ex,s'⟩,e1,e2,e3,e4,e5,tt,e6,e7⟩:=dY;dsimp only at e2 e3 e4 e5 e6;subst e2;have dy:=Dv.list (Φ bl) (Ju ep);rw[Cp]at dy;have ng:=Dv.list (Φ bi) (Sp.AE bi);rw[Cp]at ng;have lN:=Dv.list c4 (bS.of ay.av ps fun y _=>ay.fx y);rw[ec]at lN;have hv:Dv (.aU [.agg [.str nm,.list c4 (ps.map ay.av),.list (Φ bl) (δ.ψ bl)],.list (Φ bi) (Sp.ψ bi)]) (.aU [(⟨nm,Φ ps,ps,Φ bl,bl⟩:φ).av,.list (Φ bi) (Sp.ψ bi)]):=
  .aU (.cons (.agg (.cons (.str _) (.cons lN (.cons dy .nil)))) (.cons ng .nil))
 obtain⟨Cw,adl,T6,CA,CB,CC⟩:=IU (u:=u) hc (f:=188) (g:=Gu) (args:=[]) (v:= .aU [(⟨nm,Φ ps,ps,Φ bl,bl⟩:φ).av,.list (Φ bi) (Sp.ψ bi)]) rfl rfl rfl hp rfl e1 (by simp) (by rw[e6]) r5 (by rw[e6];exact e7) (l:=[.agg [.str nm,.list c4 (ps.map ay.av),.list (Φ bl) (δ.ψ bl)],.list (Φ bi) (Sp.ψ bi)]) (by simp[Gu,e3,e4,e5]) (hv.aK _ _ _) T;refine⟨_,(⟨nm,Φ ps,ps,Φ bl,bl⟩,bi),Cw,adl,a5,T6,CA,CB,?_,⟨rfl,jW,kJ _,Nn,kJ _,ep,?_⟩,CC⟩
 ·exact iF.bind (gC.bind (Q:=fun n' t=>(aD s.length [40] t).bind fun _ t=>(nk s.length (zC s.length) t).bind fun ps t=>(dw s.length (au s.length n) n t).map fun b=>((⟨n',Φ ps,ps,Φ b.1,b.1⟩:φ),b.2)) (dU.bind (mY.bind (Q:=fun ps t=>(dw s.length (au s.length n) n t).map fun b=>((⟨nm,Φ ps,ps,Φ b.1,b.1⟩:φ),b.2)) (wV.map fun b=>((⟨nm,Φ ps,ps,Φ b.1,b.1⟩:φ),b.2)))))
 ·intro h;cases ps with
  |nil=>rfl
  |cons a l=>cases h
end
end Go.Δ.Tz
namespace Go.Δ
def Wt{α:Type}(w:α->Nat)(P:PS->R α):Prop:=∀s x t,P s= .ok x t->w x+4*t.l.length<=4*s.l.length
theorem R.dm{α β:Type}{a:R α}{f:α->PS->R β}{y:β}{t:PS}(h:a.bind f= .ok y t):∃x s,a= .ok x s/\f x s= .ok y t:=by
 cases a with
 |ok x s=>exact⟨x,s,rfl,h⟩
 |no w=>cases h
theorem R.iz{α β:Type}{a:R α}{f:α->β}{y:β}{t:PS}(h:a.map f= .ok y t):∃x,a= .ok x t/\f x=y:=by
 cases a with
 |ok x s=>cases h;exact⟨x,rfl,rfl⟩
 |no w=>cases h
theorem P7{e:Nat}{f:Tok->Bool}:∀s x t,iJ e f s= .ok x t->4+4*t.l.length<=4*s.l.length:=fun s x t h=>by have:=JA h;omega
theorem Wt.loop{α:Type}{w:α->Nat}{c:PS->Bool}{f:α->PS->R α}(h:∀x s y t,f x s= .ok y t->w y+4*t.l.length<=w x+4*s.l.length):∀n x s y t,cd c f n x s= .ok y t->w y+4*t.l.length<=w x+4*s.l.length:=by
 intro n;induction n with
 |zero=>intro x s y t e;cases e
 |succ n ih=>
  intro x s y t e
  simp only[cd]at e;split at e
  ·obtain⟨x',s',e1,e2⟩:=R.dm e;have:=h _ _ _ _ e1;have:=ih _ _ _ _ e2;omega
  ·cases e;omega
theorem sr:z0.cnt=1:=rfl
theorem fX{e:Nat}{w:List Nat}:∀s x t,aD e w s= .ok x t->4+4*t.l.length<=4*s.l.length:=P7
theorem uV{e:Nat}:∀s x t,gH e s= .ok x t->4+4*t.l.length<=4*s.l.length:=P7
theorem Yh{e:Nat}:∀s x t,r8 e s= .ok x t->4+4*t.l.length<=4*s.l.length:=fun s x t h=>by obtain⟨y,h1,_⟩:=R.iz h;exact P7 _ _ _ h1
theorem akh{e:Nat}{ix:PS->R η}(h:Wt η.cnt ix):Wt η.cnt (eA e ix):=fun s x t k=>by
 simp only[eA]at k;split at k
 ·obtain⟨_,s1,k1,k⟩:=R.dm k;obtain⟨y,s2,k2,k⟩:=R.dm k;obtain⟨_,k3,rfl⟩:=R.iz k;have:=fX _ _ _ k1;have:=h _ _ _ k2;have:=fX _ _ _ k3;omega
 ·split at k
  ·obtain⟨n,k1,rfl⟩:=R.iz k;have:=Yh _ _ _ k1;simp only[η.cnt,η.bO];omega
  ·obtain⟨n,k1,rfl⟩:=R.iz k;have:=uV _ _ _ k1;simp only[η.cnt,η.bO];omega
theorem akp{e:Nat}{at':PS->R η}(h:Wt η.cnt at'):Wt η.cnt (kB e at'):=fun s x t k=>by
 obtain⟨y,s1,k1,k⟩:=R.dm k;have:=h _ _ _ k1;have:=Wt.loop (w:=η.cnt) (fun x s y t k=>by
  obtain⟨_,s1,k1,k⟩:=R.dm k
  obtain⟨z,k2,rfl⟩:=R.iz k;have:=fX _ _ _ k1;have:=h _ _ _ k2;simp only[η.cnt,η.bO];omega) _ _ _ _ _ k
 omega
theorem akr{e:Nat}{pr:PS->R η}(h:Wt η.cnt pr):Wt η.cnt (wh e pr):=fun s x t k=>by
 obtain⟨y,s1,k1,k⟩:=R.dm k;have:=h _ _ _ k1;have:=Wt.loop (w:=η.cnt) (fun x s y t k=>by
  obtain⟨_,s1,k1,k⟩:=R.dm k
  obtain⟨z,k2,rfl⟩:=R.iz k;have:=fX _ _ _ k1;have:=h _ _ _ k2;simp only[η.cnt,η.bO];omega) _ _ _ _ _ k
 omega
theorem aki(e k:Nat):Wt η.cnt (au e k):=by
 induction k with
 |zero=>intro s x t h;cases h
 |succ k ih=>exact akr (akp (akh ih))
theorem akn{e:Nat}{ix:PS->R η}(h:Wt η.cnt ix):Wt ρ.wt (gQ e ix):=fun s x t k=>by
 obtain⟨n,s1,k1,k⟩:=R.dm k;have:=uV _ _ _ k1;split at k
 ·obtain⟨_,s2,k2,k⟩:=R.dm k;obtain⟨a,s3,k3,k⟩:=R.dm k;obtain⟨l,s4,k4,k⟩:=R.dm k;obtain⟨_,k5,rfl⟩:=R.iz k;have:=fX _ _ _ k2;have:=h _ _ _ k3;have:=fX _ _ _ k5;split at k4
  ·obtain⟨_,s6,k6,k4⟩:=R.dm k4;obtain⟨b,k7,rfl⟩:=R.iz k4;have:=fX _ _ _ k6;have:=h _ _ _ k7;simp only[ρ.wt,η.bO];omega
  ·cases k4;simp only[ρ.wt,η.bO];omega
 ·cases k;simp only[ρ.wt,η.bO];omega
theorem Yj{e:Nat}{ix:PS->R η}(h:Wt η.cnt ix):Wt (fun x=>x.2.cnt) (sn e ix):=fun s x t k=>by obtain⟨n,s1,k1,k⟩:=R.dm k;obtain⟨_,s2,k2,k⟩:=R.dm k;obtain⟨a,s3,k3,k⟩:=R.dm k;obtain⟨_,k4,rfl⟩:=R.iz k;have:=uV _ _ _ k1;have:=fX _ _ _ k2;have:=h _ _ _ k3;have:=fX _ _ _ k4;dsimp only;omega
theorem WY(a b:List ρ):fe (a++b)=fe a+fe b:=by
 induction a with
 |nil=>simp[fe]
 |cons x a ih=>simp only[cy,fe,ih];omega
theorem aks(a b:List δ):δ.bX (a++b)=δ.bX a+δ.bX b:=by
 induction a with
 |nil=>simp[δ.bX]
 |cons x a ih=>simp only[cy,δ.bX,ih];omega
theorem ahU(a b:List φ):jq (a++b)=jq a+jq b:=by
 induction a with
 |nil=>simp[jq]
 |cons x a ih=>simp only[cy,jq,ih];omega
theorem Yg{α:Type}{w:List α->Nat}(vO:w []=0)(hw:∀l x,w (l++[x])=w l+w [x]){e:Nat}{P:PS->R α}(h:∀s x t,P s= .ok x t->w [x]+4*t.l.length<=4*s.l.length):Wt w (nk e P):=fun s x t k=>by
 simp only[nk]at k;split at k
 ·obtain⟨_,k1,rfl⟩:=R.iz k;have:=fX _ _ _ k1;omega
 ·obtain⟨y,s1,k1,k⟩:=R.dm k;obtain⟨l,s2,k2,k⟩:=R.dm k;obtain⟨_,k3,rfl⟩:=R.iz k;have:=h _ _ _ k1;have:=fX _ _ _ k3;have:=Wt.loop (w:=w) (fun x s y t k=>by
   obtain⟨_,s1,k1,k⟩:=R.dm k
   obtain⟨z,k2,rfl⟩:=R.iz k;have:=fX _ _ _ k1;have:=h _ _ _ k2;rw[hw];omega) _ _ _ _ _ k2
  omega
theorem akl{e:Nat}{pl:PS->R ρ}(h:Wt ρ.wt pl):∀n l s x t,me e pl n l s= .ok x t->fe x+4*t.l.length<=fe l+4*s.l.length:=by
 intro n;induction n with
 |zero=>intro l s x t k;cases k;omega
 |succ n ih=>
  intro l s x t k
  obtain⟨_,s1,k1,k⟩:=R.dm k;obtain⟨p,s2,k2,k⟩:=R.dm k;have:=fX _ _ _ k1;have:=h _ _ _ k2;have:=ih _ _ _ _ k;rw[WY]at this;simp only[fe]at this;omega
theorem akk{e:Nat}{ix:PS->R η}(h:Wt η.cnt ix):Wt δ.wt (kT e ix):=fun s x t k=>by
 have hp:=akn (e:=e) h;dsimp only[kT]at k;split at k
 ·obtain⟨_,s1,k1,k⟩:=R.dm k;obtain⟨p,s2,k2,k⟩:=R.dm k;obtain⟨l,k3,rfl⟩:=R.iz k;have:=fX _ _ _ k1;have:=hp _ _ _ k2;have:=akl hp _ _ _ _ _ k3;simp only[δ.wt,δ.bX,sr,fe]at*;omega
 split at k
 ·obtain⟨_,s1,k1,k⟩:=R.dm k;obtain⟨p,k2,rfl⟩:=R.iz k;have:=fX _ _ _ k1;have:=Yj h _ _ _ k2;simp only[δ.wt,δ.bX,sr,fe]at*;omega
 split at k
 ·obtain⟨_,s1,k1,k⟩:=R.dm k;obtain⟨p,k2,rfl⟩:=R.iz k;have:=fX _ _ _ k1;have:=uV _ _ _ k2;simp only[δ.wt,δ.bX,sr,fe]at*;omega
 split at k
 ·obtain⟨_,s1,k1,k⟩:=R.dm k;obtain⟨p,s2,k2,k⟩:=R.dm k;obtain⟨_,s3,k3,k⟩:=R.dm k;obtain⟨n,k4,rfl⟩:=R.iz k;have:=fX _ _ _ k1;have:=hp _ _ _ k2;have:=fX _ _ _ k3;have:=uV _ _ _ k4;simp only[δ.wt,δ.bX,sr,fe]at*;omega
 split at k
 ·obtain⟨_,s1,k1,k⟩:=R.dm k;obtain⟨p,k2,rfl⟩:=R.iz k;have:=fX _ _ _ k1;have:=hp _ _ _ k2;simp only[δ.wt,δ.bX,sr,fe]at*;omega
 ·obtain⟨n,s1,k1,k⟩:=R.dm k;obtain⟨_,s2,k2,k⟩:=R.dm k;obtain⟨l,k3,rfl⟩:=R.iz k;have:=uV _ _ _ k1;have:=fX _ _ _ k2;have:=Yg (w:=fe) rfl (fun l x=>WY l [x]) (fun s x t k=>by have:=hp s x t k;simp only[fe];omega) _ _ _ k3;simp only[δ.wt,δ.bX,sr,fe]at*;omega
theorem akq{e:Nat}{ix:PS->R η}{blk:PS->R (List δ×List Sp)}(h:Wt η.cnt ix)(hb:Wt (fun x=>δ.bX x.1) blk):Wt (fun x=>x.1.wt) (g_ e ix blk):=fun s x t k=>by
 dsimp only[g_]at k;split at k
 ·obtain⟨_,s1,k1,k⟩:=R.dm k;obtain⟨p,s2,k2,k⟩:=R.dm k;obtain⟨b,k3,rfl⟩:=R.iz k;have:=fX _ _ _ k1;have:=Yj h _ _ _ k2;have:=hb _ _ _ k3;simp only[δ.wt,δ.bX,sr,fe]at*;omega
 split at k
 ·obtain⟨_,s1,k1,k⟩:=R.dm k;obtain⟨p,s2,k2,k⟩:=R.dm k;obtain⟨b,s3,k3,k⟩:=R.dm k;have:=fX _ _ _ k1;have:=uV _ _ _ k2;have:=hb _ _ _ k3;split at k
  ·obtain⟨_,s4,k4,k⟩:=R.dm k;obtain⟨d,k5,rfl⟩:=R.iz k;have:=fX _ _ _ k4;have:=hb _ _ _ k5;simp only[δ.wt,δ.bX,sr,fe]at*;omega
  ·cases k;simp only[δ.wt,δ.bX,sr,fe]at*;omega
 split at k
 ·obtain⟨_,s1,k1,k⟩:=R.dm k;obtain⟨p,s2,k2,k⟩:=R.dm k;obtain⟨_,s3,k3,k⟩:=R.dm k;obtain⟨a,s4,k4,k⟩:=R.dm k;obtain⟨_,s5,k5,k⟩:=R.dm k;obtain⟨c,s6,k6,k⟩:=R.dm k;obtain⟨d,k7,rfl⟩:=R.iz k;have:=fX _ _ _ k1;have:=uV _ _ _ k2;have:=fX _ _ _ k3;have:=h _ _ _ k4;have:=fX _ _ _ k5;have:=h _ _ _ k6;have:=hb _ _ _ k7;simp only[δ.wt,δ.bX,sr,fe]at*;omega
 split at k
 ·obtain⟨_,s1,k1,k⟩:=R.dm k;obtain⟨d,k2,rfl⟩:=R.iz k;have:=fX _ _ _ k1;have:=hb _ _ _ k2;simp only[δ.wt,δ.bX,sr,fe]at*;omega
 split at k
 ·obtain⟨_,s1,k1,k⟩:=R.dm k;obtain⟨b,s2,k2,k⟩:=R.dm k;obtain⟨_,s3,k3,k⟩:=R.dm k;obtain⟨d,k4,rfl⟩:=R.iz k;have:=fX _ _ _ k1;have:=hb _ _ _ k2;have:=fX _ _ _ k3;have:=hb _ _ _ k4;simp only[δ.wt,δ.bX,sr,fe]at*;omega
 ·obtain⟨y,k1,rfl⟩:=R.iz k;obtain⟨z,s2,k2,k⟩:=R.dm k1;obtain⟨_,k3,rfl⟩:=R.iz k;have:=akk h _ _ _ k2;have:=fX _ _ _ k3;dsimp only;omega
theorem akj{e:Nat}{st:PS->R (δ×List (List Sp))}(h:Wt (fun x=>x.1.wt) st):Wt (fun x=>δ.bX x.1) (vV e st):=fun s x t k=>by
 obtain⟨_,s1,k1,k⟩:=R.dm k;obtain⟨l,s2,k2,k⟩:=R.dm k;obtain⟨_,k3,rfl⟩:=R.iz k;have:=fX _ _ _ k1;have:=fX _ _ _ k3;have:=Wt.loop (w:=fun x:List δ×List Sp=>δ.bX x.1) (fun x s y t k=>by
  obtain⟨z,k1,rfl⟩:=R.iz k
  obtain⟨q,s1,k2,k3⟩:=R.dm k1;cases k3;have:=h _ _ _ k2;dsimp only at this⊢;rw[aks];simp only[δ.bX];omega) _ _ _ _ _ k2
 simp only[δ.bX]at*;omega
theorem Yf{e:Nat}{ix:PS->R η}(h:Wt η.cnt ix):∀k,Wt (fun x=>δ.bX x.1) (dw e ix k)
 |0=>fun s x t e=>by cases e
 |k+1=>akj (akq h (Yf h k))
theorem akm{e:Nat}:∀s x t,zC e s= .ok x t->[x].length+4*t.l.length<=4*s.l.length:=fun s x t k=>by obtain⟨n,s1,k1,k⟩:=R.dm k;obtain⟨_,s2,k2,k⟩:=R.dm k;obtain⟨m,s3,k3,k⟩:=R.dm k;obtain⟨_,k4,rfl⟩:=R.iz k;have:=uV _ _ _ k1;have:=fX _ _ _ k2;have:=Yh _ _ _ k3;have:=fX _ _ _ k4;simp only[List.length_cons,List.length_nil];omega
theorem ako{e:Nat}{blk:PS->R (List δ×List Sp)}(hb:Wt (fun x=>δ.bX x.1) blk):Wt (fun x=>x.1.wt) (tu e blk):=fun s x t k=>by obtain⟨_,s1,k1,k⟩:=R.dm k;obtain⟨n,s2,k2,k⟩:=R.dm k;obtain⟨_,s3,k3,k⟩:=R.dm k;obtain⟨ps,s4,k4,k⟩:=R.dm k;obtain⟨b,k5,rfl⟩:=R.iz k;have:=fX _ _ _ k1;have:=uV _ _ _ k2;have:=fX _ _ _ k3;have:=Yg (w:=ki) rfl (fun l x=>by simp) akm _ _ _ k4;have:=hb _ _ _ k5;simp only[φ.wt]at*;omega
theorem Yi{e:Nat}{ts:List Tok}{x:List φ×List (List Sp)}{t:PS}(k:zD e ts= .ok x t):jq x.1<=4*ts.length:=by
 have:=Wt.loop (w:=fun x:List φ×List (List Sp)=>jq x.1) (fun x s y t k=>by
  obtain⟨z,k1,rfl⟩:=R.iz k
  have:=ako (Yf (aki e _) _) _ _ _ k1;dsimp only at this⊢;rw[ahU];simp only[jq];omega) _ _ _ _ _ k
 simp only[jq]at this;omega
end Go.Δ
namespace Go.Δ.Tz
open Go.Δ
variable{u:Nat}
attribute [local simp] exec dT dG eR aH dr ff eH aI fA bQ gX ib iC iL lq AV.cells newVar iH rd wr gL single dd cA eU ef κ cH RV.get cJ fF jU
attribute [local simp] EE D_
theorem aan{C:iK}{f:FuncId}{v w:AV}{m:Mem}(h:exp m.ε.length (C.bm f) v=exp m.ε.length (C.bm f) w):ah C (.fn (.func f) [] []) [v] m=ah C (.fn (.func f) [] []) [w] m:=by
 apply Option.ext;intro r;rw[oA,oA];have:∀k,cv C k (.fn (.func f) [] []) [v] m=cv C k (.fn (.func f) [] []) [w] m:=fun k=>by
  cases k with
  |zero=>rfl
  |succ k=>simp only[cv,body,List.nil_append,List.append_nil,aA,aP,h]
 simp only[this]
theorem φ.ry{x:φ}(h:x.Ok):Fx x.av:=by have h1:=Dv.list x.cp (bS.of ay.av x.aq fun y _=>ay.fx y);rw[ga h.2.1]at h1;have h2:=Dv.list x.cb (Ju h.2.2.2.2.1);rw[ga h.2.2.2.1]at h2;exact .agg (.cons (.str _) (.cons h1 (.cons h2 .nil)))
theorem fm.prog(e n:Nat):fm (tu e (dw e (au e n) n)):=(fm.take _ _).bind fun _=>(nN e).bind fun _=>(eV e _).bind fun _=>(Lx e ((nN e).bind fun _=>(eV e _).bind fun _=>(Ly e).bind fun _=>(eV e _).map)).bind fun _=>(Ay e (nL e n) n).map
theorem ahW(l:List φ):(l.map φ.av).all (shaped true 3)=true:=by simp[pg,φ.av,shaped,Function.comp]
def cO(s:List Nat):(List φ×List (List Sp))×Int×Int:=
 if 65536<s.length then(([],[]),0,11)else match zD s.length (dM s)with
  | .no w=>(([],[]),(w:Int),4)
  | .ok x _=>if mW x.1=0 then(x,0,0)else(([],[]),(s.length:Int),mW x.1)
def zH(s:List Nat):AV:= .aU [.agg [.list (Φ (cO s).1.1) ((cO s).1.1.map φ.av)],.list (Φ (cO s).1.2) (Sp.lists (cO s).1.2),.n (cO s).2.1,.n (cO s).2.2]
theorem f124(s:List Nat)(hs:cV s)(hl:s.length<1000000000)(m:Mem):kf u 124 [.str s] m=some (zH s,m):=by
 refine RW (g:=Gd) rfl rfl rfl ?_;simp only[aA,aP,exp,Gd,c124];refine Θ (fun st=>st.e 0= .str s/\st.e 2= .aj 2 0 0/\st.q 2=some (0,.cells [.list .nil []])/\st.q 7=none/\st.mem= {ε:=m.ε,ζ:=[]}) (by simp[bL]) fun s1 ⟨h1,h2,h3,h4,h5⟩=>?_;by_cases Ds:65536<s.length
 ·have Np:(65536:Int)<s.length:=by omega
  simp[h1,h2,h3,h4,h5,Np,dp,zH,cO,Ds];rfl
 have Np:¬(65536:Int)<s.length:=by omega
 refine Θ (fun st=>st.e 0= .str s/\st.e 2= .aj 2 0 0/\st.q 2=some (0,.cells [.list .nil []])/\st.q 7=none/\st.mem= {ε:=m.ε,ζ:=[]}) (by simp[h1,h2,h3,h4,h5,Np]) fun s1 ⟨h1,h2,h3,h4,h5⟩=>?_;have aie:=fun m=>f130 (u:=u) s m;have Xf:=fun m=>f187 (u:=u) s hs hl m;have ai:=aj6 hs (by omega);have vL:=X3 s;generalize xb:(if dM s=[]then ξ.nil else ξ.any)=ct at Xf;have hc:br ct:=by rw[<-xb];split<;>simp[br]
 let K:St->Prop:=fun st=>st.e 0= .str s/\st.e 2= .aj 2 0 0/\st.q 2=some (0,.cells [.list .nil []]);obtain⟨B,TG⟩:∃B,B=m.ε++[θ.cells []]:=⟨_,rfl⟩;have qp:B.length=m.ε.length+1:=by rw[TG];simp
 obtain⟨p,U4⟩:∃p,p=m.ε.length:=⟨_,rfl⟩;have hp:p<B.length:=by omega
 have hB:∀cs,B.set p (.cells cs)=m.ε++[.cells cs]:=fun cs=>by rw[TG,U4];simp
 let K2:St->Prop:=fun st=>K st/\st.e 6= .μ p 0;refine Θ (fun st=>K2 st/\st.q 7=none/\st.mem= {ε:=B.set p (.cells [.str s,.list ct ((dM s).map Tok.bu),.n 0,.n (-1),.fV]),ζ:=[]}) (by
  rw[hB]
  simp[K2,K,h1,h2,h3,h4,h5,aie,Xf,dp,Mem.push,Mem.ν,ν,U4];simp[fM,Function.comp,Tok.bu,ν,cL]) fun s1 ⟨⟨⟨h1,h2,h3⟩,h6⟩,h4,h5⟩=>?_
 let K3:St->Prop:=fun st=>K2 st/\st.e 7= .aj 7 0 0;refine Θ (fun st=>K3 st/\st.q 7=some (0,.cells [.list .nil []])/\st.mem= {ε:=B.set p (.cells [.str s,.list ct ((dM s).map Tok.bu),.n 0,.n (-1),.fV]),ζ:=[]}) (by simp[K3,K2,K,h1,h2,h3,h4,h5,h6,bL]) fun s1 ⟨⟨⟨⟨h1,h2,h3⟩,h6⟩,h7⟩,h4,h5⟩=>?_;refine Θ (fun st=>K3 st/\st.q 7=some (0,.cells [.list .nil []])/\st.e 8= .list .nil []/\st.mem= {ε:=B.set p (.cells [.str s,.list ct ((dM s).map Tok.bu),.n 0,.n (-1),.fV]),ζ:=[]}) (by simp[K3,K2,K,h1,h2,h3,h4,h5,h6,h7]) fun s1 ⟨hK,h4,h8,h5⟩=>?_;have r0:cK s (dM s) ct .fV [.str s,.list ct ((dM s).map Tok.bu),.n 0,.n (-1),.fV] (.r ⟨0,dM s⟩):=⟨0,-1,rfl,Nat.zero_le _,rfl,rfl,rfl⟩;generalize akO:[AV.str s,.list ct ((dM s).map Tok.bu),.n 0,.n (-1),.fV]=cs0 at*;have aih:=fun(a:RS) (h:a.sz<(dM s).length+1)=>f188 (u:=u) (s:=s) (all:=dM s) (c:=ct) (by omega) ai hc a h;have qu:=fm.prog s.length ((dM s).length+1);obtain⟨a1,Hy⟩:∃a1,a1=RS.r ⟨0,dM s⟩:=⟨_,rfl⟩;have abF:a1.sz=(dM s).length:=by rw[Hy];rfl
 generalize hP:tu s.length (dw s.length (au s.length ((dM s).length+1)) ((dM s).length+1))=P at*;let F:List φ×List (List Sp)->PS->R (List φ×List (List Sp)):=fun l t=>(P t).map fun x=>(l.1++[x.1],l.2++[x.2]);let cc:PS->Bool:=fun t=>!t.l.isEmpty;let R2:St->List φ->List (List Sp)->List AV->RS->Prop:=fun st lo li ae b=>K3 st/\∃c4 c5 ext tt dZ,st.q 7=some (0,.cells [.list c4 (lo.map φ.av)])/\st.e 8= .list c5 (Sp.lists li)/\st.mem=(kU B p ae ext tt)/\(∀i∈tt,i=p\/B.length<=i)∧
  Row B.length (B.set p (.cells ae)++ext) 3 70 c4 lo.length/\Row B.length (B.set p (.cells ae)++ext) 1 257 c5 li.length/\(lo=[]->c4= .nil)/\(li=[]->c5= .nil)/\(∀x∈lo,x.Ok)/\cK s (dM s) ct dZ ae b
 refine bP (fun st=>∃lo li ae b,R2 st lo li ae b/\aF (cd cc F (a1.sz+1) ([],[])) a1 (lo,li) b) ?_ fun s3 ⟨lo,li,ae,b,⟨⟨⟨⟨h1,h2,h3⟩,h6⟩,h7⟩,c4,c5,ext,tt,dZ,q2,q3,q4,q5,q6,q7,q8,q9,nr,p9⟩,hg⟩=>?_
 ·let I:Nat->St->Prop:=fun i st=>∃lo li ae b,R2 st lo li ae b/\lo.length<=i/\li.length<=i/\b.sz<=a1.sz/\(b.sz+i<=a1.sz\/∃w,b= .w w)/\∀y b',aF (cd cc F (a1.sz+1-i) (lo,li)) b y b'->aF (cd cc F (a1.sz+1) ([],[])) a1 y b';have hI:I 0 s1:=⟨[],[],cs0,a1,⟨hK,.nil,.nil,[],[],.fV,h4,h8,h5.trans (by simp),by simp,Row.nil,Row.nil,fun _=>rfl,fun _=>rfl,by simp,by rw[Hy];exact r0⟩,bA _,bA _,bA _,.inl (bA _),fun _ _ h=>h⟩;refine κ.block (κ.kD (I:=I) (a1.sz+1) hI fun i st hi Ω=>?_);obtain⟨lo,li,ae,b,⟨⟨⟨⟨h1,h2,h3⟩,h6⟩,h7⟩,c4,c5,ext,tt,dZ,q2,q3,q4,q5,q6,q7,q8,q9,nr,p9⟩,jL,nY,fG,yJ,pN⟩:=Ω;obtain⟨k2,wr,jf,gE,gg⟩:=p9;have gp:(B.set p (θ.cells ae)++ext)[p]?=some (.cells [.str s,.list ct ((dM s).map Tok.bu),.n k2,.n wr,dZ]):=by rw[eo (by simpa using hp),jf];simp[hp]
  have p9:cK s (dM s) ct dZ ae b:=⟨k2,wr,jf,gE,gg⟩;have out:∀aL:St,K3 aL/\aL.q 7=some (0,.cells [.list c4 (lo.map φ.av)])/\aL.e 8= .list c5 (Sp.lists li)/\aL.mem=(kU B p ae ext tt)->R2 aL lo li ae b:=fun aL ⟨m1,m2,m3,m4⟩=>⟨m1,c4,c5,ext,tt,dZ,m2,m3,m4,q5,q6,q7,q8,q9,nr,p9⟩;unfold VJ;cases b with
  |w w=>
   have hw:¬wr<0:=by have:wr=(w:Int):=gg;omega
   refine κ.done (.exit 0) (fun aL=>K3 aL/\aL.q 7=some (0,.cells [.list c4 (lo.map φ.av)])/\aL.e 8= .list c5 (Sp.lists li)/\aL.mem=(kU B p ae ext tt)) (by simp[K3,K2,K,h1,h2,h3,h6,h7,q2,q3,q4,gp,hw]) fun s' hh=> .inr ⟨by simp,.inl ⟨rfl,.inl ⟨rfl,lo,li,ae,.w w,out s' hh,pN _ _ rfl⟩⟩⟩
  |r sb=>
   obtain⟨rfl,yP,-⟩:=gg
   have yJ:(RS.r sb).sz+i<=a1.sz:=yJ.elim id fun⟨w,h⟩=>by cases h
   rw[show a1.sz+1-i=(a1.sz-i)+1 by omega]at pN;have No:=congrArg ki yP;simp only[List.length_drop]at No;by_cases rM:sb.l=[]
   ·have rK:¬k2<(dM s).length:=by rw[rM]at No;simp at No;omega
    refine κ.done (.exit 0) (fun aL=>K3 aL/\aL.q 7=some (0,.cells [.list c4 (lo.map φ.av)])/\aL.e 8= .list c5 (Sp.lists li)/\aL.mem=(kU B p ae ext tt)) (by simp[K3,K2,K,h1,h2,h3,h6,h7,q2,q3,q4,gp,rK]) fun s' hh=> .inr ⟨by simp,.inl ⟨rfl,.inl ⟨rfl,lo,li,ae,.r sb,out s' hh,pN _ _ (aF.D5 (show(!sb.l.isEmpty)=false by rw[rM];rfl))⟩⟩⟩
   ·have rK:k2<(dM s).length:=by have:0<sb.l.length:=List.length_pos_iff.2 rM;omega
    have acz:(!sb.l.isEmpty)=true:=by cases h:sb.l with
     |nil=>exact absurd h rM
     |cons a l=>rfl
    obtain⟨_,⟨x,sp⟩,cG,rV,b2,T2,k3,r3,dU,⟨rfl,hx⟩,pU⟩:=(aih (.r sb) (by omega)).at ext hp p9 tt;dsimp only at k3 hx;have aJ:=dU.sz qu.Ls;have nX:(B.set p (θ.cells cG)).length=B.length:=by simp
    have IG:(lo.map φ.av).length=lo.length:=cF _;have IP:(Sp.lists li).length=li.length:=by rw[Sp.zp,cF]
    have p6:Row (B.set p (θ.cells cG)).length (B.set p (.cells cG)++ext) 3 70 c4 (lo.map φ.av).length:=by rw[IG,nX];exact Row.swap q6 (by simp) (by simp)
    have p7:Row (B.set p (θ.cells cG)).length (B.set p (.cells cG)++ext) 1 257 c5 (Sp.lists li).length:=by rw[IP,nX];exact Row.swap q7 (by simp) (by simp)
    have n1:ν x.av=x.av:=(φ.ry hx).ν;have n2:ν (.list (Φ sp) (Sp.ψ sp))= .list (Φ sp) (Sp.ψ sp):=(Dv.list (Φ sp) (Sp.AE sp)).ν;obtain⟨lV,aaW,w9,qC,MX⟩:=wa (bytes:=64) p6 (ahW lo) (show shaped true 3 x.av=true by rfl) n1 (by omega) (by omega) (by omega);obtain⟨Cl,sH,vk,DG,MY⟩:=wa (bytes:=24) (MX.rows 1 257 _ _ (by decide) p7) (Wd li) (show shaped false 1 (.list (Φ sp) (Sp.ψ sp))=true by rfl) n2 (by omega) (by omega) (by omega);have DF:=MY.rows 3 70 _ _ (by decide) qC;rw[nX,IG]at DF;rw[nX,IP]at DG;have lP:Sp.lists (li++[sp])=Sp.lists li++[.list (Φ sp) (Sp.ψ sp)]:=by simp[Sp.zp]
    have UP:(lo++[x]).map φ.av=lo.map φ.av++[x.av]:=by simp
    refine κ.done .normal (fun aL=>K3 aL/\aL.q 7=some (0,.cells [.list lV ((lo++[x]).map φ.av)])/\aL.e 8= .list Cl (Sp.lists (li++[sp]))/\aL.mem=(kU B p cG sH T2)) (by
     have OY:∀m:Mem,m.ν (.agg [.str x.name,.list x.cp (x.aq.map ay.av),.list x.cb (δ.ψ x.body)])= .agg [.str x.name,.list x.cp (x.aq.map ay.av),.list x.cb (δ.ψ x.body)]:=fun _=>n1
     have OZ:∀m:Mem,m.ν (.list (Φ sp) (Sp.ψ sp))= .list (Φ sp) (Sp.ψ sp):=fun _=>n2;have Jp:shaped true 3 (.agg [.str x.name,.list x.cp (x.aq.map ay.av),.list x.cb (δ.ψ x.body)])=true:=rfl;have Jq:shaped false 1 (.list (Φ sp) (Sp.ψ sp))=true:=rfl;simp only[φ.av]at k3 w9;simp[K3,K2,K,h1,h2,h3,h6,h7,q2,q3,q4,gp,rK,k3,Jp,Jq,OY,OZ,φ.av,w9,vk,lP];done) fun s' ⟨m1,m2,m3,m4⟩=> .inl ⟨rfl,?_,lo++[x],li++[sp],cG,b2,⟨m1,lV,Cl,sH,T2,rV,m2,m3,m4,fun i hi=>(pU i hi).elim (q5 i) .inl,by simpa using DF,by simpa using DG,fun h=>by simp at h,fun h=>by simp at h,fun y hy=>(dE.1 hy).elim (nr y) fun h=>by rw[fK.1 h];exact hx,r3⟩,by simp;omega,by simp;omega,by omega,?_,fun y b' hg=>pN y b' (aF.D6 acz (dU.map _) (by rw[show a1.sz+1-(i+1)=a1.sz-i by omega]at hg;exact hg))⟩
    ·omega
    ·cases b2 with
     |w w=>exact .inr ⟨w,rfl⟩
     |r t=>
      refine .inl ?_
      simp only[aF]at dU;cases oT:P sb with
      |no w=>rw[oT]at dU;cases dU
      |ok y t'=>
       rw[oT]at dU
       obtain⟨_,vK⟩:=dU;cases vK;have:=qu _ _ _ oT;simp only[RS.sz]at yJ⊢;omega
 ·obtain⟨k2,wr,jf,gE,gg⟩:=p9;have gp:(B.set p (θ.cells ae)++ext)[p]?=some (.cells [.str s,.list ct ((dM s).map Tok.bu),.n k2,.n wr,dZ]):=by rw[eo (by simpa using hp),jf];simp[hp]
  have Γ:∃bs,B.set p (.cells ae)++ext=m.ε++bs:=⟨_,by rw[hB,bH]⟩;have mH:∀i∈tt,m.ε.length<=i:=fun i hi=>(q5 i hi).elim (fun h=>by omega) fun h=>by omega
  have U7:∀y,zD s.length (dM s)=y->cd cc F (a1.sz+1) ([],[]) ⟨0,dM s⟩=y:=fun y h=>by rw[<-h,abF];simp only[zD,hP];rfl
  rw[Hy]at hg;simp only[aF]at hg;rw[<-Hy]at hg;cases rQ:zD s.length (dM s)with
  |no w=>
   rw[U7 _ rQ]at hg
   cases hg;have vO:wr=(w:Int):=gg;have hw:0<=wr:=by omega
   have hX:cO s=(([],[]),(w:Int),4):=by simp only[cO,Ds,if_false,rQ]
   simp[h1,h2,h3,h6,h7,q2,q3,q4,gp,hw,dp,cZ,c8,nO,zH,hX];exact⟨Γ,mH,by rw[vO];rfl⟩
  |ok x t=>
   rw[U7 _ rQ]at hg
   obtain⟨rfl,rfl⟩:=hg;obtain⟨rfl,-,-⟩:=gg;have dP:∀{α:Type} (l:List α) (c:ξ) (X:List θ) (sz:Nat) (e:TypeId),Row B.length X sz e c l.length->(l=[]->c= .nil)->c.exp 0 false=Φ l:=fun l c X sz e hr hn=>by
    cases l with
    |nil=>rw[hn rfl];rfl
    |cons a l=>
     rcases hr with⟨_,h⟩|⟨t,rfl,_⟩
     ·cases h
     ·rfl
   have e4:=dP _ _ _ _ _ q6 q8;have e5:=dP _ _ _ _ _ q7 q9;have xx:=Yi rQ;have cT:=Dv.list c4 (bS.of φ.av lo fun y hy=>φ.ry (nr y hy));rw[e4]at cT;have Xl:∀m,kf u 43 [.agg [.list c4 (lo.map φ.av)]] m=some (.n (mW lo),m):=fun m=>by
    refine Eq.trans (aan (w:=tq (Φ lo) lo) ?_) (f43 (Φ lo) (kJ lo) lo nr (by dsimp only at xx;omega) m)
    ·have h1:=(Bv m.ε.length false (.agg [.list c4 (lo.map φ.av)]) (Dv.agg (.cons cT .nil)).1).2.2.2;have lN:=Dv.list (Φ lo) (bS.of φ.av lo fun y hy=>φ.ry (nr y hy));rw[Cp]at lN;have h2:=(Bv m.ε.length false (tq (Φ lo) lo) (Dv.agg (.cons lN .nil)).1).2.2.2;show exp m.ε.length false _=exp m.ε.length false _;rw[h1,h2,(Dv.agg (.cons cT .nil)).2,(show Dv (tq (Φ lo) lo) _ from Dv.agg (.cons lN .nil)).2]
   by_cases dz:mW lo=0
   ·have hX:cO s=((lo,li),0,0):=by simp only[cO,Ds,if_false,rQ,dz,if_true]
    have Bd:=Dv.list c5 (Sp.CO li);rw[e5]at Bd;have hv:Dv (.aU [.agg [.list c4 (lo.map φ.av)],.list c5 (Sp.lists li),.n 0,.n 0]) (zH s):=by rw[zH,hX];exact .aU (.cons (.agg (.cons cT .nil)) (.cons Bd (.cons (.int _ _) (.cons (.int _ _) .nil))))
    simp[h1,h2,h3,h6,h7,q2,q3,q4,gp,Xl,dz];exact⟨Γ,mH,hv.aK _ _ _⟩
   ·have rH:(mW lo !=0)=true:=by simpa using dz
    have hX:cO s=(([],[]),(s.length:Int),mW lo):=by simp only[cO,Ds,if_false,rQ,dz]
    simp[h1,h2,h3,h6,h7,q2,q3,q4,gp,Xl,rH,dp,zH,hX];exact⟨Γ,mH,rfl⟩
end Go.Δ.Tz
