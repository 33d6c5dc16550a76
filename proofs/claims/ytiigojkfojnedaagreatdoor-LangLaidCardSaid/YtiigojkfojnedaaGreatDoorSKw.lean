import Derived.Test.YtiigojkfojnedaaGreatDoorSKu
import Derived.Test.YtiigojkfojnedaaGreatDoorSHm
set_option linter.all false
set_option maxRecDepth 100000
set_option maxHeartbeats 8000000
open List renaming all_map->nj,getElem?_append_left->ek,take_of_length_le->fo,length_map->cg,append_assoc->bO,set_append_left->nr,mem_singleton->fU,mem_append->dT,cons_append->cG,length->lC,map_cons->az,map_nil->aJ
open Nat renaming le_refl->bS
namespace Go.Θ.Tz
open Go.Θ
variable{u:Nat}
attribute [local simp] exec dY dP eX aI dw fA eN aK fL bQ iu iE iM jd lG AV.cells newVar iX rd wr gT single dk cE e_ ew κ cK RV.get cL fT kz
attribute [local simp] E5 EG
theorem Zh(l:List δ):(δ.χ l).all (shaped true 14)=true:=by rw[δ.eo];simp[nj,shaped,δ.av,δ.lH,Function.comp]
theorem aj2(l:List Sp):(Sp.χ l).all (shaped true 3)=true:=by
 rw[Sp.eo,nj];simp only[List.all_eq_true,Function.comp]
 rintro⟨f,t,i⟩ _
 rfl
theorem Sp.len(x:Sp):x.cells.length=3:=by cases x;rfl
theorem δ.agJ{l:List δ}{x:δ}(h:δ.cJ l)(hx:x.Ok):δ.cJ (l++[x]):=by
 induction l with
 |nil=>exact⟨hx,trivial⟩
 |cons a l ih=>exact⟨h.1,ih h.2⟩
theorem aj7(l:List δ)(x:δ):δ.χ (l++[x])=δ.χ l++[.agg x.cells]:=by simp[δ.eo,δ.av]
theorem aj3(l:List Sp)(x:Sp):Sp.χ (l++[x])=Sp.χ l++[.agg x.cells]:=by simp[Sp.eo]
section
variable{s:List Nat}{all:List Tok}{c:ρ}(hl:all.length<1000000000)(ai:∀t∈all,t.Ok)(hc:bp c)
include hl ai hc
theorem f231{n k:Nat}(hkn:k+1<=n)(hb:∀a:RS,a.sz<k->tX u s all c 231 [] (eA s.length (aC s.length n) k) Eb a)(a:RS)(hak:a.sz<k+1):tX u s all c 231 [] (eA s.length (aC s.length n) (k+1)) Eb a:=by
 intro B p cs item T hp h;show∃v x ah d_ b T',_/\_/\aF (zF s.length (iK s.length (aC s.length n) (eA s.length (aC s.length n) k))) a x b/\_;have aiG:=fun(a:RS) (h2:a.sz<k+1)=>f271 (u:=u) (n:=n) (k:=k) hl ai hc hb a (by omega) h2;have qL:fm (iK s.length (aC s.length n) (eA s.length (aC s.length n) k)):=LI _ (n_ _ _) (AT _ (n_ _ _) _);generalize hP:iK s.length (aC s.length n) (eA s.length (aC s.length n) k)=P at*;obtain⟨_,w1,cU,a1,k1,r1,iF,rfl⟩:=f226 (u:=u) (item:=item) [123] hl ai a B p cs hp h;have s1:=iF.sz (eV _ _);let F:List δ×List Sp->PS->R (List δ×List Sp):=fun l t=>(uZ s.length P t).map fun x=>(l.1++[x.1],l.2++[x.2]);let cc:PS->Bool:=fun t=>!t.a_ [125];have dZ:κ (C u).gl (ab (C u)) Rq {env:=[.μ p 0],loc:=[],mem:= {ε:=B.set p (.cells cs),η:=[]}} fun r=>(∀i,r.1≠ .exit i)/\∃lo li c4 c5 ah ext d_ b,aK r.2.env 2= .list c4 (δ.χ lo)/\aK r.2.env 3= .list c5 (Sp.χ li)/\r.2.mem.ε=B.set p (.cells ah)++ext/\(∀i∈r.2.mem.η,i=p\/B.length<=i)∧
   c4.exp 0 false=Φ lo/\c5.exp 0 false=Φ li/\δ.cJ lo/\cM s all c d_ ah b/\aF (zF s.length P) a (lo,li) b:=by
  refine Δ (fun st=>st.e 0= .μ p 0/\st.mem= {ε:=B.set p (.cells cs),η:=[]}) (by simp) fun s1 ⟨h1,h2⟩=>?_;refine Δ (fun st=>st.e 0= .μ p 0/\st.e 4= .list .nil []/\st.mem= {ε:=B.set p (.cells cs),η:=[]}) (by simp[h1,h2]) fun s1 ⟨h1,h3,h2⟩=>?_;refine Δ (fun st=>st.e 0= .μ p 0/\st.e 4= .list .nil []/\st.e 5= .list .nil []/\st.mem= {ε:=B.set p (.cells cs),η:=[]}) (by simp[h1,h2,h3]) fun s1 ⟨h1,h3,h4,h2⟩=>?_;refine Δ (fun st=>st.e 0= .μ p 0/\st.e 4= .list .nil []/\st.e 5= .list .nil []/\st.mem= {ε:=B.set p (.cells cU),η:=[]}) (by simp[h1,h2,h3,h4,k1]) fun s1 ⟨h1,h3,h4,h2⟩=>?_;refine Δ (fun st=>st=s1) (by simp) fun s2 hs=>?_;subst hs;let R2:St->List δ->List Sp->List AV->RS->Prop:=fun st lo li ah b=>st.e 0= .μ p 0/\∃c4 c5 ext tt d_,st.e 4= .list c4 (δ.χ lo)/\st.e 5= .list c5 (Sp.χ li)/\st.mem=(kV B p ah ext tt)/\(∀i∈tt,i=p\/B.length<=i)∧
   Row B.length (B.set p (.cells ah)++ext) 14 66 c4 lo.length/\Row B.length (B.set p (.cells ah)++ext) 3 198 c5 li.length/\(lo=[]->c4= .nil)/\(li=[]->c5= .nil)/\δ.cJ lo/\cM s all c d_ ah b
  let I:Nat->St->Prop:=fun i st=>∃lo li ah b,R2 st lo li ah b/\lo.length<=i/\li.length<=i/\b.sz<=a1.sz/\(b.sz+i<=a1.sz\/∃w,b= .w w)/\∀y b',aF (cR cc F (a1.sz+1-i) (lo,li)) b y b'->aF (cR cc F (a1.sz+1) ([],[])) a1 y b';have hI:I 0 s2:=⟨[],[],cU,a1,⟨h1,.nil,.nil,[],[],item,h3,h4,h2.trans (by simp),by simp,Row.nil,Row.nil,fun _=>rfl,fun _=>rfl,trivial,r1⟩,bS _,bS _,bS _,.inl (bS _),fun _ _ h=>h⟩;have hlen:=r1.sz;refine bJ (fun st=>∃lo li ah b,R2 st lo li ah b/\aF (cR cc F (a1.sz+1) ([],[])) a1 (lo,li) b) ?_ fun s3 ⟨lo,li,ah,b,⟨q1,c4,c5,ext,tt,d_,q2,q3,q4,q5,q6,q7,q8,q9,nL,qm⟩,hg⟩=>?_
  ·refine κ.block (κ.kp (I:=I) (a1.sz+1) hI fun i st hi Ω=>?_);obtain⟨lo,li,ah,b,⟨q1,c4,c5,ext,tt,d_,q2,q3,q4,q5,q6,q7,q8,q9,nL,qm⟩,jN,ou,fM,yS,pY⟩:=Ω;have Ue:∀aV:St,aV.e 0= .μ p 0/\aV.e 4= .list c4 (δ.χ lo)/\aV.e 5= .list c5 (Sp.χ li)/\aV.mem=(kV B p ah ext tt)->R2 aV lo li ah b:=fun aV ⟨m1,m2,m3,m4⟩=>⟨m1,c4,c5,ext,tt,d_,m2,m3,m4,q5,q6,q7,q8,q9,nL,qm⟩;obtain⟨k2,wr,jm,gE,gh⟩:=qm;have gp:(B.set p (θ.cells ah)++ext)[p]?=some (.cells [.str s,.list c (all.map Tok.bn),.n k2,.n wr,d_]):=by rw[ek (by simpa using hp),jm];simp[hp]
   have qm:cM s all c d_ ah b:=⟨k2,wr,jm,gE,gh⟩;unfold V4;cases b with
   |w w=>
    have hw:¬wr<0:=by have:wr=(w:Int):=gh;omega
    refine κ.done (.exit 0) (fun aV=>aV.e 0= .μ p 0/\aV.e 4= .list c4 (δ.χ lo)/\aV.e 5= .list c5 (Sp.χ li)/\aV.mem=(kV B p ah ext tt)) (by simp[q1,q2,q3,q4,gp,hw]) fun s' hh=> .inr ⟨by simp,.inl ⟨rfl,.inl ⟨rfl,lo,li,ah,.w w,Ue s' hh,pY _ _ rfl⟩⟩⟩
   |r sb=>
    obtain⟨rfl,-,-⟩:=gh
    have yS:(RS.r sb).sz+i<=a1.sz:=yS.elim id fun⟨w,h⟩=>by cases h
    rw[show a1.sz+1-i=(a1.sz-i)+1 by omega]at pY;have qb:=fun t hb T=>CF (u:=u) hl [125] ext hp qm t hb T;cases dy:(RS.r sb).a_ [125]with
    |true=>
     have qb:=qb _ dy
     refine κ.done (.exit 0) (fun aV=>aV.e 0= .μ p 0/\aV.e 4= .list c4 (δ.χ lo)/\aV.e 5= .list c5 (Sp.χ li)/\aV.mem=(kV B p ah ext tt)) (by simp[q1,q2,q3,q4,gp,qb]) fun s' hh=> .inr ⟨by simp,.inl ⟨rfl,.inl ⟨rfl,lo,li,ah,.r sb,Ue s' hh,pY _ _ (aF.Ez (show(!sb.a_ [125])=false by rw[show sb.a_ [125]=true from dy];rfl))⟩⟩⟩
    |false=>
     have qb:=qb _ dy
     obtain⟨_,⟨x,sp⟩,cF,so,b2,T2,k3,r3,dV,⟨rfl,hx⟩,qc⟩:=(aiG (.r sb) (by omega)).at ext hp qm tt;dsimp only at k3 hx;have sk:=δ.lH x;have BG:x.cells.take 14=x.cells:=fo (by omega);have jZ:=Sp.len sp;have ada:sp.cells.take 3=sp.cells:=fo (by omega);have aL:=dV.sz (LH _ qL).LG;have qP:(B.set p (θ.cells cF)).length=B.length:=by simp
     have p6:Row (B.set p (θ.cells cF)).length (B.set p (.cells cF)++ext) 14 66 c4 (δ.χ lo).length:=by rw[δ.eo,cg,qP];exact Row.swap q6 (by simp) (by simp)
     have p7:Row (B.set p (θ.cells cF)).length (B.set p (.cells cF)++ext) 3 198 c5 (Sp.χ li).length:=by rw[Sp.eo,cg,qP];exact Row.swap q7 (by simp) (by simp)
     have I0:(δ.χ lo).length=lo.length:=by rw[δ.eo,cg]
     have I8:(Sp.χ li).length=li.length:=by rw[Sp.eo,cg]
     have n1:ν (.agg x.cells)= .agg x.cells:=(Dv.agg (δ.fx x hx)).ν;have n2:ν (.agg sp.cells)= .agg sp.cells:=(Dv.agg (Sp.fx sp)).ν;have JD:shaped true 14 (.agg x.cells)=true:=by simp[shaped,sk]
     have JE:shaped true 3 (.agg sp.cells)=true:=by simp[shaped,jZ]
     obtain⟨lZ,abg,xg,qT,Na⟩:=uW (bytes:=216) p6 (Zh lo) JD n1 (by omega) (by omega) (by omega);obtain⟨CI,sV,vr,D3,Nb⟩:=uW (bytes:=40) (Na.rows 3 198 _ _ (by decide) p7) (aj2 li) JE n2 (by omega) (by omega) (by omega);have D2:=Nb.rows 14 66 _ _ (by decide) qT;rw[qP,I0]at D2;rw[qP,I8]at D3;have φ:∀(c:ρ) (m:Nat) (X:List θ) (sz:Nat) (e:TypeId),Row B.length X sz e c (m+1)->c≠ .nil:=fun c m X sz e hr=>by
      rcases hr with⟨_,h⟩|⟨t,rfl,_⟩
      ·omega
      ·exact fun h=>by cases h
     refine κ.done .normal (fun aV=>aV.e 0= .μ p 0/\aV.e 4= .list lZ (δ.χ (lo++[x]))/\aV.e 5= .list CI (Sp.χ (li++[sp]))/\aV.mem=(kV B p cF sV T2)) (by
      have OZ:∀m:Mem,m.ν (.agg x.cells)= .agg x.cells:=fun _=>n1
      have O0:∀m:Mem,m.ν (.agg sp.cells)= .agg sp.cells:=fun _=>n2;simp[q1,q2,q3,q4,gp,qb,k3,sk,BG,jZ,ada,JD,JE,OZ,O0,xg,vr,aj7,aj3,cN,cQ,ob]) fun s' ⟨m1,m2,m3,m4⟩=> .inl ⟨rfl,?_,lo++[x],li++[sp],cF,b2,⟨m1,lZ,CI,sV,T2,so,m2,m3,m4,fun i hi=>(qc i hi).elim (q5 i) .inl,by simpa using D2,by simpa using D3,fun h=>by simp at h,fun h=>by simp at h,δ.agJ nL hx,r3⟩,by simp;omega,by simp;omega,by omega,?_,fun y b' hg=>pY y b' (aF.EB (show(!sb.a_ [125])=true by rw[show sb.a_ [125]=false from dy];rfl) (dV.map _) (by rw[show a1.sz+1-(i+1)=a1.sz-i by omega]at hg;exact hg))⟩
     ·omega
     ·cases b2 with
      |w w=>exact .inr ⟨w,rfl⟩
      |r t=>
       refine .inl ?_
       simp only[aF]at dV;cases pa:uZ s.length P sb with
       |no w=>rw[pa]at dV;cases dV
       |ok y t'=>
        rw[pa]at dV
        obtain⟨_,vT⟩:=dV;cases vT;have:=LH _ qL _ _ _ pa;simp only[RS.sz]at yS⊢;omega
  ·obtain⟨_,w2,cF,b2,k2,r2,gD,rfl⟩:=(f226 (u:=u) (item:=d_) [125] hl ai b).at ext hp qm;have dQ:∀{α:Type} (l:List α) (c:ρ) (X:List θ) (sz:Nat) (e:TypeId),Row B.length X sz e c l.length->(l=[]->c= .nil)->c.exp 0 false=Φ l:=fun l c X sz e hr hn=>by
    cases l with
    |nil=>rw[hn rfl];rfl
    |cons a l=>
     rcases hr with⟨_,h⟩|⟨t,rfl,_⟩
     ·cases h
     ·rfl
   refine κ.done .ret (fun aV=>aV.e 2= .list c4 (δ.χ lo)/\aV.e 3= .list c5 (Sp.χ li)/\aV.mem=(kV B p cF ext tt)) (by simp[q1,q2,q3,q4,k2]) fun s' ⟨m1,m2,m3⟩=>⟨by simp,lo,li,c4,c5,cF,ext,d_,b2,m1,m2,by rw[m3],by rw[m3];exact q5,dQ _ _ _ _ _ q6 q8,dQ _ _ _ _ _ q7 q9,nL,r2,?_⟩;exact iF.bind (Q:=fun _ t=>(cR cc F (t.l.length+1) ([],[]) t).bind fun l t=>(aE s.length [125] t).map fun _=>l) (hg.fuel.bind (Q:=fun l t=>(aE s.length [125] t).map fun _=>l) (gD.map fun _=>(lo,li)))
 obtain⟨r,e1,e2,lo,li,c4,c5,ah,ext,d_,b,e3,e4,e5,e6,e7,e8,e9,pP,wQ⟩:=dZ;have hv:Dv (.aQ [.list c4 (δ.χ lo),.list c5 (Sp.χ li)]) (.aQ [.list (Φ lo) (δ.χ lo),.list (Φ li) (Sp.χ li)]):=by rw[<-e7,<-e8];exact .aQ (.cons (.list c4 (Af e9)) (.cons (.list c5 (Sp.A0 li)) .nil))
 obtain⟨cF,so,T',CX,CY,CZ⟩:=Ja (u:=u) hc (f:=231) (g:=G_) (args:=[]) (v:= .aQ [.list (Φ lo) (δ.χ lo),.list (Φ li) (Sp.χ li)]) rfl rfl rfl hp rfl e1 e2 e5 pP e6 (l:=[.list c4 (δ.χ lo),.list c5 (Sp.χ li)]) (by simp[G_,e3,e4]) (hv.aO _ _ _) T;exact⟨_,(lo,li),cF,so,b,T',CX,CY,wQ,⟨rfl,e9⟩,CZ⟩
theorem QM{n:Nat}:∀k,k<=n->∀a:RS,a.sz<k->tX u s all c 231 [] (eA s.length (aC s.length n) k) Eb a
 |0,_,_,h=>by omega
 |k+1,hk,a,h=>f231 hl ai hc hk (fun a h=>QM k (by omega) a h) a h
end
theorem ak.fx(x:ak):Fx x.av:=⟨rfl,rfl⟩
theorem ahV(l:List ak):(l.map ak.av).all (shaped true 2)=true:=by simp[nj,ak.av,shaped,Function.comp]
def pT(p:Nat)(nm:List Nat)(c:ρ)(l:List AV):List θ:=[.cells [.μ p 0],.cells [.str nm,.list c l,.list .nil []]]
def pI(B:List θ)(p:Nat)(nm:List Nat)(l:List ak)(B':List θ):Prop:=
 ∃c ext,B'=B++pT p nm c (l.map ak.av)++ext/\Row (B.length+2) B' 2 76 c l.length/\(l=[]->c= .nil)/\∀x∈l,du x.name
section
variable{s:List Nat}{all:List Tok}{c:ρ}(hl:all.length<1000000000)(ai:∀t∈all,t.Ok)
include hl ai
theorem f229{B:List θ}{p:Nat}(hp:p<B.length)(nm:List Nat)(n:Nat):J_ u s all c (pI B p nm) (.fn (.func 229) [] [.μ B.length 0,.μ (B.length+1) 0]) (zS s.length) n B.length p:=by
 rintro l _ T cs a ⟨cp,ext,rfl,hr,hn,Ih⟩ h ha hlen
 obtain⟨_,x,cU,a1,k1,r1,iF,rfl,hx⟩:=(f227 (u:=u) hl ai a).at (pT p nm cp (l.map ak.av)++ext) hp h;obtain⟨_,w2,cF,a2,k2,r2,gD,rfl⟩:=(f226 (u:=u) [91] hl ai a1).at (pT p nm cp (l.map ak.av)++ext) hp r1;obtain⟨_,m,db,a3,k3,r3,dV,rfl,hm⟩:=(f230 (u:=u) hl ai a2).at (pT p nm cp (l.map ak.av)++ext) hp r2;obtain⟨_,w4,iQ,a4,k4,r4,nz,rfl⟩:=(f226 (u:=u) [93] hl ai a3).at (pT p nm cp (l.map ak.av)++ext) hp r3;have e0:∀cs c l ext,(B++pT p nm c l++ext).set p (.cells cs)=B.set p (.cells cs)++pT p nm c l++ext:=fun cs c l ext=>by rw[bO,nr _ _ hp,bO]
 have iT:Row (B.set p (.cells iQ)++pT p nm cp (l.map ak.av)).length (B.set p (.cells iQ)++pT p nm cp (l.map ak.av)++ext) 2 76 cp (l.map ak.av).length:=by rw[cg];have:=Row.swap hr (P':=B.set p (.cells iQ)++pT p nm cp (l.map ak.av)) (by simp[pT]) (by simp[pT]);simpa[pT]using this
 obtain⟨c',ext',dB,gH,-⟩:=uW (bytes:=24) iT (ahV l) (show shaped true 2 (ak.av ⟨x,m⟩)=true by rfl) (show ν (ak.av ⟨x,m⟩)=_ by rfl) (by omega) (by simp;omega) (by simp;omega);rw[cg]at gH;have hL:∀cs c l ext,(B.set p (.cells cs)++pT p nm c l++ext).length=B.length+2+ext.length:=fun cs c l ext=>by simp[pT];omega
 have eL:∀n,B.length+2<=n->([]++[AV.μ B.length 0,.μ (B.length+1) 0]).map (exp n true)=[AV.μ B.length 0,.μ (B.length+1) 0]:=fun n hn=>by
  have a1:B.length+1<n:=by omega
  have a2:B.length<n:=by omega
  simp[exp,a1,a2]
 have g0:∀cs c l ext,(B.set p (.cells cs)++pT p nm c l++ext)[B.length]?=some (.cells [.μ p 0]):=fun cs c l ext=>by simp[pT]
 have g1:∀cs c l ext,(B.set p (.cells cs)++pT p nm c l++ext)[B.length+1]?=some (.cells [.str nm,.list c l,.list .nil []]):=fun cs c l ext=>by simp[pT]
 have g2:∀cs c l ext c' l',(B.set p (.cells cs)++pT p nm c l++ext).set (B.length+1) (.cells [.str nm,.list c' l',.list .nil []])=B.set p (.cells cs)++pT p nm c' l'++ext:=fun cs c l ext c' l'=>by simp[pT]
 have er:∀M:Mem,M.ν (.list c' (l.map ak.av++[ak.av ⟨x,m⟩]))= .list c' (l.map ak.av++[ak.av ⟨x,m⟩]):=fun M=>by have:=(Dv.list c' (bN.of ak.av (l++[⟨x,m⟩]) fun y _=>ak.fx y)).ν;rw[List.map_append]at this;exact this
 have dZ:κ (C u).gl (ab (C u)) c229 {env:=[.μ B.length 0,.μ (B.length+1) 0],loc:=[],mem:= {ε:=B.set p (.cells cs)++pT p nm cp (l.map ak.av)++ext,η:=[]}} fun r=>r.1= .normal/\∃tt,r.2.mem= {ε:=B.set p (.cells iQ)++pT p nm c' ((l++[(⟨x,m⟩:ak)]).map ak.av)++ext',η:=tt}/\∀i∈tt,B.length<=i:=by
  have dX:shaped true 2 (.agg [.str x,.n m])=true:=rfl;have nF:∀M:Mem,M.ν (.agg [.str x,.n m])= .agg [.str x,.n m]:=fun _=>rfl;simp only[bO,ak.av]at g0 g1 g2 k1 k2 k3 k4 dB er⊢;simp[c229,bz,dd,g0,g1,g2,k1,k2,k3,k4,dX,nF,dB,er,Mem.put];refine⟨_,⟨rfl,rfl⟩,fun i hi=>?_⟩;split at hi
  ·cases hi
  ·have:=fU.1 hi;omega
 obtain⟨⟨ex,s'⟩,e1,rfl,tt,e2,e3⟩:=dZ;have dC:=sP (C:=C u) (f:=229) (g:=Mb) (args:=[]) (cap:=[.μ B.length 0,.μ (B.length+1) 0]) (m:= {ε:=B.set p (.cells cs)++pT p nm cp (l.map ak.av)++ext,η:=T}) (l:=[]) rfl rfl rfl (by rw[eL _ (by rw[hL];omega)];exact e1) (by simp) (by rfl);refine⟨B++pT p nm c' ((l++[(⟨x,m⟩:ak)]).map ak.av)++ext',T++tt,⟨x,m⟩,iQ,a4,by rw[e0,e0,dC];dsimp only at e2;rw[e2];rfl,⟨c',ext',rfl,?_,fun h=>by simp at h,fun y hy=>?_⟩,r4,?_,fun i hi=>(dT.1 hi).imp id (e3 i)⟩
 ·have:=Row.swap gH (P':=B++pT p nm c' ((l++[(⟨x,m⟩:ak)]).map ak.av)) (by simp[pT]) (by simp[pT]);simpa[pT]using this
 ·rcases dT.1 hy with hy|hy
  ·exact Ih y hy
  ·rw[fU.1 hy];exact hx
 ·exact iF.bind (Q:=fun n t=>(aE s.length [91] t).bind fun _ t=>(uJ s.length t).bind fun k t=>(aE s.length [93] t).map fun _=>(⟨n,k⟩:ak)) (gD.bind (dV.bind (Q:=fun(k:Nat) t=>(aE s.length [93] t).map fun _=>(⟨x,(k:Int)⟩:ak)) (nz.map fun _=>(⟨x,(m:Int)⟩:ak))))
variable(hc:bp c)
def YG:τ×List Sp->AV->Prop:=fun x v=>v= .aQ [x.1.av,.list (Φ x.2) (Sp.χ x.2)]/\x.1.Ok
theorem SO(e:Nat):dm (zS e):=(oa e).bind fun _=>(eV e _).bind fun _=>(LL e).bind fun _=>(eV e _).map
include hc
theorem f188{n:Nat}(a:RS)(ha:a.sz<n):tX u s all c 188 [] (zU s.length (eA s.length (aC s.length n) n)) YG a:=by
 intro B p cs item T hp h;have g0:∀cs L (e:List θ),(B.set p (θ.cells cs)++θ.cells [.μ p 0]::θ.cells L::e)[B.length]?=some (.cells [.μ p 0]):=fun cs L e=>by simp
 have g1:∀cs L (e:List θ),(B.set p (θ.cells cs)++θ.cells [.μ p 0]::θ.cells L::e)[B.length+1]?=some (.cells L):=fun cs L e=>by simp
 have gs:∀cs L L' (e:List θ),(B.set p (θ.cells cs)++θ.cells [.μ p 0]::θ.cells L::e).set (B.length+1) (.cells L')=B.set p (θ.cells cs)++θ.cells [.μ p 0]::θ.cells L'::e:=fun cs L L' e=>by simp
 obtain⟨_,w1,cU,a1,k1,r1,iF,rfl⟩:=(f226 (u:=u) (item:=item) [112,114,111,99] hl ai a).at [.cells [.μ p 0],.cells [.str [],.list .nil [],.list .nil []]] hp h;have s1:=iF.sz (eV _ _);obtain⟨_,nm,cF,a2,k2,r2,gD,rfl,jY⟩:=(f227 (u:=u) (item:=item) hl ai a1).at [.cells [.μ p 0],.cells [.str [],.list .nil [],.list .nil []]] hp r1;have s2:=gD.sz (oa _);obtain⟨_,w3,db,a3,k3,r3,dV,rfl⟩:=(f226 (u:=u) (item:=item) [40] hl ai a2).at [.cells [.μ p 0],.cells [.str nm,.list .nil [],.list .nil []]] hp r2;have s3:=dV.sz (eV _ _);obtain⟨B4,T4,ps,iQ,a4,k4,⟨c4,yL,rfl,zp,NG,Nu⟩,r4,nz,D8⟩:=f228 (u:=u) hl ai (I:=pI B p nm) (fn:= .fn (.func 229) [] [.μ B.length 0,.μ (B.length+1) 0]) (P:=zS s.length) (k:=n) (N:=B.length) (M:=B.length+2) (p:=p) (SO hl ai _) rfl rfl
  (fun m hm=>by
   have q1:B.length+1<m:=by omega
   have q2:B.length<m:=by omega
   simp[exp,aX,Fn.below,q1,q2]) (fun l B' ⟨c,ext,h,_⟩=>by rw[h];simp[pT];omega) (f229 hl ai hp nm n) [] ⟨.nil,[],by simp;rfl,Row.nil,fun _=>rfl,by simp⟩ r3 (by omega)
 have s4:=nz.sz (LK _ (SO hl ai _));have e0:∀cs D,(B++D).set p (.cells cs)=B.set p (.cells cs)++D:=fun cs D=>nr _ _ hp;simp only[bO,e0]at k4;have IB:kf u 228 [.μ p 0,.str [41],.fn (.func 229) [] [.μ B.length 0,.μ (B.length+1) 0]] {ε:=B.set p (.cells db)++[.cells [.μ p 0],.cells [.str nm,.list .nil [],.list .nil []]],η:=[]}=some (.aQ [],{ε:=B.set p (.cells iQ)++(θ.cells [.μ p 0]::θ.cells [.str nm,.list c4 (ps.map ak.av),.list .nil []]::yL),η:=T4}):=k4;have ec:c4.exp 0 false=Φ ps:=by
  cases ps with
  |nil=>rw[NG rfl];rfl
  |cons a l=>
   rcases zp with⟨_,h⟩|⟨t,rfl,_⟩
   ·cases h
   ·rfl
 obtain⟨_,⟨bl,bi⟩,vg,VC,a5,T5,k5,r5,xa,⟨rfl,eC⟩,D9⟩:=(QM (u:=u) hl ai hc n (bS _) a4 (by omega)).at (θ.cells [.μ p 0]::θ.cells [.str nm,.list c4 (ps.map ak.av),.list .nil []]::yL) hp r4 T4;dsimp only at k5 eC;have dZ:κ (C u).gl (ab (C u)) KJ {env:=[.μ p 0],loc:=[],mem:= {ε:=B.set p (.cells cs),η:=[]}} fun r=>r.1= .ret/\aK r.2.env 2= .aj 2 0 0/\bQ r.2.loc 2=some (0,.cells [.str nm,.list c4 (ps.map ak.av),.list (Φ bl) (δ.χ bl)])/\aK r.2.env 3= .list (Φ bi) (Sp.χ bi)∧
   ∃tt,r.2.mem= {ε:=B.set p (.cells vg)++(θ.cells [.μ p 0]::θ.cells [.str nm,.list c4 (ps.map ak.av),.list (Φ bl) (δ.χ bl)]::yL),η:=tt}/\∀i∈tt,i=p\/B.length<=i:=by
  have ht:∀i∈T5,i=p\/B.length<=i:=fun i hi=>(D9 i hi).elim (fun h=>(D8 i h).elim (fun h=>by cases h) id) .inl;have vM:cw (δ.χ bl)=δ.χ bl:=(zT 0 false _ (Af eC).1).2.2.1;simp[KJ,bz,Mem.push,Mem.put,Mem.ν,ν,cw,ba,lo,ρ.lo,g0,g1,gs,k1,k2,k3,IB,k5];have hif:∀(q:Prop) [Decidable q] (i:Nat),i∈(if q then T5 else(B.length+1)::T5)->i=p\/B.length<=i:=fun q _ i hi=>by
   by_cases hq:q
   ·rw[if_pos hq]at hi;exact ht i hi
   ·rw[if_neg hq]at hi;exact(List.mem_cons.1 hi).elim (fun h=> .inr (by omega)) (ht i)
  exact⟨vM,_,⟨vM,rfl⟩,fun i hi=>hif _ i hi⟩
 obtain⟨⟨ex,s'⟩,e1,e2,e3,e4,e5,tt,e6,e7⟩:=dZ;dsimp only at e2 e3 e4 e5 e6;subst e2;have dz:=Dv.list (Φ bl) (Af eC);rw[CN]at dz;have nG:=Dv.list (Φ bi) (Sp.A0 bi);rw[CN]at nG;have lQ:=Dv.list c4 (bN.of ak.av ps fun y _=>ak.fx y);rw[ec]at lQ;have hv:Dv (.aQ [.agg [.str nm,.list c4 (ps.map ak.av),.list (Φ bl) (δ.χ bl)],.list (Φ bi) (Sp.χ bi)]) (.aQ [(⟨nm,Φ ps,ps,Φ bl,bl⟩:τ).av,.list (Φ bi) (Sp.χ bi)]):=
  .aQ (.cons (.agg (.cons (.str _) (.cons lQ (.cons dz .nil)))) (.cons nG .nil))
 obtain⟨CU,adw,T6,CX,CY,CZ⟩:=Ja (u:=u) hc (f:=188) (g:=GR) (args:=[]) (v:= .aQ [(⟨nm,Φ ps,ps,Φ bl,bl⟩:τ).av,.list (Φ bi) (Sp.χ bi)]) rfl rfl rfl hp rfl e1 (by simp) (by rw[e6]) r5 (by rw[e6];exact e7) (l:=[.agg [.str nm,.list c4 (ps.map ak.av),.list (Φ bl) (δ.χ bl)],.list (Φ bi) (Sp.χ bi)]) (by simp[GR,e3,e4,e5]) (hv.aO _ _ _) T;refine⟨_,(⟨nm,Φ ps,ps,Φ bl,bl⟩,bi),CU,adw,a5,T6,CX,CY,?_,⟨rfl,jY,kN _,Nu,kN _,eC,?_⟩,CZ⟩
 ·exact iF.bind (gD.bind (Q:=fun n' t=>(aE s.length [40] t).bind fun _ t=>(pj s.length (zS s.length) t).bind fun ps t=>(eA s.length (aC s.length n) n t).map fun b=>((⟨n',Φ ps,ps,Φ b.1,b.1⟩:τ),b.2)) (dV.bind (nz.bind (Q:=fun ps t=>(eA s.length (aC s.length n) n t).map fun b=>((⟨nm,Φ ps,ps,Φ b.1,b.1⟩:τ),b.2)) (xa.map fun b=>((⟨nm,Φ ps,ps,Φ b.1,b.1⟩:τ),b.2)))))
 ·intro h;cases ps with
  |nil=>rfl
  |cons a l=>cases h
end
end Go.Θ.Tz
namespace Go.Θ
def Wt{α:Type}(w:α->Nat)(P:PS->R α):Prop:=∀s x t,P s= .ok x t->w x+4*t.l.length<=4*s.l.length
theorem R.dq{α β:Type}{a:R α}{f:α->PS->R β}{y:β}{t:PS}(h:a.bind f= .ok y t):∃x s,a= .ok x s/\f x s= .ok y t:=by
 cases a with
 |ok x s=>exact⟨x,s,rfl,h⟩
 |no w=>cases h
theorem R.iz{α β:Type}{a:R α}{f:α->β}{y:β}{t:PS}(h:a.map f= .ok y t):∃x,a= .ok x t/\f x=y:=by
 cases a with
 |ok x s=>cases h;exact⟨x,rfl,rfl⟩
 |no w=>cases h
theorem P8{e:Nat}{f:Tok->Bool}:∀s x t,ko e f s= .ok x t->4+4*t.l.length<=4*s.l.length:=fun s x t h=>by have:=JN h;omega
theorem Wt.loop{α:Type}{w:α->Nat}{c:PS->Bool}{f:α->PS->R α}(h:∀x s y t,f x s= .ok y t->w y+4*t.l.length<=w x+4*s.l.length):∀n x s y t,cR c f n x s= .ok y t->w y+4*t.l.length<=w x+4*s.l.length:=by
 intro n;induction n with
 |zero=>intro x s y t e;cases e
 |succ n ih=>
  intro x s y t e
  simp only[cR]at e;split at e
  ·obtain⟨x',s',e1,e2⟩:=R.dq e;have:=h _ _ _ _ e1;have:=ih _ _ _ _ e2;omega
  ·cases e;omega
theorem sJ:z0.cnt=1:=rfl
theorem fY{e:Nat}{w:List Nat}:∀s x t,aE e w s= .ok x t->4+4*t.l.length<=4*s.l.length:=P8
theorem u6{e:Nat}:∀s x t,gY e s= .ok x t->4+4*t.l.length<=4*s.l.length:=P8
theorem Yz{e:Nat}:∀s x t,uJ e s= .ok x t->4+4*t.l.length<=4*s.l.length:=fun s x t h=>by obtain⟨y,h1,_⟩:=R.iz h;exact P8 _ _ _ h1
theorem akC{e:Nat}{ix:PS->R ζ}(h:Wt ζ.cnt ix):Wt ζ.cnt (fC e ix):=fun s x t k=>by
 simp only[fC]at k;split at k
 ·obtain⟨_,s1,k1,k⟩:=R.dq k;obtain⟨y,s2,k2,k⟩:=R.dq k;obtain⟨_,k3,rfl⟩:=R.iz k;have:=fY _ _ _ k1;have:=h _ _ _ k2;have:=fY _ _ _ k3;omega
 ·split at k
  ·obtain⟨n,k1,rfl⟩:=R.iz k;have:=Yz _ _ _ k1;simp only[ζ.cnt,ζ.bL];omega
  ·obtain⟨n,k1,rfl⟩:=R.iz k;have:=u6 _ _ _ k1;simp only[ζ.cnt,ζ.bL];omega
theorem akK{e:Nat}{at':PS->R ζ}(h:Wt ζ.cnt at'):Wt ζ.cnt (lx e at'):=fun s x t k=>by
 obtain⟨y,s1,k1,k⟩:=R.dq k;have:=h _ _ _ k1;have:=Wt.loop (w:=ζ.cnt) (fun x s y t k=>by
  obtain⟨_,s1,k1,k⟩:=R.dq k
  obtain⟨z,k2,rfl⟩:=R.iz k;have:=fY _ _ _ k1;have:=h _ _ _ k2;simp only[ζ.cnt,ζ.bL];omega) _ _ _ _ _ k
 omega
theorem akM{e:Nat}{pr:PS->R ζ}(h:Wt ζ.cnt pr):Wt ζ.cnt (wm e pr):=fun s x t k=>by
 obtain⟨y,s1,k1,k⟩:=R.dq k;have:=h _ _ _ k1;have:=Wt.loop (w:=ζ.cnt) (fun x s y t k=>by
  obtain⟨_,s1,k1,k⟩:=R.dq k
  obtain⟨z,k2,rfl⟩:=R.iz k;have:=fY _ _ _ k1;have:=h _ _ _ k2;simp only[ζ.cnt,ζ.bL];omega) _ _ _ _ _ k
 omega
theorem akD(e k:Nat):Wt ζ.cnt (aC e k):=by
 induction k with
 |zero=>intro s x t h;cases h
 |succ k ih=>exact akM (akK (akC ih))
theorem akI{e:Nat}{ix:PS->R ζ}(h:Wt ζ.cnt ix):Wt ξ.wt (kg e ix):=fun s x t k=>by
 obtain⟨n,s1,k1,k⟩:=R.dq k;have:=u6 _ _ _ k1;split at k
 ·obtain⟨_,s2,k2,k⟩:=R.dq k;obtain⟨a,s3,k3,k⟩:=R.dq k;obtain⟨l,s4,k4,k⟩:=R.dq k;obtain⟨_,k5,rfl⟩:=R.iz k;have:=fY _ _ _ k2;have:=h _ _ _ k3;have:=fY _ _ _ k5;split at k4
  ·obtain⟨_,s6,k6,k4⟩:=R.dq k4;obtain⟨b,k7,rfl⟩:=R.iz k4;have:=fY _ _ _ k6;have:=h _ _ _ k7;simp only[ξ.wt,ζ.bL];omega
  ·cases k4;simp only[ξ.wt,ζ.bL];omega
 ·cases k;simp only[ξ.wt,ζ.bL];omega
theorem YB{e:Nat}{ix:PS->R ζ}(h:Wt ζ.cnt ix):Wt (fun x=>x.2.cnt) (uY e ix):=fun s x t k=>by obtain⟨n,s1,k1,k⟩:=R.dq k;obtain⟨_,s2,k2,k⟩:=R.dq k;obtain⟨a,s3,k3,k⟩:=R.dq k;obtain⟨_,k4,rfl⟩:=R.iz k;have:=u6 _ _ _ k1;have:=fY _ _ _ k2;have:=h _ _ _ k3;have:=fY _ _ _ k4;dsimp only;omega
theorem Xc(a b:List ξ):eR (a++b)=eR a+eR b:=by
 induction a with
 |nil=>simp[eR]
 |cons x a ih=>simp only[cG,eR,ih];omega
theorem akN(a b:List δ):δ.bI (a++b)=δ.bI a+δ.bI b:=by
 induction a with
 |nil=>simp[δ.bI]
 |cons x a ih=>simp only[cG,δ.bI,ih];omega
theorem aii(a b:List τ):g_ (a++b)=g_ a+g_ b:=by
 induction a with
 |nil=>simp[g_]
 |cons x a ih=>simp only[cG,g_,ih];omega
theorem Yy{α:Type}{w:List α->Nat}(zu:w []=0)(hw:∀l x,w (l++[x])=w l+w [x]){e:Nat}{P:PS->R α}(h:∀s x t,P s= .ok x t->w [x]+4*t.l.length<=4*s.l.length):Wt w (pj e P):=fun s x t k=>by
 simp only[pj]at k;split at k
 ·obtain⟨_,k1,rfl⟩:=R.iz k;have:=fY _ _ _ k1;omega
 ·obtain⟨y,s1,k1,k⟩:=R.dq k;obtain⟨l,s2,k2,k⟩:=R.dq k;obtain⟨_,k3,rfl⟩:=R.iz k;have:=h _ _ _ k1;have:=fY _ _ _ k3;have:=Wt.loop (w:=w) (fun x s y t k=>by
   obtain⟨_,s1,k1,k⟩:=R.dq k
   obtain⟨z,k2,rfl⟩:=R.iz k;have:=fY _ _ _ k1;have:=h _ _ _ k2;rw[hw];omega) _ _ _ _ _ k2
  omega
theorem akG{e:Nat}{pl:PS->R ξ}(h:Wt ξ.wt pl):∀n l s x t,pq e pl n l s= .ok x t->eR x+4*t.l.length<=eR l+4*s.l.length:=by
 intro n;induction n with
 |zero=>intro l s x t k;cases k;omega
 |succ n ih=>
  intro l s x t k
  obtain⟨_,s1,k1,k⟩:=R.dq k;obtain⟨p,s2,k2,k⟩:=R.dq k;have:=fY _ _ _ k1;have:=h _ _ _ k2;have:=ih _ _ _ _ k;rw[Xc]at this;simp only[eR]at this;omega
theorem akF{e:Nat}{ix:PS->R ζ}(h:Wt ζ.cnt ix):Wt δ.wt (lT e ix):=fun s x t k=>by
 have hp:=akI (e:=e) h;dsimp only[lT]at k;split at k
 ·obtain⟨_,s1,k1,k⟩:=R.dq k;obtain⟨p,s2,k2,k⟩:=R.dq k;obtain⟨l,k3,rfl⟩:=R.iz k;have:=fY _ _ _ k1;have:=hp _ _ _ k2;have:=akG hp _ _ _ _ _ k3;simp only[δ.wt,δ.bI,sJ,eR]at*;omega
 split at k
 ·obtain⟨_,s1,k1,k⟩:=R.dq k;obtain⟨p,k2,rfl⟩:=R.iz k;have:=fY _ _ _ k1;have:=YB h _ _ _ k2;simp only[δ.wt,δ.bI,sJ,eR]at*;omega
 split at k
 ·obtain⟨_,s1,k1,k⟩:=R.dq k;obtain⟨p,k2,rfl⟩:=R.iz k;have:=fY _ _ _ k1;have:=u6 _ _ _ k2;simp only[δ.wt,δ.bI,sJ,eR]at*;omega
 split at k
 ·obtain⟨_,s1,k1,k⟩:=R.dq k;obtain⟨p,s2,k2,k⟩:=R.dq k;obtain⟨_,s3,k3,k⟩:=R.dq k;obtain⟨n,k4,rfl⟩:=R.iz k;have:=fY _ _ _ k1;have:=hp _ _ _ k2;have:=fY _ _ _ k3;have:=u6 _ _ _ k4;simp only[δ.wt,δ.bI,sJ,eR]at*;omega
 split at k
 ·obtain⟨_,s1,k1,k⟩:=R.dq k;obtain⟨p,k2,rfl⟩:=R.iz k;have:=fY _ _ _ k1;have:=hp _ _ _ k2;simp only[δ.wt,δ.bI,sJ,eR]at*;omega
 ·obtain⟨n,s1,k1,k⟩:=R.dq k;obtain⟨_,s2,k2,k⟩:=R.dq k;obtain⟨l,k3,rfl⟩:=R.iz k;have:=u6 _ _ _ k1;have:=fY _ _ _ k2;have:=Yy (w:=eR) rfl (fun l x=>Xc l [x]) (fun s x t k=>by have:=hp s x t k;simp only[eR];omega) _ _ _ k3;simp only[δ.wt,δ.bI,sJ,eR]at*;omega
theorem akL{e:Nat}{ix:PS->R ζ}{blk:PS->R (List δ×List Sp)}(h:Wt ζ.cnt ix)(hb:Wt (fun x=>δ.bI x.1) blk):Wt (fun x=>x.1.wt) (iK e ix blk):=fun s x t k=>by
 dsimp only[iK]at k;split at k
 ·obtain⟨_,s1,k1,k⟩:=R.dq k;obtain⟨p,s2,k2,k⟩:=R.dq k;obtain⟨b,k3,rfl⟩:=R.iz k;have:=fY _ _ _ k1;have:=YB h _ _ _ k2;have:=hb _ _ _ k3;simp only[δ.wt,δ.bI,sJ,eR]at*;omega
 split at k
 ·obtain⟨_,s1,k1,k⟩:=R.dq k;obtain⟨p,s2,k2,k⟩:=R.dq k;obtain⟨b,s3,k3,k⟩:=R.dq k;have:=fY _ _ _ k1;have:=u6 _ _ _ k2;have:=hb _ _ _ k3;split at k
  ·obtain⟨_,s4,k4,k⟩:=R.dq k;obtain⟨d,k5,rfl⟩:=R.iz k;have:=fY _ _ _ k4;have:=hb _ _ _ k5;simp only[δ.wt,δ.bI,sJ,eR]at*;omega
  ·cases k;simp only[δ.wt,δ.bI,sJ,eR]at*;omega
 split at k
 ·obtain⟨_,s1,k1,k⟩:=R.dq k;obtain⟨p,s2,k2,k⟩:=R.dq k;obtain⟨_,s3,k3,k⟩:=R.dq k;obtain⟨a,s4,k4,k⟩:=R.dq k;obtain⟨_,s5,k5,k⟩:=R.dq k;obtain⟨c,s6,k6,k⟩:=R.dq k;obtain⟨d,k7,rfl⟩:=R.iz k;have:=fY _ _ _ k1;have:=u6 _ _ _ k2;have:=fY _ _ _ k3;have:=h _ _ _ k4;have:=fY _ _ _ k5;have:=h _ _ _ k6;have:=hb _ _ _ k7;simp only[δ.wt,δ.bI,sJ,eR]at*;omega
 split at k
 ·obtain⟨_,s1,k1,k⟩:=R.dq k;obtain⟨d,k2,rfl⟩:=R.iz k;have:=fY _ _ _ k1;have:=hb _ _ _ k2;simp only[δ.wt,δ.bI,sJ,eR]at*;omega
 split at k
 ·obtain⟨_,s1,k1,k⟩:=R.dq k;obtain⟨b,s2,k2,k⟩:=R.dq k;obtain⟨_,s3,k3,k⟩:=R.dq k;obtain⟨d,k4,rfl⟩:=R.iz k;have:=fY _ _ _ k1;have:=hb _ _ _ k2;have:=fY _ _ _ k3;have:=hb _ _ _ k4;simp only[δ.wt,δ.bI,sJ,eR]at*;omega
 ·obtain⟨y,k1,rfl⟩:=R.iz k;obtain⟨z,s2,k2,k⟩:=R.dq k1;obtain⟨_,k3,rfl⟩:=R.iz k;have:=akF h _ _ _ k2;have:=fY _ _ _ k3;dsimp only;omega
theorem akE{e:Nat}{st:PS->R (δ×List (List Sp))}(h:Wt (fun x=>x.1.wt) st):Wt (fun x=>δ.bI x.1) (zF e st):=fun s x t k=>by
 obtain⟨_,s1,k1,k⟩:=R.dq k;obtain⟨l,s2,k2,k⟩:=R.dq k;obtain⟨_,k3,rfl⟩:=R.iz k;have:=fY _ _ _ k1;have:=fY _ _ _ k3;have:=Wt.loop (w:=fun x:List δ×List Sp=>δ.bI x.1) (fun x s y t k=>by
  obtain⟨z,k1,rfl⟩:=R.iz k
  obtain⟨q,s1,k2,k3⟩:=R.dq k1;cases k3;have:=h _ _ _ k2;dsimp only at this⊢;rw[akN];simp only[δ.bI];omega) _ _ _ _ _ k2
 simp only[δ.bI]at*;omega
theorem Yx{e:Nat}{ix:PS->R ζ}(h:Wt ζ.cnt ix):∀k,Wt (fun x=>δ.bI x.1) (eA e ix k)
 |0=>fun s x t e=>by cases e
 |k+1=>akE (akL h (Yx h k))
theorem akH{e:Nat}:∀s x t,zS e s= .ok x t->[x].length+4*t.l.length<=4*s.l.length:=fun s x t k=>by obtain⟨n,s1,k1,k⟩:=R.dq k;obtain⟨_,s2,k2,k⟩:=R.dq k;obtain⟨m,s3,k3,k⟩:=R.dq k;obtain⟨_,k4,rfl⟩:=R.iz k;have:=u6 _ _ _ k1;have:=fY _ _ _ k2;have:=Yz _ _ _ k3;have:=fY _ _ _ k4;simp only[List.length_cons,List.length_nil];omega
theorem akJ{e:Nat}{blk:PS->R (List δ×List Sp)}(hb:Wt (fun x=>δ.bI x.1) blk):Wt (fun x=>x.1.wt) (zU e blk):=fun s x t k=>by obtain⟨_,s1,k1,k⟩:=R.dq k;obtain⟨n,s2,k2,k⟩:=R.dq k;obtain⟨_,s3,k3,k⟩:=R.dq k;obtain⟨ps,s4,k4,k⟩:=R.dq k;obtain⟨b,k5,rfl⟩:=R.iz k;have:=fY _ _ _ k1;have:=u6 _ _ _ k2;have:=fY _ _ _ k3;have:=Yy (w:=lC) rfl (fun l x=>by simp) akH _ _ _ k4;have:=hb _ _ _ k5;simp only[τ.wt]at*;omega
theorem YA{e:Nat}{ts:List Tok}{x:List τ×List (List Sp)}{t:PS}(k:BW e ts= .ok x t):g_ x.1<=4*ts.length:=by
 have:=Wt.loop (w:=fun x:List τ×List (List Sp)=>g_ x.1) (fun x s y t k=>by
  obtain⟨z,k1,rfl⟩:=R.iz k
  have:=akJ (Yx (akD e _) _) _ _ _ k1;dsimp only at this⊢;rw[aii];simp only[g_];omega) _ _ _ _ _ k
 simp only[g_]at this;omega
end Go.Θ
namespace Go.Θ.Tz
open Go.Θ
variable{u:Nat}
attribute [local simp] exec dY dP eX aI dw fA eN aK fL bQ iu iE iM jd lG AV.cells newVar iX rd wr gT single dk cE e_ ew κ cK RV.get cL fT kz
attribute [local simp] E5 EG
theorem aaH{C:iL}{f:FuncId}{v w:AV}{m:Mem}(h:exp m.ε.length (C.bf f) v=exp m.ε.length (C.bf f) w):ab C (.fn (.func f) [] []) [v] m=ab C (.fn (.func f) [] []) [w] m:=by
 apply Option.ext;intro r;rw[oO,oO];have:∀k,cv C k (.fn (.func f) [] []) [v] m=cv C k (.fn (.func f) [] []) [w] m:=fun k=>by
  cases k with
  |zero=>rfl
  |succ k=>simp only[cv,body,List.nil_append,List.append_nil,az,aJ,h]
 simp only[this]
theorem τ.mK{x:τ}(h:x.Ok):Fx x.av:=by have h1:=Dv.list x.cp (bN.of ak.av x.au fun y _=>ak.fx y);rw[fR h.2.1]at h1;have h2:=Dv.list x.cb (Af h.2.2.2.2.1);rw[fR h.2.2.2.1]at h2;exact .agg (.cons (.str _) (.cons h1 (.cons h2 .nil)))
theorem fm.prog(e n:Nat):fm (zU e (eA e (aC e n) n)):=(fm.take _ _).bind fun _=>(oa e).bind fun _=>(eV e _).bind fun _=>(LK e ((oa e).bind fun _=>(eV e _).bind fun _=>(LL e).bind fun _=>(eV e _).map)).bind fun _=>(AT e (n_ e n) n).map
theorem aik(l:List τ):(l.map τ.av).all (shaped true 3)=true:=by simp[nj,τ.av,shaped,Function.comp]
def dr(s:List Nat):(List τ×List (List Sp))×Int×Int:=
 if 65536<s.length then(([],[]),0,11)else match BW s.length (cj s)with
  | .no w=>(([],[]),(w:Int),4)
  | .ok x _=>if nw x.1=0 then(x,0,0)else(([],[]),(s.length:Int),nw x.1)
def zW(s:List Nat):AV:= .aQ [.agg [.list (Φ (dr s).1.1) ((dr s).1.1.map τ.av)],.list (Φ (dr s).1.2) (Sp.lists (dr s).1.2),.n (dr s).2.1,.n (dr s).2.2]
theorem f124(s:List Nat)(hs:du s)(hl:s.length<1000000000)(m:Mem):kf u 124 [.str s] m=some (zW s,m):=by
 refine K_ (g:=Gy) rfl rfl rfl ?_;simp only[az,aJ,exp,Gy,c124];refine Δ (fun st=>st.e 0= .str s/\st.e 2= .aj 2 0 0/\st.q 2=some (0,.cells [.list .nil []])/\st.q 7=none/\st.mem= {ε:=m.ε,η:=[]}) (by simp[bz]) fun s1 ⟨h1,h2,h3,h4,h5⟩=>?_;by_cases vK:65536<s.length
 ·have zd:(65536:Int)<s.length:=by omega
  simp[h1,h2,h3,h4,h5,zd,dd,zW,dr,vK];rfl
 have zd:¬(65536:Int)<s.length:=by omega
 refine Δ (fun st=>st.e 0= .str s/\st.e 2= .aj 2 0 0/\st.q 2=some (0,.cells [.list .nil []])/\st.q 7=none/\st.mem= {ε:=m.ε,η:=[]}) (by simp[h1,h2,h3,h4,h5,zd]) fun s1 ⟨h1,h2,h3,h4,h5⟩=>?_;have Pr:=fun m=>f130 (u:=u) s m;have Xv:=fun m=>f187 (u:=u) s hs hl m;have ai:=akp hs (by omega);have D_:=Yl s;generalize xl:(if cj s=[]then ρ.nil else ρ.any)=ct at Xv;have hc:bp ct:=by rw[<-xl];split<;>simp[bp]
 let K:St->Prop:=fun st=>st.e 0= .str s/\st.e 2= .aj 2 0 0/\st.q 2=some (0,.cells [.list .nil []]);obtain⟨B,TY⟩:∃B,B=m.ε++[θ.cells []]:=⟨_,rfl⟩;have qH:B.length=m.ε.length+1:=by rw[TY];simp
 obtain⟨p,Vf⟩:∃p,p=m.ε.length:=⟨_,rfl⟩;have hp:p<B.length:=by omega
 have hB:∀cs,B.set p (.cells cs)=m.ε++[.cells cs]:=fun cs=>by rw[TY,Vf];simp
 let K2:St->Prop:=fun st=>K st/\st.e 6= .μ p 0;refine Δ (fun st=>K2 st/\st.q 7=none/\st.mem= {ε:=B.set p (.cells [.str s,.list ct ((cj s).map Tok.bn),.n 0,.n (-1),.fX]),η:=[]}) (by
  rw[hB]
  simp[K2,K,h1,h2,h3,h4,h5,Pr,Xv,dd,Mem.push,Mem.ν,ν,Vf];simp[fH,Function.comp,Tok.bn,ν,cw]) fun s1 ⟨⟨⟨h1,h2,h3⟩,h6⟩,h4,h5⟩=>?_
 let K3:St->Prop:=fun st=>K2 st/\st.e 7= .aj 7 0 0;refine Δ (fun st=>K3 st/\st.q 7=some (0,.cells [.list .nil []])/\st.mem= {ε:=B.set p (.cells [.str s,.list ct ((cj s).map Tok.bn),.n 0,.n (-1),.fX]),η:=[]}) (by simp[K3,K2,K,h1,h2,h3,h4,h5,h6,bz]) fun s1 ⟨⟨⟨⟨h1,h2,h3⟩,h6⟩,h7⟩,h4,h5⟩=>?_;refine Δ (fun st=>K3 st/\st.q 7=some (0,.cells [.list .nil []])/\st.e 8= .list .nil []/\st.mem= {ε:=B.set p (.cells [.str s,.list ct ((cj s).map Tok.bn),.n 0,.n (-1),.fX]),η:=[]}) (by simp[K3,K2,K,h1,h2,h3,h4,h5,h6,h7]) fun s1 ⟨hK,h4,h8,h5⟩=>?_;have r0:cM s (cj s) ct .fX [.str s,.list ct ((cj s).map Tok.bn),.n 0,.n (-1),.fX] (.r ⟨0,cj s⟩):=⟨0,-1,rfl,Nat.zero_le _,rfl,rfl,rfl⟩;generalize ak7:[AV.str s,.list ct ((cj s).map Tok.bn),.n 0,.n (-1),.fX]=cs0 at*;have aiF:=fun(a:RS) (h:a.sz<(cj s).length+1)=>f188 (u:=u) (s:=s) (all:=cj s) (c:=ct) (by omega) ai hc a h;have qL:=fm.prog s.length ((cj s).length+1);obtain⟨a1,HU⟩:∃a1,a1=RS.r ⟨0,cj s⟩:=⟨_,rfl⟩;have abZ:a1.sz=(cj s).length:=by rw[HU];rfl
 generalize hP:zU s.length (eA s.length (aC s.length ((cj s).length+1)) ((cj s).length+1))=P at*;let F:List τ×List (List Sp)->PS->R (List τ×List (List Sp)):=fun l t=>(P t).map fun x=>(l.1++[x.1],l.2++[x.2]);let cc:PS->Bool:=fun t=>!t.l.isEmpty;let R2:St->List τ->List (List Sp)->List AV->RS->Prop:=fun st lo li ah b=>K3 st/\∃c4 c5 ext tt d_,st.q 7=some (0,.cells [.list c4 (lo.map τ.av)])/\st.e 8= .list c5 (Sp.lists li)/\st.mem=(kV B p ah ext tt)/\(∀i∈tt,i=p\/B.length<=i)∧
  Row B.length (B.set p (.cells ah)++ext) 3 70 c4 lo.length/\Row B.length (B.set p (.cells ah)++ext) 1 257 c5 li.length/\(lo=[]->c4= .nil)/\(li=[]->c5= .nil)/\(∀x∈lo,x.Ok)/\cM s (cj s) ct d_ ah b
 refine bJ (fun st=>∃lo li ah b,R2 st lo li ah b/\aF (cR cc F (a1.sz+1) ([],[])) a1 (lo,li) b) ?_ fun s3 ⟨lo,li,ah,b,⟨⟨⟨⟨h1,h2,h3⟩,h6⟩,h7⟩,c4,c5,ext,tt,d_,q2,q3,q4,q5,q6,q7,q8,q9,nL,qm⟩,hg⟩=>?_
 ·let I:Nat->St->Prop:=fun i st=>∃lo li ah b,R2 st lo li ah b/\lo.length<=i/\li.length<=i/\b.sz<=a1.sz/\(b.sz+i<=a1.sz\/∃w,b= .w w)/\∀y b',aF (cR cc F (a1.sz+1-i) (lo,li)) b y b'->aF (cR cc F (a1.sz+1) ([],[])) a1 y b';have hI:I 0 s1:=⟨[],[],cs0,a1,⟨hK,.nil,.nil,[],[],.fX,h4,h8,h5.trans (by simp),by simp,Row.nil,Row.nil,fun _=>rfl,fun _=>rfl,by simp,by rw[HU];exact r0⟩,bS _,bS _,bS _,.inl (bS _),fun _ _ h=>h⟩;refine κ.block (κ.kp (I:=I) (a1.sz+1) hI fun i st hi Ω=>?_);obtain⟨lo,li,ah,b,⟨⟨⟨⟨h1,h2,h3⟩,h6⟩,h7⟩,c4,c5,ext,tt,d_,q2,q3,q4,q5,q6,q7,q8,q9,nL,qm⟩,jN,ou,fM,yS,pY⟩:=Ω;obtain⟨k2,wr,jm,gE,gh⟩:=qm;have gp:(B.set p (θ.cells ah)++ext)[p]?=some (.cells [.str s,.list ct ((cj s).map Tok.bn),.n k2,.n wr,d_]):=by rw[ek (by simpa using hp),jm];simp[hp]
  have qm:cM s (cj s) ct d_ ah b:=⟨k2,wr,jm,gE,gh⟩;have out:∀aV:St,K3 aV/\aV.q 7=some (0,.cells [.list c4 (lo.map τ.av)])/\aV.e 8= .list c5 (Sp.lists li)/\aV.mem=(kV B p ah ext tt)->R2 aV lo li ah b:=fun aV ⟨m1,m2,m3,m4⟩=>⟨m1,c4,c5,ext,tt,d_,m2,m3,m4,q5,q6,q7,q8,q9,nL,qm⟩;unfold VT;cases b with
  |w w=>
   have hw:¬wr<0:=by have:wr=(w:Int):=gh;omega
   refine κ.done (.exit 0) (fun aV=>K3 aV/\aV.q 7=some (0,.cells [.list c4 (lo.map τ.av)])/\aV.e 8= .list c5 (Sp.lists li)/\aV.mem=(kV B p ah ext tt)) (by simp[K3,K2,K,h1,h2,h3,h6,h7,q2,q3,q4,gp,hw]) fun s' hh=> .inr ⟨by simp,.inl ⟨rfl,.inl ⟨rfl,lo,li,ah,.w w,out s' hh,pY _ _ rfl⟩⟩⟩
  |r sb=>
   obtain⟨rfl,yY,-⟩:=gh
   have yS:(RS.r sb).sz+i<=a1.sz:=yS.elim id fun⟨w,h⟩=>by cases h
   rw[show a1.sz+1-i=(a1.sz-i)+1 by omega]at pY;have Nx:=congrArg lC yY;simp only[List.length_drop]at Nx;by_cases r8:sb.l=[]
   ·have rY:¬k2<(cj s).length:=by rw[r8]at Nx;simp at Nx;omega
    refine κ.done (.exit 0) (fun aV=>K3 aV/\aV.q 7=some (0,.cells [.list c4 (lo.map τ.av)])/\aV.e 8= .list c5 (Sp.lists li)/\aV.mem=(kV B p ah ext tt)) (by simp[K3,K2,K,h1,h2,h3,h6,h7,q2,q3,q4,gp,rY]) fun s' hh=> .inr ⟨by simp,.inl ⟨rfl,.inl ⟨rfl,lo,li,ah,.r sb,out s' hh,pY _ _ (aF.Ez (show(!sb.l.isEmpty)=false by rw[r8];rfl))⟩⟩⟩
   ·have rY:k2<(cj s).length:=by have:0<sb.l.length:=List.length_pos_iff.2 r8;omega
    have acR:(!sb.l.isEmpty)=true:=by cases h:sb.l with
     |nil=>exact absurd h r8
     |cons a l=>rfl
    obtain⟨_,⟨x,sp⟩,cF,so,b2,T2,k3,r3,dV,⟨rfl,hx⟩,qc⟩:=(aiF (.r sb) (by omega)).at ext hp qm tt;dsimp only at k3 hx;have aL:=dV.sz qL.LG;have qP:(B.set p (θ.cells cF)).length=B.length:=by simp
    have I0:(lo.map τ.av).length=lo.length:=cg _;have I8:(Sp.lists li).length=li.length:=by rw[Sp.zG,cg]
    have p6:Row (B.set p (θ.cells cF)).length (B.set p (.cells cF)++ext) 3 70 c4 (lo.map τ.av).length:=by rw[I0,qP];exact Row.swap q6 (by simp) (by simp)
    have p7:Row (B.set p (θ.cells cF)).length (B.set p (.cells cF)++ext) 1 257 c5 (Sp.lists li).length:=by rw[I8,qP];exact Row.swap q7 (by simp) (by simp)
    have n1:ν x.av=x.av:=(τ.mK hx).ν;have n2:ν (.list (Φ sp) (Sp.χ sp))= .list (Φ sp) (Sp.χ sp):=(Dv.list (Φ sp) (Sp.A0 sp)).ν;obtain⟨lZ,abg,xg,qT,Na⟩:=uW (bytes:=64) p6 (aik lo) (show shaped true 3 x.av=true by rfl) n1 (by omega) (by omega) (by omega);obtain⟨CI,sV,vr,D3,Nb⟩:=uW (bytes:=24) (Na.rows 1 257 _ _ (by decide) p7) (Wn li) (show shaped false 1 (.list (Φ sp) (Sp.χ sp))=true by rfl) n2 (by omega) (by omega) (by omega);have D2:=Nb.rows 3 70 _ _ (by decide) qT;rw[qP,I0]at D2;rw[qP,I8]at D3;have lR:Sp.lists (li++[sp])=Sp.lists li++[.list (Φ sp) (Sp.χ sp)]:=by simp[Sp.zG]
    have U5:(lo++[x]).map τ.av=lo.map τ.av++[x.av]:=by simp
    refine κ.done .normal (fun aV=>K3 aV/\aV.q 7=some (0,.cells [.list lZ ((lo++[x]).map τ.av)])/\aV.e 8= .list CI (Sp.lists (li++[sp]))/\aV.mem=(kV B p cF sV T2)) (by
     have OZ:∀m:Mem,m.ν (.agg [.str x.name,.list x.cp (x.au.map ak.av),.list x.cb (δ.χ x.body)])= .agg [.str x.name,.list x.cp (x.au.map ak.av),.list x.cb (δ.χ x.body)]:=fun _=>n1
     have O0:∀m:Mem,m.ν (.list (Φ sp) (Sp.χ sp))= .list (Φ sp) (Sp.χ sp):=fun _=>n2;have JD:shaped true 3 (.agg [.str x.name,.list x.cp (x.au.map ak.av),.list x.cb (δ.χ x.body)])=true:=rfl;have JE:shaped false 1 (.list (Φ sp) (Sp.χ sp))=true:=rfl;simp only[τ.av]at k3 xg;simp[K3,K2,K,h1,h2,h3,h6,h7,q2,q3,q4,gp,rY,k3,JD,JE,OZ,O0,τ.av,xg,vr,lR];done) fun s' ⟨m1,m2,m3,m4⟩=> .inl ⟨rfl,?_,lo++[x],li++[sp],cF,b2,⟨m1,lZ,CI,sV,T2,so,m2,m3,m4,fun i hi=>(qc i hi).elim (q5 i) .inl,by simpa using D2,by simpa using D3,fun h=>by simp at h,fun h=>by simp at h,fun y hy=>(dT.1 hy).elim (nL y) fun h=>by rw[fU.1 h];exact hx,r3⟩,by simp;omega,by simp;omega,by omega,?_,fun y b' hg=>pY y b' (aF.EB acR (dV.map _) (by rw[show a1.sz+1-(i+1)=a1.sz-i by omega]at hg;exact hg))⟩
    ·omega
    ·cases b2 with
     |w w=>exact .inr ⟨w,rfl⟩
     |r t=>
      refine .inl ?_
      simp only[aF]at dV;cases pa:P sb with
      |no w=>rw[pa]at dV;cases dV
      |ok y t'=>
       rw[pa]at dV
       obtain⟨_,vT⟩:=dV;cases vT;have:=qL _ _ _ pa;simp only[RS.sz]at yS⊢;omega
 ·obtain⟨k2,wr,jm,gE,gh⟩:=qm;have gp:(B.set p (θ.cells ah)++ext)[p]?=some (.cells [.str s,.list ct ((cj s).map Tok.bn),.n k2,.n wr,d_]):=by rw[ek (by simpa using hp),jm];simp[hp]
  have Γ:∃bs,B.set p (.cells ah)++ext=m.ε++bs:=⟨_,by rw[hB,bO]⟩;have mV:∀i∈tt,m.ε.length<=i:=fun i hi=>(q5 i hi).elim (fun h=>by omega) fun h=>by omega
  have Vi:∀y,BW s.length (cj s)=y->cR cc F (a1.sz+1) ([],[]) ⟨0,cj s⟩=y:=fun y h=>by rw[<-h,abZ];simp only[BW,hP];rfl
  rw[HU]at hg;simp only[aF]at hg;rw[<-HU]at hg;cases vO:BW s.length (cj s)with
  |no w=>
   rw[Vi _ vO]at hg
   cases hg;have zu:wr=(w:Int):=gh;have hw:0<=wr:=by omega
   have hX:dr s=(([],[]),(w:Int),4):=by simp only[dr,vK,if_false,vO]
   simp[h1,h2,h3,h6,h7,q2,q3,q4,gp,hw,dd,cN,cQ,ob,zW,hX];exact⟨Γ,mV,by rw[zu];rfl⟩
  |ok x t=>
   rw[Vi _ vO]at hg
   obtain⟨rfl,rfl⟩:=hg;obtain⟨rfl,-,-⟩:=gh;have dQ:∀{α:Type} (l:List α) (c:ρ) (X:List θ) (sz:Nat) (e:TypeId),Row B.length X sz e c l.length->(l=[]->c= .nil)->c.exp 0 false=Φ l:=fun l c X sz e hr hn=>by
    cases l with
    |nil=>rw[hn rfl];rfl
    |cons a l=>
     rcases hr with⟨_,h⟩|⟨t,rfl,_⟩
     ·cases h
     ·rfl
   have e4:=dQ _ _ _ _ _ q6 q8;have e5:=dQ _ _ _ _ _ q7 q9;have xG:=YA vO;have cX:=Dv.list c4 (bN.of τ.av lo fun y hy=>τ.mK (nL y hy));rw[e4]at cX;have XB:∀m,kf u 43 [.agg [.list c4 (lo.map τ.av)]] m=some (.n (nw lo),m):=fun m=>by
    refine Eq.trans (aaH (w:=tH (Φ lo) lo) ?_) (f43 (Φ lo) (kN lo) lo nL (by dsimp only at xG;omega) m)
    ·have h1:=(BS m.ε.length false (.agg [.list c4 (lo.map τ.av)]) (Dv.agg (.cons cX .nil)).1).2.2.2;have lQ:=Dv.list (Φ lo) (bN.of τ.av lo fun y hy=>τ.mK (nL y hy));rw[CN]at lQ;have h2:=(BS m.ε.length false (tH (Φ lo) lo) (Dv.agg (.cons lQ .nil)).1).2.2.2;show exp m.ε.length false _=exp m.ε.length false _;rw[h1,h2,(Dv.agg (.cons cX .nil)).2,(show Dv (tH (Φ lo) lo) _ from Dv.agg (.cons lQ .nil)).2]
   by_cases dC:nw lo=0
   ·have hX:dr s=((lo,li),0,0):=by simp only[dr,vK,if_false,vO,dC,if_true]
    have BC:=Dv.list c5 (Sp.Da li);rw[e5]at BC;have hv:Dv (.aQ [.agg [.list c4 (lo.map τ.av)],.list c5 (Sp.lists li),.n 0,.n 0]) (zW s):=by rw[zW,hX];exact .aQ (.cons (.agg (.cons cX .nil)) (.cons BC (.cons (.int _ _) (.cons (.int _ _) .nil))))
    simp[h1,h2,h3,h6,h7,q2,q3,q4,gp,XB,dC];exact⟨Γ,mV,hv.aO _ _ _⟩
   ·have rU:(nw lo !=0)=true:=by simpa using dC
    have hX:dr s=(([],[]),(s.length:Int),nw lo):=by simp only[dr,vK,if_false,vO,dC]
    simp[h1,h2,h3,h6,h7,q2,q3,q4,gp,XB,rU,dd,zW,hX];exact⟨Γ,mV,rfl⟩
end Go.Θ.Tz
