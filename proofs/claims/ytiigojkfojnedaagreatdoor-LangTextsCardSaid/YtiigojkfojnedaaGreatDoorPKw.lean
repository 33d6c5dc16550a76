import Derived.Test.YtiigojkfojnedaaGreatDoorPKu
import Derived.Test.YtiigojkfojnedaaGreatDoorPHm
set_option linter.unusedVariables false
set_option linter.unusedSimpArgs false
set_option linter.unusedSectionVars false
set_option maxRecDepth 100000
set_option maxHeartbeats 8000000
open List renaming all_map->lv,getElem?_append_left->eg,take_of_length_le->dY,length_map->dq,append_assoc->cr,set_append_left->lW,mem_singleton->lV,mem_append->eL,cons_append->eK,length->mB,map_cons->ah,map_nil->aw
open Nat renaming le_refl->bQ
namespace Go.ab.Tz
open Go.ab
variable{u:Nat}
attribute [local simp] exec eG eu fz aF d_ fQ fe bq gN bT gF gS hU hZ mD AV.cells newVar hH rd wr gg single fy bF er dL κ bf RV.get ba dU jy
attribute [local simp] vg u6
theorem VN(l:List δ):(δ.ψ l).all (shaped true 14)=true:=by rw[δ.dZ];simp[lv,shaped,δ.av,δ.i_,Function.comp]
theorem agd(l:List Sp):(Sp.ψ l).all (shaped true 3)=true:=by
 rw[Sp.dZ,lv];simp only[List.all_eq_true,Function.comp]
 rintro⟨f,t,i⟩ _
 rfl
theorem Sp.len(x:Sp):x.cells.length=3:=by cases x;rfl
theorem δ.TC{l:List δ}{x:δ}(h:δ.cW l)(hx:x.Ok):δ.cW (l++[x]):=by
 induction l with
 |nil=>exact⟨hx,trivial⟩
 |cons a l ih=>exact⟨h.1,ih h.2⟩
theorem UN(l:List δ)(x:δ):δ.ψ (l++[x])=δ.ψ l++[.agg x.cells]:=by simp[δ.dZ,δ.av]
theorem age(l:List Sp)(x:Sp):Sp.ψ (l++[x])=Sp.ψ l++[.agg x.cells]:=by simp[Sp.dZ]
section
variable{s:List Nat}{all:List Tok}{c:Γ}(hl:all.length<1000000000)(Θ:∀t∈all,t.Ok)(hc:aJ c)
include hl Θ hc
theorem f231{n k:Nat}(ZU:k+1<=n)(hb:∀a:RS,a.sz<k->tl u s all c 231 [] (bY s.length (ai s.length n) k) Eb a)(a:RS)(Kh:a.sz<k+1):tl u s all c 231 [] (bY s.length (ai s.length n) (k+1)) Eb a:=by
 intro B p cs item T hp h;show∃v x ξ dW b T',_/\_/\Δ (yy s.length (gJ s.length (ai s.length n) (bY s.length (ai s.length n) k))) a x b/\_;have afn:=fun(a:RS) (h2:a.sz<k+1)=>f271 (u:=u) (n:=n) (k:=k) hl Θ hc hb a (by omega) h2;have jB:cU (gJ s.length (ai s.length n) (bY s.length (ai s.length n) k)):=BF _ (fl _ _) (tC _ (fl _ _) _);generalize hP:gJ s.length (ai s.length n) (bY s.length (ai s.length n) k)=P at*;obtain⟨_,w1,aW,a1,k1,r1,bS,rfl⟩:=f226 (u:=u) (item:=item) [123] hl Θ a B p cs hp h;have s1:=bS.sz (cI _ _);let F:List δ×List Sp->PS->R (List δ×List Sp):=fun l t=>(ub s.length P t).map fun x=>(l.1++[x.1],l.2++[x.2]);let cc:PS->Bool:=fun t=>!t.aD [125];have dy:κ (C u).gl (aS (C u)) OX {env:=[.μ p 0],loc:=[],mem:= {ε:=B.set p (.cells cs),η:=[]}} fun r=>(∀i,r.1≠ .exit i)/\∃lo li c4 c5 ξ ext dW b,bq r.2.env 2= .list c4 (δ.ψ lo)/\bq r.2.env 3= .list c5 (Sp.ψ li)/\r.2.mem.ε=B.set p (.cells ξ)++ext/\(∀i∈r.2.mem.η,i=p\/B.length<=i)∧
   c4.exp 0 false=Ξ lo/\c5.exp 0 false=Ξ li/\δ.cW lo/\cV s all c dW ξ b/\Δ (yy s.length P) a (lo,li) b:=by
  refine χ (fun st=>st.e 0= .μ p 0/\st.mem= {ε:=B.set p (.cells cs),η:=[]}) (by simp) fun s1 ⟨h1,h2⟩=>?_;refine χ (fun st=>st.e 0= .μ p 0/\st.e 4= .list .nil []/\st.mem= {ε:=B.set p (.cells cs),η:=[]}) (by simp[h1,h2]) fun s1 ⟨h1,h3,h2⟩=>?_;refine χ (fun st=>st.e 0= .μ p 0/\st.e 4= .list .nil []/\st.e 5= .list .nil []/\st.mem= {ε:=B.set p (.cells cs),η:=[]}) (by simp[h1,h2,h3]) fun s1 ⟨h1,h3,h4,h2⟩=>?_;refine χ (fun st=>st.e 0= .μ p 0/\st.e 4= .list .nil []/\st.e 5= .list .nil []/\st.mem= {ε:=B.set p (.cells aW),η:=[]}) (by simp[h1,h2,h3,h4,k1]) fun s1 ⟨h1,h3,h4,h2⟩=>?_;refine χ (fun st=>st=s1) (by simp) fun s2 hs=>?_;subst hs;let R2:St->List δ->List Sp->List AV->RS->Prop:=fun st lo li ξ b=>st.e 0= .μ p 0/\∃c4 c5 ext tt dW,st.e 4= .list c4 (δ.ψ lo)/\st.e 5= .list c5 (Sp.ψ li)/\st.mem=(aY B p ξ ext tt)/\(∀i∈tt,i=p\/B.length<=i)∧
   Row B.length (B.set p (.cells ξ)++ext) 14 66 c4 lo.length/\Row B.length (B.set p (.cells ξ)++ext) 3 198 c5 li.length/\(lo=[]->c4= .nil)/\(li=[]->c5= .nil)/\δ.cW lo/\cV s all c dW ξ b
  let I:Nat->St->Prop:=fun i st=>∃lo li ξ b,R2 st lo li ξ b/\lo.length<=i/\li.length<=i/\b.sz<=a1.sz/\(b.sz+i<=a1.sz\/∃w,b= .w w)/\∀y b',Δ (cK cc F (a1.sz+1-i) (lo,li)) b y b'->Δ (cK cc F (a1.sz+1) ([],[])) a1 y b';have hI:I 0 s2:=⟨[],[],aW,a1,⟨h1,.nil,.nil,[],[],item,h3,h4,h2.trans (by simp),by simp,Row.nil,Row.nil,fun _=>rfl,fun _=>rfl,trivial,r1⟩,bQ _,bQ _,bQ _,.inl (bQ _),fun _ _ h=>h⟩;have hlen:=r1.sz;refine aZ (fun st=>∃lo li ξ b,R2 st lo li ξ b/\Δ (cK cc F (a1.sz+1) ([],[])) a1 (lo,li) b) ?_ fun s3 ⟨lo,li,ξ,b,⟨q1,c4,c5,ext,tt,dW,q2,q3,q4,q5,q6,q7,q8,q9,gx,mU⟩,hg⟩=>?_
  ·refine κ.block (κ.ki (I:=I) (a1.sz+1) hI fun i st hi τ=>?_);obtain⟨lo,li,ξ,b,⟨q1,c4,c5,ext,tt,dW,q2,q3,q4,q5,q6,q7,q8,q9,gx,mU⟩,fB,jU,fb,l8,gX⟩:=τ;have QW:∀bA:St,bA.e 0= .μ p 0/\bA.e 4= .list c4 (δ.ψ lo)/\bA.e 5= .list c5 (Sp.ψ li)/\bA.mem=(aY B p ξ ext tt)->R2 bA lo li ξ b:=fun bA ⟨m1,m2,m3,m4⟩=>⟨m1,c4,c5,ext,tt,dW,m2,m3,m4,q5,q6,q7,q8,q9,gx,mU⟩;obtain⟨k2,wr,fw,fo,dh⟩:=mU;have gp:(B.set p (θ.cells ξ)++ext)[p]?=some (.cells [.str s,.list c (all.map Tok.a_),.n k2,.n wr,dW]):=by rw[eg (by simpa using hp),fw];simp[hp]
   have mU:cV s all c dW ξ b:=⟨k2,wr,fw,fo,dh⟩;unfold SJ;cases b with
   |w w=>
    have hw:¬wr<0:=by have:wr=(w:Int):=dh;omega
    refine κ.done (.exit 0) (fun bA=>bA.e 0= .μ p 0/\bA.e 4= .list c4 (δ.ψ lo)/\bA.e 5= .list c5 (Sp.ψ li)/\bA.mem=(aY B p ξ ext tt)) (by simp[q1,q2,q3,q4,gp,hw]) fun s' hh=> .inr ⟨by simp,.inl ⟨rfl,.inl ⟨rfl,lo,li,ξ,.w w,QW s' hh,gX _ _ rfl⟩⟩⟩
   |r sb=>
    obtain⟨rfl,-,-⟩:=dh
    have l8:(RS.r sb).sz+i<=a1.sz:=l8.elim id fun⟨w,h⟩=>by cases h
    rw[show a1.sz+1-i=(a1.sz-i)+1 by omega]at gX;have qb:=fun t hb T=>Be (u:=u) hl [125] ext hp mU t hb T;cases bR:(RS.r sb).aD [125]with
    |true=>
     have qb:=qb _ bR
     refine κ.done (.exit 0) (fun bA=>bA.e 0= .μ p 0/\bA.e 4= .list c4 (δ.ψ lo)/\bA.e 5= .list c5 (Sp.ψ li)/\bA.mem=(aY B p ξ ext tt)) (by simp[q1,q2,q3,q4,gp,qb]) fun s' hh=> .inr ⟨by simp,.inl ⟨rfl,.inl ⟨rfl,lo,li,ξ,.r sb,QW s' hh,gX _ _ (Δ.u3 (show(!sb.aD [125])=false by rw[show sb.aD [125]=true from bR];rfl))⟩⟩⟩
    |false=>
     have qb:=qb _ bR
     obtain⟨_,⟨x,sp⟩,aV,rj,b2,T2,k3,r3,bE,⟨rfl,hx⟩,jW⟩:=(afn (.r sb) (by omega)).at ext hp mU tt;dsimp only at k3 hx;have re:=δ.i_ x;have Am:x.cells.take 14=x.cells:=dY (by omega);have iw:=Sp.len sp;have aaD:sp.cells.take 3=sp.cells:=dY (by omega);have bm:=bE.sz (JE _ jB).nk;have pv:(B.set p (θ.cells aV)).length=B.length:=by simp
     have p6:Row (B.set p (θ.cells aV)).length (B.set p (.cells aV)++ext) 14 66 c4 (δ.ψ lo).length:=by rw[δ.dZ,dq,pv];exact Row.swap q6 (by simp) (by simp)
     have p7:Row (B.set p (θ.cells aV)).length (B.set p (.cells aV)++ext) 3 198 c5 (Sp.ψ li).length:=by rw[Sp.dZ,dq,pv];exact Row.swap q7 (by simp) (by simp)
     have HG:(δ.ψ lo).length=lo.length:=by rw[δ.dZ,dq]
     have HL:(Sp.ψ li).length=li.length:=by rw[Sp.dZ,dq]
     have n1:ρ (.agg x.cells)= .agg x.cells:=(Dv.agg (δ.fx x hx)).ρ;have n2:ρ (.agg sp.cells)= .agg sp.cells:=(Dv.agg (Sp.fx sp)).ρ;have ua:shaped true 14 (.agg x.cells)=true:=by simp[shaped,re]
     have Ie:shaped true 3 (.agg sp.cells)=true:=by simp[shaped,iw]
     obtain⟨rW,sg,qX,qn,KB⟩:=oT (bytes:=216) p6 (VN lo) ua n1 (by omega) (by omega) (by omega);obtain⟨Bm,l4,uC,CD,KD⟩:=oT (bytes:=40) (KB.rows 3 198 _ _ (by decide) p7) (agd li) Ie n2 (by omega) (by omega) (by omega);have CC:=KD.rows 14 66 _ _ (by decide) qn;rw[pv,HG]at CC;rw[pv,HL]at CD;have aj:∀(c:Γ) (m:Nat) (X:List θ) (sz:Nat) (e:TypeId),Row B.length X sz e c (m+1)->c≠ .nil:=fun c m X sz e hr=>by
      rcases hr with⟨_,h⟩|⟨t,rfl,_⟩
      ·omega
      ·exact fun h=>by cases h
     refine κ.done .normal (fun bA=>bA.e 0= .μ p 0/\bA.e 4= .list rW (δ.ψ (lo++[x]))/\bA.e 5= .list Bm (Sp.ψ (li++[sp]))/\bA.mem=(aY B p aV l4 T2)) (by
      have CV:∀m:Mem,m.ρ (.agg x.cells)= .agg x.cells:=fun _=>n1
      have CW:∀m:Mem,m.ρ (.agg sp.cells)= .agg sp.cells:=fun _=>n2;simp[q1,q2,q3,q4,gp,qb,k3,re,Am,iw,aaD,ua,Ie,CV,CW,qX,uC,UN,age,b_,cj,tD]) fun s' ⟨m1,m2,m3,m4⟩=> .inl ⟨rfl,?_,lo++[x],li++[sp],aV,b2,⟨m1,rW,Bm,l4,T2,rj,m2,m3,m4,fun i hi=>(jW i hi).elim (q5 i) .inl,by simpa using CC,by simpa using CD,fun h=>by simp at h,fun h=>by simp at h,δ.TC gx hx,r3⟩,by simp;omega,by simp;omega,by omega,?_,fun y b' hg=>gX y b' (Δ.u4 (show(!sb.aD [125])=true by rw[show sb.aD [125]=false from bR];rfl) (bE.map _) (by rw[show a1.sz+1-(i+1)=a1.sz-i by omega]at hg;exact hg))⟩
     ·omega
     ·cases b2 with
      |w w=>exact .inr ⟨w,rfl⟩
      |r t=>
       refine .inl ?_
       simp only[Δ]at bE;cases ny:ub s.length P sb with
       |no w=>rw[ny]at bE;cases bE
       |ok y t'=>
        rw[ny]at bE
        obtain⟨_,nz⟩:=bE;cases nz;have:=JE _ jB _ _ _ ny;simp only[RS.sz]at l8⊢;omega
  ·obtain⟨_,w2,aV,b2,k2,r2,cR,rfl⟩:=(f226 (u:=u) (item:=dW) [125] hl Θ b).at ext hp mU;have dp:∀{α:Type} (l:List α) (c:Γ) (X:List θ) (sz:Nat) (e:TypeId),Row B.length X sz e c l.length->(l=[]->c= .nil)->c.exp 0 false=Ξ l:=fun l c X sz e hr hn=>by
    cases l with
    |nil=>rw[hn rfl];rfl
    |cons a l=>
     rcases hr with⟨_,h⟩|⟨t,rfl,_⟩
     ·cases h
     ·rfl
   refine κ.done .ret (fun bA=>bA.e 2= .list c4 (δ.ψ lo)/\bA.e 3= .list c5 (Sp.ψ li)/\bA.mem=(aY B p aV ext tt)) (by simp[q1,q2,q3,q4,k2]) fun s' ⟨m1,m2,m3⟩=>⟨by simp,lo,li,c4,c5,aV,ext,dW,b2,m1,m2,by rw[m3],by rw[m3];exact q5,dp _ _ _ _ _ q6 q8,dp _ _ _ _ _ q7 q9,gx,r2,?_⟩;exact bS.bind (Q:=fun _ t=>(cK cc F (t.l.length+1) ([],[]) t).bind fun l t=>(ak s.length [125] t).map fun _=>l) (hg.fuel.bind (Q:=fun l t=>(ak s.length [125] t).map fun _=>l) (cR.map fun _=>(lo,li)))
 obtain⟨r,e1,e2,lo,li,c4,c5,ξ,ext,dW,b,e3,e4,e5,e6,e7,e8,e9,ng,sc⟩:=dy;have hv:Dv (.aO [.list c4 (δ.ψ lo),.list c5 (Sp.ψ li)]) (.aO [.list (Ξ lo) (δ.ψ lo),.list (Ξ li) (Sp.ψ li)]):=by rw[<-e7,<-e8];exact .aO (.cons (.list c4 (Ig e9)) (.cons (.list c5 (Sp.zB li)) .nil))
 obtain⟨aV,rj,T',By,Bz,BA⟩:=HO (u:=u) hc (f:=231) (g:=FK) (args:=[]) (v:= .aO [.list (Ξ lo) (δ.ψ lo),.list (Ξ li) (Sp.ψ li)]) rfl rfl rfl hp rfl e1 e2 e5 ng e6 (l:=[.list c4 (δ.ψ lo),.list c5 (Sp.ψ li)]) (by simp[FK,e3,e4]) (hv.ax _ _ _) T;exact⟨_,(lo,li),aV,rj,b,T',By,Bz,sc,⟨rfl,e9⟩,BA⟩
theorem N9{n:Nat}:∀k,k<=n->∀a:RS,a.sz<k->tl u s all c 231 [] (bY s.length (ai s.length n) k) Eb a
 |0,_,_,h=>by omega
 |k+1,hk,a,h=>f231 hl Θ hc hk (fun a h=>N9 k (by omega) a h) a h
end
theorem aC.fx(x:aC):Fx x.av:=⟨rfl,rfl⟩
theorem MC(l:List aC):(l.map aC.av).all (shaped true 2)=true:=by simp[lv,aC.av,shaped,Function.comp]
def pT(p:Nat)(nm:List Nat)(c:Γ)(l:List AV):List θ:=[.cells [.μ p 0],.cells [.str nm,.list c l,.list .nil []]]
def pI(B:List θ)(p:Nat)(nm:List Nat)(l:List aC)(B':List θ):Prop:=
 ∃c ext,B'=B++pT p nm c (l.map aC.av)++ext/\Row (B.length+2) B' 2 76 c l.length/\(l=[]->c= .nil)/\∀x∈l,dJ x.name
section
variable{s:List Nat}{all:List Tok}{c:Γ}(hl:all.length<1000000000)(Θ:∀t∈all,t.Ok)
include hl Θ
theorem f229{B:List θ}{p:Nat}(hp:p<B.length)(nm:List Nat)(n:Nat):IB u s all c (pI B p nm) (.fn (.func 229) [] [.μ B.length 0,.μ (B.length+1) 0]) (ry s.length) n B.length p:=by
 rintro l _ T cs a ⟨cp,ext,rfl,hr,hn,G2⟩ h ha hlen
 obtain⟨_,x,aW,a1,k1,r1,bS,rfl,hx⟩:=(f227 (u:=u) hl Θ a).at (pT p nm cp (l.map aC.av)++ext) hp h;obtain⟨_,w2,aV,a2,k2,r2,cR,rfl⟩:=(f226 (u:=u) [91] hl Θ a1).at (pT p nm cp (l.map aC.av)++ext) hp r1;obtain⟨_,m,aP,a3,k3,r3,bE,rfl,hm⟩:=(f230 (u:=u) hl Θ a2).at (pT p nm cp (l.map aC.av)++ext) hp r2;obtain⟨_,w4,dT,a4,k4,r4,ew,rfl⟩:=(f226 (u:=u) [93] hl Θ a3).at (pT p nm cp (l.map aC.av)++ext) hp r3;have e0:∀cs c l ext,(B++pT p nm c l++ext).set p (.cells cs)=B.set p (.cells cs)++pT p nm c l++ext:=fun cs c l ext=>by rw[cr,lW _ _ hp,cr]
 have fZ:Row (B.set p (.cells dT)++pT p nm cp (l.map aC.av)).length (B.set p (.cells dT)++pT p nm cp (l.map aC.av)++ext) 2 76 cp (l.map aC.av).length:=by rw[dq];have:=Row.swap hr (P':=B.set p (.cells dT)++pT p nm cp (l.map aC.av)) (by simp[pT]) (by simp[pT]);simpa[pT]using this
 obtain⟨c',ext',eN,dn,-⟩:=oT (bytes:=24) fZ (MC l) (show shaped true 2 (aC.av ⟨x,m⟩)=true by rfl) (show ρ (aC.av ⟨x,m⟩)=_ by rfl) (by omega) (by simp;omega) (by simp;omega);rw[dq]at dn;have hL:∀cs c l ext,(B.set p (.cells cs)++pT p nm c l++ext).length=B.length+2+ext.length:=fun cs c l ext=>by simp[pT];omega
 have dV:∀n,B.length+2<=n->([]++[AV.μ B.length 0,.μ (B.length+1) 0]).map (exp n true)=[AV.μ B.length 0,.μ (B.length+1) 0]:=fun n hn=>by
  have a1:B.length+1<n:=by omega
  have a2:B.length<n:=by omega
  simp[exp,a1,a2]
 have g0:∀cs c l ext,(B.set p (.cells cs)++pT p nm c l++ext)[B.length]?=some (.cells [.μ p 0]):=fun cs c l ext=>by simp[pT]
 have g1:∀cs c l ext,(B.set p (.cells cs)++pT p nm c l++ext)[B.length+1]?=some (.cells [.str nm,.list c l,.list .nil []]):=fun cs c l ext=>by simp[pT]
 have g2:∀cs c l ext c' l',(B.set p (.cells cs)++pT p nm c l++ext).set (B.length+1) (.cells [.str nm,.list c' l',.list .nil []])=B.set p (.cells cs)++pT p nm c' l'++ext:=fun cs c l ext c' l'=>by simp[pT]
 have dM:∀M:Mem,M.ρ (.list c' (l.map aC.av++[aC.av ⟨x,m⟩]))= .list c' (l.map aC.av++[aC.av ⟨x,m⟩]):=fun M=>by have:=(Dv.list c' (bJ.of aC.av (l++[⟨x,m⟩]) fun y _=>aC.fx y)).ρ;rw[List.map_append]at this;exact this
 have dy:κ (C u).gl (aS (C u)) c229 {env:=[.μ B.length 0,.μ (B.length+1) 0],loc:=[],mem:= {ε:=B.set p (.cells cs)++pT p nm cp (l.map aC.av)++ext,η:=[]}} fun r=>r.1= .normal/\∃tt,r.2.mem= {ε:=B.set p (.cells dT)++pT p nm c' ((l++[(⟨x,m⟩:aC)]).map aC.av)++ext',η:=tt}/\∀i∈tt,B.length<=i:=by
  have dv:shaped true 2 (.agg [.str x,.n m])=true:=rfl;have kK:∀M:Mem,M.ρ (.agg [.str x,.n m])= .agg [.str x,.n m]:=fun _=>rfl;simp only[cr,aC.av]at g0 g1 g2 k1 k2 k3 k4 eN dM⊢;simp[c229,aQ,cX,g0,g1,g2,k1,k2,k3,k4,dv,kK,eN,dM,Mem.put];refine⟨_,⟨rfl,rfl⟩,fun i hi=>?_⟩;split at hi
  ·cases hi
  ·have:=lV.1 hi;omega
 obtain⟨⟨ex,s'⟩,e1,rfl,tt,e2,e3⟩:=dy;have c_:=uv (C:=C u) (f:=229) (g:=JU) (args:=[]) (cap:=[.μ B.length 0,.μ (B.length+1) 0]) (m:= {ε:=B.set p (.cells cs)++pT p nm cp (l.map aC.av)++ext,η:=T}) (l:=[]) rfl rfl rfl (by rw[dV _ (by rw[hL];omega)];exact e1) (by simp) (by rfl);refine⟨B++pT p nm c' ((l++[(⟨x,m⟩:aC)]).map aC.av)++ext',T++tt,⟨x,m⟩,dT,a4,by rw[e0,e0,c_];dsimp only at e2;rw[e2];rfl,⟨c',ext',rfl,?_,fun h=>by simp at h,fun y hy=>?_⟩,r4,?_,fun i hi=>(eL.1 hi).imp id (e3 i)⟩
 ·have:=Row.swap dn (P':=B++pT p nm c' ((l++[(⟨x,m⟩:aC)]).map aC.av)) (by simp[pT]) (by simp[pT]);simpa[pT]using this
 ·rcases eL.1 hy with hy|hy
  ·exact G2 y hy
  ·rw[lV.1 hy];exact hx
 ·exact bS.bind (Q:=fun n t=>(ak s.length [91] t).bind fun _ t=>(sQ s.length t).bind fun k t=>(ak s.length [93] t).map fun _=>(⟨n,k⟩:aC)) (cR.bind (bE.bind (Q:=fun(k:Nat) t=>(ak s.length [93] t).map fun _=>(⟨x,(k:Int)⟩:aC)) (ew.map fun _=>(⟨x,(m:Int)⟩:aC))))
variable(hc:aJ c)
def Ve:ω×List Sp->AV->Prop:=fun x v=>v= .aO [x.1.av,.list (Ξ x.2) (Sp.ψ x.2)]/\x.1.Ok
theorem Qi(e:Nat):df (ry e):=(jx e).bind fun _=>(cI e _).bind fun _=>(Em e).bind fun _=>(cI e _).map
include hc
theorem f188{n:Nat}(a:RS)(ha:a.sz<n):tl u s all c 188 [] (u9 s.length (bY s.length (ai s.length n) n)) Ve a:=by
 intro B p cs item T hp h;have g0:∀cs L (e:List θ),(B.set p (θ.cells cs)++θ.cells [.μ p 0]::θ.cells L::e)[B.length]?=some (.cells [.μ p 0]):=fun cs L e=>by simp
 have g1:∀cs L (e:List θ),(B.set p (θ.cells cs)++θ.cells [.μ p 0]::θ.cells L::e)[B.length+1]?=some (.cells L):=fun cs L e=>by simp
 have gs:∀cs L L' (e:List θ),(B.set p (θ.cells cs)++θ.cells [.μ p 0]::θ.cells L::e).set (B.length+1) (.cells L')=B.set p (θ.cells cs)++θ.cells [.μ p 0]::θ.cells L'::e:=fun cs L L' e=>by simp
 obtain⟨_,w1,aW,a1,k1,r1,bS,rfl⟩:=(f226 (u:=u) (item:=item) [112,114,111,99] hl Θ a).at [.cells [.μ p 0],.cells [.str [],.list .nil [],.list .nil []]] hp h;have s1:=bS.sz (cI _ _);obtain⟨_,nm,aV,a2,k2,r2,cR,rfl,kr⟩:=(f227 (u:=u) (item:=item) hl Θ a1).at [.cells [.μ p 0],.cells [.str [],.list .nil [],.list .nil []]] hp r1;have s2:=cR.sz (jx _);obtain⟨_,w3,aP,a3,k3,r3,bE,rfl⟩:=(f226 (u:=u) (item:=item) [40] hl Θ a2).at [.cells [.μ p 0],.cells [.str nm,.list .nil [],.list .nil []]] hp r2;have s3:=bE.sz (cI _ _);obtain⟨B4,T4,ps,dT,a4,k4,⟨c4,br,rfl,yc,K',xX⟩,r4,ew,Lu⟩:=f228 (u:=u) hl Θ (I:=pI B p nm) (fn:= .fn (.func 229) [] [.μ B.length 0,.μ (B.length+1) 0]) (P:=ry s.length) (k:=n) (N:=B.length) (M:=B.length+2) (p:=p) (Qi hl Θ _) rfl rfl
  (fun m hm=>by
   have q1:B.length+1<m:=by omega
   have q2:B.length<m:=by omega
   simp[exp,bn,Fn.below,q1,q2]) (fun l B' ⟨c,ext,h,_⟩=>by rw[h];simp[pT];omega) (f229 hl Θ hp nm n) [] ⟨.nil,[],by simp;rfl,Row.nil,fun _=>rfl,by simp⟩ r3 (by omega)
 have s4:=ew.sz (El _ (Qi hl Θ _));have e0:∀cs D,(B++D).set p (.cells cs)=B.set p (.cells cs)++D:=fun cs D=>lW _ _ hp;simp only[cr,e0]at k4;have LX:kf u 228 [.μ p 0,.str [41],.fn (.func 229) [] [.μ B.length 0,.μ (B.length+1) 0]] {ε:=B.set p (.cells aP)++[.cells [.μ p 0],.cells [.str nm,.list .nil [],.list .nil []]],η:=[]}=some (.aO [],{ε:=B.set p (.cells dT)++(θ.cells [.μ p 0]::θ.cells [.str nm,.list c4 (ps.map aC.av),.list .nil []]::br),η:=T4}):=k4;have ec:c4.exp 0 false=Ξ ps:=by
  cases ps with
  |nil=>rw[K' rfl];rfl
  |cons a l=>
   rcases yc with⟨_,h⟩|⟨t,rfl,_⟩
   ·cases h
   ·rfl
 obtain⟨_,⟨bl,bi⟩,ie,Sj,a5,T5,k5,r5,ij,⟨rfl,eT⟩,sL⟩:=(N9 (u:=u) hl Θ hc n (bQ _) a4 (by omega)).at (θ.cells [.μ p 0]::θ.cells [.str nm,.list c4 (ps.map aC.av),.list .nil []]::br) hp r4 T4;dsimp only at k5 eT;have dy:κ (C u).gl (aS (C u)) I1 {env:=[.μ p 0],loc:=[],mem:= {ε:=B.set p (.cells cs),η:=[]}} fun r=>r.1= .ret/\bq r.2.env 2= .Ω 2 0 0/\bT r.2.loc 2=some (0,.cells [.str nm,.list c4 (ps.map aC.av),.list (Ξ bl) (δ.ψ bl)])/\bq r.2.env 3= .list (Ξ bi) (Sp.ψ bi)∧
   ∃tt,r.2.mem= {ε:=B.set p (.cells ie)++(θ.cells [.μ p 0]::θ.cells [.str nm,.list c4 (ps.map aC.av),.list (Ξ bl) (δ.ψ bl)]::br),η:=tt}/\∀i∈tt,i=p\/B.length<=i:=by
  have ht:∀i∈T5,i=p\/B.length<=i:=fun i hi=>(sL i hi).elim (fun h=>(Lu i h).elim (fun h=>by cases h) id) .inl;have wk:cL (δ.ψ bl)=δ.ψ bl:=(C5 0 false _ (Ig eT).1).2.2.1;simp[I1,aQ,Mem.push,Mem.put,Mem.ρ,ρ,cL,bh,lo,Γ.lo,g0,g1,gs,k1,k2,k3,LX,k5];have ZE:∀(q:Prop) [Decidable q] (i:Nat),i∈(if q then T5 else(B.length+1)::T5)->i=p\/B.length<=i:=fun q _ i hi=>by
   by_cases hq:q
   ·rw[if_pos hq]at hi;exact ht i hi
   ·rw[if_neg hq]at hi;exact(List.mem_cons.1 hi).elim (fun h=> .inr (by omega)) (ht i)
  exact⟨wk,_,⟨wk,rfl⟩,fun i hi=>ZE _ i hi⟩
 obtain⟨⟨ex,s'⟩,e1,e2,e3,e4,e5,tt,e6,e7⟩:=dy;dsimp only at e2 e3 e4 e5 e6;subst e2;have dt:=Dv.list (Ξ bl) (Ig eT);rw[zh]at dt;have mf:=Dv.list (Ξ bi) (Sp.zB bi);rw[zh]at mf;have iu:=Dv.list c4 (bJ.of aC.av ps fun y _=>aC.fx y);rw[ec]at iu;have hv:Dv (.aO [.agg [.str nm,.list c4 (ps.map aC.av),.list (Ξ bl) (δ.ψ bl)],.list (Ξ bi) (Sp.ψ bi)]) (.aO [(⟨nm,Ξ ps,ps,Ξ bl,bl⟩:ω).av,.list (Ξ bi) (Sp.ψ bi)]):=
  .aO (.cons (.agg (.cons (.str _) (.cons iu (.cons dt .nil)))) (.cons mf .nil))
 obtain⟨ox,aaZ,T6,By,Bz,BA⟩:=HO (u:=u) hc (f:=188) (g:=Fj) (args:=[]) (v:= .aO [(⟨nm,Ξ ps,ps,Ξ bl,bl⟩:ω).av,.list (Ξ bi) (Sp.ψ bi)]) rfl rfl rfl hp rfl e1 (by simp) (by rw[e6]) r5 (by rw[e6];exact e7) (l:=[.agg [.str nm,.list c4 (ps.map aC.av),.list (Ξ bl) (δ.ψ bl)],.list (Ξ bi) (Sp.ψ bi)]) (by simp[Fj,e3,e4,e5]) (hv.ax _ _ _) T;refine⟨_,(⟨nm,Ξ ps,ps,Ξ bl,bl⟩,bi),ox,aaZ,a5,T6,By,Bz,?_,⟨rfl,kr,ib _,xX,ib _,eT,?_⟩,BA⟩
 ·exact bS.bind (cR.bind (Q:=fun n' t=>(ak s.length [40] t).bind fun _ t=>(ml s.length (ry s.length) t).bind fun ps t=>(bY s.length (ai s.length n) n t).map fun b=>((⟨n',Ξ ps,ps,Ξ b.1,b.1⟩:ω),b.2)) (bE.bind (ew.bind (Q:=fun ps t=>(bY s.length (ai s.length n) n t).map fun b=>((⟨nm,Ξ ps,ps,Ξ b.1,b.1⟩:ω),b.2)) (ij.map fun b=>((⟨nm,Ξ ps,ps,Ξ b.1,b.1⟩:ω),b.2)))))
 ·intro h;cases ps with
  |nil=>rfl
  |cons a l=>cases h
end
end Go.ab.Tz
namespace Go.ab
def Wt{α:Type}(w:α->Nat)(P:PS->R α):Prop:=∀s x t,P s= .ok x t->w x+4*t.l.length<=4*s.l.length
theorem R.dk{α β:Type}{a:R α}{f:α->PS->R β}{y:β}{t:PS}(h:a.bind f= .ok y t):∃x s,a= .ok x s/\f x s= .ok y t:=by
 cases a with
 |ok x s=>exact⟨x,s,rfl,h⟩
 |no w=>cases h
theorem R.gG{α β:Type}{a:R α}{f:α->β}{y:β}{t:PS}(h:a.map f= .ok y t):∃x,a= .ok x t/\f x=y:=by
 cases a with
 |ok x s=>cases h;exact⟨x,rfl,rfl⟩
 |no w=>cases h
theorem Ns{e:Nat}{f:Tok->Bool}:∀s x t,gR e f s= .ok x t->4+4*t.l.length<=4*s.l.length:=fun s x t h=>by have:=Ii h;omega
theorem Wt.loop{α:Type}{w:α->Nat}{c:PS->Bool}{f:α->PS->R α}(h:∀x s y t,f x s= .ok y t->w y+4*t.l.length<=w x+4*s.l.length):∀n x s y t,cK c f n x s= .ok y t->w y+4*t.l.length<=w x+4*s.l.length:=by
 intro n;induction n with
 |zero=>intro x s y t e;cases e
 |succ n ih=>
  intro x s y t e
  simp only[cK]at e;split at e
  ·obtain⟨x',s',e1,e2⟩:=R.dk e;have:=h _ _ _ _ e1;have:=ih _ _ _ _ e2;omega
  ·cases e;omega
theorem rH:z0.cnt=1:=rfl
theorem fE{e:Nat}{w:List Nat}:∀s x t,ak e w s= .ok x t->4+4*t.l.length<=4*s.l.length:=Ns
theorem ug{e:Nat}:∀s x t,fU e s= .ok x t->4+4*t.l.length<=4*s.l.length:=Ns
theorem U8{e:Nat}:∀s x t,sQ e s= .ok x t->4+4*t.l.length<=4*s.l.length:=fun s x t h=>by obtain⟨y,h1,_⟩:=R.gG h;exact Ns _ _ _ h1
theorem agF{e:Nat}{ix:PS->R ζ}(h:Wt ζ.cnt ix):Wt ζ.cnt (lC e ix):=fun s x t k=>by
 simp only[lC]at k;split at k
 ·obtain⟨_,s1,k1,k⟩:=R.dk k;obtain⟨y,s2,k2,k⟩:=R.dk k;obtain⟨_,k3,rfl⟩:=R.gG k;have:=fE _ _ _ k1;have:=h _ _ _ k2;have:=fE _ _ _ k3;omega
 ·split at k
  ·obtain⟨n,k1,rfl⟩:=R.gG k;have:=U8 _ _ _ k1;simp only[ζ.cnt,ζ.aU];omega
  ·obtain⟨n,k1,rfl⟩:=R.gG k;have:=ug _ _ _ k1;simp only[ζ.cnt,ζ.aU];omega
theorem agN{e:Nat}{at':PS->R ζ}(h:Wt ζ.cnt at'):Wt ζ.cnt (tY e at'):=fun s x t k=>by
 obtain⟨y,s1,k1,k⟩:=R.dk k;have:=h _ _ _ k1;have:=Wt.loop (w:=ζ.cnt) (fun x s y t k=>by
  obtain⟨_,s1,k1,k⟩:=R.dk k
  obtain⟨z,k2,rfl⟩:=R.gG k;have:=fE _ _ _ k1;have:=h _ _ _ k2;simp only[ζ.cnt,ζ.aU];omega) _ _ _ _ _ k
 omega
theorem agP{e:Nat}{pr:PS->R ζ}(h:Wt ζ.cnt pr):Wt ζ.cnt (AR e pr):=fun s x t k=>by
 obtain⟨y,s1,k1,k⟩:=R.dk k;have:=h _ _ _ k1;have:=Wt.loop (w:=ζ.cnt) (fun x s y t k=>by
  obtain⟨_,s1,k1,k⟩:=R.dk k
  obtain⟨z,k2,rfl⟩:=R.gG k;have:=fE _ _ _ k1;have:=h _ _ _ k2;simp only[ζ.cnt,ζ.aU];omega) _ _ _ _ _ k
 omega
theorem agG(e k:Nat):Wt ζ.cnt (ai e k):=by
 induction k with
 |zero=>intro s x t h;cases h
 |succ k ih=>exact agP (agN (agF ih))
theorem agL{e:Nat}{ix:PS->R ζ}(h:Wt ζ.cnt ix):Wt φ.wt (gQ e ix):=fun s x t k=>by
 obtain⟨n,s1,k1,k⟩:=R.dk k;have:=ug _ _ _ k1;split at k
 ·obtain⟨_,s2,k2,k⟩:=R.dk k;obtain⟨a,s3,k3,k⟩:=R.dk k;obtain⟨l,s4,k4,k⟩:=R.dk k;obtain⟨_,k5,rfl⟩:=R.gG k;have:=fE _ _ _ k2;have:=h _ _ _ k3;have:=fE _ _ _ k5;split at k4
  ·obtain⟨_,s6,k6,k4⟩:=R.dk k4;obtain⟨b,k7,rfl⟩:=R.gG k4;have:=fE _ _ _ k6;have:=h _ _ _ k7;simp only[φ.wt,ζ.aU];omega
  ·cases k4;simp only[φ.wt,ζ.aU];omega
 ·cases k;simp only[φ.wt,ζ.aU];omega
theorem U9{e:Nat}{ix:PS->R ζ}(h:Wt ζ.cnt ix):Wt (fun x=>x.2.cnt) (sX e ix):=fun s x t k=>by obtain⟨n,s1,k1,k⟩:=R.dk k;obtain⟨_,s2,k2,k⟩:=R.dk k;obtain⟨a,s3,k3,k⟩:=R.dk k;obtain⟨_,k4,rfl⟩:=R.gG k;have:=ug _ _ _ k1;have:=fE _ _ _ k2;have:=h _ _ _ k3;have:=fE _ _ _ k4;dsimp only;omega
theorem TU(a b:List φ):gH (a++b)=gH a+gH b:=by
 induction a with
 |nil=>simp[gH]
 |cons x a ih=>simp only[eK,gH,ih];omega
theorem agQ(a b:List δ):δ.bX (a++b)=δ.bX a+δ.bX b:=by
 induction a with
 |nil=>simp[δ.bX]
 |cons x a ih=>simp only[eK,δ.bX,ih];omega
theorem ae4(a b:List ω):kR (a++b)=kR a+kR b:=by
 induction a with
 |nil=>simp[kR]
 |cons x a ih=>simp only[eK,kR,ih];omega
theorem U7{α:Type}{w:List α->Nat}(iA:w []=0)(hw:∀l x,w (l++[x])=w l+w [x]){e:Nat}{P:PS->R α}(h:∀s x t,P s= .ok x t->w [x]+4*t.l.length<=4*s.l.length):Wt w (ml e P):=fun s x t k=>by
 simp only[ml]at k;split at k
 ·obtain⟨_,k1,rfl⟩:=R.gG k;have:=fE _ _ _ k1;omega
 ·obtain⟨y,s1,k1,k⟩:=R.dk k;obtain⟨l,s2,k2,k⟩:=R.dk k;obtain⟨_,k3,rfl⟩:=R.gG k;have:=h _ _ _ k1;have:=fE _ _ _ k3;have:=Wt.loop (w:=w) (fun x s y t k=>by
   obtain⟨_,s1,k1,k⟩:=R.dk k
   obtain⟨z,k2,rfl⟩:=R.gG k;have:=fE _ _ _ k1;have:=h _ _ _ k2;rw[hw];omega) _ _ _ _ _ k2
  omega
theorem agJ{e:Nat}{pl:PS->R φ}(h:Wt φ.wt pl):∀n l s x t,lP e pl n l s= .ok x t->gH x+4*t.l.length<=gH l+4*s.l.length:=by
 intro n;induction n with
 |zero=>intro l s x t k;cases k;omega
 |succ n ih=>
  intro l s x t k
  obtain⟨_,s1,k1,k⟩:=R.dk k;obtain⟨p,s2,k2,k⟩:=R.dk k;have:=fE _ _ _ k1;have:=h _ _ _ k2;have:=ih _ _ _ _ k;rw[TU]at this;simp only[gH]at this;omega
theorem agI{e:Nat}{ix:PS->R ζ}(h:Wt ζ.cnt ix):Wt δ.wt (ky e ix):=fun s x t k=>by
 have hp:=agL (e:=e) h;dsimp only[ky]at k;split at k
 ·obtain⟨_,s1,k1,k⟩:=R.dk k;obtain⟨p,s2,k2,k⟩:=R.dk k;obtain⟨l,k3,rfl⟩:=R.gG k;have:=fE _ _ _ k1;have:=hp _ _ _ k2;have:=agJ hp _ _ _ _ _ k3;simp only[δ.wt,δ.bX,rH,gH]at*;omega
 split at k
 ·obtain⟨_,s1,k1,k⟩:=R.dk k;obtain⟨p,k2,rfl⟩:=R.gG k;have:=fE _ _ _ k1;have:=U9 h _ _ _ k2;simp only[δ.wt,δ.bX,rH,gH]at*;omega
 split at k
 ·obtain⟨_,s1,k1,k⟩:=R.dk k;obtain⟨p,k2,rfl⟩:=R.gG k;have:=fE _ _ _ k1;have:=ug _ _ _ k2;simp only[δ.wt,δ.bX,rH,gH]at*;omega
 split at k
 ·obtain⟨_,s1,k1,k⟩:=R.dk k;obtain⟨p,s2,k2,k⟩:=R.dk k;obtain⟨_,s3,k3,k⟩:=R.dk k;obtain⟨n,k4,rfl⟩:=R.gG k;have:=fE _ _ _ k1;have:=hp _ _ _ k2;have:=fE _ _ _ k3;have:=ug _ _ _ k4;simp only[δ.wt,δ.bX,rH,gH]at*;omega
 split at k
 ·obtain⟨_,s1,k1,k⟩:=R.dk k;obtain⟨p,k2,rfl⟩:=R.gG k;have:=fE _ _ _ k1;have:=hp _ _ _ k2;simp only[δ.wt,δ.bX,rH,gH]at*;omega
 ·obtain⟨n,s1,k1,k⟩:=R.dk k;obtain⟨_,s2,k2,k⟩:=R.dk k;obtain⟨l,k3,rfl⟩:=R.gG k;have:=ug _ _ _ k1;have:=fE _ _ _ k2;have:=U7 (w:=gH) rfl (fun l x=>TU l [x]) (fun s x t k=>by have:=hp s x t k;simp only[gH];omega) _ _ _ k3;simp only[δ.wt,δ.bX,rH,gH]at*;omega
theorem agO{e:Nat}{ix:PS->R ζ}{blk:PS->R (List δ×List Sp)}(h:Wt ζ.cnt ix)(hb:Wt (fun x=>δ.bX x.1) blk):Wt (fun x=>x.1.wt) (gJ e ix blk):=fun s x t k=>by
 dsimp only[gJ]at k;split at k
 ·obtain⟨_,s1,k1,k⟩:=R.dk k;obtain⟨p,s2,k2,k⟩:=R.dk k;obtain⟨b,k3,rfl⟩:=R.gG k;have:=fE _ _ _ k1;have:=U9 h _ _ _ k2;have:=hb _ _ _ k3;simp only[δ.wt,δ.bX,rH,gH]at*;omega
 split at k
 ·obtain⟨_,s1,k1,k⟩:=R.dk k;obtain⟨p,s2,k2,k⟩:=R.dk k;obtain⟨b,s3,k3,k⟩:=R.dk k;have:=fE _ _ _ k1;have:=ug _ _ _ k2;have:=hb _ _ _ k3;split at k
  ·obtain⟨_,s4,k4,k⟩:=R.dk k;obtain⟨d,k5,rfl⟩:=R.gG k;have:=fE _ _ _ k4;have:=hb _ _ _ k5;simp only[δ.wt,δ.bX,rH,gH]at*;omega
  ·cases k;simp only[δ.wt,δ.bX,rH,gH]at*;omega
 split at k
 ·obtain⟨_,s1,k1,k⟩:=R.dk k;obtain⟨p,s2,k2,k⟩:=R.dk k;obtain⟨_,s3,k3,k⟩:=R.dk k;obtain⟨a,s4,k4,k⟩:=R.dk k;obtain⟨_,s5,k5,k⟩:=R.dk k;obtain⟨c,s6,k6,k⟩:=R.dk k;obtain⟨d,k7,rfl⟩:=R.gG k;have:=fE _ _ _ k1;have:=ug _ _ _ k2;have:=fE _ _ _ k3;have:=h _ _ _ k4;have:=fE _ _ _ k5;have:=h _ _ _ k6;have:=hb _ _ _ k7;simp only[δ.wt,δ.bX,rH,gH]at*;omega
 split at k
 ·obtain⟨_,s1,k1,k⟩:=R.dk k;obtain⟨d,k2,rfl⟩:=R.gG k;have:=fE _ _ _ k1;have:=hb _ _ _ k2;simp only[δ.wt,δ.bX,rH,gH]at*;omega
 split at k
 ·obtain⟨_,s1,k1,k⟩:=R.dk k;obtain⟨b,s2,k2,k⟩:=R.dk k;obtain⟨_,s3,k3,k⟩:=R.dk k;obtain⟨d,k4,rfl⟩:=R.gG k;have:=fE _ _ _ k1;have:=hb _ _ _ k2;have:=fE _ _ _ k3;have:=hb _ _ _ k4;simp only[δ.wt,δ.bX,rH,gH]at*;omega
 ·obtain⟨y,k1,rfl⟩:=R.gG k;obtain⟨z,s2,k2,k⟩:=R.dk k1;obtain⟨_,k3,rfl⟩:=R.gG k;have:=agI h _ _ _ k2;have:=fE _ _ _ k3;dsimp only;omega
theorem agH{e:Nat}{st:PS->R (δ×List (List Sp))}(h:Wt (fun x=>x.1.wt) st):Wt (fun x=>δ.bX x.1) (yy e st):=fun s x t k=>by
 obtain⟨_,s1,k1,k⟩:=R.dk k;obtain⟨l,s2,k2,k⟩:=R.dk k;obtain⟨_,k3,rfl⟩:=R.gG k;have:=fE _ _ _ k1;have:=fE _ _ _ k3;have:=Wt.loop (w:=fun x:List δ×List Sp=>δ.bX x.1) (fun x s y t k=>by
  obtain⟨z,k1,rfl⟩:=R.gG k
  obtain⟨q,s1,k2,k3⟩:=R.dk k1;cases k3;have:=h _ _ _ k2;dsimp only at this⊢;rw[agQ];simp only[δ.bX];omega) _ _ _ _ _ k2
 simp only[δ.bX]at*;omega
theorem U6{e:Nat}{ix:PS->R ζ}(h:Wt ζ.cnt ix):∀k,Wt (fun x=>δ.bX x.1) (bY e ix k)
 |0=>fun s x t e=>by cases e
 |k+1=>agH (agO h (U6 h k))
theorem agK{e:Nat}:∀s x t,ry e s= .ok x t->[x].length+4*t.l.length<=4*s.l.length:=fun s x t k=>by obtain⟨n,s1,k1,k⟩:=R.dk k;obtain⟨_,s2,k2,k⟩:=R.dk k;obtain⟨m,s3,k3,k⟩:=R.dk k;obtain⟨_,k4,rfl⟩:=R.gG k;have:=ug _ _ _ k1;have:=fE _ _ _ k2;have:=U8 _ _ _ k3;have:=fE _ _ _ k4;simp only[List.length_cons,List.length_nil];omega
theorem agM{e:Nat}{blk:PS->R (List δ×List Sp)}(hb:Wt (fun x=>δ.bX x.1) blk):Wt (fun x=>x.1.wt) (u9 e blk):=fun s x t k=>by obtain⟨_,s1,k1,k⟩:=R.dk k;obtain⟨n,s2,k2,k⟩:=R.dk k;obtain⟨_,s3,k3,k⟩:=R.dk k;obtain⟨ps,s4,k4,k⟩:=R.dk k;obtain⟨b,k5,rfl⟩:=R.gG k;have:=fE _ _ _ k1;have:=ug _ _ _ k2;have:=fE _ _ _ k3;have:=U7 (w:=mB) rfl (fun l x=>by simp) agK _ _ _ k4;have:=hb _ _ _ k5;simp only[ω.wt]at*;omega
theorem Nr{e:Nat}{ts:List Tok}{x:List ω×List (List Sp)}{t:PS}(k:u_ e ts= .ok x t):kR x.1<=4*ts.length:=by
 have:=Wt.loop (w:=fun x:List ω×List (List Sp)=>kR x.1) (fun x s y t k=>by
  obtain⟨z,k1,rfl⟩:=R.gG k
  have:=agM (U6 (agG e _) _) _ _ _ k1;dsimp only at this⊢;rw[ae4];simp only[kR];omega) _ _ _ _ _ k
 simp only[kR]at this;omega
end Go.ab
namespace Go.ab.Tz
open Go.ab
variable{u:Nat}
attribute [local simp] exec eG eu fz aF d_ fQ fe bq gN bT gF gS hU hZ mD AV.cells newVar hH rd wr gg single fy bF er dL κ bf RV.get ba dU jy
attribute [local simp] vg u6
theorem PY{C:iT}{f:FuncId}{v w:AV}{m:Mem}(h:exp m.ε.length (C.bD f) v=exp m.ε.length (C.bD f) w):aS C (.fn (.func f) [] []) [v] m=aS C (.fn (.func f) [] []) [w] m:=by
 apply Option.ext;intro r;rw[qO,qO];have:∀k,cv C k (.fn (.func f) [] []) [v] m=cv C k (.fn (.func f) [] []) [w] m:=fun k=>by
  cases k with
  |zero=>rfl
  |succ k=>simp only[cv,body,List.nil_append,List.append_nil,ah,aw,h]
 simp only[this]
theorem ω.EH{x:ω}(h:x.Ok):Fx x.av:=by have h1:=Dv.list x.cp (bJ.of aC.av x.ay fun y _=>aC.fx y);rw[fu h.2.1]at h1;have h2:=Dv.list x.cb (Ig h.2.2.2.2.1);rw[fu h.2.2.2.1]at h2;exact .agg (.cons (.str _) (.cons h1 (.cons h2 .nil)))
theorem cU.prog(e n:Nat):cU (u9 e (bY e (ai e n) n)):=(cU.take _ _).bind fun _=>(jx e).bind fun _=>(cI e _).bind fun _=>(El e ((jx e).bind fun _=>(cI e _).bind fun _=>(Em e).bind fun _=>(cI e _).map)).bind fun _=>(tC e (fl e n) n).map
theorem TY(l:List ω):(l.map ω.av).all (shaped true 3)=true:=by simp[lv,ω.av,shaped,Function.comp]
def cN(s:List Nat):(List ω×List (List Sp))×Int×Int:=
 if 65536<s.length then(([],[]),0,11)else match u_ s.length (bG s)with
  | .no w=>(([],[]),(w:Int),4)
  | .ok x _=>if kG x.1=0 then(x,0,0)else(([],[]),(s.length:Int),kG x.1)
def yO(s:List Nat):AV:= .aO [.agg [.list (Ξ (cN s).1.1) ((cN s).1.1.map ω.av)],.list (Ξ (cN s).1.2) (Sp.lists (cN s).1.2),.n (cN s).2.1,.n (cN s).2.2]
theorem f124(s:List Nat)(hs:dJ s)(hl:s.length<1000000000)(m:Mem):kf u 124 [.str s] m=some (yO s,m):=by
 refine D7 (g:=EV) rfl rfl rfl ?_;simp only[ah,aw,exp,EV,c124];refine χ (fun st=>st.e 0= .str s/\st.e 2= .Ω 2 0 0/\st.q 2=some (0,.cells [.list .nil []])/\st.q 7=none/\st.mem= {ε:=m.ε,η:=[]}) (by simp[aQ]) fun s1 ⟨h1,h2,h3,h4,h5⟩=>?_;by_cases ma:65536<s.length
 ·have oJ:(65536:Int)<s.length:=by omega
  simp[h1,h2,h3,h4,h5,oJ,cX,yO,cN,ma];rfl
 have oJ:¬(65536:Int)<s.length:=by omega
 refine χ (fun st=>st.e 0= .str s/\st.e 2= .Ω 2 0 0/\st.q 2=some (0,.cells [.list .nil []])/\st.q 7=none/\st.mem= {ε:=m.ε,η:=[]}) (by simp[h1,h2,h3,h4,h5,oJ]) fun s1 ⟨h1,h2,h3,h4,h5⟩=>?_;have MQ:=fun m=>f130 (u:=u) s m;have Uf:=fun m=>f187 (u:=u) s hs hl m;have Θ:=agu hs (by omega);have wv:=Im s;generalize Y9:(if bG s=[]then Γ.nil else Γ.any)=ct at Uf;have hc:aJ ct:=by rw[<-Y9];split<;>simp[aJ]
 let K:St->Prop:=fun st=>st.e 0= .str s/\st.e 2= .Ω 2 0 0/\st.q 2=some (0,.cells [.list .nil []]);obtain⟨B,BZ⟩:∃B,B=m.ε++[θ.cells []]:=⟨_,rfl⟩;have Yt:B.length=m.ε.length+1:=by rw[BZ];simp
 obtain⟨p,Cw⟩:∃p,p=m.ε.length:=⟨_,rfl⟩;have hp:p<B.length:=by omega
 have hB:∀cs,B.set p (.cells cs)=m.ε++[.cells cs]:=fun cs=>by rw[BZ,Cw];simp
 let K2:St->Prop:=fun st=>K st/\st.e 6= .μ p 0;refine χ (fun st=>K2 st/\st.q 7=none/\st.mem= {ε:=B.set p (.cells [.str s,.list ct ((bG s).map Tok.a_),.n 0,.n (-1),.eU]),η:=[]}) (by
  rw[hB]
  simp[K2,K,h1,h2,h3,h4,h5,MQ,Uf,cX,Mem.push,Mem.ρ,ρ,Cw];simp[fC,Function.comp,Tok.a_,ρ,cL]) fun s1 ⟨⟨⟨h1,h2,h3⟩,h6⟩,h4,h5⟩=>?_
 let K3:St->Prop:=fun st=>K2 st/\st.e 7= .Ω 7 0 0;refine χ (fun st=>K3 st/\st.q 7=some (0,.cells [.list .nil []])/\st.mem= {ε:=B.set p (.cells [.str s,.list ct ((bG s).map Tok.a_),.n 0,.n (-1),.eU]),η:=[]}) (by simp[K3,K2,K,h1,h2,h3,h4,h5,h6,aQ]) fun s1 ⟨⟨⟨⟨h1,h2,h3⟩,h6⟩,h7⟩,h4,h5⟩=>?_;refine χ (fun st=>K3 st/\st.q 7=some (0,.cells [.list .nil []])/\st.e 8= .list .nil []/\st.mem= {ε:=B.set p (.cells [.str s,.list ct ((bG s).map Tok.a_),.n 0,.n (-1),.eU]),η:=[]}) (by simp[K3,K2,K,h1,h2,h3,h4,h5,h6,h7]) fun s1 ⟨hK,h4,h8,h5⟩=>?_;have r0:cV s (bG s) ct .eU [.str s,.list ct ((bG s).map Tok.a_),.n 0,.n (-1),.eU] (.r ⟨0,bG s⟩):=⟨0,-1,rfl,Nat.zero_le _,rfl,rfl,rfl⟩;generalize Kp:[AV.str s,.list ct ((bG s).map Tok.a_),.n 0,.n (-1),.eU]=pP at*;have afj:=fun(a:RS) (h:a.sz<(bG s).length+1)=>f188 (u:=u) (s:=s) (all:=bG s) (c:=ct) (by omega) Θ hc a h;have jB:=cU.prog s.length ((bG s).length+1);obtain⟨a1,uB⟩:∃a1,a1=RS.r ⟨0,bG s⟩:=⟨_,rfl⟩;have Kg:a1.sz=(bG s).length:=by rw[uB];rfl
 generalize hP:u9 s.length (bY s.length (ai s.length ((bG s).length+1)) ((bG s).length+1))=P at*;let F:List ω×List (List Sp)->PS->R (List ω×List (List Sp)):=fun l t=>(P t).map fun x=>(l.1++[x.1],l.2++[x.2]);let cc:PS->Bool:=fun t=>!t.l.isEmpty;let R2:St->List ω->List (List Sp)->List AV->RS->Prop:=fun st lo li ξ b=>K3 st/\∃c4 c5 ext tt dW,st.q 7=some (0,.cells [.list c4 (lo.map ω.av)])/\st.e 8= .list c5 (Sp.lists li)/\st.mem=(aY B p ξ ext tt)/\(∀i∈tt,i=p\/B.length<=i)∧
  Row B.length (B.set p (.cells ξ)++ext) 3 70 c4 lo.length/\Row B.length (B.set p (.cells ξ)++ext) 1 257 c5 li.length/\(lo=[]->c4= .nil)/\(li=[]->c5= .nil)/\(∀x∈lo,x.Ok)/\cV s (bG s) ct dW ξ b
 refine aZ (fun st=>∃lo li ξ b,R2 st lo li ξ b/\Δ (cK cc F (a1.sz+1) ([],[])) a1 (lo,li) b) ?_ fun s3 ⟨lo,li,ξ,b,⟨⟨⟨⟨h1,h2,h3⟩,h6⟩,h7⟩,c4,c5,ext,tt,dW,q2,q3,q4,q5,q6,q7,q8,q9,gx,mU⟩,hg⟩=>?_
 ·let I:Nat->St->Prop:=fun i st=>∃lo li ξ b,R2 st lo li ξ b/\lo.length<=i/\li.length<=i/\b.sz<=a1.sz/\(b.sz+i<=a1.sz\/∃w,b= .w w)/\∀y b',Δ (cK cc F (a1.sz+1-i) (lo,li)) b y b'->Δ (cK cc F (a1.sz+1) ([],[])) a1 y b';have hI:I 0 s1:=⟨[],[],pP,a1,⟨hK,.nil,.nil,[],[],.eU,h4,h8,h5.trans (by simp),by simp,Row.nil,Row.nil,fun _=>rfl,fun _=>rfl,by simp,by rw[uB];exact r0⟩,bQ _,bQ _,bQ _,.inl (bQ _),fun _ _ h=>h⟩;refine κ.block (κ.ki (I:=I) (a1.sz+1) hI fun i st hi τ=>?_);obtain⟨lo,li,ξ,b,⟨⟨⟨⟨h1,h2,h3⟩,h6⟩,h7⟩,c4,c5,ext,tt,dW,q2,q3,q4,q5,q6,q7,q8,q9,gx,mU⟩,fB,jU,fb,l8,gX⟩:=τ;obtain⟨k2,wr,fw,fo,dh⟩:=mU;have gp:(B.set p (θ.cells ξ)++ext)[p]?=some (.cells [.str s,.list ct ((bG s).map Tok.a_),.n k2,.n wr,dW]):=by rw[eg (by simpa using hp),fw];simp[hp]
  have mU:cV s (bG s) ct dW ξ b:=⟨k2,wr,fw,fo,dh⟩;have out:∀bA:St,K3 bA/\bA.q 7=some (0,.cells [.list c4 (lo.map ω.av)])/\bA.e 8= .list c5 (Sp.lists li)/\bA.mem=(aY B p ξ ext tt)->R2 bA lo li ξ b:=fun bA ⟨m1,m2,m3,m4⟩=>⟨m1,c4,c5,ext,tt,dW,m2,m3,m4,q5,q6,q7,q8,q9,gx,mU⟩;unfold Ss;cases b with
  |w w=>
   have hw:¬wr<0:=by have:wr=(w:Int):=dh;omega
   refine κ.done (.exit 0) (fun bA=>K3 bA/\bA.q 7=some (0,.cells [.list c4 (lo.map ω.av)])/\bA.e 8= .list c5 (Sp.lists li)/\bA.mem=(aY B p ξ ext tt)) (by simp[K3,K2,K,h1,h2,h3,h6,h7,q2,q3,q4,gp,hw]) fun s' hh=> .inr ⟨by simp,.inl ⟨rfl,.inl ⟨rfl,lo,li,ξ,.w w,out s' hh,gX _ _ rfl⟩⟩⟩
  |r sb=>
   obtain⟨rfl,uH,-⟩:=dh
   have l8:(RS.r sb).sz+i<=a1.sz:=l8.elim id fun⟨w,h⟩=>by cases h
   rw[show a1.sz+1-i=(a1.sz-i)+1 by omega]at gX;have KW:=congrArg mB uH;simp only[List.length_drop]at KW;by_cases tJ:sb.l=[]
   ·have jR:¬k2<(bG s).length:=by rw[tJ]at KW;simp at KW;omega
    refine κ.done (.exit 0) (fun bA=>K3 bA/\bA.q 7=some (0,.cells [.list c4 (lo.map ω.av)])/\bA.e 8= .list c5 (Sp.lists li)/\bA.mem=(aY B p ξ ext tt)) (by simp[K3,K2,K,h1,h2,h3,h6,h7,q2,q3,q4,gp,jR]) fun s' hh=> .inr ⟨by simp,.inl ⟨rfl,.inl ⟨rfl,lo,li,ξ,.r sb,out s' hh,gX _ _ (Δ.u3 (show(!sb.l.isEmpty)=false by rw[tJ];rfl))⟩⟩⟩
   ·have jR:k2<(bG s).length:=by have:0<sb.l.length:=List.length_pos_iff.2 tJ;omega
    have aah:(!sb.l.isEmpty)=true:=by cases h:sb.l with
     |nil=>exact absurd h tJ
     |cons a l=>rfl
    obtain⟨_,⟨x,sp⟩,aV,rj,b2,T2,k3,r3,bE,⟨rfl,hx⟩,jW⟩:=(afj (.r sb) (by omega)).at ext hp mU tt;dsimp only at k3 hx;have bm:=bE.sz jB.nk;have pv:(B.set p (θ.cells aV)).length=B.length:=by simp
    have HG:(lo.map ω.av).length=lo.length:=dq _;have HL:(Sp.lists li).length=li.length:=by rw[Sp.yz,dq]
    have p6:Row (B.set p (θ.cells aV)).length (B.set p (.cells aV)++ext) 3 70 c4 (lo.map ω.av).length:=by rw[HG,pv];exact Row.swap q6 (by simp) (by simp)
    have p7:Row (B.set p (θ.cells aV)).length (B.set p (.cells aV)++ext) 1 257 c5 (Sp.lists li).length:=by rw[HL,pv];exact Row.swap q7 (by simp) (by simp)
    have n1:ρ x.av=x.av:=(ω.EH hx).ρ;have n2:ρ (.list (Ξ sp) (Sp.ψ sp))= .list (Ξ sp) (Sp.ψ sp):=(Dv.list (Ξ sp) (Sp.zB sp)).ρ;obtain⟨rW,sg,qX,qn,KB⟩:=oT (bytes:=64) p6 (TY lo) (show shaped true 3 x.av=true by rfl) n1 (by omega) (by omega) (by omega);obtain⟨Bm,l4,uC,CD,KD⟩:=oT (bytes:=24) (KB.rows 1 257 _ _ (by decide) p7) (Te li) (show shaped false 1 (.list (Ξ sp) (Sp.ψ sp))=true by rfl) n2 (by omega) (by omega) (by omega);have CC:=KD.rows 3 70 _ _ (by decide) qn;rw[pv,HG]at CC;rw[pv,HL]at CD;have iy:Sp.lists (li++[sp])=Sp.lists li++[.list (Ξ sp) (Sp.ψ sp)]:=by simp[Sp.yz]
    have K_:(lo++[x]).map ω.av=lo.map ω.av++[x.av]:=by simp
    refine κ.done .normal (fun bA=>K3 bA/\bA.q 7=some (0,.cells [.list rW ((lo++[x]).map ω.av)])/\bA.e 8= .list Bm (Sp.lists (li++[sp]))/\bA.mem=(aY B p aV l4 T2)) (by
     have CV:∀m:Mem,m.ρ (.agg [.str x.name,.list x.cp (x.ay.map aC.av),.list x.cb (δ.ψ x.body)])= .agg [.str x.name,.list x.cp (x.ay.map aC.av),.list x.cb (δ.ψ x.body)]:=fun _=>n1
     have CW:∀m:Mem,m.ρ (.list (Ξ sp) (Sp.ψ sp))= .list (Ξ sp) (Sp.ψ sp):=fun _=>n2;have ua:shaped true 3 (.agg [.str x.name,.list x.cp (x.ay.map aC.av),.list x.cb (δ.ψ x.body)])=true:=rfl;have Ie:shaped false 1 (.list (Ξ sp) (Sp.ψ sp))=true:=rfl;simp only[ω.av]at k3 qX;simp[K3,K2,K,h1,h2,h3,h6,h7,q2,q3,q4,gp,jR,k3,ua,Ie,CV,CW,ω.av,qX,uC,iy];done) fun s' ⟨m1,m2,m3,m4⟩=> .inl ⟨rfl,?_,lo++[x],li++[sp],aV,b2,⟨m1,rW,Bm,l4,T2,rj,m2,m3,m4,fun i hi=>(jW i hi).elim (q5 i) .inl,by simpa using CC,by simpa using CD,fun h=>by simp at h,fun h=>by simp at h,fun y hy=>(eL.1 hy).elim (gx y) fun h=>by rw[lV.1 h];exact hx,r3⟩,by simp;omega,by simp;omega,by omega,?_,fun y b' hg=>gX y b' (Δ.u4 aah (bE.map _) (by rw[show a1.sz+1-(i+1)=a1.sz-i by omega]at hg;exact hg))⟩
    ·omega
    ·cases b2 with
     |w w=>exact .inr ⟨w,rfl⟩
     |r t=>
      refine .inl ?_
      simp only[Δ]at bE;cases ny:P sb with
      |no w=>rw[ny]at bE;cases bE
      |ok y t'=>
       rw[ny]at bE
       obtain⟨_,nz⟩:=bE;cases nz;have:=jB _ _ _ ny;simp only[RS.sz]at l8⊢;omega
 ·obtain⟨k2,wr,fw,fo,dh⟩:=mU;have gp:(B.set p (θ.cells ξ)++ext)[p]?=some (.cells [.str s,.list ct ((bG s).map Tok.a_),.n k2,.n wr,dW]):=by rw[eg (by simpa using hp),fw];simp[hp]
  have cE:∃bs,B.set p (.cells ξ)++ext=m.ε++bs:=⟨_,by rw[hB,cr]⟩;have lL:∀i∈tt,m.ε.length<=i:=fun i hi=>(q5 i hi).elim (fun h=>by omega) fun h=>by omega
  have Cy:∀y,u_ s.length (bG s)=y->cK cc F (a1.sz+1) ([],[]) ⟨0,bG s⟩=y:=fun y h=>by rw[<-h,Kg];simp only[u_,hP];rfl
  rw[uB]at hg;simp only[Δ]at hg;rw[<-uB]at hg;cases ql:u_ s.length (bG s)with
  |no w=>
   rw[Cy _ ql]at hg
   cases hg;have iA:wr=(w:Int):=dh;have hw:0<=wr:=by omega
   have hX:cN s=(([],[]),(w:Int),4):=by simp only[cN,ma,if_false,ql]
   simp[h1,h2,h3,h6,h7,q2,q3,q4,gp,hw,cX,b_,cj,tD,yO,hX];exact⟨cE,lL,by rw[iA];rfl⟩
  |ok x t=>
   rw[Cy _ ql]at hg
   obtain⟨rfl,rfl⟩:=hg;obtain⟨rfl,-,-⟩:=dh;have dp:∀{α:Type} (l:List α) (c:Γ) (X:List θ) (sz:Nat) (e:TypeId),Row B.length X sz e c l.length->(l=[]->c= .nil)->c.exp 0 false=Ξ l:=fun l c X sz e hr hn=>by
    cases l with
    |nil=>rw[hn rfl];rfl
    |cons a l=>
     rcases hr with⟨_,h⟩|⟨t,rfl,_⟩
     ·cases h
     ·rfl
   have e4:=dp _ _ _ _ _ q6 q8;have e5:=dp _ _ _ _ _ q7 q9;have tN:=Nr ql;have bo:=Dv.list c4 (bJ.of ω.av lo fun y hy=>ω.EH (gx y hy));rw[e4]at bo;have Um:∀m,kf u 43 [.agg [.list c4 (lo.map ω.av)]] m=some (.n (kG lo),m):=fun m=>by
    refine Eq.trans (PY (w:=dA (Ξ lo) lo) ?_) (f43 (Ξ lo) (ib lo) lo gx (by dsimp only at tN;omega) m)
    ·have h1:=(rz m.ε.length false (.agg [.list c4 (lo.map ω.av)]) (Dv.agg (.cons bo .nil)).1).2.2.2;have iu:=Dv.list (Ξ lo) (bJ.of ω.av lo fun y hy=>ω.EH (gx y hy));rw[zh]at iu;have h2:=(rz m.ε.length false (dA (Ξ lo) lo) (Dv.agg (.cons iu .nil)).1).2.2.2;show exp m.ε.length false _=exp m.ε.length false _;rw[h1,h2,(Dv.agg (.cons bo .nil)).2,(show Dv (dA (Ξ lo) lo) _ from Dv.agg (.cons iu .nil)).2]
   by_cases c_:kG lo=0
   ·have hX:cN s=((lo,li),0,0):=by simp only[cN,ma,if_false,ql,c_,if_true]
    have yf:=Dv.list c5 (Sp.BQ li);rw[e5]at yf;have hv:Dv (.aO [.agg [.list c4 (lo.map ω.av)],.list c5 (Sp.lists li),.n 0,.n 0]) (yO s):=by rw[yO,hX];exact .aO (.cons (.agg (.cons bo .nil)) (.cons yf (.cons (.int _ _) (.cons (.int _ _) .nil))))
    simp[h1,h2,h3,h6,h7,q2,q3,q4,gp,Um,c_];exact⟨cE,lL,hv.ax _ _ _⟩
   ·have pn:(kG lo !=0)=true:=by simpa using c_
    have hX:cN s=(([],[]),(s.length:Int),kG lo):=by simp only[cN,ma,if_false,ql,c_]
    simp[h1,h2,h3,h6,h7,q2,q3,q4,gp,Um,pn,cX,yO,hX];exact⟨cE,lL,rfl⟩
end Go.ab.Tz
