import Derived.Test.YtiigojkfojnedaaGreatDoorQKu
import Derived.Test.YtiigojkfojnedaaGreatDoorQHm
set_option linter.unusedVariables false
set_option linter.unusedSimpArgs false
set_option linter.unusedSectionVars false
set_option maxRecDepth 100000
set_option maxHeartbeats 8000000
open List renaming all_map->mK,getElem?_append_left->dX,take_of_length_le->dY,length_map->dd,append_assoc->cj,set_append_left->lL,mem_singleton->kX,mem_append->dE,cons_append->eO,length->nr,map_cons->ay,map_nil->aA
open Nat renaming le_refl->bF
namespace Go.ah.Tz
open Go.ah
variable{u:Nat}
attribute [local simp] exec ed dP eX aC dQ ft eL ζ gg τ fW gy gH gI lf AV.cells newVar gE rd wr fK single eV bY ek dF μ aY RV.get aV dB iE
attribute [local simp] vd u2
theorem Va(l:List δ):(δ.Δ l).all (shaped true 14)=true:=by rw[δ.eo];simp[mK,shaped,δ.av,δ.jT,Function.comp]
theorem af6(l:List Sp):(Sp.Δ l).all (shaped true 3)=true:=by
 rw[Sp.eo,mK];simp only[List.all_eq_true,Function.comp]
 rintro⟨f,t,i⟩ _
 rfl
theorem Sp.len(x:Sp):x.cells.length=3:=by cases x;rfl
theorem δ.SQ{l:List δ}{x:δ}(h:δ.c7 l)(hx:x.Ok):δ.c7 (l++[x]):=by
 induction l with
 |nil=>exact⟨hx,trivial⟩
 |cons a l ih=>exact⟨h.1,ih h.2⟩
theorem T_(l:List δ)(x:δ):δ.Δ (l++[x])=δ.Δ l++[.agg x.cells]:=by simp[δ.eo,δ.av]
theorem af9(l:List Sp)(x:Sp):Sp.Δ (l++[x])=Sp.Δ l++[.agg x.cells]:=by simp[Sp.eo]
section
variable{s:List Nat}{all:List Tok}{c:χ}(hl:all.length<1000000000)(ab:∀t∈all,t.Ok)(hc:aJ c)
include hl ab hc
theorem f231{n k:Nat}(Zu:k+1<=n)(hb:∀a:RS,a.sz<k->tc u s all c 231 [] (bT s.length (au s.length n) k) Eb a)(a:RS)(JZ:a.sz<k+1):tc u s all c 231 [] (bT s.length (au s.length n) (k+1)) Eb a:=by
 intro B p cs item T hp h;show∃v x ξ dM b T',_/\_/\Θ (yl s.length (gF s.length (au s.length n) (bT s.length (au s.length n) k))) a x b/\_;have afc:=fun(a:RS) (h2:a.sz<k+1)=>f271 (u:=u) (n:=n) (k:=k) hl ab hc hb a (by omega) h2;have jf:cD (gF s.length (au s.length n) (bT s.length (au s.length n) k)):=Bt _ (e_ _ _) (tA _ (e_ _ _) _);generalize hP:gF s.length (au s.length n) (bT s.length (au s.length n) k)=P at*;obtain⟨_,w1,aX,a1,k1,r1,bQ,rfl⟩:=f226 (u:=u) (item:=item) [123] hl ab a B p cs hp h;have s1:=bQ.sz (cr _ _);let F:List δ×List Sp->PS->R (List δ×List Sp):=fun l t=>(t_ s.length P t).map fun x=>(l.1++[x.1],l.2++[x.2]);let cc:PS->Bool:=fun t=>!t.aB [125];have dj:μ (C u).gl (aU (C u)) Ox {env:=[.ν p 0],loc:=[],mem:= {ε:=B.set p (.cells cs),θ:=[]}} fun r=>(∀i,r.1≠ .exit i)/\∃lo li c4 c5 ξ ext dM b,ζ r.2.env 2= .list c4 (δ.Δ lo)/\ζ r.2.env 3= .list c5 (Sp.Δ li)/\r.2.mem.ε=B.set p (.cells ξ)++ext/\(∀i∈r.2.mem.θ,i=p\/B.length<=i)∧
   c4.exp 0 false=Φ lo/\c5.exp 0 false=Φ li/\δ.c7 lo/\cE s all c dM ξ b/\Θ (yl s.length P) a (lo,li) b:=by
  refine ω (fun st=>ζ st.env 0= .ν p 0/\st.mem= {ε:=B.set p (.cells cs),θ:=[]}) (by simp) fun s1 ⟨h1,h2⟩=>?_;refine ω (fun st=>ζ st.env 0= .ν p 0/\ζ st.env 4= .list .nil []/\st.mem= {ε:=B.set p (.cells cs),θ:=[]}) (by simp[h1,h2]) fun s1 ⟨h1,h3,h2⟩=>?_;refine ω (fun st=>ζ st.env 0= .ν p 0/\ζ st.env 4= .list .nil []/\ζ st.env 5= .list .nil []/\st.mem= {ε:=B.set p (.cells cs),θ:=[]}) (by simp[h1,h2,h3]) fun s1 ⟨h1,h3,h4,h2⟩=>?_;refine ω (fun st=>ζ st.env 0= .ν p 0/\ζ st.env 4= .list .nil []/\ζ st.env 5= .list .nil []/\st.mem= {ε:=B.set p (.cells aX),θ:=[]}) (by simp[h1,h2,h3,h4,k1]) fun s1 ⟨h1,h3,h4,h2⟩=>?_;refine ω (fun st=>st=s1) (by simp) fun s2 hs=>?_;subst hs;let R2:St->List δ->List Sp->List AV->RS->Prop:=fun st lo li ξ b=>ζ st.env 0= .ν p 0/\∃c4 c5 ext tt dM,ζ st.env 4= .list c4 (δ.Δ lo)/\ζ st.env 5= .list c5 (Sp.Δ li)/\st.mem= {ε:=B.set p (.cells ξ)++ext,θ:=tt}/\(∀i∈tt,i=p\/B.length<=i)∧
   Row B.length (B.set p (.cells ξ)++ext) 14 66 c4 lo.length/\Row B.length (B.set p (.cells ξ)++ext) 3 198 c5 li.length/\(lo=[]->c4= .nil)/\(li=[]->c5= .nil)/\δ.c7 lo/\cE s all c dM ξ b
  let I:Nat->St->Prop:=fun i st=>∃lo li ξ b,R2 st lo li ξ b/\lo.length<=i/\li.length<=i/\b.sz<=a1.sz/\(b.sz+i<=a1.sz\/∃w,b= .w w)/\∀y b',Θ (cw cc F (a1.sz+1-i) (lo,li)) b y b'->Θ (cw cc F (a1.sz+1) ([],[])) a1 y b';have hI:I 0 s2:=⟨[],[],aX,a1,⟨h1,.nil,.nil,[],[],item,h3,h4,h2.trans (by simp),by simp,Row.nil,Row.nil,fun _=>rfl,fun _=>rfl,trivial,r1⟩,bF _,bF _,bF _,.inl (bF _),fun _ _ h=>h⟩;have hlen:=r1.sz;refine bc (fun st=>∃lo li ξ b,R2 st lo li ξ b/\Θ (cw cc F (a1.sz+1) ([],[])) a1 (lo,li) b) ?_ fun s3 ⟨lo,li,ξ,b,⟨q1,c4,c5,ext,tt,dM,q2,q3,q4,q5,q6,q7,q8,q9,fZ,jo⟩,hg⟩=>?_
  ·refine μ.block (μ.jt (I:=I) (a1.sz+1) hI fun i st hi ψ=>?_);obtain⟨lo,li,ξ,b,⟨q1,c4,c5,ext,tt,dM,q2,q3,q4,q5,q6,q7,q8,q9,fZ,jo⟩,fz,jJ,eU,lQ,gU⟩:=ψ;have Qq:∀br:St,ζ br.env 0= .ν p 0/\ζ br.env 4= .list c4 (δ.Δ lo)/\ζ br.env 5= .list c5 (Sp.Δ li)/\br.mem= {ε:=B.set p (.cells ξ)++ext,θ:=tt}->R2 br lo li ξ b:=fun br ⟨m1,m2,m3,m4⟩=>⟨m1,c4,c5,ext,tt,dM,m2,m3,m4,q5,q6,q7,q8,q9,fZ,jo⟩;obtain⟨k2,wr,fp,eF,cV⟩:=jo;have gp:(B.set p (κ.cells ξ)++ext)[p]?=some (.cells [.str s,.list c (all.map Tok.ba),.int .i64 k2,.int .i64 wr,dM]):=by rw[dX (by simpa using hp),fp];simp[hp]
   have jo:cE s all c dM ξ b:=⟨k2,wr,fp,eF,cV⟩;unfold R5;cases b with
   |w w=>
    have hw:¬wr<0:=by have:wr=(w:Int):=cV;omega
    refine μ.done (.exit 0) (fun br=>ζ br.env 0= .ν p 0/\ζ br.env 4= .list c4 (δ.Δ lo)/\ζ br.env 5= .list c5 (Sp.Δ li)/\br.mem= {ε:=B.set p (.cells ξ)++ext,θ:=tt}) (by simp[q1,q2,q3,q4,gp,hw]) fun s' hh=> .inr ⟨by simp,.inl ⟨rfl,.inl ⟨rfl,lo,li,ξ,.w w,Qq s' hh,gU _ _ rfl⟩⟩⟩
   |r sb=>
    obtain⟨rfl,-,-⟩:=cV
    have lQ:(RS.r sb).sz+i<=a1.sz:=lQ.elim id fun⟨w,h⟩=>by cases h
    rw[show a1.sz+1-i=(a1.sz-i)+1 by omega]at gU;have qb:=fun t hb T=>A5 (u:=u) hl [125] ext hp jo t hb T;cases bN:(RS.r sb).aB [125]with
    |true=>
     have qb:=qb _ bN
     refine μ.done (.exit 0) (fun br=>ζ br.env 0= .ν p 0/\ζ br.env 4= .list c4 (δ.Δ lo)/\ζ br.env 5= .list c5 (Sp.Δ li)/\br.mem= {ε:=B.set p (.cells ξ)++ext,θ:=tt}) (by simp[q1,q2,q3,q4,gp,qb]) fun s' hh=> .inr ⟨by simp,.inl ⟨rfl,.inl ⟨rfl,lo,li,ξ,.r sb,Qq s' hh,gU _ _ (Θ.uX (show(!sb.aB [125])=false by rw[show sb.aB [125]=true from bN];rfl))⟩⟩⟩
    |false=>
     have qb:=qb _ bN
     obtain⟨_,⟨x,sp⟩,aW,qW,b2,T2,k3,r3,bz,⟨rfl,hx⟩,jK⟩:=(afc (.r sb) (by omega)).at ext hp jo tt;dsimp only at k3 hx;have qU:=δ.jT x;have zY:x.cells.take 14=x.cells:=dY (by omega);have ij:=Sp.len sp;have aal:sp.cells.take 3=sp.cells:=dY (by omega);have bh:=bz.sz (Jo _ jf).mQ;have pJ:(B.set p (κ.cells aW)).length=B.length:=by simp
     have p6:Row (B.set p (κ.cells aW)).length (B.set p (.cells aW)++ext) 14 66 c4 (δ.Δ lo).length:=by rw[δ.eo,dd,pJ];exact Row.swap q6 (by simp) (by simp)
     have p7:Row (B.set p (κ.cells aW)).length (B.set p (.cells aW)++ext) 3 198 c5 (Sp.Δ li).length:=by rw[Sp.eo,dd,pJ];exact Row.swap q7 (by simp) (by simp)
     have Hs:(δ.Δ lo).length=lo.length:=by rw[δ.eo,dd]
     have Hx:(Sp.Δ li).length=li.length:=by rw[Sp.eo,dd]
     have n1:φ (.agg x.cells)= .agg x.cells:=(Dv.agg (δ.fx x hx)).φ;have n2:φ (.agg sp.cells)= .agg sp.cells:=(Dv.agg (Sp.fx sp)).φ;have tZ:shaped true 14 (.agg x.cells)=true:=by simp[shaped,qU]
     have H2:shaped true 3 (.agg sp.cells)=true:=by simp[shaped,ij]
     obtain⟨rL,rS,qN,pQ,Ko⟩:=qf (bytes:=216) p6 (Va lo) tZ n1 (by omega) (by omega) (by omega);obtain⟨Bb,lN,uB,Ct,Kp⟩:=qf (bytes:=40) (Ko.rows 3 198 _ _ (by decide) p7) (af6 li) H2 n2 (by omega) (by omega) (by omega);have Cs:=Kp.rows 14 66 _ _ (by decide) pQ;rw[pJ,Hs]at Cs;rw[pJ,Hx]at Ct;have ak:∀(c:χ) (m:Nat) (X:List κ) (sz:Nat) (e:TypeId),Row B.length X sz e c (m+1)->c≠ .nil:=fun c m X sz e hr=>by
      rcases hr with⟨_,h⟩|⟨t,rfl,_⟩
      ·omega
      ·exact fun h=>by cases h
     refine μ.done .normal (fun br=>ζ br.env 0= .ν p 0/\ζ br.env 4= .list rL (δ.Δ (lo++[x]))/\ζ br.env 5= .list Bb (Sp.Δ (li++[sp]))/\br.mem= {ε:=B.set p (.cells aW)++lN,θ:=T2}) (by
      have CP:∀m:Mem,m.φ (.agg x.cells)= .agg x.cells:=fun _=>n1
      have CQ:∀m:Mem,m.φ (.agg sp.cells)= .agg sp.cells:=fun _=>n2;simp[q1,q2,q3,q4,gp,qb,k3,qU,zY,ij,aal,tZ,H2,CP,CQ,qN,uB,T_,af9,dm,dy,tB]) fun s' ⟨m1,m2,m3,m4⟩=> .inl ⟨rfl,?_,lo++[x],li++[sp],aW,b2,⟨m1,rL,Bb,lN,T2,qW,m2,m3,m4,fun i hi=>(jK i hi).elim (q5 i) .inl,by simpa using Cs,by simpa using Ct,fun h=>by simp at h,fun h=>by simp at h,δ.SQ fZ hx,r3⟩,by simp;omega,by simp;omega,by omega,?_,fun y b' hg=>gU y b' (Θ.uY (show(!sb.aB [125])=true by rw[show sb.aB [125]=false from bN];rfl) (bz.map _) (by rw[show a1.sz+1-(i+1)=a1.sz-i by omega]at hg;exact hg))⟩
     ·omega
     ·cases b2 with
      |w w=>exact .inr ⟨w,rfl⟩
      |r t=>
       refine .inl ?_
       simp only[Θ]at bz;cases oe:t_ s.length P sb with
       |no w=>rw[oe]at bz;cases bz
       |ok y t'=>
        rw[oe]at bz
        obtain⟨_,mW⟩:=bz;cases mW;have:=Jo _ jf _ _ _ oe;simp only[RS.sz]at lQ⊢;omega
  ·obtain⟨_,w2,aW,b2,k2,r2,cz,rfl⟩:=(f226 (u:=u) (item:=dM) [125] hl ab b).at ext hp jo;have db:∀{α:Type} (l:List α) (c:χ) (X:List κ) (sz:Nat) (e:TypeId),Row B.length X sz e c l.length->(l=[]->c= .nil)->c.exp 0 false=Φ l:=fun l c X sz e hr hn=>by
    cases l with
    |nil=>rw[hn rfl];rfl
    |cons a l=>
     rcases hr with⟨_,h⟩|⟨t,rfl,_⟩
     ·cases h
     ·rfl
   refine μ.done .ret (fun br=>ζ br.env 2= .list c4 (δ.Δ lo)/\ζ br.env 3= .list c5 (Sp.Δ li)/\br.mem= {ε:=B.set p (.cells aW)++ext,θ:=tt}) (by simp[q1,q2,q3,q4,k2]) fun s' ⟨m1,m2,m3⟩=>⟨by simp,lo,li,c4,c5,aW,ext,dM,b2,m1,m2,by rw[m3],by rw[m3];exact q5,db _ _ _ _ _ q6 q8,db _ _ _ _ _ q7 q9,fZ,r2,?_⟩;exact bQ.bind (Q:=fun _ t=>(cw cc F (t.l.length+1) ([],[]) t).bind fun l t=>(aw s.length [125] t).map fun _=>l) (hg.fuel.bind (Q:=fun l t=>(aw s.length [125] t).map fun _=>l) (cz.map fun _=>(lo,li)))
 obtain⟨r,e1,e2,lo,li,c4,c5,ξ,ext,dM,b,e3,e4,e5,e6,e7,e8,e9,mO,rQ⟩:=dj;have hv:Dv (.aP [.list c4 (δ.Δ lo),.list c5 (Sp.Δ li)]) (.aP [.list (Φ lo) (δ.Δ lo),.list (Φ li) (Sp.Δ li)]):=by rw[<-e7,<-e8];exact .aP (.cons (.list c4 (H3 e9)) (.cons (.list c5 (Sp.zq li)) .nil))
 obtain⟨aW,qW,T',Bm,Bn,Bo⟩:=HA (u:=u) hc (f:=231) (g:=FA) (args:=[]) (v:= .aP [.list (Φ lo) (δ.Δ lo),.list (Φ li) (Sp.Δ li)]) rfl rfl rfl hp rfl e1 e2 e5 mO e6 (l:=[.list c4 (δ.Δ lo),.list c5 (Sp.Δ li)]) (by simp[FA,e3,e4]) (hv.ai _ _ _) T;exact⟨_,(lo,li),aW,qW,b,T',Bm,Bn,rQ,⟨rfl,e9⟩,Bo⟩
theorem NL{n:Nat}:∀k,k<=n->∀a:RS,a.sz<k->tc u s all c 231 [] (bT s.length (au s.length n) k) Eb a
 |0,_,_,h=>by omega
 |k+1,hk,a,h=>f231 hl ab hc hk (fun a h=>NL k (by omega) a h) a h
end
theorem aI.fx(x:aI):Fx x.av:=⟨rfl,rfl⟩
theorem Mj(l:List aI):(l.map aI.av).all (shaped true 2)=true:=by simp[mK,aI.av,shaped,Function.comp]
def pT(p:Nat)(nm:List Nat)(c:χ)(l:List AV):List κ:=[.cells [.ν p 0],.cells [.str nm,.list c l,.list .nil []]]
def pI(B:List κ)(p:Nat)(nm:List Nat)(l:List aI)(B':List κ):Prop:=
 ∃c ext,B'=B++pT p nm c (l.map aI.av)++ext/\Row (B.length+2) B' 2 76 c l.length/\(l=[]->c= .nil)/\∀x∈l,cX x.name
section
variable{s:List Nat}{all:List Tok}{c:χ}(hl:all.length<1000000000)(ab:∀t∈all,t.Ok)
include hl ab
theorem f229{B:List κ}{p:Nat}(hp:p<B.length)(nm:List Nat)(n:Nat):Im u s all c (pI B p nm) (.fn (.func 229) [] [.ν B.length 0,.ν (B.length+1) 0]) (ri s.length) n B.length p:=by
 rintro l _ T cs a ⟨cp,ext,rfl,hr,hn,GQ⟩ h ha hlen
 obtain⟨_,x,aX,a1,k1,r1,bQ,rfl,hx⟩:=(f227 (u:=u) hl ab a).at (pT p nm cp (l.map aI.av)++ext) hp h;obtain⟨_,w2,aW,a2,k2,r2,cz,rfl⟩:=(f226 (u:=u) [91] hl ab a1).at (pT p nm cp (l.map aI.av)++ext) hp r1;obtain⟨_,m,aQ,a3,k3,r3,bz,rfl,hm⟩:=(f230 (u:=u) hl ab a2).at (pT p nm cp (l.map aI.av)++ext) hp r2;obtain⟨_,w4,dK,a4,k4,r4,dR,rfl⟩:=(f226 (u:=u) [93] hl ab a3).at (pT p nm cp (l.map aI.av)++ext) hp r3;have e0:∀cs c l ext,(B++pT p nm c l++ext).set p (.cells cs)=B.set p (.cells cs)++pT p nm c l++ext:=fun cs c l ext=>by rw[cj,lL _ _ hp,cj]
 have gW:Row (B.set p (.cells dK)++pT p nm cp (l.map aI.av)).length (B.set p (.cells dK)++pT p nm cp (l.map aI.av)++ext) 2 76 cp (l.map aI.av).length:=by rw[dd];have:=Row.swap hr (P':=B.set p (.cells dK)++pT p nm cp (l.map aI.av)) (by simp[pT]) (by simp[pT]);simpa[pT]using this
 obtain⟨c',ext',fy,dw,-⟩:=qf (bytes:=24) gW (Mj l) (show shaped true 2 (aI.av ⟨x,m⟩)=true by rfl) (show φ (aI.av ⟨x,m⟩)=_ by rfl) (by omega) (by simp;omega) (by simp;omega);rw[dd]at dw;have hL:∀cs c l ext,(B.set p (.cells cs)++pT p nm c l++ext).length=B.length+2+ext.length:=fun cs c l ext=>by simp[pT];omega
 have dL:∀n,B.length+2<=n->([]++[AV.ν B.length 0,.ν (B.length+1) 0]).map (exp n true)=[AV.ν B.length 0,.ν (B.length+1) 0]:=fun n hn=>by
  have a1:B.length+1<n:=by omega
  have a2:B.length<n:=by omega
  simp[exp,a1,a2]
 have g0:∀cs c l ext,(B.set p (.cells cs)++pT p nm c l++ext)[B.length]?=some (.cells [.ν p 0]):=fun cs c l ext=>by simp[pT]
 have g1:∀cs c l ext,(B.set p (.cells cs)++pT p nm c l++ext)[B.length+1]?=some (.cells [.str nm,.list c l,.list .nil []]):=fun cs c l ext=>by simp[pT]
 have g2:∀cs c l ext c' l',(B.set p (.cells cs)++pT p nm c l++ext).set (B.length+1) (.cells [.str nm,.list c' l',.list .nil []])=B.set p (.cells cs)++pT p nm c' l'++ext:=fun cs c l ext c' l'=>by simp[pT]
 have eR:∀M:Mem,M.φ (.list c' (l.map aI.av++[aI.av ⟨x,m⟩]))= .list c' (l.map aI.av++[aI.av ⟨x,m⟩]):=fun M=>by have:=(Dv.list c' (bB.of aI.av (l++[⟨x,m⟩]) fun y _=>aI.fx y)).φ;rw[List.map_append]at this;exact this
 have dj:μ (C u).gl (aU (C u)) c229 {env:=[.ν B.length 0,.ν (B.length+1) 0],loc:=[],mem:= {ε:=B.set p (.cells cs)++pT p nm cp (l.map aI.av)++ext,θ:=[]}} fun r=>r.1= .normal/\∃tt,r.2.mem= {ε:=B.set p (.cells dK)++pT p nm c' ((l++[(⟨x,m⟩:aI)]).map aI.av)++ext',θ:=tt}/\∀i∈tt,B.length<=i:=by
  have eu:shaped true 2 (.agg [.str x,.int .i64 m])=true:=rfl;have lA:∀M:Mem,M.φ (.agg [.str x,.int .i64 m])= .agg [.str x,.int .i64 m]:=fun _=>rfl;simp only[cj,aI.av]at g0 g1 g2 k1 k2 k3 k4 fy eR⊢;simp[c229,aR,cF,g0,g1,g2,k1,k2,k3,k4,eu,lA,fy,eR,Mem.put];refine⟨_,⟨rfl,rfl⟩,fun i hi=>?_⟩;split at hi
  ·cases hi
  ·have:=kX.1 hi;omega
 obtain⟨⟨ex,s'⟩,e1,rfl,tt,e2,e3⟩:=dj;have cK:=uq (C:=C u) (f:=229) (g:=JE) (args:=[]) (cap:=[.ν B.length 0,.ν (B.length+1) 0]) (m:= {ε:=B.set p (.cells cs)++pT p nm cp (l.map aI.av)++ext,θ:=T}) (l:=[]) rfl rfl rfl (by rw[dL _ (by rw[hL];omega)];exact e1) (by simp) (by rfl);refine⟨B++pT p nm c' ((l++[(⟨x,m⟩:aI)]).map aI.av)++ext',T++tt,⟨x,m⟩,dK,a4,by rw[e0,e0,cK];dsimp only at e2;rw[e2];rfl,⟨c',ext',rfl,?_,fun h=>by simp at h,fun y hy=>?_⟩,r4,?_,fun i hi=>(dE.1 hi).imp id (e3 i)⟩
 ·have:=Row.swap dw (P':=B++pT p nm c' ((l++[(⟨x,m⟩:aI)]).map aI.av)) (by simp[pT]) (by simp[pT]);simpa[pT]using this
 ·rcases dE.1 hy with hy|hy
  ·exact GQ y hy
  ·rw[kX.1 hy];exact hx
 ·exact bQ.bind (Q:=fun n t=>(aw s.length [91] t).bind fun _ t=>(sH s.length t).bind fun k t=>(aw s.length [93] t).map fun _=>(⟨n,k⟩:aI)) (cz.bind (bz.bind (Q:=fun(k:Nat) t=>(aw s.length [93] t).map fun _=>(⟨x,(k:Int)⟩:aI)) (dR.map fun _=>(⟨x,(m:Int)⟩:aI))))
variable(hc:aJ c)
def UB:Ξ×List Sp->AV->Prop:=fun x v=>v= .aP [x.1.av,.list (Φ x.2) (Sp.Δ x.2)]/\x.1.Ok
theorem PJ(e:Nat):cT (ri e):=(jb e).bind fun _=>(cr e _).bind fun _=>(Ee e).bind fun _=>(cr e _).map
include hc
theorem f188{n:Nat}(a:RS)(ha:a.sz<n):tc u s all c 188 [] (u5 s.length (bT s.length (au s.length n) n)) UB a:=by
 intro B p cs item T hp h;have g0:∀cs L (e:List κ),(B.set p (κ.cells cs)++κ.cells [.ν p 0]::κ.cells L::e)[B.length]?=some (.cells [.ν p 0]):=fun cs L e=>by simp
 have g1:∀cs L (e:List κ),(B.set p (κ.cells cs)++κ.cells [.ν p 0]::κ.cells L::e)[B.length+1]?=some (.cells L):=fun cs L e=>by simp
 have gs:∀cs L L' (e:List κ),(B.set p (κ.cells cs)++κ.cells [.ν p 0]::κ.cells L::e).set (B.length+1) (.cells L')=B.set p (κ.cells cs)++κ.cells [.ν p 0]::κ.cells L'::e:=fun cs L L' e=>by simp
 obtain⟨_,w1,aX,a1,k1,r1,bQ,rfl⟩:=(f226 (u:=u) (item:=item) [112,114,111,99] hl ab a).at [.cells [.ν p 0],.cells [.str [],.list .nil [],.list .nil []]] hp h;have s1:=bQ.sz (cr _ _);obtain⟨_,nm,aW,a2,k2,r2,cz,rfl,kx⟩:=(f227 (u:=u) (item:=item) hl ab a1).at [.cells [.ν p 0],.cells [.str [],.list .nil [],.list .nil []]] hp r1;have s2:=cz.sz (jb _);obtain⟨_,w3,aQ,a3,k3,r3,bz,rfl⟩:=(f226 (u:=u) (item:=item) [40] hl ab a2).at [.cells [.ν p 0],.cells [.str nm,.list .nil [],.list .nil []]] hp r2;have s3:=bz.sz (cr _ _);obtain⟨B4,T4,ps,dK,a4,k4,⟨c4,bo,rfl,x6,KP,xP⟩,r4,dR,Lc⟩:=f228 (u:=u) hl ab (I:=pI B p nm) (fn:= .fn (.func 229) [] [.ν B.length 0,.ν (B.length+1) 0]) (P:=ri s.length) (k:=n) (N:=B.length) (M:=B.length+2) (p:=p) (PJ hl ab _) rfl rfl
  (fun m hm=>by
   have q1:B.length+1<m:=by omega
   have q2:B.length<m:=by omega
   simp[exp,bn,Fn.below,q1,q2]) (fun l B' ⟨c,ext,h,_⟩=>by rw[h];simp[pT];omega) (f229 hl ab hp nm n) [] ⟨.nil,[],by simp;rfl,Row.nil,fun _=>rfl,by simp⟩ r3 (by omega)
 have s4:=dR.sz (Ed _ (PJ hl ab _));have e0:∀cs D,(B++D).set p (.cells cs)=B.set p (.cells cs)++D:=fun cs D=>lL _ _ hp;simp only[cj,e0]at k4;have LA:kf u 228 [.ν p 0,.str [41],.fn (.func 229) [] [.ν B.length 0,.ν (B.length+1) 0]] {ε:=B.set p (.cells aQ)++[.cells [.ν p 0],.cells [.str nm,.list .nil [],.list .nil []]],θ:=[]}=some (.aP [],{ε:=B.set p (.cells dK)++(κ.cells [.ν p 0]::κ.cells [.str nm,.list c4 (ps.map aI.av),.list .nil []]::bo),θ:=T4}):=k4;have ec:c4.exp 0 false=Φ ps:=by
  cases ps with
  |nil=>rw[KP rfl];rfl
  |cons a l=>
   rcases x6 with⟨_,h⟩|⟨t,rfl,_⟩
   ·cases h
   ·rfl
 obtain⟨_,⟨bl,bi⟩,hS,RC,a5,T5,k5,r5,gL,⟨rfl,eQ⟩,sw⟩:=(NL (u:=u) hl ab hc n (bF _) a4 (by omega)).at (κ.cells [.ν p 0]::κ.cells [.str nm,.list c4 (ps.map aI.av),.list .nil []]::bo) hp r4 T4;dsimp only at k5 eQ;have dj:μ (C u).gl (aU (C u)) IK {env:=[.ν p 0],loc:=[],mem:= {ε:=B.set p (.cells cs),θ:=[]}} fun r=>r.1= .ret/\ζ r.2.env 2= .ae 2 0 0/\τ r.2.loc 2=some (0,.cells [.str nm,.list c4 (ps.map aI.av),.list (Φ bl) (δ.Δ bl)])/\ζ r.2.env 3= .list (Φ bi) (Sp.Δ bi)∧
   ∃tt,r.2.mem= {ε:=B.set p (.cells hS)++(κ.cells [.ν p 0]::κ.cells [.str nm,.list c4 (ps.map aI.av),.list (Φ bl) (δ.Δ bl)]::bo),θ:=tt}/\∀i∈tt,i=p\/B.length<=i:=by
  have ht:∀i∈T5,i=p\/B.length<=i:=fun i hi=>(sw i hi).elim (fun h=>(Lc i h).elim (fun h=>by cases h) id) .inl;have we:cW (δ.Δ bl)=δ.Δ bl:=(C1 0 false _ (H3 eQ).1).2.2.1;simp[IK,aR,Mem.push,Mem.put,Mem.φ,φ,cW,bp,lo,χ.lo,g0,g1,gs,k1,k2,k3,LA,k5];have Zf:∀(q:Prop) [Decidable q] (i:Nat),i∈(if q then T5 else(B.length+1)::T5)->i=p\/B.length<=i:=fun q _ i hi=>by
   by_cases hq:q
   ·rw[if_pos hq]at hi;exact ht i hi
   ·rw[if_neg hq]at hi;exact(List.mem_cons.1 hi).elim (fun h=> .inr (by omega)) (ht i)
  exact⟨we,_,⟨we,rfl⟩,fun i hi=>Zf _ i hi⟩
 obtain⟨⟨ex,s'⟩,e1,e2,e3,e4,e5,tt,e6,e7⟩:=dj;dsimp only at e2 e3 e4 e5 e6;subst e2;have cQ:=Dv.list (Φ bl) (H3 eQ);rw[y7]at cQ;have lV:=Dv.list (Φ bi) (Sp.zq bi);rw[y7]at lV;have ig:=Dv.list c4 (bB.of aI.av ps fun y _=>aI.fx y);rw[ec]at ig;have hv:Dv (.aP [.agg [.str nm,.list c4 (ps.map aI.av),.list (Φ bl) (δ.Δ bl)],.list (Φ bi) (Sp.Δ bi)]) (.aP [(⟨nm,Φ ps,ps,Φ bl,bl⟩:Ξ).av,.list (Φ bi) (Sp.Δ bi)]):=
  .aP (.cons (.agg (.cons (.str _) (.cons ig (.cons cQ .nil)))) (.cons lV .nil))
 obtain⟨nV,aaH,T6,Bm,Bn,Bo⟩:=HA (u:=u) hc (f:=188) (g:=E') (args:=[]) (v:= .aP [(⟨nm,Φ ps,ps,Φ bl,bl⟩:Ξ).av,.list (Φ bi) (Sp.Δ bi)]) rfl rfl rfl hp rfl e1 (by simp) (by rw[e6]) r5 (by rw[e6];exact e7) (l:=[.agg [.str nm,.list c4 (ps.map aI.av),.list (Φ bl) (δ.Δ bl)],.list (Φ bi) (Sp.Δ bi)]) (by simp[E',e3,e4,e5]) (hv.ai _ _ _) T;refine⟨_,(⟨nm,Φ ps,ps,Φ bl,bl⟩,bi),nV,aaH,a5,T6,Bm,Bn,?_,⟨rfl,kx,hH _,xP,hH _,eQ,?_⟩,Bo⟩
 ·exact bQ.bind (cz.bind (Q:=fun n' t=>(aw s.length [40] t).bind fun _ t=>(lY s.length (ri s.length) t).bind fun ps t=>(bT s.length (au s.length n) n t).map fun b=>((⟨n',Φ ps,ps,Φ b.1,b.1⟩:Ξ),b.2)) (bz.bind (dR.bind (Q:=fun ps t=>(bT s.length (au s.length n) n t).map fun b=>((⟨nm,Φ ps,ps,Φ b.1,b.1⟩:Ξ),b.2)) (gL.map fun b=>((⟨nm,Φ ps,ps,Φ b.1,b.1⟩:Ξ),b.2)))))
 ·intro h;cases ps with
  |nil=>rfl
  |cons a l=>cases h
end
end Go.ah.Tz
namespace Go.ah
def Wt{α:Type}(w:α->Nat)(P:PS->R α):Prop:=∀s x t,P s= .ok x t->w x+4*t.l.length<=4*s.l.length
theorem R.c_{α β:Type}{a:R α}{f:α->PS->R β}{y:β}{t:PS}(h:a.bind f= .ok y t):∃x s,a= .ok x s/\f x s= .ok y t:=by
 cases a with
 |ok x s=>exact⟨x,s,rfl,h⟩
 |no w=>cases h
theorem R.gD{α β:Type}{a:R α}{f:α->β}{y:β}{t:PS}(h:a.map f= .ok y t):∃x,a= .ok x t/\f x=y:=by
 cases a with
 |ok x s=>cases h;exact⟨x,rfl,rfl⟩
 |no w=>cases h
theorem M7{e:Nat}{f:Tok->Bool}:∀s x t,gR e f s= .ok x t->4+4*t.l.length<=4*s.l.length:=fun s x t h=>by have:=H5 h;omega
theorem Wt.loop{α:Type}{w:α->Nat}{c:PS->Bool}{f:α->PS->R α}(h:∀x s y t,f x s= .ok y t->w y+4*t.l.length<=w x+4*s.l.length):∀n x s y t,cw c f n x s= .ok y t->w y+4*t.l.length<=w x+4*s.l.length:=by
 intro n;induction n with
 |zero=>intro x s y t e;cases e
 |succ n ih=>
  intro x s y t e
  simp only[cw]at e;split at e
  ·obtain⟨x',s',e1,e2⟩:=R.c_ e;have:=h _ _ _ _ e1;have:=ih _ _ _ _ e2;omega
  ·cases e;omega
theorem ry:z0.cnt=1:=rfl
theorem fB{e:Nat}{w:List Nat}:∀s x t,aw e w s= .ok x t->4+4*t.l.length<=4*s.l.length:=M7
theorem ud{e:Nat}:∀s x t,fN e s= .ok x t->4+4*t.l.length<=4*s.l.length:=M7
theorem Uv{e:Nat}:∀s x t,sH e s= .ok x t->4+4*t.l.length<=4*s.l.length:=fun s x t h=>by obtain⟨y,h1,_⟩:=R.gD h;exact M7 _ _ _ h1
theorem agA{e:Nat}{ix:PS->R η}(h:Wt η.cnt ix):Wt η.cnt (lj e ix):=fun s x t k=>by
 simp only[lj]at k;split at k
 ·obtain⟨_,s1,k1,k⟩:=R.c_ k;obtain⟨y,s2,k2,k⟩:=R.c_ k;obtain⟨_,k3,rfl⟩:=R.gD k;have:=fB _ _ _ k1;have:=h _ _ _ k2;have:=fB _ _ _ k3;omega
 ·split at k
  ·obtain⟨n,k1,rfl⟩:=R.gD k;have:=Uv _ _ _ k1;simp only[η.cnt,η.bj];omega
  ·obtain⟨n,k1,rfl⟩:=R.gD k;have:=ud _ _ _ k1;simp only[η.cnt,η.bj];omega
theorem agI{e:Nat}{at':PS->R η}(h:Wt η.cnt at'):Wt η.cnt (tY e at'):=fun s x t k=>by
 obtain⟨y,s1,k1,k⟩:=R.c_ k;have:=h _ _ _ k1;have:=Wt.loop (w:=η.cnt) (fun x s y t k=>by
  obtain⟨_,s1,k1,k⟩:=R.c_ k
  obtain⟨z,k2,rfl⟩:=R.gD k;have:=fB _ _ _ k1;have:=h _ _ _ k2;simp only[η.cnt,η.bj];omega) _ _ _ _ _ k
 omega
theorem agK{e:Nat}{pr:PS->R η}(h:Wt η.cnt pr):Wt η.cnt (AB e pr):=fun s x t k=>by
 obtain⟨y,s1,k1,k⟩:=R.c_ k;have:=h _ _ _ k1;have:=Wt.loop (w:=η.cnt) (fun x s y t k=>by
  obtain⟨_,s1,k1,k⟩:=R.c_ k
  obtain⟨z,k2,rfl⟩:=R.gD k;have:=fB _ _ _ k1;have:=h _ _ _ k2;simp only[η.cnt,η.bj];omega) _ _ _ _ _ k
 omega
theorem agB(e k:Nat):Wt η.cnt (au e k):=by
 induction k with
 |zero=>intro s x t h;cases h
 |succ k ih=>exact agK (agI (agA ih))
theorem agG{e:Nat}{ix:PS->R η}(h:Wt η.cnt ix):Wt Γ.wt (gP e ix):=fun s x t k=>by
 obtain⟨n,s1,k1,k⟩:=R.c_ k;have:=ud _ _ _ k1;split at k
 ·obtain⟨_,s2,k2,k⟩:=R.c_ k;obtain⟨a,s3,k3,k⟩:=R.c_ k;obtain⟨l,s4,k4,k⟩:=R.c_ k;obtain⟨_,k5,rfl⟩:=R.gD k;have:=fB _ _ _ k2;have:=h _ _ _ k3;have:=fB _ _ _ k5;split at k4
  ·obtain⟨_,s6,k6,k4⟩:=R.c_ k4;obtain⟨b,k7,rfl⟩:=R.gD k4;have:=fB _ _ _ k6;have:=h _ _ _ k7;simp only[Γ.wt,η.bj];omega
  ·cases k4;simp only[Γ.wt,η.bj];omega
 ·cases k;simp only[Γ.wt,η.bj];omega
theorem Uw{e:Nat}{ix:PS->R η}(h:Wt η.cnt ix):Wt (fun x=>x.2.cnt) (sP e ix):=fun s x t k=>by obtain⟨n,s1,k1,k⟩:=R.c_ k;obtain⟨_,s2,k2,k⟩:=R.c_ k;obtain⟨a,s3,k3,k⟩:=R.c_ k;obtain⟨_,k4,rfl⟩:=R.gD k;have:=ud _ _ _ k1;have:=fB _ _ _ k2;have:=h _ _ _ k3;have:=fB _ _ _ k4;dsimp only;omega
theorem Td(a b:List Γ):gQ (a++b)=gQ a+gQ b:=by
 induction a with
 |nil=>simp[gQ]
 |cons x a ih=>simp only[eO,gQ,ih];omega
theorem agL(a b:List δ):δ.bX (a++b)=δ.bX a+δ.bX b:=by
 induction a with
 |nil=>simp[δ.bX]
 |cons x a ih=>simp only[eO,δ.bX,ih];omega
theorem aeQ(a b:List Ξ):lH (a++b)=lH a+lH b:=by
 induction a with
 |nil=>simp[lH]
 |cons x a ih=>simp only[eO,lH,ih];omega
theorem Uu{α:Type}{w:List α->Nat}(iq:w []=0)(hw:∀l x,w (l++[x])=w l+w [x]){e:Nat}{P:PS->R α}(h:∀s x t,P s= .ok x t->w [x]+4*t.l.length<=4*s.l.length):Wt w (lY e P):=fun s x t k=>by
 simp only[lY]at k;split at k
 ·obtain⟨_,k1,rfl⟩:=R.gD k;have:=fB _ _ _ k1;omega
 ·obtain⟨y,s1,k1,k⟩:=R.c_ k;obtain⟨l,s2,k2,k⟩:=R.c_ k;obtain⟨_,k3,rfl⟩:=R.gD k;have:=h _ _ _ k1;have:=fB _ _ _ k3;have:=Wt.loop (w:=w) (fun x s y t k=>by
   obtain⟨_,s1,k1,k⟩:=R.c_ k
   obtain⟨z,k2,rfl⟩:=R.gD k;have:=fB _ _ _ k1;have:=h _ _ _ k2;rw[hw];omega) _ _ _ _ _ k2
  omega
theorem agE{e:Nat}{pl:PS->R Γ}(h:Wt Γ.wt pl):∀n l s x t,lF e pl n l s= .ok x t->gQ x+4*t.l.length<=gQ l+4*s.l.length:=by
 intro n;induction n with
 |zero=>intro l s x t k;cases k;omega
 |succ n ih=>
  intro l s x t k
  obtain⟨_,s1,k1,k⟩:=R.c_ k;obtain⟨p,s2,k2,k⟩:=R.c_ k;have:=fB _ _ _ k1;have:=h _ _ _ k2;have:=ih _ _ _ _ k;rw[Td]at this;simp only[gQ]at this;omega
theorem agD{e:Nat}{ix:PS->R η}(h:Wt η.cnt ix):Wt δ.wt (jZ e ix):=fun s x t k=>by
 have hp:=agG (e:=e) h;dsimp only[jZ]at k;split at k
 ·obtain⟨_,s1,k1,k⟩:=R.c_ k;obtain⟨p,s2,k2,k⟩:=R.c_ k;obtain⟨l,k3,rfl⟩:=R.gD k;have:=fB _ _ _ k1;have:=hp _ _ _ k2;have:=agE hp _ _ _ _ _ k3;simp only[δ.wt,δ.bX,ry,gQ]at*;omega
 split at k
 ·obtain⟨_,s1,k1,k⟩:=R.c_ k;obtain⟨p,k2,rfl⟩:=R.gD k;have:=fB _ _ _ k1;have:=Uw h _ _ _ k2;simp only[δ.wt,δ.bX,ry,gQ]at*;omega
 split at k
 ·obtain⟨_,s1,k1,k⟩:=R.c_ k;obtain⟨p,k2,rfl⟩:=R.gD k;have:=fB _ _ _ k1;have:=ud _ _ _ k2;simp only[δ.wt,δ.bX,ry,gQ]at*;omega
 split at k
 ·obtain⟨_,s1,k1,k⟩:=R.c_ k;obtain⟨p,s2,k2,k⟩:=R.c_ k;obtain⟨_,s3,k3,k⟩:=R.c_ k;obtain⟨n,k4,rfl⟩:=R.gD k;have:=fB _ _ _ k1;have:=hp _ _ _ k2;have:=fB _ _ _ k3;have:=ud _ _ _ k4;simp only[δ.wt,δ.bX,ry,gQ]at*;omega
 split at k
 ·obtain⟨_,s1,k1,k⟩:=R.c_ k;obtain⟨p,k2,rfl⟩:=R.gD k;have:=fB _ _ _ k1;have:=hp _ _ _ k2;simp only[δ.wt,δ.bX,ry,gQ]at*;omega
 ·obtain⟨n,s1,k1,k⟩:=R.c_ k;obtain⟨_,s2,k2,k⟩:=R.c_ k;obtain⟨l,k3,rfl⟩:=R.gD k;have:=ud _ _ _ k1;have:=fB _ _ _ k2;have:=Uu (w:=gQ) rfl (fun l x=>Td l [x]) (fun s x t k=>by have:=hp s x t k;simp only[gQ];omega) _ _ _ k3;simp only[δ.wt,δ.bX,ry,gQ]at*;omega
theorem agJ{e:Nat}{ix:PS->R η}{blk:PS->R (List δ×List Sp)}(h:Wt η.cnt ix)(hb:Wt (fun x=>δ.bX x.1) blk):Wt (fun x=>x.1.wt) (gF e ix blk):=fun s x t k=>by
 dsimp only[gF]at k;split at k
 ·obtain⟨_,s1,k1,k⟩:=R.c_ k;obtain⟨p,s2,k2,k⟩:=R.c_ k;obtain⟨b,k3,rfl⟩:=R.gD k;have:=fB _ _ _ k1;have:=Uw h _ _ _ k2;have:=hb _ _ _ k3;simp only[δ.wt,δ.bX,ry,gQ]at*;omega
 split at k
 ·obtain⟨_,s1,k1,k⟩:=R.c_ k;obtain⟨p,s2,k2,k⟩:=R.c_ k;obtain⟨b,s3,k3,k⟩:=R.c_ k;have:=fB _ _ _ k1;have:=ud _ _ _ k2;have:=hb _ _ _ k3;split at k
  ·obtain⟨_,s4,k4,k⟩:=R.c_ k;obtain⟨d,k5,rfl⟩:=R.gD k;have:=fB _ _ _ k4;have:=hb _ _ _ k5;simp only[δ.wt,δ.bX,ry,gQ]at*;omega
  ·cases k;simp only[δ.wt,δ.bX,ry,gQ]at*;omega
 split at k
 ·obtain⟨_,s1,k1,k⟩:=R.c_ k;obtain⟨p,s2,k2,k⟩:=R.c_ k;obtain⟨_,s3,k3,k⟩:=R.c_ k;obtain⟨a,s4,k4,k⟩:=R.c_ k;obtain⟨_,s5,k5,k⟩:=R.c_ k;obtain⟨c,s6,k6,k⟩:=R.c_ k;obtain⟨d,k7,rfl⟩:=R.gD k;have:=fB _ _ _ k1;have:=ud _ _ _ k2;have:=fB _ _ _ k3;have:=h _ _ _ k4;have:=fB _ _ _ k5;have:=h _ _ _ k6;have:=hb _ _ _ k7;simp only[δ.wt,δ.bX,ry,gQ]at*;omega
 split at k
 ·obtain⟨_,s1,k1,k⟩:=R.c_ k;obtain⟨d,k2,rfl⟩:=R.gD k;have:=fB _ _ _ k1;have:=hb _ _ _ k2;simp only[δ.wt,δ.bX,ry,gQ]at*;omega
 split at k
 ·obtain⟨_,s1,k1,k⟩:=R.c_ k;obtain⟨b,s2,k2,k⟩:=R.c_ k;obtain⟨_,s3,k3,k⟩:=R.c_ k;obtain⟨d,k4,rfl⟩:=R.gD k;have:=fB _ _ _ k1;have:=hb _ _ _ k2;have:=fB _ _ _ k3;have:=hb _ _ _ k4;simp only[δ.wt,δ.bX,ry,gQ]at*;omega
 ·obtain⟨y,k1,rfl⟩:=R.gD k;obtain⟨z,s2,k2,k⟩:=R.c_ k1;obtain⟨_,k3,rfl⟩:=R.gD k;have:=agD h _ _ _ k2;have:=fB _ _ _ k3;dsimp only;omega
theorem agC{e:Nat}{st:PS->R (δ×List (List Sp))}(h:Wt (fun x=>x.1.wt) st):Wt (fun x=>δ.bX x.1) (yl e st):=fun s x t k=>by
 obtain⟨_,s1,k1,k⟩:=R.c_ k;obtain⟨l,s2,k2,k⟩:=R.c_ k;obtain⟨_,k3,rfl⟩:=R.gD k;have:=fB _ _ _ k1;have:=fB _ _ _ k3;have:=Wt.loop (w:=fun x:List δ×List Sp=>δ.bX x.1) (fun x s y t k=>by
  obtain⟨z,k1,rfl⟩:=R.gD k
  obtain⟨q,s1,k2,k3⟩:=R.c_ k1;cases k3;have:=h _ _ _ k2;dsimp only at this⊢;rw[agL];simp only[δ.bX];omega) _ _ _ _ _ k2
 simp only[δ.bX]at*;omega
theorem Ut{e:Nat}{ix:PS->R η}(h:Wt η.cnt ix):∀k,Wt (fun x=>δ.bX x.1) (bT e ix k)
 |0=>fun s x t e=>by cases e
 |k+1=>agC (agJ h (Ut h k))
theorem agF{e:Nat}:∀s x t,ri e s= .ok x t->[x].length+4*t.l.length<=4*s.l.length:=fun s x t k=>by obtain⟨n,s1,k1,k⟩:=R.c_ k;obtain⟨_,s2,k2,k⟩:=R.c_ k;obtain⟨m,s3,k3,k⟩:=R.c_ k;obtain⟨_,k4,rfl⟩:=R.gD k;have:=ud _ _ _ k1;have:=fB _ _ _ k2;have:=Uv _ _ _ k3;have:=fB _ _ _ k4;simp only[List.length_cons,List.length_nil];omega
theorem agH{e:Nat}{blk:PS->R (List δ×List Sp)}(hb:Wt (fun x=>δ.bX x.1) blk):Wt (fun x=>x.1.wt) (u5 e blk):=fun s x t k=>by obtain⟨_,s1,k1,k⟩:=R.c_ k;obtain⟨n,s2,k2,k⟩:=R.c_ k;obtain⟨_,s3,k3,k⟩:=R.c_ k;obtain⟨ps,s4,k4,k⟩:=R.c_ k;obtain⟨b,k5,rfl⟩:=R.gD k;have:=fB _ _ _ k1;have:=ud _ _ _ k2;have:=fB _ _ _ k3;have:=Uu (w:=nr) rfl (fun l x=>by simp) agF _ _ _ k4;have:=hb _ _ _ k5;simp only[Ξ.wt]at*;omega
theorem M6{e:Nat}{ts:List Tok}{x:List Ξ×List (List Sp)}{t:PS}(k:u6 e ts= .ok x t):lH x.1<=4*ts.length:=by
 have:=Wt.loop (w:=fun x:List Ξ×List (List Sp)=>lH x.1) (fun x s y t k=>by
  obtain⟨z,k1,rfl⟩:=R.gD k
  have:=agH (Ut (agB e _) _) _ _ _ k1;dsimp only at this⊢;rw[aeQ];simp only[lH];omega) _ _ _ _ _ k
 simp only[lH]at this;omega
end Go.ah
namespace Go.ah.Tz
open Go.ah
variable{u:Nat}
attribute [local simp] exec ed dP eX aC dQ ft eL ζ gg τ fW gy gH gI lf AV.cells newVar gE rd wr fK single eV bY ek dF μ aY RV.get aV dB iE
attribute [local simp] vd u2
theorem Pt{C:iM}{f:FuncId}{v w:AV}{m:Mem}(h:exp m.ε.length (C.bw f) v=exp m.ε.length (C.bw f) w):aU C (.fn (.func f) [] []) [v] m=aU C (.fn (.func f) [] []) [w] m:=by
 apply Option.ext;intro r;rw[qD,qD];have:∀k,cv C k (.fn (.func f) [] []) [v] m=cv C k (.fn (.func f) [] []) [w] m:=fun k=>by
  cases k with
  |zero=>rfl
  |succ k=>simp only[cv,body,List.nil_append,List.append_nil,ay,aA,h]
 simp only[this]
theorem Ξ.EA{x:Ξ}(h:x.Ok):Fx x.av:=by have h1:=Dv.list x.cp (bB.of aI.av x.aK fun y _=>aI.fx y);rw[fb h.2.1]at h1;have h2:=Dv.list x.cb (H3 h.2.2.2.2.1);rw[fb h.2.2.2.1]at h2;exact .agg (.cons (.str _) (.cons h1 (.cons h2 .nil)))
theorem cD.prog(e n:Nat):cD (u5 e (bT e (au e n) n)):=(cD.take _ _).bind fun _=>(jb e).bind fun _=>(cr e _).bind fun _=>(Ed e ((jb e).bind fun _=>(cr e _).bind fun _=>(Ee e).bind fun _=>(cr e _).map)).bind fun _=>(tA e (e_ e n) n).map
theorem Ti(l:List Ξ):(l.map Ξ.av).all (shaped true 3)=true:=by simp[mK,Ξ.av,shaped,Function.comp]
def bI(s:List Nat):(List Ξ×List (List Sp))×Int×Int:=
 if 65536<s.length then(([],[]),0,11)else match u6 s.length (cY s)with
  | .no w=>(([],[]),(w:Int),4)
  | .ok x _=>if ko x.1=0 then(x,0,0)else(([],[]),(s.length:Int),ko x.1)
def wO(s:List Nat):AV:= .aP [.agg [.list (Φ (bI s).1.1) ((bI s).1.1.map Ξ.av)],.list (Φ (bI s).1.2) (Sp.lists (bI s).1.2),.int .i64 (bI s).2.1,.int .i64 (bI s).2.2]
theorem f124(s:List Nat)(hs:cX s)(hl:s.length<1000000000)(m:Mem):kf u 124 [.str s] m=some (wO s,m):=by
 refine IY (g:=EL) rfl rfl rfl ?_;simp only[ay,aA,exp,EL,c124];refine ω (fun st=>ζ st.env 0= .str s/\ζ st.env 2= .ae 2 0 0/\τ st.loc 2=some (0,.cells [.list .nil []])/\τ st.loc 7=none/\st.mem= {ε:=m.ε,θ:=[]}) (by simp[aR]) fun s1 ⟨h1,h2,h3,h4,h5⟩=>?_;by_cases qQ:65536<s.length
 ·have xS:(65536:Int)<s.length:=by omega
  simp[h1,h2,h3,h4,h5,xS,cF,wO,bI,qQ];rfl
 have xS:¬(65536:Int)<s.length:=by omega
 refine ω (fun st=>ζ st.env 0= .str s/\ζ st.env 2= .ae 2 0 0/\τ st.loc 2=some (0,.cells [.list .nil []])/\τ st.loc 7=none/\st.mem= {ε:=m.ε,θ:=[]}) (by simp[h1,h2,h3,h4,h5,xS]) fun s1 ⟨h1,h2,h3,h4,h5⟩=>?_;have ae8:=fun m=>f130 (u:=u) s m;have Ts:=fun m=>f187 (u:=u) s hs hl m;have ab:=agp hs (by omega);have wm:=MX s;generalize YF:(if cY s=[]then χ.nil else χ.any)=ct at Ts;have hc:aJ ct:=by rw[<-YF];split<;>simp[aJ]
 let K:St->Prop:=fun st=>ζ st.env 0= .str s/\ζ st.env 2= .ae 2 0 0/\τ st.loc 2=some (0,.cells [.list .nil []]);obtain⟨B,BO⟩:∃B,B=m.ε++[κ.cells []]:=⟨_,rfl⟩;have XY:B.length=m.ε.length+1:=by rw[BO];simp
 obtain⟨p,Cm⟩:∃p,p=m.ε.length:=⟨_,rfl⟩;have hp:p<B.length:=by omega
 have hB:∀cs,B.set p (.cells cs)=m.ε++[.cells cs]:=fun cs=>by rw[BO,Cm];simp
 let K2:St->Prop:=fun st=>K st/\ζ st.env 6= .ν p 0;refine ω (fun st=>K2 st/\τ st.loc 7=none/\st.mem= {ε:=B.set p (.cells [.str s,.list ct ((cY s).map Tok.ba),.int .i64 0,.int .i64 (-1),.eJ]),θ:=[]}) (by
  rw[hB]
  simp[K2,K,h1,h2,h3,h4,h5,ae8,Ts,cF,Mem.push,Mem.φ,φ,Cm];simp[fO,Function.comp,Tok.ba,φ,cW]) fun s1 ⟨⟨⟨h1,h2,h3⟩,h6⟩,h4,h5⟩=>?_
 let K3:St->Prop:=fun st=>K2 st/\ζ st.env 7= .ae 7 0 0;refine ω (fun st=>K3 st/\τ st.loc 7=some (0,.cells [.list .nil []])/\st.mem= {ε:=B.set p (.cells [.str s,.list ct ((cY s).map Tok.ba),.int .i64 0,.int .i64 (-1),.eJ]),θ:=[]}) (by simp[K3,K2,K,h1,h2,h3,h4,h5,h6,aR]) fun s1 ⟨⟨⟨⟨h1,h2,h3⟩,h6⟩,h7⟩,h4,h5⟩=>?_;refine ω (fun st=>K3 st/\τ st.loc 7=some (0,.cells [.list .nil []])/\ζ st.env 8= .list .nil []/\st.mem= {ε:=B.set p (.cells [.str s,.list ct ((cY s).map Tok.ba),.int .i64 0,.int .i64 (-1),.eJ]),θ:=[]}) (by simp[K3,K2,K,h1,h2,h3,h4,h5,h6,h7]) fun s1 ⟨hK,h4,h8,h5⟩=>?_;have r0:cE s (cY s) ct .eJ [.str s,.list ct ((cY s).map Tok.ba),.int .i64 0,.int .i64 (-1),.eJ] (.r ⟨0,cY s⟩):=⟨0,-1,rfl,Nat.zero_le _,rfl,rfl,rfl⟩;generalize J':[AV.str s,.list ct ((cY s).map Tok.ba),.int .i64 0,.int .i64 (-1),.eJ]=pj at*;have ae_:=fun(a:RS) (h:a.sz<(cY s).length+1)=>f188 (u:=u) (s:=s) (all:=cY s) (c:=ct) (by omega) ab hc a h;have jf:=cD.prog s.length ((cY s).length+1);obtain⟨a1,uA⟩:∃a1,a1=RS.r ⟨0,cY s⟩:=⟨_,rfl⟩;have JW:a1.sz=(cY s).length:=by rw[uA];rfl
 generalize hP:u5 s.length (bT s.length (au s.length ((cY s).length+1)) ((cY s).length+1))=P at*;let F:List Ξ×List (List Sp)->PS->R (List Ξ×List (List Sp)):=fun l t=>(P t).map fun x=>(l.1++[x.1],l.2++[x.2]);let cc:PS->Bool:=fun t=>!t.l.isEmpty;let R2:St->List Ξ->List (List Sp)->List AV->RS->Prop:=fun st lo li ξ b=>K3 st/\∃c4 c5 ext tt dM,τ st.loc 7=some (0,.cells [.list c4 (lo.map Ξ.av)])/\ζ st.env 8= .list c5 (Sp.lists li)/\st.mem= {ε:=B.set p (.cells ξ)++ext,θ:=tt}/\(∀i∈tt,i=p\/B.length<=i)∧
  Row B.length (B.set p (.cells ξ)++ext) 3 70 c4 lo.length/\Row B.length (B.set p (.cells ξ)++ext) 1 257 c5 li.length/\(lo=[]->c4= .nil)/\(li=[]->c5= .nil)/\(∀x∈lo,x.Ok)/\cE s (cY s) ct dM ξ b
 refine bc (fun st=>∃lo li ξ b,R2 st lo li ξ b/\Θ (cw cc F (a1.sz+1) ([],[])) a1 (lo,li) b) ?_ fun s3 ⟨lo,li,ξ,b,⟨⟨⟨⟨h1,h2,h3⟩,h6⟩,h7⟩,c4,c5,ext,tt,dM,q2,q3,q4,q5,q6,q7,q8,q9,fZ,jo⟩,hg⟩=>?_
 ·let I:Nat->St->Prop:=fun i st=>∃lo li ξ b,R2 st lo li ξ b/\lo.length<=i/\li.length<=i/\b.sz<=a1.sz/\(b.sz+i<=a1.sz\/∃w,b= .w w)/\∀y b',Θ (cw cc F (a1.sz+1-i) (lo,li)) b y b'->Θ (cw cc F (a1.sz+1) ([],[])) a1 y b';have hI:I 0 s1:=⟨[],[],pj,a1,⟨hK,.nil,.nil,[],[],.eJ,h4,h8,h5.trans (by simp),by simp,Row.nil,Row.nil,fun _=>rfl,fun _=>rfl,by simp,by rw[uA];exact r0⟩,bF _,bF _,bF _,.inl (bF _),fun _ _ h=>h⟩;refine μ.block (μ.jt (I:=I) (a1.sz+1) hI fun i st hi ψ=>?_);obtain⟨lo,li,ξ,b,⟨⟨⟨⟨h1,h2,h3⟩,h6⟩,h7⟩,c4,c5,ext,tt,dM,q2,q3,q4,q5,q6,q7,q8,q9,fZ,jo⟩,fz,jJ,eU,lQ,gU⟩:=ψ;obtain⟨k2,wr,fp,eF,cV⟩:=jo;have gp:(B.set p (κ.cells ξ)++ext)[p]?=some (.cells [.str s,.list ct ((cY s).map Tok.ba),.int .i64 k2,.int .i64 wr,dM]):=by rw[dX (by simpa using hp),fp];simp[hp]
  have jo:cE s (cY s) ct dM ξ b:=⟨k2,wr,fp,eF,cV⟩;have out:∀br:St,K3 br/\τ br.loc 7=some (0,.cells [.list c4 (lo.map Ξ.av)])/\ζ br.env 8= .list c5 (Sp.lists li)/\br.mem= {ε:=B.set p (.cells ξ)++ext,θ:=tt}->R2 br lo li ξ b:=fun br ⟨m1,m2,m3,m4⟩=>⟨m1,c4,c5,ext,tt,dM,m2,m3,m4,q5,q6,q7,q8,q9,fZ,jo⟩;unfold RM;cases b with
  |w w=>
   have hw:¬wr<0:=by have:wr=(w:Int):=cV;omega
   refine μ.done (.exit 0) (fun br=>K3 br/\τ br.loc 7=some (0,.cells [.list c4 (lo.map Ξ.av)])/\ζ br.env 8= .list c5 (Sp.lists li)/\br.mem= {ε:=B.set p (.cells ξ)++ext,θ:=tt}) (by simp[K3,K2,K,h1,h2,h3,h6,h7,q2,q3,q4,gp,hw]) fun s' hh=> .inr ⟨by simp,.inl ⟨rfl,.inl ⟨rfl,lo,li,ξ,.w w,out s' hh,gU _ _ rfl⟩⟩⟩
  |r sb=>
   obtain⟨rfl,uF,-⟩:=cV
   have lQ:(RS.r sb).sz+i<=a1.sz:=lQ.elim id fun⟨w,h⟩=>by cases h
   rw[show a1.sz+1-i=(a1.sz-i)+1 by omega]at gU;have KH:=congrArg nr uF;simp only[List.length_drop]at KH;by_cases wh:sb.l=[]
   ·have jH:¬k2<(cY s).length:=by rw[wh]at KH;simp at KH;omega
    refine μ.done (.exit 0) (fun br=>K3 br/\τ br.loc 7=some (0,.cells [.list c4 (lo.map Ξ.av)])/\ζ br.env 8= .list c5 (Sp.lists li)/\br.mem= {ε:=B.set p (.cells ξ)++ext,θ:=tt}) (by simp[K3,K2,K,h1,h2,h3,h6,h7,q2,q3,q4,gp,jH]) fun s' hh=> .inr ⟨by simp,.inl ⟨rfl,.inl ⟨rfl,lo,li,ξ,.r sb,out s' hh,gU _ _ (Θ.uX (show(!sb.l.isEmpty)=false by rw[wh];rfl))⟩⟩⟩
   ·have jH:k2<(cY s).length:=by have:0<sb.l.length:=List.length_pos_iff.2 wh;omega
    have ZW:(!sb.l.isEmpty)=true:=by cases h:sb.l with
     |nil=>exact absurd h wh
     |cons a l=>rfl
    obtain⟨_,⟨x,sp⟩,aW,qW,b2,T2,k3,r3,bz,⟨rfl,hx⟩,jK⟩:=(ae_ (.r sb) (by omega)).at ext hp jo tt;dsimp only at k3 hx;have bh:=bz.sz jf.mQ;have pJ:(B.set p (κ.cells aW)).length=B.length:=by simp
    have Hs:(lo.map Ξ.av).length=lo.length:=dd _;have Hx:(Sp.lists li).length=li.length:=by rw[Sp.uW,dd]
    have p6:Row (B.set p (κ.cells aW)).length (B.set p (.cells aW)++ext) 3 70 c4 (lo.map Ξ.av).length:=by rw[Hs,pJ];exact Row.swap q6 (by simp) (by simp)
    have p7:Row (B.set p (κ.cells aW)).length (B.set p (.cells aW)++ext) 1 257 c5 (Sp.lists li).length:=by rw[Hx,pJ];exact Row.swap q7 (by simp) (by simp)
    have n1:φ x.av=x.av:=(Ξ.EA hx).φ;have n2:φ (.list (Φ sp) (Sp.Δ sp))= .list (Φ sp) (Sp.Δ sp):=(Dv.list (Φ sp) (Sp.zq sp)).φ;obtain⟨rL,rS,qN,pQ,Ko⟩:=qf (bytes:=64) p6 (Ti lo) (show shaped true 3 x.av=true by rfl) n1 (by omega) (by omega) (by omega);obtain⟨Bb,lN,uB,Ct,Kp⟩:=qf (bytes:=24) (Ko.rows 1 257 _ _ (by decide) p7) (Sr li) (show shaped false 1 (.list (Φ sp) (Sp.Δ sp))=true by rfl) n2 (by omega) (by omega) (by omega);have Cs:=Kp.rows 3 70 _ _ (by decide) pQ;rw[pJ,Hs]at Cs;rw[pJ,Hx]at Ct;have kz:Sp.lists (li++[sp])=Sp.lists li++[.list (Φ sp) (Sp.Δ sp)]:=by simp[Sp.uW]
    have KO:(lo++[x]).map Ξ.av=lo.map Ξ.av++[x.av]:=by simp
    refine μ.done .normal (fun br=>K3 br/\τ br.loc 7=some (0,.cells [.list rL ((lo++[x]).map Ξ.av)])/\ζ br.env 8= .list Bb (Sp.lists (li++[sp]))/\br.mem= {ε:=B.set p (.cells aW)++lN,θ:=T2}) (by
     have CP:∀m:Mem,m.φ (.agg [.str x.name,.list x.cp (x.aK.map aI.av),.list x.cb (δ.Δ x.body)])= .agg [.str x.name,.list x.cp (x.aK.map aI.av),.list x.cb (δ.Δ x.body)]:=fun _=>n1
     have CQ:∀m:Mem,m.φ (.list (Φ sp) (Sp.Δ sp))= .list (Φ sp) (Sp.Δ sp):=fun _=>n2;have tZ:shaped true 3 (.agg [.str x.name,.list x.cp (x.aK.map aI.av),.list x.cb (δ.Δ x.body)])=true:=rfl;have H2:shaped false 1 (.list (Φ sp) (Sp.Δ sp))=true:=rfl;simp only[Ξ.av]at k3 qN;simp[K3,K2,K,h1,h2,h3,h6,h7,q2,q3,q4,gp,jH,k3,tZ,H2,CP,CQ,Ξ.av,qN,uB,kz];done) fun s' ⟨m1,m2,m3,m4⟩=> .inl ⟨rfl,?_,lo++[x],li++[sp],aW,b2,⟨m1,rL,Bb,lN,T2,qW,m2,m3,m4,fun i hi=>(jK i hi).elim (q5 i) .inl,by simpa using Cs,by simpa using Ct,fun h=>by simp at h,fun h=>by simp at h,fun y hy=>(dE.1 hy).elim (fZ y) fun h=>by rw[kX.1 h];exact hx,r3⟩,by simp;omega,by simp;omega,by omega,?_,fun y b' hg=>gU y b' (Θ.uY ZW (bz.map _) (by rw[show a1.sz+1-(i+1)=a1.sz-i by omega]at hg;exact hg))⟩
    ·omega
    ·cases b2 with
     |w w=>exact .inr ⟨w,rfl⟩
     |r t=>
      refine .inl ?_
      simp only[Θ]at bz;cases oe:P sb with
      |no w=>rw[oe]at bz;cases bz
      |ok y t'=>
       rw[oe]at bz
       obtain⟨_,mW⟩:=bz;cases mW;have:=jf _ _ _ oe;simp only[RS.sz]at lQ⊢;omega
 ·obtain⟨k2,wr,fp,eF,cV⟩:=jo;have gp:(B.set p (κ.cells ξ)++ext)[p]?=some (.cells [.str s,.list ct ((cY s).map Tok.ba),.int .i64 k2,.int .i64 wr,dM]):=by rw[dX (by simpa using hp),fp];simp[hp]
  have ca:∃bs,B.set p (.cells ξ)++ext=m.ε++bs:=⟨_,by rw[hB,cj]⟩;have lC:∀i∈tt,m.ε.length<=i:=fun i hi=>(q5 i hi).elim (fun h=>by omega) fun h=>by omega
  have Co:∀y,u6 s.length (cY s)=y->cw cc F (a1.sz+1) ([],[]) ⟨0,cY s⟩=y:=fun y h=>by rw[<-h,JW];simp only[u6,hP];rfl
  rw[uA]at hg;simp only[Θ]at hg;rw[<-uA]at hg;cases pO:u6 s.length (cY s)with
  |no w=>
   rw[Co _ pO]at hg
   cases hg;have iq:wr=(w:Int):=cV;have hw:0<=wr:=by omega
   have hX:bI s=(([],[]),(w:Int),4):=by simp only[bI,qQ,if_false,pO]
   simp[h1,h2,h3,h6,h7,q2,q3,q4,gp,hw,cF,dm,dy,tB,wO,hX];exact⟨ca,lC,by rw[iq];rfl⟩
  |ok x t=>
   rw[Co _ pO]at hg
   obtain⟨rfl,rfl⟩:=hg;obtain⟨rfl,-,-⟩:=cV;have db:∀{α:Type} (l:List α) (c:χ) (X:List κ) (sz:Nat) (e:TypeId),Row B.length X sz e c l.length->(l=[]->c= .nil)->c.exp 0 false=Φ l:=fun l c X sz e hr hn=>by
    cases l with
    |nil=>rw[hn rfl];rfl
    |cons a l=>
     rcases hr with⟨_,h⟩|⟨t,rfl,_⟩
     ·cases h
     ·rfl
   have e4:=db _ _ _ _ _ q6 q8;have e5:=db _ _ _ _ _ q7 q9;have tM:=M6 pO;have bA:=Dv.list c4 (bB.of Ξ.av lo fun y hy=>Ξ.EA (fZ y hy));rw[e4]at bA;have TA:∀m,kf u 43 [.agg [.list c4 (lo.map Ξ.av)]] m=some (.int .i64 (ko lo),m):=fun m=>by
    refine Eq.trans (Pt (w:=dT (Φ lo) lo) ?_) (f43 (Φ lo) (hH lo) lo fZ (by dsimp only at tM;omega) m)
    ·have h1:=(p9 m.ε.length false (.agg [.list c4 (lo.map Ξ.av)]) (Dv.agg (.cons bA .nil)).1).2.2.2;have ig:=Dv.list (Φ lo) (bB.of Ξ.av lo fun y hy=>Ξ.EA (fZ y hy));rw[y7]at ig;have h2:=(p9 m.ε.length false (dT (Φ lo) lo) (Dv.agg (.cons ig .nil)).1).2.2.2;show exp m.ε.length false _=exp m.ε.length false _;rw[h1,h2,(Dv.agg (.cons bA .nil)).2,(show Dv (dT (Φ lo) lo) _ from Dv.agg (.cons ig .nil)).2]
   by_cases cK:ko lo=0
   ·have hX:bI s=((lo,li),0,0):=by simp only[bI,qQ,if_false,pO,cK,if_true]
    have x9:=Dv.list c5 (Sp.zp li);rw[e5]at x9;have hv:Dv (.aP [.agg [.list c4 (lo.map Ξ.av)],.list c5 (Sp.lists li),.int .i64 0,.int .i64 0]) (wO s):=by rw[wO,hX];exact .aP (.cons (.agg (.cons bA .nil)) (.cons x9 (.cons (.int _ _) (.cons (.int _ _) .nil))))
    simp[h1,h2,h3,h6,h7,q2,q3,q4,gp,TA,cK];exact⟨ca,lC,hv.ai _ _ _⟩
   ·have oP:(ko lo !=0)=true:=by simpa using cK
    have hX:bI s=(([],[]),(s.length:Int),ko lo):=by simp only[bI,qQ,if_false,pO,cK]
    simp[h1,h2,h3,h6,h7,q2,q3,q4,gp,TA,oP,cF,wO,hX];exact⟨ca,lC,rfl⟩
end Go.ah.Tz
