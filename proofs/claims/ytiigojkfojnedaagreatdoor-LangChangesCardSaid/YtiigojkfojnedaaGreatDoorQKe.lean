import Derived.Test.YtiigojkfojnedaaGreatDoorQKd
import Derived.Test.YtiigojkfojnedaaGreatDoorQHy
set_option linter.unusedVariables false
set_option linter.unusedSimpArgs false
set_option linter.unusedSectionVars false
set_option maxRecDepth 100000
set_option maxHeartbeats 8000000
open Nat renaming le_refl->bF,zero_add->jz
open List renaming getElem?_append_left->dX,append_assoc->cj,take_of_length_le->dY,all_map->mK,length_set->fj,all_append->ahU,length_append->fu,length_map->dd,append_nil->dW,map_cons->ay,map_nil->aA,mem_append->dE,mem_singleton->kX
namespace Go.ah.Tz
open Go.ah
variable{u:Nat}
attribute [local simp] exec ed dP eX aC dQ ft eL ζ gg τ fW gy gH gI lf AV.cells newVar gE rd wr fK single eV bY ek dF μ aY RV.get aV dB iE
attribute [local simp] vd u2
theorem _root_.Go.ah.Dv.RB{v:AV}{w:List AV}(h:Dv v (.agg w)):∃l,v= .agg l/\bB l w:=by
 obtain⟨h1,h2⟩:=h;cases v with
 |agg l=>exact⟨l,rfl,by simpa only[pf]using h1,by simpa only[gJ,AV.agg.injEq]using h2⟩
 |_=>simp[gJ]at h2
theorem acL{B:List κ}{p:Nat}{pj cs:List AV}{BA ext ext':List κ}(h:Kept B p pj BA cs ext)(h1:∀sz e c k,e≠196->Row B.length (B.set p (.cells cs)++ext) sz e c k->Row B.length (B.set p (.cells cs)++ext') sz e c k)(h2:∀t,t<B.length->(B.set p (.cells cs)++ext')[t]?=(B.set p (.cells cs)++ext)[t]?)(ξ:List AV):Kept B p pj BA ξ ext':=fun t k sz e he hr=>by
 refine Kept.cells B p cs ξ ext' t k sz e he ?_;have hx:=h t k sz e he hr;rcases Nat.lt_or_ge t B.length with ht|ht
 ·rw[h2 t ht];exact hx
 ·rcases h1 sz e (.own t) k he (.inr ⟨t,rfl,ht,hx⟩)with⟨h,_⟩|⟨t',h,_,h3⟩
  ·rcases h with h|h<;>cases h
  ·cases h;exact h3
section
variable{s:List Nat}(hs:cX s)(hl:s.length<1000000000)
include hs hl
theorem U'{q:Nat}{sb:PS}(hq:q<=s.length)(h:sb.l=oz s q):sb.at_ s.length=(dA q (s.drop q)).at_:=by
 unfold PS.at_;rw[h];unfold oz;by_cases ρ:q<s.length
 ·by_cases hk:(dA q (s.drop q)).kind=0<;>simp[ρ,hk]
 ·have:q=s.length:=by omega
  subst this;rw[MV hs hl];simp
theorem f200{n k:Nat}(Zu:k+1<=n){B:List κ}{p:Nat}(hp:p<B.length)(hb:Ds u s n k B p):Ds u s n (k+1) B p:=by
 intro a cs cS lS ext T cp path JZ h QY hpa;show∃v x ξ fE dz ext' T' b,_/\_/\_/\Θ (yl s.length (gF s.length (au s.length n) (bT s.length (au s.length n) k))) a x b/\_;have jf:cD (gF s.length (au s.length n) (bT s.length (au s.length n) k)):=Bt _ (e_ _ _) (tA _ (e_ _ _) _);have afb:=fun(a:RS) h1 h2 h3=>@f237 u s hs hl n k B p hp hb a h1 h2 h3;generalize hP:gF s.length (au s.length n) (bT s.length (au s.length n) k)=P at*;obtain⟨_,w1,aX,a1,k1,r1,bQ,rfl⟩:=(f196 (u:=u) hs hl [123] (by decide) (by simp) a).at ext hp h.1;have s1:=bQ.sz (cr _ _);have z1:=bQ.bd (cr _ _);have F1:=h.cells r1;let F:List δ×List Sp->PS->R (List δ×List Sp):=fun l t=>(t_ s.length P t).map fun x=>(l.1++[x.1],l.2++[x.2]);let cc:PS->Bool:=fun t=>!t.aB [125];have dj:∀cp,μ (C u).gl (aU (C u)) Oi {env:=[.ν p 0,.list cp (cB path)],loc:=[],mem:= {ε:=B.set p (.cells cs)++ext,θ:=[]}} fun r=>r.1= .ret/\∃lo bp li c4 ξ fE dz ext' tt b,ζ r.2.env 4= .list c4 lo/\bB lo (δ.Δ bp)/\r.2.mem= {ε:=B.set p (.cells ξ)++ext',θ:=tt}/\FS s B p ξ fE dz ext' b/\Kept B p cs ext ξ ext'∧
   c4.exp 0 false=Φ bp/\δ.c7 bp/\(∀i∈tt,i=p\/B.length<=i)/\Θ (yl s.length P) a (bp,li) b/\dz.length+b.sz+a.bad<=lS.length+a.sz+b.bad/\ext.length<=ext'.length/\(b.bad=0->ja s.length lS dz (j_ li path 0)):=by
  intro cp;refine ω (fun st=>ζ st.env 0= .ν p 0/\ζ st.env 1= .list cp (cB path)/\st.mem= {ε:=B.set p (.cells cs)++ext,θ:=[]}) (by simp) fun MH ⟨h1,h2,h3⟩=>?_;refine ω (fun st=>ζ st.env 0= .ν p 0/\ζ st.env 1= .list cp (cB path)/\st.mem= {ε:=B.set p (.cells aX)++ext,θ:=[]}) (by simp[h1,h2,h3,k1]) fun MH ⟨h1,h2,h3⟩=>?_;refine ω (fun st=>ζ st.env 0= .ν p 0/\ζ st.env 1= .list cp (cB path)/\ζ st.env 5= .list .nil []/\st.mem= {ε:=B.set p (.cells aX)++ext,θ:=[]}) (by simp[h1,h2,h3]) fun TL ⟨h1,h2,h5,h3⟩=>?_;let R2:St->List AV->List δ->List Sp->List AV->χ->List AV->List κ->List Nat->χ->RS->Prop:=fun st lo bp li ξ fE dz ext' tt c4 b=>ζ st.env 0= .ν p 0/\ζ st.env 1= .list cp (cB path)/\ζ st.env 5= .list c4 lo/\bB lo (δ.Δ bp)/\st.mem= {ε:=B.set p (.cells ξ)++ext',θ:=tt}/\FS s B p ξ fE dz ext' b/\Kept B p cs ext ξ ext'∧
   Row (B.length+ext.length) (B.set p (.cells ξ)++ext') 14 66 c4 lo.length/\(lo=[]->c4= .nil)/\δ.c7 bp/\(∀i∈tt,i=p\/B.length<=i)/\dz.length+b.sz+a1.bad<=lS.length+a1.sz+b.bad/\ext.length<=ext'.length/\b.sz<=a1.sz/\a1.bad<=b.bad/\li.length=lo.length/\(b.bad=0->ja s.length lS dz (j_ li path 0))
  let I:Nat->St->Prop:=fun i st=>∃lo bp li ξ fE dz ext' tt c4 b,R2 st lo bp li ξ fE dz ext' tt c4 b/\lo.length<=i/\(b.sz+i<=a1.sz\/b.bad=1)/\∀y b',Θ (cw cc F (a1.sz+1-i) (bp,li)) b y b'->Θ (cw cc F (a1.sz+1) ([],[])) a1 y b';have xF:R2 TL [] [] [] aX cS lS ext [] .nil a1:=⟨h1,h2,h5,.nil,h3,F1,Kept.cells B p cs aX ext,Row.nil,fun _=>rfl,trivial,by simp,by omega,bF _,bF _,bF _,rfl,fun _=> .refl⟩;have hI:I 0 TL:=⟨[],[],[],aX,cS,lS,ext,[],.nil,a1,xF,bF _,.inl (bF _),fun _ _ h=>h⟩;refine bc (fun st=>∃lo bp li ξ fE dz ext' tt c4 b,R2 st lo bp li ξ fE dz ext' tt c4 b/\Θ (cw cc F (a1.sz+1) ([],[])) a1 (bp,li) b) ?_ fun s3 ⟨lo,bp,li,ξ,fE,dz,ext',tt,c4,b,⟨q0,q1,q2,q3,q4,q5,q6,q7,q8,q9,fZ,jo,HQ,Mt,Mu,yB⟩,hg⟩=>?_
  ·refine μ.block (μ.jt (I:=I) (a1.sz+1) hI fun i st hi ψ=>?_);obtain⟨lo,bp,li,ξ,fE,dz,ext',tt,c4,b,hR,fz,lQ,gU⟩:=ψ;have hR':=hR;obtain⟨q0,q1,q2,q3,q4,q5,q6,q7,q8,q9,fZ,jo,HQ,Mt,Mu,yB⟩:=hR;obtain⟨qq,wr,la,tk,fp,hq,iX,fM⟩:=q5.1.sO hs hl;have gp:∀D,(B.set p (κ.cells ξ)++D)[p]?=some (.cells [.str s,.int .i64 2,.str eD,.int .i64 qq,.int .i64 tk.at_,.int .i64 tk.kind,.str tk.cut,.int .i64 tk.cZ,.bool (decide (qq=s.length)),.int .i64 wr,.int .i64 la,.list fE dz]):=fun D=>by rw[dX (by simpa using hp),fp];simp[hp]
   unfold R1;by_cases cV:wr<0
   ·have ef:b.bad=0:=by
     cases b with
     |w w=>have:wr=(w:Int):=fM;omega
     |r sb=>rfl
    have qc:=fun t ht T=>Ab (u:=u) hs hl [125] (by decide) (by simp) ext' hp q5.1 t ht T;have lQ:b.sz+i<=a1.sz:=lQ.elim id fun h=>by omega
    rw[show a1.sz+1-i=(a1.sz-i)+1 by omega]at gU;cases bN:b.aB [125]with
    |true=>
     have qc:=qc _ bN
     refine μ.done (.exit 0) (fun br=>ζ br.env 0= .ν p 0/\ζ br.env 1= .list cp (cB path)/\ζ br.env 5= .list c4 lo/\br.mem= {ε:=B.set p (.cells ξ)++ext',θ:=tt}) (by simp[q0,q1,q2,q4,gp,cV,qc]) fun s' ⟨m0,m1,m2,m3⟩=> .inr ⟨by simp,.inl ⟨rfl,.inl ⟨rfl,lo,bp,li,ξ,fE,dz,ext',tt,c4,b,⟨m0,m1,m2,q3,m3,q5,q6,q7,q8,q9,fZ,jo,HQ,Mt,Mu,yB⟩,gU _ _ (Θ.uX ?_)⟩⟩⟩;cases b with
     |w w=>cases ef
     |r sb=>show(!sb.aB [125])=false;rw[show sb.aB [125]=true from bN];rfl
    |false=>
     have qc:=qc _ bN
     obtain⟨c1,rS,c2,lN,KV,GX,y,rfl⟩:=Mk (B:=B.set p (.cells ξ)) (ext:=ext') (cp:=cp) (l:=path) lo.length (by omega);have F2:FS s B p ξ fE dz (ext'++y) b:=⟨q5.1,by rw[<-cj];exact Row.push q5.2.1 _,q5.2.2⟩;have Yf:a1.bad=0:=by omega
     have Gz:a.bad=0:=by
      cases a with
      |r s=>rfl
      |w w=>have:a1= .w w:=bQ;subst this;cases Yf
     have z1':=bQ.jB (cD.take _ _) Gz;obtain⟨v,x,ins,aW,D1,qZ,kN,T3,b2,k2,F3,tO,bz,mq,oY,jK,DM,CO,tD⟩:=afb b (by omega) (by omega) ef tt c2 (path++[lo.length]) F2 (by omega) (by simp;omega);obtain⟨L,rfl,hL⟩:=mq.RB;obtain⟨sp,XP,aaj⟩:=bz.span (e:=s.length);obtain⟨yC,Ia,sE,rr,YE,KY,aap,J1⟩:=F3.1.sO hs hl;have zz:=RS.iB b2;have dU:L.length=14:=by rw[hL.len,δ.jT]
     have eB:L.take 14=L:=dY (by omega);have XN:∀D,(B.set p (κ.cells aW)++D)[p]?=some (.cells [.str s,.int .i64 2,.str eD,.int .i64 yC,.int .i64 rr.at_,.int .i64 rr.kind,.str rr.cut,.int .i64 rr.cZ,.bool (decide (yC=s.length)),.int .i64 Ia,.int .i64 sE,.list D1 qZ]):=fun D=>by rw[dX (by simpa using hp),YE];simp[hp]
     have JU:pf (.agg [.int .i64 tk.at_,.int .i64 sE,.list c2 (cB (path++[lo.length]))])=true:=by simp[pf,l5,CZ,cB,mK,Function.comp]
     generalize Gy:AV.agg [.int .i64 tk.at_,.int .i64 sE,.list c2 (cB (path++[lo.length]))]=rH at JU;have SF:φ rH=rH:=(p9 0 false _ JU).2.2.1;have TM:shaped true 3 rH=true:=by rw[<-Gy];rfl
     obtain⟨oG,bo,Qv,hrS,Ri,ag6,Y1⟩:=u_ (bytes:=40) (n:=B.length) (B:=B.set p (.cells aW)) (ext:=kN) (by simp) F3.2.1 (by simp) F3.2.2.2 TM SF (by omega) (by omega) (by omega);simp only[fj]at Ri;obtain⟨aQ,QF⟩:∃aQ,aQ=[AV.str s,.int .i64 2,.str eD,.int .i64 yC,.int .i64 rr.at_,.int .i64 rr.kind,.str rr.cut,.int .i64 rr.cZ,.bool (decide (yC=s.length)),.int .i64 Ia,.int .i64 sE,.list oG (qZ++[rH])]:=⟨_,rfl⟩;have F4:FS s B p aQ oG (qZ++[rH]) bo b2:=by
      refine⟨⟨yC,Ia,sE,by rw[QF,aap];rfl,KY,J1⟩,?_,?_,?_⟩
      ·have:=Row.cells B p aW aQ bo (bF _) _ _ _ _ hrS;simpa using this
      ·rw[CZ,ahU,<-CZ,F3.2.2.1];simp[JU]
      ·rw[ahU,F3.2.2.2];simp[TM]
     have kY:Kept B p ξ ext' ξ (ext'++y):=fun t k sz e _ hr=>by rw[<-cj,dX (oX hr)];exact hr
     have kA:Kept B p ξ ext' aQ bo:=acL (fun t k sz e h1 hr=>tO _ _ _ _ h1 (kY _ _ _ _ h1 hr)) Ri Y1 aQ;have kB:Kept B p cs ext aQ bo:=fun t k sz e h1 hr=>kA _ _ _ _ h1 (q6 _ _ _ _ h1 hr);have r66:Row (B.length+ext.length) (B.set p (.cells aQ)++bo) 14 66 c4 lo.length:=kA.row (by decide) q7;have ag5:ext.length<=bo.length:=by simp only[fu]at CO;omega
     have n1:φ (.agg L)= .agg L:=(Dv.agg hL).φ;have tZ:shaped true 14 (.agg L)=true:=by simp[shaped,dU]
     have ZA:lo.all (shaped true 14)=true:=bB.shaped q3 (by rw[δ.eo];simp[mK,shaped,δ.av,δ.jT,Function.comp]);obtain⟨rL,qI,fy,gC,nI,tF,pF⟩:=u_ (bytes:=216) (n:=B.length+ext.length) (B:=B.set p (.cells aQ)) (ext:=bo) (by simp) r66 (by simp;omega) ZA tZ n1 (by omega) (by omega) (by omega);simp only[fj]at nI;have kC:Kept B p cs ext aQ qI:=fun t k sz e h1 hr=>by have ρ:=oX hr;simp only[fu,fj]at ρ;rw[pF t (by omega)];exact kB _ _ _ _ h1 hr
     have F5:FS s B p aQ oG (qZ++[rH]) qI b2:=⟨F4.1,nI _ _ _ _ (by decide) F4.2.1,F4.2.2⟩;have Q5:∀m:Mem,m.φ (.list oG (qZ++[rH]))= .list oG (qZ++[rH]):=fun m=>(p9 0 false (.list oG (qZ++[rH])) (by simpa[pf]using F4.2.2.1)).2.2.1;have gs:∀D,(B.set p (κ.cells aW)++D).set p (.cells [.str s,.int .i64 2,.str eD,.int .i64 yC,.int .i64 rr.at_,.int .i64 rr.kind,.str rr.cut,.int .i64 rr.cZ,.bool (decide (yC=s.length)),.int .i64 Ia,.int .i64 sE,.list oG (qZ++[rH])])=B.set p (.cells aQ)++D:=fun D=>by rw[QF,List.set_append_left _ _ (by simpa using hp),List.set_set]
     refine μ.done .normal (fun br=>ζ br.env 0= .ν p 0/\ζ br.env 1= .list cp (cB path)/\ζ br.env 5= .list rL (lo++[.agg L])/\∃l7,br.mem= {ε:=B.set p (.cells aQ)++qI,θ:=l7}/\∀i∈l7,i=p\/B.length<=i) (by
      have CP:∀m:Mem,m.φ (.agg L)= .agg L:=fun _=>n1
      have CQ:∀m:Mem,m.φ (.agg [.int .i64 tk.at_,.int .i64 sE,.list c2 (cB (path++[lo.length]))])= .agg [.int .i64 tk.at_,.int .i64 sE,.list c2 (cB (path++[lo.length]))]:=fun _=>by rw[Gy];exact SF
      have afV:shaped true 3 (.agg [.int .i64 tk.at_,.int .i64 sE,.list c2 (cB (path++[lo.length]))])=true:=rfl;have MN:∀n:Int,shaped false 1 (.int .i64 n)=true:=fun _=>rfl;have ni:∀(m:Mem) (n:Int),m.φ (.int .i64 n)= .int .i64 n:=fun _ _=>rfl;rw[<-Gy]at Qv Q5 gs;simp[q0,q1,q2,q4,gp,XN,gs,cV,qc,MN,ni,KV,GX,k2,dU,eB,tZ,CP,CQ,afV,cF,Qv,Q5,fy,Mem.put];intro j hj;split at hj
      ·exact(jK j hj).elim (fZ j) id
      ·exact(List.mem_cons.1 hj).elim .inl fun h=>(jK j h).elim (fZ j) id) fun s' ⟨m0,m1,m2,l7,m3,m4⟩=> .inl ⟨rfl,by omega,lo++[.agg L],bp++[x],li++[sp],aQ,oG,qZ++[rH],qI,l7,rL,b2,⟨m0,m1,m2,?_,m3,F5,kC,by simpa using gC,fun h=>by simp at h,δ.SQ q9 oY,m4,?_,by omega,?_,?_,by simp[yB.1],fun cQ=>?_⟩,by simp;omega,?_,fun y' b' hg=>gU y' b' (Θ.uY ?_ (XP.map _) (by rw[show a1.sz+1-(i+1)=a1.sz-i by omega]at hg;exact hg))⟩
     ·rw[T_];exact q3.append (.cons (.agg hL) .nil)
     ·simp;omega
     ·have:=bz.sz jf.mQ;omega
     ·omega
     ·have g1:=(yB.2 ef).trans (tD cQ);have ab:jx.Ok s.length ⟨tk.at_,sE,path++[lo.length]⟩:=by
       have h1:=agm hs hl hq;rw[<-iX]at h1;cases b2 with
       |w w=>cases cQ
       |r s2=>
        obtain⟨-,-,h2,h3⟩:=J1
        exact⟨by simp,by simp;omega,by simp;omega,h3⟩
      have g2:=g1.trans (ja.one c2 ab);have e1:j_ (li++[sp]) path 0=j_ li path 0++ox ins (path++[lo.length]) 0++[⟨tk.at_,sE,path++[lo.length]⟩]:=by
       cases b with
       |w w=>cases ef
       |r sb=>
        cases b2 with
        |w w=>cases cQ
        |r s2=>
         obtain⟨-,h1,-⟩:=fM
         obtain⟨-,-,h2,-⟩:=J1;rw[aaj sb s2 rfl rfl,af7,jz,yB.1,rq,U' hs hl hq h1,<-iX,h2,cj]
      rw[e1,<-Gy];exact g2
     ·have:=bz.jB jf ef;omega
     ·cases b with
      |w w=>cases ef
      |r sb=>show(!sb.aB [125])=true;rw[show sb.aB [125]=false from bN];rfl
   ·have bN:b.bad=1:=by
     cases b with
     |w w=>rfl
     |r sb=>obtain⟨h,-⟩:=fM;omega
    refine μ.done (.exit 0) (fun br=>ζ br.env 0= .ν p 0/\ζ br.env 1= .list cp (cB path)/\ζ br.env 5= .list c4 lo/\br.mem= {ε:=B.set p (.cells ξ)++ext',θ:=tt}) (by simp[q0,q1,q2,q4,gp,cV]) fun s' ⟨m0,m1,m2,m3⟩=> .inr ⟨by simp,.inl ⟨rfl,.inl ⟨rfl,lo,bp,li,ξ,fE,dz,ext',tt,c4,b,⟨m0,m1,m2,q3,m3,q5,q6,q7,q8,q9,fZ,jo,HQ,Mt,Mu,yB⟩,gU _ _ ?_⟩⟩⟩;cases b with
    |w w=>rfl
    |r sb=>cases bN
  ·obtain⟨_,w2,aW,b2,k2,r2,cz,rfl⟩:=(f196 (u:=u) hs hl [125] (by decide) (by simp) b).at ext' hp q5.1;have z2:=cz.bd (cr _ _);have db:c4.exp 0 false=Φ bp:=by
    have jU:lo.length=bp.length:=by rw[q3.len,δ.eo,dd]
    cases bp with
    |nil=>rw[q8 (List.eq_nil_of_length_eq_zero jU)];rfl
    |cons a l=>
     rcases q7 with⟨_,h⟩|⟨t,rfl,_⟩
     ·rw[h]at jU;cases jU
     ·rfl
   refine μ.done .ret (fun br=>ζ br.env 4= .list c4 lo/\br.mem= {ε:=B.set p (.cells aW)++ext',θ:=tt}) (by simp[q0,q1,q2,q4,k2]) fun s' ⟨m1,m2⟩=>⟨rfl,lo,bp,li,c4,aW,fE,dz,ext',tt,b2,m1,q3,m2,q5.cells r2,fun t k sz e h1 hr=>Kept.cells _ _ _ _ _ _ _ _ _ h1 (q6 _ _ _ _ h1 hr),db,q9,fZ,?_,by omega,HQ,fun hb=>yB.2 (cz.BJ hb)⟩;exact bQ.bind (Q:=fun _ t=>(cw cc F (t.l.length+1) ([],[]) t).bind fun l t=>(aw s.length [125] t).map fun _=>l) (hg.fuel.bind (Q:=fun l t=>(aw s.length [125] t).map fun _=>l) (cz.map fun _=>(bp,li)))
 have Cl:p<(B.set p (κ.cells cs)++ext).length:=by simp;omega
 obtain⟨⟨ex,s'⟩,e1,e2,lo,bp,li,c4,ξ,fE,dz,ext',tt,b,m1,m2,m3,m4,m5,m6,m7,m8,m9,m10,m11,m12⟩:=dj (cp.exp (B.set p (κ.cells cs)++ext).length true);dsimp only at e2 m1 m3;subst e2;have dL:([AV.ν p 0,.list cp (cB path)]++[]).map (exp (B.set p (κ.cells cs)++ext).length true)=[.ν p 0,.list (cp.exp (B.set p (κ.cells cs)++ext).length true) (cB path)]:=by
  have:bn (B.set p (κ.cells cs)++ext).length true (cB path)=cB path:=by simp[fo,cB,exp,Function.comp]
  simp only[dW,ay,aA,exp,Cl,if_true,this]
 have cK:=uq (C:=C u) (f:=200) (g:=Fj) (args:=[.ν p 0,.list cp (cB path)]) (cap:=[]) (m:= {ε:=B.set p (.cells cs)++ext,θ:=T}) (l:=[.list c4 lo]) rfl rfl rfl (by rw[dL];exact e1) (by simp) (by simp[Fj,m1]);have hv:Dv (.list c4 lo) (.list (Φ bp) (δ.Δ bp)):=by rw[<-m6];exact .list c4 m2
 refine⟨exp (B.set p (κ.cells ξ)++ext').length true (.list c4 lo),(bp,li),ξ,fE,dz,ext',T++tt,b,cK.trans (by rw[m3];rfl),m4,m5,m9,hv.exp _ _,m7,fun i hi=>(dE.1 hi).imp id (m8 i),m10,m11,m12⟩
theorem NI{n:Nat}{B:List κ}{p:Nat}(hp:p<B.length):∀k,k<=n->Ds u s n k B p
 |0,_=>fun a _ _ _ _ _ _ _ h=>by omega
 |k+1,hk=>f200 hs hl hk hp (NI hp k (by omega))
end
section
variable{s:List Nat}(hs:cX s)(hl:s.length<1000000000)
include hs hl
theorem f129{n:Nat}{B:List κ}{p:Nat}(hp:p<B.length)(a:RS)(ha:a.sz<n)(lP:a.bad=0){cs:List AV}{cS:χ}{lS:List AV}{ext:List κ}(T:List Nat)(kk:Nat)
  (h:FS s B p cs cS lS ext a) (QY:lS.length+a.sz<=2000000000) (bh:a.sz<=1000000000):
  ∃v x ξ fE dz ext' T' b,kf u 129 [.ν p 0,.int .i64 kk] {ε:=B.set p (.cells cs)++ext,θ:=T}=some (v,{ε:=B.set p (.cells ξ)++ext',θ:=T'})/\FS s B p ξ fE dz ext' b/\Kept B p cs ext ξ ext'∧
   Θ (u5 s.length (bT s.length (au s.length n) n)) a x b/\Dv v x.1.av/\x.1.Ok/\(∀i∈T',i∈T\/i=p\/B.length<=i)/\dz.length+b.sz+a.bad<=lS.length+a.sz+b.bad/\ext.length<=ext'.length/\(b.bad=0->ja s.length lS dz (j_ x.2 [kk] 0)):=by
 have oq:=h.1;obtain⟨_,w1,aX,a1,k1,r1,bQ,rfl⟩:=(f196 (u:=u) hs hl [112,114,111,99] (by decide) (by simp) a).at ext hp oq;have s1:=bQ.sz (cr _ _);have z1:=bQ.bd (cr _ _);obtain⟨_,nm,aW,a2,k2,r2,cz,rfl,kx⟩:=(f197 (u:=u) hs hl a1).at ext hp r1;have s2:=cz.sz (jb _);have z2:=cz.bd (jb _);obtain⟨_,w3,aQ,a3,k3,r3,bz,rfl⟩:=(f196 (u:=u) hs hl [40] (by decide) (by simp) a2).at ext hp r2;have s3:=bz.sz (cr _ _);have z3:=bz.bd (cr _ _);have dj:μ (C u).gl (aU (C u)) NX {env:=[.ν p 0,.int .i64 kk],loc:=[],mem:= {ε:=B.set p (.cells cs)++ext,θ:=[]}} fun r=>r.1= .ret/\ζ r.2.env 4= .ae 4 0 0/\∃L x ξ fE dz ext' tt b,τ r.2.loc 4=some (0,.cells L)/\r.2.mem= {ε:=B.set p (.cells ξ)++ext',θ:=tt}/\FS s B p ξ fE dz ext' b/\Kept B p cs ext ξ ext'∧
   Θ (u5 s.length (bT s.length (au s.length n) n)) a x b/\Dv (.agg L) x.1.av/\L.length=3/\x.1.Ok/\(∀i∈tt,i=p\/B.length<=i)/\dz.length+b.sz+a.bad<=lS.length+a.sz+b.bad/\ext.length<=ext'.length/\(b.bad=0->ja s.length lS dz (j_ x.2 [kk] 0)):=by
  let K:St->Prop:=fun st=>ζ st.env 0= .ν p 0/\ζ st.env 1= .int .i64 kk/\ζ st.env 4= .ae 4 0 0/\(∃z,τ st.loc 4=some (0,.cells z)/\z.length=3);refine ω (fun st=>K st/\τ st.loc 5=none/\st.mem= {ε:=B.set p (.cells cs)++ext,θ:=[]}) (by simp[K,aR]) fun s1 ⟨⟨h1,h2,h3,z,h4,h5⟩,h6,h7⟩=>?_;refine ω (fun st=>K st/\τ st.loc 5=none/\st.mem= {ε:=B.set p (.cells aX)++ext,θ:=[]}) (by simp[K,h1,h2,h3,h4,h5,h6,h7,k1]) fun s1 ⟨⟨h1,h2,h3,z,h4,h5⟩,h6,h7⟩=>?_;let K2:St->Prop:=fun st=>K st/\ζ st.env 5= .ae 5 0 0;refine ω (fun st=>K2 st/\τ st.loc 5=some (0,.cells [.str nm,.list .nil (([]:List aI).map aI.av),.list .nil []])/\st.mem= {ε:=B.set p (.cells aW)++ext,θ:=[]}) (by simp[K2,K,h1,h2,h3,h4,h5,h6,h7,k2,aR,cF]) fun s1 ⟨⟨⟨h1,h2,h3,z,h4,h5⟩,h8⟩,h6,h7⟩=>?_;refine ω (fun st=>K2 st/\τ st.loc 5=some (0,.cells [.str nm,.list .nil (([]:List aI).map aI.av),.list .nil []])/\st.mem= {ε:=B.set p (.cells aQ)++ext,θ:=[]}) (by simp[K2,K,h1,h2,h3,h4,h5,h6,h7,h8,k3]) fun s1 ⟨X1,h6,h7⟩=>?_;have Zh:nq s.length (ri s.length) a3 [] a3:= .inl ⟨rfl,rfl⟩;let R2:St->List AV->List aI->χ->List κ->RS->Prop:=fun st ξ l cP ext' b=>K2 st/\τ st.loc 5=some (0,.cells [.str nm,.list cP (l.map aI.av),.list .nil []])/\st.mem= {ε:=B.set p (.cells ξ)++ext',θ:=[]}/\eY s (.list cS lS) ξ b/\Row (B.length+ext.length) (B.set p (.cells ξ)++ext') 2 76 cP l.length/\Row B.length (B.set p (.cells ξ)++ext') 3 196 cS lS.length/\Kept B p cs ext ξ ext'/\ext.length<=ext'.length∧
   (l=[]->cP= .nil)/\(∀y∈l,cX y.name)/\nq s.length (ri s.length) a3 l b/\b.sz<=a3.sz/\a3.bad<=b.bad
  let I:Nat->St->Prop:=fun i st=>∃ξ l cP ext' b,R2 st ξ l cP ext' b/\(b.sz+i<=a3.sz\/b.bad=1)/\l.length<=i;have hI:I 0 s1:=⟨aQ,[],.nil,ext,a3,⟨X1,h6,h7,r3,Row.nil,(h.cells r3).2.1,Kept.cells B p cs aQ ext,bF _,fun _=>rfl,by simp,Zh,bF _,bF _⟩,.inl (bF _),bF _⟩;refine bc (fun st=>∃ξ l cP ext' b,R2 st ξ l cP ext' b/\(b.bad=1\/b.aB [41]=true)) ?_ fun s2 ⟨ξ,l,cP,ext',b,⟨⟨⟨h1,h2,h3,z,h4,h5⟩,h8⟩,h6,h7,iW,dw,lB,mC,vV,kQ,fz,ob,eU,rZ⟩,pC⟩=>?_
  ·refine μ.block (μ.jt (I:=I) (a3.sz+2) hI fun i st hi ψ=>?_);obtain⟨ξ,l,cP,ext',b,⟨⟨⟨h1,h2,h3,z,h4,h5⟩,h8⟩,h6,h7,iW,dw,lB,mC,vV,kQ,fz,ob,eU,rZ⟩,lQ,jJ⟩:=ψ;obtain⟨q,wr,la,tk,fp,hq,iX,fM⟩:=iW.sO hs hl;have gp:(B.set p (κ.cells ξ)++ext')[p]?=some (.cells [.str s,.int .i64 2,.str eD,.int .i64 q,.int .i64 tk.at_,.int .i64 tk.kind,.str tk.cut,.int .i64 tk.cZ,.bool (decide (q=s.length)),.int .i64 wr,.int .i64 la,.list cS lS]):=by rw[dX (by simpa using hp),fp];simp[hp]
   unfold RN;by_cases cV:wr<0
   ·have ef:b.bad=0:=by
     cases b with
     |w w=>have:wr=(w:Int):=fM;omega
     |r sb=>rfl
    have qc:=fun t ht T=>Ab (u:=u) hs hl [41] (by decide) (by simp) ext' hp iW t ht T;cases bN:b.aB [41]with
    |true=>
     have qc:=qc _ bN
     refine μ.done (.exit 0) (fun st=>K2 st/\τ st.loc 5=some (0,.cells [.str nm,.list cP (l.map aI.av),.list .nil []])/\st.mem= {ε:=B.set p (.cells ξ)++ext',θ:=[]}) (by simp[K2,K,h1,h2,h3,h4,h5,h6,h7,h8,gp,cV,qc]) fun s' ⟨m1,m2,m3⟩=> .inr ⟨by simp,.inl ⟨rfl,.inl ⟨rfl,ξ,l,cP,ext',b,⟨m1,m2,m3,iW,dw,lB,mC,vV,kQ,fz,ob,eU,rZ⟩,.inr bN⟩⟩⟩
    |false=>
     have qc:=qc _ bN
     have lQ:b.sz+i<=a3.sz:=lQ.elim id fun h=>by omega
     by_cases h0:l=[]
     ·have J5:b=a3:=by
       rcases ob with⟨_,h⟩|⟨h,_⟩|⟨w,h,_⟩
       ·exact h
       ·exact absurd h0 h
       ·subst h;cases ef
      have jU:¬0<l.length:=by rw[h0];simp
      obtain⟨_,x,dK,b4,k4,r4,dR,rfl,hx⟩:=(f197 (u:=u) hs hl b).at ext' hp iW;obtain⟨_,w5,hS,b5,k5,r5,gL,rfl⟩:=(f196 (u:=u) hs hl [91] (by decide) (by simp) b4).at ext' hp r4;obtain⟨_,m,nV,b6,k6,r6,qL,rfl,hm⟩:=(f199 (u:=u) hs hl b5).at ext' hp r5;obtain⟨_,w7,nW,b7,k7,r7,xx,rfl⟩:=(f196 (u:=u) hs hl [93] (by decide) (by simp) b6).at ext' hp r6;have vO:Θ (ri s.length) b (⟨x,m⟩:aI) b7:=dR.bind (Q:=fun n t=>(aw s.length [91] t).bind fun _ t=>(sH s.length t).bind fun k t=>(aw s.length [93] t).map fun _=>(⟨n,k⟩:aI)) (gL.bind (qL.bind (Q:=fun(k:Nat) t=>(aw s.length [93] t).map fun _=>(⟨x,(k:Int)⟩:aI)) (xx.map fun _=>(⟨x,(m:Int)⟩:aI))));have zi:=vO.jB (ze _) ef;have si:=vO.sz (ze _).mQ;have yi:=RS.iB b7;obtain⟨mN,gT,fy,gC,nI,tF,pF⟩:=u_ (bytes:=24) (n:=B.length+ext.length) (B:=B.set p (.cells nW)) (ext:=ext') (by simp) (by rw[dd];exact Row.cells _ _ _ _ _ (by omega) _ _ _ _ dw) (by simp;omega) (Mj l) (show shaped true 2 (aI.av ⟨x,m⟩)=true by rfl) (show φ (aI.av ⟨x,m⟩)=_ by rfl) (by omega) (by simp;omega) (by simp;omega);rw[dd]at gC;simp only[fj]at nI;have sg:Kept B p cs ext nW gT:=fun t k sz e h1 hr=>by have ρ:=oX hr;simp only[fu,fj]at ρ;rw[pF t (by omega)];exact Kept.cells _ _ _ _ _ _ _ _ _ h1 (mC _ _ _ _ h1 hr)
      have su:Row B.length (B.set p (.cells nW)++gT) 3 196 cS lS.length:=nI 3 196 cS lS.length (by decide) (Row.cells _ _ _ _ _ (bF _) _ _ _ _ lB);have sk:∀y∈l++[(⟨x,m⟩:aI)],cX y.name:=fun y hy=>(dE.1 hy).elim (fz y) fun h=>by rw[kX.1 h];exact hx
      have eu:shaped true 2 (.agg [.str x,.int .i64 m])=true:=rfl;have lA:∀M:Mem,M.φ (.agg [.str x,.int .i64 m])= .agg [.str x,.int .i64 m]:=fun _=>rfl;simp only[aI.av]at fy;refine μ.done .normal (fun st=>K2 st/\τ st.loc 5=some (0,.cells [.str nm,.list mN ((l++[(⟨x,m⟩:aI)]).map aI.av),.list .nil []])/\st.mem= {ε:=B.set p (.cells nW)++gT,θ:=[]}) (by simp[K2,K,h1,h2,h3,h4,h5,h6,h7,h8,gp,cV,qc,jU,k4,k5,k6,k7,cF,eu,lA,fy,aI.av]) fun s' ⟨m1,m2,m3⟩=> .inl ⟨rfl,by omega,nW,l++[⟨x,m⟩],mN,gT,b7,⟨m1,m2,m3,r7,by simpa using gC,su,sg,by omega,fun h=>by simp at h,sk,by rw[h0];rw[J5]at vO bN;exact nq.start bN vO,by omega,by omega⟩,by omega,by simp;omega⟩
     ·obtain⟨_,w9,cs9,b9,k9,r9,JI,rfl⟩:=(f196 (u:=u) hs hl [44] (by decide) (by simp) b).at ext' hp iW;have z9:=JI.jB (cD.take _ _) ef;have s9:=JI.sz (cr _ _);have y9:=RS.iB b9;have jU:0<l.length:=List.length_pos_iff.2 h0;obtain⟨_,x,dK,b4,k4,r4,dR,rfl,hx⟩:=(f197 (u:=u) hs hl b9).at ext' hp r9;obtain⟨_,w5,hS,b5,k5,r5,gL,rfl⟩:=(f196 (u:=u) hs hl [91] (by decide) (by simp) b4).at ext' hp r4;obtain⟨_,m,nV,b6,k6,r6,qL,rfl,hm⟩:=(f199 (u:=u) hs hl b5).at ext' hp r5;obtain⟨_,w7,nW,b7,k7,r7,xx,rfl⟩:=(f196 (u:=u) hs hl [93] (by decide) (by simp) b6).at ext' hp r6;have vO:Θ (ri s.length) b9 (⟨x,m⟩:aI) b7:=dR.bind (Q:=fun n t=>(aw s.length [91] t).bind fun _ t=>(sH s.length t).bind fun k t=>(aw s.length [93] t).map fun _=>(⟨n,k⟩:aI)) (gL.bind (qL.bind (Q:=fun(k:Nat) t=>(aw s.length [93] t).map fun _=>(⟨x,(k:Int)⟩:aI)) (xx.map fun _=>(⟨x,(m:Int)⟩:aI))));have zi:=vO.bd (ze _).mQ;have si:=vO.sz (ze _).mQ;have yi:=RS.iB b7;obtain⟨mN,gT,fy,gC,nI,tF,pF⟩:=u_ (bytes:=24) (n:=B.length+ext.length) (B:=B.set p (.cells nW)) (ext:=ext') (by simp) (by rw[dd];exact Row.cells _ _ _ _ _ (by omega) _ _ _ _ dw) (by simp;omega) (Mj l) (show shaped true 2 (aI.av ⟨x,m⟩)=true by rfl) (show φ (aI.av ⟨x,m⟩)=_ by rfl) (by omega) (by simp;omega) (by simp;omega);rw[dd]at gC;simp only[fj]at nI;have sg:Kept B p cs ext nW gT:=fun t k sz e h1 hr=>by have ρ:=oX hr;simp only[fu,fj]at ρ;rw[pF t (by omega)];exact Kept.cells _ _ _ _ _ _ _ _ _ h1 (mC _ _ _ _ h1 hr)
      have su:Row B.length (B.set p (.cells nW)++gT) 3 196 cS lS.length:=nI 3 196 cS lS.length (by decide) (Row.cells _ _ _ _ _ (bF _) _ _ _ _ lB);have sk:∀y∈l++[(⟨x,m⟩:aI)],cX y.name:=fun y hy=>(dE.1 hy).elim (fz y) fun h=>by rw[kX.1 h];exact hx
      have eu:shaped true 2 (.agg [.str x,.int .i64 m])=true:=rfl;have lA:∀M:Mem,M.φ (.agg [.str x,.int .i64 m])= .agg [.str x,.int .i64 m]:=fun _=>rfl;simp only[aI.av]at fy;refine μ.done .normal (fun st=>K2 st/\τ st.loc 5=some (0,.cells [.str nm,.list mN ((l++[(⟨x,m⟩:aI)]).map aI.av),.list .nil []])/\st.mem= {ε:=B.set p (.cells nW)++gT,θ:=[]}) (by simp[K2,K,h1,h2,h3,h4,h5,h6,h7,h8,gp,cV,qc,jU,k9,k4,k5,k6,k7,cF,eu,lA,fy,aI.av]) fun s' ⟨m1,m2,m3⟩=> .inl ⟨rfl,by omega,nW,l++[⟨x,m⟩],mN,gT,b7,⟨m1,m2,m3,r7,by simpa using gC,su,sg,by omega,fun h=>by simp at h,sk,nq.step (ze _).mQ ef ob h0 bN JI vO,by omega,by omega⟩,by omega,by simp;omega⟩
   ·have bN:b.bad=1:=by
     cases b with
     |w w=>rfl
     |r sb=>obtain⟨h,-⟩:=fM;omega
    refine μ.done (.exit 0) (fun st=>K2 st/\τ st.loc 5=some (0,.cells [.str nm,.list cP (l.map aI.av),.list .nil []])/\st.mem= {ε:=B.set p (.cells ξ)++ext',θ:=[]}) (by simp[K2,K,h1,h2,h3,h4,h5,h6,h7,h8,gp,cV]) fun s' ⟨m1,m2,m3⟩=> .inr ⟨by simp,.inl ⟨rfl,.inl ⟨rfl,ξ,l,cP,ext',b,⟨m1,m2,m3,iW,dw,lB,mC,vV,kQ,fz,ob,eU,rZ⟩,.inl bN⟩⟩⟩
  ·obtain⟨_,w4,dK,a4,k4,r4,dR,rfl⟩:=(f196 (u:=u) hs hl [41] (by decide) (by simp) b).at ext' hp iW;have s4:=dR.sz (cr _ _);have Km:=ob.done pC dR;have z4:=Km.bd (Ed _ (ze _).mQ);have y1:=RS.iB a1;have y2:=RS.iB a2;have y3:=RS.iB a3;have y4:=RS.iB a4;have F4:FS s B p dK cS lS ext' a4:=⟨r4,Row.cells _ _ _ _ _ (bF _) _ _ _ _ lB,h.2.2⟩;have db:cP.exp 0 false=Φ l:=by
    cases l with
    |nil=>rw[kQ rfl];rfl
    |cons a l=>
     rcases dw with⟨_,h⟩|⟨t,rfl,_⟩
     ·cases h
     ·rfl
   obtain⟨_,⟨bl,bi⟩,hS,IW,LM,qI,T5,a5,k5,F5,CG,gL,rO,wG,sw,NG,Ss,BK⟩:=NI (u:=u) hs hl (n:=n) hp n (bF _) a4 dK cS lS ext' [] .full [kk] (by omega) F4 (by omega) (by simp only[List.length_singleton];omega);obtain⟨vc,vl,rfl⟩:=rO.wx;dsimp only at rO wG;have Ck:=Dv.list cP (bB.of aI.av l fun y _=>aI.fx y);rw[db]at Ck;have k5':kf u 200 [.ν p 0,.list .full [.int .i64 kk]] {ε:=B.set p (.cells dK)++ext',θ:=[]}=some (.list vc vl,{ε:=B.set p (.cells hS)++qI,θ:=T5}):=k5;have MN:∀n:Int,shaped false 1 (.int .i64 n)=true:=fun _=>rfl;have ni:∀(m:Mem) (n:Int),m.φ (.int .i64 n)= .int .i64 n:=fun _ _=>rfl;have hG:Θ (u5 s.length (bT s.length (au s.length n) n)) a ((⟨nm,Φ l,l,Φ bl,bl⟩:Ξ),bi) a5:=
    bQ.bind (cz.bind (Q:=fun n' t=>(aw s.length [40] t).bind fun _ t=>(lY s.length (ri s.length) t).bind fun ps t=>(bT s.length (au s.length n) n t).map fun b=>((⟨n',Φ ps,ps,Φ b.1,b.1⟩:Ξ),b.2)) (bz.bind (Km.bind (Q:=fun ps t=>(bT s.length (au s.length n) n t).map fun b=>((⟨nm,Φ ps,ps,Φ b.1,b.1⟩:Ξ),b.2)) (gL.map fun b=>((⟨nm,Φ l,l,Φ b.1,b.1⟩:Ξ),b.2)))))
   refine μ.done .ret (fun st=>ζ st.env 4= .ae 4 0 0/\τ st.loc 4=some (0,.cells [.str nm,.list cP (l.map aI.av),.list vc vl])/\st.mem= {ε:=B.set p (.cells hS)++qI,θ:=T5}) (by simp[h1,h2,h3,h4,h5,h6,h7,h8,k4,k5',MN,ni]) fun s' ⟨m1,m2,m3⟩=>⟨rfl,m1,_,_,hS,IW,LM,qI,T5,a5,m2,m3,F5,fun t k sz e h1 hr=>CG _ _ _ _ h1 (Kept.cells _ _ _ _ _ _ _ _ _ h1 (mC _ _ _ _ h1 hr)),hG,.agg (.cons (.str _) (.cons Ck (.cons rO .nil))),rfl,⟨kx,hH _,fz,hH _,wG,fun h=>by cases l with
    |nil=>rfl
    |cons a l=>cases h⟩,fun i hi=>(sw i hi).elim (fun h=>by cases h) id,by omega,by omega,BK⟩
 have Cl:p<(B.set p (κ.cells cs)++ext).length:=by simp;omega
 obtain⟨⟨ex,s'⟩,e1,e2,m1,L,x,ξ,fE,dz,ext',tt,b,m2,m3,m4,m5,m6,m7,m8,m9,m10,m11,m12,m13⟩:=dj;dsimp only at e2 m1 m2 m3;subst e2;have eB:L.take 3=L:=dY (by omega);have dL:([AV.ν p 0,.int .i64 kk]++[]).map (exp (B.set p (κ.cells cs)++ext).length true)=[.ν p 0,.int .i64 kk]:=by simp only[dW,ay,aA,exp,Cl,if_true]
 have cK:=uq (C:=C u) (f:=129) (g:=EO) (args:=[.ν p 0,.int .i64 kk]) (cap:=[]) (m:= {ε:=B.set p (.cells cs)++ext,θ:=T}) (l:=[.agg L]) rfl rfl rfl (by rw[dL];exact e1) (by simp) (by simp[EO,m1,m2,m8,eB]);exact⟨exp (B.set p (κ.cells ξ)++ext').length true (.agg L),x,ξ,fE,dz,ext',T++tt,b,cK.trans (by rw[m3];rfl),m4,m5,m6,m7.exp _ _,m9,fun i hi=>(dE.1 hi).imp id (m10 i),m11,m12,m13⟩
end
theorem afj{s:List Nat}{q:Nat}(hq:q<=s.length):(oz s q).isEmpty=decide (q=s.length):=by
 unfold oz;by_cases h:q<s.length
 ·rw[if_pos h];have:¬q=s.length:=by omega
  split<;>simp[this]
 ·have:q=s.length:=by omega
  simp[this]
theorem Th(l:List Ξ)(h:∀y∈l,y.Ok):bB (l.map Ξ.av) (l.map Ξ.av):=bB.of Ξ.av l fun y hy=>Ξ.EA (h y hy)
def oy:List (List Sp)->Nat->List jx
 |[],_=>[]
 |l::r,k=>j_ l [k] 0++oy r (k+1)
theorem aeN(l:List (List Sp))(x:List Sp)(k:Nat):oy (l++[x]) k=oy l k++j_ x [k+l.length] 0:=by
 induction l generalizing k with
 |nil=>simp[oy]
 |cons y l ih=>simp only[List.cons_append,oy,ih,cj,List.length_cons,show k+1+l.length=k+(l.length+1) by omega]
def AX(s:List Nat)(sp:AV):Prop:=∃(c:χ) (gl:List (χ×jx)),sp= .list c (gl.map sQ)/\aJ c/\gl.length<=2000000000/\(∀g∈gl,g.2.Ok s.length)/\((bI s).2.2=0->gl.map (·.2)=oy (bI s).1.2 0)
theorem AX.nil{s:List Nat}(h:(bI s).1.2=[]):AX s (.list .nil []):=⟨.nil,[],rfl,.inl rfl,by simp,by simp,fun _=>by rw[h];rfl⟩
theorem WU(c:χ):aJ (c.exp 0 false):=by cases c<;>simp[χ.exp,aJ]
theorem aaB(l:List Nat):bB (cB l) (cB l):=bB.of (fun n:Nat=>AV.int .i64 (n:Int)) l fun _ _=> .int _ _
theorem af4(gl:List (χ×jx)):bB (gl.map sQ) ((gl.map fun g=>(g.1.exp 0 false,g.2)).map sQ):=by
 induction gl with
 |nil=>exact .nil
 |cons g l ih=>exact .cons (.agg (.cons (.int _ _) (.cons (.int _ _) (.cons (.list _ (aaB _)) .nil)))) ih
theorem f54(s:List Nat)(hs:cX s)(hl:s.length<1000000000)(m:Mem):∃sp,((∀x∈(bI s).1.1,x.Ok)/\AX s sp)/\kf u 54 [.str s] m=some (.aP [.agg [.list (Φ (bI s).1.1) ((bI s).1.1.map Ξ.av)],sp,.int .i64 (bI s).2.1,.int .i64 (bI s).2.2],m):=by
 by_cases qQ:65536<s.length
 ·refine⟨.list .nil [],⟨by simp[bI,qQ],.nil (by simp[bI,qQ])⟩,IY (g:=vM) rfl rfl rfl ?_⟩;simp only[ay,aA,exp,vM,IS];have xS:(65536:Int)<s.length:=by omega
  simp[aR,xS,cF,bI,qQ];rfl
 have xS:¬(65536:Int)<s.length:=by omega
 suffices h:μ (C u).gl (aU (C u)) vM.code {env:=[AV.str s].map (exp m.ε.length false),loc:=[],mem:= {ε:=m.ε,θ:=[]}} fun r=>∃sp,((∀x∈(bI s).1.1,x.Ok)/\AX s sp)∧
   (∀i,r.1≠ .exit i)/\(∃bs,r.2.mem.ε=m.ε++bs)/\(∀i∈r.2.mem.θ,m.ε.length<=i)/\∃l,aY r.2 vM.results=some l/\ai r.2.mem.ε m.ε.length 8 (aV l)= .aP [.agg [.list (Φ (bI s).1.1) ((bI s).1.1.map Ξ.av)],sp,.int .i64 (bI s).2.1,.int .i64 (bI s).2.2] by
  obtain⟨r,h1,sp,h0,h2⟩:=h;exact⟨sp,h0,IY (g:=vM) rfl rfl rfl ⟨r,h1,h2⟩⟩
 simp only[ay,aA,exp,vM,IS];have Tr:=fun m=>f127 (u:=u) s (by omega) m;simp only[eD]at Tr;have wm:=MX s;let K:St->Prop:=fun st=>ζ st.env 0= .str s/\ζ st.env 2= .ae 2 0 0/\τ st.loc 2=some (0,.cells [.list .nil []]);refine ω (fun st=>K st/\τ st.loc 7=none/\st.mem= {ε:=m.ε,θ:=[]}) (by simp[K,aR]) fun s1 ⟨⟨h1,h2,h3⟩,h4,h5⟩=>?_;refine ω (fun st=>K st/\τ st.loc 7=none/\st.mem= {ε:=m.ε,θ:=[]}) (by simp[K,h1,h2,h3,h4,h5,xS]) fun s1 ⟨⟨h1,h2,h3⟩,h4,h5⟩=>?_;obtain⟨B,BO⟩:∃B,B=m.ε++[κ.cells []]:=⟨_,rfl⟩;have XY:B.length=m.ε.length+1:=by rw[BO];simp
 obtain⟨p,Cm⟩:∃p,p=m.ε.length:=⟨_,rfl⟩;have hp:p<B.length:=by omega
 have hB:∀cs,B.set p (.cells cs)=m.ε++[.cells cs]:=fun cs=>by rw[BO,Cm];simp
 obtain⟨pj,J'⟩:∃pj,pj=sM s (bO false s)++[AV.int .i64 (-1),.int .i64 0,.list .nil []]:=⟨_,rfl⟩;let K2:St->Prop:=fun st=>K st/\ζ st.env 6= .ν p 0;refine ω (fun st=>K2 st/\τ st.loc 7=none/\st.mem= {ε:=B.set p (.cells pj),θ:=[]}) (by
  rw[hB,J']
  simp[K2,K,h1,h2,h3,h4,h5,Tr,cF,sM,eD,Mem.push,Mem.φ,φ,cW,Cm]) fun s1 ⟨⟨⟨h1,h2,h3⟩,h6⟩,h4,h5⟩=>?_
 let K3:St->Prop:=fun st=>K2 st/\ζ st.env 7= .ae 7 0 0;refine ω (fun st=>K3 st/\τ st.loc 7=some (0,.cells [.list .nil []])/\st.mem= {ε:=B.set p (.cells pj),θ:=[]}) (by simp[K3,K2,K,h1,h2,h3,h4,h5,h6,aR]) fun s1 ⟨hK,h4,h5⟩=>?_;have hle:=CL false s;have r0:eY s (.list .nil []) pj (.r ⟨0,cY s⟩):=⟨bO false s,-1,0,J',hle,rfl,by
  have:=TD s 0 (Nat.zero_le _)
  rw[afl,List.drop_zero,jz]at this;exact this,rfl,by omega⟩
 have ae7:=fun(a:RS) h1 h2=>@f129 u s hs hl ((cY s).length+1) B p hp a h1 h2;have jf:=cD.prog s.length ((cY s).length+1);obtain⟨a1,uA⟩:∃a1,a1=RS.r ⟨0,cY s⟩:=⟨_,rfl⟩;have JW:a1.sz=(cY s).length:=by rw[uA];rfl
 generalize hP:u5 s.length (bT s.length (au s.length ((cY s).length+1)) ((cY s).length+1))=P at*;let F:List Ξ×List (List Sp)->PS->R (List Ξ×List (List Sp)):=fun l t=>(P t).map fun x=>(l.1++[x.1],l.2++[x.2]);let cc:PS->Bool:=fun t=>!t.l.isEmpty;let R2:St->List Ξ->List (List Sp)->List AV->RS->Prop:=fun st lo li ξ b=>K3 st/\∃la c4 cS lS ext tt,τ st.loc 7=some (0,.cells [.list c4 la])/\bB la (lo.map Ξ.av)/\la.length=lo.length/\st.mem= {ε:=B.set p (.cells ξ)++ext,θ:=tt}/\(∀i∈tt,i=p\/B.length<=i)∧
  Row B.length (B.set p (.cells ξ)++ext) 3 70 c4 la.length/\(lo=[]->c4= .nil)/\(∀x∈lo,x.Ok)/\FS s B p ξ cS lS ext b/\lS.length+b.sz<=a1.sz+b.bad/\li.length=lo.length/\(b.bad=0->ja s.length [] lS (oy li 0))
 refine bc (fun st=>∃lo li ξ b,R2 st lo li ξ b/\Θ (cw cc F (a1.sz+1) ([],[])) a1 (lo,li) b) ?_ fun s3 ⟨lo,li,ξ,b,⟨⟨⟨⟨h1,h2,h3⟩,h6⟩,h7⟩,la,c4,cS,lS,ext,tt,q2,q3,HU,q4,q5,q6,q7,q8,q9,fZ,jo⟩,hg⟩=>?_
 ·let I:Nat->St->Prop:=fun i st=>∃lo li ξ b,R2 st lo li ξ b/\lo.length<=i/\b.sz<=a1.sz/\(b.sz+i<=a1.sz\/b.bad=1)/\∀y b',Θ (cw cc F (a1.sz+1-i) (lo,li)) b y b'->Θ (cw cc F (a1.sz+1) ([],[])) a1 y b';have hI:I 0 s1:=⟨[],[],pj,a1,⟨hK,[],.nil,.nil,[],[],[],h4,.nil,rfl,h5.trans (by simp),by simp,Row.nil,fun _=>rfl,by simp,⟨by rw[uA];exact r0,Row.nil,rfl,rfl⟩,by simp,rfl,fun _=> .refl⟩,bF _,bF _,.inl (bF _),fun _ _ h=>h⟩;refine μ.block (μ.jt (I:=I) (a1.sz+1) hI fun i st hi ψ=>?_);obtain⟨lo,li,ξ,b,⟨⟨⟨⟨h1,h2,h3⟩,h6⟩,h7⟩,la,c4,cS,lS,ext,tt,q2,q3,HU,q4,q5,q6,q7,q8,q9,fZ,jo⟩,fz,eU,lQ,gU⟩:=ψ;obtain⟨qq,wr,lt,tk,fp,hq,iX,fM⟩:=q9.1.sO hs hl;have gp:(B.set p (κ.cells ξ)++ext)[p]?=some (.cells [.str s,.int .i64 2,.str eD,.int .i64 qq,.int .i64 tk.at_,.int .i64 tk.kind,.str tk.cut,.int .i64 tk.cZ,.bool (decide (qq=s.length)),.int .i64 wr,.int .i64 lt,.list cS lS]):=by rw[dX (by simpa using hp),fp];simp[hp]
  have out:∀br:St,K3 br/\τ br.loc 7=some (0,.cells [.list c4 la])/\br.mem= {ε:=B.set p (.cells ξ)++ext,θ:=tt}->R2 br lo li ξ b:=fun br ⟨m1,m2,m3⟩=>⟨m1,la,c4,cS,lS,ext,tt,m2,q3,HU,m3,q5,q6,q7,q8,q9,fZ,jo⟩;unfold Si;by_cases cV:wr<0
  ·have ef:b.bad=0:=by
    cases b with
    |w w=>have:wr=(w:Int):=fM;omega
    |r sb=>rfl
   have lQ:b.sz+i<=a1.sz:=lQ.elim id fun h=>by omega
   rw[show a1.sz+1-i=(a1.sz-i)+1 by omega]at gU;cases b with
   |w w=>cases ef
   |r sb=>
    obtain⟨-,ij,-⟩:=fM
    have Kd:=afj hq;rw[<-ij]at Kd;by_cases G0:qq=s.length
    ·refine μ.done (.exit 0) (fun br=>K3 br/\τ br.loc 7=some (0,.cells [.list c4 la])/\br.mem= {ε:=B.set p (.cells ξ)++ext,θ:=tt}) (by simp[K3,K2,K,h1,h2,h3,h6,h7,q2,q4,gp,cV,G0]) fun s' hh=> .inr ⟨by simp,.inl ⟨rfl,.inl ⟨rfl,lo,li,ξ,.r sb,out s' hh,gU _ _ (Θ.uX (show(!sb.l.isEmpty)=false by rw[Kd];simp[G0]))⟩⟩⟩
    ·obtain⟨v,x,aW,D1,qZ,lN,T2,b2,k2,F2,kp2,cz,Je,SN,Lb,Vp,ln2,Qg⟩:=ae7 (.r sb) (by omega) rfl tt la.length q9 (by omega) (by omega);obtain⟨x,sp⟩:=x;dsimp only at Je SN Qg;obtain⟨L,rfl,hL⟩:=Je.RB;have dU:L.length=3:=hL.len;have eB:L.take 3=L:=dY (by omega);have bh:=cz.sz jf.mQ;have ahl:=cz.jB jf rfl;have zz:=RS.iB b2;have n1:φ (.agg L)= .agg L:=Je.φ;have nM:∀m:Mem,m.φ (.agg L)= .agg L:=fun _=>n1;have tZ:shaped true 3 (.agg L)=true:=by simp[shaped,dU]
     have Zy:la.all (shaped true 3)=true:=bB.shaped q3 (Ti lo);obtain⟨rL,kN,fy,dw,sr,zL,lR⟩:=u_ (bytes:=64) (n:=B.length) (B:=B.set p (.cells aW)) (ext:=lN) (by simp) (kp2.row (by decide) q6) (by simp) Zy tZ n1 (by omega) (by omega) (by omega);simp only[fj]at sr;have F3:FS s B p aW D1 qZ kN b2:=⟨F2.1,sr _ _ _ _ (by decide) F2.2.1,F2.2.2⟩;refine μ.done .normal (fun br=>K3 br/\τ br.loc 7=some (0,.cells [.list rL (la++[.agg L])])/\br.mem= {ε:=B.set p (.cells aW)++kN,θ:=T2}) (by simp[K3,K2,K,h1,h2,h3,h6,h7,q2,q4,gp,cV,G0,k2,dm,dy,tB,dU,eB,tZ,nM,cF,fy]) fun s' ⟨m1,m2,m3⟩=> .inl ⟨rfl,by omega,lo++[x],li++[sp],aW,b2,⟨m1,la++[.agg L],rL,D1,qZ,kN,T2,m2,?_,by simp;omega,m3,fun i hi=>(Lb i hi).elim (q5 i) id,by simpa using dw,fun h=>by simp at h,fun y hy=>(dE.1 hy).elim (q8 y) fun h=>by rw[kX.1 h];exact SN,F3,?_,by simp[jo.1],fun cQ=>?_⟩,by simp;omega,by omega,?_,fun y b' hg=>gU y b' (Θ.uY (show(!sb.l.isEmpty)=true by rw[Kd];simp[G0]) (cz.map _) (by rw[show a1.sz+1-(i+1)=a1.sz-i by omega]at hg;exact hg))⟩
     ·rw[show(lo++[x]).map Ξ.av=lo.map Ξ.av++[x.av] by simp];exact q3.append (.cons (.agg hL) .nil)
     ·have hz:(RS.r sb).bad=0:=rfl;rw[hz]at Vp fZ;omega
     ·rw[aeN,jz,jo.1,<-HU];exact(jo.2 rfl).trans (Qg cQ)
     ·omega
  ·have bN:b.bad=1:=by
    cases b with
    |w w=>rfl
    |r sb=>obtain⟨h,-⟩:=fM;omega
   refine μ.done (.exit 0) (fun br=>K3 br/\τ br.loc 7=some (0,.cells [.list c4 la])/\br.mem= {ε:=B.set p (.cells ξ)++ext,θ:=tt}) (by simp[K3,K2,K,h1,h2,h3,h6,h7,q2,q4,gp,cV]) fun s' hh=> .inr ⟨by simp,.inl ⟨rfl,.inl ⟨rfl,lo,li,ξ,b,out s' hh,gU _ _ ?_⟩⟩⟩;cases b with
   |w w=>rfl
   |r sb=>cases bN
 ·obtain⟨qq,wr,lt,tk,fp,hq,iX,fM⟩:=q9.1.sO hs hl;have gp:(B.set p (κ.cells ξ)++ext)[p]?=some (.cells [.str s,.int .i64 2,.str eD,.int .i64 qq,.int .i64 tk.at_,.int .i64 tk.kind,.str tk.cut,.int .i64 tk.cZ,.bool (decide (qq=s.length)),.int .i64 wr,.int .i64 lt,.list cS lS]):=by rw[dX (by simpa using hp),fp];simp[hp]
  have ca:∃bs,B.set p (.cells ξ)++ext=m.ε++bs:=⟨_,by rw[hB,cj]⟩;have lC:∀i∈tt,m.ε.length<=i:=fun i hi=>(q5 i hi).elim (fun h=>by omega) fun h=>by omega
  have Co:∀y,u6 s.length (cY s)=y->cw cc F (a1.sz+1) ([],[]) ⟨0,cY s⟩=y:=fun y h=>by rw[<-h,JW];simp only[u6,hP];rfl
  rw[uA]at hg;simp only[Θ]at hg;rw[<-uA]at hg;cases pO:u6 s.length (cY s)with
  |no w=>
   rw[Co _ pO]at hg
   cases hg;have iq:wr=(w:Int):=fM;have hw:0<=wr:=by omega
   have hX:bI s=(([],[]),(w:Int),4):=by simp only[bI,qQ,if_false,pO]
   refine μ.done .ret (fun st=>ζ st.env 2= .ae 2 0 0/\τ st.loc 2=some (0,.cells [.list .nil []])/\ζ st.env 3= .list .nil []/\ζ st.env 4= .int .i64 wr/\ζ st.env 5= .int .i64 4/\st.mem= {ε:=B.set p (.cells ξ)++ext,θ:=tt}) (by simp[h1,h2,h3,h6,h7,q2,q4,gp,hw,cF,dm,dy,tB]) fun s' ⟨m1,m2,m3,m4,m5,m6⟩=>⟨.list .nil [],⟨by simp[hX],.nil (by simp[hX])⟩,by simp,by rw[m6];exact ca,by rw[m6];exact lC,[.agg [.list .nil []],.list .nil [],.int .i64 wr,.int .i64 4],by simp[m1,m2,m3,m4,m5],by rw[hX,iq];rfl⟩
  |ok x t=>
   rw[Co _ pO]at hg
   obtain⟨rfl,rfl⟩:=hg;obtain⟨rfl,-,-⟩:=fM;have e4:c4.exp 0 false=Φ lo:=by
    cases lo with
    |nil=>rw[q7 rfl];rfl
    |cons a l=>
     rcases q6 with⟨_,h⟩|⟨t,rfl,_⟩
     ·rw[HU]at h;cases h
     ·rfl
   have tM:=M6 pO;have bA:=Dv.list c4 q3;rw[e4]at bA;have Tv:∀m,kf u 22 [.agg [.list c4 la]] m=some (.int .i64 (ko lo),m):=fun m=>by
    refine Eq.trans (Pt (w:=dT (Φ lo) lo) ?_) (f22 (Φ lo) (hH lo) lo q8 (by dsimp only at tM;omega) m)
    ·have h1:=(p9 m.ε.length false (.agg [.list c4 la]) (Dv.agg (.cons bA .nil)).1).2.2.2;have ig:=Dv.list (Φ lo) (Th lo q8);rw[y7]at ig;have h2:=(p9 m.ε.length false (dT (Φ lo) lo) (Dv.agg (.cons ig .nil)).1).2.2.2;show exp m.ε.length false _=exp m.ε.length false _;rw[h1,h2,(Dv.agg (.cons bA .nil)).2,(show Dv (dT (Φ lo) lo) _ from Dv.agg (.cons ig .nil)).2]
   by_cases cK:ko lo=0
   ·have hX:bI s=((lo,li),0,0):=by simp only[bI,qQ,if_false,pO,cK,if_true]
    obtain⟨gl,di,Kn,Y_⟩:=jo.2 rfl;rw[List.nil_append]at Kn;have Y9:gl.length<=2000000000:=by
     have:lS.length=gl.length:=by rw[Kn,dd]
     have hz:(RS.r t).bad=0:=rfl;rw[hz]at fZ;omega
    obtain⟨sp,x9,Yb⟩:∃sp,Dv (.list cS lS) sp/\AX s sp:=⟨.list (cS.exp 0 false) ((gl.map fun g=>(g.1.exp 0 false,g.2)).map sQ),by rw[Kn];exact .list cS (af4 gl),_,_,rfl,WU cS,by simpa using Y9,fun g hg=>by
     obtain⟨g0,h0,rfl⟩:=List.mem_map.1 hg
     exact Y_ g0.2 (by rw[<-di];exact List.mem_map_of_mem h0),fun _=>by rw[hX,<-di];simp[Function.comp]⟩
    have hv:Dv (.aP [.agg [.list c4 la],.list cS lS,.int .i64 0,.int .i64 0]) (.aP [.agg [.list (Φ lo) (lo.map Ξ.av)],sp,.int .i64 0,.int .i64 0]):=
     .aP (.cons (.agg (.cons bA .nil)) (.cons x9 (.cons (.int _ _) (.cons (.int _ _) .nil))))
    refine μ.done .ret (fun st=>ζ st.env 2= .ae 2 0 0/\τ st.loc 2=some (0,.cells [.list c4 la])/\ζ st.env 3= .list cS lS/\ζ st.env 4= .int .i64 0/\ζ st.env 5= .int .i64 0/\st.mem= {ε:=B.set p (.cells ξ)++ext,θ:=tt}) (by simp[h1,h2,h3,h6,h7,q2,q4,gp,Tv,cK,dm,dy,tB]) fun s' ⟨m1,m2,m3,m4,m5,m6⟩=>⟨sp,⟨by rw[hX];exact q8,Yb⟩,by simp,by rw[m6];exact ca,by rw[m6];exact lC,[.agg [.list c4 la],.list cS lS,.int .i64 0,.int .i64 0],by simp[m1,m2,m3,m4,m5],by rw[hX];exact hv.ai _ _ _⟩
   ·have oP:(ko lo !=0)=true:=by simpa using cK
    have hX:bI s=(([],[]),(s.length:Int),ko lo):=by simp only[bI,qQ,if_false,pO,cK]
    refine μ.done .ret (fun st=>ζ st.env 2= .ae 2 0 0/\τ st.loc 2=some (0,.cells [.list .nil []])/\ζ st.env 3= .list .nil []/\ζ st.env 4= .int .i64 s.length/\ζ st.env 5= .int .i64 (ko lo)/\st.mem= {ε:=B.set p (.cells ξ)++ext,θ:=tt}) (by simp[h1,h2,h3,h6,h7,q2,q4,gp,Tv,oP,cF]) fun s' ⟨m1,m2,m3,m4,m5,m6⟩=>⟨.list .nil [],⟨by simp[hX],.nil (by simp[hX])⟩,by simp,by rw[m6];exact ca,by rw[m6];exact lC,[.agg [.list .nil []],.list .nil [],.int .i64 s.length,.int .i64 (ko lo)],by simp[m1,m2,m3,m4,m5],by rw[hX];rfl⟩
end Go.ah.Tz
namespace Go.ah
open Tz (ny l6 CY pd)
def R.Al{α:Type}(F:α->Prop)(r:R α):Prop:=∀x t,r= .ok x t->F x
theorem R.Al.bind{α β:Type}{F:α->Prop}{G:β->Prop}{r:R α}{f:α->PS->R β}(h:r.Al F)(k:∀x s,F x->(f x s).Al G):(r.bind f).Al G:=fun _ _ e=>by obtain⟨x,s,e1,e2⟩:=R.c_ e;exact k x s (h _ _ e1) _ _ e2
theorem R.Al.map{α β:Type}{F:α->Prop}{G:β->Prop}{r:R α}{f:α->β}(h:r.Al F)(k:∀x,F x->G (f x)):(r.map f).Al G:=fun _ _ e=>by obtain⟨x,e1,rfl⟩:=R.gD e;exact k x (h _ _ e1)
theorem R.Al.any{α:Type}{r:R α}:r.Al fun _=>True:=fun _ _ _=>trivial
theorem R.Al.ok{α:Type}{F:α->Prop}{x:α}{s:PS}(h:F x):(R.ok x s).Al F:=fun _ _ e=>by cases e;exact h
theorem R.Al.loop{α:Type}{F:α->Prop}{c:PS->Bool}{f:α->PS->R α}(h:∀x s,F x->(f x s).Al F):∀n x s,F x->(cw c f n x s).Al F
 |0,_,_,_=>fun _ _ e=>by cases e
 |n+1,x,s,hx=>by
  simp only[cw];split
  ·exact(h x s hx).bind fun y t hy=>R.Al.loop h n y t hy
  ·exact .ok hx
theorem ue:z0.copy=z0:=rfl
theorem vA{α:Type}(l:List α):pd l=Φ l:=by cases l<;>rfl
theorem US{e:Nat}{ix:PS->R η}(h:∀s,(ix s).Al fun x=>x.copy=x)(s:PS):(lj e ix s).Al fun x=>x.copy=x:=by
 simp only[lj];split
 ·exact R.Al.any.bind fun _ _ _=>(h _).bind fun x _ hx=>R.Al.any.map fun _ _=>hx
 ·split
  ·exact R.Al.any.map fun _ _=>rfl
  ·exact R.Al.any.map fun _ _=>rfl
theorem UW{e:Nat}{a:PS->R η}(h:∀s,(a s).Al fun x=>x.copy=x)(s:PS):(tY e a s).Al fun x=>x.copy=x:=
 (h s).bind fun _ _ hx=>R.Al.loop (fun x s hx=>R.Al.any.bind fun _ s _=>(h s).map fun y hy=>by simp only[η.copy,ny,hx,hy]) _ _ _ hx
theorem UY{e:Nat}{a:PS->R η}(h:∀s,(a s).Al fun x=>x.copy=x)(s:PS):(AB e a s).Al fun x=>x.copy=x:=
 (h s).bind fun _ _ hx=>R.Al.loop (fun x s hx=>R.Al.any.bind fun _ s _=>(h s).map fun y hy=>by simp only[η.copy,ny,hx,hy]) _ _ _ hx
theorem No(e:Nat):∀k s,(au e k s).Al fun x=>x.copy=x
 |0,_=>fun _ _ e=>by cases e
 |k+1,s=>UY (UW (US (No e k))) s
theorem A1{e:Nat}{ix:PS->R η}(h:∀s,(ix s).Al fun x=>x.copy=x)(s:PS):(gP e ix s).Al fun x=>x.copy=x:=R.Al.any.bind fun n s _=>by
 split
 ·refine R.Al.any.bind fun _ s _=>(h s).bind fun x s hx=>R.Al.bind (F:=fun l=>ny l=l/\l≠[]) ?_ fun l s hl=>R.Al.any.map fun _ _=>?_
  ·split
   ·exact R.Al.any.bind fun _ s _=>(h s).map fun y hy=>by simp[ny,hx,hy]
   ·exact .ok (by simp[ny,hx])
  ·obtain⟨h1,h2⟩:=hl;cases l with
   |nil=>exact absurd rfl h2
   |cons a l=>simp only[Γ.copy,h1,pd]
 ·exact .ok rfl
theorem Nq{e:Nat}{ix:PS->R η}(h:∀s,(ix s).Al fun x=>x.copy=x)(s:PS):(sP e ix s).Al fun x=>x.2.copy=x.2:=
 R.Al.any.bind fun _ _ _=>R.Al.any.bind fun _ s _=>(h s).bind fun _ _ hx=>R.Al.any.map fun _ _=>hx
theorem UT{α:Type}{F:α->Prop}{e:Nat}{P:PS->R α}(h:∀s,(P s).Al F)(s:PS):(lY e P s).Al fun l=>∀x∈l,F x:=by
 simp only[lY];split
 ·exact R.Al.any.map fun _ _=>by simp
 ·refine(h s).bind fun x s hx=>(R.Al.loop (F:=fun l=>∀x∈l,F x) (fun l s hl=>R.Al.any.bind fun _ s _=>(h s).map fun y hy z hz=>?_) _ _ _ (by simpa using hx)).bind fun l s hl=>R.Al.any.map fun _ _=>hl;rcases dE.1 hz with hz|hz
  ·exact hl z hz
  ·rw[kX.1 hz];exact hy
theorem Np{F:Γ->Prop}{e:Nat}{P:PS->R Γ}(h:∀s,(P s).Al F):∀n l s,(∀x∈l,F x)/\l≠[]->(lF e P n l s).Al fun l=>(∀x∈l,F x)/\l≠[]
 |0,_,_,hl=> .ok hl
 |n+1,l,s,hl=>R.Al.any.bind fun _ s _=>(h s).bind fun p s hp=>Np h n (l++[p]) s ⟨fun z hz=>by
  rcases dE.1 hz with hz|hz
  ·exact hl.1 z hz
  ·rw[kX.1 hz];exact hp,by simp⟩
theorem Sz{l:List Γ}(h:∀x∈l,x.copy=x):l.map Γ.copy=l:=by
 induction l with
 |nil=>rfl
 |cons a l ih=>simp[h a (by simp),ih fun x hx=>h x (by simp[hx])]
theorem UU{e:Nat}{ix:PS->R η}(h:∀s,(ix s).Al fun x=>x.copy=x)(s:PS):(jZ e ix s).Al fun x=>x.copy=x:=by
 simp only[jZ];split
 ·exact R.Al.any.bind fun _ s _=>(A1 h s).bind fun p s hp=>(Np (A1 h) _ _ _ ⟨by simpa using hp,by simp⟩).map fun l ⟨h1,h2⟩=>by
   cases l with
   |nil=>exact absurd rfl h2
   |cons a l=>simp only[δ.copy,Sz h1,ue,pd,l6]
 ·split
  ·exact R.Al.any.bind fun _ s _=>(Nq h s).map fun x hx=>by simp only[δ.copy,hx,ue,pd,l6,aA]
  ·split
   ·exact R.Al.any.bind fun _ s _=>R.Al.any.map fun x _=>rfl
   ·split
    ·exact R.Al.any.bind fun _ s _=>(A1 h s).bind fun p s hp=>R.Al.any.bind fun _ s _=>R.Al.any.map fun n _=>by simp only[δ.copy,hp,ue,pd,l6,ay,aA]
    ·split
     ·exact R.Al.any.bind fun _ s _=>(A1 h s).map fun p hp=>by simp only[δ.copy,hp,ue,pd,l6,ay,aA]
     ·exact R.Al.any.bind fun _ s _=>R.Al.any.bind fun _ s _=>(UT (A1 h) s).map fun l hl=>by simp only[δ.copy,Sz hl,ue,vA,l6];rfl
theorem UX{e:Nat}{ix:PS->R η}(h:∀s,(ix s).Al fun x=>x.copy=x){blk:PS->R (List δ×List Sp)}(hb:∀s,(blk s).Al fun x=>l6 x.1=x.1)(s:PS):(gF e ix blk s).Al fun x=>x.1.copy=x.1:=by
 simp only[gF];split
 ·exact R.Al.any.bind fun _ s _=>(Nq h s).bind fun x s hx=>(hb s).map fun b hb=>by simp only[δ.copy,hx,hb,ue,vA,l6,aA];rfl
 ·split
  ·refine R.Al.any.bind fun _ s _=>R.Al.any.bind fun _ s _=>(hb s).bind fun b s h1=>?_;split
   ·exact R.Al.any.bind fun _ s _=>(hb s).map fun d h2=>by simp only[δ.copy,h1,h2,ue,vA,aA];rfl
   ·exact .ok (by simp only[δ.copy,h1,ue,vA,l6,aA];rfl)
  ·split
   ·exact R.Al.any.bind fun _ s _=>R.Al.any.bind fun _ s _=>R.Al.any.bind fun _ s _=>(h s).bind fun x s hx=>R.Al.any.bind fun _ s _=>(h s).bind fun y s hy=>(hb s).map fun b hb=>by simp only[δ.copy,hx,hy,hb,vA,l6,aA];rfl
   ·split
    ·exact R.Al.any.bind fun _ s _=>(hb s).map fun b hb=>by simp only[δ.copy,hb,ue,vA,l6,aA];rfl
    ·split
     ·exact R.Al.any.bind fun _ s _=>(hb s).bind fun b s h1=>R.Al.any.bind fun _ s _=>(hb s).map fun d h2=>by simp only[δ.copy,h1,h2,ue,vA,aA];rfl
     ·exact((UU h s).bind fun x s hx=>R.Al.any.map fun _ _=>hx).map fun x hx=>hx
theorem Nn{e:Nat}{ix:PS->R η}(h:∀s,(ix s).Al fun x=>x.copy=x):∀k s,(bT e ix k s).Al fun x=>l6 x.1=x.1
 |0,_=>fun _ _ e=>by cases e
 |k+1,s=>R.Al.any.bind fun _ s _=>(R.Al.loop (F:=fun x:List δ×List Sp=>l6 x.1=x.1) (fun x s hx=>R.Al.map (F:=fun y:δ×Sp=>y.1.copy=y.1) ((UX h (Nn h k) s).bind fun y s hy=> .ok hy) fun y hy=>by
   rw[Tz.afX]at hx⊢
   simp[hx,hy]) _ _ _ rfl).bind fun x s hx=>R.Al.any.map fun _ _=>hx
theorem aeW{e:Nat}{ts:List Tok}{x:List Ξ×List (List Sp)}{t:PS}(k:u6 e ts= .ok x t):CY x.1=x.1:=by
 refine R.Al.loop (F:=fun x:List Ξ×List (List Sp)=>CY x.1=x.1) (fun x s hx=>R.Al.map (F:=fun y:Ξ×List Sp=>y.1.copy=y.1) ?_ fun y hy=>?_) _ _ _ rfl _ _ k
 ·exact R.Al.any.bind fun _ s _=>R.Al.any.bind fun _ s _=>R.Al.any.bind fun _ s _=>R.Al.any.bind fun ps s _=>(Nn (No _ _) _ s).map fun b hb=>by simp only[Ξ.copy,hb,vA]
 ·simp only[CY]at hx⊢;simp[hx,hy]
end Go.ah
namespace Go.ah.Tz
open Go.ah
variable{u:Nat}
attribute [local simp] exec ed dP eX aC dQ ft eL ζ gg τ fW gy gH gI lf AV.cells newVar gE rd wr fK single eV bY ek dF μ aY RV.get aV dB iE vI
theorem f39(s:List Nat)(hs:cX s)(hl:s.length<1000000000)(m:Mem):kf u 39 [.str s] m=some (.aP [.agg [.list (Φ (bI s).1.1) ((bI s).1.1.map Ξ.av)],.int .i64 (bI s).2.1,.int .i64 (bI s).2.2],m):=by obtain⟨-,⟨ab,-⟩,-⟩:=f54 (u:=u) s hs hl m;have C6:=fun m=>f124 (u:=u) s hs hl m;simp only[wO]at C6;have hp:=Dv.list (Φ (bI s).1.1) (Th _ ab);rw[fb (hH _)]at hp;have hv:Dv (.aP [.agg [.list (Φ (bI s).1.1) ((bI s).1.1.map Ξ.av)],.int .i64 (bI s).2.1,.int .i64 (bI s).2.2]) (.aP [.agg [.list (Φ (bI s).1.1) ((bI s).1.1.map Ξ.av)],.int .i64 (bI s).2.1,.int .i64 (bI s).2.2]):= .aP (.cons (.agg (.cons hp .nil)) (.cons (.int _ _) (.cons (.int _ _) .nil)));refine bD (g:=Gi) rfl rfl rfl ?_;simp only[ay,aA,exp,Gi,O6];refine ω (fun st=>ζ st.env 0= .str s/\ζ st.env 2= .ae 2 0 0/\τ st.loc 2=some (0,.cells [.list .nil []])/\τ st.loc 5=none/\st.mem= {ε:=m.ε,θ:=[]}) (by simp[aR]) fun s1 ⟨h1,h2,h3,h4,h5⟩=>?_;simp[h1,h2,h3,h4,h5,C6,aR];exact hv.ai _ _ _
theorem aff(s:List Nat):(bI s).2.2=0->ko (bI s).1.1=0/\CY (bI s).1.1=(bI s).1.1/\lH (bI s).1.1<1000000000/\(bI s).2.1=0:=by
 unfold bI;split
 ·intro h;exact absurd h (by decide)
 ·rename_i qQ;split
  ·intro h;exact absurd (show(4:Int)=0 from h) (by decide)
  ·rename_i x t hx;split
   ·rename_i hc;intro _;have:=M6 hx;have:=MX s;exact⟨hc,aeW hx,by dsimp only;omega,rfl⟩
   ·rename_i hc;intro h;exact absurd h hc
def MT(s:List Nat):List Nat:=if(bI s).2.2=0 then kU (bI s).1.1 else[]
theorem f56(s:List Nat)(hs:cX s)(hl:s.length<1000000000)(m:Mem):kf u 56 [.str s] m=some (.aP [.str (MT s),.int .i64 (bI s).2.1,.int .i64 (bI s).2.2],m):=by
 obtain⟨-,⟨ab,-⟩,-⟩:=f54 (u:=u) s hs hl m;have sL:=fun m=>f39 (u:=u) s hs hl m;have hf:=aff s;have hz:∀bs n (a:List Nat) (i j:Int),ai bs n 8 (.aP [.str a,.int .i64 i,.int .i64 j])= .aP [.str a,.int .i64 i,.int .i64 j]:=fun _ _ _ _ _=>rfl;refine bD (g:=Gk) rfl rfl rfl ?_;simp only[ay,aA,exp,Gk,O8];unfold MT;refine ω (fun st=>ζ st.env 0= .str s/\τ st.loc 5=none/\st.mem= {ε:=m.ε,θ:=[]}) (by simp) fun s1 ⟨h1,h2,h3⟩=>?_;by_cases he:(bI s).2.2=0
 ·obtain⟨hc,-,hw,h0⟩:=hf he;have Ty:=fun m=>f25 (u:=u) (Φ (bI s).1.1) (hH _) _ ab hw m;simp only[Mr,hc,if_true,dT]at Ty;rw[if_pos he,h0,he];rw[h0,he]at sL;simp[h1,h2,h3,sL,Ty,aR,hz]
 ·have fT:((bI s).2.2 !=0)=true:=by simpa using he
  rw[if_neg he];simp[h1,h2,h3,sL,aR,fT,hz]
end Go.ah.Tz
