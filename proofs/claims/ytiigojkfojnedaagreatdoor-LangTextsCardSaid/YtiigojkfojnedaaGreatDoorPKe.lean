import Derived.Test.YtiigojkfojnedaaGreatDoorPKd
import Derived.Test.YtiigojkfojnedaaGreatDoorPHy
set_option linter.unusedVariables false
set_option linter.unusedSimpArgs false
set_option linter.unusedSectionVars false
set_option maxRecDepth 100000
set_option maxHeartbeats 8000000
open Nat renaming le_refl->bQ
open List renaming getElem?_append_left->eg,append_assoc->cr,take_of_length_le->dY,all_map->lv,length_set->ft,all_append->ahX,length_append->dB,length_map->dq,append_nil->dx,map_cons->ah,map_nil->aw,mem_append->eL,mem_singleton->lV
namespace Go.ab.Tz
open Go.ab
variable{u:Nat}
attribute [local simp] exec eG eu fz aF d_ fQ fe bq gN bT gF gS hU hZ mD AV.cells newVar hH rd wr gg single fy bF er dL κ bf RV.get ba dU jy
attribute [local simp] vg u6
theorem _root_.Go.ab.Dv.Si{v:AV}{w:List AV}(h:Dv v (.agg w)):∃l,v= .agg l/\bJ l w:=by
 obtain⟨h1,h2⟩:=h;cases v with
 |agg l=>exact⟨l,rfl,by simpa only[pf]using h1,by simpa only[gM,AV.agg.injEq]using h2⟩
 |_=>simp[gM]at h2
theorem ac7{B:List θ}{p:Nat}{pP cs:List AV}{BM ext ext':List θ}(h:Kept B p pP BM cs ext)(h1:∀sz e c k,e≠196->Row B.length (B.set p (.cells cs)++ext) sz e c k->Row B.length (B.set p (.cells cs)++ext') sz e c k)(h2:∀t,t<B.length->(B.set p (.cells cs)++ext')[t]?=(B.set p (.cells cs)++ext)[t]?)(ξ:List AV):Kept B p pP BM ξ ext':=fun t k sz e he hr=>by
 refine Kept.cells B p cs ξ ext' t k sz e he ?_;have hx:=h t k sz e he hr;rcases Nat.lt_or_ge t B.length with ht|ht
 ·rw[h2 t ht];exact hx
 ·rcases h1 sz e (.own t) k he (.inr ⟨t,rfl,ht,hx⟩)with⟨h,_⟩|⟨t',h,_,h3⟩
  ·rcases h with h|h<;>cases h
  ·cases h;exact h3
section
variable{s:List Nat}(hs:dJ s)(hl:s.length<1000000000)
include hs hl
theorem f200{n k:Nat}(ZU:k+1<=n){B:List θ}{p:Nat}(hp:p<B.length)(hb:Dw u s n k B p):Dw u s n (k+1) B p:=by
 intro a cs cS lS ext T cp path Kh h Ry Lh;show∃v x ξ fJ eO ext' T' b,_/\_/\_/\Δ (yy s.length (gJ s.length (ai s.length n) (bY s.length (ai s.length n) k))) a x b/\_;have jB:cU (gJ s.length (ai s.length n) (bY s.length (ai s.length n) k)):=BF _ (fl _ _) (tC _ (fl _ _) _);have afm:=fun(a:RS) h1 h2 h3=>@f237 u s hs hl n k B p hp hb a h1 h2 h3;generalize hP:gJ s.length (ai s.length n) (bY s.length (ai s.length n) k)=P at*;obtain⟨_,w1,aW,a1,k1,r1,bS,rfl⟩:=(f196 (u:=u) hs hl [123] (by decide) (by simp) a).at ext hp h.1;have s1:=bS.sz (cI _ _);have z1:=bS.bd (cI _ _);have F1:=h.cells r1;let F:List δ×List Sp->PS->R (List δ×List Sp):=fun l t=>(ub s.length P t).map fun x=>(l.1++[x.1],l.2++[x.2]);let cc:PS->Bool:=fun t=>!t.aD [125];have dy:∀cp,κ (C u).gl (aS (C u)) OJ {env:=[.μ p 0,.list cp (dj path)],loc:=[],mem:= {ε:=B.set p (.cells cs)++ext,η:=[]}} fun r=>r.1= .ret/\∃lo bh li c4 ξ fJ eO ext' tt b,bq r.2.env 4= .list c4 lo/\bJ lo (δ.ψ bh)/\r.2.mem= {ε:=B.set p (.cells ξ)++ext',η:=tt}/\FS s B p ξ fJ eO ext' b/\Kept B p cs ext ξ ext'∧
   c4.exp 0 false=Ξ bh/\δ.cW bh/\(∀i∈tt,i=p\/B.length<=i)/\Δ (yy s.length P) a (bh,li) b/\eO.length+b.sz+a.bad<=lS.length+a.sz+b.bad/\ext.length<=ext'.length:=by
  intro cp;refine χ (fun st=>bq st.env 0= .μ p 0/\bq st.env 1= .list cp (dj path)/\st.mem= {ε:=B.set p (.cells cs)++ext,η:=[]}) (by simp) fun M5 ⟨h1,h2,h3⟩=>?_;refine χ (fun st=>bq st.env 0= .μ p 0/\bq st.env 1= .list cp (dj path)/\st.mem= {ε:=B.set p (.cells aW)++ext,η:=[]}) (by simp[h1,h2,h3,k1]) fun M5 ⟨h1,h2,h3⟩=>?_;refine χ (fun st=>bq st.env 0= .μ p 0/\bq st.env 1= .list cp (dj path)/\bq st.env 5= .list .nil []/\st.mem= {ε:=B.set p (.cells aW)++ext,η:=[]}) (by simp[h1,h2,h3]) fun UC ⟨h1,h2,h5,h3⟩=>?_;let R2:St->List AV->List δ->List Sp->List AV->Γ->List AV->List θ->List Nat->Γ->RS->Prop:=fun st lo bh li ξ fJ eO ext' tt c4 b=>bq st.env 0= .μ p 0/\bq st.env 1= .list cp (dj path)/\bq st.env 5= .list c4 lo/\bJ lo (δ.ψ bh)/\st.mem= {ε:=B.set p (.cells ξ)++ext',η:=tt}/\FS s B p ξ fJ eO ext' b/\Kept B p cs ext ξ ext'∧
   Row (B.length+ext.length) (B.set p (.cells ξ)++ext') 14 66 c4 lo.length/\(lo=[]->c4= .nil)/\δ.cW bh/\(∀i∈tt,i=p\/B.length<=i)/\eO.length+b.sz+a1.bad<=lS.length+a1.sz+b.bad/\ext.length<=ext'.length/\b.sz<=a1.sz/\a1.bad<=b.bad
  let I:Nat->St->Prop:=fun i st=>∃lo bh li ξ fJ eO ext' tt c4 b,R2 st lo bh li ξ fJ eO ext' tt c4 b/\lo.length<=i/\(b.sz+i<=a1.sz\/b.bad=1)/\∀y b',Δ (cK cc F (a1.sz+1-i) (bh,li)) b y b'->Δ (cK cc F (a1.sz+1) ([],[])) a1 y b';have xM:R2 UC [] [] [] aW cS lS ext [] .nil a1:=⟨h1,h2,h5,.nil,h3,F1,Kept.cells B p cs aW ext,Row.nil,fun _=>rfl,trivial,by simp,by omega,bQ _,bQ _,bQ _⟩;have hI:I 0 UC:=⟨[],[],[],aW,cS,lS,ext,[],.nil,a1,xM,bQ _,.inl (bQ _),fun _ _ h=>h⟩;refine aZ (fun st=>∃lo bh li ξ fJ eO ext' tt c4 b,R2 st lo bh li ξ fJ eO ext' tt c4 b/\Δ (cK cc F (a1.sz+1) ([],[])) a1 (bh,li) b) ?_ fun s3 ⟨lo,bh,li,ξ,fJ,eO,ext',tt,c4,b,⟨q0,q1,q2,q3,q4,q5,q6,q7,q8,q9,gx,mU,H4,MP,MR⟩,hg⟩=>?_
  ·refine κ.block (κ.ki (I:=I) (a1.sz+1) hI fun i st hi τ=>?_);obtain⟨lo,bh,li,ξ,fJ,eO,ext',tt,c4,b,hR,fB,l8,gX⟩:=τ;have hR':=hR;obtain⟨q0,q1,q2,q3,q4,q5,q6,q7,q8,q9,gx,mU,H4,MP,MR⟩:=hR;obtain⟨qq,wr,la,tk,fw,hq,jX,fR⟩:=q5.1.sW hs hl;have gp:∀D,(B.set p (θ.cells ξ)++D)[p]?=some (.cells [.str s,.int .i64 2,.str eJ,.int .i64 qq,.int .i64 tk.at_,.int .i64 tk.kind,.str tk.cut,.int .i64 tk.bB,.bool (decide (qq=s.length)),.int .i64 wr,.int .i64 la,.list fJ eO]):=fun D=>by rw[eg (by simpa using hp),fw];simp[hp]
   unfold SG;by_cases dh:wr<0
   ·have eS:b.bad=0:=by
     cases b with
     |w w=>have:wr=(w:Int):=fR;omega
     |r sb=>rfl
    have qc:=fun t ht T=>Aq (u:=u) hs hl [125] (by decide) (by simp) ext' hp q5.1 t ht T;have l8:b.sz+i<=a1.sz:=l8.elim id fun h=>by omega
    rw[show a1.sz+1-i=(a1.sz-i)+1 by omega]at gX;cases bR:b.aD [125]with
    |true=>
     have qc:=qc _ bR
     refine κ.done (.exit 0) (fun bA=>bq bA.env 0= .μ p 0/\bq bA.env 1= .list cp (dj path)/\bq bA.env 5= .list c4 lo/\bA.mem= {ε:=B.set p (.cells ξ)++ext',η:=tt}) (by simp[q0,q1,q2,q4,gp,dh,qc]) fun s' ⟨m0,m1,m2,m3⟩=> .inr ⟨by simp,.inl ⟨rfl,.inl ⟨rfl,lo,bh,li,ξ,fJ,eO,ext',tt,c4,b,⟨m0,m1,m2,q3,m3,q5,q6,q7,q8,q9,gx,mU,H4,MP,MR⟩,gX _ _ (Δ.u3 ?_)⟩⟩⟩;cases b with
     |w w=>cases eS
     |r sb=>show(!sb.aD [125])=false;rw[show sb.aD [125]=true from bR];rfl
    |false=>
     have qc:=qc _ bR
     obtain⟨c1,sg,c2,l4,Lj,G5,y,rfl⟩:=MD (B:=B.set p (.cells ξ)) (ext:=ext') (cp:=cp) (l:=path) lo.length (by omega);have F2:FS s B p ξ fJ eO (ext'++y) b:=⟨q5.1,by rw[<-cr];exact Row.push q5.2.1 _,q5.2.2⟩;have YJ:a1.bad=0:=by omega
     have YK:a.bad=0:=by
      cases a with
      |r s=>rfl
      |w w=>have:a1= .w w:=bS;subst this;cases YJ
     have z1':=bS.jK (cU.take _ _) YK;obtain⟨v,x,ins,aV,D5,rn,kX,T3,b2,k2,F3,tO,bE,mH,pD,jW,DR,CU⟩:=afm b (by omega) (by omega) eS tt c2 (path++[lo.length]) F2 (by omega) (by simp;omega);obtain⟨L,rfl,hL⟩:=mH.Si;obtain⟨sp,Yl⟩:=bE.span (e:=s.length);obtain⟨yM,Is,u0,rF,Y8,Ln,aaI,YP⟩:=F3.1.sW hs hl;have zz:=RS.iI b2;have eh:L.length=14:=by rw[hL.len,δ.i_]
     have eH:L.take 14=L:=dY (by omega);have Yk:∀D,(B.set p (θ.cells aV)++D)[p]?=some (.cells [.str s,.int .i64 2,.str eJ,.int .i64 yM,.int .i64 rF.at_,.int .i64 rF.kind,.str rF.cut,.int .i64 rF.bB,.bool (decide (yM=s.length)),.int .i64 Is,.int .i64 u0,.list D5 rn]):=fun D=>by rw[eg (by simpa using hp),Y8];simp[hp]
     have Kd:pf (.agg [.int .i64 tk.at_,.int .i64 u0,.list c2 (dj (path++[lo.length]))])=true:=by simp[pf,mr,C4,dj,lv,Function.comp]
     generalize Ke:AV.agg [.int .i64 tk.at_,.int .i64 u0,.list c2 (dj (path++[lo.length]))]=rS at Kd;have Tq:ρ rS=rS:=(rz 0 false _ Kd).2.2.1;have UD:shaped true 3 rS=true:=by rw[<-Ke];rfl
     obtain⟨o9,br,Q4,hrS,RX,ag8,Zr⟩:=vf (bytes:=40) (n:=B.length) (B:=B.set p (.cells aV)) (ext:=kX) (by simp) F3.2.1 (by simp) F3.2.2.2 UD Tq (by omega) (by omega) (by omega);simp only[ft]at RX;obtain⟨aP,Rd⟩:∃aP,aP=[AV.str s,.int .i64 2,.str eJ,.int .i64 yM,.int .i64 rF.at_,.int .i64 rF.kind,.str rF.cut,.int .i64 rF.bB,.bool (decide (yM=s.length)),.int .i64 Is,.int .i64 u0,.list o9 (rn++[rS])]:=⟨_,rfl⟩;have F4:FS s B p aP o9 (rn++[rS]) br b2:=by
      refine⟨⟨yM,Is,u0,by rw[Rd,aaI];rfl,Ln,YP⟩,?_,?_,?_⟩
      ·have:=Row.cells B p aV aP br (bQ _) _ _ _ _ hrS;simpa using this
      ·rw[C4,ahX,<-C4,F3.2.2.1];simp[Kd]
      ·rw[ahX,F3.2.2.2];simp[UD]
     have kY:Kept B p ξ ext' ξ (ext'++y):=fun t k sz e _ hr=>by rw[<-cr,eg (oR hr)];exact hr
     have kA:Kept B p ξ ext' aP br:=ac7 (fun t k sz e h1 hr=>tO _ _ _ _ h1 (kY _ _ _ _ h1 hr)) RX Zr aP;have kB:Kept B p cs ext aP br:=fun t k sz e h1 hr=>kA _ _ _ _ h1 (q6 _ _ _ _ h1 hr);have r66:Row (B.length+ext.length) (B.set p (.cells aP)++br) 14 66 c4 lo.length:=kA.row (by decide) q7;have ag7:ext.length<=br.length:=by simp only[dB]at CU;omega
     have n1:ρ (.agg L)= .agg L:=(Dv.agg hL).ρ;have ua:shaped true 14 (.agg L)=true:=by simp[shaped,eh]
     have Z0:lo.all (shaped true 14)=true:=bJ.shaped q3 (by rw[δ.dZ];simp[lv,shaped,δ.av,δ.i_,Function.comp]);obtain⟨rW,qT,eN,gE,nY,tG,qd⟩:=vf (bytes:=216) (n:=B.length+ext.length) (B:=B.set p (.cells aP)) (ext:=br) (by simp) r66 (by simp;omega) Z0 ua n1 (by omega) (by omega) (by omega);simp only[ft]at nY;have kC:Kept B p cs ext aP qT:=fun t k sz e h1 hr=>by have ν:=oR hr;simp only[dB,ft]at ν;rw[qd t (by omega)];exact kB _ _ _ _ h1 hr
     have F5:FS s B p aP o9 (rn++[rS]) qT b2:=⟨F4.1,nY _ _ _ _ (by decide) F4.2.1,F4.2.2⟩;have RE:∀m:Mem,m.ρ (.list o9 (rn++[rS]))= .list o9 (rn++[rS]):=fun m=>(rz 0 false (.list o9 (rn++[rS])) (by simpa[pf]using F4.2.2.1)).2.2.1;have gs:∀D,(B.set p (θ.cells aV)++D).set p (.cells [.str s,.int .i64 2,.str eJ,.int .i64 yM,.int .i64 rF.at_,.int .i64 rF.kind,.str rF.cut,.int .i64 rF.bB,.bool (decide (yM=s.length)),.int .i64 Is,.int .i64 u0,.list o9 (rn++[rS])])=B.set p (.cells aP)++D:=fun D=>by rw[Rd,List.set_append_left _ _ (by simpa using hp),List.set_set]
     refine κ.done .normal (fun bA=>bq bA.env 0= .μ p 0/\bq bA.env 1= .list cp (dj path)/\bq bA.env 5= .list rW (lo++[.agg L])/\∃mu,bA.mem= {ε:=B.set p (.cells aP)++qT,η:=mu}/\∀i∈mu,i=p\/B.length<=i) (by
      have CV:∀m:Mem,m.ρ (.agg L)= .agg L:=fun _=>n1
      have CW:∀m:Mem,m.ρ (.agg [.int .i64 tk.at_,.int .i64 u0,.list c2 (dj (path++[lo.length]))])= .agg [.int .i64 tk.at_,.int .i64 u0,.list c2 (dj (path++[lo.length]))]:=fun _=>by rw[Ke];exact Tq
      have af6:shaped true 3 (.agg [.int .i64 tk.at_,.int .i64 u0,.list c2 (dj (path++[lo.length]))])=true:=rfl;have Na:∀n:Int,shaped false 1 (.int .i64 n)=true:=fun _=>rfl;have ni:∀(m:Mem) (n:Int),m.ρ (.int .i64 n)= .int .i64 n:=fun _ _=>rfl;rw[<-Ke]at Q4 RE gs;simp[q0,q1,q2,q4,gp,Yk,gs,dh,qc,Na,ni,Lj,G5,k2,eh,eH,ua,CV,CW,af6,cX,Q4,RE,eN,Mem.put];intro j hj;split at hj
      ·exact(jW j hj).elim (gx j) id
      ·exact(List.mem_cons.1 hj).elim .inl fun h=>(jW j h).elim (gx j) id) fun s' ⟨m0,m1,m2,mu,m3,m4⟩=> .inl ⟨rfl,by omega,lo++[.agg L],bh++[x],li++[sp],aP,o9,rn++[rS],qT,mu,rW,b2,⟨m0,m1,m2,?_,m3,F5,kC,by simpa using gE,fun h=>by simp at h,δ.TC q9 pD,m4,?_,by omega,?_,?_⟩,by simp;omega,?_,fun y' b' hg=>gX y' b' (Δ.u4 ?_ (Yl.map _) (by rw[show a1.sz+1-(i+1)=a1.sz-i by omega]at hg;exact hg))⟩
     ·rw[UN];exact q3.append (.cons (.agg hL) .nil)
     ·simp;omega
     ·have:=bE.sz jB.nk;omega
     ·omega
     ·have:=bE.jK jB eS;omega
     ·cases b with
      |w w=>cases eS
      |r sb=>show(!sb.aD [125])=true;rw[show sb.aD [125]=false from bR];rfl
   ·have bR:b.bad=1:=by
     cases b with
     |w w=>rfl
     |r sb=>obtain⟨h,-⟩:=fR;omega
    refine κ.done (.exit 0) (fun bA=>bq bA.env 0= .μ p 0/\bq bA.env 1= .list cp (dj path)/\bq bA.env 5= .list c4 lo/\bA.mem= {ε:=B.set p (.cells ξ)++ext',η:=tt}) (by simp[q0,q1,q2,q4,gp,dh]) fun s' ⟨m0,m1,m2,m3⟩=> .inr ⟨by simp,.inl ⟨rfl,.inl ⟨rfl,lo,bh,li,ξ,fJ,eO,ext',tt,c4,b,⟨m0,m1,m2,q3,m3,q5,q6,q7,q8,q9,gx,mU,H4,MP,MR⟩,gX _ _ ?_⟩⟩⟩;cases b with
    |w w=>rfl
    |r sb=>cases bR
  ·obtain⟨_,w2,aV,b2,k2,r2,cR,rfl⟩:=(f196 (u:=u) hs hl [125] (by decide) (by simp) b).at ext' hp q5.1;have z2:=cR.bd (cI _ _);have dp:c4.exp 0 false=Ξ bh:=by
    have gO:lo.length=bh.length:=by rw[q3.len,δ.dZ,dq]
    cases bh with
    |nil=>rw[q8 (List.eq_nil_of_length_eq_zero gO)];rfl
    |cons a l=>
     rcases q7 with⟨_,h⟩|⟨t,rfl,_⟩
     ·rw[h]at gO;cases gO
     ·rfl
   refine κ.done .ret (fun bA=>bq bA.env 4= .list c4 lo/\bA.mem= {ε:=B.set p (.cells aV)++ext',η:=tt}) (by simp[q0,q1,q2,q4,k2]) fun s' ⟨m1,m2⟩=>⟨rfl,lo,bh,li,c4,aV,fJ,eO,ext',tt,b2,m1,q3,m2,q5.cells r2,fun t k sz e h1 hr=>Kept.cells _ _ _ _ _ _ _ _ _ h1 (q6 _ _ _ _ h1 hr),dp,q9,gx,?_,by omega,H4⟩;exact bS.bind (Q:=fun _ t=>(cK cc F (t.l.length+1) ([],[]) t).bind fun l t=>(ak s.length [125] t).map fun _=>l) (hg.fuel.bind (Q:=fun l t=>(ak s.length [125] t).map fun _=>l) (cR.map fun _=>(bh,li)))
 have Cv:p<(B.set p (θ.cells cs)++ext).length:=by simp;omega
 obtain⟨⟨ex,s'⟩,e1,e2,lo,bh,li,c4,ξ,fJ,eO,ext',tt,b,m1,m2,m3,m4,m5,m6,m7,m8,m9,m10,m11⟩:=dy (cp.exp (B.set p (θ.cells cs)++ext).length true);dsimp only at e2 m1 m3;subst e2;have dV:([AV.μ p 0,.list cp (dj path)]++[]).map (exp (B.set p (θ.cells cs)++ext).length true)=[.μ p 0,.list (cp.exp (B.set p (θ.cells cs)++ext).length true) (dj path)]:=by
  have:bn (B.set p (θ.cells cs)++ext).length true (dj path)=dj path:=by simp[fm,dj,exp,Function.comp]
  simp only[dx,ah,aw,exp,Cv,if_true,this]
 have c_:=uv (C:=C u) (f:=200) (g:=Fu) (args:=[.μ p 0,.list cp (dj path)]) (cap:=[]) (m:= {ε:=B.set p (.cells cs)++ext,η:=T}) (l:=[.list c4 lo]) rfl rfl rfl (by rw[dV];exact e1) (by simp) (by simp[Fu,m1]);have hv:Dv (.list c4 lo) (.list (Ξ bh) (δ.ψ bh)):=by rw[<-m6];exact .list c4 m2
 refine⟨exp (B.set p (θ.cells ξ)++ext').length true (.list c4 lo),(bh,li),ξ,fJ,eO,ext',T++tt,b,c_.trans (by rw[m3];rfl),m4,m5,m9,hv.exp _ _,m7,fun i hi=>(eL.1 hi).imp id (m8 i),m10,m11⟩
theorem N7{n:Nat}{B:List θ}{p:Nat}(hp:p<B.length):∀k,k<=n->Dw u s n k B p
 |0,_=>fun a _ _ _ _ _ _ _ h=>by omega
 |k+1,hk=>f200 hs hl hk hp (N7 hp k (by omega))
end
section
variable{s:List Nat}(hs:dJ s)(hl:s.length<1000000000)
include hs hl
theorem f129{n:Nat}{B:List θ}{p:Nat}(hp:p<B.length)(a:RS)(ha:a.sz<n)(lj:a.bad=0){cs:List AV}{cS:Γ}{lS:List AV}{ext:List θ}(T:List Nat)(kk:Nat)
  (h:FS s B p cs cS lS ext a) (Ry:lS.length+a.sz<=2000000000) (bm:a.sz<=1000000000):
  ∃v x ξ fJ eO ext' T' b,kf u 129 [.μ p 0,.int .i64 kk] {ε:=B.set p (.cells cs)++ext,η:=T}=some (v,{ε:=B.set p (.cells ξ)++ext',η:=T'})/\FS s B p ξ fJ eO ext' b/\Kept B p cs ext ξ ext'∧
   Δ (u9 s.length (bY s.length (ai s.length n) n)) a x b/\Dv v x.1.av/\x.1.Ok/\(∀i∈T',i∈T\/i=p\/B.length<=i)/\eO.length+b.sz+a.bad<=lS.length+a.sz+b.bad/\ext.length<=ext'.length:=by
 have oN:=h.1;obtain⟨_,w1,aW,a1,k1,r1,bS,rfl⟩:=(f196 (u:=u) hs hl [112,114,111,99] (by decide) (by simp) a).at ext hp oN;have s1:=bS.sz (cI _ _);have z1:=bS.bd (cI _ _);obtain⟨_,nm,aV,a2,k2,r2,cR,rfl,kr⟩:=(f197 (u:=u) hs hl a1).at ext hp r1;have s2:=cR.sz (jx _);have z2:=cR.bd (jx _);obtain⟨_,w3,aP,a3,k3,r3,bE,rfl⟩:=(f196 (u:=u) hs hl [40] (by decide) (by simp) a2).at ext hp r2;have s3:=bE.sz (cI _ _);have z3:=bE.bd (cI _ _);have dy:κ (C u).gl (aS (C u)) Om {env:=[.μ p 0,.int .i64 kk],loc:=[],mem:= {ε:=B.set p (.cells cs)++ext,η:=[]}} fun r=>r.1= .ret/\bq r.2.env 4= .Ω 4 0 0/\∃L x ξ fJ eO ext' tt b,bT r.2.loc 4=some (0,.cells L)/\r.2.mem= {ε:=B.set p (.cells ξ)++ext',η:=tt}/\FS s B p ξ fJ eO ext' b/\Kept B p cs ext ξ ext'∧
   Δ (u9 s.length (bY s.length (ai s.length n) n)) a x b/\Dv (.agg L) x.1.av/\L.length=3/\x.1.Ok/\(∀i∈tt,i=p\/B.length<=i)/\eO.length+b.sz+a.bad<=lS.length+a.sz+b.bad/\ext.length<=ext'.length:=by
  let K:St->Prop:=fun st=>bq st.env 0= .μ p 0/\bq st.env 1= .int .i64 kk/\bq st.env 4= .Ω 4 0 0/\(∃z,bT st.loc 4=some (0,.cells z)/\z.length=3);refine χ (fun st=>K st/\bT st.loc 5=none/\st.mem= {ε:=B.set p (.cells cs)++ext,η:=[]}) (by simp[K,aQ]) fun s1 ⟨⟨h1,h2,h3,z,h4,h5⟩,h6,h7⟩=>?_;refine χ (fun st=>K st/\bT st.loc 5=none/\st.mem= {ε:=B.set p (.cells aW)++ext,η:=[]}) (by simp[K,h1,h2,h3,h4,h5,h6,h7,k1]) fun s1 ⟨⟨h1,h2,h3,z,h4,h5⟩,h6,h7⟩=>?_;let K2:St->Prop:=fun st=>K st/\bq st.env 5= .Ω 5 0 0;refine χ (fun st=>K2 st/\bT st.loc 5=some (0,.cells [.str nm,.list .nil (([]:List aC).map aC.av),.list .nil []])/\st.mem= {ε:=B.set p (.cells aV)++ext,η:=[]}) (by simp[K2,K,h1,h2,h3,h4,h5,h6,h7,k2,aQ,cX]) fun s1 ⟨⟨⟨h1,h2,h3,z,h4,h5⟩,h8⟩,h6,h7⟩=>?_;refine χ (fun st=>K2 st/\bT st.loc 5=some (0,.cells [.str nm,.list .nil (([]:List aC).map aC.av),.list .nil []])/\st.mem= {ε:=B.set p (.cells aP)++ext,η:=[]}) (by simp[K2,K,h1,h2,h3,h4,h5,h6,h7,h8,k3]) fun s1 ⟨Yx,h6,h7⟩=>?_;have ZG:nK s.length (ry s.length) a3 [] a3:= .inl ⟨rfl,rfl⟩;let R2:St->List AV->List aC->Γ->List θ->RS->Prop:=fun st ξ l cP ext' b=>K2 st/\bT st.loc 5=some (0,.cells [.str nm,.list cP (l.map aC.av),.list .nil []])/\st.mem= {ε:=B.set p (.cells ξ)++ext',η:=[]}/\fj s (.list cS lS) ξ b/\Row (B.length+ext.length) (B.set p (.cells ξ)++ext') 2 76 cP l.length/\Row B.length (B.set p (.cells ξ)++ext') 3 196 cS lS.length/\Kept B p cs ext ξ ext'/\ext.length<=ext'.length∧
   (l=[]->cP= .nil)/\(∀y∈l,dJ y.name)/\nK s.length (ry s.length) a3 l b/\b.sz<=a3.sz/\a3.bad<=b.bad
  let I:Nat->St->Prop:=fun i st=>∃ξ l cP ext' b,R2 st ξ l cP ext' b/\(b.sz+i<=a3.sz\/b.bad=1)/\l.length<=i;have hI:I 0 s1:=⟨aP,[],.nil,ext,a3,⟨Yx,h6,h7,r3,Row.nil,(h.cells r3).2.1,Kept.cells B p cs aP ext,bQ _,fun _=>rfl,by simp,ZG,bQ _,bQ _⟩,.inl (bQ _),bQ _⟩;refine aZ (fun st=>∃ξ l cP ext' b,R2 st ξ l cP ext' b/\(b.bad=1\/b.aD [41]=true)) ?_ fun s2 ⟨ξ,l,cP,ext',b,⟨⟨⟨h1,h2,h3,z,h4,h5⟩,h8⟩,h6,h7,jj,dn,lK,mN,v8,jQ,fB,oH,fb,sv⟩,p0⟩=>?_
  ·refine κ.block (κ.ki (I:=I) (a3.sz+2) hI fun i st hi τ=>?_);obtain⟨ξ,l,cP,ext',b,⟨⟨⟨h1,h2,h3,z,h4,h5⟩,h8⟩,h6,h7,jj,dn,lK,mN,v8,jQ,fB,oH,fb,sv⟩,l8,jU⟩:=τ;obtain⟨q,wr,la,tk,fw,hq,jX,fR⟩:=jj.sW hs hl;have gp:(B.set p (θ.cells ξ)++ext')[p]?=some (.cells [.str s,.int .i64 2,.str eJ,.int .i64 q,.int .i64 tk.at_,.int .i64 tk.kind,.str tk.cut,.int .i64 tk.bB,.bool (decide (q=s.length)),.int .i64 wr,.int .i64 la,.list cS lS]):=by rw[eg (by simpa using hp),fw];simp[hp]
   unfold Su;by_cases dh:wr<0
   ·have eS:b.bad=0:=by
     cases b with
     |w w=>have:wr=(w:Int):=fR;omega
     |r sb=>rfl
    have qc:=fun t ht T=>Aq (u:=u) hs hl [41] (by decide) (by simp) ext' hp jj t ht T;cases bR:b.aD [41]with
    |true=>
     have qc:=qc _ bR
     refine κ.done (.exit 0) (fun st=>K2 st/\bT st.loc 5=some (0,.cells [.str nm,.list cP (l.map aC.av),.list .nil []])/\st.mem= {ε:=B.set p (.cells ξ)++ext',η:=[]}) (by simp[K2,K,h1,h2,h3,h4,h5,h6,h7,h8,gp,dh,qc]) fun s' ⟨m1,m2,m3⟩=> .inr ⟨by simp,.inl ⟨rfl,.inl ⟨rfl,ξ,l,cP,ext',b,⟨m1,m2,m3,jj,dn,lK,mN,v8,jQ,fB,oH,fb,sv⟩,.inr bR⟩⟩⟩
    |false=>
     have qc:=qc _ bR
     have l8:b.sz+i<=a3.sz:=l8.elim id fun h=>by omega
     by_cases h0:l=[]
     ·have Kk:b=a3:=by
       rcases oH with⟨_,h⟩|⟨h,_⟩|⟨w,h,_⟩
       ·exact h
       ·exact absurd h0 h
       ·subst h;cases eS
      have gO:¬0<l.length:=by rw[h0];simp
      obtain⟨_,x,dT,b4,k4,r4,ew,rfl,hx⟩:=(f197 (u:=u) hs hl b).at ext' hp jj;obtain⟨_,w5,ie,b5,k5,r5,ij,rfl⟩:=(f196 (u:=u) hs hl [91] (by decide) (by simp) b4).at ext' hp r4;obtain⟨_,m,ox,b6,k6,r6,qW,rfl,hm⟩:=(f199 (u:=u) hs hl b5).at ext' hp r5;obtain⟨_,w7,oy,b7,k7,r7,xE,rfl⟩:=(f196 (u:=u) hs hl [93] (by decide) (by simp) b6).at ext' hp r6;have vQ:Δ (ry s.length) b (⟨x,m⟩:aC) b7:=ew.bind (Q:=fun n t=>(ak s.length [91] t).bind fun _ t=>(sQ s.length t).bind fun k t=>(ak s.length [93] t).map fun _=>(⟨n,k⟩:aC)) (ij.bind (qW.bind (Q:=fun(k:Nat) t=>(ak s.length [93] t).map fun _=>(⟨x,(k:Int)⟩:aC)) (xE.map fun _=>(⟨x,(m:Int)⟩:aC))));have zi:=vQ.jK (zq _) eS;have si:=vQ.sz (zq _).nk;have yi:=RS.iI b7;obtain⟨m_,gV,eN,gE,nY,tG,qd⟩:=vf (bytes:=24) (n:=B.length+ext.length) (B:=B.set p (.cells oy)) (ext:=ext') (by simp) (by rw[dq];exact Row.cells _ _ _ _ _ (by omega) _ _ _ _ dn) (by simp;omega) (MC l) (show shaped true 2 (aC.av ⟨x,m⟩)=true by rfl) (show ρ (aC.av ⟨x,m⟩)=_ by rfl) (by omega) (by simp;omega) (by simp;omega);rw[dq]at gE;simp only[ft]at nY;have sB:Kept B p cs ext oy gV:=fun t k sz e h1 hr=>by have ν:=oR hr;simp only[dB,ft]at ν;rw[qd t (by omega)];exact Kept.cells _ _ _ _ _ _ _ _ _ h1 (mN _ _ _ _ h1 hr)
      have sJ:Row B.length (B.set p (.cells oy)++gV) 3 196 cS lS.length:=nY 3 196 cS lS.length (by decide) (Row.cells _ _ _ _ _ (bQ _) _ _ _ _ lK);have sD:∀y∈l++[(⟨x,m⟩:aC)],dJ y.name:=fun y hy=>(eL.1 hy).elim (fB y) fun h=>by rw[lV.1 h];exact hx
      have dv:shaped true 2 (.agg [.str x,.int .i64 m])=true:=rfl;have kK:∀M:Mem,M.ρ (.agg [.str x,.int .i64 m])= .agg [.str x,.int .i64 m]:=fun _=>rfl;simp only[aC.av]at eN;refine κ.done .normal (fun st=>K2 st/\bT st.loc 5=some (0,.cells [.str nm,.list m_ ((l++[(⟨x,m⟩:aC)]).map aC.av),.list .nil []])/\st.mem= {ε:=B.set p (.cells oy)++gV,η:=[]}) (by simp[K2,K,h1,h2,h3,h4,h5,h6,h7,h8,gp,dh,qc,gO,k4,k5,k6,k7,cX,dv,kK,eN,aC.av]) fun s' ⟨m1,m2,m3⟩=> .inl ⟨rfl,by omega,oy,l++[⟨x,m⟩],m_,gV,b7,⟨m1,m2,m3,r7,by simpa using gE,sJ,sB,by omega,fun h=>by simp at h,sD,by rw[h0];rw[Kk]at vQ bR;exact nK.start bR vQ,by omega,by omega⟩,by omega,by simp;omega⟩
     ·obtain⟨_,w9,cs9,b9,k9,r9,J0,rfl⟩:=(f196 (u:=u) hs hl [44] (by decide) (by simp) b).at ext' hp jj;have z9:=J0.jK (cU.take _ _) eS;have s9:=J0.sz (cI _ _);have y9:=RS.iI b9;have gO:0<l.length:=List.length_pos_iff.2 h0;obtain⟨_,x,dT,b4,k4,r4,ew,rfl,hx⟩:=(f197 (u:=u) hs hl b9).at ext' hp r9;obtain⟨_,w5,ie,b5,k5,r5,ij,rfl⟩:=(f196 (u:=u) hs hl [91] (by decide) (by simp) b4).at ext' hp r4;obtain⟨_,m,ox,b6,k6,r6,qW,rfl,hm⟩:=(f199 (u:=u) hs hl b5).at ext' hp r5;obtain⟨_,w7,oy,b7,k7,r7,xE,rfl⟩:=(f196 (u:=u) hs hl [93] (by decide) (by simp) b6).at ext' hp r6;have vQ:Δ (ry s.length) b9 (⟨x,m⟩:aC) b7:=ew.bind (Q:=fun n t=>(ak s.length [91] t).bind fun _ t=>(sQ s.length t).bind fun k t=>(ak s.length [93] t).map fun _=>(⟨n,k⟩:aC)) (ij.bind (qW.bind (Q:=fun(k:Nat) t=>(ak s.length [93] t).map fun _=>(⟨x,(k:Int)⟩:aC)) (xE.map fun _=>(⟨x,(m:Int)⟩:aC))));have zi:=vQ.bd (zq _).nk;have si:=vQ.sz (zq _).nk;have yi:=RS.iI b7;obtain⟨m_,gV,eN,gE,nY,tG,qd⟩:=vf (bytes:=24) (n:=B.length+ext.length) (B:=B.set p (.cells oy)) (ext:=ext') (by simp) (by rw[dq];exact Row.cells _ _ _ _ _ (by omega) _ _ _ _ dn) (by simp;omega) (MC l) (show shaped true 2 (aC.av ⟨x,m⟩)=true by rfl) (show ρ (aC.av ⟨x,m⟩)=_ by rfl) (by omega) (by simp;omega) (by simp;omega);rw[dq]at gE;simp only[ft]at nY;have sB:Kept B p cs ext oy gV:=fun t k sz e h1 hr=>by have ν:=oR hr;simp only[dB,ft]at ν;rw[qd t (by omega)];exact Kept.cells _ _ _ _ _ _ _ _ _ h1 (mN _ _ _ _ h1 hr)
      have sJ:Row B.length (B.set p (.cells oy)++gV) 3 196 cS lS.length:=nY 3 196 cS lS.length (by decide) (Row.cells _ _ _ _ _ (bQ _) _ _ _ _ lK);have sD:∀y∈l++[(⟨x,m⟩:aC)],dJ y.name:=fun y hy=>(eL.1 hy).elim (fB y) fun h=>by rw[lV.1 h];exact hx
      have dv:shaped true 2 (.agg [.str x,.int .i64 m])=true:=rfl;have kK:∀M:Mem,M.ρ (.agg [.str x,.int .i64 m])= .agg [.str x,.int .i64 m]:=fun _=>rfl;simp only[aC.av]at eN;refine κ.done .normal (fun st=>K2 st/\bT st.loc 5=some (0,.cells [.str nm,.list m_ ((l++[(⟨x,m⟩:aC)]).map aC.av),.list .nil []])/\st.mem= {ε:=B.set p (.cells oy)++gV,η:=[]}) (by simp[K2,K,h1,h2,h3,h4,h5,h6,h7,h8,gp,dh,qc,gO,k9,k4,k5,k6,k7,cX,dv,kK,eN,aC.av]) fun s' ⟨m1,m2,m3⟩=> .inl ⟨rfl,by omega,oy,l++[⟨x,m⟩],m_,gV,b7,⟨m1,m2,m3,r7,by simpa using gE,sJ,sB,by omega,fun h=>by simp at h,sD,nK.step (zq _).nk eS oH h0 bR J0 vQ,by omega,by omega⟩,by omega,by simp;omega⟩
   ·have bR:b.bad=1:=by
     cases b with
     |w w=>rfl
     |r sb=>obtain⟨h,-⟩:=fR;omega
    refine κ.done (.exit 0) (fun st=>K2 st/\bT st.loc 5=some (0,.cells [.str nm,.list cP (l.map aC.av),.list .nil []])/\st.mem= {ε:=B.set p (.cells ξ)++ext',η:=[]}) (by simp[K2,K,h1,h2,h3,h4,h5,h6,h7,h8,gp,dh]) fun s' ⟨m1,m2,m3⟩=> .inr ⟨by simp,.inl ⟨rfl,.inl ⟨rfl,ξ,l,cP,ext',b,⟨m1,m2,m3,jj,dn,lK,mN,v8,jQ,fB,oH,fb,sv⟩,.inl bR⟩⟩⟩
  ·obtain⟨_,w4,dT,a4,k4,r4,ew,rfl⟩:=(f196 (u:=u) hs hl [41] (by decide) (by simp) b).at ext' hp jj;have s4:=ew.sz (cI _ _);have KA:=oH.done p0 ew;have z4:=KA.bd (El _ (zq _).nk);have y1:=RS.iI a1;have y2:=RS.iI a2;have y3:=RS.iI a3;have y4:=RS.iI a4;have F4:FS s B p dT cS lS ext' a4:=⟨r4,Row.cells _ _ _ _ _ (bQ _) _ _ _ _ lK,h.2.2⟩;have dp:cP.exp 0 false=Ξ l:=by
    cases l with
    |nil=>rw[jQ rfl];rfl
    |cons a l=>
     rcases dn with⟨_,h⟩|⟨t,rfl,_⟩
     ·cases h
     ·rfl
   obtain⟨_,⟨bl,bi⟩,ie,Jb,Mb,qT,T5,a5,k5,F5,CN,ij,rZ,wM,sL,N5,Tf⟩:=N7 (u:=u) hs hl (n:=n) hp n (bQ _) a4 dT cS lS ext' [] .full [kk] (by omega) F4 (by omega) (by simp only[List.length_singleton];omega);obtain⟨vc,vl,rfl⟩:=rZ.wE;dsimp only at rZ wM;have uR:=Dv.list cP (bJ.of aC.av l fun y _=>aC.fx y);rw[dp]at uR;have k5':kf u 200 [.μ p 0,.list .full [.int .i64 kk]] {ε:=B.set p (.cells dT)++ext',η:=[]}=some (.list vc vl,{ε:=B.set p (.cells ie)++qT,η:=T5}):=k5;have Na:∀n:Int,shaped false 1 (.int .i64 n)=true:=fun _=>rfl;have ni:∀(m:Mem) (n:Int),m.ρ (.int .i64 n)= .int .i64 n:=fun _ _=>rfl;have hG:Δ (u9 s.length (bY s.length (ai s.length n) n)) a ((⟨nm,Ξ l,l,Ξ bl,bl⟩:ω),bi) a5:=
    bS.bind (cR.bind (Q:=fun n' t=>(ak s.length [40] t).bind fun _ t=>(ml s.length (ry s.length) t).bind fun ps t=>(bY s.length (ai s.length n) n t).map fun b=>((⟨n',Ξ ps,ps,Ξ b.1,b.1⟩:ω),b.2)) (bE.bind (KA.bind (Q:=fun ps t=>(bY s.length (ai s.length n) n t).map fun b=>((⟨nm,Ξ ps,ps,Ξ b.1,b.1⟩:ω),b.2)) (ij.map fun b=>((⟨nm,Ξ l,l,Ξ b.1,b.1⟩:ω),b.2)))))
   refine κ.done .ret (fun st=>bq st.env 4= .Ω 4 0 0/\bT st.loc 4=some (0,.cells [.str nm,.list cP (l.map aC.av),.list vc vl])/\st.mem= {ε:=B.set p (.cells ie)++qT,η:=T5}) (by simp[h1,h2,h3,h4,h5,h6,h7,h8,k4,k5',Na,ni]) fun s' ⟨m1,m2,m3⟩=>⟨rfl,m1,_,_,ie,Jb,Mb,qT,T5,a5,m2,m3,F5,fun t k sz e h1 hr=>CN _ _ _ _ h1 (Kept.cells _ _ _ _ _ _ _ _ _ h1 (mN _ _ _ _ h1 hr)),hG,.agg (.cons (.str _) (.cons uR (.cons rZ .nil))),rfl,⟨kr,ib _,fB,ib _,wM,fun h=>by cases l with
    |nil=>rfl
    |cons a l=>cases h⟩,fun i hi=>(sL i hi).elim (fun h=>by cases h) id,by omega,by omega⟩
 have Cv:p<(B.set p (θ.cells cs)++ext).length:=by simp;omega
 obtain⟨⟨ex,s'⟩,e1,e2,m1,L,x,ξ,fJ,eO,ext',tt,b,m2,m3,m4,m5,m6,m7,m8,m9,m10,m11,m12⟩:=dy;dsimp only at e2 m1 m2 m3;subst e2;have eH:L.take 3=L:=dY (by omega);have dV:([AV.μ p 0,.int .i64 kk]++[]).map (exp (B.set p (θ.cells cs)++ext).length true)=[.μ p 0,.int .i64 kk]:=by simp only[dx,ah,aw,exp,Cv,if_true]
 have c_:=uv (C:=C u) (f:=129) (g:=EY) (args:=[.μ p 0,.int .i64 kk]) (cap:=[]) (m:= {ε:=B.set p (.cells cs)++ext,η:=T}) (l:=[.agg L]) rfl rfl rfl (by rw[dV];exact e1) (by simp) (by simp[EY,m1,m2,m8,eH]);exact⟨exp (B.set p (θ.cells ξ)++ext').length true (.agg L),x,ξ,fJ,eO,ext',T++tt,b,c_.trans (by rw[m3];rfl),m4,m5,m6,m7.exp _ _,m9,fun i hi=>(eL.1 hi).imp id (m10 i),m11,m12⟩
end
theorem afu{s:List Nat}{q:Nat}(hq:q<=s.length):(qA s q).isEmpty=decide (q=s.length):=by
 unfold qA;by_cases h:q<s.length
 ·rw[if_pos h];have:¬q=s.length:=by omega
  split<;>simp[this]
 ·have:q=s.length:=by omega
  simp[this]
theorem TX(l:List ω)(h:∀y∈l,y.Ok):bJ (l.map ω.av) (l.map ω.av):=bJ.of ω.av l fun y hy=>ω.EH (h y hy)
theorem f54(s:List Nat)(hs:dJ s)(hl:s.length<1000000000)(m:Mem):∃sp,(∀x∈(cN s).1.1,x.Ok)/\kf u 54 [.str s] m=some (.aO [.agg [.list (Ξ (cN s).1.1) ((cN s).1.1.map ω.av)],sp,.int .i64 (cN s).2.1,.int .i64 (cN s).2.2],m):=by
 by_cases ma:65536<s.length
 ·refine⟨.list .nil [],by simp[cN,ma],D7 (g:=vO) rfl rfl rfl ?_⟩;simp only[ah,aw,exp,vO,I8];have oJ:(65536:Int)<s.length:=by omega
  simp[aQ,oJ,cX,cN,ma];rfl
 have oJ:¬(65536:Int)<s.length:=by omega
 suffices h:κ (C u).gl (aS (C u)) vO.code {env:=[AV.str s].map (exp m.ε.length false),loc:=[],mem:= {ε:=m.ε,η:=[]}} fun r=>∃sp,(∀x∈(cN s).1.1,x.Ok)∧
   (∀i,r.1≠ .exit i)/\(∃bs,r.2.mem.ε=m.ε++bs)/\(∀i∈r.2.mem.η,m.ε.length<=i)/\∃l,bf r.2 vO.results=some l/\ax r.2.mem.ε m.ε.length 8 (ba l)= .aO [.agg [.list (Ξ (cN s).1.1) ((cN s).1.1.map ω.av)],sp,.int .i64 (cN s).2.1,.int .i64 (cN s).2.2] by
  obtain⟨r,h1,sp,h0,h2⟩:=h;exact⟨sp,h0,D7 (g:=vO) rfl rfl rfl ⟨r,h1,h2⟩⟩
 simp only[ah,aw,exp,vO,I8];have H5:=fun m=>f127 (u:=u) s (by omega) m;simp only[eJ]at H5;have wv:=Im s;let K:St->Prop:=fun st=>bq st.env 0= .str s/\bq st.env 2= .Ω 2 0 0/\bT st.loc 2=some (0,.cells [.list .nil []]);refine χ (fun st=>K st/\bT st.loc 7=none/\st.mem= {ε:=m.ε,η:=[]}) (by simp[K,aQ]) fun s1 ⟨⟨h1,h2,h3⟩,h4,h5⟩=>?_;refine χ (fun st=>K st/\bT st.loc 7=none/\st.mem= {ε:=m.ε,η:=[]}) (by simp[K,h1,h2,h3,h4,h5,oJ]) fun s1 ⟨⟨h1,h2,h3⟩,h4,h5⟩=>?_;obtain⟨B,BZ⟩:∃B,B=m.ε++[θ.cells []]:=⟨_,rfl⟩;have Yt:B.length=m.ε.length+1:=by rw[BZ];simp
 obtain⟨p,Cw⟩:∃p,p=m.ε.length:=⟨_,rfl⟩;have hp:p<B.length:=by omega
 have hB:∀cs,B.set p (.cells cs)=m.ε++[.cells cs]:=fun cs=>by rw[BZ,Cw];simp
 obtain⟨pP,Kp⟩:∃pP,pP=mW s (bI false s)++[AV.int .i64 (-1),.int .i64 0,.list .nil []]:=⟨_,rfl⟩;let K2:St->Prop:=fun st=>K st/\bq st.env 6= .μ p 0;refine χ (fun st=>K2 st/\bT st.loc 7=none/\st.mem= {ε:=B.set p (.cells pP),η:=[]}) (by
  rw[hB,Kp]
  simp[K2,K,h1,h2,h3,h4,h5,H5,cX,mW,eJ,Mem.push,Mem.ρ,ρ,cL,Cw]) fun s1 ⟨⟨⟨h1,h2,h3⟩,h6⟩,h4,h5⟩=>?_
 let K3:St->Prop:=fun st=>K2 st/\bq st.env 7= .Ω 7 0 0;refine χ (fun st=>K3 st/\bT st.loc 7=some (0,.cells [.list .nil []])/\st.mem= {ε:=B.set p (.cells pP),η:=[]}) (by simp[K3,K2,K,h1,h2,h3,h4,h5,h6,aQ]) fun s1 ⟨hK,h4,h5⟩=>?_;have hle:=Ax false s;have r0:fj s (.list .nil []) pP (.r ⟨0,bG s⟩):=⟨bI false s,-1,0,Kp,hle,rfl,by
  have:=Uu s 0 (Nat.zero_le _)
  rw[afw,List.drop_zero,Nat.zero_add]at this;exact this,rfl⟩
 have afi:=fun(a:RS) h1 h2=>@f129 u s hs hl ((bG s).length+1) B p hp a h1 h2;have jB:=cU.prog s.length ((bG s).length+1);obtain⟨a1,uB⟩:∃a1,a1=RS.r ⟨0,bG s⟩:=⟨_,rfl⟩;have Kg:a1.sz=(bG s).length:=by rw[uB];rfl
 generalize hP:u9 s.length (bY s.length (ai s.length ((bG s).length+1)) ((bG s).length+1))=P at*;let F:List ω×List (List Sp)->PS->R (List ω×List (List Sp)):=fun l t=>(P t).map fun x=>(l.1++[x.1],l.2++[x.2]);let cc:PS->Bool:=fun t=>!t.l.isEmpty;let R2:St->List ω->List (List Sp)->List AV->RS->Prop:=fun st lo li ξ b=>K3 st/\∃la c4 cS lS ext tt,bT st.loc 7=some (0,.cells [.list c4 la])/\bJ la (lo.map ω.av)/\la.length=lo.length/\st.mem= {ε:=B.set p (.cells ξ)++ext,η:=tt}/\(∀i∈tt,i=p\/B.length<=i)∧
  Row B.length (B.set p (.cells ξ)++ext) 3 70 c4 la.length/\(lo=[]->c4= .nil)/\(∀x∈lo,x.Ok)/\FS s B p ξ cS lS ext b/\lS.length+b.sz<=a1.sz+b.bad
 refine aZ (fun st=>∃lo li ξ b,R2 st lo li ξ b/\Δ (cK cc F (a1.sz+1) ([],[])) a1 (lo,li) b) ?_ fun s3 ⟨lo,li,ξ,b,⟨⟨⟨⟨h1,h2,h3⟩,h6⟩,h7⟩,la,c4,cS,lS,ext,tt,q2,q3,MY,q4,q5,q6,q7,q8,q9,gx⟩,hg⟩=>?_
 ·let I:Nat->St->Prop:=fun i st=>∃lo li ξ b,R2 st lo li ξ b/\lo.length<=i/\b.sz<=a1.sz/\(b.sz+i<=a1.sz\/b.bad=1)/\∀y b',Δ (cK cc F (a1.sz+1-i) (lo,li)) b y b'->Δ (cK cc F (a1.sz+1) ([],[])) a1 y b';have hI:I 0 s1:=⟨[],[],pP,a1,⟨hK,[],.nil,.nil,[],[],[],h4,.nil,rfl,h5.trans (by simp),by simp,Row.nil,fun _=>rfl,by simp,⟨by rw[uB];exact r0,Row.nil,rfl,rfl⟩,by simp⟩,bQ _,bQ _,.inl (bQ _),fun _ _ h=>h⟩;refine κ.block (κ.ki (I:=I) (a1.sz+1) hI fun i st hi τ=>?_);obtain⟨lo,li,ξ,b,⟨⟨⟨⟨h1,h2,h3⟩,h6⟩,h7⟩,la,c4,cS,lS,ext,tt,q2,q3,MY,q4,q5,q6,q7,q8,q9,gx⟩,fB,fb,l8,gX⟩:=τ;obtain⟨qq,wr,lt,tk,fw,hq,jX,fR⟩:=q9.1.sW hs hl;have gp:(B.set p (θ.cells ξ)++ext)[p]?=some (.cells [.str s,.int .i64 2,.str eJ,.int .i64 qq,.int .i64 tk.at_,.int .i64 tk.kind,.str tk.cut,.int .i64 tk.bB,.bool (decide (qq=s.length)),.int .i64 wr,.int .i64 lt,.list cS lS]):=by rw[eg (by simpa using hp),fw];simp[hp]
  have out:∀bA:St,K3 bA/\bT bA.loc 7=some (0,.cells [.list c4 la])/\bA.mem= {ε:=B.set p (.cells ξ)++ext,η:=tt}->R2 bA lo li ξ b:=fun bA ⟨m1,m2,m3⟩=>⟨m1,la,c4,cS,lS,ext,tt,m2,q3,MY,m3,q5,q6,q7,q8,q9,gx⟩;unfold S0;by_cases dh:wr<0
  ·have eS:b.bad=0:=by
    cases b with
    |w w=>have:wr=(w:Int):=fR;omega
    |r sb=>rfl
   have l8:b.sz+i<=a1.sz:=l8.elim id fun h=>by omega
   rw[show a1.sz+1-i=(a1.sz-i)+1 by omega]at gX;cases b with
   |w w=>cases eS
   |r sb=>
    obtain⟨-,iw,-⟩:=fR
    have Kt:=afu hq;rw[<-iw]at Kt;by_cases G7:qq=s.length
    ·refine κ.done (.exit 0) (fun bA=>K3 bA/\bT bA.loc 7=some (0,.cells [.list c4 la])/\bA.mem= {ε:=B.set p (.cells ξ)++ext,η:=tt}) (by simp[K3,K2,K,h1,h2,h3,h6,h7,q2,q4,gp,dh,G7]) fun s' hh=> .inr ⟨by simp,.inl ⟨rfl,.inl ⟨rfl,lo,li,ξ,.r sb,out s' hh,gX _ _ (Δ.u3 (show(!sb.l.isEmpty)=false by rw[Kt];simp[G7]))⟩⟩⟩
    ·obtain⟨v,x,aV,D5,rn,l4,T2,b2,k2,F2,kp2,cR,Js,TA,Lt,V5,ln2⟩:=afi (.r sb) (by omega) rfl tt la.length q9 (by omega) (by omega);obtain⟨x,sp⟩:=x;dsimp only at Js TA;obtain⟨L,rfl,hL⟩:=Js.Si;have eh:L.length=3:=hL.len;have eH:L.take 3=L:=dY (by omega);have bm:=cR.sz jB.nk;have ahl:=cR.jK jB rfl;have zz:=RS.iI b2;have n1:ρ (.agg L)= .agg L:=Js.ρ;have nM:∀m:Mem,m.ρ (.agg L)= .agg L:=fun _=>n1;have ua:shaped true 3 (.agg L)=true:=by simp[shaped,eh]
     have ZY:la.all (shaped true 3)=true:=bJ.shaped q3 (TY lo);obtain⟨rW,kX,eN,dn,sH,zU,l9⟩:=vf (bytes:=64) (n:=B.length) (B:=B.set p (.cells aV)) (ext:=l4) (by simp) (kp2.row (by decide) q6) (by simp) ZY ua n1 (by omega) (by omega) (by omega);simp only[ft]at sH;have F3:FS s B p aV D5 rn kX b2:=⟨F2.1,sH _ _ _ _ (by decide) F2.2.1,F2.2.2⟩;refine κ.done .normal (fun bA=>K3 bA/\bT bA.loc 7=some (0,.cells [.list rW (la++[.agg L])])/\bA.mem= {ε:=B.set p (.cells aV)++kX,η:=T2}) (by simp[K3,K2,K,h1,h2,h3,h6,h7,q2,q4,gp,dh,G7,k2,b_,cj,tD,eh,eH,ua,nM,cX,eN]) fun s' ⟨m1,m2,m3⟩=> .inl ⟨rfl,by omega,lo++[x],li++[sp],aV,b2,⟨m1,la++[.agg L],rW,D5,rn,kX,T2,m2,?_,by simp;omega,m3,fun i hi=>(Lt i hi).elim (q5 i) id,by simpa using dn,fun h=>by simp at h,fun y hy=>(eL.1 hy).elim (q8 y) fun h=>by rw[lV.1 h];exact TA,F3,?_⟩,by simp;omega,by omega,?_,fun y b' hg=>gX y b' (Δ.u4 (show(!sb.l.isEmpty)=true by rw[Kt];simp[G7]) (cR.map _) (by rw[show a1.sz+1-(i+1)=a1.sz-i by omega]at hg;exact hg))⟩
     ·rw[show(lo++[x]).map ω.av=lo.map ω.av++[x.av] by simp];exact q3.append (.cons (.agg hL) .nil)
     ·have hz:(RS.r sb).bad=0:=rfl;rw[hz]at V5 gx;omega
     ·omega
  ·have bR:b.bad=1:=by
    cases b with
    |w w=>rfl
    |r sb=>obtain⟨h,-⟩:=fR;omega
   refine κ.done (.exit 0) (fun bA=>K3 bA/\bT bA.loc 7=some (0,.cells [.list c4 la])/\bA.mem= {ε:=B.set p (.cells ξ)++ext,η:=tt}) (by simp[K3,K2,K,h1,h2,h3,h6,h7,q2,q4,gp,dh]) fun s' hh=> .inr ⟨by simp,.inl ⟨rfl,.inl ⟨rfl,lo,li,ξ,b,out s' hh,gX _ _ ?_⟩⟩⟩;cases b with
   |w w=>rfl
   |r sb=>cases bR
 ·obtain⟨qq,wr,lt,tk,fw,hq,jX,fR⟩:=q9.1.sW hs hl;have gp:(B.set p (θ.cells ξ)++ext)[p]?=some (.cells [.str s,.int .i64 2,.str eJ,.int .i64 qq,.int .i64 tk.at_,.int .i64 tk.kind,.str tk.cut,.int .i64 tk.bB,.bool (decide (qq=s.length)),.int .i64 wr,.int .i64 lt,.list cS lS]):=by rw[eg (by simpa using hp),fw];simp[hp]
  have cE:∃bs,B.set p (.cells ξ)++ext=m.ε++bs:=⟨_,by rw[hB,cr]⟩;have lL:∀i∈tt,m.ε.length<=i:=fun i hi=>(q5 i hi).elim (fun h=>by omega) fun h=>by omega
  have Cy:∀y,u_ s.length (bG s)=y->cK cc F (a1.sz+1) ([],[]) ⟨0,bG s⟩=y:=fun y h=>by rw[<-h,Kg];simp only[u_,hP];rfl
  rw[uB]at hg;simp only[Δ]at hg;rw[<-uB]at hg;cases ql:u_ s.length (bG s)with
  |no w=>
   rw[Cy _ ql]at hg
   cases hg;have iA:wr=(w:Int):=fR;have hw:0<=wr:=by omega
   have hX:cN s=(([],[]),(w:Int),4):=by simp only[cN,ma,if_false,ql]
   refine κ.done .ret (fun st=>bq st.env 2= .Ω 2 0 0/\bT st.loc 2=some (0,.cells [.list .nil []])/\bq st.env 3= .list .nil []/\bq st.env 4= .int .i64 wr/\bq st.env 5= .int .i64 4/\st.mem= {ε:=B.set p (.cells ξ)++ext,η:=tt}) (by simp[h1,h2,h3,h6,h7,q2,q4,gp,hw,cX,b_,cj,tD]) fun s' ⟨m1,m2,m3,m4,m5,m6⟩=>⟨.list .nil [],by simp[hX],by simp,by rw[m6];exact cE,by rw[m6];exact lL,[.agg [.list .nil []],.list .nil [],.int .i64 wr,.int .i64 4],by simp[m1,m2,m3,m4,m5],by rw[hX,iA];rfl⟩
  |ok x t=>
   rw[Cy _ ql]at hg
   obtain⟨rfl,rfl⟩:=hg;obtain⟨rfl,-,-⟩:=fR;have e4:c4.exp 0 false=Ξ lo:=by
    cases lo with
    |nil=>rw[q7 rfl];rfl
    |cons a l=>
     rcases q6 with⟨_,h⟩|⟨t,rfl,_⟩
     ·rw[MY]at h;cases h
     ·rfl
   have tN:=Nr ql;have bo:=Dv.list c4 q3;rw[e4]at bo;have Ui:∀m,kf u 22 [.agg [.list c4 la]] m=some (.int .i64 (kG lo),m):=fun m=>by
    refine Eq.trans (PY (w:=dA (Ξ lo) lo) ?_) (f22 (Ξ lo) (ib lo) lo q8 (by dsimp only at tN;omega) m)
    ·have h1:=(rz m.ε.length false (.agg [.list c4 la]) (Dv.agg (.cons bo .nil)).1).2.2.2;have iu:=Dv.list (Ξ lo) (TX lo q8);rw[zh]at iu;have h2:=(rz m.ε.length false (dA (Ξ lo) lo) (Dv.agg (.cons iu .nil)).1).2.2.2;show exp m.ε.length false _=exp m.ε.length false _;rw[h1,h2,(Dv.agg (.cons bo .nil)).2,(show Dv (dA (Ξ lo) lo) _ from Dv.agg (.cons iu .nil)).2]
   by_cases c_:kG lo=0
   ·have hX:cN s=((lo,li),0,0):=by simp only[cN,ma,if_false,ql,c_,if_true]
    obtain⟨sp,yf⟩:∃sp,Dv (.list cS lS) sp:=⟨_,by simpa[pf]using q9.2.2.1,rfl⟩;have hv:Dv (.aO [.agg [.list c4 la],.list cS lS,.int .i64 0,.int .i64 0]) (.aO [.agg [.list (Ξ lo) (lo.map ω.av)],sp,.int .i64 0,.int .i64 0]):=
     .aO (.cons (.agg (.cons bo .nil)) (.cons yf (.cons (.int _ _) (.cons (.int _ _) .nil))))
    refine κ.done .ret (fun st=>bq st.env 2= .Ω 2 0 0/\bT st.loc 2=some (0,.cells [.list c4 la])/\bq st.env 3= .list cS lS/\bq st.env 4= .int .i64 0/\bq st.env 5= .int .i64 0/\st.mem= {ε:=B.set p (.cells ξ)++ext,η:=tt}) (by simp[h1,h2,h3,h6,h7,q2,q4,gp,Ui,c_,b_,cj,tD]) fun s' ⟨m1,m2,m3,m4,m5,m6⟩=>⟨sp,by rw[hX];exact q8,by simp,by rw[m6];exact cE,by rw[m6];exact lL,[.agg [.list c4 la],.list cS lS,.int .i64 0,.int .i64 0],by simp[m1,m2,m3,m4,m5],by rw[hX];exact hv.ax _ _ _⟩
   ·have pn:(kG lo !=0)=true:=by simpa using c_
    have hX:cN s=(([],[]),(s.length:Int),kG lo):=by simp only[cN,ma,if_false,ql,c_]
    refine κ.done .ret (fun st=>bq st.env 2= .Ω 2 0 0/\bT st.loc 2=some (0,.cells [.list .nil []])/\bq st.env 3= .list .nil []/\bq st.env 4= .int .i64 s.length/\bq st.env 5= .int .i64 (kG lo)/\st.mem= {ε:=B.set p (.cells ξ)++ext,η:=tt}) (by simp[h1,h2,h3,h6,h7,q2,q4,gp,Ui,pn,cX]) fun s' ⟨m1,m2,m3,m4,m5,m6⟩=>⟨.list .nil [],by simp[hX],by simp,by rw[m6];exact cE,by rw[m6];exact lL,[.agg [.list .nil []],.list .nil [],.int .i64 s.length,.int .i64 (kG lo)],by simp[m1,m2,m3,m4,m5],by rw[hX];rfl⟩
end Go.ab.Tz
namespace Go.ab
open Tz (gU gI wU kp)
def R.Al{α:Type}(F:α->Prop)(r:R α):Prop:=∀x t,r= .ok x t->F x
theorem R.Al.bind{α β:Type}{F:α->Prop}{G:β->Prop}{r:R α}{f:α->PS->R β}(h:r.Al F)(k:∀x s,F x->(f x s).Al G):(r.bind f).Al G:=fun _ _ e=>by obtain⟨x,s,e1,e2⟩:=R.dk e;exact k x s (h _ _ e1) _ _ e2
theorem R.Al.map{α β:Type}{F:α->Prop}{G:β->Prop}{r:R α}{f:α->β}(h:r.Al F)(k:∀x,F x->G (f x)):(r.map f).Al G:=fun _ _ e=>by obtain⟨x,e1,rfl⟩:=R.gG e;exact k x (h _ _ e1)
theorem R.Al.any{α:Type}{r:R α}:r.Al fun _=>True:=fun _ _ _=>trivial
theorem R.Al.ok{α:Type}{F:α->Prop}{x:α}{s:PS}(h:F x):(R.ok x s).Al F:=fun _ _ e=>by cases e;exact h
theorem R.Al.loop{α:Type}{F:α->Prop}{c:PS->Bool}{f:α->PS->R α}(h:∀x s,F x->(f x s).Al F):∀n x s,F x->(cK c f n x s).Al F
 |0,_,_,_=>fun _ _ e=>by cases e
 |n+1,x,s,hx=>by
  simp only[cK];split
  ·exact(h x s hx).bind fun y t hy=>R.Al.loop h n y t hy
  ·exact .ok hx
theorem ui:z0.copy=z0:=rfl
theorem vD{α:Type}(l:List α):kp l=Ξ l:=by cases l<;>rfl
theorem Vv{e:Nat}{ix:PS->R ζ}(h:∀s,(ix s).Al fun x=>x.copy=x)(s:PS):(lC e ix s).Al fun x=>x.copy=x:=by
 simp only[lC];split
 ·exact R.Al.any.bind fun _ _ _=>(h _).bind fun x _ hx=>R.Al.any.map fun _ _=>hx
 ·split
  ·exact R.Al.any.map fun _ _=>rfl
  ·exact R.Al.any.map fun _ _=>rfl
theorem Vy{e:Nat}{a:PS->R ζ}(h:∀s,(a s).Al fun x=>x.copy=x)(s:PS):(tY e a s).Al fun x=>x.copy=x:=
 (h s).bind fun _ _ hx=>R.Al.loop (fun x s hx=>R.Al.any.bind fun _ s _=>(h s).map fun y hy=>by simp only[ζ.copy,gU,hx,hy]) _ _ _ hx
theorem VA{e:Nat}{a:PS->R ζ}(h:∀s,(a s).Al fun x=>x.copy=x)(s:PS):(AR e a s).Al fun x=>x.copy=x:=
 (h s).bind fun _ _ hx=>R.Al.loop (fun x s hx=>R.Al.any.bind fun _ s _=>(h s).map fun y hy=>by simp only[ζ.copy,gU,hx,hy]) _ _ _ hx
theorem NN(e:Nat):∀k s,(ai e k s).Al fun x=>x.copy=x
 |0,_=>fun _ _ e=>by cases e
 |k+1,s=>VA (Vy (Vv (NN e k))) s
theorem Ba{e:Nat}{ix:PS->R ζ}(h:∀s,(ix s).Al fun x=>x.copy=x)(s:PS):(gQ e ix s).Al fun x=>x.copy=x:=R.Al.any.bind fun n s _=>by
 split
 ·refine R.Al.any.bind fun _ s _=>(h s).bind fun x s hx=>R.Al.bind (F:=fun l=>gU l=l/\l≠[]) ?_ fun l s hl=>R.Al.any.map fun _ _=>?_
  ·split
   ·exact R.Al.any.bind fun _ s _=>(h s).map fun y hy=>by simp[gU,hx,hy]
   ·exact .ok (by simp[gU,hx])
  ·obtain⟨h1,h2⟩:=hl;cases l with
   |nil=>exact absurd rfl h2
   |cons a l=>simp only[φ.copy,h1,kp]
 ·exact .ok rfl
theorem NP{e:Nat}{ix:PS->R ζ}(h:∀s,(ix s).Al fun x=>x.copy=x)(s:PS):(sX e ix s).Al fun x=>x.2.copy=x.2:=
 R.Al.any.bind fun _ _ _=>R.Al.any.bind fun _ s _=>(h s).bind fun _ _ hx=>R.Al.any.map fun _ _=>hx
theorem Vw{α:Type}{F:α->Prop}{e:Nat}{P:PS->R α}(h:∀s,(P s).Al F)(s:PS):(ml e P s).Al fun l=>∀x∈l,F x:=by
 simp only[ml];split
 ·exact R.Al.any.map fun _ _=>by simp
 ·refine(h s).bind fun x s hx=>(R.Al.loop (F:=fun l=>∀x∈l,F x) (fun l s hl=>R.Al.any.bind fun _ s _=>(h s).map fun y hy z hz=>?_) _ _ _ (by simpa using hx)).bind fun l s hl=>R.Al.any.map fun _ _=>hl;rcases eL.1 hz with hz|hz
  ·exact hl z hz
  ·rw[lV.1 hz];exact hy
theorem NO{F:φ->Prop}{e:Nat}{P:PS->R φ}(h:∀s,(P s).Al F):∀n l s,(∀x∈l,F x)/\l≠[]->(lP e P n l s).Al fun l=>(∀x∈l,F x)/\l≠[]
 |0,_,_,hl=> .ok hl
 |n+1,l,s,hl=>R.Al.any.bind fun _ s _=>(h s).bind fun p s hp=>NO h n (l++[p]) s ⟨fun z hz=>by
  rcases eL.1 hz with hz|hz
  ·exact hl.1 z hz
  ·rw[lV.1 hz];exact hp,by simp⟩
theorem Tl{l:List φ}(h:∀x∈l,x.copy=x):l.map φ.copy=l:=by
 induction l with
 |nil=>rfl
 |cons a l ih=>simp[h a (by simp),ih fun x hx=>h x (by simp[hx])]
theorem Vx{e:Nat}{ix:PS->R ζ}(h:∀s,(ix s).Al fun x=>x.copy=x)(s:PS):(ky e ix s).Al fun x=>x.copy=x:=by
 simp only[ky];split
 ·exact R.Al.any.bind fun _ s _=>(Ba h s).bind fun p s hp=>(NO (Ba h) _ _ _ ⟨by simpa using hp,by simp⟩).map fun l ⟨h1,h2⟩=>by
   cases l with
   |nil=>exact absurd rfl h2
   |cons a l=>simp only[δ.copy,Tl h1,ui,kp,gI]
 ·split
  ·exact R.Al.any.bind fun _ s _=>(NP h s).map fun x hx=>by simp only[δ.copy,hx,ui,kp,gI,aw]
  ·split
   ·exact R.Al.any.bind fun _ s _=>R.Al.any.map fun x _=>rfl
   ·split
    ·exact R.Al.any.bind fun _ s _=>(Ba h s).bind fun p s hp=>R.Al.any.bind fun _ s _=>R.Al.any.map fun n _=>by simp only[δ.copy,hp,ui,kp,gI,ah,aw]
    ·split
     ·exact R.Al.any.bind fun _ s _=>(Ba h s).map fun p hp=>by simp only[δ.copy,hp,ui,kp,gI,ah,aw]
     ·exact R.Al.any.bind fun _ s _=>R.Al.any.bind fun _ s _=>(Vw (Ba h) s).map fun l hl=>by simp only[δ.copy,Tl hl,ui,vD,gI];rfl
theorem Vz{e:Nat}{ix:PS->R ζ}(h:∀s,(ix s).Al fun x=>x.copy=x){blk:PS->R (List δ×List Sp)}(hb:∀s,(blk s).Al fun x=>gI x.1=x.1)(s:PS):(gJ e ix blk s).Al fun x=>x.1.copy=x.1:=by
 simp only[gJ];split
 ·exact R.Al.any.bind fun _ s _=>(NP h s).bind fun x s hx=>(hb s).map fun b hb=>by simp only[δ.copy,hx,hb,ui,vD,gI,aw];rfl
 ·split
  ·refine R.Al.any.bind fun _ s _=>R.Al.any.bind fun _ s _=>(hb s).bind fun b s h1=>?_;split
   ·exact R.Al.any.bind fun _ s _=>(hb s).map fun d h2=>by simp only[δ.copy,h1,h2,ui,vD,aw];rfl
   ·exact .ok (by simp only[δ.copy,h1,ui,vD,gI,aw];rfl)
  ·split
   ·exact R.Al.any.bind fun _ s _=>R.Al.any.bind fun _ s _=>R.Al.any.bind fun _ s _=>(h s).bind fun x s hx=>R.Al.any.bind fun _ s _=>(h s).bind fun y s hy=>(hb s).map fun b hb=>by simp only[δ.copy,hx,hy,hb,vD,gI,aw];rfl
   ·split
    ·exact R.Al.any.bind fun _ s _=>(hb s).map fun b hb=>by simp only[δ.copy,hb,ui,vD,gI,aw];rfl
    ·split
     ·exact R.Al.any.bind fun _ s _=>(hb s).bind fun b s h1=>R.Al.any.bind fun _ s _=>(hb s).map fun d h2=>by simp only[δ.copy,h1,h2,ui,vD,aw];rfl
     ·exact((Vx h s).bind fun x s hx=>R.Al.any.map fun _ _=>hx).map fun x hx=>hx
theorem NM{e:Nat}{ix:PS->R ζ}(h:∀s,(ix s).Al fun x=>x.copy=x):∀k s,(bY e ix k s).Al fun x=>gI x.1=x.1
 |0,_=>fun _ _ e=>by cases e
 |k+1,s=>R.Al.any.bind fun _ s _=>(R.Al.loop (F:=fun x:List δ×List Sp=>gI x.1=x.1) (fun x s hx=>R.Al.map (F:=fun y:δ×Sp=>y.1.copy=y.1) ((Vz h (NM h k) s).bind fun y s hy=> .ok hy) fun y hy=>by
   rw[Tz.M6]at hx⊢
   simp[hx,hy]) _ _ _ rfl).bind fun x s hx=>R.Al.any.map fun _ _=>hx
theorem ae_{e:Nat}{ts:List Tok}{x:List ω×List (List Sp)}{t:PS}(k:u_ e ts= .ok x t):wU x.1=x.1:=by
 refine R.Al.loop (F:=fun x:List ω×List (List Sp)=>wU x.1=x.1) (fun x s hx=>R.Al.map (F:=fun y:ω×List Sp=>y.1.copy=y.1) ?_ fun y hy=>?_) _ _ _ rfl _ _ k
 ·exact R.Al.any.bind fun _ s _=>R.Al.any.bind fun _ s _=>R.Al.any.bind fun _ s _=>R.Al.any.bind fun ps s _=>(NM (NN _ _) _ s).map fun b hb=>by simp only[ω.copy,hb,vD]
 ·simp only[wU]at hx⊢;simp[hx,hy]
end Go.ab
namespace Go.ab.Tz
open Go.ab
variable{u:Nat}
attribute [local simp] exec eG eu fz aF d_ fQ fe bq gN bT gF gS hU hZ mD AV.cells newVar hH rd wr gg single fy bF er dL κ bf RV.get ba dU jy xB
theorem f58(t:Tok)(m:Mem):kf u 58 [t.cC,t.cC] m=some (.bool true,m):=by refine bz (g:=GA) rfl rfl rfl ?_;simp[GA,Pz,Tok.cC,exp,bn,aQ]
theorem f57(c:Γ)(hc:aJ c)(l:List Tok)(hl:l.length<1000000000)(m:Mem):kf u 57 [.list c (l.map Tok.cC),.list c (l.map Tok.cC),.fn (.func 58) [] []] m=some (.bool true,m):=by
 refine bz (g:=Gz) rfl rfl rfl ?_;have he:∀n,bn n false (l.map Tok.cC)=l.map Tok.cC:=fun n=>by rw[fm,List.map_map];exact List.map_congr_left fun t _=>rfl
 simp only[ah,aw,exp,he,fu hc,Fn.below,Gz,Py];let K:St->Prop:=fun st=>bq st.env 0= .list c (l.map Tok.cC)/\bq st.env 1= .list c (l.map Tok.cC)/\bq st.env 2= .fn (.func 58) [] []/\st.mem= {ε:=m.ε,η:=[]};refine χ (K) (by simp[K,bn]) fun s1 ⟨h1,h2,h3,h4⟩=>?_;refine χ (K) (by simp[K,h1,h2,h3,h4]) fun s1 ⟨h1,h2,h3,h4⟩=>?_;refine aZ (K) ?_ fun s1 ⟨h1,h2,h3,h4⟩=>by simp[h4]
 let J:Nat->St->Prop:=fun i st=>K st/\bq st.env 15= .list c (l.map Tok.cC)/\bq st.env 16= .int .i64 l.length/\bq st.env 17= .int .i64 i;refine χ (J 0) (by simp[J,K,h1,h2,h3,h4]) fun s1 hJ=>?_;refine κ.block (κ.upto (I:=J) l.length hJ (fun i st ν τ=>?_) (fun st τ=>?_))
 ·obtain⟨⟨h1,h2,h3,h4⟩,q1,q2,q3⟩:=τ;have ej:IntKind.wrap .i64 ((i:Int)+1)=(i:Int)+1:=wrap_i64 (by omega) (by omega);have Uq:=fun m=>f58 (u:=u) l[i] m;simp only[Tok.cC]at Uq;simp[L_,J,K,h1,h2,h3,h4,q1,q2,q3,ν,ej,Uq,Tok.cC]
 ·obtain⟨⟨h1,h2,h3,h4⟩,q1,q2,q3⟩:=τ;simp[L_,J,K,h1,h2,h3,h4,q1,q2,q3]
theorem f39(s:List Nat)(hs:dJ s)(hl:s.length<1000000000)(m:Mem):kf u 39 [.str s] m=some (.aO [.agg [.list (Ξ (cN s).1.1) ((cN s).1.1.map ω.av)],.int .i64 (cN s).2.1,.int .i64 (cN s).2.2],m):=by obtain⟨-,Θ,-⟩:=f54 (u:=u) s hs hl m;have Ue:=fun m=>f124 (u:=u) s hs hl m;simp only[yO]at Ue;have hp:=Dv.list (Ξ (cN s).1.1) (TX _ Θ);rw[fu (ib _)]at hp;have hv:Dv (.aO [.agg [.list (Ξ (cN s).1.1) ((cN s).1.1.map ω.av)],.int .i64 (cN s).2.1,.int .i64 (cN s).2.2]) (.aO [.agg [.list (Ξ (cN s).1.1) ((cN s).1.1.map ω.av)],.int .i64 (cN s).2.1,.int .i64 (cN s).2.2]):= .aO (.cons (.agg (.cons hp .nil)) (.cons (.int _ _) (.cons (.int _ _) .nil)));refine bz (g:=Gu) rfl rfl rfl ?_;simp only[ah,aw,exp,Gu,Pu];refine χ (fun st=>bq st.env 0= .str s/\bq st.env 2= .Ω 2 0 0/\bT st.loc 2=some (0,.cells [.list .nil []])/\bT st.loc 5=none/\st.mem= {ε:=m.ε,η:=[]}) (by simp[aQ]) fun s1 ⟨h1,h2,h3,h4,h5⟩=>?_;simp[h1,h2,h3,h4,h5,Ue,aQ];exact hv.ax _ _ _
theorem Us(s:List Nat):(cN s).2.2=0->kG (cN s).1.1=0/\wU (cN s).1.1=(cN s).1.1/\kR (cN s).1.1<1000000000/\(cN s).2.1=0:=by
 unfold cN;split
 ·intro h;exact absurd h (by decide)
 ·rename_i ma;split
  ·intro h;exact absurd (show(4:Int)=0 from h) (by decide)
  ·rename_i x t hx;split
   ·rename_i hc;intro _;have:=Nr hx;have:=Im s;exact⟨hc,ae_ hx,by dsimp only;omega,rfl⟩
   ·rename_i hc;intro h;exact absurd h hc
theorem afq(s:List Nat):(cN s).2.2≠0->(cN s).1=([],[]):=by
 unfold cN;split
 ·intro _;rfl
 ·split
  ·intro _;rfl
  ·split
   ·intro h;exact absurd rfl h
   ·intro _;rfl
def Ik(s:List Nat):List Nat:=if(cN s).2.2=0 then gu (cN s).1.1 else[]
theorem f56(s:List Nat)(hs:dJ s)(hl:s.length<1000000000)(m:Mem):kf u 56 [.str s] m=some (.aO [.str (Ik s),.int .i64 (cN s).2.1,.int .i64 (cN s).2.2],m):=by
 obtain⟨-,Θ,-⟩:=f54 (u:=u) s hs hl m;have tZ:=fun m=>f39 (u:=u) s hs hl m;have hf:=Us s;have hz:∀bs n (a:List Nat) (i j:Int),ax bs n 8 (.aO [.str a,.int .i64 i,.int .i64 j])= .aO [.str a,.int .i64 i,.int .i64 j]:=fun _ _ _ _ _=>rfl;refine bz (g:=Gy) rfl rfl rfl ?_;simp only[ah,aw,exp,Gy,Px];unfold Ik;refine χ (fun st=>bq st.env 0= .str s/\bT st.loc 5=none/\st.mem= {ε:=m.ε,η:=[]}) (by simp) fun s1 ⟨h1,h2,h3⟩=>?_;by_cases he:(cN s).2.2=0
 ·obtain⟨hc,-,hw,h0⟩:=hf he;have Ul:=fun m=>f25 (u:=u) (Ξ (cN s).1.1) (ib _) _ Θ hw m;simp only[ML,hc,if_true,dA]at Ul;rw[if_pos he,h0,he];rw[h0,he]at tZ;simp[h1,h2,h3,tZ,Ul,aQ,hz]
 ·have gW:((cN s).2.2 !=0)=true:=by simpa using he
  rw[if_neg he];simp[h1,h2,h3,tZ,aQ,gW,hz]
end Go.ab.Tz
