import Derived.Test.YtiigojkfojnedaaGreatDoorPHi
set_option linter.unusedVariables false
set_option linter.unusedSimpArgs false
set_option linter.unusedSectionVars false
set_option maxRecDepth 100000
set_option maxHeartbeats 8000000
open List renaming map_cons->ah,mem_cons->dX,nodup_cons->xd,mem_map->jv,getElem?_eq_none->iU,getElem?_append_left->eg,cons_append->eK,nil_append->cO,append_nil->dx,map_nil->aw,getElem_mem->cz,findIdx?_eq_some_iff_getElem->tf,findIdx?_eq_none_iff->vt
open Nat renaming lt_or_ge->bP
open Go.IntKind renaming wrap->aT
namespace Go.ab.Tz
open Go.ab
variable{u:Nat}
attribute [local simp] exec eG eu fz aF d_ fQ fe bq gN bT gF gS hU hZ AV.cells newVar hH rd wr gg single fy bF er dL κ bf RV.get ba dU jy
def bK(x:aI):AV×AV:=(.str x.name,.agg [.n x.w,.n x.d])
def iS:List aI->List Nat->Int->Int->List aI
 |[],s,w,d=>[⟨s,w,d⟩]
 |x::l,s,w,d=>if x.name=s then⟨s,w,d⟩::l else x::iS l s w d
def nQ:List aI->List Nat->List aI
 |[],_=>[]
 |x::l,s=>if x.name=s then l else x::nQ l s
theorem adw(es:List aI)(s:List Nat):(jo (.str s) (es.map bK)=some none/\dP es s=⟨[],0,0⟩/\¬∃y∈es,y.name=s)\/∃w d,jo (.str s) (es.map bK)=some (some (.agg [.n w,.n d]))/\dP es s=⟨s,w,d⟩/\⟨s,w,d⟩∈es:=by
 induction es with
 |nil=>exact .inl ⟨rfl,rfl,by simp⟩
 |cons a l ih=>
  obtain⟨nn,w,d⟩:=a
  by_cases h:nn=s
  ·subst h;exact .inr ⟨w,d,by simp[jo,bK,jF],by simp[dP],by simp⟩
  ·have aj:¬s=nn:=Ne.symm h;rcases ih with⟨h1,h2,h3⟩|⟨w',d',h1,h2,h3⟩
   ·exact .inl ⟨by simpa[jo,bK,jF,aj]using h1,by simp[dP,h,h2],by simpa[h]using h3⟩
   ·exact .inr ⟨w',d',by simpa[jo,bK,jF,aj]using h1,by simp[dP,h,h2],by simp[h3]⟩
theorem HP(es:List aI)(s:List Nat)(w d:Int):tP (.str s) (.agg [.n w,.n d]) (es.map bK)=some ((iS es s w d).map bK):=by
 induction es with
 |nil=>rfl
 |cons a l ih=>
  by_cases h:a.name=s
  ·have h':s=a.name:=h.symm;simp[tP,bK,jF,iS,h]
  ·have aj:¬s=a.name:=Ne.symm h;simp only[ah,tP,bK,jF,aj,decide_false,iS,h,if_false]at ih⊢;rw[ih];rfl
theorem adE(es:List aI)(s:List Nat):wI (.str s) (es.map bK)=some ((nQ es s).map bK):=by
 induction es with
 |nil=>rfl
 |cons a l ih=>
  by_cases h:a.name=s
  ·simp[wI,bK,jF,nQ,h]
  ·have aj:¬s=a.name:=Ne.symm h;have Sb:wI (.str s) (l.map bK)=some ((nQ l s).map bK):=ih;simp only[ah,wI,jF,bK,aj,decide_false,nQ,h,if_false];have e:(l.map fun x=>(AV.str x.name,AV.agg [.n x.w,.n x.d]))=l.map bK:=rfl
   first|rw[Sb]|(rw[e,Sb])
   rfl
theorem XS(es:List aI)(s:List Nat)(w d:Int)(t:List Nat):dP (iS es s w d) t=if t=s then⟨s,w,d⟩else dP es t:=by
 induction es with
 |nil=>
  by_cases h:t=s
  ·subst h;simp[iS,dP]
  ·simp[iS,dP,h,Ne.symm h]
 |cons a l ih=>
  by_cases h:a.name=s
  ·by_cases h2:t=s
   ·subst h2;simp[iS,dP,h]
   ·have:¬a.name=t:=fun he=>h2 (he.symm.trans h);simp[iS,dP,h,h2,Ne.symm h2,this]
  ·by_cases h2:t=s
   ·subst h2;simp[iS,dP,h,ih]
   ·simp only[iS,h,if_false,dP,ih,h2]
theorem MN{es:List aI}{s:List Nat}{w d:Int}{x:aI}(h:x∈iS es s w d):x=⟨s,w,d⟩\/x∈es:=by
 induction es with
 |nil=>simp[iS]at h;exact .inl h
 |cons a l ih=>
  simp only[iS]at h
  split at h
  ·rcases dX.1 h with h|h
   ·exact .inl h
   ·exact .inr (by simp[h])
  ·rcases dX.1 h with h|h
   ·exact .inr (by simp[h])
   ·rcases ih h with h|h
    ·exact .inl h
    ·exact .inr (by simp[h])
theorem Jp{es:List aI}{s:List Nat}{x:aI}(h:x∈nQ es s):x∈es:=by
 induction es with
 |nil=>cases h
 |cons a l ih=>
  simp only[nQ]at h
  split at h
  ·simp[h]
  ·rcases dX.1 h with h|h
   ·simp[h]
   ·simp[ih h]
theorem aff{es:List aI}{s:List Nat}{w d:Int}(h:(es.map aI.name).Nodup):((iS es s w d).map aI.name).Nodup:=by
 induction es with
 |nil=>simp[iS]
 |cons a l ih=>
  rw[ah,xd]at h
  simp only[iS];split
  ·rename_i he;rw[ah,xd];exact⟨by rw[<-he];exact h.1,h.2⟩
  ·rename_i aj;rw[ah,xd];refine⟨fun hm=>?_,ih h.2⟩;obtain⟨x,hx,he⟩:=jv.1 hm;rcases MN hx with rfl|hx
   ·exact aj he.symm
   ·exact h.1 (jv.2 ⟨x,hx,he⟩)
theorem Xa{es:List aI}{s:List Nat}(h:(es.map aI.name).Nodup):((nQ es s).map aI.name).Nodup:=by
 induction es with
 |nil=>simp[nQ]
 |cons a l ih=>
  rw[ah,xd]at h
  simp only[nQ];split
  ·exact h.2
  ·rw[ah,xd];refine⟨fun hm=>?_,ih h.2⟩;obtain⟨x,hx,he⟩:=jv.1 hm;exact h.1 (jv.2 ⟨x,Jp hx,he⟩)
theorem XP{es:List aI}(s:List Nat)(h:(es.map aI.name).Nodup)(t:List Nat):dP (nQ es s) t=if t=s then⟨[],0,0⟩else dP es t:=by
 induction es with
 |nil=>simp[nQ,dP]
 |cons a l ih=>
  rw[ah,xd]at h
  simp only[nQ];by_cases he:a.name=s
  ·simp only[he,if_true];by_cases h2:t=s
   ·subst h2;simp only[if_true];refine Qo ?_
    rintro⟨y,hy,uY⟩
    exact h.1 (jv.2 ⟨y,hy,uY.trans he.symm⟩)
   ·simp only[h2,if_false,dP,he,Ne.symm h2]
  ·simp only[he,if_false,dP,ih h.2];by_cases h2:t=s
   ·subst h2;simp[he]
   ·simp[h2]
def jY(n:aI)(b:Int):lB:=if n.w=1 then .nG (decide (n.d=b))else if n.w=2 then .bit else if n.w=3 then .Ds else .none
structure fF (es:List aI) (b nb:Int) (L:bw):Prop where
 look:∀s,L s=jY (dP es s) b
 ws:∀x∈es,1<=x.w/\x.w<=3
 ds:∀x∈es,x.d<nb
 nd:(es.map aI.name).Nodup
theorem fF.empty(b nb:Int):fF [] b nb j_:=⟨fun _=>rfl,fun _ h=>(by cases h),fun _ h=>(by cases h),by simp⟩
theorem fF.mono{es:List aI}{b nb ey:Int}{L:bw}(h:fF es b nb L)(hb:nb<=ey):fF es b ey L:=⟨h.look,h.ws,fun x hx=>by have:=h.ds x hx;omega,h.nd⟩
theorem fF.put{es:List aI}{b nb:Int}{L:bw}(h:fF es b nb L)(s:List Nat)(w d:Int)(hw:1<=w/\w<=3)(hd:d<nb):fF (iS es s w d) b nb (L.put s (jY ⟨s,w,d⟩ b)):=by
 refine⟨fun t=>?_,fun x hx=>?_,fun x hx=>?_,aff h.nd⟩
 ·rw[XS];simp only[bw.put];by_cases ht:t=s
  ·simp[ht]
  ·simp[ht,h.look t]
 ·rcases MN hx with rfl|hx
  ·exact hw
  ·exact h.ws x hx
 ·rcases MN hx with rfl|hx
  ·exact hd
  ·exact h.ds x hx
theorem fF.del{es:List aI}{b nb:Int}{L:bw}(h:fF es b nb L)(s:List Nat):fF (nQ es s) b nb (L.put s .none):=by
 refine⟨fun t=>?_,fun x hx=>h.ws x (Jp hx),fun x hx=>h.ds x (Jp hx),Xa h.nd⟩;rw[XP s h.nd];simp only[bw.put];by_cases ht:t=s
 ·simp[ht,jY]
 ·simp[ht,h.look t]
theorem fF.inner{es:List aI}{b nb:Int}{L:bw}(h:fF es b nb L):fF es nb (nb+1) L.inner:=by
 refine⟨fun t=>?_,h.ws,fun x hx=>by have:=h.ds x hx;omega,h.nd⟩;simp only[bw.inner,h.look t];rcases zt es t with h1|⟨h1,_⟩
 ·simp[h1,jY]
 ·have hd:=h.ds _ h1;have aj:¬(dP es t).d=nb:=by omega
  unfold jY
  (repeat' split)<;>simp_all
theorem AG{es:List aI}{b nb:Int}{L:bw}(h:fF es b nb L)(s:List Nat):
  (jo (.str s) (es.map bK)=some none/\L s= .none)\/∃w d,jo (.str s) (es.map bK)=some (some (.agg [.n w,.n d]))/\(w=1\/w=2\/w=3)/\L s=jY ⟨s,w,d⟩ b:=by
 have hl:=h.look s;rcases adw es s with⟨h1,h2,_⟩|⟨w,d,h1,h2,h3⟩
 ·rw[h2]at hl;exact .inl ⟨h1,hl⟩
 ·rw[h2]at hl;have:=h.ws _ h3;dsimp only at this;exact .inr ⟨w,d,h1,by omega,hl⟩
def eC(id:Nat)(b:Int):AV:= .agg [.map id,.n b]
theorem f298{B:List θ}{id:Nat}{es:List aI}{b nb:Int}{L:bw}(hid:B[id]?=some (.map (es.map bK)))(hs:fF es b nb L)(s:List Nat):lu u B (.fn (.func 298) [eC id b] []) [.str s] (.bool (cT L s)):=by
 intro ext T;have ν:id<B.length:=by
  rcases bP id B.length with h|h
  ·exact h
  ·rw[iU h]at hid;cases hid
 have dE:id<(B++ext).length:=by simp;omega
 have iP:(B++ext)[id]?=some (.map (es.map bK)):=by rw[eg ν];exact hid
 refine rY (g:=Gr) rfl rfl rfl ?_;simp only[eC,eK,cO,dx,ah,aw,exp,bn,dE,if_true,Gr,Pr];generalize B++ext=BB at*;rcases AG hs s with⟨h1,h2⟩|⟨w,d,h1,hw,h2⟩
 ·simp[iP,isKey,h1,cT,h2]
 ·simp only[cT,h2];rcases hw with rfl|rfl|rfl<;>simp[iP,isKey,h1,jY]
theorem f275{B:List θ}{id:Nat}{es:List aI}{b nb:Int}{L:bw}(hid:B[id]?=some (.map (es.map bK)))(hs:fF es b nb L)(x:ζ)(Θ:x.Ok)(qo:x.lz)(lI:x.cnt<1000000000000)(fst args:List AV)(Ky:fst++args=[eC id b,x.av]):
  lu u B (.fn (.func 275) fst []) args (.n (x.err (cT L) 1)):=by
 intro ext T;have ν:id<B.length:=by
  rcases bP id B.length with h|h
  ·exact h
  ·rw[iU h]at hid;cases hid
 have dE:id<(B++ext).length:=by simp;omega
 have sx:Fix B.length (.fn (.func 298) [eC id b] []):=by
  intro k bb hk;have:id<k:=by omega
  simp[exp,bn,Fn.below,eC,this]
 have J5:=f112 (u:=u) (B:=B) 1 sx (by simp[eC,ρ,cL]) rfl (fun s _=>f298 hid hs s) x Θ qo lI ext [];refine rY (g:=Gd) rfl rfl rfl ?_;rw[Ky];simp only[dx,ah,aw,ζ.dH _ _ _ Θ];simp only[eC,exp,bn,dE,if_true,Gd,Pg];simp only[eC]at J5;generalize B++ext=BB at*;generalize x.err (cT L) 1=xe at*;obtain⟨k,n,s,c,l⟩:=x;simp only[ζ.av]at J5⊢;simp[J5]
theorem f274{B:List θ}{id:Nat}{es:List aI}{b nb:Int}{L:bw}(hid:B[id]?=some (.map (es.map bK)))(hs:fF es b nb L)(p:φ)(Θ:p.Ok)(hw:p.wt<1000000000000)(fst args:List AV)(Ky:fst++args=[eC id b,p.av]):
  lu u B (.fn (.func 274) fst []) args (.n (cx L p)):=by
 intro ext T;have ν:id<B.length:=by
  rcases bP id B.length with h|h
  ·exact h
  ·rw[iU h]at hid;cases hid
 have dE:id<(B++ext).length:=by simp;omega
 have iP:(B++ext)[id]?=some (.map (es.map bK)):=by rw[eg ν];exact hid
 have sx:Fix B.length (.fn (.func 275) [eC id b] []):=by
  intro k bb hk;have:id<k:=by omega
  simp[exp,bn,Fn.below,eC,this]
 have cD:=MG p;have aal:ζ.cW p.ix:=by
  have:∀l:List ζ,(∀x∈l,x.eD)->ζ.cW l:=by
   intro l;induction l with
   |nil=>intro _;trivial
   |cons a l ih=>exact fun h=>⟨(h a (by simp)).1,ih fun x hx=>h x (by simp[hx])⟩
  exact this _ Θ.2.2
 have QO:=f177 (u:=u) (B:=B) (F:=ζ.err (cT L) 1) sx p.c Θ.2.1 p.ix aal (by omega) (fun x hx=>f275 hid hs x (Θ.2.2 x hx).1 (Θ.2.2 x hx).2 (by have:=ζ.vG hx;simp only[φ.wt]at hw;omega) [eC id b] [x.av] rfl) ext [];have Kj:p.av= .agg [.str p.name,.list p.c (ζ.ψ p.ix)]:=by simp[φ.av,ζ.dZ]
 refine rY (g:=Gc) rfl rfl rfl ?_;rw[Ky];simp only[dx,ah,aw,φ.dH _ _ _ Θ];rw[Kj];simp only[eC,exp,bn,dE,if_true,Gc,Pf];simp only[eC]at QO;generalize B++ext=BB at*;unfold cx;generalize first (ζ.err (cT L) 1) p.ix=pe at*
 have KT:∀q:Prop,(2:Int)<(p.ix.length:Int)↔2<p.ix.length:=fun _=>by omega
 rcases AG hs p.name with⟨h1,h2⟩|⟨w,d,h1,iz,h2⟩
 ·simp[iP,isKey,h1,h2,lB.n4]
 ·rw[h2];rcases iz with rfl|rfl|rfl
  ·by_cases Rv:2<p.ix.length
   ·have:(2:Int)<(p.ix.length:Int):=by omega
    simp[iP,isKey,h1,jY,lB.n4,iX,Rv,this]
   ·have:¬(2:Int)<(p.ix.length:Int):=by omega
    simp[iP,isKey,h1,jY,lB.n4,iX,Rv,this,QO]
  ·simp[iP,isKey,h1,jY,lB.n4]
  ·simp[iP,isKey,h1,jY,lB.n4]
theorem f191{B:List θ}{id:Nat}{es:List aI}{b nb:Int}{L:bw}(hid:B[id]?=some (.map (es.map bK)))(hs:fF es b nb L)(s:List Nat)(qo:dJ s):lu u B (.fn (.func 191) [] []) [eC id b,.str s] (.n (ek L s)):=by
 intro ext T;have ν:id<B.length:=by
  rcases bP id B.length with h|h
  ·exact h
  ·rw[iU h]at hid;cases hid
 have dE:id<(B++ext).length:=by simp;omega
 have iP:(B++ext)[id]?=some (.map (es.map bK)):=by rw[eg ν];exact hid
 have qQ:=fun m=>f113 (u:=u) s qo m;refine bz (g:=Fm) rfl rfl rfl ?_;simp only[eC,ah,aw,exp,bn,dE,if_true,Fm,OG];generalize B++ext=BB at*;unfold ek;cases hn:jZ s with
 |false=>rw[hn]at qQ;simp[qQ]
 |true=>
  rw[hn]at qQ
  rcases AG hs s with⟨h1,h2⟩|⟨w,d,h1,iz,h2⟩
  ·simp[iP,isKey,h1,h2,qQ,cX,kq]
  ·rw[h2];rcases iz with rfl|rfl|rfl<;>simp[iP,isKey,h1,qQ,cX,kq,jY]
theorem f273{B:List θ}{fv:AV}{F:φ->Int}(hf:Fix B.length fv)(c:Γ)(hc:aJ c)(l:List φ)(hl:∀p∈l,p.Ok)(hlen:l.length<1000000000000)
  (h:∀x∈l,lu u B fv [x.av] (.n (F x))):lu u B (.fn (.func 273) [] []) [.list c (l.map φ.av),fv] (.n (first F l)):=by
 intro ext T;refine bz (g:=Gb) rfl rfl rfl ?_;simp only[ah,aw,HX hc hl,hf _ false (show B.length<=(B++ext).length by simp),Gb,Pe];let K:St->Prop:=fun st=>st.e 1=fv/\st.mem= {ε:=B++ext,η:=[]};refine χ (fun st=>K st/\st.e 0= .list c (l.map φ.av)) (by simp[K]) fun s1 ⟨⟨h1,h2⟩,h3⟩=>?_;refine aZ (fun st=>K st/\first F l=0) ?_ fun s2 ⟨⟨h1,h2⟩,h3⟩=>by simp[h1,h2,h3]
 let I:Nat->St->Prop:=fun i st=>K st/\st.e 8= .list c (l.map φ.av)/\st.e 9= .n l.length/\st.e 10= .n i/\∀j (hj:j<l.length),j<i->F l[j]=0;refine χ (I 0) (by simp[I,K,h1,h2,h3]) fun s4 hI=>?_;refine κ.block (κ.loop (I:=I) l.length hI fun i st hi τ=>?_);obtain⟨⟨h1,h2⟩,q1,q2,q3,q4⟩:=τ;rcases bP i l.length with ν|cD
 ·have hw:aT .i64 ((i:Int)+1)=(i:Int)+1:=wrap_i64 (by omega) (by omega);have hx:=h _ (cz ν) ext [];simp only[φ.av]at hx;by_cases hz:F l[i]=0
  ·left;refine⟨ν,?_⟩;rw[hz]at hx;have q5:=tw (P:=fun j=>∀hj:j<l.length,F l[j]=0) (n:=l.length) (fun j a b c=>q4 j c b) (fun _=>hz);simp[I,K,HC,h1,h2,q1,q2,q3,ν,φ.av,hx,hw];exact fun j hj jD=>q5 j hj jD hj
  ·right;have p_:=zw ν q4 hz;rw[p_];have e1:=bne_true hz;simp[K,HC,h1,h2,q1,q2,q3,ν,φ.av,hx,e1]
 ·right;have:i=l.length:=by omega
  subst this;have hz:=zu (f:=F) fun j hj=>q4 j hj hj;simp[K,HC,h1,h2,q1,q2,q3,hz]
theorem f272(g:Int)(hg:1<=g/\g<=12)(m:Mem):kf u 272 [.n g] m=some (.n (gT g),m):=by
 refine bz (g:=zI) rfl rfl rfl ?_;by_cases h1:g=12
 ·subst h1;simp[zI,DZ,exp,gT]
 by_cases h2:9<=g
 ·have:¬g<=8:=by omega
  have:g<=11:=by omega
  simp[zI,DZ,exp,gT,dR h1, *]
 ·have:g<=8:=by omega
  simp[zI,DZ,exp,gT,dR h1, *]
def yq(q:ω->Bool)(l:List ω):Int:=match l.findIdx? q with
 |none=> -1
 |some i=>i
theorem f66{B:List θ}{fv:AV}{q:ω->Bool}(hf:Fix B.length fv)(c:Γ)(hc:aJ c)(l:List ω)(hl:∀p∈l,p.Ok)(hlen:l.length<1000000000000)
  (h:∀x∈l,lu u B fv [x.av] (.bool (q x))):lu u B (.fn (.func 66) [] []) [.list c (l.map ω.av),fv] (.n (yq q l)):=by
 intro ext T;refine bz (g:=GC) rfl rfl rfl ?_;simp only[ah,aw,JL hc hl,hf _ false (show B.length<=(B++ext).length by simp),GC,PB];let K:St->Prop:=fun st=>st.e 0= .list c (l.map ω.av)/\st.e 1=fv/\st.mem= {ε:=B++ext,η:=[]};refine χ (K) (by simp[K]) fun s1 ⟨h1,h2,h3⟩=>?_;refine aZ (fun st=>K st/\yq q l= -1) ?_ fun s2 ⟨⟨h1,h2,h3⟩,h4⟩=>by simp[h3,h4]
 let I:Nat->St->Prop:=fun i st=>K st/\st.e 7= .n l.length/\st.e 8= .n i/\∀j (hj:j<l.length),j<i->q l[j]=false;refine χ (I 0) (by simp[I,K,h1,h2,h3]) fun s4 hI=>?_;refine κ.block (κ.loop (I:=I) l.length hI fun i st hi τ=>?_);obtain⟨⟨h1,h2,h3⟩,q1,q2,q4⟩:=τ;rcases bP i l.length with ν|cD
 ·have hw:aT .i64 ((i:Int)+1)=(i:Int)+1:=wrap_i64 (by omega) (by omega);have hx:=h _ (cz ν) ext [];simp only[ω.av]at hx;cases hz:q l[i]with
  |false=>
   left
   refine⟨ν,?_⟩;rw[hz]at hx;have q5:=tw (P:=fun j=>∀hj:j<l.length,q l[j]=false) (n:=l.length) (fun j a b c=>q4 j c b) (fun _=>hz);simp[I,K,HD,h1,h2,h3,q1,q2,ν,ω.av,hx,hw];exact fun j hj jD=>q5 j hj jD hj
  |true=>
   right
   rw[hz]at hx;have hi:yq q l=i:=by
    have:l.findIdx? q=some i:=by rw[tf];exact⟨ν,hz,fun j hj=>by simp[q4 j (by omega) hj]⟩
    simp[yq,this]
   simp[K,HD,h1,h2,h3,q1,q2,ν,ω.av,hx,hi]
 ·right;have:i=l.length:=by omega
  subst this;have hi:yq q l= -1:=by
   have:l.findIdx? q=none:=by rw[vt];intro x hx;obtain⟨j,hj,rfl⟩:=List.getElem_of_mem hx;exact q4 j hj hj
   simp[yq,this]
  simp[K,HD,h1,h2,h3,q1,q2,hi]
theorem f189{B:List θ}{fv:AV}{q:ω->Bool}(hf:Fix B.length fv)(c:Γ)(hc:aJ c)(l:List ω)(hl:∀p∈l,p.Ok)(hlen:l.length<1000000000000)
  (h:∀x∈l,lu u B fv [x.av] (.bool (q x))):lu u B (.fn (.func 189) [] []) [.list c (l.map ω.av),fv] (.bool (l.any q)):=by
 intro ext T;have hx:=f66 (u:=u) hf c hc l hl hlen h ext [];refine bz (g:=Fk) rfl rfl rfl ?_;simp only[ah,aw,JL hc hl,hf _ false (show B.length<=(B++ext).length by simp),Fk,OD];unfold yq at hx;cases zV:l.findIdx? q with
 |none=>
  rw[zV]at hx
  have ha:l.any q=false:=by rw[vt]at zV;rw[List.any_eq_false];intro x hx;simp[zV x hx]
  rw[ha];simp[hx]
 |some i=>
  rw[zV]at hx
  have ha:l.any q=true:=by rw[tf]at zV;obtain⟨h1,h2,_⟩:=zV;rw[List.any_eq_true];exact⟨_,cz h1,h2⟩
  rw[ha];have:(0:Int)<=(i:Int):=by omega
  simp[hx,this]
theorem f276{B:List θ}{n:Nat}(x:δ)(hn:B[n]?=some (.cells x.cells))(p:ω)(hp:p.Ok):lu u B (.fn (.func 276) [] [.μ n 0]) [p.av] (.bool (p.name==x.name)):=by
 intro ext T;have ν:n<B.length:=by
  rcases bP n B.length with h|h
  ·exact h
  ·rw[iU h]at hn;cases hn
 have dE:n<(B++ext).length:=by simp;omega
 have q_:(B++ext)[n]?=some (.cells x.cells):=by rw[eg ν];exact hn
 refine rY (g:=Ge) rfl rfl rfl ?_;simp only[cO,eK,ah,aw,ω.dH _ _ _ hp];simp only[exp,dE,if_true,Ge,Ph];have k2:=lY x;have kl:=δ.i_ x;have hb:(p.name==x.name)=decide (p.name=x.name):=by cases h:p.name==x.name<;>simp_all
 simp[ω.av,q_,k2,kl,hb]
theorem f190{B:List θ}{n:Nat}(nm:List Nat)(r:List AV)(hn:B[n]?=some (.cells (.str nm::r)))(p:ω)(hp:p.Ok):lu u B (.fn (.func 190) [] [.μ n 0]) [p.av] (.bool (p.name==nm)):=by
 intro ext T;have ν:n<B.length:=by
  rcases bP n B.length with h|h
  ·exact h
  ·rw[iU h]at hn;cases hn
 have dE:n<(B++ext).length:=by simp;omega
 have q_:(B++ext)[n]?=some (.cells (.str nm::r)):=by rw[eg ν];exact hn
 refine rY (g:=Fl) rfl rfl rfl ?_;simp only[cO,eK,ah,aw,ω.dH _ _ _ hp];simp only[exp,dE,if_true,Fl,OF];have hb:(p.name==nm)=decide (p.name=nm):=by cases h:p.name==nm<;>simp_all
 simp[ω.av,q_,hb]
def _root_.Go.ab.δ.gate:δ->Int
 | .mk _ g _ _ _ _ _ _ _ _ _=>g
def _root_.Go.ab.δ.cp:δ->Γ
 | .mk _ _ _ c _ _ _ _ _ _ _=>c
def _root_.Go.ab.δ.pl:δ->List φ
 | .mk _ _ _ _ l _ _ _ _ _ _=>l
def _root_.Go.ab.δ.size:δ->ζ
 | .mk _ _ _ _ _ x _ _ _ _ _=>x
def _root_.Go.ab.δ.to:δ->ζ
 | .mk _ _ _ _ _ _ x _ _ _ _=>x
theorem ot(x:δ):x.cells.tail.take 1=[.n x.gate]:=by cases x;rfl
theorem ou(x:δ):(x.cells.drop 3).take 1=[.list x.cp (x.pl.map φ.av)]:=by cases x;rfl
theorem nO(x:δ):(x.cells.drop 4).take 4=x.size.four:=by obtain⟨k,g,nm,cp,pl,⟨k1,n1,s1,c1,l1⟩,⟨k2,n2,s2,c2,l2⟩,cb,body,ce,aA⟩:=x;rfl
theorem ov(x:δ):(x.cells.drop 8).take 4=x.to.four:=by obtain⟨k,g,nm,cp,pl,⟨k1,n1,s1,c1,l1⟩,⟨k2,n2,s2,c2,l2⟩,cb,body,ce,aA⟩:=x;rfl
theorem qD(ps:List ω)(own:Nat)(L:bw)(x:δ):c8 ps own L x=
  if x.kind=1 then(if x.gate<1\/12<x.gate then 3 else if x.pl.length≠gT x.gate then 2 else first (cx L) x.pl)
  else if x.kind=2\/x.kind=4 then(if ek L x.name≠0 then ek L x.name else x.size.err (cT L) 1)
  else if x.kind=8 then(if ek L x.name≠0 then ek L x.name else if x.size.err (cT L) 1≠0 then x.size.err (cT L) 1 else x.to.err (cT L) 1)
  else if x.kind=3 then(match L x.name with
   | .nG true=>0
   | .nG false=>7
   |_=>1)
  else if x.kind=5 then(match x.pl with
   |[p]=>if cx L p≠0 then cx L p else if L x.name= .bit then 0 else ek L x.name
   |_=>2)
  else if x.kind=6 then(match x.pl with
   |[p]=>cx L p
   |_=>2)
  else if x.kind=7 then(if L x.name= .bit then 0 else 1)
  else if x.kind=9 then(match ob ps x.name with
   |none=>1
   |some n=>if own<=n then 15 else match ps[n]? with
    |some q=>if x.pl.length≠q.ay.length then 2 else first (cx L) x.pl
    |none=>1)
  else if x.kind=10\/x.kind=11 then 0 else 3:=by cases x;rfl
def _root_.Go.ab.AC.snd:AC->AC
 | .seq _ b=>b
 |_=> .skip
def End(g:AF)(BB:List θ)(v:AV)(r:Ex×St):Prop:=(∀i,r.1≠ .exit i)/\(∃bs,r.2.mem= {ε:=BB++bs,η:=[]})/\∃l,bf r.2 g.results=some l/\ax r.2.mem.ε BB.length 8 (ba l)=v
section
variable{BB:List θ}{ck id:Nat}{aN:Γ}{ps:List ω}{own:Nat}{b nb:Int}{es:List aI}{L:bw}{x:δ}{s1:St}
variable(h1:s1.e 0= .μ ck 0)(h2:s1.e 4= .Ω 4 0 0)(h3:s1.q 4=some (0,.cells [.map id,.n b]))(h4:s1.e 5= .μ BB.length 0)(h5:s1.mem= {ε:=BB++[.cells x.cells],η:=[]})
 (hid:(BB++[.cells x.cells])[id]?=some (.map (es.map bK))) (c_:(BB++[.cells x.cells])[ck]?=some (.cells [.list aN (ps.map ω.av),.n own,.n nb])) (dQ:(BB++[.cells x.cells])[BB.length]?=some (.cells x.cells)) (hs:fF es b nb L)
 (iK:∀T,kf u 191 [.agg [.map id,.n b],.str x.name] {ε:=BB++[.cells x.cells],η:=T}=some (.n (ek L x.name),{ε:=BB++[.cells x.cells],η:=T}))
 (mK:∀T,kf u 275 [.agg [.map id,.n b],.agg x.size.four] {ε:=BB++[.cells x.cells],η:=T}=some (.n (x.size.err (cT L) 1),{ε:=BB++[.cells x.cells],η:=T}))
 (oA:∀T,kf u 275 [.agg [.map id,.n b],.agg x.to.four] {ε:=BB++[.cells x.cells],η:=T}=some (.n (x.to.err (cT L) 1),{ε:=BB++[.cells x.cells],η:=T}))
 (pb:∀p∈x.pl,∀T,kf u 274 [.agg [.map id,.n b],p.av] {ε:=BB++[.cells x.cells],η:=T}=some (.n (cx L p),{ε:=BB++[.cells x.cells],η:=T}))
 (pa:∀T,kf u 273 [.list x.cp (x.pl.map φ.av),.fn (.func 274) [.agg [.map id,.n b]] []] {ε:=BB++[.cells x.cells],η:=T}=some (.n (first (cx L) x.pl),{ε:=BB++[.cells x.cells],η:=T}))
 (mL:∀T,kf u 66 [.list aN (ps.map ω.av),.fn (.func 276) [] [.μ BB.length 0]] {ε:=BB++[.cells x.cells],η:=T}=some (.n (pG ps x.name),{ε:=BB++[.cells x.cells],η:=T}))
 (q0:x.cells.take 1=[.n x.kind]) (q1:x.cells.tail.take 1=[.n x.gate]) (q2:(x.cells.drop 2).take 1=[.str x.name]) (q3:(x.cells.drop 3).take 1=[.list x.cp (x.pl.map φ.av)]) (q4:(x.cells.drop 4).take 4=x.size.four) (q8:(x.cells.drop 8).take 4=x.to.four) (kl:x.cells.length=14)
include h1 h2 h3 h4 h5 hid c_ dQ hs iK mK oA pb pa mL q0 q1 q2 q3 q4 q8 kl
theorem afX(hk:x.kind=1):κ (C u).gl (aS (C u)) c232.snd s1 (End dC BB (.n (c8 ps own L x))):=by
 obtain⟨v,hv⟩:∃v,v=c8 ps own L x:=⟨_,rfl⟩;rw[<-hv];rw[qD]at hv;simp only[hk,if_true]at hv;rw[hk]at q0;generalize first (cx L) x.pl=pe at*
 by_cases hg:x.gate<1\/12<x.gate
 ·rw[if_pos hg]at hv;rcases hg with hg|hg
  ·simp[c232,AC.snd,End,dC,h1,h2,h3,h4,h5,dQ,kl,q0,hv,q1,hg]
  ·have:¬x.gate<1:=by omega
   simp[c232,AC.snd,End,dC,h1,h2,h3,h4,h5,dQ,kl,q0,hv,q1,hg,this]
 ·rw[if_neg hg]at hv;have g1:¬x.gate<1:=by omega
  have g2:¬12<x.gate:=by omega
  have Qf:=fun m=>f272 (u:=u) x.gate (by omega) m;by_cases uP:x.pl.length=gT x.gate
  ·have:((x.pl.length:Int) !=(gT x.gate:Int))=false:=by simp;omega
   simp[c232,AC.snd,End,dC,h1,h2,h3,h4,h5,dQ,kl,q0,hv,q1,q3,g1,g2,Qf,b_,cj,dG,AV.gh,AV.beq,AV.fI,this,uP,pa]
  ·have:((x.pl.length:Int) !=(gT x.gate:Int))=true:=by simp;omega
   simp[c232,AC.snd,End,dC,h1,h2,h3,h4,h5,dQ,kl,q0,hv,q1,q3,g1,g2,Qf,b_,cj,dG,AV.gh,AV.beq,AV.fI,this,uP]
theorem afZ(hk:x.kind=2\/x.kind=4):κ (C u).gl (aS (C u)) c232.snd s1 (End dC BB (.n (c8 ps own L x))):=by
 obtain⟨v,hv⟩:∃v,v=c8 ps own L x:=⟨_,rfl⟩;rw[<-hv];rw[qD]at hv;have je:¬x.kind=1:=by omega
 rw[if_neg je,if_pos hk]at hv;generalize ek L x.name=ne at*;generalize x.size.err (cT L) 1=se at*;rcases hk with hk|hk<;>rw[hk]at q0
 ·by_cases hn:ne=0
  ·subst hn;by_cases hz:se=0
   ·subst hz;simp[c232,AC.snd,End,dC,h1,h2,h3,h4,h5,dQ,kl,q0,hv,q2,q4,q8,iK,mK,oA]
   ·simp[c232,AC.snd,End,dC,h1,h2,h3,h4,h5,dQ,kl,q0,hv,q2,q4,iK,mK,bne_true hz]
  ·simp[c232,AC.snd,End,dC,h1,h2,h3,h4,h5,dQ,kl,q0,hv,q2,iK,bne_true hn,hn]
 ·by_cases hn:ne=0
  ·subst hn;by_cases hz:se=0
   ·subst hz;simp[c232,AC.snd,End,dC,h1,h2,h3,h4,h5,dQ,kl,q0,hv,q2,q4,q8,iK,mK,oA]
   ·simp[c232,AC.snd,End,dC,h1,h2,h3,h4,h5,dQ,kl,q0,hv,q2,q4,iK,mK,bne_true hz]
  ·simp[c232,AC.snd,End,dC,h1,h2,h3,h4,h5,dQ,kl,q0,hv,q2,iK,bne_true hn,hn]
theorem af4(hk:x.kind=8):κ (C u).gl (aS (C u)) c232.snd s1 (End dC BB (.n (c8 ps own L x))):=by
 obtain⟨v,hv⟩:∃v,v=c8 ps own L x:=⟨_,rfl⟩;rw[<-hv];rw[qD]at hv;simp[hk]at hv;rw[hk]at q0;generalize ek L x.name=ne at*;generalize x.size.err (cT L) 1=se at*;generalize x.to.err (cT L) 1=te at*;by_cases hn:ne=0
 ·subst hn;by_cases hz:se=0
  ·subst hz;simp[c232,AC.snd,End,dC,h1,h2,h3,h4,h5,dQ,kl,q0,hv,q2,q4,q8,iK,mK,oA]
  ·simp[c232,AC.snd,End,dC,h1,h2,h3,h4,h5,dQ,kl,q0,hv,q2,q4,iK,mK,bne_true hz,hz]
 ·simp[c232,AC.snd,End,dC,h1,h2,h3,h4,h5,dQ,kl,q0,hv,q2,iK,bne_true hn,hn]
theorem af0(hk:x.kind=3):κ (C u).gl (aS (C u)) c232.snd s1 (End dC BB (.n (c8 ps own L x))):=by
 obtain⟨v,hv⟩:∃v,v=c8 ps own L x:=⟨_,rfl⟩;rw[<-hv];rw[qD]at hv;simp[hk]at hv;rw[hk]at q0;rcases AG hs x.name with⟨j1,j2⟩|⟨w,d,j1,hw,j2⟩
 ·simp[c232,AC.snd,End,dC,h1,h2,h3,h4,h5,dQ,kl,q0,hv,q2,hid,isKey,j1,j2]
 ·rw[j2]at hv;rcases hw with rfl|rfl|rfl
  ·by_cases hd:d=b
   ·subst hd;simp[c232,AC.snd,End,dC,h1,h2,h3,h4,h5,dQ,kl,q0,hv,q2,hid,isKey,j1,jY,cX,kq]
   ·simp[c232,AC.snd,End,dC,h1,h2,h3,h4,h5,dQ,kl,q0,hv,q2,hid,isKey,j1,jY,cX,kq,hd]
  ·simp[c232,AC.snd,End,dC,h1,h2,h3,h4,h5,dQ,kl,q0,hv,q2,hid,isKey,j1,jY]
  ·simp[c232,AC.snd,End,dC,h1,h2,h3,h4,h5,dQ,kl,q0,hv,q2,hid,isKey,j1,jY]
theorem af1(hk:x.kind=5):κ (C u).gl (aS (C u)) c232.snd s1 (End dC BB (.n (c8 ps own L x))):=by
 obtain⟨v,hv⟩:∃v,v=c8 ps own L x:=⟨_,rfl⟩;rw[<-hv];rw[qD]at hv;simp[hk]at hv;rw[hk]at q0;generalize cm:x.pl=pl at*;rcases pl with _|⟨p,_|⟨q,rest⟩⟩
 ·simp[c232,AC.snd,End,dC,h1,h2,h3,h4,h5,dQ,kl,q0,hv,q3]
 ·have e:=pb p (by simp);simp only[φ.av]at e;simp at hv;by_cases hz:cx L p=0
  ·rw[hz]at e;rw[if_pos hz]at hv;rcases AG hs x.name with⟨j1,j2⟩|⟨w,d,j1,hw,j2⟩
   ·rw[j2]at hv;by_cases hn:ek L x.name=0
    ·rw[hn]at iK hv;simp[c232,AC.snd,End,dC,h1,h2,h3,h4,h5,dQ,kl,q0,hv,q2,q3,φ.av,e,iK,hid,isKey,j1]
    ·simp[c232,AC.snd,End,dC,h1,h2,h3,h4,h5,dQ,kl,q0,hv,q2,q3,φ.av,e,iK,hid,isKey,j1,bne_true hn]
   ·by_cases hn:ek L x.name=0
    ·have:=(CZ hn).2;rw[j2]at this;rcases hw with rfl|rfl|rfl<;>simp[jY]at this
    ·rw[j2]at hv;rcases hw with rfl|rfl|rfl<;>simp[c232,AC.snd,End,dC,h1,h2,h3,h4,h5,dQ,kl,q0,hv,q2,q3,φ.av,e,iK,hid,isKey,j1,bne_true hn,jY]
  ·rw[if_neg hz]at hv;simp[c232,AC.snd,End,dC,h1,h2,h3,h4,h5,dQ,kl,q0,hv,q3,φ.av,e,bne_true hz]
 ·have:((rest.length:Int)+1+1 !=1)=true:=by simp;omega
  simp[c232,AC.snd,End,dC,h1,h2,h3,h4,h5,dQ,kl,q0,hv,q3,this]
theorem af2(hk:x.kind=6):κ (C u).gl (aS (C u)) c232.snd s1 (End dC BB (.n (c8 ps own L x))):=by
 obtain⟨v,hv⟩:∃v,v=c8 ps own L x:=⟨_,rfl⟩;rw[<-hv];rw[qD]at hv;simp[hk]at hv;rw[hk]at q0;generalize cm:x.pl=pl at*;rcases pl with _|⟨p,_|⟨q,rest⟩⟩
 ·simp[c232,AC.snd,End,dC,h1,h2,h3,h4,h5,dQ,kl,q0,hv,q3]
 ·have e:=pb p (by simp);simp only[φ.av]at e;simp at hv;by_cases hz:cx L p=0
  ·rw[hz]at e hv;simp[c232,AC.snd,End,dC,h1,h2,h3,h4,h5,dQ,kl,q0,hv,q3,q2,iK,φ.av,e]
  ·simp[c232,AC.snd,End,dC,h1,h2,h3,h4,h5,dQ,kl,q0,hv,q3,φ.av,e,bne_true hz]
 ·have:((rest.length:Int)+1+1 !=1)=true:=by simp;omega
  simp[c232,AC.snd,End,dC,h1,h2,h3,h4,h5,dQ,kl,q0,hv,q3,this]
theorem af3(hk:x.kind=7):κ (C u).gl (aS (C u)) c232.snd s1 (End dC BB (.n (c8 ps own L x))):=by
 obtain⟨v,hv⟩:∃v,v=c8 ps own L x:=⟨_,rfl⟩;rw[<-hv];rw[qD]at hv;simp[hk]at hv;rw[hk]at q0;rcases AG hs x.name with⟨j1,j2⟩|⟨w,d,j1,hw,j2⟩
 ·simp[c232,AC.snd,End,dC,h1,h2,h3,h4,h5,dQ,kl,q0,hv,q2,hid,isKey,j1,j2]
 ·rw[j2]at hv;rcases hw with rfl|rfl|rfl<;>simp[c232,AC.snd,End,dC,h1,h2,h3,h4,h5,dQ,kl,q0,hv,q2,hid,isKey,j1,jY]
theorem af5(hk:x.kind=9):κ (C u).gl (aS (C u)) c232.snd s1 (End dC BB (.n (c8 ps own L x))):=by
 obtain⟨v,hv⟩:∃v,v=c8 ps own L x:=⟨_,rfl⟩;rw[<-hv];rw[qD]at hv;simp[hk]at hv;rw[hk]at q0;rcases T_ ps x.name with⟨j1,j2⟩|⟨n,q,j1,j2,j3,j4⟩
 ·rw[j1]at mL;simp[c232,AC.snd,End,dC,h1,h2,h3,h4,h5,dQ,kl,q0,hv,q2,c_,mL,j2]
 ·rw[j1]at mL;have x7:¬(n:Int)<0:=by omega
  by_cases ho:own<=n
  ·have nw:(own:Int)<=(n:Int):=by omega
   simp[c232,AC.snd,End,dC,h1,h2,h3,h4,h5,dQ,kl,q0,hv,q2,c_,mL,j2,x7,ho,nw]
  ·have nw:¬(own:Int)<=(n:Int):=by omega
   have Sl:ps[n]=q:=by rw[List.getElem?_eq_getElem j4]at j3;simpa using j3
   by_cases tH:x.pl.length=q.ay.length
   ·have:((x.pl.length:Int) !=(q.ay.length:Int))=false:=by simp;omega
    simp[c232,AC.snd,End,dC,h1,h2,h3,h4,h5,dQ,kl,q0,hv,q2,q3,c_,mL,j2,x7,ho,nw,j3,Sl,j4,ω.av,this,tH,pa]
   ·have:((x.pl.length:Int) !=(q.ay.length:Int))=true:=by simp;omega
    simp[c232,AC.snd,End,dC,h1,h2,h3,h4,h5,dQ,kl,q0,hv,q2,q3,c_,mL,j2,x7,ho,nw,j3,Sl,j4,ω.av,this,tH]
theorem afY(hk:x.kind=10\/x.kind=11):κ (C u).gl (aS (C u)) c232.snd s1 (End dC BB (.n (c8 ps own L x))):=by
 obtain⟨v,hv⟩:∃v,v=c8 ps own L x:=⟨_,rfl⟩;rw[<-hv];rw[qD]at hv;rcases hk with hk|hk
 ·rw[hk]at q0;simp[hk]at hv;simp[c232,AC.snd,End,dC,h1,h2,h3,h4,h5,dQ,kl,q0,hv]
 ·rw[hk]at q0;simp[hk]at hv;simp[c232,AC.snd,End,dC,h1,h2,h3,h4,h5,dQ,kl,q0,hv]
theorem afW(hk:¬(x.kind=1\/x.kind=2\/x.kind=3\/x.kind=4\/x.kind=5\/x.kind=6\/x.kind=7\/x.kind=8\/x.kind=9\/x.kind=10\/x.kind=11)):κ (C u).gl (aS (C u)) c232.snd s1 (End dC BB (.n (c8 ps own L x))):=by obtain⟨v,hv⟩:∃v,v=c8 ps own L x:=⟨_,rfl⟩;rw[<-hv];rw[qD]at hv;simp only[not_or]at hk;obtain⟨je,xH,jR,xI,jT,uL,uM,uN,uO,wc,we⟩:=hk;simp[je,xH,xI,jR,jT,uL,uM,uN,uO,wc,we]at hv;simp[c232,AC.snd,End,dC,h1,h2,h3,h4,h5,dQ,kl,q0,hv,dR je,dR xH,dR xI,dR jR,dR jT,dR uL,dR uM,dR uN,dR uO,dR wc,dR we]
end
theorem f232{B:List θ}{ck id:Nat}(aN:Γ)(cu:aJ aN)(ps:List ω)(bo:∀x∈ps,x.Ok)(cm:ps.length<1000000000000)(own:Nat)(b nb:Int)(es:List aI)(L:bw)
  (c_:B[ck]?=some (.cells [.list aN (ps.map ω.av),.n own,.n nb])) (hid:B[id]?=some (.map (es.map bK))) (hs:fF es b nb L) (x:δ) (hx:x.Ok) (fN:x.wt<1000000000000) (ext:List θ) (T:List Nat):
  kf u 232 [.μ ck 0,eC id b,x.av] {ε:=B++ext,η:=T}=some (.n (c8 ps own L x),{ε:=B++ext,η:=T}):=by
 have ν:id<B.length:=by
  rcases bP id B.length with h|h
  ·exact h
  ·rw[iU h]at hid;cases hid
 have Z5:ck<B.length:=by
  rcases bP ck B.length with h|h
  ·exact h
  ·rw[iU h]at c_;cases c_
 have iP:((B++ext)++[θ.cells x.cells])[id]?=some (.map (es.map bK)):=by rw[eg (by simp;omega),eg ν];exact hid
 have pn:((B++ext)++[θ.cells x.cells])[ck]?=some (.cells [.list aN (ps.map ω.av),.n own,.n nb]):=by rw[eg (by simp;omega),eg Z5];exact c_
 have fS:((B++ext)++[θ.cells x.cells])[(B++ext).length]?=some (.cells x.cells):=by simp
 have dE:id<(B++ext).length:=by simp;omega
 have Z6:ck<(B++ext).length:=by simp;omega
 have q0:=cell0 x;have q2:=lY x;have kl:=δ.i_ x;have Cp:x.cells.map ρ=x.cells:=by rw[<-fC,δ.yF]
 generalize hBB:B++ext=BB at*;refine bz (g:=dC) rfl rfl rfl ?_;have dV:[AV.μ ck 0,eC id b,x.av].map (exp BB.length false)=[.μ ck 0,eC id b,x.av]:=by simp only[ah,aw,δ.dH _ _ _ hx,eC,exp,bn,dE,Z6,if_true]
 simp only[dV,dC,c232];have iK:=fun m'=>f191 (u:=u) iP hs x.name (by cases x;exact hx.1) [] m';simp only[dx]at iK;have dM:∀M:Mem,M.ρ=ρ:=fun _=>rfl;let K:St->Prop:=fun st=>st.e 0= .μ ck 0/\st.e 4= .Ω 4 0 0/\st.q 4=some (0,.cells [.map id,.n b])/\st.e 5= .μ BB.length 0/\st.mem= {ε:=BB++[.cells x.cells],η:=[]};refine χ (K) (by simp[K,eC,δ.av,aQ,kl,Mem.push,dM,ρ,Cp]) fun s1 ⟨h1,h2,h3,h4,h5⟩=>?_;have τ:x.size.eD/\x.to.eD/\aJ x.cp/\(∀p∈x.pl,p.Ok)/\gH x.pl+x.size.cnt+x.to.cnt<1000000000000:=by obtain⟨k,g,nm,cp,pl,size,to,cb,body,ce,aA⟩:=x;simp only[δ.Ok]at hx;simp only[δ.wt]at fN;exact⟨hx.2.2.2.1,hx.2.2.2.2.1,hx.2.1,hx.2.2.1,by simp only[δ.pl,δ.size,δ.to];omega⟩
 obtain⟨o1,o2,o3,o4,o5⟩:=τ;have Ll:=MF x.pl;have mK:∀T,kf u 275 [.agg [.map id,.n b],.agg x.size.four] {ε:=BB++[.cells x.cells],η:=T}=some (.n (x.size.err (cT L) 1),{ε:=BB++[.cells x.cells],η:=T}):=fun T=>by have:=f275 (u:=u) iP hs x.size o1.1 o1.2 (by omega) [] [eC id b,x.size.av] rfl [] T;rwa[dx,ζ.gA]at this
 have oA:∀T,kf u 275 [.agg [.map id,.n b],.agg x.to.four] {ε:=BB++[.cells x.cells],η:=T}=some (.n (x.to.err (cT L) 1),{ε:=BB++[.cells x.cells],η:=T}):=fun T=>by have:=f275 (u:=u) iP hs x.to o2.1 o2.2 (by omega) [] [eC id b,x.to.av] rfl [] T;rwa[dx,ζ.gA]at this
 have pb:∀p∈x.pl,∀T,kf u 274 [.agg [.map id,.n b],p.av] {ε:=BB++[.cells x.cells],η:=T}=some (.n (cx L p),{ε:=BB++[.cells x.cells],η:=T}):=fun p hp T=>by have:=f274 (u:=u) iP hs p (o4 p hp) (by have:=φ.my hp;omega) [] [eC id b,p.av] rfl [] T;rwa[dx]at this
 have ahf:id<(BB++[θ.cells x.cells]).length:=by simp;omega
 have sx:Fix (BB++[θ.cells x.cells]).length (.fn (.func 274) [eC id b] []):=by
  intro k bb hk;have:id<k:=by omega
  simp[exp,bn,Fn.below,eC,this]
 have pa:∀T,kf u 273 [.list x.cp (x.pl.map φ.av),.fn (.func 274) [.agg [.map id,.n b]] []] {ε:=BB++[.cells x.cells],η:=T}=some (.n (first (cx L) x.pl),{ε:=BB++[.cells x.cells],η:=T}):=fun T=>by have:=f273 (u:=u) (F:=cx L) sx x.cp o3 x.pl o4 (by omega) (fun p hp=>f274 (u:=u) iP hs p (o4 p hp) (by have:=φ.my hp;omega) [eC id b] [p.av] rfl) [] T;rwa[dx]at this
 have Zn:Fix (BB++[θ.cells x.cells]).length (.fn (.func 276) [] [.μ BB.length 0]):=by
  intro k bb hk;have:BB.length<k:=by simp at hk;omega
  simp[exp,bn,Fn.below,this]
 have mL:∀T,kf u 66 [.list aN (ps.map ω.av),.fn (.func 276) [] [.μ BB.length 0]] {ε:=BB++[.cells x.cells],η:=T}=some (.n (pG ps x.name),{ε:=BB++[.cells x.cells],η:=T}):=fun T=>by have:=f66 (u:=u) (q:=fun p=>p.name==x.name) Zn aN cu ps bo cm (fun p hp=>f276 x fS p (bo p hp)) [] T;rwa[dx]at this
 have q1:=ot x;have q3:=ou x;have q4:=nO x;have q8:=ov x;show κ (C u).gl (aS (C u)) c232.snd s1 (End dC BB (.n (c8 ps own L x)));by_cases j1:x.kind=1
 ·exact afX h1 h2 h3 h4 h5 iP pn fS hs iK mK oA pb pa mL q0 q1 q2 q3 q4 q8 kl j1
 by_cases LV:x.kind=2\/x.kind=4
 ·exact afZ h1 h2 h3 h4 h5 iP pn fS hs iK mK oA pb pa mL q0 q1 q2 q3 q4 q8 kl LV
 by_cases j8:x.kind=8
 ·exact af4 h1 h2 h3 h4 h5 iP pn fS hs iK mK oA pb pa mL q0 q1 q2 q3 q4 q8 kl j8
 by_cases j3:x.kind=3
 ·exact af0 h1 h2 h3 h4 h5 iP pn fS hs iK mK oA pb pa mL q0 q1 q2 q3 q4 q8 kl j3
 by_cases j5:x.kind=5
 ·exact af1 h1 h2 h3 h4 h5 iP pn fS hs iK mK oA pb pa mL q0 q1 q2 q3 q4 q8 kl j5
 by_cases j6:x.kind=6
 ·exact af2 h1 h2 h3 h4 h5 iP pn fS hs iK mK oA pb pa mL q0 q1 q2 q3 q4 q8 kl j6
 by_cases j7:x.kind=7
 ·exact af3 h1 h2 h3 h4 h5 iP pn fS hs iK mK oA pb pa mL q0 q1 q2 q3 q4 q8 kl j7
 by_cases j9:x.kind=9
 ·exact af5 h1 h2 h3 h4 h5 iP pn fS hs iK mK oA pb pa mL q0 q1 q2 q3 q4 q8 kl j9
 by_cases LU:x.kind=10\/x.kind=11
 ·exact afY h1 h2 h3 h4 h5 iP pn fS hs iK mK oA pb pa mL q0 q1 q2 q3 q4 q8 kl LU
 exact afW h1 h2 h3 h4 h5 iP pn fS hs iK mK oA pb pa mL q0 q1 q2 q3 q4 q8 kl (by omega)
end Go.ab.Tz
