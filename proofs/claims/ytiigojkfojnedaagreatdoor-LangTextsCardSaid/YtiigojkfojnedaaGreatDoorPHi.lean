import Derived.Test.YtiigojkfojnedaaGreatDoorPHe
set_option linter.unusedVariables false
set_option linter.unusedSimpArgs false
set_option maxRecDepth 100000
set_option maxHeartbeats 8000000
open List renaming filter_cons->ahC,mem_cons->dX,mem_append->eL,mem_filter->DA,map_cons->ah,map_nil->aw,getElem_mem->cz,map_map->di,map_congr_left->dz,take_of_length_le->dY,findIdx?_eq_some_iff_getElem->tf,getElem?_eq_getElem->eo,drop_eq_getElem_cons->ko,drop_length->AZ,mem_take_iff_getElem->ahD
open Bool renaming false_eq_true->hS,true_eq_false->Ix
open Nat renaming lt_or_ge->bP
open Go.IntKind renaming wrap->aT
namespace Go.ab.Tz
open Go.ab
def f_(n:aI)(d:Int):lB:=if n.w=1\/n.w=3 then .nG false else if n.w=2 then .nG (decide (n.d=d))else if n.w=4 then .bit else if n.w=5 then .Ds else .none
structure eE (l:List aI) (d:Int) (L:bw):Prop where
 look:∀s,L s=f_ (dP l s) d
 ws:∀x∈l,1<=x.w/\x.w<=5
 ds:∀x∈l,x.d<=d
theorem zt(l:List aI)(s:List Nat):dP l s=⟨[],0,0⟩\/(dP l s∈l/\(dP l s).name=s):=by
 induction l with
 |nil=>exact .inl rfl
 |cons a l ih=>
  simp only[dP]
  split
  ·rename_i h;exact .inr ⟨by simp,h⟩
  ·rcases ih with h|⟨h,h'⟩
   ·exact .inl h
   ·exact .inr ⟨by simp[h],h'⟩
theorem XN(l:List aI)(x:aI)(s:List Nat):dP (l++[x]) s=if∃y∈l,y.name=s then dP l s else if x.name=s then x else⟨[],0,0⟩:=by
 induction l with
 |nil=>simp[dP]
 |cons a l ih=>
  simp only[List.cons_append,dP]
  by_cases h:a.name=s
  ·simp[h]
  ·simp only[h,if_false,ih];by_cases h2:∃y∈l,y.name=s
   ·simp[h2]
   ·simp[h2,h]
theorem Qo{l:List aI}{s:List Nat}(h:¬∃y∈l,y.name=s):dP l s=⟨[],0,0⟩:=by
 rcases zt l s with h1|⟨h1,h2⟩
 ·exact h1
 ·exact absurd ⟨_,h1,h2⟩ h
theorem XQ(l:List aI)(t s:List Nat):dP (l.filter fun x=>x.name !=t) s=if s=t then⟨[],0,0⟩else dP l s:=by
 induction l with
 |nil=>simp[dP]
 |cons a l ih=>
  by_cases h:a.name=t
  ·simp only[ahC,h,bne_self_eq_false,hS,if_false,ih,dP];by_cases h2:s=t
   ·simp[h2]
   ·simp[h2,Ne.symm h2]
  ·have:(a.name !=t)=true:=by simpa using h
   simp only[ahC,this,if_true,dP,ih];by_cases h2:s=t
   ·subst h2;simp[h]
   ·by_cases h3:a.name=s<;>simp[h2,h3]
theorem eE.Mx{l:List aI}{d:Int}{L:bw}(h:eE l d L)(s:List Nat):L s= .none↔(dP l s).w=0:=by
 rw[h.look];rcases zt l s with h1|⟨h1,_⟩
 ·simp[h1,f_]
 ·have:=h.ws _ h1;unfold f_;constructor
  ·intro he;(repeat' split at he)<;>first|(cases he;done)|omega
  ·intro he;omega
theorem eE.adT{l:List aI}{d:Int}{L:bw}(h:eE l d L){s:List Nat}(hs:L s= .none):¬∃y∈l,y.name=s:=by
 rintro⟨y,hy,he⟩
 have h0:=(h.Mx s).1 hs;rcases zt l s with h1|⟨h1,_⟩
 ·
  have go:∀l:List aI,y∈l->(∀x∈l,1<=x.w/\x.w<=5)->(dP l s).w≠0:=by
   intro l;induction l with
   |nil=>intro h;cases h
   |cons a l ih=>
    intro hm hw
    simp only[dP];split
    ·have:=hw a (by simp);omega
    ·rename_i aj;rcases dX.1 hm with rfl|hm
     ·exact absurd he aj
     ·exact ih hm fun x hx=>hw x (by simp[hx])
  exact go l hy h.ws h0
 ·have:=h.ws _ h1;omega
theorem eE.put{l:List aI}{d:Int}{L:bw}(h:eE l d L){s:List Nat}(hs:L s= .none)(w:Int)(hw:1<=w/\w<=5):eE (l++[⟨s,w,d⟩]) d (L.put s (f_ ⟨s,w,d⟩ d)):=by
 have hn:=h.adT hs;refine⟨fun t=>?_,fun x hx=>?_,fun x hx=>?_⟩
 ·rw[XN];simp only[bw.put];by_cases ht:t=s
  ·subst ht;simp[hn]
  ·simp only[ht,if_false];by_cases h2:∃y∈l,y.name=t
   ·simp only[h2,if_true];exact h.look t
   ·simp only[h2,if_false,Ne.symm ht,if_false];rw[h.look t,Qo h2]
 ·rcases eL.1 hx with hx|hx
  ·exact h.ws x hx
  ·simp at hx;subst hx;exact hw
 ·rcases eL.1 hx with hx|hx
  ·exact h.ds x hx
  ·simp at hx;subst hx;exact Int.le_refl _
theorem eE.del{l:List aI}{d:Int}{L:bw}(h:eE l d L)(s:List Nat):eE (l.filter fun x=>x.name !=s) d (L.put s .none):=by
 refine⟨fun t=>?_,fun x hx=>h.ws x (DA.1 hx).1,fun x hx=>h.ds x (DA.1 hx).1⟩;rw[XQ];simp only[bw.put];by_cases ht:t=s
 ·simp[ht,f_]
 ·simp[ht,h.look t]
theorem eE.inner{l:List aI}{d:Int}{L:bw}(h:eE l d L):eE l (d+1) L.inner:=by
 refine⟨fun t=>?_,h.ws,fun x hx=>by have:=h.ds x hx;omega⟩;simp only[bw.inner,h.look t];rcases zt l t with h1|⟨h1,_⟩
 ·simp[h1,f_]
 ·have hd:=h.ds _ h1;have aj:¬(dP l t).d=d+1:=by omega
  unfold f_
  (repeat' split)<;>simp_all
theorem Uc(L:bw)(s:List Nat)(h:L s= .none):L.inner s= .none:=by simp[bw.inner,h]
theorem eE.empty(d:Int):eE [] d j_:=⟨fun _=>rfl,fun _ h=>(by cases h),fun _ h=>(by cases h)⟩
theorem afg(L:bw)(s:List Nat)(w:lB)(h:L s=w):L.put s w=L:=by
 funext t;simp only[bw.put];split
 ·rename_i he;rw[he,h]
 ·rfl
def kU(L:bw):Prop:=∀s,L s≠ .none->s.length<=8
theorem Ms{s:List Nat}(h:jZ s=true):s.length<=8:=by simp only[jZ,Bool.and_eq_true,decide_eq_true_eq]at h;exact h.1.1.1.2
theorem kU.put{L:bw}(h:kU L){s:List Nat}(hs:s.length<=8)(w:lB):kU (L.put s w):=by
 intro t ht;simp only[bw.put]at ht;split at ht
 ·rename_i he;rw[he];exact hs
 ·exact h t ht
theorem kU.del{L:bw}(h:kU L)(s:List Nat):kU (L.put s .none):=by
 intro t ht;simp only[bw.put]at ht;split at ht
 ·exact absurd rfl ht
 ·exact h t ht
theorem kU.inner{L:bw}(h:kU L):kU L.inner:=by intro t ht;refine h t fun he=>ht ?_;simp[bw.inner,he]
theorem CZ{L:bw}{s:List Nat}(h:ek L s=0):jZ s=true/\L s= .none:=by
 unfold ek at h;split at h
 ·cases h
 ·rename_i h1;split at h
  ·cases h
  ·rename_i h2;exact⟨by simpa using h1,by simpa using h2⟩
variable{u:Nat}
attribute [local simp] exec eG eu fz aF d_ fQ fe bq gN bT gF gS hU hZ AV.cells newVar hH rd wr gg single fy bF er dL κ bf RV.get ba dU jy
theorem nS{l:List aI}{d:Int}{L:bw}(h:eE l d L)(s:List Nat):∃nn w e,dP l s=⟨nn,w,e⟩/\0<=w/\w<=5/\L s=f_ ⟨nn,w,e⟩ d/\(w=0->e=0):=by
 rcases hx:dP l s with⟨nn,w,e⟩
 refine⟨nn,w,e,rfl,?_⟩;have hl:=h.look s;rw[hx]at hl;rcases zt l s with h1|⟨h1,_⟩
 ·rw[hx]at h1;cases h1;exact⟨by decide,by decide,hl,fun _=>rfl⟩
 ·have:=h.ws _ h1;rw[hx]at this;dsimp only at this;exact⟨by omega,by omega,hl,fun h0=>by omega⟩
theorem f260(c:Γ)(hc:aJ c)(l:List aI)(d:Int)(L:bw)(hs:eE l d L)(s:List Nat)(hl:l.length<1000000000000)(m:Mem):kf u 260 [cZ c l,.str s] m=some (.bool (L s).n4,m):=by
 have e:=f165 (u:=u) c hc l s hl;refine bz (g:=F8) rfl rfl rfl ?_;simp only[ah,aw,lF hc];simp only[exp,F8,Pa];obtain⟨nn,w,e',hf,h0,h5,hL,-⟩:=nS hs s;rw[hf]at e;rw[hL];simp only[aI.av]at e;have hw:w=0\/w=1\/w=2\/w=3\/w=4\/w=5:=by omega
 rcases hw with rfl|rfl|rfl|rfl|rfl|rfl<;>simp[e,f_,lB.n4]
theorem f259(c:Γ)(hc:aJ c)(l:List aI)(d:Int)(L:bw)(hs:eE l d L)(s:List Nat)(hl:l.length<1000000000000)(m:Mem):kf u 259 [cZ c l,.str s] m=some (.n (ek L s),m):=by
 have e:=f165 (u:=u) c hc l s hl;have e2:=f164 (u:=u) s;refine bz (g:=F6) rfl rfl rfl ?_;simp only[ah,aw,lF hc];simp only[exp,F6,O'];obtain⟨nn,w,e',hf,h0,h5,hL,-⟩:=nS hs s;rw[hf]at e;simp only[aI.av]at e;simp only[ek,hL];cases hn:jZ s with
 |false=>rw[hn]at e2;simp[e,e2]
 |true=>
  rw[hn]at e2
  have hw:w=0\/w=1\/w=2\/w=3\/w=4\/w=5:=by omega
  rcases hw with rfl|rfl|rfl|rfl|rfl|rfl<;>simp[e,e2,f_]
theorem f169(c:Γ)(hc:aJ c)(ns:List aI)(d:Int)(L:bw)(hs:eE ns d L)(hl:ns.length<1000000000000)(x:ζ):x.Ok->x.cnt<1000000000000->∀m,
  kf u 169 [x.av,cZ c ns,.bool true] m=some (.n (x.part (cT L) 1),m):=by
 refine ζ.iB (Q:=fun x=>x.Ok->x.cnt<1000000000000->∀m,kf u 169 [x.av,cZ c ns,.bool true] m=some (.n (x.part (cT L) 1),m)) (fun k n s cc l ih Θ lI m=>?_) x;have dv:=fun m=>f181 (u:=u) k n s cc l m Θ;have e:=f165 (u:=u) c hc ns s hl;simp only[ζ.cnt]at lI;have gO:=ζ.zo l;refine bz (g:=E') rfl rfl rfl ?_;simp only[ah,aw,ζ.dH _ _ _ Θ,lF hc];simp only[exp,E',Ow,ζ.part];simp only[ζ.av]at dv⊢;let K:St->Prop:=fun st=>st.e 1=cZ c ns/\st.e 2= .bool true/\st.e 3= .Ω 3 0 0/\st.q 3=some (0,.cells [.n k,.n n,.str s,.list cc (ζ.ψ l)])/\st.mem= {ε:=m.ε,η:=[]};refine χ (K) (by simp[K,aQ]) fun s1 ⟨h1,h2,h3,h4,h5⟩=>?_;by_cases lq:gy k n l.length=0
 case neg=>
  refine aZ (fun _=>False) ?_ fun _ h=>h.elim
  simp[h1,h2,h3,h4,h5,dv,bne_true lq,lq]
 rw[lq]at dv;refine χ (K) (by simp[K,h1,h2,h3,h4,h5,dv]) fun s1 ⟨h1,h2,h3,h4,h5⟩=>?_;obtain⟨nn,w,e',hf,h0,k_,hL,-⟩:=nS hs s;rw[hf]at e;simp only[aI.av]at e;have tI:cT L s=decide (w=5):=by
  simp only[cT,hL,f_];have hw:w=0\/w=1\/w=2\/w=3\/w=4\/w=5:=by omega
  rcases hw with rfl|rfl|rfl|rfl|rfl|rfl<;>simp
 by_cases fo:k=2/\w≠5
 ·obtain⟨rfl,R4⟩:=fo;refine aZ (fun _=>False) ?_ fun _ h=>h.elim;simp[h1,h2,h3,h4,h5,e,bne_true R4,lq,tI,R4]
 have Zz:(if gy k n l.length≠0 then gy k n l.length else if k=2/\cT L s=false then 1 else ζ.parts (cT L) 1 l)=first (ζ.part (cT L) 1) l:=by rw[if_neg (by simpa using lq),if_neg (by rw[tI];simpa using fo),TQ]
 rw[Zz];refine χ (K) (by
  by_cases hk:k=2
  ·subst hk;have:w=5:=by simpa using fo
   subst this;simp[K,h1,h2,h3,h4,h5,e]
  ·simp[K,h1,h2,h3,h4,h5,dR hk]) fun s1 ⟨h1,h2,h3,h4,h5⟩=>?_
 refine χ (K) (by
  by_cases hk:k=2
  ·subst hk;simp[K,h1,h2,h3,h4,h5]
  ·simp[K,h1,h2,h3,h4,h5,dR hk]) fun s1 ⟨h1,h2,h3,h4,h5⟩=>?_
 refine aZ (fun st=>K st/\first (ζ.part (cT L) 1) l=0) ?_ fun s2 ⟨⟨h1,h2,h3,h4,h5⟩,h6⟩=>by simp[h5,h6]
 let I:Nat->St->Prop:=fun i st=>K st/\st.e 8= .n i/\∀j (hj:j<l.length),j<i->(l[j]).part (cT L) 1=0;refine χ (I 0) (by simp[I,K,h1,h2,h3,h4,h5]) fun s4 hI=>?_;refine κ.block (κ.loop (I:=I) l.length hI fun i st hi τ=>?_);obtain⟨⟨h1,h2,h3,h4,h5⟩,q1,q2⟩:=τ;rcases bP i l.length with ν|cD
 ·have hw:aT .i64 ((i:Int)+1)=(i:Int)+1:=wrap_i64 (by omega) (by omega);have hg:=tq l i ν;have hm:l[i]∈l:=cz ν;have hx:=ih _ hm (ζ.gb Θ.2 _ hm) (by have:=ζ.vG hm;omega);by_cases hz:(l[i]).part (cT L) 1=0
  ·left;refine⟨ν,?_⟩;have q5:=tw (P:=fun j=>∀hj:j<l.length,(l[j]).part (cT L) 1=0) (n:=l.length) (fun j a b c=>q2 j c b) (fun _=>hz);rw[hz]at hx;generalize l[i]=y at hg hx;obtain⟨k',n',s',c2,l'⟩:=y;simp only[ζ.av]at hg hx;simp[I,K,Hu,h1,h2,h3,h4,h5,q1,ν,hg,hx,hw,iX];exact fun j hj jD=>q5 j hj jD hj
  ·right;have p_:=zw ν q2 hz;rw[p_];have e1:=bne_true hz;generalize(l[i]).part (cT L) 1=pe at*;generalize l[i]=y at hg hx;obtain⟨k',n',s',c2,l'⟩:=y;simp only[ζ.av]at hg hx;simp[K,Hu,h1,h2,h3,h4,h5,q1,ν,hg,hx,e1,iX]
 ·right;have:i=l.length:=by omega
  subst this;have hz:=zu (f:=ζ.part (cT L) 1) fun j hj=>q2 j hj hj;simp[K,Hu,h1,h2,h3,h4,h5,q1,hz,iX]
theorem f103(c:Γ)(hc:aJ c)(ns:List aI)(d:Int)(L:bw)(hs:eE ns d L)(hl:ns.length<1000000000000)(x:ζ)(Θ:x.Ok)(lI:x.cnt<1000000000000)(m:Mem):
  kf u 103 [x.av,cZ c ns,.bool true] m=some (.n (x.err (cT L) 1),m):=by
 have e1:=fun m=>f115 (u:=u) x Θ lI m;have e2:=fun m=>f169 (u:=u) c hc ns d L hs hl x Θ lI m;refine bz (g:=EL) rfl rfl rfl ?_;simp only[ah,aw,ζ.dH _ _ _ Θ,lF hc];simp only[exp,EL,Oc,ζ.err];generalize x.part (cT L) 1=pe at*;generalize x.cnt=cn at*;obtain⟨k,n,s,cc,l⟩:=x;simp only[ζ.av]at e1 e2⊢;generalize K_:((min cn 10:Nat):Int)=mn at*;by_cases h9:9<cn
 ·have xJ:(9:Int)<mn:=by omega
  simp[e1,h9,xJ]
 ·have xJ:¬(9:Int)<mn:=by omega
  simp[e1,e2,h9,xJ]
theorem HX{n:Nat}{k:Bool}{c:Γ}(hc:aJ c){l:List φ}(h:∀p∈l,p.Ok):exp n k (.list c (l.map φ.av))= .list c (l.map φ.av):=by
 have:bn n k (l.map φ.av)=l.map φ.av:=by rw[fm,di];exact dz fun p hp=>φ.dH n k p (h p hp)
 simp only[exp,fu hc,this]
theorem MG(p:φ):p.ix.length<=p.wt:=by have:=ζ.zo p.ix;simp only[φ.wt];omega
theorem f258(c:Γ)(hc:aJ c)(ns:List aI)(d:Int)(L:bw)(hs:eE ns d L)(hl:ns.length<1000000000000)(cp:Γ)(vX:aJ cp)(pl:List φ)(cm:∀p∈pl,p.Ok)(hw:gH pl<1000000000000)(m:Mem):
  kf u 258 [.list cp (pl.map φ.av),cZ c ns] m=some (.n (first (cx L) pl),m):=by
 have hlen:=MF pl;refine bz (g:=F0) rfl rfl rfl ?_;simp only[ah,aw,HX vX cm,lF hc,F0,O_];let K:St->Prop:=fun st=>st.e 0= .list cp (pl.map φ.av)/\st.e 1=cZ c ns/\st.mem= {ε:=m.ε,η:=[]};refine χ (K) (by simp[K]) fun s1 ⟨h1,h2,h3⟩=>?_;refine aZ (fun st=>K st/\first (cx L) pl=0) ?_ fun s2 ⟨⟨h1,h2,h3⟩,h6⟩=>by simp[h3,h6]
 let I:Nat->St->Prop:=fun i st=>K st/\st.e 5= .n i/\∀j (hj:j<pl.length),j<i->cx L pl[j]=0;refine χ (I 0) (by simp[I,K,h1,h2,h3]) fun s4 hI=>?_;refine κ.block (κ.upto (I:=I) pl.length hI (fun i st ν τ=>?_) (fun st τ=>?_))
 ·obtain⟨⟨h1,h2,h3⟩,q1,q2⟩:=τ;have ej:aT .i64 ((i:Int)+1)=(i:Int)+1:=wrap_i64 (by omega) (by omega);have hm:pl[i]∈pl:=cz ν;have Ag:=cm _ hm;have hwp:=φ.my hm;have cD:=MG pl[i];have G9:=f260 (u:=u) c hc ns d L hs pl[i].name hl;have fR:∀y∈pl[i].ix,∀m,kf u 103 [y.av,cZ c ns,.bool true] m=some (.n (y.err (cT L) 1),m):=fun y hy m=>f103 (u:=u) c hc ns d L hs hl y (Ag.2.2 y hy).1 (by have:=ζ.vG hy;simp only[φ.wt]at hwp;omega) m;let J:St->Prop:=fun st=>K st/\st.e 5= .n i;have aag:cx L pl[i]=0->∀j (hj:j<pl.length),j<i+1->cx L pl[j]=0:=fun hz j hj jD=>tw (P:=fun j=>∀hj:j<pl.length,cx L pl[j]=0) (n:=pl.length) (fun j a b c=>q2 j c b) (fun _=>hz) j hj jD hj;have p_:cx L pl[i]≠0->first (cx L) pl=cx L pl[i]:=fun hz=>zw ν q2 hz
  refine χ (J) (by simp[J,K,h1,h2,h3,q1,ν]) fun s5 ⟨⟨h1,h2,h3⟩,q1⟩=>?_;refine aZ (fun st=>J st/\cx L pl[i]=0) ?_ fun s6 ⟨⟨⟨h1,h2,h3⟩,q1⟩,hz⟩=>by simp[I,K,h1,h2,h3,q1,ej];exact aag hz
  refine κ.block ?_;by_cases hr:(L pl[i].name).n4=true
  case neg=>
   have fZ:(L pl[i].name).n4=false:=by simpa using hr
   have jh:cx L pl[i]=1:=by simp[cx,fZ]
   have Cd:=p_ (by rw[jh];decide);rw[jh]at Cd;rw[fZ]at G9;refine aZ (fun _=>False) ?_ fun _ h=>h.elim;simp[K,h1,h2,h3,q1,ν,G9,φ.av,Cd]
  rw[hr]at G9;refine χ (J) (by simp[J,K,h1,h2,h3,q1,ν,G9,φ.av]) fun s5 ⟨⟨h1,h2,h3⟩,q1⟩=>?_;by_cases KT:2<pl[i].ix.length
  ·have jh:cx L pl[i]=2:=by simp[cx,hr,KT]
   have Cd:=p_ (by rw[jh];decide);rw[jh]at Cd;have KU:(2:Int)<(pl[i].ix.length:Int):=by omega
   refine aZ (fun _=>False) ?_ fun _ h=>h.elim;simp[K,h1,h2,h3,q1,ν,φ.av,KU,Cd]
  have KU:¬(2:Int)<(pl[i].ix.length:Int):=by omega
  have jh:cx L pl[i]=first (ζ.err (cT L) 1) pl[i].ix:=by simp[cx,hr,KT]
  refine χ (J) (by simp[J,K,h1,h2,h3,q1,ν,φ.av,KU]) fun s5 ⟨⟨h1,h2,h3⟩,q1⟩=>?_;rw[jh]at p_⊢;let I2:Nat->St->Prop:=fun j st=>J st/\st.e 6= .n j/\∀k (hk:k<pl[i].ix.length),k<j->(pl[i].ix[k]).err (cT L) 1=0;refine χ (I2 0) (by simp[I2,J,K,h1,h2,h3,q1]) fun s4 hI=>?_;refine κ.block (κ.loop (I:=I2) pl[i].ix.length hI fun j st hj τ=>?_);obtain⟨⟨⟨h1,h2,h3⟩,q1⟩,q3,q4⟩:=τ;rcases bP j pl[i].ix.length with cY|Rp
  ·have pz:aT .i64 ((j:Int)+1)=(j:Int)+1:=wrap_i64 (by omega) (by omega);have hx:=fR _ (cz cY);by_cases hz:(pl[i].ix[j]).err (cT L) 1=0
   ·left;refine⟨cY,?_⟩;have q5:=tw (P:=fun k=>∀hk:k<pl[i].ix.length,(pl[i].ix[k]).err (cT L) 1=0) (n:=pl[i].ix.length) (fun j a b c=>q4 j c b) (fun _=>hz);rw[hz]at hx;simp only[ζ.gA]at hx;have xX:=ζ.fK pl[i].ix[j];have jX:(pl[i].ix[j]).four.take 4=(pl[i].ix[j]).four:=dY (by omega);simp[I2,J,K,HB,h1,h2,h3,q1,q3,ν,cY,hx,pz,φ.av,ζ.gA,xX,jX];exact fun j hj jD=>q5 j hj jD hj
   ·right;have Rl:=zw cY q4 hz;have Rm:=p_ (by rw[Rl];exact hz);rw[Rl]at Rm;have e1:=bne_true hz;simp only[ζ.gA]at hx;have xX:=ζ.fK pl[i].ix[j];have jX:(pl[i].ix[j]).four.take 4=(pl[i].ix[j]).four:=dY (by omega);simp[K,HB,h1,h2,h3,q1,q3,ν,cY,hx,e1,φ.av,ζ.gA,xX,jX,Rm]
  ·right;have:j=pl[i].ix.length:=by omega
   subst this;have hz:=zu (f:=ζ.err (cT L) 1) fun j hj=>q4 j hj hj;simp[J,K,HB,h1,h2,h3,q1,q3,ν,φ.av,hz]
 ·obtain⟨⟨h1,h2,h3⟩,q1,q2⟩:=τ;have hz:=zu (f:=cx L) fun j hj=>q2 j hj hj;simp[K,SO,h1,h2,h3,q1,hz]
def dA(c:Γ)(ps:List ω):AV:= .agg [.list c (ps.map ω.av)]
theorem JL{n:Nat}{k:Bool}{c:Γ}(hc:aJ c){ps:List ω}(h:∀x∈ps,x.Ok):exp n k (.list c (ps.map ω.av))= .list c (ps.map ω.av):=by
 have:bn n k (ps.map ω.av)=ps.map ω.av:=by rw[fm,di];exact dz fun p hp=>ω.dH n k p (h p hp)
 simp only[exp,fu hc,this]
theorem l0{n:Nat}{k:Bool}{c:Γ}(hc:aJ c){ps:List ω}(h:∀x∈ps,x.Ok):exp n k (dA c ps)=dA c ps:=by have:=JL (n:=n) (k:=k) hc h;simp only[dA,exp,bn]at this⊢;rw[this]
theorem T_(ps:List ω)(s:List Nat):(pG ps s= -1/\ob ps s=none)\/∃(n:Nat) (q:ω),pG ps s=(n:Int)/\ob ps s=some n/\ps[n]?=some q/\n<ps.length:=by
 unfold pG;cases h:ob ps s with
 |none=>exact .inl ⟨rfl,rfl⟩
 |some n=>
  rw[ob,tf]at h
  obtain⟨h1,h2,_⟩:=h;exact .inr ⟨n,ps[n],rfl,rfl,eo h1,h1⟩
theorem XB(aN:Γ)(cu:aJ aN)(ps:List ω)(bo:∀x∈ps,x.Ok)(cm:ps.length<1000000000000)(own:Nat)(x:δ)(hx:x.Ok)(fN:x.wt<1000000000000)
  (c:Γ) (hc:aJ c) (ns:List aI) (d:Int) (L:bw) (hs:eE ns d L) (hl:ns.length<1000000000000) (m:Mem) (je:x.kind=1):
  kf u 218 [dA aN ps,.n own,x.av,cZ c ns,.n d] m=some (.n (c8 ps own L x),m):=by
 refine bz (g:=jN) rfl rfl rfl ?_;simp only[ah,aw,δ.dH _ _ _ hx,lF hc,l0 cu bo];simp only[exp,jN,c218];obtain⟨k,g,nm,cp,pl,size,to,cb,body,ce,aA⟩:=x;simp only[δ.Ok]at hx;simp only[δ.wt]at fN;have lE:=fun m=>f99 (u:=u) g 1 12 m;have qR:=fun m=>f257 (u:=u) g m;have mI:=fun m=>f258 (u:=u) c hc ns d L hs hl cp hx.2.1 pl hx.2.2.1 (by omega) m;have mJ:=fun m=>f259 (u:=u) c hc ns d L hs nm hl m;have o_:=fun m=>f103 (u:=u) c hc ns d L hs hl size hx.2.2.2.1.1 (by omega) m;have r_:=fun m=>f103 (u:=u) c hc ns d L hs hl to hx.2.2.2.2.1.1 (by omega) m;have eQ:=fun m=>f165 (u:=u) c hc ns nm hl m;have jM:=fun m=>f260 (u:=u) c hc ns d L hs nm hl m;have lD:=fun m=>f150 (u:=u) aN cu ps bo nm cm m;obtain⟨nn,w,e',hf,h0,h5,hL,-⟩:=nS hs nm;rw[hf]at eQ;simp only[aI.av]at eQ;have hw:w=0\/w=1\/w=2\/w=3\/w=4\/w=5:=by omega
 simp only[c8];have jh:∀p,pl=[p]->first (cx L) pl=cx L p:=fun p hp=>by subst hp;simp only[first];split<;>simp_all
 generalize first (cx L) pl=pe at*
 generalize ek L nm=ne at*;generalize size.err (cT L) 1=se at*;generalize to.err (cT L) 1=te at*;obtain⟨k1,n1,s1,c1,l1⟩:=size;obtain⟨k2,n2,s2,c2,l2⟩:=to;simp only[ζ.av,dA]at*;simp only[δ.kind]at je;subst je;by_cases hg:g<1\/12<g
 ·have:(decide (g<1)||decide (g>12))=true:=by simpa using hg
  rw[this]at lE;simp[δ.av,δ.cells,ζ.four,lE,hg]
 ·have:(decide (g<1)||decide (g>12))=false:=by simp;omega
  rw[this]at lE;by_cases uP:pl.length=gT g
  ·have:((pl.length:Int) !=(gT g:Int))=false:=by simp;omega
   simp[δ.av,δ.cells,ζ.four,lE,qR,b_,cj,this,hg,uP,mI]
  ·have:((pl.length:Int) !=(gT g:Int))=true:=by simp;omega
   simp[δ.av,δ.cells,ζ.four,lE,qR,b_,cj,this,hg,uP]
theorem XE(aN:Γ)(cu:aJ aN)(ps:List ω)(bo:∀x∈ps,x.Ok)(cm:ps.length<1000000000000)(own:Nat)(x:δ)(hx:x.Ok)(fN:x.wt<1000000000000)
  (c:Γ) (hc:aJ c) (ns:List aI) (d:Int) (L:bw) (hs:eE ns d L) (hl:ns.length<1000000000000) (m:Mem) (Rw:x.kind=2\/x.kind=4):
  kf u 218 [dA aN ps,.n own,x.av,cZ c ns,.n d] m=some (.n (c8 ps own L x),m):=by
 refine bz (g:=jN) rfl rfl rfl ?_;simp only[ah,aw,δ.dH _ _ _ hx,lF hc,l0 cu bo];simp only[exp,jN,c218];obtain⟨k,g,nm,cp,pl,size,to,cb,body,ce,aA⟩:=x;simp only[δ.Ok]at hx;simp only[δ.wt]at fN;have lE:=fun m=>f99 (u:=u) g 1 12 m;have qR:=fun m=>f257 (u:=u) g m;have mI:=fun m=>f258 (u:=u) c hc ns d L hs hl cp hx.2.1 pl hx.2.2.1 (by omega) m;have mJ:=fun m=>f259 (u:=u) c hc ns d L hs nm hl m;have o_:=fun m=>f103 (u:=u) c hc ns d L hs hl size hx.2.2.2.1.1 (by omega) m;have r_:=fun m=>f103 (u:=u) c hc ns d L hs hl to hx.2.2.2.2.1.1 (by omega) m;have eQ:=fun m=>f165 (u:=u) c hc ns nm hl m;have jM:=fun m=>f260 (u:=u) c hc ns d L hs nm hl m;have lD:=fun m=>f150 (u:=u) aN cu ps bo nm cm m;obtain⟨nn,w,e',hf,h0,h5,hL,-⟩:=nS hs nm;rw[hf]at eQ;simp only[aI.av]at eQ;have hw:w=0\/w=1\/w=2\/w=3\/w=4\/w=5:=by omega
 simp only[c8];have jh:∀p,pl=[p]->first (cx L) pl=cx L p:=fun p hp=>by subst hp;simp only[first];split<;>simp_all
 generalize first (cx L) pl=pe at*
 generalize ek L nm=ne at*;generalize size.err (cT L) 1=se at*;generalize to.err (cT L) 1=te at*;obtain⟨k1,n1,s1,c1,l1⟩:=size;obtain⟨k2,n2,s2,c2,l2⟩:=to;simp only[ζ.av,dA]at*;simp only[δ.kind]at Rw;rcases Rw with rfl|rfl
 ·by_cases hn:ne=0
  ·subst hn;simp[δ.av,δ.cells,ζ.four,mJ,o_]
  ·simp[δ.av,δ.cells,ζ.four,mJ,bne_true hn,hn]
 ·by_cases hn:ne=0
  ·subst hn;simp[δ.av,δ.cells,ζ.four,mJ,o_]
  ·simp[δ.av,δ.cells,ζ.four,mJ,bne_true hn,hn]
theorem XF(aN:Γ)(cu:aJ aN)(ps:List ω)(bo:∀x∈ps,x.Ok)(cm:ps.length<1000000000000)(own:Nat)(x:δ)(hx:x.Ok)(fN:x.wt<1000000000000)
  (c:Γ) (hc:aJ c) (ns:List aI) (d:Int) (L:bw) (hs:eE ns d L) (hl:ns.length<1000000000000) (m:Mem) (jR:x.kind=3):
  kf u 218 [dA aN ps,.n own,x.av,cZ c ns,.n d] m=some (.n (c8 ps own L x),m):=by
 refine bz (g:=jN) rfl rfl rfl ?_;simp only[ah,aw,δ.dH _ _ _ hx,lF hc,l0 cu bo];simp only[exp,jN,c218];obtain⟨k,g,nm,cp,pl,size,to,cb,body,ce,aA⟩:=x;simp only[δ.Ok]at hx;simp only[δ.wt]at fN;have lE:=fun m=>f99 (u:=u) g 1 12 m;have qR:=fun m=>f257 (u:=u) g m;have mI:=fun m=>f258 (u:=u) c hc ns d L hs hl cp hx.2.1 pl hx.2.2.1 (by omega) m;have mJ:=fun m=>f259 (u:=u) c hc ns d L hs nm hl m;have o_:=fun m=>f103 (u:=u) c hc ns d L hs hl size hx.2.2.2.1.1 (by omega) m;have r_:=fun m=>f103 (u:=u) c hc ns d L hs hl to hx.2.2.2.2.1.1 (by omega) m;have eQ:=fun m=>f165 (u:=u) c hc ns nm hl m;have jM:=fun m=>f260 (u:=u) c hc ns d L hs nm hl m;have lD:=fun m=>f150 (u:=u) aN cu ps bo nm cm m;obtain⟨nn,w,e',hf,h0,h5,hL,-⟩:=nS hs nm;rw[hf]at eQ;simp only[aI.av]at eQ;have hw:w=0\/w=1\/w=2\/w=3\/w=4\/w=5:=by omega
 simp only[c8];have jh:∀p,pl=[p]->first (cx L) pl=cx L p:=fun p hp=>by subst hp;simp only[first];split<;>simp_all
 generalize first (cx L) pl=pe at*
 generalize ek L nm=ne at*;generalize size.err (cT L) 1=se at*;generalize to.err (cT L) 1=te at*;obtain⟨k1,n1,s1,c1,l1⟩:=size;obtain⟨k2,n2,s2,c2,l2⟩:=to;simp only[ζ.av,dA]at*;simp only[δ.kind]at jR;subst jR;simp only[hL]at jM⊢;rcases hw with rfl|rfl|rfl|rfl|rfl|rfl
 ·simp[f_,lB.n4]at jM;simp[δ.av,δ.cells,ζ.four,eQ,jM,f_]
 ·simp[f_,lB.n4]at jM;simp[δ.av,δ.cells,ζ.four,eQ,jM,f_]
 ·simp[f_,lB.n4]at jM;by_cases hd:e'=d
  ·subst hd;simp[δ.av,δ.cells,ζ.four,eQ,jM,f_]
  ·simp[δ.av,δ.cells,ζ.four,eQ,jM,f_,hd,bne_true hd]
 ·simp[f_,lB.n4]at jM;simp[δ.av,δ.cells,ζ.four,eQ,jM,f_]
 ·simp[f_,lB.n4]at jM;simp[δ.av,δ.cells,ζ.four,eQ,jM,f_]
 ·simp[f_,lB.n4]at jM;simp[δ.av,δ.cells,ζ.four,eQ,jM,f_]
theorem XG(aN:Γ)(cu:aJ aN)(ps:List ω)(bo:∀x∈ps,x.Ok)(cm:ps.length<1000000000000)(own:Nat)(x:δ)(hx:x.Ok)(fN:x.wt<1000000000000)
  (c:Γ) (hc:aJ c) (ns:List aI) (d:Int) (L:bw) (hs:eE ns d L) (hl:ns.length<1000000000000) (m:Mem) (jT:x.kind=5):
  kf u 218 [dA aN ps,.n own,x.av,cZ c ns,.n d] m=some (.n (c8 ps own L x),m):=by
 refine bz (g:=jN) rfl rfl rfl ?_;simp only[ah,aw,δ.dH _ _ _ hx,lF hc,l0 cu bo];simp only[exp,jN,c218];obtain⟨k,g,nm,cp,pl,size,to,cb,body,ce,aA⟩:=x;simp only[δ.Ok]at hx;simp only[δ.wt]at fN;have lE:=fun m=>f99 (u:=u) g 1 12 m;have qR:=fun m=>f257 (u:=u) g m;have mI:=fun m=>f258 (u:=u) c hc ns d L hs hl cp hx.2.1 pl hx.2.2.1 (by omega) m;have mJ:=fun m=>f259 (u:=u) c hc ns d L hs nm hl m;have o_:=fun m=>f103 (u:=u) c hc ns d L hs hl size hx.2.2.2.1.1 (by omega) m;have r_:=fun m=>f103 (u:=u) c hc ns d L hs hl to hx.2.2.2.2.1.1 (by omega) m;have eQ:=fun m=>f165 (u:=u) c hc ns nm hl m;have jM:=fun m=>f260 (u:=u) c hc ns d L hs nm hl m;have lD:=fun m=>f150 (u:=u) aN cu ps bo nm cm m;obtain⟨nn,w,e',hf,h0,h5,hL,-⟩:=nS hs nm;rw[hf]at eQ;simp only[aI.av]at eQ;have hw:w=0\/w=1\/w=2\/w=3\/w=4\/w=5:=by omega
 simp only[c8];have jh:∀p,pl=[p]->first (cx L) pl=cx L p:=fun p hp=>by subst hp;simp only[first];split<;>simp_all
 generalize first (cx L) pl=pe at*
 generalize ek L nm=ne at*;generalize size.err (cT L) 1=se at*;generalize to.err (cT L) 1=te at*;obtain⟨k1,n1,s1,c1,l1⟩:=size;obtain⟨k2,n2,s2,c2,l2⟩:=to;simp only[ζ.av,dA]at*;simp only[δ.kind]at jT;subst jT;rcases pl with _|⟨p,_|⟨q,rest⟩⟩
 ·simp[δ.av,δ.cells,ζ.four]
 ·have Cx:=jh p rfl;subst Cx;simp only[ah,aw]at mI;simp only[hL];by_cases hz:cx L p=0
  ·rw[hz]at mI;rcases hw with rfl|rfl|rfl|rfl|rfl|rfl<;>simp[δ.av,δ.cells,ζ.four,mI,eQ,mJ,f_,hz]
  ·simp[δ.av,δ.cells,ζ.four,mI,bne_true hz,hz]
 ·have:((rest.length:Int)+1+1 !=1)=true:=by simp;omega
  simp[δ.av,δ.cells,ζ.four,this]
theorem XH(aN:Γ)(cu:aJ aN)(ps:List ω)(bo:∀x∈ps,x.Ok)(cm:ps.length<1000000000000)(own:Nat)(x:δ)(hx:x.Ok)(fN:x.wt<1000000000000)
  (c:Γ) (hc:aJ c) (ns:List aI) (d:Int) (L:bw) (hs:eE ns d L) (hl:ns.length<1000000000000) (m:Mem) (uL:x.kind=6):
  kf u 218 [dA aN ps,.n own,x.av,cZ c ns,.n d] m=some (.n (c8 ps own L x),m):=by
 refine bz (g:=jN) rfl rfl rfl ?_;simp only[ah,aw,δ.dH _ _ _ hx,lF hc,l0 cu bo];simp only[exp,jN,c218];obtain⟨k,g,nm,cp,pl,size,to,cb,body,ce,aA⟩:=x;simp only[δ.Ok]at hx;simp only[δ.wt]at fN;have lE:=fun m=>f99 (u:=u) g 1 12 m;have qR:=fun m=>f257 (u:=u) g m;have mI:=fun m=>f258 (u:=u) c hc ns d L hs hl cp hx.2.1 pl hx.2.2.1 (by omega) m;have mJ:=fun m=>f259 (u:=u) c hc ns d L hs nm hl m;have o_:=fun m=>f103 (u:=u) c hc ns d L hs hl size hx.2.2.2.1.1 (by omega) m;have r_:=fun m=>f103 (u:=u) c hc ns d L hs hl to hx.2.2.2.2.1.1 (by omega) m;have eQ:=fun m=>f165 (u:=u) c hc ns nm hl m;have jM:=fun m=>f260 (u:=u) c hc ns d L hs nm hl m;have lD:=fun m=>f150 (u:=u) aN cu ps bo nm cm m;obtain⟨nn,w,e',hf,h0,h5,hL,-⟩:=nS hs nm;rw[hf]at eQ;simp only[aI.av]at eQ;have hw:w=0\/w=1\/w=2\/w=3\/w=4\/w=5:=by omega
 simp only[c8];have jh:∀p,pl=[p]->first (cx L) pl=cx L p:=fun p hp=>by subst hp;simp only[first];split<;>simp_all
 generalize first (cx L) pl=pe at*
 generalize ek L nm=ne at*;generalize size.err (cT L) 1=se at*;generalize to.err (cT L) 1=te at*;obtain⟨k1,n1,s1,c1,l1⟩:=size;obtain⟨k2,n2,s2,c2,l2⟩:=to;simp only[ζ.av,dA]at*;simp only[δ.kind]at uL;subst uL;rcases pl with _|⟨p,_|⟨q,rest⟩⟩
 ·simp[δ.av,δ.cells,ζ.four]
 ·have Cx:=jh p rfl;subst Cx;simp only[ah,aw]at mI;simp[δ.av,δ.cells,ζ.four,mI]
 ·have:((rest.length:Int)+1+1 !=1)=true:=by simp;omega
  simp[δ.av,δ.cells,ζ.four,this]
theorem XI(aN:Γ)(cu:aJ aN)(ps:List ω)(bo:∀x∈ps,x.Ok)(cm:ps.length<1000000000000)(own:Nat)(x:δ)(hx:x.Ok)(fN:x.wt<1000000000000)
  (c:Γ) (hc:aJ c) (ns:List aI) (d:Int) (L:bw) (hs:eE ns d L) (hl:ns.length<1000000000000) (m:Mem) (uM:x.kind=7):
  kf u 218 [dA aN ps,.n own,x.av,cZ c ns,.n d] m=some (.n (c8 ps own L x),m):=by
 refine bz (g:=jN) rfl rfl rfl ?_;simp only[ah,aw,δ.dH _ _ _ hx,lF hc,l0 cu bo];simp only[exp,jN,c218];obtain⟨k,g,nm,cp,pl,size,to,cb,body,ce,aA⟩:=x;simp only[δ.Ok]at hx;simp only[δ.wt]at fN;have lE:=fun m=>f99 (u:=u) g 1 12 m;have qR:=fun m=>f257 (u:=u) g m;have mI:=fun m=>f258 (u:=u) c hc ns d L hs hl cp hx.2.1 pl hx.2.2.1 (by omega) m;have mJ:=fun m=>f259 (u:=u) c hc ns d L hs nm hl m;have o_:=fun m=>f103 (u:=u) c hc ns d L hs hl size hx.2.2.2.1.1 (by omega) m;have r_:=fun m=>f103 (u:=u) c hc ns d L hs hl to hx.2.2.2.2.1.1 (by omega) m;have eQ:=fun m=>f165 (u:=u) c hc ns nm hl m;have jM:=fun m=>f260 (u:=u) c hc ns d L hs nm hl m;have lD:=fun m=>f150 (u:=u) aN cu ps bo nm cm m;obtain⟨nn,w,e',hf,h0,h5,hL,-⟩:=nS hs nm;rw[hf]at eQ;simp only[aI.av]at eQ;have hw:w=0\/w=1\/w=2\/w=3\/w=4\/w=5:=by omega
 simp only[c8];have jh:∀p,pl=[p]->first (cx L) pl=cx L p:=fun p hp=>by subst hp;simp only[first];split<;>simp_all
 generalize first (cx L) pl=pe at*
 generalize ek L nm=ne at*;generalize size.err (cT L) 1=se at*;generalize to.err (cT L) 1=te at*;obtain⟨k1,n1,s1,c1,l1⟩:=size;obtain⟨k2,n2,s2,c2,l2⟩:=to;simp only[ζ.av,dA]at*;simp only[δ.kind]at uM;subst uM;simp only[hL];rcases hw with rfl|rfl|rfl|rfl|rfl|rfl<;>simp[δ.av,δ.cells,ζ.four,eQ,f_]
theorem XJ(aN:Γ)(cu:aJ aN)(ps:List ω)(bo:∀x∈ps,x.Ok)(cm:ps.length<1000000000000)(own:Nat)(x:δ)(hx:x.Ok)(fN:x.wt<1000000000000)
  (c:Γ) (hc:aJ c) (ns:List aI) (d:Int) (L:bw) (hs:eE ns d L) (hl:ns.length<1000000000000) (m:Mem) (uN:x.kind=8):
  kf u 218 [dA aN ps,.n own,x.av,cZ c ns,.n d] m=some (.n (c8 ps own L x),m):=by
 refine bz (g:=jN) rfl rfl rfl ?_;simp only[ah,aw,δ.dH _ _ _ hx,lF hc,l0 cu bo];simp only[exp,jN,c218];obtain⟨k,g,nm,cp,pl,size,to,cb,body,ce,aA⟩:=x;simp only[δ.Ok]at hx;simp only[δ.wt]at fN;have lE:=fun m=>f99 (u:=u) g 1 12 m;have qR:=fun m=>f257 (u:=u) g m;have mI:=fun m=>f258 (u:=u) c hc ns d L hs hl cp hx.2.1 pl hx.2.2.1 (by omega) m;have mJ:=fun m=>f259 (u:=u) c hc ns d L hs nm hl m;have o_:=fun m=>f103 (u:=u) c hc ns d L hs hl size hx.2.2.2.1.1 (by omega) m;have r_:=fun m=>f103 (u:=u) c hc ns d L hs hl to hx.2.2.2.2.1.1 (by omega) m;have eQ:=fun m=>f165 (u:=u) c hc ns nm hl m;have jM:=fun m=>f260 (u:=u) c hc ns d L hs nm hl m;have lD:=fun m=>f150 (u:=u) aN cu ps bo nm cm m;obtain⟨nn,w,e',hf,h0,h5,hL,-⟩:=nS hs nm;rw[hf]at eQ;simp only[aI.av]at eQ;have hw:w=0\/w=1\/w=2\/w=3\/w=4\/w=5:=by omega
 simp only[c8];have jh:∀p,pl=[p]->first (cx L) pl=cx L p:=fun p hp=>by subst hp;simp only[first];split<;>simp_all
 generalize first (cx L) pl=pe at*
 generalize ek L nm=ne at*;generalize size.err (cT L) 1=se at*;generalize to.err (cT L) 1=te at*;obtain⟨k1,n1,s1,c1,l1⟩:=size;obtain⟨k2,n2,s2,c2,l2⟩:=to;simp only[ζ.av,dA]at*;simp only[δ.kind]at uN;subst uN;by_cases hn:ne=0
 ·subst hn;by_cases kx:se=0
  ·subst kx;simp[δ.av,δ.cells,ζ.four,mJ,o_,r_]
  ·simp[δ.av,δ.cells,ζ.four,mJ,o_,bne_true kx,kx]
 ·simp[δ.av,δ.cells,ζ.four,mJ,bne_true hn,hn]
theorem XK(aN:Γ)(cu:aJ aN)(ps:List ω)(bo:∀x∈ps,x.Ok)(cm:ps.length<1000000000000)(own:Nat)(x:δ)(hx:x.Ok)(fN:x.wt<1000000000000)
  (c:Γ) (hc:aJ c) (ns:List aI) (d:Int) (L:bw) (hs:eE ns d L) (hl:ns.length<1000000000000) (m:Mem) (uO:x.kind=9):
  kf u 218 [dA aN ps,.n own,x.av,cZ c ns,.n d] m=some (.n (c8 ps own L x),m):=by
 refine bz (g:=jN) rfl rfl rfl ?_;simp only[ah,aw,δ.dH _ _ _ hx,lF hc,l0 cu bo];simp only[exp,jN,c218];obtain⟨k,g,nm,cp,pl,size,to,cb,body,ce,aA⟩:=x;simp only[δ.Ok]at hx;simp only[δ.wt]at fN;have lE:=fun m=>f99 (u:=u) g 1 12 m;have qR:=fun m=>f257 (u:=u) g m;have mI:=fun m=>f258 (u:=u) c hc ns d L hs hl cp hx.2.1 pl hx.2.2.1 (by omega) m;have mJ:=fun m=>f259 (u:=u) c hc ns d L hs nm hl m;have o_:=fun m=>f103 (u:=u) c hc ns d L hs hl size hx.2.2.2.1.1 (by omega) m;have r_:=fun m=>f103 (u:=u) c hc ns d L hs hl to hx.2.2.2.2.1.1 (by omega) m;have eQ:=fun m=>f165 (u:=u) c hc ns nm hl m;have jM:=fun m=>f260 (u:=u) c hc ns d L hs nm hl m;have lD:=fun m=>f150 (u:=u) aN cu ps bo nm cm m;obtain⟨nn,w,e',hf,h0,h5,hL,-⟩:=nS hs nm;rw[hf]at eQ;simp only[aI.av]at eQ;have hw:w=0\/w=1\/w=2\/w=3\/w=4\/w=5:=by omega
 simp only[c8];have jh:∀p,pl=[p]->first (cx L) pl=cx L p:=fun p hp=>by subst hp;simp only[first];split<;>simp_all
 generalize first (cx L) pl=pe at*
 generalize ek L nm=ne at*;generalize size.err (cT L) 1=se at*;generalize to.err (cT L) 1=te at*;obtain⟨k1,n1,s1,c1,l1⟩:=size;obtain⟨k2,n2,s2,c2,l2⟩:=to;simp only[ζ.av,dA]at*;simp only[δ.kind]at uO;subst uO;rcases T_ ps nm with⟨h1,h2⟩|⟨n,q,h1,h2,h3,h4⟩
 ·rw[h1]at lD;simp[δ.av,δ.cells,ζ.four,lD,h2]
 ·rw[h1]at lD;have x7:¬(n:Int)<0:=by omega
  by_cases ho:own<=n
  ·have nw:(own:Int)<=(n:Int):=by omega
   simp[δ.av,δ.cells,ζ.four,lD,h2,x7,ho,nw]
  ·have nw:¬(own:Int)<=(n:Int):=by omega
   have gi:ps[n]=q:=by rw[eo h4]at h3;simpa using h3
   by_cases tH:pl.length=q.ay.length
   ·have:((pl.length:Int) !=(q.ay.length:Int))=false:=by simp;omega
    simp[δ.av,δ.cells,ζ.four,lD,h2,x7,ho,nw,h3,gi,h4,ω.av,this,tH,mI]
   ·have:((pl.length:Int) !=(q.ay.length:Int))=true:=by simp;omega
    simp[δ.av,δ.cells,ζ.four,lD,h2,x7,ho,nw,h3,gi,h4,ω.av,this,tH]
theorem XC(aN:Γ)(cu:aJ aN)(ps:List ω)(bo:∀x∈ps,x.Ok)(cm:ps.length<1000000000000)(own:Nat)(x:δ)(hx:x.Ok)(fN:x.wt<1000000000000)
  (c:Γ) (hc:aJ c) (ns:List aI) (d:Int) (L:bw) (hs:eE ns d L) (hl:ns.length<1000000000000) (m:Mem) (wc:x.kind=10):
  kf u 218 [dA aN ps,.n own,x.av,cZ c ns,.n d] m=some (.n (c8 ps own L x),m):=by
 refine bz (g:=jN) rfl rfl rfl ?_;simp only[ah,aw,δ.dH _ _ _ hx,lF hc,l0 cu bo];simp only[exp,jN,c218];obtain⟨k,g,nm,cp,pl,size,to,cb,body,ce,aA⟩:=x;simp only[δ.Ok]at hx;simp only[δ.wt]at fN;have lE:=fun m=>f99 (u:=u) g 1 12 m;have qR:=fun m=>f257 (u:=u) g m;have mI:=fun m=>f258 (u:=u) c hc ns d L hs hl cp hx.2.1 pl hx.2.2.1 (by omega) m;have mJ:=fun m=>f259 (u:=u) c hc ns d L hs nm hl m;have o_:=fun m=>f103 (u:=u) c hc ns d L hs hl size hx.2.2.2.1.1 (by omega) m;have r_:=fun m=>f103 (u:=u) c hc ns d L hs hl to hx.2.2.2.2.1.1 (by omega) m;have eQ:=fun m=>f165 (u:=u) c hc ns nm hl m;have jM:=fun m=>f260 (u:=u) c hc ns d L hs nm hl m;have lD:=fun m=>f150 (u:=u) aN cu ps bo nm cm m;obtain⟨nn,w,e',hf,h0,h5,hL,-⟩:=nS hs nm;rw[hf]at eQ;simp only[aI.av]at eQ;have hw:w=0\/w=1\/w=2\/w=3\/w=4\/w=5:=by omega
 simp only[c8];have jh:∀p,pl=[p]->first (cx L) pl=cx L p:=fun p hp=>by subst hp;simp only[first];split<;>simp_all
 generalize first (cx L) pl=pe at*
 generalize ek L nm=ne at*;generalize size.err (cT L) 1=se at*;generalize to.err (cT L) 1=te at*;obtain⟨k1,n1,s1,c1,l1⟩:=size;obtain⟨k2,n2,s2,c2,l2⟩:=to;simp only[ζ.av,dA]at*;simp only[δ.kind]at wc;subst wc;simp[δ.av,δ.cells,ζ.four]
theorem XD(aN:Γ)(cu:aJ aN)(ps:List ω)(bo:∀x∈ps,x.Ok)(cm:ps.length<1000000000000)(own:Nat)(x:δ)(hx:x.Ok)(fN:x.wt<1000000000000)
  (c:Γ) (hc:aJ c) (ns:List aI) (d:Int) (L:bw) (hs:eE ns d L) (hl:ns.length<1000000000000) (m:Mem) (we:x.kind=11):
  kf u 218 [dA aN ps,.n own,x.av,cZ c ns,.n d] m=some (.n (c8 ps own L x),m):=by
 refine bz (g:=jN) rfl rfl rfl ?_;simp only[ah,aw,δ.dH _ _ _ hx,lF hc,l0 cu bo];simp only[exp,jN,c218];obtain⟨k,g,nm,cp,pl,size,to,cb,body,ce,aA⟩:=x;simp only[δ.Ok]at hx;simp only[δ.wt]at fN;have lE:=fun m=>f99 (u:=u) g 1 12 m;have qR:=fun m=>f257 (u:=u) g m;have mI:=fun m=>f258 (u:=u) c hc ns d L hs hl cp hx.2.1 pl hx.2.2.1 (by omega) m;have mJ:=fun m=>f259 (u:=u) c hc ns d L hs nm hl m;have o_:=fun m=>f103 (u:=u) c hc ns d L hs hl size hx.2.2.2.1.1 (by omega) m;have r_:=fun m=>f103 (u:=u) c hc ns d L hs hl to hx.2.2.2.2.1.1 (by omega) m;have eQ:=fun m=>f165 (u:=u) c hc ns nm hl m;have jM:=fun m=>f260 (u:=u) c hc ns d L hs nm hl m;have lD:=fun m=>f150 (u:=u) aN cu ps bo nm cm m;obtain⟨nn,w,e',hf,h0,h5,hL,-⟩:=nS hs nm;rw[hf]at eQ;simp only[aI.av]at eQ;have hw:w=0\/w=1\/w=2\/w=3\/w=4\/w=5:=by omega
 simp only[c8];have jh:∀p,pl=[p]->first (cx L) pl=cx L p:=fun p hp=>by subst hp;simp only[first];split<;>simp_all
 generalize first (cx L) pl=pe at*
 generalize ek L nm=ne at*;generalize size.err (cT L) 1=se at*;generalize to.err (cT L) 1=te at*;obtain⟨k1,n1,s1,c1,l1⟩:=size;obtain⟨k2,n2,s2,c2,l2⟩:=to;simp only[ζ.av,dA]at*;simp only[δ.kind]at we;subst we;simp[δ.av,δ.cells,ζ.four]
theorem XA(aN:Γ)(cu:aJ aN)(ps:List ω)(bo:∀x∈ps,x.Ok)(cm:ps.length<1000000000000)(own:Nat)(x:δ)(hx:x.Ok)(fN:x.wt<1000000000000)
  (c:Γ) (hc:aJ c) (ns:List aI) (d:Int) (L:bw) (hs:eE ns d L) (hl:ns.length<1000000000000) (m:Mem) (hk:¬(x.kind=1\/x.kind=2\/x.kind=3\/x.kind=4\/x.kind=5\/x.kind=6\/x.kind=7\/x.kind=8\/x.kind=9\/x.kind=10\/x.kind=11)):
  kf u 218 [dA aN ps,.n own,x.av,cZ c ns,.n d] m=some (.n (c8 ps own L x),m):=by
 refine bz (g:=jN) rfl rfl rfl ?_;simp only[ah,aw,δ.dH _ _ _ hx,lF hc,l0 cu bo];simp only[exp,jN,c218];obtain⟨k,g,nm,cp,pl,size,to,cb,body,ce,aA⟩:=x;simp only[δ.Ok]at hx;simp only[δ.wt]at fN;have lE:=fun m=>f99 (u:=u) g 1 12 m;have qR:=fun m=>f257 (u:=u) g m;have mI:=fun m=>f258 (u:=u) c hc ns d L hs hl cp hx.2.1 pl hx.2.2.1 (by omega) m;have mJ:=fun m=>f259 (u:=u) c hc ns d L hs nm hl m;have o_:=fun m=>f103 (u:=u) c hc ns d L hs hl size hx.2.2.2.1.1 (by omega) m;have r_:=fun m=>f103 (u:=u) c hc ns d L hs hl to hx.2.2.2.2.1.1 (by omega) m;have eQ:=fun m=>f165 (u:=u) c hc ns nm hl m;have jM:=fun m=>f260 (u:=u) c hc ns d L hs nm hl m;have lD:=fun m=>f150 (u:=u) aN cu ps bo nm cm m;obtain⟨nn,w,e',hf,h0,h5,hL,-⟩:=nS hs nm;rw[hf]at eQ;simp only[aI.av]at eQ;have hw:w=0\/w=1\/w=2\/w=3\/w=4\/w=5:=by omega
 simp only[c8];have jh:∀p,pl=[p]->first (cx L) pl=cx L p:=fun p hp=>by subst hp;simp only[first];split<;>simp_all
 generalize first (cx L) pl=pe at*
 generalize ek L nm=ne at*;generalize size.err (cT L) 1=se at*;generalize to.err (cT L) 1=te at*;obtain⟨k1,n1,s1,c1,l1⟩:=size;obtain⟨k2,n2,s2,c2,l2⟩:=to;simp only[ζ.av,dA]at*;simp only[δ.kind,not_or]at hk;obtain⟨je,xH,jR,xI,jT,uL,uM,uN,uO,wc,we⟩:=hk;simp[δ.av,δ.cells,ζ.four,dR je,dR xH,dR xI,dR jR,dR jT,dR uL,dR uM,dR uN,dR uO,dR wc,dR we,je,xH,xI,jR,jT,uL,uM,uN,uO,wc,we]
theorem f218(aN:Γ)(cu:aJ aN)(ps:List ω)(bo:∀x∈ps,x.Ok)(cm:ps.length<1000000000000)(own:Nat)(x:δ)(hx:x.Ok)(fN:x.wt<1000000000000)
  (c:Γ) (hc:aJ c) (ns:List aI) (d:Int) (L:bw) (hs:eE ns d L) (hl:ns.length<1000000000000) (m:Mem):
  kf u 218 [dA aN ps,.n own,x.av,cZ c ns,.n d] m=some (.n (c8 ps own L x),m):=by
 by_cases h1:x.kind=1
 ·exact XB aN cu ps bo cm own x hx fN c hc ns d L hs hl m h1
 by_cases xH:x.kind=2\/x.kind=4
 ·exact XE aN cu ps bo cm own x hx fN c hc ns d L hs hl m xH
 by_cases h3:x.kind=3
 ·exact XF aN cu ps bo cm own x hx fN c hc ns d L hs hl m h3
 by_cases h5:x.kind=5
 ·exact XG aN cu ps bo cm own x hx fN c hc ns d L hs hl m h5
 by_cases h6:x.kind=6
 ·exact XH aN cu ps bo cm own x hx fN c hc ns d L hs hl m h6
 by_cases h7:x.kind=7
 ·exact XI aN cu ps bo cm own x hx fN c hc ns d L hs hl m h7
 by_cases h8:x.kind=8
 ·exact XJ aN cu ps bo cm own x hx fN c hc ns d L hs hl m h8
 by_cases h9:x.kind=9
 ·exact XK aN cu ps bo cm own x hx fN c hc ns d L hs hl m h9
 by_cases aG:x.kind=10
 ·exact XC aN cu ps bo cm own x hx fN c hc ns d L hs hl m aG
 by_cases c6:x.kind=11
 ·exact XD aN cu ps bo cm own x hx fN c hc ns d L hs hl m c6
 exact XA aN cu ps bo cm own x hx fN c hc ns d L hs hl m (by omega)
theorem cell0(x:δ):x.cells.take 1=[.n x.kind]:=by cases x;rfl
theorem lY(x:δ):(x.cells.drop 2).take 1=[.str x.name]:=by cases x;rfl
theorem D9(x:δ):(x.cells.drop 12).take 1=[.list x.cb (δ.ψ x.body)]:=by obtain⟨k,g,nm,cp,pl,⟨k1,n1,s1,c1,l1⟩,⟨k2,n2,s2,c2,l2⟩,cb,body,ce,aA⟩:=x;rfl
theorem D_(x:δ):(x.cells.drop 13).take 1=[.list x.ce (δ.ψ x.aA)]:=by obtain⟨k,g,nm,cp,pl,⟨k1,n1,s1,c1,l1⟩,⟨k2,n2,s2,c2,l2⟩,cb,body,ce,aA⟩:=x;rfl
theorem zl(x:δ):x.cells.take 14=x.cells:=dY (by have:=δ.i_ x;omega)
theorem Nc{ps:List ω}{own:Nat}{L:bw}{x:δ}(h:c8 ps own L x=0)(hk:x.kind=2\/x.kind=4\/x.kind=8):L x.name= .none:=by
 obtain⟨k,g,nm,cp,pl,size,to,cb,body,ce,aA⟩:=x;simp only[δ.kind,δ.name]at hk⊢;have:ek L nm=0:=by
  rcases hk with rfl|rfl|rfl
  all_goals
   simp only[c8]at h;simp at h;split at h
   ·assumption
   ·rename_i hn;exact absurd h hn
 exact(CZ this).2
theorem agi{ps:List ω}{own:Nat}{L:bw}{x:δ}(h:c8 ps own L x=0)(hk:x.kind=5):L x.name= .none\/L x.name= .bit:=by
 obtain⟨k,g,nm,cp,pl,size,to,cb,body,ce,aA⟩:=x;simp only[δ.kind,δ.name]at hk⊢;subst hk;simp only[c8]at h;simp at h;split at h
 ·split at h
  ·split at h
   ·rename_i uE;exact .inr uE
   ·exact .inl (CZ h).2
  ·contradiction
 ·cases h
theorem Se(ps:List ω)(own:Nat)(x:δ)(L:bw):sN ps own x L=if cg x.kind then(if dF ps own x.body (inside L x.kind x.name)≠0 then dF ps own x.body (inside L x.kind x.name)else if cB x.kind then dF ps own x.aA (inside L x.kind x.name)else 0)else 0:=by cases x;rfl
theorem Xq{k:Int}(h:cg k=false):cB k=false:=by simp only[cg,cB,decide_eq_false_iff_not]at h⊢;omega
theorem agR{l:List δ}{x:δ}(h:x∈l):x.wt+l.length<=δ.bX l+1:=by
 induction l with
 |nil=>cases h
 |cons a l ih=>
  simp only[δ.bX,List.length_cons]
  have ha:=δ.vm a;have hl:=δ.uh l;rcases dX.1 h with rfl|h
  ·omega
  ·have:=ih h;omega
theorem f167(aN:Γ)(cu:aJ aN)(ps:List ω)(bo:∀x∈ps,x.Ok)(cm:ps.length<1000000000000)(own:Nat)(l:List δ):
  ∀(cb:Γ),aJ cb->δ.cW l->∀(c:Γ),aJ c->∀(ns:List aI) (d:Nat) (L:bw),eE ns d L->ns.length+δ.bX l+d<100000000000->∀m,
  kf u 167 [dA aN ps,.n own,.list cb (δ.ψ l),cZ c ns,.n d] m=some (.n (dF ps own l L),m):=by
 refine δ.lists (P:=fun l=>∀(cb:Γ),aJ cb->δ.cW l->∀(c:Γ),aJ c->∀(ns:List aI) (d:Nat) (L:bw),eE ns d L->ns.length+δ.bX l+d<100000000000->∀m,
  kf u 167 [dA aN ps,.n own,.list cb (δ.ψ l),cZ c ns,.n d] m=some (.n (dF ps own l L),m)) (fun l ih cb pX Θ c hc ns d L hs hw m=>?_) l
 refine bz (g:=E9) rfl rfl rfl ?_;simp only[ah,aw,np pX Θ,lF hc,l0 cu bo];simp only[exp,E9,c167];have gO:=δ.uh l;let K:St->Prop:=fun st=>st.e 1= .n own/\st.e 2= .list cb (δ.ψ l)/\st.e 4= .n d/\st.e 5= .Ω 5 0 0/\st.q 5=some (0,.cells [.list aN (ps.map ω.av)])/\st.mem= {ε:=m.ε,η:=[]};refine χ (fun st=>K st/\st.e 3=cZ c ns) (by simp[K,dA,aQ]) fun s1 ⟨⟨h1,h2,h3,h4,h5,h6⟩,h7⟩=>?_;refine aZ (fun st=>K st/\dF ps own l L=0) ?_ fun s2 ⟨⟨h1,h2,h3,h4,h5,h6⟩,h7⟩=>by simp[h6,h7]
 let I:Nat->St->Prop:=fun i st=>K st/\st.e 11= .n i/\∃c' eV L',aJ c'/\eE eV d L'/\eV.length<=ns.length+i/\st.e 3=cZ c' eV/\dF ps own (l.drop i) L'=dF ps own l L;refine χ (I 0) (by
  simp[I,K,h1,h2,h3,h4,h5,h6,h7]
  exact⟨c,hc,ns,L,hs,Nat.le_refl _,rfl,rfl⟩) fun s4 hI=>?_
 refine κ.block (κ.upto (I:=I) l.length hI (fun i st ν τ=>?_) (fun st τ=>?_))
 ·obtain⟨⟨h1,h2,h3,h4,h5,h6⟩,q1,c',eV,L',jb,cF,gY,q2,q3⟩:=τ;have ej:aT .i64 ((i:Int)+1)=(i:Int)+1:=wrap_i64 (by omega) (by omega);have mO:aT .i64 ((d:Int)+1)=(d:Int)+1:=wrap_i64 (by omega) (by omega);have hg:=vh l i ν;have hm:l[i]∈l:=cz ν;have gD:=δ.gb Θ _ hm;obtain⟨kN,gq⟩:=ih _ hm;have kL:=δ.my hm;have ahn:=agR hm;have fM:=δ.yI gD;have nX:=δ.zj gD;have cD:=δ.vm l[i];rw[ko ν]at q3;generalize l[i]=y at*;have BC:=fun m=>f218 (u:=u) aN cu ps bo cm own y gD (by omega) c' jb eV d L' cF (by omega) m;have tB:=fun m=>f149 (u:=u) y gD m;have w1:=fun w D m=>f166 (u:=u) c' jb eV y.name w D (by omega) m;have w2:=fun m=>f219 (u:=u) c' jb eV y.name (by omega) m;have w3:=fun m=>f165 (u:=u) c' jb eV y.name (by omega) m;have k0:=cell0 y;have k2:=lY y;have pB:=D9 y;have uZ:=D_ y;have kt:=zl y;have kl:=δ.i_ y;simp only[δ.av,dA]at hg BC tB;have hu:dF ps own (y::l.drop (i+1)) L'=if c8 ps own L' y≠0 then c8 ps own L' y else if sN ps own y L'≠0 then sN ps own y L' else dF ps own (l.drop (i+1)) (after L' y.kind y.name):=rfl;rw[hu]at q3;let J:St->Prop:=fun st=>K st/\st.e 11= .n i/\st.e 3=cZ c' eV;let J2:St->Prop:=fun st=>J st/\∃v,st.e 12= .Ω 12 v 0/\st.q 12=some (v,.cells y.cells);refine χ (J) (by simp[J,K,h1,h2,h3,h4,h5,h6,q1,q2,ν,ke]) fun s5 ⟨⟨h1,h2,h3,h4,h5,h6⟩,q1,q2⟩=>?_;refine aZ (fun st=>K st/\st.e 11= .n i/\∃c2 C1,aJ c2/\eE C1 d (after L' y.kind y.name)/\C1.length<=ns.length+(i+1)/\st.e 3=cZ c2 C1/\dF ps own (l.drop (i+1)) (after L' y.kind y.name)=dF ps own l L) ?_ fun s6 ⟨⟨h1,h2,h3,h4,h5,h6⟩,q1,c2,C1,a1,a2,a3,a4,a5⟩=>by simp[I,K,h1,h2,h3,h4,h5,h6,q1,ej];exact⟨c2,a1,C1,_,a2,a3,a4,a5⟩
  refine κ.block ?_;refine χ (J2) (by simp[J2,J,K,h1,h2,h3,h4,h5,h6,q1,q2,ν,hg,kl,kt,ke]) fun s5 ⟨⟨⟨h1,h2,h3,h4,h5,h6⟩,q1,q2⟩,v,q4,q5⟩=>?_;by_cases kx:c8 ps own L' y=0
  case neg=>
   rw[if_pos kx]at q3
   rw[q3]at kx BC;refine aZ (fun _=>False) ?_ fun _ h=>h.elim;simp[K,h1,h2,h3,h4,h5,h6,q1,q2,q4,q5,kl,kt,BC,bne_true kx,kx]
  rw[if_neg (by simpa using kx)]at q3;rw[kx]at BC;refine χ (J2) (by simp[J2,J,K,h1,h2,h3,h4,h5,h6,q1,q2,q4,q5,kl,kt,BC]) fun s5 ⟨⟨⟨h1,h2,h3,h4,h5,h6⟩,q1,q2⟩,v,q4,q5⟩=>?_;refine χ (fun st=>J2 st/\st.e 14=cZ c' eV) (by simp[J2,J,K,h1,h2,h3,h4,h5,h6,q1,q2,q4,q5]) fun s5 ⟨⟨⟨⟨h1,h2,h3,h4,h5,h6⟩,q1,q2⟩,v,q4,q5⟩,q6⟩=>?_;have uJ:=cF.inner;refine χ (fun st=>J2 st/\(y.kind=4/\st.e 14=cZ .any (eV++[⟨y.name,3,d+1⟩])\/y.kind≠4/\st.e 14=cZ c' eV)) (by
   by_cases l6:y.kind=4
   ·have w:=w1 3 (d+1);simp[J2,J,K,h1,h2,h3,h4,h5,h6,q1,q2,q4,q5,q6,kl,k0,k2,l6,mO,w]
   ·simp[J2,J,K,h1,h2,h3,h4,h5,h6,q1,q2,q4,q5,q6,kl,k0,l6,dR l6]) fun s5 ⟨⟨⟨⟨h1,h2,h3,h4,h5,h6⟩,q1,q2⟩,v,q4,q5⟩,q6⟩=>?_
  let Sc:St->Prop:=fun st=>∃ze yG,aJ ze/\eE yG (d+1) (inside L' y.kind y.name)/\yG.length<=eV.length+1/\st.e 14=cZ ze yG;refine χ (fun st=>J2 st/\Sc st) (by
   by_cases lf:y.kind=8
   ·have l6:y.kind≠4:=by omega
    have w:=w1 5 (d+1);have hn:=Nc kx (by omega);simp[J2,J,K,Sc,h1,h2,h3,h4,h5,h6,q1,q2,q4,q5,kl,k0,k2,lf,mO,w];refine⟨.any,.inr rfl,eV++[⟨y.name,5,d+1⟩],?_,by simp,rfl⟩;have:=uJ.put (Uc _ _ hn) 5 (by decide);simpa[inside,f_,lf]using this
   ·simp[J2,J,K,Sc,h1,h2,h3,h4,h5,h6,q1,q2,q4,q5,kl,k0,dR lf];rcases q6 with⟨l6,q6⟩|⟨l6,q6⟩
    ·have hn:=Nc kx (by omega);refine⟨.any,.inr rfl,eV++[⟨y.name,3,d+1⟩],?_,by simp,q6⟩;have:=uJ.put (Uc _ _ hn) 3 (by decide);simpa[inside,f_,l6]using this
    ·refine⟨c',jb,eV,?_,by omega,q6⟩;simpa[inside,l6,lf]using uJ) fun s5 ⟨⟨⟨⟨h1,h2,h3,h4,h5,h6⟩,q1,q2⟩,v,q4,q5⟩,ze,yG,b1,b2,b3,q6⟩=>?_
  have eb:=fun m=>kN y.cb nX.1 fM.1 ze b1 yG (d+1) _ (by simpa using b2) (by omega) m;have ee:=fun m=>gq y.ce nX.2 fM.2 ze b1 yG (d+1) _ (by simpa using b2) (by omega) m;simp only[dA,Int.natCast_add,Int.cast_ofNat_Int]at eb ee;rw[Se]at q3;generalize dF ps own y.body (inside L' y.kind y.name)=be at*;generalize dF ps own y.aA (inside L' y.kind y.name)=Er at*;let J3:St->Prop:=fun st=>J2 st/\st.e 14=cZ ze yG/\st.e 15= .bool (cg y.kind)/\st.e 16= .bool (cB y.kind);refine χ (J3) (by simp[J3,J2,J,K,h1,h2,h3,h4,h5,h6,q1,q2,q4,q5,q6,kl,kt,tB]) fun s5 ⟨⟨⟨⟨h1,h2,h3,h4,h5,h6⟩,q1,q2⟩,v,q4,q5⟩,q6,q7,q8⟩=>?_;let Q3:Prop:=((if cB y.kind=true then Er else 0)≠0->(if cB y.kind=true then Er else 0)=dF ps own l L)/\((if cB y.kind=true then Er else 0)=0->dF ps own (l.drop (i+1)) (after L' y.kind y.name)=dF ps own l L);refine aZ (fun st=>J3 st/\Q3) ?_ fun s6 ⟨⟨⟨⟨⟨h1,h2,h3,h4,h5,h6⟩,q1,q2⟩,v,q4,q5⟩,q6,q7,q8⟩,q9,gx⟩=>?_
  ·by_cases hb:cg y.kind=true
   case neg=>
    have aX:cg y.kind=false:=by simpa using hb
    have gW:=Xq aX;rw[aX]at q7 q3;simp only[hS,if_false,ne_eq,not_true_eq_false]at q3;have hq:Q3:=by simp[Q3,gW,q3]
    simp[J3,J2,J,K,h1,h2,h3,h4,h5,h6,q1,q2,q4,q5,q6,q7,q8,aX,hq]
   rw[hb]at q7 q3;simp only[if_true]at q3;by_cases gj:be=0
   case neg=>
    rw[if_pos (by rw[if_pos gj];exact gj),if_pos gj]at q3
    rw[q3]at gj eb;simp[K,h1,h2,h3,h4,h5,h6,q1,q2,q4,q5,q6,q7,q8,kl,pB,eb,mO,bne_true gj,gj]
   rw[if_neg (show¬be≠0 by simpa using gj)]at q3;rw[gj]at eb;have hq:Q3:=by
    refine⟨fun hz=>?_,fun hz=>?_⟩
    ·rw[if_pos hz]at q3;exact q3
    ·rw[if_neg (by simpa using hz)]at q3;exact q3
   simp[J3,J2,J,K,h1,h2,h3,h4,h5,h6,q1,q2,q4,q5,q6,q7,q8,kl,pB,eb,mO,hb,hq]
  refine aZ (fun st=>J2 st/\dF ps own (l.drop (i+1)) (after L' y.kind y.name)=dF ps own l L) ?_ fun s6 ⟨⟨⟨⟨h1,h2,h3,h4,h5,h6⟩,q1,q2⟩,v,q4,q5⟩,q3⟩=>?_
  ·by_cases he:cB y.kind=true
   case neg=>
    have gW:cB y.kind=false:=by simpa using he
    rw[gW]at q8;have hq:=gx (by simp[gW]);simp[J2,J,K,h1,h2,h3,h4,h5,h6,q1,q2,q4,q5,q6,q7,q8,hq]
   rw[he]at q8;simp only[he,if_true]at q9 gx;by_cases pq:Er=0
   case neg=>
    have hq:=q9 pq
    rw[hq]at pq ee;simp[K,h1,h2,h3,h4,h5,h6,q1,q2,q4,q5,q6,q7,q8,kl,uZ,ee,mO,bne_true pq,pq]
   have hq:=gx pq;rw[pq]at ee;simp[J2,J,K,h1,h2,h3,h4,h5,h6,q1,q2,q4,q5,q6,q7,q8,kl,uZ,ee,mO,hq]
  ·by_cases fo:y.kind=2
   ·have hn:=Nc kx (by omega);have w:=w1 2 d;simp[K,h1,h2,h3,h4,h5,h6,q1,q2,q4,q5,kl,k0,k2,fo,w];refine⟨.any,.inr rfl,eV++[⟨y.name,2,d⟩],?_,by simp;omega,rfl,by simpa[fo]using q3⟩;have:=cF.put hn 2 (by decide);simpa[after,fo,f_]using this
   by_cases jR:y.kind=3
   ·obtain⟨c3,Kn,w⟩:=w2 {ε:=m.ε,η:=[]};simp[K,h1,h2,h3,h4,h5,h6,q1,q2,q4,q5,kl,k0,k2,jR,w];refine⟨c3,Kn,_,?_,?_,rfl,by simpa[jR]using q3⟩
    ·have:=cF.del y.name;simpa[after,jR]using this
    ·have:=List.length_filter_le (fun x:aI=>x.name !=y.name) eV;omega
   by_cases jT:y.kind=5
   ·have Ae:=agi kx jT;obtain⟨nn,w,e',hf,h0,k_,hL,-⟩:=nS cF y.name;rw[hf]at w3;simp only[aI.av]at w3;rcases Ae with hn|uE
    ·have iA:w=0:=by have:=(cF.Mx y.name).1 hn;rw[hf]at this;exact this
     subst iA;have w:=w1 4 d;simp[K,h1,h2,h3,h4,h5,h6,q1,q2,q4,q5,kl,k0,k2,jT,w,w3];refine⟨.any,.inr rfl,eV++[⟨y.name,4,d⟩],?_,by simp;omega,rfl,by simpa[jT]using q3⟩;have:=cF.put hn 4 (by decide);simpa[after,jT,f_]using this
    ·have iA:w≠0:=by
      rintro rfl
      rw[hL]at uE;simp[f_]at uE
     simp[K,h1,h2,h3,h4,h5,h6,q1,q2,q4,q5,kl,k0,k2,jT,w3,dR iA];refine⟨c',jb,eV,?_,by omega,rfl,by simpa[jT]using q3⟩;simpa[after,jT,afg _ _ _ uE]using cF
   ·simp[K,h1,h2,h3,h4,h5,h6,q1,q2,q4,q5,kl,k0,k2,dR fo,dR jR,dR jT];refine⟨c',jb,eV,?_,by omega,rfl,q3⟩;simpa[after,fo,jR,jT]using cF
 ·obtain⟨⟨h1,h2,h3,h4,h5,h6⟩,q1,c',eV,L',jb,cF,gY,q2,q3⟩:=τ;rw[AZ]at q3;have hz:dF ps own l L=0:=q3.symm;simp[K,Sv,h1,h2,h3,h4,h5,h6,q1,hz,ke]
theorem ae8(ps:List ω)(k:Nat)(hk:k<ps.length):decide (pG ps ps[k].name<(k:Int))=(ps.take k).any (fun p=>p.name==ps[k].name):=by
 unfold pG;cases h:ob ps ps[k].name with
 |none=>
  rw[ob,List.findIdx?_eq_none_iff]at h
  have:=h ps[k] (cz hk);simp at this
 |some n=>
  rw[ob,tf]at h
  obtain⟨h1,h2,h3⟩:=h;by_cases hn:n<k
  ·have ha:(ps.take k).any (fun p=>p.name==ps[k].name)=true:=by rw[List.any_eq_true];refine⟨ps[n],?_,h2⟩;rw[ahD];exact⟨n,by omega,rfl⟩
   rw[ha];simp;omega
  ·have ha:(ps.take k).any (fun p=>p.name==ps[k].name)=false:=by rw[List.any_eq_false];intro x hx;rw[ahD]at hx;obtain⟨j,hj,rfl⟩:=hx;exact h3 j (by omega)
   rw[ha];simp;omega
theorem aeU(l:List aC):∀L:bw,L.inner=L->(lQ l L).inner=lQ l L:=by
 induction l with
 |nil=>exact fun _ h=>h
 |cons x l ih=>
  intro L h
  refine ih _ ?_;funext t;have:=congrFun h t;simp only[bw.inner,bw.put]at this⊢;by_cases ht:t=x.name
  ·simp[ht]
  ·simpa[ht]using this
theorem adQ:j_.inner=j_:=rfl
theorem f100(aN:Γ)(cu:aJ aN)(ps:List ω)(bo:∀x∈ps,x.Ok)(dc:kR ps<10000000000)(k:Nat)(hk:k<ps.length)(m:Mem):
  kf u 100 [dA aN ps,.n k] m=some (.n (sU ps k ps[k]),m):=by
 refine bz (g:=EI) rfl rfl rfl ?_;simp only[ah,aw,l0 cu bo];simp only[exp,EI,N'];have hlen:=C6 ps;have hm:ps[k]∈ps:=cz hk;have Θ:=bo _ hm;have kL:=ω.my hm;have ν:=ae8 ps k hk;have lD:=fun m=>f150 (u:=u) aN cu ps bo ps[k].name (by omega) m;have Eh:=fun m=>f164 (u:=u) ps[k].name m;have P_:=fun(c:Γ) (hc:aJ c) (ns:List aI) (L:bw) (hs:eE ns ((1:Nat):Int) L) (hw:ns.length+δ.bX ps[k].body+1<100000000000) (m:Mem)=>f167 (u:=u) aN cu ps bo (by omega) k ps[k].body ps[k].cb Θ.2.2.2.1 Θ.2.2.2.2.1 c hc ns 1 L hs hw m;have Xi:=fun m=>f148 (u:=u) ps[k].body ps[k].cb Θ.2.2.2.1 Θ.2.2.2.2.1 (by simp only[ω.wt]at kL;omega) m;have Rf:=δ.xq ps[k].body;simp only[ω.wt]at kL;generalize yl:ps[k]=x at*;simp only[sU];rw[<-ν];let K:St->Prop:=fun st=>st.e 1= .n k/\st.e 2= .Ω 2 0 0/\st.q 2=some (0,.cells [.list aN (ps.map ω.av)])/\st.mem= {ε:=m.ε,η:=[]};refine χ (K) (by simp[K,dA,aQ]) fun s1 ⟨h1,h2,h3,h4⟩=>?_;let J:St->Prop:=fun st=>K st/\∃v,st.e 5= .Ω 5 v 0/\st.q 5=some (v,.cells [.str x.name,.list x.cp (x.ay.map aC.av),.list x.cb (δ.ψ x.body)]);refine χ (J) (by simp[J,K,h1,h2,h3,h4,hk,yl,ω.av]) fun s1 ⟨⟨h1,h2,h3,h4⟩,v,h5,h6⟩=>?_;simp only[dA]at lD P_;cases hn:jZ x.name with
 |false=>
  rw[hn]at Eh
  refine aZ (fun _=>False) ?_ fun _ h=>h.elim;simp[h1,h2,h3,h4,h5,h6,Eh]
 |true=>
 rw[hn]at Eh
 refine χ (J) (by simp[J,K,h1,h2,h3,h4,h5,h6,Eh]) fun s1 ⟨⟨h1,h2,h3,h4⟩,v,h5,h6⟩=>?_;by_cases Ag:pG ps x.name<(k:Int)
 ·refine aZ (fun _=>False) ?_ fun _ h=>h.elim;simp[h1,h2,h3,h4,h5,h6,lD,Ag]
 refine χ (J) (by simp[J,K,h1,h2,h3,h4,h5,h6,lD,Ag]) fun s1 ⟨⟨h1,h2,h3,h4⟩,v,h5,h6⟩=>?_;by_cases uQ:4<x.ay.length
 ·have x_:(4:Int)<(x.ay.length:Int):=by omega
  refine aZ (fun _=>False) ?_ fun _ h=>h.elim;simp[h1,h2,h3,h4,h5,h6,Ag,uQ,x_]
 have x_:¬(4:Int)<(x.ay.length:Int):=by omega
 refine χ (J) (by simp[J,K,h1,h2,h3,h4,h5,h6,x_]) fun s1 ⟨⟨h1,h2,h3,h4⟩,v,h5,h6⟩=>?_;simp only[Ix,if_false,Ag,decide_false,hS,uQ];refine χ (fun st=>J st/\st.e 6=cZ .nil []) (by simp[J,K,h1,h2,h3,h4,h5,h6,cZ]) fun s1 ⟨⟨⟨h1,h2,h3,h4⟩,v,h5,h6⟩,h7⟩=>?_;refine aZ (fun st=>J st/\oa x.ay j_=0/\∃c' eV,aJ c'/\eE eV 0 (lQ x.ay j_)/\eV.length<=x.ay.length/\st.e 6=cZ c' eV) ?_ fun s1 ⟨⟨⟨h1,h2,h3,h4⟩,v,h5,h6⟩,hz,c',eV,jb,cF,gY,h7⟩=>?_
 ·let I:Nat->St->Prop:=fun i st=>J st/\st.e 7= .n i/\∃c' eV L',aJ c'/\eE eV 0 L'/\eV.length<=i/\st.e 6=cZ c' eV/\oa (x.ay.drop i) L'=oa x.ay j_/\lQ (x.ay.drop i) L'=lQ x.ay j_;refine χ (I 0) (by
   simp[I,J,K,h1,h2,h3,h4,h5,h6,h7]
   exact⟨.nil,.inl rfl,[],j_,eE.empty 0,rfl,rfl,rfl,rfl⟩) fun s4 hI=>?_
  refine κ.block (κ.loop (I:=I) x.ay.length hI fun i st hi τ=>?_);obtain⟨⟨⟨h1,h2,h3,h4⟩,v,h5,h6⟩,q1,c',eV,L',jb,cF,gY,q2,q3,q4⟩:=τ;rcases bP i x.ay.length with cY|cD
  ·have ej:aT .i64 ((i:Int)+1)=(i:Int)+1:=wrap_i64 (by omega) (by omega);rw[ko cY]at q3 q4;have f1:=fun m=>f164 (u:=u) x.ay[i].name m;have f2:=fun m=>f165 (u:=u) c' jb eV x.ay[i].name (by omega) m;have f3:=fun m=>f166 (u:=u) c' jb eV x.ay[i].name 1 0 (by omega) m;have f4:=fun m=>f99 (u:=u) x.ay[i].size 1 12 m;simp only[oa]at q3;simp only[lQ]at q4;cases ra:jZ x.ay[i].name with
   |false=>
    rw[ra]at f1 q3
    right;simp at q3;simp[At,h1,h2,h3,h4,h5,h6,q1,q2,cY,aC.av,f1,<-q3]
   |true=>
    rw[ra]at f1 q3
    simp only[Ix,if_false]at q3;by_cases bm:x.ay[i].size<1\/12<x.ay[i].size
    ·have:(decide (x.ay[i].size<1)||decide (x.ay[i].size>12))=true:=by simpa using bm
     rw[this]at f4;rw[if_pos bm]at q3;right;simp[At,h1,h2,h3,h4,h5,h6,q1,q2,cY,aC.av,f1,f4,<-q3]
    have:(decide (x.ay[i].size<1)||decide (x.ay[i].size>12))=false:=by simp;omega
    rw[this]at f4;rw[if_neg bm]at q3;obtain⟨nn,w,e',hf,h0,k_,hL,-⟩:=nS cF x.ay[i].name;rw[hf]at f2;simp only[aI.av]at f2;by_cases qh:L' x.ay[i].name= .none
    ·have iA:w=0:=by have:=(cF.Mx x.ay[i].name).1 qh;rw[hf]at this;exact this
     subst iA;rw[if_neg (by simpa using qh)]at q3;left;refine⟨cY,?_⟩;simp[I,J,K,At,h1,h2,h3,h4,h5,h6,q1,q2,cY,aC.av,f1,f2,f3,f4,ej];refine⟨.any,.inr rfl,_,_,?_,?_,rfl,q3,q4⟩
     ·have:=cF.put qh 1 (by decide);simpa[f_]using this
     ·simp;omega
    ·have iA:w≠0:=by
      rintro rfl
      apply qh;rw[hL];simp[f_]
     rw[if_pos qh]at q3;right;simp[At,h1,h2,h3,h4,h5,h6,q1,q2,cY,aC.av,f1,f2,f4,bne_true iA,<-q3]
  ·right;have:i=x.ay.length:=by omega
   subst this;rw[AZ]at q3 q4;simp only[oa]at q3;simp only[lQ]at q4;simp[J,K,At,h1,h2,h3,h4,h5,h6,q1,q2,<-q3];rw[<-q4];exact⟨c',jb,eV,cF,gY,rfl⟩
 ·rw[hz];simp only[ne_eq,not_true_eq_false,if_false];have oO:eE eV ((1:Nat):Int) (lQ x.ay j_):=by have:=cF.inner;rw[aeU _ _ adQ]at this;simpa using this
  have e:=P_ c' jb eV _ oO (by omega);have e':∀m,kf u 167 [.agg [.list aN (ps.map ω.av)],.n k,.list x.cb (δ.ψ x.body),cZ c' eV,.n 1] m=some (.n (dF ps k x.body (lQ x.ay j_)),m):=e;generalize dF ps k x.body (lQ x.ay j_)=be at*;refine χ (fun st=>J st/\st.e 6=cZ c' eV/\st.e 8= .n (δ.aU x.body)/\st.e 9= .n (δ.cH x.body)) (by simp[J,K,h1,h2,h3,h4,h5,h6,h7,Xi]) fun s1 ⟨⟨⟨h1,h2,h3,h4⟩,v,h5,h6⟩,h7,h8,h9⟩=>?_;by_cases hc:120<δ.aU x.body
  ·have jb:(120:Int)<(δ.aU x.body:Int):=by omega
   refine aZ (fun _=>False) ?_ fun _ h=>h.elim;simp[h1,h2,h3,h4,h5,h6,h8,hc,jb]
  have jd:¬(120:Int)<(δ.aU x.body:Int):=by omega
  refine χ (fun st=>J st/\st.e 6=cZ c' eV/\st.e 9= .n (δ.cH x.body)) (by simp[J,K,h1,h2,h3,h4,h5,h6,h7,h8,h9,jd]) fun s1 ⟨⟨⟨h1,h2,h3,h4⟩,v,h5,h6⟩,h7,h9⟩=>?_;by_cases hd:6<δ.cH x.body
  ·have jA:(6:Int)<(δ.cH x.body:Int):=by omega
   refine aZ (fun _=>False) ?_ fun _ h=>h.elim;simp[h1,h2,h3,h4,h5,h6,h9,hc,hd,jA]
  have gn:¬(6:Int)<(δ.cH x.body:Int):=by omega
  refine χ (fun st=>J st/\st.e 6=cZ c' eV) (by simp[J,K,h1,h2,h3,h4,h5,h6,h7,h9,gn]) fun s1 ⟨⟨⟨h1,h2,h3,h4⟩,v,h5,h6⟩,h7⟩=>?_;simp[h1,h2,h3,h4,h5,h6,h7,e',hc,hd]
theorem f22(aN:Γ)(cu:aJ aN)(ps:List ω)(bo:∀x∈ps,x.Ok)(dc:kR ps<10000000000)(m:Mem):
  kf u 22 [dA aN ps] m=some (.n (kG ps),m):=by
 refine bz (g:=g22) rfl rfl rfl ?_;simp only[ah,aw,l0 cu bo];simp only[g22,OQ];have hlen:=C6 ps;have lE:=fun m=>f99 (u:=u) ps.length 1 12 m;have Xc:=fun k hk m=>f100 (u:=u) aN cu ps bo dc k hk m;simp only[dA]at*;let K:St->Prop:=fun st=>st.e 1= .Ω 1 0 0/\st.q 1=some (0,.cells [.list aN (ps.map ω.av)])/\st.mem= {ε:=m.ε,η:=[]};refine χ (K) (by simp[K,aQ]) fun s1 ⟨h1,h2,h3⟩=>?_;unfold kG;by_cases ho:ps.length<1\/12<ps.length
 ·have:(decide ((ps.length:Int)<1)||decide ((ps.length:Int)>12))=true:=by simp;omega
  rw[this]at lE;rw[if_pos ho];refine aZ (fun _=>False) ?_ fun _ h=>h.elim;simp[h1,h2,h3,lE]
 have:(decide ((ps.length:Int)<1)||decide ((ps.length:Int)>12))=false:=by simp;omega
 rw[this]at lE;rw[if_neg ho];refine χ (K) (by simp[K,h1,h2,h3,lE]) fun s1 ⟨h1,h2,h3⟩=>?_;refine aZ (fun st=>K st/\pH ps 0 ps=0) ?_ fun s2 ⟨⟨h1,h2,h3⟩,h4⟩=>by simp[h3,h4]
 let I:Nat->St->Prop:=fun i st=>K st/\st.e 3= .n i/\pH ps i (ps.drop i)=pH ps 0 ps;refine χ (I 0) (by simp[I,K,h1,h2,h3]) fun s4 hI=>?_;refine κ.block (κ.loop (I:=I) ps.length hI fun i st hi τ=>?_);obtain⟨⟨h1,h2,h3⟩,q1,q2⟩:=τ;rcases bP i ps.length with ν|cD
 ·have ej:aT .i64 ((i:Int)+1)=(i:Int)+1:=wrap_i64 (by omega) (by omega);have e:=Xc i ν;rw[ko ν]at q2;simp only[pH]at q2;by_cases hz:sU ps i ps[i]=0
  ·rw[if_neg (by simpa using hz)]at q2;rw[hz]at e;left;refine⟨ν,?_⟩;simp[I,K,Hz,h1,h2,h3,q1,ν,e,ej,q2]
  ·rw[if_pos hz]at q2;rw[q2]at e hz;right;simp[K,Hz,h1,h2,h3,q1,ν,e,bne_true hz]
 ·right;have:i=ps.length:=by omega
  subst this;rw[AZ]at q2;simp only[pH]at q2;simp[K,Hz,h1,h2,h3,q1,<-q2]
end Go.ab.Tz
