import Derived.Test.YtiigojkfojnedaaGreatDoorQHe
set_option linter.unusedVariables false
set_option linter.unusedSimpArgs false
set_option linter.unusedSectionVars false
set_option maxRecDepth 100000
set_option maxHeartbeats 8000000
open List renaming filter_cons->ahB,mem_cons->dO,mem_append->dE,mem_filter->Dx,map_cons->ay,map_nil->aA,getElem_mem->cL,map_map->c6,map_congr_left->dt,take_of_length_le->dY,findIdx?_eq_some_iff_getElem->sZ,getElem?_eq_getElem->dr,drop_eq_getElem_cons->jR,drop_length->AJ,mem_take_iff_getElem->ahC
open Bool renaming false_eq_true->gY,true_eq_false->Ih
open Nat renaming lt_or_ge->bP
open Go.IntKind renaming wrap->a_
namespace Go.ah.Tz
open Go.ah
def fX(n:aL)(d:Int):k_:=if n.w=1\/n.w=3 then .nf false else if n.w=2 then .nf (decide (n.d=d))else if n.w=4 then .bit else if n.w=5 then .Dp else .none
structure ez (l:List aL) (d:Int) (L:bq):Prop where
 look:∀s,L s=fX (dG l s) d
 ws:∀x∈l,1<=x.w/\x.w<=5
 ds:∀x∈l,x.d<=d
theorem zh(l:List aL)(s:List Nat):dG l s=⟨[],0,0⟩\/(dG l s∈l/\(dG l s).name=s):=by
 induction l with
 |nil=>exact .inl rfl
 |cons a l ih=>
  simp only[dG]
  split
  ·rename_i h;exact .inr ⟨by simp,h⟩
  ·rcases ih with h|⟨h,h'⟩
   ·exact .inl h
   ·exact .inr ⟨by simp[h],h'⟩
theorem Xb(l:List aL)(x:aL)(s:List Nat):dG (l++[x]) s=if∃y∈l,y.name=s then dG l s else if x.name=s then x else⟨[],0,0⟩:=by
 induction l with
 |nil=>simp[dG]
 |cons a l ih=>
  simp only[List.cons_append,dG]
  by_cases h:a.name=s
  ·simp[h]
  ·simp only[h,if_false,ih];by_cases h2:∃y∈l,y.name=s
   ·simp[h2]
   ·simp[h2,h]
theorem PU{l:List aL}{s:List Nat}(h:¬∃y∈l,y.name=s):dG l s=⟨[],0,0⟩:=by
 rcases zh l s with h1|⟨h1,h2⟩
 ·exact h1
 ·exact absurd ⟨_,h1,h2⟩ h
theorem Xe(l:List aL)(t s:List Nat):dG (l.filter fun x=>x.name !=t) s=if s=t then⟨[],0,0⟩else dG l s:=by
 induction l with
 |nil=>simp[dG]
 |cons a l ih=>
  by_cases h:a.name=t
  ·simp only[ahB,h,bne_self_eq_false,gY,if_false,ih,dG];by_cases h2:s=t
   ·simp[h2]
   ·simp[h2,Ne.symm h2]
  ·have:(a.name !=t)=true:=by simpa using h
   simp only[ahB,this,if_true,dG,ih];by_cases h2:s=t
   ·subst h2;simp[h]
   ·by_cases h3:a.name=s<;>simp[h2,h3]
theorem ez.Me{l:List aL}{d:Int}{L:bq}(h:ez l d L)(s:List Nat):L s= .none↔(dG l s).w=0:=by
 rw[h.look];rcases zh l s with h1|⟨h1,_⟩
 ·simp[h1,fX]
 ·have:=h.ws _ h1;unfold fX;constructor
  ·intro he;(repeat' split at he)<;>first|(cases he;done)|omega
  ·intro he;omega
theorem ez.adD{l:List aL}{d:Int}{L:bq}(h:ez l d L){s:List Nat}(hs:L s= .none):¬∃y∈l,y.name=s:=by
 rintro⟨y,hy,he⟩
 have h0:=(h.Me s).1 hs;rcases zh l s with h1|⟨h1,_⟩
 ·
  have go:∀l:List aL,y∈l->(∀x∈l,1<=x.w/\x.w<=5)->(dG l s).w≠0:=by
   intro l;induction l with
   |nil=>intro h;cases h
   |cons a l ih=>
    intro hm hw
    simp only[dG];split
    ·have:=hw a (by simp);omega
    ·rename_i ak;rcases dO.1 hm with rfl|hm
     ·exact absurd he ak
     ·exact ih hm fun x hx=>hw x (by simp[hx])
  exact go l hy h.ws h0
 ·have:=h.ws _ h1;omega
theorem ez.put{l:List aL}{d:Int}{L:bq}(h:ez l d L){s:List Nat}(hs:L s= .none)(w:Int)(hw:1<=w/\w<=5):ez (l++[⟨s,w,d⟩]) d (L.put s (fX ⟨s,w,d⟩ d)):=by
 have hn:=h.adD hs;refine⟨fun t=>?_,fun x hx=>?_,fun x hx=>?_⟩
 ·rw[Xb];simp only[bq.put];by_cases ht:t=s
  ·subst ht;simp[hn]
  ·simp only[ht,if_false];by_cases h2:∃y∈l,y.name=t
   ·simp only[h2,if_true];exact h.look t
   ·simp only[h2,if_false,Ne.symm ht,if_false];rw[h.look t,PU h2]
 ·rcases dE.1 hx with hx|hx
  ·exact h.ws x hx
  ·simp at hx;subst hx;exact hw
 ·rcases dE.1 hx with hx|hx
  ·exact h.ds x hx
  ·simp at hx;subst hx;exact Int.le_refl _
theorem ez.del{l:List aL}{d:Int}{L:bq}(h:ez l d L)(s:List Nat):ez (l.filter fun x=>x.name !=s) d (L.put s .none):=by
 refine⟨fun t=>?_,fun x hx=>h.ws x (Dx.1 hx).1,fun x hx=>h.ds x (Dx.1 hx).1⟩;rw[Xe];simp only[bq.put];by_cases ht:t=s
 ·simp[ht,fX]
 ·simp[ht,h.look t]
theorem ez.inner{l:List aL}{d:Int}{L:bq}(h:ez l d L):ez l (d+1) L.inner:=by
 refine⟨fun t=>?_,h.ws,fun x hx=>by have:=h.ds x hx;omega⟩;simp only[bq.inner,h.look t];rcases zh l t with h1|⟨h1,_⟩
 ·simp[h1,fX]
 ·have hd:=h.ds _ h1;have ak:¬(dG l t).d=d+1:=by omega
  unfold fX
  (repeat' split)<;>simp_all
theorem Tp(L:bq)(s:List Nat)(h:L s= .none):L.inner s= .none:=by simp[bq.inner,h]
theorem ez.empty(d:Int):ez [] d jN:=⟨fun _=>rfl,fun _ h=>(by cases h),fun _ h=>(by cases h)⟩
theorem ae4(L:bq)(s:List Nat)(w:k_)(h:L s=w):L.put s w=L:=by
 funext t;simp only[bq.put];split
 ·rename_i he;rw[he,h]
 ·rfl
def kL(L:bq):Prop:=∀s,L s≠ .none->s.length<=8
theorem L_{s:List Nat}(h:jM s=true):s.length<=8:=by simp only[jM,Bool.and_eq_true,decide_eq_true_eq]at h;exact h.1.1.1.2
theorem kL.put{L:bq}(h:kL L){s:List Nat}(hs:s.length<=8)(w:k_):kL (L.put s w):=by
 intro t ht;simp only[bq.put]at ht;split at ht
 ·rename_i he;rw[he];exact hs
 ·exact h t ht
theorem kL.del{L:bq}(h:kL L)(s:List Nat):kL (L.put s .none):=by
 intro t ht;simp only[bq.put]at ht;split at ht
 ·exact absurd rfl ht
 ·exact h t ht
theorem kL.inner{L:bq}(h:kL L):kL L.inner:=by intro t ht;refine h t fun he=>ht ?_;simp[bq.inner,he]
theorem CT{L:bq}{s:List Nat}(h:dV L s=0):jM s=true/\L s= .none:=by
 unfold dV at h;split at h
 ·cases h
 ·rename_i h1;split at h
  ·cases h
  ·rename_i h2;exact⟨by simpa using h1,by simpa using h2⟩
variable{u:Nat}
attribute [local simp] exec ed dP eX aC dQ ft eL ζ gg τ fW gy gH gI AV.cells newVar gE rd wr fK single eV bY ek dF μ aY RV.get aV dB iE
theorem nE{l:List aL}{d:Int}{L:bq}(h:ez l d L)(s:List Nat):∃nn w e,dG l s=⟨nn,w,e⟩/\0<=w/\w<=5/\L s=fX ⟨nn,w,e⟩ d/\(w=0->e=0):=by
 rcases hx:dG l s with⟨nn,w,e⟩
 refine⟨nn,w,e,rfl,?_⟩;have hl:=h.look s;rw[hx]at hl;rcases zh l s with h1|⟨h1,_⟩
 ·rw[hx]at h1;cases h1;exact⟨by decide,by decide,hl,fun _=>rfl⟩
 ·have:=h.ws _ h1;rw[hx]at this;dsimp only at this;exact⟨by omega,by omega,hl,fun h0=>by omega⟩
theorem f260(c:χ)(hc:aJ c)(l:List aL)(d:Int)(L:bq)(hs:ez l d L)(s:List Nat)(hl:l.length<1000000000000)(m:Mem):kf u 260 [cH c l,.str s] m=some (.bool (L s).nK,m):=by
 have e:=f165 (u:=u) c hc l s hl;refine bD (g:=FQ) rfl rfl rfl ?_;simp only[ay,aA,lv hc];simp only[exp,FQ,OM];obtain⟨nn,w,e',hf,h0,h5,hL,-⟩:=nE hs s;rw[hf]at e;rw[hL];simp only[aL.av]at e;have hw:w=0\/w=1\/w=2\/w=3\/w=4\/w=5:=by omega
 rcases hw with rfl|rfl|rfl|rfl|rfl|rfl<;>simp[e,fX,k_.nK]
theorem f259(c:χ)(hc:aJ c)(l:List aL)(d:Int)(L:bq)(hs:ez l d L)(s:List Nat)(hl:l.length<1000000000000)(m:Mem):kf u 259 [cH c l,.str s] m=some (.int .i64 (dV L s),m):=by
 have e:=f165 (u:=u) c hc l s hl;have e2:=f164 (u:=u) s;refine bD (g:=FP) rfl rfl rfl ?_;simp only[ay,aA,lv hc];simp only[exp,FP,OL];obtain⟨nn,w,e',hf,h0,h5,hL,-⟩:=nE hs s;rw[hf]at e;simp only[aL.av]at e;simp only[dV,hL];cases hn:jM s with
 |false=>rw[hn]at e2;simp[e,e2]
 |true=>
  rw[hn]at e2
  have hw:w=0\/w=1\/w=2\/w=3\/w=4\/w=5:=by omega
  rcases hw with rfl|rfl|rfl|rfl|rfl|rfl<;>simp[e,e2,fX]
theorem f169(c:χ)(hc:aJ c)(ns:List aL)(d:Int)(L:bq)(hs:ez ns d L)(hl:ns.length<1000000000000)(x:η):x.Ok->x.cnt<1000000000000->∀m,
  kf u 169 [x.av,cH c ns,.bool true] m=some (.int .i64 (x.part (cC L) 1),m):=by
 refine η.jY (Q:=fun x=>x.Ok->x.cnt<1000000000000->∀m,kf u 169 [x.av,cH c ns,.bool true] m=some (.int .i64 (x.part (cC L) 1),m)) (fun k n s cc l ih ab nF m=>?_) x;have eu:=fun m=>f181 (u:=u) k n s cc l m ab;have e:=f165 (u:=u) c hc ns s hl;simp only[η.cnt]at nF;have jU:=η.Bg l;refine bD (g:=E2) rfl rfl rfl ?_;simp only[ay,aA,η.ep _ _ _ ab,lv hc];simp only[exp,E2,N7,η.part];simp only[η.av]at eu⊢;let K:St->Prop:=fun st=>ζ st.env 1=cH c ns/\ζ st.env 2= .bool true/\ζ st.env 3= .ae 3 0 0/\τ st.loc 3=some (0,.cells [.int .i64 k,.int .i64 n,.str s,.list cc (η.Δ l)])/\st.mem= {ε:=m.ε,θ:=[]};refine ω (K) (by simp[K,aR]) fun s1 ⟨h1,h2,h3,h4,h5⟩=>?_;by_cases kS:gr k n l.length=0
 case neg=>
  refine bc (fun _=>False) ?_ fun _ h=>h.elim
  simp[h1,h2,h3,h4,h5,eu,bne_true kS,kS]
 rw[kS]at eu;refine ω (K) (by simp[K,h1,h2,h3,h4,h5,eu]) fun s1 ⟨h1,h2,h3,h4,h5⟩=>?_;obtain⟨nn,w,e',hf,h0,kO,hL,-⟩:=nE hs s;rw[hf]at e;simp only[aL.av]at e;have tI:cC L s=decide (w=5):=by
  simp only[cC,hL,fX];have hw:w=0\/w=1\/w=2\/w=3\/w=4\/w=5:=by omega
  rcases hw with rfl|rfl|rfl|rfl|rfl|rfl<;>simp
 by_cases eF:k=2/\w≠5
 ·obtain⟨rfl,Rn⟩:=eF;refine bc (fun _=>False) ?_ fun _ h=>h.elim;simp[h1,h2,h3,h4,h5,e,bne_true Rn,kS,tI,Rn]
 have Y':(if gr k n l.length≠0 then gr k n l.length else if k=2/\cC L s=false then 1 else η.parts (cC L) 1 l)=first (η.part (cC L) 1) l:=by rw[if_neg (by simpa using kS),if_neg (by rw[tI];simpa using eF),Ta]
 rw[Y'];refine ω (K) (by
  by_cases hk:k=2
  ·subst hk;have:w=5:=by simpa using eF
   subst this;simp[K,h1,h2,h3,h4,h5,e]
  ·simp[K,h1,h2,h3,h4,h5,eC hk]) fun s1 ⟨h1,h2,h3,h4,h5⟩=>?_
 refine ω (K) (by
  by_cases hk:k=2
  ·subst hk;simp[K,h1,h2,h3,h4,h5]
  ·simp[K,h1,h2,h3,h4,h5,eC hk]) fun s1 ⟨h1,h2,h3,h4,h5⟩=>?_
 refine bc (fun st=>K st/\first (η.part (cC L) 1) l=0) ?_ fun s2 ⟨⟨h1,h2,h3,h4,h5⟩,h6⟩=>by simp[h5,h6]
 let I:Nat->St->Prop:=fun i st=>K st/\ζ st.env 8= .int .i64 i/\∀j (hj:j<l.length),j<i->(l[j]).part (cC L) 1=0;refine ω (I 0) (by simp[I,K,h1,h2,h3,h4,h5]) fun s4 hI=>?_;refine μ.block (μ.loop (I:=I) l.length hI fun i st hi ψ=>?_);obtain⟨⟨h1,h2,h3,h4,h5⟩,q1,q2⟩:=ψ;rcases bP i l.length with ρ|cG
 ·have hw:a_ .i64 ((i:Int)+1)=(i:Int)+1:=wrap_i64 (by omega) (by omega);have hg:=yU l i ρ;have hm:l[i]∈l:=cL ρ;have hx:=ih _ hm (η.gO ab.2 _ hm) (by have:=η.zb hm;omega);by_cases hz:(l[i]).part (cC L) 1=0
  ·left;refine⟨ρ,?_⟩;have q5:=tu (P:=fun j=>∀hj:j<l.length,(l[j]).part (cC L) 1=0) (n:=l.length) (fun j a b c=>q2 j c b) (fun _=>hz);rw[hz]at hx;generalize l[i]=y at hg hx;obtain⟨k',n',s',c2,l'⟩:=y;simp only[η.av]at hg hx;simp[I,K,Hh,h1,h2,h3,h4,h5,q1,ρ,hg,hx,hw,mm];exact fun j hj jg=>q5 j hj jg hj
  ·right;have pD:=zk ρ q2 hz;rw[pD];have e1:=bne_true hz;generalize(l[i]).part (cC L) 1=pe at*;generalize l[i]=y at hg hx;obtain⟨k',n',s',c2,l'⟩:=y;simp only[η.av]at hg hx;simp[K,Hh,h1,h2,h3,h4,h5,q1,ρ,hg,hx,e1,mm]
 ·right;have:i=l.length:=by omega
  subst this;have hz:=zj (f:=η.part (cC L) 1) fun j hj=>q2 j hj hj;simp[K,Hh,h1,h2,h3,h4,h5,q1,hz,mm]
theorem f103(c:χ)(hc:aJ c)(ns:List aL)(d:Int)(L:bq)(hs:ez ns d L)(hl:ns.length<1000000000000)(x:η)(ab:x.Ok)(nF:x.cnt<1000000000000)(m:Mem):
  kf u 103 [x.av,cH c ns,.bool true] m=some (.int .i64 (x.err (cC L) 1),m):=by
 have e1:=fun m=>f115 (u:=u) x ab nF m;have e2:=fun m=>f169 (u:=u) c hc ns d L hs hl x ab nF m;refine bD (g:=EC) rfl rfl rfl ?_;simp only[ay,aA,η.ep _ _ _ ab,lv hc];simp only[exp,EC,NO,η.err];generalize x.part (cC L) 1=pe at*;generalize x.cnt=cn at*;obtain⟨k,n,s,cc,l⟩:=x;simp only[η.av]at e1 e2⊢;generalize KO:((min cn 10:Nat):Int)=mn at*;by_cases h9:9<cn
 ·have xC:(9:Int)<mn:=by omega
  simp[e1,h9,xC]
 ·have xC:¬(9:Int)<mn:=by omega
  simp[e1,e2,h9,xC]
theorem Mm{n:Nat}{k:Bool}{c:χ}(hc:aJ c){l:List Γ}(h:∀p∈l,p.Ok):exp n k (.list c (l.map Γ.av))= .list c (l.map Γ.av):=by
 have:bn n k (l.map Γ.av)=l.map Γ.av:=by rw[fo,c6];exact dt fun p hp=>Γ.ep n k p (h p hp)
 simp only[exp,fb hc,this]
theorem Tf(p:Γ):p.ix.length<=p.wt:=by have:=η.Bg p.ix;simp only[Γ.wt];omega
theorem f258(c:χ)(hc:aJ c)(ns:List aL)(d:Int)(L:bq)(hs:ez ns d L)(hl:ns.length<1000000000000)(cp:χ)(zI:aJ cp)(pl:List Γ)(bW:∀p∈pl,p.Ok)(hw:gQ pl<1000000000000)(m:Mem):
  kf u 258 [.list cp (pl.map Γ.av),cH c ns] m=some (.int .i64 (first (b_ L) pl),m):=by
 have hlen:=Te pl;refine bD (g:=FO) rfl rfl rfl ?_;simp only[ay,aA,Mm zI bW,lv hc,FO,OK];let K:St->Prop:=fun st=>ζ st.env 0= .list cp (pl.map Γ.av)/\ζ st.env 1=cH c ns/\st.mem= {ε:=m.ε,θ:=[]};refine ω (K) (by simp[K]) fun s1 ⟨h1,h2,h3⟩=>?_;refine bc (fun st=>K st/\first (b_ L) pl=0) ?_ fun s2 ⟨⟨h1,h2,h3⟩,h6⟩=>by simp[h3,h6]
 let I:Nat->St->Prop:=fun i st=>K st/\ζ st.env 5= .int .i64 i/\∀j (hj:j<pl.length),j<i->b_ L pl[j]=0;refine ω (I 0) (by simp[I,K,h1,h2,h3]) fun s4 hI=>?_;refine μ.block (μ.upto (I:=I) pl.length hI (fun i st ρ ψ=>?_) (fun st ψ=>?_))
 ·obtain⟨⟨h1,h2,h3⟩,q1,q2⟩:=ψ;have fU:a_ .i64 ((i:Int)+1)=(i:Int)+1:=wrap_i64 (by omega) (by omega);have hm:pl[i]∈pl:=cL ρ;have zU:=bW _ hm;have hwp:=Γ.o_ hm;have cG:=Tf pl[i];have G2:=f260 (u:=u) c hc ns d L hs pl[i].name hl;have fM:∀y∈pl[i].ix,∀m,kf u 103 [y.av,cH c ns,.bool true] m=some (.int .i64 (y.err (cC L) 1),m):=fun y hy m=>f103 (u:=u) c hc ns d L hs hl y (zU.2.2 y hy).1 (by have:=η.zb hy;simp only[Γ.wt]at hwp;omega) m;let J:St->Prop:=fun st=>K st/\ζ st.env 5= .int .i64 i;have ZU:b_ L pl[i]=0->∀j (hj:j<pl.length),j<i+1->b_ L pl[j]=0:=fun hz j hj jg=>tu (P:=fun j=>∀hj:j<pl.length,b_ L pl[j]=0) (n:=pl.length) (fun j a b c=>q2 j c b) (fun _=>hz) j hj jg hj;have pD:b_ L pl[i]≠0->first (b_ L) pl=b_ L pl[i]:=fun hz=>zk ρ q2 hz
  refine ω (J) (by simp[J,K,h1,h2,h3,q1,ρ]) fun s5 ⟨⟨h1,h2,h3⟩,q1⟩=>?_;refine bc (fun st=>J st/\b_ L pl[i]=0) ?_ fun s6 ⟨⟨⟨h1,h2,h3⟩,q1⟩,hz⟩=>by simp[I,K,h1,h2,h3,q1,fU];exact ZU hz
  refine μ.block ?_;by_cases hr:(L pl[i].name).nK=true
  case neg=>
   have gW:(L pl[i].name).nK=false:=by simpa using hr
   have iV:b_ L pl[i]=1:=by simp[b_,gW]
   have B0:=pD (by rw[iV];decide);rw[iV]at B0;rw[gW]at G2;refine bc (fun _=>False) ?_ fun _ h=>h.elim;simp[K,h1,h2,h3,q1,ρ,G2,Γ.av,B0]
  rw[hr]at G2;refine ω (J) (by simp[J,K,h1,h2,h3,q1,ρ,G2,Γ.av]) fun s5 ⟨⟨h1,h2,h3⟩,q1⟩=>?_;by_cases KE:2<pl[i].ix.length
  ·have iV:b_ L pl[i]=2:=by simp[b_,hr,KE]
   have B0:=pD (by rw[iV];decide);rw[iV]at B0;have KF:(2:Int)<(pl[i].ix.length:Int):=by omega
   refine bc (fun _=>False) ?_ fun _ h=>h.elim;simp[K,h1,h2,h3,q1,ρ,Γ.av,KF,B0]
  have KF:¬(2:Int)<(pl[i].ix.length:Int):=by omega
  have iV:b_ L pl[i]=first (η.err (cC L) 1) pl[i].ix:=by simp[b_,hr,KE]
  refine ω (J) (by simp[J,K,h1,h2,h3,q1,ρ,Γ.av,KF]) fun s5 ⟨⟨h1,h2,h3⟩,q1⟩=>?_;rw[iV]at pD⊢;let I2:Nat->St->Prop:=fun j st=>J st/\ζ st.env 6= .int .i64 j/\∀k (hk:k<pl[i].ix.length),k<j->(pl[i].ix[k]).err (cC L) 1=0;refine ω (I2 0) (by simp[I2,J,K,h1,h2,h3,q1]) fun s4 hI=>?_;refine μ.block (μ.loop (I:=I2) pl[i].ix.length hI fun j st hj ψ=>?_);obtain⟨⟨⟨h1,h2,h3⟩,q1⟩,q3,q4⟩:=ψ;rcases bP j pl[i].ix.length with dk|ag8
  ·have oU:a_ .i64 ((j:Int)+1)=(j:Int)+1:=wrap_i64 (by omega) (by omega);have hx:=fM _ (cL dk);by_cases hz:(pl[i].ix[j]).err (cC L) 1=0
   ·left;refine⟨dk,?_⟩;have q5:=tu (P:=fun k=>∀hk:k<pl[i].ix.length,(pl[i].ix[k]).err (cC L) 1=0) (n:=pl[i].ix.length) (fun j a b c=>q4 j c b) (fun _=>hz);rw[hz]at hx;simp only[η.jA]at hx;have xP:=η.gK pl[i].ix[j];have iX:(pl[i].ix[j]).four.take 4=(pl[i].ix[j]).four:=dY (by omega);simp[I2,J,K,Hn,h1,h2,h3,q1,q3,ρ,dk,hx,oU,Γ.av,η.jA,xP,iX];exact fun j hj jg=>q5 j hj jg hj
   ·right;have QM:=zk dk q4 hz;have QN:=pD (by rw[QM];exact hz);rw[QM]at QN;have e1:=bne_true hz;simp only[η.jA]at hx;have xP:=η.gK pl[i].ix[j];have iX:(pl[i].ix[j]).four.take 4=(pl[i].ix[j]).four:=dY (by omega);simp[K,Hn,h1,h2,h3,q1,q3,ρ,dk,hx,e1,Γ.av,η.jA,xP,iX,QN]
  ·right;have:j=pl[i].ix.length:=by omega
   subst this;have hz:=zj (f:=η.err (cC L) 1) fun j hj=>q4 j hj hj;simp[J,K,Hn,h1,h2,h3,q1,q3,ρ,Γ.av,hz]
 ·obtain⟨⟨h1,h2,h3⟩,q1,q2⟩:=ψ;have hz:=zj (f:=b_ L) fun j hj=>q2 j hj hj;simp[K,R9,h1,h2,h3,q1,hz]
def dT(c:χ)(ps:List Ξ):AV:= .agg [.list c (ps.map Ξ.av)]
theorem Jv{n:Nat}{k:Bool}{c:χ}(hc:aJ c){ps:List Ξ}(h:∀x∈ps,x.Ok):exp n k (.list c (ps.map Ξ.av))= .list c (ps.map Ξ.av):=by
 have:bn n k (ps.map Ξ.av)=ps.map Ξ.av:=by rw[fo,c6];exact dt fun p hp=>Ξ.ep n k p (h p hp)
 simp only[exp,fb hc,this]
theorem nC{n:Nat}{k:Bool}{c:χ}(hc:aJ c){ps:List Ξ}(h:∀x∈ps,x.Ok):exp n k (dT c ps)=dT c ps:=by have:=Jv (n:=n) (k:=k) hc h;simp only[dT,exp,bn]at this⊢;rw[this]
theorem Tk(ps:List Ξ)(s:List Nat):(o7 ps s= -1/\nQ ps s=none)\/∃(n:Nat) (q:Ξ),o7 ps s=(n:Int)/\nQ ps s=some n/\ps[n]?=some q/\n<ps.length:=by
 unfold o7;cases h:nQ ps s with
 |none=>exact .inl ⟨rfl,rfl⟩
 |some n=>
  rw[nQ,sZ]at h
  obtain⟨h1,h2,_⟩:=h;exact .inr ⟨n,ps[n],rfl,rfl,dr h1,h1⟩
theorem W0(aS:χ)(cg:aJ aS)(ps:List Ξ)(bA:∀x∈ps,x.Ok)(bW:ps.length<1000000000000)(own:Nat)(x:δ)(hx:x.Ok)(fG:x.wt<1000000000000)
  (c:χ) (hc:aJ c) (ns:List aL) (d:Int) (L:bq) (hs:ez ns d L) (hl:ns.length<1000000000000) (m:Mem) (h_:x.kind=1):
  kf u 218 [dT aS ps,.int .i64 own,x.av,cH c ns,.int .i64 d] m=some (.int .i64 (cJ ps own L x),m):=by
 refine bD (g:=jF) rfl rfl rfl ?_;simp only[ay,aA,δ.ep _ _ _ hx,lv hc,nC cg bA];simp only[exp,jF,c218];obtain⟨k,g,nm,cp,pl,size,to,cb,body,ce,aG⟩:=x;simp only[δ.Ok]at hx;simp only[δ.wt]at fG;have lu:=fun m=>f99 (u:=u) g 1 12 m;have qG:=fun m=>f257 (u:=u) g m;have mr:=fun m=>f258 (u:=u) c hc ns d L hs hl cp hx.2.1 pl hx.2.2.1 (by omega) m;have mu:=fun m=>f259 (u:=u) c hc ns d L hs nm hl m;have oI:=fun m=>f103 (u:=u) c hc ns d L hs hl size hx.2.2.2.1.1 (by omega) m;have rP:=fun m=>f103 (u:=u) c hc ns d L hs hl to hx.2.2.2.2.1.1 (by omega) m;have eH:=fun m=>f165 (u:=u) c hc ns nm hl m;have jE:=fun m=>f260 (u:=u) c hc ns d L hs nm hl m;have lr:=fun m=>f150 (u:=u) aS cg ps bA nm bW m;obtain⟨nn,w,e',hf,h0,h5,hL,-⟩:=nE hs nm;rw[hf]at eH;simp only[aL.av]at eH;have hw:w=0\/w=1\/w=2\/w=3\/w=4\/w=5:=by omega
 simp only[cJ];have iV:∀p,pl=[p]->first (b_ L) pl=b_ L p:=fun p hp=>by subst hp;simp only[first];split<;>simp_all
 generalize first (b_ L) pl=pe at*
 generalize dV L nm=ne at*;generalize size.err (cC L) 1=se at*;generalize to.err (cC L) 1=te at*;obtain⟨k1,n1,s1,c1,l1⟩:=size;obtain⟨k2,n2,s2,c2,l2⟩:=to;simp only[η.av,dT]at*;simp only[δ.kind]at h_;subst h_;by_cases hg:g<1\/12<g
 ·have:(decide (g<1)||decide (g>12))=true:=by simpa using hg
  rw[this]at lu;simp[δ.av,δ.cells,η.four,lu,hg]
 ·have:(decide (g<1)||decide (g>12))=false:=by simp;omega
  rw[this]at lu;by_cases wc:pl.length=gS g
  ·have:((pl.length:Int) !=(gS g:Int))=false:=by simp;omega
   simp[δ.av,δ.cells,η.four,lu,qG,dm,dy,this,hg,wc,mr]
  ·have:((pl.length:Int) !=(gS g:Int))=true:=by simp;omega
   simp[δ.av,δ.cells,η.four,lu,qG,dm,dy,this,hg,wc]
theorem W3(aS:χ)(cg:aJ aS)(ps:List Ξ)(bA:∀x∈ps,x.Ok)(bW:ps.length<1000000000000)(own:Nat)(x:δ)(hx:x.Ok)(fG:x.wt<1000000000000)
  (c:χ) (hc:aJ c) (ns:List aL) (d:Int) (L:bq) (hs:ez ns d L) (hl:ns.length<1000000000000) (m:Mem) (QW:x.kind=2\/x.kind=4):
  kf u 218 [dT aS ps,.int .i64 own,x.av,cH c ns,.int .i64 d] m=some (.int .i64 (cJ ps own L x),m):=by
 refine bD (g:=jF) rfl rfl rfl ?_;simp only[ay,aA,δ.ep _ _ _ hx,lv hc,nC cg bA];simp only[exp,jF,c218];obtain⟨k,g,nm,cp,pl,size,to,cb,body,ce,aG⟩:=x;simp only[δ.Ok]at hx;simp only[δ.wt]at fG;have lu:=fun m=>f99 (u:=u) g 1 12 m;have qG:=fun m=>f257 (u:=u) g m;have mr:=fun m=>f258 (u:=u) c hc ns d L hs hl cp hx.2.1 pl hx.2.2.1 (by omega) m;have mu:=fun m=>f259 (u:=u) c hc ns d L hs nm hl m;have oI:=fun m=>f103 (u:=u) c hc ns d L hs hl size hx.2.2.2.1.1 (by omega) m;have rP:=fun m=>f103 (u:=u) c hc ns d L hs hl to hx.2.2.2.2.1.1 (by omega) m;have eH:=fun m=>f165 (u:=u) c hc ns nm hl m;have jE:=fun m=>f260 (u:=u) c hc ns d L hs nm hl m;have lr:=fun m=>f150 (u:=u) aS cg ps bA nm bW m;obtain⟨nn,w,e',hf,h0,h5,hL,-⟩:=nE hs nm;rw[hf]at eH;simp only[aL.av]at eH;have hw:w=0\/w=1\/w=2\/w=3\/w=4\/w=5:=by omega
 simp only[cJ];have iV:∀p,pl=[p]->first (b_ L) pl=b_ L p:=fun p hp=>by subst hp;simp only[first];split<;>simp_all
 generalize first (b_ L) pl=pe at*
 generalize dV L nm=ne at*;generalize size.err (cC L) 1=se at*;generalize to.err (cC L) 1=te at*;obtain⟨k1,n1,s1,c1,l1⟩:=size;obtain⟨k2,n2,s2,c2,l2⟩:=to;simp only[η.av,dT]at*;simp only[δ.kind]at QW;rcases QW with rfl|rfl
 ·by_cases hn:ne=0
  ·subst hn;simp[δ.av,δ.cells,η.four,mu,oI]
  ·simp[δ.av,δ.cells,η.four,mu,bne_true hn,hn]
 ·by_cases hn:ne=0
  ·subst hn;simp[δ.av,δ.cells,η.four,mu,oI]
  ·simp[δ.av,δ.cells,η.four,mu,bne_true hn,hn]
theorem W4(aS:χ)(cg:aJ aS)(ps:List Ξ)(bA:∀x∈ps,x.Ok)(bW:ps.length<1000000000000)(own:Nat)(x:δ)(hx:x.Ok)(fG:x.wt<1000000000000)
  (c:χ) (hc:aJ c) (ns:List aL) (d:Int) (L:bq) (hs:ez ns d L) (hl:ns.length<1000000000000) (m:Mem) (jH:x.kind=3):
  kf u 218 [dT aS ps,.int .i64 own,x.av,cH c ns,.int .i64 d] m=some (.int .i64 (cJ ps own L x),m):=by
 refine bD (g:=jF) rfl rfl rfl ?_;simp only[ay,aA,δ.ep _ _ _ hx,lv hc,nC cg bA];simp only[exp,jF,c218];obtain⟨k,g,nm,cp,pl,size,to,cb,body,ce,aG⟩:=x;simp only[δ.Ok]at hx;simp only[δ.wt]at fG;have lu:=fun m=>f99 (u:=u) g 1 12 m;have qG:=fun m=>f257 (u:=u) g m;have mr:=fun m=>f258 (u:=u) c hc ns d L hs hl cp hx.2.1 pl hx.2.2.1 (by omega) m;have mu:=fun m=>f259 (u:=u) c hc ns d L hs nm hl m;have oI:=fun m=>f103 (u:=u) c hc ns d L hs hl size hx.2.2.2.1.1 (by omega) m;have rP:=fun m=>f103 (u:=u) c hc ns d L hs hl to hx.2.2.2.2.1.1 (by omega) m;have eH:=fun m=>f165 (u:=u) c hc ns nm hl m;have jE:=fun m=>f260 (u:=u) c hc ns d L hs nm hl m;have lr:=fun m=>f150 (u:=u) aS cg ps bA nm bW m;obtain⟨nn,w,e',hf,h0,h5,hL,-⟩:=nE hs nm;rw[hf]at eH;simp only[aL.av]at eH;have hw:w=0\/w=1\/w=2\/w=3\/w=4\/w=5:=by omega
 simp only[cJ];have iV:∀p,pl=[p]->first (b_ L) pl=b_ L p:=fun p hp=>by subst hp;simp only[first];split<;>simp_all
 generalize first (b_ L) pl=pe at*
 generalize dV L nm=ne at*;generalize size.err (cC L) 1=se at*;generalize to.err (cC L) 1=te at*;obtain⟨k1,n1,s1,c1,l1⟩:=size;obtain⟨k2,n2,s2,c2,l2⟩:=to;simp only[η.av,dT]at*;simp only[δ.kind]at jH;subst jH;simp only[hL]at jE⊢;rcases hw with rfl|rfl|rfl|rfl|rfl|rfl
 ·simp[fX,k_.nK]at jE;simp[δ.av,δ.cells,η.four,eH,jE,fX]
 ·simp[fX,k_.nK]at jE;simp[δ.av,δ.cells,η.four,eH,jE,fX]
 ·simp[fX,k_.nK]at jE;by_cases hd:e'=d
  ·subst hd;simp[δ.av,δ.cells,η.four,eH,jE,fX]
  ·simp[δ.av,δ.cells,η.four,eH,jE,fX,hd,bne_true hd]
 ·simp[fX,k_.nK]at jE;simp[δ.av,δ.cells,η.four,eH,jE,fX]
 ·simp[fX,k_.nK]at jE;simp[δ.av,δ.cells,η.four,eH,jE,fX]
 ·simp[fX,k_.nK]at jE;simp[δ.av,δ.cells,η.four,eH,jE,fX]
theorem W5(aS:χ)(cg:aJ aS)(ps:List Ξ)(bA:∀x∈ps,x.Ok)(bW:ps.length<1000000000000)(own:Nat)(x:δ)(hx:x.Ok)(fG:x.wt<1000000000000)
  (c:χ) (hc:aJ c) (ns:List aL) (d:Int) (L:bq) (hs:ez ns d L) (hl:ns.length<1000000000000) (m:Mem) (jI:x.kind=5):
  kf u 218 [dT aS ps,.int .i64 own,x.av,cH c ns,.int .i64 d] m=some (.int .i64 (cJ ps own L x),m):=by
 refine bD (g:=jF) rfl rfl rfl ?_;simp only[ay,aA,δ.ep _ _ _ hx,lv hc,nC cg bA];simp only[exp,jF,c218];obtain⟨k,g,nm,cp,pl,size,to,cb,body,ce,aG⟩:=x;simp only[δ.Ok]at hx;simp only[δ.wt]at fG;have lu:=fun m=>f99 (u:=u) g 1 12 m;have qG:=fun m=>f257 (u:=u) g m;have mr:=fun m=>f258 (u:=u) c hc ns d L hs hl cp hx.2.1 pl hx.2.2.1 (by omega) m;have mu:=fun m=>f259 (u:=u) c hc ns d L hs nm hl m;have oI:=fun m=>f103 (u:=u) c hc ns d L hs hl size hx.2.2.2.1.1 (by omega) m;have rP:=fun m=>f103 (u:=u) c hc ns d L hs hl to hx.2.2.2.2.1.1 (by omega) m;have eH:=fun m=>f165 (u:=u) c hc ns nm hl m;have jE:=fun m=>f260 (u:=u) c hc ns d L hs nm hl m;have lr:=fun m=>f150 (u:=u) aS cg ps bA nm bW m;obtain⟨nn,w,e',hf,h0,h5,hL,-⟩:=nE hs nm;rw[hf]at eH;simp only[aL.av]at eH;have hw:w=0\/w=1\/w=2\/w=3\/w=4\/w=5:=by omega
 simp only[cJ];have iV:∀p,pl=[p]->first (b_ L) pl=b_ L p:=fun p hp=>by subst hp;simp only[first];split<;>simp_all
 generalize first (b_ L) pl=pe at*
 generalize dV L nm=ne at*;generalize size.err (cC L) 1=se at*;generalize to.err (cC L) 1=te at*;obtain⟨k1,n1,s1,c1,l1⟩:=size;obtain⟨k2,n2,s2,c2,l2⟩:=to;simp only[η.av,dT]at*;simp only[δ.kind]at jI;subst jI;rcases pl with _|⟨p,_|⟨q,rest⟩⟩
 ·simp[δ.av,δ.cells,η.four]
 ·have Cn:=iV p rfl;subst Cn;simp only[ay,aA]at mr;simp only[hL];by_cases hz:b_ L p=0
  ·rw[hz]at mr;rcases hw with rfl|rfl|rfl|rfl|rfl|rfl<;>simp[δ.av,δ.cells,η.four,mr,eH,mu,fX,hz]
  ·simp[δ.av,δ.cells,η.four,mr,bne_true hz,hz]
 ·have:((rest.length:Int)+1+1 !=1)=true:=by simp;omega
  simp[δ.av,δ.cells,η.four,this]
theorem W6(aS:χ)(cg:aJ aS)(ps:List Ξ)(bA:∀x∈ps,x.Ok)(bW:ps.length<1000000000000)(own:Nat)(x:δ)(hx:x.Ok)(fG:x.wt<1000000000000)
  (c:χ) (hc:aJ c) (ns:List aL) (d:Int) (L:bq) (hs:ez ns d L) (hl:ns.length<1000000000000) (m:Mem) (uI:x.kind=6):
  kf u 218 [dT aS ps,.int .i64 own,x.av,cH c ns,.int .i64 d] m=some (.int .i64 (cJ ps own L x),m):=by
 refine bD (g:=jF) rfl rfl rfl ?_;simp only[ay,aA,δ.ep _ _ _ hx,lv hc,nC cg bA];simp only[exp,jF,c218];obtain⟨k,g,nm,cp,pl,size,to,cb,body,ce,aG⟩:=x;simp only[δ.Ok]at hx;simp only[δ.wt]at fG;have lu:=fun m=>f99 (u:=u) g 1 12 m;have qG:=fun m=>f257 (u:=u) g m;have mr:=fun m=>f258 (u:=u) c hc ns d L hs hl cp hx.2.1 pl hx.2.2.1 (by omega) m;have mu:=fun m=>f259 (u:=u) c hc ns d L hs nm hl m;have oI:=fun m=>f103 (u:=u) c hc ns d L hs hl size hx.2.2.2.1.1 (by omega) m;have rP:=fun m=>f103 (u:=u) c hc ns d L hs hl to hx.2.2.2.2.1.1 (by omega) m;have eH:=fun m=>f165 (u:=u) c hc ns nm hl m;have jE:=fun m=>f260 (u:=u) c hc ns d L hs nm hl m;have lr:=fun m=>f150 (u:=u) aS cg ps bA nm bW m;obtain⟨nn,w,e',hf,h0,h5,hL,-⟩:=nE hs nm;rw[hf]at eH;simp only[aL.av]at eH;have hw:w=0\/w=1\/w=2\/w=3\/w=4\/w=5:=by omega
 simp only[cJ];have iV:∀p,pl=[p]->first (b_ L) pl=b_ L p:=fun p hp=>by subst hp;simp only[first];split<;>simp_all
 generalize first (b_ L) pl=pe at*
 generalize dV L nm=ne at*;generalize size.err (cC L) 1=se at*;generalize to.err (cC L) 1=te at*;obtain⟨k1,n1,s1,c1,l1⟩:=size;obtain⟨k2,n2,s2,c2,l2⟩:=to;simp only[η.av,dT]at*;simp only[δ.kind]at uI;subst uI;rcases pl with _|⟨p,_|⟨q,rest⟩⟩
 ·simp[δ.av,δ.cells,η.four]
 ·have Cn:=iV p rfl;subst Cn;simp only[ay,aA]at mr;simp[δ.av,δ.cells,η.four,mr]
 ·have:((rest.length:Int)+1+1 !=1)=true:=by simp;omega
  simp[δ.av,δ.cells,η.four,this]
theorem W7(aS:χ)(cg:aJ aS)(ps:List Ξ)(bA:∀x∈ps,x.Ok)(bW:ps.length<1000000000000)(own:Nat)(x:δ)(hx:x.Ok)(fG:x.wt<1000000000000)
  (c:χ) (hc:aJ c) (ns:List aL) (d:Int) (L:bq) (hs:ez ns d L) (hl:ns.length<1000000000000) (m:Mem) (uJ:x.kind=7):
  kf u 218 [dT aS ps,.int .i64 own,x.av,cH c ns,.int .i64 d] m=some (.int .i64 (cJ ps own L x),m):=by
 refine bD (g:=jF) rfl rfl rfl ?_;simp only[ay,aA,δ.ep _ _ _ hx,lv hc,nC cg bA];simp only[exp,jF,c218];obtain⟨k,g,nm,cp,pl,size,to,cb,body,ce,aG⟩:=x;simp only[δ.Ok]at hx;simp only[δ.wt]at fG;have lu:=fun m=>f99 (u:=u) g 1 12 m;have qG:=fun m=>f257 (u:=u) g m;have mr:=fun m=>f258 (u:=u) c hc ns d L hs hl cp hx.2.1 pl hx.2.2.1 (by omega) m;have mu:=fun m=>f259 (u:=u) c hc ns d L hs nm hl m;have oI:=fun m=>f103 (u:=u) c hc ns d L hs hl size hx.2.2.2.1.1 (by omega) m;have rP:=fun m=>f103 (u:=u) c hc ns d L hs hl to hx.2.2.2.2.1.1 (by omega) m;have eH:=fun m=>f165 (u:=u) c hc ns nm hl m;have jE:=fun m=>f260 (u:=u) c hc ns d L hs nm hl m;have lr:=fun m=>f150 (u:=u) aS cg ps bA nm bW m;obtain⟨nn,w,e',hf,h0,h5,hL,-⟩:=nE hs nm;rw[hf]at eH;simp only[aL.av]at eH;have hw:w=0\/w=1\/w=2\/w=3\/w=4\/w=5:=by omega
 simp only[cJ];have iV:∀p,pl=[p]->first (b_ L) pl=b_ L p:=fun p hp=>by subst hp;simp only[first];split<;>simp_all
 generalize first (b_ L) pl=pe at*
 generalize dV L nm=ne at*;generalize size.err (cC L) 1=se at*;generalize to.err (cC L) 1=te at*;obtain⟨k1,n1,s1,c1,l1⟩:=size;obtain⟨k2,n2,s2,c2,l2⟩:=to;simp only[η.av,dT]at*;simp only[δ.kind]at uJ;subst uJ;simp only[hL];rcases hw with rfl|rfl|rfl|rfl|rfl|rfl<;>simp[δ.av,δ.cells,η.four,eH,fX]
theorem W8(aS:χ)(cg:aJ aS)(ps:List Ξ)(bA:∀x∈ps,x.Ok)(bW:ps.length<1000000000000)(own:Nat)(x:δ)(hx:x.Ok)(fG:x.wt<1000000000000)
  (c:χ) (hc:aJ c) (ns:List aL) (d:Int) (L:bq) (hs:ez ns d L) (hl:ns.length<1000000000000) (m:Mem) (uK:x.kind=8):
  kf u 218 [dT aS ps,.int .i64 own,x.av,cH c ns,.int .i64 d] m=some (.int .i64 (cJ ps own L x),m):=by
 refine bD (g:=jF) rfl rfl rfl ?_;simp only[ay,aA,δ.ep _ _ _ hx,lv hc,nC cg bA];simp only[exp,jF,c218];obtain⟨k,g,nm,cp,pl,size,to,cb,body,ce,aG⟩:=x;simp only[δ.Ok]at hx;simp only[δ.wt]at fG;have lu:=fun m=>f99 (u:=u) g 1 12 m;have qG:=fun m=>f257 (u:=u) g m;have mr:=fun m=>f258 (u:=u) c hc ns d L hs hl cp hx.2.1 pl hx.2.2.1 (by omega) m;have mu:=fun m=>f259 (u:=u) c hc ns d L hs nm hl m;have oI:=fun m=>f103 (u:=u) c hc ns d L hs hl size hx.2.2.2.1.1 (by omega) m;have rP:=fun m=>f103 (u:=u) c hc ns d L hs hl to hx.2.2.2.2.1.1 (by omega) m;have eH:=fun m=>f165 (u:=u) c hc ns nm hl m;have jE:=fun m=>f260 (u:=u) c hc ns d L hs nm hl m;have lr:=fun m=>f150 (u:=u) aS cg ps bA nm bW m;obtain⟨nn,w,e',hf,h0,h5,hL,-⟩:=nE hs nm;rw[hf]at eH;simp only[aL.av]at eH;have hw:w=0\/w=1\/w=2\/w=3\/w=4\/w=5:=by omega
 simp only[cJ];have iV:∀p,pl=[p]->first (b_ L) pl=b_ L p:=fun p hp=>by subst hp;simp only[first];split<;>simp_all
 generalize first (b_ L) pl=pe at*
 generalize dV L nm=ne at*;generalize size.err (cC L) 1=se at*;generalize to.err (cC L) 1=te at*;obtain⟨k1,n1,s1,c1,l1⟩:=size;obtain⟨k2,n2,s2,c2,l2⟩:=to;simp only[η.av,dT]at*;simp only[δ.kind]at uK;subst uK;by_cases hn:ne=0
 ·subst hn;by_cases jX:se=0
  ·subst jX;simp[δ.av,δ.cells,η.four,mu,oI,rP]
  ·simp[δ.av,δ.cells,η.four,mu,oI,bne_true jX,jX]
 ·simp[δ.av,δ.cells,η.four,mu,bne_true hn,hn]
theorem W9(aS:χ)(cg:aJ aS)(ps:List Ξ)(bA:∀x∈ps,x.Ok)(bW:ps.length<1000000000000)(own:Nat)(x:δ)(hx:x.Ok)(fG:x.wt<1000000000000)
  (c:χ) (hc:aJ c) (ns:List aL) (d:Int) (L:bq) (hs:ez ns d L) (hl:ns.length<1000000000000) (m:Mem) (uL:x.kind=9):
  kf u 218 [dT aS ps,.int .i64 own,x.av,cH c ns,.int .i64 d] m=some (.int .i64 (cJ ps own L x),m):=by
 refine bD (g:=jF) rfl rfl rfl ?_;simp only[ay,aA,δ.ep _ _ _ hx,lv hc,nC cg bA];simp only[exp,jF,c218];obtain⟨k,g,nm,cp,pl,size,to,cb,body,ce,aG⟩:=x;simp only[δ.Ok]at hx;simp only[δ.wt]at fG;have lu:=fun m=>f99 (u:=u) g 1 12 m;have qG:=fun m=>f257 (u:=u) g m;have mr:=fun m=>f258 (u:=u) c hc ns d L hs hl cp hx.2.1 pl hx.2.2.1 (by omega) m;have mu:=fun m=>f259 (u:=u) c hc ns d L hs nm hl m;have oI:=fun m=>f103 (u:=u) c hc ns d L hs hl size hx.2.2.2.1.1 (by omega) m;have rP:=fun m=>f103 (u:=u) c hc ns d L hs hl to hx.2.2.2.2.1.1 (by omega) m;have eH:=fun m=>f165 (u:=u) c hc ns nm hl m;have jE:=fun m=>f260 (u:=u) c hc ns d L hs nm hl m;have lr:=fun m=>f150 (u:=u) aS cg ps bA nm bW m;obtain⟨nn,w,e',hf,h0,h5,hL,-⟩:=nE hs nm;rw[hf]at eH;simp only[aL.av]at eH;have hw:w=0\/w=1\/w=2\/w=3\/w=4\/w=5:=by omega
 simp only[cJ];have iV:∀p,pl=[p]->first (b_ L) pl=b_ L p:=fun p hp=>by subst hp;simp only[first];split<;>simp_all
 generalize first (b_ L) pl=pe at*
 generalize dV L nm=ne at*;generalize size.err (cC L) 1=se at*;generalize to.err (cC L) 1=te at*;obtain⟨k1,n1,s1,c1,l1⟩:=size;obtain⟨k2,n2,s2,c2,l2⟩:=to;simp only[η.av,dT]at*;simp only[δ.kind]at uL;subst uL;rcases Tk ps nm with⟨h1,h2⟩|⟨n,q,h1,h2,h3,h4⟩
 ·rw[h1]at lr;simp[δ.av,δ.cells,η.four,lr,h2]
 ·rw[h1]at lr;have xX:¬(n:Int)<0:=by omega
  by_cases ho:own<=n
  ·have mU:(own:Int)<=(n:Int):=by omega
   simp[δ.av,δ.cells,η.four,lr,h2,xX,ho,mU]
  ·have mU:¬(own:Int)<=(n:Int):=by omega
   have fe:ps[n]=q:=by rw[dr h4]at h3;simpa using h3
   by_cases tH:pl.length=q.aK.length
   ·have:((pl.length:Int) !=(q.aK.length:Int))=false:=by simp;omega
    simp[δ.av,δ.cells,η.four,lr,h2,xX,ho,mU,h3,fe,h4,Ξ.av,this,tH,mr]
   ·have:((pl.length:Int) !=(q.aK.length:Int))=true:=by simp;omega
    simp[δ.av,δ.cells,η.four,lr,h2,xX,ho,mU,h3,fe,h4,Ξ.av,this,tH]
theorem W1(aS:χ)(cg:aJ aS)(ps:List Ξ)(bA:∀x∈ps,x.Ok)(bW:ps.length<1000000000000)(own:Nat)(x:δ)(hx:x.Ok)(fG:x.wt<1000000000000)
  (c:χ) (hc:aJ c) (ns:List aL) (d:Int) (L:bq) (hs:ez ns d L) (hl:ns.length<1000000000000) (m:Mem) (v7:x.kind=10):
  kf u 218 [dT aS ps,.int .i64 own,x.av,cH c ns,.int .i64 d] m=some (.int .i64 (cJ ps own L x),m):=by
 refine bD (g:=jF) rfl rfl rfl ?_;simp only[ay,aA,δ.ep _ _ _ hx,lv hc,nC cg bA];simp only[exp,jF,c218];obtain⟨k,g,nm,cp,pl,size,to,cb,body,ce,aG⟩:=x;simp only[δ.Ok]at hx;simp only[δ.wt]at fG;have lu:=fun m=>f99 (u:=u) g 1 12 m;have qG:=fun m=>f257 (u:=u) g m;have mr:=fun m=>f258 (u:=u) c hc ns d L hs hl cp hx.2.1 pl hx.2.2.1 (by omega) m;have mu:=fun m=>f259 (u:=u) c hc ns d L hs nm hl m;have oI:=fun m=>f103 (u:=u) c hc ns d L hs hl size hx.2.2.2.1.1 (by omega) m;have rP:=fun m=>f103 (u:=u) c hc ns d L hs hl to hx.2.2.2.2.1.1 (by omega) m;have eH:=fun m=>f165 (u:=u) c hc ns nm hl m;have jE:=fun m=>f260 (u:=u) c hc ns d L hs nm hl m;have lr:=fun m=>f150 (u:=u) aS cg ps bA nm bW m;obtain⟨nn,w,e',hf,h0,h5,hL,-⟩:=nE hs nm;rw[hf]at eH;simp only[aL.av]at eH;have hw:w=0\/w=1\/w=2\/w=3\/w=4\/w=5:=by omega
 simp only[cJ];have iV:∀p,pl=[p]->first (b_ L) pl=b_ L p:=fun p hp=>by subst hp;simp only[first];split<;>simp_all
 generalize first (b_ L) pl=pe at*
 generalize dV L nm=ne at*;generalize size.err (cC L) 1=se at*;generalize to.err (cC L) 1=te at*;obtain⟨k1,n1,s1,c1,l1⟩:=size;obtain⟨k2,n2,s2,c2,l2⟩:=to;simp only[η.av,dT]at*;simp only[δ.kind]at v7;subst v7;simp[δ.av,δ.cells,η.four]
theorem W2(aS:χ)(cg:aJ aS)(ps:List Ξ)(bA:∀x∈ps,x.Ok)(bW:ps.length<1000000000000)(own:Nat)(x:δ)(hx:x.Ok)(fG:x.wt<1000000000000)
  (c:χ) (hc:aJ c) (ns:List aL) (d:Int) (L:bq) (hs:ez ns d L) (hl:ns.length<1000000000000) (m:Mem) (v8:x.kind=11):
  kf u 218 [dT aS ps,.int .i64 own,x.av,cH c ns,.int .i64 d] m=some (.int .i64 (cJ ps own L x),m):=by
 refine bD (g:=jF) rfl rfl rfl ?_;simp only[ay,aA,δ.ep _ _ _ hx,lv hc,nC cg bA];simp only[exp,jF,c218];obtain⟨k,g,nm,cp,pl,size,to,cb,body,ce,aG⟩:=x;simp only[δ.Ok]at hx;simp only[δ.wt]at fG;have lu:=fun m=>f99 (u:=u) g 1 12 m;have qG:=fun m=>f257 (u:=u) g m;have mr:=fun m=>f258 (u:=u) c hc ns d L hs hl cp hx.2.1 pl hx.2.2.1 (by omega) m;have mu:=fun m=>f259 (u:=u) c hc ns d L hs nm hl m;have oI:=fun m=>f103 (u:=u) c hc ns d L hs hl size hx.2.2.2.1.1 (by omega) m;have rP:=fun m=>f103 (u:=u) c hc ns d L hs hl to hx.2.2.2.2.1.1 (by omega) m;have eH:=fun m=>f165 (u:=u) c hc ns nm hl m;have jE:=fun m=>f260 (u:=u) c hc ns d L hs nm hl m;have lr:=fun m=>f150 (u:=u) aS cg ps bA nm bW m;obtain⟨nn,w,e',hf,h0,h5,hL,-⟩:=nE hs nm;rw[hf]at eH;simp only[aL.av]at eH;have hw:w=0\/w=1\/w=2\/w=3\/w=4\/w=5:=by omega
 simp only[cJ];have iV:∀p,pl=[p]->first (b_ L) pl=b_ L p:=fun p hp=>by subst hp;simp only[first];split<;>simp_all
 generalize first (b_ L) pl=pe at*
 generalize dV L nm=ne at*;generalize size.err (cC L) 1=se at*;generalize to.err (cC L) 1=te at*;obtain⟨k1,n1,s1,c1,l1⟩:=size;obtain⟨k2,n2,s2,c2,l2⟩:=to;simp only[η.av,dT]at*;simp only[δ.kind]at v8;subst v8;simp[δ.av,δ.cells,η.four]
theorem WZ(aS:χ)(cg:aJ aS)(ps:List Ξ)(bA:∀x∈ps,x.Ok)(bW:ps.length<1000000000000)(own:Nat)(x:δ)(hx:x.Ok)(fG:x.wt<1000000000000)
  (c:χ) (hc:aJ c) (ns:List aL) (d:Int) (L:bq) (hs:ez ns d L) (hl:ns.length<1000000000000) (m:Mem) (hk:¬(x.kind=1\/x.kind=2\/x.kind=3\/x.kind=4\/x.kind=5\/x.kind=6\/x.kind=7\/x.kind=8\/x.kind=9\/x.kind=10\/x.kind=11)):
  kf u 218 [dT aS ps,.int .i64 own,x.av,cH c ns,.int .i64 d] m=some (.int .i64 (cJ ps own L x),m):=by
 refine bD (g:=jF) rfl rfl rfl ?_;simp only[ay,aA,δ.ep _ _ _ hx,lv hc,nC cg bA];simp only[exp,jF,c218];obtain⟨k,g,nm,cp,pl,size,to,cb,body,ce,aG⟩:=x;simp only[δ.Ok]at hx;simp only[δ.wt]at fG;have lu:=fun m=>f99 (u:=u) g 1 12 m;have qG:=fun m=>f257 (u:=u) g m;have mr:=fun m=>f258 (u:=u) c hc ns d L hs hl cp hx.2.1 pl hx.2.2.1 (by omega) m;have mu:=fun m=>f259 (u:=u) c hc ns d L hs nm hl m;have oI:=fun m=>f103 (u:=u) c hc ns d L hs hl size hx.2.2.2.1.1 (by omega) m;have rP:=fun m=>f103 (u:=u) c hc ns d L hs hl to hx.2.2.2.2.1.1 (by omega) m;have eH:=fun m=>f165 (u:=u) c hc ns nm hl m;have jE:=fun m=>f260 (u:=u) c hc ns d L hs nm hl m;have lr:=fun m=>f150 (u:=u) aS cg ps bA nm bW m;obtain⟨nn,w,e',hf,h0,h5,hL,-⟩:=nE hs nm;rw[hf]at eH;simp only[aL.av]at eH;have hw:w=0\/w=1\/w=2\/w=3\/w=4\/w=5:=by omega
 simp only[cJ];have iV:∀p,pl=[p]->first (b_ L) pl=b_ L p:=fun p hp=>by subst hp;simp only[first];split<;>simp_all
 generalize first (b_ L) pl=pe at*
 generalize dV L nm=ne at*;generalize size.err (cC L) 1=se at*;generalize to.err (cC L) 1=te at*;obtain⟨k1,n1,s1,c1,l1⟩:=size;obtain⟨k2,n2,s2,c2,l2⟩:=to;simp only[η.av,dT]at*;simp only[δ.kind,not_or]at hk;obtain⟨h_,xz,jH,xB,jI,uI,uJ,uK,uL,v7,v8⟩:=hk;simp[δ.av,δ.cells,η.four,eC h_,eC xz,eC xB,eC jH,eC jI,eC uI,eC uJ,eC uK,eC uL,eC v7,eC v8,h_,xz,xB,jH,jI,uI,uJ,uK,uL,v7,v8]
theorem f218(aS:χ)(cg:aJ aS)(ps:List Ξ)(bA:∀x∈ps,x.Ok)(bW:ps.length<1000000000000)(own:Nat)(x:δ)(hx:x.Ok)(fG:x.wt<1000000000000)
  (c:χ) (hc:aJ c) (ns:List aL) (d:Int) (L:bq) (hs:ez ns d L) (hl:ns.length<1000000000000) (m:Mem):
  kf u 218 [dT aS ps,.int .i64 own,x.av,cH c ns,.int .i64 d] m=some (.int .i64 (cJ ps own L x),m):=by
 by_cases h1:x.kind=1
 ·exact W0 aS cg ps bA bW own x hx fG c hc ns d L hs hl m h1
 by_cases xz:x.kind=2\/x.kind=4
 ·exact W3 aS cg ps bA bW own x hx fG c hc ns d L hs hl m xz
 by_cases h3:x.kind=3
 ·exact W4 aS cg ps bA bW own x hx fG c hc ns d L hs hl m h3
 by_cases h5:x.kind=5
 ·exact W5 aS cg ps bA bW own x hx fG c hc ns d L hs hl m h5
 by_cases h6:x.kind=6
 ·exact W6 aS cg ps bA bW own x hx fG c hc ns d L hs hl m h6
 by_cases h7:x.kind=7
 ·exact W7 aS cg ps bA bW own x hx fG c hc ns d L hs hl m h7
 by_cases h8:x.kind=8
 ·exact W8 aS cg ps bA bW own x hx fG c hc ns d L hs hl m h8
 by_cases h9:x.kind=9
 ·exact W9 aS cg ps bA bW own x hx fG c hc ns d L hs hl m h9
 by_cases aH:x.kind=10
 ·exact W1 aS cg ps bA bW own x hx fG c hc ns d L hs hl m aH
 by_cases cO:x.kind=11
 ·exact W2 aS cg ps bA bW own x hx fG c hc ns d L hs hl m cO
 exact WZ aS cg ps bA bW own x hx fG c hc ns d L hs hl m (by omega)
theorem cell0(x:δ):x.cells.take 1=[.int .i64 x.kind]:=by cases x;rfl
theorem nx(x:δ):(x.cells.drop 2).take 1=[.str x.name]:=by cases x;rfl
theorem V6(x:δ):(x.cells.drop 12).take 1=[.list x.cb (δ.Δ x.body)]:=by obtain⟨k,g,nm,cp,pl,⟨k1,n1,s1,c1,l1⟩,⟨k2,n2,s2,c2,l2⟩,cb,body,ce,aG⟩:=x;rfl
theorem V7(x:δ):(x.cells.drop 13).take 1=[.list x.ce (δ.Δ x.aG)]:=by obtain⟨k,g,nm,cp,pl,⟨k1,n1,s1,c1,l1⟩,⟨k2,n2,s2,c2,l2⟩,cb,body,ce,aG⟩:=x;rfl
theorem IZ(x:δ):x.cells.take 14=x.cells:=dY (by have:=δ.jT x;omega)
theorem MO{ps:List Ξ}{own:Nat}{L:bq}{x:δ}(h:cJ ps own L x=0)(hk:x.kind=2\/x.kind=4\/x.kind=8):L x.name= .none:=by
 obtain⟨k,g,nm,cp,pl,size,to,cb,body,ce,aG⟩:=x;simp only[δ.kind,δ.name]at hk⊢;have:dV L nm=0:=by
  rcases hk with rfl|rfl|rfl
  all_goals
   simp only[cJ]at h;simp at h;split at h
   ·assumption
   ·rename_i hn;exact absurd h hn
 exact(CT this).2
theorem aga{ps:List Ξ}{own:Nat}{L:bq}{x:δ}(h:cJ ps own L x=0)(hk:x.kind=5):L x.name= .none\/L x.name= .bit:=by
 obtain⟨k,g,nm,cp,pl,size,to,cb,body,ce,aG⟩:=x;simp only[δ.kind,δ.name]at hk⊢;subst hk;simp only[cJ]at h;simp at h;split at h
 ·split at h
  ·split at h
   ·rename_i uD;exact .inr uD
   ·exact .inl (CT h).2
  ·contradiction
 ·cases h
theorem Rx(ps:List Ξ)(own:Nat)(x:δ)(L:bq):sB ps own x L=if dh x.kind then(if du ps own x.body (inside L x.kind x.name)≠0 then du ps own x.body (inside L x.kind x.name)else if de x.kind then du ps own x.aG (inside L x.kind x.name)else 0)else 0:=by cases x;rfl
theorem WN{k:Int}(h:dh k=false):de k=false:=by simp only[dh,de,decide_eq_false_iff_not]at h⊢;omega
theorem agM{l:List δ}{x:δ}(h:x∈l):x.wt+l.length<=δ.bX l+1:=by
 induction l with
 |nil=>cases h
 |cons a l ih=>
  simp only[δ.bX,List.length_cons]
  have ha:=δ.yM a;have hl:=δ.wT l;rcases dO.1 h with rfl|h
  ·omega
  ·have:=ih h;omega
theorem f167(aS:χ)(cg:aJ aS)(ps:List Ξ)(bA:∀x∈ps,x.Ok)(bW:ps.length<1000000000000)(own:Nat)(l:List δ):
  ∀(cb:χ),aJ cb->δ.c7 l->∀(c:χ),aJ c->∀(ns:List aL) (d:Nat) (L:bq),ez ns d L->ns.length+δ.bX l+d<100000000000->∀m,
  kf u 167 [dT aS ps,.int .i64 own,.list cb (δ.Δ l),cH c ns,.int .i64 d] m=some (.int .i64 (du ps own l L),m):=by
 refine δ.lists (P:=fun l=>∀(cb:χ),aJ cb->δ.c7 l->∀(c:χ),aJ c->∀(ns:List aL) (d:Nat) (L:bq),ez ns d L->ns.length+δ.bX l+d<100000000000->∀m,
  kf u 167 [dT aS ps,.int .i64 own,.list cb (δ.Δ l),cH c ns,.int .i64 d] m=some (.int .i64 (du ps own l L),m)) (fun l ih cb pz ab c hc ns d L hs hw m=>?_) l
 refine bD (g:=E1) rfl rfl rfl ?_;simp only[ay,aA,oL pz ab,lv hc,nC cg bA];simp only[exp,E1,c167];have jU:=δ.wT l;let K:St->Prop:=fun st=>ζ st.env 1= .int .i64 own/\ζ st.env 2= .list cb (δ.Δ l)/\ζ st.env 4= .int .i64 d/\ζ st.env 5= .ae 5 0 0/\τ st.loc 5=some (0,.cells [.list aS (ps.map Ξ.av)])/\st.mem= {ε:=m.ε,θ:=[]};refine ω (fun st=>K st/\ζ st.env 3=cH c ns) (by simp[K,dT,aR]) fun s1 ⟨⟨h1,h2,h3,h4,h5,h6⟩,h7⟩=>?_;refine bc (fun st=>K st/\du ps own l L=0) ?_ fun s2 ⟨⟨h1,h2,h3,h4,h5,h6⟩,h7⟩=>by simp[h6,h7]
 let I:Nat->St->Prop:=fun i st=>K st/\ζ st.env 11= .int .i64 i/\∃c' eK L',aJ c'/\ez eK d L'/\eK.length<=ns.length+i/\ζ st.env 3=cH c' eK/\du ps own (l.drop i) L'=du ps own l L;refine ω (I 0) (by
  simp[I,K,h1,h2,h3,h4,h5,h6,h7]
  exact⟨c,hc,ns,L,hs,Nat.le_refl _,rfl,rfl⟩) fun s4 hI=>?_
 refine μ.block (μ.upto (I:=I) l.length hI (fun i st ρ ψ=>?_) (fun st ψ=>?_))
 ·obtain⟨⟨h1,h2,h3,h4,h5,h6⟩,q1,c',eK,L',gj,cd,gV,q2,q3⟩:=ψ;have fU:a_ .i64 ((i:Int)+1)=(i:Int)+1:=wrap_i64 (by omega) (by omega);have mD:a_ .i64 ((d:Int)+1)=(d:Int)+1:=wrap_i64 (by omega) (by omega);have hg:=Az l i ρ;have hm:l[i]∈l:=cL ρ;have jV:=δ.gO ab _ hm;obtain⟨mZ,kT⟩:=ih _ hm;have ou:=δ.o_ hm;have ahn:=agM hm;have ib:=δ.CV jV;have tJ:=δ.D4 jV;have cG:=δ.yM l[i];rw[jR ρ]at q3;generalize l[i]=y at*;have Bp:=fun m=>f218 (u:=u) aS cg ps bA bW own y jV (by omega) c' gj eK d L' cd (by omega) m;have tz:=fun m=>f149 (u:=u) y jV m;have w1:=fun w D m=>f166 (u:=u) c' gj eK y.name w D (by omega) m;have w2:=fun m=>f219 (u:=u) c' gj eK y.name (by omega) m;have w3:=fun m=>f165 (u:=u) c' gj eK y.name (by omega) m;have k0:=cell0 y;have k2:=nx y;have CF:=V6 y;have RG:=V7 y;have kt:=IZ y;have kl:=δ.jT y;simp only[δ.av,dT]at hg Bp tz;have hu:du ps own (y::l.drop (i+1)) L'=if cJ ps own L' y≠0 then cJ ps own L' y else if sB ps own y L'≠0 then sB ps own y L' else du ps own (l.drop (i+1)) (after L' y.kind y.name):=rfl;rw[hu]at q3;let J:St->Prop:=fun st=>K st/\ζ st.env 11= .int .i64 i/\ζ st.env 3=cH c' eK;let J2:St->Prop:=fun st=>J st/\∃v,ζ st.env 12= .ae 12 v 0/\τ st.loc 12=some (v,.cells y.cells);refine ω (J) (by simp[J,K,h1,h2,h3,h4,h5,h6,q1,q2,ρ,ng]) fun s5 ⟨⟨h1,h2,h3,h4,h5,h6⟩,q1,q2⟩=>?_;refine bc (fun st=>K st/\ζ st.env 11= .int .i64 i/\∃c2 CU,aJ c2/\ez CU d (after L' y.kind y.name)/\CU.length<=ns.length+(i+1)/\ζ st.env 3=cH c2 CU/\du ps own (l.drop (i+1)) (after L' y.kind y.name)=du ps own l L) ?_ fun s6 ⟨⟨h1,h2,h3,h4,h5,h6⟩,q1,c2,CU,a1,a2,a3,a4,a5⟩=>by simp[I,K,h1,h2,h3,h4,h5,h6,q1,fU];exact⟨c2,a1,CU,_,a2,a3,a4,a5⟩
  refine μ.block ?_;refine ω (J2) (by simp[J2,J,K,h1,h2,h3,h4,h5,h6,q1,q2,ρ,hg,kl,kt,ng]) fun s5 ⟨⟨⟨h1,h2,h3,h4,h5,h6⟩,q1,q2⟩,v,q4,q5⟩=>?_;by_cases jX:cJ ps own L' y=0
  case neg=>
   rw[if_pos jX]at q3
   rw[q3]at jX Bp;refine bc (fun _=>False) ?_ fun _ h=>h.elim;simp[K,h1,h2,h3,h4,h5,h6,q1,q2,q4,q5,kl,kt,Bp,bne_true jX,jX]
  rw[if_neg (by simpa using jX)]at q3;rw[jX]at Bp;refine ω (J2) (by simp[J2,J,K,h1,h2,h3,h4,h5,h6,q1,q2,q4,q5,kl,kt,Bp]) fun s5 ⟨⟨⟨h1,h2,h3,h4,h5,h6⟩,q1,q2⟩,v,q4,q5⟩=>?_;refine ω (fun st=>J2 st/\ζ st.env 14=cH c' eK) (by simp[J2,J,K,h1,h2,h3,h4,h5,h6,q1,q2,q4,q5]) fun s5 ⟨⟨⟨⟨h1,h2,h3,h4,h5,h6⟩,q1,q2⟩,v,q4,q5⟩,q6⟩=>?_;have uG:=cd.inner;refine ω (fun st=>J2 st/\(y.kind=4/\ζ st.env 14=cH .any (eK++[⟨y.name,3,d+1⟩])\/y.kind≠4/\ζ st.env 14=cH c' eK)) (by
   by_cases mR:y.kind=4
   ·have w:=w1 3 (d+1);simp[J2,J,K,h1,h2,h3,h4,h5,h6,q1,q2,q4,q5,q6,kl,k0,k2,mR,mD,w]
   ·simp[J2,J,K,h1,h2,h3,h4,h5,h6,q1,q2,q4,q5,q6,kl,k0,mR,eC mR]) fun s5 ⟨⟨⟨⟨h1,h2,h3,h4,h5,h6⟩,q1,q2⟩,v,q4,q5⟩,q6⟩=>?_
  let Sc:St->Prop:=fun st=>∃y0 yu,aJ y0/\ez yu (d+1) (inside L' y.kind y.name)/\yu.length<=eK.length+1/\ζ st.env 14=cH y0 yu;refine ω (fun st=>J2 st/\Sc st) (by
   by_cases kP:y.kind=8
   ·have mR:y.kind≠4:=by omega
    have w:=w1 5 (d+1);have hn:=MO jX (by omega);simp[J2,J,K,Sc,h1,h2,h3,h4,h5,h6,q1,q2,q4,q5,kl,k0,k2,kP,mD,w];refine⟨.any,.inr rfl,eK++[⟨y.name,5,d+1⟩],?_,by simp,rfl⟩;have:=uG.put (Tp _ _ hn) 5 (by decide);simpa[inside,fX,kP]using this
   ·simp[J2,J,K,Sc,h1,h2,h3,h4,h5,h6,q1,q2,q4,q5,kl,k0,eC kP];rcases q6 with⟨mR,q6⟩|⟨mR,q6⟩
    ·have hn:=MO jX (by omega);refine⟨.any,.inr rfl,eK++[⟨y.name,3,d+1⟩],?_,by simp,q6⟩;have:=uG.put (Tp _ _ hn) 3 (by decide);simpa[inside,fX,mR]using this
    ·refine⟨c',gj,eK,?_,by omega,q6⟩;simpa[inside,mR,kP]using uG) fun s5 ⟨⟨⟨⟨h1,h2,h3,h4,h5,h6⟩,q1,q2⟩,v,q4,q5⟩,y0,yu,b1,b2,b3,q6⟩=>?_
  have eb:=fun m=>mZ y.cb tJ.1 ib.1 y0 b1 yu (d+1) _ (by simpa using b2) (by omega) m;have ee:=fun m=>kT y.ce tJ.2 ib.2 y0 b1 yu (d+1) _ (by simpa using b2) (by omega) m;simp only[dT,Int.natCast_add,Int.cast_ofNat_Int]at eb ee;rw[Rx]at q3;generalize du ps own y.body (inside L' y.kind y.name)=be at*;generalize du ps own y.aG (inside L' y.kind y.name)=Eg at*;let J3:St->Prop:=fun st=>J2 st/\ζ st.env 14=cH y0 yu/\ζ st.env 15= .bool (dh y.kind)/\ζ st.env 16= .bool (de y.kind);refine ω (J3) (by simp[J3,J2,J,K,h1,h2,h3,h4,h5,h6,q1,q2,q4,q5,q6,kl,kt,tz]) fun s5 ⟨⟨⟨⟨h1,h2,h3,h4,h5,h6⟩,q1,q2⟩,v,q4,q5⟩,q6,q7,q8⟩=>?_;let Q3:Prop:=((if de y.kind=true then Eg else 0)≠0->(if de y.kind=true then Eg else 0)=du ps own l L)/\((if de y.kind=true then Eg else 0)=0->du ps own (l.drop (i+1)) (after L' y.kind y.name)=du ps own l L);refine bc (fun st=>J3 st/\Q3) ?_ fun s6 ⟨⟨⟨⟨⟨h1,h2,h3,h4,h5,h6⟩,q1,q2⟩,v,q4,q5⟩,q6,q7,q8⟩,q9,fZ⟩=>?_
  ·by_cases hb:dh y.kind=true
   case neg=>
    have bf:dh y.kind=false:=by simpa using hb
    have fT:=WN bf;rw[bf]at q7 q3;simp only[gY,if_false,ne_eq,not_true_eq_false]at q3;have hq:Q3:=by simp[Q3,fT,q3]
    simp[J3,J2,J,K,h1,h2,h3,h4,h5,h6,q1,q2,q4,q5,q6,q7,q8,bf,hq]
   rw[hb]at q7 q3;simp only[if_true]at q3;by_cases gh:be=0
   case neg=>
    rw[if_pos (by rw[if_pos gh];exact gh),if_pos gh]at q3
    rw[q3]at gh eb;simp[K,h1,h2,h3,h4,h5,h6,q1,q2,q4,q5,q6,q7,q8,kl,CF,eb,mD,bne_true gh,gh]
   rw[if_neg (show¬be≠0 by simpa using gh)]at q3;rw[gh]at eb;have hq:Q3:=by
    refine⟨fun hz=>?_,fun hz=>?_⟩
    ·rw[if_pos hz]at q3;exact q3
    ·rw[if_neg (by simpa using hz)]at q3;exact q3
   simp[J3,J2,J,K,h1,h2,h3,h4,h5,h6,q1,q2,q4,q5,q6,q7,q8,kl,CF,eb,mD,hb,hq]
  refine bc (fun st=>J2 st/\du ps own (l.drop (i+1)) (after L' y.kind y.name)=du ps own l L) ?_ fun s6 ⟨⟨⟨⟨h1,h2,h3,h4,h5,h6⟩,q1,q2⟩,v,q4,q5⟩,q3⟩=>?_
  ·by_cases he:de y.kind=true
   case neg=>
    have fT:de y.kind=false:=by simpa using he
    rw[fT]at q8;have hq:=fZ (by simp[fT]);simp[J2,J,K,h1,h2,h3,h4,h5,h6,q1,q2,q4,q5,q6,q7,q8,hq]
   rw[he]at q8;simp only[he,if_true]at q9 fZ;by_cases oQ:Eg=0
   case neg=>
    have hq:=q9 oQ
    rw[hq]at oQ ee;simp[K,h1,h2,h3,h4,h5,h6,q1,q2,q4,q5,q6,q7,q8,kl,RG,ee,mD,bne_true oQ,oQ]
   have hq:=fZ oQ;rw[oQ]at ee;simp[J2,J,K,h1,h2,h3,h4,h5,h6,q1,q2,q4,q5,q6,q7,q8,kl,RG,ee,mD,hq]
  ·by_cases eF:y.kind=2
   ·have hn:=MO jX (by omega);have w:=w1 2 d;simp[K,h1,h2,h3,h4,h5,h6,q1,q2,q4,q5,kl,k0,k2,eF,w];refine⟨.any,.inr rfl,eK++[⟨y.name,2,d⟩],?_,by simp;omega,rfl,by simpa[eF]using q3⟩;have:=cd.put hn 2 (by decide);simpa[after,eF,fX]using this
   by_cases jH:y.kind=3
   ·obtain⟨c3,J9,w⟩:=w2 {ε:=m.ε,θ:=[]};simp[K,h1,h2,h3,h4,h5,h6,q1,q2,q4,q5,kl,k0,k2,jH,w];refine⟨c3,J9,_,?_,?_,rfl,by simpa[jH]using q3⟩
    ·have:=cd.del y.name;simpa[after,jH]using this
    ·have:=List.length_filter_le (fun x:aL=>x.name !=y.name) eK;omega
   by_cases jI:y.kind=5
   ·have zS:=aga jX jI;obtain⟨nn,w,e',hf,h0,kO,hL,-⟩:=nE cd y.name;rw[hf]at w3;simp only[aL.av]at w3;rcases zS with hn|uD
    ·have iq:w=0:=by have:=(cd.Me y.name).1 hn;rw[hf]at this;exact this
     subst iq;have w:=w1 4 d;simp[K,h1,h2,h3,h4,h5,h6,q1,q2,q4,q5,kl,k0,k2,jI,w,w3];refine⟨.any,.inr rfl,eK++[⟨y.name,4,d⟩],?_,by simp;omega,rfl,by simpa[jI]using q3⟩;have:=cd.put hn 4 (by decide);simpa[after,jI,fX]using this
    ·have iq:w≠0:=by
      rintro rfl
      rw[hL]at uD;simp[fX]at uD
     simp[K,h1,h2,h3,h4,h5,h6,q1,q2,q4,q5,kl,k0,k2,jI,w3,eC iq];refine⟨c',gj,eK,?_,by omega,rfl,by simpa[jI]using q3⟩;simpa[after,jI,ae4 _ _ _ uD]using cd
   ·simp[K,h1,h2,h3,h4,h5,h6,q1,q2,q4,q5,kl,k0,k2,eC eF,eC jH,eC jI];refine⟨c',gj,eK,?_,by omega,rfl,q3⟩;simpa[after,eF,jH,jI]using cd
 ·obtain⟨⟨h1,h2,h3,h4,h5,h6⟩,q1,c',eK,L',gj,cd,gV,q2,q3⟩:=ψ;rw[AJ]at q3;have hz:du ps own l L=0:=q3.symm;simp[K,RO,h1,h2,h3,h4,h5,h6,q1,hz,ng]
theorem aeU(ps:List Ξ)(k:Nat)(hk:k<ps.length):decide (o7 ps ps[k].name<(k:Int))=(ps.take k).any (fun p=>p.name==ps[k].name):=by
 unfold o7;cases h:nQ ps ps[k].name with
 |none=>
  rw[nQ,List.findIdx?_eq_none_iff]at h
  have:=h ps[k] (cL hk);simp at this
 |some n=>
  rw[nQ,sZ]at h
  obtain⟨h1,h2,h3⟩:=h;by_cases hn:n<k
  ·have ha:(ps.take k).any (fun p=>p.name==ps[k].name)=true:=by rw[List.any_eq_true];refine⟨ps[n],?_,h2⟩;rw[ahC];exact⟨n,by omega,rfl⟩
   rw[ha];simp;omega
  ·have ha:(ps.take k).any (fun p=>p.name==ps[k].name)=false:=by rw[List.any_eq_false];intro x hx;rw[ahC]at hx;obtain⟨j,hj,rfl⟩:=hx;exact h3 j (by omega)
   rw[ha];simp;omega
theorem aeE(l:List aI):∀L:bq,L.inner=L->(lG l L).inner=lG l L:=by
 induction l with
 |nil=>exact fun _ h=>h
 |cons x l ih=>
  intro L h
  refine ih _ ?_;funext t;have:=congrFun h t;simp only[bq.inner,bq.put]at this⊢;by_cases ht:t=x.name
  ·simp[ht]
  ·simpa[ht]using this
theorem adA:jN.inner=jN:=rfl
theorem f100(aS:χ)(cg:aJ aS)(ps:List Ξ)(bA:∀x∈ps,x.Ok)(cU:lH ps<10000000000)(k:Nat)(hk:k<ps.length)(m:Mem):
  kf u 100 [dT aS ps,.int .i64 k] m=some (.int .i64 (sK ps k ps[k]),m):=by
 refine bD (g:=EB) rfl rfl rfl ?_;simp only[ay,aA,nC cg bA];simp only[exp,EB,NN];have hlen:=HK ps;have hm:ps[k]∈ps:=cL hk;have ab:=bA _ hm;have ou:=Ξ.o_ hm;have ρ:=aeU ps k hk;have lr:=fun m=>f150 (u:=u) aS cg ps bA ps[k].name (by omega) m;have D':=fun m=>f164 (u:=u) ps[k].name m;have PB:=fun(c:χ) (hc:aJ c) (ns:List aL) (L:bq) (hs:ez ns ((1:Nat):Int) L) (hw:ns.length+δ.bX ps[k].body+1<100000000000) (m:Mem)=>f167 (u:=u) aS cg ps bA (by omega) k ps[k].body ps[k].cb ab.2.2.2.1 ab.2.2.2.2.1 c hc ns 1 L hs hw m;have WH:=fun m=>f148 (u:=u) ps[k].body ps[k].cb ab.2.2.2.1 ab.2.2.2.2.1 (by simp only[Ξ.wt]at ou;omega) m;have QH:=δ.xm ps[k].body;simp only[Ξ.wt]at ou;generalize yc:ps[k]=x at*;simp only[sK];rw[<-ρ];let K:St->Prop:=fun st=>ζ st.env 1= .int .i64 k/\ζ st.env 2= .ae 2 0 0/\τ st.loc 2=some (0,.cells [.list aS (ps.map Ξ.av)])/\st.mem= {ε:=m.ε,θ:=[]};refine ω (K) (by simp[K,dT,aR]) fun s1 ⟨h1,h2,h3,h4⟩=>?_;let J:St->Prop:=fun st=>K st/\∃v,ζ st.env 5= .ae 5 v 0/\τ st.loc 5=some (v,.cells [.str x.name,.list x.cp (x.aK.map aI.av),.list x.cb (δ.Δ x.body)]);refine ω (J) (by simp[J,K,h1,h2,h3,h4,hk,yc,Ξ.av]) fun s1 ⟨⟨h1,h2,h3,h4⟩,v,h5,h6⟩=>?_;simp only[dT]at lr PB;cases hn:jM x.name with
 |false=>
  rw[hn]at D'
  refine bc (fun _=>False) ?_ fun _ h=>h.elim;simp[h1,h2,h3,h4,h5,h6,D']
 |true=>
 rw[hn]at D'
 refine ω (J) (by simp[J,K,h1,h2,h3,h4,h5,h6,D']) fun s1 ⟨⟨h1,h2,h3,h4⟩,v,h5,h6⟩=>?_;by_cases zU:o7 ps x.name<(k:Int)
 ·refine bc (fun _=>False) ?_ fun _ h=>h.elim;simp[h1,h2,h3,h4,h5,h6,lr,zU]
 refine ω (J) (by simp[J,K,h1,h2,h3,h4,h5,h6,lr,zU]) fun s1 ⟨⟨h1,h2,h3,h4⟩,v,h5,h6⟩=>?_;by_cases xZ:4<x.aK.length
 ·have x4:(4:Int)<(x.aK.length:Int):=by omega
  refine bc (fun _=>False) ?_ fun _ h=>h.elim;simp[h1,h2,h3,h4,h5,h6,zU,xZ,x4]
 have x4:¬(4:Int)<(x.aK.length:Int):=by omega
 refine ω (J) (by simp[J,K,h1,h2,h3,h4,h5,h6,x4]) fun s1 ⟨⟨h1,h2,h3,h4⟩,v,h5,h6⟩=>?_;simp only[Ih,if_false,zU,decide_false,gY,xZ];refine ω (fun st=>J st/\ζ st.env 6=cH .nil []) (by simp[J,K,h1,h2,h3,h4,h5,h6,cH]) fun s1 ⟨⟨⟨h1,h2,h3,h4⟩,v,h5,h6⟩,h7⟩=>?_;refine bc (fun st=>J st/\nP x.aK jN=0/\∃c' eK,aJ c'/\ez eK 0 (lG x.aK jN)/\eK.length<=x.aK.length/\ζ st.env 6=cH c' eK) ?_ fun s1 ⟨⟨⟨h1,h2,h3,h4⟩,v,h5,h6⟩,hz,c',eK,gj,cd,gV,h7⟩=>?_
 ·let I:Nat->St->Prop:=fun i st=>J st/\ζ st.env 7= .int .i64 i/\∃c' eK L',aJ c'/\ez eK 0 L'/\eK.length<=i/\ζ st.env 6=cH c' eK/\nP (x.aK.drop i) L'=nP x.aK jN/\lG (x.aK.drop i) L'=lG x.aK jN;refine ω (I 0) (by
   simp[I,J,K,h1,h2,h3,h4,h5,h6,h7]
   exact⟨.nil,.inl rfl,[],jN,ez.empty 0,rfl,rfl,rfl,rfl⟩) fun s4 hI=>?_
  refine μ.block (μ.loop (I:=I) x.aK.length hI fun i st hi ψ=>?_);obtain⟨⟨⟨h1,h2,h3,h4⟩,v,h5,h6⟩,q1,c',eK,L',gj,cd,gV,q2,q3,q4⟩:=ψ;rcases bP i x.aK.length with dk|cG
  ·have fU:a_ .i64 ((i:Int)+1)=(i:Int)+1:=wrap_i64 (by omega) (by omega);rw[jR dk]at q3 q4;have f1:=fun m=>f164 (u:=u) x.aK[i].name m;have f2:=fun m=>f165 (u:=u) c' gj eK x.aK[i].name (by omega) m;have f3:=fun m=>f166 (u:=u) c' gj eK x.aK[i].name 1 0 (by omega) m;have f4:=fun m=>f99 (u:=u) x.aK[i].size 1 12 m;simp only[nP]at q3;simp only[lG]at q4;cases qS:jM x.aK[i].name with
   |false=>
    rw[qS]at f1 q3
    right;simp at q3;simp[Ad,h1,h2,h3,h4,h5,h6,q1,q2,dk,aI.av,f1,<-q3]
   |true=>
    rw[qS]at f1 q3
    simp only[Ih,if_false]at q3;by_cases bh:x.aK[i].size<1\/12<x.aK[i].size
    ·have:(decide (x.aK[i].size<1)||decide (x.aK[i].size>12))=true:=by simpa using bh
     rw[this]at f4;rw[if_pos bh]at q3;right;simp[Ad,h1,h2,h3,h4,h5,h6,q1,q2,dk,aI.av,f1,f4,<-q3]
    have:(decide (x.aK[i].size<1)||decide (x.aK[i].size>12))=false:=by simp;omega
    rw[this]at f4;rw[if_neg bh]at q3;obtain⟨nn,w,e',hf,h0,kO,hL,-⟩:=nE cd x.aK[i].name;rw[hf]at f2;simp only[aL.av]at f2;by_cases pK:L' x.aK[i].name= .none
    ·have iq:w=0:=by have:=(cd.Me x.aK[i].name).1 pK;rw[hf]at this;exact this
     subst iq;rw[if_neg (by simpa using pK)]at q3;left;refine⟨dk,?_⟩;simp[I,J,K,Ad,h1,h2,h3,h4,h5,h6,q1,q2,dk,aI.av,f1,f2,f3,f4,fU];refine⟨.any,.inr rfl,_,_,?_,?_,rfl,q3,q4⟩
     ·have:=cd.put pK 1 (by decide);simpa[fX]using this
     ·simp;omega
    ·have iq:w≠0:=by
      rintro rfl
      apply pK;rw[hL];simp[fX]
     rw[if_pos pK]at q3;right;simp[Ad,h1,h2,h3,h4,h5,h6,q1,q2,dk,aI.av,f1,f2,f4,bne_true iq,<-q3]
  ·right;have:i=x.aK.length:=by omega
   subst this;rw[AJ]at q3 q4;simp only[nP]at q3;simp only[lG]at q4;simp[J,K,Ad,h1,h2,h3,h4,h5,h6,q1,q2,<-q3];rw[<-q4];exact⟨c',gj,eK,cd,gV,rfl⟩
 ·rw[hz];simp only[ne_eq,not_true_eq_false,if_false];have ot:ez eK ((1:Nat):Int) (lG x.aK jN):=by have:=cd.inner;rw[aeE _ _ adA]at this;simpa using this
  have e:=PB c' gj eK _ ot (by omega);have e':∀m,kf u 167 [.agg [.list aS (ps.map Ξ.av)],.int .i64 k,.list x.cb (δ.Δ x.body),cH c' eK,.int .i64 1] m=some (.int .i64 (du ps k x.body (lG x.aK jN)),m):=e;generalize du ps k x.body (lG x.aK jN)=be at*;refine ω (fun st=>J st/\ζ st.env 6=cH c' eK/\ζ st.env 8= .int .i64 (δ.bj x.body)/\ζ st.env 9= .int .i64 (δ.cM x.body)) (by simp[J,K,h1,h2,h3,h4,h5,h6,h7,WH]) fun s1 ⟨⟨⟨h1,h2,h3,h4⟩,v,h5,h6⟩,h7,h8,h9⟩=>?_;by_cases hc:120<δ.bj x.body
  ·have gj:(120:Int)<(δ.bj x.body:Int):=by omega
   refine bc (fun _=>False) ?_ fun _ h=>h.elim;simp[h1,h2,h3,h4,h5,h6,h8,hc,gj]
  have iS:¬(120:Int)<(δ.bj x.body:Int):=by omega
  refine ω (fun st=>J st/\ζ st.env 6=cH c' eK/\ζ st.env 9= .int .i64 (δ.cM x.body)) (by simp[J,K,h1,h2,h3,h4,h5,h6,h7,h8,h9,iS]) fun s1 ⟨⟨⟨h1,h2,h3,h4⟩,v,h5,h6⟩,h7,h9⟩=>?_;by_cases hd:6<δ.cM x.body
  ·have je:(6:Int)<(δ.cM x.body:Int):=by omega
   refine bc (fun _=>False) ?_ fun _ h=>h.elim;simp[h1,h2,h3,h4,h5,h6,h9,hc,hd,je]
  have gm:¬(6:Int)<(δ.cM x.body:Int):=by omega
  refine ω (fun st=>J st/\ζ st.env 6=cH c' eK) (by simp[J,K,h1,h2,h3,h4,h5,h6,h7,h9,gm]) fun s1 ⟨⟨⟨h1,h2,h3,h4⟩,v,h5,h6⟩,h7⟩=>?_;simp[h1,h2,h3,h4,h5,h6,h7,e',hc,hd]
theorem f22(aS:χ)(cg:aJ aS)(ps:List Ξ)(bA:∀x∈ps,x.Ok)(cU:lH ps<10000000000)(m:Mem):
  kf u 22 [dT aS ps] m=some (.int .i64 (ko ps),m):=by
 refine bD (g:=g22) rfl rfl rfl ?_;simp only[ay,aA,nC cg bA];simp only[g22,Ot];have hlen:=HK ps;have lu:=fun m=>f99 (u:=u) ps.length 1 12 m;have WB:=fun k hk m=>f100 (u:=u) aS cg ps bA cU k hk m;simp only[dT]at*;let K:St->Prop:=fun st=>ζ st.env 1= .ae 1 0 0/\τ st.loc 1=some (0,.cells [.list aS (ps.map Ξ.av)])/\st.mem= {ε:=m.ε,θ:=[]};refine ω (K) (by simp[K,aR]) fun s1 ⟨h1,h2,h3⟩=>?_;unfold ko;by_cases ho:ps.length<1\/12<ps.length
 ·have:(decide ((ps.length:Int)<1)||decide ((ps.length:Int)>12))=true:=by simp;omega
  rw[this]at lu;rw[if_pos ho];refine bc (fun _=>False) ?_ fun _ h=>h.elim;simp[h1,h2,h3,lu]
 have:(decide ((ps.length:Int)<1)||decide ((ps.length:Int)>12))=false:=by simp;omega
 rw[this]at lu;rw[if_neg ho];refine ω (K) (by simp[K,h1,h2,h3,lu]) fun s1 ⟨h1,h2,h3⟩=>?_;refine bc (fun st=>K st/\o8 ps 0 ps=0) ?_ fun s2 ⟨⟨h1,h2,h3⟩,h4⟩=>by simp[h3,h4]
 let I:Nat->St->Prop:=fun i st=>K st/\ζ st.env 3= .int .i64 i/\o8 ps i (ps.drop i)=o8 ps 0 ps;refine ω (I 0) (by simp[I,K,h1,h2,h3]) fun s4 hI=>?_;refine μ.block (μ.loop (I:=I) ps.length hI fun i st hi ψ=>?_);obtain⟨⟨h1,h2,h3⟩,q1,q2⟩:=ψ;rcases bP i ps.length with ρ|cG
 ·have fU:a_ .i64 ((i:Int)+1)=(i:Int)+1:=wrap_i64 (by omega) (by omega);have e:=WB i ρ;rw[jR ρ]at q2;simp only[o8]at q2;by_cases hz:sK ps i ps[i]=0
  ·rw[if_neg (by simpa using hz)]at q2;rw[hz]at e;left;refine⟨ρ,?_⟩;simp[I,K,Hm,h1,h2,h3,q1,ρ,e,fU,q2]
  ·rw[if_pos hz]at q2;rw[q2]at e hz;right;simp[K,Hm,h1,h2,h3,q1,ρ,e,bne_true hz]
 ·right;have:i=ps.length:=by omega
  subst this;rw[AJ]at q2;simp only[o8]at q2;simp[K,Hm,h1,h2,h3,q1,<-q2]
end Go.ah.Tz
