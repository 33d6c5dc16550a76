import Derived.Test.YtiigojkfojnedaaGreatDoorQHi
set_option linter.unusedVariables false
set_option linter.unusedSimpArgs false
set_option linter.unusedSectionVars false
set_option maxRecDepth 100000
set_option maxHeartbeats 8000000
open List renaming map_cons->ay,mem_cons->dO,nodup_cons->wY,mem_map->jy,getElem?_eq_none->gZ,getElem?_append_left->dX,cons_append->eO,nil_append->cI,append_nil->dW,map_nil->aA,getElem_mem->cL,findIdx?_eq_some_iff_getElem->sZ,findIdx?_eq_none_iff->vo
open Nat renaming lt_or_ge->bP
open Go.IntKind renaming wrap->a_
namespace Go.ah.Tz
open Go.ah
variable{u:Nat}
attribute [local simp] exec ed dP eX aC dQ ft eL ζ gg τ fW gy gH gI AV.cells newVar gE rd wr fK single eV bY ek dF μ aY RV.get aV dB iE
def bG(x:aL):AV×AV:=(.str x.name,.agg [.int .i64 x.w,.int .i64 x.d])
def iL:List aL->List Nat->Int->Int->List aL
 |[],s,w,d=>[⟨s,w,d⟩]
 |x::l,s,w,d=>if x.name=s then⟨s,w,d⟩::l else x::iL l s w d
def nB:List aL->List Nat->List aL
 |[],_=>[]
 |x::l,s=>if x.name=s then l else x::nB l s
theorem ade(es:List aL)(s:List Nat):(iZ (.str s) (es.map bG)=some none/\dG es s=⟨[],0,0⟩/\¬∃y∈es,y.name=s)\/∃w d,iZ (.str s) (es.map bG)=some (some (.agg [.int .i64 w,.int .i64 d]))/\dG es s=⟨s,w,d⟩/\⟨s,w,d⟩∈es:=by
 induction es with
 |nil=>exact .inl ⟨rfl,rfl,by simp⟩
 |cons a l ih=>
  obtain⟨nn,w,d⟩:=a
  by_cases h:nn=s
  ·subst h;exact .inr ⟨w,d,by simp[iZ,bG,jj],by simp[dG],by simp⟩
  ·have ak:¬s=nn:=Ne.symm h;rcases ih with⟨h1,h2,h3⟩|⟨w',d',h1,h2,h3⟩
   ·exact .inl ⟨by simpa[iZ,bG,jj,ak]using h1,by simp[dG,h,h2],by simpa[h]using h3⟩
   ·exact .inr ⟨w',d',by simpa[iZ,bG,jj,ak]using h1,by simp[dG,h,h2],by simp[h3]⟩
theorem HB(es:List aL)(s:List Nat)(w d:Int):tP (.str s) (.agg [.int .i64 w,.int .i64 d]) (es.map bG)=some ((iL es s w d).map bG):=by
 induction es with
 |nil=>rfl
 |cons a l ih=>
  by_cases h:a.name=s
  ·have h':s=a.name:=h.symm;simp[tP,bG,jj,iL,h]
  ·have ak:¬s=a.name:=Ne.symm h;simp only[ay,tP,bG,jj,ak,decide_false,iL,h,if_false]at ih⊢;rw[ih];rfl
theorem adm(es:List aL)(s:List Nat):wC (.str s) (es.map bG)=some ((nB es s).map bG):=by
 induction es with
 |nil=>rfl
 |cons a l ih=>
  by_cases h:a.name=s
  ·simp[wC,bG,jj,nB,h]
  ·have ak:¬s=a.name:=Ne.symm h;have Rv:wC (.str s) (l.map bG)=some ((nB l s).map bG):=ih;simp only[ay,wC,jj,bG,ak,decide_false,nB,h,if_false];have e:(l.map fun x=>(AV.str x.name,AV.agg [.int .i64 x.w,.int .i64 x.d]))=l.map bG:=rfl
   first|rw[Rv]|(rw[e,Rv])
   rfl
theorem Xg(es:List aL)(s:List Nat)(w d:Int)(t:List Nat):dG (iL es s w d) t=if t=s then⟨s,w,d⟩else dG es t:=by
 induction es with
 |nil=>
  by_cases h:t=s
  ·subst h;simp[iL,dG]
  ·simp[iL,dG,h,Ne.symm h]
 |cons a l ih=>
  by_cases h:a.name=s
  ·by_cases h2:t=s
   ·subst h2;simp[iL,dG,h]
   ·have:¬a.name=t:=fun he=>h2 (he.symm.trans h);simp[iL,dG,h,h2,Ne.symm h2,this]
  ·by_cases h2:t=s
   ·subst h2;simp[iL,dG,h,ih]
   ·simp only[iL,h,if_false,dG,ih,h2]
theorem Ms{es:List aL}{s:List Nat}{w d:Int}{x:aL}(h:x∈iL es s w d):x=⟨s,w,d⟩\/x∈es:=by
 induction es with
 |nil=>simp[iL]at h;exact .inl h
 |cons a l ih=>
  simp only[iL]at h
  split at h
  ·rcases dO.1 h with h|h
   ·exact .inl h
   ·exact .inr (by simp[h])
  ·rcases dO.1 h with h|h
   ·exact .inr (by simp[h])
   ·rcases ih h with h|h
    ·exact .inl h
    ·exact .inr (by simp[h])
theorem Jb{es:List aL}{s:List Nat}{x:aL}(h:x∈nB es s):x∈es:=by
 induction es with
 |nil=>cases h
 |cons a l ih=>
  simp only[nB]at h
  split at h
  ·simp[h]
  ·rcases dO.1 h with h|h
   ·simp[h]
   ·simp[ih h]
theorem ae3{es:List aL}{s:List Nat}{w d:Int}(h:(es.map aL.name).Nodup):((iL es s w d).map aL.name).Nodup:=by
 induction es with
 |nil=>simp[iL]
 |cons a l ih=>
  rw[ay,wY]at h
  simp only[iL];split
  ·rename_i he;rw[ay,wY];exact⟨by rw[<-he];exact h.1,h.2⟩
  ·rename_i ak;rw[ay,wY];refine⟨fun hm=>?_,ih h.2⟩;obtain⟨x,hx,he⟩:=jy.1 hm;rcases Ms hx with rfl|hx
   ·exact ak he.symm
   ·exact h.1 (jy.2 ⟨x,hx,he⟩)
theorem Wz{es:List aL}{s:List Nat}(h:(es.map aL.name).Nodup):((nB es s).map aL.name).Nodup:=by
 induction es with
 |nil=>simp[nB]
 |cons a l ih=>
  rw[ay,wY]at h
  simp only[nB];split
  ·exact h.2
  ·rw[ay,wY];refine⟨fun hm=>?_,ih h.2⟩;obtain⟨x,hx,he⟩:=jy.1 hm;exact h.1 (jy.2 ⟨x,Jb hx,he⟩)
theorem Xd{es:List aL}(s:List Nat)(h:(es.map aL.name).Nodup)(t:List Nat):dG (nB es s) t=if t=s then⟨[],0,0⟩else dG es t:=by
 induction es with
 |nil=>simp[nB,dG]
 |cons a l ih=>
  rw[ay,wY]at h
  simp only[nB];by_cases he:a.name=s
  ·simp only[he,if_true];by_cases h2:t=s
   ·subst h2;simp only[if_true];refine PU ?_
    rintro⟨y,hy,uT⟩
    exact h.1 (jy.2 ⟨y,hy,uT.trans he.symm⟩)
   ·simp only[h2,if_false,dG,he,Ne.symm h2]
  ·simp only[he,if_false,dG,ih h.2];by_cases h2:t=s
   ·subst h2;simp[he]
   ·simp[h2]
def jL(n:aL)(b:Int):k_:=if n.w=1 then .nf (decide (n.d=b))else if n.w=2 then .bit else if n.w=3 then .Dp else .none
structure fC (es:List aL) (b nb:Int) (L:bq):Prop where
 look:∀s,L s=jL (dG es s) b
 ws:∀x∈es,1<=x.w/\x.w<=3
 ds:∀x∈es,x.d<nb
 nd:(es.map aL.name).Nodup
theorem fC.empty(b nb:Int):fC [] b nb jN:=⟨fun _=>rfl,fun _ h=>(by cases h),fun _ h=>(by cases h),by simp⟩
theorem fC.mono{es:List aL}{b nb eg:Int}{L:bq}(h:fC es b nb L)(hb:nb<=eg):fC es b eg L:=⟨h.look,h.ws,fun x hx=>by have:=h.ds x hx;omega,h.nd⟩
theorem fC.put{es:List aL}{b nb:Int}{L:bq}(h:fC es b nb L)(s:List Nat)(w d:Int)(hw:1<=w/\w<=3)(hd:d<nb):fC (iL es s w d) b nb (L.put s (jL ⟨s,w,d⟩ b)):=by
 refine⟨fun t=>?_,fun x hx=>?_,fun x hx=>?_,ae3 h.nd⟩
 ·rw[Xg];simp only[bq.put];by_cases ht:t=s
  ·simp[ht]
  ·simp[ht,h.look t]
 ·rcases Ms hx with rfl|hx
  ·exact hw
  ·exact h.ws x hx
 ·rcases Ms hx with rfl|hx
  ·exact hd
  ·exact h.ds x hx
theorem fC.del{es:List aL}{b nb:Int}{L:bq}(h:fC es b nb L)(s:List Nat):fC (nB es s) b nb (L.put s .none):=by
 refine⟨fun t=>?_,fun x hx=>h.ws x (Jb hx),fun x hx=>h.ds x (Jb hx),Wz h.nd⟩;rw[Xd s h.nd];simp only[bq.put];by_cases ht:t=s
 ·simp[ht,jL]
 ·simp[ht,h.look t]
theorem fC.inner{es:List aL}{b nb:Int}{L:bq}(h:fC es b nb L):fC es nb (nb+1) L.inner:=by
 refine⟨fun t=>?_,h.ws,fun x hx=>by have:=h.ds x hx;omega,h.nd⟩;simp only[bq.inner,h.look t];rcases zh es t with h1|⟨h1,_⟩
 ·simp[h1,jL]
 ·have hd:=h.ds _ h1;have ak:¬(dG es t).d=nb:=by omega
  unfold jL
  (repeat' split)<;>simp_all
theorem Ap{es:List aL}{b nb:Int}{L:bq}(h:fC es b nb L)(s:List Nat):
  (iZ (.str s) (es.map bG)=some none/\L s= .none)\/∃w d,iZ (.str s) (es.map bG)=some (some (.agg [.int .i64 w,.int .i64 d]))/\(w=1\/w=2\/w=3)/\L s=jL ⟨s,w,d⟩ b:=by
 have hl:=h.look s;rcases ade es s with⟨h1,h2,_⟩|⟨w,d,h1,h2,h3⟩
 ·rw[h2]at hl;exact .inl ⟨h1,hl⟩
 ·rw[h2]at hl;have:=h.ws _ h3;dsimp only at this;exact .inr ⟨w,d,h1,by omega,hl⟩
def ew(id:Nat)(b:Int):AV:= .agg [.map id,.int .i64 b]
theorem f298{B:List κ}{id:Nat}{es:List aL}{b nb:Int}{L:bq}(hid:B[id]?=some (.map (es.map bG)))(hs:fC es b nb L)(s:List Nat):kW u B (.fn (.func 298) [ew id b] []) [.str s] (.bool (cC L s)):=by
 intro ext T;have ρ:id<B.length:=by
  rcases bP id B.length with h|h
  ·exact h
  ·rw[gZ h]at hid;cases hid
 have dq:id<(B++ext).length:=by simp;omega
 have iI:(B++ext)[id]?=some (.map (es.map bG)):=by rw[dX ρ];exact hid
 refine rN (g:=Gd) rfl rfl rfl ?_;simp only[ew,eO,cI,dW,ay,aA,exp,bn,dq,if_true,Gd,O2];generalize B++ext=BB at*;rcases Ap hs s with⟨h1,h2⟩|⟨w,d,h1,hw,h2⟩
 ·simp[iI,isKey,h1,cC,h2]
 ·simp only[cC,h2];rcases hw with rfl|rfl|rfl<;>simp[iI,isKey,h1,jL]
theorem f275{B:List κ}{id:Nat}{es:List aL}{b nb:Int}{L:bq}(hid:B[id]?=some (.map (es.map bG)))(hs:fC es b nb L)(x:η)(ab:x.Ok)(pR:x.vu)(nF:x.cnt<1000000000000)(fst args:List AV)(Kj:fst++args=[ew id b,x.av]):
  kW u B (.fn (.func 275) fst []) args (.int .i64 (x.err (cC L) 1)):=by
 intro ext T;have ρ:id<B.length:=by
  rcases bP id B.length with h|h
  ·exact h
  ·rw[gZ h]at hid;cases hid
 have dq:id<(B++ext).length:=by simp;omega
 have sc:Fix B.length (.fn (.func 298) [ew id b] []):=by
  intro k bb hk;have:id<k:=by omega
  simp[exp,bn,Fn.below,ew,this]
 have JL:=f112 (u:=u) (B:=B) 1 sc (by simp[ew,φ,cW]) rfl (fun s _=>f298 hid hs s) x ab pR nF ext [];refine rN (g:=FY) rfl rfl rfl ?_;rw[Kj];simp only[dW,ay,aA,η.ep _ _ _ ab];simp only[ew,exp,bn,dq,if_true,FY,OR];simp only[ew]at JL;generalize B++ext=BB at*;generalize x.err (cC L) 1=xe at*;obtain⟨k,n,s,c,l⟩:=x;simp only[η.av]at JL⊢;simp[JL]
theorem f274{B:List κ}{id:Nat}{es:List aL}{b nb:Int}{L:bq}(hid:B[id]?=some (.map (es.map bG)))(hs:fC es b nb L)(p:Γ)(ab:p.Ok)(hw:p.wt<1000000000000)(fst args:List AV)(Kj:fst++args=[ew id b,p.av]):
  kW u B (.fn (.func 274) fst []) args (.int .i64 (b_ L p)):=by
 intro ext T;have ρ:id<B.length:=by
  rcases bP id B.length with h|h
  ·exact h
  ·rw[gZ h]at hid;cases hid
 have dq:id<(B++ext).length:=by simp;omega
 have iI:(B++ext)[id]?=some (.map (es.map bG)):=by rw[dX ρ];exact hid
 have sc:Fix B.length (.fn (.func 275) [ew id b] []):=by
  intro k bb hk;have:id<k:=by omega
  simp[exp,bn,Fn.below,ew,this]
 have cG:=Tf p;have Z1:η.c7 p.ix:=by
  have:∀l:List η,(∀x∈l,x.ey)->η.c7 l:=by
   intro l;induction l with
   |nil=>intro _;trivial
   |cons a l ih=>exact fun h=>⟨(h a (by simp)).1,ih fun x hx=>h x (by simp[hx])⟩
  exact this _ ab.2.2
 have Qj:=f177 (u:=u) (B:=B) (F:=η.err (cC L) 1) sc p.c ab.2.1 p.ix Z1 (by omega) (fun x hx=>f275 hid hs x (ab.2.2 x hx).1 (ab.2.2 x hx).2 (by have:=η.zb hx;simp only[Γ.wt]at hw;omega) [ew id b] [x.av] rfl) ext [];have J4:p.av= .agg [.str p.name,.list p.c (η.Δ p.ix)]:=by simp[Γ.av,η.eo]
 refine rN (g:=FX) rfl rfl rfl ?_;rw[Kj];simp only[dW,ay,aA,Γ.ep _ _ _ ab];rw[J4];simp only[ew,exp,bn,dq,if_true,FX,OQ];simp only[ew]at Qj;generalize B++ext=BB at*;unfold b_;generalize first (η.err (cC L) 1) p.ix=pe at*
 have KE:∀q:Prop,(2:Int)<(p.ix.length:Int)↔2<p.ix.length:=fun _=>by omega
 rcases Ap hs p.name with⟨h1,h2⟩|⟨w,d,h1,lW,h2⟩
 ·simp[iI,isKey,h1,h2,k_.nK]
 ·rw[h2];rcases lW with rfl|rfl|rfl
  ·by_cases QV:2<p.ix.length
   ·have:(2:Int)<(p.ix.length:Int):=by omega
    simp[iI,isKey,h1,jL,k_.nK,mm,QV,this]
   ·have:¬(2:Int)<(p.ix.length:Int):=by omega
    simp[iI,isKey,h1,jL,k_.nK,mm,QV,this,Qj]
  ·simp[iI,isKey,h1,jL,k_.nK]
  ·simp[iI,isKey,h1,jL,k_.nK]
theorem f191{B:List κ}{id:Nat}{es:List aL}{b nb:Int}{L:bq}(hid:B[id]?=some (.map (es.map bG)))(hs:fC es b nb L)(s:List Nat)(pR:cX s):kW u B (.fn (.func 191) [] []) [ew id b,.str s] (.int .i64 (dV L s)):=by
 intro ext T;have ρ:id<B.length:=by
  rcases bP id B.length with h|h
  ·exact h
  ·rw[gZ h]at hid;cases hid
 have dq:id<(B++ext).length:=by simp;omega
 have iI:(B++ext)[id]?=some (.map (es.map bG)):=by rw[dX ρ];exact hid
 have qF:=fun m=>f113 (u:=u) s pR m;refine bD (g:=Fc) rfl rfl rfl ?_;simp only[ew,ay,aA,exp,bn,dq,if_true,Fc,Of];generalize B++ext=BB at*;unfold dV;cases hn:jM s with
 |false=>rw[hn]at qF;simp[qF]
 |true=>
  rw[hn]at qF
  rcases Ap hs s with⟨h1,h2⟩|⟨w,d,h1,lW,h2⟩
  ·simp[iI,isKey,h1,h2,qF,cF,kp]
  ·rw[h2];rcases lW with rfl|rfl|rfl<;>simp[iI,isKey,h1,qF,cF,kp,jL]
theorem f273{B:List κ}{fv:AV}{F:Γ->Int}(hf:Fix B.length fv)(c:χ)(hc:aJ c)(l:List Γ)(hl:∀p∈l,p.Ok)(hlen:l.length<1000000000000)
  (h:∀x∈l,kW u B fv [x.av] (.int .i64 (F x))):kW u B (.fn (.func 273) [] []) [.list c (l.map Γ.av),fv] (.int .i64 (first F l)):=by
 intro ext T;refine bD (g:=FW) rfl rfl rfl ?_;simp only[ay,aA,Mm hc hl,hf _ false (show B.length<=(B++ext).length by simp),FW,OP];let K:St->Prop:=fun st=>ζ st.env 1=fv/\st.mem= {ε:=B++ext,θ:=[]};refine ω (fun st=>K st/\ζ st.env 0= .list c (l.map Γ.av)) (by simp[K]) fun s1 ⟨⟨h1,h2⟩,h3⟩=>?_;refine bc (fun st=>K st/\first F l=0) ?_ fun s2 ⟨⟨h1,h2⟩,h3⟩=>by simp[h1,h2,h3]
 let I:Nat->St->Prop:=fun i st=>K st/\ζ st.env 8= .list c (l.map Γ.av)/\ζ st.env 9= .int .i64 l.length/\ζ st.env 10= .int .i64 i/\∀j (hj:j<l.length),j<i->F l[j]=0;refine ω (I 0) (by simp[I,K,h1,h2,h3]) fun s4 hI=>?_;refine μ.block (μ.loop (I:=I) l.length hI fun i st hi ψ=>?_);obtain⟨⟨h1,h2⟩,q1,q2,q3,q4⟩:=ψ;rcases bP i l.length with ρ|cG
 ·have hw:a_ .i64 ((i:Int)+1)=(i:Int)+1:=wrap_i64 (by omega) (by omega);have hx:=h _ (cL ρ) ext [];simp only[Γ.av]at hx;by_cases hz:F l[i]=0
  ·left;refine⟨ρ,?_⟩;rw[hz]at hx;have q5:=tu (P:=fun j=>∀hj:j<l.length,F l[j]=0) (n:=l.length) (fun j a b c=>q4 j c b) (fun _=>hz);simp[I,K,Ho,h1,h2,q1,q2,q3,ρ,Γ.av,hx,hw];exact fun j hj jg=>q5 j hj jg hj
  ·right;have pD:=zk ρ q4 hz;rw[pD];have e1:=bne_true hz;simp[K,Ho,h1,h2,q1,q2,q3,ρ,Γ.av,hx,e1]
 ·right;have:i=l.length:=by omega
  subst this;have hz:=zj (f:=F) fun j hj=>q4 j hj hj;simp[K,Ho,h1,h2,q1,q2,q3,hz]
theorem f272(g:Int)(hg:1<=g/\g<=12)(m:Mem):kf u 272 [.int .i64 g] m=some (.int .i64 (gS g),m):=by
 refine bD (g:=zx) rfl rfl rfl ?_;by_cases h1:g=12
 ·subst h1;simp[zx,DU,exp,gS]
 by_cases h2:9<=g
 ·have:¬g<=8:=by omega
  have:g<=11:=by omega
  simp[zx,DU,exp,gS,eC h1, *]
 ·have:g<=8:=by omega
  simp[zx,DU,exp,gS,eC h1, *]
def yf(q:Ξ->Bool)(l:List Ξ):Int:=match l.findIdx? q with
 |none=> -1
 |some i=>i
theorem f66{B:List κ}{fv:AV}{q:Ξ->Bool}(hf:Fix B.length fv)(c:χ)(hc:aJ c)(l:List Ξ)(hl:∀p∈l,p.Ok)(hlen:l.length<1000000000000)
  (h:∀x∈l,kW u B fv [x.av] (.bool (q x))):kW u B (.fn (.func 66) [] []) [.list c (l.map Ξ.av),fv] (.int .i64 (yf q l)):=by
 intro ext T;refine bD (g:=Gr) rfl rfl rfl ?_;simp only[ay,aA,Jv hc hl,hf _ false (show B.length<=(B++ext).length by simp),Gr,Pb];let K:St->Prop:=fun st=>ζ st.env 0= .list c (l.map Ξ.av)/\ζ st.env 1=fv/\st.mem= {ε:=B++ext,θ:=[]};refine ω (K) (by simp[K]) fun s1 ⟨h1,h2,h3⟩=>?_;refine bc (fun st=>K st/\yf q l= -1) ?_ fun s2 ⟨⟨h1,h2,h3⟩,h4⟩=>by simp[h3,h4]
 let I:Nat->St->Prop:=fun i st=>K st/\ζ st.env 7= .int .i64 l.length/\ζ st.env 8= .int .i64 i/\∀j (hj:j<l.length),j<i->q l[j]=false;refine ω (I 0) (by simp[I,K,h1,h2,h3]) fun s4 hI=>?_;refine μ.block (μ.loop (I:=I) l.length hI fun i st hi ψ=>?_);obtain⟨⟨h1,h2,h3⟩,q1,q2,q4⟩:=ψ;rcases bP i l.length with ρ|cG
 ·have hw:a_ .i64 ((i:Int)+1)=(i:Int)+1:=wrap_i64 (by omega) (by omega);have hx:=h _ (cL ρ) ext [];simp only[Ξ.av]at hx;cases hz:q l[i]with
  |false=>
   left
   refine⟨ρ,?_⟩;rw[hz]at hx;have q5:=tu (P:=fun j=>∀hj:j<l.length,q l[j]=false) (n:=l.length) (fun j a b c=>q4 j c b) (fun _=>hz);simp[I,K,Hp,h1,h2,h3,q1,q2,ρ,Ξ.av,hx,hw];exact fun j hj jg=>q5 j hj jg hj
  |true=>
   right
   rw[hz]at hx;have hi:yf q l=i:=by
    have:l.findIdx? q=some i:=by rw[sZ];exact⟨ρ,hz,fun j hj=>by simp[q4 j (by omega) hj]⟩
    simp[yf,this]
   simp[K,Hp,h1,h2,h3,q1,q2,ρ,Ξ.av,hx,hi]
 ·right;have:i=l.length:=by omega
  subst this;have hi:yf q l= -1:=by
   have:l.findIdx? q=none:=by rw[vo];intro x hx;obtain⟨j,hj,rfl⟩:=List.getElem_of_mem hx;exact q4 j hj hj
   simp[yf,this]
  simp[K,Hp,h1,h2,h3,q1,q2,hi]
theorem f189{B:List κ}{fv:AV}{q:Ξ->Bool}(hf:Fix B.length fv)(c:χ)(hc:aJ c)(l:List Ξ)(hl:∀p∈l,p.Ok)(hlen:l.length<1000000000000)
  (h:∀x∈l,kW u B fv [x.av] (.bool (q x))):kW u B (.fn (.func 189) [] []) [.list c (l.map Ξ.av),fv] (.bool (l.any q)):=by
 intro ext T;have hx:=f66 (u:=u) hf c hc l hl hlen h ext [];refine bD (g:=Fa) rfl rfl rfl ?_;simp only[ay,aA,Jv hc hl,hf _ false (show B.length<=(B++ext).length by simp),Fa,Oc];unfold yf at hx;cases zM:l.findIdx? q with
 |none=>
  rw[zM]at hx
  have ha:l.any q=false:=by rw[vo]at zM;rw[List.any_eq_false];intro x hx;simp[zM x hx]
  rw[ha];simp[hx]
 |some i=>
  rw[zM]at hx
  have ha:l.any q=true:=by rw[sZ]at zM;obtain⟨h1,h2,_⟩:=zM;rw[List.any_eq_true];exact⟨_,cL h1,h2⟩
  rw[ha];have:(0:Int)<=(i:Int):=by omega
  simp[hx,this]
theorem f276{B:List κ}{n:Nat}(x:δ)(hn:B[n]?=some (.cells x.cells))(p:Ξ)(hp:p.Ok):kW u B (.fn (.func 276) [] [.ν n 0]) [p.av] (.bool (p.name==x.name)):=by
 intro ext T;have ρ:n<B.length:=by
  rcases bP n B.length with h|h
  ·exact h
  ·rw[gZ h]at hn;cases hn
 have dq:n<(B++ext).length:=by simp;omega
 have qR:(B++ext)[n]?=some (.cells x.cells):=by rw[dX ρ];exact hn
 refine rN (g:=FZ) rfl rfl rfl ?_;simp only[cI,eO,ay,aA,Ξ.ep _ _ _ hp];simp only[exp,dq,if_true,FZ,OS];have k2:=nx x;have kl:=δ.jT x;have hb:(p.name==x.name)=decide (p.name=x.name):=by cases h:p.name==x.name<;>simp_all
 simp[Ξ.av,qR,k2,kl,hb]
theorem f190{B:List κ}{n:Nat}(nm:List Nat)(r:List AV)(hn:B[n]?=some (.cells (.str nm::r)))(p:Ξ)(hp:p.Ok):kW u B (.fn (.func 190) [] [.ν n 0]) [p.av] (.bool (p.name==nm)):=by
 intro ext T;have ρ:n<B.length:=by
  rcases bP n B.length with h|h
  ·exact h
  ·rw[gZ h]at hn;cases hn
 have dq:n<(B++ext).length:=by simp;omega
 have qR:(B++ext)[n]?=some (.cells (.str nm::r)):=by rw[dX ρ];exact hn
 refine rN (g:=Fb) rfl rfl rfl ?_;simp only[cI,eO,ay,aA,Ξ.ep _ _ _ hp];simp only[exp,dq,if_true,Fb,Oe];have hb:(p.name==nm)=decide (p.name=nm):=by cases h:p.name==nm<;>simp_all
 simp[Ξ.av,qR,hb]
def _root_.Go.ah.δ.gate:δ->Int
 | .mk _ g _ _ _ _ _ _ _ _ _=>g
def _root_.Go.ah.δ.cp:δ->χ
 | .mk _ _ _ c _ _ _ _ _ _ _=>c
def _root_.Go.ah.δ.pl:δ->List Γ
 | .mk _ _ _ _ l _ _ _ _ _ _=>l
def _root_.Go.ah.δ.size:δ->η
 | .mk _ _ _ _ _ x _ _ _ _ _=>x
def _root_.Go.ah.δ.to:δ->η
 | .mk _ _ _ _ _ _ x _ _ _ _=>x
theorem qz(x:δ):x.cells.tail.take 1=[.int .i64 x.gate]:=by cases x;rfl
theorem qA(x:δ):(x.cells.drop 3).take 1=[.list x.cp (x.pl.map Γ.av)]:=by cases x;rfl
theorem pg(x:δ):(x.cells.drop 4).take 4=x.size.four:=by obtain⟨k,g,nm,cp,pl,⟨k1,n1,s1,c1,l1⟩,⟨k2,n2,s2,c2,l2⟩,cb,body,ce,aG⟩:=x;rfl
theorem qB(x:δ):(x.cells.drop 8).take 4=x.to.four:=by obtain⟨k,g,nm,cp,pl,⟨k1,n1,s1,c1,l1⟩,⟨k2,n2,s2,c2,l2⟩,cb,body,ce,aG⟩:=x;rfl
theorem qi(ps:List Ξ)(own:Nat)(L:bq)(x:δ):cJ ps own L x=
  if x.kind=1 then(if x.gate<1\/12<x.gate then 3 else if x.pl.length≠gS x.gate then 2 else first (b_ L) x.pl)
  else if x.kind=2\/x.kind=4 then(if dV L x.name≠0 then dV L x.name else x.size.err (cC L) 1)
  else if x.kind=8 then(if dV L x.name≠0 then dV L x.name else if x.size.err (cC L) 1≠0 then x.size.err (cC L) 1 else x.to.err (cC L) 1)
  else if x.kind=3 then(match L x.name with
   | .nf true=>0
   | .nf false=>7
   |_=>1)
  else if x.kind=5 then(match x.pl with
   |[p]=>if b_ L p≠0 then b_ L p else if L x.name= .bit then 0 else dV L x.name
   |_=>2)
  else if x.kind=6 then(match x.pl with
   |[p]=>b_ L p
   |_=>2)
  else if x.kind=7 then(if L x.name= .bit then 0 else 1)
  else if x.kind=9 then(match nQ ps x.name with
   |none=>1
   |some n=>if own<=n then 15 else match ps[n]? with
    |some q=>if x.pl.length≠q.aK.length then 2 else first (b_ L) x.pl
    |none=>1)
  else if x.kind=10\/x.kind=11 then 0 else 3:=by cases x;rfl
def _root_.Go.ah.AC.snd:AC->AC
 | .seq _ b=>b
 |_=> .skip
def End(g:AF)(BB:List κ)(v:AV)(r:Ex×St):Prop:=(∀i,r.1≠ .exit i)/\(∃bs,r.2.mem= {ε:=BB++bs,θ:=[]})/\∃l,aY r.2 g.results=some l/\ai r.2.mem.ε BB.length 8 (aV l)=v
section
variable{BB:List κ}{ck id:Nat}{aS:χ}{ps:List Ξ}{own:Nat}{b nb:Int}{es:List aL}{L:bq}{x:δ}{s1:St}
variable(h1:ζ s1.env 0= .ν ck 0)(h2:ζ s1.env 4= .ae 4 0 0)(h3:τ s1.loc 4=some (0,.cells [.map id,.int .i64 b]))(h4:ζ s1.env 5= .ν BB.length 0)(h5:s1.mem= {ε:=BB++[.cells x.cells],θ:=[]})
 (hid:(BB++[.cells x.cells])[id]?=some (.map (es.map bG))) (cK:(BB++[.cells x.cells])[ck]?=some (.cells [.list aS (ps.map Ξ.av),.int .i64 own,.int .i64 nb])) (dI:(BB++[.cells x.cells])[BB.length]?=some (.cells x.cells)) (hs:fC es b nb L)
 (iC:∀T,kf u 191 [.agg [.map id,.int .i64 b],.str x.name] {ε:=BB++[.cells x.cells],θ:=T}=some (.int .i64 (dV L x.name),{ε:=BB++[.cells x.cells],θ:=T}))
 (mw:∀T,kf u 275 [.agg [.map id,.int .i64 b],.agg x.size.four] {ε:=BB++[.cells x.cells],θ:=T}=some (.int .i64 (x.size.err (cC L) 1),{ε:=BB++[.cells x.cells],θ:=T}))
 (nY:∀T,kf u 275 [.agg [.map id,.int .i64 b],.agg x.to.four] {ε:=BB++[.cells x.cells],θ:=T}=some (.int .i64 (x.to.err (cC L) 1),{ε:=BB++[.cells x.cells],θ:=T}))
 (oK:∀p∈x.pl,∀T,kf u 274 [.agg [.map id,.int .i64 b],p.av] {ε:=BB++[.cells x.cells],θ:=T}=some (.int .i64 (b_ L p),{ε:=BB++[.cells x.cells],θ:=T}))
 (oJ:∀T,kf u 273 [.list x.cp (x.pl.map Γ.av),.fn (.func 274) [.agg [.map id,.int .i64 b]] []] {ε:=BB++[.cells x.cells],θ:=T}=some (.int .i64 (first (b_ L) x.pl),{ε:=BB++[.cells x.cells],θ:=T}))
 (my:∀T,kf u 66 [.list aS (ps.map Ξ.av),.fn (.func 276) [] [.ν BB.length 0]] {ε:=BB++[.cells x.cells],θ:=T}=some (.int .i64 (o7 ps x.name),{ε:=BB++[.cells x.cells],θ:=T}))
 (q0:x.cells.take 1=[.int .i64 x.kind]) (q1:x.cells.tail.take 1=[.int .i64 x.gate]) (q2:(x.cells.drop 2).take 1=[.str x.name]) (q3:(x.cells.drop 3).take 1=[.list x.cp (x.pl.map Γ.av)]) (q4:(x.cells.drop 4).take 4=x.size.four) (q8:(x.cells.drop 8).take 4=x.to.four) (kl:x.cells.length=14)
include h1 h2 h3 h4 h5 hid cK dI hs iC mw nY oK oJ my q0 q1 q2 q3 q4 q8 kl
theorem afM(hk:x.kind=1):μ (C u).gl (aU (C u)) c232.snd s1 (End dn BB (.int .i64 (cJ ps own L x))):=by
 obtain⟨v,hv⟩:∃v,v=cJ ps own L x:=⟨_,rfl⟩;rw[<-hv];rw[qi]at hv;simp only[hk,if_true]at hv;rw[hk]at q0;generalize first (b_ L) x.pl=pe at*
 by_cases hg:x.gate<1\/12<x.gate
 ·rw[if_pos hg]at hv;rcases hg with hg|hg
  ·simp[c232,AC.snd,End,dn,h1,h2,h3,h4,h5,dI,kl,q0,hv,q1,hg]
  ·have:¬x.gate<1:=by omega
   simp[c232,AC.snd,End,dn,h1,h2,h3,h4,h5,dI,kl,q0,hv,q1,hg,this]
 ·rw[if_neg hg]at hv;have g1:¬x.gate<1:=by omega
  have g2:¬12<x.gate:=by omega
  have PG:=fun m=>f272 (u:=u) x.gate (by omega) m;by_cases wc:x.pl.length=gS x.gate
  ·have:((x.pl.length:Int) !=(gS x.gate:Int))=false:=by simp;omega
   simp[c232,AC.snd,End,dn,h1,h2,h3,h4,h5,dI,kl,q0,hv,q1,q3,g1,g2,PG,dm,dy,fm,AV.gz,AV.beq,AV.ki,this,wc,oJ]
  ·have:((x.pl.length:Int) !=(gS x.gate:Int))=true:=by simp;omega
   simp[c232,AC.snd,End,dn,h1,h2,h3,h4,h5,dI,kl,q0,hv,q1,q3,g1,g2,PG,dm,dy,fm,AV.gz,AV.beq,AV.ki,this,wc]
theorem afO(hk:x.kind=2\/x.kind=4):μ (C u).gl (aU (C u)) c232.snd s1 (End dn BB (.int .i64 (cJ ps own L x))):=by
 obtain⟨v,hv⟩:∃v,v=cJ ps own L x:=⟨_,rfl⟩;rw[<-hv];rw[qi]at hv;have h_:¬x.kind=1:=by omega
 rw[if_neg h_,if_pos hk]at hv;generalize dV L x.name=ne at*;generalize x.size.err (cC L) 1=se at*;rcases hk with hk|hk<;>rw[hk]at q0
 ·by_cases hn:ne=0
  ·subst hn;by_cases hz:se=0
   ·subst hz;simp[c232,AC.snd,End,dn,h1,h2,h3,h4,h5,dI,kl,q0,hv,q2,q4,q8,iC,mw,nY]
   ·simp[c232,AC.snd,End,dn,h1,h2,h3,h4,h5,dI,kl,q0,hv,q2,q4,iC,mw,bne_true hz]
  ·simp[c232,AC.snd,End,dn,h1,h2,h3,h4,h5,dI,kl,q0,hv,q2,iC,bne_true hn,hn]
 ·by_cases hn:ne=0
  ·subst hn;by_cases hz:se=0
   ·subst hz;simp[c232,AC.snd,End,dn,h1,h2,h3,h4,h5,dI,kl,q0,hv,q2,q4,q8,iC,mw,nY]
   ·simp[c232,AC.snd,End,dn,h1,h2,h3,h4,h5,dI,kl,q0,hv,q2,q4,iC,mw,bne_true hz]
  ·simp[c232,AC.snd,End,dn,h1,h2,h3,h4,h5,dI,kl,q0,hv,q2,iC,bne_true hn,hn]
theorem afT(hk:x.kind=8):μ (C u).gl (aU (C u)) c232.snd s1 (End dn BB (.int .i64 (cJ ps own L x))):=by
 obtain⟨v,hv⟩:∃v,v=cJ ps own L x:=⟨_,rfl⟩;rw[<-hv];rw[qi]at hv;simp[hk]at hv;rw[hk]at q0;generalize dV L x.name=ne at*;generalize x.size.err (cC L) 1=se at*;generalize x.to.err (cC L) 1=te at*;by_cases hn:ne=0
 ·subst hn;by_cases hz:se=0
  ·subst hz;simp[c232,AC.snd,End,dn,h1,h2,h3,h4,h5,dI,kl,q0,hv,q2,q4,q8,iC,mw,nY]
  ·simp[c232,AC.snd,End,dn,h1,h2,h3,h4,h5,dI,kl,q0,hv,q2,q4,iC,mw,bne_true hz,hz]
 ·simp[c232,AC.snd,End,dn,h1,h2,h3,h4,h5,dI,kl,q0,hv,q2,iC,bne_true hn,hn]
theorem afP(hk:x.kind=3):μ (C u).gl (aU (C u)) c232.snd s1 (End dn BB (.int .i64 (cJ ps own L x))):=by
 obtain⟨v,hv⟩:∃v,v=cJ ps own L x:=⟨_,rfl⟩;rw[<-hv];rw[qi]at hv;simp[hk]at hv;rw[hk]at q0;rcases Ap hs x.name with⟨j1,j2⟩|⟨w,d,j1,hw,j2⟩
 ·simp[c232,AC.snd,End,dn,h1,h2,h3,h4,h5,dI,kl,q0,hv,q2,hid,isKey,j1,j2]
 ·rw[j2]at hv;rcases hw with rfl|rfl|rfl
  ·by_cases hd:d=b
   ·subst hd;simp[c232,AC.snd,End,dn,h1,h2,h3,h4,h5,dI,kl,q0,hv,q2,hid,isKey,j1,jL,cF,kp]
   ·simp[c232,AC.snd,End,dn,h1,h2,h3,h4,h5,dI,kl,q0,hv,q2,hid,isKey,j1,jL,cF,kp,hd]
  ·simp[c232,AC.snd,End,dn,h1,h2,h3,h4,h5,dI,kl,q0,hv,q2,hid,isKey,j1,jL]
  ·simp[c232,AC.snd,End,dn,h1,h2,h3,h4,h5,dI,kl,q0,hv,q2,hid,isKey,j1,jL]
theorem afQ(hk:x.kind=5):μ (C u).gl (aU (C u)) c232.snd s1 (End dn BB (.int .i64 (cJ ps own L x))):=by
 obtain⟨v,hv⟩:∃v,v=cJ ps own L x:=⟨_,rfl⟩;rw[<-hv];rw[qi]at hv;simp[hk]at hv;rw[hk]at q0;generalize bW:x.pl=pl at*;rcases pl with _|⟨p,_|⟨q,rest⟩⟩
 ·simp[c232,AC.snd,End,dn,h1,h2,h3,h4,h5,dI,kl,q0,hv,q3]
 ·have e:=oK p (by simp);simp only[Γ.av]at e;simp at hv;by_cases hz:b_ L p=0
  ·rw[hz]at e;rw[if_pos hz]at hv;rcases Ap hs x.name with⟨j1,j2⟩|⟨w,d,j1,hw,j2⟩
   ·rw[j2]at hv;by_cases hn:dV L x.name=0
    ·rw[hn]at iC hv;simp[c232,AC.snd,End,dn,h1,h2,h3,h4,h5,dI,kl,q0,hv,q2,q3,Γ.av,e,iC,hid,isKey,j1]
    ·simp[c232,AC.snd,End,dn,h1,h2,h3,h4,h5,dI,kl,q0,hv,q2,q3,Γ.av,e,iC,hid,isKey,j1,bne_true hn]
   ·by_cases hn:dV L x.name=0
    ·have:=(CT hn).2;rw[j2]at this;rcases hw with rfl|rfl|rfl<;>simp[jL]at this
    ·rw[j2]at hv;rcases hw with rfl|rfl|rfl<;>simp[c232,AC.snd,End,dn,h1,h2,h3,h4,h5,dI,kl,q0,hv,q2,q3,Γ.av,e,iC,hid,isKey,j1,bne_true hn,jL]
  ·rw[if_neg hz]at hv;simp[c232,AC.snd,End,dn,h1,h2,h3,h4,h5,dI,kl,q0,hv,q3,Γ.av,e,bne_true hz]
 ·have:((rest.length:Int)+1+1 !=1)=true:=by simp;omega
  simp[c232,AC.snd,End,dn,h1,h2,h3,h4,h5,dI,kl,q0,hv,q3,this]
theorem afR(hk:x.kind=6):μ (C u).gl (aU (C u)) c232.snd s1 (End dn BB (.int .i64 (cJ ps own L x))):=by
 obtain⟨v,hv⟩:∃v,v=cJ ps own L x:=⟨_,rfl⟩;rw[<-hv];rw[qi]at hv;simp[hk]at hv;rw[hk]at q0;generalize bW:x.pl=pl at*;rcases pl with _|⟨p,_|⟨q,rest⟩⟩
 ·simp[c232,AC.snd,End,dn,h1,h2,h3,h4,h5,dI,kl,q0,hv,q3]
 ·have e:=oK p (by simp);simp only[Γ.av]at e;simp at hv;by_cases hz:b_ L p=0
  ·rw[hz]at e hv;simp[c232,AC.snd,End,dn,h1,h2,h3,h4,h5,dI,kl,q0,hv,q3,q2,iC,Γ.av,e]
  ·simp[c232,AC.snd,End,dn,h1,h2,h3,h4,h5,dI,kl,q0,hv,q3,Γ.av,e,bne_true hz]
 ·have:((rest.length:Int)+1+1 !=1)=true:=by simp;omega
  simp[c232,AC.snd,End,dn,h1,h2,h3,h4,h5,dI,kl,q0,hv,q3,this]
theorem afS(hk:x.kind=7):μ (C u).gl (aU (C u)) c232.snd s1 (End dn BB (.int .i64 (cJ ps own L x))):=by
 obtain⟨v,hv⟩:∃v,v=cJ ps own L x:=⟨_,rfl⟩;rw[<-hv];rw[qi]at hv;simp[hk]at hv;rw[hk]at q0;rcases Ap hs x.name with⟨j1,j2⟩|⟨w,d,j1,hw,j2⟩
 ·simp[c232,AC.snd,End,dn,h1,h2,h3,h4,h5,dI,kl,q0,hv,q2,hid,isKey,j1,j2]
 ·rw[j2]at hv;rcases hw with rfl|rfl|rfl<;>simp[c232,AC.snd,End,dn,h1,h2,h3,h4,h5,dI,kl,q0,hv,q2,hid,isKey,j1,jL]
theorem afU(hk:x.kind=9):μ (C u).gl (aU (C u)) c232.snd s1 (End dn BB (.int .i64 (cJ ps own L x))):=by
 obtain⟨v,hv⟩:∃v,v=cJ ps own L x:=⟨_,rfl⟩;rw[<-hv];rw[qi]at hv;simp[hk]at hv;rw[hk]at q0;rcases Tk ps x.name with⟨j1,j2⟩|⟨n,q,j1,j2,j3,j4⟩
 ·rw[j1]at my;simp[c232,AC.snd,End,dn,h1,h2,h3,h4,h5,dI,kl,q0,hv,q2,cK,my,j2]
 ·rw[j1]at my;have xX:¬(n:Int)<0:=by omega
  by_cases ho:own<=n
  ·have mU:(own:Int)<=(n:Int):=by omega
   simp[c232,AC.snd,End,dn,h1,h2,h3,h4,h5,dI,kl,q0,hv,q2,cK,my,j2,xX,ho,mU]
  ·have mU:¬(own:Int)<=(n:Int):=by omega
   have RE:ps[n]=q:=by rw[List.getElem?_eq_getElem j4]at j3;simpa using j3
   by_cases tH:x.pl.length=q.aK.length
   ·have:((x.pl.length:Int) !=(q.aK.length:Int))=false:=by simp;omega
    simp[c232,AC.snd,End,dn,h1,h2,h3,h4,h5,dI,kl,q0,hv,q2,q3,cK,my,j2,xX,ho,mU,j3,RE,j4,Ξ.av,this,tH,oJ]
   ·have:((x.pl.length:Int) !=(q.aK.length:Int))=true:=by simp;omega
    simp[c232,AC.snd,End,dn,h1,h2,h3,h4,h5,dI,kl,q0,hv,q2,q3,cK,my,j2,xX,ho,mU,j3,RE,j4,Ξ.av,this,tH]
theorem afN(hk:x.kind=10\/x.kind=11):μ (C u).gl (aU (C u)) c232.snd s1 (End dn BB (.int .i64 (cJ ps own L x))):=by
 obtain⟨v,hv⟩:∃v,v=cJ ps own L x:=⟨_,rfl⟩;rw[<-hv];rw[qi]at hv;rcases hk with hk|hk
 ·rw[hk]at q0;simp[hk]at hv;simp[c232,AC.snd,End,dn,h1,h2,h3,h4,h5,dI,kl,q0,hv]
 ·rw[hk]at q0;simp[hk]at hv;simp[c232,AC.snd,End,dn,h1,h2,h3,h4,h5,dI,kl,q0,hv]
theorem afL(hk:¬(x.kind=1\/x.kind=2\/x.kind=3\/x.kind=4\/x.kind=5\/x.kind=6\/x.kind=7\/x.kind=8\/x.kind=9\/x.kind=10\/x.kind=11)):μ (C u).gl (aU (C u)) c232.snd s1 (End dn BB (.int .i64 (cJ ps own L x))):=by obtain⟨v,hv⟩:∃v,v=cJ ps own L x:=⟨_,rfl⟩;rw[<-hv];rw[qi]at hv;simp only[not_or]at hk;obtain⟨h_,xz,jH,xB,jI,uI,uJ,uK,uL,v7,v8⟩:=hk;simp[h_,xz,xB,jH,jI,uI,uJ,uK,uL,v7,v8]at hv;simp[c232,AC.snd,End,dn,h1,h2,h3,h4,h5,dI,kl,q0,hv,eC h_,eC xz,eC xB,eC jH,eC jI,eC uI,eC uJ,eC uK,eC uL,eC v7,eC v8]
end
theorem f232{B:List κ}{ck id:Nat}(aS:χ)(cg:aJ aS)(ps:List Ξ)(bA:∀x∈ps,x.Ok)(bW:ps.length<1000000000000)(own:Nat)(b nb:Int)(es:List aL)(L:bq)
  (cK:B[ck]?=some (.cells [.list aS (ps.map Ξ.av),.int .i64 own,.int .i64 nb])) (hid:B[id]?=some (.map (es.map bG))) (hs:fC es b nb L) (x:δ) (hx:x.Ok) (fG:x.wt<1000000000000) (ext:List κ) (T:List Nat):
  kf u 232 [.ν ck 0,ew id b,x.av] {ε:=B++ext,θ:=T}=some (.int .i64 (cJ ps own L x),{ε:=B++ext,θ:=T}):=by
 have ρ:id<B.length:=by
  rcases bP id B.length with h|h
  ·exact h
  ·rw[gZ h]at hid;cases hid
 have ZF:ck<B.length:=by
  rcases bP ck B.length with h|h
  ·exact h
  ·rw[gZ h]at cK;cases cK
 have iI:((B++ext)++[κ.cells x.cells])[id]?=some (.map (es.map bG)):=by rw[dX (by simp;omega),dX ρ];exact hid
 have oP:((B++ext)++[κ.cells x.cells])[ck]?=some (.cells [.list aS (ps.map Ξ.av),.int .i64 own,.int .i64 nb]):=by rw[dX (by simp;omega),dX ZF];exact cK
 have gn:((B++ext)++[κ.cells x.cells])[(B++ext).length]?=some (.cells x.cells):=by simp
 have dq:id<(B++ext).length:=by simp;omega
 have ZG:ck<(B++ext).length:=by simp;omega
 have q0:=cell0 x;have q2:=nx x;have kl:=δ.jT x;have Cd:x.cells.map φ=x.cells:=by rw[<-fO,δ.yt]
 generalize hBB:B++ext=BB at*;refine bD (g:=dn) rfl rfl rfl ?_;have dL:[AV.ν ck 0,ew id b,x.av].map (exp BB.length false)=[.ν ck 0,ew id b,x.av]:=by simp only[ay,aA,δ.ep _ _ _ hx,ew,exp,bn,dq,ZG,if_true]
 simp only[dL,dn,c232];have iC:=fun m'=>f191 (u:=u) iI hs x.name (by cases x;exact hx.1) [] m';simp only[dW]at iC;have eR:∀M:Mem,M.φ=φ:=fun _=>rfl;let K:St->Prop:=fun st=>ζ st.env 0= .ν ck 0/\ζ st.env 4= .ae 4 0 0/\τ st.loc 4=some (0,.cells [.map id,.int .i64 b])/\ζ st.env 5= .ν BB.length 0/\st.mem= {ε:=BB++[.cells x.cells],θ:=[]};refine ω (K) (by simp[K,ew,δ.av,aR,kl,Mem.push,eR,φ,Cd]) fun s1 ⟨h1,h2,h3,h4,h5⟩=>?_;have ψ:x.size.ey/\x.to.ey/\aJ x.cp/\(∀p∈x.pl,p.Ok)/\gQ x.pl+x.size.cnt+x.to.cnt<1000000000000:=by obtain⟨k,g,nm,cp,pl,size,to,cb,body,ce,aG⟩:=x;simp only[δ.Ok]at hx;simp only[δ.wt]at fG;exact⟨hx.2.2.2.1,hx.2.2.2.2.1,hx.2.1,hx.2.2.1,by simp only[δ.pl,δ.size,δ.to];omega⟩
 obtain⟨o1,o2,o3,o4,o5⟩:=ψ;have aaa:=Te x.pl;have mw:∀T,kf u 275 [.agg [.map id,.int .i64 b],.agg x.size.four] {ε:=BB++[.cells x.cells],θ:=T}=some (.int .i64 (x.size.err (cC L) 1),{ε:=BB++[.cells x.cells],θ:=T}):=fun T=>by have:=f275 (u:=u) iI hs x.size o1.1 o1.2 (by omega) [] [ew id b,x.size.av] rfl [] T;rwa[dW,η.jA]at this
 have nY:∀T,kf u 275 [.agg [.map id,.int .i64 b],.agg x.to.four] {ε:=BB++[.cells x.cells],θ:=T}=some (.int .i64 (x.to.err (cC L) 1),{ε:=BB++[.cells x.cells],θ:=T}):=fun T=>by have:=f275 (u:=u) iI hs x.to o2.1 o2.2 (by omega) [] [ew id b,x.to.av] rfl [] T;rwa[dW,η.jA]at this
 have oK:∀p∈x.pl,∀T,kf u 274 [.agg [.map id,.int .i64 b],p.av] {ε:=BB++[.cells x.cells],θ:=T}=some (.int .i64 (b_ L p),{ε:=BB++[.cells x.cells],θ:=T}):=fun p hp T=>by have:=f274 (u:=u) iI hs p (o4 p hp) (by have:=Γ.o_ hp;omega) [] [ew id b,p.av] rfl [] T;rwa[dW]at this
 have ahf:id<(BB++[κ.cells x.cells]).length:=by simp;omega
 have sc:Fix (BB++[κ.cells x.cells]).length (.fn (.func 274) [ew id b] []):=by
  intro k bb hk;have:id<k:=by omega
  simp[exp,bn,Fn.below,ew,this]
 have oJ:∀T,kf u 273 [.list x.cp (x.pl.map Γ.av),.fn (.func 274) [.agg [.map id,.int .i64 b]] []] {ε:=BB++[.cells x.cells],θ:=T}=some (.int .i64 (first (b_ L) x.pl),{ε:=BB++[.cells x.cells],θ:=T}):=fun T=>by have:=f273 (u:=u) (F:=b_ L) sc x.cp o3 x.pl o4 (by omega) (fun p hp=>f274 (u:=u) iI hs p (o4 p hp) (by have:=Γ.o_ hp;omega) [ew id b] [p.av] rfl) [] T;rwa[dW]at this
 have YX:Fix (BB++[κ.cells x.cells]).length (.fn (.func 276) [] [.ν BB.length 0]):=by
  intro k bb hk;have:BB.length<k:=by simp at hk;omega
  simp[exp,bn,Fn.below,this]
 have my:∀T,kf u 66 [.list aS (ps.map Ξ.av),.fn (.func 276) [] [.ν BB.length 0]] {ε:=BB++[.cells x.cells],θ:=T}=some (.int .i64 (o7 ps x.name),{ε:=BB++[.cells x.cells],θ:=T}):=fun T=>by have:=f66 (u:=u) (q:=fun p=>p.name==x.name) YX aS cg ps bA bW (fun p hp=>f276 x gn p (bA p hp)) [] T;rwa[dW]at this
 have q1:=qz x;have q3:=qA x;have q4:=pg x;have q8:=qB x;show μ (C u).gl (aU (C u)) c232.snd s1 (End dn BB (.int .i64 (cJ ps own L x)));by_cases j1:x.kind=1
 ·exact afM h1 h2 h3 h4 h5 iI oP gn hs iC mw nY oK oJ my q0 q1 q2 q3 q4 q8 kl j1
 by_cases Ly:x.kind=2\/x.kind=4
 ·exact afO h1 h2 h3 h4 h5 iI oP gn hs iC mw nY oK oJ my q0 q1 q2 q3 q4 q8 kl Ly
 by_cases j8:x.kind=8
 ·exact afT h1 h2 h3 h4 h5 iI oP gn hs iC mw nY oK oJ my q0 q1 q2 q3 q4 q8 kl j8
 by_cases j3:x.kind=3
 ·exact afP h1 h2 h3 h4 h5 iI oP gn hs iC mw nY oK oJ my q0 q1 q2 q3 q4 q8 kl j3
 by_cases j5:x.kind=5
 ·exact afQ h1 h2 h3 h4 h5 iI oP gn hs iC mw nY oK oJ my q0 q1 q2 q3 q4 q8 kl j5
 by_cases j6:x.kind=6
 ·exact afR h1 h2 h3 h4 h5 iI oP gn hs iC mw nY oK oJ my q0 q1 q2 q3 q4 q8 kl j6
 by_cases j7:x.kind=7
 ·exact afS h1 h2 h3 h4 h5 iI oP gn hs iC mw nY oK oJ my q0 q1 q2 q3 q4 q8 kl j7
 by_cases j9:x.kind=9
 ·exact afU h1 h2 h3 h4 h5 iI oP gn hs iC mw nY oK oJ my q0 q1 q2 q3 q4 q8 kl j9
 by_cases Lx:x.kind=10\/x.kind=11
 ·exact afN h1 h2 h3 h4 h5 iI oP gn hs iC mw nY oK oJ my q0 q1 q2 q3 q4 q8 kl Lx
 exact afL h1 h2 h3 h4 h5 iI oP gn hs iC mw nY oK oJ my q0 q1 q2 q3 q4 q8 kl (by omega)
end Go.ah.Tz
