import Derived.Test.YtiigojkfojnedaaGreatDoorTKa
import Derived.Test.YtiigojkfojnedaaGreatDoorTHe
set_option linter.all false
set_option maxRecDepth 100000
set_option maxHeartbeats 8000000
open List renaming length->ki,length_drop->kZ,map_cons->aA,length_set->mS,mem_append->dE,all_map->pg,append_assoc->bH,set_append_left->mT,length_map->cF,mem_singleton->fK,map_append->jT,map_map->dc,map_congr_left->dD,getElem?_eq_none->hU,take_of_length_le->fw,mem_cons->cw,eq_nil_of_length_eq_zero->nB,cons_append->cy,nil_append->bG
open Nat renaming le_refl->bA
open Go.IntKind renaming wrap->bC
namespace Go.Δ
def fm{α:Type}(P:PS->R α):Prop:=∀s x t,P s= .ok x t->t.l.length<s.l.length
theorem fm.Ls{α:Type}{P:PS->R α}(h:fm P):dk P:=fun s x t e=>Nat.le_of_lt (h s x t e)
theorem fm.take(e:Nat)(f:Tok->Bool):fm (iJ e f):=fun _ _ _ h=>by have:=JA h;omega
theorem fm.bind{α β:Type}{P:PS->R α}{Q:α->PS->R β}(h:fm P)(k:∀x,dk (Q x)):fm fun s=>(P s).bind Q:=fun s y t e=>by
 have e:(P s).bind Q= .ok y t:=e;cases hp:P s with
 |ok x s'=>
  rw[hp]at e
  have:=h _ _ _ hp;have:=k x _ _ _ e;omega
 |no w=>rw[hp]at e;cases e
theorem fm.map{α β:Type}{P:PS->R α}{f:α->β}(h:fm P):fm fun s=>(P s).map f:=fun s y t e=>by
 have e:(P s).map f= .ok y t:=e;cases hp:P s with
 |ok x s'=>rw[hp]at e;cases e;exact h _ _ _ hp
 |no w=>rw[hp]at e;cases e
theorem fm.word{β:Type}{e:Nat}{Q:List Nat->PS->R β}(k:∀x,dk (Q x)):fm fun s=>(aD e s.hd s).bind Q:=fun s y t h=>(fm.bind (fm.take e fun t=>t.text==s.hd) k) s y t h
theorem Lx{α:Type}(e:Nat){P:PS->R α}(h:dk P):dk (nk e P):=
 .ite (eV e _).map (h.bind fun x=>(dk.IK (fun l=>(eV e _).bind fun _=>h.map) [x]).bind fun _=>(eV e _).map)
theorem SF(e:Nat){pl:PS->R ρ}(h:dk pl):∀n l,dk (me e pl n l)
 |0,l=> .ok l
 |n+1,l=>(eV e _).bind fun _=>h.bind fun p=>SF e h n (l++[p])
theorem aaH(e:Nat){ix:PS->R η}(h:dk ix):fm (kT e ix):=by
 have hp:=FO e h;have g:∀n:Nat,fm fun s=>(aD e s.hd s).bind fun _ s'=>(gQ e ix s').bind fun p s'=>(me e (gQ e ix) n [p] s').map fun l=>δ.mk 1 (gW s.hd) [] .any l z0 z0 .nil [] .nil []:=fun n s y t k=>fm.bind (fm.take e fun t=>t.text==s.hd) (Q:=fun _ s'=>(gQ e ix s').bind fun p s'=>(me e (gQ e ix) n [p] s').map fun l=>δ.mk 1 (gW s.hd) [] .any l z0 z0 .nil [] .nil []) (fun _=>hp.bind fun p=>(SF e hp n [p]).map) s y t k;intro s x t k;dsimp only[kT]at k;split at k
 ·exact g _ s x t k
 split at k
 ·exact fm.word (fun _=>(Lz e h).map) s x t k
 split at k
 ·exact fm.word (fun _=>(nN e).map) s x t k
 split at k
 ·exact fm.word (fun _=>hp.bind fun _=>(eV e _).bind fun _=>(nN e).map) s x t k
 split at k
 ·exact fm.word (fun _=>hp.map) s x t k
 ·exact(fm.bind (fm.take _ _) fun _=>(eV e _).bind fun _=>(Lx e hp).map) s x t k
theorem aaI(e:Nat){ix:PS->R η}(h:dk ix):fm (wc e ix):=(aaH e h).bind fun _=>(eV e _).map
theorem Lu(e:Nat){ix:PS->R η}{blk:PS->R (List δ×List Sp)}(h:dk ix)(hb:dk blk):fm (g_ e ix blk):=by
 intro s x t k;dsimp only[g_]at k;split at k
 ·exact fm.word (fun _=>(Lz e h).bind fun _=>hb.map) s x t k
 split at k
 ·exact fm.word (fun _=>(nN e).bind fun n=>hb.bind fun b=> .ite ((eV e _).bind fun _=>hb.map) (.ok _)) s x t k
 split at k
 ·exact fm.word (fun _=>(nN e).bind fun n=>(eV e _).bind fun _=>h.bind fun _=>(eV e _).bind fun _=>h.bind fun _=>hb.map) s x t k
 split at k
 ·exact fm.word (fun _=>hb.map) s x t k
 split at k
 ·exact fm.word (fun _=>hb.bind fun _=>(eV e _).bind fun _=>hb.map) s x t k
 ·exact((aaI e h).map) s x t k
theorem Lt(e:Nat){st:PS->R (δ×List (List Sp))}(h:fm st):fm (o9 e st):=fun s x t k=>by
 simp only[o9]at k;cases hp:st s with
 |ok y s'=>
  rw[hp]at k
  cases k;exact h _ _ _ hp
 |no w=>rw[hp]at k;cases k
theorem aaJ(e:Nat){st:PS->R (δ×List (List Sp))}(h:fm st):dk (vV e st):=
 (eV e _).bind fun _=>(dk.IK (fun _=>(Lt e h).Ls.map) _).bind fun _=>(eV e _).map
theorem Ay(e:Nat){ix:PS->R η}(h:dk ix):∀k,dk (dw e ix k)
 |0=>fun s x t e=>by cases e
 |k+1=>aaJ e (Lu e h (Ay e h k))
def RS.bad:RS->Nat
 | .r _=>0
 | .w _=>1
end Go.Δ
namespace Go.Δ.Tz
open Go.Δ
variable{u:Nat}
attribute [local simp] exec dT dG eR aH dr ff eH aI fA bQ gX ib iC iL lq AV.cells newVar iH rd wr gL single dd cA eU ef κ cH RV.get cJ fF jU
attribute [local simp] EE D_
theorem Fh{s:List Nat}{all:List Tok}{c:ξ}{item:AV}(w:List Nat)(hl:all.length<1000000000){B:List θ}{p:Nat}{cs:List AV}{a:RS}(hp:p<B.length)(h:cK s all c item cs a){t:Bool}(hb:a.aZ w=t)(T:List Nat):
  kf u 268 [.μ p 0,.list .full [.str w]] {ε:=B.set p (.cells cs),ζ:=T}=some (.bool t,{ε:=B.set p (.cells cs),ζ:=T}):=by
 have:=f268 (u:=u) [w] (by simp) hl hp h T;simpa[hb]using this
section
variable{s:List Nat}{all:List Tok}{c:ξ}(hl:all.length<1000000000)(ai:∀t∈all,t.Ok)
theorem cK.sz{item:AV}{cs:List AV}{a:RS}(h:cK s all c item cs a):a.sz<=all.length:=by
 obtain⟨k,wr,rfl,hk,h⟩:=h;cases a with
 |w w=>exact Nat.zero_le _
 |r st=>have:=congrArg ki h.2.1;simp only[kZ]at this;simp only[RS.sz];omega
theorem cK.item{item fn:AV}{cs:List AV}{a:RS}(h:cK s all c item cs a):∃k wr,cs=[.str s,.list c (all.map Tok.bu),.n k,.n wr,item]/\cK s all c fn [.str s,.list c (all.map Tok.bu),.n k,.n wr,fn] a:=by obtain⟨k,wr,rfl,hk,h⟩:=h;exact⟨k,wr,rfl,k,wr,rfl,hk,h⟩
def JV(u:Nat)(s:List Nat)(all:List Tok)(c:ξ){α:Type}(I:List α->List θ->Prop)(fn:AV)(P:PS->R α)(k N p:Nat):Prop:=
 ∀l B T cs a,I l B->cK s all c fn cs a->a.sz<k->l.length+a.sz<=all.length+1→
  ∃B' T' x ae b,ah (C u) fn [] {ε:=B.set p (.cells cs),ζ:=T}=some (.aU [],{ε:=B'.set p (.cells ae),ζ:=T'})/\I (l++[x]) B'/\cK s all c fn ae b/\aF P a x b/\∀i∈T',i∈T\/N<=i
include hl ai
theorem f228{α:Type}{I:List α->List θ->Prop}{fn:AV}{P:PS->R α}{k N M p:Nat}(hP:dk P){fi:FuncId}{cap:List AV}(nU:fn= .fn (.func fi) [] cap)(hn:ν fn=fn)(Df:∀n,M<=n->exp n true fn=fn)
  (hI:∀l B,I l B->M<=B.length/\p<B.length) (Uy:JV u s all c I fn P k N p) {item:AV} {B:List θ} {cs:List AV} {a:RS} (T:List Nat) (h0:I [] B) (h:cK s all c item cs a) (ha:a.sz<k):
  ∃B' T' l ae b,kf u 228 [.μ p 0,.str [41],fn] {ε:=B.set p (.cells cs),ζ:=T}=some (.aU [],{ε:=B'.set p (.cells ae),ζ:=T'})∧
   I l B'/\cK s all c fn ae b/\aF (nk s.length P) a l b/\∀i∈T',i∈T\/i=p\/N<=i:=by
 subst nU;have dY:κ (C u).gl (ah (C u)) c228 {env:=[.μ p 0,.str [41],.fn (.func fi) [] cap],loc:=[],mem:= {ε:=B.set p (.cells cs),ζ:=[]}} fun r=>(∀i,r.1≠ .exit i)/\∃B' l ae b,r.2.mem.ε=B'.set p (.cells ae)/\I l B'/\cK s all c (.fn (.func fi) [] cap) ae b/\aF (nk s.length P) a l b/\∀i∈r.2.mem.ζ,i=p\/N<=i:=by
  have hp:=(hI _ _ h0).2;obtain⟨k0,wr,rfl,hf⟩:=h.item (fn:= .fn (.func fi) [] cap);generalize jf:[AV.str s,.list c (all.map Tok.bu),.n k0,.n wr,.fn (.func fi) [] cap]=cN at hf;clear h;have h:=hf;let K:List θ->St->Prop:=fun X st=>st.e 0= .μ p 0/\st.e 1= .str [41]/\st.e 2= .fn (.func fi) [] cap/\∃tt,st.mem= {ε:=X,ζ:=tt}/\∀i∈tt,i=p\/N<=i;have Du:∀m:Mem,m.ν (.fn (.func fi) [] cap)= .fn (.func fi) [] cap:=fun _=>hn;have hg:∀cs,(B.set p (θ.cells cs))[p]?=some (.cells cs):=fun cs=>by simp[hp]
  refine Θ (K (B.set p (.cells cN))) (by simp[K,hg,Mem.put,Du,jf]) fun s1 ⟨h1,h2,h3,tt,h4,h5⟩=>?_;have hb:=fun t hb T=>Fh (u:=u) [41] hl hp h (t:=t) hb T;refine bP (fun st=>K (B.set p (.cells cN)) st/\a.aZ [41]=false) ?_ fun s1 ⟨⟨h1,h2,h3,tt,h4,h5⟩,h6⟩=>?_
  ·cases hc:a.aZ [41]with
   |false=>
    have hb:=hb false hc
    refine κ.done .normal (fun st=>K (B.set p (.cells cN)) st) (by
     simp[K,h1,h2,h3,h4,hb]
     exact h5) fun s' hh=> .inl ⟨rfl,hh,rfl⟩
   |true=>
    have hb:=hb true hc
    obtain⟨_,x1,cG,a2,k1,r1,g1,rfl⟩:=f226 (u:=u) (item:= .fn (.func fi) [] cap) [41] hl ai a B p cN hp h;refine κ.done .ret (fun st=>K (B.set p (.cells cG)) st) (by
     simp[K,h1,h2,h3,h4,hb,k1]
     exact h5) fun s' ⟨m1,m2,m3,tt,m4,m5⟩=> .inr ⟨by simp,by simp,B,[],cG,a2,by simp only[m4],h0,r1,?_,by rw[m4];exact m5⟩
    exact aF.as (P:=fun t=>(aD s.length [41] t).map fun _=>[]) (g1.map _) fun st hs=>by subst hs;exact if_pos hc
  have gG:∀st,a= .r st->st.aZ [41]=false:=fun st hs=>by subst hs;exact h6
  obtain⟨B2,T2,x1,cG,a2,k1,i1,r1,g1,t1⟩:=Uy [] B tt cN a h0 h ha (by have:=h.sz;simp;omega);have ur:=g1.sz hP;have lN:=(hI _ _ i1).2;have HI:(B.set p (θ.cells cN))[p]?=some (.cells [.str s,.list c (all.map Tok.bu),.n k0,.n wr,.fn (.func fi) [] cap]):=by rw[jf,hg]
  have e2:∀i∈T2,i=p\/N<=i:=fun i hi=>(t1 i hi).elim (h5 i) .inr;refine Θ (K (B2.set p (.cells cG))) (by
   simp[K,h1,h2,h3,h4,HI,k1]
   exact e2) fun s1 hK=>?_
  let F:List α->PS->R (List α):=fun l t=>(aD s.length [44] t).bind fun _ t=>(P t).map fun y=>l++[y];let cc:PS->Bool:=fun t=>t.aZ [44];let I':Nat->St->Prop:=fun i st=>∃B' l ae b,K (B'.set p (.cells ae)) st/\I l B'/\cK s all c (.fn (.func fi) [] cap) ae b/\b.sz+i<=a2.sz/\l.length+b.sz<=all.length+1/\∀y b',aF (cd cc F (a2.sz+1-i) l) b y b'->aF (cd cc F (a2.sz+1) [x1]) a2 y b';refine bP (fun st=>∃B' l ae b,K (B'.set p (.cells ae)) st/\I l B'/\cK s all c (.fn (.func fi) [] cap) ae b/\aF (cd cc F (a2.sz+1) [x1]) a2 l b) ?_ fun s2 ⟨B',l,ae,b,⟨h1,h2,h3,tt,h4,h5⟩,h6,h7,h8⟩=>?_
  ·have hI0:I' 0 s1:=⟨B2,[x1],cG,a2,hK,i1,r1,bA _,by have:=h.sz;simp;omega,fun _ _ h=>h⟩;refine κ.block (κ.kD (I:=I') a2.sz hI0 fun i st hi Ω=>?_);obtain⟨B',l,ae,b,⟨h1,h2,h3,tt,h4,h5⟩,h6,h7,h8,h9,aC⟩:=Ω;have gO:=(hI _ _ h6).2;rw[show a2.sz+1-i=(a2.sz-i)+1 by omega]at aC;unfold VT;cases hc:b.aZ [44]with
   |false=>
    have hb:=fun T=>Fh (u:=u) [44] hl gO h7 (t:=false) hc T
    refine κ.done (.exit 0) (fun st=>K (B'.set p (.cells ae)) st) (by
     simp[K,h1,h2,h3,h4,hb]
     exact h5) fun s' hh=> .inr ⟨by simp,.inl ⟨rfl,.inl ⟨rfl,B',l,ae,b,hh,h6,h7,aC _ _ (aF.D5 hc)⟩⟩⟩
   |true=>
    have hb:=fun T=>Fh (u:=u) [44] hl gO h7 (t:=true) hc T
    obtain⟨_,x2,c7,a3,k2,r2,g2,rfl⟩:=f226 (u:=u) (item:= .fn (.func fi) [] cap) [44] hl ai b B' p ae gO h7;have ng:=g2.take (tT hc (by simp));have kr:=h1;obtain⟨B4,T4,x3,iP,a4,k3,i3,r3,g3,t3⟩:=Uy l B' tt c7 a3 h6 r2 (by omega) (by omega);have DH:=g3.sz hP;refine κ.done .normal (fun st=>K (B4.set p (.cells iP)) st) (by
     simp[K,h1,h2,h3,h4,hb,k2,k3]
     exact fun i hi=>(t3 i hi).elim (h5 i) .inr) fun s' hh=> .inl ⟨rfl,by omega,B4,l++[x3],iP,a4,hh,i3,r3,by omega,by simp;omega,fun y b' hg=>aC y b' (aF.D6 hc (g2.bind (g3.map _)) (by rw[show a2.sz+1-(i+1)=a2.sz-i by omega]at hg;exact hg))⟩
  ·have gO:=(hI _ _ h6).2;obtain⟨_,x2,c7,a3,k2,r2,g2,rfl⟩:=f226 (u:=u) (item:= .fn (.func fi) [] cap) [41] hl ai b B' p ae gO h7;refine κ.done .normal (fun st=>K (B'.set p (.cells c7)) st) (by
    simp[K,h1,h2,h3,h4,k2]
    exact h5) fun s' ⟨m1,m2,m3,tt,m4,m5⟩=>⟨by simp,B',l,c7,a3,by simp only[m4],h6,r2,?_,by rw[m4];exact m5⟩
   refine aF.as (P:=fun t=>(P t).bind fun x t=>(cd cc F (t.l.length+1) [x] t).bind fun l t=>(aD s.length [41] t).map fun _=>l) ?_ fun st hs=>by simp[nk,gG st hs];rfl
   exact g1.bind (Q:=fun x t=>(cd cc F (t.l.length+1) [x] t).bind fun l t=>(aD s.length [41] t).map fun _=>l) (h8.fuel.bind (Q:=fun l t=>(aD s.length [41] t).map fun _=>l) (g2.map fun _=>l))
 obtain⟨⟨ex,s'⟩,e1,e2,B',l,ae,b,e3,e4,e5,e6,e7⟩:=dY;have hp:=(hI _ _ h0).2;have eJ:([AV.μ p 0,.str [41],.fn (.func fi) [] cap]++[]).map (exp (B.set p (θ.cells cs)).length true)=[.μ p 0,.str [41],.fn (.func fi) [] cap]:=by simp only[List.append_nil,aA,List.map_nil,mS,Df _ (hI _ _ h0).1];simp[exp,hp]
 have:=sB (C:=C u) (f:=228) (g:=L0) (args:=[.μ p 0,.str [41],.fn (.func fi) [] cap]) (cap:=[]) (m:= {ε:=B.set p (.cells cs),ζ:=T}) (l:=[]) rfl rfl rfl (by rw[eJ];exact e1) e2 (by rfl);dsimp only at e3 e7;refine⟨B',T++s'.mem.ζ,l,ae,b,?_,e4,e5,e6,fun i hi=>(dE.1 hi).imp id (e7 i)⟩;exact this.trans (by rw[e3];rfl)
end
attribute [local simp] LP PL O8 η.fR
theorem nO(a:List AV):eZ (some a) (some a)=true:=AV.kH a
theorem ρ.fx{x:ρ}(h:x.Ok):Fx x.av:=by have:=Dv.list x.c (bS.of η.av x.ix fun y hy=>η.fx y (h.2.2 y hy).1);rw[ga h.2.1]at this;exact .agg (.cons (.str _) (.cons this .nil))
theorem ρ.ti(m:Mem)(x:ρ):m.ν x.av=x.av:=ρ.tm x
theorem ajB(x:ρ):shaped true 2 x.av=true:=rfl
attribute [local simp] ρ.ti ajB
theorem WZ(l:List ρ):(l.map ρ.av).all (shaped true 2)=true:=by simp[pg,ρ.av,shaped,Function.comp]
def sC(k g:Int)(nm:List Nat)(c:ξ)(l:List AV)(sz:List AV):List AV:=[.n k,.n g,.str nm,.list c l]++sz++z0.four++[.list .nil [],.list .nil []]
theorem XB(k g:Int)(nm:List Nat)(c:ξ)(l:List AV)(x:η):(sC k g nm c l x.four).length=14:=by simp[sC]
def sT(p:Nat)(k g:Int)(nm:List Nat)(c:ξ)(l:List AV):List θ:=[.cells [.μ p 0],.cells (sC k g nm c l z0.four)]
def sI(B:List θ)(p:Nat)(k g:Int)(nm:List Nat)(l:List ρ)(B':List θ):Prop:=
 ∃c ext,B'=B++sT p k g nm c (l.map ρ.av)++ext/\Row (B.length+2) B' 2 74 c l.length/\(l=[]->c= .nil)/\∀x∈l,x.Ok
section
variable{s:List Nat}{all:List Tok}{c:ξ}(hl:all.length<1000000000)(ai:∀t∈all,t.Ok)
include hl ai
theorem f310{B:List θ}{p:Nat}(hp:p<B.length)(k g:Int)(nm:List Nat)(n:Nat):JV u s all c (sI B p k g nm) (.fn (.func 310) [] [.μ (B.length+1) 0,.μ B.length 0]) (gQ s.length (au s.length n)) n B.length p:=by
 rintro l _ T cs a ⟨cp,ext,rfl,hr,hn,HX⟩ h ha hlen
 have sW:p<(B++sT p k g nm cp (l.map ρ.av)++ext).length:=by simp;omega
 obtain⟨_,x,cN,a1,k1,r1,gv,rfl,hx⟩:=f309 (u:=u) hl ai a ha _ p cs sW h;have e0:∀cs c l ext,(B++sT p k g nm c l++ext).set p (.cells cs)=B.set p (.cells cs)++sT p k g nm c l++ext:=fun cs c l ext=>by rw[bH,mT _ _ hp,bH]
 simp only[e0]at k1;have jz:Row (B.set p (.cells cN)++sT p k g nm cp (l.map ρ.av)).length (B.set p (.cells cN)++sT p k g nm cp (l.map ρ.av)++ext) 2 74 cp (l.map ρ.av).length:=by rw[cF];have:=Row.swap hr (P':=B.set p (.cells cN)++sT p k g nm cp (l.map ρ.av)) (by simp[sT]) (by simp[sT]);simpa[sT]using this
 obtain⟨c',ext',dO,iu,-⟩:=wa (bytes:=40) jz (WZ l) (show shaped true 2 x.av=true by rfl) (ρ.tm x) (by omega) (by simp;omega) (by simp;omega);rw[cF]at iu;have hL:∀cs c l ext,(B.set p (.cells cs)++sT p k g nm c l++ext).length=B.length+2+ext.length:=fun cs c l ext=>by simp[sT];omega
 have eJ:∀n,B.length+2<=n->([]++[AV.μ (B.length+1) 0,.μ B.length 0]).map (exp n true)=[AV.μ (B.length+1) 0,.μ B.length 0]:=fun n hn=>by
  have a1:B.length+1<n:=by omega
  have a2:B.length<n:=by omega
  simp[exp,a1,a2]
 have g0:∀cs c l ext,(B.set p (.cells cs)++sT p k g nm c l++ext)[B.length]?=some (.cells [.μ p 0]):=fun cs c l ext=>by simp[sT]
 have g1:∀cs c l ext,(B.set p (.cells cs)++sT p k g nm c l++ext)[B.length+1]?=some (.cells (sC k g nm c l z0.four)):=fun cs c l ext=>by simp[sT]
 have g2:∀cs c l ext c' l',(B.set p (.cells cs)++sT p k g nm c l++ext).set (B.length+1) (.cells (sC k g nm c' l' z0.four))=B.set p (.cells cs)++sT p k g nm c' l'++ext:=fun cs c l ext c' l'=>by simp[sT]
 have d3:∀c l,((sC k g nm c l z0.four).drop 3).take 1=[.list c l]:=fun _ _=>rfl;have DD:∀c l c' l',(sC k g nm c l z0.four).take 3++AV.list c' l'::(sC k g nm c l z0.four).drop 4=sC k g nm c' l' z0.four:=fun _ _ _ _=>rfl;have dY:κ (C u).gl (ah (C u)) KB {env:=[.μ (B.length+1) 0,.μ B.length 0],loc:=[],mem:= {ε:=B.set p (.cells cs)++sT p k g nm cp (l.map ρ.av)++ext,ζ:=[]}} fun r=>r.1= .normal/\∃tt,r.2.mem= {ε:=B.set p (.cells cN)++sT p k g nm c' ((l++[x]).map ρ.av)++ext',ζ:=tt}/\∀i∈tt,B.length<=i:=by
  simp only[bH]at g0 g1 g2 k1 dO⊢;simp[KB,g0,g1,g2,k1,dO,Mem.put,ρ.ti,XB,d3,DD,nO,cZ,c8];have Df:∀y∈l++[x],Fx y.av:=fun y hy=>(dE.1 hy).elim (fun h=>ρ.fx (HX y h)) fun h=>by rw[fK.1 h];exact ρ.fx hx
  have eK:∀m:Mem,m.ν (.list c' (l.map ρ.av++[x.av]))= .list c' (l.map ρ.av++[x.av]):=fun m=>by have:=(Dv.list c' (bS.of ρ.av (l++[x]) Df)).ν;rw[jT]at this;exact this
  simp only[eK,DD];refine⟨_,⟨rfl,rfl⟩,fun i hi=>?_⟩;split at hi
  ·cases hi
  ·have:=fK.1 hi;omega
 obtain⟨⟨ex,s'⟩,e1,rfl,tt,e2,e3⟩:=dY;have dz:=sB (C:=C u) (f:=310) (g:=L6) (args:=[]) (cap:=[.μ (B.length+1) 0,.μ B.length 0]) (m:= {ε:=B.set p (.cells cs)++sT p k g nm cp (l.map ρ.av)++ext,ζ:=T}) (l:=[]) rfl rfl rfl (by rw[eJ _ (by rw[hL];omega)];exact e1) (by simp) (by rfl);refine⟨B++sT p k g nm c' ((l++[x]).map ρ.av)++ext',T++tt,x,cN,a1,by rw[e0,e0,dz];dsimp only at e2;rw[e2];rfl,⟨c',ext',rfl,?_,fun h=>by simp at h,fun y hy=>?_⟩,r1,gv,fun i hi=>(dE.1 hi).imp id (e3 i)⟩
 ·have:=Row.swap iu (P':=B++sT p k g nm c' ((l++[x]).map ρ.av)) (by simp[sT]) (by simp[sT]);simpa[sT]using this
 ·rcases dE.1 hy with hy|hy
  ·exact HX y hy
  ·rw[fK.1 hy];exact hx
end
theorem aba(m:Mem)(x:η):x.four.map m.ν=x.four:=by have:=η.Wx x;rwa[fM]at this
theorem aa'(n:Nat)(x:η)(h:x.gz):bo n x.four=true:=by exact(oD h).bo n
theorem EA(k g:Int)(nm:List Nat)(cp:ξ)(l sz:List AV):sC k g nm cp l sz= .n k:: .n g:: .str nm:: .list cp l::(sz++[.n 0,.n 0,.str [],.list .nil [],.list .nil [],.list .nil []]):=by simp[sC,z0,η.four,η.ψ]
theorem JN:z0.four=[.n 0,.n 0,.str [],.list .nil []]:=rfl
theorem WX(n:Nat)(x:ρ)(h:x.Ok):lo n x.av=true:=(ρ.fx h).lo n
theorem ot:z0.gz:=⟨⟨.inl rfl,trivial⟩,zz,trivial⟩
theorem ajq{k g:Int}{nm:List Nat}{cp:ξ}{pl:List ρ}{sz:η}(dQ:∀y∈pl,y.Ok)(hs:sz.gz):bS (sC k g nm cp (pl.map ρ.av) sz.four) (δ.mk k g nm (cp.exp 0 false) pl sz z0 .nil [] .nil []).cells:=by simp only[sC,δ.cells];exact((bS.append (.cons (.int _ _) (.cons (.int _ _) (.cons (.str _) (.cons (.list cp (bS.of ρ.av pl fun y hy=>ρ.fx (dQ y hy))) .nil)))) (oD hs)).append (oD ot)).append (.cons (.list .nil .nil) (.cons (.list .nil .nil) .nil))
section
variable{s:List Nat}{all:List Tok}{c:ξ}
def tN(u:Nat)(s:List Nat)(all:List Tok)(c:ξ){α:Type}(f:FuncId)(args:List AV)(P:PS->R α)(E:α->AV->Prop)(a:RS):Prop:=
 ∀(B:List θ) (p:Nat) (cs:List AV) (item:AV) (T:List Nat),p<B.length->cK s all c item cs a->∃v x ae dZ b T',ah (C u) (.fn (.func f) [] []) (.μ p 0::args) {ε:=B.set p (.cells cs),ζ:=T}=some (v,{ε:=B.set p (.cells ae),ζ:=T'})/\cK s all c dZ ae b/\aF P a x b/\E x v/\∀i∈T',i∈T\/i=p
theorem ajy(hc:br c){B:List θ}{p:Nat}(hp:p<B.length){b:RS}(tt:List Nat):∀{cs:List AV} {item:AV},cK s all c item cs b->(∀i∈tt,i=p\/B.length<=i)→
  ∃ae dZ,lS B.length tt (B.set p (.cells cs))=B.set p (.cells ae)/\cK s all c dZ ae b:=by
 induction tt with
 |nil=>intro cs item h _;exact⟨cs,item,rfl,h⟩
 |cons i tt ih=>
  intro cs item h ht
  rcases ht i (by simp)with rfl|hi
  ·obtain⟨k,wr,rfl,hk,h⟩:=h;have e:(θ.cells [.str s,.list c (all.map Tok.bu),.n k,.n wr,item]).BE B.length= .cells [.str s,.list c (all.map Tok.bu),.n k,.n wr,exp B.length true item]:=by
    have:bn B.length true (all.map Tok.bu)=all.map Tok.bu:=by rw[fQ,dc];exact dD fun t _=>Tok.SO _ _ t
    simp[θ.BE,exp,ga hc,this]
   simp only[lS,List.getElem?_set_self hp,e,List.set_set];exact ih ⟨k,wr,rfl,hk,h⟩ fun j hj=>ht j (by simp[hj])
  ·simp only[lS,hU (show(B.set p (θ.cells cs)).length<=i by simpa using hi)];exact ih h fun j hj=>ht j (by simp[hj])
theorem IU(hc:br c){f:FuncId}{g:AF}{args:List AV}{B:List θ}{p:Nat}{cs ae:List AV}{v:AV}{b:RS}{dZ:AV}(h1:(C u).iX f=none)(h2:(C u).fs f=some g)(h3:(C u).bm f=false)(hp:p<B.length)(hx:args.map (exp B.length false)=args)
  {r:Ex×St} (hr:exec (C u).gl (ah (C u)) dL g.code {env:= .μ p 0::args,loc:=[],mem:= {ε:=B.set p (.cells cs),ζ:=[]}}=some r) (he:∀i,r.1≠ .exit i) {bs:List θ} (hm:r.2.mem.ε=B.set p (.cells ae)++bs) (hL:cK s all c dZ ae b)
  (ht:∀i∈r.2.mem.ζ,i=p\/B.length<=i) {l:List AV} (hl:cH r.2 g.results=some l) (hv:aK r.2.mem.ε B.length 8 (cJ l)=v) (T:List Nat):
  ∃Sf adk T',ah (C u) (.fn (.func f) [] []) (.μ p 0::args) {ε:=B.set p (.cells cs),ζ:=T}=some (v,{ε:=B.set p (.cells Sf),ζ:=T'})/\cK s all c adk Sf b/\∀i∈T',i∈T\/i=p:=by
 obtain⟨cG,rV,e1,e2⟩:=ajy hc hp _ hL ht;have eJ:(AV.μ p 0::args).map (exp (B.set p (θ.cells cs)).length false)= .μ p 0::args:=by simp only[aA,mS,hx,exp,hp,if_true]
 obtain⟨ex,s'⟩:=r;have hc:=KL (C:=C u) (f:=f) (g:=g) (args:= .μ p 0::args) (m:= {ε:=B.set p (.cells cs),ζ:=T}) h1 h2 h3 (by rw[eJ];exact hr) he hl;dsimp only at hm ht hv;have h5:(B.set p (θ.cells ae)++bs).take (B.set p (θ.cells cs)).length=B.set p (.cells ae):=by rw[mS,List.take_append_of_le_length (by simp)];exact fw (by simp)
 have h6:Mem.back {ε:=B.set p (.cells cs),ζ:=T} s'.mem= {ε:=B.set p (.cells cG),ζ:=T++s'.mem.ζ.filter fun i=>match(B.set p (θ.cells cG))[i]? with
   |some b=>!b.clean i
   |none=>false}:=by
  have e:s'.mem= {ε:=B.set p (.cells ae)++bs,ζ:=s'.mem.ζ}:=by rw[<-hm]
  rw[e];simp only[Mem.back,h5];rw[mS,e1];rfl
 rw[mS,hv,h6]at hc;refine⟨cG,rV,_,hc,e2,fun i hi=>?_⟩;rcases dE.1 hi with hi|hi
 ·exact .inl hi
 ·obtain⟨h7,h8⟩:=List.mem_filter.1 hi;rcases ht i h7 with rfl|h9
  ·exact .inr rfl
  ·rw[hU (by simpa using h9)]at h8;cases h8
variable(hl:all.length<1000000000)(ai:∀t∈all,t.Ok)(hc:br c)
def Yq:δ->AV->Prop:=fun x v=>v= .agg x.cells/\x.Ok
def mo(s:List Nat)(all:List Tok)(c:ξ)(e n:Nat)(B:List θ)(p:Nat)(a:RS)(st:St):Prop:=
 st.e 2= .μ B.length 0/\st.e 4= .aj 4 0 0/\(∃z,st.q 4=some (0,.cells z)/\z.length=14)/\st.e 5= .μ (B.length+1) 0∧
  ∃k g nm cp pl sz cs ext tt item b,st.mem= {ε:=B.set p (.cells cs)++([.cells [.μ p 0],.cells (sC k g nm cp (pl.map ρ.av) sz.four)]++ext),ζ:=tt}/\cK s all c item cs b/\(∀i∈tt,i=p\/B.length<=i)/\cV nm/\(∀y∈pl,y.Ok)/\sz.gz∧
   aF (kT e (au e n)) a (.mk k g nm (cp.exp 0 false) pl sz z0 .nil [] .nil []) b
include hl ai hc
omit hl ai hc in
theorem pt.at{α:Type}{Rel:List AV->RS->Prop}{f:FuncId}{args:List AV}{P:PS->R α}{E:α->AV->Prop}{a:RS}(h:pt u Rel f args P E a){B:List θ}(D:List θ){p:Nat}{cs:List AV}(hp:p<B.length)(hr:Rel cs a):
  ∃v x ae b,(∀T,ah (C u) (.fn (.func f) [] []) (.μ p 0::args) (kU B p cs D T)=some (v,(kU B p ae D T)))/\Rel ae b/\aF P a x b/\E x v:=by
 obtain⟨v,x,ae,b,h1,h2⟩:=h (B++D) p cs (by simp;omega) hr;simp only[mT _ _ hp]at h1;exact⟨v,x,ae,b,h1,h2⟩
omit ai hc in
theorem Ci{item:AV}(w:List Nat){B:List θ}(D:List θ){p:Nat}{cs:List AV}{a:RS}(hp:p<B.length)(h:cK s all c item cs a)(t:Bool)(hb:a.aZ w=t)(T:List Nat):
  kf u 268 [.μ p 0,.list .full [.str w]] (kU B p cs D T)=some (.bool t,(kU B p cs D T)):=by
 have:=Fh (u:=u) w hl (B:=B++D) (p:=p) (by simp;omega) h hb T;simpa only[mT _ _ hp]using this
theorem f297{n:Nat}(a:RS)(ha:a.sz<n)(word:List Nat)(hw:∀st,a= .r st->word=st.hd):tN u s all c 297 [.str word] (wc s.length (au s.length n)) Yq a:=by
 intro B p cs item T hp h;have dY:κ (C u).gl (ah (C u)) RI {env:=[.μ p 0,.str word],loc:=[],mem:= {ε:=B.set p (.cells cs),ζ:=[]}} fun r=>(∀i,r.1≠ .exit i)/\∃x L ae ext tt item b,r.2.mem=(kU B p ae ext tt)/\(∀i∈tt,i=p\/B.length<=i)∧
   aI r.2.env 4= .aj 4 0 0/\bQ r.2.loc 4=some (0,.cells L)/\bS L x.cells/\x.Ok/\cK s all c item ae b/\aF (wc s.length (au s.length n)) a x b:=by
  have Ur:(C u).gl 0= .ref [aX .any fq]:=AR;have q85:=fun m=>f85 (u:=u) .any (.inr rfl) fq word (by decide) m;have hgate:placeOf fq word+1=(gW word:Int):=by unfold placeOf gW;cases fq.findIdx? fun x=>x==word<;>simp
  have akQ:gW word<=12:=by
   unfold gW;cases hf:fq.findIdx? fun x=>x==word with
   |none=>simp
   |some i=>
    have:=(List.findIdx?_eq_some_iff_findIdx_eq.1 hf).1
    have hl:fq.length=12:=rfl;simp only;omega
  have gg:bC .i64 (placeOf fq word+1)=gW word:=by rw[hgate,wrap_i64 (by omega) (by omega)]
  refine Θ (fun st=>st.e 1= .str word/\st.e 2= .μ B.length 0/\st.e 4= .aj 4 0 0/\(∃z,st.q 4=some (0,.cells z)/\z.length=14)/\st.mem= {ε:=B.set p (.cells cs)++[.cells [.μ p 0]],ζ:=[]}) (by simp[bL,Mem.push,Mem.ν,ν]) fun s1 ⟨h1,h2,h4,⟨z,h5,h6⟩,h7⟩=>?_;let K:St->Prop:=fun st=>st.e 1= .str word/\st.e 2= .μ B.length 0/\st.e 4= .aj 4 0 0/\st.q 4=some (0,.cells z)/\st.e 5= .μ (B.length+1) 0;refine Θ (fun st=>K st/\st.mem= {ε:=B.set p (.cells cs)++[.cells [.μ p 0],.cells [.n 0,.n 0,.str [],.list .nil [],.n 0,.n 0,.str [],.list .nil [],.n 0,.n 0,.str [],.list .nil [],.list .nil [],.list .nil []]],ζ:=[]}) (by simp[K,bL,Mem.push,Mem.ν,ν,cL,h1,h2,h4,h5,h7]) fun s1 ⟨⟨h1,h2,h4,h5,h8⟩,h7⟩=>?_;refine Θ (fun st=>(K st/\st.mem= {ε:=B.set p (.cells cs)++[.cells [.μ p 0],.cells [.n 0,.n 0,.str [],.list .nil [],.n 0,.n 0,.str [],.list .nil [],.n 0,.n 0,.str [],.list .nil [],.list .nil [],.list .nil []]],ζ:=[]})/\st.e 6= .n (gW word)) (by simp[K,h1,h2,h4,h5,h7,h8,Ur,q85,gg]) fun s1 ⟨⟨⟨h1,h2,h4,h5,h8⟩,h7⟩,h9⟩=>?_;refine bP (mo s all c s.length n B p a) ?_ fun s2 ⟨m2,m4,⟨z',m5,m6⟩,m8,k,g,nm,cp,pl,sz,cN,ext,tt,Ik,b,m7,m9,m10,m11,m12,m13,m14⟩=>?_
  ·refine κ.block ?_;have eE:∀(X:List θ) (L:List AV) (e:List θ),X.length=B.length->(X++θ.cells [.μ p 0]::θ.cells L::e)[B.length]?=some (.cells [.μ p 0]):=fun X L e h=>by rw[<-h];simp
   have HI:∀(X:List θ) (L:List AV) (e:List θ),X.length=B.length->(X++θ.cells [.μ p 0]::θ.cells L::e)[B.length+1]?=some (.cells L):=fun X L e h=>by rw[<-h];simp
   have HL:∀(X:List θ) (L L':List AV) (e:List θ),X.length=B.length->(X++θ.cells [.μ p 0]::θ.cells L::e).set (B.length+1) (.cells L')=X++θ.cells [.μ p 0]::θ.cells L'::e:=fun X L L' e h=>by rw[<-h];simp
   have hX:∀cs,(B.set p (θ.cells cs)).length=B.length:=fun cs=>by simp
   have g0:=fun cs L e=>eE (B.set p (.cells cs)) L e (hX cs);have g1:=fun cs L e=>HI (B.set p (.cells cs)) L e (hX cs);have gs:=fun cs L L' e=>HL (B.set p (.cells cs)) L L' e (hX cs);clear eE HI HL;have fin:∀(k g:Int) (nm:List Nat) (cp:ξ) (pl:List ρ) (sz:η) (ae:List AV) (ext:List θ) (tt:List Nat) (dZ:AV) (b:RS) (st:St),
     K st/\st.mem= {ε:=B.set p (.cells ae)++(θ.cells [.μ p 0]::θ.cells (sC k g nm cp (pl.map ρ.av) sz.four)::ext),ζ:=tt}->cK s all c dZ ae b->(∀i∈tt,i=p\/B.length<=i)->cV nm->(∀y∈pl,y.Ok)->sz.gz→
     aF (kT s.length (au s.length n)) a (.mk k g nm (cp.exp 0 false) pl sz z0 .nil [] .nil []) b->mo s all c s.length n B p a st:=fun k g nm cp pl sz ae ext tt dZ b st ⟨⟨m1,m2,m4,m5,m8⟩,m7⟩ q1 q2 q3 q4 q5 q6=>
    ⟨m2,m4,⟨z,m5,h6⟩,m8,k,g,nm,cp,pl,sz,ae,ext,tt,dZ,b,m7,q1,q2,q3,q4,q5,q6⟩
   have gG:∀i∈([]:List Nat),i=p\/B.length<=i:=by simp
   have U5:∀y∈([]:List ρ),y.Ok:=by simp
   by_cases hgt:0<gW word
   ·have ab_:(0:Int)<gW word:=by omega
    obtain⟨_,w1,cN,a1,k1,r1,iF,rfl⟩:=(f226 (u:=u) (item:=item) word hl ai a).at [.cells [.μ p 0],.cells [.n 0,.n 0,.str [],.list .nil [],.n 0,.n 0,.str [],.list .nil [],.n 0,.n 0,.str [],.list .nil [],.list .nil [],.list .nil []]] hp h;have s1:=iF.sz (eV _ _);have aij:=fun m=>f272 (u:=u) (gW word) (by omega) m;have har:1<=fL (gW word)/\fL (gW word)<=3:=by unfold fL;(repeat' split)<;>omega
    generalize hgw:(gW word:Int)=gw at*;generalize abG:fL gw=ar at*;let pl:PS->R ρ:=gQ s.length (au s.length n);let T1:PS->R (List ρ):=fun t=>(pl t).bind fun p t=>me s.length pl (ar-1) [p] t;have qu:dk pl:=FO _ (nL _ _);let Y:List AV->ξ->List ρ->List θ->List θ:=fun cs cp l ext=>B.set p (.cells cs)++(θ.cells [.μ p 0]::θ.cells (sC 1 gw [] cp (l.map ρ.av) z0.four)::ext);refine Θ (fun st=>K st/\st.e 6= .n gw/\st.e 21= .bool true/\st.mem= {ε:=B.set p (.cells cs)++[.cells [.μ p 0],.cells [.n 0,.n 0,.str [],.list .nil [],.n 0,.n 0,.str [],.list .nil [],.n 0,.n 0,.str [],.list .nil [],.list .nil [],.list .nil []]],ζ:=[]}) (by simp[K,h1,h2,h4,h5,h7,h8,h9,ab_]) fun s1 ⟨⟨h1,h2,h4,h5,h8⟩,h9,aC,h7⟩=>?_;refine κ.yes (by simp[aC]) ?_;refine Θ (fun st=>K st/\st.e 6= .n gw/\st.mem= {ε:=B.set p (.cells cN)++[.cells [.μ p 0],.cells [.n 0,.n 0,.str [],.list .nil [],.n 0,.n 0,.str [],.list .nil [],.n 0,.n 0,.str [],.list .nil [],.list .nil [],.list .nil []]],ζ:=[]}) (by simp[K,h1,h2,h4,h5,h7,h8,h9,k1,g0,g1]) fun s1 ⟨⟨h1,h2,h4,h5,h8⟩,h9,h7⟩=>?_;refine Θ (fun st=>K st/\st.e 6= .n gw/\st.mem= {ε:=Y cN .nil [] [],ζ:=[]}) (by simp[K,Y,h1,h2,h4,h5,h7,h8,h9,g0,g1,gs,Mem.put,Mem.ν,ν,bo,lo,EA,JN]) fun s1 ⟨⟨h1,h2,h4,h5,h8⟩,h9,h7⟩=>?_;let I:Nat->St->Prop:=fun i st=>K st/\st.e 31= .n ar/\st.e 32= .n i/\∃ae cp l ext tt b,st.mem= {ε:=Y ae cp l ext,ζ:=tt}/\l.length=i/\Row (B.length+2) (Y ae cp l ext) 2 74 cp l.length/\(l=[]->cp= .nil)/\(∀y∈l,y.Ok)/\(∀i∈tt,i=p\/B.length<=i)/\cK s all c item ae b/\b.sz<=a1.sz∧
     ((l=[]/\b=a1)\/(0<i/\∀y b',aF (me s.length pl (ar-i) l) b y b'->aF T1 a1 y b'))
    refine κ.mono (Q:=fun r=>r.1= .normal/\∃ae cp l ext tt b,K r.2/\r.2.mem= {ε:=Y ae cp l ext,ζ:=tt}/\(l≠[]/\cp.exp 0 false= .any)/\(∀y∈l,y.Ok)/\(∀i∈tt,i=p\/B.length<=i)/\cK s all c item ae b/\aF T1 a1 l b) ?_ fun r ⟨Bc,ae,cp,l,ext,tt,b,q1,q2,⟨_,q3⟩,q4,q5,q6,q7⟩=>?_
    ·refine Θ (fun st=>K st/\st.e 31= .n ar/\st.e 32= .n 0/\st.mem= {ε:=Y cN .nil [] [],ζ:=[]}) (by simp[K,h1,h2,h4,h5,h7,h8,h9,aij]) fun s1 ⟨hK,h9,aC,h7⟩=>?_;have hI:I 0 s1:=⟨hK,h9,aC,cN,.nil,[],[],[],a1,h7,rfl,Row.nil,fun _=>rfl,by simp,by simp,r1,bA _,.inl ⟨rfl,rfl⟩⟩;refine κ.block (κ.kD (I:=I) ar hI fun i st hi Ω=>?_);obtain⟨⟨h1,h2,h4,h5,h8⟩,h9,aC,ae,cp,l,ext,tt,b,h7,nY,iu,mD,jL,mH,NL,fG,pN⟩:=Ω;unfold VZ;rcases Nat.lt_or_ge i ar with χ|du
     ·have eO:(i:Int)<ar:=by omega
      have kP:bC .i64 ((i:Int)+1)=(i:Int)+1:=wrap_i64 (by omega) (by omega);have place:∀cG b2,cK s all c item cG b2->b2.sz<=a1.sz->∃x c7 dX ext' b3,(∀T,kf u 309 [.μ p 0] {ε:=Y cG cp l ext,ζ:=T}=some (x.av,{ε:=Y c7 cp l ext,ζ:=T}))∧
        (∀T,gA {ε:=Y c7 cp l ext,ζ:=T} true 2 40 74 (.list cp (l.map ρ.av)) (.list .full [x.av])=some (.list dX (l.map ρ.av++[x.av]),{ε:=Y c7 cp l ext',ζ:=T}))/\Row (B.length+2) (Y c7 dX (l++[x]) ext') 2 74 dX (l++[x]).length/\cK s all c item c7 b3/\aF pl b2 x b3/\x.Ok/\b3.sz<=b2.sz:=by
       intro cG b2 DE ng;obtain⟨_,x,c7,b3,k3,r3,dU,rfl,hx⟩:=(f309 (u:=u) (item:=item) (k:=n) hl ai b2 (by omega)).at (θ.cells [.μ p 0]::θ.cells (sC 1 gw [] cp (l.map ρ.av) z0.four)::ext) hp DE;have hY:∀cs cp l ext,Y cs cp l ext=(B.set p (.cells cs)++[θ.cells [.μ p 0],θ.cells (sC 1 gw [] cp (l.map ρ.av) z0.four)])++ext:=fun cs cp l ext=>by simp[Y]
       have jz:Row (B.set p (.cells c7)++[θ.cells [.μ p 0],θ.cells (sC 1 gw [] cp (l.map ρ.av) z0.four)]).length ((B.set p (.cells c7)++[θ.cells [.μ p 0],θ.cells (sC 1 gw [] cp (l.map ρ.av) z0.four)])++ext) 2 74 cp (l.map ρ.av).length:=by rw[hY]at iu;have:=Row.swap iu (P':=B.set p (.cells c7)++[θ.cells [.μ p 0],θ.cells (sC 1 gw [] cp (l.map ρ.av) z0.four)]) (by simp) (by simp);rw[cF];simpa using this
       obtain⟨dX,ext',dO,sX,-⟩:=wa (bytes:=40) jz (WZ l) (show shaped true 2 x.av=true by rfl) (ρ.tm x) (by omega) (by simp;omega) (by simp;omega);refine⟨x,c7,dX,ext',b3,k3,fun T=>by rw[hY,hY];exact dO T,?_,r3,dU,hx,dU.sz qu⟩;rw[cF]at sX;rw[hY];have:=Row.swap sX (P':=B.set p (.cells c7)++[θ.cells [.μ p 0],θ.cells (sC 1 gw [] dX ((l++[x]).map ρ.av) z0.four)]) (by simp) (by simp);simpa using this
      have done:∀x c7 dX ext' b3 p_ s',K s'->s'.e 31= .n ar->s'.e 32= .n ((i:Int)+1)->s'.mem= {ε:=Y c7 dX (l++[x]) ext',ζ:=p_}->Row (B.length+2) (Y c7 dX (l++[x]) ext') 2 74 dX (l++[x]).length->cK s all c item c7 b3->x.Ok->b3.sz<=b.sz->(∀i∈p_,i=p\/B.length<=i)→
        (∀y b',aF (me s.length pl (ar-(i+1)) (l++[x])) b3 y b'->aF T1 a1 y b')->I (i+1) s':=fun x c7 dX ext' b3 p_ s' q1 q2 q3 q4 q5 q6 q7 q8 q9 nr=>
       ⟨q1,q2,q3,c7,dX,l++[x],ext',p_,b3,q4,by simp[nY],q5,fun h=>by simp at h,fun y hy=>(dE.1 hy).elim (jL y) fun h=>by rw[fK.1 h];exact q7,q9,q6,by omega,.inr ⟨by omega,nr⟩⟩
      have MJ:∀c l,((sC 1 gw [] c l z0.four).drop 3).take 1=[.list c l]:=fun _ _=>rfl;have DD:∀c l c' l',(sC 1 gw [] c l z0.four).take 3++AV.list c' l'::(sC 1 gw [] c l z0.four).drop 4=sC 1 gw [] c' l' z0.four:=fun _ _ _ _=>rfl;have TI:∀c l,(sC 1 gw [] c l z0.four).length=14:=fun c l=>XB 1 gw [] c l z0;have eK:∀(x:ρ) (dX:ξ),x.Ok->∀m:Mem,m.ν (.list dX (l.map ρ.av++[x.av]))= .list dX (l.map ρ.av++[x.av]):=fun x dX hx m=>by have:=(Dv.list dX (bS.of ρ.av (l++[x]) fun y hy=>(dE.1 hy).elim (fun h=>ρ.fx (jL y h)) fun h=>by rw[fK.1 h];exact ρ.fx hx)).ν;rw[jT]at this;exact this
      rcases pN with⟨h0,gM⟩|⟨h0,pN⟩
      ·have sR:i=0:=by rw[<-nY,h0];rfl
       obtain⟨x,c7,dX,ext',b3,k3,dO,sX,r3,dU,hx,DH⟩:=place ae b NL fG;refine κ.done .normal (fun st=>K st/\st.e 31= .n ar/\st.e 32= .n ((i:Int)+1)/\∃p_,st.mem= {ε:=Y c7 dX (l++[x]) ext',ζ:=p_}/\∀i∈p_,i=p\/B.length<=i) (by
        have ab':¬0<i:=by omega
        simp only[Y]at k3 dO h7⊢;simp[K,h1,h2,h4,h5,h7,h8,h9,aC,eO,ab',kP,k3,dO,g0,g1,gs,Mem.put,MJ,DD,TI,eK x dX hx,nO,cZ,c8];intro j hj;split at hj
        ·exact mH j hj
        ·exact(cw.1 hj).elim (fun h=> .inr (by omega)) (mH j)) fun s' ⟨q1,q2,q3,p_,q4,q5⟩=> .inl ⟨rfl,χ,done x c7 dX ext' b3 p_ s' q1 q2 q3 q4 sX r3 hx DH q5 ?_⟩
       intro y b' hg;rw[gM]at dU;rw[h0,sR]at hg;exact dU.bind (Q:=fun p t=>me s.length pl (ar-1) [p] t) hg
      ·have wX:(0:Int)<i:=by omega
       obtain⟨_,w2,cG,b2,k2,r2,gC,rfl⟩:=(f226 (u:=u) (item:=item) [44] hl ai b).at (θ.cells [.μ p 0]::θ.cells (sC 1 gw [] cp (l.map ρ.av) z0.four)::ext) hp NL;have ng:=gC.sz (eV _ _);obtain⟨x,c7,dX,ext',b3,k3,dO,sX,r3,dU,hx,DH⟩:=place cG b2 r2 (by omega);refine κ.done .normal (fun st=>K st/\st.e 31= .n ar/\st.e 32= .n ((i:Int)+1)/\∃p_,st.mem= {ε:=Y c7 dX (l++[x]) ext',ζ:=p_}/\∀i∈p_,i=p\/B.length<=i) (by
        simp only[Y]at k3 dO h7⊢
        simp[K,h1,h2,h4,h5,h7,h8,h9,aC,eO,h0,kP,k2,k3,dO,g0,g1,gs,Mem.put,MJ,DD,TI,eK x dX hx,nO,cZ,c8];intro j hj;split at hj
        ·exact mH j hj
        ·exact(cw.1 hj).elim (fun h=> .inr (by omega)) (mH j)) fun s' ⟨q1,q2,q3,p_,q4,q5⟩=> .inl ⟨rfl,χ,done x c7 dX ext' b3 p_ s' q1 q2 q3 q4 sX r3 hx (by omega) q5 fun y b' hg=>pN y b' ?_⟩
       rw[show ar-i=(ar-(i+1))+1 by omega];exact gC.bind (Q:=fun _ t=>(pl t).bind fun p t=>me s.length pl (ar-(i+1)) (l++[p]) t) (dU.bind (Q:=fun p t=>me s.length pl (ar-(i+1)) (l++[p]) t) hg)
     ·have:i=ar:=by omega
      subst this;refine κ.done (.exit 1) (fun st=>K st/\st.mem= {ε:=Y ae cp l ext,ζ:=tt}) (by simp[K,h1,h2,h4,h5,h7,h8,h9,aC]) fun s' hh=> .inr ⟨by simp,.inl ⟨rfl,rfl,ae,cp,l,ext,tt,b,hh.1,hh.2,?_,jL,mH,NL,?_⟩⟩
      ·have τ:l≠[]:=fun h=>by rw[h]at nY;simp at nY;omega
       refine⟨τ,?_⟩;rcases iu with⟨_,h⟩|⟨t,rfl,_,_⟩
       ·exact absurd (nB h) τ
       ·rfl
      ·rcases pN with⟨h,_⟩|⟨_,h⟩
       ·rw[h]at nY;simp at nY;omega
       ·refine h l b ?_;rw[Nat.sub_self];exact aF.pure l b
    ·refine .inr ⟨by rw[Bc];simp,.inl ⟨Bc,fin 1 gw [] cp l z0 ae ext tt item b r.2 ⟨q1,q2⟩ q6 q5 zz q4 ot ?_⟩⟩;rw[q3];refine aF.as (P:=fun t=>(aD s.length word t).bind fun _ t=>(T1 t).map fun l=> .mk 1 gw [] .any l z0 z0 .nil [] .nil []) (iF.bind (q7.map fun l:List ρ=>δ.mk 1 gw [] .any l z0 z0 .nil [] .nil [])) fun st hs=>?_;have e3:=hw st hs;simp only[kT,<-e3,hgt,if_true,hgw,abG,T1,R.bind_map];rfl
   have Ut:gW word=0:=by omega
   have Dh:∀st,a= .r st->gW st.hd=0:=fun st hs=>by rw[<-hw st hs];exact Ut
   rw[Ut]at h9;have qb:=fun w t hb T=>Ci (u:=u) hl w [.cells [.μ p 0],.cells [.n 0,.n 0,.str [],.list .nil [],.n 0,.n 0,.str [],.list .nil [],.n 0,.n 0,.str [],.list .nil [],.list .nil [],.list .nil []]] hp h t hb T;have oH:∀w,a.aZ w=true->∀st,a= .r st->st.hd=w:=fun w hb st hs=>by subst hs;exact beq_iff_eq.1 hb
   have ub:∀w,a.aZ w=false->∀st,a= .r st->¬st.hd=w:=fun w hb st hs=>by subst hs;exact beq_eq_false_iff_ne.1 hb
   have qw:=(f226 (u:=u) (item:=item) word hl ai a).at [.cells [.μ p 0],.cells [.n 0,.n 0,.str [],.list .nil [],.n 0,.n 0,.str [],.list .nil [],.n 0,.n 0,.str [],.list .nil [],.list .nil [],.list .nil []]] hp h;obtain⟨_,w1,cN,a1,k1,r1,iF,rfl⟩:=qw;have s1:=iF.sz (eV _ _);cases b1:a.aZ [116,97,107,101]with
   |true=>
    have o7:=qb _ _ b1
    obtain⟨_,x,cG,a2,k2,r2,gC,rfl,qG,Bg⟩:=(f295 (u:=u) (item:=item) (k:=n) hl ai a1 (by omega)).at [.cells [.μ p 0],.cells [.n 2,.n 0,.str [],.list .nil [],.n 0,.n 0,.str [],.list .nil [],.n 0,.n 0,.str [],.list .nil [],.list .nil [],.list .nil []]] hp r1;refine κ.done .normal (fun st=>K st/\st.mem= {ε:=B.set p (.cells cG)++(θ.cells [.μ p 0]::θ.cells (sC 2 0 x.1 .nil [] x.2.four)::[]),ζ:=[]}) (by simp[K,h1,h2,h4,h5,h7,h8,h9,o7,k1,k2,g0,g1,gs,Mem.put,Mem.ν,ν,bo,lo,aba,aa' _ _ Bg,EA]) fun s' hh=> .inr ⟨by simp,.inl ⟨rfl,fin 2 0 x.1 .nil [] x.2 cG [] [] item a2 s' hh r2 gG qG U5 Bg ?_⟩⟩;refine aF.as (P:=fun t=>(aD s.length word t).bind fun _ t=>(sn s.length (au s.length n) t).map fun x=> .mk 2 0 x.1 .nil [] x.2 z0 .nil [] .nil []) (iF.bind (gC.map fun x:List Nat×η=>δ.mk 2 0 x.1 .nil [] x.2 z0 .nil [] .nil [])) fun st hs=>?_;have e1:=oH _ b1 st hs;have e2:=Dh st hs;have e3:=hw st hs;rw[e1]at e2 e3;simp[kT,e1,e2,e3]
   |false=>
   have o7:=qb _ _ b1
   cases b2:a.aZ [100,114,111,112]with
   |true=>
    have qT:=qb _ _ b2
    obtain⟨_,x,cG,a2,k2,r2,gC,rfl,hx⟩:=(f227 (u:=u) (item:=item) hl ai a1).at [.cells [.μ p 0],.cells [.n 0,.n 0,.str [],.list .nil [],.n 0,.n 0,.str [],.list .nil [],.n 0,.n 0,.str [],.list .nil [],.list .nil [],.list .nil []]] hp r1;refine κ.done .normal (fun st=>K st/\st.mem= {ε:=B.set p (.cells cG)++(θ.cells [.μ p 0]::θ.cells (sC 3 0 x .nil [] z0.four)::[]),ζ:=[]}) (by simp[K,h1,h2,h4,h5,h7,h8,h9,o7,qT,k1,k2,g0,g1,gs,Mem.put,Mem.ν,ν,bo,lo,EA,JN]) fun s' hh=> .inr ⟨by simp,.inl ⟨rfl,fin 3 0 x .nil [] z0 cG [] [] item a2 s' hh r2 gG hx U5 ot ?_⟩⟩;refine aF.as (P:=fun t=>(aD s.length word t).bind fun _ t=>(gH s.length t).map fun x=> .mk 3 0 x .nil [] z0 z0 .nil [] .nil []) (iF.bind (gC.map fun x:List Nat=>δ.mk 3 0 x .nil [] z0 z0 .nil [] .nil [])) fun st hs=>?_;have e1:=oH _ b2 st hs;have e2:=Dh st hs;have e3:=hw st hs;rw[e1]at e2 e3;simp[kT,e1,e2,e3]
   |false=>
   have qT:=qb _ _ b2
   cases b3:a.aZ [109,101,97,115,117,114,101]with
   |true=>
    have uO:=qb _ _ b3
    obtain⟨_,x,cG,a2,k2,r2,gC,rfl,hx⟩:=(f309 (u:=u) (item:=item) (k:=n) hl ai a1 (by omega)).at [.cells [.μ p 0],.cells [.n 0,.n 0,.str [],.list .nil [],.n 0,.n 0,.str [],.list .nil [],.n 0,.n 0,.str [],.list .nil [],.list .nil [],.list .nil []]] hp r1;have s2:=gC.sz (FO _ (nL _ _));obtain⟨_,w3,c7,a3,k3,r3,dU,rfl⟩:=(f226 (u:=u) (item:=item) [58] hl ai a2).at [.cells [.μ p 0],.cells [.n 5,.n 0,.str [],.list .full [x.av],.n 0,.n 0,.str [],.list .nil [],.n 0,.n 0,.str [],.list .nil [],.list .nil [],.list .nil []]] hp r2;obtain⟨_,y,iP,a4,k4,r4,mY,rfl,hy⟩:=(f227 (u:=u) (item:=item) hl ai a3).at [.cells [.μ p 0],.cells [.n 5,.n 0,.str [],.list .full [x.av],.n 0,.n 0,.str [],.list .nil [],.n 0,.n 0,.str [],.list .nil [],.list .nil [],.list .nil []]] hp r3;refine κ.done .normal (fun st=>K st/\st.mem= {ε:=B.set p (.cells iP)++(θ.cells [.μ p 0]::θ.cells (sC 5 0 y .full [x.av] z0.four)::[]),ζ:=[]}) (by simp[K,h1,h2,h4,h5,h7,h8,h9,o7,qT,uO,k1,k2,k3,k4,g0,g1,gs,Mem.put,Mem.ν,ν,cL,ρ.tm,bo,lo,ξ.lo,WX _ _ hx,EA,JN]) fun s' hh=> .inr ⟨by simp,.inl ⟨rfl,fin 5 0 y .full [x] z0 iP [] [] item a4 s' hh r4 gG hy (by simpa using hx) ot ?_⟩⟩;refine aF.as (P:=fun t=>(aD s.length word t).bind fun _ t=>(gQ s.length (au s.length n) t).bind fun p t=>(aD s.length [58] t).bind fun _ t=>(gH s.length t).map fun x=> .mk 5 0 x .any [p] z0 z0 .nil [] .nil []) (iF.bind (gC.bind (Q:=fun p t=>(aD s.length [58] t).bind fun _ t=>(gH s.length t).map fun x=>δ.mk 5 0 x .any [p] z0 z0 .nil [] .nil []) (dU.bind (mY.map fun y:List Nat=>δ.mk 5 0 y .any [x] z0 z0 .nil [] .nil [])))) fun st hs=>?_;have e1:=oH _ b3 st hs;have e2:=Dh st hs;have e3:=hw st hs;rw[e1]at e2 e3;simp[kT,e1,e2,e3]
   |false=>
   have uO:=qb _ _ b3
   cases b4:a.aZ [114,101,115,101,116]with
   |true=>
    have xS:=qb _ _ b4
    obtain⟨_,x,cG,a2,k2,r2,gC,rfl,hx⟩:=(f309 (u:=u) (item:=item) (k:=n) hl ai a1 (by omega)).at [.cells [.μ p 0],.cells [.n 0,.n 0,.str [],.list .nil [],.n 0,.n 0,.str [],.list .nil [],.n 0,.n 0,.str [],.list .nil [],.list .nil [],.list .nil []]] hp r1;refine κ.done .normal (fun st=>K st/\st.mem= {ε:=B.set p (.cells cG)++(θ.cells [.μ p 0]::θ.cells (sC 6 0 [] .full [x.av] z0.four)::[]),ζ:=[]}) (by simp[K,h1,h2,h4,h5,h7,h8,h9,o7,qT,uO,xS,k1,k2,g0,g1,gs,Mem.put,Mem.ν,ν,cL,ρ.tm,bo,lo,ξ.lo,WX _ _ hx,EA,JN]) fun s' hh=> .inr ⟨by simp,.inl ⟨rfl,fin 6 0 [] .full [x] z0 cG [] [] item a2 s' hh r2 gG zz (by simpa using hx) ot ?_⟩⟩;refine aF.as (P:=fun t=>(aD s.length word t).bind fun _ t=>(gQ s.length (au s.length n) t).map fun p=> .mk 6 0 [] .any [p] z0 z0 .nil [] .nil []) (iF.bind (gC.map fun p:ρ=>δ.mk 6 0 [] .any [p] z0 z0 .nil [] .nil [])) fun st hs=>?_;have e1:=oH _ b4 st hs;have e2:=Dh st hs;have e3:=hw st hs;rw[e1]at e2 e3;simp[kT,e1,e2,e3]
   |false=>
   have xS:=qb _ _ b4
   obtain⟨_,x,cG,a2,k2,r2,gC,rfl,hx⟩:=(f227 (u:=u) (item:=item) hl ai a).at [.cells [.μ p 0],.cells [.n 0,.n 0,.str [],.list .nil [],.n 0,.n 0,.str [],.list .nil [],.n 0,.n 0,.str [],.list .nil [],.list .nil [],.list .nil []]] hp h;have s2:=gC.sz (nN _);obtain⟨_,w3,c7,a3,k3,r3,dU,rfl⟩:=(f226 (u:=u) (item:=item) [40] hl ai a2).at [.cells [.μ p 0],.cells [.n 9,.n 0,.str x,.list .nil [],.n 0,.n 0,.str [],.list .nil [],.n 0,.n 0,.str [],.list .nil [],.list .nil [],.list .nil []]] hp r2;have s3:=dU.sz (eV _ _);obtain⟨B4,T4,l,iP,a4,k4,⟨c4,yz,rfl,ze,Nx,Nn⟩,r4,mY,DL⟩:=f228 (u:=u) hl ai (I:=sI B p 9 0 x) (fn:= .fn (.func 310) [] [.μ (B.length+1) 0,.μ B.length 0]) (P:=gQ s.length (au s.length n)) (k:=n) (N:=B.length) (M:=B.length+2) (p:=p) (FO _ (nL _ _)) rfl rfl
    (fun m hm=>by
     have q1:B.length+1<m:=by omega
     have q2:B.length<m:=by omega
     simp[exp,bn,Fn.below,q1,q2]) (fun l B' ⟨c,ext,h,_⟩=>by rw[h];simp[sT];omega) (f310 hl ai hp 9 0 x n) [] ⟨.nil,[],by simp;rfl,Row.nil,fun _=>rfl,by simp⟩ r3 (by omega)
   have e0:∀cs D,(B++D).set p (.cells cs)=B.set p (.cells cs)++D:=fun cs D=>mT _ _ hp;simp only[bH,e0]at k4;have ec:c4.exp 0 false=Φ l:=by
    by_cases h0:l=[]
    ·rw[Nx h0,h0];rfl
    ·rcases ze with⟨_,hc⟩|⟨t,rfl,_,_⟩
     ·exact absurd (nB hc) h0
     ·cases l with
      |nil=>exact absurd rfl h0
      |cons a l=>rfl
   have Il:kf u 228 [.μ p 0,.str [41],.fn (.func 310) [] [.μ (B.length+1) 0,.μ B.length 0]] {ε:=B.set p (.cells c7)++[.cells [.μ p 0],.cells [.n 9,.n 0,.str x,.list .nil [],.n 0,.n 0,.str [],.list .nil [],.n 0,.n 0,.str [],.list .nil [],.list .nil [],.list .nil []]],ζ:=[]}=some (.aU [],{ε:=B.set p (.cells iP)++(θ.cells [.μ p 0]::θ.cells (sC 9 0 x c4 (l.map ρ.av) z0.four)::yz),ζ:=T4}):=k4;refine κ.done .normal (fun st=>K st/\st.mem= {ε:=B.set p (.cells iP)++(θ.cells [.μ p 0]::θ.cells (sC 9 0 x c4 (l.map ρ.av) z0.four)::yz),ζ:=T4}) (by simp[K,h1,h2,h4,h5,h7,h8,h9,o7,qT,uO,xS,k2,k3,Il,g0,g1,gs,Mem.put,Mem.ν,ν,bo,lo]) fun s' hh=> .inr ⟨by simp,.inl ⟨rfl,fin 9 0 x c4 l z0 iP yz T4 _ a4 s' hh r4 (fun i hi=>(DL i hi).elim (fun h=>by cases h) id) hx Nn ot ?_⟩⟩;rw[ec];refine aF.as (P:=fun t=>(gH s.length t).bind fun x t=>(aD s.length [40] t).bind fun _ t=>(nk s.length (gQ s.length (au s.length n)) t).map fun l=> .mk 9 0 x (Φ l) l z0 z0 .nil [] .nil []) (gC.bind (Q:=fun x t=>(aD s.length [40] t).bind fun _ t=>(nk s.length (gQ s.length (au s.length n)) t).map fun l=>δ.mk 9 0 x (Φ l) l z0 z0 .nil [] .nil []) (dU.bind (mY.map fun l:List ρ=>δ.mk 9 0 x (Φ l) l z0 z0 .nil [] .nil []))) fun st hs=>?_;simp[kT,Dh st hs,ub _ b1 st hs,ub _ b2 st hs,ub _ b3 st hs,ub _ b4 st hs]
  ·have g0:∀cs L (e:List θ),(B.set p (θ.cells cs)++θ.cells [.μ p 0]::θ.cells L::e)[B.length]?=some (.cells [.μ p 0]):=fun cs L e=>by simp
   have g1:∀cs L (e:List θ),(B.set p (θ.cells cs)++θ.cells [.μ p 0]::θ.cells L::e)[B.length+1]?=some (.cells L):=fun cs L e=>by simp
   obtain⟨_,w3,c7,a3,k3,r3,dU,rfl⟩:=(f226 (u:=u) (item:=Ik) [59] hl ai b).at (θ.cells [.μ p 0]::θ.cells (sC k g nm cp (pl.map ρ.av) sz.four)::ext) hp m9;have hL:=ajq (k:=k) (g:=g) (nm:=nm) (cp:=cp) m12 m13;have mC:(sC k g nm cp (pl.map ρ.av) sz.four).length=14:=by rw[hL.len,δ.mw]
   have lI:(sC k g nm cp (pl.map ρ.av) sz.four).take 14=sC k g nm cp (pl.map ρ.av) sz.four:=fw (by omega);refine κ.done .ret (fun st=>st.mem= {ε:=B.set p (.cells c7)++(θ.cells [.μ p 0]::θ.cells (sC k g nm cp (pl.map ρ.av) sz.four)::ext),ζ:=tt}/\st.e 4= .aj 4 0 0/\st.q 4=some (0,.cells (sC k g nm cp (pl.map ρ.av) sz.four))) (by
    simp only[cy,bG]at m7
    simp[m2,m4,m5,m6,m7,m8,g0,g1,k3,mC,lI]) fun s' ⟨q1,q2,q3⟩=>⟨by simp,_,_,c7,_,tt,Ik,a3,q1,m10,q2,q3,hL,⟨m11,?_,m12,m13,ot,.inl rfl,trivial,.inl rfl,trivial⟩,r3,m14.bind (dU.map fun _=>_)⟩
   cases cp<;>first|exact .inl rfl|exact .inr rfl
 obtain⟨r,e1,e2,x,L,ae,ext,tt,dZ,b,e3,e4,e5,e6,e7,e8,e9,pD⟩:=dY;have hL:L.length=14:=by rw[e7.len,δ.mw]
 have lI:L.take 14=L:=fw (by omega);obtain⟨cG,rV,T',wI,tY,Ln⟩:=IU (u:=u) hc (f:=297) (g:=G') (args:=[.str word]) (v:= .agg x.cells) rfl rfl rfl hp rfl e1 e2 (by rw[e3]) e9 (by rw[e3];exact e4) (l:=[.agg L]) (by simp[G',e5,e6,hL,lI]) ((Dv.agg e7).aK _ _ _) T;exact⟨_,x,cG,rV,b,T',wI,tY,pD,⟨rfl,e8⟩,Ln⟩
end
end Go.Δ.Tz
namespace Go.Δ
mutual
def Sp.cells:Sp->List AV
 | .mk f t ins=>[.int .i64 f,.int .i64 t,.list (Φ ins) (Sp.lists ins)]
def Sp.lists:List (List Sp)->List AV
 |[]=>[]
 |l::r=> .list (Φ l) (Sp.ψ l)::Sp.lists r
def Sp.ψ:List Sp->List AV
 |[]=>[]
 |x::l=> .agg x.cells::Sp.ψ l
end
theorem Cp{α:Type}(l:List α):(Φ l).exp 0 false=Φ l:=by cases l<;>rfl
mutual
theorem Sp.fx:∀x:Sp,bS x.cells x.cells
 | .mk f t ins=>by have:=Dv.list (Φ ins) (Sp.CO ins);rw[Cp]at this;simp only[Sp.cells];exact .cons (.int _ _) (.cons (.int _ _) (.cons this .nil))
theorem Sp.CO:∀l:List (List Sp),bS (Sp.lists l) (Sp.lists l)
 |[]=> .nil
 |l::r=>by have:=Dv.list (Φ l) (Sp.AE l);rw[Cp]at this;simp only[Sp.lists];exact .cons this (Sp.CO r)
theorem Sp.AE:∀l:List Sp,bS (Sp.ψ l) (Sp.ψ l)
 |[]=> .nil
 |x::l=>by simp only[Sp.ψ];exact .cons (.agg (Sp.fx x)) (Sp.AE l)
end
theorem Sp.zp(l:List (List Sp)):Sp.lists l=l.map fun x=>AV.list (Φ x) (Sp.ψ x):=by
 induction l with
 |nil=>rfl
 |cons a l ih=>simp[Sp.lists,ih]
theorem Sp.eM(l:List Sp):Sp.ψ l=l.map fun x=>AV.agg x.cells:=by
 induction l with
 |nil=>rfl
 |cons a l ih=>simp[Sp.ψ,ih]
namespace Tz
open Go.Δ
variable{u:Nat}
attribute [local simp] exec dT dG eR aH dr ff eH aI fA bQ gX ib iC iL lq AV.cells newVar iH rd wr gL single dd cA eU ef κ cH RV.get cJ fF jU
attribute [local simp] EE D_ LP PL O8 η.fR
theorem δ.fx(x:δ):x.Ok->bS x.cells x.cells:=by
 refine δ.kR (Q:=fun x=>x.Ok->bS x.cells x.cells) (fun k g nm cp pl size to cb body ce els h1 h2 h=>?_) x;obtain⟨q1,q2,q3,q4,q5,q6,q7,q8,q9⟩:=h;have hl:∀(c:ξ) (l:List δ),br c->(∀y∈l,y.Ok->bS y.cells y.cells)->δ.da l->Dv (.list c (δ.ψ l)) (.list c (δ.ψ l)):=fun c l hc hy ho=>by have:=Dv.list c (bS.of δ.av l fun y hm=>Dv.agg (hy y hm (δ.jE ho y hm)));rw[ga hc]at this;rw[δ.eM];exact this
 have hp:=Dv.list cp (bS.of ρ.av pl fun y hy=>ρ.fx (q3 y hy));rw[ga q2]at hp;simp only[δ.cells];exact((bS.append (.cons (.int _ _) (.cons (.int _ _) (.cons (.str _) (.cons hp .nil)))) (oD q4)).append (oD q5)).append (.cons (hl _ _ q6 h1 q7) (.cons (hl _ _ q8 h2 q9) .nil))
theorem Ju{l:List δ}(h:δ.da l):bS (δ.ψ l) (δ.ψ l):=by rw[δ.eM];exact bS.of δ.av l fun y hm=>Dv.agg (δ.fx y (δ.jE h y hm))
theorem Wd(l:List (List Sp)):(Sp.lists l).all (shaped false 1)=true:=by rw[Sp.zp];simp[pg,shaped,AV.one,Function.comp]
theorem kJ{α:Type}(l:List α):br (Φ l):=by cases l<;>simp[Φ,br]
def Eb:List δ×List Sp->AV->Prop:=fun x v=>v= .aU [.list (Φ x.1) (δ.ψ x.1),.list (Φ x.2) (Sp.ψ x.2)]/\δ.da x.1
def hM(B:List θ)(p:Nat)(cs:List AV)(f:Int)(cp:ξ)(ins:List (List Sp))(ext:List θ):List θ:=B.set p (.cells cs)++(θ.cells [.μ p 0]::θ.cells [.n f,.n 0,.list cp (Sp.lists ins)]::ext)
section
variable{s:List Nat}{all:List Tok}{c:ξ}
theorem tN.at{α:Type}{f:FuncId}{args:List AV}{P:PS->R α}{E:α->AV->Prop}{a:RS}(h:tN u s all c f args P E a){B:List θ}(D:List θ){p:Nat}{cs:List AV}{item:AV}(hp:p<B.length)(hr:cK s all c item cs a)(T:List Nat):
  ∃v x ae dZ b T',ah (C u) (.fn (.func f) [] []) (.μ p 0::args) (kU B p cs D T)=some (v,(kU B p ae D T'))/\cK s all c dZ ae b/\aF P a x b/\E x v/\∀i∈T',i∈T\/i=p:=by
 obtain⟨v,x,ae,dZ,b,T',h1,h2⟩:=h (B++D) p cs item T (by simp;omega) hr;simp only[mT _ _ hp]at h1;exact⟨v,x,ae,dZ,b,T',h1,h2⟩
theorem f294{k:Nat}{P:PS->R (List δ×List Sp)}(hb:∀a:RS,a.sz<k->tN u s all c 231 [] P Eb a){B:List θ}{p:Nat}(hp:p<B.length)(f:Int)(cp:ξ)(ins:List (List Sp))(ext:List θ)(T:List Nat){cs:List AV}{item:AV}{a:RS}
  (hr:Row (B.length+2) (hM B p cs f cp ins ext) 1 257 cp ins.length) (hlen:ins.length<100) (h:cK s all c item cs a) (ha:a.sz<k):
  ∃x dX ae dZ ext' b T',ah (C u) (.fn (.func 294) [] [.μ B.length 0,.μ (B.length+1) 0]) [] {ε:=hM B p cs f cp ins ext,ζ:=T}=some (.list (Φ x.1) (δ.ψ x.1),{ε:=hM B p ae f dX (ins++[x.2]) ext',ζ:=T'})∧
   Row (B.length+2) (hM B p ae f dX (ins++[x.2]) ext') 1 257 dX (ins++[x.2]).length/\cK s all c dZ ae b/\aF P a x b/\δ.da x.1/\∀i∈T',i∈T\/i=p\/B.length<=i:=by
 obtain⟨_,x,cN,Ik,b,T1,k1,r1,gv,⟨rfl,hx⟩,ht⟩:=(hb a ha).at (θ.cells [.μ p 0]::θ.cells [.n f,.n 0,.list cp (Sp.lists ins)]::ext) hp h [];have hY:∀cs cp ins ext,hM B p cs f cp ins ext=(B.set p (.cells cs)++[θ.cells [.μ p 0],θ.cells [.n f,.n 0,.list cp (Sp.lists ins)]])++ext:=fun cs cp ins ext=>by simp[hM]
 have jz:Row (B.set p (.cells cN)++[θ.cells [.μ p 0],θ.cells [.n f,.n 0,.list cp (Sp.lists ins)]]).length ((B.set p (.cells cN)++[θ.cells [.μ p 0],θ.cells [.n f,.n 0,.list cp (Sp.lists ins)]])++ext) 1 257 cp (Sp.lists ins).length:=by rw[hY]at hr;have:=Row.swap hr (P':=B.set p (.cells cN)++[θ.cells [.μ p 0],θ.cells [.n f,.n 0,.list cp (Sp.lists ins)]]) (by simp) (by simp);rw[Sp.zp,cF,<-Sp.zp];simpa using this
 have UU:ν (.list (Φ x.2) (Sp.ψ x.2))= .list (Φ x.2) (Sp.ψ x.2):=(Dv.list (Φ x.2) (Sp.AE x.2)).ν;have vC:(Sp.lists ins).length=ins.length:=by rw[Sp.zp,cF]
 obtain⟨dX,ext',dO,sX,-⟩:=wa (bytes:=24) jz (Wd ins) (show shaped false 1 (.list (Φ x.2) (Sp.ψ x.2))=true by rfl) UU (by omega) (by rw[vC];omega) (by rw[vC];omega);have lP:Sp.lists (ins++[x.2])=Sp.lists ins++[.list (Φ x.2) (Sp.ψ x.2)]:=by simp[Sp.zp]
 have C3:∀T,gA {ε:=hM B p cN f cp ins ext,ζ:=T} false 1 24 257 (.list cp (Sp.lists ins)) (.list .full [.list (Φ x.2) (Sp.ψ x.2)])=some (.list dX (Sp.lists ins++[.list (Φ x.2) (Sp.ψ x.2)]),{ε:=hM B p cN f cp ins ext',ζ:=T}):=fun T=>by rw[hY,hY];exact dO T
 have g0:∀cs cp ins ext,(hM B p cs f cp ins ext)[B.length]?=some (.cells [.μ p 0]):=fun cs cp ins ext=>by simp[hM]
 have g1:∀cs cp ins ext,(hM B p cs f cp ins ext)[B.length+1]?=some (.cells [.n f,.n 0,.list cp (Sp.lists ins)]):=fun cs cp ins ext=>by simp[hM]
 have gs:∀cs cp ins ext dX Of,(hM B p cs f cp ins ext).set (B.length+1) (.cells [.n f,.n 0,.list dX (Sp.lists Of)])=hM B p cs f dX Of ext:=fun cs cp ins ext dX Of=>by simp[hM]
 have k1':kf u 231 [.μ p 0] {ε:=hM B p cs f cp ins ext,ζ:=[]}=some (.aU [.list (Φ x.1) (δ.ψ x.1),.list (Φ x.2) (Sp.ψ x.2)],{ε:=hM B p cN f cp ins ext,ζ:=T1}):=k1;have ej:shaped false 1 (.list (Φ x.2) (Sp.ψ x.2))=true:=rfl;have Du:∀m:Mem,m.ν (.list (Φ x.2) (Sp.ψ x.2))= .list (Φ x.2) (Sp.ψ x.2):=fun _=>UU;have hnL:∀m:Mem,m.ν (.list dX (Sp.lists (ins++[x.2])))= .list dX (Sp.lists (ins++[x.2])):=fun _=>(Dv.list dX (Sp.CO (ins++[x.2]))).ν;rw[<-lP]at C3;have dY:κ (C u).gl (ah (C u)) KA {env:=[.μ B.length 0,.μ (B.length+1) 0],loc:=[],mem:= {ε:=hM B p cs f cp ins ext,ζ:=[]}} fun r=>r.1= .ret/\aI r.2.env 2= .list (Φ x.1) (δ.ψ x.1)/\∃tt,r.2.mem= {ε:=hM B p cN f dX (ins++[x.2]) ext',ζ:=tt}/\∀i∈tt,i=p\/B.length<=i:=by
  have vK:∀i∈T1,i=p\/B.length<=i:=fun i hi=>(ht i hi).elim (fun h=>by cases h) .inl;simp[KA,g0,g1,k1',ej,Du,C3,hnL,gs,Mem.put];intro j hj;split at hj
  ·exact vK j hj
  ·exact(cw.1 hj).elim (fun h=> .inr (by omega)) (vK j)
 obtain⟨⟨ex,s'⟩,e1,e2,e3,tt,e4,e5⟩:=dY;dsimp only at e2 e3 e4;subst e2;have eJ:([]++[AV.μ B.length 0,.μ (B.length+1) 0]).map (exp (hM B p cs f cp ins ext).length true)=[AV.μ B.length 0,.μ (B.length+1) 0]:=by
  have q1:B.length<(hM B p cs f cp ins ext).length:=by simp[hM]
  have q2:B.length+1<(hM B p cs f cp ins ext).length:=by simp[hM]
  simp[exp,q1,q2]
 have dz:=sB (C:=C u) (f:=294) (g:=G8) (args:=[]) (cap:=[.μ B.length 0,.μ (B.length+1) 0]) (m:= {ε:=hM B p cs f cp ins ext,ζ:=T}) (l:=[.list (Φ x.1) (δ.ψ x.1)]) rfl rfl rfl (by rw[eJ];exact e1) (by simp) (by simp[G8,e3]);refine⟨x,dX,cN,Ik,ext',b,T++tt,?_,?_,r1,gv,hx,fun i hi=>(dE.1 hi).imp id (e5 i)⟩
 ·refine dz.trans ?_;rw[e4];have:∀n,exp n true (.list (Φ x.1) (δ.ψ x.1))= .list (Φ x.1) (δ.ψ x.1):=fun n=>by
   have h1:bn n true (δ.ψ x.1)=δ.ψ x.1:=by rw[δ.eM,fQ,dc];exact dD fun y hy=>by simp only[Function.comp,δ.av,exp];rw[δ.SL _ _ y (δ.jE hx y hy)]
   simp only[exp,h1];cases x.1<;>rfl
  simp only[cJ,this]
 ·have:=Row.swap sX (P':=B.set p (.cells cN)++[θ.cells [.μ p 0],θ.cells [.n f,.n 0,.list dX (Sp.lists (ins++[x.2]))]]) (by simp) (by simp);rw[hY,List.length_append,<-vC];simpa using this
variable(hl:all.length<1000000000)(ai:∀t∈all,t.Ok)(hc:br c)
def Yp:δ×Sp->AV->Prop:=fun x v=>v= .aU [.agg x.1.cells,.agg x.2.cells]/\x.1.Ok
def Qg(s:List Nat)(all:List Tok)(c:ξ)(B:List θ)(p:Nat)(f:Int)(P:PS->R (δ×List (List Sp)))(a:RS)(st:St):Prop:=
 ∃x cs cp ins ext tt item b,st.q 4=some (0,.cells x.cells)/\x.Ok/\st.mem= {ε:=hM B p cs f cp ins ext,ζ:=tt}/\(cp.exp 0 false=Φ ins)/\(∀i∈tt,i=p\/B.length<=i)/\cK s all c item cs b/\aF P a (x,ins) b
include hl ai hc
theorem f271{n k:Nat}(hb:∀a:RS,a.sz<k->tN u s all c 231 [] (dw s.length (au s.length n) k) Eb a)(a:RS)(ha:a.sz<n)(hak:a.sz<k+1):tN u s all c 271 [] (o9 s.length (g_ s.length (au s.length n) (dw s.length (au s.length n) k))) Yp a:=by
 intro B p cs item T hp h;obtain⟨tk,Pv,qz⟩:∃tk:Tok,(∀D T,kf u 291 [.μ p 0] (kU B p cs D T)=some (tk.bu,(kU B p cs D T)))/\∀st,a= .r st->tk.text=st.hd/\tk.kind=st.kd/\tk.at_=st.at_ s.length:=by obtain⟨k0,wr,rfl,hk,hh⟩:=h;refine⟨qN s all k0,fun D T=>?_,fun st ha=>by subst ha;exact OO hh.2.1⟩;have:=f291 (u:=u) (s:=s) (c:=c) (item:=item) (B++D) p (by simp;omega) k0 wr T hl;simpa only[mT _ _ hp]using this
 simp only[Tok.bu]at Pv;generalize Ω:g_ s.length (au s.length n) (dw s.length (au s.length n) k)=P;have abZ:fm P:=by rw[<-Ω];exact Lu _ (nL _ _) (Ay _ (nL _ _) _)
 have dY:κ (C u).gl (ah (C u)) Ry {env:=[.μ p 0],loc:=[],mem:= {ε:=B.set p (.cells cs),ζ:=[]}} fun r=>(∀i,r.1≠ .exit i)/\∃x ae cp ins ext tt item b to,r.2.mem.ε=B.set p (.cells ae)++ext/\(∀i∈r.2.mem.ζ,i=p\/B.length<=i)∧
   aI r.2.env 2= .aj 2 0 0/\bQ r.2.loc 2=some (0,.cells x.cells)/\aI r.2.env 3= .aj 3 0 0/\bQ r.2.loc 3=some (0,.cells [.n tk.at_,.n (to:Nat),.list cp (Sp.lists ins)])/\cp.exp 0 false=Φ ins/\x.Ok/\cK s all c item ae b/\aF P a (x,ins) b/\(∀t,b= .r t->to=t.last)/\tt=r.2.mem.ζ:=by
  let K:St->Prop:=fun st=>st.e 1= .μ B.length 0/\st.e 2= .aj 2 0 0/\(∃z,st.q 2=some (0,.cells z)/\z.length=14)/\st.e 3= .aj 3 0 0/\(∃z,st.q 3=some (0,.cells z)/\z.length=3);refine Θ (fun st=>K st/\st.q 4=none/\st.mem= {ε:=B.set p (.cells cs)++[.cells [.μ p 0]],ζ:=[]}) (by simp[K,bL,Mem.push,Mem.ν,ν]) fun s1 ⟨⟨h1,h2,⟨z2,h3,ft⟩,h4,⟨z3,h5,ig⟩⟩,h6,h7⟩=>?_;let K2:St->Prop:=fun st=>K st/\st.e 4= .aj 4 0 0;refine Θ (fun st=>K2 st/\st.q 4=some (0,.cells [.n 0,.n 0,.str [],.list .nil [],.n 0,.n 0,.str [],.list .nil [],.n 0,.n 0,.str [],.list .nil [],.list .nil [],.list .nil []])/\st.mem= {ε:=B.set p (.cells cs)++[.cells [.μ p 0]],ζ:=[]}) (by simp[K2,K,bL,h1,h2,h3,ft,h4,h5,ig,h6,h7]) fun s1 ⟨⟨⟨h1,h2,⟨z2,h3,ft⟩,h4,⟨z3,h5,ig⟩⟩,h8⟩,h6,h7⟩=>?_;let K3:St->Prop:=fun st=>K2 st/\st.e 5= .μ (B.length+1) 0;refine Θ (fun st=>K3 st/\st.q 4=some (0,.cells [.n 0,.n 0,.str [],.list .nil [],.n 0,.n 0,.str [],.list .nil [],.n 0,.n 0,.str [],.list .nil [],.list .nil [],.list .nil []])/\st.mem= {ε:=hM B p cs tk.at_ .nil [] [],ζ:=[]}) (by simp[K3,K2,K,bL,h1,h2,h3,ft,h4,h5,ig,h6,h7,h8,Pv,dp,Mem.push,Mem.put,Mem.ν,ν,cL,bo,lo,ξ.lo,hM,Sp.lists]) fun s1 ⟨⟨⟨⟨h1,h2,⟨z2,h3,ft⟩,h4,⟨z3,h5,ig⟩⟩,h8⟩,h9⟩,h6,h7⟩=>?_;let K4:St->Prop:=fun st=>K3 st/\st.e 6= .fn (.func 294) [] [.μ B.length 0,.μ (B.length+1) 0];refine Θ (fun st=>K4 st/\st.q 4=some (0,.cells [.n 0,.n 0,.str [],.list .nil [],.n 0,.n 0,.str [],.list .nil [],.n 0,.n 0,.str [],.list .nil [],.list .nil [],.list .nil []])/\st.mem= {ε:=hM B p cs tk.at_ .nil [] [],ζ:=[]}) (by simp[K4,K3,K2,K,h1,h2,h3,ft,h4,h5,ig,h6,h7,h8,h9]) fun s1 ⟨⟨⟨⟨⟨h1,h2,⟨z2,h3,ft⟩,h4,⟨z3,h5,ig⟩⟩,h8⟩,h9⟩,aC⟩,h6,h7⟩=>?_;have g0:∀cs L (e:List θ),(B.set p (θ.cells cs)++θ.cells [.μ p 0]::θ.cells L::e)[B.length]?=some (.cells [.μ p 0]):=fun cs L e=>by simp
  refine bP (fun st=>K4 st/\Qg s all c B p tk.at_ P a st) ?_ fun s2 ⟨⟨⟨⟨⟨h1,h2,⟨z2,h3,ft⟩,h4,⟨z3,h5,ig⟩⟩,h8⟩,h9⟩,aC⟩,x,ae,cp,ins,ext,tt,dZ,b,m1,m2,m3,m4,m5,m6,m7⟩=>?_
  ·refine Θ (fun st=>(K4 st/\st.q 4=some (0,.cells [.n 0,.n 0,.str [],.list .nil [],.n 0,.n 0,.str [],.list .nil [],.n 0,.n 0,.str [],.list .nil [],.list .nil [],.list .nil []])/\st.mem= {ε:=B.set p (.cells cs)++(θ.cells [.μ p 0]::θ.cells [.n tk.at_,.n 0,.list .nil (Sp.lists [])]::[]),ζ:=[]})/\st.e 7= .str tk.text) (by
    simp only[hM]at h7
    simp[K4,K3,K2,K,h1,h2,h3,ft,h4,h5,ig,h6,h7,h8,h9,aC,Pv,g0]) fun s1 ⟨⟨⟨⟨⟨⟨h1,h2,⟨z2,h3,ft⟩,h4,⟨z3,h5,ig⟩⟩,h8⟩,h9⟩,aC⟩,h6,h7⟩,bp⟩=>?_
   refine κ.block ?_;have fin:∀(x:δ) (ae:List AV) (cp:ξ) (ins:List (List Sp)) (ext:List θ) (tt:List Nat) (dZ:AV) (b:RS) (st:St),(K4 st/\st.q 4=some (0,.cells x.cells)/\st.mem= {ε:=B.set p (.cells ae)++(θ.cells [.μ p 0]::θ.cells [.n tk.at_,.n 0,.list cp (Sp.lists ins)]::ext),ζ:=tt})->x.Ok->cp.exp 0 false=Φ ins->(∀i∈tt,i=p\/B.length<=i)->cK s all c dZ ae b->aF P a (x,ins) b->K4 st/\Qg s all c B p tk.at_ P a st:=
    fun x ae cp ins ext tt dZ b st ⟨q1,q2,q3⟩ q4 q5 q6 q7 q8=>⟨q1,x,ae,cp,ins,ext,tt,dZ,b,q2,q4,q3,q5,q6,q7,q8⟩
   have oH:∀w,a.aZ w=true->∀st,a= .r st->st.hd=w:=fun w hb st hs=>by subst hs;exact beq_iff_eq.1 hb
   have ub:∀w,a.aZ w=false->∀st,a= .r st->¬st.hd=w:=fun w hb st hs=>by subst hs;exact beq_eq_false_iff_ne.1 hb
   have qb:=fun w t hb T=>Ci (u:=u) hl w (θ.cells [.μ p 0]::θ.cells [.n tk.at_,.n 0,.list .nil (Sp.lists [])]::[]) hp h t hb T;have dP:∀(cp:ξ) (ins:List (List Sp)) (X:List θ),ins≠[]->Row (B.length+2) X 1 257 cp ins.length->cp.exp 0 false=Φ ins:=fun cp ins X τ hr=>by
    rcases hr with⟨_,h⟩|⟨t,rfl,_,_⟩
    ·exact absurd (nB h) τ
    ·cases ins with
     |nil=>exact absurd rfl τ
     |cons a l=>rfl
   have CZ:∀cs,Row (B.length+2) (hM B p cs tk.at_ .nil [] []) 1 257 .nil ([]:List (List Sp)).length:=fun cs=>Row.nil;have w7:∀T1:List Nat,(∀i∈T1,i∈([]:List Nat)\/i=p\/B.length<=i)->∀i∈T1,i=p\/B.length<=i:=fun T1 h i hi=>(h i hi).elim (fun h=>by cases h) id;obtain⟨_,w1,cN,a1,k1,r1,iF,rfl⟩:=(f226 (u:=u) (item:=item) tk.text hl ai a).at (θ.cells [.μ p 0]::θ.cells [.n tk.at_,.n 0,.list .nil (Sp.lists [])]::[]) hp h;have s1':=iF.sz (eV _ _);have uE:br .nil:= .inl rfl;have iu:∀(cs ae:List AV) (cp:ξ) (ins:List (List Sp)) (ext:List θ),Row (B.length+2) (hM B p cs tk.at_ cp ins ext) 1 257 cp ins.length->Row (B.length+2) (hM B p ae tk.at_ cp ins ext) 1 257 cp ins.length:=fun cs ae cp ins ext h=>by
    have e:∀cs,hM B p cs tk.at_ cp ins ext=(B.set p (.cells cs)++[θ.cells [.μ p 0],θ.cells [.n tk.at_,.n 0,.list cp (Sp.lists ins)]])++ext:=fun cs=>by simp[hM]
    rw[e]at h⊢;exact Row.swap h (by simp) (by simp)
   cases b1:a.aZ [98,111,114,114,111,119]with
   |true=>
    have o7:=qb _ _ b1
    have s1:=iF.take (tT b1 (by simp));obtain⟨_,⟨nm,ik,Bj,is,ic,il⟩,cG,a2,k2,r2,gC,rfl,jW,hx⟩:=(f295 (u:=u) (item:=item) (k:=n) hl ai a1 (by omega)).at (θ.cells [.μ p 0]::θ.cells [.n tk.at_,.n 0,.list .nil (Sp.lists [])]::[]) hp r1;have s2:=gC.sz (Lz _ (nL _ _));obtain⟨⟨bl,bi⟩,nJ,c7,DX,pG,a3,T3,k3,xp,r3,dU,ep,pU⟩:=f294 (u:=u) hb hp tk.at_ .nil [] [] [] (CZ cG) (by simp) r2 (by omega);simp only[hM,η.four,bG]at k2 k3;refine κ.done .normal (fun st=>K4 st/\st.q 4=some (0,.cells (δ.mk 4 0 nm .nil [] (.mk ik Bj is ic il) z0 (Φ bl) bl .nil []).cells)/\st.mem= {ε:=B.set p (.cells c7)++(θ.cells [.μ p 0]::θ.cells [.n tk.at_,.n 0,.list nJ (Sp.lists [bi])]::pG),ζ:=T3}) (by simp[K4,K3,K2,K,h1,h2,h3,ft,h4,h5,ig,h6,h7,h8,h9,aC,bp,g0,o7,k1,k2,k3,δ.cells,η.four,z0,η.ψ,δ.ψ]) fun s' hh=> .inr ⟨by simp,.inl ⟨rfl,fin _ _ _ _ _ _ _ _ s' hh ⟨jW,uE,by simp,hx,ot,kJ _,ep,uE,trivial⟩ (dP _ _ _ (by simp) xp) (w7 _ pU) r3 ?_⟩⟩;rw[<-Ω];refine aF.as (P:=fun t=>(aD s.length tk.text t).bind fun _ t=>(sn s.length (au s.length n) t).bind fun x t=>(dw s.length (au s.length n) k t).map fun b=>(δ.mk 4 0 x.1 .nil [] x.2 z0 (Φ b.1) b.1 .nil [],[b.2])) (iF.bind (gC.bind (Q:=fun x t=>(dw s.length (au s.length n) k t).map fun b=>(δ.mk 4 0 x.1 .nil [] x.2 z0 (Φ b.1) b.1 .nil [],[b.2])) (dU.map fun b=>(δ.mk 4 0 nm .nil [] (.mk ik Bj is ic il) z0 (Φ b.1) b.1 .nil [],[b.2])))) fun st hs=>?_;have e1:=oH _ b1 st hs;have e3:=(qz st hs).1;rw[e1]at e3;simp[g_,e1,e3]
   |false=>
   have o7:=qb _ _ b1
   cases b2:a.aZ [105,102]with
   |true=>
    have qT:=qb _ _ b2
    have s1:=iF.take (tT b2 (by simp));obtain⟨_,nm,cG,a2,k2,r2,gC,rfl,jW⟩:=(f227 (u:=u) (item:=item) hl ai a1).at (θ.cells [.μ p 0]::θ.cells [.n tk.at_,.n 0,.list .nil (Sp.lists [])]::[]) hp r1;have s2:=gC.sz (nN _);obtain⟨⟨nG,lU⟩,nJ,c7,DX,pG,a3,T3,k3,xp,r3,dU,yL,pU⟩:=f294 (u:=u) hb hp tk.at_ .nil [] [] [] (CZ cG) (by simp) r2 (by omega);have s3:=dU.sz (Ay _ (nL _ _) _);simp only[hM,bG]at k3;cases b3:a3.aZ [101,108,115,101]with
    |true=>
     have qe:=fun T=>Ci (u:=u) hl [101,108,115,101] (θ.cells [.μ p 0]::θ.cells [.n tk.at_,.n 0,.list nJ (Sp.lists [lU])]::pG) hp r3 _ b3 T
     obtain⟨_,w4,iP,a4,k4,r4,mY,rfl⟩:=(f226 (u:=u) (item:=DX) [101,108,115,101] hl ai a3).at (θ.cells [.μ p 0]::θ.cells [.n tk.at_,.n 0,.list nJ (Sp.lists [lU])]::pG) hp r3;have s4:=mY.sz (eV _ _);have ze:Row (B.length+2) (hM B p iP tk.at_ nJ [lU] pG) 1 257 nJ [lU].length:=iu _ _ _ _ _ xp;obtain⟨⟨Cj,Kn⟩,Le,u_,Vv,LJ,a5,T5,k5,NJ,r5,wV,C6,DM⟩:=f294 (u:=u) hb hp tk.at_ nJ [lU] pG T3 ze (by simp) r4 (by omega);simp only[hM,cy,bG]at k5;refine κ.done .normal (fun st=>K4 st/\st.q 4=some (0,.cells (δ.mk 7 0 nm .nil [] z0 z0 (Φ nG) nG (Φ Cj) Cj).cells)/\st.mem= {ε:=B.set p (.cells u_)++(θ.cells [.μ p 0]::θ.cells [.n tk.at_,.n 0,.list Le (Sp.lists [lU,Kn])]::LJ),ζ:=T5}) (by simp[K4,K3,K2,K,h1,h2,h3,ft,h4,h5,ig,h6,h7,h8,h9,aC,bp,g0,o7,qT,k1,k2,k3,qe,k4,k5,δ.cells,η.four,z0,η.ψ,δ.ψ]) fun s' hh=> .inr ⟨by simp,.inl ⟨rfl,fin _ _ _ _ _ _ _ _ s' hh ⟨jW,uE,by simp,ot,ot,kJ _,yL,kJ _,C6⟩ (dP _ _ _ (by simp) NJ) (fun i hi=>(DM i hi).elim (w7 _ pU i) id) r5 ?_⟩⟩;rw[<-Ω];refine aF.as (P:=fun t=>(aD s.length tk.text t).bind fun _ t=>(gH s.length t).bind (fun nn t=>(dw s.length (au s.length n) k t).bind (fun b t=>if t.aZ [101,108,115,101]then(aD s.length [101,108,115,101] t).bind fun _ t=>(dw s.length (au s.length n) k t).map fun d=>(δ.mk 7 0 nn .nil [] z0 z0 (Φ b.1) b.1 (Φ d.1) d.1,[b.2,d.2])else .ok (δ.mk 7 0 nn .nil [] z0 z0 (Φ b.1) b.1 .nil [],[b.2]) t))) (iF.bind (Q:=fun _ t=>(gH s.length t).bind (fun nn t=>(dw s.length (au s.length n) k t).bind (fun b t=>if t.aZ [101,108,115,101]then(aD s.length [101,108,115,101] t).bind fun _ t=>(dw s.length (au s.length n) k t).map fun d=>(δ.mk 7 0 nn .nil [] z0 z0 (Φ b.1) b.1 (Φ d.1) d.1,[b.2,d.2])else .ok (δ.mk 7 0 nn .nil [] z0 z0 (Φ b.1) b.1 .nil [],[b.2]) t))) (gC.bind (Q:=fun nn t=>(dw s.length (au s.length n) k t).bind (fun b t=>if t.aZ [101,108,115,101]then(aD s.length [101,108,115,101] t).bind fun _ t=>(dw s.length (au s.length n) k t).map fun d=>(δ.mk 7 0 nn .nil [] z0 z0 (Φ b.1) b.1 (Φ d.1) d.1,[b.2,d.2])else .ok (δ.mk 7 0 nn .nil [] z0 z0 (Φ b.1) b.1 .nil [],[b.2]) t)) (dU.bind (Q:=fun b t=>if t.aZ [101,108,115,101]then(aD s.length [101,108,115,101] t).bind fun _ t=>(dw s.length (au s.length n) k t).map fun d=>(δ.mk 7 0 nm .nil [] z0 z0 (Φ b.1) b.1 (Φ d.1) d.1,[b.2,d.2])else .ok (δ.mk 7 0 nm .nil [] z0 z0 (Φ b.1) b.1 .nil [],[b.2]) t) (aF.as (P:=fun t=>(aD s.length [101,108,115,101] t).bind fun _ t=>(dw s.length (au s.length n) k t).map fun d=>(δ.mk 7 0 nm .nil [] z0 z0 (Φ nG) nG (Φ d.1) d.1,[lU,d.2])) (mY.bind (wV.map fun d=>(δ.mk 7 0 nm .nil [] z0 z0 (Φ nG) nG (Φ d.1) d.1,[lU,d.2]))) fun st hs=>by subst hs;exact if_pos b3)))) fun st hs=>?_;have e1:=oH _ b2 st hs;have e3:=(qz st hs).1;rw[e1]at e3;simp[g_,e1,e3]
    |false=>
     have qe:=fun T=>Ci (u:=u) hl [101,108,115,101] (θ.cells [.μ p 0]::θ.cells [.n tk.at_,.n 0,.list nJ (Sp.lists [lU])]::pG) hp r3 _ b3 T
     refine κ.done .normal (fun st=>K4 st/\st.q 4=some (0,.cells (δ.mk 7 0 nm .nil [] z0 z0 (Φ nG) nG .nil []).cells)/\st.mem= {ε:=B.set p (.cells c7)++(θ.cells [.μ p 0]::θ.cells [.n tk.at_,.n 0,.list nJ (Sp.lists [lU])]::pG),ζ:=T3}) (by simp[K4,K3,K2,K,h1,h2,h3,ft,h4,h5,ig,h6,h7,h8,h9,aC,bp,g0,o7,qT,k1,k2,k3,qe,δ.cells,η.four,z0,η.ψ,δ.ψ]) fun s' hh=> .inr ⟨by simp,.inl ⟨rfl,fin _ _ _ _ _ _ _ _ s' hh ⟨jW,uE,by simp,ot,ot,kJ _,yL,uE,trivial⟩ (dP _ _ _ (by simp) xp) (w7 _ pU) r3 ?_⟩⟩;rw[<-Ω];refine aF.as (P:=fun t=>(aD s.length tk.text t).bind fun _ t=>(gH s.length t).bind (fun nn t=>(dw s.length (au s.length n) k t).bind (fun b t=>if t.aZ [101,108,115,101]then(aD s.length [101,108,115,101] t).bind fun _ t=>(dw s.length (au s.length n) k t).map fun d=>(δ.mk 7 0 nn .nil [] z0 z0 (Φ b.1) b.1 (Φ d.1) d.1,[b.2,d.2])else .ok (δ.mk 7 0 nn .nil [] z0 z0 (Φ b.1) b.1 .nil [],[b.2]) t))) (iF.bind (Q:=fun _ t=>(gH s.length t).bind (fun nn t=>(dw s.length (au s.length n) k t).bind (fun b t=>if t.aZ [101,108,115,101]then(aD s.length [101,108,115,101] t).bind fun _ t=>(dw s.length (au s.length n) k t).map fun d=>(δ.mk 7 0 nn .nil [] z0 z0 (Φ b.1) b.1 (Φ d.1) d.1,[b.2,d.2])else .ok (δ.mk 7 0 nn .nil [] z0 z0 (Φ b.1) b.1 .nil [],[b.2]) t))) (gC.bind (Q:=fun nn t=>(dw s.length (au s.length n) k t).bind (fun b t=>if t.aZ [101,108,115,101]then(aD s.length [101,108,115,101] t).bind fun _ t=>(dw s.length (au s.length n) k t).map fun d=>(δ.mk 7 0 nn .nil [] z0 z0 (Φ b.1) b.1 (Φ d.1) d.1,[b.2,d.2])else .ok (δ.mk 7 0 nn .nil [] z0 z0 (Φ b.1) b.1 .nil [],[b.2]) t)) (dU.bind (Q:=fun b t=>if t.aZ [101,108,115,101]then(aD s.length [101,108,115,101] t).bind fun _ t=>(dw s.length (au s.length n) k t).map fun d=>(δ.mk 7 0 nm .nil [] z0 z0 (Φ b.1) b.1 (Φ d.1) d.1,[b.2,d.2])else .ok (δ.mk 7 0 nm .nil [] z0 z0 (Φ b.1) b.1 .nil [],[b.2]) t) (aF.as (aF.pure _ _) fun st hs=>by subst hs;exact if_neg (by rw[show PS.aZ st [101,108,115,101]=false from b3];simp))))) fun st hs=>?_;have e1:=oH _ b2 st hs;have e3:=(qz st hs).1;rw[e1]at e3;simp[g_,e1,e3]
   |false=>
   have qT:=qb _ _ b2
   cases b3:a.aZ [102,111,114]with
   |true=>
    have uO:=qb _ _ b3
    have s1:=iF.take (tT b3 (by simp));obtain⟨_,nm,cG,a2,k2,r2,gC,rfl,jW⟩:=(f227 (u:=u) (item:=item) hl ai a1).at (θ.cells [.μ p 0]::θ.cells [.n tk.at_,.n 0,.list .nil (Sp.lists [])]::[]) hp r1;have s2:=gC.sz (nN _);obtain⟨_,w3,c7,a3,k3,r3,dU,rfl⟩:=(f226 (u:=u) (item:=item) [61] hl ai a2).at (θ.cells [.μ p 0]::θ.cells [.n tk.at_,.n 0,.list .nil (Sp.lists [])]::[]) hp r2;have s3:=dU.sz (eV _ _);obtain⟨_,⟨ik,Bj,is,ic,il⟩,iP,a4,k4,r4,mY,rfl,hx⟩:=(Bi (u:=u) (item:=item) hl ai n a3 (by omega)).at (θ.cells [.μ p 0]::θ.cells [.n tk.at_,.n 0,.list .nil (Sp.lists [])]::[]) hp r3;have s4:=mY.sz (nL _ _);obtain⟨_,w5,u_,a5,k5,r5,wV,rfl⟩:=(f226 (u:=u) (item:=item) [58] hl ai a4).at (θ.cells [.μ p 0]::θ.cells [.n tk.at_,.n 0,.list .nil (Sp.lists [])]::[]) hp r4;have s5:=wV.sz (eV _ _);obtain⟨_,⟨jk,jn,js,jc,jl⟩,Cw,a6,k6,r6,Tt,rfl,hy⟩:=(Bi (u:=u) (item:=item) hl ai n a5 (by omega)).at (θ.cells [.μ p 0]::θ.cells [.n tk.at_,.n 0,.list .nil (Sp.lists [])]::[]) hp r5;have s6:=Tt.sz (nL _ _);obtain⟨⟨QG,Zc⟩,cp7,cs7,ak5,aaX,a7,T7,k7,hr7,r7,gv7,abJ,ht7⟩:=f294 (u:=u) hb hp tk.at_ .nil [] [] [] (CZ Cw) (by simp) r6 (by omega);simp only[hM,η.four,bG]at k4 k6 k7;refine κ.done .normal (fun st=>K4 st/\st.q 4=some (0,.cells (δ.mk 8 0 nm .nil [] (.mk ik Bj is ic il) (.mk jk jn js jc jl) (Φ QG) QG .nil []).cells)/\st.mem= {ε:=B.set p (.cells cs7)++(θ.cells [.μ p 0]::θ.cells [.n tk.at_,.n 0,.list cp7 (Sp.lists [Zc])]::aaX),ζ:=T7}) (by simp[K4,K3,K2,K,h1,h2,h3,ft,h4,h5,ig,h6,h7,h8,h9,aC,bp,g0,o7,qT,uO,k1,k2,k3,k4,k5,k6,k7,δ.cells,η.four,z0,η.ψ,δ.ψ]) fun s' hh=> .inr ⟨by simp,.inl ⟨rfl,fin _ _ _ _ _ _ _ _ s' hh ⟨jW,uE,by simp,hx,hy,kJ _,abJ,uE,trivial⟩ (dP _ _ _ (by simp) hr7) (w7 _ ht7) r7 ?_⟩⟩;rw[<-Ω];refine aF.as (P:=fun t=>(aD s.length tk.text t).bind fun _ t=>(gH s.length t).bind fun n' t=>(aD s.length [61] t).bind fun _ t=>(au s.length n t).bind fun x t=>(aD s.length [58] t).bind fun _ t=>(au s.length n t).bind fun y t=>(dw s.length (au s.length n) k t).map fun b=>(δ.mk 8 0 n' .nil [] x y (Φ b.1) b.1 .nil [],[b.2])) (iF.bind (gC.bind (Q:=fun n' t=>(aD s.length [61] t).bind fun _ t=>(au s.length n t).bind fun x t=>(aD s.length [58] t).bind fun _ t=>(au s.length n t).bind fun y t=>(dw s.length (au s.length n) k t).map fun b=>(δ.mk 8 0 n' .nil [] x y (Φ b.1) b.1 .nil [],[b.2])) (dU.bind (mY.bind (Q:=fun x t=>(aD s.length [58] t).bind fun _ t=>(au s.length n t).bind fun y t=>(dw s.length (au s.length n) k t).map fun b=>(δ.mk 8 0 nm .nil [] x y (Φ b.1) b.1 .nil [],[b.2])) (wV.bind (Tt.bind (Q:=fun y t=>(dw s.length (au s.length n) k t).map fun b=>(δ.mk 8 0 nm .nil [] (.mk ik Bj is ic il) y (Φ b.1) b.1 .nil [],[b.2])) (gv7.map fun b=>(δ.mk 8 0 nm .nil [] (.mk ik Bj is ic il) (.mk jk jn js jc jl) (Φ b.1) b.1 .nil [],[b.2])))))))) fun st hs=>?_;have e1:=oH _ b3 st hs;have e3:=(qz st hs).1;rw[e1]at e3;simp[g_,e1,e3]
   |false=>
   have uO:=qb _ _ b3
   cases b4:a.aZ [117,110,100,111]with
   |true=>
    have xS:=qb _ _ b4
    have s1:=iF.take (tT b4 (by simp));obtain⟨⟨nG,lU⟩,nJ,c7,DX,pG,a3,T3,k3,xp,r3,dU,yL,pU⟩:=f294 (u:=u) hb hp tk.at_ .nil [] [] [] (CZ cN) (by simp) r1 (by omega);simp only[hM,bG]at k3;refine κ.done .normal (fun st=>K4 st/\st.q 4=some (0,.cells (δ.mk 10 0 [] .nil [] z0 z0 (Φ nG) nG .nil []).cells)/\st.mem= {ε:=B.set p (.cells c7)++(θ.cells [.μ p 0]::θ.cells [.n tk.at_,.n 0,.list nJ (Sp.lists [lU])]::pG),ζ:=T3}) (by simp[K4,K3,K2,K,h1,h2,h3,ft,h4,h5,ig,h6,h7,h8,h9,aC,bp,g0,o7,qT,uO,xS,k1,k3,δ.cells,η.four,z0,η.ψ,δ.ψ]) fun s' hh=> .inr ⟨by simp,.inl ⟨rfl,fin _ _ _ _ _ _ _ _ s' hh ⟨zz,uE,by simp,ot,ot,kJ _,yL,uE,trivial⟩ (dP _ _ _ (by simp) xp) (w7 _ pU) r3 ?_⟩⟩;rw[<-Ω];refine aF.as (P:=fun t=>(aD s.length tk.text t).bind fun _ t=>(dw s.length (au s.length n) k t).map fun b=>(δ.mk 10 0 [] .nil [] z0 z0 (Φ b.1) b.1 .nil [],[b.2])) (iF.bind (dU.map fun b=>(δ.mk 10 0 [] .nil [] z0 z0 (Φ b.1) b.1 .nil [],[b.2]))) fun st hs=>?_;have e1:=oH _ b4 st hs;have e3:=(qz st hs).1;rw[e1]at e3;simp[g_,e1,e3]
   |false=>
   have xS:=qb _ _ b4
   cases b5:a.aZ [119,105,116,104,105,110]with
   |true=>
    have Px:=qb _ _ b5
    have s1:=iF.take (tT b5 (by simp));obtain⟨⟨nG,lU⟩,nJ,c7,DX,pG,a3,T3,k3,xp,r3,dU,yL,pU⟩:=f294 (u:=u) hb hp tk.at_ .nil [] [] [] (CZ cN) (by simp) r1 (by omega);have s3:=dU.sz (Ay _ (nL _ _) _);obtain⟨_,w4,iP,a4,k4,r4,mY,rfl⟩:=(f226 (u:=u) (item:=DX) [97,112,112,108,121] hl ai a3).at (θ.cells [.μ p 0]::θ.cells [.n tk.at_,.n 0,.list nJ (Sp.lists [lU])]::pG) hp r3;have s4:=mY.sz (eV _ _);have ze:Row (B.length+2) (hM B p iP tk.at_ nJ [lU] pG) 1 257 nJ [lU].length:=iu _ _ _ _ _ xp;obtain⟨⟨Cj,Kn⟩,Le,u_,Vv,LJ,a5,T5,k5,NJ,r5,wV,C6,DM⟩:=f294 (u:=u) hb hp tk.at_ nJ [lU] pG T3 ze (by simp) r4 (by omega);simp only[hM,cy,bG]at k3 k5;refine κ.done .normal (fun st=>K4 st/\st.q 4=some (0,.cells (δ.mk 11 0 [] .nil [] z0 z0 (Φ nG) nG (Φ Cj) Cj).cells)/\st.mem= {ε:=B.set p (.cells u_)++(θ.cells [.μ p 0]::θ.cells [.n tk.at_,.n 0,.list Le (Sp.lists [lU,Kn])]::LJ),ζ:=T5}) (by simp[K4,K3,K2,K,h1,h2,h3,ft,h4,h5,ig,h6,h7,h8,h9,aC,bp,g0,o7,qT,uO,xS,Px,k1,k3,k4,k5,δ.cells,η.four,z0,η.ψ,δ.ψ]) fun s' hh=> .inr ⟨by simp,.inl ⟨rfl,fin _ _ _ _ _ _ _ _ s' hh ⟨zz,uE,by simp,ot,ot,kJ _,yL,kJ _,C6⟩ (dP _ _ _ (by simp) NJ) (fun i hi=>(DM i hi).elim (w7 _ pU i) id) r5 ?_⟩⟩;rw[<-Ω];refine aF.as (P:=fun t=>(aD s.length tk.text t).bind fun _ t=>(dw s.length (au s.length n) k t).bind fun b t=>(aD s.length [97,112,112,108,121] t).bind fun _ t=>(dw s.length (au s.length n) k t).map fun d=>(δ.mk 11 0 [] .nil [] z0 z0 (Φ b.1) b.1 (Φ d.1) d.1,[b.2,d.2])) (iF.bind (dU.bind (Q:=fun b t=>(aD s.length [97,112,112,108,121] t).bind fun _ t=>(dw s.length (au s.length n) k t).map fun d=>(δ.mk 11 0 [] .nil [] z0 z0 (Φ b.1) b.1 (Φ d.1) d.1,[b.2,d.2])) (mY.bind (wV.map fun d=>(δ.mk 11 0 [] .nil [] z0 z0 (Φ nG) nG (Φ d.1) d.1,[lU,d.2]))))) fun st hs=>?_;have e1:=oH _ b5 st hs;have e3:=(qz st hs).1;rw[e1]at e3;simp[g_,e1,e3]
   |false=>
   have Px:=qb _ _ b5
   obtain⟨_,x,cG,rV,a2,T2,k2,r2,gC,⟨rfl,hx⟩,ht2⟩:=(f297 (u:=u) hl ai hc a ha tk.text fun st hs=>(qz st hs).1).at (θ.cells [.μ p 0]::θ.cells [.n tk.at_,.n 0,.list .nil (Sp.lists [])]::[]) hp h [];have rT:=δ.mw x;have Bh:x.cells.take 14=x.cells:=fw (by omega);refine κ.done .normal (fun st=>K4 st/\st.q 4=some (0,.cells x.cells)/\st.mem= {ε:=B.set p (.cells cG)++(θ.cells [.μ p 0]::θ.cells [.n tk.at_,.n 0,.list .nil (Sp.lists [])]::[]),ζ:=T2}) (by simp[K4,K3,K2,K,h1,h2,h3,ft,h4,h5,ig,h6,h7,h8,h9,aC,bp,g0,o7,qT,uO,xS,Px,k2,rT,Bh]) fun s' hh=> .inr ⟨by simp,.inl ⟨rfl,fin _ _ _ _ _ _ _ _ s' hh hx rfl (fun i hi=>(ht2 i hi).elim (fun h=>by cases h) .inl) r2 ?_⟩⟩;rw[<-Ω];refine aF.as (P:=fun t=>(wc s.length (au s.length n) t).map fun x=>(x,[])) (gC.map fun x=>(x,[])) fun st hs=>?_;simp[g_,ub _ b1 st hs,ub _ b2 st hs,ub _ b3 st hs,ub _ b4 st hs,ub _ b5 st hs]
  ·have rT:=δ.mw x;have Bh:x.cells.take 14=x.cells:=fw (by omega);obtain⟨k1,ES,rfl,pO,hh⟩:=m6;generalize jf:[AV.str s,.list c (all.map Tok.bu),.n k1,.n ES,dZ]=cN;have TK:cK s all c dZ cN b:=⟨k1,ES,jf.symm,pO,hh⟩;have gp:∀D,(B.set p (θ.cells cN)++D)[p]?=some (.cells [.str s,.list c (all.map Tok.bu),.n k1,.n ES,dZ]):=fun D=>by rw[List.getElem?_append_left (by simpa using hp),jf];simp[hp]
   have g1:∀L (e:List θ),(B.set p (θ.cells cN)++θ.cells [.μ p 0]::θ.cells L::e)[B.length+1]?=some (.cells L):=fun L e=>by simp
   have gs:∀L L' (e:List θ),(B.set p (θ.cells cN)++θ.cells [.μ p 0]::θ.cells L::e).set (B.length+1) (.cells L')=B.set p (θ.cells cN)++θ.cells [.μ p 0]::θ.cells L'::e:=fun L L' e=>by simp
   rw[jf]at m3;simp only[hM]at m3;cases b with
   |w w=>
    have hw:¬ES<0:=by have:ES=(w:Int):=hh;omega
    refine κ.done .ret (fun st=>st.mem= {ε:=B.set p (.cells cN)++(θ.cells [.μ p 0]::θ.cells [.n tk.at_,.n 0,.list cp (Sp.lists ins)]::ext),ζ:=tt}/\st.e 2= .aj 2 0 0/\st.q 2=some (0,.cells x.cells)/\st.e 3= .aj 3 0 0/\st.q 3=some (0,.cells [.n tk.at_,.n 0,.list cp (Sp.lists ins)])) (by simp[h1,h2,h3,ft,h4,h5,ig,h8,h9,m1,m3,g0,g1,gp,hw,rT,Bh,cZ,c8,nO]) fun s' ⟨q1,q2,q3,q4,q5⟩=>⟨by simp,x,cN,cp,ins,_,tt,dZ,_,0,by rw[q1],by rw[q1];exact m5,q2,q3,q4,q5,m4,m2,TK,m7,(fun t ht=>by cases ht),by rw[q1]⟩
   |r t=>
    obtain⟨rfl,hd,HV⟩:=hh
    have jN:0<k1:=by
     cases a with
     |w w=>cases m7
     |r om=>
      simp only[aF]at m7
      cases oT:P om with
      |no w=>rw[oT]at m7;cases m7
      |ok y t'=>
       rw[oT]at m7
       obtain⟨_,vK⟩:=m7;cases vK;have h7:=abZ _ _ _ oT;have h8:=h.sz;have h9:=congrArg ki hd;simp only[kZ,RS.sz]at h8 h9;omega
    obtain⟨j,rfl⟩:∃j,k1=j+1:=⟨k1-1,by omega⟩;have hj:j<all.length:=by omega
    have hjt:all[j]?=some all[j]:=List.getElem?_eq_getElem hj;rw[V6 hjt]at HV;have oa:bC .i64 ((j:Int)+1-1)=(j:Int):=by rw[wrap_i64 (by omega) (by omega)];omega
    have vO:bC .i64 (j:Int)=(j:Int):=wrap_i64 (by omega) (by omega);have H6:=(ai all[j] (List.getElem_mem hj)).pos;have ly:bC .i64 ((all[j].at_:Int)+all[j].text.length)=(t.last:Int):=by rw[wrap_i64 (by omega) (by omega)];omega
    refine κ.done .ret (fun st=>st.mem= {ε:=B.set p (.cells cN)++(θ.cells [.μ p 0]::θ.cells [.n tk.at_,.n t.last,.list cp (Sp.lists ins)]::ext),ζ:=tt}/\st.e 2= .aj 2 0 0/\st.q 2=some (0,.cells x.cells)/\st.e 3= .aj 3 0 0/\st.q 3=some (0,.cells [.n tk.at_,.n t.last,.list cp (Sp.lists ins)])) (by
     simp[h1,h2,h3,ft,h4,h5,ig,h8,h9,m1,m3,g0,g1,gs,gp,vO,ly,hj,Tok.bu,bL,rT,Bh,cZ,pC,c8,nO,Mem.put,Mem.ν,ν,bo,lo]
     ) fun s' ⟨q1,q2,q3,q4,q5⟩=>⟨by simp,x,cN,cp,ins,_,tt,dZ,_,t.last,by rw[q1],by rw[q1];exact m5,q2,q3,q4,q5,m4,m2,TK,m7,(fun t' ht=>by cases ht;rfl),by rw[q1]⟩
 obtain⟨r,e1,e2,x,ae,cp,ins,ext,tt,dZ,b,to,e3,e4,e5,e6,e7,e8,e9,pD,wI,tY,Ln,-⟩:=dY;have hL:x.cells.length=14:=δ.mw x;have lI:x.cells.take 14=x.cells:=fw (by omega);have hv:Dv (.aU [.agg x.cells,.agg [.n tk.at_,.n to,.list cp (Sp.lists ins)]]) (.aU [.agg x.cells,.agg (Sp.mk tk.at_ to ins).cells]):=by have:=Dv.list cp (Sp.CO ins);rw[e9]at this;simp only[Sp.cells];exact .aU (.cons (.agg (δ.fx x pD)) (.cons (.agg (.cons (.int _ _) (.cons (.int _ _) (.cons this .nil)))) .nil))
 obtain⟨cG,rV,T',CA,CB,CC⟩:=IU (u:=u) hc (f:=271) (g:=G0) (args:=[]) (v:= .aU [.agg x.cells,.agg (Sp.mk tk.at_ to ins).cells]) rfl rfl rfl hp rfl e1 e2 e3 wI e4 (l:=[.agg x.cells,.agg [.n tk.at_,.n to,.list cp (Sp.lists ins)]]) (by simp[G0,e5,e6,e7,e8,hL,lI]) (hv.aK _ _ _) T;refine⟨_,(x,.mk tk.at_ to ins),cG,rV,b,T',CA,CB,?_,⟨rfl,pD⟩,CC⟩;cases a with
 |w w=>exact tY
 |r st=>
  simp only[aF,o9]at tY⊢
  cases hp:P st with
  |no w=>rw[hp]at tY;exact tY
  |ok y t=>
   rw[hp]at tY
   obtain⟨rfl,rfl⟩:=tY;simp only[R.bind,and_true];rw[(qz st rfl).2.2,Ln t rfl]
end
end Tz
end Go.Δ
