import Derived.Test.YtiigojkfojnedaaGreatDoorRKa
import Derived.Test.YtiigojkfojnedaaGreatDoorRHe
set_option linter.all false
set_option maxRecDepth 100000
set_option maxHeartbeats 8000000
open List renaming length->lK,length_drop->lL,map_cons->ax,length_set->mN,mem_append->dQ,all_map->o8,append_assoc->bQ,set_append_left->ns,length_map->cz,mem_singleton->fY,map_append->kQ,map_map->cT,map_congr_left->dh,getElem?_eq_none->gW,take_of_length_le->fe,mem_cons->cB,eq_nil_of_length_eq_zero->nq,cons_append->cy,nil_append->bB
open Nat renaming le_refl->b_
open Go.IntKind renaming wrap->bN
namespace Go.Δ
def eW{α:Type}(P:PS->R α):Prop:=∀s x t,P s= .ok x t->t.l.length<s.l.length
theorem eW.KJ{α:Type}{P:PS->R α}(h:eW P):da P:=fun s x t e=>Nat.le_of_lt (h s x t e)
theorem eW.take(e:Nat)(f:Tok->Bool):eW (ke e f):=fun _ _ _ h=>by have:=Jb h;omega
theorem eW.bind{α β:Type}{P:PS->R α}{Q:α->PS->R β}(h:eW P)(k:∀x,da (Q x)):eW fun s=>(P s).bind Q:=fun s y t e=>by
 have e:(P s).bind Q= .ok y t:=e;cases hp:P s with
 |ok x s'=>
  rw[hp]at e
  have:=h _ _ _ hp;have:=k x _ _ _ e;omega
 |no w=>rw[hp]at e;cases e
theorem eW.map{α β:Type}{P:PS->R α}{f:α->β}(h:eW P):eW fun s=>(P s).map f:=fun s y t e=>by
 have e:(P s).map f= .ok y t:=e;cases hp:P s with
 |ok x s'=>rw[hp]at e;cases e;exact h _ _ _ hp
 |no w=>rw[hp]at e;cases e
theorem eW.word{β:Type}{e:Nat}{Q:List Nat->PS->R β}(k:∀x,da (Q x)):eW fun s=>(aF e s.hd s).bind Q:=fun s y t h=>(eW.bind (eW.take e fun t=>t.text==s.hd) k) s y t h
theorem KP{α:Type}(e:Nat){P:PS->R α}(h:da P):da (oS e P):=
 .ite (eP e _).map (h.bind fun x=>(da.Ik (fun l=>(eP e _).bind fun _=>h.map) [x]).bind fun _=>(eP e _).map)
theorem RF(e:Nat){pl:PS->R ρ}(h:da pl):∀n l,da (oU e pl n l)
 |0,l=> .ok l
 |n+1,l=>(eP e _).bind fun _=>h.bind fun p=>RF e h n (l++[p])
theorem Z2(e:Nat){ix:PS->R ζ}(h:da ix):eW (lD e ix):=by
 have hp:=FA e h;have g:∀n:Nat,eW fun s=>(aF e s.hd s).bind fun _ s'=>(jZ e ix s').bind fun p s'=>(oU e (jZ e ix) n [p] s').map fun l=>δ.mk 1 (iX s.hd) [] .any l z0 z0 .nil [] .nil []:=fun n s y t k=>eW.bind (eW.take e fun t=>t.text==s.hd) (Q:=fun _ s'=>(jZ e ix s').bind fun p s'=>(oU e (jZ e ix) n [p] s').map fun l=>δ.mk 1 (iX s.hd) [] .any l z0 z0 .nil [] .nil []) (fun _=>hp.bind fun p=>(RF e hp n [p]).map) s y t k;intro s x t k;dsimp only[lD]at k;split at k
 ·exact g _ s x t k
 split at k
 ·exact eW.word (fun _=>(KR e h).map) s x t k
 split at k
 ·exact eW.word (fun _=>(nC e).map) s x t k
 split at k
 ·exact eW.word (fun _=>hp.bind fun _=>(eP e _).bind fun _=>(nC e).map) s x t k
 split at k
 ·exact eW.word (fun _=>hp.map) s x t k
 ·exact(eW.bind (eW.take _ _) fun _=>(eP e _).bind fun _=>(KP e hp).map) s x t k
theorem Z3(e:Nat){ix:PS->R ζ}(h:da ix):eW (zF e ix):=(Z2 e h).bind fun _=>(eP e _).map
theorem KN(e:Nat){ix:PS->R ζ}{blk:PS->R (List δ×List Sp)}(h:da ix)(hb:da blk):eW (iE e ix blk):=by
 intro s x t k;dsimp only[iE]at k;split at k
 ·exact eW.word (fun _=>(KR e h).bind fun _=>hb.map) s x t k
 split at k
 ·exact eW.word (fun _=>(nC e).bind fun n=>hb.bind fun b=> .ite ((eP e _).bind fun _=>hb.map) (.ok _)) s x t k
 split at k
 ·exact eW.word (fun _=>(nC e).bind fun n=>(eP e _).bind fun _=>h.bind fun _=>(eP e _).bind fun _=>h.bind fun _=>hb.map) s x t k
 split at k
 ·exact eW.word (fun _=>hb.map) s x t k
 split at k
 ·exact eW.word (fun _=>hb.bind fun _=>(eP e _).bind fun _=>hb.map) s x t k
 ·exact((Z3 e h).map) s x t k
theorem KL(e:Nat){st:PS->R (δ×List (List Sp))}(h:eW st):eW (uE e st):=fun s x t k=>by
 simp only[uE]at k;cases hp:st s with
 |ok y s'=>
  rw[hp]at k
  cases k;exact h _ _ _ hp
 |no w=>rw[hp]at k;cases k
theorem Z4(e:Nat){st:PS->R (δ×List (List Sp))}(h:eW st):da (zc e st):=
 (eP e _).bind fun _=>(da.Ik (fun _=>(KL e h).KJ.map) _).bind fun _=>(eP e _).map
theorem An(e:Nat){ix:PS->R ζ}(h:da ix):∀k,da (eh e ix k)
 |0=>fun s x t e=>by cases e
 |k+1=>Z4 e (KN e h (An e h k))
def RS.bad:RS->Nat
 | .r _=>0
 | .w _=>1
end Go.Δ
namespace Go.Δ.Tz
open Go.Δ
variable{u:Nat}
attribute [local simp] exec ef dR e_ aJ dF fE eR br fM bR iL iS jm jE mo AV.cells newVar jA rd wr iu single dk cD ff eF μ cF RV.get cK fV kT
attribute [local simp] EA D8
theorem E7{s:List Nat}{all:List Tok}{c:τ}{item:AV}(w:List Nat)(hl:all.length<1000000000){B:List θ}{p:Nat}{cs:List AV}{a:RS}(hp:p<B.length)(h:cE s all c item cs a){t:Bool}(hb:a.aV w=t)(T:List Nat):
  kf u 268 [.κ p 0,.list .full [.str w]] {ε:=B.set p (.cells cs),η:=T}=some (.bool t,{ε:=B.set p (.cells cs),η:=T}):=by
 have:=f268 (u:=u) [w] (by simp) hl hp h T;simpa[hb]using this
section
variable{s:List Nat}{all:List Tok}{c:τ}(hl:all.length<1000000000)(aj:∀t∈all,t.Ok)
theorem cE.sz{item:AV}{cs:List AV}{a:RS}(h:cE s all c item cs a):a.sz<=all.length:=by
 obtain⟨k,wr,rfl,hk,h⟩:=h;cases a with
 |w w=>exact Nat.zero_le _
 |r st=>have:=congrArg lK h.2.1;simp only[lL]at this;simp only[RS.sz];omega
theorem cE.item{item fn:AV}{cs:List AV}{a:RS}(h:cE s all c item cs a):∃k wr,cs=[.str s,.list c (all.map Tok.bp),.n k,.n wr,item]/\cE s all c fn [.str s,.list c (all.map Tok.bp),.n k,.n wr,fn] a:=by obtain⟨k,wr,rfl,hk,h⟩:=h;exact⟨k,wr,rfl,k,wr,rfl,hk,h⟩
def Js(u:Nat)(s:List Nat)(all:List Tok)(c:τ){α:Type}(I:List α->List θ->Prop)(fn:AV)(P:PS->R α)(k N p:Nat):Prop:=
 ∀l B T cs a,I l B->cE s all c fn cs a->a.sz<k->l.length+a.sz<=all.length+1→
  ∃B' T' x ah b,ab (C u) fn [] {ε:=B.set p (.cells cs),η:=T}=some (.aU [],{ε:=B'.set p (.cells ah),η:=T'})/\I (l++[x]) B'/\cE s all c fn ah b/\aH P a x b/\∀i∈T',i∈T\/N<=i
include hl aj
theorem f228{α:Type}{I:List α->List θ->Prop}{fn:AV}{P:PS->R α}{k N M p:Nat}(hP:da P){fi:FuncId}{cap:List AV}(nK:fn= .fn (.func fi) [] cap)(hn:ν fn=fn)(Da:∀n,M<=n->exp n true fn=fn)
  (hI:∀l B,I l B->M<=B.length/\p<B.length) (TN:Js u s all c I fn P k N p) {item:AV} {B:List θ} {cs:List AV} {a:RS} (T:List Nat) (h0:I [] B) (h:cE s all c item cs a) (ha:a.sz<k):
  ∃B' T' l ah b,kf u 228 [.κ p 0,.str [41],fn] {ε:=B.set p (.cells cs),η:=T}=some (.aU [],{ε:=B'.set p (.cells ah),η:=T'})∧
   I l B'/\cE s all c fn ah b/\aH (oS s.length P) a l b/\∀i∈T',i∈T\/i=p\/N<=i:=by
 subst nK;have dT:μ (C u).gl (ab (C u)) c228 {env:=[.κ p 0,.str [41],.fn (.func fi) [] cap],loc:=[],mem:= {ε:=B.set p (.cells cs),η:=[]}} fun r=>(∀i,r.1≠ .exit i)/\∃B' l ah b,r.2.mem.ε=B'.set p (.cells ah)/\I l B'/\cE s all c (.fn (.func fi) [] cap) ah b/\aH (oS s.length P) a l b/\∀i∈r.2.mem.η,i=p\/N<=i:=by
  have hp:=(hI _ _ h0).2;obtain⟨k0,wr,rfl,hf⟩:=h.item (fn:= .fn (.func fi) [] cap);generalize iZ:[AV.str s,.list c (all.map Tok.bp),.n k0,.n wr,.fn (.func fi) [] cap]=cL at hf;clear h;have h:=hf;let K:List θ->St->Prop:=fun X st=>st.e 0= .κ p 0/\st.e 1= .str [41]/\st.e 2= .fn (.func fi) [] cap/\∃tt,st.mem= {ε:=X,η:=tt}/\∀i∈tt,i=p\/N<=i;have Dn:∀m:Mem,m.ν (.fn (.func fi) [] cap)= .fn (.func fi) [] cap:=fun _=>hn;have hg:∀cs,(B.set p (θ.cells cs))[p]?=some (.cells cs):=fun cs=>by simp[hp]
  refine Ψ (K (B.set p (.cells cL))) (by simp[K,hg,Mem.put,Dn,iZ]) fun s1 ⟨h1,h2,h3,tt,h4,h5⟩=>?_;have hb:=fun t hb T=>E7 (u:=u) [41] hl hp h (t:=t) hb T;refine bS (fun st=>K (B.set p (.cells cL)) st/\a.aV [41]=false) ?_ fun s1 ⟨⟨h1,h2,h3,tt,h4,h5⟩,h6⟩=>?_
  ·cases hc:a.aV [41]with
   |false=>
    have hb:=hb false hc
    refine μ.done .normal (fun st=>K (B.set p (.cells cL)) st) (by
     simp[K,h1,h2,h3,h4,hb]
     exact h5) fun s' hh=> .inl ⟨rfl,hh,rfl⟩
   |true=>
    have hb:=hb true hc
    obtain⟨_,x1,cA,a2,k1,r1,g1,rfl⟩:=f226 (u:=u) (item:= .fn (.func fi) [] cap) [41] hl aj a B p cL hp h;refine μ.done .ret (fun st=>K (B.set p (.cells cA)) st) (by
     simp[K,h1,h2,h3,h4,hb,k1]
     exact h5) fun s' ⟨m1,m2,m3,tt,m4,m5⟩=> .inr ⟨by simp,by simp,B,[],cA,a2,by simp only[m4],h0,r1,?_,by rw[m4];exact m5⟩
    exact aH.as (P:=fun t=>(aF s.length [41] t).map fun _=>[]) (g1.map _) fun st hs=>by subst hs;exact if_pos hc
  have gz:∀st,a= .r st->st.aV [41]=false:=fun st hs=>by subst hs;exact h6
  obtain⟨B2,T2,x1,cA,a2,k1,i1,r1,g1,t1⟩:=TN [] B tt cL a h0 h ha (by have:=h.sz;simp;omega);have uc:=g1.sz hP;have lA:=(hI _ _ i1).2;have Hs:(B.set p (θ.cells cL))[p]?=some (.cells [.str s,.list c (all.map Tok.bp),.n k0,.n wr,.fn (.func fi) [] cap]):=by rw[iZ,hg]
  have e2:∀i∈T2,i=p\/N<=i:=fun i hi=>(t1 i hi).elim (h5 i) .inr;refine Ψ (K (B2.set p (.cells cA))) (by
   simp[K,h1,h2,h3,h4,Hs,k1]
   exact e2) fun s1 hK=>?_
  let F:List α->PS->R (List α):=fun l t=>(aF s.length [44] t).bind fun _ t=>(P t).map fun y=>l++[y];let cc:PS->Bool:=fun t=>t.aV [44];let I':Nat->St->Prop:=fun i st=>∃B' l ah b,K (B'.set p (.cells ah)) st/\I l B'/\cE s all c (.fn (.func fi) [] cap) ah b/\b.sz+i<=a2.sz/\l.length+b.sz<=all.length+1/\∀y b',aH (cJ cc F (a2.sz+1-i) l) b y b'->aH (cJ cc F (a2.sz+1) [x1]) a2 y b';refine bS (fun st=>∃B' l ah b,K (B'.set p (.cells ah)) st/\I l B'/\cE s all c (.fn (.func fi) [] cap) ah b/\aH (cJ cc F (a2.sz+1) [x1]) a2 l b) ?_ fun s2 ⟨B',l,ah,b,⟨h1,h2,h3,tt,h4,h5⟩,h6,h7,h8⟩=>?_
  ·have hI0:I' 0 s1:=⟨B2,[x1],cA,a2,hK,i1,r1,b_ _,by have:=h.sz;simp;omega,fun _ _ h=>h⟩;refine μ.block (μ.lH (I:=I') a2.sz hI0 fun i st hi Ω=>?_);obtain⟨B',l,ah,b,⟨h1,h2,h3,tt,h4,h5⟩,h6,h7,h8,h9,aE⟩:=Ω;have gI:=(hI _ _ h6).2;rw[show a2.sz+1-i=(a2.sz-i)+1 by omega]at aE;unfold Va;cases hc:b.aV [44]with
   |false=>
    have hb:=fun T=>E7 (u:=u) [44] hl gI h7 (t:=false) hc T
    refine μ.done (.exit 0) (fun st=>K (B'.set p (.cells ah)) st) (by
     simp[K,h1,h2,h3,h4,hb]
     exact h5) fun s' hh=> .inr ⟨by simp,.inl ⟨rfl,.inl ⟨rfl,B',l,ah,b,hh,h6,h7,aE _ _ (aH.D3 hc)⟩⟩⟩
   |true=>
    have hb:=fun T=>E7 (u:=u) [44] hl gI h7 (t:=true) hc T
    obtain⟨_,x2,cV,a3,k2,r2,g2,rfl⟩:=f226 (u:=u) (item:= .fn (.func fi) [] cap) [44] hl aj b B' p ah gI h7;have nR:=g2.take (tK hc (by simp));have nF:=h1;obtain⟨B4,T4,x3,iI,a4,k3,i3,r3,g3,t3⟩:=TN l B' tt cV a3 h6 r2 (by omega) (by omega);have DC:=g3.sz hP;refine μ.done .normal (fun st=>K (B4.set p (.cells iI)) st) (by
     simp[K,h1,h2,h3,h4,hb,k2,k3]
     exact fun i hi=>(t3 i hi).elim (h5 i) .inr) fun s' hh=> .inl ⟨rfl,by omega,B4,l++[x3],iI,a4,hh,i3,r3,by omega,by simp;omega,fun y b' hg=>aE y b' (aH.D5 hc (g2.bind (g3.map _)) (by rw[show a2.sz+1-(i+1)=a2.sz-i by omega]at hg;exact hg))⟩
  ·have gI:=(hI _ _ h6).2;obtain⟨_,x2,cV,a3,k2,r2,g2,rfl⟩:=f226 (u:=u) (item:= .fn (.func fi) [] cap) [41] hl aj b B' p ah gI h7;refine μ.done .normal (fun st=>K (B'.set p (.cells cV)) st) (by
    simp[K,h1,h2,h3,h4,k2]
    exact h5) fun s' ⟨m1,m2,m3,tt,m4,m5⟩=>⟨by simp,B',l,cV,a3,by simp only[m4],h6,r2,?_,by rw[m4];exact m5⟩
   refine aH.as (P:=fun t=>(P t).bind fun x t=>(cJ cc F (t.l.length+1) [x] t).bind fun l t=>(aF s.length [41] t).map fun _=>l) ?_ fun st hs=>by simp[oS,gz st hs];rfl
   exact g1.bind (Q:=fun x t=>(cJ cc F (t.l.length+1) [x] t).bind fun l t=>(aF s.length [41] t).map fun _=>l) (h8.fuel.bind (Q:=fun l t=>(aF s.length [41] t).map fun _=>l) (g2.map fun _=>l))
 obtain⟨⟨ex,s'⟩,e1,e2,B',l,ah,b,e3,e4,e5,e6,e7⟩:=dT;have hp:=(hI _ _ h0).2;have eG:([AV.κ p 0,.str [41],.fn (.func fi) [] cap]++[]).map (exp (B.set p (θ.cells cs)).length true)=[.κ p 0,.str [41],.fn (.func fi) [] cap]:=by simp only[List.append_nil,ax,List.map_nil,mN,Da _ (hI _ _ h0).1];simp[exp,hp]
 have:=sv (C:=C u) (f:=228) (g:=Lh) (args:=[.κ p 0,.str [41],.fn (.func fi) [] cap]) (cap:=[]) (m:= {ε:=B.set p (.cells cs),η:=T}) (l:=[]) rfl rfl rfl (by rw[eG];exact e1) e2 (by rfl);dsimp only at e3 e7;refine⟨B',T++s'.mem.η,l,ah,b,?_,e4,e5,e6,fun i hi=>(dQ.1 hi).imp id (e7 i)⟩;exact this.trans (by rw[e3];rfl)
end
attribute [local simp] Lb O0 Oh ζ.eY
theorem nD(a:List AV):fL (some a) (some a)=true:=AV.kC a
theorem ρ.fx{x:ρ}(h:x.Ok):Fx x.av:=by have:=Dv.list x.c (bL.of ζ.av x.ix fun y hy=>ζ.fx y (h.2.2 y hy).1);rw[fq h.2.1]at this;exact .agg (.cons (.str _) (.cons this .nil))
theorem ρ.s_(m:Mem)(x:ρ):m.ν x.av=x.av:=ρ.tc x
theorem aiS(x:ρ):shaped true 2 x.av=true:=rfl
attribute [local simp] ρ.s_ aiS
theorem Wb(l:List ρ):(l.map ρ.av).all (shaped true 2)=true:=by simp[o8,ρ.av,shaped,Function.comp]
def sC(k g:Int)(nm:List Nat)(c:τ)(l:List AV)(sz:List AV):List AV:=[.n k,.n g,.str nm,.list c l]++sz++z0.four++[.list .nil [],.list .nil []]
theorem WO(k g:Int)(nm:List Nat)(c:τ)(l:List AV)(x:ζ):(sC k g nm c l x.four).length=14:=by simp[sC]
def sT(p:Nat)(k g:Int)(nm:List Nat)(c:τ)(l:List AV):List θ:=[.cells [.κ p 0],.cells (sC k g nm c l z0.four)]
def sI(B:List θ)(p:Nat)(k g:Int)(nm:List Nat)(l:List ρ)(B':List θ):Prop:=
 ∃c ext,B'=B++sT p k g nm c (l.map ρ.av)++ext/\Row (B.length+2) B' 2 74 c l.length/\(l=[]->c= .nil)/\∀x∈l,x.Ok
section
variable{s:List Nat}{all:List Tok}{c:τ}(hl:all.length<1000000000)(aj:∀t∈all,t.Ok)
include hl aj
theorem f310{B:List θ}{p:Nat}(hp:p<B.length)(k g:Int)(nm:List Nat)(n:Nat):Js u s all c (sI B p k g nm) (.fn (.func 310) [] [.κ (B.length+1) 0,.κ B.length 0]) (jZ s.length (aB s.length n)) n B.length p:=by
 rintro l _ T cs a ⟨cp,ext,rfl,hr,hn,HF⟩ h ha hlen
 have qs:p<(B++sT p k g nm cp (l.map ρ.av)++ext).length:=by simp;omega
 obtain⟨_,x,cL,a1,k1,r1,gv,rfl,hx⟩:=f309 (u:=u) hl aj a ha _ p cs qs h;have e0:∀cs c l ext,(B++sT p k g nm c l++ext).set p (.cells cs)=B.set p (.cells cs)++sT p k g nm c l++ext:=fun cs c l ext=>by rw[bQ,ns _ _ hp,bQ]
 simp only[e0]at k1;have jv:Row (B.set p (.cells cL)++sT p k g nm cp (l.map ρ.av)).length (B.set p (.cells cL)++sT p k g nm cp (l.map ρ.av)++ext) 2 74 cp (l.map ρ.av).length:=by rw[cz];have:=Row.swap hr (P':=B.set p (.cells cL)++sT p k g nm cp (l.map ρ.av)) (by simp[sT]) (by simp[sT]);simpa[sT]using this
 obtain⟨c',ext',eu,hH,-⟩:=vI (bytes:=40) jv (Wb l) (show shaped true 2 x.av=true by rfl) (ρ.tc x) (by omega) (by simp;omega) (by simp;omega);rw[cz]at hH;have hL:∀cs c l ext,(B.set p (.cells cs)++sT p k g nm c l++ext).length=B.length+2+ext.length:=fun cs c l ext=>by simp[sT];omega
 have eG:∀n,B.length+2<=n->([]++[AV.κ (B.length+1) 0,.κ B.length 0]).map (exp n true)=[AV.κ (B.length+1) 0,.κ B.length 0]:=fun n hn=>by
  have a1:B.length+1<n:=by omega
  have a2:B.length<n:=by omega
  simp[exp,a1,a2]
 have g0:∀cs c l ext,(B.set p (.cells cs)++sT p k g nm c l++ext)[B.length]?=some (.cells [.κ p 0]):=fun cs c l ext=>by simp[sT]
 have g1:∀cs c l ext,(B.set p (.cells cs)++sT p k g nm c l++ext)[B.length+1]?=some (.cells (sC k g nm c l z0.four)):=fun cs c l ext=>by simp[sT]
 have g2:∀cs c l ext c' l',(B.set p (.cells cs)++sT p k g nm c l++ext).set (B.length+1) (.cells (sC k g nm c' l' z0.four))=B.set p (.cells cs)++sT p k g nm c' l'++ext:=fun cs c l ext c' l'=>by simp[sT]
 have d3:∀c l,((sC k g nm c l z0.four).drop 3).take 1=[.list c l]:=fun _ _=>rfl;have Dx:∀c l c' l',(sC k g nm c l z0.four).take 3++AV.list c' l'::(sC k g nm c l z0.four).drop 4=sC k g nm c' l' z0.four:=fun _ _ _ _=>rfl;have dT:μ (C u).gl (ab (C u)) J6 {env:=[.κ (B.length+1) 0,.κ B.length 0],loc:=[],mem:= {ε:=B.set p (.cells cs)++sT p k g nm cp (l.map ρ.av)++ext,η:=[]}} fun r=>r.1= .normal/\∃tt,r.2.mem= {ε:=B.set p (.cells cL)++sT p k g nm c' ((l++[x]).map ρ.av)++ext',η:=tt}/\∀i∈tt,B.length<=i:=by
  simp only[bQ]at g0 g1 g2 k1 eu⊢;simp[J6,g0,g1,g2,k1,eu,Mem.put,ρ.s_,WO,d3,Dx,nD,c7,de];have Da:∀y∈l++[x],Fx y.av:=fun y hy=>(dQ.1 hy).elim (fun h=>ρ.fx (HF y h)) fun h=>by rw[fY.1 h];exact ρ.fx hx
  have eI:∀m:Mem,m.ν (.list c' (l.map ρ.av++[x.av]))= .list c' (l.map ρ.av++[x.av]):=fun m=>by have:=(Dv.list c' (bL.of ρ.av (l++[x]) Da)).ν;rw[kQ]at this;exact this
  simp only[eI,Dx];refine⟨_,⟨rfl,rfl⟩,fun i hi=>?_⟩;split at hi
  ·cases hi
  ·have:=fY.1 hi;omega
 obtain⟨⟨ex,s'⟩,e1,rfl,tt,e2,e3⟩:=dT;have dw:=sv (C:=C u) (f:=310) (g:=Ll) (args:=[]) (cap:=[.κ (B.length+1) 0,.κ B.length 0]) (m:= {ε:=B.set p (.cells cs)++sT p k g nm cp (l.map ρ.av)++ext,η:=T}) (l:=[]) rfl rfl rfl (by rw[eG _ (by rw[hL];omega)];exact e1) (by simp) (by rfl);refine⟨B++sT p k g nm c' ((l++[x]).map ρ.av)++ext',T++tt,x,cL,a1,by rw[e0,e0,dw];dsimp only at e2;rw[e2];rfl,⟨c',ext',rfl,?_,fun h=>by simp at h,fun y hy=>?_⟩,r1,gv,fun i hi=>(dQ.1 hi).imp id (e3 i)⟩
 ·have:=Row.swap hH (P':=B++sT p k g nm c' ((l++[x]).map ρ.av)) (by simp[sT]) (by simp[sT]);simpa[sT]using this
 ·rcases dQ.1 hy with hy|hy
  ·exact HF y hy
  ·rw[fY.1 hy];exact hx
end
theorem aav(m:Mem)(x:ζ):x.four.map m.ν=x.four:=by have:=ζ.VK x;rwa[fH]at this
theorem aau(n:Nat)(x:ζ)(h:x.gu):bn n x.four=true:=by exact(oA h).bn n
theorem Ev(k g:Int)(nm:List Nat)(cp:τ)(l sz:List AV):sC k g nm cp l sz= .n k:: .n g:: .str nm:: .list cp l::(sz++[.n 0,.n 0,.str [],.list .nil [],.list .nil [],.list .nil []]):=by simp[sC,z0,ζ.four,ζ.χ]
theorem Jk:z0.four=[.n 0,.n 0,.str [],.list .nil []]:=rfl
theorem V'(n:Nat)(x:ρ)(h:x.Ok):lo n x.av=true:=(ρ.fx h).lo n
theorem n_:z0.gu:=⟨⟨.inl rfl,trivial⟩,zn,trivial⟩
theorem aiE{k g:Int}{nm:List Nat}{cp:τ}{pl:List ρ}{sz:ζ}(dS:∀y∈pl,y.Ok)(hs:sz.gu):bL (sC k g nm cp (pl.map ρ.av) sz.four) (δ.mk k g nm (cp.exp 0 false) pl sz z0 .nil [] .nil []).cells:=by simp only[sC,δ.cells];exact((bL.append (.cons (.int _ _) (.cons (.int _ _) (.cons (.str _) (.cons (.list cp (bL.of ρ.av pl fun y hy=>ρ.fx (dS y hy))) .nil)))) (oA hs)).append (oA n_)).append (.cons (.list .nil .nil) (.cons (.list .nil .nil) .nil))
section
variable{s:List Nat}{all:List Tok}{c:τ}
def tG(u:Nat)(s:List Nat)(all:List Tok)(c:τ){α:Type}(f:FuncId)(args:List AV)(P:PS->R α)(E:α->AV->Prop)(a:RS):Prop:=
 ∀(B:List θ) (p:Nat) (cs:List AV) (item:AV) (T:List Nat),p<B.length->cE s all c item cs a->∃v x ah dU b T',ab (C u) (.fn (.func f) [] []) (.κ p 0::args) {ε:=B.set p (.cells cs),η:=T}=some (v,{ε:=B.set p (.cells ah),η:=T'})/\cE s all c dU ah b/\aH P a x b/\E x v/\∀i∈T',i∈T\/i=p
theorem aiO(hc:bm c){B:List θ}{p:Nat}(hp:p<B.length){b:RS}(tt:List Nat):∀{cs:List AV} {item:AV},cE s all c item cs b->(∀i∈tt,i=p\/B.length<=i)→
  ∃ah dU,lF B.length tt (B.set p (.cells cs))=B.set p (.cells ah)/\cE s all c dU ah b:=by
 induction tt with
 |nil=>intro cs item h _;exact⟨cs,item,rfl,h⟩
 |cons i tt ih=>
  intro cs item h ht
  rcases ht i (by simp)with rfl|hi
  ·obtain⟨k,wr,rfl,hk,h⟩:=h;have e:(θ.cells [.str s,.list c (all.map Tok.bp),.n k,.n wr,item]).Bz B.length= .cells [.str s,.list c (all.map Tok.bp),.n k,.n wr,exp B.length true item]:=by
    have:aX B.length true (all.map Tok.bp)=all.map Tok.bp:=by rw[ft,cT];exact dh fun t _=>Tok.RT _ _ t
    simp[θ.Bz,exp,fq hc,this]
   simp only[lF,List.getElem?_set_self hp,e,List.set_set];exact ih ⟨k,wr,rfl,hk,h⟩ fun j hj=>ht j (by simp[hj])
  ·simp only[lF,gW (show(B.set p (θ.cells cs)).length<=i by simpa using hi)];exact ih h fun j hj=>ht j (by simp[hj])
theorem It(hc:bm c){f:FuncId}{g:AF}{args:List AV}{B:List θ}{p:Nat}{cs ah:List AV}{v:AV}{b:RS}{dU:AV}(h1:(C u).gM f=none)(h2:(C u).fs f=some g)(h3:(C u).ba f=false)(hp:p<B.length)(hx:args.map (exp B.length false)=args)
  {r:Ex×St} (hr:exec (C u).gl (ab (C u)) dP g.code {env:= .κ p 0::args,loc:=[],mem:= {ε:=B.set p (.cells cs),η:=[]}}=some r) (he:∀i,r.1≠ .exit i) {bs:List θ} (hm:r.2.mem.ε=B.set p (.cells ah)++bs) (hL:cE s all c dU ah b)
  (ht:∀i∈r.2.mem.η,i=p\/B.length<=i) {l:List AV} (hl:cF r.2 g.results=some l) (hv:aQ r.2.mem.ε B.length 8 (cK l)=v) (T:List Nat):
  ∃Rl ack T',ab (C u) (.fn (.func f) [] []) (.κ p 0::args) {ε:=B.set p (.cells cs),η:=T}=some (v,{ε:=B.set p (.cells Rl),η:=T'})/\cE s all c ack Rl b/\∀i∈T',i∈T\/i=p:=by
 obtain⟨cA,rQ,e1,e2⟩:=aiO hc hp _ hL ht;have eG:(AV.κ p 0::args).map (exp (B.set p (θ.cells cs)).length false)= .κ p 0::args:=by simp only[ax,mN,hx,exp,hp,if_true]
 obtain⟨ex,s'⟩:=r;have hc:=Kb (C:=C u) (f:=f) (g:=g) (args:= .κ p 0::args) (m:= {ε:=B.set p (.cells cs),η:=T}) h1 h2 h3 (by rw[eG];exact hr) he hl;dsimp only at hm ht hv;have h5:(B.set p (θ.cells ah)++bs).take (B.set p (θ.cells cs)).length=B.set p (.cells ah):=by rw[mN,List.take_append_of_le_length (by simp)];exact fe (by simp)
 have h6:Mem.back {ε:=B.set p (.cells cs),η:=T} s'.mem= {ε:=B.set p (.cells cA),η:=T++s'.mem.η.filter fun i=>match(B.set p (θ.cells cA))[i]? with
   |some b=>!b.clean i
   |none=>false}:=by
  have e:s'.mem= {ε:=B.set p (.cells ah)++bs,η:=s'.mem.η}:=by rw[<-hm]
  rw[e];simp only[Mem.back,h5];rw[mN,e1];rfl
 rw[mN,hv,h6]at hc;refine⟨cA,rQ,_,hc,e2,fun i hi=>?_⟩;rcases dQ.1 hi with hi|hi
 ·exact .inl hi
 ·obtain⟨h7,h8⟩:=List.mem_filter.1 hi;rcases ht i h7 with rfl|h9
  ·exact .inr rfl
  ·rw[gW (by simpa using h9)]at h8;cases h8
variable(hl:all.length<1000000000)(aj:∀t∈all,t.Ok)(hc:bm c)
def XE:δ->AV->Prop:=fun x v=>v= .agg x.cells/\x.Ok
def mf(s:List Nat)(all:List Tok)(c:τ)(e n:Nat)(B:List θ)(p:Nat)(a:RS)(st:St):Prop:=
 st.e 2= .κ B.length 0/\st.e 4= .ak 4 0 0/\(∃z,st.q 4=some (0,.cells z)/\z.length=14)/\st.e 5= .κ (B.length+1) 0∧
  ∃k g nm cp pl sz cs ext tt item b,st.mem= {ε:=B.set p (.cells cs)++([.cells [.κ p 0],.cells (sC k g nm cp (pl.map ρ.av) sz.four)]++ext),η:=tt}/\cE s all c item cs b/\(∀i∈tt,i=p\/B.length<=i)/\dB nm/\(∀y∈pl,y.Ok)/\sz.gu∧
   aH (lD e (aB e n)) a (.mk k g nm (cp.exp 0 false) pl sz z0 .nil [] .nil []) b
include hl aj hc
omit hl aj hc in
theorem pj.at{α:Type}{Rel:List AV->RS->Prop}{f:FuncId}{args:List AV}{P:PS->R α}{E:α->AV->Prop}{a:RS}(h:pj u Rel f args P E a){B:List θ}(D:List θ){p:Nat}{cs:List AV}(hp:p<B.length)(hr:Rel cs a):
  ∃v x ah b,(∀T,ab (C u) (.fn (.func f) [] []) (.κ p 0::args) (kK B p cs D T)=some (v,(kK B p ah D T)))/\Rel ah b/\aH P a x b/\E x v:=by
 obtain⟨v,x,ah,b,h1,h2⟩:=h (B++D) p cs (by simp;omega) hr;simp only[ns _ _ hp]at h1;exact⟨v,x,ah,b,h1,h2⟩
omit aj hc in
theorem Cg{item:AV}(w:List Nat){B:List θ}(D:List θ){p:Nat}{cs:List AV}{a:RS}(hp:p<B.length)(h:cE s all c item cs a)(t:Bool)(hb:a.aV w=t)(T:List Nat):
  kf u 268 [.κ p 0,.list .full [.str w]] (kK B p cs D T)=some (.bool t,(kK B p cs D T)):=by
 have:=E7 (u:=u) w hl (B:=B++D) (p:=p) (by simp;omega) h hb T;simpa only[ns _ _ hp]using this
theorem f297{n:Nat}(a:RS)(ha:a.sz<n)(word:List Nat)(hw:∀st,a= .r st->word=st.hd):tG u s all c 297 [.str word] (zF s.length (aB s.length n)) XE a:=by
 intro B p cs item T hp h;have dT:μ (C u).gl (ab (C u)) QU {env:=[.κ p 0,.str word],loc:=[],mem:= {ε:=B.set p (.cells cs),η:=[]}} fun r=>(∀i,r.1≠ .exit i)/\∃x L ah ext tt item b,r.2.mem=(kK B p ah ext tt)/\(∀i∈tt,i=p\/B.length<=i)∧
   br r.2.env 4= .ak 4 0 0/\bR r.2.loc 4=some (0,.cells L)/\bL L x.cells/\x.Ok/\cE s all c item ah b/\aH (zF s.length (aB s.length n)) a x b:=by
  have TG:(C u).gl 0= .ref [bw .any fu]:=AJ;have q85:=fun m=>f85 (u:=u) .any (.inr rfl) fu word (by decide) m;have hgate:placeOf fu word+1=(iX word:Int):=by unfold placeOf iX;cases fu.findIdx? fun x=>x==word<;>simp
  have aj2:iX word<=12:=by
   unfold iX;cases hf:fu.findIdx? fun x=>x==word with
   |none=>simp
   |some i=>
    have:=(List.findIdx?_eq_some_iff_findIdx_eq.1 hf).1
    have hl:fu.length=12:=rfl;simp only;omega
  have fW:bN .i64 (placeOf fu word+1)=iX word:=by rw[hgate,wrap_i64 (by omega) (by omega)]
  refine Ψ (fun st=>st.e 1= .str word/\st.e 2= .κ B.length 0/\st.e 4= .ak 4 0 0/\(∃z,st.q 4=some (0,.cells z)/\z.length=14)/\st.mem= {ε:=B.set p (.cells cs)++[.cells [.κ p 0]],η:=[]}) (by simp[bJ,Mem.push,Mem.ν,ν]) fun s1 ⟨h1,h2,h4,⟨z,h5,h6⟩,h7⟩=>?_;let K:St->Prop:=fun st=>st.e 1= .str word/\st.e 2= .κ B.length 0/\st.e 4= .ak 4 0 0/\st.q 4=some (0,.cells z)/\st.e 5= .κ (B.length+1) 0;refine Ψ (fun st=>K st/\st.mem= {ε:=B.set p (.cells cs)++[.cells [.κ p 0],.cells [.n 0,.n 0,.str [],.list .nil [],.n 0,.n 0,.str [],.list .nil [],.n 0,.n 0,.str [],.list .nil [],.list .nil [],.list .nil []]],η:=[]}) (by simp[K,bJ,Mem.push,Mem.ν,ν,cG,h1,h2,h4,h5,h7]) fun s1 ⟨⟨h1,h2,h4,h5,h8⟩,h7⟩=>?_;refine Ψ (fun st=>(K st/\st.mem= {ε:=B.set p (.cells cs)++[.cells [.κ p 0],.cells [.n 0,.n 0,.str [],.list .nil [],.n 0,.n 0,.str [],.list .nil [],.n 0,.n 0,.str [],.list .nil [],.list .nil [],.list .nil []]],η:=[]})/\st.e 6= .n (iX word)) (by simp[K,h1,h2,h4,h5,h7,h8,TG,q85,fW]) fun s1 ⟨⟨⟨h1,h2,h4,h5,h8⟩,h7⟩,h9⟩=>?_;refine bS (mf s all c s.length n B p a) ?_ fun s2 ⟨m2,m4,⟨z',m5,m6⟩,m8,k,g,nm,cp,pl,sz,cL,ext,tt,HU,b,m7,m9,m10,m11,m12,m13,m14⟩=>?_
  ·refine μ.block ?_;have eB:∀(X:List θ) (L:List AV) (e:List θ),X.length=B.length->(X++θ.cells [.κ p 0]::θ.cells L::e)[B.length]?=some (.cells [.κ p 0]):=fun X L e h=>by rw[<-h];simp
   have Hs:∀(X:List θ) (L:List AV) (e:List θ),X.length=B.length->(X++θ.cells [.κ p 0]::θ.cells L::e)[B.length+1]?=some (.cells L):=fun X L e h=>by rw[<-h];simp
   have Hv:∀(X:List θ) (L L':List AV) (e:List θ),X.length=B.length->(X++θ.cells [.κ p 0]::θ.cells L::e).set (B.length+1) (.cells L')=X++θ.cells [.κ p 0]::θ.cells L'::e:=fun X L L' e h=>by rw[<-h];simp
   have hX:∀cs,(B.set p (θ.cells cs)).length=B.length:=fun cs=>by simp
   have g0:=fun cs L e=>eB (B.set p (.cells cs)) L e (hX cs);have g1:=fun cs L e=>Hs (B.set p (.cells cs)) L e (hX cs);have gs:=fun cs L L' e=>Hv (B.set p (.cells cs)) L L' e (hX cs);clear eB Hs Hv;have fin:∀(k g:Int) (nm:List Nat) (cp:τ) (pl:List ρ) (sz:ζ) (ah:List AV) (ext:List θ) (tt:List Nat) (dU:AV) (b:RS) (st:St),
     K st/\st.mem= {ε:=B.set p (.cells ah)++(θ.cells [.κ p 0]::θ.cells (sC k g nm cp (pl.map ρ.av) sz.four)::ext),η:=tt}->cE s all c dU ah b->(∀i∈tt,i=p\/B.length<=i)->dB nm->(∀y∈pl,y.Ok)->sz.gu→
     aH (lD s.length (aB s.length n)) a (.mk k g nm (cp.exp 0 false) pl sz z0 .nil [] .nil []) b->mf s all c s.length n B p a st:=fun k g nm cp pl sz ah ext tt dU b st ⟨⟨m1,m2,m4,m5,m8⟩,m7⟩ q1 q2 q3 q4 q5 q6=>
    ⟨m2,m4,⟨z,m5,h6⟩,m8,k,g,nm,cp,pl,sz,ah,ext,tt,dU,b,m7,q1,q2,q3,q4,q5,q6⟩
   have gz:∀i∈([]:List Nat),i=p\/B.length<=i:=by simp
   have Us:∀y∈([]:List ρ),y.Ok:=by simp
   by_cases hgt:0<iX word
   ·have abo:(0:Int)<iX word:=by omega
    obtain⟨_,w1,cL,a1,k1,r1,iB,rfl⟩:=(f226 (u:=u) (item:=item) word hl aj a).at [.cells [.κ p 0],.cells [.n 0,.n 0,.str [],.list .nil [],.n 0,.n 0,.str [],.list .nil [],.n 0,.n 0,.str [],.list .nil [],.list .nil [],.list .nil []]] hp h;have s1:=iB.sz (eP _ _);have ahx:=fun m=>f272 (u:=u) (iX word) (by omega) m;have har:1<=ga (iX word)/\ga (iX word)<=3:=by unfold ga;(repeat' split)<;>omega
    generalize hgw:(iX word:Int)=gw at*;generalize aaW:ga gw=ar at*;let pl:PS->R ρ:=jZ s.length (aB s.length n);let T1:PS->R (List ρ):=fun t=>(pl t).bind fun p t=>oU s.length pl (ar-1) [p] t;have qj:da pl:=FA _ (nB _ _);let Y:List AV->τ->List ρ->List θ->List θ:=fun cs cp l ext=>B.set p (.cells cs)++(θ.cells [.κ p 0]::θ.cells (sC 1 gw [] cp (l.map ρ.av) z0.four)::ext);refine Ψ (fun st=>K st/\st.e 6= .n gw/\st.e 21= .bool true/\st.mem= {ε:=B.set p (.cells cs)++[.cells [.κ p 0],.cells [.n 0,.n 0,.str [],.list .nil [],.n 0,.n 0,.str [],.list .nil [],.n 0,.n 0,.str [],.list .nil [],.list .nil [],.list .nil []]],η:=[]}) (by simp[K,h1,h2,h4,h5,h7,h8,h9,abo]) fun s1 ⟨⟨h1,h2,h4,h5,h8⟩,h9,aE,h7⟩=>?_;refine μ.yes (by simp[aE]) ?_;refine Ψ (fun st=>K st/\st.e 6= .n gw/\st.mem= {ε:=B.set p (.cells cL)++[.cells [.κ p 0],.cells [.n 0,.n 0,.str [],.list .nil [],.n 0,.n 0,.str [],.list .nil [],.n 0,.n 0,.str [],.list .nil [],.list .nil [],.list .nil []]],η:=[]}) (by simp[K,h1,h2,h4,h5,h7,h8,h9,k1,g0,g1]) fun s1 ⟨⟨h1,h2,h4,h5,h8⟩,h9,h7⟩=>?_;refine Ψ (fun st=>K st/\st.e 6= .n gw/\st.mem= {ε:=Y cL .nil [] [],η:=[]}) (by simp[K,Y,h1,h2,h4,h5,h7,h8,h9,g0,g1,gs,Mem.put,Mem.ν,ν,bn,lo,Ev,Jk]) fun s1 ⟨⟨h1,h2,h4,h5,h8⟩,h9,h7⟩=>?_;let I:Nat->St->Prop:=fun i st=>K st/\st.e 31= .n ar/\st.e 32= .n i/\∃ah cp l ext tt b,st.mem= {ε:=Y ah cp l ext,η:=tt}/\l.length=i/\Row (B.length+2) (Y ah cp l ext) 2 74 cp l.length/\(l=[]->cp= .nil)/\(∀y∈l,y.Ok)/\(∀i∈tt,i=p\/B.length<=i)/\cE s all c item ah b/\b.sz<=a1.sz∧
     ((l=[]/\b=a1)\/(0<i/\∀y b',aH (oU s.length pl (ar-i) l) b y b'->aH T1 a1 y b'))
    refine μ.mono (Q:=fun r=>r.1= .normal/\∃ah cp l ext tt b,K r.2/\r.2.mem= {ε:=Y ah cp l ext,η:=tt}/\(l≠[]/\cp.exp 0 false= .any)/\(∀y∈l,y.Ok)/\(∀i∈tt,i=p\/B.length<=i)/\cE s all c item ah b/\aH T1 a1 l b) ?_ fun r ⟨A7,ah,cp,l,ext,tt,b,q1,q2,⟨_,q3⟩,q4,q5,q6,q7⟩=>?_
    ·refine Ψ (fun st=>K st/\st.e 31= .n ar/\st.e 32= .n 0/\st.mem= {ε:=Y cL .nil [] [],η:=[]}) (by simp[K,h1,h2,h4,h5,h7,h8,h9,ahx]) fun s1 ⟨hK,h9,aE,h7⟩=>?_;have hI:I 0 s1:=⟨hK,h9,aE,cL,.nil,[],[],[],a1,h7,rfl,Row.nil,fun _=>rfl,by simp,by simp,r1,b_ _,.inl ⟨rfl,rfl⟩⟩;refine μ.block (μ.lH (I:=I) ar hI fun i st hi Ω=>?_);obtain⟨⟨h1,h2,h4,h5,h8⟩,h9,aE,ah,cp,l,ext,tt,b,h7,nN,hH,my,jJ,mD,MU,fD,pE⟩:=Ω;unfold Vf;rcases Nat.lt_or_ge i ar with ψ|eH
     ·have eZ:(i:Int)<ar:=by omega
      have mE:bN .i64 ((i:Int)+1)=(i:Int)+1:=wrap_i64 (by omega) (by omega);have place:∀cA b2,cE s all c item cA b2->b2.sz<=a1.sz->∃x cV dD ext' b3,(∀T,kf u 309 [.κ p 0] {ε:=Y cA cp l ext,η:=T}=some (x.av,{ε:=Y cV cp l ext,η:=T}))∧
        (∀T,iq {ε:=Y cV cp l ext,η:=T} true 2 40 74 (.list cp (l.map ρ.av)) (.list .full [x.av])=some (.list dD (l.map ρ.av++[x.av]),{ε:=Y cV cp l ext',η:=T}))/\Row (B.length+2) (Y cV dD (l++[x]) ext') 2 74 dD (l++[x]).length/\cE s all c item cV b3/\aH pl b2 x b3/\x.Ok/\b3.sz<=b2.sz:=by
       intro cA b2 Dz nR;obtain⟨_,x,cV,b3,k3,r3,dO,rfl,hx⟩:=(f309 (u:=u) (item:=item) (k:=n) hl aj b2 (by omega)).at (θ.cells [.κ p 0]::θ.cells (sC 1 gw [] cp (l.map ρ.av) z0.four)::ext) hp Dz;have hY:∀cs cp l ext,Y cs cp l ext=(B.set p (.cells cs)++[θ.cells [.κ p 0],θ.cells (sC 1 gw [] cp (l.map ρ.av) z0.four)])++ext:=fun cs cp l ext=>by simp[Y]
       have jv:Row (B.set p (.cells cV)++[θ.cells [.κ p 0],θ.cells (sC 1 gw [] cp (l.map ρ.av) z0.four)]).length ((B.set p (.cells cV)++[θ.cells [.κ p 0],θ.cells (sC 1 gw [] cp (l.map ρ.av) z0.four)])++ext) 2 74 cp (l.map ρ.av).length:=by rw[hY]at hH;have:=Row.swap hH (P':=B.set p (.cells cV)++[θ.cells [.κ p 0],θ.cells (sC 1 gw [] cp (l.map ρ.av) z0.four)]) (by simp) (by simp);rw[cz];simpa using this
       obtain⟨dD,ext',eu,sU,-⟩:=vI (bytes:=40) jv (Wb l) (show shaped true 2 x.av=true by rfl) (ρ.tc x) (by omega) (by simp;omega) (by simp;omega);refine⟨x,cV,dD,ext',b3,k3,fun T=>by rw[hY,hY];exact eu T,?_,r3,dO,hx,dO.sz qj⟩;rw[cz]at sU;rw[hY];have:=Row.swap sU (P':=B.set p (.cells cV)++[θ.cells [.κ p 0],θ.cells (sC 1 gw [] dD ((l++[x]).map ρ.av) z0.four)]) (by simp) (by simp);simpa using this
      have done:∀x cV dD ext' b3 pW s',K s'->s'.e 31= .n ar->s'.e 32= .n ((i:Int)+1)->s'.mem= {ε:=Y cV dD (l++[x]) ext',η:=pW}->Row (B.length+2) (Y cV dD (l++[x]) ext') 2 74 dD (l++[x]).length->cE s all c item cV b3->x.Ok->b3.sz<=b.sz->(∀i∈pW,i=p\/B.length<=i)→
        (∀y b',aH (oU s.length pl (ar-(i+1)) (l++[x])) b3 y b'->aH T1 a1 y b')->I (i+1) s':=fun x cV dD ext' b3 pW s' q1 q2 q3 q4 q5 q6 q7 q8 q9 nf=>
       ⟨q1,q2,q3,cV,dD,l++[x],ext',pW,b3,q4,by simp[nN],q5,fun h=>by simp at h,fun y hy=>(dQ.1 hy).elim (jJ y) fun h=>by rw[fY.1 h];exact q7,q9,q6,by omega,.inr ⟨by omega,nf⟩⟩
      have LZ:∀c l,((sC 1 gw [] c l z0.four).drop 3).take 1=[.list c l]:=fun _ _=>rfl;have Dx:∀c l c' l',(sC 1 gw [] c l z0.four).take 3++AV.list c' l'::(sC 1 gw [] c l z0.four).drop 4=sC 1 gw [] c' l' z0.four:=fun _ _ _ _=>rfl;have S_:∀c l,(sC 1 gw [] c l z0.four).length=14:=fun c l=>WO 1 gw [] c l z0;have eI:∀(x:ρ) (dD:τ),x.Ok->∀m:Mem,m.ν (.list dD (l.map ρ.av++[x.av]))= .list dD (l.map ρ.av++[x.av]):=fun x dD hx m=>by have:=(Dv.list dD (bL.of ρ.av (l++[x]) fun y hy=>(dQ.1 hy).elim (fun h=>ρ.fx (jJ y h)) fun h=>by rw[fY.1 h];exact ρ.fx hx)).ν;rw[kQ]at this;exact this
      rcases pE with⟨h0,gF⟩|⟨h0,pE⟩
      ·have Hw:i=0:=by rw[<-nN,h0];rfl
       obtain⟨x,cV,dD,ext',b3,k3,eu,sU,r3,dO,hx,DC⟩:=place ah b MU fD;refine μ.done .normal (fun st=>K st/\st.e 31= .n ar/\st.e 32= .n ((i:Int)+1)/\∃pW,st.mem= {ε:=Y cV dD (l++[x]) ext',η:=pW}/\∀i∈pW,i=p\/B.length<=i) (by
        have abp:¬0<i:=by omega
        simp only[Y]at k3 eu h7⊢;simp[K,h1,h2,h4,h5,h7,h8,h9,aE,eZ,abp,mE,k3,eu,g0,g1,gs,Mem.put,LZ,Dx,S_,eI x dD hx,nD,c7,de];intro j hj;split at hj
        ·exact mD j hj
        ·exact(cB.1 hj).elim (fun h=> .inr (by omega)) (mD j)) fun s' ⟨q1,q2,q3,pW,q4,q5⟩=> .inl ⟨rfl,ψ,done x cV dD ext' b3 pW s' q1 q2 q3 q4 sU r3 hx DC q5 ?_⟩
       intro y b' hg;rw[gF]at dO;rw[h0,Hw]at hg;exact dO.bind (Q:=fun p t=>oU s.length pl (ar-1) [p] t) hg
      ·have wD:(0:Int)<i:=by omega
       obtain⟨_,w2,cA,b2,k2,r2,gx,rfl⟩:=(f226 (u:=u) (item:=item) [44] hl aj b).at (θ.cells [.κ p 0]::θ.cells (sC 1 gw [] cp (l.map ρ.av) z0.four)::ext) hp MU;have nR:=gx.sz (eP _ _);obtain⟨x,cV,dD,ext',b3,k3,eu,sU,r3,dO,hx,DC⟩:=place cA b2 r2 (by omega);refine μ.done .normal (fun st=>K st/\st.e 31= .n ar/\st.e 32= .n ((i:Int)+1)/\∃pW,st.mem= {ε:=Y cV dD (l++[x]) ext',η:=pW}/\∀i∈pW,i=p\/B.length<=i) (by
        simp only[Y]at k3 eu h7⊢
        simp[K,h1,h2,h4,h5,h7,h8,h9,aE,eZ,h0,mE,k2,k3,eu,g0,g1,gs,Mem.put,LZ,Dx,S_,eI x dD hx,nD,c7,de];intro j hj;split at hj
        ·exact mD j hj
        ·exact(cB.1 hj).elim (fun h=> .inr (by omega)) (mD j)) fun s' ⟨q1,q2,q3,pW,q4,q5⟩=> .inl ⟨rfl,ψ,done x cV dD ext' b3 pW s' q1 q2 q3 q4 sU r3 hx (by omega) q5 fun y b' hg=>pE y b' ?_⟩
       rw[show ar-i=(ar-(i+1))+1 by omega];exact gx.bind (Q:=fun _ t=>(pl t).bind fun p t=>oU s.length pl (ar-(i+1)) (l++[p]) t) (dO.bind (Q:=fun p t=>oU s.length pl (ar-(i+1)) (l++[p]) t) hg)
     ·have:i=ar:=by omega
      subst this;refine μ.done (.exit 1) (fun st=>K st/\st.mem= {ε:=Y ah cp l ext,η:=tt}) (by simp[K,h1,h2,h4,h5,h7,h8,h9,aE]) fun s' hh=> .inr ⟨by simp,.inl ⟨rfl,rfl,ah,cp,l,ext,tt,b,hh.1,hh.2,?_,jJ,mD,MU,?_⟩⟩
      ·have φ:l≠[]:=fun h=>by rw[h]at nN;simp at nN;omega
       refine⟨φ,?_⟩;rcases hH with⟨_,h⟩|⟨t,rfl,_,_⟩
       ·exact absurd (nq h) φ
       ·rfl
      ·rcases pE with⟨h,_⟩|⟨_,h⟩
       ·rw[h]at nN;simp at nN;omega
       ·refine h l b ?_;rw[Nat.sub_self];exact aH.pure l b
    ·refine .inr ⟨by rw[A7];simp,.inl ⟨A7,fin 1 gw [] cp l z0 ah ext tt item b r.2 ⟨q1,q2⟩ q6 q5 zn q4 n_ ?_⟩⟩;rw[q3];refine aH.as (P:=fun t=>(aF s.length word t).bind fun _ t=>(T1 t).map fun l=> .mk 1 gw [] .any l z0 z0 .nil [] .nil []) (iB.bind (q7.map fun l:List ρ=>δ.mk 1 gw [] .any l z0 z0 .nil [] .nil [])) fun st hs=>?_;have e3:=hw st hs;simp only[lD,<-e3,hgt,if_true,hgw,aaW,T1,R.bind_map];rfl
   have TI:iX word=0:=by omega
   have Dc:∀st,a= .r st->iX st.hd=0:=fun st hs=>by rw[<-hw st hs];exact TI
   rw[TI]at h9;have qb:=fun w t hb T=>Cg (u:=u) hl w [.cells [.κ p 0],.cells [.n 0,.n 0,.str [],.list .nil [],.n 0,.n 0,.str [],.list .nil [],.n 0,.n 0,.str [],.list .nil [],.list .nil [],.list .nil []]] hp h t hb T;have oF:∀w,a.aV w=true->∀st,a= .r st->st.hd=w:=fun w hb st hs=>by subst hs;exact beq_iff_eq.1 hb
   have tS:∀w,a.aV w=false->∀st,a= .r st->¬st.hd=w:=fun w hb st hs=>by subst hs;exact beq_eq_false_iff_ne.1 hb
   have qw:=(f226 (u:=u) (item:=item) word hl aj a).at [.cells [.κ p 0],.cells [.n 0,.n 0,.str [],.list .nil [],.n 0,.n 0,.str [],.list .nil [],.n 0,.n 0,.str [],.list .nil [],.list .nil [],.list .nil []]] hp h;obtain⟨_,w1,cL,a1,k1,r1,iB,rfl⟩:=qw;have s1:=iB.sz (eP _ _);cases b1:a.aV [116,97,107,101]with
   |true=>
    have oX:=qb _ _ b1
    obtain⟨_,x,cA,a2,k2,r2,gx,rfl,qz,Ba⟩:=(f295 (u:=u) (item:=item) (k:=n) hl aj a1 (by omega)).at [.cells [.κ p 0],.cells [.n 2,.n 0,.str [],.list .nil [],.n 0,.n 0,.str [],.list .nil [],.n 0,.n 0,.str [],.list .nil [],.list .nil [],.list .nil []]] hp r1;refine μ.done .normal (fun st=>K st/\st.mem= {ε:=B.set p (.cells cA)++(θ.cells [.κ p 0]::θ.cells (sC 2 0 x.1 .nil [] x.2.four)::[]),η:=[]}) (by simp[K,h1,h2,h4,h5,h7,h8,h9,oX,k1,k2,g0,g1,gs,Mem.put,Mem.ν,ν,bn,lo,aav,aau _ _ Ba,Ev]) fun s' hh=> .inr ⟨by simp,.inl ⟨rfl,fin 2 0 x.1 .nil [] x.2 cA [] [] item a2 s' hh r2 gz qz Us Ba ?_⟩⟩;refine aH.as (P:=fun t=>(aF s.length word t).bind fun _ t=>(uD s.length (aB s.length n) t).map fun x=> .mk 2 0 x.1 .nil [] x.2 z0 .nil [] .nil []) (iB.bind (gx.map fun x:List Nat×ζ=>δ.mk 2 0 x.1 .nil [] x.2 z0 .nil [] .nil [])) fun st hs=>?_;have e1:=oF _ b1 st hs;have e2:=Dc st hs;have e3:=hw st hs;rw[e1]at e2 e3;simp[lD,e1,e2,e3]
   |false=>
   have oX:=qb _ _ b1
   cases b2:a.aV [100,114,111,112]with
   |true=>
    have qO:=qb _ _ b2
    obtain⟨_,x,cA,a2,k2,r2,gx,rfl,hx⟩:=(f227 (u:=u) (item:=item) hl aj a1).at [.cells [.κ p 0],.cells [.n 0,.n 0,.str [],.list .nil [],.n 0,.n 0,.str [],.list .nil [],.n 0,.n 0,.str [],.list .nil [],.list .nil [],.list .nil []]] hp r1;refine μ.done .normal (fun st=>K st/\st.mem= {ε:=B.set p (.cells cA)++(θ.cells [.κ p 0]::θ.cells (sC 3 0 x .nil [] z0.four)::[]),η:=[]}) (by simp[K,h1,h2,h4,h5,h7,h8,h9,oX,qO,k1,k2,g0,g1,gs,Mem.put,Mem.ν,ν,bn,lo,Ev,Jk]) fun s' hh=> .inr ⟨by simp,.inl ⟨rfl,fin 3 0 x .nil [] z0 cA [] [] item a2 s' hh r2 gz hx Us n_ ?_⟩⟩;refine aH.as (P:=fun t=>(aF s.length word t).bind fun _ t=>(gS s.length t).map fun x=> .mk 3 0 x .nil [] z0 z0 .nil [] .nil []) (iB.bind (gx.map fun x:List Nat=>δ.mk 3 0 x .nil [] z0 z0 .nil [] .nil [])) fun st hs=>?_;have e1:=oF _ b2 st hs;have e2:=Dc st hs;have e3:=hw st hs;rw[e1]at e2 e3;simp[lD,e1,e2,e3]
   |false=>
   have qO:=qb _ _ b2
   cases b3:a.aV [109,101,97,115,117,114,101]with
   |true=>
    have uC:=qb _ _ b3
    obtain⟨_,x,cA,a2,k2,r2,gx,rfl,hx⟩:=(f309 (u:=u) (item:=item) (k:=n) hl aj a1 (by omega)).at [.cells [.κ p 0],.cells [.n 0,.n 0,.str [],.list .nil [],.n 0,.n 0,.str [],.list .nil [],.n 0,.n 0,.str [],.list .nil [],.list .nil [],.list .nil []]] hp r1;have s2:=gx.sz (FA _ (nB _ _));obtain⟨_,w3,cV,a3,k3,r3,dO,rfl⟩:=(f226 (u:=u) (item:=item) [58] hl aj a2).at [.cells [.κ p 0],.cells [.n 5,.n 0,.str [],.list .full [x.av],.n 0,.n 0,.str [],.list .nil [],.n 0,.n 0,.str [],.list .nil [],.list .nil [],.list .nil []]] hp r2;obtain⟨_,y,iI,a4,k4,r4,mS,rfl,hy⟩:=(f227 (u:=u) (item:=item) hl aj a3).at [.cells [.κ p 0],.cells [.n 5,.n 0,.str [],.list .full [x.av],.n 0,.n 0,.str [],.list .nil [],.n 0,.n 0,.str [],.list .nil [],.list .nil [],.list .nil []]] hp r3;refine μ.done .normal (fun st=>K st/\st.mem= {ε:=B.set p (.cells iI)++(θ.cells [.κ p 0]::θ.cells (sC 5 0 y .full [x.av] z0.four)::[]),η:=[]}) (by simp[K,h1,h2,h4,h5,h7,h8,h9,oX,qO,uC,k1,k2,k3,k4,g0,g1,gs,Mem.put,Mem.ν,ν,cG,ρ.tc,bn,lo,τ.lo,V' _ _ hx,Ev,Jk]) fun s' hh=> .inr ⟨by simp,.inl ⟨rfl,fin 5 0 y .full [x] z0 iI [] [] item a4 s' hh r4 gz hy (by simpa using hx) n_ ?_⟩⟩;refine aH.as (P:=fun t=>(aF s.length word t).bind fun _ t=>(jZ s.length (aB s.length n) t).bind fun p t=>(aF s.length [58] t).bind fun _ t=>(gS s.length t).map fun x=> .mk 5 0 x .any [p] z0 z0 .nil [] .nil []) (iB.bind (gx.bind (Q:=fun p t=>(aF s.length [58] t).bind fun _ t=>(gS s.length t).map fun x=>δ.mk 5 0 x .any [p] z0 z0 .nil [] .nil []) (dO.bind (mS.map fun y:List Nat=>δ.mk 5 0 y .any [x] z0 z0 .nil [] .nil [])))) fun st hs=>?_;have e1:=oF _ b3 st hs;have e2:=Dc st hs;have e3:=hw st hs;rw[e1]at e2 e3;simp[lD,e1,e2,e3]
   |false=>
   have uC:=qb _ _ b3
   cases b4:a.aV [114,101,115,101,116]with
   |true=>
    have xx:=qb _ _ b4
    obtain⟨_,x,cA,a2,k2,r2,gx,rfl,hx⟩:=(f309 (u:=u) (item:=item) (k:=n) hl aj a1 (by omega)).at [.cells [.κ p 0],.cells [.n 0,.n 0,.str [],.list .nil [],.n 0,.n 0,.str [],.list .nil [],.n 0,.n 0,.str [],.list .nil [],.list .nil [],.list .nil []]] hp r1;refine μ.done .normal (fun st=>K st/\st.mem= {ε:=B.set p (.cells cA)++(θ.cells [.κ p 0]::θ.cells (sC 6 0 [] .full [x.av] z0.four)::[]),η:=[]}) (by simp[K,h1,h2,h4,h5,h7,h8,h9,oX,qO,uC,xx,k1,k2,g0,g1,gs,Mem.put,Mem.ν,ν,cG,ρ.tc,bn,lo,τ.lo,V' _ _ hx,Ev,Jk]) fun s' hh=> .inr ⟨by simp,.inl ⟨rfl,fin 6 0 [] .full [x] z0 cA [] [] item a2 s' hh r2 gz zn (by simpa using hx) n_ ?_⟩⟩;refine aH.as (P:=fun t=>(aF s.length word t).bind fun _ t=>(jZ s.length (aB s.length n) t).map fun p=> .mk 6 0 [] .any [p] z0 z0 .nil [] .nil []) (iB.bind (gx.map fun p:ρ=>δ.mk 6 0 [] .any [p] z0 z0 .nil [] .nil [])) fun st hs=>?_;have e1:=oF _ b4 st hs;have e2:=Dc st hs;have e3:=hw st hs;rw[e1]at e2 e3;simp[lD,e1,e2,e3]
   |false=>
   have xx:=qb _ _ b4
   obtain⟨_,x,cA,a2,k2,r2,gx,rfl,hx⟩:=(f227 (u:=u) (item:=item) hl aj a).at [.cells [.κ p 0],.cells [.n 0,.n 0,.str [],.list .nil [],.n 0,.n 0,.str [],.list .nil [],.n 0,.n 0,.str [],.list .nil [],.list .nil [],.list .nil []]] hp h;have s2:=gx.sz (nC _);obtain⟨_,w3,cV,a3,k3,r3,dO,rfl⟩:=(f226 (u:=u) (item:=item) [40] hl aj a2).at [.cells [.κ p 0],.cells [.n 9,.n 0,.str x,.list .nil [],.n 0,.n 0,.str [],.list .nil [],.n 0,.n 0,.str [],.list .nil [],.list .nil [],.list .nil []]] hp r2;have s3:=dO.sz (eP _ _);obtain⟨B4,T4,l,iI,a4,k4,⟨c4,ya,rfl,yP,MG,Mv⟩,r4,mS,DG⟩:=f228 (u:=u) hl aj (I:=sI B p 9 0 x) (fn:= .fn (.func 310) [] [.κ (B.length+1) 0,.κ B.length 0]) (P:=jZ s.length (aB s.length n)) (k:=n) (N:=B.length) (M:=B.length+2) (p:=p) (FA _ (nB _ _)) rfl rfl
    (fun m hm=>by
     have q1:B.length+1<m:=by omega
     have q2:B.length<m:=by omega
     simp[exp,aX,Fn.below,q1,q2]) (fun l B' ⟨c,ext,h,_⟩=>by rw[h];simp[sT];omega) (f310 hl aj hp 9 0 x n) [] ⟨.nil,[],by simp;rfl,Row.nil,fun _=>rfl,by simp⟩ r3 (by omega)
   have e0:∀cs D,(B++D).set p (.cells cs)=B.set p (.cells cs)++D:=fun cs D=>ns _ _ hp;simp only[bQ,e0]at k4;have ec:c4.exp 0 false=Ξ l:=by
    by_cases h0:l=[]
    ·rw[MG h0,h0];rfl
    ·rcases yP with⟨_,hc⟩|⟨t,rfl,_,_⟩
     ·exact absurd (nq hc) h0
     ·cases l with
      |nil=>exact absurd rfl h0
      |cons a l=>rfl
   have HW:kf u 228 [.κ p 0,.str [41],.fn (.func 310) [] [.κ (B.length+1) 0,.κ B.length 0]] {ε:=B.set p (.cells cV)++[.cells [.κ p 0],.cells [.n 9,.n 0,.str x,.list .nil [],.n 0,.n 0,.str [],.list .nil [],.n 0,.n 0,.str [],.list .nil [],.list .nil [],.list .nil []]],η:=[]}=some (.aU [],{ε:=B.set p (.cells iI)++(θ.cells [.κ p 0]::θ.cells (sC 9 0 x c4 (l.map ρ.av) z0.four)::ya),η:=T4}):=k4;refine μ.done .normal (fun st=>K st/\st.mem= {ε:=B.set p (.cells iI)++(θ.cells [.κ p 0]::θ.cells (sC 9 0 x c4 (l.map ρ.av) z0.four)::ya),η:=T4}) (by simp[K,h1,h2,h4,h5,h7,h8,h9,oX,qO,uC,xx,k2,k3,HW,g0,g1,gs,Mem.put,Mem.ν,ν,bn,lo]) fun s' hh=> .inr ⟨by simp,.inl ⟨rfl,fin 9 0 x c4 l z0 iI ya T4 _ a4 s' hh r4 (fun i hi=>(DG i hi).elim (fun h=>by cases h) id) hx Mv n_ ?_⟩⟩;rw[ec];refine aH.as (P:=fun t=>(gS s.length t).bind fun x t=>(aF s.length [40] t).bind fun _ t=>(oS s.length (jZ s.length (aB s.length n)) t).map fun l=> .mk 9 0 x (Ξ l) l z0 z0 .nil [] .nil []) (gx.bind (Q:=fun x t=>(aF s.length [40] t).bind fun _ t=>(oS s.length (jZ s.length (aB s.length n)) t).map fun l=>δ.mk 9 0 x (Ξ l) l z0 z0 .nil [] .nil []) (dO.bind (mS.map fun l:List ρ=>δ.mk 9 0 x (Ξ l) l z0 z0 .nil [] .nil []))) fun st hs=>?_;simp[lD,Dc st hs,tS _ b1 st hs,tS _ b2 st hs,tS _ b3 st hs,tS _ b4 st hs]
  ·have g0:∀cs L (e:List θ),(B.set p (θ.cells cs)++θ.cells [.κ p 0]::θ.cells L::e)[B.length]?=some (.cells [.κ p 0]):=fun cs L e=>by simp
   have g1:∀cs L (e:List θ),(B.set p (θ.cells cs)++θ.cells [.κ p 0]::θ.cells L::e)[B.length+1]?=some (.cells L):=fun cs L e=>by simp
   obtain⟨_,w3,cV,a3,k3,r3,dO,rfl⟩:=(f226 (u:=u) (item:=HU) [59] hl aj b).at (θ.cells [.κ p 0]::θ.cells (sC k g nm cp (pl.map ρ.av) sz.four)::ext) hp m9;have hL:=aiE (k:=k) (g:=g) (nm:=nm) (cp:=cp) m12 m13;have mw:(sC k g nm cp (pl.map ρ.av) sz.four).length=14:=by rw[hL.len,δ.ll]
   have lu:(sC k g nm cp (pl.map ρ.av) sz.four).take 14=sC k g nm cp (pl.map ρ.av) sz.four:=fe (by omega);refine μ.done .ret (fun st=>st.mem= {ε:=B.set p (.cells cV)++(θ.cells [.κ p 0]::θ.cells (sC k g nm cp (pl.map ρ.av) sz.four)::ext),η:=tt}/\st.e 4= .ak 4 0 0/\st.q 4=some (0,.cells (sC k g nm cp (pl.map ρ.av) sz.four))) (by
    simp only[cy,bB]at m7
    simp[m2,m4,m5,m6,m7,m8,g0,g1,k3,mw,lu]) fun s' ⟨q1,q2,q3⟩=>⟨by simp,_,_,cV,_,tt,HU,a3,q1,m10,q2,q3,hL,⟨m11,?_,m12,m13,n_,.inl rfl,trivial,.inl rfl,trivial⟩,r3,m14.bind (dO.map fun _=>_)⟩
   cases cp<;>first|exact .inl rfl|exact .inr rfl
 obtain⟨r,e1,e2,x,L,ah,ext,tt,dU,b,e3,e4,e5,e6,e7,e8,e9,pt⟩:=dT;have hL:L.length=14:=by rw[e7.len,δ.ll]
 have lu:L.take 14=L:=fe (by omega);obtain⟨cA,rQ,T',wc,we,KE⟩:=It (u:=u) hc (f:=297) (g:=G1) (args:=[.str word]) (v:= .agg x.cells) rfl rfl rfl hp rfl e1 e2 (by rw[e3]) e9 (by rw[e3];exact e4) (l:=[.agg L]) (by simp[G1,e5,e6,hL,lu]) ((Dv.agg e7).aQ _ _ _) T;exact⟨_,x,cA,rQ,b,T',wc,we,pt,⟨rfl,e8⟩,KE⟩
end
end Go.Δ.Tz
namespace Go.Δ
mutual
def Sp.cells:Sp->List AV
 | .mk f t ins=>[.int .i64 f,.int .i64 t,.list (Ξ ins) (Sp.lists ins)]
def Sp.lists:List (List Sp)->List AV
 |[]=>[]
 |l::r=> .list (Ξ l) (Sp.χ l)::Sp.lists r
def Sp.χ:List Sp->List AV
 |[]=>[]
 |x::l=> .agg x.cells::Sp.χ l
end
theorem Cn{α:Type}(l:List α):(Ξ l).exp 0 false=Ξ l:=by cases l<;>rfl
mutual
theorem Sp.fx:∀x:Sp,bL x.cells x.cells
 | .mk f t ins=>by have:=Dv.list (Ξ ins) (Sp.CJ ins);rw[Cn]at this;simp only[Sp.cells];exact .cons (.int _ _) (.cons (.int _ _) (.cons this .nil))
theorem Sp.CJ:∀l:List (List Sp),bL (Sp.lists l) (Sp.lists l)
 |[]=> .nil
 |l::r=>by have:=Dv.list (Ξ l) (Sp.Aw l);rw[Cn]at this;simp only[Sp.lists];exact .cons this (Sp.CJ r)
theorem Sp.Aw:∀l:List Sp,bL (Sp.χ l) (Sp.χ l)
 |[]=> .nil
 |x::l=>by simp only[Sp.χ];exact .cons (.agg (Sp.fx x)) (Sp.Aw l)
end
theorem Sp.zd(l:List (List Sp)):Sp.lists l=l.map fun x=>AV.list (Ξ x) (Sp.χ x):=by
 induction l with
 |nil=>rfl
 |cons a l ih=>simp[Sp.lists,ih]
theorem Sp.dW(l:List Sp):Sp.χ l=l.map fun x=>AV.agg x.cells:=by
 induction l with
 |nil=>rfl
 |cons a l ih=>simp[Sp.χ,ih]
namespace Tz
open Go.Δ
variable{u:Nat}
attribute [local simp] exec ef dR e_ aJ dF fE eR br fM bR iL iS jm jE mo AV.cells newVar jA rd wr iu single dk cD ff eF μ cF RV.get cK fV kT
attribute [local simp] EA D8 Lb O0 Oh ζ.eY
theorem δ.fx(x:δ):x.Ok->bL x.cells x.cells:=by
 refine δ.jd (Q:=fun x=>x.Ok->bL x.cells x.cells) (fun k g nm cp pl size to cb body ce els h1 h2 h=>?_) x;obtain⟨q1,q2,q3,q4,q5,q6,q7,q8,q9⟩:=h;have hl:∀(c:τ) (l:List δ),bm c->(∀y∈l,y.Ok->bL y.cells y.cells)->δ.cm l->Dv (.list c (δ.χ l)) (.list c (δ.χ l)):=fun c l hc hy ho=>by have:=Dv.list c (bL.of δ.av l fun y hm=>Dv.agg (hy y hm (δ.gK ho y hm)));rw[fq hc]at this;rw[δ.dW];exact this
 have hp:=Dv.list cp (bL.of ρ.av pl fun y hy=>ρ.fx (q3 y hy));rw[fq q2]at hp;simp only[δ.cells];exact((bL.append (.cons (.int _ _) (.cons (.int _ _) (.cons (.str _) (.cons hp .nil)))) (oA q4)).append (oA q5)).append (.cons (hl _ _ q6 h1 q7) (.cons (hl _ _ q8 h2 q9) .nil))
theorem zH{l:List δ}(h:δ.cm l):bL (δ.χ l) (δ.χ l):=by rw[δ.dW];exact bL.of δ.av l fun y hm=>Dv.agg (δ.fx y (δ.gK h y hm))
theorem Vq(l:List (List Sp)):(Sp.lists l).all (shaped false 1)=true:=by rw[Sp.zd];simp[o8,shaped,AV.one,Function.comp]
theorem kE{α:Type}(l:List α):bm (Ξ l):=by cases l<;>simp[Ξ,bm]
def Eb:List δ×List Sp->AV->Prop:=fun x v=>v= .aU [.list (Ξ x.1) (δ.χ x.1),.list (Ξ x.2) (Sp.χ x.2)]/\δ.cm x.1
def hM(B:List θ)(p:Nat)(cs:List AV)(f:Int)(cp:τ)(ins:List (List Sp))(ext:List θ):List θ:=B.set p (.cells cs)++(θ.cells [.κ p 0]::θ.cells [.n f,.n 0,.list cp (Sp.lists ins)]::ext)
section
variable{s:List Nat}{all:List Tok}{c:τ}
theorem tG.at{α:Type}{f:FuncId}{args:List AV}{P:PS->R α}{E:α->AV->Prop}{a:RS}(h:tG u s all c f args P E a){B:List θ}(D:List θ){p:Nat}{cs:List AV}{item:AV}(hp:p<B.length)(hr:cE s all c item cs a)(T:List Nat):
  ∃v x ah dU b T',ab (C u) (.fn (.func f) [] []) (.κ p 0::args) (kK B p cs D T)=some (v,(kK B p ah D T'))/\cE s all c dU ah b/\aH P a x b/\E x v/\∀i∈T',i∈T\/i=p:=by
 obtain⟨v,x,ah,dU,b,T',h1,h2⟩:=h (B++D) p cs item T (by simp;omega) hr;simp only[ns _ _ hp]at h1;exact⟨v,x,ah,dU,b,T',h1,h2⟩
theorem f294{k:Nat}{P:PS->R (List δ×List Sp)}(hb:∀a:RS,a.sz<k->tG u s all c 231 [] P Eb a){B:List θ}{p:Nat}(hp:p<B.length)(f:Int)(cp:τ)(ins:List (List Sp))(ext:List θ)(T:List Nat){cs:List AV}{item:AV}{a:RS}
  (hr:Row (B.length+2) (hM B p cs f cp ins ext) 1 257 cp ins.length) (hlen:ins.length<100) (h:cE s all c item cs a) (ha:a.sz<k):
  ∃x dD ah dU ext' b T',ab (C u) (.fn (.func 294) [] [.κ B.length 0,.κ (B.length+1) 0]) [] {ε:=hM B p cs f cp ins ext,η:=T}=some (.list (Ξ x.1) (δ.χ x.1),{ε:=hM B p ah f dD (ins++[x.2]) ext',η:=T'})∧
   Row (B.length+2) (hM B p ah f dD (ins++[x.2]) ext') 1 257 dD (ins++[x.2]).length/\cE s all c dU ah b/\aH P a x b/\δ.cm x.1/\∀i∈T',i∈T\/i=p\/B.length<=i:=by
 obtain⟨_,x,cL,HU,b,T1,k1,r1,gv,⟨rfl,hx⟩,ht⟩:=(hb a ha).at (θ.cells [.κ p 0]::θ.cells [.n f,.n 0,.list cp (Sp.lists ins)]::ext) hp h [];have hY:∀cs cp ins ext,hM B p cs f cp ins ext=(B.set p (.cells cs)++[θ.cells [.κ p 0],θ.cells [.n f,.n 0,.list cp (Sp.lists ins)]])++ext:=fun cs cp ins ext=>by simp[hM]
 have jv:Row (B.set p (.cells cL)++[θ.cells [.κ p 0],θ.cells [.n f,.n 0,.list cp (Sp.lists ins)]]).length ((B.set p (.cells cL)++[θ.cells [.κ p 0],θ.cells [.n f,.n 0,.list cp (Sp.lists ins)]])++ext) 1 257 cp (Sp.lists ins).length:=by rw[hY]at hr;have:=Row.swap hr (P':=B.set p (.cells cL)++[θ.cells [.κ p 0],θ.cells [.n f,.n 0,.list cp (Sp.lists ins)]]) (by simp) (by simp);rw[Sp.zd,cz,<-Sp.zd];simpa using this
 have Uk:ν (.list (Ξ x.2) (Sp.χ x.2))= .list (Ξ x.2) (Sp.χ x.2):=(Dv.list (Ξ x.2) (Sp.Aw x.2)).ν;have wR:(Sp.lists ins).length=ins.length:=by rw[Sp.zd,cz]
 obtain⟨dD,ext',eu,sU,-⟩:=vI (bytes:=24) jv (Vq ins) (show shaped false 1 (.list (Ξ x.2) (Sp.χ x.2))=true by rfl) Uk (by omega) (by rw[wR];omega) (by rw[wR];omega);have lC:Sp.lists (ins++[x.2])=Sp.lists ins++[.list (Ξ x.2) (Sp.χ x.2)]:=by simp[Sp.zd]
 have CX:∀T,iq {ε:=hM B p cL f cp ins ext,η:=T} false 1 24 257 (.list cp (Sp.lists ins)) (.list .full [.list (Ξ x.2) (Sp.χ x.2)])=some (.list dD (Sp.lists ins++[.list (Ξ x.2) (Sp.χ x.2)]),{ε:=hM B p cL f cp ins ext',η:=T}):=fun T=>by rw[hY,hY];exact eu T
 have g0:∀cs cp ins ext,(hM B p cs f cp ins ext)[B.length]?=some (.cells [.κ p 0]):=fun cs cp ins ext=>by simp[hM]
 have g1:∀cs cp ins ext,(hM B p cs f cp ins ext)[B.length+1]?=some (.cells [.n f,.n 0,.list cp (Sp.lists ins)]):=fun cs cp ins ext=>by simp[hM]
 have gs:∀cs cp ins ext dD No,(hM B p cs f cp ins ext).set (B.length+1) (.cells [.n f,.n 0,.list dD (Sp.lists No)])=hM B p cs f dD No ext:=fun cs cp ins ext dD No=>by simp[hM]
 have DU:kf u 231 [.κ p 0] {ε:=hM B p cs f cp ins ext,η:=[]}=some (.aU [.list (Ξ x.1) (δ.χ x.1),.list (Ξ x.2) (Sp.χ x.2)],{ε:=hM B p cL f cp ins ext,η:=T1}):=k1;have dX:shaped false 1 (.list (Ξ x.2) (Sp.χ x.2))=true:=rfl;have Dn:∀m:Mem,m.ν (.list (Ξ x.2) (Sp.χ x.2))= .list (Ξ x.2) (Sp.χ x.2):=fun _=>Uk;have hnL:∀m:Mem,m.ν (.list dD (Sp.lists (ins++[x.2])))= .list dD (Sp.lists (ins++[x.2])):=fun _=>(Dv.list dD (Sp.CJ (ins++[x.2]))).ν;rw[<-lC]at CX;have dT:μ (C u).gl (ab (C u)) J5 {env:=[.κ B.length 0,.κ (B.length+1) 0],loc:=[],mem:= {ε:=hM B p cs f cp ins ext,η:=[]}} fun r=>r.1= .ret/\br r.2.env 2= .list (Ξ x.1) (δ.χ x.1)/\∃tt,r.2.mem= {ε:=hM B p cL f dD (ins++[x.2]) ext',η:=tt}/\∀i∈tt,i=p\/B.length<=i:=by
  have vq:∀i∈T1,i=p\/B.length<=i:=fun i hi=>(ht i hi).elim (fun h=>by cases h) .inl;simp[J5,g0,g1,DU,dX,Dn,CX,hnL,gs,Mem.put];intro j hj;split at hj
  ·exact vq j hj
  ·exact(cB.1 hj).elim (fun h=> .inr (by omega)) (vq j)
 obtain⟨⟨ex,s'⟩,e1,e2,e3,tt,e4,e5⟩:=dT;dsimp only at e2 e3 e4;subst e2;have eG:([]++[AV.κ B.length 0,.κ (B.length+1) 0]).map (exp (hM B p cs f cp ins ext).length true)=[AV.κ B.length 0,.κ (B.length+1) 0]:=by
  have q1:B.length<(hM B p cs f cp ins ext).length:=by simp[hM]
  have q2:B.length+1<(hM B p cs f cp ins ext).length:=by simp[hM]
  simp[exp,q1,q2]
 have dw:=sv (C:=C u) (f:=294) (g:=GY) (args:=[]) (cap:=[.κ B.length 0,.κ (B.length+1) 0]) (m:= {ε:=hM B p cs f cp ins ext,η:=T}) (l:=[.list (Ξ x.1) (δ.χ x.1)]) rfl rfl rfl (by rw[eG];exact e1) (by simp) (by simp[GY,e3]);refine⟨x,dD,cL,HU,ext',b,T++tt,?_,?_,r1,gv,hx,fun i hi=>(dQ.1 hi).imp id (e5 i)⟩
 ·refine dw.trans ?_;rw[e4];have:∀n,exp n true (.list (Ξ x.1) (δ.χ x.1))= .list (Ξ x.1) (δ.χ x.1):=fun n=>by
   have h1:aX n true (δ.χ x.1)=δ.χ x.1:=by rw[δ.dW,ft,cT];exact dh fun y hy=>by simp only[Function.comp,δ.av,exp];rw[δ.RQ _ _ y (δ.gK hx y hy)]
   simp only[exp,h1];cases x.1<;>rfl
  simp only[cK,this]
 ·have:=Row.swap sU (P':=B.set p (.cells cL)++[θ.cells [.κ p 0],θ.cells [.n f,.n 0,.list dD (Sp.lists (ins++[x.2]))]]) (by simp) (by simp);rw[hY,List.length_append,<-wR];simpa using this
variable(hl:all.length<1000000000)(aj:∀t∈all,t.Ok)(hc:bm c)
def XD:δ×Sp->AV->Prop:=fun x v=>v= .aU [.agg x.1.cells,.agg x.2.cells]/\x.1.Ok
def Pq(s:List Nat)(all:List Tok)(c:τ)(B:List θ)(p:Nat)(f:Int)(P:PS->R (δ×List (List Sp)))(a:RS)(st:St):Prop:=
 ∃x cs cp ins ext tt item b,st.q 4=some (0,.cells x.cells)/\x.Ok/\st.mem= {ε:=hM B p cs f cp ins ext,η:=tt}/\(cp.exp 0 false=Ξ ins)/\(∀i∈tt,i=p\/B.length<=i)/\cE s all c item cs b/\aH P a (x,ins) b
include hl aj hc
theorem f271{n k:Nat}(hb:∀a:RS,a.sz<k->tG u s all c 231 [] (eh s.length (aB s.length n) k) Eb a)(a:RS)(ha:a.sz<n)(hak:a.sz<k+1):tG u s all c 271 [] (uE s.length (iE s.length (aB s.length n) (eh s.length (aB s.length n) k))) XD a:=by
 intro B p cs item T hp h;obtain⟨tk,OI,qo⟩:∃tk:Tok,(∀D T,kf u 291 [.κ p 0] (kK B p cs D T)=some (tk.bp,(kK B p cs D T)))/\∀st,a= .r st->tk.text=st.hd/\tk.kind=st.kd/\tk.at_=st.at_ s.length:=by obtain⟨k0,wr,rfl,hk,hh⟩:=h;refine⟨qF s all k0,fun D T=>?_,fun st ha=>by subst ha;exact NS hh.2.1⟩;have:=f291 (u:=u) (s:=s) (c:=c) (item:=item) (B++D) p (by simp;omega) k0 wr T hl;simpa only[ns _ _ hp]using this
 simp only[Tok.bp]at OI;generalize Ω:iE s.length (aB s.length n) (eh s.length (aB s.length n) k)=P;have abc:eW P:=by rw[<-Ω];exact KN _ (nB _ _) (An _ (nB _ _) _)
 have dT:μ (C u).gl (ab (C u)) QK {env:=[.κ p 0],loc:=[],mem:= {ε:=B.set p (.cells cs),η:=[]}} fun r=>(∀i,r.1≠ .exit i)/\∃x ah cp ins ext tt item b to,r.2.mem.ε=B.set p (.cells ah)++ext/\(∀i∈r.2.mem.η,i=p\/B.length<=i)∧
   br r.2.env 2= .ak 2 0 0/\bR r.2.loc 2=some (0,.cells x.cells)/\br r.2.env 3= .ak 3 0 0/\bR r.2.loc 3=some (0,.cells [.n tk.at_,.n (to:Nat),.list cp (Sp.lists ins)])/\cp.exp 0 false=Ξ ins/\x.Ok/\cE s all c item ah b/\aH P a (x,ins) b/\(∀t,b= .r t->to=t.last)/\tt=r.2.mem.η:=by
  let K:St->Prop:=fun st=>st.e 1= .κ B.length 0/\st.e 2= .ak 2 0 0/\(∃z,st.q 2=some (0,.cells z)/\z.length=14)/\st.e 3= .ak 3 0 0/\(∃z,st.q 3=some (0,.cells z)/\z.length=3);refine Ψ (fun st=>K st/\st.q 4=none/\st.mem= {ε:=B.set p (.cells cs)++[.cells [.κ p 0]],η:=[]}) (by simp[K,bJ,Mem.push,Mem.ν,ν]) fun s1 ⟨⟨h1,h2,⟨z2,h3,fN⟩,h4,⟨z3,h5,gZ⟩⟩,h6,h7⟩=>?_;let K2:St->Prop:=fun st=>K st/\st.e 4= .ak 4 0 0;refine Ψ (fun st=>K2 st/\st.q 4=some (0,.cells [.n 0,.n 0,.str [],.list .nil [],.n 0,.n 0,.str [],.list .nil [],.n 0,.n 0,.str [],.list .nil [],.list .nil [],.list .nil []])/\st.mem= {ε:=B.set p (.cells cs)++[.cells [.κ p 0]],η:=[]}) (by simp[K2,K,bJ,h1,h2,h3,fN,h4,h5,gZ,h6,h7]) fun s1 ⟨⟨⟨h1,h2,⟨z2,h3,fN⟩,h4,⟨z3,h5,gZ⟩⟩,h8⟩,h6,h7⟩=>?_;let K3:St->Prop:=fun st=>K2 st/\st.e 5= .κ (B.length+1) 0;refine Ψ (fun st=>K3 st/\st.q 4=some (0,.cells [.n 0,.n 0,.str [],.list .nil [],.n 0,.n 0,.str [],.list .nil [],.n 0,.n 0,.str [],.list .nil [],.list .nil [],.list .nil []])/\st.mem= {ε:=hM B p cs tk.at_ .nil [] [],η:=[]}) (by simp[K3,K2,K,bJ,h1,h2,h3,fN,h4,h5,gZ,h6,h7,h8,OI,dG,Mem.push,Mem.put,Mem.ν,ν,cG,bn,lo,τ.lo,hM,Sp.lists]) fun s1 ⟨⟨⟨⟨h1,h2,⟨z2,h3,fN⟩,h4,⟨z3,h5,gZ⟩⟩,h8⟩,h9⟩,h6,h7⟩=>?_;let K4:St->Prop:=fun st=>K3 st/\st.e 6= .fn (.func 294) [] [.κ B.length 0,.κ (B.length+1) 0];refine Ψ (fun st=>K4 st/\st.q 4=some (0,.cells [.n 0,.n 0,.str [],.list .nil [],.n 0,.n 0,.str [],.list .nil [],.n 0,.n 0,.str [],.list .nil [],.list .nil [],.list .nil []])/\st.mem= {ε:=hM B p cs tk.at_ .nil [] [],η:=[]}) (by simp[K4,K3,K2,K,h1,h2,h3,fN,h4,h5,gZ,h6,h7,h8,h9]) fun s1 ⟨⟨⟨⟨⟨h1,h2,⟨z2,h3,fN⟩,h4,⟨z3,h5,gZ⟩⟩,h8⟩,h9⟩,aE⟩,h6,h7⟩=>?_;have g0:∀cs L (e:List θ),(B.set p (θ.cells cs)++θ.cells [.κ p 0]::θ.cells L::e)[B.length]?=some (.cells [.κ p 0]):=fun cs L e=>by simp
  refine bS (fun st=>K4 st/\Pq s all c B p tk.at_ P a st) ?_ fun s2 ⟨⟨⟨⟨⟨h1,h2,⟨z2,h3,fN⟩,h4,⟨z3,h5,gZ⟩⟩,h8⟩,h9⟩,aE⟩,x,ah,cp,ins,ext,tt,dU,b,m1,m2,m3,m4,m5,m6,m7⟩=>?_
  ·refine Ψ (fun st=>(K4 st/\st.q 4=some (0,.cells [.n 0,.n 0,.str [],.list .nil [],.n 0,.n 0,.str [],.list .nil [],.n 0,.n 0,.str [],.list .nil [],.list .nil [],.list .nil []])/\st.mem= {ε:=B.set p (.cells cs)++(θ.cells [.κ p 0]::θ.cells [.n tk.at_,.n 0,.list .nil (Sp.lists [])]::[]),η:=[]})/\st.e 7= .str tk.text) (by
    simp only[hM]at h7
    simp[K4,K3,K2,K,h1,h2,h3,fN,h4,h5,gZ,h6,h7,h8,h9,aE,OI,g0]) fun s1 ⟨⟨⟨⟨⟨⟨h1,h2,⟨z2,h3,fN⟩,h4,⟨z3,h5,gZ⟩⟩,h8⟩,h9⟩,aE⟩,h6,h7⟩,cH⟩=>?_
   refine μ.block ?_;have fin:∀(x:δ) (ah:List AV) (cp:τ) (ins:List (List Sp)) (ext:List θ) (tt:List Nat) (dU:AV) (b:RS) (st:St),(K4 st/\st.q 4=some (0,.cells x.cells)/\st.mem= {ε:=B.set p (.cells ah)++(θ.cells [.κ p 0]::θ.cells [.n tk.at_,.n 0,.list cp (Sp.lists ins)]::ext),η:=tt})->x.Ok->cp.exp 0 false=Ξ ins->(∀i∈tt,i=p\/B.length<=i)->cE s all c dU ah b->aH P a (x,ins) b->K4 st/\Pq s all c B p tk.at_ P a st:=
    fun x ah cp ins ext tt dU b st ⟨q1,q2,q3⟩ q4 q5 q6 q7 q8=>⟨q1,x,ah,cp,ins,ext,tt,dU,b,q2,q4,q3,q5,q6,q7,q8⟩
   have oF:∀w,a.aV w=true->∀st,a= .r st->st.hd=w:=fun w hb st hs=>by subst hs;exact beq_iff_eq.1 hb
   have tS:∀w,a.aV w=false->∀st,a= .r st->¬st.hd=w:=fun w hb st hs=>by subst hs;exact beq_eq_false_iff_ne.1 hb
   have qb:=fun w t hb T=>Cg (u:=u) hl w (θ.cells [.κ p 0]::θ.cells [.n tk.at_,.n 0,.list .nil (Sp.lists [])]::[]) hp h t hb T;have dN:∀(cp:τ) (ins:List (List Sp)) (X:List θ),ins≠[]->Row (B.length+2) X 1 257 cp ins.length->cp.exp 0 false=Ξ ins:=fun cp ins X φ hr=>by
    rcases hr with⟨_,h⟩|⟨t,rfl,_,_⟩
    ·exact absurd (nq h) φ
    ·cases ins with
     |nil=>exact absurd rfl φ
     |cons a l=>rfl
   have CU:∀cs,Row (B.length+2) (hM B p cs tk.at_ .nil [] []) 1 257 .nil ([]:List (List Sp)).length:=fun cs=>Row.nil;have wF:∀T1:List Nat,(∀i∈T1,i∈([]:List Nat)\/i=p\/B.length<=i)->∀i∈T1,i=p\/B.length<=i:=fun T1 h i hi=>(h i hi).elim (fun h=>by cases h) id;obtain⟨_,w1,cL,a1,k1,r1,iB,rfl⟩:=(f226 (u:=u) (item:=item) tk.text hl aj a).at (θ.cells [.κ p 0]::θ.cells [.n tk.at_,.n 0,.list .nil (Sp.lists [])]::[]) hp h;have IY:=iB.sz (eP _ _);have uo:bm .nil:= .inl rfl;have hH:∀(cs ah:List AV) (cp:τ) (ins:List (List Sp)) (ext:List θ),Row (B.length+2) (hM B p cs tk.at_ cp ins ext) 1 257 cp ins.length->Row (B.length+2) (hM B p ah tk.at_ cp ins ext) 1 257 cp ins.length:=fun cs ah cp ins ext h=>by
    have e:∀cs,hM B p cs tk.at_ cp ins ext=(B.set p (.cells cs)++[θ.cells [.κ p 0],θ.cells [.n tk.at_,.n 0,.list cp (Sp.lists ins)]])++ext:=fun cs=>by simp[hM]
    rw[e]at h⊢;exact Row.swap h (by simp) (by simp)
   cases b1:a.aV [98,111,114,114,111,119]with
   |true=>
    have oX:=qb _ _ b1
    have s1:=iB.take (tK b1 (by simp));obtain⟨_,⟨nm,ik,Bd,is,ic,il⟩,cA,a2,k2,r2,gx,rfl,jV,hx⟩:=(f295 (u:=u) (item:=item) (k:=n) hl aj a1 (by omega)).at (θ.cells [.κ p 0]::θ.cells [.n tk.at_,.n 0,.list .nil (Sp.lists [])]::[]) hp r1;have s2:=gx.sz (KR _ (nB _ _));obtain⟨⟨bl,bi⟩,nz,cV,DT,pA,a3,T3,k3,wU,r3,dO,ek,pL⟩:=f294 (u:=u) hb hp tk.at_ .nil [] [] [] (CU cA) (by simp) r2 (by omega);simp only[hM,ζ.four,bB]at k2 k3;refine μ.done .normal (fun st=>K4 st/\st.q 4=some (0,.cells (δ.mk 4 0 nm .nil [] (.mk ik Bd is ic il) z0 (Ξ bl) bl .nil []).cells)/\st.mem= {ε:=B.set p (.cells cV)++(θ.cells [.κ p 0]::θ.cells [.n tk.at_,.n 0,.list nz (Sp.lists [bi])]::pA),η:=T3}) (by simp[K4,K3,K2,K,h1,h2,h3,fN,h4,h5,gZ,h6,h7,h8,h9,aE,cH,g0,oX,k1,k2,k3,δ.cells,ζ.four,z0,ζ.χ,δ.χ]) fun s' hh=> .inr ⟨by simp,.inl ⟨rfl,fin _ _ _ _ _ _ _ _ s' hh ⟨jV,uo,by simp,hx,n_,kE _,ek,uo,trivial⟩ (dN _ _ _ (by simp) wU) (wF _ pL) r3 ?_⟩⟩;rw[<-Ω];refine aH.as (P:=fun t=>(aF s.length tk.text t).bind fun _ t=>(uD s.length (aB s.length n) t).bind fun x t=>(eh s.length (aB s.length n) k t).map fun b=>(δ.mk 4 0 x.1 .nil [] x.2 z0 (Ξ b.1) b.1 .nil [],[b.2])) (iB.bind (gx.bind (Q:=fun x t=>(eh s.length (aB s.length n) k t).map fun b=>(δ.mk 4 0 x.1 .nil [] x.2 z0 (Ξ b.1) b.1 .nil [],[b.2])) (dO.map fun b=>(δ.mk 4 0 nm .nil [] (.mk ik Bd is ic il) z0 (Ξ b.1) b.1 .nil [],[b.2])))) fun st hs=>?_;have e1:=oF _ b1 st hs;have e3:=(qo st hs).1;rw[e1]at e3;simp[iE,e1,e3]
   |false=>
   have oX:=qb _ _ b1
   cases b2:a.aV [105,102]with
   |true=>
    have qO:=qb _ _ b2
    have s1:=iB.take (tK b2 (by simp));obtain⟨_,nm,cA,a2,k2,r2,gx,rfl,jV⟩:=(f227 (u:=u) (item:=item) hl aj a1).at (θ.cells [.κ p 0]::θ.cells [.n tk.at_,.n 0,.list .nil (Sp.lists [])]::[]) hp r1;have s2:=gx.sz (nC _);obtain⟨⟨nx,lO⟩,nz,cV,DT,pA,a3,T3,k3,wU,r3,dO,yr,pL⟩:=f294 (u:=u) hb hp tk.at_ .nil [] [] [] (CU cA) (by simp) r2 (by omega);have s3:=dO.sz (An _ (nB _ _) _);simp only[hM,bB]at k3;cases b3:a3.aV [101,108,115,101]with
    |true=>
     have qe:=fun T=>Cg (u:=u) hl [101,108,115,101] (θ.cells [.κ p 0]::θ.cells [.n tk.at_,.n 0,.list nz (Sp.lists [lO])]::pA) hp r3 _ b3 T
     obtain⟨_,w4,iI,a4,k4,r4,mS,rfl⟩:=(f226 (u:=u) (item:=DT) [101,108,115,101] hl aj a3).at (θ.cells [.κ p 0]::θ.cells [.n tk.at_,.n 0,.list nz (Sp.lists [lO])]::pA) hp r3;have s4:=mS.sz (eP _ _);have yP:Row (B.length+2) (hM B p iI tk.at_ nz [lO] pA) 1 257 nz [lO].length:=hH _ _ _ _ _ wU;obtain⟨⟨Ch,JP⟩,Ks,uW,UO,KX,a5,T5,k5,MT,r5,wC,C1,DH⟩:=f294 (u:=u) hb hp tk.at_ nz [lO] pA T3 yP (by simp) r4 (by omega);simp only[hM,cy,bB]at k5;refine μ.done .normal (fun st=>K4 st/\st.q 4=some (0,.cells (δ.mk 7 0 nm .nil [] z0 z0 (Ξ nx) nx (Ξ Ch) Ch).cells)/\st.mem= {ε:=B.set p (.cells uW)++(θ.cells [.κ p 0]::θ.cells [.n tk.at_,.n 0,.list Ks (Sp.lists [lO,JP])]::KX),η:=T5}) (by simp[K4,K3,K2,K,h1,h2,h3,fN,h4,h5,gZ,h6,h7,h8,h9,aE,cH,g0,oX,qO,k1,k2,k3,qe,k4,k5,δ.cells,ζ.four,z0,ζ.χ,δ.χ]) fun s' hh=> .inr ⟨by simp,.inl ⟨rfl,fin _ _ _ _ _ _ _ _ s' hh ⟨jV,uo,by simp,n_,n_,kE _,yr,kE _,C1⟩ (dN _ _ _ (by simp) MT) (fun i hi=>(DH i hi).elim (wF _ pL i) id) r5 ?_⟩⟩;rw[<-Ω];refine aH.as (P:=fun t=>(aF s.length tk.text t).bind fun _ t=>(gS s.length t).bind (fun nn t=>(eh s.length (aB s.length n) k t).bind (fun b t=>if t.aV [101,108,115,101]then(aF s.length [101,108,115,101] t).bind fun _ t=>(eh s.length (aB s.length n) k t).map fun d=>(δ.mk 7 0 nn .nil [] z0 z0 (Ξ b.1) b.1 (Ξ d.1) d.1,[b.2,d.2])else .ok (δ.mk 7 0 nn .nil [] z0 z0 (Ξ b.1) b.1 .nil [],[b.2]) t))) (iB.bind (Q:=fun _ t=>(gS s.length t).bind (fun nn t=>(eh s.length (aB s.length n) k t).bind (fun b t=>if t.aV [101,108,115,101]then(aF s.length [101,108,115,101] t).bind fun _ t=>(eh s.length (aB s.length n) k t).map fun d=>(δ.mk 7 0 nn .nil [] z0 z0 (Ξ b.1) b.1 (Ξ d.1) d.1,[b.2,d.2])else .ok (δ.mk 7 0 nn .nil [] z0 z0 (Ξ b.1) b.1 .nil [],[b.2]) t))) (gx.bind (Q:=fun nn t=>(eh s.length (aB s.length n) k t).bind (fun b t=>if t.aV [101,108,115,101]then(aF s.length [101,108,115,101] t).bind fun _ t=>(eh s.length (aB s.length n) k t).map fun d=>(δ.mk 7 0 nn .nil [] z0 z0 (Ξ b.1) b.1 (Ξ d.1) d.1,[b.2,d.2])else .ok (δ.mk 7 0 nn .nil [] z0 z0 (Ξ b.1) b.1 .nil [],[b.2]) t)) (dO.bind (Q:=fun b t=>if t.aV [101,108,115,101]then(aF s.length [101,108,115,101] t).bind fun _ t=>(eh s.length (aB s.length n) k t).map fun d=>(δ.mk 7 0 nm .nil [] z0 z0 (Ξ b.1) b.1 (Ξ d.1) d.1,[b.2,d.2])else .ok (δ.mk 7 0 nm .nil [] z0 z0 (Ξ b.1) b.1 .nil [],[b.2]) t) (aH.as (P:=fun t=>(aF s.length [101,108,115,101] t).bind fun _ t=>(eh s.length (aB s.length n) k t).map fun d=>(δ.mk 7 0 nm .nil [] z0 z0 (Ξ nx) nx (Ξ d.1) d.1,[lO,d.2])) (mS.bind (wC.map fun d=>(δ.mk 7 0 nm .nil [] z0 z0 (Ξ nx) nx (Ξ d.1) d.1,[lO,d.2]))) fun st hs=>by subst hs;exact if_pos b3)))) fun st hs=>?_;have e1:=oF _ b2 st hs;have e3:=(qo st hs).1;rw[e1]at e3;simp[iE,e1,e3]
    |false=>
     have qe:=fun T=>Cg (u:=u) hl [101,108,115,101] (θ.cells [.κ p 0]::θ.cells [.n tk.at_,.n 0,.list nz (Sp.lists [lO])]::pA) hp r3 _ b3 T
     refine μ.done .normal (fun st=>K4 st/\st.q 4=some (0,.cells (δ.mk 7 0 nm .nil [] z0 z0 (Ξ nx) nx .nil []).cells)/\st.mem= {ε:=B.set p (.cells cV)++(θ.cells [.κ p 0]::θ.cells [.n tk.at_,.n 0,.list nz (Sp.lists [lO])]::pA),η:=T3}) (by simp[K4,K3,K2,K,h1,h2,h3,fN,h4,h5,gZ,h6,h7,h8,h9,aE,cH,g0,oX,qO,k1,k2,k3,qe,δ.cells,ζ.four,z0,ζ.χ,δ.χ]) fun s' hh=> .inr ⟨by simp,.inl ⟨rfl,fin _ _ _ _ _ _ _ _ s' hh ⟨jV,uo,by simp,n_,n_,kE _,yr,uo,trivial⟩ (dN _ _ _ (by simp) wU) (wF _ pL) r3 ?_⟩⟩;rw[<-Ω];refine aH.as (P:=fun t=>(aF s.length tk.text t).bind fun _ t=>(gS s.length t).bind (fun nn t=>(eh s.length (aB s.length n) k t).bind (fun b t=>if t.aV [101,108,115,101]then(aF s.length [101,108,115,101] t).bind fun _ t=>(eh s.length (aB s.length n) k t).map fun d=>(δ.mk 7 0 nn .nil [] z0 z0 (Ξ b.1) b.1 (Ξ d.1) d.1,[b.2,d.2])else .ok (δ.mk 7 0 nn .nil [] z0 z0 (Ξ b.1) b.1 .nil [],[b.2]) t))) (iB.bind (Q:=fun _ t=>(gS s.length t).bind (fun nn t=>(eh s.length (aB s.length n) k t).bind (fun b t=>if t.aV [101,108,115,101]then(aF s.length [101,108,115,101] t).bind fun _ t=>(eh s.length (aB s.length n) k t).map fun d=>(δ.mk 7 0 nn .nil [] z0 z0 (Ξ b.1) b.1 (Ξ d.1) d.1,[b.2,d.2])else .ok (δ.mk 7 0 nn .nil [] z0 z0 (Ξ b.1) b.1 .nil [],[b.2]) t))) (gx.bind (Q:=fun nn t=>(eh s.length (aB s.length n) k t).bind (fun b t=>if t.aV [101,108,115,101]then(aF s.length [101,108,115,101] t).bind fun _ t=>(eh s.length (aB s.length n) k t).map fun d=>(δ.mk 7 0 nn .nil [] z0 z0 (Ξ b.1) b.1 (Ξ d.1) d.1,[b.2,d.2])else .ok (δ.mk 7 0 nn .nil [] z0 z0 (Ξ b.1) b.1 .nil [],[b.2]) t)) (dO.bind (Q:=fun b t=>if t.aV [101,108,115,101]then(aF s.length [101,108,115,101] t).bind fun _ t=>(eh s.length (aB s.length n) k t).map fun d=>(δ.mk 7 0 nm .nil [] z0 z0 (Ξ b.1) b.1 (Ξ d.1) d.1,[b.2,d.2])else .ok (δ.mk 7 0 nm .nil [] z0 z0 (Ξ b.1) b.1 .nil [],[b.2]) t) (aH.as (aH.pure _ _) fun st hs=>by subst hs;exact if_neg (by rw[show PS.aV st [101,108,115,101]=false from b3];simp))))) fun st hs=>?_;have e1:=oF _ b2 st hs;have e3:=(qo st hs).1;rw[e1]at e3;simp[iE,e1,e3]
   |false=>
   have qO:=qb _ _ b2
   cases b3:a.aV [102,111,114]with
   |true=>
    have uC:=qb _ _ b3
    have s1:=iB.take (tK b3 (by simp));obtain⟨_,nm,cA,a2,k2,r2,gx,rfl,jV⟩:=(f227 (u:=u) (item:=item) hl aj a1).at (θ.cells [.κ p 0]::θ.cells [.n tk.at_,.n 0,.list .nil (Sp.lists [])]::[]) hp r1;have s2:=gx.sz (nC _);obtain⟨_,w3,cV,a3,k3,r3,dO,rfl⟩:=(f226 (u:=u) (item:=item) [61] hl aj a2).at (θ.cells [.κ p 0]::θ.cells [.n tk.at_,.n 0,.list .nil (Sp.lists [])]::[]) hp r2;have s3:=dO.sz (eP _ _);obtain⟨_,⟨ik,Bd,is,ic,il⟩,iI,a4,k4,r4,mS,rfl,hx⟩:=(Bc (u:=u) (item:=item) hl aj n a3 (by omega)).at (θ.cells [.κ p 0]::θ.cells [.n tk.at_,.n 0,.list .nil (Sp.lists [])]::[]) hp r3;have s4:=mS.sz (nB _ _);obtain⟨_,w5,uW,a5,k5,r5,wC,rfl⟩:=(f226 (u:=u) (item:=item) [58] hl aj a4).at (θ.cells [.κ p 0]::θ.cells [.n tk.at_,.n 0,.list .nil (Sp.lists [])]::[]) hp r4;have s5:=wC.sz (eP _ _);obtain⟨_,⟨jk,jn,js,jc,jl⟩,Cu,a6,k6,r6,SO,rfl,hy⟩:=(Bc (u:=u) (item:=item) hl aj n a5 (by omega)).at (θ.cells [.κ p 0]::θ.cells [.n tk.at_,.n 0,.list .nil (Sp.lists [])]::[]) hp r5;have s6:=SO.sz (nB _ _);obtain⟨⟨PV,Yk⟩,ZA,ZC,ake,aag,a7,T7,k7,hr7,r7,gv7,aaZ,ht7⟩:=f294 (u:=u) hb hp tk.at_ .nil [] [] [] (CU Cu) (by simp) r6 (by omega);simp only[hM,ζ.four,bB]at k4 k6 k7;refine μ.done .normal (fun st=>K4 st/\st.q 4=some (0,.cells (δ.mk 8 0 nm .nil [] (.mk ik Bd is ic il) (.mk jk jn js jc jl) (Ξ PV) PV .nil []).cells)/\st.mem= {ε:=B.set p (.cells ZC)++(θ.cells [.κ p 0]::θ.cells [.n tk.at_,.n 0,.list ZA (Sp.lists [Yk])]::aag),η:=T7}) (by simp[K4,K3,K2,K,h1,h2,h3,fN,h4,h5,gZ,h6,h7,h8,h9,aE,cH,g0,oX,qO,uC,k1,k2,k3,k4,k5,k6,k7,δ.cells,ζ.four,z0,ζ.χ,δ.χ]) fun s' hh=> .inr ⟨by simp,.inl ⟨rfl,fin _ _ _ _ _ _ _ _ s' hh ⟨jV,uo,by simp,hx,hy,kE _,aaZ,uo,trivial⟩ (dN _ _ _ (by simp) hr7) (wF _ ht7) r7 ?_⟩⟩;rw[<-Ω];refine aH.as (P:=fun t=>(aF s.length tk.text t).bind fun _ t=>(gS s.length t).bind fun n' t=>(aF s.length [61] t).bind fun _ t=>(aB s.length n t).bind fun x t=>(aF s.length [58] t).bind fun _ t=>(aB s.length n t).bind fun y t=>(eh s.length (aB s.length n) k t).map fun b=>(δ.mk 8 0 n' .nil [] x y (Ξ b.1) b.1 .nil [],[b.2])) (iB.bind (gx.bind (Q:=fun n' t=>(aF s.length [61] t).bind fun _ t=>(aB s.length n t).bind fun x t=>(aF s.length [58] t).bind fun _ t=>(aB s.length n t).bind fun y t=>(eh s.length (aB s.length n) k t).map fun b=>(δ.mk 8 0 n' .nil [] x y (Ξ b.1) b.1 .nil [],[b.2])) (dO.bind (mS.bind (Q:=fun x t=>(aF s.length [58] t).bind fun _ t=>(aB s.length n t).bind fun y t=>(eh s.length (aB s.length n) k t).map fun b=>(δ.mk 8 0 nm .nil [] x y (Ξ b.1) b.1 .nil [],[b.2])) (wC.bind (SO.bind (Q:=fun y t=>(eh s.length (aB s.length n) k t).map fun b=>(δ.mk 8 0 nm .nil [] (.mk ik Bd is ic il) y (Ξ b.1) b.1 .nil [],[b.2])) (gv7.map fun b=>(δ.mk 8 0 nm .nil [] (.mk ik Bd is ic il) (.mk jk jn js jc jl) (Ξ b.1) b.1 .nil [],[b.2])))))))) fun st hs=>?_;have e1:=oF _ b3 st hs;have e3:=(qo st hs).1;rw[e1]at e3;simp[iE,e1,e3]
   |false=>
   have uC:=qb _ _ b3
   cases b4:a.aV [117,110,100,111]with
   |true=>
    have xx:=qb _ _ b4
    have s1:=iB.take (tK b4 (by simp));obtain⟨⟨nx,lO⟩,nz,cV,DT,pA,a3,T3,k3,wU,r3,dO,yr,pL⟩:=f294 (u:=u) hb hp tk.at_ .nil [] [] [] (CU cL) (by simp) r1 (by omega);simp only[hM,bB]at k3;refine μ.done .normal (fun st=>K4 st/\st.q 4=some (0,.cells (δ.mk 10 0 [] .nil [] z0 z0 (Ξ nx) nx .nil []).cells)/\st.mem= {ε:=B.set p (.cells cV)++(θ.cells [.κ p 0]::θ.cells [.n tk.at_,.n 0,.list nz (Sp.lists [lO])]::pA),η:=T3}) (by simp[K4,K3,K2,K,h1,h2,h3,fN,h4,h5,gZ,h6,h7,h8,h9,aE,cH,g0,oX,qO,uC,xx,k1,k3,δ.cells,ζ.four,z0,ζ.χ,δ.χ]) fun s' hh=> .inr ⟨by simp,.inl ⟨rfl,fin _ _ _ _ _ _ _ _ s' hh ⟨zn,uo,by simp,n_,n_,kE _,yr,uo,trivial⟩ (dN _ _ _ (by simp) wU) (wF _ pL) r3 ?_⟩⟩;rw[<-Ω];refine aH.as (P:=fun t=>(aF s.length tk.text t).bind fun _ t=>(eh s.length (aB s.length n) k t).map fun b=>(δ.mk 10 0 [] .nil [] z0 z0 (Ξ b.1) b.1 .nil [],[b.2])) (iB.bind (dO.map fun b=>(δ.mk 10 0 [] .nil [] z0 z0 (Ξ b.1) b.1 .nil [],[b.2]))) fun st hs=>?_;have e1:=oF _ b4 st hs;have e3:=(qo st hs).1;rw[e1]at e3;simp[iE,e1,e3]
   |false=>
   have xx:=qb _ _ b4
   cases b5:a.aV [119,105,116,104,105,110]with
   |true=>
    have OK:=qb _ _ b5
    have s1:=iB.take (tK b5 (by simp));obtain⟨⟨nx,lO⟩,nz,cV,DT,pA,a3,T3,k3,wU,r3,dO,yr,pL⟩:=f294 (u:=u) hb hp tk.at_ .nil [] [] [] (CU cL) (by simp) r1 (by omega);have s3:=dO.sz (An _ (nB _ _) _);obtain⟨_,w4,iI,a4,k4,r4,mS,rfl⟩:=(f226 (u:=u) (item:=DT) [97,112,112,108,121] hl aj a3).at (θ.cells [.κ p 0]::θ.cells [.n tk.at_,.n 0,.list nz (Sp.lists [lO])]::pA) hp r3;have s4:=mS.sz (eP _ _);have yP:Row (B.length+2) (hM B p iI tk.at_ nz [lO] pA) 1 257 nz [lO].length:=hH _ _ _ _ _ wU;obtain⟨⟨Ch,JP⟩,Ks,uW,UO,KX,a5,T5,k5,MT,r5,wC,C1,DH⟩:=f294 (u:=u) hb hp tk.at_ nz [lO] pA T3 yP (by simp) r4 (by omega);simp only[hM,cy,bB]at k3 k5;refine μ.done .normal (fun st=>K4 st/\st.q 4=some (0,.cells (δ.mk 11 0 [] .nil [] z0 z0 (Ξ nx) nx (Ξ Ch) Ch).cells)/\st.mem= {ε:=B.set p (.cells uW)++(θ.cells [.κ p 0]::θ.cells [.n tk.at_,.n 0,.list Ks (Sp.lists [lO,JP])]::KX),η:=T5}) (by simp[K4,K3,K2,K,h1,h2,h3,fN,h4,h5,gZ,h6,h7,h8,h9,aE,cH,g0,oX,qO,uC,xx,OK,k1,k3,k4,k5,δ.cells,ζ.four,z0,ζ.χ,δ.χ]) fun s' hh=> .inr ⟨by simp,.inl ⟨rfl,fin _ _ _ _ _ _ _ _ s' hh ⟨zn,uo,by simp,n_,n_,kE _,yr,kE _,C1⟩ (dN _ _ _ (by simp) MT) (fun i hi=>(DH i hi).elim (wF _ pL i) id) r5 ?_⟩⟩;rw[<-Ω];refine aH.as (P:=fun t=>(aF s.length tk.text t).bind fun _ t=>(eh s.length (aB s.length n) k t).bind fun b t=>(aF s.length [97,112,112,108,121] t).bind fun _ t=>(eh s.length (aB s.length n) k t).map fun d=>(δ.mk 11 0 [] .nil [] z0 z0 (Ξ b.1) b.1 (Ξ d.1) d.1,[b.2,d.2])) (iB.bind (dO.bind (Q:=fun b t=>(aF s.length [97,112,112,108,121] t).bind fun _ t=>(eh s.length (aB s.length n) k t).map fun d=>(δ.mk 11 0 [] .nil [] z0 z0 (Ξ b.1) b.1 (Ξ d.1) d.1,[b.2,d.2])) (mS.bind (wC.map fun d=>(δ.mk 11 0 [] .nil [] z0 z0 (Ξ nx) nx (Ξ d.1) d.1,[lO,d.2]))))) fun st hs=>?_;have e1:=oF _ b5 st hs;have e3:=(qo st hs).1;rw[e1]at e3;simp[iE,e1,e3]
   |false=>
   have OK:=qb _ _ b5
   obtain⟨_,x,cA,rQ,a2,T2,k2,r2,gx,⟨rfl,hx⟩,ht2⟩:=(f297 (u:=u) hl aj hc a ha tk.text fun st hs=>(qo st hs).1).at (θ.cells [.κ p 0]::θ.cells [.n tk.at_,.n 0,.list .nil (Sp.lists [])]::[]) hp h [];have rN:=δ.ll x;have Bb:x.cells.take 14=x.cells:=fe (by omega);refine μ.done .normal (fun st=>K4 st/\st.q 4=some (0,.cells x.cells)/\st.mem= {ε:=B.set p (.cells cA)++(θ.cells [.κ p 0]::θ.cells [.n tk.at_,.n 0,.list .nil (Sp.lists [])]::[]),η:=T2}) (by simp[K4,K3,K2,K,h1,h2,h3,fN,h4,h5,gZ,h6,h7,h8,h9,aE,cH,g0,oX,qO,uC,xx,OK,k2,rN,Bb]) fun s' hh=> .inr ⟨by simp,.inl ⟨rfl,fin _ _ _ _ _ _ _ _ s' hh hx rfl (fun i hi=>(ht2 i hi).elim (fun h=>by cases h) .inl) r2 ?_⟩⟩;rw[<-Ω];refine aH.as (P:=fun t=>(zF s.length (aB s.length n) t).map fun x=>(x,[])) (gx.map fun x=>(x,[])) fun st hs=>?_;simp[iE,tS _ b1 st hs,tS _ b2 st hs,tS _ b3 st hs,tS _ b4 st hs,tS _ b5 st hs]
  ·have rN:=δ.ll x;have Bb:x.cells.take 14=x.cells:=fe (by omega);obtain⟨k1,EK,rfl,pF,hh⟩:=m6;generalize iZ:[AV.str s,.list c (all.map Tok.bp),.n k1,.n EK,dU]=cL;have Ta:cE s all c dU cL b:=⟨k1,EK,iZ.symm,pF,hh⟩;have gp:∀D,(B.set p (θ.cells cL)++D)[p]?=some (.cells [.str s,.list c (all.map Tok.bp),.n k1,.n EK,dU]):=fun D=>by rw[List.getElem?_append_left (by simpa using hp),iZ];simp[hp]
   have g1:∀L (e:List θ),(B.set p (θ.cells cL)++θ.cells [.κ p 0]::θ.cells L::e)[B.length+1]?=some (.cells L):=fun L e=>by simp
   have gs:∀L L' (e:List θ),(B.set p (θ.cells cL)++θ.cells [.κ p 0]::θ.cells L::e).set (B.length+1) (.cells L')=B.set p (θ.cells cL)++θ.cells [.κ p 0]::θ.cells L'::e:=fun L L' e=>by simp
   rw[iZ]at m3;simp only[hM]at m3;cases b with
   |w w=>
    have hw:¬EK<0:=by have:EK=(w:Int):=hh;omega
    refine μ.done .ret (fun st=>st.mem= {ε:=B.set p (.cells cL)++(θ.cells [.κ p 0]::θ.cells [.n tk.at_,.n 0,.list cp (Sp.lists ins)]::ext),η:=tt}/\st.e 2= .ak 2 0 0/\st.q 2=some (0,.cells x.cells)/\st.e 3= .ak 3 0 0/\st.q 3=some (0,.cells [.n tk.at_,.n 0,.list cp (Sp.lists ins)])) (by simp[h1,h2,h3,fN,h4,h5,gZ,h8,h9,m1,m3,g0,g1,gp,hw,rN,Bb,c7,de,nD]) fun s' ⟨q1,q2,q3,q4,q5⟩=>⟨by simp,x,cL,cp,ins,_,tt,dU,_,0,by rw[q1],by rw[q1];exact m5,q2,q3,q4,q5,m4,m2,Ta,m7,(fun t ht=>by cases ht),by rw[q1]⟩
   |r t=>
    obtain⟨rfl,hd,HD⟩:=hh
    have jL:0<k1:=by
     cases a with
     |w w=>cases m7
     |r nY=>
      simp only[aH]at m7
      cases oP:P nY with
      |no w=>rw[oP]at m7;cases m7
      |ok y t'=>
       rw[oP]at m7
       obtain⟨_,vq⟩:=m7;cases vq;have h7:=abc _ _ _ oP;have h8:=h.sz;have h9:=congrArg lK hd;simp only[lL,RS.sz]at h8 h9;omega
    obtain⟨j,rfl⟩:∃j,k1=j+1:=⟨k1-1,by omega⟩;have hj:j<all.length:=by omega
    have hjt:all[j]?=some all[j]:=List.getElem?_eq_getElem hj;rw[Vi hjt]at HD;have rL:bN .i64 ((j:Int)+1-1)=(j:Int):=by rw[wrap_i64 (by omega) (by omega)];omega
    have yU:bN .i64 (j:Int)=(j:Int):=wrap_i64 (by omega) (by omega);have wT:=(aj all[j] (List.getElem_mem hj)).pos;have qy:bN .i64 ((all[j].at_:Int)+all[j].text.length)=(t.last:Int):=by rw[wrap_i64 (by omega) (by omega)];omega
    refine μ.done .ret (fun st=>st.mem= {ε:=B.set p (.cells cL)++(θ.cells [.κ p 0]::θ.cells [.n tk.at_,.n t.last,.list cp (Sp.lists ins)]::ext),η:=tt}/\st.e 2= .ak 2 0 0/\st.q 2=some (0,.cells x.cells)/\st.e 3= .ak 3 0 0/\st.q 3=some (0,.cells [.n tk.at_,.n t.last,.list cp (Sp.lists ins)])) (by
     simp[h1,h2,h3,fN,h4,h5,gZ,h8,h9,m1,m3,g0,g1,gs,gp,yU,qy,hj,Tok.bp,bJ,rN,Bb,c7,uV,de,nD,Mem.put,Mem.ν,ν,bn,lo]
     ) fun s' ⟨q1,q2,q3,q4,q5⟩=>⟨by simp,x,cL,cp,ins,_,tt,dU,_,t.last,by rw[q1],by rw[q1];exact m5,q2,q3,q4,q5,m4,m2,Ta,m7,(fun t' ht=>by cases ht;rfl),by rw[q1]⟩
 obtain⟨r,e1,e2,x,ah,cp,ins,ext,tt,dU,b,to,e3,e4,e5,e6,e7,e8,e9,pt,wc,we,KE,-⟩:=dT;have hL:x.cells.length=14:=δ.ll x;have lu:x.cells.take 14=x.cells:=fe (by omega);have hv:Dv (.aU [.agg x.cells,.agg [.n tk.at_,.n to,.list cp (Sp.lists ins)]]) (.aU [.agg x.cells,.agg (Sp.mk tk.at_ to ins).cells]):=by have:=Dv.list cp (Sp.CJ ins);rw[e9]at this;simp only[Sp.cells];exact .aU (.cons (.agg (δ.fx x pt)) (.cons (.agg (.cons (.int _ _) (.cons (.int _ _) (.cons this .nil)))) .nil))
 obtain⟨cA,rQ,T',Cy,Cz,CA⟩:=It (u:=u) hc (f:=271) (g:=GO) (args:=[]) (v:= .aU [.agg x.cells,.agg (Sp.mk tk.at_ to ins).cells]) rfl rfl rfl hp rfl e1 e2 e3 wc e4 (l:=[.agg x.cells,.agg [.n tk.at_,.n to,.list cp (Sp.lists ins)]]) (by simp[GO,e5,e6,e7,e8,hL,lu]) (hv.aQ _ _ _) T;refine⟨_,(x,.mk tk.at_ to ins),cA,rQ,b,T',Cy,Cz,?_,⟨rfl,pt⟩,CA⟩;cases a with
 |w w=>exact we
 |r st=>
  simp only[aH,uE]at we⊢
  cases hp:P st with
  |no w=>rw[hp]at we;exact we
  |ok y t=>
   rw[hp]at we
   obtain⟨rfl,rfl⟩:=we;simp only[R.bind,and_true];rw[(qo st rfl).2.2,KE t rfl]
end
end Tz
end Go.Δ
