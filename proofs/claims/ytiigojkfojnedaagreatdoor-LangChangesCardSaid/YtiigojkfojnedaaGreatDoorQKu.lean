import Derived.Test.YtiigojkfojnedaaGreatDoorQKp
import Derived.Test.YtiigojkfojnedaaGreatDoorQHg
set_option linter.unusedVariables false
set_option linter.unusedSimpArgs false
set_option linter.unusedSectionVars false
set_option maxRecDepth 100000
set_option maxHeartbeats 8000000
open List renaming length->nr,length_drop->kK,map_cons->ay,length_set->fj,mem_append->dE,all_map->mK,append_assoc->cj,set_append_left->lL,length_map->dd,mem_singleton->kX,map_append->qn,map_map->c6,map_congr_left->dt,getElem?_eq_none->gZ,take_of_length_le->dY,mem_cons->dO,eq_nil_of_length_eq_zero->ma,cons_append->eO,nil_append->cI
open Nat renaming le_refl->bF
open Go.IntKind renaming wrap->a_
namespace Go.ah
def cD{α:Type}(P:PS->R α):Prop:=∀s x t,P s= .ok x t->t.l.length<s.l.length
theorem cD.mQ{α:Type}{P:PS->R α}(h:cD P):cT P:=fun s x t e=>Nat.le_of_lt (h s x t e)
theorem cD.take(e:Nat)(f:Tok->Bool):cD (gR e f):=fun _ _ _ h=>by have:=H5 h;omega
theorem cD.bind{α β:Type}{P:PS->R α}{Q:α->PS->R β}(h:cD P)(k:∀x,cT (Q x)):cD fun s=>(P s).bind Q:=fun s y t e=>by
 have e:(P s).bind Q= .ok y t:=e;cases hp:P s with
 |ok x s'=>
  rw[hp]at e
  have:=h _ _ _ hp;have:=k x _ _ _ e;omega
 |no w=>rw[hp]at e;cases e
theorem cD.map{α β:Type}{P:PS->R α}{f:α->β}(h:cD P):cD fun s=>(P s).map f:=fun s y t e=>by
 have e:(P s).map f= .ok y t:=e;cases hp:P s with
 |ok x s'=>rw[hp]at e;cases e;exact h _ _ _ hp
 |no w=>rw[hp]at e;cases e
theorem cD.ite{α:Type}{c:PS->Prop}[∀s,Decidable (c s)]{P Q:PS->R α}(h:cD P)(k:cD Q):cD fun s=>if c s then P s else Q s:=fun s y t e=>by
 dsimp only at e;split at e
 ·exact h _ _ _ e
 ·exact k _ _ _ e
theorem cD.word{β:Type}{e:Nat}{Q:List Nat->PS->R β}(k:∀x,cT (Q x)):cD fun s=>(aw e s.hd s).bind Q:=fun s y t h=>(cD.bind (cD.take e fun t=>t.text==s.hd) k) s y t h
theorem Ed{α:Type}(e:Nat){P:PS->R α}(h:cT P):cT (lY e P):=
 .ite (cr e _).map (h.bind fun x=>(cT.Hu (fun l=>(cr e _).bind fun _=>h.map) [x]).bind fun _=>(cr e _).map)
theorem PI(e:Nat){pl:PS->R Γ}(h:cT pl):∀n l,cT (lF e pl n l)
 |0,l=> .ok l
 |n+1,l=>(cr e _).bind fun _=>h.bind fun p=>PI e h n (l++[p])
theorem WI(e:Nat){ix:PS->R η}(h:cT ix):cD (jZ e ix):=by
 have hp:=Ef e h;have g:∀n:Nat,cD fun s=>(aw e s.hd s).bind fun _ s'=>(gP e ix s').bind fun p s'=>(lF e (gP e ix) n [p] s').map fun l=>δ.mk 1 (eP s.hd) [] .any l z0 z0 .nil [] .nil []:=fun n s y t k=>cD.bind (cD.take e fun t=>t.text==s.hd) (Q:=fun _ s'=>(gP e ix s').bind fun p s'=>(lF e (gP e ix) n [p] s').map fun l=>δ.mk 1 (eP s.hd) [] .any l z0 z0 .nil [] .nil []) (fun _=>hp.bind fun p=>(PI e hp n [p]).map) s y t k;intro s x t k;dsimp only[jZ]at k;split at k
 ·exact g _ s x t k
 split at k
 ·exact cD.word (fun _=>(Bv e h).map) s x t k
 split at k
 ·exact cD.word (fun _=>(jb e).map) s x t k
 split at k
 ·exact cD.word (fun _=>hp.bind fun _=>(cr e _).bind fun _=>(jb e).map) s x t k
 split at k
 ·exact cD.word (fun _=>hp.map) s x t k
 ·exact(cD.bind (cD.take _ _) fun _=>(cr e _).bind fun _=>(Ed e hp).map) s x t k
theorem WJ(e:Nat){ix:PS->R η}(h:cT ix):cD (Av e ix):=(WI e h).bind fun _=>(cr e _).map
theorem Bt(e:Nat){ix:PS->R η}{blk:PS->R (List δ×List Sp)}(h:cT ix)(hb:cT blk):cD (gF e ix blk):=by
 intro s x t k;dsimp only[gF]at k;split at k
 ·exact cD.word (fun _=>(Bv e h).bind fun _=>hb.map) s x t k
 split at k
 ·exact cD.word (fun _=>(jb e).bind fun n=>hb.bind fun b=> .ite ((cr e _).bind fun _=>hb.map) (.ok _)) s x t k
 split at k
 ·exact cD.word (fun _=>(jb e).bind fun n=>(cr e _).bind fun _=>h.bind fun _=>(cr e _).bind fun _=>h.bind fun _=>hb.map) s x t k
 split at k
 ·exact cD.word (fun _=>hb.map) s x t k
 split at k
 ·exact cD.word (fun _=>hb.bind fun _=>(cr e _).bind fun _=>hb.map) s x t k
 ·exact((WJ e h).map) s x t k
theorem Jo(e:Nat){st:PS->R (δ×List (List Sp))}(h:cD st):cD (t_ e st):=fun s x t k=>by
 simp only[t_]at k;cases hp:st s with
 |ok y s'=>
  rw[hp]at k
  cases k;exact h _ _ _ hp
 |no w=>rw[hp]at k;cases k
theorem WK(e:Nat){st:PS->R (δ×List (List Sp))}(h:cD st):cT (yl e st):=
 (cr e _).bind fun _=>(cT.Hu (fun _=>(Jo e h).mQ.map) _).bind fun _=>(cr e _).map
theorem tA(e:Nat){ix:PS->R η}(h:cT ix):∀k,cT (bT e ix k)
 |0=>fun s x t e=>by cases e
 |k+1=>WK e (Bt e h (tA e h k))
def RS.bad:RS->Nat
 | .r _=>0
 | .w _=>1
end Go.ah
namespace Go.ah.Tz
open Go.ah
variable{u:Nat}
attribute [local simp] exec ed dP eX aC dQ ft eL ζ gg τ fW gy gH gI lf AV.cells newVar gE rd wr fK single eV bY ek dF μ aY RV.get aV dB iE
attribute [local simp] vd u2
theorem DN{s:List Nat}{all:List Tok}{c:χ}{item:AV}(w:List Nat)(hl:all.length<1000000000){B:List κ}{p:Nat}{cs:List AV}{a:RS}(hp:p<B.length)(h:cE s all c item cs a){t:Bool}(hb:a.aB w=t)(T:List Nat):
  kf u 268 [.ν p 0,.list .full [.str w]] {ε:=B.set p (.cells cs),θ:=T}=some (.bool t,{ε:=B.set p (.cells cs),θ:=T}):=by
 have:=f268 (u:=u) [w] (by simp) hl hp h T;simpa[hb]using this
section
variable{s:List Nat}{all:List Tok}{c:χ}(hl:all.length<1000000000)(ab:∀t∈all,t.Ok)
theorem cE.sz{item:AV}{cs:List AV}{a:RS}(h:cE s all c item cs a):a.sz<=all.length:=by
 obtain⟨k,wr,rfl,hk,h⟩:=h;cases a with
 |w w=>exact Nat.zero_le _
 |r st=>have:=congrArg nr h.2.1;simp only[kK]at this;simp only[RS.sz];omega
theorem cE.item{item fn:AV}{cs:List AV}{a:RS}(h:cE s all c item cs a):∃k wr,cs=[.str s,.list c (all.map Tok.ba),.int .i64 k,.int .i64 wr,item]/\cE s all c fn [.str s,.list c (all.map Tok.ba),.int .i64 k,.int .i64 wr,fn] a:=by obtain⟨k,wr,rfl,hk,h⟩:=h;exact⟨k,wr,rfl,k,wr,rfl,hk,h⟩
def Im(u:Nat)(s:List Nat)(all:List Tok)(c:χ){α:Type}(I:List α->List κ->Prop)(fn:AV)(P:PS->R α)(k N p:Nat):Prop:=
 ∀l B T cs a,I l B->cE s all c fn cs a->a.sz<k->l.length+a.sz<=all.length+1→
  ∃B' T' x ξ b,aU (C u) fn [] {ε:=B.set p (.cells cs),θ:=T}=some (.aP [],{ε:=B'.set p (.cells ξ),θ:=T'})/\I (l++[x]) B'/\cE s all c fn ξ b/\Θ P a x b/\∀i∈T',i∈T\/N<=i
include hl ab
theorem f228{α:Type}{I:List α->List κ->Prop}{fn:AV}{P:PS->R α}{k N M p:Nat}(hP:cT P){fi:FuncId}{cap:List AV}(mB:fn= .fn (.func fi) [] cap)(hn:φ fn=fn)(B3:∀n,M<=n->exp n true fn=fn)
  (hI:∀l B,I l B->M<=B.length/\p<B.length) (ob:Im u s all c I fn P k N p) {item:AV} {B:List κ} {cs:List AV} {a:RS} (T:List Nat) (h0:I [] B) (h:cE s all c item cs a) (ha:a.sz<k):
  ∃B' T' l ξ b,kf u 228 [.ν p 0,.str [41],fn] {ε:=B.set p (.cells cs),θ:=T}=some (.aP [],{ε:=B'.set p (.cells ξ),θ:=T'})∧
   I l B'/\cE s all c fn ξ b/\Θ (lY s.length P) a l b/\∀i∈T',i∈T\/i=p\/N<=i:=by
 subst mB;have dj:μ (C u).gl (aU (C u)) c228 {env:=[.ν p 0,.str [41],.fn (.func fi) [] cap],loc:=[],mem:= {ε:=B.set p (.cells cs),θ:=[]}} fun r=>(∀i,r.1≠ .exit i)/\∃B' l ξ b,r.2.mem.ε=B'.set p (.cells ξ)/\I l B'/\cE s all c (.fn (.func fi) [] cap) ξ b/\Θ (lY s.length P) a l b/\∀i∈r.2.mem.θ,i=p\/N<=i:=by
  have hp:=(hI _ _ h0).2;obtain⟨k0,wr,rfl,hf⟩:=h.item (fn:= .fn (.func fi) [] cap);generalize fp:[AV.str s,.list c (all.map Tok.ba),.int .i64 k0,.int .i64 wr,.fn (.func fi) [] cap]=aX at hf;clear h;have h:=hf;let K:List κ->St->Prop:=fun X st=>ζ st.env 0= .ν p 0/\ζ st.env 1= .str [41]/\ζ st.env 2= .fn (.func fi) [] cap/\∃tt,st.mem= {ε:=X,θ:=tt}/\∀i∈tt,i=p\/N<=i;have KQ:∀m:Mem,m.φ (.fn (.func fi) [] cap)= .fn (.func fi) [] cap:=fun _=>hn;have hg:∀cs,(B.set p (κ.cells cs))[p]?=some (.cells cs):=fun cs=>by simp[hp]
  refine ω (K (B.set p (.cells aX))) (by simp[K,hg,Mem.put,KQ,fp]) fun s1 ⟨h1,h2,h3,tt,h4,h5⟩=>?_;have hb:=fun t hb T=>DN (u:=u) [41] hl hp h (t:=t) hb T;refine bc (fun st=>K (B.set p (.cells aX)) st/\a.aB [41]=false) ?_ fun s1 ⟨⟨h1,h2,h3,tt,h4,h5⟩,h6⟩=>?_
  ·cases hc:a.aB [41]with
   |false=>
    have hb:=hb false hc
    refine μ.done .normal (fun st=>K (B.set p (.cells aX)) st) (by
     simp[K,h1,h2,h3,h4,hb]
     exact h5) fun s' hh=> .inl ⟨rfl,hh,rfl⟩
   |true=>
    have hb:=hb true hc
    obtain⟨_,x1,aW,a2,k1,r1,g1,rfl⟩:=f226 (u:=u) (item:= .fn (.func fi) [] cap) [41] hl ab a B p aX hp h;refine μ.done .ret (fun st=>K (B.set p (.cells aW)) st) (by
     simp[K,h1,h2,h3,h4,hb,k1]
     exact h5) fun s' ⟨m1,m2,m3,tt,m4,m5⟩=> .inr ⟨by simp,by simp,B,[],aW,a2,by simp only[m4],h0,r1,?_,by rw[m4];exact m5⟩
    exact Θ.as (P:=fun t=>(aw s.length [41] t).map fun _=>[]) (g1.map _) fun st hs=>by subst hs;exact if_pos hc
  have eS:∀st,a= .r st->st.aB [41]=false:=fun st hs=>by subst hs;exact h6
  obtain⟨B2,T2,x1,aW,a2,k1,i1,r1,g1,t1⟩:=ob [] B tt aX a h0 h ha (by have:=h.sz;simp;omega);have ot:=g1.sz hP;have ig:=(hI _ _ i1).2;have GM:(B.set p (κ.cells aX))[p]?=some (.cells [.str s,.list c (all.map Tok.ba),.int .i64 k0,.int .i64 wr,.fn (.func fi) [] cap]):=by rw[fp,hg]
  have e2:∀i∈T2,i=p\/N<=i:=fun i hi=>(t1 i hi).elim (h5 i) .inr;refine ω (K (B2.set p (.cells aW))) (by
   simp[K,h1,h2,h3,h4,GM,k1]
   exact e2) fun s1 hK=>?_
  let F:List α->PS->R (List α):=fun l t=>(aw s.length [44] t).bind fun _ t=>(P t).map fun y=>l++[y];let cc:PS->Bool:=fun t=>t.aB [44];let I':Nat->St->Prop:=fun i st=>∃B' l ξ b,K (B'.set p (.cells ξ)) st/\I l B'/\cE s all c (.fn (.func fi) [] cap) ξ b/\b.sz+i<=a2.sz/\l.length+b.sz<=all.length+1/\∀y b',Θ (cw cc F (a2.sz+1-i) l) b y b'->Θ (cw cc F (a2.sz+1) [x1]) a2 y b';refine bc (fun st=>∃B' l ξ b,K (B'.set p (.cells ξ)) st/\I l B'/\cE s all c (.fn (.func fi) [] cap) ξ b/\Θ (cw cc F (a2.sz+1) [x1]) a2 l b) ?_ fun s2 ⟨B',l,ξ,b,⟨h1,h2,h3,tt,h4,h5⟩,h6,h7,h8⟩=>?_
  ·have X0:I' 0 s1:=⟨B2,[x1],aW,a2,hK,i1,r1,bF _,by have:=h.sz;simp;omega,fun _ _ h=>h⟩;refine μ.block (μ.jt (I:=I') a2.sz X0 fun i st hi ψ=>?_);obtain⟨B',l,ξ,b,⟨h1,h2,h3,tt,h4,h5⟩,h6,h7,h8,h9,aH⟩:=ψ;have om:=(hI _ _ h6).2;rw[show a2.sz+1-i=(a2.sz-i)+1 by omega]at aH;unfold R4;cases hc:b.aB [44]with
   |false=>
    have hb:=fun T=>DN (u:=u) [44] hl om h7 (t:=false) hc T
    refine μ.done (.exit 0) (fun st=>K (B'.set p (.cells ξ)) st) (by
     simp[K,h1,h2,h3,h4,hb]
     exact h5) fun s' hh=> .inr ⟨by simp,.inl ⟨rfl,.inl ⟨rfl,B',l,ξ,b,hh,h6,h7,aH _ _ (Θ.uX hc)⟩⟩⟩
   |true=>
    have hb:=fun T=>DN (u:=u) [44] hl om h7 (t:=true) hc T
    obtain⟨_,x2,aQ,a3,k2,r2,g2,rfl⟩:=f226 (u:=u) (item:= .fn (.func fi) [] cap) [44] hl ab b B' p ξ om h7;have lV:=g2.take (jD hc (by simp));have fF:=h1;obtain⟨B4,T4,x3,dK,a4,k3,i3,r3,g3,t3⟩:=ob l B' tt aQ a3 h6 r2 (by omega) (by omega);have x7:=g3.sz hP;refine μ.done .normal (fun st=>K (B4.set p (.cells dK)) st) (by
     simp[K,h1,h2,h3,h4,hb,k2,k3]
     exact fun i hi=>(t3 i hi).elim (h5 i) .inr) fun s' hh=> .inl ⟨rfl,by omega,B4,l++[x3],dK,a4,hh,i3,r3,by omega,by simp;omega,fun y b' hg=>aH y b' (Θ.uY hc (g2.bind (g3.map _)) (by rw[show a2.sz+1-(i+1)=a2.sz-i by omega]at hg;exact hg))⟩
  ·have om:=(hI _ _ h6).2;obtain⟨_,x2,aQ,a3,k2,r2,g2,rfl⟩:=f226 (u:=u) (item:= .fn (.func fi) [] cap) [41] hl ab b B' p ξ om h7;refine μ.done .normal (fun st=>K (B'.set p (.cells aQ)) st) (by
    simp[K,h1,h2,h3,h4,k2]
    exact h5) fun s' ⟨m1,m2,m3,tt,m4,m5⟩=>⟨by simp,B',l,aQ,a3,by simp only[m4],h6,r2,?_,by rw[m4];exact m5⟩
   refine Θ.as (P:=fun t=>(P t).bind fun x t=>(cw cc F (t.l.length+1) [x] t).bind fun l t=>(aw s.length [41] t).map fun _=>l) ?_ fun st hs=>by simp[lY,eS st hs];rfl
   exact g1.bind (Q:=fun x t=>(cw cc F (t.l.length+1) [x] t).bind fun l t=>(aw s.length [41] t).map fun _=>l) (h8.fuel.bind (Q:=fun l t=>(aw s.length [41] t).map fun _=>l) (g2.map fun _=>l))
 obtain⟨⟨ex,s'⟩,e1,e2,B',l,ξ,b,e3,e4,e5,e6,e7⟩:=dj;have hp:=(hI _ _ h0).2;have dL:([AV.ν p 0,.str [41],.fn (.func fi) [] cap]++[]).map (exp (B.set p (κ.cells cs)).length true)=[.ν p 0,.str [41],.fn (.func fi) [] cap]:=by simp only[List.append_nil,ay,List.map_nil,fj,B3 _ (hI _ _ h0).1];simp[exp,hp]
 have:=uq (C:=C u) (f:=228) (g:=JD) (args:=[.ν p 0,.str [41],.fn (.func fi) [] cap]) (cap:=[]) (m:= {ε:=B.set p (.cells cs),θ:=T}) (l:=[]) rfl rfl rfl (by rw[dL];exact e1) e2 (by rfl);dsimp only at e3 e7;refine⟨B',T++s'.mem.θ,l,ξ,b,?_,e4,e5,e6,fun i hi=>(dE.1 hi).imp id (e7 i)⟩;exact this.trans (by rw[e3];rfl)
end
attribute [local simp] zm Au Ah η.gK
theorem tB(a:List AV):fm (some a) (some a)=true:=AV.ki a
theorem Γ.fx{x:Γ}(h:x.Ok):Fx x.av:=by have:=Dv.list x.c (bB.of η.av x.ix fun y hy=>η.fx y (h.2.2 y hy).1);rw[fb h.2.1]at this;exact .agg (.cons (.str _) (.cons this .nil))
theorem Γ.rb(m:Mem)(x:Γ):m.φ x.av=x.av:=Γ.nO x
theorem TQ(x:Γ):shaped true 2 x.av=true:=rfl
attribute [local simp] Γ.rb TQ
theorem Ak(l:List Γ):(l.map Γ.av).all (shaped true 2)=true:=by simp[mK,Γ.av,shaped,Function.comp]
def sC(k g:Int)(nm:List Nat)(c:χ)(l:List AV)(sz:List AV):List AV:=[.int .i64 k,.int .i64 g,.str nm,.list c l]++sz++z0.four++[.list .nil [],.list .nil []]
theorem H0(k g:Int)(nm:List Nat)(c:χ)(l:List AV)(x:η):(sC k g nm c l x.four).length=14:=by simp[sC]
def sT(p:Nat)(k g:Int)(nm:List Nat)(c:χ)(l:List AV):List κ:=[.cells [.ν p 0],.cells (sC k g nm c l z0.four)]
def sI(B:List κ)(p:Nat)(k g:Int)(nm:List Nat)(l:List Γ)(B':List κ):Prop:=
 ∃c ext,B'=B++sT p k g nm c (l.map Γ.av)++ext/\Row (B.length+2) B' 2 74 c l.length/\(l=[]->c= .nil)/\∀x∈l,x.Ok
section
variable{s:List Nat}{all:List Tok}{c:χ}(hl:all.length<1000000000)(ab:∀t∈all,t.Ok)
include hl ab
theorem f310{B:List κ}{p:Nat}(hp:p<B.length)(k g:Int)(nm:List Nat)(n:Nat):Im u s all c (sI B p k g nm) (.fn (.func 310) [] [.ν (B.length+1) 0,.ν B.length 0]) (gP s.length (au s.length n)) n B.length p:=by
 rintro l _ T cs a ⟨cp,ext,rfl,hr,hn,GQ⟩ h ha hlen
 have mV:p<(B++sT p k g nm cp (l.map Γ.av)++ext).length:=by simp;omega
 obtain⟨_,x,aX,a1,k1,r1,gv,rfl,hx⟩:=f309 (u:=u) hl ab a ha _ p cs mV h;have e0:∀cs c l ext,(B++sT p k g nm c l++ext).set p (.cells cs)=B.set p (.cells cs)++sT p k g nm c l++ext:=fun cs c l ext=>by rw[cj,lL _ _ hp,cj]
 simp only[e0]at k1;have gW:Row (B.set p (.cells aX)++sT p k g nm cp (l.map Γ.av)).length (B.set p (.cells aX)++sT p k g nm cp (l.map Γ.av)++ext) 2 74 cp (l.map Γ.av).length:=by rw[dd];have:=Row.swap hr (P':=B.set p (.cells aX)++sT p k g nm cp (l.map Γ.av)) (by simp[sT]) (by simp[sT]);simpa[sT]using this
 obtain⟨c',ext',fy,dw,-⟩:=qf (bytes:=40) gW (Ak l) (show shaped true 2 x.av=true by rfl) (Γ.nO x) (by omega) (by simp;omega) (by simp;omega);rw[dd]at dw;have hL:∀cs c l ext,(B.set p (.cells cs)++sT p k g nm c l++ext).length=B.length+2+ext.length:=fun cs c l ext=>by simp[sT];omega
 have dL:∀n,B.length+2<=n->([]++[AV.ν (B.length+1) 0,.ν B.length 0]).map (exp n true)=[AV.ν (B.length+1) 0,.ν B.length 0]:=fun n hn=>by
  have a1:B.length+1<n:=by omega
  have a2:B.length<n:=by omega
  simp[exp,a1,a2]
 have g0:∀cs c l ext,(B.set p (.cells cs)++sT p k g nm c l++ext)[B.length]?=some (.cells [.ν p 0]):=fun cs c l ext=>by simp[sT]
 have g1:∀cs c l ext,(B.set p (.cells cs)++sT p k g nm c l++ext)[B.length+1]?=some (.cells (sC k g nm c l z0.four)):=fun cs c l ext=>by simp[sT]
 have g2:∀cs c l ext c' l',(B.set p (.cells cs)++sT p k g nm c l++ext).set (B.length+1) (.cells (sC k g nm c' l' z0.four))=B.set p (.cells cs)++sT p k g nm c' l'++ext:=fun cs c l ext c' l'=>by simp[sT]
 have d3:∀c l,((sC k g nm c l z0.four).drop 3).take 1=[.list c l]:=fun _ _=>rfl;have so:∀c l c' l',(sC k g nm c l z0.four).take 3++AV.list c' l'::(sC k g nm c l z0.four).drop 4=sC k g nm c' l' z0.four:=fun _ _ _ _=>rfl;have dj:μ (C u).gl (aU (C u)) IQ {env:=[.ν (B.length+1) 0,.ν B.length 0],loc:=[],mem:= {ε:=B.set p (.cells cs)++sT p k g nm cp (l.map Γ.av)++ext,θ:=[]}} fun r=>r.1= .normal/\∃tt,r.2.mem= {ε:=B.set p (.cells aX)++sT p k g nm c' ((l++[x]).map Γ.av)++ext',θ:=tt}/\∀i∈tt,B.length<=i:=by
  simp only[cj]at g0 g1 g2 k1 fy⊢;simp[IQ,g0,g1,g2,k1,fy,Mem.put,Γ.rb,H0,d3,so,tB,dm,dy];have B3:∀y∈l++[x],Fx y.av:=fun y hy=>(dE.1 hy).elim (fun h=>Γ.fx (GQ y h)) fun h=>by rw[kX.1 h];exact Γ.fx hx
  have eR:∀m:Mem,m.φ (.list c' (l.map Γ.av++[x.av]))= .list c' (l.map Γ.av++[x.av]):=fun m=>by have:=(Dv.list c' (bB.of Γ.av (l++[x]) B3)).φ;rw[qn]at this;exact this
  simp only[eR,so];refine⟨_,⟨rfl,rfl⟩,fun i hi=>?_⟩;split at hi
  ·cases hi
  ·have:=kX.1 hi;omega
 obtain⟨⟨ex,s'⟩,e1,rfl,tt,e2,e3⟩:=dj;have cK:=uq (C:=C u) (f:=310) (g:=JG) (args:=[]) (cap:=[.ν (B.length+1) 0,.ν B.length 0]) (m:= {ε:=B.set p (.cells cs)++sT p k g nm cp (l.map Γ.av)++ext,θ:=T}) (l:=[]) rfl rfl rfl (by rw[dL _ (by rw[hL];omega)];exact e1) (by simp) (by rfl);refine⟨B++sT p k g nm c' ((l++[x]).map Γ.av)++ext',T++tt,x,aX,a1,by rw[e0,e0,cK];dsimp only at e2;rw[e2];rfl,⟨c',ext',rfl,?_,fun h=>by simp at h,fun y hy=>?_⟩,r1,gv,fun i hi=>(dE.1 hi).imp id (e3 i)⟩
 ·have:=Row.swap dw (P':=B++sT p k g nm c' ((l++[x]).map Γ.av)) (by simp[sT]) (by simp[sT]);simpa[sT]using this
 ·rcases dE.1 hy with hy|hy
  ·exact GQ y hy
  ·rw[kX.1 hy];exact hx
end
theorem Xn(m:Mem)(x:η):x.four.map m.φ=x.four:=by have:=η.SK x;rwa[fO]at this
theorem Xm(n:Nat)(x:η)(h:x.ey):bp n x.four=true:=by exact(iD h).bp n
theorem sN(k g:Int)(nm:List Nat)(cp:χ)(l sz:List AV):sC k g nm cp l sz= .int .i64 k:: .int .i64 g:: .str nm:: .list cp l::(sz++[.int .i64 0,.int .i64 0,.str [],.list .nil [],.list .nil [],.list .nil []]):=by simp[sC,z0,η.four,η.Δ]
theorem uf:z0.four=[.int .i64 0,.int .i64 0,.str [],.list .nil []]:=rfl
theorem Tc(n:Nat)(x:Γ)(h:x.Ok):lo n x.av=true:=(Γ.fx h).lo n
theorem dD:z0.ey:=⟨⟨.inl rfl,trivial⟩,oZ,trivial⟩
theorem yH{k g:Int}{nm:List Nat}{cp:χ}{pl:List Γ}{sz:η}(bW:∀y∈pl,y.Ok)(hs:sz.ey):bB (sC k g nm cp (pl.map Γ.av) sz.four) (δ.mk k g nm (cp.exp 0 false) pl sz z0 .nil [] .nil []).cells:=by simp only[sC,δ.cells];exact((bB.append (.cons (.int _ _) (.cons (.int _ _) (.cons (.str _) (.cons (.list cp (bB.of Γ.av pl fun y hy=>Γ.fx (bW y hy))) .nil)))) (iD hs)).append (iD dD)).append (.cons (.list .nil .nil) (.cons (.list .nil .nil) .nil))
section
variable{s:List Nat}{all:List Tok}{c:χ}
def tc(u:Nat)(s:List Nat)(all:List Tok)(c:χ){α:Type}(f:FuncId)(args:List AV)(P:PS->R α)(E:α->AV->Prop)(a:RS):Prop:=
 ∀(B:List κ) (p:Nat) (cs:List AV) (item:AV) (T:List Nat),p<B.length->cE s all c item cs a->∃v x ξ dM b T',aU (C u) (.fn (.func f) [] []) (.ν p 0::args) {ε:=B.set p (.cells cs),θ:=T}=some (v,{ε:=B.set p (.cells ξ),θ:=T'})/\cE s all c dM ξ b/\Θ P a x b/\E x v/\∀i∈T',i∈T\/i=p
theorem af1(hc:aJ c){B:List κ}{p:Nat}(hp:p<B.length){b:RS}(tt:List Nat):∀{cs:List AV} {item:AV},cE s all c item cs b->(∀i∈tt,i=p\/B.length<=i)→
  ∃ξ dM,lJ B.length tt (B.set p (.cells cs))=B.set p (.cells ξ)/\cE s all c dM ξ b:=by
 induction tt with
 |nil=>intro cs item h _;exact⟨cs,item,rfl,h⟩
 |cons i tt ih=>
  intro cs item h ht
  rcases ht i (by simp)with rfl|hi
  ·obtain⟨k,wr,rfl,hk,h⟩:=h;have e:(κ.cells [.str s,.list c (all.map Tok.ba),.int .i64 k,.int .i64 wr,item]).Aq B.length= .cells [.str s,.list c (all.map Tok.ba),.int .i64 k,.int .i64 wr,exp B.length true item]:=by
    have:bn B.length true (all.map Tok.ba)=all.map Tok.ba:=by rw[fo,c6];exact dt fun t _=>Tok.PO _ _ t
    simp[κ.Aq,exp,fb hc,this]
   simp only[lJ,List.getElem?_set_self hp,e,List.set_set];exact ih ⟨k,wr,rfl,hk,h⟩ fun j hj=>ht j (by simp[hj])
  ·simp only[lJ,gZ (show(B.set p (κ.cells cs)).length<=i by simpa using hi)];exact ih h fun j hj=>ht j (by simp[hj])
theorem HA(hc:aJ c){f:FuncId}{g:AF}{args:List AV}{B:List κ}{p:Nat}{cs ξ:List AV}{v:AV}{b:RS}{dM:AV}(h1:(C u).jm f=none)(h2:(C u).fs f=some g)(h3:(C u).bw f=false)(hp:p<B.length)(hx:args.map (exp B.length false)=args)
  {r:Ex×St} (hr:exec (C u).gl (aU (C u)) fI g.code {env:= .ν p 0::args,loc:=[],mem:= {ε:=B.set p (.cells cs),θ:=[]}}=some r) (he:∀i,r.1≠ .exit i) {bs:List κ} (hm:r.2.mem.ε=B.set p (.cells ξ)++bs) (hL:cE s all c dM ξ b)
  (ht:∀i∈r.2.mem.θ,i=p\/B.length<=i) {l:List AV} (hl:aY r.2 g.results=some l) (hv:ai r.2.mem.ε B.length 8 (aV l)=v) (T:List Nat):
  ∃Po aaG T',aU (C u) (.fn (.func f) [] []) (.ν p 0::args) {ε:=B.set p (.cells cs),θ:=T}=some (v,{ε:=B.set p (.cells Po),θ:=T'})/\cE s all c aaG Po b/\∀i∈T',i∈T\/i=p:=by
 obtain⟨aW,qW,e1,e2⟩:=af1 hc hp _ hL ht;have dL:(AV.ν p 0::args).map (exp (B.set p (κ.cells cs)).length false)= .ν p 0::args:=by simp only[ay,fj,hx,exp,hp,if_true]
 obtain⟨ex,s'⟩:=r;have hc:=IX (C:=C u) (f:=f) (g:=g) (args:= .ν p 0::args) (m:= {ε:=B.set p (.cells cs),θ:=T}) h1 h2 h3 (by rw[dL];exact hr) he hl;dsimp only at hm ht hv;have h5:(B.set p (κ.cells ξ)++bs).take (B.set p (κ.cells cs)).length=B.set p (.cells ξ):=by rw[fj,List.take_append_of_le_length (by simp)];exact dY (by simp)
 have h6:Mem.back {ε:=B.set p (.cells cs),θ:=T} s'.mem= {ε:=B.set p (.cells aW),θ:=T++s'.mem.θ.filter fun i=>match(B.set p (κ.cells aW))[i]? with
   |some b=>!b.clean i
   |none=>false}:=by
  have e:s'.mem= {ε:=B.set p (.cells ξ)++bs,θ:=s'.mem.θ}:=by rw[<-hm]
  rw[e];simp only[Mem.back,h5];rw[fj,e1];rfl
 rw[fj,hv,h6]at hc;refine⟨aW,qW,_,hc,e2,fun i hi=>?_⟩;rcases dE.1 hi with hi|hi
 ·exact .inl hi
 ·obtain⟨h7,h8⟩:=List.mem_filter.1 hi;rcases ht i h7 with rfl|h9
  ·exact .inr rfl
  ·rw[gZ (by simpa using h9)]at h8;cases h8
variable(hl:all.length<1000000000)(ab:∀t∈all,t.Ok)(hc:aJ c)
def UD:δ->AV->Prop:=fun x v=>v= .agg x.cells/\x.Ok
def Ng(s:List Nat)(all:List Tok)(c:χ)(e n:Nat)(B:List κ)(p:Nat)(a:RS)(st:St):Prop:=
 ζ st.env 2= .ν B.length 0/\ζ st.env 4= .ae 4 0 0/\(∃z,τ st.loc 4=some (0,.cells z)/\z.length=14)/\ζ st.env 5= .ν (B.length+1) 0∧
  ∃k g nm cp pl sz cs ext tt item b,st.mem= {ε:=B.set p (.cells cs)++([.cells [.ν p 0],.cells (sC k g nm cp (pl.map Γ.av) sz.four)]++ext),θ:=tt}/\cE s all c item cs b/\(∀i∈tt,i=p\/B.length<=i)/\cX nm/\(∀y∈pl,y.Ok)/\sz.ey∧
   Θ (jZ e (au e n)) a (.mk k g nm (cp.exp 0 false) pl sz z0 .nil [] .nil []) b
include hl ab hc
omit hl ab hc in
theorem iN.at{α:Type}{Rel:List AV->RS->Prop}{f:FuncId}{args:List AV}{P:PS->R α}{E:α->AV->Prop}{a:RS}(h:iN u Rel f args P E a){B:List κ}(D:List κ){p:Nat}{cs:List AV}(hp:p<B.length)(hr:Rel cs a):
  ∃v x ξ b,(∀T,aU (C u) (.fn (.func f) [] []) (.ν p 0::args) {ε:=B.set p (.cells cs)++D,θ:=T}=some (v,{ε:=B.set p (.cells ξ)++D,θ:=T}))/\Rel ξ b/\Θ P a x b/\E x v:=by
 obtain⟨v,x,ξ,b,h1,h2⟩:=h (B++D) p cs (by simp;omega) hr;simp only[lL _ _ hp]at h1;exact⟨v,x,ξ,b,h1,h2⟩
omit ab hc in
theorem A5{item:AV}(w:List Nat){B:List κ}(D:List κ){p:Nat}{cs:List AV}{a:RS}(hp:p<B.length)(h:cE s all c item cs a)(t:Bool)(hb:a.aB w=t)(T:List Nat):
  kf u 268 [.ν p 0,.list .full [.str w]] {ε:=B.set p (.cells cs)++D,θ:=T}=some (.bool t,{ε:=B.set p (.cells cs)++D,θ:=T}):=by
 have:=DN (u:=u) w hl (B:=B++D) (p:=p) (by simp;omega) h hb T;simpa only[lL _ _ hp]using this
theorem f297{n:Nat}(a:RS)(ha:a.sz<n)(word:List Nat)(hw:∀st,a= .r st->word=st.hd):tc u s all c 297 [.str word] (Av s.length (au s.length n)) UD a:=by
 intro B p cs item T hp h;have dj:μ (C u).gl (aU (C u)) O1 {env:=[.ν p 0,.str word],loc:=[],mem:= {ε:=B.set p (.cells cs),θ:=[]}} fun r=>(∀i,r.1≠ .exit i)/\∃x L ξ ext tt item b,r.2.mem= {ε:=B.set p (.cells ξ)++ext,θ:=tt}/\(∀i∈tt,i=p\/B.length<=i)∧
   ζ r.2.env 4= .ae 4 0 0/\τ r.2.loc 4=some (0,.cells L)/\bB L x.cells/\x.Ok/\cE s all c item ξ b/\Θ (Av s.length (au s.length n)) a x b:=by
  have QP:(C u).gl 0= .ref [nj .any bu]:=zB;have q85:=fun m=>f85 (u:=u) .any (.inr rfl) bu word (by decide) m;have hgate:placeOf bu word+1=(eP word:Int):=by unfold placeOf eP;cases bu.findIdx? fun x=>x==word<;>simp
  have Y4:eP word<=12:=by
   unfold eP;cases hf:bu.findIdx? fun x=>x==word with
   |none=>simp
   |some i=>
    have:=(List.findIdx?_eq_some_iff_findIdx_eq.1 hf).1
    have hl:bu.length=12:=rfl;simp only;omega
  have cV:a_ .i64 (placeOf bu word+1)=eP word:=by rw[hgate,wrap_i64 (by omega) (by omega)]
  refine ω (fun st=>ζ st.env 1= .str word/\ζ st.env 2= .ν B.length 0/\ζ st.env 4= .ae 4 0 0/\(∃z,τ st.loc 4=some (0,.cells z)/\z.length=14)/\st.mem= {ε:=B.set p (.cells cs)++[.cells [.ν p 0]],θ:=[]}) (by simp[aR,Mem.push,Mem.φ,φ]) fun s1 ⟨h1,h2,h4,⟨z,h5,h6⟩,h7⟩=>?_;let K:St->Prop:=fun st=>ζ st.env 1= .str word/\ζ st.env 2= .ν B.length 0/\ζ st.env 4= .ae 4 0 0/\τ st.loc 4=some (0,.cells z)/\ζ st.env 5= .ν (B.length+1) 0;refine ω (fun st=>K st/\st.mem= {ε:=B.set p (.cells cs)++[.cells [.ν p 0],.cells [.int .i64 0,.int .i64 0,.str [],.list .nil [],.int .i64 0,.int .i64 0,.str [],.list .nil [],.int .i64 0,.int .i64 0,.str [],.list .nil [],.list .nil [],.list .nil []]],θ:=[]}) (by simp[K,aR,Mem.push,Mem.φ,φ,cW,h1,h2,h4,h5,h7]) fun s1 ⟨⟨h1,h2,h4,h5,h8⟩,h7⟩=>?_;refine ω (fun st=>(K st/\st.mem= {ε:=B.set p (.cells cs)++[.cells [.ν p 0],.cells [.int .i64 0,.int .i64 0,.str [],.list .nil [],.int .i64 0,.int .i64 0,.str [],.list .nil [],.int .i64 0,.int .i64 0,.str [],.list .nil [],.list .nil [],.list .nil []]],θ:=[]})/\ζ st.env 6= .int .i64 (eP word)) (by simp[K,h1,h2,h4,h5,h7,h8,QP,q85,cV]) fun s1 ⟨⟨⟨h1,h2,h4,h5,h8⟩,h7⟩,h9⟩=>?_;refine bc (Ng s all c s.length n B p a) ?_ fun s2 ⟨m2,m4,⟨z',m5,m6⟩,m8,k,g,nm,cp,pl,sz,aX,ext,tt,Hc,b,m7,m9,m10,m11,m12,m13,m14⟩=>?_
  ·refine μ.block ?_;have di:∀(X:List κ) (L:List AV) (e:List κ),X.length=B.length->(X++κ.cells [.ν p 0]::κ.cells L::e)[B.length]?=some (.cells [.ν p 0]):=fun X L e h=>by rw[<-h];simp
   have GM:∀(X:List κ) (L:List AV) (e:List κ),X.length=B.length->(X++κ.cells [.ν p 0]::κ.cells L::e)[B.length+1]?=some (.cells L):=fun X L e h=>by rw[<-h];simp
   have vY:∀(X:List κ) (L L':List AV) (e:List κ),X.length=B.length->(X++κ.cells [.ν p 0]::κ.cells L::e).set (B.length+1) (.cells L')=X++κ.cells [.ν p 0]::κ.cells L'::e:=fun X L L' e h=>by rw[<-h];simp
   have hX:∀cs,(B.set p (κ.cells cs)).length=B.length:=fun cs=>by simp
   have g0:=fun cs L e=>di (B.set p (.cells cs)) L e (hX cs);have g1:=fun cs L e=>GM (B.set p (.cells cs)) L e (hX cs);have gs:=fun cs L L' e=>vY (B.set p (.cells cs)) L L' e (hX cs);clear di GM vY;have fin:∀(k g:Int) (nm:List Nat) (cp:χ) (pl:List Γ) (sz:η) (ξ:List AV) (ext:List κ) (tt:List Nat) (dM:AV) (b:RS) (st:St),
     K st/\st.mem= {ε:=B.set p (.cells ξ)++(κ.cells [.ν p 0]::κ.cells (sC k g nm cp (pl.map Γ.av) sz.four)::ext),θ:=tt}->cE s all c dM ξ b->(∀i∈tt,i=p\/B.length<=i)->cX nm->(∀y∈pl,y.Ok)->sz.ey→
     Θ (jZ s.length (au s.length n)) a (.mk k g nm (cp.exp 0 false) pl sz z0 .nil [] .nil []) b->Ng s all c s.length n B p a st:=fun k g nm cp pl sz ξ ext tt dM b st ⟨⟨m1,m2,m4,m5,m8⟩,m7⟩ q1 q2 q3 q4 q5 q6=>
    ⟨m2,m4,⟨z,m5,h6⟩,m8,k,g,nm,cp,pl,sz,ξ,ext,tt,dM,b,m7,q1,q2,q3,q4,q5,q6⟩
   have eS:∀i∈([]:List Nat),i=p\/B.length<=i:=by simp
   have Re:∀y∈([]:List Γ),y.Ok:=by simp
   by_cases GN:0<eP word
   ·have Kq:(0:Int)<eP word:=by omega
    obtain⟨_,w1,aX,a1,k1,r1,bQ,rfl⟩:=(f226 (u:=u) (item:=item) word hl ab a).at [.cells [.ν p 0],.cells [.int .i64 0,.int .i64 0,.str [],.list .nil [],.int .i64 0,.int .i64 0,.str [],.list .nil [],.int .i64 0,.int .i64 0,.str [],.list .nil [],.list .nil [],.list .nil []]] hp h;have s1:=bQ.sz (cr _ _);have afd:=fun m=>f272 (u:=u) (eP word) (by omega) m;have Yi:1<=gS (eP word)/\gS (eP word)<=3:=by unfold gS;(repeat' split)<;>omega
    generalize Kr:(eP word:Int)=gw at*;generalize J0:gS gw=ar at*;let pl:PS->R Γ:=gP s.length (au s.length n);let T1:PS->R (List Γ):=fun t=>(pl t).bind fun p t=>lF s.length pl (ar-1) [p] t;have jf:cT pl:=Ef _ (e_ _ _);let Y:List AV->χ->List Γ->List κ->List κ:=fun cs cp l ext=>B.set p (.cells cs)++(κ.cells [.ν p 0]::κ.cells (sC 1 gw [] cp (l.map Γ.av) z0.four)::ext);refine ω (fun st=>K st/\ζ st.env 6= .int .i64 gw/\ζ st.env 21= .bool true/\st.mem= {ε:=B.set p (.cells cs)++[.cells [.ν p 0],.cells [.int .i64 0,.int .i64 0,.str [],.list .nil [],.int .i64 0,.int .i64 0,.str [],.list .nil [],.int .i64 0,.int .i64 0,.str [],.list .nil [],.list .nil [],.list .nil []]],θ:=[]}) (by simp[K,h1,h2,h4,h5,h7,h8,h9,Kq]) fun s1 ⟨⟨h1,h2,h4,h5,h8⟩,h9,aH,h7⟩=>?_;refine μ.yes (by simp[aH]) ?_;refine ω (fun st=>K st/\ζ st.env 6= .int .i64 gw/\st.mem= {ε:=B.set p (.cells aX)++[.cells [.ν p 0],.cells [.int .i64 0,.int .i64 0,.str [],.list .nil [],.int .i64 0,.int .i64 0,.str [],.list .nil [],.int .i64 0,.int .i64 0,.str [],.list .nil [],.list .nil [],.list .nil []]],θ:=[]}) (by simp[K,h1,h2,h4,h5,h7,h8,h9,k1,g0,g1]) fun s1 ⟨⟨h1,h2,h4,h5,h8⟩,h9,h7⟩=>?_;refine ω (fun st=>K st/\ζ st.env 6= .int .i64 gw/\st.mem= {ε:=Y aX .nil [] [],θ:=[]}) (by simp[K,Y,h1,h2,h4,h5,h7,h8,h9,g0,g1,gs,Mem.put,Mem.φ,φ,bp,lo,sN,uf]) fun s1 ⟨⟨h1,h2,h4,h5,h8⟩,h9,h7⟩=>?_;let I:Nat->St->Prop:=fun i st=>K st/\ζ st.env 31= .int .i64 ar/\ζ st.env 32= .int .i64 i/\∃ξ cp l ext tt b,st.mem= {ε:=Y ξ cp l ext,θ:=tt}/\l.length=i/\Row (B.length+2) (Y ξ cp l ext) 2 74 cp l.length/\(l=[]->cp= .nil)/\(∀y∈l,y.Ok)/\(∀i∈tt,i=p\/B.length<=i)/\cE s all c item ξ b/\b.sz<=a1.sz∧
     ((l=[]/\b=a1)\/(0<i/\∀y b',Θ (lF s.length pl (ar-i) l) b y b'->Θ T1 a1 y b'))
    refine μ.mono (Q:=fun r=>r.1= .normal/\∃ξ cp l ext tt b,K r.2/\r.2.mem= {ε:=Y ξ cp l ext,θ:=tt}/\(l≠[]/\cp.exp 0 false= .any)/\(∀y∈l,y.Ok)/\(∀i∈tt,i=p\/B.length<=i)/\cE s all c item ξ b/\Θ T1 a1 l b) ?_ fun r ⟨sq,ξ,cp,l,ext,tt,b,q1,q2,⟨_,q3⟩,q4,q5,q6,q7⟩=>?_
    ·refine ω (fun st=>K st/\ζ st.env 31= .int .i64 ar/\ζ st.env 32= .int .i64 0/\st.mem= {ε:=Y aX .nil [] [],θ:=[]}) (by simp[K,h1,h2,h4,h5,h7,h8,h9,afd]) fun s1 ⟨hK,h9,aH,h7⟩=>?_;have hI:I 0 s1:=⟨hK,h9,aH,aX,.nil,[],[],[],a1,h7,rfl,Row.nil,fun _=>rfl,by simp,by simp,r1,bF _,.inl ⟨rfl,rfl⟩⟩;refine μ.block (μ.jt (I:=I) ar hI fun i st hi ψ=>?_);obtain⟨⟨h1,h2,h4,h5,h8⟩,h9,aH,ξ,cp,l,ext,tt,b,h7,jJ,dw,kQ,fz,lC,iW,eU,gU⟩:=ψ;unfold Se;rcases Nat.lt_or_ge i ar with ρ|cG
     ·have dq:(i:Int)<ar:=by omega
      have fU:a_ .i64 ((i:Int)+1)=(i:Int)+1:=wrap_i64 (by omega) (by omega);have place:∀aW b2,cE s all c item aW b2->b2.sz<=a1.sz->∃x aQ dJ ext' b3,(∀T,kf u 309 [.ν p 0] {ε:=Y aW cp l ext,θ:=T}=some (x.av,{ε:=Y aQ cp l ext,θ:=T}))∧
        (∀T,f_ {ε:=Y aQ cp l ext,θ:=T} true 2 40 74 (.list cp (l.map Γ.av)) (.list .full [x.av])=some (.list dJ (l.map Γ.av++[x.av]),{ε:=Y aQ cp l ext',θ:=T}))/\Row (B.length+2) (Y aQ dJ (l++[x]) ext') 2 74 dJ (l++[x]).length/\cE s all c item aQ b3/\Θ pl b2 x b3/\x.Ok/\b3.sz<=b2.sz:=by
       intro aW b2 zV lV;obtain⟨_,x,aQ,b3,k3,r3,bz,rfl,hx⟩:=(f309 (u:=u) (item:=item) (k:=n) hl ab b2 (by omega)).at (κ.cells [.ν p 0]::κ.cells (sC 1 gw [] cp (l.map Γ.av) z0.four)::ext) hp zV;have hY:∀cs cp l ext,Y cs cp l ext=(B.set p (.cells cs)++[κ.cells [.ν p 0],κ.cells (sC 1 gw [] cp (l.map Γ.av) z0.four)])++ext:=fun cs cp l ext=>by simp[Y]
       have gW:Row (B.set p (.cells aQ)++[κ.cells [.ν p 0],κ.cells (sC 1 gw [] cp (l.map Γ.av) z0.four)]).length ((B.set p (.cells aQ)++[κ.cells [.ν p 0],κ.cells (sC 1 gw [] cp (l.map Γ.av) z0.four)])++ext) 2 74 cp (l.map Γ.av).length:=by rw[hY]at dw;have:=Row.swap dw (P':=B.set p (.cells aQ)++[κ.cells [.ν p 0],κ.cells (sC 1 gw [] cp (l.map Γ.av) z0.four)]) (by simp) (by simp);rw[dd];simpa using this
       obtain⟨dJ,ext',fy,gC,-⟩:=qf (bytes:=40) gW (Ak l) (show shaped true 2 x.av=true by rfl) (Γ.nO x) (by omega) (by simp;omega) (by simp;omega);refine⟨x,aQ,dJ,ext',b3,k3,fun T=>by rw[hY,hY];exact fy T,?_,r3,bz,hx,bz.sz jf⟩;rw[dd]at gC;rw[hY];have:=Row.swap gC (P':=B.set p (.cells aQ)++[κ.cells [.ν p 0],κ.cells (sC 1 gw [] dJ ((l++[x]).map Γ.av) z0.four)]) (by simp) (by simp);simpa using this
      have done:∀x aQ dJ ext' b3 l7 s',K s'->ζ s'.env 31= .int .i64 ar->ζ s'.env 32= .int .i64 ((i:Int)+1)->s'.mem= {ε:=Y aQ dJ (l++[x]) ext',θ:=l7}->Row (B.length+2) (Y aQ dJ (l++[x]) ext') 2 74 dJ (l++[x]).length->cE s all c item aQ b3->x.Ok->b3.sz<=b.sz->(∀i∈l7,i=p\/B.length<=i)→
        (∀y b',Θ (lF s.length pl (ar-(i+1)) (l++[x])) b3 y b'->Θ T1 a1 y b')->I (i+1) s':=fun x aQ dJ ext' b3 l7 s' q1 q2 q3 q4 q5 q6 q7 q8 q9 fZ=>
       ⟨q1,q2,q3,aQ,dJ,l++[x],ext',l7,b3,q4,by simp[jJ],q5,fun h=>by simp at h,fun y hy=>(dE.1 hy).elim (fz y) fun h=>by rw[kX.1 h];exact q7,q9,q6,by omega,.inr ⟨by omega,fZ⟩⟩
      have vT:∀c l,((sC 1 gw [] c l z0.four).drop 3).take 1=[.list c l]:=fun _ _=>rfl;have so:∀c l c' l',(sC 1 gw [] c l z0.four).take 3++AV.list c' l'::(sC 1 gw [] c l z0.four).drop 4=sC 1 gw [] c' l' z0.four:=fun _ _ _ _=>rfl;have uz:∀c l,(sC 1 gw [] c l z0.four).length=14:=fun c l=>H0 1 gw [] c l z0;have eR:∀(x:Γ) (dJ:χ),x.Ok->∀m:Mem,m.φ (.list dJ (l.map Γ.av++[x.av]))= .list dJ (l.map Γ.av++[x.av]):=fun x dJ hx m=>by have:=(Dv.list dJ (bB.of Γ.av (l++[x]) fun y hy=>(dE.1 hy).elim (fun h=>Γ.fx (fz y h)) fun h=>by rw[kX.1 h];exact Γ.fx hx)).φ;rw[qn]at this;exact this
      rcases gU with⟨h0,ef⟩|⟨h0,gU⟩
      ·have GO:i=0:=by rw[<-jJ,h0];rfl
       obtain⟨x,aQ,dJ,ext',b3,k3,fy,gC,r3,bz,hx,x7⟩:=place ξ b iW eU;refine μ.done .normal (fun st=>K st/\ζ st.env 31= .int .i64 ar/\ζ st.env 32= .int .i64 ((i:Int)+1)/\∃l7,st.mem= {ε:=Y aQ dJ (l++[x]) ext',θ:=l7}/\∀i∈l7,i=p\/B.length<=i) (by
        have Zc:¬0<i:=by omega
        simp only[Y]at k3 fy h7⊢;simp[K,h1,h2,h4,h5,h7,h8,h9,aH,dq,Zc,fU,k3,fy,g0,g1,gs,Mem.put,vT,so,uz,eR x dJ hx,tB,dm,dy];intro j hj;split at hj
        ·exact lC j hj
        ·exact(dO.1 hj).elim (fun h=> .inr (by omega)) (lC j)) fun s' ⟨q1,q2,q3,l7,q4,q5⟩=> .inl ⟨rfl,ρ,done x aQ dJ ext' b3 l7 s' q1 q2 q3 q4 gC r3 hx x7 q5 ?_⟩
       intro y b' hg;rw[ef]at bz;rw[h0,GO]at hg;exact bz.bind (Q:=fun p t=>lF s.length pl (ar-1) [p] t) hg
      ·have vP:(0:Int)<i:=by omega
       obtain⟨_,w2,aW,b2,k2,r2,cz,rfl⟩:=(f226 (u:=u) (item:=item) [44] hl ab b).at (κ.cells [.ν p 0]::κ.cells (sC 1 gw [] cp (l.map Γ.av) z0.four)::ext) hp iW;have lV:=cz.sz (cr _ _);obtain⟨x,aQ,dJ,ext',b3,k3,fy,gC,r3,bz,hx,x7⟩:=place aW b2 r2 (by omega);refine μ.done .normal (fun st=>K st/\ζ st.env 31= .int .i64 ar/\ζ st.env 32= .int .i64 ((i:Int)+1)/\∃l7,st.mem= {ε:=Y aQ dJ (l++[x]) ext',θ:=l7}/\∀i∈l7,i=p\/B.length<=i) (by
        simp only[Y]at k3 fy h7⊢
        simp[K,h1,h2,h4,h5,h7,h8,h9,aH,dq,h0,fU,k2,k3,fy,g0,g1,gs,Mem.put,vT,so,uz,eR x dJ hx,tB,dm,dy];intro j hj;split at hj
        ·exact lC j hj
        ·exact(dO.1 hj).elim (fun h=> .inr (by omega)) (lC j)) fun s' ⟨q1,q2,q3,l7,q4,q5⟩=> .inl ⟨rfl,ρ,done x aQ dJ ext' b3 l7 s' q1 q2 q3 q4 gC r3 hx (by omega) q5 fun y b' hg=>gU y b' ?_⟩
       rw[show ar-i=(ar-(i+1))+1 by omega];exact cz.bind (Q:=fun _ t=>(pl t).bind fun p t=>lF s.length pl (ar-(i+1)) (l++[p]) t) (bz.bind (Q:=fun p t=>lF s.length pl (ar-(i+1)) (l++[p]) t) hg)
     ·have:i=ar:=by omega
      subst this;refine μ.done (.exit 1) (fun st=>K st/\st.mem= {ε:=Y ξ cp l ext,θ:=tt}) (by simp[K,h1,h2,h4,h5,h7,h8,h9,aH]) fun s' hh=> .inr ⟨by simp,.inl ⟨rfl,rfl,ξ,cp,l,ext,tt,b,hh.1,hh.2,?_,fz,lC,iW,?_⟩⟩
      ·have ak:l≠[]:=fun h=>by rw[h]at jJ;simp at jJ;omega
       refine⟨ak,?_⟩;rcases dw with⟨_,h⟩|⟨t,rfl,_,_⟩
       ·exact absurd (ma h) ak
       ·rfl
      ·rcases gU with⟨h,_⟩|⟨_,h⟩
       ·rw[h]at jJ;simp at jJ;omega
       ·refine h l b ?_;rw[Nat.sub_self];exact Θ.pure l b
    ·refine .inr ⟨by rw[sq];simp,.inl ⟨sq,fin 1 gw [] cp l z0 ξ ext tt item b r.2 ⟨q1,q2⟩ q6 q5 oZ q4 dD ?_⟩⟩;rw[q3];refine Θ.as (P:=fun t=>(aw s.length word t).bind fun _ t=>(T1 t).map fun l=> .mk 1 gw [] .any l z0 z0 .nil [] .nil []) (bQ.bind (q7.map fun l:List Γ=>δ.mk 1 gw [] .any l z0 z0 .nil [] .nil [])) fun st hs=>?_;have e3:=hw st hs;simp only[jZ,<-e3,GN,if_true,Kr,J0,T1,R.bind_map];rfl
   have B6:eP word=0:=by omega
   have sd:∀st,a= .r st->eP st.hd=0:=fun st hs=>by rw[<-hw st hs];exact B6
   rw[B6]at h9;have qb:=fun w t hb T=>A5 (u:=u) hl w [.cells [.ν p 0],.cells [.int .i64 0,.int .i64 0,.str [],.list .nil [],.int .i64 0,.int .i64 0,.str [],.list .nil [],.int .i64 0,.int .i64 0,.str [],.list .nil [],.list .nil [],.list .nil []]] hp h t hb T;have iG:∀w,a.aB w=true->∀st,a= .r st->st.hd=w:=fun w hb st hs=>by subst hs;exact beq_iff_eq.1 hb
   have lx:∀w,a.aB w=false->∀st,a= .r st->¬st.hd=w:=fun w hb st hs=>by subst hs;exact beq_eq_false_iff_ne.1 hb
   have qw:=(f226 (u:=u) (item:=item) word hl ab a).at [.cells [.ν p 0],.cells [.int .i64 0,.int .i64 0,.str [],.list .nil [],.int .i64 0,.int .i64 0,.str [],.list .nil [],.int .i64 0,.int .i64 0,.str [],.list .nil [],.list .nil [],.list .nil []]] hp h;obtain⟨_,w1,aX,a1,k1,r1,bQ,rfl⟩:=qw;have s1:=bQ.sz (cr _ _);cases b1:a.aB [116,97,107,101]with
   |true=>
    have iy:=qb _ _ b1
    obtain⟨_,x,aW,a2,k2,r2,cz,rfl,kD,pV⟩:=(f295 (u:=u) (item:=item) (k:=n) hl ab a1 (by omega)).at [.cells [.ν p 0],.cells [.int .i64 2,.int .i64 0,.str [],.list .nil [],.int .i64 0,.int .i64 0,.str [],.list .nil [],.int .i64 0,.int .i64 0,.str [],.list .nil [],.list .nil [],.list .nil []]] hp r1;refine μ.done .normal (fun st=>K st/\st.mem= {ε:=B.set p (.cells aW)++(κ.cells [.ν p 0]::κ.cells (sC 2 0 x.1 .nil [] x.2.four)::[]),θ:=[]}) (by simp[K,h1,h2,h4,h5,h7,h8,h9,iy,k1,k2,g0,g1,gs,Mem.put,Mem.φ,φ,bp,lo,Xn,Xm _ _ pV,sN]) fun s' hh=> .inr ⟨by simp,.inl ⟨rfl,fin 2 0 x.1 .nil [] x.2 aW [] [] item a2 s' hh r2 eS kD Re pV ?_⟩⟩;refine Θ.as (P:=fun t=>(aw s.length word t).bind fun _ t=>(sP s.length (au s.length n) t).map fun x=> .mk 2 0 x.1 .nil [] x.2 z0 .nil [] .nil []) (bQ.bind (cz.map fun x:List Nat×η=>δ.mk 2 0 x.1 .nil [] x.2 z0 .nil [] .nil [])) fun st hs=>?_;have e1:=iG _ b1 st hs;have e2:=sd st hs;have e3:=hw st hs;rw[e1]at e2 e3;simp[jZ,e1,e2,e3]
   |false=>
   have iy:=qb _ _ b1
   cases b2:a.aB [100,114,111,112]with
   |true=>
    have jr:=qb _ _ b2
    obtain⟨_,x,aW,a2,k2,r2,cz,rfl,hx⟩:=(f227 (u:=u) (item:=item) hl ab a1).at [.cells [.ν p 0],.cells [.int .i64 0,.int .i64 0,.str [],.list .nil [],.int .i64 0,.int .i64 0,.str [],.list .nil [],.int .i64 0,.int .i64 0,.str [],.list .nil [],.list .nil [],.list .nil []]] hp r1;refine μ.done .normal (fun st=>K st/\st.mem= {ε:=B.set p (.cells aW)++(κ.cells [.ν p 0]::κ.cells (sC 3 0 x .nil [] z0.four)::[]),θ:=[]}) (by simp[K,h1,h2,h4,h5,h7,h8,h9,iy,jr,k1,k2,g0,g1,gs,Mem.put,Mem.φ,φ,bp,lo,sN,uf]) fun s' hh=> .inr ⟨by simp,.inl ⟨rfl,fin 3 0 x .nil [] z0 aW [] [] item a2 s' hh r2 eS hx Re dD ?_⟩⟩;refine Θ.as (P:=fun t=>(aw s.length word t).bind fun _ t=>(fN s.length t).map fun x=> .mk 3 0 x .nil [] z0 z0 .nil [] .nil []) (bQ.bind (cz.map fun x:List Nat=>δ.mk 3 0 x .nil [] z0 z0 .nil [] .nil [])) fun st hs=>?_;have e1:=iG _ b2 st hs;have e2:=sd st hs;have e3:=hw st hs;rw[e1]at e2 e3;simp[jZ,e1,e2,e3]
   |false=>
   have jr:=qb _ _ b2
   cases b3:a.aB [109,101,97,115,117,114,101]with
   |true=>
    have kV:=qb _ _ b3
    obtain⟨_,x,aW,a2,k2,r2,cz,rfl,hx⟩:=(f309 (u:=u) (item:=item) (k:=n) hl ab a1 (by omega)).at [.cells [.ν p 0],.cells [.int .i64 0,.int .i64 0,.str [],.list .nil [],.int .i64 0,.int .i64 0,.str [],.list .nil [],.int .i64 0,.int .i64 0,.str [],.list .nil [],.list .nil [],.list .nil []]] hp r1;have s2:=cz.sz (Ef _ (e_ _ _));obtain⟨_,w3,aQ,a3,k3,r3,bz,rfl⟩:=(f226 (u:=u) (item:=item) [58] hl ab a2).at [.cells [.ν p 0],.cells [.int .i64 5,.int .i64 0,.str [],.list .full [x.av],.int .i64 0,.int .i64 0,.str [],.list .nil [],.int .i64 0,.int .i64 0,.str [],.list .nil [],.list .nil [],.list .nil []]] hp r2;obtain⟨_,y,dK,a4,k4,r4,dR,rfl,hy⟩:=(f227 (u:=u) (item:=item) hl ab a3).at [.cells [.ν p 0],.cells [.int .i64 5,.int .i64 0,.str [],.list .full [x.av],.int .i64 0,.int .i64 0,.str [],.list .nil [],.int .i64 0,.int .i64 0,.str [],.list .nil [],.list .nil [],.list .nil []]] hp r3;refine μ.done .normal (fun st=>K st/\st.mem= {ε:=B.set p (.cells dK)++(κ.cells [.ν p 0]::κ.cells (sC 5 0 y .full [x.av] z0.four)::[]),θ:=[]}) (by simp[K,h1,h2,h4,h5,h7,h8,h9,iy,jr,kV,k1,k2,k3,k4,g0,g1,gs,Mem.put,Mem.φ,φ,cW,Γ.nO,bp,lo,χ.lo,Tc _ _ hx,sN,uf]) fun s' hh=> .inr ⟨by simp,.inl ⟨rfl,fin 5 0 y .full [x] z0 dK [] [] item a4 s' hh r4 eS hy (by simpa using hx) dD ?_⟩⟩;refine Θ.as (P:=fun t=>(aw s.length word t).bind fun _ t=>(gP s.length (au s.length n) t).bind fun p t=>(aw s.length [58] t).bind fun _ t=>(fN s.length t).map fun x=> .mk 5 0 x .any [p] z0 z0 .nil [] .nil []) (bQ.bind (cz.bind (Q:=fun p t=>(aw s.length [58] t).bind fun _ t=>(fN s.length t).map fun x=>δ.mk 5 0 x .any [p] z0 z0 .nil [] .nil []) (bz.bind (dR.map fun y:List Nat=>δ.mk 5 0 y .any [x] z0 z0 .nil [] .nil [])))) fun st hs=>?_;have e1:=iG _ b3 st hs;have e2:=sd st hs;have e3:=hw st hs;rw[e1]at e2 e3;simp[jZ,e1,e2,e3]
   |false=>
   have kV:=qb _ _ b3
   cases b4:a.aB [114,101,115,101,116]with
   |true=>
    have mI:=qb _ _ b4
    obtain⟨_,x,aW,a2,k2,r2,cz,rfl,hx⟩:=(f309 (u:=u) (item:=item) (k:=n) hl ab a1 (by omega)).at [.cells [.ν p 0],.cells [.int .i64 0,.int .i64 0,.str [],.list .nil [],.int .i64 0,.int .i64 0,.str [],.list .nil [],.int .i64 0,.int .i64 0,.str [],.list .nil [],.list .nil [],.list .nil []]] hp r1;refine μ.done .normal (fun st=>K st/\st.mem= {ε:=B.set p (.cells aW)++(κ.cells [.ν p 0]::κ.cells (sC 6 0 [] .full [x.av] z0.four)::[]),θ:=[]}) (by simp[K,h1,h2,h4,h5,h7,h8,h9,iy,jr,kV,mI,k1,k2,g0,g1,gs,Mem.put,Mem.φ,φ,cW,Γ.nO,bp,lo,χ.lo,Tc _ _ hx,sN,uf]) fun s' hh=> .inr ⟨by simp,.inl ⟨rfl,fin 6 0 [] .full [x] z0 aW [] [] item a2 s' hh r2 eS oZ (by simpa using hx) dD ?_⟩⟩;refine Θ.as (P:=fun t=>(aw s.length word t).bind fun _ t=>(gP s.length (au s.length n) t).map fun p=> .mk 6 0 [] .any [p] z0 z0 .nil [] .nil []) (bQ.bind (cz.map fun p:Γ=>δ.mk 6 0 [] .any [p] z0 z0 .nil [] .nil [])) fun st hs=>?_;have e1:=iG _ b4 st hs;have e2:=sd st hs;have e3:=hw st hs;rw[e1]at e2 e3;simp[jZ,e1,e2,e3]
   |false=>
   have mI:=qb _ _ b4
   obtain⟨_,x,aW,a2,k2,r2,cz,rfl,hx⟩:=(f227 (u:=u) (item:=item) hl ab a).at [.cells [.ν p 0],.cells [.int .i64 0,.int .i64 0,.str [],.list .nil [],.int .i64 0,.int .i64 0,.str [],.list .nil [],.int .i64 0,.int .i64 0,.str [],.list .nil [],.list .nil [],.list .nil []]] hp h;have s2:=cz.sz (jb _);obtain⟨_,w3,aQ,a3,k3,r3,bz,rfl⟩:=(f226 (u:=u) (item:=item) [40] hl ab a2).at [.cells [.ν p 0],.cells [.int .i64 9,.int .i64 0,.str x,.list .nil [],.int .i64 0,.int .i64 0,.str [],.list .nil [],.int .i64 0,.int .i64 0,.str [],.list .nil [],.list .nil [],.list .nil []]] hp r2;have s3:=bz.sz (cr _ _);obtain⟨B4,T4,l,dK,a4,k4,⟨c4,bo,rfl,x6,KP,xP⟩,r4,dR,Lc⟩:=f228 (u:=u) hl ab (I:=sI B p 9 0 x) (fn:= .fn (.func 310) [] [.ν (B.length+1) 0,.ν B.length 0]) (P:=gP s.length (au s.length n)) (k:=n) (N:=B.length) (M:=B.length+2) (p:=p) (Ef _ (e_ _ _)) rfl rfl
    (fun m hm=>by
     have q1:B.length+1<m:=by omega
     have q2:B.length<m:=by omega
     simp[exp,bn,Fn.below,q1,q2]) (fun l B' ⟨c,ext,h,_⟩=>by rw[h];simp[sT];omega) (f310 hl ab hp 9 0 x n) [] ⟨.nil,[],by simp;rfl,Row.nil,fun _=>rfl,by simp⟩ r3 (by omega)
   have e0:∀cs D,(B++D).set p (.cells cs)=B.set p (.cells cs)++D:=fun cs D=>lL _ _ hp;simp only[cj,e0]at k4;have ec:c4.exp 0 false=Φ l:=by
    by_cases h0:l=[]
    ·rw[KP h0,h0];rfl
    ·rcases x6 with⟨_,hc⟩|⟨t,rfl,_,_⟩
     ·exact absurd (ma hc) h0
     ·cases l with
      |nil=>exact absurd rfl h0
      |cons a l=>rfl
   have LA:kf u 228 [.ν p 0,.str [41],.fn (.func 310) [] [.ν (B.length+1) 0,.ν B.length 0]] {ε:=B.set p (.cells aQ)++[.cells [.ν p 0],.cells [.int .i64 9,.int .i64 0,.str x,.list .nil [],.int .i64 0,.int .i64 0,.str [],.list .nil [],.int .i64 0,.int .i64 0,.str [],.list .nil [],.list .nil [],.list .nil []]],θ:=[]}=some (.aP [],{ε:=B.set p (.cells dK)++(κ.cells [.ν p 0]::κ.cells (sC 9 0 x c4 (l.map Γ.av) z0.four)::bo),θ:=T4}):=k4;refine μ.done .normal (fun st=>K st/\st.mem= {ε:=B.set p (.cells dK)++(κ.cells [.ν p 0]::κ.cells (sC 9 0 x c4 (l.map Γ.av) z0.four)::bo),θ:=T4}) (by simp[K,h1,h2,h4,h5,h7,h8,h9,iy,jr,kV,mI,k2,k3,LA,g0,g1,gs,Mem.put,Mem.φ,φ,bp,lo]) fun s' hh=> .inr ⟨by simp,.inl ⟨rfl,fin 9 0 x c4 l z0 dK bo T4 _ a4 s' hh r4 (fun i hi=>(Lc i hi).elim (fun h=>by cases h) id) hx xP dD ?_⟩⟩;rw[ec];refine Θ.as (P:=fun t=>(fN s.length t).bind fun x t=>(aw s.length [40] t).bind fun _ t=>(lY s.length (gP s.length (au s.length n)) t).map fun l=> .mk 9 0 x (Φ l) l z0 z0 .nil [] .nil []) (cz.bind (Q:=fun x t=>(aw s.length [40] t).bind fun _ t=>(lY s.length (gP s.length (au s.length n)) t).map fun l=>δ.mk 9 0 x (Φ l) l z0 z0 .nil [] .nil []) (bz.bind (dR.map fun l:List Γ=>δ.mk 9 0 x (Φ l) l z0 z0 .nil [] .nil []))) fun st hs=>?_;simp[jZ,sd st hs,lx _ b1 st hs,lx _ b2 st hs,lx _ b3 st hs,lx _ b4 st hs]
  ·have g0:∀cs L (e:List κ),(B.set p (κ.cells cs)++κ.cells [.ν p 0]::κ.cells L::e)[B.length]?=some (.cells [.ν p 0]):=fun cs L e=>by simp
   have g1:∀cs L (e:List κ),(B.set p (κ.cells cs)++κ.cells [.ν p 0]::κ.cells L::e)[B.length+1]?=some (.cells L):=fun cs L e=>by simp
   obtain⟨_,w3,aQ,a3,k3,r3,bz,rfl⟩:=(f226 (u:=u) (item:=Hc) [59] hl ab b).at (κ.cells [.ν p 0]::κ.cells (sC k g nm cp (pl.map Γ.av) sz.four)::ext) hp m9;have hL:=yH (k:=k) (g:=g) (nm:=nm) (cp:=cp) m12 m13;have dU:(sC k g nm cp (pl.map Γ.av) sz.four).length=14:=by rw[hL.len,δ.jT]
   have eB:(sC k g nm cp (pl.map Γ.av) sz.four).take 14=sC k g nm cp (pl.map Γ.av) sz.four:=dY (by omega);refine μ.done .ret (fun st=>st.mem= {ε:=B.set p (.cells aQ)++(κ.cells [.ν p 0]::κ.cells (sC k g nm cp (pl.map Γ.av) sz.four)::ext),θ:=tt}/\ζ st.env 4= .ae 4 0 0/\τ st.loc 4=some (0,.cells (sC k g nm cp (pl.map Γ.av) sz.four))) (by
    simp only[eO,cI]at m7
    simp[m2,m4,m5,m6,m7,m8,g0,g1,k3,dU,eB]) fun s' ⟨q1,q2,q3⟩=>⟨by simp,_,_,aQ,_,tt,Hc,a3,q1,m10,q2,q3,hL,⟨m11,?_,m12,m13,dD,.inl rfl,trivial,.inl rfl,trivial⟩,r3,m14.bind (bz.map fun _=>_)⟩
   cases cp<;>first|exact .inl rfl|exact .inr rfl
 obtain⟨r,e1,e2,x,L,ξ,ext,tt,dM,b,e3,e4,e5,e6,e7,e8,e9,mO⟩:=dj;have hL:L.length=14:=by rw[e7.len,δ.jT]
 have eB:L.take 14=L:=dY (by omega);obtain⟨aW,qW,T',rQ,vD,Ji⟩:=HA (u:=u) hc (f:=297) (g:=Gc) (args:=[.str word]) (v:= .agg x.cells) rfl rfl rfl hp rfl e1 e2 (by rw[e3]) e9 (by rw[e3];exact e4) (l:=[.agg L]) (by simp[Gc,e5,e6,hL,eB]) ((Dv.agg e7).ai _ _ _) T;exact⟨_,x,aW,qW,b,T',rQ,vD,mO,⟨rfl,e8⟩,Ji⟩
end
end Go.ah.Tz
namespace Go.ah
mutual
def Sp.cells:Sp->List AV
 | .mk f t ins=>[.int .i64 f,.int .i64 t,.list (Φ ins) (Sp.lists ins)]
def Sp.lists:List (List Sp)->List AV
 |[]=>[]
 |l::r=> .list (Φ l) (Sp.Δ l)::Sp.lists r
def Sp.Δ:List Sp->List AV
 |[]=>[]
 |x::l=> .agg x.cells::Sp.Δ l
end
theorem y7{α:Type}(l:List α):(Φ l).exp 0 false=Φ l:=by cases l<;>rfl
mutual
theorem Sp.fx:∀x:Sp,bB x.cells x.cells
 | .mk f t ins=>by have:=Dv.list (Φ ins) (Sp.zp ins);rw[y7]at this;simp only[Sp.cells];exact .cons (.int _ _) (.cons (.int _ _) (.cons this .nil))
theorem Sp.zp:∀l:List (List Sp),bB (Sp.lists l) (Sp.lists l)
 |[]=> .nil
 |l::r=>by have:=Dv.list (Φ l) (Sp.zq l);rw[y7]at this;simp only[Sp.lists];exact .cons this (Sp.zp r)
theorem Sp.zq:∀l:List Sp,bB (Sp.Δ l) (Sp.Δ l)
 |[]=> .nil
 |x::l=>by simp only[Sp.Δ];exact .cons (.agg (Sp.fx x)) (Sp.zq l)
end
theorem Sp.uW(l:List (List Sp)):Sp.lists l=l.map fun x=>AV.list (Φ x) (Sp.Δ x):=by
 induction l with
 |nil=>rfl
 |cons a l ih=>simp[Sp.lists,ih]
theorem Sp.eo(l:List Sp):Sp.Δ l=l.map fun x=>AV.agg x.cells:=by
 induction l with
 |nil=>rfl
 |cons a l ih=>simp[Sp.Δ,ih]
namespace Tz
open Go.ah
variable{u:Nat}
attribute [local simp] exec ed dP eX aC dQ ft eL ζ gg τ fW gy gH gI lf AV.cells newVar gE rd wr fK single eV bY ek dF μ aY RV.get aV dB iE
attribute [local simp] vd u2 zm Au Ah η.gK
theorem δ.fx(x:δ):x.Ok->bB x.cells x.cells:=by
 refine δ.jY (Q:=fun x=>x.Ok->bB x.cells x.cells) (fun k g nm cp pl size to cb body ce aG h1 h2 h=>?_) x;obtain⟨q1,q2,q3,q4,q5,q6,q7,q8,q9⟩:=h;have hl:∀(c:χ) (l:List δ),aJ c->(∀y∈l,y.Ok->bB y.cells y.cells)->δ.c7 l->Dv (.list c (δ.Δ l)) (.list c (δ.Δ l)):=fun c l hc hy ho=>by have:=Dv.list c (bB.of δ.av l fun y hm=>Dv.agg (hy y hm (δ.gO ho y hm)));rw[fb hc]at this;rw[δ.eo];exact this
 have hp:=Dv.list cp (bB.of Γ.av pl fun y hy=>Γ.fx (q3 y hy));rw[fb q2]at hp;simp only[δ.cells];exact((bB.append (.cons (.int _ _) (.cons (.int _ _) (.cons (.str _) (.cons hp .nil)))) (iD q4)).append (iD q5)).append (.cons (hl _ _ q6 h1 q7) (.cons (hl _ _ q8 h2 q9) .nil))
theorem H3{l:List δ}(h:δ.c7 l):bB (δ.Δ l) (δ.Δ l):=by rw[δ.eo];exact bB.of δ.av l fun y hm=>Dv.agg (δ.fx y (δ.gO h y hm))
theorem Sr(l:List (List Sp)):(Sp.lists l).all (shaped false 1)=true:=by rw[Sp.uW];simp[mK,shaped,AV.one,Function.comp]
theorem hH{α:Type}(l:List α):aJ (Φ l):=by cases l<;>simp[Φ,aJ]
def Eb:List δ×List Sp->AV->Prop:=fun x v=>v= .aP [.list (Φ x.1) (δ.Δ x.1),.list (Φ x.2) (Sp.Δ x.2)]/\δ.c7 x.1
def hM(B:List κ)(p:Nat)(cs:List AV)(f:Int)(cp:χ)(ins:List (List Sp))(ext:List κ):List κ:=B.set p (.cells cs)++(κ.cells [.ν p 0]::κ.cells [.int .i64 f,.int .i64 0,.list cp (Sp.lists ins)]::ext)
section
variable{s:List Nat}{all:List Tok}{c:χ}
theorem tc.at{α:Type}{f:FuncId}{args:List AV}{P:PS->R α}{E:α->AV->Prop}{a:RS}(h:tc u s all c f args P E a){B:List κ}(D:List κ){p:Nat}{cs:List AV}{item:AV}(hp:p<B.length)(hr:cE s all c item cs a)(T:List Nat):
  ∃v x ξ dM b T',aU (C u) (.fn (.func f) [] []) (.ν p 0::args) {ε:=B.set p (.cells cs)++D,θ:=T}=some (v,{ε:=B.set p (.cells ξ)++D,θ:=T'})/\cE s all c dM ξ b/\Θ P a x b/\E x v/\∀i∈T',i∈T\/i=p:=by
 obtain⟨v,x,ξ,dM,b,T',h1,h2⟩:=h (B++D) p cs item T (by simp;omega) hr;simp only[lL _ _ hp]at h1;exact⟨v,x,ξ,dM,b,T',h1,h2⟩
theorem f294{k:Nat}{P:PS->R (List δ×List Sp)}(hb:∀a:RS,a.sz<k->tc u s all c 231 [] P Eb a){B:List κ}{p:Nat}(hp:p<B.length)(f:Int)(cp:χ)(ins:List (List Sp))(ext:List κ)(T:List Nat){cs:List AV}{item:AV}{a:RS}
  (hr:Row (B.length+2) (hM B p cs f cp ins ext) 1 257 cp ins.length) (hlen:ins.length<100) (h:cE s all c item cs a) (ha:a.sz<k):
  ∃x dJ ξ dM ext' b T',aU (C u) (.fn (.func 294) [] [.ν B.length 0,.ν (B.length+1) 0]) [] {ε:=hM B p cs f cp ins ext,θ:=T}=some (.list (Φ x.1) (δ.Δ x.1),{ε:=hM B p ξ f dJ (ins++[x.2]) ext',θ:=T'})∧
   Row (B.length+2) (hM B p ξ f dJ (ins++[x.2]) ext') 1 257 dJ (ins++[x.2]).length/\cE s all c dM ξ b/\Θ P a x b/\δ.c7 x.1/\∀i∈T',i∈T\/i=p\/B.length<=i:=by
 obtain⟨_,x,aX,Hc,b,T1,k1,r1,gv,⟨rfl,hx⟩,ht⟩:=(hb a ha).at (κ.cells [.ν p 0]::κ.cells [.int .i64 f,.int .i64 0,.list cp (Sp.lists ins)]::ext) hp h [];have hY:∀cs cp ins ext,hM B p cs f cp ins ext=(B.set p (.cells cs)++[κ.cells [.ν p 0],κ.cells [.int .i64 f,.int .i64 0,.list cp (Sp.lists ins)]])++ext:=fun cs cp ins ext=>by simp[hM]
 have gW:Row (B.set p (.cells aX)++[κ.cells [.ν p 0],κ.cells [.int .i64 f,.int .i64 0,.list cp (Sp.lists ins)]]).length ((B.set p (.cells aX)++[κ.cells [.ν p 0],κ.cells [.int .i64 f,.int .i64 0,.list cp (Sp.lists ins)]])++ext) 1 257 cp (Sp.lists ins).length:=by rw[hY]at hr;have:=Row.swap hr (P':=B.set p (.cells aX)++[κ.cells [.ν p 0],κ.cells [.int .i64 f,.int .i64 0,.list cp (Sp.lists ins)]]) (by simp) (by simp);rw[Sp.uW,dd,<-Sp.uW];simpa using this
 have Q9:φ (.list (Φ x.2) (Sp.Δ x.2))= .list (Φ x.2) (Sp.Δ x.2):=(Dv.list (Φ x.2) (Sp.zq x.2)).φ;have jU:(Sp.lists ins).length=ins.length:=by rw[Sp.uW,dd]
 obtain⟨dJ,ext',fy,gC,-⟩:=qf (bytes:=24) gW (Sr ins) (show shaped false 1 (.list (Φ x.2) (Sp.Δ x.2))=true by rfl) Q9 (by omega) (by rw[jU];omega) (by rw[jU];omega);have kz:Sp.lists (ins++[x.2])=Sp.lists ins++[.list (Φ x.2) (Sp.Δ x.2)]:=by simp[Sp.uW]
 have Qu:∀T,f_ {ε:=hM B p aX f cp ins ext,θ:=T} false 1 24 257 (.list cp (Sp.lists ins)) (.list .full [.list (Φ x.2) (Sp.Δ x.2)])=some (.list dJ (Sp.lists ins++[.list (Φ x.2) (Sp.Δ x.2)]),{ε:=hM B p aX f cp ins ext',θ:=T}):=fun T=>by rw[hY,hY];exact fy T
 have g0:∀cs cp ins ext,(hM B p cs f cp ins ext)[B.length]?=some (.cells [.ν p 0]):=fun cs cp ins ext=>by simp[hM]
 have g1:∀cs cp ins ext,(hM B p cs f cp ins ext)[B.length+1]?=some (.cells [.int .i64 f,.int .i64 0,.list cp (Sp.lists ins)]):=fun cs cp ins ext=>by simp[hM]
 have gs:∀cs cp ins ext dJ Lu,(hM B p cs f cp ins ext).set (B.length+1) (.cells [.int .i64 f,.int .i64 0,.list dJ (Sp.lists Lu)])=hM B p cs f dJ Lu ext:=fun cs cp ins ext dJ Lu=>by simp[hM]
 have k1':kf u 231 [.ν p 0] {ε:=hM B p cs f cp ins ext,θ:=[]}=some (.aP [.list (Φ x.1) (δ.Δ x.1),.list (Φ x.2) (Sp.Δ x.2)],{ε:=hM B p aX f cp ins ext,θ:=T1}):=k1;have eu:shaped false 1 (.list (Φ x.2) (Sp.Δ x.2))=true:=rfl;have KQ:∀m:Mem,m.φ (.list (Φ x.2) (Sp.Δ x.2))= .list (Φ x.2) (Sp.Δ x.2):=fun _=>Q9;have ZS:∀m:Mem,m.φ (.list dJ (Sp.lists (ins++[x.2])))= .list dJ (Sp.lists (ins++[x.2])):=fun _=>(Dv.list dJ (Sp.zp (ins++[x.2]))).φ;rw[<-kz]at Qu;have dj:μ (C u).gl (aU (C u)) IP {env:=[.ν B.length 0,.ν (B.length+1) 0],loc:=[],mem:= {ε:=hM B p cs f cp ins ext,θ:=[]}} fun r=>r.1= .ret/\ζ r.2.env 2= .list (Φ x.1) (δ.Δ x.1)/\∃tt,r.2.mem= {ε:=hM B p aX f dJ (ins++[x.2]) ext',θ:=tt}/\∀i∈tt,i=p\/B.length<=i:=by
  have mW:∀i∈T1,i=p\/B.length<=i:=fun i hi=>(ht i hi).elim (fun h=>by cases h) .inl;simp[IP,g0,g1,k1',eu,KQ,Qu,ZS,gs,Mem.put];intro j hj;split at hj
  ·exact mW j hj
  ·exact(dO.1 hj).elim (fun h=> .inr (by omega)) (mW j)
 obtain⟨⟨ex,s'⟩,e1,e2,e3,tt,e4,e5⟩:=dj;dsimp only at e2 e3 e4;subst e2;have dL:([]++[AV.ν B.length 0,.ν (B.length+1) 0]).map (exp (hM B p cs f cp ins ext).length true)=[AV.ν B.length 0,.ν (B.length+1) 0]:=by
  have q1:B.length<(hM B p cs f cp ins ext).length:=by simp[hM]
  have q2:B.length+1<(hM B p cs f cp ins ext).length:=by simp[hM]
  simp[exp,q1,q2]
 have cK:=uq (C:=C u) (f:=294) (g:=F') (args:=[]) (cap:=[.ν B.length 0,.ν (B.length+1) 0]) (m:= {ε:=hM B p cs f cp ins ext,θ:=T}) (l:=[.list (Φ x.1) (δ.Δ x.1)]) rfl rfl rfl (by rw[dL];exact e1) (by simp) (by simp[F',e3]);refine⟨x,dJ,aX,Hc,ext',b,T++tt,?_,?_,r1,gv,hx,fun i hi=>(dE.1 hi).imp id (e5 i)⟩
 ·refine cK.trans ?_;rw[e4];have:∀n,exp n true (.list (Φ x.1) (δ.Δ x.1))= .list (Φ x.1) (δ.Δ x.1):=fun n=>by
   have h1:bn n true (δ.Δ x.1)=δ.Δ x.1:=by rw[δ.eo,fo,c6];exact dt fun y hy=>by simp only[Function.comp,δ.av,exp];rw[δ.Eo _ _ y (δ.gO hx y hy)]
   simp only[exp,h1];cases x.1<;>rfl
  simp only[aV,this]
 ·have:=Row.swap gC (P':=B.set p (.cells aX)++[κ.cells [.ν p 0],κ.cells [.int .i64 f,.int .i64 0,.list dJ (Sp.lists (ins++[x.2]))]]) (by simp) (by simp);rw[hY,List.length_append,<-jU];simpa using this
variable(hl:all.length<1000000000)(ab:∀t∈all,t.Ok)(hc:aJ c)
def UC:δ×Sp->AV->Prop:=fun x v=>v= .aP [.agg x.1.cells,.agg x.2.cells]/\x.1.Ok
def Nh(s:List Nat)(all:List Tok)(c:χ)(B:List κ)(p:Nat)(f:Int)(P:PS->R (δ×List (List Sp)))(a:RS)(st:St):Prop:=
 ∃x cs cp ins ext tt item b,τ st.loc 4=some (0,.cells x.cells)/\x.Ok/\st.mem= {ε:=hM B p cs f cp ins ext,θ:=tt}/\(cp.exp 0 false=Φ ins)/\(∀i∈tt,i=p\/B.length<=i)/\cE s all c item cs b/\Θ P a (x,ins) b
include hl ab hc
theorem f271{n k:Nat}(hb:∀a:RS,a.sz<k->tc u s all c 231 [] (bT s.length (au s.length n) k) Eb a)(a:RS)(ha:a.sz<n)(JZ:a.sz<k+1):tc u s all c 271 [] (t_ s.length (gF s.length (au s.length n) (bT s.length (au s.length n) k))) UC a:=by
 intro B p cs item T hp h;obtain⟨tk,MA,pL⟩:∃tk:Tok,(∀D T,kf u 291 [.ν p 0] {ε:=B.set p (.cells cs)++D,θ:=T}=some (tk.ba,{ε:=B.set p (.cells cs)++D,θ:=T}))/\∀st,a= .r st->tk.text=st.hd/\tk.kind=st.kd/\tk.at_=st.at_ s.length:=by obtain⟨k0,wr,rfl,hk,hh⟩:=h;refine⟨pZ s all k0,fun D T=>?_,fun st ha=>by subst ha;exact LZ hh.2.1⟩;have:=f291 (u:=u) (s:=s) (c:=c) (item:=item) (B++D) p (by simp;omega) k0 wr T hl;simpa only[lL _ _ hp]using this
 simp only[Tok.ba]at MA;generalize ψ:gF s.length (au s.length n) (bT s.length (au s.length n) k)=P;have vU:cD P:=by rw[<-ψ];exact Bt _ (e_ _ _) (tA _ (e_ _ _) _)
 have dj:μ (C u).gl (aU (C u)) OO {env:=[.ν p 0],loc:=[],mem:= {ε:=B.set p (.cells cs),θ:=[]}} fun r=>(∀i,r.1≠ .exit i)/\∃x ξ cp ins ext tt item b to,r.2.mem.ε=B.set p (.cells ξ)++ext/\(∀i∈r.2.mem.θ,i=p\/B.length<=i)∧
   ζ r.2.env 2= .ae 2 0 0/\τ r.2.loc 2=some (0,.cells x.cells)/\ζ r.2.env 3= .ae 3 0 0/\τ r.2.loc 3=some (0,.cells [.int .i64 tk.at_,.int .i64 (to:Nat),.list cp (Sp.lists ins)])/\cp.exp 0 false=Φ ins/\x.Ok/\cE s all c item ξ b/\Θ P a (x,ins) b/\(∀t,b= .r t->to=t.last)/\tt=r.2.mem.θ:=by
  let K:St->Prop:=fun st=>ζ st.env 1= .ν B.length 0/\ζ st.env 2= .ae 2 0 0/\(∃z,τ st.loc 2=some (0,.cells z)/\z.length=14)/\ζ st.env 3= .ae 3 0 0/\(∃z,τ st.loc 3=some (0,.cells z)/\z.length=3);refine ω (fun st=>K st/\τ st.loc 4=none/\st.mem= {ε:=B.set p (.cells cs)++[.cells [.ν p 0]],θ:=[]}) (by simp[K,aR,Mem.push,Mem.φ,φ]) fun s1 ⟨⟨h1,h2,⟨z2,h3,fe⟩,h4,⟨z3,h5,kO⟩⟩,h6,h7⟩=>?_;let K2:St->Prop:=fun st=>K st/\ζ st.env 4= .ae 4 0 0;refine ω (fun st=>K2 st/\τ st.loc 4=some (0,.cells [.int .i64 0,.int .i64 0,.str [],.list .nil [],.int .i64 0,.int .i64 0,.str [],.list .nil [],.int .i64 0,.int .i64 0,.str [],.list .nil [],.list .nil [],.list .nil []])/\st.mem= {ε:=B.set p (.cells cs)++[.cells [.ν p 0]],θ:=[]}) (by simp[K2,K,aR,h1,h2,h3,fe,h4,h5,kO,h6,h7]) fun s1 ⟨⟨⟨h1,h2,⟨z2,h3,fe⟩,h4,⟨z3,h5,kO⟩⟩,h8⟩,h6,h7⟩=>?_;let K3:St->Prop:=fun st=>K2 st/\ζ st.env 5= .ν (B.length+1) 0;refine ω (fun st=>K3 st/\τ st.loc 4=some (0,.cells [.int .i64 0,.int .i64 0,.str [],.list .nil [],.int .i64 0,.int .i64 0,.str [],.list .nil [],.int .i64 0,.int .i64 0,.str [],.list .nil [],.list .nil [],.list .nil []])/\st.mem= {ε:=hM B p cs tk.at_ .nil [] [],θ:=[]}) (by simp[K3,K2,K,aR,h1,h2,h3,fe,h4,h5,kO,h6,h7,h8,MA,cF,Mem.push,Mem.put,Mem.φ,φ,cW,bp,lo,χ.lo,hM,Sp.lists]) fun s1 ⟨⟨⟨⟨h1,h2,⟨z2,h3,fe⟩,h4,⟨z3,h5,kO⟩⟩,h8⟩,h9⟩,h6,h7⟩=>?_;let K4:St->Prop:=fun st=>K3 st/\ζ st.env 6= .fn (.func 294) [] [.ν B.length 0,.ν (B.length+1) 0];refine ω (fun st=>K4 st/\τ st.loc 4=some (0,.cells [.int .i64 0,.int .i64 0,.str [],.list .nil [],.int .i64 0,.int .i64 0,.str [],.list .nil [],.int .i64 0,.int .i64 0,.str [],.list .nil [],.list .nil [],.list .nil []])/\st.mem= {ε:=hM B p cs tk.at_ .nil [] [],θ:=[]}) (by simp[K4,K3,K2,K,h1,h2,h3,fe,h4,h5,kO,h6,h7,h8,h9]) fun s1 ⟨⟨⟨⟨⟨h1,h2,⟨z2,h3,fe⟩,h4,⟨z3,h5,kO⟩⟩,h8⟩,h9⟩,aH⟩,h6,h7⟩=>?_;have g0:∀cs L (e:List κ),(B.set p (κ.cells cs)++κ.cells [.ν p 0]::κ.cells L::e)[B.length]?=some (.cells [.ν p 0]):=fun cs L e=>by simp
  refine bc (fun st=>K4 st/\Nh s all c B p tk.at_ P a st) ?_ fun s2 ⟨⟨⟨⟨⟨h1,h2,⟨z2,h3,fe⟩,h4,⟨z3,h5,kO⟩⟩,h8⟩,h9⟩,aH⟩,x,ξ,cp,ins,ext,tt,dM,b,m1,m2,m3,m4,m5,m6,m7⟩=>?_
  ·refine ω (fun st=>(K4 st/\τ st.loc 4=some (0,.cells [.int .i64 0,.int .i64 0,.str [],.list .nil [],.int .i64 0,.int .i64 0,.str [],.list .nil [],.int .i64 0,.int .i64 0,.str [],.list .nil [],.list .nil [],.list .nil []])/\st.mem= {ε:=B.set p (.cells cs)++(κ.cells [.ν p 0]::κ.cells [.int .i64 tk.at_,.int .i64 0,.list .nil (Sp.lists [])]::[]),θ:=[]})/\ζ st.env 7= .str tk.text) (by
    simp only[hM]at h7
    simp[K4,K3,K2,K,h1,h2,h3,fe,h4,h5,kO,h6,h7,h8,h9,aH,MA,g0]) fun s1 ⟨⟨⟨⟨⟨⟨h1,h2,⟨z2,h3,fe⟩,h4,⟨z3,h5,kO⟩⟩,h8⟩,h9⟩,aH⟩,h6,h7⟩,cO⟩=>?_
   refine μ.block ?_;have fin:∀(x:δ) (ξ:List AV) (cp:χ) (ins:List (List Sp)) (ext:List κ) (tt:List Nat) (dM:AV) (b:RS) (st:St),(K4 st/\τ st.loc 4=some (0,.cells x.cells)/\st.mem= {ε:=B.set p (.cells ξ)++(κ.cells [.ν p 0]::κ.cells [.int .i64 tk.at_,.int .i64 0,.list cp (Sp.lists ins)]::ext),θ:=tt})->x.Ok->cp.exp 0 false=Φ ins->(∀i∈tt,i=p\/B.length<=i)->cE s all c dM ξ b->Θ P a (x,ins) b->K4 st/\Nh s all c B p tk.at_ P a st:=
    fun x ξ cp ins ext tt dM b st ⟨q1,q2,q3⟩ q4 q5 q6 q7 q8=>⟨q1,x,ξ,cp,ins,ext,tt,dM,b,q2,q4,q3,q5,q6,q7,q8⟩
   have iG:∀w,a.aB w=true->∀st,a= .r st->st.hd=w:=fun w hb st hs=>by subst hs;exact beq_iff_eq.1 hb
   have lx:∀w,a.aB w=false->∀st,a= .r st->¬st.hd=w:=fun w hb st hs=>by subst hs;exact beq_eq_false_iff_ne.1 hb
   have qb:=fun w t hb T=>A5 (u:=u) hl w (κ.cells [.ν p 0]::κ.cells [.int .i64 tk.at_,.int .i64 0,.list .nil (Sp.lists [])]::[]) hp h t hb T;have db:∀(cp:χ) (ins:List (List Sp)) (X:List κ),ins≠[]->Row (B.length+2) X 1 257 cp ins.length->cp.exp 0 false=Φ ins:=fun cp ins X ak hr=>by
    rcases hr with⟨_,h⟩|⟨t,rfl,_,_⟩
    ·exact absurd (ma h) ak
    ·cases ins with
     |nil=>exact absurd rfl ak
     |cons a l=>rfl
   have xF:∀cs,Row (B.length+2) (hM B p cs tk.at_ .nil [] []) 1 257 .nil ([]:List (List Sp)).length:=fun cs=>Row.nil;have vQ:∀T1:List Nat,(∀i∈T1,i∈([]:List Nat)\/i=p\/B.length<=i)->∀i∈T1,i=p\/B.length<=i:=fun T1 h i hi=>(h i hi).elim (fun h=>by cases h) id;obtain⟨_,w1,aX,a1,k1,r1,bQ,rfl⟩:=(f226 (u:=u) (item:=item) tk.text hl ab a).at (κ.cells [.ν p 0]::κ.cells [.int .i64 tk.at_,.int .i64 0,.list .nil (Sp.lists [])]::[]) hp h;have MH:=bQ.sz (cr _ _);have tR:aJ .nil:= .inl rfl;have dw:∀(cs ξ:List AV) (cp:χ) (ins:List (List Sp)) (ext:List κ),Row (B.length+2) (hM B p cs tk.at_ cp ins ext) 1 257 cp ins.length->Row (B.length+2) (hM B p ξ tk.at_ cp ins ext) 1 257 cp ins.length:=fun cs ξ cp ins ext h=>by
    have e:∀cs,hM B p cs tk.at_ cp ins ext=(B.set p (.cells cs)++[κ.cells [.ν p 0],κ.cells [.int .i64 tk.at_,.int .i64 0,.list cp (Sp.lists ins)]])++ext:=fun cs=>by simp[hM]
    rw[e]at h⊢;exact Row.swap h (by simp) (by simp)
   cases b1:a.aB [98,111,114,114,111,119]with
   |true=>
    have iy:=qb _ _ b1
    have s1:=bQ.take (jD b1 (by simp));obtain⟨_,⟨nm,ik,ov,is,ic,il⟩,aW,a2,k2,r2,cz,rfl,kx,hx⟩:=(f295 (u:=u) (item:=item) (k:=n) hl ab a1 (by omega)).at (κ.cells [.ν p 0]::κ.cells [.int .i64 tk.at_,.int .i64 0,.list .nil (Sp.lists [])]::[]) hp r1;have s2:=cz.sz (Bv _ (e_ _ _));obtain⟨⟨bl,bi⟩,nA,aQ,CC,kN,a3,T3,k3,wj,r3,bz,eQ,jK⟩:=f294 (u:=u) hb hp tk.at_ .nil [] [] [] (xF aW) (by simp) r2 (by omega);simp only[hM,η.four,cI]at k2 k3;refine μ.done .normal (fun st=>K4 st/\τ st.loc 4=some (0,.cells (δ.mk 4 0 nm .nil [] (.mk ik ov is ic il) z0 (Φ bl) bl .nil []).cells)/\st.mem= {ε:=B.set p (.cells aQ)++(κ.cells [.ν p 0]::κ.cells [.int .i64 tk.at_,.int .i64 0,.list nA (Sp.lists [bi])]::kN),θ:=T3}) (by simp[K4,K3,K2,K,h1,h2,h3,fe,h4,h5,kO,h6,h7,h8,h9,aH,cO,g0,iy,k1,k2,k3,δ.cells,η.four,z0,η.Δ,δ.Δ]) fun s' hh=> .inr ⟨by simp,.inl ⟨rfl,fin _ _ _ _ _ _ _ _ s' hh ⟨kx,tR,by simp,hx,dD,hH _,eQ,tR,trivial⟩ (db _ _ _ (by simp) wj) (vQ _ jK) r3 ?_⟩⟩;rw[<-ψ];refine Θ.as (P:=fun t=>(aw s.length tk.text t).bind fun _ t=>(sP s.length (au s.length n) t).bind fun x t=>(bT s.length (au s.length n) k t).map fun b=>(δ.mk 4 0 x.1 .nil [] x.2 z0 (Φ b.1) b.1 .nil [],[b.2])) (bQ.bind (cz.bind (Q:=fun x t=>(bT s.length (au s.length n) k t).map fun b=>(δ.mk 4 0 x.1 .nil [] x.2 z0 (Φ b.1) b.1 .nil [],[b.2])) (bz.map fun b=>(δ.mk 4 0 nm .nil [] (.mk ik ov is ic il) z0 (Φ b.1) b.1 .nil [],[b.2])))) fun st hs=>?_;have e1:=iG _ b1 st hs;have e3:=(pL st hs).1;rw[e1]at e3;simp[gF,e1,e3]
   |false=>
   have iy:=qb _ _ b1
   cases b2:a.aB [105,102]with
   |true=>
    have jr:=qb _ _ b2
    have s1:=bQ.take (jD b2 (by simp));obtain⟨_,nm,aW,a2,k2,r2,cz,rfl,kx⟩:=(f227 (u:=u) (item:=item) hl ab a1).at (κ.cells [.ν p 0]::κ.cells [.int .i64 tk.at_,.int .i64 0,.list .nil (Sp.lists [])]::[]) hp r1;have s2:=cz.sz (jb _);obtain⟨⟨fw,gA⟩,nA,aQ,CC,kN,a3,T3,k3,wj,r3,bz,xG,jK⟩:=f294 (u:=u) hb hp tk.at_ .nil [] [] [] (xF aW) (by simp) r2 (by omega);have s3:=bz.sz (tA _ (e_ _ _) _);simp only[hM,cI]at k3;cases b3:a3.aB [101,108,115,101]with
    |true=>
     have qe:=fun T=>A5 (u:=u) hl [101,108,115,101] (κ.cells [.ν p 0]::κ.cells [.int .i64 tk.at_,.int .i64 0,.list nA (Sp.lists [gA])]::kN) hp r3 _ b3 T
     obtain⟨_,w4,dK,a4,k4,r4,dR,rfl⟩:=(f226 (u:=u) (item:=CC) [101,108,115,101] hl ab a3).at (κ.cells [.ν p 0]::κ.cells [.int .i64 tk.at_,.int .i64 0,.list nA (Sp.lists [gA])]::kN) hp r3;have s4:=dR.sz (cr _ _);have x6:Row (B.length+2) (hM B p dK tk.at_ nA [gA] kN) 1 257 nA [gA].length:=dw _ _ _ _ _ wj;obtain⟨⟨rI,xg⟩,I8,hS,RC,qI,a5,T5,k5,KZ,r5,gL,BS,sw⟩:=f294 (u:=u) hb hp tk.at_ nA [gA] kN T3 x6 (by simp) r4 (by omega);simp only[hM,eO,cI]at k5;refine μ.done .normal (fun st=>K4 st/\τ st.loc 4=some (0,.cells (δ.mk 7 0 nm .nil [] z0 z0 (Φ fw) fw (Φ rI) rI).cells)/\st.mem= {ε:=B.set p (.cells hS)++(κ.cells [.ν p 0]::κ.cells [.int .i64 tk.at_,.int .i64 0,.list I8 (Sp.lists [gA,xg])]::qI),θ:=T5}) (by simp[K4,K3,K2,K,h1,h2,h3,fe,h4,h5,kO,h6,h7,h8,h9,aH,cO,g0,iy,jr,k1,k2,k3,qe,k4,k5,δ.cells,η.four,z0,η.Δ,δ.Δ]) fun s' hh=> .inr ⟨by simp,.inl ⟨rfl,fin _ _ _ _ _ _ _ _ s' hh ⟨kx,tR,by simp,dD,dD,hH _,xG,hH _,BS⟩ (db _ _ _ (by simp) KZ) (fun i hi=>(sw i hi).elim (vQ _ jK i) id) r5 ?_⟩⟩;rw[<-ψ];refine Θ.as (P:=fun t=>(aw s.length tk.text t).bind fun _ t=>(fN s.length t).bind (fun nn t=>(bT s.length (au s.length n) k t).bind (fun b t=>if t.aB [101,108,115,101]then(aw s.length [101,108,115,101] t).bind fun _ t=>(bT s.length (au s.length n) k t).map fun d=>(δ.mk 7 0 nn .nil [] z0 z0 (Φ b.1) b.1 (Φ d.1) d.1,[b.2,d.2])else .ok (δ.mk 7 0 nn .nil [] z0 z0 (Φ b.1) b.1 .nil [],[b.2]) t))) (bQ.bind (Q:=fun _ t=>(fN s.length t).bind (fun nn t=>(bT s.length (au s.length n) k t).bind (fun b t=>if t.aB [101,108,115,101]then(aw s.length [101,108,115,101] t).bind fun _ t=>(bT s.length (au s.length n) k t).map fun d=>(δ.mk 7 0 nn .nil [] z0 z0 (Φ b.1) b.1 (Φ d.1) d.1,[b.2,d.2])else .ok (δ.mk 7 0 nn .nil [] z0 z0 (Φ b.1) b.1 .nil [],[b.2]) t))) (cz.bind (Q:=fun nn t=>(bT s.length (au s.length n) k t).bind (fun b t=>if t.aB [101,108,115,101]then(aw s.length [101,108,115,101] t).bind fun _ t=>(bT s.length (au s.length n) k t).map fun d=>(δ.mk 7 0 nn .nil [] z0 z0 (Φ b.1) b.1 (Φ d.1) d.1,[b.2,d.2])else .ok (δ.mk 7 0 nn .nil [] z0 z0 (Φ b.1) b.1 .nil [],[b.2]) t)) (bz.bind (Q:=fun b t=>if t.aB [101,108,115,101]then(aw s.length [101,108,115,101] t).bind fun _ t=>(bT s.length (au s.length n) k t).map fun d=>(δ.mk 7 0 nm .nil [] z0 z0 (Φ b.1) b.1 (Φ d.1) d.1,[b.2,d.2])else .ok (δ.mk 7 0 nm .nil [] z0 z0 (Φ b.1) b.1 .nil [],[b.2]) t) (Θ.as (P:=fun t=>(aw s.length [101,108,115,101] t).bind fun _ t=>(bT s.length (au s.length n) k t).map fun d=>(δ.mk 7 0 nm .nil [] z0 z0 (Φ fw) fw (Φ d.1) d.1,[gA,d.2])) (dR.bind (gL.map fun d=>(δ.mk 7 0 nm .nil [] z0 z0 (Φ fw) fw (Φ d.1) d.1,[gA,d.2]))) fun st hs=>by subst hs;exact if_pos b3)))) fun st hs=>?_;have e1:=iG _ b2 st hs;have e3:=(pL st hs).1;rw[e1]at e3;simp[gF,e1,e3]
    |false=>
     have qe:=fun T=>A5 (u:=u) hl [101,108,115,101] (κ.cells [.ν p 0]::κ.cells [.int .i64 tk.at_,.int .i64 0,.list nA (Sp.lists [gA])]::kN) hp r3 _ b3 T
     refine μ.done .normal (fun st=>K4 st/\τ st.loc 4=some (0,.cells (δ.mk 7 0 nm .nil [] z0 z0 (Φ fw) fw .nil []).cells)/\st.mem= {ε:=B.set p (.cells aQ)++(κ.cells [.ν p 0]::κ.cells [.int .i64 tk.at_,.int .i64 0,.list nA (Sp.lists [gA])]::kN),θ:=T3}) (by simp[K4,K3,K2,K,h1,h2,h3,fe,h4,h5,kO,h6,h7,h8,h9,aH,cO,g0,iy,jr,k1,k2,k3,qe,δ.cells,η.four,z0,η.Δ,δ.Δ]) fun s' hh=> .inr ⟨by simp,.inl ⟨rfl,fin _ _ _ _ _ _ _ _ s' hh ⟨kx,tR,by simp,dD,dD,hH _,xG,tR,trivial⟩ (db _ _ _ (by simp) wj) (vQ _ jK) r3 ?_⟩⟩;rw[<-ψ];refine Θ.as (P:=fun t=>(aw s.length tk.text t).bind fun _ t=>(fN s.length t).bind (fun nn t=>(bT s.length (au s.length n) k t).bind (fun b t=>if t.aB [101,108,115,101]then(aw s.length [101,108,115,101] t).bind fun _ t=>(bT s.length (au s.length n) k t).map fun d=>(δ.mk 7 0 nn .nil [] z0 z0 (Φ b.1) b.1 (Φ d.1) d.1,[b.2,d.2])else .ok (δ.mk 7 0 nn .nil [] z0 z0 (Φ b.1) b.1 .nil [],[b.2]) t))) (bQ.bind (Q:=fun _ t=>(fN s.length t).bind (fun nn t=>(bT s.length (au s.length n) k t).bind (fun b t=>if t.aB [101,108,115,101]then(aw s.length [101,108,115,101] t).bind fun _ t=>(bT s.length (au s.length n) k t).map fun d=>(δ.mk 7 0 nn .nil [] z0 z0 (Φ b.1) b.1 (Φ d.1) d.1,[b.2,d.2])else .ok (δ.mk 7 0 nn .nil [] z0 z0 (Φ b.1) b.1 .nil [],[b.2]) t))) (cz.bind (Q:=fun nn t=>(bT s.length (au s.length n) k t).bind (fun b t=>if t.aB [101,108,115,101]then(aw s.length [101,108,115,101] t).bind fun _ t=>(bT s.length (au s.length n) k t).map fun d=>(δ.mk 7 0 nn .nil [] z0 z0 (Φ b.1) b.1 (Φ d.1) d.1,[b.2,d.2])else .ok (δ.mk 7 0 nn .nil [] z0 z0 (Φ b.1) b.1 .nil [],[b.2]) t)) (bz.bind (Q:=fun b t=>if t.aB [101,108,115,101]then(aw s.length [101,108,115,101] t).bind fun _ t=>(bT s.length (au s.length n) k t).map fun d=>(δ.mk 7 0 nm .nil [] z0 z0 (Φ b.1) b.1 (Φ d.1) d.1,[b.2,d.2])else .ok (δ.mk 7 0 nm .nil [] z0 z0 (Φ b.1) b.1 .nil [],[b.2]) t) (Θ.as (Θ.pure _ _) fun st hs=>by subst hs;exact if_neg (by rw[show PS.aB st [101,108,115,101]=false from b3];simp))))) fun st hs=>?_;have e1:=iG _ b2 st hs;have e3:=(pL st hs).1;rw[e1]at e3;simp[gF,e1,e3]
   |false=>
   have jr:=qb _ _ b2
   cases b3:a.aB [102,111,114]with
   |true=>
    have kV:=qb _ _ b3
    have s1:=bQ.take (jD b3 (by simp));obtain⟨_,nm,aW,a2,k2,r2,cz,rfl,kx⟩:=(f227 (u:=u) (item:=item) hl ab a1).at (κ.cells [.ν p 0]::κ.cells [.int .i64 tk.at_,.int .i64 0,.list .nil (Sp.lists [])]::[]) hp r1;have s2:=cz.sz (jb _);obtain⟨_,w3,aQ,a3,k3,r3,bz,rfl⟩:=(f226 (u:=u) (item:=item) [61] hl ab a2).at (κ.cells [.ν p 0]::κ.cells [.int .i64 tk.at_,.int .i64 0,.list .nil (Sp.lists [])]::[]) hp r2;have s3:=bz.sz (cr _ _);obtain⟨_,⟨ik,ov,is,ic,il⟩,dK,a4,k4,r4,dR,rfl,hx⟩:=(z7 (u:=u) (item:=item) hl ab n a3 (by omega)).at (κ.cells [.ν p 0]::κ.cells [.int .i64 tk.at_,.int .i64 0,.list .nil (Sp.lists [])]::[]) hp r3;have s4:=dR.sz (e_ _ _);obtain⟨_,w5,hS,a5,k5,r5,gL,rfl⟩:=(f226 (u:=u) (item:=item) [58] hl ab a4).at (κ.cells [.ν p 0]::κ.cells [.int .i64 tk.at_,.int .i64 0,.list .nil (Sp.lists [])]::[]) hp r4;have s5:=gL.sz (cr _ _);obtain⟨_,⟨jk,jn,js,jc,jl⟩,nV,a6,k6,r6,qL,rfl,hy⟩:=(z7 (u:=u) (item:=item) hl ab n a5 (by omega)).at (κ.cells [.ν p 0]::κ.cells [.int .i64 tk.at_,.int .i64 0,.list .nil (Sp.lists [])]::[]) hp r5;have s6:=qL.sz (e_ _ _);obtain⟨⟨A6,IH⟩,Wn,nW,aho,WX,a7,T7,k7,hr7,r7,xx,Yo,Ld⟩:=f294 (u:=u) hb hp tk.at_ .nil [] [] [] (xF nV) (by simp) r6 (by omega);simp only[hM,η.four,cI]at k4 k6 k7;refine μ.done .normal (fun st=>K4 st/\τ st.loc 4=some (0,.cells (δ.mk 8 0 nm .nil [] (.mk ik ov is ic il) (.mk jk jn js jc jl) (Φ A6) A6 .nil []).cells)/\st.mem= {ε:=B.set p (.cells nW)++(κ.cells [.ν p 0]::κ.cells [.int .i64 tk.at_,.int .i64 0,.list Wn (Sp.lists [IH])]::WX),θ:=T7}) (by simp[K4,K3,K2,K,h1,h2,h3,fe,h4,h5,kO,h6,h7,h8,h9,aH,cO,g0,iy,jr,kV,k1,k2,k3,k4,k5,k6,k7,δ.cells,η.four,z0,η.Δ,δ.Δ]) fun s' hh=> .inr ⟨by simp,.inl ⟨rfl,fin _ _ _ _ _ _ _ _ s' hh ⟨kx,tR,by simp,hx,hy,hH _,Yo,tR,trivial⟩ (db _ _ _ (by simp) hr7) (vQ _ Ld) r7 ?_⟩⟩;rw[<-ψ];refine Θ.as (P:=fun t=>(aw s.length tk.text t).bind fun _ t=>(fN s.length t).bind fun n' t=>(aw s.length [61] t).bind fun _ t=>(au s.length n t).bind fun x t=>(aw s.length [58] t).bind fun _ t=>(au s.length n t).bind fun y t=>(bT s.length (au s.length n) k t).map fun b=>(δ.mk 8 0 n' .nil [] x y (Φ b.1) b.1 .nil [],[b.2])) (bQ.bind (cz.bind (Q:=fun n' t=>(aw s.length [61] t).bind fun _ t=>(au s.length n t).bind fun x t=>(aw s.length [58] t).bind fun _ t=>(au s.length n t).bind fun y t=>(bT s.length (au s.length n) k t).map fun b=>(δ.mk 8 0 n' .nil [] x y (Φ b.1) b.1 .nil [],[b.2])) (bz.bind (dR.bind (Q:=fun x t=>(aw s.length [58] t).bind fun _ t=>(au s.length n t).bind fun y t=>(bT s.length (au s.length n) k t).map fun b=>(δ.mk 8 0 nm .nil [] x y (Φ b.1) b.1 .nil [],[b.2])) (gL.bind (qL.bind (Q:=fun y t=>(bT s.length (au s.length n) k t).map fun b=>(δ.mk 8 0 nm .nil [] (.mk ik ov is ic il) y (Φ b.1) b.1 .nil [],[b.2])) (xx.map fun b=>(δ.mk 8 0 nm .nil [] (.mk ik ov is ic il) (.mk jk jn js jc jl) (Φ b.1) b.1 .nil [],[b.2])))))))) fun st hs=>?_;have e1:=iG _ b3 st hs;have e3:=(pL st hs).1;rw[e1]at e3;simp[gF,e1,e3]
   |false=>
   have kV:=qb _ _ b3
   cases b4:a.aB [117,110,100,111]with
   |true=>
    have mI:=qb _ _ b4
    have s1:=bQ.take (jD b4 (by simp));obtain⟨⟨fw,gA⟩,nA,aQ,CC,kN,a3,T3,k3,wj,r3,bz,xG,jK⟩:=f294 (u:=u) hb hp tk.at_ .nil [] [] [] (xF aX) (by simp) r1 (by omega);simp only[hM,cI]at k3;refine μ.done .normal (fun st=>K4 st/\τ st.loc 4=some (0,.cells (δ.mk 10 0 [] .nil [] z0 z0 (Φ fw) fw .nil []).cells)/\st.mem= {ε:=B.set p (.cells aQ)++(κ.cells [.ν p 0]::κ.cells [.int .i64 tk.at_,.int .i64 0,.list nA (Sp.lists [gA])]::kN),θ:=T3}) (by simp[K4,K3,K2,K,h1,h2,h3,fe,h4,h5,kO,h6,h7,h8,h9,aH,cO,g0,iy,jr,kV,mI,k1,k3,δ.cells,η.four,z0,η.Δ,δ.Δ]) fun s' hh=> .inr ⟨by simp,.inl ⟨rfl,fin _ _ _ _ _ _ _ _ s' hh ⟨oZ,tR,by simp,dD,dD,hH _,xG,tR,trivial⟩ (db _ _ _ (by simp) wj) (vQ _ jK) r3 ?_⟩⟩;rw[<-ψ];refine Θ.as (P:=fun t=>(aw s.length tk.text t).bind fun _ t=>(bT s.length (au s.length n) k t).map fun b=>(δ.mk 10 0 [] .nil [] z0 z0 (Φ b.1) b.1 .nil [],[b.2])) (bQ.bind (bz.map fun b=>(δ.mk 10 0 [] .nil [] z0 z0 (Φ b.1) b.1 .nil [],[b.2]))) fun st hs=>?_;have e1:=iG _ b4 st hs;have e3:=(pL st hs).1;rw[e1]at e3;simp[gF,e1,e3]
   |false=>
   have mI:=qb _ _ b4
   cases b5:a.aB [119,105,116,104,105,110]with
   |true=>
    have rn:=qb _ _ b5
    have s1:=bQ.take (jD b5 (by simp));obtain⟨⟨fw,gA⟩,nA,aQ,CC,kN,a3,T3,k3,wj,r3,bz,xG,jK⟩:=f294 (u:=u) hb hp tk.at_ .nil [] [] [] (xF aX) (by simp) r1 (by omega);have s3:=bz.sz (tA _ (e_ _ _) _);obtain⟨_,w4,dK,a4,k4,r4,dR,rfl⟩:=(f226 (u:=u) (item:=CC) [97,112,112,108,121] hl ab a3).at (κ.cells [.ν p 0]::κ.cells [.int .i64 tk.at_,.int .i64 0,.list nA (Sp.lists [gA])]::kN) hp r3;have s4:=dR.sz (cr _ _);have x6:Row (B.length+2) (hM B p dK tk.at_ nA [gA] kN) 1 257 nA [gA].length:=dw _ _ _ _ _ wj;obtain⟨⟨rI,xg⟩,I8,hS,RC,qI,a5,T5,k5,KZ,r5,gL,BS,sw⟩:=f294 (u:=u) hb hp tk.at_ nA [gA] kN T3 x6 (by simp) r4 (by omega);simp only[hM,eO,cI]at k3 k5;refine μ.done .normal (fun st=>K4 st/\τ st.loc 4=some (0,.cells (δ.mk 11 0 [] .nil [] z0 z0 (Φ fw) fw (Φ rI) rI).cells)/\st.mem= {ε:=B.set p (.cells hS)++(κ.cells [.ν p 0]::κ.cells [.int .i64 tk.at_,.int .i64 0,.list I8 (Sp.lists [gA,xg])]::qI),θ:=T5}) (by simp[K4,K3,K2,K,h1,h2,h3,fe,h4,h5,kO,h6,h7,h8,h9,aH,cO,g0,iy,jr,kV,mI,rn,k1,k3,k4,k5,δ.cells,η.four,z0,η.Δ,δ.Δ]) fun s' hh=> .inr ⟨by simp,.inl ⟨rfl,fin _ _ _ _ _ _ _ _ s' hh ⟨oZ,tR,by simp,dD,dD,hH _,xG,hH _,BS⟩ (db _ _ _ (by simp) KZ) (fun i hi=>(sw i hi).elim (vQ _ jK i) id) r5 ?_⟩⟩;rw[<-ψ];refine Θ.as (P:=fun t=>(aw s.length tk.text t).bind fun _ t=>(bT s.length (au s.length n) k t).bind fun b t=>(aw s.length [97,112,112,108,121] t).bind fun _ t=>(bT s.length (au s.length n) k t).map fun d=>(δ.mk 11 0 [] .nil [] z0 z0 (Φ b.1) b.1 (Φ d.1) d.1,[b.2,d.2])) (bQ.bind (bz.bind (Q:=fun b t=>(aw s.length [97,112,112,108,121] t).bind fun _ t=>(bT s.length (au s.length n) k t).map fun d=>(δ.mk 11 0 [] .nil [] z0 z0 (Φ b.1) b.1 (Φ d.1) d.1,[b.2,d.2])) (dR.bind (gL.map fun d=>(δ.mk 11 0 [] .nil [] z0 z0 (Φ fw) fw (Φ d.1) d.1,[gA,d.2]))))) fun st hs=>?_;have e1:=iG _ b5 st hs;have e3:=(pL st hs).1;rw[e1]at e3;simp[gF,e1,e3]
   |false=>
   have rn:=qb _ _ b5
   obtain⟨_,x,aW,qW,a2,T2,k2,r2,cz,⟨rfl,hx⟩,Lb⟩:=(f297 (u:=u) hl ab hc a ha tk.text fun st hs=>(pL st hs).1).at (κ.cells [.ν p 0]::κ.cells [.int .i64 tk.at_,.int .i64 0,.list .nil (Sp.lists [])]::[]) hp h [];have qU:=δ.jT x;have zY:x.cells.take 14=x.cells:=dY (by omega);refine μ.done .normal (fun st=>K4 st/\τ st.loc 4=some (0,.cells x.cells)/\st.mem= {ε:=B.set p (.cells aW)++(κ.cells [.ν p 0]::κ.cells [.int .i64 tk.at_,.int .i64 0,.list .nil (Sp.lists [])]::[]),θ:=T2}) (by simp[K4,K3,K2,K,h1,h2,h3,fe,h4,h5,kO,h6,h7,h8,h9,aH,cO,g0,iy,jr,kV,mI,rn,k2,qU,zY]) fun s' hh=> .inr ⟨by simp,.inl ⟨rfl,fin _ _ _ _ _ _ _ _ s' hh hx rfl (fun i hi=>(Lb i hi).elim (fun h=>by cases h) .inl) r2 ?_⟩⟩;rw[<-ψ];refine Θ.as (P:=fun t=>(Av s.length (au s.length n) t).map fun x=>(x,[])) (cz.map fun x=>(x,[])) fun st hs=>?_;simp[gF,lx _ b1 st hs,lx _ b2 st hs,lx _ b3 st hs,lx _ b4 st hs,lx _ b5 st hs]
  ·have qU:=δ.jT x;have zY:x.cells.take 14=x.cells:=dY (by omega);obtain⟨k1,Dq,rfl,h_,hh⟩:=m6;generalize fp:[AV.str s,.list c (all.map Tok.ba),.int .i64 k1,.int .i64 Dq,dM]=aX;have Qn:cE s all c dM aX b:=⟨k1,Dq,fp.symm,h_,hh⟩;have gp:∀D,(B.set p (κ.cells aX)++D)[p]?=some (.cells [.str s,.list c (all.map Tok.ba),.int .i64 k1,.int .i64 Dq,dM]):=fun D=>by rw[List.getElem?_append_left (by simpa using hp),fp];simp[hp]
   have g1:∀L (e:List κ),(B.set p (κ.cells aX)++κ.cells [.ν p 0]::κ.cells L::e)[B.length+1]?=some (.cells L):=fun L e=>by simp
   have gs:∀L L' (e:List κ),(B.set p (κ.cells aX)++κ.cells [.ν p 0]::κ.cells L::e).set (B.length+1) (.cells L')=B.set p (κ.cells aX)++κ.cells [.ν p 0]::κ.cells L'::e:=fun L L' e=>by simp
   rw[fp]at m3;simp only[hM]at m3;cases b with
   |w w=>
    have hw:¬Dq<0:=by have:Dq=(w:Int):=hh;omega
    refine μ.done .ret (fun st=>st.mem= {ε:=B.set p (.cells aX)++(κ.cells [.ν p 0]::κ.cells [.int .i64 tk.at_,.int .i64 0,.list cp (Sp.lists ins)]::ext),θ:=tt}/\ζ st.env 2= .ae 2 0 0/\τ st.loc 2=some (0,.cells x.cells)/\ζ st.env 3= .ae 3 0 0/\τ st.loc 3=some (0,.cells [.int .i64 tk.at_,.int .i64 0,.list cp (Sp.lists ins)])) (by simp[h1,h2,h3,fe,h4,h5,kO,h8,h9,m1,m3,g0,g1,gp,hw,qU,zY,dm,dy,tB]) fun s' ⟨q1,q2,q3,q4,q5⟩=>⟨by simp,x,aX,cp,ins,_,tt,dM,_,0,by rw[q1],by rw[q1];exact m5,q2,q3,q4,q5,m4,m2,Qn,m7,(fun t ht=>by cases ht),by rw[q1]⟩
   |r t=>
    obtain⟨rfl,hd,wc⟩:=hh
    have jh:0<k1:=by
     cases a with
     |w w=>cases m7
     |r Ax=>
      simp only[Θ]at m7
      cases oe:P Ax with
      |no w=>rw[oe]at m7;cases m7
      |ok y t'=>
       rw[oe]at m7
       obtain⟨_,mW⟩:=m7;cases mW;have h7:=vU _ _ _ oe;have h8:=h.sz;have h9:=congrArg nr hd;simp only[kK,RS.sz]at h8 h9;omega
    obtain⟨j,rfl⟩:∃j,k1=j+1:=⟨k1-1,by omega⟩;have hj:j<all.length:=by omega
    have Zp:all[j]?=some all[j]:=List.getElem?_eq_getElem hj;rw[Sl Zp]at wc;have pU:a_ .i64 ((j:Int)+1-1)=(j:Int):=by rw[wrap_i64 (by omega) (by omega)];omega
    have iq:a_ .i64 (j:Int)=(j:Int):=wrap_i64 (by omega) (by omega);have GZ:=(ab all[j] (List.getElem_mem hj)).pos;have ji:a_ .i64 ((all[j].at_:Int)+all[j].text.length)=(t.last:Int):=by rw[wrap_i64 (by omega) (by omega)];omega
    refine μ.done .ret (fun st=>st.mem= {ε:=B.set p (.cells aX)++(κ.cells [.ν p 0]::κ.cells [.int .i64 tk.at_,.int .i64 t.last,.list cp (Sp.lists ins)]::ext),θ:=tt}/\ζ st.env 2= .ae 2 0 0/\τ st.loc 2=some (0,.cells x.cells)/\ζ st.env 3= .ae 3 0 0/\τ st.loc 3=some (0,.cells [.int .i64 tk.at_,.int .i64 t.last,.list cp (Sp.lists ins)])) (by
     simp[h1,h2,h3,fe,h4,h5,kO,h8,h9,m1,m3,g0,g1,gs,gp,iq,ji,hj,Tok.ba,aR,qU,zY,dm,vC,dy,tB,Mem.put,Mem.φ,φ,bp,lo]
     ) fun s' ⟨q1,q2,q3,q4,q5⟩=>⟨by simp,x,aX,cp,ins,_,tt,dM,_,t.last,by rw[q1],by rw[q1];exact m5,q2,q3,q4,q5,m4,m2,Qn,m7,(fun t' ht=>by cases ht;rfl),by rw[q1]⟩
 obtain⟨r,e1,e2,x,ξ,cp,ins,ext,tt,dM,b,to,e3,e4,e5,e6,e7,e8,e9,mO,rQ,vD,Ji,-⟩:=dj;have hL:x.cells.length=14:=δ.jT x;have eB:x.cells.take 14=x.cells:=dY (by omega);have hv:Dv (.aP [.agg x.cells,.agg [.int .i64 tk.at_,.int .i64 to,.list cp (Sp.lists ins)]]) (.aP [.agg x.cells,.agg (Sp.mk tk.at_ to ins).cells]):=by have:=Dv.list cp (Sp.zp ins);rw[e9]at this;simp only[Sp.cells];exact .aP (.cons (.agg (δ.fx x mO)) (.cons (.agg (.cons (.int _ _) (.cons (.int _ _) (.cons this .nil)))) .nil))
 obtain⟨aW,qW,T',Bm,Bn,Bo⟩:=HA (u:=u) hc (f:=271) (g:=FV) (args:=[]) (v:= .aP [.agg x.cells,.agg (Sp.mk tk.at_ to ins).cells]) rfl rfl rfl hp rfl e1 e2 e3 rQ e4 (l:=[.agg x.cells,.agg [.int .i64 tk.at_,.int .i64 to,.list cp (Sp.lists ins)]]) (by simp[FV,e5,e6,e7,e8,hL,eB]) (hv.ai _ _ _) T;refine⟨_,(x,.mk tk.at_ to ins),aW,qW,b,T',Bm,Bn,?_,⟨rfl,mO⟩,Bo⟩;cases a with
 |w w=>exact vD
 |r st=>
  simp only[Θ,t_]at vD⊢
  cases hp:P st with
  |no w=>rw[hp]at vD;exact vD
  |ok y t=>
   rw[hp]at vD
   obtain⟨rfl,rfl⟩:=vD;simp only[R.bind,and_true];rw[(pL st rfl).2.2,Ji t rfl]
end
end Tz
end Go.ah
