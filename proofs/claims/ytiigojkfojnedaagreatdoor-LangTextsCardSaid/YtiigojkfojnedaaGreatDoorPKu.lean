import Derived.Test.YtiigojkfojnedaaGreatDoorPKp
import Derived.Test.YtiigojkfojnedaaGreatDoorPHg
set_option linter.unusedVariables false
set_option linter.unusedSimpArgs false
set_option linter.unusedSectionVars false
set_option maxRecDepth 100000
set_option maxHeartbeats 8000000
open List renaming length->mB,length_drop->kz,map_cons->ah,length_set->ft,mem_append->eL,all_map->lv,append_assoc->cr,set_append_left->lW,length_map->dq,mem_singleton->lV,map_append->pJ,map_map->di,map_congr_left->dz,getElem?_eq_none->iU,take_of_length_le->dY,mem_cons->dX,eq_nil_of_length_eq_zero->lU,cons_append->eK,nil_append->cO
open Nat renaming le_refl->bQ
open Go.IntKind renaming wrap->aT
namespace Go.ab
def cU{α:Type}(P:PS->R α):Prop:=∀s x t,P s= .ok x t->t.l.length<s.l.length
theorem cU.nk{α:Type}{P:PS->R α}(h:cU P):df P:=fun s x t e=>Nat.le_of_lt (h s x t e)
theorem cU.take(e:Nat)(f:Tok->Bool):cU (gR e f):=fun _ _ _ h=>by have:=Ii h;omega
theorem cU.bind{α β:Type}{P:PS->R α}{Q:α->PS->R β}(h:cU P)(k:∀x,df (Q x)):cU fun s=>(P s).bind Q:=fun s y t e=>by
 have e:(P s).bind Q= .ok y t:=e;cases hp:P s with
 |ok x s'=>
  rw[hp]at e
  have:=h _ _ _ hp;have:=k x _ _ _ e;omega
 |no w=>rw[hp]at e;cases e
theorem cU.map{α β:Type}{P:PS->R α}{f:α->β}(h:cU P):cU fun s=>(P s).map f:=fun s y t e=>by
 have e:(P s).map f= .ok y t:=e;cases hp:P s with
 |ok x s'=>rw[hp]at e;cases e;exact h _ _ _ hp
 |no w=>rw[hp]at e;cases e
theorem cU.ite{α:Type}{c:PS->Prop}[∀s,Decidable (c s)]{P Q:PS->R α}(h:cU P)(k:cU Q):cU fun s=>if c s then P s else Q s:=fun s y t e=>by
 dsimp only at e;split at e
 ·exact h _ _ _ e
 ·exact k _ _ _ e
theorem cU.word{β:Type}{e:Nat}{Q:List Nat->PS->R β}(k:∀x,df (Q x)):cU fun s=>(ak e s.hd s).bind Q:=fun s y t h=>(cU.bind (cU.take e fun t=>t.text==s.hd) k) s y t h
theorem El{α:Type}(e:Nat){P:PS->R α}(h:df P):df (ml e P):=
 .ite (cI e _).map (h.bind fun x=>(df.HI (fun l=>(cI e _).bind fun _=>h.map) [x]).bind fun _=>(cI e _).map)
theorem Qh(e:Nat){pl:PS->R φ}(h:df pl):∀n l,df (lP e pl n l)
 |0,l=> .ok l
 |n+1,l=>(cI e _).bind fun _=>h.bind fun p=>Qh e h n (l++[p])
theorem Xl(e:Nat){ix:PS->R ζ}(h:df ix):cU (ky e ix):=by
 have hp:=Eo e h;have g:∀n:Nat,cU fun s=>(ak e s.hd s).bind fun _ s'=>(gQ e ix s').bind fun p s'=>(lP e (gQ e ix) n [p] s').map fun l=>δ.mk 1 (eY s.hd) [] .any l z0 z0 .nil [] .nil []:=fun n s y t k=>cU.bind (cU.take e fun t=>t.text==s.hd) (Q:=fun _ s'=>(gQ e ix s').bind fun p s'=>(lP e (gQ e ix) n [p] s').map fun l=>δ.mk 1 (eY s.hd) [] .any l z0 z0 .nil [] .nil []) (fun _=>hp.bind fun p=>(Qh e hp n [p]).map) s y t k;intro s x t k;dsimp only[ky]at k;split at k
 ·exact g _ s x t k
 split at k
 ·exact cU.word (fun _=>(BH e h).map) s x t k
 split at k
 ·exact cU.word (fun _=>(jx e).map) s x t k
 split at k
 ·exact cU.word (fun _=>hp.bind fun _=>(cI e _).bind fun _=>(jx e).map) s x t k
 split at k
 ·exact cU.word (fun _=>hp.map) s x t k
 ·exact(cU.bind (cU.take _ _) fun _=>(cI e _).bind fun _=>(El e hp).map) s x t k
theorem Xm(e:Nat){ix:PS->R ζ}(h:df ix):cU (AL e ix):=(Xl e h).bind fun _=>(cI e _).map
theorem BF(e:Nat){ix:PS->R ζ}{blk:PS->R (List δ×List Sp)}(h:df ix)(hb:df blk):cU (gJ e ix blk):=by
 intro s x t k;dsimp only[gJ]at k;split at k
 ·exact cU.word (fun _=>(BH e h).bind fun _=>hb.map) s x t k
 split at k
 ·exact cU.word (fun _=>(jx e).bind fun n=>hb.bind fun b=> .ite ((cI e _).bind fun _=>hb.map) (.ok _)) s x t k
 split at k
 ·exact cU.word (fun _=>(jx e).bind fun n=>(cI e _).bind fun _=>h.bind fun _=>(cI e _).bind fun _=>h.bind fun _=>hb.map) s x t k
 split at k
 ·exact cU.word (fun _=>hb.map) s x t k
 split at k
 ·exact cU.word (fun _=>hb.bind fun _=>(cI e _).bind fun _=>hb.map) s x t k
 ·exact((Xm e h).map) s x t k
theorem JE(e:Nat){st:PS->R (δ×List (List Sp))}(h:cU st):cU (ub e st):=fun s x t k=>by
 simp only[ub]at k;cases hp:st s with
 |ok y s'=>
  rw[hp]at k
  cases k;exact h _ _ _ hp
 |no w=>rw[hp]at k;cases k
theorem Xn(e:Nat){st:PS->R (δ×List (List Sp))}(h:cU st):df (yy e st):=
 (cI e _).bind fun _=>(df.HI (fun _=>(JE e h).nk.map) _).bind fun _=>(cI e _).map
theorem tC(e:Nat){ix:PS->R ζ}(h:df ix):∀k,df (bY e ix k)
 |0=>fun s x t e=>by cases e
 |k+1=>Xn e (BF e h (tC e h k))
def RS.bad:RS->Nat
 | .r _=>0
 | .w _=>1
end Go.ab
namespace Go.ab.Tz
open Go.ab
variable{u:Nat}
attribute [local simp] exec eG eu fz aF d_ fQ fe bq gN bT gF gS hU hZ mD AV.cells newVar hH rd wr gg single fy bF er dL κ bf RV.get ba dU jy
attribute [local simp] vg u6
theorem DS{s:List Nat}{all:List Tok}{c:Γ}{item:AV}(w:List Nat)(hl:all.length<1000000000){B:List θ}{p:Nat}{cs:List AV}{a:RS}(hp:p<B.length)(h:cV s all c item cs a){t:Bool}(hb:a.aD w=t)(T:List Nat):
  kf u 268 [.μ p 0,.list .full [.str w]] {ε:=B.set p (.cells cs),η:=T}=some (.bool t,{ε:=B.set p (.cells cs),η:=T}):=by
 have:=f268 (u:=u) [w] (by simp) hl hp h T;simpa[hb]using this
section
variable{s:List Nat}{all:List Tok}{c:Γ}(hl:all.length<1000000000)(Θ:∀t∈all,t.Ok)
theorem cV.sz{item:AV}{cs:List AV}{a:RS}(h:cV s all c item cs a):a.sz<=all.length:=by
 obtain⟨k,wr,rfl,hk,h⟩:=h;cases a with
 |w w=>exact Nat.zero_le _
 |r st=>have:=congrArg mB h.2.1;simp only[kz]at this;simp only[RS.sz];omega
theorem cV.item{item fn:AV}{cs:List AV}{a:RS}(h:cV s all c item cs a):∃k wr,cs=[.str s,.list c (all.map Tok.a_),.n k,.n wr,item]/\cV s all c fn [.str s,.list c (all.map Tok.a_),.n k,.n wr,fn] a:=by obtain⟨k,wr,rfl,hk,h⟩:=h;exact⟨k,wr,rfl,k,wr,rfl,hk,h⟩
def IB(u:Nat)(s:List Nat)(all:List Tok)(c:Γ){α:Type}(I:List α->List θ->Prop)(fn:AV)(P:PS->R α)(k N p:Nat):Prop:=
 ∀l B T cs a,I l B->cV s all c fn cs a->a.sz<k->l.length+a.sz<=all.length+1→
  ∃B' T' x ξ b,aS (C u) fn [] {ε:=B.set p (.cells cs),η:=T}=some (.aO [],{ε:=B'.set p (.cells ξ),η:=T'})/\I (l++[x]) B'/\cV s all c fn ξ b/\Δ P a x b/\∀i∈T',i∈T\/N<=i
include hl Θ
theorem f228{α:Type}{I:List α->List θ->Prop}{fn:AV}{P:PS->R α}{k N M p:Nat}(hP:df P){fi:FuncId}{cap:List AV}(nT:fn= .fn (.func fi) [] cap)(hn:ρ fn=fn)(Ce:∀n,M<=n->exp n true fn=fn)
  (hI:∀l B,I l B->M<=B.length/\p<B.length) (oH:IB u s all c I fn P k N p) {item:AV} {B:List θ} {cs:List AV} {a:RS} (T:List Nat) (h0:I [] B) (h:cV s all c item cs a) (ha:a.sz<k):
  ∃B' T' l ξ b,kf u 228 [.μ p 0,.str [41],fn] {ε:=B.set p (.cells cs),η:=T}=some (.aO [],{ε:=B'.set p (.cells ξ),η:=T'})∧
   I l B'/\cV s all c fn ξ b/\Δ (ml s.length P) a l b/\∀i∈T',i∈T\/i=p\/N<=i:=by
 subst nT;have dy:κ (C u).gl (aS (C u)) c228 {env:=[.μ p 0,.str [41],.fn (.func fi) [] cap],loc:=[],mem:= {ε:=B.set p (.cells cs),η:=[]}} fun r=>(∀i,r.1≠ .exit i)/\∃B' l ξ b,r.2.mem.ε=B'.set p (.cells ξ)/\I l B'/\cV s all c (.fn (.func fi) [] cap) ξ b/\Δ (ml s.length P) a l b/\∀i∈r.2.mem.η,i=p\/N<=i:=by
  have hp:=(hI _ _ h0).2;obtain⟨k0,wr,rfl,hf⟩:=h.item (fn:= .fn (.func fi) [] cap);generalize fw:[AV.str s,.list c (all.map Tok.a_),.n k0,.n wr,.fn (.func fi) [] cap]=aW at hf;clear h;have h:=hf;let K:List θ->St->Prop:=fun X st=>st.e 0= .μ p 0/\st.e 1= .str [41]/\st.e 2= .fn (.func fi) [] cap/\∃tt,st.mem= {ε:=X,η:=tt}/\∀i∈tt,i=p\/N<=i;have La:∀m:Mem,m.ρ (.fn (.func fi) [] cap)= .fn (.func fi) [] cap:=fun _=>hn;have hg:∀cs,(B.set p (θ.cells cs))[p]?=some (.cells cs):=fun cs=>by simp[hp]
  refine χ (K (B.set p (.cells aW))) (by simp[K,hg,Mem.put,La,fw]) fun s1 ⟨h1,h2,h3,tt,h4,h5⟩=>?_;have hb:=fun t hb T=>DS (u:=u) [41] hl hp h (t:=t) hb T;refine aZ (fun st=>K (B.set p (.cells aW)) st/\a.aD [41]=false) ?_ fun s1 ⟨⟨h1,h2,h3,tt,h4,h5⟩,h6⟩=>?_
  ·cases hc:a.aD [41]with
   |false=>
    have hb:=hb false hc
    refine κ.done .normal (fun st=>K (B.set p (.cells aW)) st) (by
     simp[K,h1,h2,h3,h4,hb]
     exact h5) fun s' hh=> .inl ⟨rfl,hh,rfl⟩
   |true=>
    have hb:=hb true hc
    obtain⟨_,x1,aV,a2,k1,r1,g1,rfl⟩:=f226 (u:=u) (item:= .fn (.func fi) [] cap) [41] hl Θ a B p aW hp h;refine κ.done .ret (fun st=>K (B.set p (.cells aV)) st) (by
     simp[K,h1,h2,h3,h4,hb,k1]
     exact h5) fun s' ⟨m1,m2,m3,tt,m4,m5⟩=> .inr ⟨by simp,by simp,B,[],aV,a2,by simp only[m4],h0,r1,?_,by rw[m4];exact m5⟩
    exact Δ.as (P:=fun t=>(ak s.length [41] t).map fun _=>[]) (g1.map _) fun st hs=>by subst hs;exact if_pos hc
  have eI:∀st,a= .r st->st.aD [41]=false:=fun st hs=>by subst hs;exact h6
  obtain⟨B2,T2,x1,aV,a2,k1,i1,r1,g1,t1⟩:=oH [] B tt aW a h0 h ha (by have:=h.sz;simp;omega);have oO:=g1.sz hP;have iu:=(hI _ _ i1).2;have zY:(B.set p (θ.cells aW))[p]?=some (.cells [.str s,.list c (all.map Tok.a_),.n k0,.n wr,.fn (.func fi) [] cap]):=by rw[fw,hg]
  have e2:∀i∈T2,i=p\/N<=i:=fun i hi=>(t1 i hi).elim (h5 i) .inr;refine χ (K (B2.set p (.cells aV))) (by
   simp[K,h1,h2,h3,h4,zY,k1]
   exact e2) fun s1 hK=>?_
  let F:List α->PS->R (List α):=fun l t=>(ak s.length [44] t).bind fun _ t=>(P t).map fun y=>l++[y];let cc:PS->Bool:=fun t=>t.aD [44];let I':Nat->St->Prop:=fun i st=>∃B' l ξ b,K (B'.set p (.cells ξ)) st/\I l B'/\cV s all c (.fn (.func fi) [] cap) ξ b/\b.sz+i<=a2.sz/\l.length+b.sz<=all.length+1/\∀y b',Δ (cK cc F (a2.sz+1-i) l) b y b'->Δ (cK cc F (a2.sz+1) [x1]) a2 y b';refine aZ (fun st=>∃B' l ξ b,K (B'.set p (.cells ξ)) st/\I l B'/\cV s all c (.fn (.func fi) [] cap) ξ b/\Δ (cK cc F (a2.sz+1) [x1]) a2 l b) ?_ fun s2 ⟨B',l,ξ,b,⟨h1,h2,h3,tt,h4,h5⟩,h6,h7,h8⟩=>?_
  ·have Yw:I' 0 s1:=⟨B2,[x1],aV,a2,hK,i1,r1,bQ _,by have:=h.sz;simp;omega,fun _ _ h=>h⟩;refine κ.block (κ.ki (I:=I') a2.sz Yw fun i st hi τ=>?_);obtain⟨B',l,ξ,b,⟨h1,h2,h3,tt,h4,h5⟩,h6,h7,h8,h9,aG⟩:=τ;have oM:=(hI _ _ h6).2;rw[show a2.sz+1-i=(a2.sz-i)+1 by omega]at aG;unfold SI;cases hc:b.aD [44]with
   |false=>
    have hb:=fun T=>DS (u:=u) [44] hl oM h7 (t:=false) hc T
    refine κ.done (.exit 0) (fun st=>K (B'.set p (.cells ξ)) st) (by
     simp[K,h1,h2,h3,h4,hb]
     exact h5) fun s' hh=> .inr ⟨by simp,.inl ⟨rfl,.inl ⟨rfl,B',l,ξ,b,hh,h6,h7,aG _ _ (Δ.u3 hc)⟩⟩⟩
   |true=>
    have hb:=fun T=>DS (u:=u) [44] hl oM h7 (t:=true) hc T
    obtain⟨_,x2,aP,a3,k2,r2,g2,rfl⟩:=f226 (u:=u) (item:= .fn (.func fi) [] cap) [44] hl Θ b B' p ξ oM h7;have mf:=g2.take (jL hc (by simp));have fL:=h1;obtain⟨B4,T4,x3,dT,a4,k3,i3,r3,g3,t3⟩:=oH l B' tt aP a3 h6 r2 (by omega) (by omega);have yd:=g3.sz hP;refine κ.done .normal (fun st=>K (B4.set p (.cells dT)) st) (by
     simp[K,h1,h2,h3,h4,hb,k2,k3]
     exact fun i hi=>(t3 i hi).elim (h5 i) .inr) fun s' hh=> .inl ⟨rfl,by omega,B4,l++[x3],dT,a4,hh,i3,r3,by omega,by simp;omega,fun y b' hg=>aG y b' (Δ.u4 hc (g2.bind (g3.map _)) (by rw[show a2.sz+1-(i+1)=a2.sz-i by omega]at hg;exact hg))⟩
  ·have oM:=(hI _ _ h6).2;obtain⟨_,x2,aP,a3,k2,r2,g2,rfl⟩:=f226 (u:=u) (item:= .fn (.func fi) [] cap) [41] hl Θ b B' p ξ oM h7;refine κ.done .normal (fun st=>K (B'.set p (.cells aP)) st) (by
    simp[K,h1,h2,h3,h4,k2]
    exact h5) fun s' ⟨m1,m2,m3,tt,m4,m5⟩=>⟨by simp,B',l,aP,a3,by simp only[m4],h6,r2,?_,by rw[m4];exact m5⟩
   refine Δ.as (P:=fun t=>(P t).bind fun x t=>(cK cc F (t.l.length+1) [x] t).bind fun l t=>(ak s.length [41] t).map fun _=>l) ?_ fun st hs=>by simp[ml,eI st hs];rfl
   exact g1.bind (Q:=fun x t=>(cK cc F (t.l.length+1) [x] t).bind fun l t=>(ak s.length [41] t).map fun _=>l) (h8.fuel.bind (Q:=fun l t=>(ak s.length [41] t).map fun _=>l) (g2.map fun _=>l))
 obtain⟨⟨ex,s'⟩,e1,e2,B',l,ξ,b,e3,e4,e5,e6,e7⟩:=dy;have hp:=(hI _ _ h0).2;have dV:([AV.μ p 0,.str [41],.fn (.func fi) [] cap]++[]).map (exp (B.set p (θ.cells cs)).length true)=[.μ p 0,.str [41],.fn (.func fi) [] cap]:=by simp only[List.append_nil,ah,List.map_nil,ft,Ce _ (hI _ _ h0).1];simp[exp,hp]
 have:=uv (C:=C u) (f:=228) (g:=JT) (args:=[.μ p 0,.str [41],.fn (.func fi) [] cap]) (cap:=[]) (m:= {ε:=B.set p (.cells cs),η:=T}) (l:=[]) rfl rfl rfl (by rw[dV];exact e1) e2 (by rfl);dsimp only at e3 e7;refine⟨B',T++s'.mem.η,l,ξ,b,?_,e4,e5,e6,fun i hi=>(eL.1 hi).imp id (e7 i)⟩;exact this.trans (by rw[e3];rfl)
end
attribute [local simp] zx AK Ay ζ.fK
theorem tD(a:List AV):dG (some a) (some a)=true:=AV.fI a
theorem φ.fx{x:φ}(h:x.Ok):Fx x.av:=by have:=Dv.list x.c (bJ.of ζ.av x.ix fun y hy=>ζ.fx y (h.2.2 y hy).1);rw[fu h.2.1]at this;exact .agg (.cons (.str _) (.cons this .nil))
theorem φ.rq(m:Mem)(x:φ):m.ρ x.av=x.av:=φ.n_ x
theorem UI(x:φ):shaped true 2 x.av=true:=rfl
attribute [local simp] φ.rq UI
theorem AB(l:List φ):(l.map φ.av).all (shaped true 2)=true:=by simp[lv,φ.av,shaped,Function.comp]
def sC(k g:Int)(nm:List Nat)(c:Γ)(l:List AV)(sz:List AV):List AV:=[.n k,.n g,.str nm,.list c l]++sz++z0.four++[.list .nil [],.list .nil []]
theorem Ic(k g:Int)(nm:List Nat)(c:Γ)(l:List AV)(x:ζ):(sC k g nm c l x.four).length=14:=by simp[sC]
def sT(p:Nat)(k g:Int)(nm:List Nat)(c:Γ)(l:List AV):List θ:=[.cells [.μ p 0],.cells (sC k g nm c l z0.four)]
def sI(B:List θ)(p:Nat)(k g:Int)(nm:List Nat)(l:List φ)(B':List θ):Prop:=
 ∃c ext,B'=B++sT p k g nm c (l.map φ.av)++ext/\Row (B.length+2) B' 2 74 c l.length/\(l=[]->c= .nil)/\∀x∈l,x.Ok
section
variable{s:List Nat}{all:List Tok}{c:Γ}(hl:all.length<1000000000)(Θ:∀t∈all,t.Ok)
include hl Θ
theorem f310{B:List θ}{p:Nat}(hp:p<B.length)(k g:Int)(nm:List Nat)(n:Nat):IB u s all c (sI B p k g nm) (.fn (.func 310) [] [.μ (B.length+1) 0,.μ B.length 0]) (gQ s.length (ai s.length n)) n B.length p:=by
 rintro l _ T cs a ⟨cp,ext,rfl,hr,hn,G2⟩ h ha hlen
 have nx:p<(B++sT p k g nm cp (l.map φ.av)++ext).length:=by simp;omega
 obtain⟨_,x,aW,a1,k1,r1,gv,rfl,hx⟩:=f309 (u:=u) hl Θ a ha _ p cs nx h;have e0:∀cs c l ext,(B++sT p k g nm c l++ext).set p (.cells cs)=B.set p (.cells cs)++sT p k g nm c l++ext:=fun cs c l ext=>by rw[cr,lW _ _ hp,cr]
 simp only[e0]at k1;have fZ:Row (B.set p (.cells aW)++sT p k g nm cp (l.map φ.av)).length (B.set p (.cells aW)++sT p k g nm cp (l.map φ.av)++ext) 2 74 cp (l.map φ.av).length:=by rw[dq];have:=Row.swap hr (P':=B.set p (.cells aW)++sT p k g nm cp (l.map φ.av)) (by simp[sT]) (by simp[sT]);simpa[sT]using this
 obtain⟨c',ext',eN,dn,-⟩:=oT (bytes:=40) fZ (AB l) (show shaped true 2 x.av=true by rfl) (φ.n_ x) (by omega) (by simp;omega) (by simp;omega);rw[dq]at dn;have hL:∀cs c l ext,(B.set p (.cells cs)++sT p k g nm c l++ext).length=B.length+2+ext.length:=fun cs c l ext=>by simp[sT];omega
 have dV:∀n,B.length+2<=n->([]++[AV.μ (B.length+1) 0,.μ B.length 0]).map (exp n true)=[AV.μ (B.length+1) 0,.μ B.length 0]:=fun n hn=>by
  have a1:B.length+1<n:=by omega
  have a2:B.length<n:=by omega
  simp[exp,a1,a2]
 have g0:∀cs c l ext,(B.set p (.cells cs)++sT p k g nm c l++ext)[B.length]?=some (.cells [.μ p 0]):=fun cs c l ext=>by simp[sT]
 have g1:∀cs c l ext,(B.set p (.cells cs)++sT p k g nm c l++ext)[B.length+1]?=some (.cells (sC k g nm c l z0.four)):=fun cs c l ext=>by simp[sT]
 have g2:∀cs c l ext c' l',(B.set p (.cells cs)++sT p k g nm c l++ext).set (B.length+1) (.cells (sC k g nm c' l' z0.four))=B.set p (.cells cs)++sT p k g nm c' l'++ext:=fun cs c l ext c' l'=>by simp[sT]
 have d3:∀c l,((sC k g nm c l z0.four).drop 3).take 1=[.list c l]:=fun _ _=>rfl;have sF:∀c l c' l',(sC k g nm c l z0.four).take 3++AV.list c' l'::(sC k g nm c l z0.four).drop 4=sC k g nm c' l' z0.four:=fun _ _ _ _=>rfl;have dy:κ (C u).gl (aS (C u)) I7 {env:=[.μ (B.length+1) 0,.μ B.length 0],loc:=[],mem:= {ε:=B.set p (.cells cs)++sT p k g nm cp (l.map φ.av)++ext,η:=[]}} fun r=>r.1= .normal/\∃tt,r.2.mem= {ε:=B.set p (.cells aW)++sT p k g nm c' ((l++[x]).map φ.av)++ext',η:=tt}/\∀i∈tt,B.length<=i:=by
  simp only[cr]at g0 g1 g2 k1 eN⊢;simp[I7,g0,g1,g2,k1,eN,Mem.put,φ.rq,Ic,d3,sF,tD,b_,cj];have Ce:∀y∈l++[x],Fx y.av:=fun y hy=>(eL.1 hy).elim (fun h=>φ.fx (G2 y h)) fun h=>by rw[lV.1 h];exact φ.fx hx
  have dM:∀m:Mem,m.ρ (.list c' (l.map φ.av++[x.av]))= .list c' (l.map φ.av++[x.av]):=fun m=>by have:=(Dv.list c' (bJ.of φ.av (l++[x]) Ce)).ρ;rw[pJ]at this;exact this
  simp only[dM,sF];refine⟨_,⟨rfl,rfl⟩,fun i hi=>?_⟩;split at hi
  ·cases hi
  ·have:=lV.1 hi;omega
 obtain⟨⟨ex,s'⟩,e1,rfl,tt,e2,e3⟩:=dy;have c_:=uv (C:=C u) (f:=310) (g:=JW) (args:=[]) (cap:=[.μ (B.length+1) 0,.μ B.length 0]) (m:= {ε:=B.set p (.cells cs)++sT p k g nm cp (l.map φ.av)++ext,η:=T}) (l:=[]) rfl rfl rfl (by rw[dV _ (by rw[hL];omega)];exact e1) (by simp) (by rfl);refine⟨B++sT p k g nm c' ((l++[x]).map φ.av)++ext',T++tt,x,aW,a1,by rw[e0,e0,c_];dsimp only at e2;rw[e2];rfl,⟨c',ext',rfl,?_,fun h=>by simp at h,fun y hy=>?_⟩,r1,gv,fun i hi=>(eL.1 hi).imp id (e3 i)⟩
 ·have:=Row.swap dn (P':=B++sT p k g nm c' ((l++[x]).map φ.av)) (by simp[sT]) (by simp[sT]);simpa[sT]using this
 ·rcases eL.1 hy with hy|hy
  ·exact G2 y hy
  ·rw[lV.1 hy];exact hx
end
theorem XY(m:Mem)(x:ζ):x.four.map m.ρ=x.four:=by have:=ζ.Tv x;rwa[fC]at this
theorem XX(n:Nat)(x:ζ)(h:x.eD):bh n x.four=true:=by exact(iL h).bh n
theorem sV(k g:Int)(nm:List Nat)(cp:Γ)(l sz:List AV):sC k g nm cp l sz= .n k:: .n g:: .str nm:: .list cp l::(sz++[.n 0,.n 0,.str [],.list .nil [],.list .nil [],.list .nil []]):=by simp[sC,z0,ζ.four,ζ.ψ]
theorem uj:z0.four=[.n 0,.n 0,.str [],.list .nil []]:=rfl
theorem TT(n:Nat)(x:φ)(h:x.Ok):lo n x.av=true:=(φ.fx h).lo n
theorem dN:z0.eD:=⟨⟨.inl rfl,trivial⟩,pE,trivial⟩
theorem yS{k g:Int}{nm:List Nat}{cp:Γ}{pl:List φ}{sz:ζ}(cm:∀y∈pl,y.Ok)(hs:sz.eD):bJ (sC k g nm cp (pl.map φ.av) sz.four) (δ.mk k g nm (cp.exp 0 false) pl sz z0 .nil [] .nil []).cells:=by simp only[sC,δ.cells];exact((bJ.append (.cons (.int _ _) (.cons (.int _ _) (.cons (.str _) (.cons (.list cp (bJ.of φ.av pl fun y hy=>φ.fx (cm y hy))) .nil)))) (iL hs)).append (iL dN)).append (.cons (.list .nil .nil) (.cons (.list .nil .nil) .nil))
section
variable{s:List Nat}{all:List Tok}{c:Γ}
def tl(u:Nat)(s:List Nat)(all:List Tok)(c:Γ){α:Type}(f:FuncId)(args:List AV)(P:PS->R α)(E:α->AV->Prop)(a:RS):Prop:=
 ∀(B:List θ) (p:Nat) (cs:List AV) (item:AV) (T:List Nat),p<B.length->cV s all c item cs a->∃v x ξ dW b T',aS (C u) (.fn (.func f) [] []) (.μ p 0::args) {ε:=B.set p (.cells cs),η:=T}=some (v,{ε:=B.set p (.cells ξ),η:=T'})/\cV s all c dW ξ b/\Δ P a x b/\E x v/\∀i∈T',i∈T\/i=p
theorem aga(hc:aJ c){B:List θ}{p:Nat}(hp:p<B.length){b:RS}(tt:List Nat):∀{cs:List AV} {item:AV},cV s all c item cs b->(∀i∈tt,i=p\/B.length<=i)→
  ∃ξ dW,lT B.length tt (B.set p (.cells cs))=B.set p (.cells ξ)/\cV s all c dW ξ b:=by
 induction tt with
 |nil=>intro cs item h _;exact⟨cs,item,rfl,h⟩
 |cons i tt ih=>
  intro cs item h ht
  rcases ht i (by simp)with rfl|hi
  ·obtain⟨k,wr,rfl,hk,h⟩:=h;have e:(θ.cells [.str s,.list c (all.map Tok.a_),.n k,.n wr,item]).AH B.length= .cells [.str s,.list c (all.map Tok.a_),.n k,.n wr,exp B.length true item]:=by
    have:bn B.length true (all.map Tok.a_)=all.map Tok.a_:=by rw[fm,di];exact dz fun t _=>Tok.Ql _ _ t
    simp[θ.AH,exp,fu hc,this]
   simp only[lT,List.getElem?_set_self hp,e,List.set_set];exact ih ⟨k,wr,rfl,hk,h⟩ fun j hj=>ht j (by simp[hj])
  ·simp only[lT,iU (show(B.set p (θ.cells cs)).length<=i by simpa using hi)];exact ih h fun j hj=>ht j (by simp[hj])
theorem HO(hc:aJ c){f:FuncId}{g:AF}{args:List AV}{B:List θ}{p:Nat}{cs ξ:List AV}{v:AV}{b:RS}{dW:AV}(h1:(C u).jG f=none)(h2:(C u).fs f=some g)(h3:(C u).bD f=false)(hp:p<B.length)(hx:args.map (exp B.length false)=args)
  {r:Ex×St} (hr:exec (C u).gl (aS (C u)) fT g.code {env:= .μ p 0::args,loc:=[],mem:= {ε:=B.set p (.cells cs),η:=[]}}=some r) (he:∀i,r.1≠ .exit i) {bs:List θ} (hm:r.2.mem.ε=B.set p (.cells ξ)++bs) (hL:cV s all c dW ξ b)
  (ht:∀i∈r.2.mem.η,i=p\/B.length<=i) {l:List AV} (hl:bf r.2 g.results=some l) (hv:ax r.2.mem.ε B.length 8 (ba l)=v) (T:List Nat):
  ∃PR aaY T',aS (C u) (.fn (.func f) [] []) (.μ p 0::args) {ε:=B.set p (.cells cs),η:=T}=some (v,{ε:=B.set p (.cells PR),η:=T'})/\cV s all c aaY PR b/\∀i∈T',i∈T\/i=p:=by
 obtain⟨aV,rj,e1,e2⟩:=aga hc hp _ hL ht;have dV:(AV.μ p 0::args).map (exp (B.set p (θ.cells cs)).length false)= .μ p 0::args:=by simp only[ah,ft,hx,exp,hp,if_true]
 obtain⟨ex,s'⟩:=r;have hc:=Jc (C:=C u) (f:=f) (g:=g) (args:= .μ p 0::args) (m:= {ε:=B.set p (.cells cs),η:=T}) h1 h2 h3 (by rw[dV];exact hr) he hl;dsimp only at hm ht hv;have h5:(B.set p (θ.cells ξ)++bs).take (B.set p (θ.cells cs)).length=B.set p (.cells ξ):=by rw[ft,List.take_append_of_le_length (by simp)];exact dY (by simp)
 have h6:Mem.back {ε:=B.set p (.cells cs),η:=T} s'.mem= {ε:=B.set p (.cells aV),η:=T++s'.mem.η.filter fun i=>match(B.set p (θ.cells aV))[i]? with
   |some b=>!b.clean i
   |none=>false}:=by
  have e:s'.mem= {ε:=B.set p (.cells ξ)++bs,η:=s'.mem.η}:=by rw[<-hm]
  rw[e];simp only[Mem.back,h5];rw[ft,e1];rfl
 rw[ft,hv,h6]at hc;refine⟨aV,rj,_,hc,e2,fun i hi=>?_⟩;rcases eL.1 hi with hi|hi
 ·exact .inl hi
 ·obtain⟨h7,h8⟩:=List.mem_filter.1 hi;rcases ht i h7 with rfl|h9
  ·exact .inr rfl
  ·rw[iU (by simpa using h9)]at h8;cases h8
variable(hl:all.length<1000000000)(Θ:∀t∈all,t.Ok)(hc:aJ c)
def Vg:δ->AV->Prop:=fun x v=>v= .agg x.cells/\x.Ok
def NF(s:List Nat)(all:List Tok)(c:Γ)(e n:Nat)(B:List θ)(p:Nat)(a:RS)(st:St):Prop:=
 st.e 2= .μ B.length 0/\st.e 4= .Ω 4 0 0/\(∃z,st.q 4=some (0,.cells z)/\z.length=14)/\st.e 5= .μ (B.length+1) 0∧
  ∃k g nm cp pl sz cs ext tt item b,st.mem= {ε:=B.set p (.cells cs)++([.cells [.μ p 0],.cells (sC k g nm cp (pl.map φ.av) sz.four)]++ext),η:=tt}/\cV s all c item cs b/\(∀i∈tt,i=p\/B.length<=i)/\dJ nm/\(∀y∈pl,y.Ok)/\sz.eD∧
   Δ (ky e (ai e n)) a (.mk k g nm (cp.exp 0 false) pl sz z0 .nil [] .nil []) b
include hl Θ hc
omit hl Θ hc in
theorem iV.at{α:Type}{Rel:List AV->RS->Prop}{f:FuncId}{args:List AV}{P:PS->R α}{E:α->AV->Prop}{a:RS}(h:iV u Rel f args P E a){B:List θ}(D:List θ){p:Nat}{cs:List AV}(hp:p<B.length)(hr:Rel cs a):
  ∃v x ξ b,(∀T,aS (C u) (.fn (.func f) [] []) (.μ p 0::args) (aY B p cs D T)=some (v,(aY B p ξ D T)))/\Rel ξ b/\Δ P a x b/\E x v:=by
 obtain⟨v,x,ξ,b,h1,h2⟩:=h (B++D) p cs (by simp;omega) hr;simp only[lW _ _ hp]at h1;exact⟨v,x,ξ,b,h1,h2⟩
omit Θ hc in
theorem Be{item:AV}(w:List Nat){B:List θ}(D:List θ){p:Nat}{cs:List AV}{a:RS}(hp:p<B.length)(h:cV s all c item cs a)(t:Bool)(hb:a.aD w=t)(T:List Nat):
  kf u 268 [.μ p 0,.list .full [.str w]] (aY B p cs D T)=some (.bool t,(aY B p cs D T)):=by
 have:=DS (u:=u) w hl (B:=B++D) (p:=p) (by simp;omega) h hb T;simpa only[lW _ _ hp]using this
theorem f297{n:Nat}(a:RS)(ha:a.sz<n)(word:List Nat)(hw:∀st,a= .r st->word=st.hd):tl u s all c 297 [.str word] (AL s.length (ai s.length n)) Vg a:=by
 intro B p cs item T hp h;have dy:κ (C u).gl (aS (C u)) Pq {env:=[.μ p 0,.str word],loc:=[],mem:= {ε:=B.set p (.cells cs),η:=[]}} fun r=>(∀i,r.1≠ .exit i)/\∃x L ξ ext tt item b,r.2.mem=(aY B p ξ ext tt)/\(∀i∈tt,i=p\/B.length<=i)∧
   bq r.2.env 4= .Ω 4 0 0/\bT r.2.loc 4=some (0,.cells L)/\bJ L x.cells/\x.Ok/\cV s all c item ξ b/\Δ (AL s.length (ai s.length n)) a x b:=by
  have Ro:(C u).gl 0= .ref [nH .any bu]:=zK;have q85:=fun m=>f85 (u:=u) .any (.inr rfl) bu word (by decide) m;have hgate:placeOf bu word+1=(eY word:Int):=by unfold placeOf eY;cases bu.findIdx? fun x=>x==word<;>simp
  have Zu:eY word<=12:=by
   unfold eY;cases hf:bu.findIdx? fun x=>x==word with
   |none=>simp
   |some i=>
    have:=(List.findIdx?_eq_some_iff_findIdx_eq.1 hf).1
    have hl:bu.length=12:=rfl;simp only;omega
  have dh:aT .i64 (placeOf bu word+1)=eY word:=by rw[hgate,wrap_i64 (by omega) (by omega)]
  refine χ (fun st=>st.e 1= .str word/\st.e 2= .μ B.length 0/\st.e 4= .Ω 4 0 0/\(∃z,st.q 4=some (0,.cells z)/\z.length=14)/\st.mem= {ε:=B.set p (.cells cs)++[.cells [.μ p 0]],η:=[]}) (by simp[aQ,Mem.push,Mem.ρ,ρ]) fun s1 ⟨h1,h2,h4,⟨z,h5,h6⟩,h7⟩=>?_;let K:St->Prop:=fun st=>st.e 1= .str word/\st.e 2= .μ B.length 0/\st.e 4= .Ω 4 0 0/\st.q 4=some (0,.cells z)/\st.e 5= .μ (B.length+1) 0;refine χ (fun st=>K st/\st.mem= {ε:=B.set p (.cells cs)++[.cells [.μ p 0],.cells [.n 0,.n 0,.str [],.list .nil [],.n 0,.n 0,.str [],.list .nil [],.n 0,.n 0,.str [],.list .nil [],.list .nil [],.list .nil []]],η:=[]}) (by simp[K,aQ,Mem.push,Mem.ρ,ρ,cL,h1,h2,h4,h5,h7]) fun s1 ⟨⟨h1,h2,h4,h5,h8⟩,h7⟩=>?_;refine χ (fun st=>(K st/\st.mem= {ε:=B.set p (.cells cs)++[.cells [.μ p 0],.cells [.n 0,.n 0,.str [],.list .nil [],.n 0,.n 0,.str [],.list .nil [],.n 0,.n 0,.str [],.list .nil [],.list .nil [],.list .nil []]],η:=[]})/\st.e 6= .n (eY word)) (by simp[K,h1,h2,h4,h5,h7,h8,Ro,q85,dh]) fun s1 ⟨⟨⟨h1,h2,h4,h5,h8⟩,h7⟩,h9⟩=>?_;refine aZ (NF s all c s.length n B p a) ?_ fun s2 ⟨m2,m4,⟨z',m5,m6⟩,m8,k,g,nm,cp,pl,sz,aW,ext,tt,Hl,b,m7,m9,m10,m11,m12,m13,m14⟩=>?_
  ·refine κ.block ?_;have eB:∀(X:List θ) (L:List AV) (e:List θ),X.length=B.length->(X++θ.cells [.μ p 0]::θ.cells L::e)[B.length]?=some (.cells [.μ p 0]):=fun X L e h=>by rw[<-h];simp
   have zY:∀(X:List θ) (L:List AV) (e:List θ),X.length=B.length->(X++θ.cells [.μ p 0]::θ.cells L::e)[B.length+1]?=some (.cells L):=fun X L e h=>by rw[<-h];simp
   have GY:∀(X:List θ) (L L':List AV) (e:List θ),X.length=B.length->(X++θ.cells [.μ p 0]::θ.cells L::e).set (B.length+1) (.cells L')=X++θ.cells [.μ p 0]::θ.cells L'::e:=fun X L L' e h=>by rw[<-h];simp
   have hX:∀cs,(B.set p (θ.cells cs)).length=B.length:=fun cs=>by simp
   have g0:=fun cs L e=>eB (B.set p (.cells cs)) L e (hX cs);have g1:=fun cs L e=>zY (B.set p (.cells cs)) L e (hX cs);have gs:=fun cs L L' e=>GY (B.set p (.cells cs)) L L' e (hX cs);clear eB zY GY;have fin:∀(k g:Int) (nm:List Nat) (cp:Γ) (pl:List φ) (sz:ζ) (ξ:List AV) (ext:List θ) (tt:List Nat) (dW:AV) (b:RS) (st:St),
     K st/\st.mem= {ε:=B.set p (.cells ξ)++(θ.cells [.μ p 0]::θ.cells (sC k g nm cp (pl.map φ.av) sz.four)::ext),η:=tt}->cV s all c dW ξ b->(∀i∈tt,i=p\/B.length<=i)->dJ nm->(∀y∈pl,y.Ok)->sz.eD→
     Δ (ky s.length (ai s.length n)) a (.mk k g nm (cp.exp 0 false) pl sz z0 .nil [] .nil []) b->NF s all c s.length n B p a st:=fun k g nm cp pl sz ξ ext tt dW b st ⟨⟨m1,m2,m4,m5,m8⟩,m7⟩ q1 q2 q3 q4 q5 q6=>
    ⟨m2,m4,⟨z,m5,h6⟩,m8,k,g,nm,cp,pl,sz,ξ,ext,tt,dW,b,m7,q1,q2,q3,q4,q5,q6⟩
   have eI:∀i∈([]:List Nat),i=p\/B.length<=i:=by simp
   have RQ:∀y∈([]:List φ),y.Ok:=by simp
   by_cases GZ:0<eY word
   ·have KE:(0:Int)<eY word:=by omega
    obtain⟨_,w1,aW,a1,k1,r1,bS,rfl⟩:=(f226 (u:=u) (item:=item) word hl Θ a).at [.cells [.μ p 0],.cells [.n 0,.n 0,.str [],.list .nil [],.n 0,.n 0,.str [],.list .nil [],.n 0,.n 0,.str [],.list .nil [],.list .nil [],.list .nil []]] hp h;have s1:=bS.sz (cI _ _);have afo:=fun m=>f272 (u:=u) (eY word) (by omega) m;have YN:1<=gT (eY word)/\gT (eY word)<=3:=by unfold gT;(repeat' split)<;>omega
    generalize oF:(eY word:Int)=gw at*;generalize Ki:gT gw=ar at*;let pl:PS->R φ:=gQ s.length (ai s.length n);let T1:PS->R (List φ):=fun t=>(pl t).bind fun p t=>lP s.length pl (ar-1) [p] t;have jB:df pl:=Eo _ (fl _ _);let Y:List AV->Γ->List φ->List θ->List θ:=fun cs cp l ext=>B.set p (.cells cs)++(θ.cells [.μ p 0]::θ.cells (sC 1 gw [] cp (l.map φ.av) z0.four)::ext);refine χ (fun st=>K st/\st.e 6= .n gw/\st.e 21= .bool true/\st.mem= {ε:=B.set p (.cells cs)++[.cells [.μ p 0],.cells [.n 0,.n 0,.str [],.list .nil [],.n 0,.n 0,.str [],.list .nil [],.n 0,.n 0,.str [],.list .nil [],.list .nil [],.list .nil []]],η:=[]}) (by simp[K,h1,h2,h4,h5,h7,h8,h9,KE]) fun s1 ⟨⟨h1,h2,h4,h5,h8⟩,h9,aG,h7⟩=>?_;refine κ.yes (by simp[aG]) ?_;refine χ (fun st=>K st/\st.e 6= .n gw/\st.mem= {ε:=B.set p (.cells aW)++[.cells [.μ p 0],.cells [.n 0,.n 0,.str [],.list .nil [],.n 0,.n 0,.str [],.list .nil [],.n 0,.n 0,.str [],.list .nil [],.list .nil [],.list .nil []]],η:=[]}) (by simp[K,h1,h2,h4,h5,h7,h8,h9,k1,g0,g1]) fun s1 ⟨⟨h1,h2,h4,h5,h8⟩,h9,h7⟩=>?_;refine χ (fun st=>K st/\st.e 6= .n gw/\st.mem= {ε:=Y aW .nil [] [],η:=[]}) (by simp[K,Y,h1,h2,h4,h5,h7,h8,h9,g0,g1,gs,Mem.put,Mem.ρ,ρ,bh,lo,sV,uj]) fun s1 ⟨⟨h1,h2,h4,h5,h8⟩,h9,h7⟩=>?_;let I:Nat->St->Prop:=fun i st=>K st/\st.e 31= .n ar/\st.e 32= .n i/\∃ξ cp l ext tt b,st.mem= {ε:=Y ξ cp l ext,η:=tt}/\l.length=i/\Row (B.length+2) (Y ξ cp l ext) 2 74 cp l.length/\(l=[]->cp= .nil)/\(∀y∈l,y.Ok)/\(∀i∈tt,i=p\/B.length<=i)/\cV s all c item ξ b/\b.sz<=a1.sz∧
     ((l=[]/\b=a1)\/(0<i/\∀y b',Δ (lP s.length pl (ar-i) l) b y b'->Δ T1 a1 y b'))
    refine κ.mono (Q:=fun r=>r.1= .normal/\∃ξ cp l ext tt b,K r.2/\r.2.mem= {ε:=Y ξ cp l ext,η:=tt}/\(l≠[]/\cp.exp 0 false= .any)/\(∀y∈l,y.Ok)/\(∀i∈tt,i=p\/B.length<=i)/\cV s all c item ξ b/\Δ T1 a1 l b) ?_ fun r ⟨sG,ξ,cp,l,ext,tt,b,q1,q2,⟨_,q3⟩,q4,q5,q6,q7⟩=>?_
    ·refine χ (fun st=>K st/\st.e 31= .n ar/\st.e 32= .n 0/\st.mem= {ε:=Y aW .nil [] [],η:=[]}) (by simp[K,h1,h2,h4,h5,h7,h8,h9,afo]) fun s1 ⟨hK,h9,aG,h7⟩=>?_;have hI:I 0 s1:=⟨hK,h9,aG,aW,.nil,[],[],[],a1,h7,rfl,Row.nil,fun _=>rfl,by simp,by simp,r1,bQ _,.inl ⟨rfl,rfl⟩⟩;refine κ.block (κ.ki (I:=I) ar hI fun i st hi τ=>?_);obtain⟨⟨h1,h2,h4,h5,h8⟩,h9,aG,ξ,cp,l,ext,tt,b,h7,jU,dn,jQ,fB,lL,jj,fb,gX⟩:=τ;unfold SW;rcases Nat.lt_or_ge i ar with ν|cD
     ·have dE:(i:Int)<ar:=by omega
      have ej:aT .i64 ((i:Int)+1)=(i:Int)+1:=wrap_i64 (by omega) (by omega);have place:∀aV b2,cV s all c item aV b2->b2.sz<=a1.sz->∃x aP dS ext' b3,(∀T,kf u 309 [.μ p 0] {ε:=Y aV cp l ext,η:=T}=some (x.av,{ε:=Y aP cp l ext,η:=T}))∧
        (∀T,gL {ε:=Y aP cp l ext,η:=T} true 2 40 74 (.list cp (l.map φ.av)) (.list .full [x.av])=some (.list dS (l.map φ.av++[x.av]),{ε:=Y aP cp l ext',η:=T}))/\Row (B.length+2) (Y aP dS (l++[x]) ext') 2 74 dS (l++[x]).length/\cV s all c item aP b3/\Δ pl b2 x b3/\x.Ok/\b3.sz<=b2.sz:=by
       intro aV b2 Ah mf;obtain⟨_,x,aP,b3,k3,r3,bE,rfl,hx⟩:=(f309 (u:=u) (item:=item) (k:=n) hl Θ b2 (by omega)).at (θ.cells [.μ p 0]::θ.cells (sC 1 gw [] cp (l.map φ.av) z0.four)::ext) hp Ah;have hY:∀cs cp l ext,Y cs cp l ext=(B.set p (.cells cs)++[θ.cells [.μ p 0],θ.cells (sC 1 gw [] cp (l.map φ.av) z0.four)])++ext:=fun cs cp l ext=>by simp[Y]
       have fZ:Row (B.set p (.cells aP)++[θ.cells [.μ p 0],θ.cells (sC 1 gw [] cp (l.map φ.av) z0.four)]).length ((B.set p (.cells aP)++[θ.cells [.μ p 0],θ.cells (sC 1 gw [] cp (l.map φ.av) z0.four)])++ext) 2 74 cp (l.map φ.av).length:=by rw[hY]at dn;have:=Row.swap dn (P':=B.set p (.cells aP)++[θ.cells [.μ p 0],θ.cells (sC 1 gw [] cp (l.map φ.av) z0.four)]) (by simp) (by simp);rw[dq];simpa using this
       obtain⟨dS,ext',eN,gE,-⟩:=oT (bytes:=40) fZ (AB l) (show shaped true 2 x.av=true by rfl) (φ.n_ x) (by omega) (by simp;omega) (by simp;omega);refine⟨x,aP,dS,ext',b3,k3,fun T=>by rw[hY,hY];exact eN T,?_,r3,bE,hx,bE.sz jB⟩;rw[dq]at gE;rw[hY];have:=Row.swap gE (P':=B.set p (.cells aP)++[θ.cells [.μ p 0],θ.cells (sC 1 gw [] dS ((l++[x]).map φ.av) z0.four)]) (by simp) (by simp);simpa using this
      have done:∀x aP dS ext' b3 mu s',K s'->s'.e 31= .n ar->s'.e 32= .n ((i:Int)+1)->s'.mem= {ε:=Y aP dS (l++[x]) ext',η:=mu}->Row (B.length+2) (Y aP dS (l++[x]) ext') 2 74 dS (l++[x]).length->cV s all c item aP b3->x.Ok->b3.sz<=b.sz->(∀i∈mu,i=p\/B.length<=i)→
        (∀y b',Δ (lP s.length pl (ar-(i+1)) (l++[x])) b3 y b'->Δ T1 a1 y b')->I (i+1) s':=fun x aP dS ext' b3 mu s' q1 q2 q3 q4 q5 q6 q7 q8 q9 gx=>
       ⟨q1,q2,q3,aP,dS,l++[x],ext',mu,b3,q4,by simp[jU],q5,fun h=>by simp at h,fun y hy=>(eL.1 hy).elim (fB y) fun h=>by rw[lV.1 h];exact q7,q9,q6,by omega,.inr ⟨by omega,gx⟩⟩
      have vY:∀c l,((sC 1 gw [] c l z0.four).drop 3).take 1=[.list c l]:=fun _ _=>rfl;have sF:∀c l c' l',(sC 1 gw [] c l z0.four).take 3++AV.list c' l'::(sC 1 gw [] c l z0.four).drop 4=sC 1 gw [] c' l' z0.four:=fun _ _ _ _=>rfl;have uA:∀c l,(sC 1 gw [] c l z0.four).length=14:=fun c l=>Ic 1 gw [] c l z0;have dM:∀(x:φ) (dS:Γ),x.Ok->∀m:Mem,m.ρ (.list dS (l.map φ.av++[x.av]))= .list dS (l.map φ.av++[x.av]):=fun x dS hx m=>by have:=(Dv.list dS (bJ.of φ.av (l++[x]) fun y hy=>(eL.1 hy).elim (fun h=>φ.fx (fB y h)) fun h=>by rw[lV.1 h];exact φ.fx hx)).ρ;rw[pJ]at this;exact this
      rcases gX with⟨h0,eS⟩|⟨h0,gX⟩
      ·have z_:i=0:=by rw[<-jU,h0];rfl
       obtain⟨x,aP,dS,ext',b3,k3,eN,gE,r3,bE,hx,yd⟩:=place ξ b jj fb;refine κ.done .normal (fun st=>K st/\st.e 31= .n ar/\st.e 32= .n ((i:Int)+1)/\∃mu,st.mem= {ε:=Y aP dS (l++[x]) ext',η:=mu}/\∀i∈mu,i=p\/B.length<=i) (by
        have KF:¬0<i:=by omega
        simp only[Y]at k3 eN h7⊢;simp[K,h1,h2,h4,h5,h7,h8,h9,aG,dE,KF,ej,k3,eN,g0,g1,gs,Mem.put,vY,sF,uA,dM x dS hx,tD,b_,cj];intro j hj;split at hj
        ·exact lL j hj
        ·exact(dX.1 hj).elim (fun h=> .inr (by omega)) (lL j)) fun s' ⟨q1,q2,q3,mu,q4,q5⟩=> .inl ⟨rfl,ν,done x aP dS ext' b3 mu s' q1 q2 q3 q4 gE r3 hx yd q5 ?_⟩
       intro y b' hg;rw[eS]at bE;rw[h0,z_]at hg;exact bE.bind (Q:=fun p t=>lP s.length pl (ar-1) [p] t) hg
      ·have vR:(0:Int)<i:=by omega
       obtain⟨_,w2,aV,b2,k2,r2,cR,rfl⟩:=(f226 (u:=u) (item:=item) [44] hl Θ b).at (θ.cells [.μ p 0]::θ.cells (sC 1 gw [] cp (l.map φ.av) z0.four)::ext) hp jj;have mf:=cR.sz (cI _ _);obtain⟨x,aP,dS,ext',b3,k3,eN,gE,r3,bE,hx,yd⟩:=place aV b2 r2 (by omega);refine κ.done .normal (fun st=>K st/\st.e 31= .n ar/\st.e 32= .n ((i:Int)+1)/\∃mu,st.mem= {ε:=Y aP dS (l++[x]) ext',η:=mu}/\∀i∈mu,i=p\/B.length<=i) (by
        simp only[Y]at k3 eN h7⊢
        simp[K,h1,h2,h4,h5,h7,h8,h9,aG,dE,h0,ej,k2,k3,eN,g0,g1,gs,Mem.put,vY,sF,uA,dM x dS hx,tD,b_,cj];intro j hj;split at hj
        ·exact lL j hj
        ·exact(dX.1 hj).elim (fun h=> .inr (by omega)) (lL j)) fun s' ⟨q1,q2,q3,mu,q4,q5⟩=> .inl ⟨rfl,ν,done x aP dS ext' b3 mu s' q1 q2 q3 q4 gE r3 hx (by omega) q5 fun y b' hg=>gX y b' ?_⟩
       rw[show ar-i=(ar-(i+1))+1 by omega];exact cR.bind (Q:=fun _ t=>(pl t).bind fun p t=>lP s.length pl (ar-(i+1)) (l++[p]) t) (bE.bind (Q:=fun p t=>lP s.length pl (ar-(i+1)) (l++[p]) t) hg)
     ·have:i=ar:=by omega
      subst this;refine κ.done (.exit 1) (fun st=>K st/\st.mem= {ε:=Y ξ cp l ext,η:=tt}) (by simp[K,h1,h2,h4,h5,h7,h8,h9,aG]) fun s' hh=> .inr ⟨by simp,.inl ⟨rfl,rfl,ξ,cp,l,ext,tt,b,hh.1,hh.2,?_,fB,lL,jj,?_⟩⟩
      ·have aj:l≠[]:=fun h=>by rw[h]at jU;simp at jU;omega
       refine⟨aj,?_⟩;rcases dn with⟨_,h⟩|⟨t,rfl,_,_⟩
       ·exact absurd (lU h) aj
       ·rfl
      ·rcases gX with⟨h,_⟩|⟨_,h⟩
       ·rw[h]at jU;simp at jU;omega
       ·refine h l b ?_;rw[Nat.sub_self];exact Δ.pure l b
    ·refine .inr ⟨by rw[sG];simp,.inl ⟨sG,fin 1 gw [] cp l z0 ξ ext tt item b r.2 ⟨q1,q2⟩ q6 q5 pE q4 dN ?_⟩⟩;rw[q3];refine Δ.as (P:=fun t=>(ak s.length word t).bind fun _ t=>(T1 t).map fun l=> .mk 1 gw [] .any l z0 z0 .nil [] .nil []) (bS.bind (q7.map fun l:List φ=>δ.mk 1 gw [] .any l z0 z0 .nil [] .nil [])) fun st hs=>?_;have e3:=hw st hs;simp only[ky,<-e3,GZ,if_true,oF,Ki,T1,R.bind_map];rfl
   have Cg:eY word=0:=by omega
   have sy:∀st,a= .r st->eY st.hd=0:=fun st hs=>by rw[<-hw st hs];exact Cg
   rw[Cg]at h9;have qb:=fun w t hb T=>Be (u:=u) hl w [.cells [.μ p 0],.cells [.n 0,.n 0,.str [],.list .nil [],.n 0,.n 0,.str [],.list .nil [],.n 0,.n 0,.str [],.list .nil [],.list .nil [],.list .nil []]] hp h t hb T;have iN:∀w,a.aD w=true->∀st,a= .r st->st.hd=w:=fun w hb st hs=>by subst hs;exact beq_iff_eq.1 hb
   have lH:∀w,a.aD w=false->∀st,a= .r st->¬st.hd=w:=fun w hb st hs=>by subst hs;exact beq_eq_false_iff_ne.1 hb
   have qw:=(f226 (u:=u) (item:=item) word hl Θ a).at [.cells [.μ p 0],.cells [.n 0,.n 0,.str [],.list .nil [],.n 0,.n 0,.str [],.list .nil [],.n 0,.n 0,.str [],.list .nil [],.list .nil [],.list .nil []]] hp h;obtain⟨_,w1,aW,a1,k1,r1,bS,rfl⟩:=qw;have s1:=bS.sz (cI _ _);cases b1:a.aD [116,97,107,101]with
   |true=>
    have iE:=qb _ _ b1
    obtain⟨_,x,aV,a2,k2,r2,cR,rfl,kM,qs⟩:=(f295 (u:=u) (item:=item) (k:=n) hl Θ a1 (by omega)).at [.cells [.μ p 0],.cells [.n 2,.n 0,.str [],.list .nil [],.n 0,.n 0,.str [],.list .nil [],.n 0,.n 0,.str [],.list .nil [],.list .nil [],.list .nil []]] hp r1;refine κ.done .normal (fun st=>K st/\st.mem= {ε:=B.set p (.cells aV)++(θ.cells [.μ p 0]::θ.cells (sC 2 0 x.1 .nil [] x.2.four)::[]),η:=[]}) (by simp[K,h1,h2,h4,h5,h7,h8,h9,iE,k1,k2,g0,g1,gs,Mem.put,Mem.ρ,ρ,bh,lo,XY,XX _ _ qs,sV]) fun s' hh=> .inr ⟨by simp,.inl ⟨rfl,fin 2 0 x.1 .nil [] x.2 aV [] [] item a2 s' hh r2 eI kM RQ qs ?_⟩⟩;refine Δ.as (P:=fun t=>(ak s.length word t).bind fun _ t=>(sX s.length (ai s.length n) t).map fun x=> .mk 2 0 x.1 .nil [] x.2 z0 .nil [] .nil []) (bS.bind (cR.map fun x:List Nat×ζ=>δ.mk 2 0 x.1 .nil [] x.2 z0 .nil [] .nil [])) fun st hs=>?_;have e1:=iN _ b1 st hs;have e2:=sy st hs;have e3:=hw st hs;rw[e1]at e2 e3;simp[ky,e1,e2,e3]
   |false=>
   have iE:=qb _ _ b1
   cases b2:a.aD [100,114,111,112]with
   |true=>
    have jI:=qb _ _ b2
    obtain⟨_,x,aV,a2,k2,r2,cR,rfl,hx⟩:=(f227 (u:=u) (item:=item) hl Θ a1).at [.cells [.μ p 0],.cells [.n 0,.n 0,.str [],.list .nil [],.n 0,.n 0,.str [],.list .nil [],.n 0,.n 0,.str [],.list .nil [],.list .nil [],.list .nil []]] hp r1;refine κ.done .normal (fun st=>K st/\st.mem= {ε:=B.set p (.cells aV)++(θ.cells [.μ p 0]::θ.cells (sC 3 0 x .nil [] z0.four)::[]),η:=[]}) (by simp[K,h1,h2,h4,h5,h7,h8,h9,iE,jI,k1,k2,g0,g1,gs,Mem.put,Mem.ρ,ρ,bh,lo,sV,uj]) fun s' hh=> .inr ⟨by simp,.inl ⟨rfl,fin 3 0 x .nil [] z0 aV [] [] item a2 s' hh r2 eI hx RQ dN ?_⟩⟩;refine Δ.as (P:=fun t=>(ak s.length word t).bind fun _ t=>(fU s.length t).map fun x=> .mk 3 0 x .nil [] z0 z0 .nil [] .nil []) (bS.bind (cR.map fun x:List Nat=>δ.mk 3 0 x .nil [] z0 z0 .nil [] .nil [])) fun st hs=>?_;have e1:=iN _ b2 st hs;have e2:=sy st hs;have e3:=hw st hs;rw[e1]at e2 e3;simp[ky,e1,e2,e3]
   |false=>
   have jI:=qb _ _ b2
   cases b3:a.aD [109,101,97,115,117,114,101]with
   |true=>
    have lr:=qb _ _ b3
    obtain⟨_,x,aV,a2,k2,r2,cR,rfl,hx⟩:=(f309 (u:=u) (item:=item) (k:=n) hl Θ a1 (by omega)).at [.cells [.μ p 0],.cells [.n 0,.n 0,.str [],.list .nil [],.n 0,.n 0,.str [],.list .nil [],.n 0,.n 0,.str [],.list .nil [],.list .nil [],.list .nil []]] hp r1;have s2:=cR.sz (Eo _ (fl _ _));obtain⟨_,w3,aP,a3,k3,r3,bE,rfl⟩:=(f226 (u:=u) (item:=item) [58] hl Θ a2).at [.cells [.μ p 0],.cells [.n 5,.n 0,.str [],.list .full [x.av],.n 0,.n 0,.str [],.list .nil [],.n 0,.n 0,.str [],.list .nil [],.list .nil [],.list .nil []]] hp r2;obtain⟨_,y,dT,a4,k4,r4,ew,rfl,hy⟩:=(f227 (u:=u) (item:=item) hl Θ a3).at [.cells [.μ p 0],.cells [.n 5,.n 0,.str [],.list .full [x.av],.n 0,.n 0,.str [],.list .nil [],.n 0,.n 0,.str [],.list .nil [],.list .nil [],.list .nil []]] hp r3;refine κ.done .normal (fun st=>K st/\st.mem= {ε:=B.set p (.cells dT)++(θ.cells [.μ p 0]::θ.cells (sC 5 0 y .full [x.av] z0.four)::[]),η:=[]}) (by simp[K,h1,h2,h4,h5,h7,h8,h9,iE,jI,lr,k1,k2,k3,k4,g0,g1,gs,Mem.put,Mem.ρ,ρ,cL,φ.n_,bh,lo,Γ.lo,TT _ _ hx,sV,uj]) fun s' hh=> .inr ⟨by simp,.inl ⟨rfl,fin 5 0 y .full [x] z0 dT [] [] item a4 s' hh r4 eI hy (by simpa using hx) dN ?_⟩⟩;refine Δ.as (P:=fun t=>(ak s.length word t).bind fun _ t=>(gQ s.length (ai s.length n) t).bind fun p t=>(ak s.length [58] t).bind fun _ t=>(fU s.length t).map fun x=> .mk 5 0 x .any [p] z0 z0 .nil [] .nil []) (bS.bind (cR.bind (Q:=fun p t=>(ak s.length [58] t).bind fun _ t=>(fU s.length t).map fun x=>δ.mk 5 0 x .any [p] z0 z0 .nil [] .nil []) (bE.bind (ew.map fun y:List Nat=>δ.mk 5 0 y .any [x] z0 z0 .nil [] .nil [])))) fun st hs=>?_;have e1:=iN _ b3 st hs;have e2:=sy st hs;have e3:=hw st hs;rw[e1]at e2 e3;simp[ky,e1,e2,e3]
   |false=>
   have lr:=qb _ _ b3
   cases b4:a.aD [114,101,115,101,116]with
   |true=>
    have mV:=qb _ _ b4
    obtain⟨_,x,aV,a2,k2,r2,cR,rfl,hx⟩:=(f309 (u:=u) (item:=item) (k:=n) hl Θ a1 (by omega)).at [.cells [.μ p 0],.cells [.n 0,.n 0,.str [],.list .nil [],.n 0,.n 0,.str [],.list .nil [],.n 0,.n 0,.str [],.list .nil [],.list .nil [],.list .nil []]] hp r1;refine κ.done .normal (fun st=>K st/\st.mem= {ε:=B.set p (.cells aV)++(θ.cells [.μ p 0]::θ.cells (sC 6 0 [] .full [x.av] z0.four)::[]),η:=[]}) (by simp[K,h1,h2,h4,h5,h7,h8,h9,iE,jI,lr,mV,k1,k2,g0,g1,gs,Mem.put,Mem.ρ,ρ,cL,φ.n_,bh,lo,Γ.lo,TT _ _ hx,sV,uj]) fun s' hh=> .inr ⟨by simp,.inl ⟨rfl,fin 6 0 [] .full [x] z0 aV [] [] item a2 s' hh r2 eI pE (by simpa using hx) dN ?_⟩⟩;refine Δ.as (P:=fun t=>(ak s.length word t).bind fun _ t=>(gQ s.length (ai s.length n) t).map fun p=> .mk 6 0 [] .any [p] z0 z0 .nil [] .nil []) (bS.bind (cR.map fun p:φ=>δ.mk 6 0 [] .any [p] z0 z0 .nil [] .nil [])) fun st hs=>?_;have e1:=iN _ b4 st hs;have e2:=sy st hs;have e3:=hw st hs;rw[e1]at e2 e3;simp[ky,e1,e2,e3]
   |false=>
   have mV:=qb _ _ b4
   obtain⟨_,x,aV,a2,k2,r2,cR,rfl,hx⟩:=(f227 (u:=u) (item:=item) hl Θ a).at [.cells [.μ p 0],.cells [.n 0,.n 0,.str [],.list .nil [],.n 0,.n 0,.str [],.list .nil [],.n 0,.n 0,.str [],.list .nil [],.list .nil [],.list .nil []]] hp h;have s2:=cR.sz (jx _);obtain⟨_,w3,aP,a3,k3,r3,bE,rfl⟩:=(f226 (u:=u) (item:=item) [40] hl Θ a2).at [.cells [.μ p 0],.cells [.n 9,.n 0,.str x,.list .nil [],.n 0,.n 0,.str [],.list .nil [],.n 0,.n 0,.str [],.list .nil [],.list .nil [],.list .nil []]] hp r2;have s3:=bE.sz (cI _ _);obtain⟨B4,T4,l,dT,a4,k4,⟨c4,br,rfl,yc,K',xX⟩,r4,ew,Lu⟩:=f228 (u:=u) hl Θ (I:=sI B p 9 0 x) (fn:= .fn (.func 310) [] [.μ (B.length+1) 0,.μ B.length 0]) (P:=gQ s.length (ai s.length n)) (k:=n) (N:=B.length) (M:=B.length+2) (p:=p) (Eo _ (fl _ _)) rfl rfl
    (fun m hm=>by
     have q1:B.length+1<m:=by omega
     have q2:B.length<m:=by omega
     simp[exp,bn,Fn.below,q1,q2]) (fun l B' ⟨c,ext,h,_⟩=>by rw[h];simp[sT];omega) (f310 hl Θ hp 9 0 x n) [] ⟨.nil,[],by simp;rfl,Row.nil,fun _=>rfl,by simp⟩ r3 (by omega)
   have e0:∀cs D,(B++D).set p (.cells cs)=B.set p (.cells cs)++D:=fun cs D=>lW _ _ hp;simp only[cr,e0]at k4;have ec:c4.exp 0 false=Ξ l:=by
    by_cases h0:l=[]
    ·rw[K' h0,h0];rfl
    ·rcases yc with⟨_,hc⟩|⟨t,rfl,_,_⟩
     ·exact absurd (lU hc) h0
     ·cases l with
      |nil=>exact absurd rfl h0
      |cons a l=>rfl
   have LX:kf u 228 [.μ p 0,.str [41],.fn (.func 310) [] [.μ (B.length+1) 0,.μ B.length 0]] {ε:=B.set p (.cells aP)++[.cells [.μ p 0],.cells [.n 9,.n 0,.str x,.list .nil [],.n 0,.n 0,.str [],.list .nil [],.n 0,.n 0,.str [],.list .nil [],.list .nil [],.list .nil []]],η:=[]}=some (.aO [],{ε:=B.set p (.cells dT)++(θ.cells [.μ p 0]::θ.cells (sC 9 0 x c4 (l.map φ.av) z0.four)::br),η:=T4}):=k4;refine κ.done .normal (fun st=>K st/\st.mem= {ε:=B.set p (.cells dT)++(θ.cells [.μ p 0]::θ.cells (sC 9 0 x c4 (l.map φ.av) z0.four)::br),η:=T4}) (by simp[K,h1,h2,h4,h5,h7,h8,h9,iE,jI,lr,mV,k2,k3,LX,g0,g1,gs,Mem.put,Mem.ρ,ρ,bh,lo]) fun s' hh=> .inr ⟨by simp,.inl ⟨rfl,fin 9 0 x c4 l z0 dT br T4 _ a4 s' hh r4 (fun i hi=>(Lu i hi).elim (fun h=>by cases h) id) hx xX dN ?_⟩⟩;rw[ec];refine Δ.as (P:=fun t=>(fU s.length t).bind fun x t=>(ak s.length [40] t).bind fun _ t=>(ml s.length (gQ s.length (ai s.length n)) t).map fun l=> .mk 9 0 x (Ξ l) l z0 z0 .nil [] .nil []) (cR.bind (Q:=fun x t=>(ak s.length [40] t).bind fun _ t=>(ml s.length (gQ s.length (ai s.length n)) t).map fun l=>δ.mk 9 0 x (Ξ l) l z0 z0 .nil [] .nil []) (bE.bind (ew.map fun l:List φ=>δ.mk 9 0 x (Ξ l) l z0 z0 .nil [] .nil []))) fun st hs=>?_;simp[ky,sy st hs,lH _ b1 st hs,lH _ b2 st hs,lH _ b3 st hs,lH _ b4 st hs]
  ·have g0:∀cs L (e:List θ),(B.set p (θ.cells cs)++θ.cells [.μ p 0]::θ.cells L::e)[B.length]?=some (.cells [.μ p 0]):=fun cs L e=>by simp
   have g1:∀cs L (e:List θ),(B.set p (θ.cells cs)++θ.cells [.μ p 0]::θ.cells L::e)[B.length+1]?=some (.cells L):=fun cs L e=>by simp
   obtain⟨_,w3,aP,a3,k3,r3,bE,rfl⟩:=(f226 (u:=u) (item:=Hl) [59] hl Θ b).at (θ.cells [.μ p 0]::θ.cells (sC k g nm cp (pl.map φ.av) sz.four)::ext) hp m9;have hL:=yS (k:=k) (g:=g) (nm:=nm) (cp:=cp) m12 m13;have eh:(sC k g nm cp (pl.map φ.av) sz.four).length=14:=by rw[hL.len,δ.i_]
   have eH:(sC k g nm cp (pl.map φ.av) sz.four).take 14=sC k g nm cp (pl.map φ.av) sz.four:=dY (by omega);refine κ.done .ret (fun st=>st.mem= {ε:=B.set p (.cells aP)++(θ.cells [.μ p 0]::θ.cells (sC k g nm cp (pl.map φ.av) sz.four)::ext),η:=tt}/\st.e 4= .Ω 4 0 0/\st.q 4=some (0,.cells (sC k g nm cp (pl.map φ.av) sz.four))) (by
    simp only[eK,cO]at m7
    simp[m2,m4,m5,m6,m7,m8,g0,g1,k3,eh,eH]) fun s' ⟨q1,q2,q3⟩=>⟨by simp,_,_,aP,_,tt,Hl,a3,q1,m10,q2,q3,hL,⟨m11,?_,m12,m13,dN,.inl rfl,trivial,.inl rfl,trivial⟩,r3,m14.bind (bE.map fun _=>_)⟩
   cases cp<;>first|exact .inl rfl|exact .inr rfl
 obtain⟨r,e1,e2,x,L,ξ,ext,tt,dW,b,e3,e4,e5,e6,e7,e8,e9,ng⟩:=dy;have hL:L.length=14:=by rw[e7.len,δ.i_]
 have eH:L.take 14=L:=dY (by omega);obtain⟨aV,rj,T',sc,vH,Jw⟩:=HO (u:=u) hc (f:=297) (g:=Gq) (args:=[.str word]) (v:= .agg x.cells) rfl rfl rfl hp rfl e1 e2 (by rw[e3]) e9 (by rw[e3];exact e4) (l:=[.agg L]) (by simp[Gq,e5,e6,hL,eH]) ((Dv.agg e7).ax _ _ _) T;exact⟨_,x,aV,rj,b,T',sc,vH,ng,⟨rfl,e8⟩,Jw⟩
end
end Go.ab.Tz
namespace Go.ab
mutual
def Sp.cells:Sp->List AV
 | .mk f t ins=>[.int .i64 f,.int .i64 t,.list (Ξ ins) (Sp.lists ins)]
def Sp.lists:List (List Sp)->List AV
 |[]=>[]
 |l::r=> .list (Ξ l) (Sp.ψ l)::Sp.lists r
def Sp.ψ:List Sp->List AV
 |[]=>[]
 |x::l=> .agg x.cells::Sp.ψ l
end
theorem zh{α:Type}(l:List α):(Ξ l).exp 0 false=Ξ l:=by cases l<;>rfl
mutual
theorem Sp.fx:∀x:Sp,bJ x.cells x.cells
 | .mk f t ins=>by have:=Dv.list (Ξ ins) (Sp.BQ ins);rw[zh]at this;simp only[Sp.cells];exact .cons (.int _ _) (.cons (.int _ _) (.cons this .nil))
theorem Sp.BQ:∀l:List (List Sp),bJ (Sp.lists l) (Sp.lists l)
 |[]=> .nil
 |l::r=>by have:=Dv.list (Ξ l) (Sp.zB l);rw[zh]at this;simp only[Sp.lists];exact .cons this (Sp.BQ r)
theorem Sp.zB:∀l:List Sp,bJ (Sp.ψ l) (Sp.ψ l)
 |[]=> .nil
 |x::l=>by simp only[Sp.ψ];exact .cons (.agg (Sp.fx x)) (Sp.zB l)
end
theorem Sp.yz(l:List (List Sp)):Sp.lists l=l.map fun x=>AV.list (Ξ x) (Sp.ψ x):=by
 induction l with
 |nil=>rfl
 |cons a l ih=>simp[Sp.lists,ih]
theorem Sp.dZ(l:List Sp):Sp.ψ l=l.map fun x=>AV.agg x.cells:=by
 induction l with
 |nil=>rfl
 |cons a l ih=>simp[Sp.ψ,ih]
namespace Tz
open Go.ab
variable{u:Nat}
attribute [local simp] exec eG eu fz aF d_ fQ fe bq gN bT gF gS hU hZ mD AV.cells newVar hH rd wr gg single fy bF er dL κ bf RV.get ba dU jy
attribute [local simp] vg u6 zx AK Ay ζ.fK
theorem δ.fx(x:δ):x.Ok->bJ x.cells x.cells:=by
 refine δ.iB (Q:=fun x=>x.Ok->bJ x.cells x.cells) (fun k g nm cp pl size to cb body ce aA h1 h2 h=>?_) x;obtain⟨q1,q2,q3,q4,q5,q6,q7,q8,q9⟩:=h;have hl:∀(c:Γ) (l:List δ),aJ c->(∀y∈l,y.Ok->bJ y.cells y.cells)->δ.cW l->Dv (.list c (δ.ψ l)) (.list c (δ.ψ l)):=fun c l hc hy ho=>by have:=Dv.list c (bJ.of δ.av l fun y hm=>Dv.agg (hy y hm (δ.gb ho y hm)));rw[fu hc]at this;rw[δ.dZ];exact this
 have hp:=Dv.list cp (bJ.of φ.av pl fun y hy=>φ.fx (q3 y hy));rw[fu q2]at hp;simp only[δ.cells];exact((bJ.append (.cons (.int _ _) (.cons (.int _ _) (.cons (.str _) (.cons hp .nil)))) (iL q4)).append (iL q5)).append (.cons (hl _ _ q6 h1 q7) (.cons (hl _ _ q8 h2 q9) .nil))
theorem Ig{l:List δ}(h:δ.cW l):bJ (δ.ψ l) (δ.ψ l):=by rw[δ.dZ];exact bJ.of δ.av l fun y hm=>Dv.agg (δ.fx y (δ.gb h y hm))
theorem Te(l:List (List Sp)):(Sp.lists l).all (shaped false 1)=true:=by rw[Sp.yz];simp[lv,shaped,AV.one,Function.comp]
theorem ib{α:Type}(l:List α):aJ (Ξ l):=by cases l<;>simp[Ξ,aJ]
def Eb:List δ×List Sp->AV->Prop:=fun x v=>v= .aO [.list (Ξ x.1) (δ.ψ x.1),.list (Ξ x.2) (Sp.ψ x.2)]/\δ.cW x.1
def hM(B:List θ)(p:Nat)(cs:List AV)(f:Int)(cp:Γ)(ins:List (List Sp))(ext:List θ):List θ:=B.set p (.cells cs)++(θ.cells [.μ p 0]::θ.cells [.n f,.n 0,.list cp (Sp.lists ins)]::ext)
section
variable{s:List Nat}{all:List Tok}{c:Γ}
theorem tl.at{α:Type}{f:FuncId}{args:List AV}{P:PS->R α}{E:α->AV->Prop}{a:RS}(h:tl u s all c f args P E a){B:List θ}(D:List θ){p:Nat}{cs:List AV}{item:AV}(hp:p<B.length)(hr:cV s all c item cs a)(T:List Nat):
  ∃v x ξ dW b T',aS (C u) (.fn (.func f) [] []) (.μ p 0::args) (aY B p cs D T)=some (v,(aY B p ξ D T'))/\cV s all c dW ξ b/\Δ P a x b/\E x v/\∀i∈T',i∈T\/i=p:=by
 obtain⟨v,x,ξ,dW,b,T',h1,h2⟩:=h (B++D) p cs item T (by simp;omega) hr;simp only[lW _ _ hp]at h1;exact⟨v,x,ξ,dW,b,T',h1,h2⟩
theorem f294{k:Nat}{P:PS->R (List δ×List Sp)}(hb:∀a:RS,a.sz<k->tl u s all c 231 [] P Eb a){B:List θ}{p:Nat}(hp:p<B.length)(f:Int)(cp:Γ)(ins:List (List Sp))(ext:List θ)(T:List Nat){cs:List AV}{item:AV}{a:RS}
  (hr:Row (B.length+2) (hM B p cs f cp ins ext) 1 257 cp ins.length) (hlen:ins.length<100) (h:cV s all c item cs a) (ha:a.sz<k):
  ∃x dS ξ dW ext' b T',aS (C u) (.fn (.func 294) [] [.μ B.length 0,.μ (B.length+1) 0]) [] {ε:=hM B p cs f cp ins ext,η:=T}=some (.list (Ξ x.1) (δ.ψ x.1),{ε:=hM B p ξ f dS (ins++[x.2]) ext',η:=T'})∧
   Row (B.length+2) (hM B p ξ f dS (ins++[x.2]) ext') 1 257 dS (ins++[x.2]).length/\cV s all c dW ξ b/\Δ P a x b/\δ.cW x.1/\∀i∈T',i∈T\/i=p\/B.length<=i:=by
 obtain⟨_,x,aW,Hl,b,T1,k1,r1,gv,⟨rfl,hx⟩,ht⟩:=(hb a ha).at (θ.cells [.μ p 0]::θ.cells [.n f,.n 0,.list cp (Sp.lists ins)]::ext) hp h [];have hY:∀cs cp ins ext,hM B p cs f cp ins ext=(B.set p (.cells cs)++[θ.cells [.μ p 0],θ.cells [.n f,.n 0,.list cp (Sp.lists ins)]])++ext:=fun cs cp ins ext=>by simp[hM]
 have fZ:Row (B.set p (.cells aW)++[θ.cells [.μ p 0],θ.cells [.n f,.n 0,.list cp (Sp.lists ins)]]).length ((B.set p (.cells aW)++[θ.cells [.μ p 0],θ.cells [.n f,.n 0,.list cp (Sp.lists ins)]])++ext) 1 257 cp (Sp.lists ins).length:=by rw[hY]at hr;have:=Row.swap hr (P':=B.set p (.cells aW)++[θ.cells [.μ p 0],θ.cells [.n f,.n 0,.list cp (Sp.lists ins)]]) (by simp) (by simp);rw[Sp.yz,dq,<-Sp.yz];simpa using this
 have RJ:ρ (.list (Ξ x.2) (Sp.ψ x.2))= .list (Ξ x.2) (Sp.ψ x.2):=(Dv.list (Ξ x.2) (Sp.zB x.2)).ρ;have gO:(Sp.lists ins).length=ins.length:=by rw[Sp.yz,dq]
 obtain⟨dS,ext',eN,gE,-⟩:=oT (bytes:=24) fZ (Te ins) (show shaped false 1 (.list (Ξ x.2) (Sp.ψ x.2))=true by rfl) RJ (by omega) (by rw[gO];omega) (by rw[gO];omega);have iy:Sp.lists (ins++[x.2])=Sp.lists ins++[.list (Ξ x.2) (Sp.ψ x.2)]:=by simp[Sp.yz]
 have Q2:∀T,gL {ε:=hM B p aW f cp ins ext,η:=T} false 1 24 257 (.list cp (Sp.lists ins)) (.list .full [.list (Ξ x.2) (Sp.ψ x.2)])=some (.list dS (Sp.lists ins++[.list (Ξ x.2) (Sp.ψ x.2)]),{ε:=hM B p aW f cp ins ext',η:=T}):=fun T=>by rw[hY,hY];exact eN T
 have g0:∀cs cp ins ext,(hM B p cs f cp ins ext)[B.length]?=some (.cells [.μ p 0]):=fun cs cp ins ext=>by simp[hM]
 have g1:∀cs cp ins ext,(hM B p cs f cp ins ext)[B.length+1]?=some (.cells [.n f,.n 0,.list cp (Sp.lists ins)]):=fun cs cp ins ext=>by simp[hM]
 have gs:∀cs cp ins ext dS LP,(hM B p cs f cp ins ext).set (B.length+1) (.cells [.n f,.n 0,.list dS (Sp.lists LP)])=hM B p cs f dS LP ext:=fun cs cp ins ext dS LP=>by simp[hM]
 have k1':kf u 231 [.μ p 0] {ε:=hM B p cs f cp ins ext,η:=[]}=some (.aO [.list (Ξ x.1) (δ.ψ x.1),.list (Ξ x.2) (Sp.ψ x.2)],{ε:=hM B p aW f cp ins ext,η:=T1}):=k1;have dv:shaped false 1 (.list (Ξ x.2) (Sp.ψ x.2))=true:=rfl;have La:∀m:Mem,m.ρ (.list (Ξ x.2) (Sp.ψ x.2))= .list (Ξ x.2) (Sp.ψ x.2):=fun _=>RJ;have hnL:∀m:Mem,m.ρ (.list dS (Sp.lists (ins++[x.2])))= .list dS (Sp.lists (ins++[x.2])):=fun _=>(Dv.list dS (Sp.BQ (ins++[x.2]))).ρ;rw[<-iy]at Q2;have dy:κ (C u).gl (aS (C u)) I6 {env:=[.μ B.length 0,.μ (B.length+1) 0],loc:=[],mem:= {ε:=hM B p cs f cp ins ext,η:=[]}} fun r=>r.1= .ret/\bq r.2.env 2= .list (Ξ x.1) (δ.ψ x.1)/\∃tt,r.2.mem= {ε:=hM B p aW f dS (ins++[x.2]) ext',η:=tt}/\∀i∈tt,i=p\/B.length<=i:=by
  have nz:∀i∈T1,i=p\/B.length<=i:=fun i hi=>(ht i hi).elim (fun h=>by cases h) .inl;simp[I6,g0,g1,k1',dv,La,Q2,hnL,gs,Mem.put];intro j hj;split at hj
  ·exact nz j hj
  ·exact(dX.1 hj).elim (fun h=> .inr (by omega)) (nz j)
 obtain⟨⟨ex,s'⟩,e1,e2,e3,tt,e4,e5⟩:=dy;dsimp only at e2 e3 e4;subst e2;have dV:([]++[AV.μ B.length 0,.μ (B.length+1) 0]).map (exp (hM B p cs f cp ins ext).length true)=[AV.μ B.length 0,.μ (B.length+1) 0]:=by
  have q1:B.length<(hM B p cs f cp ins ext).length:=by simp[hM]
  have q2:B.length+1<(hM B p cs f cp ins ext).length:=by simp[hM]
  simp[exp,q1,q2]
 have c_:=uv (C:=C u) (f:=294) (g:=Gm) (args:=[]) (cap:=[.μ B.length 0,.μ (B.length+1) 0]) (m:= {ε:=hM B p cs f cp ins ext,η:=T}) (l:=[.list (Ξ x.1) (δ.ψ x.1)]) rfl rfl rfl (by rw[dV];exact e1) (by simp) (by simp[Gm,e3]);refine⟨x,dS,aW,Hl,ext',b,T++tt,?_,?_,r1,gv,hx,fun i hi=>(eL.1 hi).imp id (e5 i)⟩
 ·refine c_.trans ?_;rw[e4];have:∀n,exp n true (.list (Ξ x.1) (δ.ψ x.1))= .list (Ξ x.1) (δ.ψ x.1):=fun n=>by
   have h1:bn n true (δ.ψ x.1)=δ.ψ x.1:=by rw[δ.dZ,fm,di];exact dz fun y hy=>by simp only[Function.comp,δ.av,exp];rw[δ.EA _ _ y (δ.gb hx y hy)]
   simp only[exp,h1];cases x.1<;>rfl
  simp only[ba,this]
 ·have:=Row.swap gE (P':=B.set p (.cells aW)++[θ.cells [.μ p 0],θ.cells [.n f,.n 0,.list dS (Sp.lists (ins++[x.2]))]]) (by simp) (by simp);rw[hY,List.length_append,<-gO];simpa using this
variable(hl:all.length<1000000000)(Θ:∀t∈all,t.Ok)(hc:aJ c)
def Vf:δ×Sp->AV->Prop:=fun x v=>v= .aO [.agg x.1.cells,.agg x.2.cells]/\x.1.Ok
def NG(s:List Nat)(all:List Tok)(c:Γ)(B:List θ)(p:Nat)(f:Int)(P:PS->R (δ×List (List Sp)))(a:RS)(st:St):Prop:=
 ∃x cs cp ins ext tt item b,st.q 4=some (0,.cells x.cells)/\x.Ok/\st.mem= {ε:=hM B p cs f cp ins ext,η:=tt}/\(cp.exp 0 false=Ξ ins)/\(∀i∈tt,i=p\/B.length<=i)/\cV s all c item cs b/\Δ P a (x,ins) b
include hl Θ hc
theorem f271{n k:Nat}(hb:∀a:RS,a.sz<k->tl u s all c 231 [] (bY s.length (ai s.length n) k) Eb a)(a:RS)(ha:a.sz<n)(Kh:a.sz<k+1):tl u s all c 271 [] (ub s.length (gJ s.length (ai s.length n) (bY s.length (ai s.length n) k))) Vf a:=by
 intro B p cs item T hp h;obtain⟨tk,MX,qi⟩:∃tk:Tok,(∀D T,kf u 291 [.μ p 0] (aY B p cs D T)=some (tk.a_,(aY B p cs D T)))/\∀st,a= .r st->tk.text=st.hd/\tk.kind=st.kd/\tk.at_=st.at_ s.length:=by obtain⟨k0,wr,rfl,hk,hh⟩:=h;refine⟨qv s all k0,fun D T=>?_,fun st ha=>by subst ha;exact Mk hh.2.1⟩;have:=f291 (u:=u) (s:=s) (c:=c) (item:=item) (B++D) p (by simp;omega) k0 wr T hl;simpa only[lW _ _ hp]using this
 simp only[Tok.a_]at MX;generalize τ:gJ s.length (ai s.length n) (bY s.length (ai s.length n) k)=P;have vZ:cU P:=by rw[<-τ];exact BF _ (fl _ _) (tC _ (fl _ _) _)
 have dy:κ (C u).gl (aS (C u)) Pd {env:=[.μ p 0],loc:=[],mem:= {ε:=B.set p (.cells cs),η:=[]}} fun r=>(∀i,r.1≠ .exit i)/\∃x ξ cp ins ext tt item b to,r.2.mem.ε=B.set p (.cells ξ)++ext/\(∀i∈r.2.mem.η,i=p\/B.length<=i)∧
   bq r.2.env 2= .Ω 2 0 0/\bT r.2.loc 2=some (0,.cells x.cells)/\bq r.2.env 3= .Ω 3 0 0/\bT r.2.loc 3=some (0,.cells [.n tk.at_,.n (to:Nat),.list cp (Sp.lists ins)])/\cp.exp 0 false=Ξ ins/\x.Ok/\cV s all c item ξ b/\Δ P a (x,ins) b/\(∀t,b= .r t->to=t.last)/\tt=r.2.mem.η:=by
  let K:St->Prop:=fun st=>st.e 1= .μ B.length 0/\st.e 2= .Ω 2 0 0/\(∃z,st.q 2=some (0,.cells z)/\z.length=14)/\st.e 3= .Ω 3 0 0/\(∃z,st.q 3=some (0,.cells z)/\z.length=3);refine χ (fun st=>K st/\st.q 4=none/\st.mem= {ε:=B.set p (.cells cs)++[.cells [.μ p 0]],η:=[]}) (by simp[K,aQ,Mem.push,Mem.ρ,ρ]) fun s1 ⟨⟨h1,h2,⟨z2,h3,gi⟩,h4,⟨z3,h5,k_⟩⟩,h6,h7⟩=>?_;let K2:St->Prop:=fun st=>K st/\st.e 4= .Ω 4 0 0;refine χ (fun st=>K2 st/\st.q 4=some (0,.cells [.n 0,.n 0,.str [],.list .nil [],.n 0,.n 0,.str [],.list .nil [],.n 0,.n 0,.str [],.list .nil [],.list .nil [],.list .nil []])/\st.mem= {ε:=B.set p (.cells cs)++[.cells [.μ p 0]],η:=[]}) (by simp[K2,K,aQ,h1,h2,h3,gi,h4,h5,k_,h6,h7]) fun s1 ⟨⟨⟨h1,h2,⟨z2,h3,gi⟩,h4,⟨z3,h5,k_⟩⟩,h8⟩,h6,h7⟩=>?_;let K3:St->Prop:=fun st=>K2 st/\st.e 5= .μ (B.length+1) 0;refine χ (fun st=>K3 st/\st.q 4=some (0,.cells [.n 0,.n 0,.str [],.list .nil [],.n 0,.n 0,.str [],.list .nil [],.n 0,.n 0,.str [],.list .nil [],.list .nil [],.list .nil []])/\st.mem= {ε:=hM B p cs tk.at_ .nil [] [],η:=[]}) (by simp[K3,K2,K,aQ,h1,h2,h3,gi,h4,h5,k_,h6,h7,h8,MX,cX,Mem.push,Mem.put,Mem.ρ,ρ,cL,bh,lo,Γ.lo,hM,Sp.lists]) fun s1 ⟨⟨⟨⟨h1,h2,⟨z2,h3,gi⟩,h4,⟨z3,h5,k_⟩⟩,h8⟩,h9⟩,h6,h7⟩=>?_;let K4:St->Prop:=fun st=>K3 st/\st.e 6= .fn (.func 294) [] [.μ B.length 0,.μ (B.length+1) 0];refine χ (fun st=>K4 st/\st.q 4=some (0,.cells [.n 0,.n 0,.str [],.list .nil [],.n 0,.n 0,.str [],.list .nil [],.n 0,.n 0,.str [],.list .nil [],.list .nil [],.list .nil []])/\st.mem= {ε:=hM B p cs tk.at_ .nil [] [],η:=[]}) (by simp[K4,K3,K2,K,h1,h2,h3,gi,h4,h5,k_,h6,h7,h8,h9]) fun s1 ⟨⟨⟨⟨⟨h1,h2,⟨z2,h3,gi⟩,h4,⟨z3,h5,k_⟩⟩,h8⟩,h9⟩,aG⟩,h6,h7⟩=>?_;have g0:∀cs L (e:List θ),(B.set p (θ.cells cs)++θ.cells [.μ p 0]::θ.cells L::e)[B.length]?=some (.cells [.μ p 0]):=fun cs L e=>by simp
  refine aZ (fun st=>K4 st/\NG s all c B p tk.at_ P a st) ?_ fun s2 ⟨⟨⟨⟨⟨h1,h2,⟨z2,h3,gi⟩,h4,⟨z3,h5,k_⟩⟩,h8⟩,h9⟩,aG⟩,x,ξ,cp,ins,ext,tt,dW,b,m1,m2,m3,m4,m5,m6,m7⟩=>?_
  ·refine χ (fun st=>(K4 st/\st.q 4=some (0,.cells [.n 0,.n 0,.str [],.list .nil [],.n 0,.n 0,.str [],.list .nil [],.n 0,.n 0,.str [],.list .nil [],.list .nil [],.list .nil []])/\st.mem= {ε:=B.set p (.cells cs)++(θ.cells [.μ p 0]::θ.cells [.n tk.at_,.n 0,.list .nil (Sp.lists [])]::[]),η:=[]})/\st.e 7= .str tk.text) (by
    simp only[hM]at h7
    simp[K4,K3,K2,K,h1,h2,h3,gi,h4,h5,k_,h6,h7,h8,h9,aG,MX,g0]) fun s1 ⟨⟨⟨⟨⟨⟨h1,h2,⟨z2,h3,gi⟩,h4,⟨z3,h5,k_⟩⟩,h8⟩,h9⟩,aG⟩,h6,h7⟩,c6⟩=>?_
   refine κ.block ?_;have fin:∀(x:δ) (ξ:List AV) (cp:Γ) (ins:List (List Sp)) (ext:List θ) (tt:List Nat) (dW:AV) (b:RS) (st:St),(K4 st/\st.q 4=some (0,.cells x.cells)/\st.mem= {ε:=B.set p (.cells ξ)++(θ.cells [.μ p 0]::θ.cells [.n tk.at_,.n 0,.list cp (Sp.lists ins)]::ext),η:=tt})->x.Ok->cp.exp 0 false=Ξ ins->(∀i∈tt,i=p\/B.length<=i)->cV s all c dW ξ b->Δ P a (x,ins) b->K4 st/\NG s all c B p tk.at_ P a st:=
    fun x ξ cp ins ext tt dW b st ⟨q1,q2,q3⟩ q4 q5 q6 q7 q8=>⟨q1,x,ξ,cp,ins,ext,tt,dW,b,q2,q4,q3,q5,q6,q7,q8⟩
   have iN:∀w,a.aD w=true->∀st,a= .r st->st.hd=w:=fun w hb st hs=>by subst hs;exact beq_iff_eq.1 hb
   have lH:∀w,a.aD w=false->∀st,a= .r st->¬st.hd=w:=fun w hb st hs=>by subst hs;exact beq_eq_false_iff_ne.1 hb
   have qb:=fun w t hb T=>Be (u:=u) hl w (θ.cells [.μ p 0]::θ.cells [.n tk.at_,.n 0,.list .nil (Sp.lists [])]::[]) hp h t hb T;have dp:∀(cp:Γ) (ins:List (List Sp)) (X:List θ),ins≠[]->Row (B.length+2) X 1 257 cp ins.length->cp.exp 0 false=Ξ ins:=fun cp ins X aj hr=>by
    rcases hr with⟨_,h⟩|⟨t,rfl,_,_⟩
    ·exact absurd (lU h) aj
    ·cases ins with
     |nil=>exact absurd rfl aj
     |cons a l=>rfl
   have xM:∀cs,Row (B.length+2) (hM B p cs tk.at_ .nil [] []) 1 257 .nil ([]:List (List Sp)).length:=fun cs=>Row.nil;have vS:∀T1:List Nat,(∀i∈T1,i∈([]:List Nat)\/i=p\/B.length<=i)->∀i∈T1,i=p\/B.length<=i:=fun T1 h i hi=>(h i hi).elim (fun h=>by cases h) id;obtain⟨_,w1,aW,a1,k1,r1,bS,rfl⟩:=(f226 (u:=u) (item:=item) tk.text hl Θ a).at (θ.cells [.μ p 0]::θ.cells [.n tk.at_,.n 0,.list .nil (Sp.lists [])]::[]) hp h;have M5:=bS.sz (cI _ _);have tR:aJ .nil:= .inl rfl;have dn:∀(cs ξ:List AV) (cp:Γ) (ins:List (List Sp)) (ext:List θ),Row (B.length+2) (hM B p cs tk.at_ cp ins ext) 1 257 cp ins.length->Row (B.length+2) (hM B p ξ tk.at_ cp ins ext) 1 257 cp ins.length:=fun cs ξ cp ins ext h=>by
    have e:∀cs,hM B p cs tk.at_ cp ins ext=(B.set p (.cells cs)++[θ.cells [.μ p 0],θ.cells [.n tk.at_,.n 0,.list cp (Sp.lists ins)]])++ext:=fun cs=>by simp[hM]
    rw[e]at h⊢;exact Row.swap h (by simp) (by simp)
   cases b1:a.aD [98,111,114,114,111,119]with
   |true=>
    have iE:=qb _ _ b1
    have s1:=bS.take (jL b1 (by simp));obtain⟨_,⟨nm,ik,oP,is,ic,il⟩,aV,a2,k2,r2,cR,rfl,kr,hx⟩:=(f295 (u:=u) (item:=item) (k:=n) hl Θ a1 (by omega)).at (θ.cells [.μ p 0]::θ.cells [.n tk.at_,.n 0,.list .nil (Sp.lists [])]::[]) hp r1;have s2:=cR.sz (BH _ (fl _ _));obtain⟨⟨bl,bi⟩,nP,aP,CL,kX,a3,T3,k3,wq,r3,bE,eT,jW⟩:=f294 (u:=u) hb hp tk.at_ .nil [] [] [] (xM aV) (by simp) r2 (by omega);simp only[hM,ζ.four,cO]at k2 k3;refine κ.done .normal (fun st=>K4 st/\st.q 4=some (0,.cells (δ.mk 4 0 nm .nil [] (.mk ik oP is ic il) z0 (Ξ bl) bl .nil []).cells)/\st.mem= {ε:=B.set p (.cells aP)++(θ.cells [.μ p 0]::θ.cells [.n tk.at_,.n 0,.list nP (Sp.lists [bi])]::kX),η:=T3}) (by simp[K4,K3,K2,K,h1,h2,h3,gi,h4,h5,k_,h6,h7,h8,h9,aG,c6,g0,iE,k1,k2,k3,δ.cells,ζ.four,z0,ζ.ψ,δ.ψ]) fun s' hh=> .inr ⟨by simp,.inl ⟨rfl,fin _ _ _ _ _ _ _ _ s' hh ⟨kr,tR,by simp,hx,dN,ib _,eT,tR,trivial⟩ (dp _ _ _ (by simp) wq) (vS _ jW) r3 ?_⟩⟩;rw[<-τ];refine Δ.as (P:=fun t=>(ak s.length tk.text t).bind fun _ t=>(sX s.length (ai s.length n) t).bind fun x t=>(bY s.length (ai s.length n) k t).map fun b=>(δ.mk 4 0 x.1 .nil [] x.2 z0 (Ξ b.1) b.1 .nil [],[b.2])) (bS.bind (cR.bind (Q:=fun x t=>(bY s.length (ai s.length n) k t).map fun b=>(δ.mk 4 0 x.1 .nil [] x.2 z0 (Ξ b.1) b.1 .nil [],[b.2])) (bE.map fun b=>(δ.mk 4 0 nm .nil [] (.mk ik oP is ic il) z0 (Ξ b.1) b.1 .nil [],[b.2])))) fun st hs=>?_;have e1:=iN _ b1 st hs;have e3:=(qi st hs).1;rw[e1]at e3;simp[gJ,e1,e3]
   |false=>
   have iE:=qb _ _ b1
   cases b2:a.aD [105,102]with
   |true=>
    have jI:=qb _ _ b2
    have s1:=bS.take (jL b2 (by simp));obtain⟨_,nm,aV,a2,k2,r2,cR,rfl,kr⟩:=(f227 (u:=u) (item:=item) hl Θ a1).at (θ.cells [.μ p 0]::θ.cells [.n tk.at_,.n 0,.list .nil (Sp.lists [])]::[]) hp r1;have s2:=cR.sz (jx _);obtain⟨⟨fA,gC⟩,nP,aP,CL,kX,a3,T3,k3,wq,r3,bE,xN,jW⟩:=f294 (u:=u) hb hp tk.at_ .nil [] [] [] (xM aV) (by simp) r2 (by omega);have s3:=bE.sz (tC _ (fl _ _) _);simp only[hM,cO]at k3;cases b3:a3.aD [101,108,115,101]with
    |true=>
     have qe:=fun T=>Be (u:=u) hl [101,108,115,101] (θ.cells [.μ p 0]::θ.cells [.n tk.at_,.n 0,.list nP (Sp.lists [gC])]::kX) hp r3 _ b3 T
     obtain⟨_,w4,dT,a4,k4,r4,ew,rfl⟩:=(f226 (u:=u) (item:=CL) [101,108,115,101] hl Θ a3).at (θ.cells [.μ p 0]::θ.cells [.n tk.at_,.n 0,.list nP (Sp.lists [gC])]::kX) hp r3;have s4:=ew.sz (cI _ _);have yc:Row (B.length+2) (hM B p dT tk.at_ nP [gC] kX) 1 257 nP [gC].length:=dn _ _ _ _ _ wq;obtain⟨⟨rT,xm⟩,Jm,ie,Sj,qT,a5,T5,k5,Lo,r5,ij,B7,sL⟩:=f294 (u:=u) hb hp tk.at_ nP [gC] kX T3 yc (by simp) r4 (by omega);simp only[hM,eK,cO]at k5;refine κ.done .normal (fun st=>K4 st/\st.q 4=some (0,.cells (δ.mk 7 0 nm .nil [] z0 z0 (Ξ fA) fA (Ξ rT) rT).cells)/\st.mem= {ε:=B.set p (.cells ie)++(θ.cells [.μ p 0]::θ.cells [.n tk.at_,.n 0,.list Jm (Sp.lists [gC,xm])]::qT),η:=T5}) (by simp[K4,K3,K2,K,h1,h2,h3,gi,h4,h5,k_,h6,h7,h8,h9,aG,c6,g0,iE,jI,k1,k2,k3,qe,k4,k5,δ.cells,ζ.four,z0,ζ.ψ,δ.ψ]) fun s' hh=> .inr ⟨by simp,.inl ⟨rfl,fin _ _ _ _ _ _ _ _ s' hh ⟨kr,tR,by simp,dN,dN,ib _,xN,ib _,B7⟩ (dp _ _ _ (by simp) Lo) (fun i hi=>(sL i hi).elim (vS _ jW i) id) r5 ?_⟩⟩;rw[<-τ];refine Δ.as (P:=fun t=>(ak s.length tk.text t).bind fun _ t=>(fU s.length t).bind (fun nn t=>(bY s.length (ai s.length n) k t).bind (fun b t=>if t.aD [101,108,115,101]then(ak s.length [101,108,115,101] t).bind fun _ t=>(bY s.length (ai s.length n) k t).map fun d=>(δ.mk 7 0 nn .nil [] z0 z0 (Ξ b.1) b.1 (Ξ d.1) d.1,[b.2,d.2])else .ok (δ.mk 7 0 nn .nil [] z0 z0 (Ξ b.1) b.1 .nil [],[b.2]) t))) (bS.bind (Q:=fun _ t=>(fU s.length t).bind (fun nn t=>(bY s.length (ai s.length n) k t).bind (fun b t=>if t.aD [101,108,115,101]then(ak s.length [101,108,115,101] t).bind fun _ t=>(bY s.length (ai s.length n) k t).map fun d=>(δ.mk 7 0 nn .nil [] z0 z0 (Ξ b.1) b.1 (Ξ d.1) d.1,[b.2,d.2])else .ok (δ.mk 7 0 nn .nil [] z0 z0 (Ξ b.1) b.1 .nil [],[b.2]) t))) (cR.bind (Q:=fun nn t=>(bY s.length (ai s.length n) k t).bind (fun b t=>if t.aD [101,108,115,101]then(ak s.length [101,108,115,101] t).bind fun _ t=>(bY s.length (ai s.length n) k t).map fun d=>(δ.mk 7 0 nn .nil [] z0 z0 (Ξ b.1) b.1 (Ξ d.1) d.1,[b.2,d.2])else .ok (δ.mk 7 0 nn .nil [] z0 z0 (Ξ b.1) b.1 .nil [],[b.2]) t)) (bE.bind (Q:=fun b t=>if t.aD [101,108,115,101]then(ak s.length [101,108,115,101] t).bind fun _ t=>(bY s.length (ai s.length n) k t).map fun d=>(δ.mk 7 0 nm .nil [] z0 z0 (Ξ b.1) b.1 (Ξ d.1) d.1,[b.2,d.2])else .ok (δ.mk 7 0 nm .nil [] z0 z0 (Ξ b.1) b.1 .nil [],[b.2]) t) (Δ.as (P:=fun t=>(ak s.length [101,108,115,101] t).bind fun _ t=>(bY s.length (ai s.length n) k t).map fun d=>(δ.mk 7 0 nm .nil [] z0 z0 (Ξ fA) fA (Ξ d.1) d.1,[gC,d.2])) (ew.bind (ij.map fun d=>(δ.mk 7 0 nm .nil [] z0 z0 (Ξ fA) fA (Ξ d.1) d.1,[gC,d.2]))) fun st hs=>by subst hs;exact if_pos b3)))) fun st hs=>?_;have e1:=iN _ b2 st hs;have e3:=(qi st hs).1;rw[e1]at e3;simp[gJ,e1,e3]
    |false=>
     have qe:=fun T=>Be (u:=u) hl [101,108,115,101] (θ.cells [.μ p 0]::θ.cells [.n tk.at_,.n 0,.list nP (Sp.lists [gC])]::kX) hp r3 _ b3 T
     refine κ.done .normal (fun st=>K4 st/\st.q 4=some (0,.cells (δ.mk 7 0 nm .nil [] z0 z0 (Ξ fA) fA .nil []).cells)/\st.mem= {ε:=B.set p (.cells aP)++(θ.cells [.μ p 0]::θ.cells [.n tk.at_,.n 0,.list nP (Sp.lists [gC])]::kX),η:=T3}) (by simp[K4,K3,K2,K,h1,h2,h3,gi,h4,h5,k_,h6,h7,h8,h9,aG,c6,g0,iE,jI,k1,k2,k3,qe,δ.cells,ζ.four,z0,ζ.ψ,δ.ψ]) fun s' hh=> .inr ⟨by simp,.inl ⟨rfl,fin _ _ _ _ _ _ _ _ s' hh ⟨kr,tR,by simp,dN,dN,ib _,xN,tR,trivial⟩ (dp _ _ _ (by simp) wq) (vS _ jW) r3 ?_⟩⟩;rw[<-τ];refine Δ.as (P:=fun t=>(ak s.length tk.text t).bind fun _ t=>(fU s.length t).bind (fun nn t=>(bY s.length (ai s.length n) k t).bind (fun b t=>if t.aD [101,108,115,101]then(ak s.length [101,108,115,101] t).bind fun _ t=>(bY s.length (ai s.length n) k t).map fun d=>(δ.mk 7 0 nn .nil [] z0 z0 (Ξ b.1) b.1 (Ξ d.1) d.1,[b.2,d.2])else .ok (δ.mk 7 0 nn .nil [] z0 z0 (Ξ b.1) b.1 .nil [],[b.2]) t))) (bS.bind (Q:=fun _ t=>(fU s.length t).bind (fun nn t=>(bY s.length (ai s.length n) k t).bind (fun b t=>if t.aD [101,108,115,101]then(ak s.length [101,108,115,101] t).bind fun _ t=>(bY s.length (ai s.length n) k t).map fun d=>(δ.mk 7 0 nn .nil [] z0 z0 (Ξ b.1) b.1 (Ξ d.1) d.1,[b.2,d.2])else .ok (δ.mk 7 0 nn .nil [] z0 z0 (Ξ b.1) b.1 .nil [],[b.2]) t))) (cR.bind (Q:=fun nn t=>(bY s.length (ai s.length n) k t).bind (fun b t=>if t.aD [101,108,115,101]then(ak s.length [101,108,115,101] t).bind fun _ t=>(bY s.length (ai s.length n) k t).map fun d=>(δ.mk 7 0 nn .nil [] z0 z0 (Ξ b.1) b.1 (Ξ d.1) d.1,[b.2,d.2])else .ok (δ.mk 7 0 nn .nil [] z0 z0 (Ξ b.1) b.1 .nil [],[b.2]) t)) (bE.bind (Q:=fun b t=>if t.aD [101,108,115,101]then(ak s.length [101,108,115,101] t).bind fun _ t=>(bY s.length (ai s.length n) k t).map fun d=>(δ.mk 7 0 nm .nil [] z0 z0 (Ξ b.1) b.1 (Ξ d.1) d.1,[b.2,d.2])else .ok (δ.mk 7 0 nm .nil [] z0 z0 (Ξ b.1) b.1 .nil [],[b.2]) t) (Δ.as (Δ.pure _ _) fun st hs=>by subst hs;exact if_neg (by rw[show PS.aD st [101,108,115,101]=false from b3];simp))))) fun st hs=>?_;have e1:=iN _ b2 st hs;have e3:=(qi st hs).1;rw[e1]at e3;simp[gJ,e1,e3]
   |false=>
   have jI:=qb _ _ b2
   cases b3:a.aD [102,111,114]with
   |true=>
    have lr:=qb _ _ b3
    have s1:=bS.take (jL b3 (by simp));obtain⟨_,nm,aV,a2,k2,r2,cR,rfl,kr⟩:=(f227 (u:=u) (item:=item) hl Θ a1).at (θ.cells [.μ p 0]::θ.cells [.n tk.at_,.n 0,.list .nil (Sp.lists [])]::[]) hp r1;have s2:=cR.sz (jx _);obtain⟨_,w3,aP,a3,k3,r3,bE,rfl⟩:=(f226 (u:=u) (item:=item) [61] hl Θ a2).at (θ.cells [.μ p 0]::θ.cells [.n tk.at_,.n 0,.list .nil (Sp.lists [])]::[]) hp r2;have s3:=bE.sz (cI _ _);obtain⟨_,⟨ik,oP,is,ic,il⟩,dT,a4,k4,r4,ew,rfl,hx⟩:=(An (u:=u) (item:=item) hl Θ n a3 (by omega)).at (θ.cells [.μ p 0]::θ.cells [.n tk.at_,.n 0,.list .nil (Sp.lists [])]::[]) hp r3;have s4:=ew.sz (fl _ _);obtain⟨_,w5,ie,a5,k5,r5,ij,rfl⟩:=(f226 (u:=u) (item:=item) [58] hl Θ a4).at (θ.cells [.μ p 0]::θ.cells [.n tk.at_,.n 0,.list .nil (Sp.lists [])]::[]) hp r4;have s5:=ij.sz (cI _ _);obtain⟨_,⟨jk,jn,js,jc,jl⟩,ox,a6,k6,r6,qW,rfl,hy⟩:=(An (u:=u) (item:=item) hl Θ n a5 (by omega)).at (θ.cells [.μ p 0]::θ.cells [.n tk.at_,.n 0,.list .nil (Sp.lists [])]::[]) hp r5;have s6:=qW.sz (fl _ _);obtain⟨⟨Bf,IX⟩,W1,oy,aho,Xy,a7,T7,k7,hr7,r7,xE,YT,Lw⟩:=f294 (u:=u) hb hp tk.at_ .nil [] [] [] (xM ox) (by simp) r6 (by omega);simp only[hM,ζ.four,cO]at k4 k6 k7;refine κ.done .normal (fun st=>K4 st/\st.q 4=some (0,.cells (δ.mk 8 0 nm .nil [] (.mk ik oP is ic il) (.mk jk jn js jc jl) (Ξ Bf) Bf .nil []).cells)/\st.mem= {ε:=B.set p (.cells oy)++(θ.cells [.μ p 0]::θ.cells [.n tk.at_,.n 0,.list W1 (Sp.lists [IX])]::Xy),η:=T7}) (by simp[K4,K3,K2,K,h1,h2,h3,gi,h4,h5,k_,h6,h7,h8,h9,aG,c6,g0,iE,jI,lr,k1,k2,k3,k4,k5,k6,k7,δ.cells,ζ.four,z0,ζ.ψ,δ.ψ]) fun s' hh=> .inr ⟨by simp,.inl ⟨rfl,fin _ _ _ _ _ _ _ _ s' hh ⟨kr,tR,by simp,hx,hy,ib _,YT,tR,trivial⟩ (dp _ _ _ (by simp) hr7) (vS _ Lw) r7 ?_⟩⟩;rw[<-τ];refine Δ.as (P:=fun t=>(ak s.length tk.text t).bind fun _ t=>(fU s.length t).bind fun n' t=>(ak s.length [61] t).bind fun _ t=>(ai s.length n t).bind fun x t=>(ak s.length [58] t).bind fun _ t=>(ai s.length n t).bind fun y t=>(bY s.length (ai s.length n) k t).map fun b=>(δ.mk 8 0 n' .nil [] x y (Ξ b.1) b.1 .nil [],[b.2])) (bS.bind (cR.bind (Q:=fun n' t=>(ak s.length [61] t).bind fun _ t=>(ai s.length n t).bind fun x t=>(ak s.length [58] t).bind fun _ t=>(ai s.length n t).bind fun y t=>(bY s.length (ai s.length n) k t).map fun b=>(δ.mk 8 0 n' .nil [] x y (Ξ b.1) b.1 .nil [],[b.2])) (bE.bind (ew.bind (Q:=fun x t=>(ak s.length [58] t).bind fun _ t=>(ai s.length n t).bind fun y t=>(bY s.length (ai s.length n) k t).map fun b=>(δ.mk 8 0 nm .nil [] x y (Ξ b.1) b.1 .nil [],[b.2])) (ij.bind (qW.bind (Q:=fun y t=>(bY s.length (ai s.length n) k t).map fun b=>(δ.mk 8 0 nm .nil [] (.mk ik oP is ic il) y (Ξ b.1) b.1 .nil [],[b.2])) (xE.map fun b=>(δ.mk 8 0 nm .nil [] (.mk ik oP is ic il) (.mk jk jn js jc jl) (Ξ b.1) b.1 .nil [],[b.2])))))))) fun st hs=>?_;have e1:=iN _ b3 st hs;have e3:=(qi st hs).1;rw[e1]at e3;simp[gJ,e1,e3]
   |false=>
   have lr:=qb _ _ b3
   cases b4:a.aD [117,110,100,111]with
   |true=>
    have mV:=qb _ _ b4
    have s1:=bS.take (jL b4 (by simp));obtain⟨⟨fA,gC⟩,nP,aP,CL,kX,a3,T3,k3,wq,r3,bE,xN,jW⟩:=f294 (u:=u) hb hp tk.at_ .nil [] [] [] (xM aW) (by simp) r1 (by omega);simp only[hM,cO]at k3;refine κ.done .normal (fun st=>K4 st/\st.q 4=some (0,.cells (δ.mk 10 0 [] .nil [] z0 z0 (Ξ fA) fA .nil []).cells)/\st.mem= {ε:=B.set p (.cells aP)++(θ.cells [.μ p 0]::θ.cells [.n tk.at_,.n 0,.list nP (Sp.lists [gC])]::kX),η:=T3}) (by simp[K4,K3,K2,K,h1,h2,h3,gi,h4,h5,k_,h6,h7,h8,h9,aG,c6,g0,iE,jI,lr,mV,k1,k3,δ.cells,ζ.four,z0,ζ.ψ,δ.ψ]) fun s' hh=> .inr ⟨by simp,.inl ⟨rfl,fin _ _ _ _ _ _ _ _ s' hh ⟨pE,tR,by simp,dN,dN,ib _,xN,tR,trivial⟩ (dp _ _ _ (by simp) wq) (vS _ jW) r3 ?_⟩⟩;rw[<-τ];refine Δ.as (P:=fun t=>(ak s.length tk.text t).bind fun _ t=>(bY s.length (ai s.length n) k t).map fun b=>(δ.mk 10 0 [] .nil [] z0 z0 (Ξ b.1) b.1 .nil [],[b.2])) (bS.bind (bE.map fun b=>(δ.mk 10 0 [] .nil [] z0 z0 (Ξ b.1) b.1 .nil [],[b.2]))) fun st hs=>?_;have e1:=iN _ b4 st hs;have e3:=(qi st hs).1;rw[e1]at e3;simp[gJ,e1,e3]
   |false=>
   have mV:=qb _ _ b4
   cases b5:a.aD [119,105,116,104,105,110]with
   |true=>
    have rC:=qb _ _ b5
    have s1:=bS.take (jL b5 (by simp));obtain⟨⟨fA,gC⟩,nP,aP,CL,kX,a3,T3,k3,wq,r3,bE,xN,jW⟩:=f294 (u:=u) hb hp tk.at_ .nil [] [] [] (xM aW) (by simp) r1 (by omega);have s3:=bE.sz (tC _ (fl _ _) _);obtain⟨_,w4,dT,a4,k4,r4,ew,rfl⟩:=(f226 (u:=u) (item:=CL) [97,112,112,108,121] hl Θ a3).at (θ.cells [.μ p 0]::θ.cells [.n tk.at_,.n 0,.list nP (Sp.lists [gC])]::kX) hp r3;have s4:=ew.sz (cI _ _);have yc:Row (B.length+2) (hM B p dT tk.at_ nP [gC] kX) 1 257 nP [gC].length:=dn _ _ _ _ _ wq;obtain⟨⟨rT,xm⟩,Jm,ie,Sj,qT,a5,T5,k5,Lo,r5,ij,B7,sL⟩:=f294 (u:=u) hb hp tk.at_ nP [gC] kX T3 yc (by simp) r4 (by omega);simp only[hM,eK,cO]at k3 k5;refine κ.done .normal (fun st=>K4 st/\st.q 4=some (0,.cells (δ.mk 11 0 [] .nil [] z0 z0 (Ξ fA) fA (Ξ rT) rT).cells)/\st.mem= {ε:=B.set p (.cells ie)++(θ.cells [.μ p 0]::θ.cells [.n tk.at_,.n 0,.list Jm (Sp.lists [gC,xm])]::qT),η:=T5}) (by simp[K4,K3,K2,K,h1,h2,h3,gi,h4,h5,k_,h6,h7,h8,h9,aG,c6,g0,iE,jI,lr,mV,rC,k1,k3,k4,k5,δ.cells,ζ.four,z0,ζ.ψ,δ.ψ]) fun s' hh=> .inr ⟨by simp,.inl ⟨rfl,fin _ _ _ _ _ _ _ _ s' hh ⟨pE,tR,by simp,dN,dN,ib _,xN,ib _,B7⟩ (dp _ _ _ (by simp) Lo) (fun i hi=>(sL i hi).elim (vS _ jW i) id) r5 ?_⟩⟩;rw[<-τ];refine Δ.as (P:=fun t=>(ak s.length tk.text t).bind fun _ t=>(bY s.length (ai s.length n) k t).bind fun b t=>(ak s.length [97,112,112,108,121] t).bind fun _ t=>(bY s.length (ai s.length n) k t).map fun d=>(δ.mk 11 0 [] .nil [] z0 z0 (Ξ b.1) b.1 (Ξ d.1) d.1,[b.2,d.2])) (bS.bind (bE.bind (Q:=fun b t=>(ak s.length [97,112,112,108,121] t).bind fun _ t=>(bY s.length (ai s.length n) k t).map fun d=>(δ.mk 11 0 [] .nil [] z0 z0 (Ξ b.1) b.1 (Ξ d.1) d.1,[b.2,d.2])) (ew.bind (ij.map fun d=>(δ.mk 11 0 [] .nil [] z0 z0 (Ξ fA) fA (Ξ d.1) d.1,[gC,d.2]))))) fun st hs=>?_;have e1:=iN _ b5 st hs;have e3:=(qi st hs).1;rw[e1]at e3;simp[gJ,e1,e3]
   |false=>
   have rC:=qb _ _ b5
   obtain⟨_,x,aV,rj,a2,T2,k2,r2,cR,⟨rfl,hx⟩,Lt⟩:=(f297 (u:=u) hl Θ hc a ha tk.text fun st hs=>(qi st hs).1).at (θ.cells [.μ p 0]::θ.cells [.n tk.at_,.n 0,.list .nil (Sp.lists [])]::[]) hp h [];have re:=δ.i_ x;have Am:x.cells.take 14=x.cells:=dY (by omega);refine κ.done .normal (fun st=>K4 st/\st.q 4=some (0,.cells x.cells)/\st.mem= {ε:=B.set p (.cells aV)++(θ.cells [.μ p 0]::θ.cells [.n tk.at_,.n 0,.list .nil (Sp.lists [])]::[]),η:=T2}) (by simp[K4,K3,K2,K,h1,h2,h3,gi,h4,h5,k_,h6,h7,h8,h9,aG,c6,g0,iE,jI,lr,mV,rC,k2,re,Am]) fun s' hh=> .inr ⟨by simp,.inl ⟨rfl,fin _ _ _ _ _ _ _ _ s' hh hx rfl (fun i hi=>(Lt i hi).elim (fun h=>by cases h) .inl) r2 ?_⟩⟩;rw[<-τ];refine Δ.as (P:=fun t=>(AL s.length (ai s.length n) t).map fun x=>(x,[])) (cR.map fun x=>(x,[])) fun st hs=>?_;simp[gJ,lH _ b1 st hs,lH _ b2 st hs,lH _ b3 st hs,lH _ b4 st hs,lH _ b5 st hs]
  ·have re:=δ.i_ x;have Am:x.cells.take 14=x.cells:=dY (by omega);obtain⟨k1,Dt,rfl,je,hh⟩:=m6;generalize fw:[AV.str s,.list c (all.map Tok.a_),.n k1,.n Dt,dW]=aW;have QT:cV s all c dW aW b:=⟨k1,Dt,fw.symm,je,hh⟩;have gp:∀D,(B.set p (θ.cells aW)++D)[p]?=some (.cells [.str s,.list c (all.map Tok.a_),.n k1,.n Dt,dW]):=fun D=>by rw[List.getElem?_append_left (by simpa using hp),fw];simp[hp]
   have g1:∀L (e:List θ),(B.set p (θ.cells aW)++θ.cells [.μ p 0]::θ.cells L::e)[B.length+1]?=some (.cells L):=fun L e=>by simp
   have gs:∀L L' (e:List θ),(B.set p (θ.cells aW)++θ.cells [.μ p 0]::θ.cells L::e).set (B.length+1) (.cells L')=B.set p (θ.cells aW)++θ.cells [.μ p 0]::θ.cells L'::e:=fun L L' e=>by simp
   rw[fw]at m3;simp only[hM]at m3;cases b with
   |w w=>
    have hw:¬Dt<0:=by have:Dt=(w:Int):=hh;omega
    refine κ.done .ret (fun st=>st.mem= {ε:=B.set p (.cells aW)++(θ.cells [.μ p 0]::θ.cells [.n tk.at_,.n 0,.list cp (Sp.lists ins)]::ext),η:=tt}/\st.e 2= .Ω 2 0 0/\st.q 2=some (0,.cells x.cells)/\st.e 3= .Ω 3 0 0/\st.q 3=some (0,.cells [.n tk.at_,.n 0,.list cp (Sp.lists ins)])) (by simp[h1,h2,h3,gi,h4,h5,k_,h8,h9,m1,m3,g0,g1,gp,hw,re,Am,b_,cj,tD]) fun s' ⟨q1,q2,q3,q4,q5⟩=>⟨by simp,x,aW,cp,ins,_,tt,dW,_,0,by rw[q1],by rw[q1];exact m5,q2,q3,q4,q5,m4,m2,QT,m7,(fun t ht=>by cases ht),by rw[q1]⟩
   |r t=>
    obtain⟨rfl,hd,uP⟩:=hh
    have ji:0<k1:=by
     cases a with
     |w w=>cases m7
     |r yU=>
      simp only[Δ]at m7
      cases ny:P yU with
      |no w=>rw[ny]at m7;cases m7
      |ok y t'=>
       rw[ny]at m7
       obtain⟨_,nz⟩:=m7;cases nz;have h7:=vZ _ _ _ ny;have h8:=h.sz;have h9:=congrArg mB hd;simp only[kz,RS.sz]at h8 h9;omega
    obtain⟨j,rfl⟩:∃j,k1=j+1:=⟨k1-1,by omega⟩;have hj:j<all.length:=by omega
    have ZO:all[j]?=some all[j]:=List.getElem?_eq_getElem hj;rw[S8 ZO]at uP;have nB:aT .i64 ((j:Int)+1-1)=(j:Int):=by rw[wrap_i64 (by omega) (by omega)];omega
    have iA:aT .i64 (j:Int)=(j:Int):=wrap_i64 (by omega) (by omega);have G6:=(Θ all[j] (List.getElem_mem hj)).pos;have jE:aT .i64 ((all[j].at_:Int)+all[j].text.length)=(t.last:Int):=by rw[wrap_i64 (by omega) (by omega)];omega
    refine κ.done .ret (fun st=>st.mem= {ε:=B.set p (.cells aW)++(θ.cells [.μ p 0]::θ.cells [.n tk.at_,.n t.last,.list cp (Sp.lists ins)]::ext),η:=tt}/\st.e 2= .Ω 2 0 0/\st.q 2=some (0,.cells x.cells)/\st.e 3= .Ω 3 0 0/\st.q 3=some (0,.cells [.n tk.at_,.n t.last,.list cp (Sp.lists ins)])) (by
     simp[h1,h2,h3,gi,h4,h5,k_,h8,h9,m1,m3,g0,g1,gs,gp,iA,jE,hj,Tok.a_,aQ,re,Am,b_,mF,cj,tD,Mem.put,Mem.ρ,ρ,bh,lo]
     ) fun s' ⟨q1,q2,q3,q4,q5⟩=>⟨by simp,x,aW,cp,ins,_,tt,dW,_,t.last,by rw[q1],by rw[q1];exact m5,q2,q3,q4,q5,m4,m2,QT,m7,(fun t' ht=>by cases ht;rfl),by rw[q1]⟩
 obtain⟨r,e1,e2,x,ξ,cp,ins,ext,tt,dW,b,to,e3,e4,e5,e6,e7,e8,e9,ng,sc,vH,Jw,-⟩:=dy;have hL:x.cells.length=14:=δ.i_ x;have eH:x.cells.take 14=x.cells:=dY (by omega);have hv:Dv (.aO [.agg x.cells,.agg [.n tk.at_,.n to,.list cp (Sp.lists ins)]]) (.aO [.agg x.cells,.agg (Sp.mk tk.at_ to ins).cells]):=by have:=Dv.list cp (Sp.BQ ins);rw[e9]at this;simp only[Sp.cells];exact .aO (.cons (.agg (δ.fx x ng)) (.cons (.agg (.cons (.int _ _) (.cons (.int _ _) (.cons this .nil)))) .nil))
 obtain⟨aV,rj,T',By,Bz,BA⟩:=HO (u:=u) hc (f:=271) (g:=Ga) (args:=[]) (v:= .aO [.agg x.cells,.agg (Sp.mk tk.at_ to ins).cells]) rfl rfl rfl hp rfl e1 e2 e3 sc e4 (l:=[.agg x.cells,.agg [.n tk.at_,.n to,.list cp (Sp.lists ins)]]) (by simp[Ga,e5,e6,e7,e8,hL,eH]) (hv.ax _ _ _) T;refine⟨_,(x,.mk tk.at_ to ins),aV,rj,b,T',By,Bz,?_,⟨rfl,ng⟩,BA⟩;cases a with
 |w w=>exact vH
 |r st=>
  simp only[Δ,ub]at vH⊢
  cases hp:P st with
  |no w=>rw[hp]at vH;exact vH
  |ok y t=>
   rw[hp]at vH
   obtain⟨rfl,rfl⟩:=vH;simp only[R.bind,and_true];rw[(qi st rfl).2.2,Jw t rfl]
end
end Tz
end Go.ab
