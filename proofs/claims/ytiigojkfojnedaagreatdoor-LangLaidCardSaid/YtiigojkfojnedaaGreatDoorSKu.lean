import Derived.Test.YtiigojkfojnedaaGreatDoorSKa
import Derived.Test.YtiigojkfojnedaaGreatDoorSHe
set_option linter.all false
set_option maxRecDepth 100000
set_option maxHeartbeats 8000000
open List renaming length->lC,length_drop->k_,map_cons->az,length_set->nq,mem_append->dT,all_map->nj,append_assoc->bO,set_append_left->nr,length_map->cg,mem_singleton->fU,map_append->kr,map_map->cT,map_congr_left->de,getElem?_eq_none->h_,take_of_length_le->fo,mem_cons->cy,eq_nil_of_length_eq_zero->np,cons_append->cG,nil_append->bE
open Nat renaming le_refl->bS
open Go.IntKind renaming wrap->bC
namespace Go.Θ
def fm{α:Type}(P:PS->R α):Prop:=∀s x t,P s= .ok x t->t.l.length<s.l.length
theorem fm.LG{α:Type}{P:PS->R α}(h:fm P):dm P:=fun s x t e=>Nat.le_of_lt (h s x t e)
theorem fm.take(e:Nat)(f:Tok->Bool):fm (ko e f):=fun _ _ _ h=>by have:=JN h;omega
theorem fm.bind{α β:Type}{P:PS->R α}{Q:α->PS->R β}(h:fm P)(k:∀x,dm (Q x)):fm fun s=>(P s).bind Q:=fun s y t e=>by
 have e:(P s).bind Q= .ok y t:=e;cases hp:P s with
 |ok x s'=>
  rw[hp]at e
  have:=h _ _ _ hp;have:=k x _ _ _ e;omega
 |no w=>rw[hp]at e;cases e
theorem fm.map{α β:Type}{P:PS->R α}{f:α->β}(h:fm P):fm fun s=>(P s).map f:=fun s y t e=>by
 have e:(P s).map f= .ok y t:=e;cases hp:P s with
 |ok x s'=>rw[hp]at e;cases e;exact h _ _ _ hp
 |no w=>rw[hp]at e;cases e
theorem fm.word{β:Type}{e:Nat}{Q:List Nat->PS->R β}(k:∀x,dm (Q x)):fm fun s=>(aE e s.hd s).bind Q:=fun s y t h=>(fm.bind (fm.take e fun t=>t.text==s.hd) k) s y t h
theorem LK{α:Type}(e:Nat){P:PS->R α}(h:dm P):dm (pj e P):=
 .ite (eV e _).map (h.bind fun x=>(dm.I4 (fun l=>(eV e _).bind fun _=>h.map) [x]).bind fun _=>(eV e _).map)
theorem SN(e:Nat){pl:PS->R ξ}(h:dm pl):∀n l,dm (pq e pl n l)
 |0,l=> .ok l
 |n+1,l=>(eV e _).bind fun _=>h.bind fun p=>SN e h n (l++[p])
theorem aa1(e:Nat){ix:PS->R ζ}(h:dm ix):fm (lT e ix):=by
 have hp:=F9 e h;have g:∀n:Nat,fm fun s=>(aE e s.hd s).bind fun _ s'=>(kg e ix s').bind fun p s'=>(pq e (kg e ix) n [p] s').map fun l=>δ.mk 1 (jh s.hd) [] .any l z0 z0 .nil [] .nil []:=fun n s y t k=>fm.bind (fm.take e fun t=>t.text==s.hd) (Q:=fun _ s'=>(kg e ix s').bind fun p s'=>(pq e (kg e ix) n [p] s').map fun l=>δ.mk 1 (jh s.hd) [] .any l z0 z0 .nil [] .nil []) (fun _=>hp.bind fun p=>(SN e hp n [p]).map) s y t k;intro s x t k;dsimp only[lT]at k;split at k
 ·exact g _ s x t k
 split at k
 ·exact fm.word (fun _=>(LM e h).map) s x t k
 split at k
 ·exact fm.word (fun _=>(oa e).map) s x t k
 split at k
 ·exact fm.word (fun _=>hp.bind fun _=>(eV e _).bind fun _=>(oa e).map) s x t k
 split at k
 ·exact fm.word (fun _=>hp.map) s x t k
 ·exact(fm.bind (fm.take _ _) fun _=>(eV e _).bind fun _=>(LK e hp).map) s x t k
theorem aa2(e:Nat){ix:PS->R ζ}(h:dm ix):fm (Ae e ix):=(aa1 e h).bind fun _=>(eV e _).map
theorem LI(e:Nat){ix:PS->R ζ}{blk:PS->R (List δ×List Sp)}(h:dm ix)(hb:dm blk):fm (iK e ix blk):=by
 intro s x t k;dsimp only[iK]at k;split at k
 ·exact fm.word (fun _=>(LM e h).bind fun _=>hb.map) s x t k
 split at k
 ·exact fm.word (fun _=>(oa e).bind fun n=>hb.bind fun b=> .ite ((eV e _).bind fun _=>hb.map) (.ok _)) s x t k
 split at k
 ·exact fm.word (fun _=>(oa e).bind fun n=>(eV e _).bind fun _=>h.bind fun _=>(eV e _).bind fun _=>h.bind fun _=>hb.map) s x t k
 split at k
 ·exact fm.word (fun _=>hb.map) s x t k
 split at k
 ·exact fm.word (fun _=>hb.bind fun _=>(eV e _).bind fun _=>hb.map) s x t k
 ·exact((aa2 e h).map) s x t k
theorem LH(e:Nat){st:PS->R (δ×List (List Sp))}(h:fm st):fm (uZ e st):=fun s x t k=>by
 simp only[uZ]at k;cases hp:st s with
 |ok y s'=>
  rw[hp]at k
  cases k;exact h _ _ _ hp
 |no w=>rw[hp]at k;cases k
theorem aa3(e:Nat){st:PS->R (δ×List (List Sp))}(h:fm st):dm (zF e st):=
 (eV e _).bind fun _=>(dm.I4 (fun _=>(LH e h).LG.map) _).bind fun _=>(eV e _).map
theorem AT(e:Nat){ix:PS->R ζ}(h:dm ix):∀k,dm (eA e ix k)
 |0=>fun s x t e=>by cases e
 |k+1=>aa3 e (LI e h (AT e h k))
def RS.bad:RS->Nat
 | .r _=>0
 | .w _=>1
end Go.Θ
namespace Go.Θ.Tz
open Go.Θ
variable{u:Nat}
attribute [local simp] exec dY dP eX aI dw fA eN aK fL bQ iu iE iM jd lG AV.cells newVar iX rd wr gT single dk cE e_ ew κ cK RV.get cL fT kz
attribute [local simp] E5 EG
theorem FG{s:List Nat}{all:List Tok}{c:ρ}{item:AV}(w:List Nat)(hl:all.length<1000000000){B:List θ}{p:Nat}{cs:List AV}{a:RS}(hp:p<B.length)(h:cM s all c item cs a){t:Bool}(hb:a.a_ w=t)(T:List Nat):
  kf u 268 [.μ p 0,.list .full [.str w]] {ε:=B.set p (.cells cs),η:=T}=some (.bool t,{ε:=B.set p (.cells cs),η:=T}):=by
 have:=f268 (u:=u) [w] (by simp) hl hp h T;simpa[hb]using this
section
variable{s:List Nat}{all:List Tok}{c:ρ}(hl:all.length<1000000000)(ai:∀t∈all,t.Ok)
theorem cM.sz{item:AV}{cs:List AV}{a:RS}(h:cM s all c item cs a):a.sz<=all.length:=by
 obtain⟨k,wr,rfl,hk,h⟩:=h;cases a with
 |w w=>exact Nat.zero_le _
 |r st=>have:=congrArg lC h.2.1;simp only[k_]at this;simp only[RS.sz];omega
theorem cM.item{item fn:AV}{cs:List AV}{a:RS}(h:cM s all c item cs a):∃k wr,cs=[.str s,.list c (all.map Tok.bn),.n k,.n wr,item]/\cM s all c fn [.str s,.list c (all.map Tok.bn),.n k,.n wr,fn] a:=by obtain⟨k,wr,rfl,hk,h⟩:=h;exact⟨k,wr,rfl,k,wr,rfl,hk,h⟩
def J_(u:Nat)(s:List Nat)(all:List Tok)(c:ρ){α:Type}(I:List α->List θ->Prop)(fn:AV)(P:PS->R α)(k N p:Nat):Prop:=
 ∀l B T cs a,I l B->cM s all c fn cs a->a.sz<k->l.length+a.sz<=all.length+1→
  ∃B' T' x ah b,ab (C u) fn [] {ε:=B.set p (.cells cs),η:=T}=some (.aQ [],{ε:=B'.set p (.cells ah),η:=T'})/\I (l++[x]) B'/\cM s all c fn ah b/\aF P a x b/\∀i∈T',i∈T\/N<=i
include hl ai
theorem f228{α:Type}{I:List α->List θ->Prop}{fn:AV}{P:PS->R α}{k N M p:Nat}(hP:dm P){fi:FuncId}{cap:List AV}(oq:fn= .fn (.func fi) [] cap)(hn:ν fn=fn)(DG:∀n,M<=n->exp n true fn=fn)
  (hI:∀l B,I l B->M<=B.length/\p<B.length) (UN:J_ u s all c I fn P k N p) {item:AV} {B:List θ} {cs:List AV} {a:RS} (T:List Nat) (h0:I [] B) (h:cM s all c item cs a) (ha:a.sz<k):
  ∃B' T' l ah b,kf u 228 [.μ p 0,.str [41],fn] {ε:=B.set p (.cells cs),η:=T}=some (.aQ [],{ε:=B'.set p (.cells ah),η:=T'})∧
   I l B'/\cM s all c fn ah b/\aF (pj s.length P) a l b/\∀i∈T',i∈T\/i=p\/N<=i:=by
 subst oq;have dZ:κ (C u).gl (ab (C u)) c228 {env:=[.μ p 0,.str [41],.fn (.func fi) [] cap],loc:=[],mem:= {ε:=B.set p (.cells cs),η:=[]}} fun r=>(∀i,r.1≠ .exit i)/\∃B' l ah b,r.2.mem.ε=B'.set p (.cells ah)/\I l B'/\cM s all c (.fn (.func fi) [] cap) ah b/\aF (pj s.length P) a l b/\∀i∈r.2.mem.η,i=p\/N<=i:=by
  have hp:=(hI _ _ h0).2;obtain⟨k0,wr,rfl,hf⟩:=h.item (fn:= .fn (.func fi) [] cap);generalize jm:[AV.str s,.list c (all.map Tok.bn),.n k0,.n wr,.fn (.func fi) [] cap]=cU at hf;clear h;have h:=hf;let K:List θ->St->Prop:=fun X st=>st.e 0= .μ p 0/\st.e 1= .str [41]/\st.e 2= .fn (.func fi) [] cap/\∃tt,st.mem= {ε:=X,η:=tt}/\∀i∈tt,i=p\/N<=i;have DR:∀m:Mem,m.ν (.fn (.func fi) [] cap)= .fn (.func fi) [] cap:=fun _=>hn;have hg:∀cs,(B.set p (θ.cells cs))[p]?=some (.cells cs):=fun cs=>by simp[hp]
  refine Δ (K (B.set p (.cells cU))) (by simp[K,hg,Mem.put,DR,jm]) fun s1 ⟨h1,h2,h3,tt,h4,h5⟩=>?_;have hb:=fun t hb T=>FG (u:=u) [41] hl hp h (t:=t) hb T;refine bJ (fun st=>K (B.set p (.cells cU)) st/\a.a_ [41]=false) ?_ fun s1 ⟨⟨h1,h2,h3,tt,h4,h5⟩,h6⟩=>?_
  ·cases hc:a.a_ [41]with
   |false=>
    have hb:=hb false hc
    refine κ.done .normal (fun st=>K (B.set p (.cells cU)) st) (by
     simp[K,h1,h2,h3,h4,hb]
     exact h5) fun s' hh=> .inl ⟨rfl,hh,rfl⟩
   |true=>
    have hb:=hb true hc
    obtain⟨_,x1,cF,a2,k1,r1,g1,rfl⟩:=f226 (u:=u) (item:= .fn (.func fi) [] cap) [41] hl ai a B p cU hp h;refine κ.done .ret (fun st=>K (B.set p (.cells cF)) st) (by
     simp[K,h1,h2,h3,h4,hb,k1]
     exact h5) fun s' ⟨m1,m2,m3,tt,m4,m5⟩=> .inr ⟨by simp,by simp,B,[],cF,a2,by simp only[m4],h0,r1,?_,by rw[m4];exact m5⟩
    exact aF.as (P:=fun t=>(aE s.length [41] t).map fun _=>[]) (g1.map _) fun st hs=>by subst hs;exact if_pos hc
  have gG:∀st,a= .r st->st.a_ [41]=false:=fun st hs=>by subst hs;exact h6
  obtain⟨B2,T2,x1,cF,a2,k1,i1,r1,g1,t1⟩:=UN [] B tt cU a h0 h ha (by have:=h.sz;simp;omega);have uA:=g1.sz hP;have lQ:=(hI _ _ i1).2;have H5:(B.set p (θ.cells cU))[p]?=some (.cells [.str s,.list c (all.map Tok.bn),.n k0,.n wr,.fn (.func fi) [] cap]):=by rw[jm,hg]
  have e2:∀i∈T2,i=p\/N<=i:=fun i hi=>(t1 i hi).elim (h5 i) .inr;refine Δ (K (B2.set p (.cells cF))) (by
   simp[K,h1,h2,h3,h4,H5,k1]
   exact e2) fun s1 hK=>?_
  let F:List α->PS->R (List α):=fun l t=>(aE s.length [44] t).bind fun _ t=>(P t).map fun y=>l++[y];let cc:PS->Bool:=fun t=>t.a_ [44];let I':Nat->St->Prop:=fun i st=>∃B' l ah b,K (B'.set p (.cells ah)) st/\I l B'/\cM s all c (.fn (.func fi) [] cap) ah b/\b.sz+i<=a2.sz/\l.length+b.sz<=all.length+1/\∀y b',aF (cR cc F (a2.sz+1-i) l) b y b'->aF (cR cc F (a2.sz+1) [x1]) a2 y b';refine bJ (fun st=>∃B' l ah b,K (B'.set p (.cells ah)) st/\I l B'/\cM s all c (.fn (.func fi) [] cap) ah b/\aF (cR cc F (a2.sz+1) [x1]) a2 l b) ?_ fun s2 ⟨B',l,ah,b,⟨h1,h2,h3,tt,h4,h5⟩,h6,h7,h8⟩=>?_
  ·have hI0:I' 0 s1:=⟨B2,[x1],cF,a2,hK,i1,r1,bS _,by have:=h.sz;simp;omega,fun _ _ h=>h⟩;refine κ.block (κ.kp (I:=I') a2.sz hI0 fun i st hi Ω=>?_);obtain⟨B',l,ah,b,⟨h1,h2,h3,tt,h4,h5⟩,h6,h7,h8,h9,aw⟩:=Ω;have gO:=(hI _ _ h6).2;rw[show a2.sz+1-i=(a2.sz-i)+1 by omega]at aw;unfold V3;cases hc:b.a_ [44]with
   |false=>
    have hb:=fun T=>FG (u:=u) [44] hl gO h7 (t:=false) hc T
    refine κ.done (.exit 0) (fun st=>K (B'.set p (.cells ah)) st) (by
     simp[K,h1,h2,h3,h4,hb]
     exact h5) fun s' hh=> .inr ⟨by simp,.inl ⟨rfl,.inl ⟨rfl,B',l,ah,b,hh,h6,h7,aw _ _ (aF.Ez hc)⟩⟩⟩
   |true=>
    have hb:=fun T=>FG (u:=u) [44] hl gO h7 (t:=true) hc T
    obtain⟨_,x2,db,a3,k2,r2,g2,rfl⟩:=f226 (u:=u) (item:= .fn (.func fi) [] cap) [44] hl ai b B' p ah gO h7;have nG:=g2.take (ub hc (by simp));have kA:=h1;obtain⟨B4,T4,x3,iQ,a4,k3,i3,r3,g3,t3⟩:=UN l B' tt db a3 h6 r2 (by omega) (by omega);have D4:=g3.sz hP;refine κ.done .normal (fun st=>K (B4.set p (.cells iQ)) st) (by
     simp[K,h1,h2,h3,h4,hb,k2,k3]
     exact fun i hi=>(t3 i hi).elim (h5 i) .inr) fun s' hh=> .inl ⟨rfl,by omega,B4,l++[x3],iQ,a4,hh,i3,r3,by omega,by simp;omega,fun y b' hg=>aw y b' (aF.EB hc (g2.bind (g3.map _)) (by rw[show a2.sz+1-(i+1)=a2.sz-i by omega]at hg;exact hg))⟩
  ·have gO:=(hI _ _ h6).2;obtain⟨_,x2,db,a3,k2,r2,g2,rfl⟩:=f226 (u:=u) (item:= .fn (.func fi) [] cap) [41] hl ai b B' p ah gO h7;refine κ.done .normal (fun st=>K (B'.set p (.cells db)) st) (by
    simp[K,h1,h2,h3,h4,k2]
    exact h5) fun s' ⟨m1,m2,m3,tt,m4,m5⟩=>⟨by simp,B',l,db,a3,by simp only[m4],h6,r2,?_,by rw[m4];exact m5⟩
   refine aF.as (P:=fun t=>(P t).bind fun x t=>(cR cc F (t.l.length+1) [x] t).bind fun l t=>(aE s.length [41] t).map fun _=>l) ?_ fun st hs=>by simp[pj,gG st hs];rfl
   exact g1.bind (Q:=fun x t=>(cR cc F (t.l.length+1) [x] t).bind fun l t=>(aE s.length [41] t).map fun _=>l) (h8.fuel.bind (Q:=fun l t=>(aE s.length [41] t).map fun _=>l) (g2.map fun _=>l))
 obtain⟨⟨ex,s'⟩,e1,e2,B',l,ah,b,e3,e4,e5,e6,e7⟩:=dZ;have hp:=(hI _ _ h0).2;have eL:([AV.μ p 0,.str [41],.fn (.func fi) [] cap]++[]).map (exp (B.set p (θ.cells cs)).length true)=[.μ p 0,.str [41],.fn (.func fi) [] cap]:=by simp only[List.append_nil,az,List.map_nil,nq,DG _ (hI _ _ h0).1];simp[exp,hp]
 have:=sP (C:=C u) (f:=228) (g:=Ma) (args:=[.μ p 0,.str [41],.fn (.func fi) [] cap]) (cap:=[]) (m:= {ε:=B.set p (.cells cs),η:=T}) (l:=[]) rfl rfl rfl (by rw[eL];exact e1) e2 (by rfl);dsimp only at e3 e7;refine⟨B',T++s'.mem.η,l,ah,b,?_,e4,e5,e6,fun i hi=>(dT.1 hi).imp id (e7 i)⟩;exact this.trans (by rw[e3];rfl)
end
attribute [local simp] L5 PO O8 ζ.ft
theorem ob(a:List AV):eK (some a) (some a)=true:=AV.kM a
theorem ξ.fx{x:ξ}(h:x.Ok):Fx x.av:=by have:=Dv.list x.c (bN.of ζ.av x.ix fun y hy=>ζ.fx y (h.2.2 y hy).1);rw[fR h.2.1]at this;exact .agg (.cons (.str _) (.cons this .nil))
theorem ξ.tE(m:Mem)(x:ξ):m.ν x.av=x.av:=ξ.tF x
theorem aj0(x:ξ):shaped true 2 x.av=true:=rfl
attribute [local simp] ξ.tE aj0
theorem Xe(l:List ξ):(l.map ξ.av).all (shaped true 2)=true:=by simp[nj,ξ.av,shaped,Function.comp]
def sC(k g:Int)(nm:List Nat)(c:ρ)(l:List AV)(sz:List AV):List AV:=[.n k,.n g,.str nm,.list c l]++sz++z0.four++[.list .nil [],.list .nil []]
theorem XR(k g:Int)(nm:List Nat)(c:ρ)(l:List AV)(x:ζ):(sC k g nm c l x.four).length=14:=by simp[sC]
def sT(p:Nat)(k g:Int)(nm:List Nat)(c:ρ)(l:List AV):List θ:=[.cells [.μ p 0],.cells (sC k g nm c l z0.four)]
def sI(B:List θ)(p:Nat)(k g:Int)(nm:List Nat)(l:List ξ)(B':List θ):Prop:=
 ∃c ext,B'=B++sT p k g nm c (l.map ξ.av)++ext/\Row (B.length+2) B' 2 74 c l.length/\(l=[]->c= .nil)/\∀x∈l,x.Ok
section
variable{s:List Nat}{all:List Tok}{c:ρ}(hl:all.length<1000000000)(ai:∀t∈all,t.Ok)
include hl ai
theorem f310{B:List θ}{p:Nat}(hp:p<B.length)(k g:Int)(nm:List Nat)(n:Nat):J_ u s all c (sI B p k g nm) (.fn (.func 310) [] [.μ (B.length+1) 0,.μ B.length 0]) (kg s.length (aC s.length n)) n B.length p:=by
 rintro l _ T cs a ⟨cp,ext,rfl,hr,hn,Ih⟩ h ha hlen
 have qS:p<(B++sT p k g nm cp (l.map ξ.av)++ext).length:=by simp;omega
 obtain⟨_,x,cU,a1,k1,r1,gv,rfl,hx⟩:=f309 (u:=u) hl ai a ha _ p cs qS h;have e0:∀cs c l ext,(B++sT p k g nm c l++ext).set p (.cells cs)=B.set p (.cells cs)++sT p k g nm c l++ext:=fun cs c l ext=>by rw[bO,nr _ _ hp,bO]
 simp only[e0]at k1;have iT:Row (B.set p (.cells cU)++sT p k g nm cp (l.map ξ.av)).length (B.set p (.cells cU)++sT p k g nm cp (l.map ξ.av)++ext) 2 74 cp (l.map ξ.av).length:=by rw[cg];have:=Row.swap hr (P':=B.set p (.cells cU)++sT p k g nm cp (l.map ξ.av)) (by simp[sT]) (by simp[sT]);simpa[sT]using this
 obtain⟨c',ext',dB,gH,-⟩:=uW (bytes:=40) iT (Xe l) (show shaped true 2 x.av=true by rfl) (ξ.tF x) (by omega) (by simp;omega) (by simp;omega);rw[cg]at gH;have hL:∀cs c l ext,(B.set p (.cells cs)++sT p k g nm c l++ext).length=B.length+2+ext.length:=fun cs c l ext=>by simp[sT];omega
 have eL:∀n,B.length+2<=n->([]++[AV.μ (B.length+1) 0,.μ B.length 0]).map (exp n true)=[AV.μ (B.length+1) 0,.μ B.length 0]:=fun n hn=>by
  have a1:B.length+1<n:=by omega
  have a2:B.length<n:=by omega
  simp[exp,a1,a2]
 have g0:∀cs c l ext,(B.set p (.cells cs)++sT p k g nm c l++ext)[B.length]?=some (.cells [.μ p 0]):=fun cs c l ext=>by simp[sT]
 have g1:∀cs c l ext,(B.set p (.cells cs)++sT p k g nm c l++ext)[B.length+1]?=some (.cells (sC k g nm c l z0.four)):=fun cs c l ext=>by simp[sT]
 have g2:∀cs c l ext c' l',(B.set p (.cells cs)++sT p k g nm c l++ext).set (B.length+1) (.cells (sC k g nm c' l' z0.four))=B.set p (.cells cs)++sT p k g nm c' l'++ext:=fun cs c l ext c' l'=>by simp[sT]
 have d3:∀c l,((sC k g nm c l z0.four).drop 3).take 1=[.list c l]:=fun _ _=>rfl;have DZ:∀c l c' l',(sC k g nm c l z0.four).take 3++AV.list c' l'::(sC k g nm c l z0.four).drop 4=sC k g nm c' l' z0.four:=fun _ _ _ _=>rfl;have dZ:κ (C u).gl (ab (C u)) KR {env:=[.μ (B.length+1) 0,.μ B.length 0],loc:=[],mem:= {ε:=B.set p (.cells cs)++sT p k g nm cp (l.map ξ.av)++ext,η:=[]}} fun r=>r.1= .normal/\∃tt,r.2.mem= {ε:=B.set p (.cells cU)++sT p k g nm c' ((l++[x]).map ξ.av)++ext',η:=tt}/\∀i∈tt,B.length<=i:=by
  simp only[bO]at g0 g1 g2 k1 dB⊢;simp[KR,g0,g1,g2,k1,dB,Mem.put,ξ.tE,XR,d3,DZ,ob,cN,cQ];have DG:∀y∈l++[x],Fx y.av:=fun y hy=>(dT.1 hy).elim (fun h=>ξ.fx (Ih y h)) fun h=>by rw[fU.1 h];exact ξ.fx hx
  have er:∀m:Mem,m.ν (.list c' (l.map ξ.av++[x.av]))= .list c' (l.map ξ.av++[x.av]):=fun m=>by have:=(Dv.list c' (bN.of ξ.av (l++[x]) DG)).ν;rw[kr]at this;exact this
  simp only[er,DZ];refine⟨_,⟨rfl,rfl⟩,fun i hi=>?_⟩;split at hi
  ·cases hi
  ·have:=fU.1 hi;omega
 obtain⟨⟨ex,s'⟩,e1,rfl,tt,e2,e3⟩:=dZ;have dC:=sP (C:=C u) (f:=310) (g:=Me) (args:=[]) (cap:=[.μ (B.length+1) 0,.μ B.length 0]) (m:= {ε:=B.set p (.cells cs)++sT p k g nm cp (l.map ξ.av)++ext,η:=T}) (l:=[]) rfl rfl rfl (by rw[eL _ (by rw[hL];omega)];exact e1) (by simp) (by rfl);refine⟨B++sT p k g nm c' ((l++[x]).map ξ.av)++ext',T++tt,x,cU,a1,by rw[e0,e0,dC];dsimp only at e2;rw[e2];rfl,⟨c',ext',rfl,?_,fun h=>by simp at h,fun y hy=>?_⟩,r1,gv,fun i hi=>(dT.1 hi).imp id (e3 i)⟩
 ·have:=Row.swap gH (P':=B++sT p k g nm c' ((l++[x]).map ξ.av)) (by simp[sT]) (by simp[sT]);simpa[sT]using this
 ·rcases dT.1 hy with hy|hy
  ·exact Ih y hy
  ·rw[fU.1 hy];exact hx
end
theorem abx(m:Mem)(x:ζ):x.four.map m.ν=x.four:=by have:=ζ.WI x;rwa[fH]at this
theorem abw(n:Nat)(x:ζ)(h:x.gA):ba n x.four=true:=by exact(oR h).ba n
theorem E1(k g:Int)(nm:List Nat)(cp:ρ)(l sz:List AV):sC k g nm cp l sz= .n k:: .n g:: .str nm:: .list cp l::(sz++[.n 0,.n 0,.str [],.list .nil [],.list .nil [],.list .nil []]):=by simp[sC,z0,ζ.four,ζ.χ]
theorem JZ:z0.four=[.n 0,.n 0,.str [],.list .nil []]:=rfl
theorem Xb(n:Nat)(x:ξ)(h:x.Ok):lo n x.av=true:=(ξ.fx h).lo n
theorem oJ:z0.gA:=⟨⟨.inl rfl,trivial⟩,zP,trivial⟩
theorem ajP{k g:Int}{nm:List Nat}{cp:ρ}{pl:List ξ}{sz:ζ}(dH:∀y∈pl,y.Ok)(hs:sz.gA):bN (sC k g nm cp (pl.map ξ.av) sz.four) (δ.mk k g nm (cp.exp 0 false) pl sz z0 .nil [] .nil []).cells:=by simp only[sC,δ.cells];exact((bN.append (.cons (.int _ _) (.cons (.int _ _) (.cons (.str _) (.cons (.list cp (bN.of ξ.av pl fun y hy=>ξ.fx (dH y hy))) .nil)))) (oR hs)).append (oR oJ)).append (.cons (.list .nil .nil) (.cons (.list .nil .nil) .nil))
section
variable{s:List Nat}{all:List Tok}{c:ρ}
def tX(u:Nat)(s:List Nat)(all:List Tok)(c:ρ){α:Type}(f:FuncId)(args:List AV)(P:PS->R α)(E:α->AV->Prop)(a:RS):Prop:=
 ∀(B:List θ) (p:Nat) (cs:List AV) (item:AV) (T:List Nat),p<B.length->cM s all c item cs a->∃v x ah d_ b T',ab (C u) (.fn (.func f) [] []) (.μ p 0::args) {ε:=B.set p (.cells cs),η:=T}=some (v,{ε:=B.set p (.cells ah),η:=T'})/\cM s all c d_ ah b/\aF P a x b/\E x v/\∀i∈T',i∈T\/i=p
theorem ajX(hc:bp c){B:List θ}{p:Nat}(hp:p<B.length){b:RS}(tt:List Nat):∀{cs:List AV} {item:AV},cM s all c item cs b->(∀i∈tt,i=p\/B.length<=i)→
  ∃ah d_,lV B.length tt (B.set p (.cells cs))=B.set p (.cells ah)/\cM s all c d_ ah b:=by
 induction tt with
 |nil=>intro cs item h _;exact⟨cs,item,rfl,h⟩
 |cons i tt ih=>
  intro cs item h ht
  rcases ht i (by simp)with rfl|hi
  ·obtain⟨k,wr,rfl,hk,h⟩:=h;have e:(θ.cells [.str s,.list c (all.map Tok.bn),.n k,.n wr,item]).B9 B.length= .cells [.str s,.list c (all.map Tok.bn),.n k,.n wr,exp B.length true item]:=by
    have:aX B.length true (all.map Tok.bn)=all.map Tok.bn:=by rw[fe,cT];exact de fun t _=>Tok.S8 _ _ t
    simp[θ.B9,exp,fR hc,this]
   simp only[lV,List.getElem?_set_self hp,e,List.set_set];exact ih ⟨k,wr,rfl,hk,h⟩ fun j hj=>ht j (by simp[hj])
  ·simp only[lV,h_ (show(B.set p (θ.cells cs)).length<=i by simpa using hi)];exact ih h fun j hj=>ht j (by simp[hj])
theorem Ja(hc:bp c){f:FuncId}{g:AF}{args:List AV}{B:List θ}{p:Nat}{cs ah:List AV}{v:AV}{b:RS}{d_:AV}(h1:(C u).gQ f=none)(h2:(C u).fs f=some g)(h3:(C u).bf f=false)(hp:p<B.length)(hx:args.map (exp B.length false)=args)
  {r:Ex×St} (hr:exec (C u).gl (ab (C u)) dN g.code {env:= .μ p 0::args,loc:=[],mem:= {ε:=B.set p (.cells cs),η:=[]}}=some r) (he:∀i,r.1≠ .exit i) {bs:List θ} (hm:r.2.mem.ε=B.set p (.cells ah)++bs) (hL:cM s all c d_ ah b)
  (ht:∀i∈r.2.mem.η,i=p\/B.length<=i) {l:List AV} (hl:cK r.2 g.results=some l) (hv:aO r.2.mem.ε B.length 8 (cL l)=v) (T:List Nat):
  ∃Sn adv T',ab (C u) (.fn (.func f) [] []) (.μ p 0::args) {ε:=B.set p (.cells cs),η:=T}=some (v,{ε:=B.set p (.cells Sn),η:=T'})/\cM s all c adv Sn b/\∀i∈T',i∈T\/i=p:=by
 obtain⟨cF,so,e1,e2⟩:=ajX hc hp _ hL ht;have eL:(AV.μ p 0::args).map (exp (B.set p (θ.cells cs)).length false)= .μ p 0::args:=by simp only[az,nq,hx,exp,hp,if_true]
 obtain⟨ex,s'⟩:=r;have hc:=KZ (C:=C u) (f:=f) (g:=g) (args:= .μ p 0::args) (m:= {ε:=B.set p (.cells cs),η:=T}) h1 h2 h3 (by rw[eL];exact hr) he hl;dsimp only at hm ht hv;have h5:(B.set p (θ.cells ah)++bs).take (B.set p (θ.cells cs)).length=B.set p (.cells ah):=by rw[nq,List.take_append_of_le_length (by simp)];exact fo (by simp)
 have h6:Mem.back {ε:=B.set p (.cells cs),η:=T} s'.mem= {ε:=B.set p (.cells cF),η:=T++s'.mem.η.filter fun i=>match(B.set p (θ.cells cF))[i]? with
   |some b=>!b.clean i
   |none=>false}:=by
  have e:s'.mem= {ε:=B.set p (.cells ah)++bs,η:=s'.mem.η}:=by rw[<-hm]
  rw[e];simp only[Mem.back,h5];rw[nq,e1];rfl
 rw[nq,hv,h6]at hc;refine⟨cF,so,_,hc,e2,fun i hi=>?_⟩;rcases dT.1 hi with hi|hi
 ·exact .inl hi
 ·obtain⟨h7,h8⟩:=List.mem_filter.1 hi;rcases ht i h7 with rfl|h9
  ·exact .inr rfl
  ·rw[h_ (by simpa using h9)]at h8;cases h8
variable(hl:all.length<1000000000)(ai:∀t∈all,t.Ok)(hc:bp c)
def YI:δ->AV->Prop:=fun x v=>v= .agg x.cells/\x.Ok
def mB(s:List Nat)(all:List Tok)(c:ρ)(e n:Nat)(B:List θ)(p:Nat)(a:RS)(st:St):Prop:=
 st.e 2= .μ B.length 0/\st.e 4= .aj 4 0 0/\(∃z,st.q 4=some (0,.cells z)/\z.length=14)/\st.e 5= .μ (B.length+1) 0∧
  ∃k g nm cp pl sz cs ext tt item b,st.mem= {ε:=B.set p (.cells cs)++([.cells [.μ p 0],.cells (sC k g nm cp (pl.map ξ.av) sz.four)]++ext),η:=tt}/\cM s all c item cs b/\(∀i∈tt,i=p\/B.length<=i)/\du nm/\(∀y∈pl,y.Ok)/\sz.gA∧
   aF (lT e (aC e n)) a (.mk k g nm (cp.exp 0 false) pl sz z0 .nil [] .nil []) b
include hl ai hc
omit hl ai hc in
theorem pK.at{α:Type}{Rel:List AV->RS->Prop}{f:FuncId}{args:List AV}{P:PS->R α}{E:α->AV->Prop}{a:RS}(h:pK u Rel f args P E a){B:List θ}(D:List θ){p:Nat}{cs:List AV}(hp:p<B.length)(hr:Rel cs a):
  ∃v x ah b,(∀T,ab (C u) (.fn (.func f) [] []) (.μ p 0::args) (kV B p cs D T)=some (v,(kV B p ah D T)))/\Rel ah b/\aF P a x b/\E x v:=by
 obtain⟨v,x,ah,b,h1,h2⟩:=h (B++D) p cs (by simp;omega) hr;simp only[nr _ _ hp]at h1;exact⟨v,x,ah,b,h1,h2⟩
omit ai hc in
theorem CF{item:AV}(w:List Nat){B:List θ}(D:List θ){p:Nat}{cs:List AV}{a:RS}(hp:p<B.length)(h:cM s all c item cs a)(t:Bool)(hb:a.a_ w=t)(T:List Nat):
  kf u 268 [.μ p 0,.list .full [.str w]] (kV B p cs D T)=some (.bool t,(kV B p cs D T)):=by
 have:=FG (u:=u) w hl (B:=B++D) (p:=p) (by simp;omega) h hb T;simpa only[nr _ _ hp]using this
theorem f297{n:Nat}(a:RS)(ha:a.sz<n)(word:List Nat)(hw:∀st,a= .r st->word=st.hd):tX u s all c 297 [.str word] (Ae s.length (aC s.length n)) YI a:=by
 intro B p cs item T hp h;have dZ:κ (C u).gl (ab (C u)) RO {env:=[.μ p 0,.str word],loc:=[],mem:= {ε:=B.set p (.cells cs),η:=[]}} fun r=>(∀i,r.1≠ .exit i)/\∃x L ah ext tt item b,r.2.mem=(kV B p ah ext tt)/\(∀i∈tt,i=p\/B.length<=i)∧
   aK r.2.env 4= .aj 4 0 0/\bQ r.2.loc 4=some (0,.cells L)/\bN L x.cells/\x.Ok/\cM s all c item ah b/\aF (Ae s.length (aC s.length n)) a x b:=by
  have UG:(C u).gl 0= .ref [aZ .any fu]:=Bf;have q85:=fun m=>f85 (u:=u) .any (.inr rfl) fu word (by decide) m;have hgate:placeOf fu word+1=(jh word:Int):=by unfold placeOf jh;cases fu.findIdx? fun x=>x==word<;>simp
  have ak9:jh word<=12:=by
   unfold jh;cases hf:fu.findIdx? fun x=>x==word with
   |none=>simp
   |some i=>
    have:=(List.findIdx?_eq_some_iff_findIdx_eq.1 hf).1
    have hl:fu.length=12:=rfl;simp only;omega
  have gh:bC .i64 (placeOf fu word+1)=jh word:=by rw[hgate,wrap_i64 (by omega) (by omega)]
  refine Δ (fun st=>st.e 1= .str word/\st.e 2= .μ B.length 0/\st.e 4= .aj 4 0 0/\(∃z,st.q 4=some (0,.cells z)/\z.length=14)/\st.mem= {ε:=B.set p (.cells cs)++[.cells [.μ p 0]],η:=[]}) (by simp[bz,Mem.push,Mem.ν,ν]) fun s1 ⟨h1,h2,h4,⟨z,h5,h6⟩,h7⟩=>?_;let K:St->Prop:=fun st=>st.e 1= .str word/\st.e 2= .μ B.length 0/\st.e 4= .aj 4 0 0/\st.q 4=some (0,.cells z)/\st.e 5= .μ (B.length+1) 0;refine Δ (fun st=>K st/\st.mem= {ε:=B.set p (.cells cs)++[.cells [.μ p 0],.cells [.n 0,.n 0,.str [],.list .nil [],.n 0,.n 0,.str [],.list .nil [],.n 0,.n 0,.str [],.list .nil [],.list .nil [],.list .nil []]],η:=[]}) (by simp[K,bz,Mem.push,Mem.ν,ν,cw,h1,h2,h4,h5,h7]) fun s1 ⟨⟨h1,h2,h4,h5,h8⟩,h7⟩=>?_;refine Δ (fun st=>(K st/\st.mem= {ε:=B.set p (.cells cs)++[.cells [.μ p 0],.cells [.n 0,.n 0,.str [],.list .nil [],.n 0,.n 0,.str [],.list .nil [],.n 0,.n 0,.str [],.list .nil [],.list .nil [],.list .nil []]],η:=[]})/\st.e 6= .n (jh word)) (by simp[K,h1,h2,h4,h5,h7,h8,UG,q85,gh]) fun s1 ⟨⟨⟨h1,h2,h4,h5,h8⟩,h7⟩,h9⟩=>?_;refine bJ (mB s all c s.length n B p a) ?_ fun s2 ⟨m2,m4,⟨z',m5,m6⟩,m8,k,g,nm,cp,pl,sz,cU,ext,tt,IA,b,m7,m9,m10,m11,m12,m13,m14⟩=>?_
  ·refine κ.block ?_;have eH:∀(X:List θ) (L:List AV) (e:List θ),X.length=B.length->(X++θ.cells [.μ p 0]::θ.cells L::e)[B.length]?=some (.cells [.μ p 0]):=fun X L e h=>by rw[<-h];simp
   have H5:∀(X:List θ) (L:List AV) (e:List θ),X.length=B.length->(X++θ.cells [.μ p 0]::θ.cells L::e)[B.length+1]?=some (.cells L):=fun X L e h=>by rw[<-h];simp
   have H8:∀(X:List θ) (L L':List AV) (e:List θ),X.length=B.length->(X++θ.cells [.μ p 0]::θ.cells L::e).set (B.length+1) (.cells L')=X++θ.cells [.μ p 0]::θ.cells L'::e:=fun X L L' e h=>by rw[<-h];simp
   have hX:∀cs,(B.set p (θ.cells cs)).length=B.length:=fun cs=>by simp
   have g0:=fun cs L e=>eH (B.set p (.cells cs)) L e (hX cs);have g1:=fun cs L e=>H5 (B.set p (.cells cs)) L e (hX cs);have gs:=fun cs L L' e=>H8 (B.set p (.cells cs)) L L' e (hX cs);clear eH H5 H8;have fin:∀(k g:Int) (nm:List Nat) (cp:ρ) (pl:List ξ) (sz:ζ) (ah:List AV) (ext:List θ) (tt:List Nat) (d_:AV) (b:RS) (st:St),
     K st/\st.mem= {ε:=B.set p (.cells ah)++(θ.cells [.μ p 0]::θ.cells (sC k g nm cp (pl.map ξ.av) sz.four)::ext),η:=tt}->cM s all c d_ ah b->(∀i∈tt,i=p\/B.length<=i)->du nm->(∀y∈pl,y.Ok)->sz.gA→
     aF (lT s.length (aC s.length n)) a (.mk k g nm (cp.exp 0 false) pl sz z0 .nil [] .nil []) b->mB s all c s.length n B p a st:=fun k g nm cp pl sz ah ext tt d_ b st ⟨⟨m1,m2,m4,m5,m8⟩,m7⟩ q1 q2 q3 q4 q5 q6=>
    ⟨m2,m4,⟨z,m5,h6⟩,m8,k,g,nm,cp,pl,sz,ah,ext,tt,d_,b,m7,q1,q2,q3,q4,q5,q6⟩
   have gG:∀i∈([]:List Nat),i=p\/B.length<=i:=by simp
   have Vg:∀y∈([]:List ξ),y.Ok:=by simp
   by_cases hgt:0<jh word
   ·have acv:(0:Int)<jh word:=by omega
    obtain⟨_,w1,cU,a1,k1,r1,iF,rfl⟩:=(f226 (u:=u) (item:=item) word hl ai a).at [.cells [.μ p 0],.cells [.n 0,.n 0,.str [],.list .nil [],.n 0,.n 0,.str [],.list .nil [],.n 0,.n 0,.str [],.list .nil [],.list .nil [],.list .nil []]] hp h;have s1:=iF.sz (eV _ _);have aiH:=fun m=>f272 (u:=u) (jh word) (by omega) m;have har:1<=gb (jh word)/\gb (jh word)<=3:=by unfold gb;(repeat' split)<;>omega
    generalize hgw:(jh word:Int)=gw at*;generalize ab0:gb gw=ar at*;let pl:PS->R ξ:=kg s.length (aC s.length n);let T1:PS->R (List ξ):=fun t=>(pl t).bind fun p t=>pq s.length pl (ar-1) [p] t;have qL:dm pl:=F9 _ (n_ _ _);let Y:List AV->ρ->List ξ->List θ->List θ:=fun cs cp l ext=>B.set p (.cells cs)++(θ.cells [.μ p 0]::θ.cells (sC 1 gw [] cp (l.map ξ.av) z0.four)::ext);refine Δ (fun st=>K st/\st.e 6= .n gw/\st.e 21= .bool true/\st.mem= {ε:=B.set p (.cells cs)++[.cells [.μ p 0],.cells [.n 0,.n 0,.str [],.list .nil [],.n 0,.n 0,.str [],.list .nil [],.n 0,.n 0,.str [],.list .nil [],.list .nil [],.list .nil []]],η:=[]}) (by simp[K,h1,h2,h4,h5,h7,h8,h9,acv]) fun s1 ⟨⟨h1,h2,h4,h5,h8⟩,h9,aw,h7⟩=>?_;refine κ.yes (by simp[aw]) ?_;refine Δ (fun st=>K st/\st.e 6= .n gw/\st.mem= {ε:=B.set p (.cells cU)++[.cells [.μ p 0],.cells [.n 0,.n 0,.str [],.list .nil [],.n 0,.n 0,.str [],.list .nil [],.n 0,.n 0,.str [],.list .nil [],.list .nil [],.list .nil []]],η:=[]}) (by simp[K,h1,h2,h4,h5,h7,h8,h9,k1,g0,g1]) fun s1 ⟨⟨h1,h2,h4,h5,h8⟩,h9,h7⟩=>?_;refine Δ (fun st=>K st/\st.e 6= .n gw/\st.mem= {ε:=Y cU .nil [] [],η:=[]}) (by simp[K,Y,h1,h2,h4,h5,h7,h8,h9,g0,g1,gs,Mem.put,Mem.ν,ν,ba,lo,E1,JZ]) fun s1 ⟨⟨h1,h2,h4,h5,h8⟩,h9,h7⟩=>?_;let I:Nat->St->Prop:=fun i st=>K st/\st.e 31= .n ar/\st.e 32= .n i/\∃ah cp l ext tt b,st.mem= {ε:=Y ah cp l ext,η:=tt}/\l.length=i/\Row (B.length+2) (Y ah cp l ext) 2 74 cp l.length/\(l=[]->cp= .nil)/\(∀y∈l,y.Ok)/\(∀i∈tt,i=p\/B.length<=i)/\cM s all c item ah b/\b.sz<=a1.sz∧
     ((l=[]/\b=a1)\/(0<i/\∀y b',aF (pq s.length pl (ar-i) l) b y b'->aF T1 a1 y b'))
    refine κ.mono (Q:=fun r=>r.1= .normal/\∃ah cp l ext tt b,K r.2/\r.2.mem= {ε:=Y ah cp l ext,η:=tt}/\(l≠[]/\cp.exp 0 false= .any)/\(∀y∈l,y.Ok)/\(∀i∈tt,i=p\/B.length<=i)/\cM s all c item ah b/\aF T1 a1 l b) ?_ fun r ⟨BA,ah,cp,l,ext,tt,b,q1,q2,⟨_,q3⟩,q4,q5,q6,q7⟩=>?_
    ·refine Δ (fun st=>K st/\st.e 31= .n ar/\st.e 32= .n 0/\st.mem= {ε:=Y cU .nil [] [],η:=[]}) (by simp[K,h1,h2,h4,h5,h7,h8,h9,aiH]) fun s1 ⟨hK,h9,aw,h7⟩=>?_;have hI:I 0 s1:=⟨hK,h9,aw,cU,.nil,[],[],[],a1,h7,rfl,Row.nil,fun _=>rfl,by simp,by simp,r1,bS _,.inl ⟨rfl,rfl⟩⟩;refine κ.block (κ.kp (I:=I) ar hI fun i st hi Ω=>?_);obtain⟨⟨h1,h2,h4,h5,h8⟩,h9,aw,ah,cp,l,ext,tt,b,h7,ou,gH,mR,jN,mV,NT,fM,pY⟩:=Ω;unfold V8;rcases Nat.lt_or_ge i ar with ψ|dD
     ·have eQ:(i:Int)<ar:=by omega
      have kS:bC .i64 ((i:Int)+1)=(i:Int)+1:=wrap_i64 (by omega) (by omega);have place:∀cF b2,cM s all c item cF b2->b2.sz<=a1.sz->∃x db dU ext' b3,(∀T,kf u 309 [.μ p 0] {ε:=Y cF cp l ext,η:=T}=some (x.av,{ε:=Y db cp l ext,η:=T}))∧
        (∀T,gC {ε:=Y db cp l ext,η:=T} true 2 40 74 (.list cp (l.map ξ.av)) (.list .full [x.av])=some (.list dU (l.map ξ.av++[x.av]),{ε:=Y db cp l ext',η:=T}))/\Row (B.length+2) (Y db dU (l++[x]) ext') 2 74 dU (l++[x]).length/\cM s all c item db b3/\aF pl b2 x b3/\x.Ok/\b3.sz<=b2.sz:=by
       intro cF b2 D1 nG;obtain⟨_,x,db,b3,k3,r3,dV,rfl,hx⟩:=(f309 (u:=u) (item:=item) (k:=n) hl ai b2 (by omega)).at (θ.cells [.μ p 0]::θ.cells (sC 1 gw [] cp (l.map ξ.av) z0.four)::ext) hp D1;have hY:∀cs cp l ext,Y cs cp l ext=(B.set p (.cells cs)++[θ.cells [.μ p 0],θ.cells (sC 1 gw [] cp (l.map ξ.av) z0.four)])++ext:=fun cs cp l ext=>by simp[Y]
       have iT:Row (B.set p (.cells db)++[θ.cells [.μ p 0],θ.cells (sC 1 gw [] cp (l.map ξ.av) z0.four)]).length ((B.set p (.cells db)++[θ.cells [.μ p 0],θ.cells (sC 1 gw [] cp (l.map ξ.av) z0.four)])++ext) 2 74 cp (l.map ξ.av).length:=by rw[hY]at gH;have:=Row.swap gH (P':=B.set p (.cells db)++[θ.cells [.μ p 0],θ.cells (sC 1 gw [] cp (l.map ξ.av) z0.four)]) (by simp) (by simp);rw[cg];simpa using this
       obtain⟨dU,ext',dB,tq,-⟩:=uW (bytes:=40) iT (Xe l) (show shaped true 2 x.av=true by rfl) (ξ.tF x) (by omega) (by simp;omega) (by simp;omega);refine⟨x,db,dU,ext',b3,k3,fun T=>by rw[hY,hY];exact dB T,?_,r3,dV,hx,dV.sz qL⟩;rw[cg]at tq;rw[hY];have:=Row.swap tq (P':=B.set p (.cells db)++[θ.cells [.μ p 0],θ.cells (sC 1 gw [] dU ((l++[x]).map ξ.av) z0.four)]) (by simp) (by simp);simpa using this
      have done:∀x db dU ext' b3 qo s',K s'->s'.e 31= .n ar->s'.e 32= .n ((i:Int)+1)->s'.mem= {ε:=Y db dU (l++[x]) ext',η:=qo}->Row (B.length+2) (Y db dU (l++[x]) ext') 2 74 dU (l++[x]).length->cM s all c item db b3->x.Ok->b3.sz<=b.sz->(∀i∈qo,i=p\/B.length<=i)→
        (∀y b',aF (pq s.length pl (ar-(i+1)) (l++[x])) b3 y b'->aF T1 a1 y b')->I (i+1) s':=fun x db dU ext' b3 qo s' q1 q2 q3 q4 q5 q6 q7 q8 q9 nL=>
       ⟨q1,q2,q3,db,dU,l++[x],ext',qo,b3,q4,by simp[ou],q5,fun h=>by simp at h,fun y hy=>(dT.1 hy).elim (jN y) fun h=>by rw[fU.1 h];exact q7,q9,q6,by omega,.inr ⟨by omega,nL⟩⟩
      have MQ:∀c l,((sC 1 gw [] c l z0.four).drop 3).take 1=[.list c l]:=fun _ _=>rfl;have DZ:∀c l c' l',(sC 1 gw [] c l z0.four).take 3++AV.list c' l'::(sC 1 gw [] c l z0.four).drop 4=sC 1 gw [] c' l' z0.four:=fun _ _ _ _=>rfl;have T_:∀c l,(sC 1 gw [] c l z0.four).length=14:=fun c l=>XR 1 gw [] c l z0;have er:∀(x:ξ) (dU:ρ),x.Ok->∀m:Mem,m.ν (.list dU (l.map ξ.av++[x.av]))= .list dU (l.map ξ.av++[x.av]):=fun x dU hx m=>by have:=(Dv.list dU (bN.of ξ.av (l++[x]) fun y hy=>(dT.1 hy).elim (fun h=>ξ.fx (jN y h)) fun h=>by rw[fU.1 h];exact ξ.fx hx)).ν;rw[kr]at this;exact this
      rcases pY with⟨h0,gL⟩|⟨h0,pY⟩
      ·have th:i=0:=by rw[<-ou,h0];rfl
       obtain⟨x,db,dU,ext',b3,k3,dB,tq,r3,dV,hx,D4⟩:=place ah b NT fM;refine κ.done .normal (fun st=>K st/\st.e 31= .n ar/\st.e 32= .n ((i:Int)+1)/\∃qo,st.mem= {ε:=Y db dU (l++[x]) ext',η:=qo}/\∀i∈qo,i=p\/B.length<=i) (by
        have acw:¬0<i:=by omega
        simp only[Y]at k3 dB h7⊢;simp[K,h1,h2,h4,h5,h7,h8,h9,aw,eQ,acw,kS,k3,dB,g0,g1,gs,Mem.put,MQ,DZ,T_,er x dU hx,ob,cN,cQ];intro j hj;split at hj
        ·exact mV j hj
        ·exact(cy.1 hj).elim (fun h=> .inr (by omega)) (mV j)) fun s' ⟨q1,q2,q3,qo,q4,q5⟩=> .inl ⟨rfl,ψ,done x db dU ext' b3 qo s' q1 q2 q3 q4 tq r3 hx D4 q5 ?_⟩
       intro y b' hg;rw[gL]at dV;rw[h0,th]at hg;exact dV.bind (Q:=fun p t=>pq s.length pl (ar-1) [p] t) hg
      ·have xb:(0:Int)<i:=by omega
       obtain⟨_,w2,cF,b2,k2,r2,gD,rfl⟩:=(f226 (u:=u) (item:=item) [44] hl ai b).at (θ.cells [.μ p 0]::θ.cells (sC 1 gw [] cp (l.map ξ.av) z0.four)::ext) hp NT;have nG:=gD.sz (eV _ _);obtain⟨x,db,dU,ext',b3,k3,dB,tq,r3,dV,hx,D4⟩:=place cF b2 r2 (by omega);refine κ.done .normal (fun st=>K st/\st.e 31= .n ar/\st.e 32= .n ((i:Int)+1)/\∃qo,st.mem= {ε:=Y db dU (l++[x]) ext',η:=qo}/\∀i∈qo,i=p\/B.length<=i) (by
        simp only[Y]at k3 dB h7⊢
        simp[K,h1,h2,h4,h5,h7,h8,h9,aw,eQ,h0,kS,k2,k3,dB,g0,g1,gs,Mem.put,MQ,DZ,T_,er x dU hx,ob,cN,cQ];intro j hj;split at hj
        ·exact mV j hj
        ·exact(cy.1 hj).elim (fun h=> .inr (by omega)) (mV j)) fun s' ⟨q1,q2,q3,qo,q4,q5⟩=> .inl ⟨rfl,ψ,done x db dU ext' b3 qo s' q1 q2 q3 q4 tq r3 hx (by omega) q5 fun y b' hg=>pY y b' ?_⟩
       rw[show ar-i=(ar-(i+1))+1 by omega];exact gD.bind (Q:=fun _ t=>(pl t).bind fun p t=>pq s.length pl (ar-(i+1)) (l++[p]) t) (dV.bind (Q:=fun p t=>pq s.length pl (ar-(i+1)) (l++[p]) t) hg)
     ·have:i=ar:=by omega
      subst this;refine κ.done (.exit 1) (fun st=>K st/\st.mem= {ε:=Y ah cp l ext,η:=tt}) (by simp[K,h1,h2,h4,h5,h7,h8,h9,aw]) fun s' hh=> .inr ⟨by simp,.inl ⟨rfl,rfl,ah,cp,l,ext,tt,b,hh.1,hh.2,?_,jN,mV,NT,?_⟩⟩
      ·have φ:l≠[]:=fun h=>by rw[h]at ou;simp at ou;omega
       refine⟨φ,?_⟩;rcases gH with⟨_,h⟩|⟨t,rfl,_,_⟩
       ·exact absurd (np h) φ
       ·rfl
      ·rcases pY with⟨h,_⟩|⟨_,h⟩
       ·rw[h]at ou;simp at ou;omega
       ·refine h l b ?_;rw[Nat.sub_self];exact aF.pure l b
    ·refine .inr ⟨by rw[BA];simp,.inl ⟨BA,fin 1 gw [] cp l z0 ah ext tt item b r.2 ⟨q1,q2⟩ q6 q5 zP q4 oJ ?_⟩⟩;rw[q3];refine aF.as (P:=fun t=>(aE s.length word t).bind fun _ t=>(T1 t).map fun l=> .mk 1 gw [] .any l z0 z0 .nil [] .nil []) (iF.bind (q7.map fun l:List ξ=>δ.mk 1 gw [] .any l z0 z0 .nil [] .nil [])) fun st hs=>?_;have e3:=hw st hs;simp only[lT,<-e3,hgt,if_true,hgw,ab0,T1,R.bind_map];rfl
   have UI:jh word=0:=by omega
   have DH:∀st,a= .r st->jh st.hd=0:=fun st hs=>by rw[<-hw st hs];exact UI
   rw[UI]at h9;have qb:=fun w t hb T=>CF (u:=u) hl w [.cells [.μ p 0],.cells [.n 0,.n 0,.str [],.list .nil [],.n 0,.n 0,.str [],.list .nil [],.n 0,.n 0,.str [],.list .nil [],.list .nil [],.list .nil []]] hp h t hb T;have oV:∀w,a.a_ w=true->∀st,a= .r st->st.hd=w:=fun w hb st hs=>by subst hs;exact beq_iff_eq.1 hb
   have uj:∀w,a.a_ w=false->∀st,a= .r st->¬st.hd=w:=fun w hb st hs=>by subst hs;exact beq_eq_false_iff_ne.1 hb
   have qw:=(f226 (u:=u) (item:=item) word hl ai a).at [.cells [.μ p 0],.cells [.n 0,.n 0,.str [],.list .nil [],.n 0,.n 0,.str [],.list .nil [],.n 0,.n 0,.str [],.list .nil [],.list .nil [],.list .nil []]] hp h;obtain⟨_,w1,cU,a1,k1,r1,iF,rfl⟩:=qw;have s1:=iF.sz (eV _ _);cases b1:a.a_ [116,97,107,101]with
   |true=>
    have pB:=qb _ _ b1
    obtain⟨_,x,cF,a2,k2,r2,gD,rfl,qX,BF⟩:=(f295 (u:=u) (item:=item) (k:=n) hl ai a1 (by omega)).at [.cells [.μ p 0],.cells [.n 2,.n 0,.str [],.list .nil [],.n 0,.n 0,.str [],.list .nil [],.n 0,.n 0,.str [],.list .nil [],.list .nil [],.list .nil []]] hp r1;refine κ.done .normal (fun st=>K st/\st.mem= {ε:=B.set p (.cells cF)++(θ.cells [.μ p 0]::θ.cells (sC 2 0 x.1 .nil [] x.2.four)::[]),η:=[]}) (by simp[K,h1,h2,h4,h5,h7,h8,h9,pB,k1,k2,g0,g1,gs,Mem.put,Mem.ν,ν,ba,lo,abx,abw _ _ BF,E1]) fun s' hh=> .inr ⟨by simp,.inl ⟨rfl,fin 2 0 x.1 .nil [] x.2 cF [] [] item a2 s' hh r2 gG qX Vg BF ?_⟩⟩;refine aF.as (P:=fun t=>(aE s.length word t).bind fun _ t=>(uY s.length (aC s.length n) t).map fun x=> .mk 2 0 x.1 .nil [] x.2 z0 .nil [] .nil []) (iF.bind (gD.map fun x:List Nat×ζ=>δ.mk 2 0 x.1 .nil [] x.2 z0 .nil [] .nil [])) fun st hs=>?_;have e1:=oV _ b1 st hs;have e2:=DH st hs;have e3:=hw st hs;rw[e1]at e2 e3;simp[lT,e1,e2,e3]
   |false=>
   have pB:=qb _ _ b1
   cases b2:a.a_ [100,114,111,112]with
   |true=>
    have rm:=qb _ _ b2
    obtain⟨_,x,cF,a2,k2,r2,gD,rfl,hx⟩:=(f227 (u:=u) (item:=item) hl ai a1).at [.cells [.μ p 0],.cells [.n 0,.n 0,.str [],.list .nil [],.n 0,.n 0,.str [],.list .nil [],.n 0,.n 0,.str [],.list .nil [],.list .nil [],.list .nil []]] hp r1;refine κ.done .normal (fun st=>K st/\st.mem= {ε:=B.set p (.cells cF)++(θ.cells [.μ p 0]::θ.cells (sC 3 0 x .nil [] z0.four)::[]),η:=[]}) (by simp[K,h1,h2,h4,h5,h7,h8,h9,pB,rm,k1,k2,g0,g1,gs,Mem.put,Mem.ν,ν,ba,lo,E1,JZ]) fun s' hh=> .inr ⟨by simp,.inl ⟨rfl,fin 3 0 x .nil [] z0 cF [] [] item a2 s' hh r2 gG hx Vg oJ ?_⟩⟩;refine aF.as (P:=fun t=>(aE s.length word t).bind fun _ t=>(gY s.length t).map fun x=> .mk 3 0 x .nil [] z0 z0 .nil [] .nil []) (iF.bind (gD.map fun x:List Nat=>δ.mk 3 0 x .nil [] z0 z0 .nil [] .nil [])) fun st hs=>?_;have e1:=oV _ b2 st hs;have e2:=DH st hs;have e3:=hw st hs;rw[e1]at e2 e3;simp[lT,e1,e2,e3]
   |false=>
   have rm:=qb _ _ b2
   cases b3:a.a_ [109,101,97,115,117,114,101]with
   |true=>
    have uV:=qb _ _ b3
    obtain⟨_,x,cF,a2,k2,r2,gD,rfl,hx⟩:=(f309 (u:=u) (item:=item) (k:=n) hl ai a1 (by omega)).at [.cells [.μ p 0],.cells [.n 0,.n 0,.str [],.list .nil [],.n 0,.n 0,.str [],.list .nil [],.n 0,.n 0,.str [],.list .nil [],.list .nil [],.list .nil []]] hp r1;have s2:=gD.sz (F9 _ (n_ _ _));obtain⟨_,w3,db,a3,k3,r3,dV,rfl⟩:=(f226 (u:=u) (item:=item) [58] hl ai a2).at [.cells [.μ p 0],.cells [.n 5,.n 0,.str [],.list .full [x.av],.n 0,.n 0,.str [],.list .nil [],.n 0,.n 0,.str [],.list .nil [],.list .nil [],.list .nil []]] hp r2;obtain⟨_,y,iQ,a4,k4,r4,nz,rfl,hy⟩:=(f227 (u:=u) (item:=item) hl ai a3).at [.cells [.μ p 0],.cells [.n 5,.n 0,.str [],.list .full [x.av],.n 0,.n 0,.str [],.list .nil [],.n 0,.n 0,.str [],.list .nil [],.list .nil [],.list .nil []]] hp r3;refine κ.done .normal (fun st=>K st/\st.mem= {ε:=B.set p (.cells iQ)++(θ.cells [.μ p 0]::θ.cells (sC 5 0 y .full [x.av] z0.four)::[]),η:=[]}) (by simp[K,h1,h2,h4,h5,h7,h8,h9,pB,rm,uV,k1,k2,k3,k4,g0,g1,gs,Mem.put,Mem.ν,ν,cw,ξ.tF,ba,lo,ρ.lo,Xb _ _ hx,E1,JZ]) fun s' hh=> .inr ⟨by simp,.inl ⟨rfl,fin 5 0 y .full [x] z0 iQ [] [] item a4 s' hh r4 gG hy (by simpa using hx) oJ ?_⟩⟩;refine aF.as (P:=fun t=>(aE s.length word t).bind fun _ t=>(kg s.length (aC s.length n) t).bind fun p t=>(aE s.length [58] t).bind fun _ t=>(gY s.length t).map fun x=> .mk 5 0 x .any [p] z0 z0 .nil [] .nil []) (iF.bind (gD.bind (Q:=fun p t=>(aE s.length [58] t).bind fun _ t=>(gY s.length t).map fun x=>δ.mk 5 0 x .any [p] z0 z0 .nil [] .nil []) (dV.bind (nz.map fun y:List Nat=>δ.mk 5 0 y .any [x] z0 z0 .nil [] .nil [])))) fun st hs=>?_;have e1:=oV _ b3 st hs;have e2:=DH st hs;have e3:=hw st hs;rw[e1]at e2 e3;simp[lT,e1,e2,e3]
   |false=>
   have uV:=qb _ _ b3
   cases b4:a.a_ [114,101,115,101,116]with
   |true=>
    have x9:=qb _ _ b4
    obtain⟨_,x,cF,a2,k2,r2,gD,rfl,hx⟩:=(f309 (u:=u) (item:=item) (k:=n) hl ai a1 (by omega)).at [.cells [.μ p 0],.cells [.n 0,.n 0,.str [],.list .nil [],.n 0,.n 0,.str [],.list .nil [],.n 0,.n 0,.str [],.list .nil [],.list .nil [],.list .nil []]] hp r1;refine κ.done .normal (fun st=>K st/\st.mem= {ε:=B.set p (.cells cF)++(θ.cells [.μ p 0]::θ.cells (sC 6 0 [] .full [x.av] z0.four)::[]),η:=[]}) (by simp[K,h1,h2,h4,h5,h7,h8,h9,pB,rm,uV,x9,k1,k2,g0,g1,gs,Mem.put,Mem.ν,ν,cw,ξ.tF,ba,lo,ρ.lo,Xb _ _ hx,E1,JZ]) fun s' hh=> .inr ⟨by simp,.inl ⟨rfl,fin 6 0 [] .full [x] z0 cF [] [] item a2 s' hh r2 gG zP (by simpa using hx) oJ ?_⟩⟩;refine aF.as (P:=fun t=>(aE s.length word t).bind fun _ t=>(kg s.length (aC s.length n) t).map fun p=> .mk 6 0 [] .any [p] z0 z0 .nil [] .nil []) (iF.bind (gD.map fun p:ξ=>δ.mk 6 0 [] .any [p] z0 z0 .nil [] .nil [])) fun st hs=>?_;have e1:=oV _ b4 st hs;have e2:=DH st hs;have e3:=hw st hs;rw[e1]at e2 e3;simp[lT,e1,e2,e3]
   |false=>
   have x9:=qb _ _ b4
   obtain⟨_,x,cF,a2,k2,r2,gD,rfl,hx⟩:=(f227 (u:=u) (item:=item) hl ai a).at [.cells [.μ p 0],.cells [.n 0,.n 0,.str [],.list .nil [],.n 0,.n 0,.str [],.list .nil [],.n 0,.n 0,.str [],.list .nil [],.list .nil [],.list .nil []]] hp h;have s2:=gD.sz (oa _);obtain⟨_,w3,db,a3,k3,r3,dV,rfl⟩:=(f226 (u:=u) (item:=item) [40] hl ai a2).at [.cells [.μ p 0],.cells [.n 9,.n 0,.str x,.list .nil [],.n 0,.n 0,.str [],.list .nil [],.n 0,.n 0,.str [],.list .nil [],.list .nil [],.list .nil []]] hp r2;have s3:=dV.sz (eV _ _);obtain⟨B4,T4,l,iQ,a4,k4,⟨c4,yL,rfl,zp,NG,Nu⟩,r4,nz,D8⟩:=f228 (u:=u) hl ai (I:=sI B p 9 0 x) (fn:= .fn (.func 310) [] [.μ (B.length+1) 0,.μ B.length 0]) (P:=kg s.length (aC s.length n)) (k:=n) (N:=B.length) (M:=B.length+2) (p:=p) (F9 _ (n_ _ _)) rfl rfl
    (fun m hm=>by
     have q1:B.length+1<m:=by omega
     have q2:B.length<m:=by omega
     simp[exp,aX,Fn.below,q1,q2]) (fun l B' ⟨c,ext,h,_⟩=>by rw[h];simp[sT];omega) (f310 hl ai hp 9 0 x n) [] ⟨.nil,[],by simp;rfl,Row.nil,fun _=>rfl,by simp⟩ r3 (by omega)
   have e0:∀cs D,(B++D).set p (.cells cs)=B.set p (.cells cs)++D:=fun cs D=>nr _ _ hp;simp only[bO,e0]at k4;have ec:c4.exp 0 false=Φ l:=by
    by_cases h0:l=[]
    ·rw[NG h0,h0];rfl
    ·rcases zp with⟨_,hc⟩|⟨t,rfl,_,_⟩
     ·exact absurd (np hc) h0
     ·cases l with
      |nil=>exact absurd rfl h0
      |cons a l=>rfl
   have IB:kf u 228 [.μ p 0,.str [41],.fn (.func 310) [] [.μ (B.length+1) 0,.μ B.length 0]] {ε:=B.set p (.cells db)++[.cells [.μ p 0],.cells [.n 9,.n 0,.str x,.list .nil [],.n 0,.n 0,.str [],.list .nil [],.n 0,.n 0,.str [],.list .nil [],.list .nil [],.list .nil []]],η:=[]}=some (.aQ [],{ε:=B.set p (.cells iQ)++(θ.cells [.μ p 0]::θ.cells (sC 9 0 x c4 (l.map ξ.av) z0.four)::yL),η:=T4}):=k4;refine κ.done .normal (fun st=>K st/\st.mem= {ε:=B.set p (.cells iQ)++(θ.cells [.μ p 0]::θ.cells (sC 9 0 x c4 (l.map ξ.av) z0.four)::yL),η:=T4}) (by simp[K,h1,h2,h4,h5,h7,h8,h9,pB,rm,uV,x9,k2,k3,IB,g0,g1,gs,Mem.put,Mem.ν,ν,ba,lo]) fun s' hh=> .inr ⟨by simp,.inl ⟨rfl,fin 9 0 x c4 l z0 iQ yL T4 _ a4 s' hh r4 (fun i hi=>(D8 i hi).elim (fun h=>by cases h) id) hx Nu oJ ?_⟩⟩;rw[ec];refine aF.as (P:=fun t=>(gY s.length t).bind fun x t=>(aE s.length [40] t).bind fun _ t=>(pj s.length (kg s.length (aC s.length n)) t).map fun l=> .mk 9 0 x (Φ l) l z0 z0 .nil [] .nil []) (gD.bind (Q:=fun x t=>(aE s.length [40] t).bind fun _ t=>(pj s.length (kg s.length (aC s.length n)) t).map fun l=>δ.mk 9 0 x (Φ l) l z0 z0 .nil [] .nil []) (dV.bind (nz.map fun l:List ξ=>δ.mk 9 0 x (Φ l) l z0 z0 .nil [] .nil []))) fun st hs=>?_;simp[lT,DH st hs,uj _ b1 st hs,uj _ b2 st hs,uj _ b3 st hs,uj _ b4 st hs]
  ·have g0:∀cs L (e:List θ),(B.set p (θ.cells cs)++θ.cells [.μ p 0]::θ.cells L::e)[B.length]?=some (.cells [.μ p 0]):=fun cs L e=>by simp
   have g1:∀cs L (e:List θ),(B.set p (θ.cells cs)++θ.cells [.μ p 0]::θ.cells L::e)[B.length+1]?=some (.cells L):=fun cs L e=>by simp
   obtain⟨_,w3,db,a3,k3,r3,dV,rfl⟩:=(f226 (u:=u) (item:=IA) [59] hl ai b).at (θ.cells [.μ p 0]::θ.cells (sC k g nm cp (pl.map ξ.av) sz.four)::ext) hp m9;have hL:=ajP (k:=k) (g:=g) (nm:=nm) (cp:=cp) m12 m13;have mQ:(sC k g nm cp (pl.map ξ.av) sz.four).length=14:=by rw[hL.len,δ.lH]
   have lL:(sC k g nm cp (pl.map ξ.av) sz.four).take 14=sC k g nm cp (pl.map ξ.av) sz.four:=fo (by omega);refine κ.done .ret (fun st=>st.mem= {ε:=B.set p (.cells db)++(θ.cells [.μ p 0]::θ.cells (sC k g nm cp (pl.map ξ.av) sz.four)::ext),η:=tt}/\st.e 4= .aj 4 0 0/\st.q 4=some (0,.cells (sC k g nm cp (pl.map ξ.av) sz.four))) (by
    simp only[cG,bE]at m7
    simp[m2,m4,m5,m6,m7,m8,g0,g1,k3,mQ,lL]) fun s' ⟨q1,q2,q3⟩=>⟨by simp,_,_,db,_,tt,IA,a3,q1,m10,q2,q3,hL,⟨m11,?_,m12,m13,oJ,.inl rfl,trivial,.inl rfl,trivial⟩,r3,m14.bind (dV.map fun _=>_)⟩
   cases cp<;>first|exact .inl rfl|exact .inr rfl
 obtain⟨r,e1,e2,x,L,ah,ext,tt,d_,b,e3,e4,e5,e6,e7,e8,e9,pP⟩:=dZ;have hL:L.length=14:=by rw[e7.len,δ.lH]
 have lL:L.take 14=L:=fo (by omega);obtain⟨cF,so,T',wQ,wR,Ly⟩:=Ja (u:=u) hc (f:=297) (g:=Hv) (args:=[.str word]) (v:= .agg x.cells) rfl rfl rfl hp rfl e1 e2 (by rw[e3]) e9 (by rw[e3];exact e4) (l:=[.agg L]) (by simp[Hv,e5,e6,hL,lL]) ((Dv.agg e7).aO _ _ _) T;exact⟨_,x,cF,so,b,T',wQ,wR,pP,⟨rfl,e8⟩,Ly⟩
end
end Go.Θ.Tz
namespace Go.Θ
mutual
def Sp.cells:Sp->List AV
 | .mk f t ins=>[.int .i64 f,.int .i64 t,.list (Φ ins) (Sp.lists ins)]
def Sp.lists:List (List Sp)->List AV
 |[]=>[]
 |l::r=> .list (Φ l) (Sp.χ l)::Sp.lists r
def Sp.χ:List Sp->List AV
 |[]=>[]
 |x::l=> .agg x.cells::Sp.χ l
end
theorem CN{α:Type}(l:List α):(Φ l).exp 0 false=Φ l:=by cases l<;>rfl
mutual
theorem Sp.fx:∀x:Sp,bN x.cells x.cells
 | .mk f t ins=>by have:=Dv.list (Φ ins) (Sp.Da ins);rw[CN]at this;simp only[Sp.cells];exact .cons (.int _ _) (.cons (.int _ _) (.cons this .nil))
theorem Sp.Da:∀l:List (List Sp),bN (Sp.lists l) (Sp.lists l)
 |[]=> .nil
 |l::r=>by have:=Dv.list (Φ l) (Sp.A0 l);rw[CN]at this;simp only[Sp.lists];exact .cons this (Sp.Da r)
theorem Sp.A0:∀l:List Sp,bN (Sp.χ l) (Sp.χ l)
 |[]=> .nil
 |x::l=>by simp only[Sp.χ];exact .cons (.agg (Sp.fx x)) (Sp.A0 l)
end
theorem Sp.zG(l:List (List Sp)):Sp.lists l=l.map fun x=>AV.list (Φ x) (Sp.χ x):=by
 induction l with
 |nil=>rfl
 |cons a l ih=>simp[Sp.lists,ih]
theorem Sp.eo(l:List Sp):Sp.χ l=l.map fun x=>AV.agg x.cells:=by
 induction l with
 |nil=>rfl
 |cons a l ih=>simp[Sp.χ,ih]
namespace Tz
open Go.Θ
variable{u:Nat}
attribute [local simp] exec dY dP eX aI dw fA eN aK fL bQ iu iE iM jd lG AV.cells newVar iX rd wr gT single dk cE e_ ew κ cK RV.get cL fT kz
attribute [local simp] E5 EG L5 PO O8 ζ.ft
theorem δ.fx(x:δ):x.Ok->bN x.cells x.cells:=by
 refine δ.jR (Q:=fun x=>x.Ok->bN x.cells x.cells) (fun k g nm cp pl size to cb body ce els h1 h2 h=>?_) x;obtain⟨q1,q2,q3,q4,q5,q6,q7,q8,q9⟩:=h;have hl:∀(c:ρ) (l:List δ),bp c->(∀y∈l,y.Ok->bN y.cells y.cells)->δ.cJ l->Dv (.list c (δ.χ l)) (.list c (δ.χ l)):=fun c l hc hy ho=>by have:=Dv.list c (bN.of δ.av l fun y hm=>Dv.agg (hy y hm (δ.iB ho y hm)));rw[fR hc]at this;rw[δ.eo];exact this
 have hp:=Dv.list cp (bN.of ξ.av pl fun y hy=>ξ.fx (q3 y hy));rw[fR q2]at hp;simp only[δ.cells];exact((bN.append (.cons (.int _ _) (.cons (.int _ _) (.cons (.str _) (.cons hp .nil)))) (oR q4)).append (oR q5)).append (.cons (hl _ _ q6 h1 q7) (.cons (hl _ _ q8 h2 q9) .nil))
theorem Af{l:List δ}(h:δ.cJ l):bN (δ.χ l) (δ.χ l):=by rw[δ.eo];exact bN.of δ.av l fun y hm=>Dv.agg (δ.fx y (δ.iB h y hm))
theorem Wn(l:List (List Sp)):(Sp.lists l).all (shaped false 1)=true:=by rw[Sp.zG];simp[nj,shaped,AV.one,Function.comp]
theorem kN{α:Type}(l:List α):bp (Φ l):=by cases l<;>simp[Φ,bp]
def Eb:List δ×List Sp->AV->Prop:=fun x v=>v= .aQ [.list (Φ x.1) (δ.χ x.1),.list (Φ x.2) (Sp.χ x.2)]/\δ.cJ x.1
def hM(B:List θ)(p:Nat)(cs:List AV)(f:Int)(cp:ρ)(ins:List (List Sp))(ext:List θ):List θ:=B.set p (.cells cs)++(θ.cells [.μ p 0]::θ.cells [.n f,.n 0,.list cp (Sp.lists ins)]::ext)
section
variable{s:List Nat}{all:List Tok}{c:ρ}
theorem tX.at{α:Type}{f:FuncId}{args:List AV}{P:PS->R α}{E:α->AV->Prop}{a:RS}(h:tX u s all c f args P E a){B:List θ}(D:List θ){p:Nat}{cs:List AV}{item:AV}(hp:p<B.length)(hr:cM s all c item cs a)(T:List Nat):
  ∃v x ah d_ b T',ab (C u) (.fn (.func f) [] []) (.μ p 0::args) (kV B p cs D T)=some (v,(kV B p ah D T'))/\cM s all c d_ ah b/\aF P a x b/\E x v/\∀i∈T',i∈T\/i=p:=by
 obtain⟨v,x,ah,d_,b,T',h1,h2⟩:=h (B++D) p cs item T (by simp;omega) hr;simp only[nr _ _ hp]at h1;exact⟨v,x,ah,d_,b,T',h1,h2⟩
theorem f294{k:Nat}{P:PS->R (List δ×List Sp)}(hb:∀a:RS,a.sz<k->tX u s all c 231 [] P Eb a){B:List θ}{p:Nat}(hp:p<B.length)(f:Int)(cp:ρ)(ins:List (List Sp))(ext:List θ)(T:List Nat){cs:List AV}{item:AV}{a:RS}
  (hr:Row (B.length+2) (hM B p cs f cp ins ext) 1 257 cp ins.length) (hlen:ins.length<100) (h:cM s all c item cs a) (ha:a.sz<k):
  ∃x dU ah d_ ext' b T',ab (C u) (.fn (.func 294) [] [.μ B.length 0,.μ (B.length+1) 0]) [] {ε:=hM B p cs f cp ins ext,η:=T}=some (.list (Φ x.1) (δ.χ x.1),{ε:=hM B p ah f dU (ins++[x.2]) ext',η:=T'})∧
   Row (B.length+2) (hM B p ah f dU (ins++[x.2]) ext') 1 257 dU (ins++[x.2]).length/\cM s all c d_ ah b/\aF P a x b/\δ.cJ x.1/\∀i∈T',i∈T\/i=p\/B.length<=i:=by
 obtain⟨_,x,cU,IA,b,T1,k1,r1,gv,⟨rfl,hx⟩,ht⟩:=(hb a ha).at (θ.cells [.μ p 0]::θ.cells [.n f,.n 0,.list cp (Sp.lists ins)]::ext) hp h [];have hY:∀cs cp ins ext,hM B p cs f cp ins ext=(B.set p (.cells cs)++[θ.cells [.μ p 0],θ.cells [.n f,.n 0,.list cp (Sp.lists ins)]])++ext:=fun cs cp ins ext=>by simp[hM]
 have iT:Row (B.set p (.cells cU)++[θ.cells [.μ p 0],θ.cells [.n f,.n 0,.list cp (Sp.lists ins)]]).length ((B.set p (.cells cU)++[θ.cells [.μ p 0],θ.cells [.n f,.n 0,.list cp (Sp.lists ins)]])++ext) 1 257 cp (Sp.lists ins).length:=by rw[hY]at hr;have:=Row.swap hr (P':=B.set p (.cells cU)++[θ.cells [.μ p 0],θ.cells [.n f,.n 0,.list cp (Sp.lists ins)]]) (by simp) (by simp);rw[Sp.zG,cg,<-Sp.zG];simpa using this
 have U_:ν (.list (Φ x.2) (Sp.χ x.2))= .list (Φ x.2) (Sp.χ x.2):=(Dv.list (Φ x.2) (Sp.A0 x.2)).ν;have vJ:(Sp.lists ins).length=ins.length:=by rw[Sp.zG,cg]
 obtain⟨dU,ext',dB,tq,-⟩:=uW (bytes:=24) iT (Wn ins) (show shaped false 1 (.list (Φ x.2) (Sp.χ x.2))=true by rfl) U_ (by omega) (by rw[vJ];omega) (by rw[vJ];omega);have lR:Sp.lists (ins++[x.2])=Sp.lists ins++[.list (Φ x.2) (Sp.χ x.2)]:=by simp[Sp.zG]
 have Dq:∀T,gC {ε:=hM B p cU f cp ins ext,η:=T} false 1 24 257 (.list cp (Sp.lists ins)) (.list .full [.list (Φ x.2) (Sp.χ x.2)])=some (.list dU (Sp.lists ins++[.list (Φ x.2) (Sp.χ x.2)]),{ε:=hM B p cU f cp ins ext',η:=T}):=fun T=>by rw[hY,hY];exact dB T
 have g0:∀cs cp ins ext,(hM B p cs f cp ins ext)[B.length]?=some (.cells [.μ p 0]):=fun cs cp ins ext=>by simp[hM]
 have g1:∀cs cp ins ext,(hM B p cs f cp ins ext)[B.length+1]?=some (.cells [.n f,.n 0,.list cp (Sp.lists ins)]):=fun cs cp ins ext=>by simp[hM]
 have gs:∀cs cp ins ext dU Ol,(hM B p cs f cp ins ext).set (B.length+1) (.cells [.n f,.n 0,.list dU (Sp.lists Ol)])=hM B p cs f dU Ol ext:=fun cs cp ins ext dU Ol=>by simp[hM]
 have Ot:kf u 231 [.μ p 0] {ε:=hM B p cs f cp ins ext,η:=[]}=some (.aQ [.list (Φ x.1) (δ.χ x.1),.list (Φ x.2) (Sp.χ x.2)],{ε:=hM B p cU f cp ins ext,η:=T1}):=k1;have dX:shaped false 1 (.list (Φ x.2) (Sp.χ x.2))=true:=rfl;have DR:∀m:Mem,m.ν (.list (Φ x.2) (Sp.χ x.2))= .list (Φ x.2) (Sp.χ x.2):=fun _=>U_;have hnL:∀m:Mem,m.ν (.list dU (Sp.lists (ins++[x.2])))= .list dU (Sp.lists (ins++[x.2])):=fun _=>(Dv.list dU (Sp.Da (ins++[x.2]))).ν;rw[<-lR]at Dq;have dZ:κ (C u).gl (ab (C u)) KQ {env:=[.μ B.length 0,.μ (B.length+1) 0],loc:=[],mem:= {ε:=hM B p cs f cp ins ext,η:=[]}} fun r=>r.1= .ret/\aK r.2.env 2= .list (Φ x.1) (δ.χ x.1)/\∃tt,r.2.mem= {ε:=hM B p cU f dU (ins++[x.2]) ext',η:=tt}/\∀i∈tt,i=p\/B.length<=i:=by
  have vT:∀i∈T1,i=p\/B.length<=i:=fun i hi=>(ht i hi).elim (fun h=>by cases h) .inl;simp[KQ,g0,g1,Ot,dX,DR,Dq,hnL,gs,Mem.put];intro j hj;split at hj
  ·exact vT j hj
  ·exact(cy.1 hj).elim (fun h=> .inr (by omega)) (vT j)
 obtain⟨⟨ex,s'⟩,e1,e2,e3,tt,e4,e5⟩:=dZ;dsimp only at e2 e3 e4;subst e2;have eL:([]++[AV.μ B.length 0,.μ (B.length+1) 0]).map (exp (hM B p cs f cp ins ext).length true)=[AV.μ B.length 0,.μ (B.length+1) 0]:=by
  have q1:B.length<(hM B p cs f cp ins ext).length:=by simp[hM]
  have q2:B.length+1<(hM B p cs f cp ins ext).length:=by simp[hM]
  simp[exp,q1,q2]
 have dC:=sP (C:=C u) (f:=294) (g:=Hs) (args:=[]) (cap:=[.μ B.length 0,.μ (B.length+1) 0]) (m:= {ε:=hM B p cs f cp ins ext,η:=T}) (l:=[.list (Φ x.1) (δ.χ x.1)]) rfl rfl rfl (by rw[eL];exact e1) (by simp) (by simp[Hs,e3]);refine⟨x,dU,cU,IA,ext',b,T++tt,?_,?_,r1,gv,hx,fun i hi=>(dT.1 hi).imp id (e5 i)⟩
 ·refine dC.trans ?_;rw[e4];have:∀n,exp n true (.list (Φ x.1) (δ.χ x.1))= .list (Φ x.1) (δ.χ x.1):=fun n=>by
   have h1:aX n true (δ.χ x.1)=δ.χ x.1:=by rw[δ.eo,fe,cT];exact de fun y hy=>by simp only[Function.comp,δ.av,exp];rw[δ.S0 _ _ y (δ.iB hx y hy)]
   simp only[exp,h1];cases x.1<;>rfl
  simp only[cL,this]
 ·have:=Row.swap tq (P':=B.set p (.cells cU)++[θ.cells [.μ p 0],θ.cells [.n f,.n 0,.list dU (Sp.lists (ins++[x.2]))]]) (by simp) (by simp);rw[hY,List.length_append,<-vJ];simpa using this
variable(hl:all.length<1000000000)(ai:∀t∈all,t.Ok)(hc:bp c)
def YH:δ×Sp->AV->Prop:=fun x v=>v= .aQ [.agg x.1.cells,.agg x.2.cells]/\x.1.Ok
def Qh(s:List Nat)(all:List Tok)(c:ρ)(B:List θ)(p:Nat)(f:Int)(P:PS->R (δ×List (List Sp)))(a:RS)(st:St):Prop:=
 ∃x cs cp ins ext tt item b,st.q 4=some (0,.cells x.cells)/\x.Ok/\st.mem= {ε:=hM B p cs f cp ins ext,η:=tt}/\(cp.exp 0 false=Φ ins)/\(∀i∈tt,i=p\/B.length<=i)/\cM s all c item cs b/\aF P a (x,ins) b
include hl ai hc
theorem f271{n k:Nat}(hb:∀a:RS,a.sz<k->tX u s all c 231 [] (eA s.length (aC s.length n) k) Eb a)(a:RS)(ha:a.sz<n)(hak:a.sz<k+1):tX u s all c 271 [] (uZ s.length (iK s.length (aC s.length n) (eA s.length (aC s.length n) k))) YH a:=by
 intro B p cs item T hp h;obtain⟨tk,Px,qQ⟩:∃tk:Tok,(∀D T,kf u 291 [.μ p 0] (kV B p cs D T)=some (tk.bn,(kV B p cs D T)))/\∀st,a= .r st->tk.text=st.hd/\tk.kind=st.kd/\tk.at_=st.at_ s.length:=by obtain⟨k0,wr,rfl,hk,hh⟩:=h;refine⟨rb s all k0,fun D T=>?_,fun st ha=>by subst ha;exact OP hh.2.1⟩;have:=f291 (u:=u) (s:=s) (c:=c) (item:=item) (B++D) p (by simp;omega) k0 wr T hl;simpa only[nr _ _ hp]using this
 simp only[Tok.bn]at Px;generalize Ω:iK s.length (aC s.length n) (eA s.length (aC s.length n) k)=P;have aci:fm P:=by rw[<-Ω];exact LI _ (n_ _ _) (AT _ (n_ _ _) _)
 have dZ:κ (C u).gl (ab (C u)) RD {env:=[.μ p 0],loc:=[],mem:= {ε:=B.set p (.cells cs),η:=[]}} fun r=>(∀i,r.1≠ .exit i)/\∃x ah cp ins ext tt item b to,r.2.mem.ε=B.set p (.cells ah)++ext/\(∀i∈r.2.mem.η,i=p\/B.length<=i)∧
   aK r.2.env 2= .aj 2 0 0/\bQ r.2.loc 2=some (0,.cells x.cells)/\aK r.2.env 3= .aj 3 0 0/\bQ r.2.loc 3=some (0,.cells [.n tk.at_,.n (to:Nat),.list cp (Sp.lists ins)])/\cp.exp 0 false=Φ ins/\x.Ok/\cM s all c item ah b/\aF P a (x,ins) b/\(∀t,b= .r t->to=t.last)/\tt=r.2.mem.η:=by
  let K:St->Prop:=fun st=>st.e 1= .μ B.length 0/\st.e 2= .aj 2 0 0/\(∃z,st.q 2=some (0,.cells z)/\z.length=14)/\st.e 3= .aj 3 0 0/\(∃z,st.q 3=some (0,.cells z)/\z.length=3);refine Δ (fun st=>K st/\st.q 4=none/\st.mem= {ε:=B.set p (.cells cs)++[.cells [.μ p 0]],η:=[]}) (by simp[K,bz,Mem.push,Mem.ν,ν]) fun s1 ⟨⟨h1,h2,⟨z2,h3,fw⟩,h4,⟨z3,h5,ij⟩⟩,h6,h7⟩=>?_;let K2:St->Prop:=fun st=>K st/\st.e 4= .aj 4 0 0;refine Δ (fun st=>K2 st/\st.q 4=some (0,.cells [.n 0,.n 0,.str [],.list .nil [],.n 0,.n 0,.str [],.list .nil [],.n 0,.n 0,.str [],.list .nil [],.list .nil [],.list .nil []])/\st.mem= {ε:=B.set p (.cells cs)++[.cells [.μ p 0]],η:=[]}) (by simp[K2,K,bz,h1,h2,h3,fw,h4,h5,ij,h6,h7]) fun s1 ⟨⟨⟨h1,h2,⟨z2,h3,fw⟩,h4,⟨z3,h5,ij⟩⟩,h8⟩,h6,h7⟩=>?_;let K3:St->Prop:=fun st=>K2 st/\st.e 5= .μ (B.length+1) 0;refine Δ (fun st=>K3 st/\st.q 4=some (0,.cells [.n 0,.n 0,.str [],.list .nil [],.n 0,.n 0,.str [],.list .nil [],.n 0,.n 0,.str [],.list .nil [],.list .nil [],.list .nil []])/\st.mem= {ε:=hM B p cs tk.at_ .nil [] [],η:=[]}) (by simp[K3,K2,K,bz,h1,h2,h3,fw,h4,h5,ij,h6,h7,h8,Px,dd,Mem.push,Mem.put,Mem.ν,ν,cw,ba,lo,ρ.lo,hM,Sp.lists]) fun s1 ⟨⟨⟨⟨h1,h2,⟨z2,h3,fw⟩,h4,⟨z3,h5,ij⟩⟩,h8⟩,h9⟩,h6,h7⟩=>?_;let K4:St->Prop:=fun st=>K3 st/\st.e 6= .fn (.func 294) [] [.μ B.length 0,.μ (B.length+1) 0];refine Δ (fun st=>K4 st/\st.q 4=some (0,.cells [.n 0,.n 0,.str [],.list .nil [],.n 0,.n 0,.str [],.list .nil [],.n 0,.n 0,.str [],.list .nil [],.list .nil [],.list .nil []])/\st.mem= {ε:=hM B p cs tk.at_ .nil [] [],η:=[]}) (by simp[K4,K3,K2,K,h1,h2,h3,fw,h4,h5,ij,h6,h7,h8,h9]) fun s1 ⟨⟨⟨⟨⟨h1,h2,⟨z2,h3,fw⟩,h4,⟨z3,h5,ij⟩⟩,h8⟩,h9⟩,aw⟩,h6,h7⟩=>?_;have g0:∀cs L (e:List θ),(B.set p (θ.cells cs)++θ.cells [.μ p 0]::θ.cells L::e)[B.length]?=some (.cells [.μ p 0]):=fun cs L e=>by simp
  refine bJ (fun st=>K4 st/\Qh s all c B p tk.at_ P a st) ?_ fun s2 ⟨⟨⟨⟨⟨h1,h2,⟨z2,h3,fw⟩,h4,⟨z3,h5,ij⟩⟩,h8⟩,h9⟩,aw⟩,x,ah,cp,ins,ext,tt,d_,b,m1,m2,m3,m4,m5,m6,m7⟩=>?_
  ·refine Δ (fun st=>(K4 st/\st.q 4=some (0,.cells [.n 0,.n 0,.str [],.list .nil [],.n 0,.n 0,.str [],.list .nil [],.n 0,.n 0,.str [],.list .nil [],.list .nil [],.list .nil []])/\st.mem= {ε:=B.set p (.cells cs)++(θ.cells [.μ p 0]::θ.cells [.n tk.at_,.n 0,.list .nil (Sp.lists [])]::[]),η:=[]})/\st.e 7= .str tk.text) (by
    simp only[hM]at h7
    simp[K4,K3,K2,K,h1,h2,h3,fw,h4,h5,ij,h6,h7,h8,h9,aw,Px,g0]) fun s1 ⟨⟨⟨⟨⟨⟨h1,h2,⟨z2,h3,fw⟩,h4,⟨z3,h5,ij⟩⟩,h8⟩,h9⟩,aw⟩,h6,h7⟩,bP⟩=>?_
   refine κ.block ?_;have fin:∀(x:δ) (ah:List AV) (cp:ρ) (ins:List (List Sp)) (ext:List θ) (tt:List Nat) (d_:AV) (b:RS) (st:St),(K4 st/\st.q 4=some (0,.cells x.cells)/\st.mem= {ε:=B.set p (.cells ah)++(θ.cells [.μ p 0]::θ.cells [.n tk.at_,.n 0,.list cp (Sp.lists ins)]::ext),η:=tt})->x.Ok->cp.exp 0 false=Φ ins->(∀i∈tt,i=p\/B.length<=i)->cM s all c d_ ah b->aF P a (x,ins) b->K4 st/\Qh s all c B p tk.at_ P a st:=
    fun x ah cp ins ext tt d_ b st ⟨q1,q2,q3⟩ q4 q5 q6 q7 q8=>⟨q1,x,ah,cp,ins,ext,tt,d_,b,q2,q4,q3,q5,q6,q7,q8⟩
   have oV:∀w,a.a_ w=true->∀st,a= .r st->st.hd=w:=fun w hb st hs=>by subst hs;exact beq_iff_eq.1 hb
   have uj:∀w,a.a_ w=false->∀st,a= .r st->¬st.hd=w:=fun w hb st hs=>by subst hs;exact beq_eq_false_iff_ne.1 hb
   have qb:=fun w t hb T=>CF (u:=u) hl w (θ.cells [.μ p 0]::θ.cells [.n tk.at_,.n 0,.list .nil (Sp.lists [])]::[]) hp h t hb T;have dQ:∀(cp:ρ) (ins:List (List Sp)) (X:List θ),ins≠[]->Row (B.length+2) X 1 257 cp ins.length->cp.exp 0 false=Φ ins:=fun cp ins X φ hr=>by
    rcases hr with⟨_,h⟩|⟨t,rfl,_,_⟩
    ·exact absurd (np h) φ
    ·cases ins with
     |nil=>exact absurd rfl φ
     |cons a l=>rfl
   have Dm:∀cs,Row (B.length+2) (hM B p cs tk.at_ .nil [] []) 1 257 .nil ([]:List (List Sp)).length:=fun cs=>Row.nil;have xf:∀T1:List Nat,(∀i∈T1,i∈([]:List Nat)\/i=p\/B.length<=i)->∀i∈T1,i=p\/B.length<=i:=fun T1 h i hi=>(h i hi).elim (fun h=>by cases h) id;obtain⟨_,w1,cU,a1,k1,r1,iF,rfl⟩:=(f226 (u:=u) (item:=item) tk.text hl ai a).at (θ.cells [.μ p 0]::θ.cells [.n tk.at_,.n 0,.list .nil (Sp.lists [])]::[]) hp h;have XQ:=iF.sz (eV _ _);have uL:bp .nil:= .inl rfl;have gH:∀(cs ah:List AV) (cp:ρ) (ins:List (List Sp)) (ext:List θ),Row (B.length+2) (hM B p cs tk.at_ cp ins ext) 1 257 cp ins.length->Row (B.length+2) (hM B p ah tk.at_ cp ins ext) 1 257 cp ins.length:=fun cs ah cp ins ext h=>by
    have e:∀cs,hM B p cs tk.at_ cp ins ext=(B.set p (.cells cs)++[θ.cells [.μ p 0],θ.cells [.n tk.at_,.n 0,.list cp (Sp.lists ins)]])++ext:=fun cs=>by simp[hM]
    rw[e]at h⊢;exact Row.swap h (by simp) (by simp)
   cases b1:a.a_ [98,111,114,114,111,119]with
   |true=>
    have pB:=qb _ _ b1
    have s1:=iF.take (ub b1 (by simp));obtain⟨_,⟨nm,ik,BI,is,ic,il⟩,cF,a2,k2,r2,gD,rfl,jY,hx⟩:=(f295 (u:=u) (item:=item) (k:=n) hl ai a1 (by omega)).at (θ.cells [.μ p 0]::θ.cells [.n tk.at_,.n 0,.list .nil (Sp.lists [])]::[]) hp r1;have s2:=gD.sz (LM _ (n_ _ _));obtain⟨⟨bl,bi⟩,nZ,db,El,pS,a3,T3,k3,xz,r3,dV,eC,qc⟩:=f294 (u:=u) hb hp tk.at_ .nil [] [] [] (Dm cF) (by simp) r2 (by omega);simp only[hM,ζ.four,bE]at k2 k3;refine κ.done .normal (fun st=>K4 st/\st.q 4=some (0,.cells (δ.mk 4 0 nm .nil [] (.mk ik BI is ic il) z0 (Φ bl) bl .nil []).cells)/\st.mem= {ε:=B.set p (.cells db)++(θ.cells [.μ p 0]::θ.cells [.n tk.at_,.n 0,.list nZ (Sp.lists [bi])]::pS),η:=T3}) (by simp[K4,K3,K2,K,h1,h2,h3,fw,h4,h5,ij,h6,h7,h8,h9,aw,bP,g0,pB,k1,k2,k3,δ.cells,ζ.four,z0,ζ.χ,δ.χ]) fun s' hh=> .inr ⟨by simp,.inl ⟨rfl,fin _ _ _ _ _ _ _ _ s' hh ⟨jY,uL,by simp,hx,oJ,kN _,eC,uL,trivial⟩ (dQ _ _ _ (by simp) xz) (xf _ qc) r3 ?_⟩⟩;rw[<-Ω];refine aF.as (P:=fun t=>(aE s.length tk.text t).bind fun _ t=>(uY s.length (aC s.length n) t).bind fun x t=>(eA s.length (aC s.length n) k t).map fun b=>(δ.mk 4 0 x.1 .nil [] x.2 z0 (Φ b.1) b.1 .nil [],[b.2])) (iF.bind (gD.bind (Q:=fun x t=>(eA s.length (aC s.length n) k t).map fun b=>(δ.mk 4 0 x.1 .nil [] x.2 z0 (Φ b.1) b.1 .nil [],[b.2])) (dV.map fun b=>(δ.mk 4 0 nm .nil [] (.mk ik BI is ic il) z0 (Φ b.1) b.1 .nil [],[b.2])))) fun st hs=>?_;have e1:=oV _ b1 st hs;have e3:=(qQ st hs).1;rw[e1]at e3;simp[iK,e1,e3]
   |false=>
   have pB:=qb _ _ b1
   cases b2:a.a_ [105,102]with
   |true=>
    have rm:=qb _ _ b2
    have s1:=iF.take (ub b2 (by simp));obtain⟨_,nm,cF,a2,k2,r2,gD,rfl,jY⟩:=(f227 (u:=u) (item:=item) hl ai a1).at (θ.cells [.μ p 0]::θ.cells [.n tk.at_,.n 0,.list .nil (Sp.lists [])]::[]) hp r1;have s2:=gD.sz (oa _);obtain⟨⟨nW,lY⟩,nZ,db,El,pS,a3,T3,k3,xz,r3,dV,yU,qc⟩:=f294 (u:=u) hb hp tk.at_ .nil [] [] [] (Dm cF) (by simp) r2 (by omega);have s3:=dV.sz (AT _ (n_ _ _) _);simp only[hM,bE]at k3;cases b3:a3.a_ [101,108,115,101]with
    |true=>
     have qe:=fun T=>CF (u:=u) hl [101,108,115,101] (θ.cells [.μ p 0]::θ.cells [.n tk.at_,.n 0,.list nZ (Sp.lists [lY])]::pS) hp r3 _ b3 T
     obtain⟨_,w4,iQ,a4,k4,r4,nz,rfl⟩:=(f226 (u:=u) (item:=El) [101,108,115,101] hl ai a3).at (θ.cells [.μ p 0]::θ.cells [.n tk.at_,.n 0,.list nZ (Sp.lists [lY])]::pS) hp r3;have s4:=nz.sz (eV _ _);have zp:Row (B.length+2) (hM B p iQ tk.at_ nZ [lY] pS) 1 257 nZ [lY].length:=gH _ _ _ _ _ xz;obtain⟨⟨CG,KA⟩,Lp,vg,VC,LV,a5,T5,k5,NS,r5,xa,Dt,D9⟩:=f294 (u:=u) hb hp tk.at_ nZ [lY] pS T3 zp (by simp) r4 (by omega);simp only[hM,cG,bE]at k5;refine κ.done .normal (fun st=>K4 st/\st.q 4=some (0,.cells (δ.mk 7 0 nm .nil [] z0 z0 (Φ nW) nW (Φ CG) CG).cells)/\st.mem= {ε:=B.set p (.cells vg)++(θ.cells [.μ p 0]::θ.cells [.n tk.at_,.n 0,.list Lp (Sp.lists [lY,KA])]::LV),η:=T5}) (by simp[K4,K3,K2,K,h1,h2,h3,fw,h4,h5,ij,h6,h7,h8,h9,aw,bP,g0,pB,rm,k1,k2,k3,qe,k4,k5,δ.cells,ζ.four,z0,ζ.χ,δ.χ]) fun s' hh=> .inr ⟨by simp,.inl ⟨rfl,fin _ _ _ _ _ _ _ _ s' hh ⟨jY,uL,by simp,oJ,oJ,kN _,yU,kN _,Dt⟩ (dQ _ _ _ (by simp) NS) (fun i hi=>(D9 i hi).elim (xf _ qc i) id) r5 ?_⟩⟩;rw[<-Ω];refine aF.as (P:=fun t=>(aE s.length tk.text t).bind fun _ t=>(gY s.length t).bind (fun nn t=>(eA s.length (aC s.length n) k t).bind (fun b t=>if t.a_ [101,108,115,101]then(aE s.length [101,108,115,101] t).bind fun _ t=>(eA s.length (aC s.length n) k t).map fun d=>(δ.mk 7 0 nn .nil [] z0 z0 (Φ b.1) b.1 (Φ d.1) d.1,[b.2,d.2])else .ok (δ.mk 7 0 nn .nil [] z0 z0 (Φ b.1) b.1 .nil [],[b.2]) t))) (iF.bind (Q:=fun _ t=>(gY s.length t).bind (fun nn t=>(eA s.length (aC s.length n) k t).bind (fun b t=>if t.a_ [101,108,115,101]then(aE s.length [101,108,115,101] t).bind fun _ t=>(eA s.length (aC s.length n) k t).map fun d=>(δ.mk 7 0 nn .nil [] z0 z0 (Φ b.1) b.1 (Φ d.1) d.1,[b.2,d.2])else .ok (δ.mk 7 0 nn .nil [] z0 z0 (Φ b.1) b.1 .nil [],[b.2]) t))) (gD.bind (Q:=fun nn t=>(eA s.length (aC s.length n) k t).bind (fun b t=>if t.a_ [101,108,115,101]then(aE s.length [101,108,115,101] t).bind fun _ t=>(eA s.length (aC s.length n) k t).map fun d=>(δ.mk 7 0 nn .nil [] z0 z0 (Φ b.1) b.1 (Φ d.1) d.1,[b.2,d.2])else .ok (δ.mk 7 0 nn .nil [] z0 z0 (Φ b.1) b.1 .nil [],[b.2]) t)) (dV.bind (Q:=fun b t=>if t.a_ [101,108,115,101]then(aE s.length [101,108,115,101] t).bind fun _ t=>(eA s.length (aC s.length n) k t).map fun d=>(δ.mk 7 0 nm .nil [] z0 z0 (Φ b.1) b.1 (Φ d.1) d.1,[b.2,d.2])else .ok (δ.mk 7 0 nm .nil [] z0 z0 (Φ b.1) b.1 .nil [],[b.2]) t) (aF.as (P:=fun t=>(aE s.length [101,108,115,101] t).bind fun _ t=>(eA s.length (aC s.length n) k t).map fun d=>(δ.mk 7 0 nm .nil [] z0 z0 (Φ nW) nW (Φ d.1) d.1,[lY,d.2])) (nz.bind (xa.map fun d=>(δ.mk 7 0 nm .nil [] z0 z0 (Φ nW) nW (Φ d.1) d.1,[lY,d.2]))) fun st hs=>by subst hs;exact if_pos b3)))) fun st hs=>?_;have e1:=oV _ b2 st hs;have e3:=(qQ st hs).1;rw[e1]at e3;simp[iK,e1,e3]
    |false=>
     have qe:=fun T=>CF (u:=u) hl [101,108,115,101] (θ.cells [.μ p 0]::θ.cells [.n tk.at_,.n 0,.list nZ (Sp.lists [lY])]::pS) hp r3 _ b3 T
     refine κ.done .normal (fun st=>K4 st/\st.q 4=some (0,.cells (δ.mk 7 0 nm .nil [] z0 z0 (Φ nW) nW .nil []).cells)/\st.mem= {ε:=B.set p (.cells db)++(θ.cells [.μ p 0]::θ.cells [.n tk.at_,.n 0,.list nZ (Sp.lists [lY])]::pS),η:=T3}) (by simp[K4,K3,K2,K,h1,h2,h3,fw,h4,h5,ij,h6,h7,h8,h9,aw,bP,g0,pB,rm,k1,k2,k3,qe,δ.cells,ζ.four,z0,ζ.χ,δ.χ]) fun s' hh=> .inr ⟨by simp,.inl ⟨rfl,fin _ _ _ _ _ _ _ _ s' hh ⟨jY,uL,by simp,oJ,oJ,kN _,yU,uL,trivial⟩ (dQ _ _ _ (by simp) xz) (xf _ qc) r3 ?_⟩⟩;rw[<-Ω];refine aF.as (P:=fun t=>(aE s.length tk.text t).bind fun _ t=>(gY s.length t).bind (fun nn t=>(eA s.length (aC s.length n) k t).bind (fun b t=>if t.a_ [101,108,115,101]then(aE s.length [101,108,115,101] t).bind fun _ t=>(eA s.length (aC s.length n) k t).map fun d=>(δ.mk 7 0 nn .nil [] z0 z0 (Φ b.1) b.1 (Φ d.1) d.1,[b.2,d.2])else .ok (δ.mk 7 0 nn .nil [] z0 z0 (Φ b.1) b.1 .nil [],[b.2]) t))) (iF.bind (Q:=fun _ t=>(gY s.length t).bind (fun nn t=>(eA s.length (aC s.length n) k t).bind (fun b t=>if t.a_ [101,108,115,101]then(aE s.length [101,108,115,101] t).bind fun _ t=>(eA s.length (aC s.length n) k t).map fun d=>(δ.mk 7 0 nn .nil [] z0 z0 (Φ b.1) b.1 (Φ d.1) d.1,[b.2,d.2])else .ok (δ.mk 7 0 nn .nil [] z0 z0 (Φ b.1) b.1 .nil [],[b.2]) t))) (gD.bind (Q:=fun nn t=>(eA s.length (aC s.length n) k t).bind (fun b t=>if t.a_ [101,108,115,101]then(aE s.length [101,108,115,101] t).bind fun _ t=>(eA s.length (aC s.length n) k t).map fun d=>(δ.mk 7 0 nn .nil [] z0 z0 (Φ b.1) b.1 (Φ d.1) d.1,[b.2,d.2])else .ok (δ.mk 7 0 nn .nil [] z0 z0 (Φ b.1) b.1 .nil [],[b.2]) t)) (dV.bind (Q:=fun b t=>if t.a_ [101,108,115,101]then(aE s.length [101,108,115,101] t).bind fun _ t=>(eA s.length (aC s.length n) k t).map fun d=>(δ.mk 7 0 nm .nil [] z0 z0 (Φ b.1) b.1 (Φ d.1) d.1,[b.2,d.2])else .ok (δ.mk 7 0 nm .nil [] z0 z0 (Φ b.1) b.1 .nil [],[b.2]) t) (aF.as (aF.pure _ _) fun st hs=>by subst hs;exact if_neg (by rw[show PS.a_ st [101,108,115,101]=false from b3];simp))))) fun st hs=>?_;have e1:=oV _ b2 st hs;have e3:=(qQ st hs).1;rw[e1]at e3;simp[iK,e1,e3]
   |false=>
   have rm:=qb _ _ b2
   cases b3:a.a_ [102,111,114]with
   |true=>
    have uV:=qb _ _ b3
    have s1:=iF.take (ub b3 (by simp));obtain⟨_,nm,cF,a2,k2,r2,gD,rfl,jY⟩:=(f227 (u:=u) (item:=item) hl ai a1).at (θ.cells [.μ p 0]::θ.cells [.n tk.at_,.n 0,.list .nil (Sp.lists [])]::[]) hp r1;have s2:=gD.sz (oa _);obtain⟨_,w3,db,a3,k3,r3,dV,rfl⟩:=(f226 (u:=u) (item:=item) [61] hl ai a2).at (θ.cells [.μ p 0]::θ.cells [.n tk.at_,.n 0,.list .nil (Sp.lists [])]::[]) hp r2;have s3:=dV.sz (eV _ _);obtain⟨_,⟨ik,BI,is,ic,il⟩,iQ,a4,k4,r4,nz,rfl,hx⟩:=(BH (u:=u) (item:=item) hl ai n a3 (by omega)).at (θ.cells [.μ p 0]::θ.cells [.n tk.at_,.n 0,.list .nil (Sp.lists [])]::[]) hp r3;have s4:=nz.sz (n_ _ _);obtain⟨_,w5,vg,a5,k5,r5,xa,rfl⟩:=(f226 (u:=u) (item:=item) [58] hl ai a4).at (θ.cells [.μ p 0]::θ.cells [.n tk.at_,.n 0,.list .nil (Sp.lists [])]::[]) hp r4;have s5:=xa.sz (eV _ _);obtain⟨_,⟨jk,jn,js,jc,jl⟩,CU,a6,k6,r6,TN,rfl,hy⟩:=(BH (u:=u) (item:=item) hl ai n a5 (by omega)).at (θ.cells [.μ p 0]::θ.cells [.n tk.at_,.n 0,.list .nil (Sp.lists [])]::[]) hp r5;have s6:=TN.sz (n_ _ _);obtain⟨⟨QJ,Zu⟩,cp7,cs7,aln,abh,a7,T7,k7,hr7,r7,gv7,ab3,ht7⟩:=f294 (u:=u) hb hp tk.at_ .nil [] [] [] (Dm CU) (by simp) r6 (by omega);simp only[hM,ζ.four,bE]at k4 k6 k7;refine κ.done .normal (fun st=>K4 st/\st.q 4=some (0,.cells (δ.mk 8 0 nm .nil [] (.mk ik BI is ic il) (.mk jk jn js jc jl) (Φ QJ) QJ .nil []).cells)/\st.mem= {ε:=B.set p (.cells cs7)++(θ.cells [.μ p 0]::θ.cells [.n tk.at_,.n 0,.list cp7 (Sp.lists [Zu])]::abh),η:=T7}) (by simp[K4,K3,K2,K,h1,h2,h3,fw,h4,h5,ij,h6,h7,h8,h9,aw,bP,g0,pB,rm,uV,k1,k2,k3,k4,k5,k6,k7,δ.cells,ζ.four,z0,ζ.χ,δ.χ]) fun s' hh=> .inr ⟨by simp,.inl ⟨rfl,fin _ _ _ _ _ _ _ _ s' hh ⟨jY,uL,by simp,hx,hy,kN _,ab3,uL,trivial⟩ (dQ _ _ _ (by simp) hr7) (xf _ ht7) r7 ?_⟩⟩;rw[<-Ω];refine aF.as (P:=fun t=>(aE s.length tk.text t).bind fun _ t=>(gY s.length t).bind fun n' t=>(aE s.length [61] t).bind fun _ t=>(aC s.length n t).bind fun x t=>(aE s.length [58] t).bind fun _ t=>(aC s.length n t).bind fun y t=>(eA s.length (aC s.length n) k t).map fun b=>(δ.mk 8 0 n' .nil [] x y (Φ b.1) b.1 .nil [],[b.2])) (iF.bind (gD.bind (Q:=fun n' t=>(aE s.length [61] t).bind fun _ t=>(aC s.length n t).bind fun x t=>(aE s.length [58] t).bind fun _ t=>(aC s.length n t).bind fun y t=>(eA s.length (aC s.length n) k t).map fun b=>(δ.mk 8 0 n' .nil [] x y (Φ b.1) b.1 .nil [],[b.2])) (dV.bind (nz.bind (Q:=fun x t=>(aE s.length [58] t).bind fun _ t=>(aC s.length n t).bind fun y t=>(eA s.length (aC s.length n) k t).map fun b=>(δ.mk 8 0 nm .nil [] x y (Φ b.1) b.1 .nil [],[b.2])) (xa.bind (TN.bind (Q:=fun y t=>(eA s.length (aC s.length n) k t).map fun b=>(δ.mk 8 0 nm .nil [] (.mk ik BI is ic il) y (Φ b.1) b.1 .nil [],[b.2])) (gv7.map fun b=>(δ.mk 8 0 nm .nil [] (.mk ik BI is ic il) (.mk jk jn js jc jl) (Φ b.1) b.1 .nil [],[b.2])))))))) fun st hs=>?_;have e1:=oV _ b3 st hs;have e3:=(qQ st hs).1;rw[e1]at e3;simp[iK,e1,e3]
   |false=>
   have uV:=qb _ _ b3
   cases b4:a.a_ [117,110,100,111]with
   |true=>
    have x9:=qb _ _ b4
    have s1:=iF.take (ub b4 (by simp));obtain⟨⟨nW,lY⟩,nZ,db,El,pS,a3,T3,k3,xz,r3,dV,yU,qc⟩:=f294 (u:=u) hb hp tk.at_ .nil [] [] [] (Dm cU) (by simp) r1 (by omega);simp only[hM,bE]at k3;refine κ.done .normal (fun st=>K4 st/\st.q 4=some (0,.cells (δ.mk 10 0 [] .nil [] z0 z0 (Φ nW) nW .nil []).cells)/\st.mem= {ε:=B.set p (.cells db)++(θ.cells [.μ p 0]::θ.cells [.n tk.at_,.n 0,.list nZ (Sp.lists [lY])]::pS),η:=T3}) (by simp[K4,K3,K2,K,h1,h2,h3,fw,h4,h5,ij,h6,h7,h8,h9,aw,bP,g0,pB,rm,uV,x9,k1,k3,δ.cells,ζ.four,z0,ζ.χ,δ.χ]) fun s' hh=> .inr ⟨by simp,.inl ⟨rfl,fin _ _ _ _ _ _ _ _ s' hh ⟨zP,uL,by simp,oJ,oJ,kN _,yU,uL,trivial⟩ (dQ _ _ _ (by simp) xz) (xf _ qc) r3 ?_⟩⟩;rw[<-Ω];refine aF.as (P:=fun t=>(aE s.length tk.text t).bind fun _ t=>(eA s.length (aC s.length n) k t).map fun b=>(δ.mk 10 0 [] .nil [] z0 z0 (Φ b.1) b.1 .nil [],[b.2])) (iF.bind (dV.map fun b=>(δ.mk 10 0 [] .nil [] z0 z0 (Φ b.1) b.1 .nil [],[b.2]))) fun st hs=>?_;have e1:=oV _ b4 st hs;have e3:=(qQ st hs).1;rw[e1]at e3;simp[iK,e1,e3]
   |false=>
   have x9:=qb _ _ b4
   cases b5:a.a_ [119,105,116,104,105,110]with
   |true=>
    have Pz:=qb _ _ b5
    have s1:=iF.take (ub b5 (by simp));obtain⟨⟨nW,lY⟩,nZ,db,El,pS,a3,T3,k3,xz,r3,dV,yU,qc⟩:=f294 (u:=u) hb hp tk.at_ .nil [] [] [] (Dm cU) (by simp) r1 (by omega);have s3:=dV.sz (AT _ (n_ _ _) _);obtain⟨_,w4,iQ,a4,k4,r4,nz,rfl⟩:=(f226 (u:=u) (item:=El) [97,112,112,108,121] hl ai a3).at (θ.cells [.μ p 0]::θ.cells [.n tk.at_,.n 0,.list nZ (Sp.lists [lY])]::pS) hp r3;have s4:=nz.sz (eV _ _);have zp:Row (B.length+2) (hM B p iQ tk.at_ nZ [lY] pS) 1 257 nZ [lY].length:=gH _ _ _ _ _ xz;obtain⟨⟨CG,KA⟩,Lp,vg,VC,LV,a5,T5,k5,NS,r5,xa,Dt,D9⟩:=f294 (u:=u) hb hp tk.at_ nZ [lY] pS T3 zp (by simp) r4 (by omega);simp only[hM,cG,bE]at k3 k5;refine κ.done .normal (fun st=>K4 st/\st.q 4=some (0,.cells (δ.mk 11 0 [] .nil [] z0 z0 (Φ nW) nW (Φ CG) CG).cells)/\st.mem= {ε:=B.set p (.cells vg)++(θ.cells [.μ p 0]::θ.cells [.n tk.at_,.n 0,.list Lp (Sp.lists [lY,KA])]::LV),η:=T5}) (by simp[K4,K3,K2,K,h1,h2,h3,fw,h4,h5,ij,h6,h7,h8,h9,aw,bP,g0,pB,rm,uV,x9,Pz,k1,k3,k4,k5,δ.cells,ζ.four,z0,ζ.χ,δ.χ]) fun s' hh=> .inr ⟨by simp,.inl ⟨rfl,fin _ _ _ _ _ _ _ _ s' hh ⟨zP,uL,by simp,oJ,oJ,kN _,yU,kN _,Dt⟩ (dQ _ _ _ (by simp) NS) (fun i hi=>(D9 i hi).elim (xf _ qc i) id) r5 ?_⟩⟩;rw[<-Ω];refine aF.as (P:=fun t=>(aE s.length tk.text t).bind fun _ t=>(eA s.length (aC s.length n) k t).bind fun b t=>(aE s.length [97,112,112,108,121] t).bind fun _ t=>(eA s.length (aC s.length n) k t).map fun d=>(δ.mk 11 0 [] .nil [] z0 z0 (Φ b.1) b.1 (Φ d.1) d.1,[b.2,d.2])) (iF.bind (dV.bind (Q:=fun b t=>(aE s.length [97,112,112,108,121] t).bind fun _ t=>(eA s.length (aC s.length n) k t).map fun d=>(δ.mk 11 0 [] .nil [] z0 z0 (Φ b.1) b.1 (Φ d.1) d.1,[b.2,d.2])) (nz.bind (xa.map fun d=>(δ.mk 11 0 [] .nil [] z0 z0 (Φ nW) nW (Φ d.1) d.1,[lY,d.2]))))) fun st hs=>?_;have e1:=oV _ b5 st hs;have e3:=(qQ st hs).1;rw[e1]at e3;simp[iK,e1,e3]
   |false=>
   have Pz:=qb _ _ b5
   obtain⟨_,x,cF,so,a2,T2,k2,r2,gD,⟨rfl,hx⟩,ht2⟩:=(f297 (u:=u) hl ai hc a ha tk.text fun st hs=>(qQ st hs).1).at (θ.cells [.μ p 0]::θ.cells [.n tk.at_,.n 0,.list .nil (Sp.lists [])]::[]) hp h [];have sk:=δ.lH x;have BG:x.cells.take 14=x.cells:=fo (by omega);refine κ.done .normal (fun st=>K4 st/\st.q 4=some (0,.cells x.cells)/\st.mem= {ε:=B.set p (.cells cF)++(θ.cells [.μ p 0]::θ.cells [.n tk.at_,.n 0,.list .nil (Sp.lists [])]::[]),η:=T2}) (by simp[K4,K3,K2,K,h1,h2,h3,fw,h4,h5,ij,h6,h7,h8,h9,aw,bP,g0,pB,rm,uV,x9,Pz,k2,sk,BG]) fun s' hh=> .inr ⟨by simp,.inl ⟨rfl,fin _ _ _ _ _ _ _ _ s' hh hx rfl (fun i hi=>(ht2 i hi).elim (fun h=>by cases h) .inl) r2 ?_⟩⟩;rw[<-Ω];refine aF.as (P:=fun t=>(Ae s.length (aC s.length n) t).map fun x=>(x,[])) (gD.map fun x=>(x,[])) fun st hs=>?_;simp[iK,uj _ b1 st hs,uj _ b2 st hs,uj _ b3 st hs,uj _ b4 st hs,uj _ b5 st hs]
  ·have sk:=δ.lH x;have BG:x.cells.take 14=x.cells:=fo (by omega);obtain⟨k1,Fg,rfl,pZ,hh⟩:=m6;generalize jm:[AV.str s,.list c (all.map Tok.bn),.n k1,.n Fg,d_]=cU;have Ub:cM s all c d_ cU b:=⟨k1,Fg,jm.symm,pZ,hh⟩;have gp:∀D,(B.set p (θ.cells cU)++D)[p]?=some (.cells [.str s,.list c (all.map Tok.bn),.n k1,.n Fg,d_]):=fun D=>by rw[List.getElem?_append_left (by simpa using hp),jm];simp[hp]
   have g1:∀L (e:List θ),(B.set p (θ.cells cU)++θ.cells [.μ p 0]::θ.cells L::e)[B.length+1]?=some (.cells L):=fun L e=>by simp
   have gs:∀L L' (e:List θ),(B.set p (θ.cells cU)++θ.cells [.μ p 0]::θ.cells L::e).set (B.length+1) (.cells L')=B.set p (θ.cells cU)++θ.cells [.μ p 0]::θ.cells L'::e:=fun L L' e=>by simp
   rw[jm]at m3;simp only[hM]at m3;cases b with
   |w w=>
    have hw:¬Fg<0:=by have:Fg=(w:Int):=hh;omega
    refine κ.done .ret (fun st=>st.mem= {ε:=B.set p (.cells cU)++(θ.cells [.μ p 0]::θ.cells [.n tk.at_,.n 0,.list cp (Sp.lists ins)]::ext),η:=tt}/\st.e 2= .aj 2 0 0/\st.q 2=some (0,.cells x.cells)/\st.e 3= .aj 3 0 0/\st.q 3=some (0,.cells [.n tk.at_,.n 0,.list cp (Sp.lists ins)])) (by simp[h1,h2,h3,fw,h4,h5,ij,h8,h9,m1,m3,g0,g1,gp,hw,sk,BG,cN,cQ,ob]) fun s' ⟨q1,q2,q3,q4,q5⟩=>⟨by simp,x,cU,cp,ins,_,tt,d_,_,0,by rw[q1],by rw[q1];exact m5,q2,q3,q4,q5,m4,m2,Ub,m7,(fun t ht=>by cases ht),by rw[q1]⟩
   |r t=>
    obtain⟨rfl,hd,Ie⟩:=hh
    have jQ:0<k1:=by
     cases a with
     |w w=>cases m7
     |r nP=>
      simp only[aF]at m7
      cases pa:P nP with
      |no w=>rw[pa]at m7;cases m7
      |ok y t'=>
       rw[pa]at m7
       obtain⟨_,vT⟩:=m7;cases vT;have h7:=aci _ _ _ pa;have h8:=h.sz;have h9:=congrArg lC hd;simp only[k_,RS.sz]at h8 h9;omega
    obtain⟨j,rfl⟩:∃j,k1=j+1:=⟨k1-1,by omega⟩;have hj:j<all.length:=by omega
    have hjt:all[j]?=some all[j]:=List.getElem?_eq_getElem hj;rw[We hjt]at Ie;have sg:bC .i64 ((j:Int)+1-1)=(j:Int):=by rw[wrap_i64 (by omega) (by omega)];omega
    have zu:bC .i64 (j:Int)=(j:Int):=wrap_i64 (by omega) (by omega);have xx:=(ai all[j] (List.getElem_mem hj)).pos;have mf:bC .i64 ((all[j].at_:Int)+all[j].text.length)=(t.last:Int):=by rw[wrap_i64 (by omega) (by omega)];omega
    refine κ.done .ret (fun st=>st.mem= {ε:=B.set p (.cells cU)++(θ.cells [.μ p 0]::θ.cells [.n tk.at_,.n t.last,.list cp (Sp.lists ins)]::ext),η:=tt}/\st.e 2= .aj 2 0 0/\st.q 2=some (0,.cells x.cells)/\st.e 3= .aj 3 0 0/\st.q 3=some (0,.cells [.n tk.at_,.n t.last,.list cp (Sp.lists ins)])) (by
     simp[h1,h2,h3,fw,h4,h5,ij,h8,h9,m1,m3,g0,g1,gs,gp,zu,mf,hj,Tok.bn,bz,sk,BG,cN,nY,cQ,ob,Mem.put,Mem.ν,ν,ba,lo]
     ) fun s' ⟨q1,q2,q3,q4,q5⟩=>⟨by simp,x,cU,cp,ins,_,tt,d_,_,t.last,by rw[q1],by rw[q1];exact m5,q2,q3,q4,q5,m4,m2,Ub,m7,(fun t' ht=>by cases ht;rfl),by rw[q1]⟩
 obtain⟨r,e1,e2,x,ah,cp,ins,ext,tt,d_,b,to,e3,e4,e5,e6,e7,e8,e9,pP,wQ,wR,Ly,-⟩:=dZ;have hL:x.cells.length=14:=δ.lH x;have lL:x.cells.take 14=x.cells:=fo (by omega);have hv:Dv (.aQ [.agg x.cells,.agg [.n tk.at_,.n to,.list cp (Sp.lists ins)]]) (.aQ [.agg x.cells,.agg (Sp.mk tk.at_ to ins).cells]):=by have:=Dv.list cp (Sp.Da ins);rw[e9]at this;simp only[Sp.cells];exact .aQ (.cons (.agg (δ.fx x pP)) (.cons (.agg (.cons (.int _ _) (.cons (.int _ _) (.cons this .nil)))) .nil))
 obtain⟨cF,so,T',CX,CY,CZ⟩:=Ja (u:=u) hc (f:=271) (g:=Hk) (args:=[]) (v:= .aQ [.agg x.cells,.agg (Sp.mk tk.at_ to ins).cells]) rfl rfl rfl hp rfl e1 e2 e3 wQ e4 (l:=[.agg x.cells,.agg [.n tk.at_,.n to,.list cp (Sp.lists ins)]]) (by simp[Hk,e5,e6,e7,e8,hL,lL]) (hv.aO _ _ _) T;refine⟨_,(x,.mk tk.at_ to ins),cF,so,b,T',CX,CY,?_,⟨rfl,pP⟩,CZ⟩;cases a with
 |w w=>exact wR
 |r st=>
  simp only[aF,uZ]at wR⊢
  cases hp:P st with
  |no w=>rw[hp]at wR;exact wR
  |ok y t=>
   rw[hp]at wR
   obtain⟨rfl,rfl⟩:=wR;simp only[R.bind,and_true];rw[(qQ st rfl).2.2,Ly t rfl]
end
end Tz
end Go.Θ
