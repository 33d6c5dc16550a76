import Derived.Test.YtiigojkfojnedaaGreatDoorSOa
import Derived.Test.YtiigojkfojnedaaGreatDoorSHw
import Derived.Test.YtiigojkfojnedaaGreatDoorSNa
import Derived.Test.YtiigojkfojnedaaGreatDoorSMm
set_option linter.all false
set_option maxRecDepth 100000
set_option maxHeartbeats 8000000
open List renaming mem_map->eP,nil_append->bE,getElem_of_mem->u_,mem_append->dT,mem_singleton->fU,length_map->cg,length_append->cI,length_nil->eO,length_cons->cD,all_eq_true->dO,mem_cons->cy,map_cons->az,map_nil->aJ,getElem_mem->c_,length_drop->k_,drop_eq_getElem_cons->nk,drop_eq_nil_of_le->Fl,append_nil->dF,not_mem_nil->lE,getElem?_map->lB,getElem?_eq_getElem->dn,map_append->kr,mem_map_of_mem->Ke,getElem?_eq_some_iff->fB
open Prod.mk renaming injEq->aA
open Bool renaming and_eq_true->ej,or_eq_true->ya,not_eq_true'->Ao,and_self->wD
open Nat renaming le_refl->bS,mul_le_mul_right->mD,blt->qv,blt_eq->alR,lt_or_ge->da,add_assoc->rz,zero_le->tY
open Go.IntKind renaming wrap->bC
open Prod renaming snd->alS
open Int renaming cast_ofNat_Int->wF
namespace Go.Θ.Tz
open Go.Θ
theorem cZ.can{ts:List (List Nat)}{k:Nat}{i:ζ}(h:cZ ts k i)(ht:∀t∈ts,dc t=true):i.Can:=by
 induction h with
 |fix h1 h2=>exact .fix h1 h2
 |dS h=>exact .dS (ht _ h)
 |bin h0 h1 h2 ha hb dM gx=>exact .bin h1 h2 dM gx
theorem bU.named{fr:Nat}{s:Sc}(h:bU fr s):(∀t∈s.aB,dc t=true)/\(∀t∈s.cA,dc t=true)/\(∀t∈s.bits,dc t=true)/\(∀t∈s.turns,dc t=true):=by
 have h1:∀t∈s.aB,dc t=true:=fun t ht=>by obtain⟨a,i,h1,-,rfl⟩:=h.aB t ht;exact pz a i (by omega) (by omega)
 refine⟨h1,fun t ht=>h1 t (h.cA t ht),fun t ht=>?_,fun t ht=>?_⟩
 ·obtain⟨i,-,rfl⟩:=h.bits t ht;exact pz 98 i (by omega) (by omega)
 ·obtain⟨i,-,rfl⟩:=h.turns t ht;exact pz 105 i (by omega) (by omega)
theorem f_.can{fr:Nat}{s:Sc}(hs:bU fr s){p:ξ}(h:f_ s.aB s.turns p):p.Can:=
 ⟨hs.named.1 _ h.nm,by rw[h.cp];cases p.ix<;>rfl,h.len,fun x hx=>(h.pn x hx).can hs.named.2.2.2⟩
section
variable{bB:List (List Nat×Nat)}(cX:∀nm k,(nm,k)∈bB->dc nm=true)
include cX
mutual
theorem eZ.can{d fr ax:Nat}{s s':Sc}{x:δ}(h:eZ bB d fr s x ax s')(hs:bU fr s):x.Can:=by
 match h with
 | .gate (pl:=pl) h1 h2 h3 h4 hc=>
  have:pl≠[]:=fun e=>by rw[e]at h3;have:=(Dh h1 h2).2.2.1;simp at h3;omega
  have mS:Φ pl= .any:=by cases pl<;>first|exact absurd rfl this|rfl
  rw[hc,mS];exact .gate h1 h2 h3 fun p hp=>(h4 p hp).can hs
 | .take h1=>exact .take (pz 113 _ (by omega) (by omega)) (h1.can hs.named.2.2.2)
 | .drop h1=>exact .drop (hs.named.2.1 _ h1)
 | .borrow hd h1 h2 hc hn=>rw[hn];exact .borrow (pz 114 _ (by omega) (by omega)) (h1.can hs.named.2.2.2) (aR.can h2 hs.ml.inner)
 | .measure h1 h2=>
  refine .measure ?_ (h1.can hs)
  rcases h2 with rfl|h2
  ·exact pz 98 _ (by omega) (by omega)
  ·exact hs.named.2.2.1 _ h2
 | .reset h1=>exact .reset (h1.can hs)
 | .cond hd h1 h2 h3 hc hn gX gF=>rw[hn,gF];exact .cond (hs.named.2.2.1 _ h1) (aR.can h2 hs.inner) (aR.can h3 (hs.inner.mono (aR.le h2)))
 | .loop hd h1 h2 h3 hc hn=>rw[hn];exact .loop (pz 105 _ (by omega) (by omega)) (h1.can hs.named.2.2.2) (h2.can hs.named.2.2.2) (aR.can h3 hs.dS.inner)
 | .call h1 h2 h3 hc=>rw[hc];exact .call (cX _ _ h1) fun p hp=>(h3 p hp).can hs
 | .qp hd h2 hc hn=>rw[hn];exact .qp (aR.can h2 hs.inner)
 | .within hd h2 h3 hc hn gX gF=>rw[hn,gF];exact .within (aR.can h2 hs.inner) (aR.can h3 (hs.inner.mono (aR.le h2)))
theorem aR.can{d fr ax:Nat}{s:Sc}{l:List δ}(h:aR bB d fr s l ax)(hs:bU fr s):δ.jW l:=by
 match h with
 | .nil=>exact .nil
 | .cons h1 h2=>exact .cons (eZ.can h1 hs) (aR.can h2 (h1.sc hs))
end
end
theorem Po{l:List τ}{fr:Nat}(h:gS l fr):∀nm k,(nm,k)∈ly l->dc nm=true:=by intro nm k hk;obtain⟨x,hx,e⟩:=eP.1 hk;obtain⟨i,-,-,h3⟩:=h.names x hx;rw[aA]at e;rw[<-e.1,h3];exact pz 112 i (by omega) (by omega)
theorem nU.scope{bB:List (List Nat×Nat)}{fr ax:Nat}{x:τ}(h:nU bB fr ax x)(hf:ax<=675):bU (fr+1+x.au.length) ⟨x.au.map ak.name,[],[],[]⟩:=by have hle:=aR.le h.body;have kQ:bU (fr+1) ⟨[],[],[],[]⟩:=⟨by simp,by simp,by simp,by simp⟩;obtain⟨-,p2⟩:=Pe 0 x.au (fr+1) (by omega) (fun i hi=>by have:=h.au i hi;rwa[show fr+1+1+i=fr+2+i by omega]) _ kQ;simpa only[bE]using p2
theorem nU.can{bB:List (List Nat×Nat)}(cX:∀nm k,(nm,k)∈bB->dc nm=true){fr ax:Nat}{x:τ}(h:nU bB fr ax x)(hf:ax<=675):x.Can:=by refine⟨by rw[h.nm];exact pz 112 _ (by omega) (by omega),h.K',fun y hy=>?_,h.Sd,aR.can cX h.body (h.scope hf)⟩;obtain⟨j,hj,rfl⟩:=u_ hy;obtain⟨h1,h2,h3⟩:=h.au j hj;exact⟨by rw[h1];exact pz 113 _ (by omega) (by omega),by omega,by omega⟩
theorem gS.can{l:List τ}{fr:Nat}(h:gS l fr)(hf:fr<=675):∀x∈l,x.Can:=by
 induction h with
 |nil=>intro x hx;cases hx
 |@snoc l x fr ax h1 h2 ih=>
  have hle:=h2.le
  intro y hy;rcases dT.1 hy with hy|hy
  ·exact ih (by omega) y hy
  ·obtain rfl:=fU.1 hy;exact h2.can (Po h1) hf
theorem pt{w:List Nat}(h:dc w=true):w.length<=8:=by simp only[dc,ej,decide_eq_true_eq]at h;exact h.1.1.1.2
theorem cZ.Sj{ts:List (List Nat)}{k:Nat}{i:ζ}(h:cZ ts k i)(hk:k<=2):i.cnt=1:=by
 cases h with
 |fix=>simp[ζ.cnt,ζ.bL]
 |dS=>simp[ζ.cnt,ζ.bL]
 |bin h0=>omega
theorem cZ.aas{ts:List (List Nat)}{k:Nat}{i:ζ}(h:cZ ts k i)(hk:k<=4):i.cnt<=3:=by
 cases h with
 |fix=>simp[ζ.cnt,ζ.bL]
 |dS=>simp[ζ.cnt,ζ.bL]
 |bin h0 h1 h2 ha hb=>
  have:=ha.Sj (by omega)
  have:=hb.Sj (by omega);simp[ζ.cnt,ζ.bL];omega
theorem cZ.jH{ts:List (List Nat)}{k:Nat}{i:ζ}(h:cZ ts k i)(hk:k<=4)(ht:∀t∈ts,dc t=true):i.text.length<=39:=by have:=ζ.sG i (ζ.W5 (may:=dc) (no:=1) (by decide) (fun s hs=>pt hs) i (h.part dc ht 1));have:=h.aas hk;omega
theorem f_.jH{fr:Nat}{s:Sc}(hs:bU fr s){p:ξ}(h:f_ s.aB s.turns p):p.text.length<=91:=by
 have h1:=pt (hs.named.1 _ h.nm);have h2:=h.len;have h3:∀x∈p.ix,x.text.length<=39:=fun x hx=>(h.pn x hx).jH (bS _) hs.named.2.2.2;obtain⟨nm,c,ix⟩:=p;simp only at h1 h2 h3
 match ix,h2,h3 with
 |[],_,_=>simp[ξ.text];omega
 |[a],_,h3=>have:=h3 a (by simp);simp[ξ.text];omega
 |[a,b],_,h3=>have:=h3 a (by simp);have:=h3 b (by simp);simp[ξ.text];omega
 |_::_::_::_,h2,_=>simp at h2
theorem Jo{fr:Nat}{s:Sc}(hs:bU fr s){l:List ξ}(h:∀p∈l,f_ s.aB s.turns p)(hl:l.length<=3):(nK l).length<=279:=by
 have:=CS (l.map ξ.text) 91 fun x hx=>by obtain⟨p,hp,rfl⟩:=eP.1 hx;exact(h p hp).jH hs
 rw[cg]at this;have h2:l.length*93<=3*93:=mD _ hl;unfold nK;omega
section
variable{bB:List (List Nat×Nat)}(cX:∀nm k,(nm,k)∈bB->dc nm=true/\k<=3)
include cX
mutual
theorem eZ.jH{d fr ax:Nat}{s s':Sc}{x:δ}(h:eZ bB d fr s x ax s')(hs:bU fr s)(b:List Nat)(hb:b.length<=2*d)(oY:d<=5):(jr x b).length<=320*x.cnt:=by
 have eC:(b++fJ).length=b.length+2:=by simp[fJ]
 match h with
 | .gate (g:=g) h1 h2 h3 h4 hc=>
  have h5:=Mh (g-1).toNat
  have:=Jo hs h4 (by rw[h3];unfold gb;split<;>(try split)<;>omega)
  simp only[bw,jr,cm,if_true];generalize fu.getD (g-1).toNat []=W at h5⊢;simp[aU,δ.cnt,bm];omega
 | .take h1=>
  have:=h1.jH (bS _) hs.named.2.2.2
  simp[bw,jr,cm,aU,δ.cnt,bm,bR];omega
 | .drop h1=>
  have:=pt (hs.named.2.1 _ h1)
  simp[bw,jr,cm,aU,δ.cnt,bm];omega
 | .borrow hd h1 h2 hc hn=>
  have:=h1.jH (bS _) hs.named.2.2.2
  have:=aR.jH h2 hs.ml.inner (b++fJ) (by omega) (by omega);simp[bw,jr,cm,aU,δ.cnt,bm,bR];omega
 | .measure (nm:=nm) (p:=p) h1 h2=>
  have:=Jo hs (l:=[p]) (by simpa using h1) (by simp)
  have hn:nm.length<=8:=by
   rcases h2 with rfl|h2
   ·exact pt (pz 98 _ (by omega) (by omega))
   ·exact pt (hs.named.2.2.1 _ h2)
  simp[bw,jr,cm,aU,δ.cnt,bm];omega
 | .reset (p:=p) h1=>
  have:=Jo hs (l:=[p]) (by simpa using h1) (by simp)
  simp[bw,jr,cm,aU,δ.cnt,bm];omega
 | .cond (nm:=nm) (els:=els) hd h1 h2 h3 hc hn gX gF=>
  have:=pt (hs.named.2.2.1 _ h1)
  have h4:=aR.jH h2 hs.inner (b++fJ) (by omega) (by omega);have h5:=aR.jH h3 (hs.inner.mono (aR.le h2)) (b++fJ) (by omega) (by omega);have h6:=Kz 7;simp only[bw,jr,cm,aU,δ.cnt,bm];generalize ns 7=B7 at h6⊢;by_cases he:els.length=0<;>simp[he]<;>omega
 | .loop hd h1 h2 h3 hc hn=>
  have:=h1.jH (by omega) hs.named.2.2.2
  have:=h2.jH (by omega) hs.named.2.2.2;have:=aR.jH h3 hs.dS.inner (b++fJ) (by omega) (by omega);simp[bw,jr,cm,aU,δ.cnt,bm,bR];omega
 | .call h1 h2 h3 hc=>
  have:=pt (cX _ _ h1).1
  have:=Jo hs h3 (by rw[h2];exact(cX _ _ h1).2);simp[bw,jr,cm,aU,δ.cnt,bm];omega
 | .qp hd h2 hc hn=>
  have:=aR.jH h2 hs.inner (b++fJ) (by omega) (by omega)
  simp[bw,jr,cm,aU,δ.cnt,bm];omega
 | .within hd h2 h3 hc hn gX gF=>
  have h4:=aR.jH h2 hs.inner (b++fJ) (by omega) (by omega)
  have h5:=aR.jH h3 (hs.inner.mono (aR.le h2)) (b++fJ) (by omega) (by omega);simp[bw,jr,cm,aU,δ.cnt,bm,ns];omega
theorem aR.jH{d fr ax:Nat}{s:Sc}{l:List δ}(h:aR bB d fr s l ax)(hs:bU fr s)(b:List Nat)(hb:b.length<=2*d)(oY:d<=5):(dj l b).length<=320*δ.bL l:=by
 match h with
 | .nil=>simp[dj]
 | .cons h1 h2=>
  have:=eZ.jH h1 hs b hb oY
  have:=aR.jH h2 (h1.sc hs) b hb oY;simp only[dj,cI,δ.bL];omega
end
end
theorem aie(a b:List τ):fI (a++b)=fI a++fI b:=by
 induction a with
 |nil=>rfl
 |cons x a ih=>simp[fI,ih]
theorem nU.jH{bB:List (List Nat×Nat)}(cX:∀nm k,(nm,k)∈bB->dc nm=true/\k<=3){fr ax:Nat}{x:τ}(h:nU bB fr ax x)(hf:ax<=675):x.text.length<=13000:=by
 have h1:=aR.jH cX h.body (h.scope hf) fJ (by simp[fJ]) (by omega);have h2:=h.cnt;have h3:=CS (x.au.map ak.text) 12 fun y hy=>by obtain⟨p,hp,rfl⟩:=eP.1 hy;obtain⟨j,hj,rfl⟩:=u_ hp;have e:=(h.au j hj).1;have:=vh (x.au[j].size.toNat);simp[ak.text,e,bR];omega
 have h4:=h.vj;rw[cg]at h3;have h5:x.au.length*14<=2*14:=mD _ h4;have h6:=h.nm;simp only[τ.text,cI,h6];simp[bR];omega
theorem gS.jH{l:List τ}{fr:Nat}(h:gS l fr)(hf:fr<=675):(fI l).length<=13000*l.length:=by
 induction h with
 |nil=>simp[fI]
 |@snoc l x fr ax h1 h2 ih=>
  have hle:=h2.le
  have M7:=h1.vj;have hn:=Po h1;have:=ih (by omega);have:=h2.jH (fun nm k hk=>⟨hn nm k hk,by
   obtain⟨y,hy,e⟩:=eP.1 hk
   rw[aA]at e;have:=M7 y hy;omega⟩) hf
  rw[aie];simp only[cI,fI,eO,cD];omega
end Go.Θ.Tz
namespace Go.Θ
def Cd(s:List Nat):Bool:=s.all fun b=>qv b 256
def wN(c:ρ):Bool:=match c with
 | .nil=>true
 | .any=>true
 |_=>false
mutual
def ζ.okB:ζ->Bool
 | .mk _ _ s c l=>Cd s&&(wN c&&ζ.sw l)
def ζ.sw:List ζ->Bool
 |[]=>true
 |x::l=>x.okB&&ζ.sw l
end
def ξ.okB(p:ξ):Bool:=Cd p.name&&(wN p.c&&ζ.sw p.ix)
mutual
def δ.okB:δ->Bool
 | .mk _ _ nm cp pl size to cb body ce els=>Cd nm&&(wN cp&&(pl.all ξ.okB&&(size.okB&&(to.okB&&(wN cb&&(δ.sw body&&(wN ce&&δ.sw els)))))))
def δ.sw:List δ->Bool
 |[]=>true
 |x::l=>x.okB&&δ.sw l
end
def τ.okB(p:τ):Bool:=Cd p.name&&(wN p.cp&&(p.au.all (fun x=>Cd x.name)&&(wN p.cb&&(δ.sw p.body&&(!(decide (p.cp= .nil))||p.au.isEmpty)))))
theorem E8{s:List Nat}(h:Cd s=true):du s:=fun b hb=>alR.mp (dO.1 h b hb)
theorem yD{c:ρ}(h:wN c=true):bp c:=by cases c<;>first|exact .inl rfl|exact .inr rfl|cases h
theorem ζ.BQ{l:List ζ}(h:ζ.sw l=true):∀x∈l,x.okB=true:=by
 induction l with
 |nil=>intro x hx;cases hx
 |cons a l ih=>
  simp only[ζ.sw,ej]at h
  intro x hx;rcases cy.1 hx with rfl|hx
  ·exact h.1
  ·exact ih h.2 x hx
theorem ζ.EJ{l:List ζ}(h:∀x∈l,x.gA):ζ.cJ l/\ζ.Strs l:=by
 induction l with
 |nil=>exact⟨trivial,trivial⟩
 |cons a l ih=>
  obtain⟨i1,i2⟩:=ih fun x hx=>h x (by simp[hx])
  exact⟨⟨(h a (by simp)).1,i1⟩,⟨(h a (by simp)).2,i2⟩⟩
theorem ζ.v_(x:ζ):x.okB=true->x.gA:=by refine ζ.jR (Q:=fun x=>x.okB=true->x.gA) (fun k n s c l ih h=>?_) x;simp only[ζ.okB,ej]at h;obtain⟨i1,i2⟩:=ζ.EJ fun x hx=>ih x hx (ζ.BQ h.2.2 x hx);exact⟨⟨yD h.2.1,i1⟩,E8 h.1,i2⟩
theorem ξ.v_{p:ξ}(h:p.okB=true):p.Ok:=by simp only[ξ.okB,ej]at h;exact⟨E8 h.1,yD h.2.1,fun x hx=>x.v_ (ζ.BQ h.2.2 x hx)⟩
theorem δ.BQ{l:List δ}(h:δ.sw l=true):∀x∈l,x.okB=true:=by
 induction l with
 |nil=>intro x hx;cases hx
 |cons a l ih=>
  simp only[δ.sw,ej]at h
  intro x hx;rcases cy.1 hx with rfl|hx
  ·exact h.1
  ·exact ih h.2 x hx
theorem δ.EJ{l:List δ}(h:∀x∈l,x.Ok):δ.cJ l:=by
 induction l with
 |nil=>trivial
 |cons a l ih=>exact⟨h a (by simp),ih fun x hx=>h x (by simp[hx])⟩
theorem δ.v_(x:δ):x.okB=true->x.Ok:=by refine δ.jR (Q:=fun x=>x.okB=true->x.Ok) (fun k g nm cp pl size to cb body ce els h1 h2 h=>?_) x;simp only[δ.okB,ej]at h;obtain⟨a1,a2,a3,a4,a5,a6,a7,a8,a9⟩:=h;exact⟨E8 a1,yD a2,fun p hp=>ξ.v_ (dO.1 a3 p hp),size.v_ a4,to.v_ a5,yD a6,δ.EJ fun y hy=>h1 y hy (δ.BQ a7 y hy),yD a8,δ.EJ fun y hy=>h2 y hy (δ.BQ a9 y hy)⟩
theorem τ.v_{p:τ}(h:p.okB=true):p.Ok:=by
 simp only[τ.okB,ej,ya,Ao,decide_eq_false_iff_not]at h;obtain⟨a1,a2,a3,a4,a5,a6⟩:=h;refine⟨E8 a1,yD a2,fun x hx=>E8 (dO.1 a3 x hx),yD a4,δ.EJ fun y hy=>y.v_ (δ.BQ a5 y hy),fun e=>?_⟩;rcases a6 with a6|a6
 ·exact absurd e a6
 ·exact List.isEmpty_iff.1 a6
end Go.Θ
namespace Go.Θ.Tz
open Go.Θ
variable{u:Nat}
attribute [local simp] exec dY dP eX aI dw fA eN aK fL bQ iu iE iM jd lG AV.cells newVar iX rd wr gT single dk cE e_ ew κ cK RV.get cL fT kz rO
theorem WN(l:List τ)(h:l.all τ.okB=true):∀x∈l,x.Ok:=fun x hx=>τ.v_ (dO.1 h x hx)
theorem O'(s:List Nat)(hs:du s)(hl:s.length<1000000000)(ai:∀x∈(dr s).1.1,x.Ok)(m:Mem):kf u 39 [.str s] m=some (.aQ [.agg [.list (Φ (dr s).1.1) ((dr s).1.1.map τ.av)],.n (dr s).2.1,.n (dr s).2.2],m):=by have Xt:=fun m=>f124 (u:=u) s hs hl m;simp only[zW]at Xt;have hp:=Dv.list (Φ (dr s).1.1) (bN.of τ.av _ fun x hx=>τ.mK (ai x hx));rw[fR (kN _)]at hp;have hv:Dv (.aQ [.agg [.list (Φ (dr s).1.1) ((dr s).1.1.map τ.av)],.n (dr s).2.1,.n (dr s).2.2]) (.aQ [.agg [.list (Φ (dr s).1.1) ((dr s).1.1.map τ.av)],.n (dr s).2.1,.n (dr s).2.2]):= .aQ (.cons (.agg (.cons hp .nil)) (.cons (.int _ _) (.cons (.int _ _) .nil)));refine dI (g:=HB) rfl rfl rfl ?_;simp only[az,aJ,exp,HB,RT];refine Δ (fun st=>st.e 0= .str s/\st.e 2= .aj 2 0 0/\st.q 2=some (0,.cells [.list .nil []])/\st.q 5=none/\st.mem= {ε:=m.ε,η:=[]}) (by simp[bz]) fun s1 ⟨h1,h2,h3,h4,h5⟩=>?_;simp[h1,h2,h3,h4,h5,Xt,bz];exact hv.aO _ _ _
theorem ai1(s:List Nat):(dr s).2.2=0->nw (dr s).1.1=0/\g_ (dr s).1.1<1000000000/\(dr s).2.1=0:=by
 unfold dr;split
 ·intro h;exact absurd h (by decide)
 ·rename_i vK;split
  ·intro h;exact absurd (show(4:Int)=0 from h) (by decide)
  ·rename_i x t hx;split
   ·rename_i hc;intro _;have:=YA hx;have:=Yl s;exact⟨hc,by dsimp only;omega,rfl⟩
   ·rename_i hc;intro h;exact absurd h hc
def Jd(s:List Nat):List Nat:=if(dr s).2.2=0 then fI (dr s).1.1 else[]
theorem W2(s:List Nat)(hs:du s)(hl:s.length<1000000000)(ai:∀x∈(dr s).1.1,x.Ok)(m:Mem):kf u 56 [.str s] m=some (.aQ [.str (Jd s),.n (dr s).2.1,.n (dr s).2.2],m):=by
 have xZ:=fun m=>O' (u:=u) s hs hl ai m;have hf:=ai1 s;have hz:∀bs n (a:List Nat) (i j:Int),aO bs n 8 (.aQ [.str a,.n i,.n j])= .aQ [.str a,.n i,.n j]:=fun _ _ _ _ _=>rfl;refine dI (g:=HE) rfl rfl rfl ?_;simp only[az,aJ,exp,HE,RX];unfold Jd;refine Δ (fun st=>st.e 0= .str s/\st.q 5=none/\st.mem= {ε:=m.ε,η:=[]}) (by simp) fun s1 ⟨h1,h2,h3⟩=>?_;by_cases he:(dr s).2.2=0
 ·obtain⟨hc,hw,h0⟩:=hf he;have Xy:=fun m=>f25 (u:=u) (Φ (dr s).1.1) (kN _) _ ai hw m;simp only[Jr,hc,if_true,tH]at Xy;rw[if_pos he,h0,he];rw[h0,he]at xZ;simp[h1,h2,h3,xZ,Xy,bz,hz]
 ·have qJ:((dr s).2.2 !=0)=true:=by simpa using he
  rw[if_neg he];simp[h1,h2,h3,xZ,bz,qJ,hz]
def T0:List Nat:=[112,114,111,99,32,109,97,105,110,40,113,91,50,93,41,32,123,32,104,32,113,91,48,93,59,32,99,120,32,113,91,48,93,44,32,113,91,49,93,59,32,109,101,97,115,117,114,101,32,113,91,48,93,32,58,32,98,59,32,105,102,32,98,32,123,32,120,32,113,91,49,93,59,32,125,32,125]
def T3:List Nat:=[112,114,111,99,32,102,40,113,91,49,93,41,32,123,32,116,97,107,101,32,113,91,49,93,59,32,125]
def T4:List Nat:=[112,114,111,99,32,102,40,41,32,123,32,105,102,32,40]
def T5:List Nat:=[112,114,111,99,32,104,40,41,32,123,125]
def T8:List Nat:=[112,114,111,99,32,102,40,113,91,51,93,41,32,123,32,102,111,114,32,105,32,61,32,48,32,58,32,51,32,123,32,119,105,116,104,105,110,32,123,32,104,32,113,91,105,93,59,32,125,32,97,112,112,108,121,32,123,32,122,32,113,91,105,93,59,32,125,32,125,32,125]
def T9:List Nat:=[112,114,111,99,32,102,40,113,91,51,93,41,32,123,10,32,32,102,111,114,32,105,32,61,32,48,32,58,32,51,32,123,10,32,32,32,32,119,105,116,104,105,110,32,123,10,32,32,32,32,32,32,104,32,113,91,105,93,59,10,32,32,32,32,125,32,97,112,112,108,121,32,123,10,32,32,32,32,32,32,122,32,113,91,105,93,59,10,32,32,32,32,125,10,32,32,125,10,125,10]
noncomputable def yA:AV:= .list (Φ (dr T0).1.1) ((dr T0).1.1.map τ.av)
def xA:AV:= .agg [.n 5,.n 0,.str [],.list .full [.agg [.n 1,.n 2,.str [],.list .nil []],.agg [.n 3,.n 0,.str [],.list .full [.agg [.n 2,.n 0,.str [105],.list .nil []],.agg [.n 1,.n 1,.str [],.list .nil []]]]]]
def sA:List AV:=[(.n 1),(.n 1),(.str []),(.list .any [(.agg [(.str [113]),(.list .any [(.agg [(.n 1),(.n 1),(.str []),(.list .any [])])])])]),(.n 0),(.n 0),(.str []),(.list .any []),(.n 0),(.n 0),(.str []),(.list .any []),(.list .any []),(.list .any [])]
theorem ZN(u:Nat)(b1 b2:θ):cv (C u) 60 (.fn (.func 70) [] []) [.agg [yA]] {ε:=[b1,b2],η:=[]}=some (.aQ [.n 5,.n 0],{ε:=[b1,b2],η:=[]}):=by kernel_rfl
theorem ZO(u:Nat)(b1 b2:θ):cv (C u) 60 (.fn (.func 72) [] []) [.agg [yA],.list .full [.n 0,.n 3,.n 0,.n 0]] {ε:=[b1,b2],η:=[]}=some (.aQ [.agg sA,.n 0],{ε:=[b1,b2],η:=[]}):=by kernel_rfl
theorem ZP(u:Nat)(b1 b2:θ):cv (C u) 60 (.fn (.func 26) [] []) [xA] {ε:=[b1,b2],η:=[]}=some (.aQ [.str [50,32,42,32,40,105,32,43,32,49,41],.n 0],{ε:=[b1,b2],η:=[]}):=by kernel_rfl
theorem ZQ(u:Nat)(b1 b2:θ):cv (C u) 60 (.fn (.func 32) [] []) [xA,.list .full [.str [105]],.list .full [.n 3]] {ε:=[b1,b2],η:=[]}=some (.aQ [.n 8,.n 0],{ε:=[b1,b2],η:=[]}):=by kernel_rfl
theorem rd0:(dr T0).2=(0,0):=by kernel_rfl
theorem rd3:dr T3=(([],[]),27,5):=by kernel_rfl
theorem rd4:dr T4=(([],[]),14,4):=by kernel_rfl
theorem rd5:dr T5=(([],[]),5,4):=by kernel_rfl
theorem rd8:Jd T8=T9:=by kernel_rfl
theorem rd9:(dr T8).2=(0,0):=by kernel_rfl
theorem okB(s:List Nat)(h:s.all (fun b=>qv b 256)=true):du s:=fun b hb=>alR.mp (dO.1 h b hb)
theorem ok0:(dr T0).1.1.all τ.okB=true:=by kernel_rfl
theorem ok3:(dr T3).1.1.all τ.okB=true:=by kernel_rfl
theorem ok4:(dr T4).1.1.all τ.okB=true:=by kernel_rfl
theorem ok5:(dr T5).1.1.all τ.okB=true:=by kernel_rfl
theorem ok8:(dr T8).1.1.all τ.okB=true:=by kernel_rfl
theorem abj(b1 b2:θ):kf u 19 [] {ε:=[b1,b2],η:=[]}=some (.bool true,{ε:=[b1,b2],η:=[]}):=by
 have xZ:=fun(s:List Nat) (h:s.all (fun b=>qv b 256)=true) (hl:qv s.length 1000000000=true) (ai:(dr s).1.1.all τ.okB=true)=>O' (u:=u) s (okB s h) (alR.mp hl) (WN _ ai) {ε:=[b1,b2],η:=[]};have q0:kf u 39 [.str T0] {ε:=[b1,b2],η:=[]}=some (.aQ [.agg [yA],.n 0,.n 0],{ε:=[b1,b2],η:=[]}):=by have h:=xZ T0 (by kernel_rfl) (by kernel_rfl) ok0;rw[rd0]at h;exact h
 have q3:=xZ T3 (by kernel_rfl) (by kernel_rfl) ok3;have q4:=xZ T4 (by kernel_rfl) (by kernel_rfl) ok4;have q5:=xZ T5 (by kernel_rfl) (by kernel_rfl) ok5;have q8:=W2 (u:=u) T8 (okB T8 (by kernel_rfl)) (alR.mp (by kernel_rfl)) (WN _ ok8) {ε:=[b1,b2],η:=[]};rw[rd3]at q3;rw[rd4]at q4;rw[rd5]at q5;rw[rd8,rd9]at q8;have q1:=oO.2 ⟨60,ZN u b1 b2⟩;have q2:=oO.2 ⟨60,ZO u b1 b2⟩;have q6:=oO.2 ⟨60,ZP u b1 b2⟩;have q7:=oO.2 ⟨60,ZQ u b1 b2⟩;simp only[T0,T3,T4,T5,T8,T9,xA,sA,aJ]at q0 q1 q2 q3 q4 q5 q6 q7 q8;generalize yA=y at*;refine dI (g:=g19) rfl rfl rfl ?_;simp only[aJ,g19,Rf];let K1:St->Prop:=fun st=>st.mem= {ε:=[b1,b2],η:=[]}/\st.e 1= .aj 1 0 0/\st.q 1=some (0,.cells [y])/\st.e 2= .n 0/\st.e 3= .n 0;refine Δ (fun st=>st.mem= {ε:=[b1,b2],η:=[]}/\st.loc=[]) (by simp) fun s1 ⟨h1,h2⟩=>?_;refine Δ (fun st=>K1 st/\st.q 6=none/\st.q 8=none/\st.q 11=none/\st.q 14=none/\st.q 17=none) (by simp[K1,h1,h2,q0,bz]) fun s1 ⟨⟨h1,h2,h3,h4,h5⟩,n6,n8,nJ,v7,tD⟩=>?_;let K2:St->Prop:=fun st=>K1 st/\st.e 4= .n 5/\st.e 5= .n 0;refine Δ (fun st=>K2 st/\st.q 6=none/\st.q 8=none/\st.q 11=none/\st.q 14=none/\st.q 17=none) (by simp[K2,K1,h1,h2,h3,h4,h5,n6,n8,nJ,v7,tD,q1]) fun s1 ⟨⟨⟨h1,h2,h3,h4,h5⟩,h6,h7⟩,n6,n8,nJ,v7,tD⟩=>?_;let K3:St->Prop:=fun st=>K2 st/\st.e 6= .aj 6 0 0/\(∃l,st.q 6=some (0,.cells (.n 1:: .n 1::l)))/\st.e 7= .n 0;refine Δ (fun st=>K3 st/\st.q 8=none/\st.q 11=none/\st.q 14=none/\st.q 17=none) (by simp[K3,K2,K1,h1,h2,h3,h4,h5,h6,h7,n6,n8,nJ,v7,tD,q2,bz,shaped,AV.one,Mem.ν,ν,cw]) fun s1 ⟨⟨⟨⟨h1,h2,h3,h4,h5⟩,h6,h7⟩,h8,⟨l,h9⟩,aw⟩,n8,nJ,v7,tD⟩=>?_;let K4:St->Prop:=fun st=>K3 st/\st.e 9= .n 27/\st.e 10= .n 5;refine Δ (fun st=>K4 st/\st.q 11=none/\st.q 14=none/\st.q 17=none) (by simp[K4,K3,K2,K1,h1,h2,h3,h4,h5,h6,h7,h8,h9,aw,n8,nJ,v7,tD,q3,bz]) fun s1 ⟨⟨⟨⟨⟨h1,h2,h3,h4,h5⟩,h6,h7⟩,h8,⟨l,h9⟩,aw⟩,bP,bZ⟩,nJ,v7,tD⟩=>?_;let K5:St->Prop:=fun st=>K4 st/\st.e 12= .n 14/\st.e 13= .n 4;refine Δ (fun st=>K5 st/\st.q 14=none/\st.q 17=none) (by simp[K5,K4,K3,K2,K1,h1,h2,h3,h4,h5,h6,h7,h8,h9,aw,bP,bZ,nJ,v7,tD,q4,bz]) fun s1 ⟨⟨⟨⟨⟨⟨h1,h2,h3,h4,h5⟩,h6,h7⟩,h8,⟨l,h9⟩,aw⟩,bP,bZ⟩,dW,nA⟩,v7,tD⟩=>?_;let K6:St->Prop:=fun st=>K5 st/\st.e 15= .n 5/\st.e 16= .n 4;refine Δ (fun st=>K6 st/\st.q 17=none) (by simp[K6,K5,K4,K3,K2,K1,h1,h2,h3,h4,h5,h6,h7,h8,h9,aw,bP,bZ,dW,nA,v7,tD,q5,bz]) fun s1 ⟨⟨⟨⟨⟨⟨⟨h1,h2,h3,h4,h5⟩,h6,h7⟩,h8,⟨l,h9⟩,aw⟩,bP,bZ⟩,dW,nA⟩,mM,l8⟩,tD⟩=>?_;let K7:St->Prop:=fun st=>K6 st/\st.e 17= .aj 17 0 0/\st.q 17=some (0,.cells [.n 5,.n 0,.str [],.list .full [.agg [.n 1,.n 2,.str [],.list .nil []],.agg [.n 3,.n 0,.str [],.list .full [.agg [.n 2,.n 0,.str [105],.list .nil []],.agg [.n 1,.n 1,.str [],.list .nil []]]]]]);refine Δ (K7) (by simp[K7,K6,K5,K4,K3,K2,K1,h1,h2,h3,h4,h5,h6,h7,h8,h9,aw,bP,bZ,dW,nA,mM,l8,tD,bz,dd,shaped,Mem.ν,ν,cw]) fun s1 ⟨⟨⟨⟨⟨⟨⟨h1,h2,h3,h4,h5⟩,h6,h7⟩,h8,⟨l,h9⟩,aw⟩,bP,bZ⟩,dW,nA⟩,mM,l8⟩,nB,bo⟩=>?_;let K8:St->Prop:=fun st=>K7 st/\st.e 18= .str [50,32,42,32,40,105,32,43,32,49,41]/\st.e 19= .n 0;refine Δ (K8) (by simp[K8,K7,K6,K5,K4,K3,K2,K1,h1,h2,h3,h4,h5,h6,h7,h8,h9,aw,bP,bZ,dW,nA,mM,l8,nB,bo,q6]) fun s1 ⟨⟨⟨⟨⟨⟨⟨⟨h1,h2,h3,h4,h5⟩,h6,h7⟩,h8,⟨l,h9⟩,aw⟩,bP,bZ⟩,dW,nA⟩,mM,l8⟩,nB,bo⟩,bu,sY⟩=>?_;let K9:St->Prop:=fun st=>K8 st/\st.e 20= .n 8/\st.e 21= .n 0;refine Δ (K9) (by simp[K9,K8,K7,K6,K5,K4,K3,K2,K1,h1,h2,h3,h4,h5,h6,h7,h8,h9,aw,bP,bZ,dW,nA,mM,l8,nB,bo,bu,sY,q7,shaped,AV.one,Mem.ν,ν]) fun s1 ⟨⟨⟨⟨⟨⟨⟨⟨⟨h1,h2,h3,h4,h5⟩,h6,h7⟩,h8,⟨l,h9⟩,aw⟩,bP,bZ⟩,dW,nA⟩,mM,l8⟩,nB,bo⟩,bu,sY⟩,Bh,Mn⟩=>?_;simp[h1,h2,h3,h4,h5,h6,h7,h8,h9,aw,bP,bZ,dW,nA,mM,l8,nB,bo,bu,sY,Bh,Mn,q8]
end Go.Θ.Tz
namespace Go.Θ
theorem wK{α:Type}{q:α->α->Bool}(l:List α)(h:∀x∈l,q x x=true):ie q l l=true:=
 Kq rfl fun i h1 _=>h _ (c_ h1)
theorem ζ.ug(x:ζ):x.eqv x=true:=by refine ζ.jR (Q:=fun x=>x.eqv x=true) (fun k n s c l ih=>?_) x;simp only[ζ.eqv,ζ.AU,wK l ih,beq_self_eq_true,wD]
theorem ξ.ug(p:ξ):p.eqv p=true:=by simp[ξ.eqv,wK p.ix fun x _=>x.ug]
theorem ak.ug(p:ak):p.eqv p=true:=by simp[ak.eqv]
theorem δ.ug(x:δ):x.eqv x=true:=by refine δ.jR (Q:=fun x=>x.eqv x=true) (fun k g nm cp pl size to cb body ce els h1 h2=>?_) x;simp only[δ.eqv,δ.AU,wK body h1,wK els h2,wK pl fun p _=>p.ug,ζ.ug,beq_self_eq_true,wD]
theorem τ.ug(p:τ):p.eqv p=true:=by simp[τ.eqv,wK p.au fun x _=>x.ug,δ.AU,wK p.body fun x _=>x.ug]
namespace Tz
open Go.Θ
end Tz
end Go.Θ
namespace Go.Θ.Tz
open Go.Θ
variable{u:Nat}
attribute [local simp] exec dY dP eX aI dw fA eN aK fL bQ iu iE iM jd lG AV.cells newVar iX rd wr gT single dk cE e_ ew κ cK RV.get cL fT kz rO
structure Md (cp:ρ) (bA:List τ):Prop where
 cp:bp cp
 made:∃fr,gS bA fr/\fr<=675
 len:1<=bA.length/\bA.length<=4
section
variable{cp:ρ}{bA:List τ}(h:Md cp bA)
include h
theorem Md.ok:∀x∈bA,x.Ok:=by obtain⟨fr,h1,h2⟩:=h.made;exact h1.str h2
theorem Md.wt:g_ bA<100000:=by obtain⟨fr,h1,h2⟩:=h.made;have:=h1.wt;have:=h.len.2;omega
theorem Md.right:nw bA=0:=by obtain⟨fr,h1,h2⟩:=h.made;exact h1.right h2 h.len.1 (by have:=h.len.2;omega)
theorem Md.jH:(fI bA).length<1000000:=by obtain⟨fr,h1,h2⟩:=h.made;have:=h1.jH h2;have:=h.len.2;omega
theorem Md.cap:Φ bA= .any:=by
 have:=h.len.1;cases bA with
 |nil=>simp at this
 |cons=>rfl
theorem Md.print(m:Mem):kf u 25 [.agg [.list cp (bA.map τ.av)]] m=some (.aQ [.str (fI bA),.n 0],m):=by have:=f25 (u:=u) cp h.cp bA h.ok (by have:=h.wt;omega) m;rw[Jr,h.right,if_pos rfl]at this;exact this
end
theorem Md.same{cp cq:ρ}{p q:List τ}(h:Md cp p)(k:Md cq q)(m:Mem):kf u 74 [.agg [.list cp (p.map τ.av)],.agg [.list cq (q.map τ.av)]] m=some (.bool (ie τ.eqv p q),m):=
 f74 cp cq h.cp k.cp p q h.ok k.ok (by have:=h.wt;omega) (by have:=k.wt;omega) m
theorem agh(c:ρ)(hc:bp c)(bs:List Nat)(hn:c= .nil->bs=[])(B:List θ):∃b b' cp bA,Md cp bA/\(∀T,kf u 36 [gn c bs] {ε:=B,η:=T}=some (.μ B.length 0,{ε:=B++[b],η:=T}))∧
  ∀T,kf u 35 [.μ B.length 0] {ε:=B++[b],η:=T}=some (.agg [.list cp (bA.map τ.av)],{ε:=B++[b'],η:=T}):=by
 obtain⟨c1,uk,q36⟩:=f36 (u:=u) c hc bs hn B;obtain⟨n',x',cp,fr,bA,h1,h2,h3,h4,h5,Xz⟩:=f35 (u:=u) (ps:=B.length) (c:=c1) (bs:=bs.take 300) (n:=0) (x:=2463534242) (B:=B++[.cells (aG c1 (bs.take 300) 0 2463534242)]) (by simp;omega) (by simp) (by omega);have e:(B++[θ.cells (aG c1 (bs.take 300) 0 2463534242)]).set B.length (.cells (aG c1 (bs.take 300) n' x'))=B++[.cells (aG c1 (bs.take 300) n' x')]:=by rw[List.set_append_right _ _ (bS _)];simp
 rw[e]at Xz;exact⟨_,_,cp,bA,⟨h5,⟨fr,h2,by omega⟩,h4⟩,q36,Xz⟩
def dR(b:Nat):Nat:=if isLet b then 0 else if ca b then 1 else 2
theorem aj1(b:Nat):dR b<=2:=by unfold dR;split<;>(try split)<;>omega
theorem f75(b:Nat)(m:Mem):kf u 75 [.int .u8 b] m=some (.n (dR b),m):=by
 refine dI (g:=w9) rfl rfl rfl ?_;by_cases h1:97<=b
 ·have kA:(97:Int)<=b:=by omega
  by_cases h2:b<=122
  ·have l9:(b:Int)<=122:=by omega
   simp[w9,c75,exp,dR,isLet,h1,h2,kA,l9]
  ·have l9:¬(b:Int)<=122:=by omega
   have h3:(48:Int)<=b:=by omega
   have h4:¬(b:Int)<=57:=by omega
   have h5:¬b<=57:=by omega
   simp[w9,c75,exp,dR,isLet,ca,h1,h2,kA,l9,h3,h4,h5]
 ·have kA:¬(97:Int)<=b:=by omega
  by_cases h2:48<=b
  ·have l9:(48:Int)<=b:=by omega
   by_cases h3:b<=57
   ·have fw:(b:Int)<=57:=by omega
    simp[w9,c75,exp,dR,isLet,ca,h1,h2,kA,l9,h3,fw]
   ·have fw:¬(b:Int)<=57:=by omega
    simp[w9,c75,exp,dR,isLet,ca,h1,h2,kA,l9,h3,fw]
  ·have l9:¬(48:Int)<=b:=by omega
   simp[w9,c75,exp,dR,isLet,ca,h1,h2,kA,l9]
def m_(k b:Nat):Bool:=decide (k<2)&&decide (dR b=k)
inductive kZ:List Nat->List (List Nat)->Prop
 |nil:kZ [] []
 |gg {b:Nat} {r:List Nat} {l:List (List Nat)} (hb:b=32\/b=10) (h:kZ r l):kZ (b::r) l
 |word {b:Nat} {r:List Nat} {l:List (List Nat)} (hb:¬(b=32\/b=10)) (h:kZ (r.drop (runN (m_ (dR b)) r)) l):kZ (b::r) ((b::r.take (runN (m_ (dR b)) r))::l)
theorem ajk(f:Nat->Bool)(l:List Nat):runN f l<=l.length:=by
 induction l with
 |nil=>exact bS _
 |cons b l ih=>unfold runN;split<;>simp<;>omega
theorem kZ.len{s:List Nat}{l:List (List Nat)}(h:kZ s l):l.length<=s.length:=by
 induction h with
 |nil=>exact bS _
 |gg hb h ih=>simp;omega
 |@word b r l hb h ih=>simp only[cD,k_]at ih⊢;omega
theorem aji{f:Nat->Bool}{s:List Nat}{p:Nat}(h:p<s.length):runN f (s.drop p)=if f s[p]then runN f (s.drop (p+1))+1 else 0:=by rw[nk h];rfl
theorem f37(s:List Nat)(l:List (List Nat))(hc:kZ s l)(hl:s.length<1000000)(m:Mem):
  kf u 37 [.str s] m=some (aZ (if l=[]then .nil else .any) l,m):=by
 refine K_ (g:=Hz) rfl rfl rfl ?_;simp only[az,aJ,exp,Hz,c37];let K:List (List Nat)->St->Prop:=fun d st=>st.e 0= .str s/\st.e 3=mL m.ε.length (d.map AV.str)/\st.mem= {ε:=m.ε++ui 1 9 (d.map AV.str).length,η:=[]};let I:Nat->St->Prop:=fun i st=>∃d r,K d st/\∃p:Nat,st.e 4= .n p/\i<=p/\p<=s.length/\d++r=l/\kZ (s.drop p) r;have vJ:=hc.len;refine Δ (fun st=>st.e 0= .str s/\st.mem= {ε:=m.ε,η:=[]}) (by simp) fun s1 ⟨h0,hm⟩=>?_;refine Δ (K []) (by simp[K,h0,hm,mL,ui]) fun s1 hK=>?_;refine bJ (K l) ?_ fun s2 ⟨h0,h3,hm⟩=>?_
 ·refine Δ (I 0) (by obtain⟨h0,h3,hm⟩:=hK;simp[I,K,h0,h3,hm];exact⟨[],⟨rfl,rfl⟩,l,0,rfl,by omega,rfl,by simpa using hc⟩) fun s2 hI=>?_;refine κ.block (κ.kp (I:=I) s.length hI fun i st hi Ω=>?_);obtain⟨d,r,⟨h0,h3,hm⟩,p,h4,h5,h6,h7,h8⟩:=Ω;unfold Wa;rcases da p s.length with ψ|dD
  ·have eQ:(p:Int)<s.length:=by omega
   have hd:s.drop p=s[p]::s.drop (p+1):=nk ψ;have hw:bC .i64 ((p:Int)+1)=((p+1:Nat):Int):=by rw[wrap_i64 (by omega) (by omega)];simp
   refine Δ (fun st=>K d st/\st.e 4= .n p) (by simp[K,h0,h3,hm,h4,eQ]) fun s3 ⟨⟨h0,h3,hm⟩,h4⟩=>?_;refine bJ (fun st=>∃d r,K d st/\∃q:Nat,st.e 4= .n q/\p<=q/\q<s.length/\d++r=l/\kZ (s.drop (q+1)) r) ?_ fun s4 ⟨d,r,⟨h0,h3,hm⟩,q,h4,h9,ha,hb,hc⟩=>?_
   ·refine κ.block ?_;refine bJ (fun st=>(K d st/\st.e 4= .n p)/\¬(s[p]=32\/s[p]=10)) ?_ fun s4 ⟨⟨⟨h0,h3,hm⟩,h4⟩,h9⟩=>?_
    ·by_cases c1:s[p]=32
     ·refine κ.done (.exit 1) (fun st=>K d st/\st.e 4= .n p) (by simp[K,h0,h3,hm,h4,ψ,eQ,c1]) fun s' ⟨g1,g2⟩=> .inr ⟨by simp,.inl ⟨rfl,.inl ⟨rfl,d,r,g1,p,g2,by omega,ψ,h7,?_⟩⟩⟩;rw[hd]at h8;cases h8 with
      |gg _ h=>exact h
      |word hb _=>exact absurd (.inl c1) hb
     by_cases c2:s[p]=10
     ·refine κ.done (.exit 1) (fun st=>K d st/\st.e 4= .n p) (by simp[K,h0,h3,hm,h4,ψ,c2]) fun s' ⟨g1,g2⟩=> .inr ⟨by simp,.inl ⟨rfl,.inl ⟨rfl,d,r,g1,p,g2,by omega,ψ,h7,?_⟩⟩⟩;rw[hd]at h8;cases h8 with
      |gg _ h=>exact h
      |word hb _=>exact absurd (.inr c2) hb
     have gU:¬(s[p]:Int)=32:=by omega
     have gV:¬(s[p]:Int)=10:=by omega
     have b1:((s[p]:Int)==32)=false:=beq_eq_false_iff_ne.2 gU;have b2:((s[p]:Int)==10)=false:=beq_eq_false_iff_ne.2 gV;refine κ.done .normal (fun st=>K d st/\st.e 4= .n p) (by simp[K,h0,h3,hm,h4,ψ,b1,b2]) fun s' g=> .inl ⟨rfl,g,by omega⟩
    generalize hb:s[p]=b at*;rw[hd]at h8;cases h8 with
    |gg h _=>exact absurd h h9
    |@word _ _ r hx h8=>
    clear hx
    generalize hk:runN (m_ (dR b)) (s.drop (p+1))=k at h8 h7;have ux:=ajk (m_ (dR b)) (s.drop (p+1));rw[hk,k_]at ux;have we:=fun(b:Nat) m=>f75 (u:=u) b m;have nG:=aj1 b;refine Δ (fun st=>(K d st/\st.e 4= .n p)/\st.e 5= .n ((p+1:Nat):Int)) (by simp[K,h0,h3,hm,h4,hw]) fun s5 ⟨⟨⟨h0,h3,hm⟩,h4⟩,ha⟩=>?_;refine bJ (fun st=>(K d st/\st.e 4= .n p)/\st.e 5= .n ((p+1+k:Nat):Int)) ?_ fun s6 ⟨⟨⟨h0,h3,hm⟩,h4⟩,ha⟩=>?_
    ·refine Δ (fun st=>((K d st/\st.e 4= .n p)/\st.e 5= .n ((p+1:Nat):Int))/\st.e 6= .n (dR b)) (by simp[K,h0,h3,hm,h4,ha,ψ,hb,we]) fun s6 ⟨⟨⟨⟨h0,h3,hm⟩,h4⟩,ha⟩,hc⟩=>?_;let J:Nat->St->Prop:=fun j st=>((K d st/\st.e 4= .n p)/\st.e 6= .n (dR b))/\st.e 5= .n ((p+1+j:Nat):Int)/\p+1+j<=s.length/\k=j+runN (m_ (dR b)) (s.drop (p+1+j));have hJ:J 0 s6:=⟨⟨⟨⟨h0,h3,hm⟩,h4⟩,hc⟩,ha,by omega,by simp only[Nat.add_zero,Nat.zero_add];exact hk.symm⟩;refine κ.block (κ.kp (I:=J) s.length hJ fun j st hj Ω=>?_);obtain⟨⟨⟨⟨h0,h3,hm⟩,h4⟩,hc⟩,ha,qI,rV⟩:=Ω;unfold V';generalize hq:p+1+j=q at*;have Ea:bC .i64 ((q:Int)+1)=((q+1:Nat):Int):=by rw[wrap_i64 (by omega) (by omega)];simp
     have stop:runN (m_ (dR b)) (s.drop q)=0->p+1+k=q:=by omega
     rcases da (dR b) 2 with hs|hs
     ·have vR:(dR b:Int)<2:=by omega
      rcases da q s.length with xy|xy
      ·have Im:(q:Int)<s.length:=by omega
       have hr:=aji (f:=m_ (dR b)) xy;by_cases he:dR s[q]=dR b
       ·rw[if_pos (by simp[m_,hs,he])]at hr;refine κ.done .normal (fun st=>((K d st/\st.e 4= .n p)/\st.e 6= .n (dR b))/\st.e 5= .n ((q+1:Nat):Int)) (by simp[K,h0,h3,hm,h4,hc,ha,vR,Im,xy,we,he,Ea]) fun s' ⟨g1,g2⟩=> .inl ⟨rfl,by omega,g1,by rw[g2,<-hq];rfl,by omega,?_⟩;have:p+1+(j+1)=q+1:=by omega
        rw[this];omega
       ·rw[if_neg (by simp[m_,he])]at hr;have qJ:¬(dR s[q]:Int)=dR b:=by omega
        refine κ.done (.exit 2) (fun st=>(K d st/\st.e 4= .n p)/\st.e 5= .n (q:Int)) (by simp[K,h0,h3,hm,h4,hc,ha,vR,Im,xy,we,he,qJ]) fun s' ⟨g1,g2⟩=> .inr ⟨by simp,.inl ⟨rfl,.inl ⟨rfl,g1,by rw[g2,stop hr]⟩⟩⟩
      ·have Im:¬(q:Int)<s.length:=by omega
       have hr:runN (m_ (dR b)) (s.drop q)=0:=by rw[Fl xy];rfl
       refine κ.done (.exit 2) (fun st=>(K d st/\st.e 4= .n p)/\st.e 5= .n (q:Int)) (by simp[K,h0,h3,hm,h4,hc,ha,vR,Im]) fun s' ⟨g1,g2⟩=> .inr ⟨by simp,.inl ⟨rfl,.inl ⟨rfl,g1,by rw[g2,stop hr]⟩⟩⟩
     ·have vR:¬(dR b:Int)<2:=by omega
      have hr:runN (m_ (dR b)) (s.drop q)=0:=by
       cases s.drop q with
       |nil=>rfl
       |cons a r=>simp[runN,m_,Nat.not_lt.2 hs]
      refine κ.done (.exit 2) (fun st=>(K d st/\st.e 4= .n p)/\st.e 5= .n (q:Int)) (by simp[K,h0,h3,hm,h4,hc,ha,vR]) fun s' ⟨g1,g2⟩=> .inr ⟨by simp,.inl ⟨rfl,.inl ⟨rfl,g1,by rw[g2,stop hr]⟩⟩⟩
    ·have acg:(s.take (p+1+k)).drop p=b::(s.drop (p+1)).take k:=by rw[List.drop_take,show p+1+k-p=k+1 by omega,hd,List.take_succ_cons]
     have Iq:d.length<l.length:=by rw[<-h7];simp
     have dB:=Qx m.ε [] (ag:=false) (sz:=1) (bytes:=16) (e:=9) (l:=d.map AV.str) (y:= .str (b::(s.drop (p+1)).take k)) (by omega) (by simp[shaped,AV.one]) rfl rfl (by simp;omega) (by simp;omega);simp only[cg,cI,List.length_singleton]at dB;have hle:p+1+k<=s.length:=by omega
     have ald:((p+1+k:Nat):Int)<=s.length:=by omega
     have hpk:(p:Int)<=((p+1+k:Nat):Int):=by omega
     refine Δ (fun st=>(K (d++[b::(s.drop (p+1)).take k]) st/\st.e 4= .n p)/\st.e 5= .n ((p+1+k:Nat):Int)) ?_ fun s7 ⟨⟨⟨h0,h3,hm⟩,h4⟩,ha⟩=>?_
     ·generalize p+1+k=e at*;have e1:¬(e:Int)<p:=by omega
      have e2:¬(s.length:Int)<e:=by omega
      have e3:p<=e:=by omega
      simp[K,h0,h3,hm,h4,ha,bound,e1,e2,e3,acg,dB,hle,shaped,AV.one,Mem.ν,ν]
     ·have mf:bC .i64 (((p+1+k:Nat):Int)-1)=((p+k:Nat):Int):=by rw[wrap_i64 (by omega) (by omega)];omega
      refine κ.done .normal (fun st=>K (d++[b::(s.drop (p+1)).take k]) st/\st.e 4= .n ((p+k:Nat):Int)) (by
       generalize p+1+k=e at*
       generalize p+k=e' at*;simp[K,h0,h3,hm,h4,ha,mf]) fun s' ⟨g1,g2⟩=> .inr ⟨by simp,.inl ⟨rfl,_,r,g1,p+k,g2,by omega,by omega,by rw[<-h7];simp,?_⟩⟩
      rw[show p+k+1=p+1+k by omega,<-List.drop_drop];exact h8
   ·have Ea:bC .i64 ((q:Int)+1)=((q+1:Nat):Int):=by rw[wrap_i64 (by omega) (by omega)];simp
    refine κ.done .normal (fun st=>K d st/\st.e 4= .n ((q+1:Nat):Int)) (by simp[K,h0,h3,hm,h4,Ea]) fun s' ⟨g1,g2⟩=> .inl ⟨rfl,by omega,d,r,g1,q+1,g2,by omega,by omega,hb,hc⟩
  ·have za:¬(p:Int)<s.length:=by omega
   have hp:s.drop p=[]:=Fl dD;rw[hp]at h8;cases h8;rw[dF]at h7;subst h7;refine κ.done (.exit 0) (K d) (by simp[K,h0,h3,hm,h4,za]) fun s' g=> .inr ⟨by simp,.inl ⟨rfl,.inl ⟨rfl,g⟩⟩⟩
 ·refine κ.done .ret (fun st=>st.e 2=mL m.ε.length (l.map AV.str)/\st.mem= {ε:=m.ε++ui 1 9 (l.map AV.str).length,η:=[]}) (by simp[h0,h3,hm]) fun s' ⟨g1,g2⟩=>⟨by simp,⟨_,by rw[g2]⟩,by rw[g2];simp,_,rfl,?_⟩;simp only[cL,RV.get,g1];have:=TK m.ε.length (bN.of AV.str l fun x _=>Dv.str x);rw[this.aO];simp[aZ]
end Go.Θ.Tz
namespace Go.Θ
theorem afE(a:GW)(x:List Nat×List Nat):cd (a++[x])=cd a++(x.1++x.2):=by rw[Wc];simp[cd]
def jy:Nat->GW->List Nat
 |_,[]=>[]
 |k,x::w=>(k+(x.1.length+x.2.length))::jy (k+(x.1.length+x.2.length)) w
theorem aa8(k:Nat)(a:GW)(x:List Nat×List Nat):jy k (a++[x])=jy k a++[k+(cd (a++[x])).length]:=by
 induction a generalizing k with
 |nil=>simp[jy,cd]
 |cons y a ih=>simp[jy,ih,cd,rz]
theorem LN(k:Nat)(a:GW):(jy k a).length=a.length:=by
 induction a generalizing k with
 |nil=>rfl
 |cons y a ih=>simp[jy,ih]
theorem Wd{w:GW}(h:∀y∈w,y.1.length<=5/\y.2.length<=20):(cd w).length<=25*w.length:=by
 induction w with
 |nil=>exact bS _
 |cons y w ih=>
  have h1:=h y (by simp)
  have h2:=ih fun z hz=>h z (by simp[hz]);simp only[cd,cI,cD];omega
def pW:List (List Nat):=[[],[32],[10],[32,35,32,125,10],[32,32]]
def Ag:List (List Nat):=[[],[10],[32,35,32,123]]
theorem HJ{g:List Nat}(h:g∈pW):g.length<=5:=by simp only[pW,cy,lE,or_false]at h;rcases h with rfl|rfl|rfl|rfl|rfl<;>simp
end Go.Θ
namespace Go.Θ.Tz
open Go.Θ
variable{u:Nat}
attribute [local simp] exec dY dP eX aI dw fA eN aK fL bQ iu iE iM jd lG AV.cells newVar iX rd wr gT single dk cE e_ ew κ cK RV.get cL fT kz
theorem afo{a b:Nat}{v w:List Nat}(h:(di (a::v)==di (b::w)&&(di (a::v)==1||di (a::v)==2))=true)(ha:2<a/\2<b):dR b<2/\dR b=dR a:=by simp only[di,ej,ya,beq_iff_eq]at h;simp only[dR];obtain⟨h1,h2⟩:=h;cases q1:isLet a<;>cases q2:isLet b<;>cases q3:ca a<;>cases q4:ca b<;>simp[q1,q2,q3,q4]at h1 h2⊢<;>omega
theorem afH(k:Nat)(a:GW)(x:List Nat×List Nat):uH k (a++[x])=di x.2:=by
 induction a generalizing k with
 |nil=>rfl
 |cons y a ih=>exact ih _
theorem f38{c:ρ}{bs:List Nat}{B:List θ}{ps:Nat}(hp:ps<B.length)(hb:bs.length<=300)(cl:ρ)(ep:bp cl)(l:List (List Nat))(hl:l.length<1000000)(hw:∀t∈l,∃a v,t=a::v/\2<a)(mf:∀t∈l,t.length<=20)(n:Nat)(x:Int)(hn:n<3000000000000000000):
  ∃(x':Int) (n':Nat) (w:GW) (tl:List Nat),n<=n'/\n'<=n+l.length+1/\w.map alS=l/\(∀y∈w,y.1∈pW)/\iD 0 w=true/\tl∈Ag/\∀T,kf u 38 [.μ ps 0,aZ cl l] {ε:=B.set ps (.cells (aG c bs n x)),η:=T}=some (.aQ [.str (cd w++tl),.list (if w=[]then .nil else .any) ((jy 0 w).map fun e:Nat=>AV.n e)],{ε:=B.set ps (.cells (aG c bs n' x')),η:=T}):=by
 let Mm:Nat->Int->Nat->Mem:=fun n x k=> {ε:=B.set ps (.cells (aG c bs n x))++ui 1 3 k,η:=[]};have UW:∀(n:Nat) (x:Int) (k:Int) (e:Nat),n<4000000000000000000->∃(x' r:Int) (n':Nat),n<=n'/\n'<=n+1/\0<=r/\(0<k->r<k)/\kf u 121 [.μ ps 0,.n k] (Mm n x e)=some (.n r,Mm n' x' e):=by intro n x k e hn;obtain⟨x',r,n',a1,a2,a3,a4,-,a5⟩:=f121 (u:=u) (c:=c) (bs:=bs) (B:=B++ui 1 3 e) (p:=ps) (by simp;omega) hb n x k hn;simp only[List.set_append_left _ _ hp]at a5;exact⟨x',r,n',a1,a2,a3,a4,a5 []⟩
 have hr:κ (C u).gl (ab (C u)) KT {env:=[.μ ps 0,aZ cl l],loc:=[],mem:= {ε:=B.set ps (.cells (aG c bs n x)),η:=[]}} fun q=>(∀i,q.1≠ .exit i)/\∃(x':Int) (n':Nat) (w:GW) (tl:List Nat),n<=n'/\n'<=n+l.length+1/\w.map alS=l/\(∀y∈w,y.1∈pW)/\iD 0 w=true/\tl∈Ag/\q.2.mem=Mm n' x' w.length/\aK q.2.env 4= .str (cd w++tl)/\aK q.2.env 5=mL B.length ((jy 0 w).map fun e:Nat=>AV.n e):=by
  unfold KT;let S:St->Prop:=fun st=>st.e 0= .μ ps 0/\st.e 1=aZ cl l;let W:GW->St->Prop:=fun w st=>st.e 6= .str (cd w)/\st.e 7=mL B.length ((jy 0 w).map fun e:Nat=>AV.n e);let I:Nat->St->Prop:=fun i st=>∃(n':Nat) (x':Int) (w:GW),n<=n'/\n'<=n+i/\w.map alS=l.take i/\i<=l.length/\(∀y∈w,y.1∈pW)/\iD 0 w=true/\S st/\W w st/\st.mem=Mm n' x' w.length/\st.e 11=aZ cl l/\st.e 12= .n l.length/\st.e 13= .n i;refine Δ (fun st=>S st/\st.mem=Mm n x 0) (by simp[S,Mm,ui]) fun s1 ⟨⟨h0,h1⟩,hm⟩=>?_;refine Δ (fun st=>S st/\st.mem=Mm n x 0/\st.e 6= .str []) (by simp[S,h0,h1,hm]) fun s1 ⟨⟨h0,h1⟩,hm,h6⟩=>?_;refine Δ (fun st=>S st/\st.mem=Mm n x 0/\W [] st) (by simp[S,W,h0,h1,hm,h6,cd,jy,mL]) fun s1 ⟨⟨h0,h1⟩,hm,h6,h7⟩=>?_;refine bJ (fun st=>∃(n':Nat) (x':Int) (w:GW),n<=n'/\n'<=n+l.length/\w.map alS=l/\(∀y∈w,y.1∈pW)/\iD 0 w=true/\S st/\W w st/\st.mem=Mm n' x' w.length) ?_ fun s2 ⟨n',x',w,a1,a2,a3,a4,a5,⟨h0,h1⟩,⟨h6,h7⟩,hm⟩=>?_
  ·have acE:bC .i64 (l.length:Int)=l.length:=wrap_i64 (by omega) (by omega);refine Δ (fun st=>S st/\st.mem=Mm n x 0/\W [] st/\st.e 11=aZ cl l/\st.e 12= .n l.length/\st.e 13= .n 0) (by simp[S,W,h0,h1,hm,h6,h7,aZ,acE]) fun s2 ⟨g0,hm,g1,g2,g3,g4⟩=>?_;refine κ.block (κ.kp (I:=I) l.length ⟨n,x,[],bS _,by omega,rfl,by omega,by simp,rfl,g0,g1,hm,g2,g3,g4⟩ fun i st hi ⟨n',x',w,a1,a2,a3,ae,a4,a5,⟨h0,h1⟩,⟨h6,h7⟩,hm,bP,bZ,dW⟩=>?_);unfold Wb;have xF:w.length=i:=by have:=congrArg List.length a3;rw[cg,List.length_take]at this;omega
   rcases da i l.length with ψ|dD
   ·have Bx:(i:Int)<l.length:=by omega
    obtain⟨a,v,e1,e2⟩:=hw l[i] (c_ ψ);have ma:(l.map AV.str)[i]?=some (.str (a::v)):=by rw[lB,dn ψ,e1];rfl
    let V:St->Prop:=fun st=>st.e 11=aZ cl l/\st.e 12= .n l.length/\st.e 13= .n i;refine Δ (fun st=>S st/\W w st/\V st/\st.mem=Mm n' x' w.length/\st.e 14= .bool true) (by simp[S,W,V,h0,h1,h6,h7,hm,bP,bZ,dW,Bx]) fun s3 ⟨⟨h0,h1⟩,⟨h6,h7⟩,⟨bP,bZ,dW⟩,hm,nA⟩=>?_;refine Δ (fun st=>S st/\W w st/\V st/\st.mem=Mm n' x' w.length) (by simp[S,W,V,h0,h1,h6,h7,hm,bP,bZ,dW,nA]) fun s3 ⟨⟨h0,h1⟩,⟨h6,h7⟩,⟨bP,bZ,dW⟩,hm⟩=>?_;refine bJ (fun st=>∃n2 x2 g,n'<=n2/\n2<=n'+1/\g∈pW/\iD 0 (w++[(g,a::v)])=true/\S st/\W (w++[(g,a::v)]) st/\V st/\st.mem=Mm n2 x2 (w.length+1)) ?_ fun s4 ⟨n2,x2,g,b1,b2,b3,b4,⟨h0,h1⟩,⟨h6,h7⟩,⟨bP,bZ,dW⟩,hm⟩=>?_
    ·refine κ.block ?_;refine Δ (fun st=>S st/\W w st/\V st/\st.mem=Mm n' x' w.length/\st.e 8= .n i/\st.e 9= .str (a::v)) (by simp[S,W,V,h0,h1,h6,h7,hm,bP,bZ,dW,ψ,e1,aZ]) fun s3 ⟨⟨h0,h1⟩,⟨h6,h7⟩,⟨bP,bZ,dW⟩,hm,h8,h9⟩=>?_;obtain⟨x2,r,n2,b1,b2,b3,b4,kH⟩:=UW n' x' 5 w.length (by omega);have b4:=b4 (by omega);obtain⟨r,rfl⟩:∃j:Nat,r=j:=⟨r.toNat,by omega⟩;refine Δ (fun st=>∃g,g∈pW/\S st/\W w st/\V st/\st.mem=Mm n2 x2 w.length/\st.e 8= .n i/\st.e 9= .str (a::v)/\st.e 10= .str g) ?_ fun s3 ⟨g,hg,⟨h0,h1⟩,⟨h6,h7⟩,⟨bP,bZ,dW⟩,hm,h8,h9,aw⟩=>?_
     ·have h5:r=0\/r=1\/r=2\/r=3\/r=4:=by omega
      rcases h5 with rfl|rfl|rfl|rfl|rfl<;>simp only[wF]at kH<;>simp[S,W,V,h0,h1,h6,h7,hm,h8,h9,bP,bZ,dW,kH,shaped,AV.one,ν,Mem.ν,pW]
     have we:=fun(b:Nat) m=>f75 (u:=u) b m;refine bJ (fun st=>∃g,g∈pW/\iD 0 (w++[(g,a::v)])=true/\S st/\W w st/\V st/\st.mem=Mm n2 x2 w.length/\st.e 9= .str (a::v)/\st.e 10= .str g) ?_ fun s3 ⟨g,hg,HV,⟨h0,h1⟩,⟨h6,h7⟩,⟨bP,bZ,dW⟩,hm,h9,aw⟩=>?_
     ·have full:∀g:List Nat,g≠[]->iD 0 (w++[(g,a::v)])=true:=fun g hg=>by
       rw[J0,a5];cases g with
       |nil=>exact absurd rfl hg
       |cons b g=>simp[iD]
      rcases Nat.eq_zero_or_pos i with th|th
      ·subst th;obtain rfl:w=[]:=List.length_eq_zero_iff.1 xF;refine Δ (fun st=>(S st/\W [] st/\V st/\st.mem=Mm n2 x2 0/\st.e 9= .str (a::v)/\st.e 10= .str g)/\st.e 47= .bool false) (by simp[S,W,V,h0,h1,h6,h7,hm,h8,h9,aw,bP,bZ,dW,eK,bz,cN,nY,cQ,dd]) fun s4 ⟨⟨g0,g1,g2,g3,g4,g5⟩,vm⟩=>?_;exact κ.no (by simp[vm]) ⟨_,rfl,.inl ⟨rfl,g,hg,by simp[iD],g0,g1,g2,g3,g4,g5⟩⟩
      ·have H9:(0:Int)<i:=by omega
       obtain⟨w0,y,rfl⟩:∃w0 y,w=w0++[y]:=by
        rcases List.eq_nil_or_concat w with rfl|⟨w0,y,rfl⟩
        ·simp at xF;omega
        ·exact⟨w0,y,by simp⟩
       have eW:i-1<l.length:=by omega
       obtain⟨a',v',e3,e4⟩:=hw l[i-1] (c_ eW);have hy:y.2=a'::v':=by
        have h1:=congrArg (fun z=>z[i-1]?) a3;have Vs:w0.length=i-1:=by simp at xF;omega
        simp only[kr,az,aJ]at h1;rw[List.getElem?_append_right (by simp[Vs]),List.getElem?_take,if_pos (by omega),dn eW,e3]at h1;simpa[Vs]using h1
       have mg:bC .i64 ((i:Int)-1)=((i-1:Nat):Int):=by rw[wrap_i64 (by omega) (by omega)];omega
       have HV:¬(dR a<2/\dR a=dR a')->iD 0 (w0++[y]++[(g,a::v)])=true:=fun hn=>by rw[J0,a5,afH,hy];have:=fun h=>hn (afo (v:=v') (w:=v) h ⟨e4,e2⟩);simp only[iD,Bool.and_true,Bool.true_and,ya];right;rw[Ao,<-Bool.not_eq_true];exact this
       clear hy;generalize i-1=j at*;by_cases dD:g=[]
       ·subst dD;by_cases hs:dR a<2
        ·have vR:(dR a:Int)<2:=by omega
         by_cases he:dR a=dR a'
         ·have ac6:(dR a':Int)<2:=by omega
          refine Δ (fun st=>(S st/\W (w0++[y]) st/\V st/\st.mem=Mm n2 x2 (w0++[y]).length/\st.e 9= .str (a::v))/\st.e 47= .bool true) (by simp[S,W,V,h0,h1,h6,h7,hm,h8,h9,aw,bP,bZ,dW,H9,th,we,ac6,he,aZ,e3,eW,mg,eK,bz,cN,nY,cQ,dd]) fun s4 ⟨⟨⟨h0,h1⟩,⟨h6,h7⟩,⟨bP,bZ,dW⟩,hm,h9⟩,vm⟩=>?_;refine κ.yes (by simp[vm]) (κ.done .normal (fun st=>S st/\W (w0++[y]) st/\V st/\st.mem=Mm n2 x2 (w0++[y]).length/\st.e 9= .str (a::v)/\st.e 10= .str [32]) (by simp[S,W,V,h0,h1,h6,h7,hm,h9,bP,bZ,dW]) fun s' g=> .inl ⟨rfl,[32],by simp[pW],full _ (by simp),g⟩)
         ·have heI:¬(dR a:Int)=dR a':=by omega
          refine Δ (fun st=>(S st/\W (w0++[y]) st/\V st/\st.mem=Mm n2 x2 (w0++[y]).length/\st.e 9= .str (a::v)/\st.e 10= .str [])/\st.e 47= .bool false) (by simp[S,W,V,h0,h1,h6,h7,hm,h8,h9,aw,bP,bZ,dW,H9,th,we,vR,he,heI,aZ,e3,eW,mg,eK,bz,cN,nY,cQ,dd]) fun s4 ⟨g,vm⟩=>?_;exact κ.no (by simp[vm]) ⟨_,rfl,.inl ⟨rfl,[],hg,HV fun h=>he h.2,g⟩⟩
        ·have vR:¬(dR a:Int)<2:=by omega
         refine Δ (fun st=>(S st/\W (w0++[y]) st/\V st/\st.mem=Mm n2 x2 (w0++[y]).length/\st.e 9= .str (a::v)/\st.e 10= .str [])/\st.e 47= .bool false) (by simp[S,W,V,h0,h1,h6,h7,hm,h8,h9,aw,bP,bZ,dW,H9,th,we,vR,eK,bz,cN,nY,cQ,dd]) fun s4 ⟨g,vm⟩=>?_;exact κ.no (by simp[vm]) ⟨_,rfl,.inl ⟨rfl,[],hg,HV fun h=>hs h.1,g⟩⟩
       ·refine Δ (fun st=>(S st/\W (w0++[y]) st/\V st/\st.mem=Mm n2 x2 (w0++[y]).length/\st.e 9= .str (a::v)/\st.e 10= .str g)/\st.e 47= .bool false) (by simp[S,W,V,h0,h1,h6,h7,hm,h8,h9,aw,bP,bZ,dW,H9,th,dD,eK,bz,cN,nY,cQ,dd]) fun s4 ⟨z,vm⟩=>?_;exact κ.no (by simp[vm]) ⟨_,rfl,.inl ⟨rfl,g,hg,full g dD,z⟩⟩
     have vG:(cd w).length<=25*w.length:=Wd fun y hy=>⟨HJ (a4 y hy),mf _ (List.mem_of_mem_take (by rw[<-a3];exact Ke hy))⟩;have vH:(a::v).length<=20:=by rw[<-e1];exact mf _ (c_ ψ)
     have Nt:=HJ hg;simp only[cD]at vH;have k1:¬(9223372036854775807:Int)<g.length+(v.length+1):=by omega
     have k2:¬(9223372036854775807:Int)<(cd w).length+(g.length+(v.length+1)):=by omega
     refine Δ (fun st=>st.e 6= .str (cd (w++[(g,a::v)]))/\S st/\V st/\st.mem=Mm n2 x2 w.length/\st.e 7=mL B.length ((jy 0 w).map fun e:Nat=>AV.n e)) (by simp[S,W,V,h0,h1,h6,h7,hm,h9,aw,bP,bZ,dW,afE,k1,k2]) fun s4 ⟨h6,⟨h0,h1⟩,⟨bP,bZ,dW⟩,hm,h7⟩=>?_;have dB:gC (Mm n2 x2 w.length) false 1 8 3 (mL B.length ((jy 0 w).map fun e:Nat=>AV.n e)) (.list .full [.n (cd (w++[(g,a::v)])).length])=some (mL B.length ((jy 0 (w++[(g,a::v)])).map fun e:Nat=>AV.n e),Mm n2 x2 (w.length+1)):=by have:=Qx (B.set ps (.cells (aG c bs n2 x2))) [] (ag:=false) (sz:=1) (bytes:=8) (e:=3) (l:=(jy 0 w).map fun e:Nat=>AV.n e) (y:= .n (cd (w++[(g,a::v)])).length) (by omega) (by simp[shaped,AV.one]) rfl rfl (by simp[LN];omega) (by simp[LN];omega);simpa[Mm,LN,aa8]using this
     generalize hL:cd (w++[(g,a::v)])=L at*;refine κ.done .normal (fun st=>S st/\(st.e 6= .str L/\st.e 7=mL B.length ((jy 0 (w++[(g,a::v)])).map fun e:Nat=>AV.n e))/\V st/\st.mem=Mm n2 x2 (w.length+1)) (by simp[S,V,h0,h1,h6,h7,hm,bP,bZ,dW,dB,shaped,AV.one,ν,Mem.ν]) fun s' ⟨z1,z2,z3,z4⟩=> .inr ⟨by simp,.inl ⟨rfl,n2,x2,g,b1,b2,hg,HV,z1,by rw[<-hL]at z2;exact z2,z3,z4⟩⟩
    ·have kS:bC .i64 ((i:Int)+1)=((i+1:Nat):Int):=by rw[wrap_i64 (by omega) (by omega)];simp
     refine κ.done .normal (fun st=>(S st/\W (w++[(g,a::v)]) st)/\st.mem=Mm n2 x2 (w.length+1)/\st.e 11=aZ cl l/\st.e 12= .n l.length/\st.e 13= .n ((i+1:Nat):Int)) (by simp[S,W,h0,h1,h6,h7,hm,bP,bZ,dW,kS]) fun s' ⟨⟨g1,g2⟩,g3,g4,g5,g6⟩=> .inl ⟨rfl,ψ,n2,x2,w++[(g,a::v)],by omega,by omega,?_,by omega,?_,b4,g1,g2,by rw[g3];simp,g4,g5,g6⟩
     ·rw[kr,a3,List.take_succ_eq_append_getElem ψ,e1];rfl
     ·intro y hy;rcases dT.1 hy with hy|hy
      ·exact a4 y hy
      ·rw[fU.1 hy];exact b3
   ·have M9:¬(i:Int)<l.length:=by omega
    refine κ.done (.exit 0) (fun st=>S st/\W w st/\st.mem=Mm n' x' w.length) (by simp[S,W,h0,h1,h6,h7,hm,bP,bZ,dW,M9]) fun s' ⟨g1,g2,g3⟩=> .inr ⟨by simp,.inl ⟨rfl,.inl ⟨rfl,n',x',w,a1,by omega,by rw[a3,List.take_of_length_le dD],a4,a5,g1,g2,g3⟩⟩⟩
  ·have xF:w.length=l.length:=by rw[<-a3];simp
   have vG:(cd w).length<=25*w.length:=Wd fun y hy=>⟨HJ (a4 y hy),mf _ (by rw[<-a3];exact Ke hy)⟩;have k0:¬(9223372036854775807:Int)<(cd w).length:=by omega
   have k1:¬(9223372036854775807:Int)<(cd w).length+1:=by omega
   have k2:¬(9223372036854775807:Int)<(cd w).length+4:=by omega
   obtain⟨x2,r,n2,b1,b2,b3,b4,kH⟩:=UW n' x' 3 w.length (by omega);have b4:=b4 (by omega);obtain⟨r,rfl⟩:∃j:Nat,r=j:=⟨r.toNat,by omega⟩;refine Δ (fun st=>∃tl,tl∈Ag/\st.mem=Mm n2 x2 w.length/\st.e 4= .str (cd w++tl)/\st.e 5=mL B.length ((jy 0 w).map fun e:Nat=>AV.n e)) ?_ fun s3 ⟨tl,hg,hm,h4,h5⟩=>?_
   ·have h5:r=0\/r=1\/r=2:=by omega
    rcases h5 with rfl|rfl|rfl<;>simp only[wF]at kH<;>simp[h0,h1,h6,h7,hm,kH,shaped,AV.one,ν,Mem.ν,Ag,k0,k1,k2]
   ·exact⟨(.ret,s3),rfl,by simp,x2,n2,w,tl,by omega,by omega,a3,a4,a5,hg,hm,h4,h5⟩
 obtain⟨q,hx,h1,x',n',w,tl,a1,a2,a3,a4,a5,a6,hm,h4,h5⟩:=hr;refine⟨x',n',w,tl,a1,a2,a3,a4,a5,a6,fun T=>?_⟩;refine ED (u:=u) (f:=38) (g:=HA) (B:=B.set ps (.cells (aG c bs n x))) (B':=B.set ps (.cells (aG c bs n' x'))) (args:=[.μ ps 0,aZ cl l]) rfl rfl rfl (by simp) (by simp[exp,hp,wV ep]) ⟨q,hx,h1,⟨_,hm⟩,[.str (cd w++tl),mL B.length ((jy 0 w).map fun e:Nat=>AV.n e)],by simp[HA,h4,h5],?_⟩ T;have h2:Dv (mL B.length ((jy 0 w).map fun e:Nat=>AV.n e)) (.list (if w=[]then .nil else .any) ((jy 0 w).map fun e:Nat=>AV.n e)):=by
  have:=TK B.length (bN.of (fun e:Nat=>AV.n e) (jy 0 w) fun x _=>Dv.int _ _);cases w with
  |nil=>exact this
  |cons y w=>exact this
 exact(Dv.aQ (.cons (.str _) (.cons h2 .nil))).aO _ _ _
def wW:List (List Nat)->Nat
 |[]=>0
 |w::l=>(w.length+5)+wW l
theorem ng:wW []=0:=rfl
theorem nR(w:List Nat)(l:List (List Nat)):wW (w::l)=(w.length+5)+wW l:=rfl
theorem mw(a b:List (List Nat)):wW (a++b)=wW a+wW b:=by
 induction a with
 |nil=>simp[wW]
 |cons w a ih=>simp[wW,ih];omega
theorem afF{w:GW}(h:∀y∈w,y.1.length<=5):(cd w).length<=wW (w.map alS):=by
 induction w with
 |nil=>exact bS _
 |cons y w ih=>
  have h1:=h y (by simp)
  have h2:=ih fun z hz=>h z (by simp[hz]);simp only[cd,cI,az,wW];omega
theorem cZ.w1{ts:List (List Nat)}{k:Nat}{i:ζ}(h:cZ ts k i)(hk:k<=2)(ht:∀t∈ts,dc t=true):wW i.words<=13/\i.kind<=2:=by
 cases h with
 |@fix _ n h1 h2=>have:=vh n.toNat;simp[ζ.words,tA,wW,ζ.kind];omega
 |@dS _ t h=>have:=pt (ht t h);simp[ζ.words,tA,wW,ζ.kind];omega
 |bin h0=>omega
theorem agM(k:Int):(sx k).length=1:=by unfold sx;split<;>(try split)<;>rfl
theorem cZ.w4{ts:List (List Nat)}{k:Nat}{i:ζ}(h:cZ ts k i)(hk:k<=4)(ht:∀t∈ts,dc t=true):wW i.words<=32:=by
 cases h with
 |@fix _ n h1 h2=>have:=vh n.toNat;simp[ζ.words,tA,wW];omega
 |@dS _ t h=>have:=pt (ht t h);simp[ζ.words,tA,wW];omega
 |@bin s k a b h0 h1 h2 ha hb=>
  obtain⟨a1,a2⟩:=ha.w1 (by omega) ht
  obtain⟨b1,b2⟩:=hb.w1 (by omega) ht;have e1:¬k=1:=by omega
  have e2:¬k=2:=by omega
  have s1:fW a.kind=false:=by simp[fW];omega
  have s2:fW b.kind=false:=by simp[fW];omega
  have s3:decide (3<=b.kind)=false:=by simp;omega
  have:=agM k;simp[ζ.words,ζ.JY,tA,e1,e2,s1,s2,s3,qj,mw,nR,this];omega
theorem f_.wW{fr:Nat}{s:Sc}(hs:bU fr s){p:ξ}(h:f_ s.aB s.turns p):wW p.words<=95:=by
 have h1:=pt (hs.named.1 _ h.nm);have h2:=h.len;have h3:∀x∈p.ix,Tz.wW x.words<=32:=fun x hx=>(h.pn x hx).w4 (bS _) hs.named.2.2.2;obtain⟨nm,c,ix⟩:=p;simp only at h1 h2 h3
 match ix,h2,h3 with
 |[],_,_=>simp[ξ.words,Tz.wW];omega
 |[a],_,h3=>have:=h3 a (by simp);simp[ξ.words,mw,nR,ng];omega
 |[a,b],_,h3=>have:=h3 a (by simp);have:=h3 b (by simp);simp[ξ.words,mw,nR,ng];omega
 |_::_::_::_,h2,_=>simp at h2
theorem ake(l:List (List (List Nat)))(n:Nat)(h:∀x∈l,wW x<=n):wW (kj l)<=l.length*(n+6):=by
 induction l with
 |nil=>exact tY _
 |cons a l ih=>
  have h1:=h a (by simp)
  have h2:=ih fun x hx=>h x (by simp[hx]);simp only[kj,mw,nR,ng,cD,eO,Nat.succ_mul];omega
theorem Sk(l:List (List (List Nat)))(n:Nat)(h:∀x∈l,wW x<=n):wW (iP l)<=l.length*(n+6):=by
 cases l with
 |nil=>exact tY _
 |cons a l=>
  have h1:=h a (by simp)
  have h2:=ake l n fun x hx=>h x (by simp[hx]);simp only[iP,mw,cD,Nat.succ_mul];omega
theorem Xg{fr:Nat}{s:Sc}(hs:bU fr s){l:List ξ}(h:∀p∈l,f_ s.aB s.turns p)(hl:l.length<=3):wW (iP (l.map ξ.words))<=303:=by
 have:=Sk (l.map ξ.words) 95 fun x hx=>by obtain⟨p,hp,rfl⟩:=eP.1 hx;exact(h p hp).wW hs
 rw[cg]at this;have h2:l.length*101<=3*101:=mD _ hl;omega
section
variable{bB:List (List Nat×Nat)}(cX:∀nm k,(nm,k)∈bB->dc nm=true/\k<=3)
include cX
mutual
theorem eZ.wW{d fr ax:Nat}{s s':Sc}{x:δ}(h:eZ bB d fr s x ax s')(hs:bU fr s):wW x.words<=334*x.cnt:=by
 match h with
 | .gate (g:=g) h1 h2 h3 h4 hc=>
  have h5:=Mh (g-1).toNat
  have:=Xg hs h4 (by rw[h3];unfold gb;split<;>(try split)<;>omega)
  simp only[bw,δ.words,fN,if_true];generalize fu.getD (g-1).toNat []=W at h5⊢;simp[aU,δ.cnt,bm,mw,nR,ng];omega
 | .take h1=>
  have:=h1.w4 (bS _) hs.named.2.2.2
  simp[bw,δ.words,fN,aU,δ.cnt,bm,bR,mw,nR,ng];omega
 | .drop h1=>
  have:=pt (hs.named.2.1 _ h1)
  simp[bw,δ.words,fN,aU,δ.cnt,bm,mw,nR,ng];omega
 | .borrow hd h1 h2 hc hn=>
  have:=h1.w4 (bS _) hs.named.2.2.2
  have:=aR.wW h2 hs.ml.inner;simp[bw,δ.words,fN,aU,δ.cnt,bm,bR,mw,nR,ng];omega
 | .measure (nm:=nm) (p:=p) h1 h2=>
  have:=h1.wW hs
  have hn:nm.length<=8:=by
   rcases h2 with rfl|h2
   ·exact pt (pz 98 _ (by omega) (by omega))
   ·exact pt (hs.named.2.2.1 _ h2)
  simp only[bw,δ.words,fN];simp[aU,δ.cnt,bm,iP,kj,mw,nR,ng];omega
 | .reset (p:=p) h1=>
  have:=h1.wW hs
  simp only[bw,δ.words,fN];simp[aU,δ.cnt,bm,iP,kj,mw,nR,ng];omega
 | .cond (nm:=nm) (els:=els) hd h1 h2 h3 hc hn gX gF=>
  have:=pt (hs.named.2.2.1 _ h1)
  have h4:=aR.wW h2 hs.inner;have h5:=aR.wW h3 (hs.inner.mono (aR.le h2));have h6:=Kz 7;simp only[bw,δ.words,fN,aU,δ.cnt,bm];generalize ns 7=B7 at h6⊢;by_cases he:els.length=0<;>simp[he,mw,nR,ng]<;>omega
 | .loop hd h1 h2 h3 hc hn=>
  have:=h1.w4 (by omega) hs.named.2.2.2
  have:=h2.w4 (by omega) hs.named.2.2.2;have:=aR.wW h3 hs.dS.inner;simp[bw,δ.words,fN,aU,δ.cnt,bm,bR,mw,nR,ng];omega
 | .call h1 h2 h3 hc=>
  have:=pt (cX _ _ h1).1
  have:=Xg hs h3 (by rw[h2];exact(cX _ _ h1).2);simp[bw,δ.words,fN,aU,δ.cnt,bm,mw,nR,ng];omega
 | .qp hd h2 hc hn=>
  have:=aR.wW h2 hs.inner
  simp[bw,δ.words,fN,aU,δ.cnt,bm,mw,nR,ng];omega
 | .within hd h2 h3 hc hn gX gF=>
  have h4:=aR.wW h2 hs.inner
  have h5:=aR.wW h3 (hs.inner.mono (aR.le h2));simp[bw,δ.words,fN,aU,δ.cnt,bm,ns,mw,nR,ng];omega
theorem aR.wW{d fr ax:Nat}{s:Sc}{l:List δ}(h:aR bB d fr s l ax)(hs:bU fr s):wW (kI l)<=334*δ.bL l:=by
 match h with
 | .nil=>simp[kI,ng]
 | .cons h1 h2=>
  have:=eZ.wW h1 hs
  have:=aR.wW h2 (h1.sc hs);simp only[kI,mw,δ.bL];omega
end
end
theorem ain(a b:List τ):gi (a++b)=gi a++gi b:=by
 induction a with
 |nil=>rfl
 |cons x a ih=>simp[gi,ih]
theorem nU.wW{bB:List (List Nat×Nat)}(cX:∀nm k,(nm,k)∈bB->dc nm=true/\k<=3){fr ax:Nat}{x:τ}(h:nU bB fr ax x)(hf:ax<=675):wW x.words<=13600:=by
 have h1:=aR.wW cX h.body (h.scope hf);have h2:=h.cnt;have h3:=Sk (x.au.map ak.words) 28 fun y hy=>by obtain⟨p,hp,rfl⟩:=eP.1 hy;obtain⟨j,hj,rfl⟩:=u_ hp;have e:=(h.au j hj).1;have:=vh (x.au[j].size.toNat);simp[ak.words,e,bR,nR,ng];omega
 have h4:=h.vj;rw[cg]at h3;have h5:x.au.length*34<=2*34:=mD _ h4;have h6:=h.nm;simp only[τ.words,bW,mw,nR,ng,h6];simp[bR];omega
theorem gS.wW{l:List τ}{fr:Nat}(h:gS l fr)(hf:fr<=675):wW (gi l)<=13600*l.length:=by
 induction h with
 |nil=>simp[gi,ng]
 |@snoc l x fr ax h1 h2 ih=>
  have hle:=h2.le
  have M7:=h1.vj;have hn:=Po h1;have:=ih (by omega);have:=h2.wW (fun nm k hk=>⟨hn nm k hk,by
   obtain⟨y,hy,e⟩:=eP.1 hk
   rw[aA]at e;have:=M7 y hy;omega⟩) hf
  rw[ain];simp only[mw,gi,dF,cI,cD,eO];omega
theorem abI{g:List Nat}(h:g∈pW):Lay g:=by
 simp only[pW,cy,lE,or_false]at h;rcases h with rfl|rfl|rfl|rfl|rfl
 ·exact .nil
 ·exact .sp (by simp)
 ·exact .sp (by simp)
 ·refine⟨fun r=>?_,fun b hb=>?_⟩
  ·simp[bY];omega
  ·simp at hb;omega
 ·exact .sp (by simp)
theorem PZ{z:List Nat}(h:z∈Ag):bY false z=z.length/\du z/\z.length<=4:=by
 simp only[Ag,cy,lE,or_false]at h;rcases h with rfl|rfl|rfl
 ·exact⟨rfl,by simp[du],by simp⟩
 ·exact⟨rfl,by simp[du],by simp⟩
 ·exact⟨rfl,by simp[du],by simp⟩
theorem kZ.Dg{g r:List Nat}{l:List (List Nat)}(hg:nV g)(h:kZ r l):kZ (g++r) l:=by
 induction g with
 |nil=>exact h
 |cons b g ih=>exact .gg (hg b (by simp)) (ih fun c hc=>hg c (by simp[hc]))
theorem akx{v r:List Nat}{l:List (List Nat)}(hv:lj v)(hs:Sep v r)(h:kZ r l):kZ (v++r) (v::l):=by
 have go:∀(b:Nat) (v:List Nat),¬(b=32\/b=10)->runN (m_ (dR b)) (v++r)=v.length->kZ (b::v++r) ((b::v)::l):=fun b v hb hr=>by have:=kZ.word (b:=b) (r:=v++r) (l:=l) hb (by rw[hr,List.drop_left];exact h);rw[hr,List.take_left]at this;exact this
 have hk:∀b v,di (b::v)=if isLet b then 1 else if ca b then 2 else b:=fun _ _=>rfl;cases hv with
 |lets h1 h2 h3=>
  cases v with
  |nil=>exact absurd rfl h1
  |cons b v=>
   have hb:=h3 b (by simp)
   refine go b v (by simp[isLet]at hb;omega) (Jw _ _ _ (fun c hc=>?_) fun c hc=>?_)
   ·have:=h3 c (by simp[hc]);simp[m_,dR,hb,this]
   ·have:=(hs c hc).1;rw[hk,if_pos hb]at this;cases hl:isLet c with
    |true=>exact absurd ⟨rfl,hl⟩ this
    |false=>simp[m_,dR,hb,hl];split<;>omega
 |@num n hn=>
  have hd:∀b∈fq n,ca b=true:=by
   intro b hb;unfold fq at hb;split at hb
   ·rw[fU.1 hb];simp[ca];omega
   ·rcases cy.1 hb with rfl|hb
    ·simp[ca];omega
    ·rw[fU.1 hb];simp[ca];omega
  have φ:fq n≠[]:=by unfold fq;split<;>simp
  generalize fq n=w at*;cases w with
  |nil=>exact absurd rfl φ
  |cons b v=>
   have hb:=hd b (by simp)
   have nl:∀c,ca c=true->isLet c=false:=fun c h=>by simp[ca]at h;simp[isLet];omega
   refine go b v (by simp[ca]at hb;omega) (Jw _ _ _ (fun c hc=>?_) fun c hc=>?_)
   ·have:=hd c (by simp[hc]);simp[m_,dR,hb,this,nl b hb,nl c this]
   ·have:=(hs c hc).2;rw[hk,nl b hb,hb]at this;cases hl:ca c with
    |true=>exact absurd ⟨rfl,hl⟩ this
    |false=>simp[m_,dR,hb,nl b hb,hl];split<;>omega
 |@sign b h=>
  obtain⟨h1,h2,h3⟩:=E6 h
  refine go b [] (fun e=>?_) ?_
  ·rcases e with rfl|rfl<;>exact absurd h (by decide)
  ·cases r with
   |nil=>rfl
   |cons c r=>simp[runN,m_,dR,h1,h2]
theorem So:∀(w:GW) (k:Nat) (z:List Nat),AA w->iD k w=true->nV z->kZ (cd w++z) (w.map alS)
 |[],k,z,_,_,hz=>by have:=kZ.Dg hz .nil;simpa[cd]using this
 |(g,v)::w,k,z,hw,ha,hz=>by
  simp only[iD,ej]at ha;have hx:=hw (g,v) (by simp);have lS:AA w:=fun y hy=>hw y (by simp[hy]);have hl:bY false z=z.length:=by have:=(Lay.sp hz).go [];simpa[bY]using this
  have:=(akx hx.2 (XX lS.HL ha.2 (Wg hl)) (So w _ z lS ha.2 hz)).Dg hx.1;simpa[cd,List.append_assoc]using this
theorem Sr{l:List τ}(h:∀p∈l,p.Can)(φ:l≠[]):kZ (fI l) (gi l)/\∀t∈gi l,lj t:=by obtain⟨w,e1,e2,e3,e4⟩:=aio h φ;refine⟨by rw[e1,<-e2];exact So w 0 [10] e3 e4 (by simp[nV]),fun t ht=>?_⟩;rw[<-e2]at ht;obtain⟨y,hy,rfl⟩:=eP.1 ht;exact(e3 y hy).2
attribute [local simp] rO
theorem Yj:∀(w:GW) (n:Nat),sW (oH n w)=none
 |[],_=>rfl
 |x::w,n=>by simp[oH,sW,Yj w]
theorem Yi:∀(w:GW) (n:Nat),(oH n w).length=w.length
 |[],_=>rfl
 |x::w,n=>by simp[oH,Yi w]
theorem Yh:∀(w:GW) (n i:Nat) (h:i<w.length),∃pos,(oH n w)[i]?=some ⟨pos,di w[i].2,w[i].2,-1⟩/\(jy n w)[i]?=some (pos+w[i].2.length)/\pos+w[i].2.length<=n+(cd w).length
 |[],_,_,h=>absurd h (Nat.not_lt_zero _)
 |x::w,n,0,_=>⟨n+x.1.length,by simp[oH],by simp[jy];omega,by simp[cd];omega⟩
 |x::w,n,i+1,h=>by obtain⟨pos,h1,h2,h3⟩:=Yh w (n+x.1.length+x.2.length) i (by simpa using h);rw[rz]at h2;refine⟨pos,by simpa[oH]using h1,by simpa[jy]using h2,?_⟩;simp only[cd,cI,List.getElem_cons_succ]at h3⊢;omega
structure LT (p:List τ) (w:GW) (tl:List Nat):Prop where
 words:w.map alS=gi p
 Dg:∀y∈w,y.1∈pW
 YY:iD 0 w=true
 tail:tl∈Ag
section
variable{cp:ρ}{p:List τ}(h:Md cp p)
include h
theorem Md.ne:p≠[]:=fun e=>by have:=h.len.1;rw[e]at this;simp at this
theorem Md.can:∀x∈p,x.Can:=by obtain⟨fr,h1,h2⟩:=h.made;exact h1.can h2
theorem Md.cut:kZ (fI p) (gi p):=(Sr h.can h.ne).1
theorem Md.JW:∀t∈gi p,lj t:=(Sr h.can h.ne).2
variable{w:GW}{tl:List Nat}(k:LT p w tl)
include k
theorem LT.HL:wE w:=fun y hy=>⟨abI (k.Dg y hy),h.JW _ (by rw[<-k.words];exact Ke hy)⟩
theorem LT.cj:Θ.cj (cd w++tl)=oH 0 w:=ako (k.HL h) k.YY (PZ k.tail).1
theorem LT.len:(cd w++tl).length<=60000:=by have h1:=afF fun y hy=>HJ (k.Dg y hy);have h2:=(PZ k.tail).2.2;obtain⟨fr,m1,m2⟩:=h.made;have h3:=m1.wW m2;have h4:=h.len.2;rw[k.words]at h1;rw[cI];omega
theorem LT.ok:du (cd w++tl):=fun b hb=>(dT.1 hb).elim ((k.HL h).ok b) ((PZ k.tail).2.1 b)
theorem LT.read:(dr (cd w++tl)).1.1=p/\(dr (cd w++tl)).2.1=0/\(dr (cd w++tl)).2.2=0:=by
 have hlen:=LT.len h k;have Ms:¬65536<(cd w++tl).length:=by omega
 have ht:=LT.cj h k;have sd:TS (gi p) (Θ.cj (cd w++tl)):=by rw[ht,<-k.words];exact akn w 0
 obtain⟨lz,-,e5⟩:=aiv (cd w++tl).length h.can sd;generalize cd w++tl=T at*;simp[dr,Ms,e5,h.right]
theorem LT.parse(m:Mem):kf u 39 [.str (cd w++tl)] m=some (.aQ [.agg [.list .any (p.map τ.av)],.n 0,.n 0],m):=by have:=O' (u:=u) (cd w++tl) (LT.ok h k) (by have:=LT.len h k;omega) (by rw[(LT.read h k).1];exact h.ok) m;obtain⟨e1,e2,e3⟩:=LT.read h k;rw[e1,e2,e3,h.cap]at this;exact this
theorem LT.tidy(m:Mem):kf u 56 [.str (cd w++tl)] m=some (.aQ [.str (fI p),.n 0,.n 0],m):=by have:=W2 (u:=u) (cd w++tl) (LT.ok h k) (by have:=LT.len h k;omega) (by rw[(LT.read h k).1];exact h.ok) m;obtain⟨e1,e2,e3⟩:=LT.read h k;rw[Jd,e1,e2,e3,if_pos rfl]at this;exact this
theorem LT.tokens(m:Mem):∃ct,kf u 55 [.str (cd w++tl)] m=some (.aQ [.list ct ((oH 0 w).map Tok.ef),.n 0,.n 0],m):=by
 have hlen:=LT.len h k;have Ms:¬65536<(cd w++tl).length:=by omega
 have:=f55 (u:=u) (cd w++tl) (LT.ok h k) (by omega) m;rw[Fc,if_neg Ms,LT.cj h k,Yj]at this;exact⟨_,this⟩
end
structure LW (n:Nat) (TL EL WL:List AV):Prop where
 tl:TL.length=n
 at_:∀i,i<n->∃(pos:Nat) (a:Nat) (r:List Nat),TL[i]?=some (.agg [.n pos,.n (di (a::r)),.str (a::r)])/\EL[i]?=some (.n ((pos+(r.length+1):Nat):Int))/\WL[i]?=some (.str (a::r))/\pos+(r.length+1)<=60000/\a<256
theorem LT.lw{cp:ρ}{p:List τ}(h:Md cp p){w:GW}{tl:List Nat}(k:LT p w tl):LW w.length ((oH 0 w).map Tok.ef) ((jy 0 w).map fun e:Nat=>AV.n e) ((gi p).map AV.str):=by
 refine⟨by simp[Yi],fun i hi=>?_⟩;obtain⟨pos,h1,h2,h3⟩:=Yh w 0 i hi;have hlen:=LT.len h k;rw[cI]at hlen;have hw:w[i].2∈gi p:=by rw[<-k.words];exact Ke (c_ hi)
 have hk:=h.JW _ hw;have φ:=hk.kind.2;have hg:(gi p)[i]?=some w[i].2:=by rw[<-k.words,lB,dn hi];rfl
 generalize w[i].2=v at*;cases v with
 |nil=>exact absurd rfl φ
 |cons a r=>
  refine⟨pos,a,r,by rw[lB,h1];rfl,by rw[lB,h2];rfl,by rw[lB,hg];rfl,?_,hk.ok a (by simp)⟩
  simp only[cD]at h3;omega
theorem ahN{gl:Nat->AV}{c:cx}{a:AC}{i:Nat}{s:St}{M:St->Prop}(h:κ gl c a s fun q=>q.1= .normal/\M q.2):∃s',exec gl c dN (.block i a) s=some (.normal,s')/\M s':=by obtain⟨⟨e,s'⟩,h1,h2,h3⟩:=h;dsimp only at h2 h3;subst h2;exact⟨s',by simp[h1],h3⟩
theorem r11{n:Nat}{TL EL WL:List AV}(h:LW n TL EL WL)(hn:n<1000000)(ct ce cl:ρ)(M:Mem){s:St}(hm:s.mem=M)(h8:s.e 8= .list cl WL)(aw:s.e 10= .list ce EL)(mN:s.e 96= .list ct TL)(mO:s.e 97= .n n)(mP:s.e 98= .n 0):
  κ (C u).gl (ab (C u)) (.block 0 (.loop ID)) s fun q=>q.1= .normal/\q.2.mem=M:=by
 let K:St->Prop:=fun st=>st.mem=M/\st.e 8= .list cl WL/\st.e 10= .list ce EL/\st.e 96= .list ct TL/\st.e 97= .n n;let I:Nat->St->Prop:=fun i st=>K st/\st.e 98= .n i;refine κ.block (κ.kp (I:=I) n ⟨⟨hm,h8,aw,mN,mO⟩,mP⟩ fun i st hi ⟨⟨hm,h8,aw,mN,mO⟩,mP⟩=>?_);unfold ID;rcases da i n with ψ|dD
 ·have Bx:(i:Int)<n:=by omega
  obtain⟨pos,a,r,g1,g2,g3,g4,g5⟩:=h.at_ i ψ;have dH:bC .i64 (((pos+(r.length+1):Nat):Int)-(r.length+1))=pos:=by rw[wrap_i64 (by omega) (by omega)];omega
  have kS:bC .i64 ((i:Int)+1)=((i+1:Nat):Int):=by rw[wrap_i64 (by omega) (by omega)];simp
  have hwa:bC .i64 (a:Int)=a:=wrap_i64 (by omega) (by omega);obtain⟨t1,v1⟩:=fB.1 g1;obtain⟨t2,v2⟩:=fB.1 g2;obtain⟨t3,v3⟩:=fB.1 g3;have we:=fun(b:Nat) m=>f75 (u:=u) b m;generalize pos+(r.length+1)=e at*;refine Δ (fun st=>(K st/\st.e 98= .n i)/\st.e 99= .bool true) (by simp[K,hm,h8,aw,mN,mO,mP,Bx]) fun s1 ⟨⟨⟨hm,h8,aw,mN,mO⟩,mP⟩,h99⟩=>?_;refine Δ (fun st=>K st/\st.e 98= .n i) (by simp[K,hm,h8,aw,mN,mO,mP,h99]) fun s1 ⟨⟨hm,h8,aw,mN,mO⟩,mP⟩=>?_;refine Δ (fun st=>K st/\st.e 98= .n i) ?_ fun s1 ⟨⟨hm,h8,aw,mN,mO⟩,mP⟩=>?_
  ·refine ahN ?_;refine Δ (fun st=>(K st/\st.e 98= .n i)/\st.e 20= .n i/\st.e 21= .aj 21 (bz (bQ s1.loc) 21) 0/\st.q 21=some (bz (bQ s1.loc) 21,.cells [.n pos,.n (di (a::r)),.str (a::r)])) (by simp[K,hm,h8,aw,mN,mO,mP,v1,t1,dd]) fun s2 ⟨⟨⟨hm,h8,aw,mN,mO⟩,mP⟩,sY,Bh,IT⟩=>?_;generalize bz (bQ s1.loc) 21=vv at Bh IT;refine Δ (fun st=>((K st/\st.e 98= .n i)/\st.e 20= .n i/\st.e 21= .aj 21 vv 0/\st.q 21=some (vv,.cells [.n pos,.n (di (a::r)),.str (a::r)]))/\st.e 22= .n (di (a::r))) ?_ fun s2 ⟨⟨⟨⟨hm,h8,aw,mN,mO⟩,mP⟩,sY,Bh,IT⟩,Mn⟩=>?_
   ·have hk:di (a::r)=if isLet a then 1 else if ca a then 2 else a:=rfl;have hs:dR a=if isLet a then 0 else if ca a then 1 else 2:=rfl;cases q1:isLet a<;>cases q2:ca a<;>simp[q1,q2]at hk hs<;>simp[K,hm,h8,aw,mN,mO,mP,sY,Bh,IT,v3,t3,we,hk,hs,hwa,eK,bz,cN,nY,cQ,dd,shaped,AV.one,ν,Mem.ν]
   ·refine Δ (fun st=>(K st/\st.e 98= .n i)/\st.e 145= .bool false) (by simp[K,hm,h8,aw,mN,mO,mP,sY,Bh,IT,Mn,v2,v3,t2,t3,dH,eK,bz,cN,nY,cQ,dd]) fun s3 ⟨⟨⟨hm,h8,aw,mN,mO⟩,mP⟩,abU⟩=>?_;exact κ.no (by simp[abU]) ⟨_,rfl,rfl,⟨hm,h8,aw,mN,mO⟩,mP⟩
  ·refine κ.done .normal (fun st=>K st/\st.e 98= .n ((i+1:Nat):Int)) (by simp[K,hm,h8,aw,mN,mO,mP,kS]) fun s' g=> .inl ⟨rfl,ψ,g⟩
 ·have M9:¬(i:Int)<n:=by omega
  refine κ.done (.exit 0) (fun st=>st.mem=M) (by simp[hm,h8,aw,mN,mO,mP,M9]) fun s' g=> .inr ⟨by simp,.inl ⟨rfl,rfl,g⟩⟩
theorem Yv{t:List Nat}(h:lj t):(∃a v,t=a::v/\2<a)/\t.length<=20:=by
 cases h with
 |lets h1 h2 h3=>
  cases t with
  |nil=>exact absurd rfl h1
  |cons a v=>exact⟨⟨a,v,rfl,by have:=h3 a (by simp);simp[isLet]at this;omega⟩,by omega⟩
 |@num n h=>
  have:=vh n
  refine⟨?_,by omega⟩;unfold fq;split
  ·exact⟨_,_,rfl,by omega⟩
  ·exact⟨_,_,rfl,by omega⟩
 |sign h=>exact⟨⟨_,[],rfl,(E6 h).2.2⟩,by simp⟩
theorem f11(c c':ρ)(hc:bp c)(gX:bp c')(bs kx:List Nat)(hn:c= .nil->bs=[])(gF:c'= .nil->kx=[]):kf u 11 [gn c bs,gn c' kx] {ε:=[],η:=[]}=some (.bool true,{ε:=[],η:=[]}):=by
 obtain⟨b1,lX,cp,p,hp,q1,q2⟩:=agh (u:=u) c hc bs hn [];obtain⟨c2,Dw,q3⟩:=f36 (u:=u) c' gX kx gF [lX];have dH:(gi p).length<1000000:=by have:=hp.cut.len;have:=hp.jH;omega
 have XA:=fun m=>f37 (u:=u) (fI p) (gi p) hp.cut hp.jH m;have adk:gi p≠[]:=by have h1:=Xl p;have h2:=hp.len.1;intro e;rw[e]at h1;simp at h1;rw[h1]at h2;simp at h2
 rw[if_neg adk]at XA;obtain⟨x',n',w,tl,-,-,k1,k2,k3,k4,BZ⟩:=f38 (u:=u) (c:=c2) (bs:=kx.take 300) (B:=[lX,.cells (aG c2 (kx.take 300) 0 2463534242)]) (ps:=1) (by simp) (by simp;omega) .any (.inr rfl) (gi p) dH (fun t ht=>(Yv (hp.JW t ht)).1) (fun t ht=>(Yv (hp.JW t ht)).2) 0 2463534242 (by omega);have kk:LT p w tl:=⟨k1,k2,k3,k4⟩;obtain⟨qy,dz⟩:∃qy,θ.cells (aG c2 (kx.take 300) n' x')=qy:=⟨_,rfl⟩;simp only[List.set_cons_succ,List.set_cons_zero,dz]at BZ;let M:Mem:= {ε:=[lX,qy],η:=[]};have e1:=hp.print (u:=u) {ε:=[lX],η:=[]};have SL:=XA {ε:=[lX],η:=[]};have e2:=LT.parse (u:=u) hp kk M;have e3:=LT.tidy (u:=u) hp kk M;obtain⟨ct,e4⟩:=LT.tokens (u:=u) hp kk M;have hrefl:ie τ.eqv p p=true:=wK p fun x _=>x.ug;have qS:Md .any p:=⟨.inr rfl,hp.made,hp.len⟩;have e6:=qS.same (u:=u) hp M;rw[hrefl]at e6;have e9:=abj (u:=u) lX qy;have Ii:=LT.lw hp kk;have xF:w.length=(gi p).length:=by rw[<-k1];simp
 have xu:w.length<1000000:=by omega
 have hex:∀(c:ρ) (bs:List Nat),bp c->exp 0 false (gn c bs)=gn c bs:=fun c bs h=>by
  have:aX 0 false (bs.map fun b:Nat=>AV.int .u8 (b:Int))=bs.map fun b:Nat=>AV.int .u8 (b:Int):=by rw[fe,List.map_map];rfl
  simp only[gn,exp,this,fR h]
 refine dI (g:=g11) rfl rfl rfl ?_;simp only[az,aJ,eO,hex c bs hc,hex c' kx gX];generalize gn c bs=A1 at q1⊢;generalize gn c' kx=A2 at q3⊢;generalize fI p=s at*;generalize cd w++tl=t at*;generalize p.map τ.av=X at*;simp only[aZ]at SL BZ;have hWL:((gi p).map AV.str).length=w.length:=by simp[xF]
 generalize(gi p).map AV.str=WL at*;generalize(jy 0 w).map (fun e:Nat=>AV.n e)=EL at*;have Uh:((oH 0 w).map Tok.ef).length=w.length:=Ii.tl;generalize(oH 0 w).map Tok.ef=TL at*;generalize w.length=n at*;obtain⟨ce,vA⟩:∃ce:ρ,(if w=[]then ρ.nil else .any)=ce:=⟨_,rfl⟩;rw[vA]at BZ;simp only[eO,bE,cD,List.cons_append]at q1 q2 q3;have hM:M= {ε:=[lX,qy],η:=[]}:=rfl;rw[hM]at e2 e3 e4 e6;have BZ:=BZ [];unfold g11 QS;let K:St->Prop:=fun st=>st.e 5= .aj 5 0 0/\st.q 5=some (0,.cells [.list cp X])/\st.q 11=none;refine Δ (fun st=>st.e 0=A1/\st.e 1=A2/\st.mem= {ε:=[],η:=[]}/\st.loc=[]) (by simp) fun s1 ⟨h0,h1,h2,h3⟩=>?_;refine Δ (fun st=>(K st/\st.mem= {ε:=[lX],η:=[]})/\st.e 1=A2) (by simp[K,h0,h1,h2,h3,q1,q2,bz]) fun s1 ⟨⟨⟨h5,l5,nJ⟩,hm⟩,h1⟩=>?_;refine Δ (fun st=>((K st/\st.mem= {ε:=[lX],η:=[]})/\st.e 1=A2)/\st.e 6= .str s/\st.e 7= .n 0) (by simp[K,hm,h1,h5,l5,nJ,e1]) fun s1 ⟨⟨⟨⟨h5,l5,nJ⟩,hm⟩,h1⟩,h6,h7⟩=>?_;refine Δ (fun st=>((K st/\st.mem= {ε:=[lX],η:=[]})/\st.e 1=A2)/\st.e 6= .str s) (by simp[K,hm,h1,h5,l5,nJ,h6,h7]) fun s1 ⟨⟨⟨⟨h5,l5,nJ⟩,hm⟩,h1⟩,h6⟩=>?_;refine Δ (fun st=>(((K st/\st.mem= {ε:=[lX],η:=[]})/\st.e 1=A2)/\st.e 6= .str s)/\st.e 8= .list .any WL) (by simp[K,hm,h1,h5,l5,nJ,h6,SL]) fun s1 ⟨⟨⟨⟨⟨h5,l5,nJ⟩,hm⟩,h1⟩,h6⟩,h8⟩=>?_;refine Δ (fun st=>((K st/\st.mem= {ε:=[lX,qy],η:=[]})/\st.e 6= .str s/\st.e 8= .list .any WL)/\st.e 9= .str t/\st.e 10= .list ce EL) (by simp[K,hm,h1,h5,l5,nJ,h6,h8,q3,BZ]) fun s1 ⟨⟨⟨⟨h5,l5,nJ⟩,hm⟩,h6,h8⟩,h9,aw⟩=>?_;let K2:St->Prop:=fun st=>(st.e 5= .aj 5 0 0/\st.q 5=some (0,.cells [.list cp X])/\st.mem= {ε:=[lX,qy],η:=[]})/\(st.e 6= .str s/\st.e 8= .list .any WL)/\st.e 9= .str t/\st.e 10= .list ce EL;let K3:St->Prop:=fun st=>st.e 11= .aj 11 0 0/\st.q 11=some (0,.cells [.list .any X])/\st.e 12= .n 0/\st.e 13= .n 0;let K4:St->Prop:=fun st=>st.e 14= .str s/\st.e 15= .n 0/\st.e 16= .n 0;refine Δ (fun st=>K2 st/\K3 st) (by simp[K2,K3,hm,h5,l5,nJ,h6,h8,h9,aw,e2,bz]) fun s1 ⟨⟨⟨h5,l5,hm⟩,⟨h6,h8⟩,h9,aw⟩,⟨bP,vX,bZ,dW⟩⟩=>?_;refine Δ (fun st=>(K2 st/\K3 st)/\K4 st) (by simp[K2,K3,K4,hm,h5,l5,h6,h8,h9,aw,bP,vX,bZ,dW,e3]) fun s1 ⟨⟨⟨⟨h5,l5,hm⟩,⟨h6,h8⟩,h9,aw⟩,⟨bP,vX,bZ,dW⟩⟩,⟨nA,mM,l8⟩⟩=>?_;refine Δ (fun st=>((K2 st/\K3 st)/\K4 st)/\st.e 17= .list ct TL/\st.e 18= .n 0/\st.e 19= .n 0) (by simp[K2,K3,K4,hm,h5,l5,h6,h8,h9,aw,bP,vX,bZ,dW,nA,mM,l8,e4]) fun s1 ⟨⟨⟨⟨⟨h5,l5,hm⟩,⟨h6,h8⟩,h9,aw⟩,⟨bP,vX,bZ,dW⟩⟩,⟨nA,mM,l8⟩⟩,nB,bo,bu⟩=>?_;have w0:bC .i64 0=0:=wrap_i64 (by omega) (by omega);have wn:bC .i64 (n:Int)=n:=wrap_i64 (by omega) (by omega);let L:St->Prop:=fun st=>st.mem= {ε:=[lX,qy],η:=[]}/\st.e 8= .list .any WL/\st.e 10= .list ce EL/\st.e 17= .list ct TL;refine Δ (L) ?_ fun s1 ⟨hm,h8,aw,nB⟩=>?_
 ·obtain⟨s2,x1,x2,x3⟩:∃s2,exec (C u).gl (ab (C u)) dN (.skip:AC) s1=some (.normal,s2)/\s2=s1/\True:=⟨s1,rfl,rfl,trivial⟩;clear x1 x2 x3 s2;simp[L,hm,h5,l5,h6,h8,h9,aw,bP,vX,bZ,dW,nA,mM,l8,nB,bo,bu,e6,w0,hWL,Uh,wn,cN,cQ]
 refine Δ (fun st=>st.mem= {ε:=[lX,qy],η:=[]}) ?_ fun s1 hm=>?_
 ·have hr:κ (C u).gl (ab (C u)) (.seq (.ops [⟨(some 96),.mv (.t 17),none⟩,⟨(some 97),.len (.t 96),none⟩,⟨(some 98),.mv (.c (.n 0)),none⟩]) (.block 0 (.loop ID))) s1 fun q=>q.1= .normal/\q.2.mem= {ε:=[lX,qy],η:=[]}:=by refine Δ (fun st=>st.mem= {ε:=[lX,qy],η:=[]}/\st.e 8= .list .any WL/\st.e 10= .list ce EL/\st.e 96= .list ct TL/\st.e 97= .n n/\st.e 98= .n 0) (by simp[hm,h8,aw,nB,Uh,wn]) fun s2 ⟨hm,h8,aw,mN,mO,mP⟩=>?_;exact r11 Ii xu ct ce .any _ hm h8 aw mN mO mP
  obtain⟨⟨e,s'⟩,z1,z2,z3⟩:=hr;dsimp only at z2 z3;subst z2;exact⟨s',z1,z3⟩
 refine κ.done .ret (fun st=>st.mem= {ε:=[lX,qy],η:=[]}/\st.e 4= .bool true) (by simp[hm,e9]) fun s' ⟨m1,m2⟩=>⟨by simp,⟨[lX,qy],by simp[m1]⟩,[.bool true],by simp[m2],by simp⟩
end Go.Θ.Tz
