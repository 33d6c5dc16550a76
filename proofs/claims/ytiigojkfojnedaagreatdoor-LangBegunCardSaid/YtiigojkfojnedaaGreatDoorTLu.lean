import Derived.Test.YtiigojkfojnedaaGreatDoorTOa
import Derived.Test.YtiigojkfojnedaaGreatDoorTHw
import Derived.Test.YtiigojkfojnedaaGreatDoorTNa
import Derived.Test.YtiigojkfojnedaaGreatDoorTMm
set_option linter.all false
set_option maxRecDepth 100000
set_option maxHeartbeats 8000000
open List renaming mem_map->eT,nil_append->bG,getElem_of_mem->wy,mem_append->dE,mem_singleton->fK,length_map->cF,length_append->cD,length_nil->eI,length_cons->cE,all_eq_true->dS,mem_cons->cw,map_cons->aA,map_nil->aP,length_drop->kZ,drop_eq_getElem_cons->mQ,drop_eq_nil_of_le->JY,append_nil->de,not_mem_nil->lF,length->ki,length_take->kE,getElem_mem->df,getElem?_map->nD,getElem?_eq_getElem->dN,eq_nil_or_concat->aly,map_append->jT,mem_of_mem_take->pn,mem_map_of_mem->alz,take_succ_eq_append_getElem->uY,take_of_length_le->fw,drop_left->alB,take_left->B5,append_assoc->bH,cons_append->cy,append_eq_nil_iff->alD,length_pos_iff->mR,take_append_drop->B0,append_inj'->alE,getElem?_eq_some_iff->fu
open Prod.mk renaming injEq->az
open Bool renaming and_eq_true->dW,or_eq_true->xU,not_eq_true'->zZ
open Nat renaming le_refl->bA,mul_le_mul_right->mq,blt->qf,blt_eq->alx,lt_or_ge->cX,zero_add->lj,add_assoc->qc,eq_zero_or_pos->J7,zero_le->q_,succ_mul->alA,not_lt_zero->E1,le_add_right->alC,mod_lt->lf
open Go.IntKind renaming wrap->bC
open Prod renaming snd->tO
open Int renaming cast_ofNat_Int->uX
namespace Go.Δ.Tz
open Go.Δ
theorem cW.can{ts:List (List Nat)}{k:Nat}{i:η}(h:cW ts k i)(ht:∀t∈ts,c_ t=true):i.Can:=by
 induction h with
 |fix h1 h2=>exact .fix h1 h2
 |dR h=>exact .dR (ht _ h)
 |bin h0 h1 h2 ha hb dK gu=>exact .bin h1 h2 dK gu
theorem bU.named{fr:Nat}{s:Sc}(h:bU fr s):(∀t∈s.aB,c_ t=true)/\(∀t∈s.cz,c_ t=true)/\(∀t∈s.bits,c_ t=true)/\(∀t∈s.turns,c_ t=true):=by
 have h1:∀t∈s.aB,c_ t=true:=fun t ht=>by obtain⟨a,i,h1,-,rfl⟩:=h.aB t ht;exact oZ a i (by omega) (by omega)
 refine⟨h1,fun t ht=>h1 t (h.cz t ht),fun t ht=>?_,fun t ht=>?_⟩
 ·obtain⟨i,-,rfl⟩:=h.bits t ht;exact oZ 98 i (by omega) (by omega)
 ·obtain⟨i,-,rfl⟩:=h.turns t ht;exact oZ 105 i (by omega) (by omega)
theorem fZ.can{fr:Nat}{s:Sc}(hs:bU fr s){p:ρ}(h:fZ s.aB s.turns p):p.Can:=
 ⟨hs.named.1 _ h.nm,by rw[h.cp];cases p.ix<;>rfl,h.len,fun x hx=>(h.qL x hx).can hs.named.2.2.2⟩
section
variable{bD:List (List Nat×Nat)}(cT:∀nm k,(nm,k)∈bD->c_ nm=true)
include cT
mutual
theorem eY.can{d fr aw:Nat}{s s':Sc}{x:δ}(h:eY bD d fr s x aw s')(hs:bU fr s):x.Can:=by
 match h with
 | .gate (pl:=pl) h1 h2 h3 h4 hc=>
  have:pl≠[]:=fun e=>by rw[e]at h3;have:=(CV h1 h2).2.2.1;simp at h3;omega
  have mE:Φ pl= .any:=by cases pl<;>first|exact absurd rfl this|rfl
  rw[hc,mE];exact .gate h1 h2 h3 fun p hp=>(h4 p hp).can hs
 | .take h1=>exact .take (oZ 113 _ (by omega) (by omega)) (h1.can hs.named.2.2.2)
 | .drop h1=>exact .drop (hs.named.2.1 _ h1)
 | .borrow hd h1 h2 hc hn=>rw[hn];exact .borrow (oZ 114 _ (by omega) (by omega)) (h1.can hs.named.2.2.2) (aN.can h2 hs.l_.inner)
 | .measure h1 h2=>
  refine .measure ?_ (h1.can hs)
  rcases h2 with rfl|h2
  ·exact oZ 98 _ (by omega) (by omega)
  ·exact hs.named.2.2.1 _ h2
 | .reset h1=>exact .reset (h1.can hs)
 | .cond hd h1 h2 h3 hc hn gD gF=>rw[hn,gF];exact .cond (hs.named.2.2.1 _ h1) (aN.can h2 hs.inner) (aN.can h3 (hs.inner.mono (aN.le h2)))
 | .loop hd h1 h2 h3 hc hn=>rw[hn];exact .loop (oZ 105 _ (by omega) (by omega)) (h1.can hs.named.2.2.2) (h2.can hs.named.2.2.2) (aN.can h3 hs.dR.inner)
 | .call h1 h2 h3 hc=>rw[hc];exact .call (cT _ _ h1) fun p hp=>(h3 p hp).can hs
 | .qa hd h2 hc hn=>rw[hn];exact .qa (aN.can h2 hs.inner)
 | .within hd h2 h3 hc hn gD gF=>rw[hn,gF];exact .within (aN.can h2 hs.inner) (aN.can h3 (hs.inner.mono (aN.le h2)))
theorem aN.can{d fr aw:Nat}{s:Sc}{l:List δ}(h:aN bD d fr s l aw)(hs:bU fr s):δ.jR l:=by
 match h with
 | .nil=>exact .nil
 | .cons h1 h2=>exact .cons (eY.can h1 hs) (aN.can h2 (h1.sc hs))
end
end
theorem Pn{l:List φ}{fr:Nat}(h:gj l fr):∀nm k,(nm,k)∈lB l->c_ nm=true:=by intro nm k hk;obtain⟨x,hx,e⟩:=eT.1 hk;obtain⟨i,-,-,h3⟩:=h.names x hx;rw[az]at e;rw[<-e.1,h3];exact oZ 112 i (by omega) (by omega)
theorem nE.scope{bD:List (List Nat×Nat)}{fr aw:Nat}{x:φ}(h:nE bD fr aw x)(hf:aw<=675):bU (fr+1+x.aq.length) ⟨x.aq.map ay.name,[],[],[]⟩:=by have hle:=aN.le h.body;have kO:bU (fr+1) ⟨[],[],[],[]⟩:=⟨by simp,by simp,by simp,by simp⟩;obtain⟨-,p2⟩:=Pe 0 x.aq (fr+1) (by omega) (fun i hi=>by have:=h.aq i hi;rwa[show fr+1+1+i=fr+2+i by omega]) _ kO;simpa only[bG]using p2
theorem nE.can{bD:List (List Nat×Nat)}(cT:∀nm k,(nm,k)∈bD->c_ nm=true){fr aw:Nat}{x:φ}(h:nE bD fr aw x)(hf:aw<=675):x.Can:=by refine⟨by rw[h.nm];exact oZ 112 _ (by omega) (by omega),h.KN,fun y hy=>?_,h.RZ,aN.can cT h.body (h.scope hf)⟩;obtain⟨j,hj,rfl⟩:=wy hy;obtain⟨h1,h2,h3⟩:=h.aq j hj;exact⟨by rw[h1];exact oZ 113 _ (by omega) (by omega),by omega,by omega⟩
theorem gj.can{l:List φ}{fr:Nat}(h:gj l fr)(hf:fr<=675):∀x∈l,x.Can:=by
 induction h with
 |nil=>intro x hx;cases hx
 |@snoc l x fr aw h1 h2 ih=>
  have hle:=h2.le
  intro y hy;rcases dE.1 hy with hy|hy
  ·exact ih (by omega) y hy
  ·obtain rfl:=fK.1 hy;exact h2.can (Pn h1) hf
theorem oX{w:List Nat}(h:c_ w=true):w.length<=8:=by simp only[c_,dW,decide_eq_true_eq]at h;exact h.1.1.1.2
theorem cW.Sa{ts:List (List Nat)}{k:Nat}{i:η}(h:cW ts k i)(hk:k<=2):i.cnt=1:=by
 cases h with
 |fix=>simp[η.cnt,η.bO]
 |dR=>simp[η.cnt,η.bO]
 |bin h0=>omega
theorem cW.Z9{ts:List (List Nat)}{k:Nat}{i:η}(h:cW ts k i)(hk:k<=4):i.cnt<=3:=by
 cases h with
 |fix=>simp[η.cnt,η.bO]
 |dR=>simp[η.cnt,η.bO]
 |bin h0 h1 h2 ha hb=>
  have:=ha.Sa (by omega)
  have:=hb.Sa (by omega);simp[η.cnt,η.bO];omega
theorem cW.jG{ts:List (List Nat)}{k:Nat}{i:η}(h:cW ts k i)(hk:k<=4)(ht:∀t∈ts,c_ t=true):i.text.length<=39:=by have:=η.so i (η.WQ (may:=c_) (no:=1) (by decide) (fun s hs=>oX hs) i (h.part c_ ht 1));have:=h.Z9 hk;omega
theorem fZ.jG{fr:Nat}{s:Sc}(hs:bU fr s){p:ρ}(h:fZ s.aB s.turns p):p.text.length<=91:=by
 have h1:=oX (hs.named.1 _ h.nm);have h2:=h.len;have h3:∀x∈p.ix,x.text.length<=39:=fun x hx=>(h.qL x hx).jG (bA _) hs.named.2.2.2;obtain⟨nm,c,ix⟩:=p;simp only at h1 h2 h3
 match ix,h2,h3 with
 |[],_,_=>simp[ρ.text];omega
 |[a],_,h3=>have:=h3 a (by simp);simp[ρ.text];omega
 |[a,b],_,h3=>have:=h3 a (by simp);have:=h3 b (by simp);simp[ρ.text];omega
 |_::_::_::_,h2,_=>simp at h2
theorem Ja{fr:Nat}{s:Sc}(hs:bU fr s){l:List ρ}(h:∀p∈l,fZ s.aB s.turns p)(hl:l.length<=3):(nq l).length<=279:=by
 have:=Cu (l.map ρ.text) 91 fun x hx=>by obtain⟨p,hp,rfl⟩:=eT.1 hx;exact(h p hp).jG hs
 rw[cF]at this;have h2:l.length*93<=3*93:=mq _ hl;unfold nq;omega
section
variable{bD:List (List Nat×Nat)}(cT:∀nm k,(nm,k)∈bD->c_ nm=true/\k<=3)
include cT
mutual
theorem eY.jG{d fr aw:Nat}{s s':Sc}{x:δ}(h:eY bD d fr s x aw s')(hs:bU fr s)(b:List Nat)(hb:b.length<=2*d)(oK:d<=5):(jm x b).length<=320*x.cnt:=by
 have ep:(b++fD).length=b.length+2:=by simp[fD]
 match h with
 | .gate (g:=g) h1 h2 h3 h4 hc=>
  have h5:=L9 (g-1).toNat
  have:=Ja hs h4 (by rw[h3];unfold fL;split<;>(try split)<;>omega)
  simp only[bz,jm,cg,if_true];generalize fq.getD (g-1).toNat []=W at h5⊢;simp[aS,δ.cnt,bh];omega
 | .take h1=>
  have:=h1.jG (bA _) hs.named.2.2.2
  simp[bz,jm,cg,aS,δ.cnt,bh,bR];omega
 | .drop h1=>
  have:=oX (hs.named.2.1 _ h1)
  simp[bz,jm,cg,aS,δ.cnt,bh];omega
 | .borrow hd h1 h2 hc hn=>
  have:=h1.jG (bA _) hs.named.2.2.2
  have:=aN.jG h2 hs.l_.inner (b++fD) (by omega) (by omega);simp[bz,jm,cg,aS,δ.cnt,bh,bR];omega
 | .measure (nm:=nm) (p:=p) h1 h2=>
  have:=Ja hs (l:=[p]) (by simpa using h1) (by simp)
  have hn:nm.length<=8:=by
   rcases h2 with rfl|h2
   ·exact oX (oZ 98 _ (by omega) (by omega))
   ·exact oX (hs.named.2.2.1 _ h2)
  simp[bz,jm,cg,aS,δ.cnt,bh];omega
 | .reset (p:=p) h1=>
  have:=Ja hs (l:=[p]) (by simpa using h1) (by simp)
  simp[bz,jm,cg,aS,δ.cnt,bh];omega
 | .cond (nm:=nm) (els:=els) hd h1 h2 h3 hc hn gD gF=>
  have:=oX (hs.named.2.2.1 _ h1)
  have h4:=aN.jG h2 hs.inner (b++fD) (by omega) (by omega);have h5:=aN.jG h3 (hs.inner.mono (aN.le h2)) (b++fD) (by omega) (by omega);have h6:=Kl 7;simp only[bz,jm,cg,aS,δ.cnt,bh];generalize mU 7=B7 at h6⊢;by_cases he:els.length=0<;>simp[he]<;>omega
 | .loop hd h1 h2 h3 hc hn=>
  have:=h1.jG (by omega) hs.named.2.2.2
  have:=h2.jG (by omega) hs.named.2.2.2;have:=aN.jG h3 hs.dR.inner (b++fD) (by omega) (by omega);simp[bz,jm,cg,aS,δ.cnt,bh,bR];omega
 | .call h1 h2 h3 hc=>
  have:=oX (cT _ _ h1).1
  have:=Ja hs h3 (by rw[h2];exact(cT _ _ h1).2);simp[bz,jm,cg,aS,δ.cnt,bh];omega
 | .qa hd h2 hc hn=>
  have:=aN.jG h2 hs.inner (b++fD) (by omega) (by omega)
  simp[bz,jm,cg,aS,δ.cnt,bh];omega
 | .within hd h2 h3 hc hn gD gF=>
  have h4:=aN.jG h2 hs.inner (b++fD) (by omega) (by omega)
  have h5:=aN.jG h3 (hs.inner.mono (aN.le h2)) (b++fD) (by omega) (by omega);simp[bz,jm,cg,aS,δ.cnt,bh,mU];omega
theorem aN.jG{d fr aw:Nat}{s:Sc}{l:List δ}(h:aN bD d fr s l aw)(hs:bU fr s)(b:List Nat)(hb:b.length<=2*d)(oK:d<=5):(dj l b).length<=320*δ.bO l:=by
 match h with
 | .nil=>simp[dj]
 | .cons h1 h2=>
  have:=eY.jG h1 hs b hb oK
  have:=aN.jG h2 (h1.sc hs) b hb oK;simp only[dj,cD,δ.bO];omega
end
end
theorem ahR(a b:List φ):fI (a++b)=fI a++fI b:=by
 induction a with
 |nil=>rfl
 |cons x a ih=>simp[fI,ih]
theorem nE.jG{bD:List (List Nat×Nat)}(cT:∀nm k,(nm,k)∈bD->c_ nm=true/\k<=3){fr aw:Nat}{x:φ}(h:nE bD fr aw x)(hf:aw<=675):x.text.length<=13000:=by
 have h1:=aN.jG cT h.body (h.scope hf) fD (by simp[fD]) (by omega);have h2:=h.cnt;have h3:=Cu (x.aq.map ay.text) 12 fun y hy=>by obtain⟨p,hp,rfl⟩:=eT.1 hy;obtain⟨j,hj,rfl⟩:=wy hp;have e:=(h.aq j hj).1;have:=va (x.aq[j].size.toNat);simp[ay.text,e,bR];omega
 have h4:=h.vc;rw[cF]at h3;have h5:x.aq.length*14<=2*14:=mq _ h4;have h6:=h.nm;simp only[φ.text,cD,h6];simp[bR];omega
theorem gj.jG{l:List φ}{fr:Nat}(h:gj l fr)(hf:fr<=675):(fI l).length<=13000*l.length:=by
 induction h with
 |nil=>simp[fI]
 |@snoc l x fr aw h1 h2 ih=>
  have hle:=h2.le
  have MU:=h1.vc;have hn:=Pn h1;have:=ih (by omega);have:=h2.jG (fun nm k hk=>⟨hn nm k hk,by
   obtain⟨y,hy,e⟩:=eT.1 hk
   rw[az]at e;have:=MU y hy;omega⟩) hf
  rw[ahR];simp only[cD,fI,eI,cE];omega
end Go.Δ.Tz
namespace Go.Δ
def BJ(s:List Nat):Bool:=s.all fun b=>qf b 256
def wF(c:ξ):Bool:=match c with
 | .nil=>true
 | .any=>true
 |_=>false
mutual
def η.okB:η->Bool
 | .mk _ _ s c l=>BJ s&&(wF c&&η.r9 l)
def η.r9:List η->Bool
 |[]=>true
 |x::l=>x.okB&&η.r9 l
end
def ρ.okB(p:ρ):Bool:=BJ p.name&&(wF p.c&&η.r9 p.ix)
mutual
def δ.okB:δ->Bool
 | .mk _ _ nm cp pl size to cb body ce els=>BJ nm&&(wF cp&&(pl.all ρ.okB&&(size.okB&&(to.okB&&(wF cb&&(δ.r9 body&&(wF ce&&δ.r9 els)))))))
def δ.r9:List δ->Bool
 |[]=>true
 |x::l=>x.okB&&δ.r9 l
end
def φ.okB(p:φ):Bool:=BJ p.name&&(wF p.cp&&(p.aq.all (fun x=>BJ x.name)&&(wF p.cb&&(δ.r9 p.body&&(!(decide (p.cp= .nil))||p.aq.isEmpty)))))
theorem EI{s:List Nat}(h:BJ s=true):cV s:=fun b hb=>alx.mp (dS.1 h b hb)
theorem yp{c:ξ}(h:wF c=true):br c:=by cases c<;>first|exact .inl rfl|exact .inr rfl|cases h
theorem η.Bt{l:List η}(h:η.r9 l=true):∀x∈l,x.okB=true:=by
 induction l with
 |nil=>intro x hx;cases hx
 |cons a l ih=>
  simp only[η.r9,dW]at h
  intro x hx;rcases cw.1 hx with rfl|hx
  ·exact h.1
  ·exact ih h.2 x hx
theorem η.Ec{l:List η}(h:∀x∈l,x.gz):η.da l/\η.Strs l:=by
 induction l with
 |nil=>exact⟨trivial,trivial⟩
 |cons a l ih=>
  obtain⟨i1,i2⟩:=ih fun x hx=>h x (by simp[hx])
  exact⟨⟨(h a (by simp)).1,i1⟩,⟨(h a (by simp)).2,i2⟩⟩
theorem η.vZ(x:η):x.okB=true->x.gz:=by refine η.kR (Q:=fun x=>x.okB=true->x.gz) (fun k n s c l ih h=>?_) x;simp only[η.okB,dW]at h;obtain⟨i1,i2⟩:=η.Ec fun x hx=>ih x hx (η.Bt h.2.2 x hx);exact⟨⟨yp h.2.1,i1⟩,EI h.1,i2⟩
theorem ρ.vZ{p:ρ}(h:p.okB=true):p.Ok:=by simp only[ρ.okB,dW]at h;exact⟨EI h.1,yp h.2.1,fun x hx=>x.vZ (η.Bt h.2.2 x hx)⟩
theorem δ.Bt{l:List δ}(h:δ.r9 l=true):∀x∈l,x.okB=true:=by
 induction l with
 |nil=>intro x hx;cases hx
 |cons a l ih=>
  simp only[δ.r9,dW]at h
  intro x hx;rcases cw.1 hx with rfl|hx
  ·exact h.1
  ·exact ih h.2 x hx
theorem δ.Ec{l:List δ}(h:∀x∈l,x.Ok):δ.da l:=by
 induction l with
 |nil=>trivial
 |cons a l ih=>exact⟨h a (by simp),ih fun x hx=>h x (by simp[hx])⟩
theorem δ.vZ(x:δ):x.okB=true->x.Ok:=by refine δ.kR (Q:=fun x=>x.okB=true->x.Ok) (fun k g nm cp pl size to cb body ce els h1 h2 h=>?_) x;simp only[δ.okB,dW]at h;obtain⟨a1,a2,a3,a4,a5,a6,a7,a8,a9⟩:=h;exact⟨EI a1,yp a2,fun p hp=>ρ.vZ (dS.1 a3 p hp),size.vZ a4,to.vZ a5,yp a6,δ.Ec fun y hy=>h1 y hy (δ.Bt a7 y hy),yp a8,δ.Ec fun y hy=>h2 y hy (δ.Bt a9 y hy)⟩
theorem φ.vZ{p:φ}(h:p.okB=true):p.Ok:=by
 simp only[φ.okB,dW,xU,zZ,decide_eq_false_iff_not]at h;obtain⟨a1,a2,a3,a4,a5,a6⟩:=h;refine⟨EI a1,yp a2,fun x hx=>EI (dS.1 a3 x hx),yp a4,δ.Ec fun y hy=>y.vZ (δ.Bt a5 y hy),fun e=>?_⟩;rcases a6 with a6|a6
 ·exact absurd e a6
 ·exact List.isEmpty_iff.1 a6
end Go.Δ
namespace Go.Δ.Tz
open Go.Δ
variable{u:Nat}
attribute [local simp] exec dT dG eR aH dr ff eH aI fA bQ gX ib iC iL lq AV.cells newVar iH rd wr gL single dd cA eU ef κ cH RV.get cJ fF jU qn
theorem WA(l:List φ)(h:l.all φ.okB=true):∀x∈l,x.Ok:=fun x hx=>φ.vZ (dS.1 h x hx)
theorem I4(s:List Nat)(hs:cV s)(hl:s.length<1000000000)(ai:∀x∈(cO s).1.1,x.Ok)(m:Mem):kf u 39 [.str s] m=some (.aU [.agg [.list (Φ (cO s).1.1) ((cO s).1.1.map φ.av)],.n (cO s).2.1,.n (cO s).2.2],m):=by have Xd:=fun m=>f124 (u:=u) s hs hl m;simp only[zH]at Xd;have hp:=Dv.list (Φ (cO s).1.1) (bS.of φ.av _ fun x hx=>φ.ry (ai x hx));rw[ga (kJ _)]at hp;have hv:Dv (.aU [.agg [.list (Φ (cO s).1.1) ((cO s).1.1.map φ.av)],.n (cO s).2.1,.n (cO s).2.2]) (.aU [.agg [.list (Φ (cO s).1.1) ((cO s).1.1.map φ.av)],.n (cO s).2.1,.n (cO s).2.2]):= .aU (.cons (.agg (.cons hp .nil)) (.cons (.int _ _) (.cons (.int _ _) .nil)));refine eN (g:=Hf) rfl rfl rfl ?_;simp only[aA,aP,exp,Hf,RM];refine Θ (fun st=>st.e 0= .str s/\st.e 2= .aj 2 0 0/\st.q 2=some (0,.cells [.list .nil []])/\st.q 5=none/\st.mem= {ε:=m.ε,ζ:=[]}) (by simp[bL]) fun s1 ⟨h1,h2,h3,h4,h5⟩=>?_;simp[h1,h2,h3,h4,h5,Xd,bL];exact hv.aK _ _ _
theorem aiC(s:List Nat):(cO s).2.2=0->mW (cO s).1.1=0/\jq (cO s).1.1<1000000000/\(cO s).2.1=0:=by
 unfold cO;split
 ·intro h;exact absurd h (by decide)
 ·rename_i Ds;split
  ·intro h;exact absurd (show(4:Int)=0 from h) (by decide)
  ·rename_i x t hx;split
   ·rename_i hc;intro _;have:=Yi hx;have:=X3 s;exact⟨hc,by dsimp only;omega,rfl⟩
   ·rename_i hc;intro h;exact absurd h hc
def O2(s:List Nat):List Nat:=if(cO s).2.2=0 then fI (cO s).1.1 else[]
theorem p56(s:List Nat)(hs:cV s)(hl:s.length<1000000000)(ai:∀x∈(cO s).1.1,x.Ok)(m:Mem):kf u 56 [.str s] m=some (.aU [.str (O2 s),.n (cO s).2.1,.n (cO s).2.2],m):=by
 have xR:=fun m=>I4 (u:=u) s hs hl ai m;have hf:=aiC s;have hz:∀bs n (a:List Nat) (i j:Int),aK bs n 8 (.aU [.str a,.n i,.n j])= .aU [.str a,.n i,.n j]:=fun _ _ _ _ _=>rfl;refine eN (g:=Hh) rfl rfl rfl ?_;simp only[aA,aP,exp,Hh,RO];unfold O2;refine Θ (fun st=>st.e 0= .str s/\st.q 5=none/\st.mem= {ε:=m.ε,ζ:=[]}) (by simp) fun s1 ⟨h1,h2,h3⟩=>?_;by_cases he:(cO s).2.2=0
 ·obtain⟨hc,hw,h0⟩:=hf he;have Xi:=fun m=>f25 (u:=u) (Φ (cO s).1.1) (kJ _) _ ai hw m;simp only[Jd,hc,if_true,tq]at Xi;rw[if_pos he,h0,he];rw[h0,he]at xR;simp[h1,h2,h3,xR,Xi,bL,hz]
 ·have qs:((cO s).2.2 !=0)=true:=by simpa using he
  rw[if_neg he];simp[h1,h2,h3,xR,bL,qs,hz]
def T0:List Nat:=[112,114,111,99,32,109,97,105,110,40,113,91,50,93,41,32,123,32,104,32,113,91,48,93,59,32,99,120,32,113,91,48,93,44,32,113,91,49,93,59,32,109,101,97,115,117,114,101,32,113,91,48,93,32,58,32,98,59,32,105,102,32,98,32,123,32,120,32,113,91,49,93,59,32,125,32,125]
def T3:List Nat:=[112,114,111,99,32,102,40,113,91,49,93,41,32,123,32,116,97,107,101,32,113,91,49,93,59,32,125]
def T4:List Nat:=[112,114,111,99,32,102,40,41,32,123,32,105,102,32,40]
def T5:List Nat:=[112,114,111,99,32,104,40,41,32,123,125]
def T8:List Nat:=[112,114,111,99,32,102,40,113,91,51,93,41,32,123,32,102,111,114,32,105,32,61,32,48,32,58,32,51,32,123,32,119,105,116,104,105,110,32,123,32,104,32,113,91,105,93,59,32,125,32,97,112,112,108,121,32,123,32,122,32,113,91,105,93,59,32,125,32,125,32,125]
def T9:List Nat:=[112,114,111,99,32,102,40,113,91,51,93,41,32,123,10,32,32,102,111,114,32,105,32,61,32,48,32,58,32,51,32,123,10,32,32,32,32,119,105,116,104,105,110,32,123,10,32,32,32,32,32,32,104,32,113,91,105,93,59,10,32,32,32,32,125,32,97,112,112,108,121,32,123,10,32,32,32,32,32,32,122,32,113,91,105,93,59,10,32,32,32,32,125,10,32,32,125,10,125,10]
noncomputable def yA:AV:= .list (Φ (cO T0).1.1) ((cO T0).1.1.map φ.av)
def xA:AV:= .agg [.n 5,.n 0,.str [],.list .full [.agg [.n 1,.n 2,.str [],.list .nil []],.agg [.n 3,.n 0,.str [],.list .full [.agg [.n 2,.n 0,.str [105],.list .nil []],.agg [.n 1,.n 1,.str [],.list .nil []]]]]]
def sA:List AV:=[(.n 1),(.n 1),(.str []),(.list .any [(.agg [(.str [113]),(.list .any [(.agg [(.n 1),(.n 1),(.str []),(.list .any [])])])])]),(.n 0),(.n 0),(.str []),(.list .any []),(.n 0),(.n 0),(.str []),(.list .any []),(.list .any []),(.list .any [])]
theorem Zv(u:Nat)(b1 b2:θ):cv (C u) 60 (.fn (.func 70) [] []) [.agg [yA]] {ε:=[b1,b2],ζ:=[]}=some (.aU [.n 5,.n 0],{ε:=[b1,b2],ζ:=[]}):=by kernel_rfl
theorem Zw(u:Nat)(b1 b2:θ):cv (C u) 60 (.fn (.func 72) [] []) [.agg [yA],.list .full [.n 0,.n 3,.n 0,.n 0]] {ε:=[b1,b2],ζ:=[]}=some (.aU [.agg sA,.n 0],{ε:=[b1,b2],ζ:=[]}):=by kernel_rfl
theorem Zx(u:Nat)(b1 b2:θ):cv (C u) 60 (.fn (.func 26) [] []) [xA] {ε:=[b1,b2],ζ:=[]}=some (.aU [.str [50,32,42,32,40,105,32,43,32,49,41],.n 0],{ε:=[b1,b2],ζ:=[]}):=by kernel_rfl
theorem Zy(u:Nat)(b1 b2:θ):cv (C u) 60 (.fn (.func 32) [] []) [xA,.list .full [.str [105]],.list .full [.n 3]] {ε:=[b1,b2],ζ:=[]}=some (.aU [.n 8,.n 0],{ε:=[b1,b2],ζ:=[]}):=by kernel_rfl
theorem rd0:(cO T0).2=(0,0):=by kernel_rfl
theorem rd3:cO T3=(([],[]),27,5):=by kernel_rfl
theorem rd4:cO T4=(([],[]),14,4):=by kernel_rfl
theorem rd5:cO T5=(([],[]),5,4):=by kernel_rfl
theorem rd8:O2 T8=T9:=by kernel_rfl
theorem rd9:(cO T8).2=(0,0):=by kernel_rfl
theorem okB(s:List Nat)(h:s.all (fun b=>qf b 256)=true):cV s:=fun b hb=>alx.mp (dS.1 h b hb)
theorem ok0:(cO T0).1.1.all φ.okB=true:=by kernel_rfl
theorem ok3:(cO T3).1.1.all φ.okB=true:=by kernel_rfl
theorem ok4:(cO T4).1.1.all φ.okB=true:=by kernel_rfl
theorem ok5:(cO T5).1.1.all φ.okB=true:=by kernel_rfl
theorem ok8:(cO T8).1.1.all φ.okB=true:=by kernel_rfl
theorem aaZ(b1 b2:θ):kf u 19 [] {ε:=[b1,b2],ζ:=[]}=some (.bool true,{ε:=[b1,b2],ζ:=[]}):=by
 have xR:=fun(s:List Nat) (h:s.all (fun b=>qf b 256)=true) (hl:qf s.length 1000000000=true) (ai:(cO s).1.1.all φ.okB=true)=>I4 (u:=u) s (okB s h) (alx.mp hl) (WA _ ai) {ε:=[b1,b2],ζ:=[]};have q0:kf u 39 [.str T0] {ε:=[b1,b2],ζ:=[]}=some (.aU [.agg [yA],.n 0,.n 0],{ε:=[b1,b2],ζ:=[]}):=by have h:=xR T0 (by kernel_rfl) (by kernel_rfl) ok0;rw[rd0]at h;exact h
 have q3:=xR T3 (by kernel_rfl) (by kernel_rfl) ok3;have q4:=xR T4 (by kernel_rfl) (by kernel_rfl) ok4;have q5:=xR T5 (by kernel_rfl) (by kernel_rfl) ok5;have q8:=p56 (u:=u) T8 (okB T8 (by kernel_rfl)) (alx.mp (by kernel_rfl)) (WA _ ok8) {ε:=[b1,b2],ζ:=[]};rw[rd3]at q3;rw[rd4]at q4;rw[rd5]at q5;rw[rd8,rd9]at q8;have q1:=oA.2 ⟨60,Zv u b1 b2⟩;have q2:=oA.2 ⟨60,Zw u b1 b2⟩;have q6:=oA.2 ⟨60,Zx u b1 b2⟩;have q7:=oA.2 ⟨60,Zy u b1 b2⟩;simp only[T0,T3,T4,T5,T8,T9,xA,sA,aP]at q0 q1 q2 q3 q4 q5 q6 q7 q8;generalize yA=y at*;refine eN (g:=g19) rfl rfl rfl ?_;simp only[aP,g19,Q8];let K1:St->Prop:=fun st=>st.mem= {ε:=[b1,b2],ζ:=[]}/\st.e 1= .aj 1 0 0/\st.q 1=some (0,.cells [y])/\st.e 2= .n 0/\st.e 3= .n 0;refine Θ (fun st=>st.mem= {ε:=[b1,b2],ζ:=[]}/\st.loc=[]) (by simp) fun s1 ⟨h1,h2⟩=>?_;refine Θ (fun st=>K1 st/\st.q 6=none/\st.q 8=none/\st.q 11=none/\st.q 14=none/\st.q 17=none) (by simp[K1,h1,h2,q0,bL]) fun s1 ⟨⟨h1,h2,h3,h4,h5⟩,n6,n8,zt,vX,th⟩=>?_;let K2:St->Prop:=fun st=>K1 st/\st.e 4= .n 5/\st.e 5= .n 0;refine Θ (fun st=>K2 st/\st.q 6=none/\st.q 8=none/\st.q 11=none/\st.q 14=none/\st.q 17=none) (by simp[K2,K1,h1,h2,h3,h4,h5,n6,n8,zt,vX,th,q1]) fun s1 ⟨⟨⟨h1,h2,h3,h4,h5⟩,h6,h7⟩,n6,n8,zt,vX,th⟩=>?_;let K3:St->Prop:=fun st=>K2 st/\st.e 6= .aj 6 0 0/\(∃l,st.q 6=some (0,.cells (.n 1:: .n 1::l)))/\st.e 7= .n 0;refine Θ (fun st=>K3 st/\st.q 8=none/\st.q 11=none/\st.q 14=none/\st.q 17=none) (by simp[K3,K2,K1,h1,h2,h3,h4,h5,h6,h7,n6,n8,zt,vX,th,q2,bL,shaped,AV.one,Mem.ν,ν,cL]) fun s1 ⟨⟨⟨⟨h1,h2,h3,h4,h5⟩,h6,h7⟩,h8,⟨l,h9⟩,aC⟩,n8,zt,vX,th⟩=>?_;let K4:St->Prop:=fun st=>K3 st/\st.e 9= .n 27/\st.e 10= .n 5;refine Θ (fun st=>K4 st/\st.q 11=none/\st.q 14=none/\st.q 17=none) (by simp[K4,K3,K2,K1,h1,h2,h3,h4,h5,h6,h7,h8,h9,aC,n8,zt,vX,th,q3,bL]) fun s1 ⟨⟨⟨⟨⟨h1,h2,h3,h4,h5⟩,h6,h7⟩,h8,⟨l,h9⟩,aC⟩,bp,bY⟩,zt,vX,th⟩=>?_;let K5:St->Prop:=fun st=>K4 st/\st.e 12= .n 14/\st.e 13= .n 4;refine Θ (fun st=>K5 st/\st.q 14=none/\st.q 17=none) (by simp[K5,K4,K3,K2,K1,h1,h2,h3,h4,h5,h6,h7,h8,h9,aC,bp,bY,zt,vX,th,q4,bL]) fun s1 ⟨⟨⟨⟨⟨⟨h1,h2,h3,h4,h5⟩,h6,h7⟩,h8,⟨l,h9⟩,aC⟩,bp,bY⟩,db,jK⟩,vX,th⟩=>?_;let K6:St->Prop:=fun st=>K5 st/\st.e 15= .n 5/\st.e 16= .n 4;refine Θ (fun st=>K6 st/\st.q 17=none) (by simp[K6,K5,K4,K3,K2,K1,h1,h2,h3,h4,h5,h6,h7,h8,h9,aC,bp,bY,db,jK,vX,th,q5,bL]) fun s1 ⟨⟨⟨⟨⟨⟨⟨h1,h2,h3,h4,h5⟩,h6,h7⟩,h8,⟨l,h9⟩,aC⟩,bp,bY⟩,db,jK⟩,yD,ua⟩,th⟩=>?_;let K7:St->Prop:=fun st=>K6 st/\st.e 17= .aj 17 0 0/\st.q 17=some (0,.cells [.n 5,.n 0,.str [],.list .full [.agg [.n 1,.n 2,.str [],.list .nil []],.agg [.n 3,.n 0,.str [],.list .full [.agg [.n 2,.n 0,.str [105],.list .nil []],.agg [.n 1,.n 1,.str [],.list .nil []]]]]]);refine Θ (K7) (by simp[K7,K6,K5,K4,K3,K2,K1,h1,h2,h3,h4,h5,h6,h7,h8,h9,aC,bp,bY,db,jK,yD,ua,th,bL,dp,shaped,Mem.ν,ν,cL]) fun s1 ⟨⟨⟨⟨⟨⟨⟨h1,h2,h3,h4,h5⟩,h6,h7⟩,h8,⟨l,h9⟩,aC⟩,bp,bY⟩,db,jK⟩,yD,ua⟩,wY,ba⟩=>?_;let K8:St->Prop:=fun st=>K7 st/\st.e 18= .str [50,32,42,32,40,105,32,43,32,49,41]/\st.e 19= .n 0;refine Θ (K8) (by simp[K8,K7,K6,K5,K4,K3,K2,K1,h1,h2,h3,h4,h5,h6,h7,h8,h9,aC,bp,bY,db,jK,yD,ua,wY,ba,q6]) fun s1 ⟨⟨⟨⟨⟨⟨⟨⟨h1,h2,h3,h4,h5⟩,h6,h7⟩,h8,⟨l,h9⟩,aC⟩,bp,bY⟩,db,jK⟩,yD,ua⟩,wY,ba⟩,bj,yE⟩=>?_;let K9:St->Prop:=fun st=>K8 st/\st.e 20= .n 8/\st.e 21= .n 0;refine Θ (K9) (by simp[K9,K8,K7,K6,K5,K4,K3,K2,K1,h1,h2,h3,h4,h5,h6,h7,h8,h9,aC,bp,bY,db,jK,yD,ua,wY,ba,bj,yE,q7,shaped,AV.one,Mem.ν,ν]) fun s1 ⟨⟨⟨⟨⟨⟨⟨⟨⟨h1,h2,h3,h4,h5⟩,h6,h7⟩,h8,⟨l,h9⟩,aC⟩,bp,bY⟩,db,jK⟩,yD,ua⟩,wY,ba⟩,bj,yE⟩,jV,lY⟩=>?_;simp[h1,h2,h3,h4,h5,h6,h7,h8,h9,aC,bp,bY,db,jK,yD,ua,wY,ba,bj,yE,jV,lY,q8]
end Go.Δ.Tz
namespace Go.Δ
namespace Tz
open Go.Δ
end Tz
end Go.Δ
namespace Go.Δ.Tz
open Go.Δ
variable{u:Nat}
attribute [local simp] exec dT dG eR aH dr ff eH aI fA bQ gX ib iC iL lq AV.cells newVar iH rd wr gL single dd cA eU ef κ cH RV.get cJ fF jU qn
structure Md (cp:ξ) (bF:List φ):Prop where
 cp:br cp
 made:∃fr,gj bF fr/\fr<=675
 len:1<=bF.length/\bF.length<=4
section
variable{cp:ξ}{bF:List φ}(h:Md cp bF)
include h
theorem Md.ok:∀x∈bF,x.Ok:=by obtain⟨fr,h1,h2⟩:=h.made;exact h1.str h2
theorem Md.wt:jq bF<100000:=by obtain⟨fr,h1,h2⟩:=h.made;have:=h1.wt;have:=h.len.2;omega
theorem Md.right:mW bF=0:=by obtain⟨fr,h1,h2⟩:=h.made;exact h1.right h2 h.len.1 (by have:=h.len.2;omega)
theorem Md.jG:(fI bF).length<1000000:=by obtain⟨fr,h1,h2⟩:=h.made;have:=h1.jG h2;have:=h.len.2;omega
theorem Md.print(m:Mem):kf u 25 [.agg [.list cp (bF.map φ.av)]] m=some (.aU [.str (fI bF),.n 0],m):=by have:=f25 (u:=u) cp h.cp bF h.ok (by have:=h.wt;omega) m;rw[Jd,h.right,if_pos rfl]at this;exact this
end
theorem afU(c:ξ)(hc:br c)(bs:List Nat)(hn:c= .nil->bs=[])(B:List θ):∃b b' cp bF,Md cp bF/\(∀T,kf u 36 [eB c bs] {ε:=B,ζ:=T}=some (.μ B.length 0,{ε:=B++[b],ζ:=T}))∧
  ∀T,kf u 35 [.μ B.length 0] {ε:=B++[b],ζ:=T}=some (.agg [.list cp (bF.map φ.av)],{ε:=B++[b'],ζ:=T}):=by
 obtain⟨c1,uc,q36⟩:=f36 (u:=u) c hc bs hn B;obtain⟨n',x',cp,fr,bF,h1,h2,h3,h4,h5,Xj⟩:=f35 (u:=u) (ps:=B.length) (c:=c1) (bs:=bs.take 300) (n:=0) (x:=2463534242) (B:=B++[.cells (aG c1 (bs.take 300) 0 2463534242)]) (by simp;omega) (by simp) (by omega);have e:(B++[θ.cells (aG c1 (bs.take 300) 0 2463534242)]).set B.length (.cells (aG c1 (bs.take 300) n' x'))=B++[.cells (aG c1 (bs.take 300) n' x')]:=by rw[List.set_append_right _ _ (bA _)];simp
 rw[e]at Xj;exact⟨_,_,cp,bF,⟨h5,⟨fr,h2,by omega⟩,h4⟩,q36,Xj⟩
def dV(b:Nat):Nat:=if isLet b then 0 else if cj b then 1 else 2
theorem ajC(b:Nat):dV b<=2:=by unfold dV;split<;>(try split)<;>omega
theorem f75(b:Nat)(m:Mem):kf u 75 [.int .u8 b] m=some (.n (dV b),m):=by
 refine eN (g:=wT) rfl rfl rfl ?_;by_cases h1:97<=b
 ·have kr:(97:Int)<=b:=by omega
  by_cases h2:b<=122
  ·have lX:(b:Int)<=122:=by omega
   simp[wT,c75,exp,dV,isLet,h1,h2,kr,lX]
  ·have lX:¬(b:Int)<=122:=by omega
   have h3:(48:Int)<=b:=by omega
   have h4:¬(b:Int)<=57:=by omega
   have h5:¬b<=57:=by omega
   simp[wT,c75,exp,dV,isLet,cj,h1,h2,kr,lX,h3,h4,h5]
 ·have kr:¬(97:Int)<=b:=by omega
  by_cases h2:48<=b
  ·have lX:(48:Int)<=b:=by omega
   by_cases h3:b<=57
   ·have ft:(b:Int)<=57:=by omega
    simp[wT,c75,exp,dV,isLet,cj,h1,h2,kr,lX,h3,ft]
   ·have ft:¬(b:Int)<=57:=by omega
    simp[wT,c75,exp,dV,isLet,cj,h1,h2,kr,lX,h3,ft]
  ·have lX:¬(48:Int)<=b:=by omega
   simp[wT,c75,exp,dV,isLet,cj,h1,h2,kr,lX]
def mM(k b:Nat):Bool:=decide (k<2)&&decide (dV b=k)
inductive kY:List Nat->List (List Nat)->Prop
 |nil:kY [] []
 |gb {b:Nat} {r:List Nat} {l:List (List Nat)} (hb:b=32\/b=10) (h:kY r l):kY (b::r) l
 |word {b:Nat} {r:List Nat} {l:List (List Nat)} (hb:¬(b=32\/b=10)) (h:kY (r.drop (runN (mM (dV b)) r)) l):kY (b::r) ((b::r.take (runN (mM (dV b)) r))::l)
theorem aiX(f:Nat->Bool)(l:List Nat):runN f l<=l.length:=by
 induction l with
 |nil=>exact bA _
 |cons b l ih=>unfold runN;split<;>simp<;>omega
theorem kY.len{s:List Nat}{l:List (List Nat)}(h:kY s l):l.length<=s.length:=by
 induction h with
 |nil=>exact bA _
 |gb hb h ih=>simp;omega
 |@word b r l hb h ih=>simp only[cE,kZ]at ih⊢;omega
theorem aiV{f:Nat->Bool}{s:List Nat}{p:Nat}(h:p<s.length):runN f (s.drop p)=if f s[p]then runN f (s.drop (p+1))+1 else 0:=by rw[mQ h];rfl
theorem f37(s:List Nat)(l:List (List Nat))(hc:kY s l)(hl:s.length<1000000)(m:Mem):
  kf u 37 [.str s] m=some (aX (if l=[]then .nil else .any) l,m):=by
 refine RW (g:=Hd) rfl rfl rfl ?_;simp only[aA,aP,exp,Hd,c37];let K:List (List Nat)->St->Prop:=fun d st=>st.e 0= .str s/\st.e 3=mB m.ε.length (d.map AV.str)/\st.mem= {ε:=m.ε++t_ 1 9 (d.map AV.str).length,ζ:=[]};let I:Nat->St->Prop:=fun i st=>∃d r,K d st/\∃p:Nat,st.e 4= .n p/\i<=p/\p<=s.length/\d++r=l/\kY (s.drop p) r;have vC:=hc.len;refine Θ (fun st=>st.e 0= .str s/\st.mem= {ε:=m.ε,ζ:=[]}) (by simp) fun s1 ⟨h0,hm⟩=>?_;refine Θ (K []) (by simp[K,h0,hm,mB,t_]) fun s1 hK=>?_;refine bP (K l) ?_ fun s2 ⟨h0,h3,hm⟩=>?_
 ·refine Θ (I 0) (by obtain⟨h0,h3,hm⟩:=hK;simp[I,K,h0,h3,hm];exact⟨[],⟨rfl,rfl⟩,l,0,rfl,by omega,rfl,by simpa using hc⟩) fun s2 hI=>?_;refine κ.block (κ.kD (I:=I) s.length hI fun i st hi Ω=>?_);obtain⟨d,r,⟨h0,h3,hm⟩,p,h4,h5,h6,h7,h8⟩:=Ω;unfold V3;rcases cX p s.length with χ|du
  ·have eO:(p:Int)<s.length:=by omega
   have hd:s.drop p=s[p]::s.drop (p+1):=mQ χ;have hw:bC .i64 ((p:Int)+1)=((p+1:Nat):Int):=by rw[wrap_i64 (by omega) (by omega)];simp
   refine Θ (fun st=>K d st/\st.e 4= .n p) (by simp[K,h0,h3,hm,h4,eO]) fun s3 ⟨⟨h0,h3,hm⟩,h4⟩=>?_;refine bP (fun st=>∃d r,K d st/\∃q:Nat,st.e 4= .n q/\p<=q/\q<s.length/\d++r=l/\kY (s.drop (q+1)) r) ?_ fun s4 ⟨d,r,⟨h0,h3,hm⟩,q,h4,h9,ha,hb,hc⟩=>?_
   ·refine κ.block ?_;refine bP (fun st=>(K d st/\st.e 4= .n p)/\¬(s[p]=32\/s[p]=10)) ?_ fun s4 ⟨⟨⟨h0,h3,hm⟩,h4⟩,h9⟩=>?_
    ·by_cases c1:s[p]=32
     ·refine κ.done (.exit 1) (fun st=>K d st/\st.e 4= .n p) (by simp[K,h0,h3,hm,h4,χ,eO,c1]) fun s' ⟨g1,g2⟩=> .inr ⟨by simp,.inl ⟨rfl,.inl ⟨rfl,d,r,g1,p,g2,by omega,χ,h7,?_⟩⟩⟩;rw[hd]at h8;cases h8 with
      |gb _ h=>exact h
      |word hb _=>exact absurd (.inl c1) hb
     by_cases c2:s[p]=10
     ·refine κ.done (.exit 1) (fun st=>K d st/\st.e 4= .n p) (by simp[K,h0,h3,hm,h4,χ,c2]) fun s' ⟨g1,g2⟩=> .inr ⟨by simp,.inl ⟨rfl,.inl ⟨rfl,d,r,g1,p,g2,by omega,χ,h7,?_⟩⟩⟩;rw[hd]at h8;cases h8 with
      |gb _ h=>exact h
      |word hb _=>exact absurd (.inr c2) hb
     have gT:¬(s[p]:Int)=32:=by omega
     have gU:¬(s[p]:Int)=10:=by omega
     have b1:((s[p]:Int)==32)=false:=beq_eq_false_iff_ne.2 gT;have b2:((s[p]:Int)==10)=false:=beq_eq_false_iff_ne.2 gU;refine κ.done .normal (fun st=>K d st/\st.e 4= .n p) (by simp[K,h0,h3,hm,h4,χ,b1,b2]) fun s' g=> .inl ⟨rfl,g,by omega⟩
    generalize hb:s[p]=b at*;rw[hd]at h8;cases h8 with
    |gb h _=>exact absurd h h9
    |@word _ _ r hx h8=>
    clear hx
    generalize hk:runN (mM (dV b)) (s.drop (p+1))=k at h8 h7;have oR:=aiX (mM (dV b)) (s.drop (p+1));rw[hk,kZ]at oR;have zG:=fun(b:Nat) m=>f75 (u:=u) b m;have ng:=ajC b;refine Θ (fun st=>(K d st/\st.e 4= .n p)/\st.e 5= .n ((p+1:Nat):Int)) (by simp[K,h0,h3,hm,h4,hw]) fun s5 ⟨⟨⟨h0,h3,hm⟩,h4⟩,ha⟩=>?_;refine bP (fun st=>(K d st/\st.e 4= .n p)/\st.e 5= .n ((p+1+k:Nat):Int)) ?_ fun s6 ⟨⟨⟨h0,h3,hm⟩,h4⟩,ha⟩=>?_
    ·refine Θ (fun st=>((K d st/\st.e 4= .n p)/\st.e 5= .n ((p+1:Nat):Int))/\st.e 6= .n (dV b)) (by simp[K,h0,h3,hm,h4,ha,χ,hb,zG]) fun s6 ⟨⟨⟨⟨h0,h3,hm⟩,h4⟩,ha⟩,hc⟩=>?_;let J:Nat->St->Prop:=fun j st=>((K d st/\st.e 4= .n p)/\st.e 6= .n (dV b))/\st.e 5= .n ((p+1+j:Nat):Int)/\p+1+j<=s.length/\k=j+runN (mM (dV b)) (s.drop (p+1+j));have hJ:J 0 s6:=⟨⟨⟨⟨h0,h3,hm⟩,h4⟩,hc⟩,ha,by omega,by simp only[Nat.add_zero,lj];exact hk.symm⟩;refine κ.block (κ.kD (I:=J) s.length hJ fun j st hj Ω=>?_);obtain⟨⟨⟨⟨h0,h3,hm⟩,h4⟩,hc⟩,ha,qq,rI⟩:=Ω;unfold V2;generalize hq:p+1+j=q at*;have DO:bC .i64 ((q:Int)+1)=((q+1:Nat):Int):=by rw[wrap_i64 (by omega) (by omega)];simp
     have stop:runN (mM (dV b)) (s.drop q)=0->p+1+k=q:=by omega
     rcases cX (dV b) 2 with hs|hs
     ·have vJ:(dV b:Int)<2:=by omega
      rcases cX q s.length with xo|xo
      ·have H7:(q:Int)<s.length:=by omega
       have hr:=aiV (f:=mM (dV b)) xo;by_cases he:dV s[q]=dV b
       ·rw[if_pos (by simp[mM,hs,he])]at hr;refine κ.done .normal (fun st=>((K d st/\st.e 4= .n p)/\st.e 6= .n (dV b))/\st.e 5= .n ((q+1:Nat):Int)) (by simp[K,h0,h3,hm,h4,hc,ha,vJ,H7,xo,zG,he,DO]) fun s' ⟨g1,g2⟩=> .inl ⟨rfl,by omega,g1,by rw[g2,<-hq];rfl,by omega,?_⟩;have:p+1+(j+1)=q+1:=by omega
        rw[this];omega
       ·rw[if_neg (by simp[mM,he])]at hr;have qs:¬(dV s[q]:Int)=dV b:=by omega
        refine κ.done (.exit 2) (fun st=>(K d st/\st.e 4= .n p)/\st.e 5= .n (q:Int)) (by simp[K,h0,h3,hm,h4,hc,ha,vJ,H7,xo,zG,he,qs]) fun s' ⟨g1,g2⟩=> .inr ⟨by simp,.inl ⟨rfl,.inl ⟨rfl,g1,by rw[g2,stop hr]⟩⟩⟩
      ·have H7:¬(q:Int)<s.length:=by omega
       have hr:runN (mM (dV b)) (s.drop q)=0:=by rw[JY xo];rfl
       refine κ.done (.exit 2) (fun st=>(K d st/\st.e 4= .n p)/\st.e 5= .n (q:Int)) (by simp[K,h0,h3,hm,h4,hc,ha,vJ,H7]) fun s' ⟨g1,g2⟩=> .inr ⟨by simp,.inl ⟨rfl,.inl ⟨rfl,g1,by rw[g2,stop hr]⟩⟩⟩
     ·have vJ:¬(dV b:Int)<2:=by omega
      have hr:runN (mM (dV b)) (s.drop q)=0:=by
       cases s.drop q with
       |nil=>rfl
       |cons a r=>simp[runN,mM,Nat.not_lt.2 hs]
      refine κ.done (.exit 2) (fun st=>(K d st/\st.e 4= .n p)/\st.e 5= .n (q:Int)) (by simp[K,h0,h3,hm,h4,hc,ha,vJ]) fun s' ⟨g1,g2⟩=> .inr ⟨by simp,.inl ⟨rfl,.inl ⟨rfl,g1,by rw[g2,stop hr]⟩⟩⟩
    ·have abX:(s.take (p+1+k)).drop p=b::(s.drop (p+1)).take k:=by rw[List.drop_take,show p+1+k-p=k+1 by omega,hd,List.take_succ_cons]
     have H_:d.length<l.length:=by rw[<-h7];simp
     have dO:=Qu m.ε [] (ag:=false) (sz:=1) (bytes:=16) (e:=9) (l:=d.map AV.str) (y:= .str (b::(s.drop (p+1)).take k)) (by omega) (by simp[shaped,AV.one]) rfl rfl (by simp;omega) (by simp;omega);simp only[cF,cD,List.length_singleton]at dO;have hle:p+1+k<=s.length:=by omega
     have UG:((p+1+k:Nat):Int)<=s.length:=by omega
     have hpk:(p:Int)<=((p+1+k:Nat):Int):=by omega
     refine Θ (fun st=>(K (d++[b::(s.drop (p+1)).take k]) st/\st.e 4= .n p)/\st.e 5= .n ((p+1+k:Nat):Int)) ?_ fun s7 ⟨⟨⟨h0,h3,hm⟩,h4⟩,ha⟩=>?_
     ·generalize p+1+k=e at*;have e1:¬(e:Int)<p:=by omega
      have e2:¬(s.length:Int)<e:=by omega
      have e3:p<=e:=by omega
      simp[K,h0,h3,hm,h4,ha,bound,e1,e2,e3,abX,dO,hle,shaped,AV.one,Mem.ν,ν]
     ·have ly:bC .i64 (((p+1+k:Nat):Int)-1)=((p+k:Nat):Int):=by rw[wrap_i64 (by omega) (by omega)];omega
      refine κ.done .normal (fun st=>K (d++[b::(s.drop (p+1)).take k]) st/\st.e 4= .n ((p+k:Nat):Int)) (by
       generalize p+1+k=e at*
       generalize p+k=e' at*;simp[K,h0,h3,hm,h4,ha,ly]) fun s' ⟨g1,g2⟩=> .inr ⟨by simp,.inl ⟨rfl,_,r,g1,p+k,g2,by omega,by omega,by rw[<-h7];simp,?_⟩⟩
      rw[show p+k+1=p+1+k by omega,<-List.drop_drop];exact h8
   ·have DO:bC .i64 ((q:Int)+1)=((q+1:Nat):Int):=by rw[wrap_i64 (by omega) (by omega)];simp
    refine κ.done .normal (fun st=>K d st/\st.e 4= .n ((q+1:Nat):Int)) (by simp[K,h0,h3,hm,h4,DO]) fun s' ⟨g1,g2⟩=> .inl ⟨rfl,by omega,d,r,g1,q+1,g2,by omega,by omega,hb,hc⟩
  ·have yS:¬(p:Int)<s.length:=by omega
   have hp:s.drop p=[]:=JY du;rw[hp]at h8;cases h8;rw[de]at h7;subst h7;refine κ.done (.exit 0) (K d) (by simp[K,h0,h3,hm,h4,yS]) fun s' g=> .inr ⟨by simp,.inl ⟨rfl,.inl ⟨rfl,g⟩⟩⟩
 ·refine κ.done .ret (fun st=>st.e 2=mB m.ε.length (l.map AV.str)/\st.mem= {ε:=m.ε++t_ 1 9 (l.map AV.str).length,ζ:=[]}) (by simp[h0,h3,hm]) fun s' ⟨g1,g2⟩=>⟨by simp,⟨_,by rw[g2]⟩,by rw[g2];simp,_,rfl,?_⟩;simp only[cJ,RV.get,g1];have:=Tr m.ε.length (bS.of AV.str l fun x _=>Dv.str x);rw[this.aK];simp[aX]
end Go.Δ.Tz
namespace Go.Δ
theorem afh(a:GW)(x:List Nat×List Nat):bB (a++[x])=bB a++(x.1++x.2):=by rw[OE];simp[bB]
def iE:Nat->GW->List Nat
 |_,[]=>[]
 |k,x::w=>(k+(x.1.length+x.2.length))::iE (k+(x.1.length+x.2.length)) w
theorem aaO(k:Nat)(a:GW)(x:List Nat×List Nat):iE k (a++[x])=iE k a++[k+(bB (a++[x])).length]:=by
 induction a generalizing k with
 |nil=>simp[iE,bB]
 |cons y a ih=>simp[iE,ih,bB,qc]
theorem FP(k:Nat)(a:GW):(iE k a).length=a.length:=by
 induction a generalizing k with
 |nil=>rfl
 |cons y a ih=>simp[iE,ih]
theorem V5{w:GW}(h:∀y∈w,y.1.length<=5/\y.2.length<=20):(bB w).length<=25*w.length:=by
 induction w with
 |nil=>exact bA _
 |cons y w ih=>
  have h1:=h y (by simp)
  have h2:=ih fun z hz=>h z (by simp[hz]);simp only[bB,cD,cE];omega
def pK:List (List Nat):=[[],[32],[10],[32,35,32,125,10],[32,32]]
def zR:List (List Nat):=[[],[10],[32,35,32,123]]
theorem Hl{g:List Nat}(h:g∈pK):g.length<=5:=by simp only[pK,cw,lF,or_false]at h;rcases h with rfl|rfl|rfl|rfl|rfl<;>simp
end Go.Δ
namespace Go.Δ.Tz
open Go.Δ
variable{u:Nat}
attribute [local simp] exec dT dG eR aH dr ff eH aI fA bQ gX ib iC iL lq AV.cells newVar iH rd wr gL single dd cA eU ef κ cH RV.get cJ fF jU
theorem ae7{a b:Nat}{v w:List Nat}(h:(dB (a::v)==dB (b::w)&&(dB (a::v)==1||dB (a::v)==2))=true)(ha:2<a/\2<b):dV b<2/\dV b=dV a:=by simp only[dB,dW,xU,beq_iff_eq]at h;simp only[dV];obtain⟨h1,h2⟩:=h;cases q1:isLet a<;>cases q2:isLet b<;>cases q3:cj a<;>cases q4:cj b<;>simp[q1,q2,q3,q4]at h1 h2⊢<;>omega
theorem afk(k:Nat)(a:GW)(x:List Nat×List Nat):uB k (a++[x])=dB x.2:=by
 induction a generalizing k with
 |nil=>rfl
 |cons y a ih=>exact ih _
theorem f38{c:ξ}{bs:List Nat}{B:List θ}{ps:Nat}(hp:ps<B.length)(hb:bs.length<=300)(cl:ξ)(eh:br cl)(l:List (List Nat))(hl:l.length<1000000)(hw:∀t∈l,∃a v,t=a::v/\2<a)(ly:∀t∈l,t.length<=20)(n:Nat)(x:Int)(hn:n<3000000000000000000):
  ∃(x':Int) (n':Nat) (w:GW) (tl:List Nat),n<=n'/\n'<=n+l.length+1/\w.map tO=l/\(∀y∈w,y.1∈pK)/\gy 0 w=true/\tl∈zR/\∀T,kf u 38 [.μ ps 0,aX cl l] {ε:=B.set ps (.cells (aG c bs n x)),ζ:=T}=some (.aU [.str (bB w++tl),.list (if w=[]then .nil else .any) ((iE 0 w).map fun e:Nat=>AV.n e)],{ε:=B.set ps (.cells (aG c bs n' x')),ζ:=T}):=by
 let Mm:Nat->Int->Nat->Mem:=fun n x k=> {ε:=B.set ps (.cells (aG c bs n x))++t_ 1 3 k,ζ:=[]};have UH:∀(n:Nat) (x:Int) (k:Int) (e:Nat),n<4000000000000000000->∃(x' r:Int) (n':Nat),n<=n'/\n'<=n+1/\0<=r/\(0<k->r<k)/\kf u 121 [.μ ps 0,.n k] (Mm n x e)=some (.n r,Mm n' x' e):=by intro n x k e hn;obtain⟨x',r,n',a1,a2,a3,a4,-,a5⟩:=f121 (u:=u) (c:=c) (bs:=bs) (B:=B++t_ 1 3 e) (p:=ps) (by simp;omega) hb n x k hn;simp only[List.set_append_left _ _ hp]at a5;exact⟨x',r,n',a1,a2,a3,a4,a5 []⟩
 have hr:κ (C u).gl (ah (C u)) KE {env:=[.μ ps 0,aX cl l],loc:=[],mem:= {ε:=B.set ps (.cells (aG c bs n x)),ζ:=[]}} fun q=>(∀i,q.1≠ .exit i)/\∃(x':Int) (n':Nat) (w:GW) (tl:List Nat),n<=n'/\n'<=n+l.length+1/\w.map tO=l/\(∀y∈w,y.1∈pK)/\gy 0 w=true/\tl∈zR/\q.2.mem=Mm n' x' w.length/\aI q.2.env 4= .str (bB w++tl)/\aI q.2.env 5=mB B.length ((iE 0 w).map fun e:Nat=>AV.n e):=by
  unfold KE;let S:St->Prop:=fun st=>st.e 0= .μ ps 0/\st.e 1=aX cl l;let W:GW->St->Prop:=fun w st=>st.e 6= .str (bB w)/\st.e 7=mB B.length ((iE 0 w).map fun e:Nat=>AV.n e);let I:Nat->St->Prop:=fun i st=>∃(n':Nat) (x':Int) (w:GW),n<=n'/\n'<=n+i/\w.map tO=l.take i/\i<=l.length/\(∀y∈w,y.1∈pK)/\gy 0 w=true/\S st/\W w st/\st.mem=Mm n' x' w.length/\st.e 11=aX cl l/\st.e 12= .n l.length/\st.e 13= .n i;refine Θ (fun st=>S st/\st.mem=Mm n x 0) (by simp[S,Mm,t_]) fun s1 ⟨⟨h0,h1⟩,hm⟩=>?_;refine Θ (fun st=>S st/\st.mem=Mm n x 0/\st.e 6= .str []) (by simp[S,h0,h1,hm]) fun s1 ⟨⟨h0,h1⟩,hm,h6⟩=>?_;refine Θ (fun st=>S st/\st.mem=Mm n x 0/\W [] st) (by simp[S,W,h0,h1,hm,h6,bB,iE,mB]) fun s1 ⟨⟨h0,h1⟩,hm,h6,h7⟩=>?_;refine bP (fun st=>∃(n':Nat) (x':Int) (w:GW),n<=n'/\n'<=n+l.length/\w.map tO=l/\(∀y∈w,y.1∈pK)/\gy 0 w=true/\S st/\W w st/\st.mem=Mm n' x' w.length) ?_ fun s2 ⟨n',x',w,a1,a2,a3,a4,a5,⟨h0,h1⟩,⟨h6,h7⟩,hm⟩=>?_
  ·have acj:bC .i64 (l.length:Int)=l.length:=wrap_i64 (by omega) (by omega);refine Θ (fun st=>S st/\st.mem=Mm n x 0/\W [] st/\st.e 11=aX cl l/\st.e 12= .n l.length/\st.e 13= .n 0) (by simp[S,W,h0,h1,hm,h6,h7,aX,acj]) fun s2 ⟨g0,hm,g1,g2,g3,g4⟩=>?_;refine κ.block (κ.kD (I:=I) l.length ⟨n,x,[],bA _,by omega,rfl,by omega,by simp,rfl,g0,g1,hm,g2,g3,g4⟩ fun i st hi ⟨n',x',w,a1,a2,a3,ab,a4,a5,⟨h0,h1⟩,⟨h6,h7⟩,hm,bp,bY,db⟩=>?_);unfold V4;have vP:w.length=i:=by have:=congrArg ki a3;rw[cF,kE]at this;omega
   rcases cX i l.length with χ|du
   ·have xn:(i:Int)<l.length:=by omega
    obtain⟨a,v,e1,e2⟩:=hw l[i] (df χ);have kN:(l.map AV.str)[i]?=some (.str (a::v)):=by rw[nD,dN χ,e1];rfl
    let V:St->Prop:=fun st=>st.e 11=aX cl l/\st.e 12= .n l.length/\st.e 13= .n i;refine Θ (fun st=>S st/\W w st/\V st/\st.mem=Mm n' x' w.length/\st.e 14= .bool true) (by simp[S,W,V,h0,h1,h6,h7,hm,bp,bY,db,xn]) fun s3 ⟨⟨h0,h1⟩,⟨h6,h7⟩,⟨bp,bY,db⟩,hm,jK⟩=>?_;refine Θ (fun st=>S st/\W w st/\V st/\st.mem=Mm n' x' w.length) (by simp[S,W,V,h0,h1,h6,h7,hm,bp,bY,db,jK]) fun s3 ⟨⟨h0,h1⟩,⟨h6,h7⟩,⟨bp,bY,db⟩,hm⟩=>?_;refine bP (fun st=>∃n2 x2 g,n'<=n2/\n2<=n'+1/\g∈pK/\gy 0 (w++[(g,a::v)])=true/\S st/\W (w++[(g,a::v)]) st/\V st/\st.mem=Mm n2 x2 (w.length+1)) ?_ fun s4 ⟨n2,x2,g,b1,b2,b3,b4,⟨h0,h1⟩,⟨h6,h7⟩,⟨bp,bY,db⟩,hm⟩=>?_
    ·refine κ.block ?_;refine Θ (fun st=>S st/\W w st/\V st/\st.mem=Mm n' x' w.length/\st.e 8= .n i/\st.e 9= .str (a::v)) (by simp[S,W,V,h0,h1,h6,h7,hm,bp,bY,db,χ,e1,aX]) fun s3 ⟨⟨h0,h1⟩,⟨h6,h7⟩,⟨bp,bY,db⟩,hm,h8,h9⟩=>?_;obtain⟨x2,r,n2,b1,b2,b3,b4,kC⟩:=UH n' x' 5 w.length (by omega);have b4:=b4 (by omega);obtain⟨r,rfl⟩:∃j:Nat,r=j:=⟨r.toNat,by omega⟩;refine Θ (fun st=>∃g,g∈pK/\S st/\W w st/\V st/\st.mem=Mm n2 x2 w.length/\st.e 8= .n i/\st.e 9= .str (a::v)/\st.e 10= .str g) ?_ fun s3 ⟨g,hg,⟨h0,h1⟩,⟨h6,h7⟩,⟨bp,bY,db⟩,hm,h8,h9,aC⟩=>?_
     ·have h5:r=0\/r=1\/r=2\/r=3\/r=4:=by omega
      rcases h5 with rfl|rfl|rfl|rfl|rfl<;>simp only[uX]at kC<;>simp[S,W,V,h0,h1,h6,h7,hm,h8,h9,bp,bY,db,kC,shaped,AV.one,ν,Mem.ν,pK]
     have zG:=fun(b:Nat) m=>f75 (u:=u) b m;refine bP (fun st=>∃g,g∈pK/\gy 0 (w++[(g,a::v)])=true/\S st/\W w st/\V st/\st.mem=Mm n2 x2 w.length/\st.e 9= .str (a::v)/\st.e 10= .str g) ?_ fun s3 ⟨g,hg,Hz,⟨h0,h1⟩,⟨h6,h7⟩,⟨bp,bY,db⟩,hm,h9,aC⟩=>?_
     ·have full:∀g:List Nat,g≠[]->gy 0 (w++[(g,a::v)])=true:=fun g hg=>by
       rw[EU,a5];cases g with
       |nil=>exact absurd rfl hg
       |cons b g=>simp[gy]
      rcases J7 i with sR|sR
      ·subst sR;obtain rfl:w=[]:=List.length_eq_zero_iff.1 vP;refine Θ (fun st=>(S st/\W [] st/\V st/\st.mem=Mm n2 x2 0/\st.e 9= .str (a::v)/\st.e 10= .str g)/\st.e 47= .bool false) (by simp[S,W,V,h0,h1,h6,h7,hm,h8,h9,aC,bp,bY,db,eZ,bL,cZ,pC,c8,dp]) fun s4 ⟨⟨g0,g1,g2,g3,g4,g5⟩,vf⟩=>?_;exact κ.no (by simp[vf]) ⟨_,rfl,.inl ⟨rfl,g,hg,by simp[gy],g0,g1,g2,g3,g4,g5⟩⟩
      ·have HM:(0:Int)<i:=by omega
       obtain⟨w0,y,rfl⟩:∃w0 y,w=w0++[y]:=by
        rcases aly w with rfl|⟨w0,y,rfl⟩
        ·simp at vP;omega
        ·exact⟨w0,y,by simp⟩
       have eW:i-1<l.length:=by omega
       obtain⟨a',v',e3,e4⟩:=hw l[i-1] (df eW);have hy:y.2=a'::v':=by
        have h1:=congrArg (fun z=>z[i-1]?) a3;have Vk:w0.length=i-1:=by simp at vP;omega
        simp only[jT,aA,aP]at h1;rw[List.getElem?_append_right (by simp[Vk]),List.getElem?_take,if_pos (by omega),dN eW,e3]at h1;simpa[Vk]using h1
       have lz:bC .i64 ((i:Int)-1)=((i-1:Nat):Int):=by rw[wrap_i64 (by omega) (by omega)];omega
       have Hz:¬(dV a<2/\dV a=dV a')->gy 0 (w0++[y]++[(g,a::v)])=true:=fun hn=>by rw[EU,a5,afk,hy];have:=fun h=>hn (ae7 (v:=v') (w:=v) h ⟨e4,e2⟩);simp only[gy,Bool.and_true,Bool.true_and,xU];right;rw[zZ,<-Bool.not_eq_true];exact this
       clear hy;generalize i-1=j at*;by_cases du:g=[]
       ·subst du;by_cases hs:dV a<2
        ·have vJ:(dV a:Int)<2:=by omega
         by_cases he:dV a=dV a'
         ·have acV:(dV a':Int)<2:=by omega
          refine Θ (fun st=>(S st/\W (w0++[y]) st/\V st/\st.mem=Mm n2 x2 (w0++[y]).length/\st.e 9= .str (a::v))/\st.e 47= .bool true) (by simp[S,W,V,h0,h1,h6,h7,hm,h8,h9,aC,bp,bY,db,HM,sR,zG,acV,he,aX,e3,eW,lz,eZ,bL,cZ,pC,c8,dp]) fun s4 ⟨⟨⟨h0,h1⟩,⟨h6,h7⟩,⟨bp,bY,db⟩,hm,h9⟩,vf⟩=>?_;refine κ.yes (by simp[vf]) (κ.done .normal (fun st=>S st/\W (w0++[y]) st/\V st/\st.mem=Mm n2 x2 (w0++[y]).length/\st.e 9= .str (a::v)/\st.e 10= .str [32]) (by simp[S,W,V,h0,h1,h6,h7,hm,h9,bp,bY,db]) fun s' g=> .inl ⟨rfl,[32],by simp[pK],full _ (by simp),g⟩)
         ·have heI:¬(dV a:Int)=dV a':=by omega
          refine Θ (fun st=>(S st/\W (w0++[y]) st/\V st/\st.mem=Mm n2 x2 (w0++[y]).length/\st.e 9= .str (a::v)/\st.e 10= .str [])/\st.e 47= .bool false) (by simp[S,W,V,h0,h1,h6,h7,hm,h8,h9,aC,bp,bY,db,HM,sR,zG,vJ,he,heI,aX,e3,eW,lz,eZ,bL,cZ,pC,c8,dp]) fun s4 ⟨g,vf⟩=>?_;exact κ.no (by simp[vf]) ⟨_,rfl,.inl ⟨rfl,[],hg,Hz fun h=>he h.2,g⟩⟩
        ·have vJ:¬(dV a:Int)<2:=by omega
         refine Θ (fun st=>(S st/\W (w0++[y]) st/\V st/\st.mem=Mm n2 x2 (w0++[y]).length/\st.e 9= .str (a::v)/\st.e 10= .str [])/\st.e 47= .bool false) (by simp[S,W,V,h0,h1,h6,h7,hm,h8,h9,aC,bp,bY,db,HM,sR,zG,vJ,eZ,bL,cZ,pC,c8,dp]) fun s4 ⟨g,vf⟩=>?_;exact κ.no (by simp[vf]) ⟨_,rfl,.inl ⟨rfl,[],hg,Hz fun h=>hs h.1,g⟩⟩
       ·refine Θ (fun st=>(S st/\W (w0++[y]) st/\V st/\st.mem=Mm n2 x2 (w0++[y]).length/\st.e 9= .str (a::v)/\st.e 10= .str g)/\st.e 47= .bool false) (by simp[S,W,V,h0,h1,h6,h7,hm,h8,h9,aC,bp,bY,db,HM,sR,du,eZ,bL,cZ,pC,c8,dp]) fun s4 ⟨z,vf⟩=>?_;exact κ.no (by simp[vf]) ⟨_,rfl,.inl ⟨rfl,g,hg,full g du,z⟩⟩
     have xl:(bB w).length<=25*w.length:=V5 fun y hy=>⟨Hl (a4 y hy),ly _ (pn (by rw[<-a3];exact alz hy))⟩;have vA:(a::v).length<=20:=by rw[<-e1];exact ly _ (df χ)
     have Nl:=Hl hg;simp only[cE]at vA;have k1:¬(9223372036854775807:Int)<g.length+(v.length+1):=by omega
     have k2:¬(9223372036854775807:Int)<(bB w).length+(g.length+(v.length+1)):=by omega
     refine Θ (fun st=>st.e 6= .str (bB (w++[(g,a::v)]))/\S st/\V st/\st.mem=Mm n2 x2 w.length/\st.e 7=mB B.length ((iE 0 w).map fun e:Nat=>AV.n e)) (by simp[S,W,V,h0,h1,h6,h7,hm,h9,aC,bp,bY,db,afh,k1,k2]) fun s4 ⟨h6,⟨h0,h1⟩,⟨bp,bY,db⟩,hm,h7⟩=>?_;have dO:gA (Mm n2 x2 w.length) false 1 8 3 (mB B.length ((iE 0 w).map fun e:Nat=>AV.n e)) (.list .full [.n (bB (w++[(g,a::v)])).length])=some (mB B.length ((iE 0 (w++[(g,a::v)])).map fun e:Nat=>AV.n e),Mm n2 x2 (w.length+1)):=by have:=Qu (B.set ps (.cells (aG c bs n2 x2))) [] (ag:=false) (sz:=1) (bytes:=8) (e:=3) (l:=(iE 0 w).map fun e:Nat=>AV.n e) (y:= .n (bB (w++[(g,a::v)])).length) (by omega) (by simp[shaped,AV.one]) rfl rfl (by simp[FP];omega) (by simp[FP];omega);simpa[Mm,FP,aaO]using this
     generalize hL:bB (w++[(g,a::v)])=L at*;refine κ.done .normal (fun st=>S st/\(st.e 6= .str L/\st.e 7=mB B.length ((iE 0 (w++[(g,a::v)])).map fun e:Nat=>AV.n e))/\V st/\st.mem=Mm n2 x2 (w.length+1)) (by simp[S,V,h0,h1,h6,h7,hm,bp,bY,db,dO,shaped,AV.one,ν,Mem.ν]) fun s' ⟨z1,z2,z3,z4⟩=> .inr ⟨by simp,.inl ⟨rfl,n2,x2,g,b1,b2,hg,Hz,z1,by rw[<-hL]at z2;exact z2,z3,z4⟩⟩
    ·have kP:bC .i64 ((i:Int)+1)=((i+1:Nat):Int):=by rw[wrap_i64 (by omega) (by omega)];simp
     refine κ.done .normal (fun st=>(S st/\W (w++[(g,a::v)]) st)/\st.mem=Mm n2 x2 (w.length+1)/\st.e 11=aX cl l/\st.e 12= .n l.length/\st.e 13= .n ((i+1:Nat):Int)) (by simp[S,W,h0,h1,h6,h7,hm,bp,bY,db,kP]) fun s' ⟨⟨g1,g2⟩,g3,g4,g5,g6⟩=> .inl ⟨rfl,χ,n2,x2,w++[(g,a::v)],by omega,by omega,?_,by omega,?_,b4,g1,g2,by rw[g3];simp,g4,g5,g6⟩
     ·rw[jT,a3,uY χ,e1];rfl
     ·intro y hy;rcases dE.1 hy with hy|hy
      ·exact a4 y hy
      ·rw[fK.1 hy];exact b3
   ·have Dg:¬(i:Int)<l.length:=by omega
    refine κ.done (.exit 0) (fun st=>S st/\W w st/\st.mem=Mm n' x' w.length) (by simp[S,W,h0,h1,h6,h7,hm,bp,bY,db,Dg]) fun s' ⟨g1,g2,g3⟩=> .inr ⟨by simp,.inl ⟨rfl,.inl ⟨rfl,n',x',w,a1,by omega,by rw[a3,fw du],a4,a5,g1,g2,g3⟩⟩⟩
  ·have vP:w.length=l.length:=by rw[<-a3];simp
   have xl:(bB w).length<=25*w.length:=V5 fun y hy=>⟨Hl (a4 y hy),ly _ (by rw[<-a3];exact alz hy)⟩;have k0:¬(9223372036854775807:Int)<(bB w).length:=by omega
   have k1:¬(9223372036854775807:Int)<(bB w).length+1:=by omega
   have k2:¬(9223372036854775807:Int)<(bB w).length+4:=by omega
   obtain⟨x2,r,n2,b1,b2,b3,b4,kC⟩:=UH n' x' 3 w.length (by omega);have b4:=b4 (by omega);obtain⟨r,rfl⟩:∃j:Nat,r=j:=⟨r.toNat,by omega⟩;refine Θ (fun st=>∃tl,tl∈zR/\st.mem=Mm n2 x2 w.length/\st.e 4= .str (bB w++tl)/\st.e 5=mB B.length ((iE 0 w).map fun e:Nat=>AV.n e)) ?_ fun s3 ⟨tl,hg,hm,h4,h5⟩=>?_
   ·have h5:r=0\/r=1\/r=2:=by omega
    rcases h5 with rfl|rfl|rfl<;>simp only[uX]at kC<;>simp[h0,h1,h6,h7,hm,kC,shaped,AV.one,ν,Mem.ν,zR,k0,k1,k2]
   ·exact⟨(.ret,s3),rfl,by simp,x2,n2,w,tl,by omega,by omega,a3,a4,a5,hg,hm,h4,h5⟩
 obtain⟨q,hx,h1,x',n',w,tl,a1,a2,a3,a4,a5,a6,hm,h4,h5⟩:=hr;refine⟨x',n',w,tl,a1,a2,a3,a4,a5,a6,fun T=>?_⟩;refine D7 (u:=u) (f:=38) (g:=He) (B:=B.set ps (.cells (aG c bs n x))) (B':=B.set ps (.cells (aG c bs n' x'))) (args:=[.μ ps 0,aX cl l]) rfl rfl rfl (by simp) (by simp[exp,hp,wN eh]) ⟨q,hx,h1,⟨_,hm⟩,[.str (bB w++tl),mB B.length ((iE 0 w).map fun e:Nat=>AV.n e)],by simp[He,h4,h5],?_⟩ T;have h2:Dv (mB B.length ((iE 0 w).map fun e:Nat=>AV.n e)) (.list (if w=[]then .nil else .any) ((iE 0 w).map fun e:Nat=>AV.n e)):=by
  have:=Tr B.length (bS.of (fun e:Nat=>AV.n e) (iE 0 w) fun x _=>Dv.int _ _);cases w with
  |nil=>exact this
  |cons y w=>exact this
 exact(Dv.aU (.cons (.str _) (.cons h2 .nil))).aK _ _ _
def wW:List (List Nat)->Nat
 |[]=>0
 |w::l=>(w.length+5)+wW l
theorem mO:wW []=0:=rfl
theorem nz(w:List Nat)(l:List (List Nat)):wW (w::l)=(w.length+5)+wW l:=rfl
theorem mh(a b:List (List Nat)):wW (a++b)=wW a+wW b:=by
 induction a with
 |nil=>simp[wW]
 |cons w a ih=>simp[wW,ih];omega
theorem afi{w:GW}(h:∀y∈w,y.1.length<=5):(bB w).length<=wW (w.map tO):=by
 induction w with
 |nil=>exact bA _
 |cons y w ih=>
  have h1:=h y (by simp)
  have h2:=ih fun z hz=>h z (by simp[hz]);simp only[bB,cD,aA,wW];omega
theorem cW.w1{ts:List (List Nat)}{k:Nat}{i:η}(h:cW ts k i)(hk:k<=2)(ht:∀t∈ts,c_ t=true):wW i.words<=13/\i.kind<=2:=by
 cases h with
 |@fix _ n h1 h2=>have:=va n.toNat;simp[η.words,s_,wW,η.kind];omega
 |@dR _ t h=>have:=oX (ht t h);simp[η.words,s_,wW,η.kind];omega
 |bin h0=>omega
theorem agn(k:Int):(r_ k).length=1:=by unfold r_;split<;>(try split)<;>rfl
theorem cW.w4{ts:List (List Nat)}{k:Nat}{i:η}(h:cW ts k i)(hk:k<=4)(ht:∀t∈ts,c_ t=true):wW i.words<=32:=by
 cases h with
 |@fix _ n h1 h2=>have:=va n.toNat;simp[η.words,s_,wW];omega
 |@dR _ t h=>have:=oX (ht t h);simp[η.words,s_,wW];omega
 |@bin s k a b h0 h1 h2 ha hb=>
  obtain⟨a1,a2⟩:=ha.w1 (by omega) ht
  obtain⟨b1,b2⟩:=hb.w1 (by omega) ht;have e1:¬k=1:=by omega
  have e2:¬k=2:=by omega
  have s1:fU a.kind=false:=by simp[fU];omega
  have s2:fU b.kind=false:=by simp[fU];omega
  have s3:decide (3<=b.kind)=false:=by simp;omega
  have:=agn k;simp[η.words,η.JL,s_,e1,e2,s1,s2,s3,pZ,mh,nz,this];omega
theorem fZ.wW{fr:Nat}{s:Sc}(hs:bU fr s){p:ρ}(h:fZ s.aB s.turns p):wW p.words<=95:=by
 have h1:=oX (hs.named.1 _ h.nm);have h2:=h.len;have h3:∀x∈p.ix,Tz.wW x.words<=32:=fun x hx=>(h.qL x hx).w4 (bA _) hs.named.2.2.2;obtain⟨nm,c,ix⟩:=p;simp only at h1 h2 h3
 match ix,h2,h3 with
 |[],_,_=>simp[ρ.words,Tz.wW];omega
 |[a],_,h3=>have:=h3 a (by simp);simp[ρ.words,mh,nz,mO];omega
 |[a,b],_,h3=>have:=h3 a (by simp);have:=h3 b (by simp);simp[ρ.words,mh,nz,mO];omega
 |_::_::_::_,h2,_=>simp at h2
theorem ajS(l:List (List (List Nat)))(n:Nat)(h:∀x∈l,wW x<=n):wW (ke l)<=l.length*(n+6):=by
 induction l with
 |nil=>exact q_ _
 |cons a l ih=>
  have h1:=h a (by simp)
  have h2:=ih fun x hx=>h x (by simp[hx]);simp only[ke,mh,nz,mO,cE,eI,alA];omega
theorem Sb(l:List (List (List Nat)))(n:Nat)(h:∀x∈l,wW x<=n):wW (iD l)<=l.length*(n+6):=by
 cases l with
 |nil=>exact q_ _
 |cons a l=>
  have h1:=h a (by simp)
  have h2:=ajS l n fun x hx=>h x (by simp[hx]);simp only[iD,mh,cE,alA];omega
theorem W1{fr:Nat}{s:Sc}(hs:bU fr s){l:List ρ}(h:∀p∈l,fZ s.aB s.turns p)(hl:l.length<=3):wW (iD (l.map ρ.words))<=303:=by
 have:=Sb (l.map ρ.words) 95 fun x hx=>by obtain⟨p,hp,rfl⟩:=eT.1 hx;exact(h p hp).wW hs
 rw[cF]at this;have h2:l.length*101<=3*101:=mq _ hl;omega
section
variable{bD:List (List Nat×Nat)}(cT:∀nm k,(nm,k)∈bD->c_ nm=true/\k<=3)
include cT
mutual
theorem eY.wW{d fr aw:Nat}{s s':Sc}{x:δ}(h:eY bD d fr s x aw s')(hs:bU fr s):wW x.words<=334*x.cnt:=by
 match h with
 | .gate (g:=g) h1 h2 h3 h4 hc=>
  have h5:=L9 (g-1).toNat
  have:=W1 hs h4 (by rw[h3];unfold fL;split<;>(try split)<;>omega)
  simp only[bz,δ.words,fH,if_true];generalize fq.getD (g-1).toNat []=W at h5⊢;simp[aS,δ.cnt,bh,mh,nz,mO];omega
 | .take h1=>
  have:=h1.w4 (bA _) hs.named.2.2.2
  simp[bz,δ.words,fH,aS,δ.cnt,bh,bR,mh,nz,mO];omega
 | .drop h1=>
  have:=oX (hs.named.2.1 _ h1)
  simp[bz,δ.words,fH,aS,δ.cnt,bh,mh,nz,mO];omega
 | .borrow hd h1 h2 hc hn=>
  have:=h1.w4 (bA _) hs.named.2.2.2
  have:=aN.wW h2 hs.l_.inner;simp[bz,δ.words,fH,aS,δ.cnt,bh,bR,mh,nz,mO];omega
 | .measure (nm:=nm) (p:=p) h1 h2=>
  have:=h1.wW hs
  have hn:nm.length<=8:=by
   rcases h2 with rfl|h2
   ·exact oX (oZ 98 _ (by omega) (by omega))
   ·exact oX (hs.named.2.2.1 _ h2)
  simp only[bz,δ.words,fH];simp[aS,δ.cnt,bh,iD,ke,mh,nz,mO];omega
 | .reset (p:=p) h1=>
  have:=h1.wW hs
  simp only[bz,δ.words,fH];simp[aS,δ.cnt,bh,iD,ke,mh,nz,mO];omega
 | .cond (nm:=nm) (els:=els) hd h1 h2 h3 hc hn gD gF=>
  have:=oX (hs.named.2.2.1 _ h1)
  have h4:=aN.wW h2 hs.inner;have h5:=aN.wW h3 (hs.inner.mono (aN.le h2));have h6:=Kl 7;simp only[bz,δ.words,fH,aS,δ.cnt,bh];generalize mU 7=B7 at h6⊢;by_cases he:els.length=0<;>simp[he,mh,nz,mO]<;>omega
 | .loop hd h1 h2 h3 hc hn=>
  have:=h1.w4 (by omega) hs.named.2.2.2
  have:=h2.w4 (by omega) hs.named.2.2.2;have:=aN.wW h3 hs.dR.inner;simp[bz,δ.words,fH,aS,δ.cnt,bh,bR,mh,nz,mO];omega
 | .call h1 h2 h3 hc=>
  have:=oX (cT _ _ h1).1
  have:=W1 hs h3 (by rw[h2];exact(cT _ _ h1).2);simp[bz,δ.words,fH,aS,δ.cnt,bh,mh,nz,mO];omega
 | .qa hd h2 hc hn=>
  have:=aN.wW h2 hs.inner
  simp[bz,δ.words,fH,aS,δ.cnt,bh,mh,nz,mO];omega
 | .within hd h2 h3 hc hn gD gF=>
  have h4:=aN.wW h2 hs.inner
  have h5:=aN.wW h3 (hs.inner.mono (aN.le h2));simp[bz,δ.words,fH,aS,δ.cnt,bh,mU,mh,nz,mO];omega
theorem aN.wW{d fr aw:Nat}{s:Sc}{l:List δ}(h:aN bD d fr s l aw)(hs:bU fr s):wW (kg l)<=334*δ.bO l:=by
 match h with
 | .nil=>simp[kg,mO]
 | .cons h1 h2=>
  have:=eY.wW h1 hs
  have:=aN.wW h2 (h1.sc hs);simp only[kg,mh,δ.bO];omega
end
end
theorem ahZ(a b:List φ):eG (a++b)=eG a++eG b:=by
 induction a with
 |nil=>rfl
 |cons x a ih=>simp[eG,ih]
theorem nE.wW{bD:List (List Nat×Nat)}(cT:∀nm k,(nm,k)∈bD->c_ nm=true/\k<=3){fr aw:Nat}{x:φ}(h:nE bD fr aw x)(hf:aw<=675):wW x.words<=13600:=by
 have h1:=aN.wW cT h.body (h.scope hf);have h2:=h.cnt;have h3:=Sb (x.aq.map ay.words) 28 fun y hy=>by obtain⟨p,hp,rfl⟩:=eT.1 hy;obtain⟨j,hj,rfl⟩:=wy hp;have e:=(h.aq j hj).1;have:=va (x.aq[j].size.toNat);simp[ay.words,e,bR,nz,mO];omega
 have h4:=h.vc;rw[cF]at h3;have h5:x.aq.length*34<=2*34:=mq _ h4;have h6:=h.nm;simp only[φ.words,bW,mh,nz,mO,h6];simp[bR];omega
theorem gj.wW{l:List φ}{fr:Nat}(h:gj l fr)(hf:fr<=675):wW (eG l)<=13600*l.length:=by
 induction h with
 |nil=>simp[eG,mO]
 |@snoc l x fr aw h1 h2 ih=>
  have hle:=h2.le
  have MU:=h1.vc;have hn:=Pn h1;have:=ih (by omega);have:=h2.wW (fun nm k hk=>⟨hn nm k hk,by
   obtain⟨y,hy,e⟩:=eT.1 hk
   rw[az]at e;have:=MU y hy;omega⟩) hf
  rw[ahZ];simp only[mh,eG,de,cD,cE,eI];omega
theorem abl{g:List Nat}(h:g∈pK):Lay g:=by
 simp only[pK,cw,lF,or_false]at h;rcases h with rfl|rfl|rfl|rfl|rfl
 ·exact .nil
 ·exact .sp (by simp)
 ·exact .sp (by simp)
 ·refine⟨fun r=>?_,fun b hb=>?_⟩
  ·simp[bZ];omega
  ·simp at hb;omega
 ·exact .sp (by simp)
theorem XW{z:List Nat}(h:z∈zR):bZ false z=z.length/\cV z/\z.length<=4:=by
 simp only[zR,cw,lF,or_false]at h;rcases h with rfl|rfl|rfl
 ·exact⟨rfl,by simp[cV],by simp⟩
 ·exact⟨rfl,by simp[cV],by simp⟩
 ·exact⟨rfl,by simp[cV],by simp⟩
theorem kY.CU{g r:List Nat}{l:List (List Nat)}(hg:nF g)(h:kY r l):kY (g++r) l:=by
 induction g with
 |nil=>exact h
 |cons b g ih=>exact .gb (hg b (by simp)) (ih fun c hc=>hg c (by simp[hc]))
theorem akc{v r:List Nat}{l:List (List Nat)}(hv:ll v)(hs:Sep v r)(h:kY r l):kY (v++r) (v::l):=by
 have go:∀(b:Nat) (v:List Nat),¬(b=32\/b=10)->runN (mM (dV b)) (v++r)=v.length->kY (b::v++r) ((b::v)::l):=fun b v hb hr=>by have:=kY.word (b:=b) (r:=v++r) (l:=l) hb (by rw[hr,alB];exact h);rw[hr,B5]at this;exact this
 have hk:∀b v,dB (b::v)=if isLet b then 1 else if cj b then 2 else b:=fun _ _=>rfl;cases hv with
 |lets h1 h2 h3=>
  cases v with
  |nil=>exact absurd rfl h1
  |cons b v=>
   have hb:=h3 b (by simp)
   refine go b v (by simp[isLet]at hb;omega) (Jj _ _ _ (fun c hc=>?_) fun c hc=>?_)
   ·have:=h3 c (by simp[hc]);simp[mM,dV,hb,this]
   ·have:=(hs c hc).1;rw[hk,if_pos hb]at this;cases hl:isLet c with
    |true=>exact absurd ⟨rfl,hl⟩ this
    |false=>simp[mM,dV,hb,hl];split<;>omega
 |@num n hn=>
  have hd:∀b∈fp n,cj b=true:=by
   intro b hb;unfold fp at hb;split at hb
   ·rw[fK.1 hb];simp[cj];omega
   ·rcases cw.1 hb with rfl|hb
    ·simp[cj];omega
    ·rw[fK.1 hb];simp[cj];omega
  have τ:fp n≠[]:=by unfold fp;split<;>simp
  generalize fp n=w at*;cases w with
  |nil=>exact absurd rfl τ
  |cons b v=>
   have hb:=hd b (by simp)
   have nl:∀c,cj c=true->isLet c=false:=fun c h=>by simp[cj]at h;simp[isLet];omega
   refine go b v (by simp[cj]at hb;omega) (Jj _ _ _ (fun c hc=>?_) fun c hc=>?_)
   ·have:=hd c (by simp[hc]);simp[mM,dV,hb,this,nl b hb,nl c this]
   ·have:=(hs c hc).2;rw[hk,nl b hb,hb]at this;cases hl:cj c with
    |true=>exact absurd ⟨rfl,hl⟩ this
    |false=>simp[mM,dV,hb,nl b hb,hl];split<;>omega
 |@sign b h=>
  obtain⟨h1,h2,h3⟩:=EF h
  refine go b [] (fun e=>?_) ?_
  ·rcases e with rfl|rfl<;>exact absurd h (by decide)
  ·cases r with
   |nil=>rfl
   |cons c r=>simp[runN,mM,dV,h1,h2]
theorem Sg:∀(w:GW) (k:Nat) (z:List Nat),Ai w->gy k w=true->nF z->kY (bB w++z) (w.map tO)
 |[],k,z,_,_,hz=>by have:=kY.CU hz .nil;simpa[bB]using this
 |(g,v)::w,k,z,hw,ha,hz=>by
  simp only[gy,dW]at ha;have hx:=hw (g,v) (by simp);have rR:Ai w:=fun y hy=>hw y (by simp[hy]);have hl:bZ false z=z.length:=by have:=(Lay.sp hz).go [];simpa[bZ]using this
  have:=(akc hx.2 (XH rR.Hn ha.2 (V8 hl)) (Sg w _ z rR ha.2 hz)).CU hx.1;simpa[bB,bH]using this
theorem Sj{l:List φ}(h:∀p∈l,p.Can)(τ:l≠[]):kY (fI l) (eG l)/\∀t∈eG l,ll t:=by obtain⟨w,e1,e2,e3,e4⟩:=ah0 h τ;refine⟨by rw[e1,<-e2];exact Sg w 0 [10] e3 e4 (by simp[nF]),fun t ht=>?_⟩;rw[<-e2]at ht;obtain⟨y,hy,rfl⟩:=eT.1 ht;exact(e3 y hy).2
attribute [local simp] qn
theorem X2:∀(w:GW) (n:Nat),(nx n w).length=w.length
 |[],_=>rfl
 |x::w,n=>by simp[nx,X2 w]
structure LT (p:List φ) (w:GW) (tl:List Nat):Prop where
 words:w.map tO=eG p
 CU:∀y∈w,y.1∈pK
 YG:gy 0 w=true
 tail:tl∈zR
section
variable{cp:ξ}{p:List φ}(h:Md cp p)
include h
theorem Md.ne:p≠[]:=fun e=>by have:=h.len.1;rw[e]at this;simp at this
theorem Md.can:∀x∈p,x.Can:=by obtain⟨fr,h1,h2⟩:=h.made;exact h1.can h2
theorem Md.cut:kY (fI p) (eG p):=(Sj h.can h.ne).1
theorem Md.P0:∀t∈eG p,ll t:=(Sj h.can h.ne).2
variable{w:GW}{tl:List Nat}(k:LT p w tl)
include k
theorem LT.Hn:tJ w:=fun y hy=>⟨abl (k.CU y hy),h.P0 _ (by rw[<-k.words];exact alz hy)⟩
theorem LT.len:(bB w++tl).length<=60000:=by have h1:=afi fun y hy=>Hl (k.CU y hy);have h2:=(XW k.tail).2.2;obtain⟨fr,m1,m2⟩:=h.made;have h3:=m1.wW m2;have h4:=h.len.2;rw[k.words]at h1;rw[cD];omega
theorem LT.ok:cV (bB w++tl):=fun b hb=>(dE.1 hb).elim ((k.Hn h).ok b) ((XW k.tail).2.1 b)
end
structure LW (n:Nat) (TL EL WL:List AV):Prop where
 tl:TL.length=n
 at_:∀i,i<n->∃(pos:Nat) (a:Nat) (r:List Nat),TL[i]?=some (.agg [.n pos,.n (dB (a::r)),.str (a::r)])/\EL[i]?=some (.n ((pos+(r.length+1):Nat):Int))/\WL[i]?=some (.str (a::r))/\pos+(r.length+1)<=60000/\a<256
theorem aho{gl:Nat->AV}{c:cu}{a:AC}{i:Nat}{s:St}{M:St->Prop}(h:κ gl c a s fun q=>q.1= .normal/\M q.2):∃s',exec gl c dL (.block i a) s=some (.normal,s')/\M s':=by obtain⟨⟨e,s'⟩,h1,h2,h3⟩:=h;dsimp only at h2 h3;subst h2;exact⟨s',by simp[h1],h3⟩
theorem Yd{t:List Nat}(h:ll t):(∃a v,t=a::v/\2<a)/\t.length<=20:=by
 cases h with
 |lets h1 h2 h3=>
  cases t with
  |nil=>exact absurd rfl h1
  |cons a v=>exact⟨⟨a,v,rfl,by have:=h3 a (by simp);simp[isLet]at this;omega⟩,by omega⟩
 |@num n h=>
  have:=va n
  refine⟨?_,by omega⟩;unfold fp;split
  ·exact⟨_,_,rfl,by omega⟩
  ·exact⟨_,_,rfl,by omega⟩
 |sign h=>exact⟨⟨_,[],rfl,(EF h).2.2⟩,by simp⟩
end Go.Δ.Tz
namespace Go.Δ
def Halt(c:List Tok):Prop:=∀t l,c=t::l->t.kind=0
def w8(e:Nat):List Tok->Nat
 |[]=>e
 |t::_=>t.at_
def HR{α:Type}(e:Nat)(c:List Tok)(o:Bool)(m:Nat)(u w:List Tok)(x:α)(t:PS)(r:R α):Prop:=
 r= .no (w8 e c)\/(∃u2,u2.length+m<=u.length/\t.l=u2++w/\r= .ok x ⟨t.last,u2++c⟩)\/(o=true/\∃y b,r= .ok y ⟨b,c⟩)
def HP{α:Type}(e:Nat)(c:List Tok)(o:Bool)(N m:Nat)(P P':PS->R α):Prop:=∀a u w x t,u.length<N->P ⟨a,u++w⟩= .ok x t->HR e c o m u w x t (P' ⟨a,u++c⟩)
def HZ{α:Type}(e:Nat)(c:List Tok)(o:Bool)(P:PS->R α):Prop:=∀a,P ⟨a,c⟩= .no (w8 e c)\/(o=true/\∃y b,P ⟨a,c⟩= .ok y ⟨b,c⟩)
def HQ{α:Type}(e:Nat)(c:List Tok)(o z:Bool)(N m:Nat)(P P':PS->R α):Prop:=HP e c o N m P P'/\HZ e c z P'
section
variable{α β:Type}{e:Nat}{c:List Tok}{o o1 z z1:Bool}{N N2 m m2 m3:Nat}{P P':PS->R α}{Q Q':α->PS->R β}
theorem HR.le{u u' w:List Tok}{x:α}{t:PS}{r:R α}(h:HR e c o m u w x t r)(hl:u.length<=u'.length):HR e c o m u' w x t r:=by
 rcases h with h|⟨u2,h1,h2⟩|h
 ·exact .inl h
 ·exact .inr (.inl ⟨u2,by omega,h2⟩)
 ·exact .inr (.inr h)
theorem HP.mono(h:HP e c o N m P P')(hN:N2<=N)(hm:m2<=m)(ho:o=true->o1=true):HP e c o1 N2 m2 P P':=by
 intro a u w x t hu hp;rcases h a u w x t (by omega) hp with h|⟨u2,h1,h2⟩|⟨h1,h2⟩
 ·exact .inl h
 ·exact .inr (.inl ⟨u2,by omega,h2⟩)
 ·exact .inr (.inr ⟨ho h1,h2⟩)
theorem HZ.bind(h:HZ e c z1 P')(k:z1=true->∀y,HZ e c z (Q' y)):HZ e c z fun s=>(P' s).bind Q':=by
 intro a;show(P' ⟨a,c⟩).bind Q'=_\/_/\∃y b,(P' ⟨a,c⟩).bind Q'=_;rcases h a with h|⟨h1,y,b,h⟩
 ·rw[h];exact .inl rfl
 ·rw[h];exact k h1 y b
theorem HZ.map{f:α->β}(h:HZ e c z P'):HZ e c z fun s=>(P' s).map f:=by
 intro a;show(P' ⟨a,c⟩).map f=_\/_/\∃y b,(P' ⟨a,c⟩).map f=_;rcases h a with h|⟨h1,y,b,h⟩
 ·rw[h];exact .inl rfl
 ·rw[h];exact .inr ⟨h1,_,b,rfl⟩
theorem HP.Fi(h:HP e c o1 N m P P')(k:∀x,HP e c o N2 m2 (Q x) (Q' x))(hz:o1=true->∀y,HZ e c o (Q' y))(hN:N-m<=N2)(hm:m3<=m+m2):HP e c o N m3 (fun s=>(P s).bind Q) fun s=>(P' s).bind Q':=by
 intro a u w y t hu h0;show HR _ _ _ _ _ _ _ _ ((P' ⟨a,u++c⟩).bind Q');cases hp:P ⟨a,u++w⟩with
 |no w=>simp[hp,R.bind]at h0
 |ok x s1=>
  simp only[hp,R.bind]at h0
  rcases h a u w x s1 hu hp with h1|⟨u2,l1,l2,h1⟩|⟨ho,z,b,h1⟩
  ·rw[h1];exact .inl rfl
  ·rw[h1];have e1:Q x ⟨s1.last,u2++w⟩= .ok y t:=by rw[<-l2];exact h0
   rcases k x s1.last u2 w y t (by omega) e1 with k1|⟨u3,n1,n2,k1⟩|k1
   ·exact .inl k1
   ·exact .inr (.inl ⟨u3,by omega,n2,k1⟩)
   ·exact .inr (.inr k1)
  ·rw[h1];rcases hz ho z b with k1|k1
   ·exact .inl k1
   ·exact .inr (.inr k1)
theorem HP.map{f:α->β}(h:HP e c o N m P P'):HP e c o N m (fun s=>(P s).map f) fun s=>(P' s).map f:=by
 intro a u w y t hu h0;show HR _ _ _ _ _ _ _ _ ((P' ⟨a,u++c⟩).map f);cases hp:P ⟨a,u++w⟩with
 |no w=>simp[hp,R.map]at h0
 |ok x s1=>
  simp only[hp,R.map]at h0
  cases h0;rcases h a u w x _ hu hp with h1|⟨u2,l1,l2,h1⟩|⟨ho,z,b,h1⟩
  ·rw[h1];exact .inl rfl
  ·rw[h1];exact .inr (.inl ⟨u2,l1,l2,rfl⟩)
  ·rw[h1];exact .inr (.inr ⟨ho,_,b,rfl⟩)
theorem HQ.map{f:α->β}(h:HQ e c o z N m P P'):HQ e c o z N m (fun s=>(P s).map f) fun s=>(P' s).map f:=⟨h.1.map,h.2.map⟩
theorem HP.X8:HP e c o 0 m P P':=fun _ _ _ _ _ h=>absurd h (E1 _)
theorem HP.w(h:HP e c o N m P P'):HP e c o N 0 P P':=h.mono (bA _) (q_ _) id
theorem HQ.w(h:HQ e c o z N m P P'):HP e c o N 0 P P':=h.1.w
theorem HQ.bind(h:HQ e c false false N 1 P P')(k:∀x,HP e c o (N-1) 0 (Q x) (Q' x)):HQ e c o false N 1 (fun s=>(P s).bind Q) fun s=>(P' s).bind Q':=
 ⟨h.1.Fi k nofun (bA _) (bA _),h.2.bind nofun⟩
theorem HP.oy(h:HP e c true N m P P')(k:∀x,HQ e c o z N m2 (Q x) (Q' x))(hz:z=true->o=true:=by decide):HP e c o N m (fun s=>(P s).bind Q) fun s=>(P' s).bind Q':=
 h.Fi (fun x=>(k x).1) (fun _ y a=>((k y).2 a).imp id fun⟨h1,h2⟩=>⟨hz h1,h2⟩) (Nat.sub_le _ _) (alC _ _)
theorem HP.Fj(h:HP e c false N m P P')(k:∀x,HP e c o N m2 (Q x) (Q' x)):HP e c o N m (fun s=>(P s).bind Q) fun s=>(P' s).bind Q':=
 h.Fi k nofun (Nat.sub_le _ _) (alC _ _)
theorem HQ.oy(h:HQ e c true z1 N m P P')(k:∀x,HQ e c o z N m2 (Q x) (Q' x))(hz:z=true->o=true:=by decide):HQ e c o z N m (fun s=>(P s).bind Q) fun s=>(P' s).bind Q':=
 ⟨h.1.oy k hz,h.2.bind fun _ y=>(k y).2⟩
theorem HQ.zero(h:HQ e c o false N m P P'):HQ e c o true N m P P':=⟨h.1,fun a=>(h.2 a).imp id fun⟨h1,_⟩=>by cases h1⟩
theorem HQ.m0(h:HQ e c o z N m P P'):HQ e c o z N 0 P P':=⟨h.w,h.2⟩
theorem HQ.open(h:HQ e c false z N m P P'):HQ e c true z N m P P':=⟨h.1.mono (bA _) (bA _) nofun,h.2⟩
theorem HP.ok(x:α):HP e c o N 0 (fun s=> .ok x s) fun s=> .ok x s:=by intro a u w y t _ h0;cases h0;exact .inr (.inl ⟨u,by omega,rfl,rfl⟩)
theorem HQ.ok(x:α):HQ e c o true N 0 (fun s=> .ok x s) fun s=> .ok x s:=⟨.ok x,fun a=> .inr ⟨rfl,x,a,rfl⟩⟩
theorem HQ.ite{p:PS->Prop}[∀s,Decidable (p s)]{S S':PS->R α}(hp:∀a b x l l',p ⟨a,x::l⟩↔p ⟨b,x::l'⟩)(hz:z=true->o=true)(h:HQ e c o z N m P P')(k:HQ e c o z N m S S'):HQ e c o z N m (fun s=>if p s then P s else S s) fun s=>if p s then P' s else S' s:=by
 have h0:HZ e c z fun s=>if p s then P' s else S' s:=fun a=>by
  by_cases hc:p ⟨a,c⟩
  ·simp only[hc,if_true];exact h.2 a
  ·simp only[hc,if_false];exact k.2 a
 refine⟨fun a u w x t hu e0=>?_,h0⟩;cases u with
 |nil=>
  rcases h0 a with h1|⟨h1,h2⟩
  ·exact .inl h1
  ·exact .inr (.inr ⟨hz h1,h2⟩)
 |cons v u=>
  have hi:=hp a a v (u++w) (u++c)
  by_cases hc:p ⟨a,v::(u++w)⟩
  ·have gD:=hi.1 hc;simp only[cy,hc,gD,if_true]at e0⊢;exact h.1 a (v::u) w x t hu e0
  ·have gD:¬p ⟨a,v::(u++c)⟩:=fun h=>hc (hi.2 h);simp only[cy]at e0⊢;rw[if_neg hc]at e0;rw[if_neg gD];exact k.1 a (v::u) w x t hu e0
theorem HQ.hd{P P':List Nat->PS->R α}(hz:z=true->o=true)(h:∀v,HQ e c o z N m (P v) (P' v)):HQ e c o z N m (fun s=>P s.hd s) fun s=>P' s.hd s:=by
 refine⟨fun a u w x t hu e0=>?_,fun a=>(h _).2 a⟩;cases u with
 |nil=>
  rcases(h (PS.hd ⟨a,c⟩)).2 a with h1|⟨h1,h2⟩
  ·exact .inl h1
  ·exact .inr (.inr ⟨hz h1,h2⟩)
 |cons v u=>exact(h v.text).1 a (v::u) w x t hu e0
end
section
variable{e e':Nat}{c:List Tok}(hc:Halt c){N:Nat}
include hc
theorem Ob(f:Tok->Bool):HZ e' c false (iJ e' f):=by
 intro a;left;cases c with
 |nil=>rfl
 |cons t l=>simp[iJ,hc t l rfl,w8]
theorem NI(f:Tok->Bool):HQ e' c false false N 1 (iJ e f) (iJ e' f):=by
 refine⟨fun a u w x t hu e0=>?_,Ob hc f⟩;cases u with
 |nil=>exact .inl (((Ob hc f) a).elim id fun⟨h,_⟩=>by cases h)
 |cons y u=>
  simp only[iJ,cy]at e0⊢
  split at e0
  ·cases e0
  ·rename_i h1;split at e0
   ·cases e0
   ·rename_i h2;cases e0;exact .inr (.inl ⟨u,by simp,rfl,by rw[if_neg h1,if_neg h2]⟩)
theorem ji(w:List Nat):HQ e' c false false N 1 (aD e w) (aD e' w):=NI hc _
theorem uo:HQ e' c false false N 1 (gH e) (gH e'):=NI hc _
theorem U':HQ e' c false false N 1 (r8 e) (r8 e'):=(NI hc _).map
theorem um:HQ e' c false false N 1 (fun s=>aD e s.hd s) fun s=>aD e' s.hd s:=HQ.hd nofun fun v=>ji hc v
omit hc in
theorem Oa{α:Type}{nI:PS->Bool}{f':α->PS->R α}(hf:∀x,HZ e' c false (f' x))(n:Nat)(x:α)(a:Nat)(hn:0<n):cd nI f' n x ⟨a,c⟩= .no (w8 e' c)\/(true=true/\∃y b,cd nI f' n x ⟨a,c⟩= .ok y ⟨b,c⟩):=by
 obtain⟨k,rfl⟩:∃k,n=k+1:=⟨n-1,by omega⟩;by_cases hb:nI ⟨a,c⟩=true
 ·left;rcases hf x a with h|⟨h,_⟩
  ·rw[cd,if_pos hb,h];rfl
  ·cases h
 ·right;exact⟨rfl,x,a,by rw[cd,if_neg hb]⟩
omit hc in
theorem HP.loop{α:Type}{o:Bool}{nI:PS->Bool}{f f':α->PS->R α}(MI:∀a b x l l',nI ⟨a,x::l⟩=nI ⟨b,x::l'⟩)(hf:∀x,HQ e' c o false N 1 (f x) (f' x)):∀n n' x a u w y t,u.length<N->u.length<n'->cd nI f n x ⟨a,u++w⟩= .ok y t->HR e' c true 0 u w y t (cd nI f' n' x ⟨a,u++c⟩):=by
 intro n;induction n with
 |zero=>intro n' x a u w y t _ _ h;cases h
 |succ n ih=>
  intro n' x a u w y t hu hn h
  cases u with
  |nil=>exact(Oa (fun x=>(hf x).2) n' x a (by omega)).imp id .inr
  |cons v u=>
   obtain⟨k,rfl⟩:∃k,n'=k+1:=⟨n'-1,by omega⟩
   have hi:nI ⟨a,v::u++w⟩=nI ⟨a,v::u++c⟩:=MI a a v _ _;rw[cd]at h⊢;rw[<-hi];have hu':=hu;simp only[cE]at hu' hn;by_cases hb:nI ⟨a,v::u++w⟩=true
   ·rw[if_pos hb]at h⊢;cases hp:f x ⟨a,v::u++w⟩with
    |no w=>rw[hp]at h;cases h
    |ok z s1=>
     rw[hp]at h
     rcases(hf x).1 a (v::u) w z s1 hu hp with h1|⟨u2,l1,l2,h1⟩|⟨_,z',b,h1⟩
     ·rw[h1];exact .inl rfl
     ·rw[h1];simp only[cE]at l1;exact(ih k z s1.last u2 w y t (by omega) (by omega) (by rw[<-l2];exact h)).le (by simp only[cE];omega)
     ·rw[h1];exact(Oa (fun x=>(hf x).2) k z' b (by omega)).imp id .inr
   ·rw[if_neg hb]at h⊢;cases h;exact .inr (.inl ⟨v::u,by omega,rfl,rfl⟩)
omit hc in
theorem HQ.loop{α:Type}{o:Bool}{nI:PS->Bool}{f f':α->PS->R α}(MI:∀a b x l l',nI ⟨a,x::l⟩=nI ⟨b,x::l'⟩)(hf:∀x,HQ e' c o false N 1 (f x) (f' x))(x:α):HQ e' c true true N 0 (fun s=>cd nI f (s.l.length+1) x s) fun s=>cd nI f' (s.l.length+1) x s:=
 ⟨fun a u w y t hu h=>HP.loop MI hf _ _ x a u w y t hu (by simp only[cD];omega) h,fun a=>Oa (fun x=>(hf x).2) _ x a (Nat.succ_pos _)⟩
theorem acL{ix qK:PS->R η}(h:HP e' c true (N-1) 0 ix qK):HQ e' c false false N 1 (eA e ix) (eA e' qK):=
 .ite (fun _ _ _ _ _=>Iff.rfl) nofun ((ji hc _).bind fun _=>h.oy (z:=false) fun x=>(ji hc _).map) (.ite (fun _ _ _ _ _=>Iff.rfl) nofun (U' hc).map (uo hc).map)
theorem U2:∀k k',HP e' c true k' 1 (au e k) (au e' k')
 |_,0=>fun _ _ _ _ _ h=>absurd h (E1 _)
 |0,_+1=>fun _ _ _ _ _ _ h=>by cases h
 |k+1,k'+1=>by have ij:∀N,N<=k'+1->HQ e' c false false N 1 (eA e (au e k)) (eA e' (au e' k')):=fun N hN=>acL hc ((U2 k k').mono (by omega) (by omega) id);have rQ:∀N,N<=k'+1->HQ e' c true false N 1 (kB e (eA e (au e k))) (kB e' (eA e' (au e' k'))):=fun N hN=>(ij N hN).bind fun x=>(HQ.loop (o:=false) (fun _ _ _ _ _=>rfl) (fun x=>(ji hc _).bind fun _=>(ij _ (by omega)).map.w) x).w;exact((rQ _ (bA _)).oy fun x=>HQ.loop (o:=true) (fun _ _ _ _ _=>rfl) (fun x=>(um hc).bind fun _=>(rQ _ (by omega)).map.w) x).1
variable{ix qK:PS->R η}(hi:∀n,n<=N-1->HP e' c true n 1 ix qK)
include hi
theorem acO:HQ e' c true false N 1 (gQ e ix) (gQ e' qK):=
 (uo hc).bind fun n=>(HQ.ite (z:=true) (fun _ _ _ _ _=>Iff.rfl) (fun _=>rfl)
  ((ji hc _).bind fun _=>((hi (N-1-1) (by omega)).oy (o:=true) (z:=false) fun x=>(HQ.ite (z:=true) (o:=true) (fun _ _ _ _ _=>Iff.rfl) (fun _=>rfl) ((ji hc _).bind fun _=>(hi _ (by omega)).map.w).zero.m0 (.ok _)).oy fun l=>(ji hc _).map.open).w).zero.m0
  (.ok _)).w
theorem Vb:HQ e' c false false N 1 (sn e ix) (sn e' qK):=
 (uo hc).bind fun n=>((ji hc _).bind fun _=>((hi (N-1-1) (by omega)).oy (o:=false) (z:=false) fun x=>(ji hc _).map).w).w
omit hi in
theorem U_{pl I_:PS->R ρ}{K:Nat}(hp:∀n,n<=K->HQ e' c true false n 1 pl I_):∀n N l,N<=K->HQ e' c true true N 0 (me e pl n l) (me e' I_ n l)
 |0,N,l,_=> .ok l
 |n+1,N,l,h=>((ji hc _).bind fun _=>((hp (N-1) (by omega)).oy (o:=true) (z:=true) fun p=>U_ hp n (N-1) (l++[p]) (by omega)).w).zero.m0
variable{α:Type}{it Vu:PS->R α}in
omit hi in
theorem U9(hp:∀n,n<=N->HQ e' c true false n 1 it Vu):HQ e' c false false N 1 (nk e it) (nk e' Vu):=
 .ite (fun _ _ _ _ _=>Iff.rfl) nofun (ji hc _).map ((hp _ (bA _)).oy fun x=>(HQ.loop (o:=true) (fun _ _ _ _ _=>rfl) (fun l=>(ji hc _).bind fun _=>(hp _ (by omega)).map.w) [x]).oy fun l=>(ji hc _).map)
theorem acN:HQ e' c true false N 1 (kT e ix) (kT e' qK):=by
 have hp:∀n,n<=N->HQ e' c true false n 1 (gQ e ix) (gQ e' qK):=fun n hn=>acO hc fun k hk=>hi k (by omega);have h1:=hp (N-1) (by omega);refine .ite (fun _ _ _ _ _=>Iff.rfl) nofun ?_ (.ite (fun _ _ _ _ _=>Iff.rfl) nofun ?_ (.ite (fun _ _ _ _ _=>Iff.rfl) nofun ?_ (.ite (fun _ _ _ _ _=>Iff.rfl) nofun ?_ (.ite (fun _ _ _ _ _=>Iff.rfl) nofun ?_ ?_))))
 ·exact HQ.hd (P:=fun w s=>(aD e w s).bind fun _ s=>(gQ e ix s).bind fun p s=>(me e (gQ e ix) (fL (gW w)-1) [p] s).map fun l=>δ.mk 1 (gW w) [] .any l z0 z0 .nil [] .nil [])
   (P':=fun w s=>(aD e' w s).bind fun _ s=>(gQ e' qK s).bind fun p s=>(me e' (gQ e' qK) (fL (gW w)-1) [p] s).map fun l=>δ.mk 1 (gW w) [] .any l z0 z0 .nil [] .nil []) nofun
   fun w=>(ji hc w).bind fun _=>(h1.oy fun p=>(U_ hc hp _ _ _ (by omega)).map).w
 ·exact(um hc).bind fun _=>(Vb hc fun n hn=>hi n (by omega)).map.open.w
 ·exact(um hc).bind fun _=>(uo hc).map.open.w
 ·exact(um hc).bind fun _=>(h1.oy (o:=true) fun p=>(ji hc _).bind fun _=>(uo hc).map.open.w).w
 ·exact(um hc).bind fun _=>h1.map.w
 ·exact(uo hc).bind fun n=>((ji hc _).bind fun _=>(U9 hc fun n hn=>hp n (by omega)).map.open.w).w
theorem acP:HQ e' c false false N 1 (wc e ix) (wc e' qK):=(acN hc hi).oy fun x=>(ji hc _).map
variable{blk u6:PS->R (List δ×List Sp)}(hb:HP e' c false (N-1) 1 blk u6)(hz:0<N-1->HZ e' c false u6)
include hb hz
theorem acR:HQ e' c true false N 1 (g_ e ix blk) (g_ e' qK u6):=by
 have aT:∀n,n<=N-1->HP e' c false n 1 blk u6:=fun n hn=>hb.mono hn (bA _) id;have op:∀n,n<=N-1->HP e' c true n 0 blk u6:=fun n hn=>hb.mono hn (by omega) nofun;refine .ite (fun _ _ _ _ _=>Iff.rfl) nofun ?_ (.ite (fun _ _ _ _ _=>Iff.rfl) nofun ?_ (.ite (fun _ _ _ _ _=>Iff.rfl) nofun ?_ (.ite (fun _ _ _ _ _=>Iff.rfl) nofun ?_ (.ite (fun _ _ _ _ _=>Iff.rfl) nofun ?_ ?_))))
 ·exact(um hc).bind fun _=>((Vb hc fun n hn=>hi n (by omega)).1.Fj fun x=>(op _ (by omega)).map).w
 ·exact(um hc).bind fun _=>((uo hc).bind fun n=>((aT _ (by omega)).Fj fun b=>(HQ.ite (z:=true) (o:=true) (fun _ _ _ _ _=>Iff.rfl) (fun _=>rfl) ((ji hc _).bind fun _=>(op _ (by omega)).map).zero.m0 (.ok _)).1).w).w
 ·refine(um hc).bind fun _=>?_;rcases J7 (N-1)with h0|h0
  ·rw[h0];exact .X8
  ·exact((uo hc).bind fun n=>((ji hc _).bind fun _=>((hi _ (by omega)).oy (z:=false) (o:=true) fun x=>(ji hc _).bind fun _=>(hi _ (by omega)).w.Fi (N2:=N-1) (m2:=0) (fun y=>(op _ (by omega)).map) (fun _ y=>HZ.map fun a=>(hz h0 a).imp id fun h=>by cases h.1) (by omega) (by omega)).w).w).w
 ·exact(um hc).bind fun _=>(op _ (by omega)).map
 ·exact(um hc).bind fun _=>((aT _ (by omega)).Fj fun b=>((ji hc _).bind fun _=>(op _ (by omega)).map).1).w
 ·exact(acP hc hi).map.open
omit hi hb hz in
theorem acQ{st aL:PS->R (δ×List (List Sp))}(h:HQ e' c true false N 1 st aL):HQ e' c true false N 1 (o9 e st) (o9 e' aL):=by
 have h0:HZ e' c false (o9 e' aL):=fun a=>by
  rcases h.2 a with h1|⟨h1,_⟩
  ·left;simp only[o9,h1];rfl
  ·cases h1
 refine⟨fun a u w y t hu e0=>?_,h0⟩;cases u with
 |nil=>exact .inl ((h0 a).elim id fun h=>by cases h.1)
 |cons v u=>
  simp only[o9]at e0⊢
  cases hp:st ⟨a,v::u++w⟩with
  |no w=>rw[hp]at e0;cases e0
  |ok x s1=>
   rw[hp]at e0
   cases e0;rcases h.1 a (v::u) w x _ hu hp with k1|⟨u2,l1,l2,k1⟩|⟨_,z,b,k1⟩
   ·rw[k1];exact .inl rfl
   ·rw[k1];exact .inr (.inl ⟨u2,l1,l2,rfl⟩)
   ·rw[k1];exact .inr (.inr ⟨rfl,_,b,rfl⟩)
omit hi hb hz in
theorem acM{st aL:PS->R (δ×List (List Sp))}(h:∀n,n<=N->HQ e' c true false n 1 st aL):HQ e' c false false N 1 (vV e st) (vV e' aL):=
 (ji hc _).bind fun _=>((HQ.loop (o:=true) (fun _ _ _ _ _=>rfl) (fun l=>(acQ hc (h (N-1) (by omega))).map) ([],[])).oy (o:=false) (z:=false) fun l=>(ji hc _).map).1
omit hi hb hz in
theorem U1(K K':Nat):∀k k',k'<=K'->HP e' c false k' 1 (dw e (au e K) k) (dw e' (au e' K') k')/\(0<k'->HZ e' c false (dw e' (au e' K') k'))
 |_,0,_=>⟨.X8,fun h=>absurd h (Nat.lt_irrefl _)⟩
 |0,k'+1,h=>⟨fun _ _ _ _ _ _=>nofun,fun _=>(Ob hc _).bind nofun⟩
 |k+1,k'+1,h=>by have ih:=U1 K K' k k' (by omega);have:=acM (e:=e) (e':=e') (N:=k'+1) hc fun n hn=>acR (e:=e) (ix:=au e K) (qK:=au e' K') hc (fun j hj=>(U2 hc K K').mono (by omega) (bA _) id) (ih.1.mono (by omega) (bA _) id) (fun h0=>ih.2 (by omega));exact⟨this.1,fun _=>this.2⟩
omit hi hb hz in
theorem Va(K K':Nat)(hN:N<=K'):HQ e' c false false N 1 (tu e (dw e (au e K) K)) (tu e' (dw e' (au e' K') K')):=
 (ji hc _).bind fun _=>((uo hc).bind fun n=>((ji hc _).bind fun _=>((U9 hc fun n _=>((uo hc).bind fun _=>((ji hc _).bind fun _=>((U' hc).bind fun _=>(ji hc _).map.w).w).w).open).1.Fj fun ps=>((U1 hc K K' K K' (bA _)).1.mono (by omega) (bA _) id).map).w).w).w
end
theorem aal{e:Nat}{c:List Tok}(hc:Halt c){K:Nat}:∀(l:List φ),(∀p∈l,p.Can)->∀(u v:List Tok),TS (eG l) (u++v)->u.length<K->∀(n:Nat) (l0:List φ) (s0:List (List Sp)) (a:Nat),u.length<n→
  (c=[]/\∃l1 l2,l=l1++l2/\TS (eG l1) u)\/cd (fun s=>!s.l.isEmpty) (fun l s=>(tu e (dw e (au e K) K) s).map fun x=>(l.1++[x.1],l.2++[x.2])) n (l0,s0) ⟨a,u++c⟩= .no (w8 e c):=by
 have zero:∀(l:List φ) (n:Nat) (l0:List φ) (s0:List (List Sp)) (a:Nat),0<n->(c=[]/\∃l1 l2,l=l1++l2/\TS (eG l1) [])\/cd (fun s=>!s.l.isEmpty) (fun l s=>(tu e (dw e (au e K) K) s).map fun x=>(l.1++[x.1],l.2++[x.2])) n (l0,s0) ⟨a,c⟩= .no (w8 e c):=by
  intro l n l0 s0 a hn;cases c with
  |nil=>exact .inl ⟨rfl,[],l,rfl,trivial⟩
  |cons t r=>
   obtain⟨n,rfl⟩:∃j,n=j+1:=⟨n-1,by omega⟩
   right;have hz:=(Va (e:=e) (e':=e) (N:=0) hc K K (q_ _)).2 a;rcases hz with hz|⟨hz,_⟩
   ·rw[vW (by rfl),hz];rfl
   ·cases hz
 intro l;induction l with
 |nil=>
  intro _ u v ht _ n l0 s0 a hn
  have h1:u++v=[]:=ht.nil;obtain rfl:u=[]:=(alD.1 h1).1;exact zero [] n l0 s0 a (by omega)
 |cons p l ih=>
  intro hl u v ht hK n l0 s0 a hn
  obtain⟨t1,t2,tY,g1,g2⟩:=(show TS (p.words++eG l) (u++v)from ht).split;by_cases hu:u=[]
  ·subst hu;rw[bG];exact zero (p::l) n l0 s0 a (by simpa using hn)
  obtain⟨n,rfl⟩:∃j,n=j+1:=⟨n-1,by omega⟩;have τ:(fun s:PS=>!s.l.isEmpty) ⟨a,u++c⟩=true:=by cases u with
   |nil=>exact absurd rfl hu
   |cons y u=>rfl
  rcases List.append_eq_append_iff.1 tY with⟨d,e1,e2⟩|⟨d,e1,e2⟩
  ·
   by_cases hd:d=[]
   ·subst hd;rw[de]at e1;subst e1;have hp:p.words.length<=K:=by have:=g1.len;omega
    obtain⟨x,⟨q1,q2⟩,e3⟩:=Jh (e:=e) (K:=K) (hl p (by simp)) hp a t1 c g1 (by simp);rcases zero l n (l0++[x.1]) (s0++[x.2]) (ja a t1) (by have:=mR.2 hu;omega)with⟨h1,l1,l2,h2,h3⟩|h1
    ·exact .inl ⟨h1,p::l1,l2,by rw[h2];rfl,by
      have:TS (p.words++eG l1) (t1++[]):=g1.app h3
      rw[de]at this;exact this⟩
    ·right;rw[vW τ,e3];exact h1
   ·right;obtain⟨x,-,e3⟩:=Jh (e:=e) (K:=p.words.length) (hl p (by simp)) (bA _) a t1 [] g1 (by simp);rw[e1,bH]at e3;rw[vW τ];rcases(Va (e:=e) (e':=e) (N:=K) hc p.words.length K (bA _)).1 a u (d++[]) x _ hK e3 with h|⟨u2,-,h,-⟩|⟨h,-⟩
    ·rw[h];rfl
    ·have:=congrArg ki h;have:=mR.2 hd;simp at*;omega
    ·cases h
  ·subst e1;have hp:p.words.length<=K:=by have:=g1.len;simp at hK;omega
   obtain⟨x,⟨q1,q2⟩,e3⟩:=Jh (e:=e) (K:=K) (hl p (by simp)) hp a t1 (d++c) g1 (by simp);have h1:0<t1.length:=by rw[g1.len];simp[φ.words]
   rcases ih (fun q hq=>hl q (by simp[hq])) d v (by rw[<-e2];exact g2) (by simp at hK;omega) n (l0++[x.1]) (s0++[x.2]) (ja a t1) (by simp at hn;omega)with⟨h1,l1,l2,h2,h3⟩|h1
   ·exact .inl ⟨h1,p::l1,l2,by rw[h2];rfl,by
     have:TS (p.words++eG l1) (t1++d):=g1.app h3
     exact this⟩
   ·right;rw[vW τ,bH,e3];exact h1
theorem Sk{e:Nat}{c:List Tok}(hc:Halt c){l:List φ}(hl:∀p∈l,p.Can){u v:List Tok}(ht:TS (eG l) (u++v)):(c=[]/\∃l1 l2,l=l1++l2/\TS (eG l1) u)\/zD e (u++c)= .no (w8 e c):=
 aal hc l hl u v ht (by simp;omega) _ [] [] 0 (by simp;omega)
theorem OG(w:GW)(k:Nat):bB w=bB (w.take k)++bB (w.drop k):=by rw[<-OE,B0]
theorem LD:∀(w:GW) (n i:Nat),i<w.length->(iE n w)[i]?=some (n+(bB (w.take (i+1))).length)
 |[],_,_,h=>absurd h (E1 _)
 |x::w,n,0,_=>by simp[iE,bB]
 |x::w,n,i+1,h=>by have:=LD w (n+(x.1.length+x.2.length)) i (by simpa using h);simpa[iE,bB,qc]using this
theorem aj1(n:Nat)(a b:GW):nx n (a++b)=nx n a++nx (n+(bB a).length) b:=by
 induction a generalizing n with
 |nil=>rfl
 |cons x a ih=>simp[nx,bB,ih,qc]
theorem aj2(w:GW):∀n,(nx n w).map Tok.text=w.map tO:=by
 induction w with
 |nil=>intro n;rfl
 |cons x w ih=>intro n;simp[nx,ih]
theorem TS.texts:∀{ws:List (List Nat)} {ts:List Tok},TS ws ts->ts.map Tok.text=ws
 |[],[],_=>rfl
 |_::_,_::_,h=>by rw[aA,h.1.1,TS.texts h.2]
 |[],_::_,h=>h.elim
 |_::_,[],h=>h.elim
theorem W5:∀{l:List φ},l≠[]->∃ws,eG l=ws++[[125]]
 |[],h=>absurd rfl h
 |[p],_=>⟨[[112,114,111,99]]++([p.name]++([[40]]++((iD (p.aq.map ay.words)++[[41]])++([[123]]++kg p.body)))),by simp[eG,φ.words,bW]⟩
 |p::q::l,_=>by obtain⟨ws,h⟩:=W5 (l:=q::l) (by simp);exact⟨p.words++ws,by rw[eG,h,bH]⟩
theorem Yk{w:GW}(h:gy 0 w=true)(k:Nat):gy 0 (w.take k)=true:=by rw[<-B0 k w,EU]at h;exact(dW _ _▸h).1
def Ao(n:Nat):Tok:=⟨n,0,[63],n⟩
theorem aj4{l:GW}(hl:tJ l)(ha:gy 0 l=true)(z:List Nat):dM (bB l++63::z)=nx 0 l++[Ao (bB l).length]:=by
 have:=PY (fun n=>[Ao n]) l (63::z) 0 hl ha (fun b hb=>by cases hb;decide) (fun k n hk=>by
  obtain⟨k,rfl⟩:∃j,k=j+1:=⟨k-1,by omega⟩
  have h1:bZ false (63::z)=0:=by simp[bZ]
  have h2:fW n (63::z)=Ao n:=by simp[fW,isLet,cj,o8,Ao]
  simp[nw,h1,h2,Ao]) _ 0 (Nat.lt_succ_self _)
 exact this.trans (by simp only[lj])
end Go.Δ
namespace Go.Δ.Tz
open Go.Δ
theorem gj.front{l:List φ}{fr:Nat}(h:gj l fr):∀l1 l2,l=l1++l2->∃LR,LR<=fr/\gj l1 LR:=by
 induction h with
 |@nil fr=>
  intro l1 l2 e
  obtain⟨rfl,rfl⟩:=alD.1 e.symm;exact⟨fr,bA _,.nil⟩
 |@snoc l x fr aw h1 h2 ih=>
  intro l1 l2 e
  rcases aly l2 with rfl|⟨l3,y,rfl⟩
  ·rw[de]at e;subst e;exact⟨aw,bA _,.snoc h1 h2⟩
  ·rw[List.concat_eq_append,<-bH]at e;obtain⟨k,h3,h4⟩:=ih l1 l3 (alE e rfl).1;have:=h2.le;exact⟨k,by omega,h4⟩
section
variable{cp:ξ}{p:List φ}(h:Md cp p){w:GW}{tl:List Nat}(k:LT p w tl)
include h k
theorem LT.JC(i:Nat):tJ (w.take i)/\gy 0 (w.take i)=true/\TS (eG p) (nx 0 (w.take i)++nx (0+(bB (w.take i)).length) (w.drop i)):=by refine⟨fun y hy=>k.Hn h y (pn hy),Yk k.YG i,?_⟩;rw[<-aj1,B0,<-k.words];exact aj3 w 0
theorem LT.short(i:Nat):(bB (w.take i)).length<=60000:=by have:=LT.len h k;rw[OG w i]at this;simp only[cD]at this;omega
theorem LT.begun(i:Nat)(hi:i<w.length):(cO (bB (w.take (i+1)))).1.1=[]/\(cO (bB (w.take (i+1)))).2.1=(bB (w.take (i+1))).length/\(cO (bB (w.take (i+1)))).2.2=4∨
  (∀x∈(cO (bB (w.take (i+1)))).1.1,x.Ok)/\(cO (bB (w.take (i+1)))).2.1=0/\(cO (bB (w.take (i+1)))).2.2=0/\w[i].2=[125]:=by
 obtain⟨h1,h2,h3⟩:=LT.JC h k (i+1);have h4:=LT.short h k (i+1);have ht:Δ.dM (bB (w.take (i+1)))=nx 0 (w.take (i+1)):=by have:=aj5 (z:=[]) h1 h2 rfl;rwa[de]at this
 have Hq:¬65536<(bB (w.take (i+1))).length:=by omega
 rcases Sk (e:=(bB (w.take (i+1))).length) (c:=[]) nofun h.can h3 with⟨-,l1,l2,e1,e2⟩|e1
 ·right;obtain⟨fr,m1,m2⟩:=h.made;obtain⟨LR,m3,m4⟩:=m1.front l1 l2 e1;have τ:l1≠[]:=by
   rintro rfl
   have:=congrArg ki e2.nil;rw[X2,kE,eI]at this;omega
  have hl:=h.len.2;rw[e1,cD]at hl;have hlen:1<=l1.length:=mR.2 τ;have hc:=m4.right (by omega) hlen (by omega);obtain⟨lC,-,e3⟩:=ah7 (bB (w.take (i+1))).length (fun x hx=>h.can x (by rw[e1];simp[hx])) e2;have ai:=m4.str (by omega);have hw:=e2.texts;rw[aj2,uY hi]at hw;obtain⟨ws,xl⟩:=W5 τ;rw[xl,jT]at hw;have Dq:=(alE hw rfl).2;generalize bB (w.take (i+1))=T at*;refine⟨?_,?_,?_,by simpa using Dq⟩<;>simp[cO,Hq,ht,e3,hc];exact ai
 ·left;rw[de]at e1;generalize bB (w.take (i+1))=T at*;simp[cO,Hq,ht,e1,w8]
theorem LT.gK(i:Nat)(z:List Nat)(hz:(bB (w.take (i+1))).length+z.length<65536):cO (bB (w.take (i+1))++63::z)=(([],[]),((bB (w.take (i+1))).length:Int),4):=by
 obtain⟨h1,h2,h3⟩:=LT.JC h k (i+1);have h4:=LT.short h k (i+1);have ht:=aj4 h1 h2 z;have Hq:¬65536<(bB (w.take (i+1))++63::z).length:=by simp;omega
 have hh:Halt [Ao (bB (w.take (i+1))).length]:=by intro t l e;cases e;rfl
 rcases Sk (e:=(bB (w.take (i+1))++63::z).length) hh h.can h3 with⟨e1,-⟩|e1
 ·cases e1
 ·rw[cO,if_neg Hq,ht,e1];rfl
end
variable{u:Nat}
attribute [local simp] exec dT dG eR aH dr ff eH aI fA bQ gX ib iC iL lq AV.cells newVar iH rd wr gL single dd cA eU ef κ cH RV.get cJ fF jU qn
def LB(u:Nat)(t:List Nat)(n:Nat)(EL WL:List AV):Prop:=∀i,i<n->∃(e:Nat) (T:List Nat) (c:ξ) (X:List AV) (x y:Int),EL[i]?=some (.n e)/\e<=t.length/\t.take e=T/\(∀m,kf u 39 [.str T] m=some (.aU [.agg [.list c X],.n x,.n y],m))/\(y=4/\x=e\/y=0/\WL[i]?=some (.str [125]))
theorem r5{n:Nat}{t:List Nat}{EL WL:List AV}(h:LB u t n EL WL)(hn:n<1000000)(AT:EL.length=n)(MA:WL.length=n)(ce cl:ξ)(M:Mem)(A2 A3:AV){s:St}(hm:s.mem=M)(h2:s.e 2=A2)(h3:s.e 3=A3)(bp:s.e 11= .list cl WL)(bY:s.e 12= .str t)(db:s.e 13= .list ce EL)(jK:s.e 14= .n 0):
  κ (C u).gl (ah (C u)) (.block 0 (.loop OC)) s fun q=>q.1= .normal/\q.2.mem=M/\aI q.2.env 2=A2/\aI q.2.env 3=A3/\aI q.2.env 11= .list cl WL/\aI q.2.env 12= .str t/\aI q.2.env 13= .list ce EL:=by
 let K:St->Prop:=fun st=>st.mem=M/\st.e 2=A2/\st.e 3=A3/\st.e 11= .list cl WL/\st.e 12= .str t/\st.e 13= .list ce EL;obtain⟨d,hd⟩:∃d,d=1+n/40:=⟨_,rfl⟩;let I:Nat->St->Prop:=fun j st=>K st/\st.e 14= .n ((j*d:Nat):Int);refine κ.block (κ.kD (I:=I) n ⟨⟨hm,h2,h3,bp,bY,db⟩,by rw[jK];simp⟩ fun j st hj ⟨⟨hm,h2,h3,bp,bY,db⟩,jK⟩=>?_);unfold OC;have hjd:(j+1)*d=j*d+d:=alA j d;have qy:j<=j*d:=Nat.le_mul_of_pos_right j (by omega);generalize hi:j*d=i at*;rcases cX i n with χ|du
 ·have xn:(i:Int)<n:=by omega
  obtain⟨e,T,c,X,x,y,g1,g2,g3,g4,g5⟩:=h i χ;obtain⟨t1,v1⟩:=fu.1 g1;have hq:(n:Int).tdiv 40=((n/40:Nat):Int):=rfl;have oa:bC .i64 ((n/40:Nat):Int)=((n/40:Nat):Int):=wrap_i64 (by omega) (by omega);have ly:bC .i64 (1+((n/40:Nat):Int))=(d:Int):=by rw[wrap_i64 (by omega) (by omega)];omega
  have hw3:bC .i64 ((i:Int)+(d:Int))=((i+d:Nat):Int):=by rw[wrap_i64 (by omega) (by omega)];omega
  generalize n/40=n40 at*;refine Θ (fun st=>K st/\st.e 14= .n i) (by simp[K,hm,h2,h3,bp,bY,db,jK,AT,xn]) fun s1 ⟨⟨hm,h2,h3,bp,bY,db⟩,jK⟩=>?_;refine Θ (fun st=>K st/\st.e 14= .n i) ?_ fun s1 ⟨⟨hm,h2,h3,bp,bY,db⟩,jK⟩=>?_
  ·refine aho ?_;refine Θ (fun st=>(K st/\st.e 14= .n i)/\st.e 16= .n x/\st.e 17= .n y) (by simp[K,hm,h2,h3,bp,bY,db,jK,AT,χ,v1,g2,g3,g4,bound]) fun s2 ⟨⟨⟨hm,h2,h3,bp,bY,db⟩,jK⟩,ua,wY⟩=>?_;rcases g5 with⟨rfl,rfl⟩|⟨rfl,g5⟩
   ·exact κ.done .normal (fun st=>K st/\st.e 14= .n i) (by simp[K,hm,h2,h3,bp,bY,db,jK,ua,wY,AT,χ,v1]) fun s' g=>⟨rfl,g⟩
   ·obtain⟨t2,v2⟩:=fu.1 g5;exact κ.done .normal (fun st=>K st/\st.e 14= .n i) (by simp[K,hm,h2,h3,bp,bY,db,jK,ua,wY,AT,MA,χ,v1,v2]) fun s' g=>⟨rfl,g⟩
  ·refine κ.done .normal (fun st=>K st/\st.e 14= .n ((i+d:Nat):Int)) (by simp[K,hm,h2,h3,bp,bY,db,jK,AT,hq,oa,ly,hw3]) fun s' g=> .inl ⟨rfl,by omega,by rw[<-hjd]at g;exact g⟩
 ·have Dg:¬(i:Int)<n:=by omega
  refine κ.done (.exit 0) K (by simp[K,hm,h2,h3,bp,bY,db,jK,AT,Dg]) fun s' g=> .inr ⟨by simp,.inl ⟨rfl,rfl,g⟩⟩
theorem ajQ:∀c∈([123,125,59,58,32,120,48,91,40,44,113,35]:List Nat),c<128:=by decide
theorem r5b{l:List Nat}(hl:l.length<=30)(c:ξ)(S:List Nat)(hS:S.length<1000000)(M:Mem)(x:AV){s:St}(hm:s.mem=M)(jV:s.e 21=x)(lY:s.e 22= .str S)(rB:s.e 137=eB c l)(rC:s.e 138= .n l.length)(rD:s.e 139= .n 0):
  κ (C u).gl (ah (C u)) (.block 2 (.loop OD)) s fun q=>q.1= .normal/\q.2.mem=M/\aI q.2.env 21=x/\∃z:List Nat,z.length<=30/\cV z/\aI q.2.env 22= .str (S++z):=by
 let K:St->Prop:=fun st=>st.mem=M/\st.e 21=x/\st.e 137=eB c l/\st.e 138= .n l.length;let I:Nat->St->Prop:=fun i st=>K st/\st.e 139= .n i/\∃z:List Nat,z.length=i/\cV z/\st.e 22= .str (S++z);refine κ.block (κ.kD (I:=I) l.length ⟨⟨hm,jV,rB,rC⟩,rD,[],rfl,by simp[cV],by simpa using lY⟩ fun i st hi ⟨⟨hm,jV,rB,rC⟩,rD,z,fT,gh,lY⟩=>?_);unfold OD;rcases cX i l.length with χ|du
 ·have xn:(i:Int)<l.length:=by omega
  have hb:l[i] % 12<([123,125,59,58,32,120,48,91,40,44,113,35]:List Nat).length:=lf _ (by decide)
  obtain⟨ch,kN,Uk⟩:∃ch,([123,125,59,58,32,120,48,91,40,44,113,35]:List Nat)[l[i] % 12]?=some ch/\ch<128:=⟨_,dN hb,ajQ _ (df hb)⟩;have q8:=LA ch Uk;have z8:(Utf8.encode (ch:Int)).size=1:=by have:=congrArg ki q8;simpa using this
  have A_:(l[i]:Int).tmod 12=((l[i] % 12:Nat):Int):=rfl;have lz:bC .u8 ((l[i] % 12:Nat):Int)=((l[i] % 12:Nat):Int):=by have:=lf l[i] (show 12>0 by decide);generalize l[i] % 12=r at*;show(if(false&&decide ((r:Int) % 256≥128))=true then(r:Int) % 256-256 else(r:Int) % 256)=r;simp only[Bool.false_and,Bool.false_eq_true,if_false];omega
  have kP:bC .i64 ((i:Int)+1)=((i+1:Nat):Int):=by rw[wrap_i64 (by omega) (by omega)];simp
  have k1:¬(9223372036854775807:Int)<(S.length:Int)+(z.length+1):=by omega
  have k2:¬(9223372036854775807:Int)<(S.length:Int)+z.length+1:=by omega
  generalize l[i] % 12=r at*;refine Θ (fun st=>(K st/\st.e 139= .n i/\st.e 22= .str (S++z))/\st.e 140= .bool true) (by simp[K,hm,jV,rB,rC,rD,lY,xn]) fun s1 ⟨⟨⟨hm,jV,rB,rC⟩,rD,lY⟩,abz⟩=>?_;refine Θ (fun st=>K st/\st.e 139= .n i/\st.e 22= .str (S++z)) (by simp[K,hm,jV,rB,rC,rD,lY,abz]) fun s1 ⟨⟨hm,jV,rB,rC⟩,rD,lY⟩=>?_;refine Θ (fun st=>K st/\st.e 139= .n i/\st.e 22= .str (S++(z++[ch]))) (by simp[K,hm,jV,rB,rC,rD,lY,eB,χ,A_,lz,kN,q8,z8,k1,k2]) fun s1 ⟨⟨hm,jV,rB,rC⟩,rD,lY⟩=>?_;refine κ.done .normal (fun st=>(K st/\st.e 22= .str (S++(z++[ch])))/\st.e 139= .n ((i+1:Nat):Int)) (by simp[K,hm,jV,rB,rC,rD,lY,kP]) fun s' ⟨⟨g,g22⟩,abk⟩=> .inl ⟨rfl,χ,g,abk,z++[ch],by simp[fT],fun b hb=>?_,g22⟩;rcases dE.1 hb with hb|hb
  ·exact gh b hb
  ·rw[fK.1 hb];omega
 ·have Dg:¬(i:Int)<l.length:=by omega
  refine κ.done (.exit 2) (fun st=>K st/\st.e 22= .str (S++z)) (by simp[K,hm,jV,rB,rC,rD,lY,Dg]) fun s' ⟨⟨g1,g2,_⟩,g3⟩=> .inr ⟨by simp,.inl ⟨rfl,rfl,g1,g2,z,by omega,gh,g3⟩⟩
theorem f5(c c' c2:ξ)(hc:br c)(gD:br c')(HC:br c2)(bs kI pB:List Nat)(hn:c= .nil->bs=[])(gF:c'= .nil->kI=[])(at_:Nat)(ij:at_<65536):kf u 5 [eB c bs,eB c' kI,eB c2 pB,.int .u16 at_] {ε:=[],ζ:=[]}=some (.bool true,{ε:=[],ζ:=[]}):=by
 obtain⟨b1,tQ,cp,p,hp,q1,q2⟩:=afU (u:=u) c hc bs hn [];obtain⟨c3,Ui,q3⟩:=f36 (u:=u) c' gD kI gF [tQ];have dQ:(eG p).length<1000000:=by have:=hp.cut.len;have:=hp.jG;omega
 have Xk:=fun m=>f37 (u:=u) (fI p) (eG p) hp.cut hp.jG m;have Vl:eG p≠[]:=by have h1:=W6 p;have h2:=hp.len.1;intro e;rw[e]at h1;simp at h1;rw[h1]at h2;simp at h2
 rw[if_neg Vl]at Xk;obtain⟨x',n',w,tl,-,-,k1,k2,k3,k4,zE⟩:=f38 (u:=u) (c:=c3) (bs:=kI.take 300) (B:=[tQ,.cells (aG c3 (kI.take 300) 0 2463534242)]) (ps:=1) (by simp) (by simp;omega) .any (.inr rfl) (eG p) dQ (fun t ht=>(Yd (hp.P0 t ht)).1) (fun t ht=>(Yd (hp.P0 t ht)).2) 0 2463534242 (by omega);have kk:LT p w tl:=⟨k1,k2,k3,k4⟩;obtain⟨yj,dy⟩:∃yj,θ.cells (aG c3 (kI.take 300) n' x')=yj:=⟨_,rfl⟩;simp only[List.set_cons_succ,List.set_cons_zero,dy]at zE;let M:Mem:= {ε:=[tQ,yj],ζ:=[]};have e1:=hp.print (u:=u) {ε:=[tQ],ζ:=[]};have SE:=Xk {ε:=[tQ],ζ:=[]};have e9:=aaZ (u:=u) tQ yj;have vP:w.length=(eG p).length:=by rw[<-k1];simp
 have vO:0<w.length:=by rw[vP];exact mR.2 Vl
 have xm:w.length<1000000:=by omega
 have vL:=LT.len hp kk;have nX:LB u (bB w++tl) w.length ((iE 0 w).map fun e:Nat=>AV.n e) ((eG p).map AV.str):=by
  intro i hi;have h1:=LT.short hp kk (i+1);have h2:bB w=bB (w.take (i+1))++bB (w.drop (i+1)):=OG w (i+1);have h3:cV (bB (w.take (i+1))):=(LT.JC hp kk (i+1)).1.ok;have h4:=LT.begun hp kk i hi;have h5:∀x∈(cO (bB (w.take (i+1)))).1.1,x.Ok:=by
   rcases h4 with⟨h4,_⟩|⟨h4,_⟩
   ·rw[h4];intro x hx;cases hx
   ·exact h4
  have h6:(eG p)[i]?=some w[i].2:=by rw[<-k1,nD,dN hi];rfl
  refine⟨(bB (w.take (i+1))).length,bB (w.take (i+1)),_,_,_,_,by rw[nD,LD w 0 i hi];simp,?_,?_,fun m=>I4 (u:=u) _ h3 (by omega) h5 m,?_⟩
  ·rw[h2];simp only[cD];omega
  ·rw[h2,bH,B5]
  ·rcases h4 with⟨_,h7,h8⟩|⟨_,_,h8,h9⟩
   ·exact .inl ⟨h8,h7⟩
   ·exact .inr ⟨h8,by rw[nD,h6,h9];rfl⟩
 obtain⟨k,hk⟩:∃k,k=at_ % w.length:=⟨_,rfl⟩;have oR:k<w.length:=by rw[hk];exact lf _ vO
 obtain⟨T,hT⟩:∃T,T=bB (w.take (k+1)):=⟨_,rfl⟩;obtain⟨R,hR⟩:∃R,R=bB (w.drop (k+1))++tl:=⟨_,rfl⟩;have Mv:bB w++tl=T++R:=by rw[hT,hR,<-bH,<-OG]
 have abE:cV T:=by rw[hT];exact(LT.JC hp kk (k+1)).1.ok
 have jv:cV (T++R):=by rw[<-Mv];exact LT.ok hp kk
 have hEk:(iE 0 w)[k]?=some T.length:=by rw[LD w 0 k oR,hT];simp
 have akW:T.length+R.length<=60000:=by rw[<-cD,<-Mv];exact vL
 have Xm:∀z,cV z->T.length+z.length<65536->∀m,kf u 39 [.str (T++63::z)] m=some (.aU [.agg [.list .nil []],.n T.length,.n 4],m):=by
  intro z hz gh m;have hr:=LT.gK hp kk k z (by rw[<-hT];exact gh);rw[<-hT]at hr;have:=I4 (u:=u) (T++63::z) (fun b hb=>by
   rcases dE.1 hb with hb|hb
   ·exact abE b hb
   ·rcases cw.1 hb with rfl|hb
    ·omega
    ·exact hz b hb) (by simp;omega) (by rw[hr];intro x hx;cases hx) m
  rw[hr]at this;exact this
 have hex:∀(c:ξ) (bs:List Nat),br c->exp 0 false (eB c bs)=eB c bs:=fun c bs h=>by
  have:bn 0 false (bs.map fun b:Nat=>AV.int .u8 (b:Int))=bs.map fun b:Nat=>AV.int .u8 (b:Int):=by rw[fQ,List.map_map];rfl
  simp only[eB,exp,this,ga h]
 refine eN (g:=g5) rfl rfl rfl ?_;simp only[aA,aP,eI,hex c bs hc,hex c' kI gD,hex c2 pB HC];generalize eB c bs=A1 at q1⊢;generalize eB c' kI=A2 at q3⊢;generalize fI p=s at*;rw[Mv]at nX zE;generalize p.map φ.av=X at*;simp only[aX]at SE zE;have Mz:((eG p).map AV.str).length=w.length:=by simp[vP]
 generalize(eG p).map AV.str=WL at*;have Hv:((iE 0 w).map fun e:Nat=>AV.n e).length=w.length:=by simp[FP]
 have hEg:((iE 0 w).map fun e:Nat=>AV.n e)[k]?=some (.n T.length):=by rw[nD,hEk];rfl
 generalize(iE 0 w).map (fun e:Nat=>AV.n e)=EL at*;obtain⟨ce,vp⟩:∃ce:ξ,(if w=[]then ξ.nil else .any)=ce:=⟨_,rfl⟩;rw[vp]at zE;generalize w.length=n at*;simp only[eI,bG,cE,cy]at q1 q2 q3;have zE:=zE [];obtain⟨t1,v1⟩:=fu.1 hEg;have UQ:¬(n:Int)=0:=by omega
 have uj:¬n=0:=by omega
 unfold g5 c5;let A3:=eB c2 pB;have TF:A3=eB c2 pB:=rfl;rw[<-TF];refine Θ (fun st=>st.e 0=A1/\st.e 1=A2/\st.e 2=A3/\st.e 3= .int .u16 at_/\st.mem= {ε:=[],ζ:=[]}/\st.loc=[]) (by simp[exp]) fun s1 ⟨h0,h1,h2,h3,hm,hl⟩=>?_;let K1:St->Prop:=fun st=>st.e 1=A2/\st.e 2=A3/\st.e 3= .int .u16 at_/\st.mem= {ε:=[tQ],ζ:=[]}/\st.loc=[];refine Θ (fun st=>K1 st/\st.e 9= .str s/\st.e 10= .n 0) (by simp[K1,h0,h1,h2,h3,hm,hl,q1,q2,e1]) fun s1 ⟨⟨h1,h2,h3,hm,hl⟩,h9,aC⟩=>?_;refine Θ (fun st=>K1 st/\st.e 9= .str s) (by simp[K1,h1,h2,h3,hm,hl,h9,aC]) fun s1 ⟨⟨h1,h2,h3,hm,hl⟩,h9⟩=>?_;refine Θ (fun st=>K1 st/\st.e 11= .list .any WL) (by simp[K1,h1,h2,h3,hm,hl,h9,SE]) fun s1 ⟨⟨h1,h2,h3,hm,hl⟩,bp⟩=>?_;refine Θ (fun st=>K1 st/\st.e 11= .list .any WL) (by simp[K1,h1,h2,h3,hm,hl,bp,Mz,UQ,uj]) fun s1 ⟨⟨h1,h2,h3,hm,hl⟩,bp⟩=>?_;let K:St->Prop:=fun st=>st.mem=M/\st.e 2=A3/\st.e 3= .int .u16 at_/\st.e 11= .list .any WL/\st.e 12= .str (T++R)/\st.e 13= .list ce EL;have hM:M= {ε:=[tQ,yj],ζ:=[]}:=rfl;refine Θ (K) (by simp[K,h1,h2,h3,hm,hl,bp,q3,zE,hM]) fun s1 ⟨hm,h2,h3,bp,bY,db⟩=>?_
 clear_value M
 refine bP (K) ?_ fun s1 ⟨hm,h2,h3,bp,bY,db⟩=>?_
 ·refine Θ (fun st=>K st/\st.e 14= .n 0) (by simp[K,hm,h2,h3,bp,bY,db]) fun s1 ⟨⟨hm,h2,h3,bp,bY,db⟩,jK⟩=>?_;obtain⟨q,vH,zd,NG⟩:=r5 nX xm Hv Mz ce .any M A3 (.int .u16 at_) hm h2 h3 bp bY db jK;exact⟨q,vH,.inl ⟨zd,NG⟩⟩
 have A_:(at_:Int).tmod (n:Int)=(k:Int):=by rw[hk];rfl
 have hwa:bC .i64 (at_:Int)=at_:=wrap_i64 (by omega) (by omega);have NX:bC .i64 (k:Int)=k:=wrap_i64 (by omega) (by omega);refine Θ (fun st=>K st/\st.e 18= .n k) (by simp[K,hm,h2,h3,bp,bY,db,Mz,UQ,uj,A_,hwa,NX]) fun s1 ⟨⟨hm,h2,h3,bp,bY,db⟩,ba⟩=>?_;have hle:T.length<=(T++R).length:=by simp
 have hkT:(T++R).take T.length=T:=B5;have hkR:(T++R).drop T.length=R:=alB;have a1:¬(9223372036854775807:Int)<(T.length:Int)+1:=by omega
 have a2:¬(9223372036854775807:Int)<(T.length:Int)+1+R.length:=by omega
 have a3:¬(9223372036854775807:Int)<(T.length:Int)+(1+R.length):=by omega
 have a4:¬(9223372036854775807:Int)<(T.length:Int)+(R.length+1):=by omega
 have UG:(T.length:Int)<=T.length+R.length:=by omega
 have hkA:(T++R).take (T.length+R.length)=T++R:=fw (by simp);let K2:St->Prop:=fun st=>st.mem=M/\st.e 2=A3/\st.e 13= .list ce EL/\st.e 18= .n k/\st.e 19= .str (T++63::R);refine Θ (K2) (by simp[K2,hm,h2,bY,db,ba,Hv,oR,v1,hle,UG,hkT,hkA,hkR,bound,a1,a2,a3,a4]) fun s1 ⟨hm,h2,db,ba,bj⟩=>?_;refine Θ (fun st=>K2 st/\st.e 21= .n T.length/\st.e 10= .n 4) (by simp[K2,hm,h2,db,ba,bj,Xm R (fun b hb=>jv b (by simp[hb])) (by omega)]) fun s1 ⟨⟨hm,h2,db,ba,bj⟩,jV,aC⟩=>?_;refine Θ (fun st=>K2 st/\st.e 21= .n T.length) (by simp[K2,hm,h2,db,ba,bj,jV,aC,Hv,oR,v1]) fun s1 ⟨⟨hm,h2,db,ba,bj⟩,jV⟩=>?_;have oa:bC .i64 ((T.length:Int)+1)=((T.length+1:Nat):Int):=by rw[wrap_i64 (by omega) (by omega)];simp
 have acu:(T++63::R).take (T.length+1)=T++[63]:=by
  have:T++63::R=(T++[63])++R:=by simp
  rw[this];exact List.take_left' (by simp)
 have HW:T.length+1<=(T++63::R).length:=by simp
 refine Θ (fun st=>(st.mem=M/\st.e 2=A3/\st.e 21= .n T.length)/\st.e 22= .str (T++[63])) (by
  generalize T++63::R=BB at*
  have i1:(0:Int)<=T.length+1:=by omega
  have i2:(T.length:Int)+1<=BB.length:=by omega
  simp[K2,hm,h2,db,ba,bj,jV,Hv,oR,v1,oa,i1,i2,acu,bound]) fun s1 ⟨⟨hm,h2,jV⟩,lY⟩=>?_
 refine bP (fun st=>st.mem=M/\st.e 21= .n T.length/\∃z:List Nat,z.length<=30/\cV z/\st.e 22= .str ((T++[63])++z)) ?_ fun s1 ⟨hm,jV,z,fT,gh,lY⟩=>?_
 ·have lZ:(pB.map fun b:Nat=>AV.int .u8 (b:Int)).all (fun e=>decide (e.cells.length=1))=true:=by simp[AV.cells]
  refine Θ (fun st=>∃(l:List Nat) (c:ξ),l.length<=30/\(st.mem=M/\st.e 21= .n T.length/\st.e 22= .str (T++[63]))/\st.e 137=eB c l/\st.e 138= .n l.length/\st.e 139= .n 0) ?_ fun s2 ⟨l,c,hl,⟨hm,jV,lY⟩,rB,rC,rD⟩=>?_
  ·obtain⟨vS,fb⟩:∃vS,vS=min pB.length 30:=⟨_,rfl⟩;have H0:(if(30:Int)<(pB.length:Int)then(30:Int)else pB.length)=(vS:Int):=by split<;>omega
   have acf:vS<=pB.length:=by omega
   have A8:(pB.take vS).length=vS:=by rw[kE];omega
   have main:∀c4:ξ,(if c2= .nil then ξ.nil else .any)=c4->∃s',exec (C u).gl (ah (C u)) dL (.ops [⟨(some 133),.mv (.t 2),none⟩,⟨(some 134),.mv (.t 2),none⟩,⟨(some 135),.len (.t 134),none⟩,⟨(some 136),.min (.t 135) (.c (.n 30)),none⟩,⟨(some 137),.EH 1 (.t 133) none (some (.t 136)) none,none⟩,⟨(some 138),.len (.t 137),none⟩,⟨(some 139),.mv (.c (.n 0)),none⟩]) s1=some (.normal,s')/\(s'.mem=M/\s'.e 21= .n T.length/\s'.e 22= .str (T++[63]))/\s'.e 137=eB c4 (pB.take vS)/\s'.e 138= .n vS/\s'.e 139= .n 0:=by intro c4 MG;rw[TF,eB]at h2;rcases HC with rfl|rfl<;>subst MG<;>simp[hm,h2,jV,lY,eB,lZ,H0,acf,bound]
   obtain⟨s',z1,z2,z3,z4,z5⟩:=main _ rfl;exact⟨s',z1,pB.take vS,_,by omega,z2,z3,by rw[z4,A8],z5⟩
  ·obtain⟨q,vH,zd,NG⟩:=r5b hl c (T++[63]) (by simp;omega) M (.n T.length) hm jV lY rB rC rD;exact⟨q,vH,.inl ⟨zd,NG⟩⟩
 rw[bH]at lY;refine Θ (fun st=>st.mem=M/\st.e 21= .n T.length/\st.e 26= .n T.length/\st.e 27= .n 4) (by
  have:=Xm z gh (by omega)
  simp[hm,jV,lY,this]) fun s1 ⟨hm,jV,h26,h27⟩=>?_
 rw[hM]at hm;refine κ.done .ret (fun st=>st.mem= {ε:=[tQ,yj],ζ:=[]}/\st.e 8= .bool true) (by simp[hm,jV,h26,h27,e9]) fun s' ⟨m1,m2⟩=>⟨by simp,⟨[tQ,yj],by simp[m1]⟩,[.bool true],by simp[m2],by simp⟩
end Go.Δ.Tz
