import Derived.Test.YtiigojkfojnedaaGreatDoorSMa
set_option linter.all false
set_option maxRecDepth 100000
set_option maxHeartbeats 8000000
open List renaming drop->al2,length_pos_iff->qs,getElem?_map->lB,getElem?_eq_getElem->dn,getElem_mem->c_,length_map->cg,map_append->kr,map_cons->az,map_nil->aJ,getElem?_set_ne->gR,mem_map->eP,map_map->cT,map_congr_left->de,mem_append->dT,mem_singleton->fU,contains_iff_mem->yd
open Int renaming cast_ofNat_Int->wF
open Go.IntKind renaming wrap->bC
namespace Go.Θ.Tz
open Go.Θ
variable{u:Nat}
attribute [local simp] exec dY dP eX aI dw fA eN aK fL bQ iu iE iM jd lG Ld Lh Lj Lg Le Lf wi iX rd wr gT single e_ ew κ cK RV.get cL fT kz rO
section
variable{c1 c2 c3 c4:ρ}{s:Sc}
theorem iJ:(gJ c1 c2 c3 c4 s).length=4:=rfl
theorem Aa:(gJ c1 c2 c3 c4 s).take 4=gJ c1 c2 c3 c4 s:=rfl
theorem Ab:(gJ c1 c2 c3 c4 s).take 1=[aZ c1 s.aB]:=rfl
theorem Jz:(gJ c1 c2 c3 c4 s).tail.take 1=[aZ c2 s.cA]:=rfl
theorem Ac:(al2 2 (gJ c1 c2 c3 c4 s)).take 1=[aZ c3 s.bits]:=rfl
theorem JA:(al2 3 (gJ c1 c2 c3 c4 s)).take 1=[aZ c4 s.turns]:=rfl
theorem PH(c':ρ)(l:List (List Nat)):dk (gJ c1 c2 c3 c4 s) 0 [aZ c' l]=gJ c' c2 c3 c4 ⟨l,s.cA,s.bits,s.turns⟩:=rfl
theorem XU(c':ρ)(l:List (List Nat)):dk (gJ c1 c2 c3 c4 s) 1 [aZ c' l]=gJ c1 c' c3 c4 ⟨s.aB,l,s.bits,s.turns⟩:=rfl
theorem ajS(c':ρ)(l:List (List Nat)):dk (gJ c1 c2 c3 c4 s) 2 [aZ c' l]=gJ c1 c2 c' c4 ⟨s.aB,s.cA,l,s.turns⟩:=rfl
theorem ajT(c':ρ)(l:List (List Nat)):dk (gJ c1 c2 c3 c4 s) 3 [aZ c' l]=gJ c1 c2 c3 c' ⟨s.aB,s.cA,s.bits,l⟩:=rfl
end
theorem cZ.tE{ts:List (List Nat)}{k:Nat}{i:ζ}(h:cZ ts k i)(m:Mem):i.four.map m.ν=i.four:=by have:=h.mK;simp only[ν,fH,AV.agg.injEq]at this;exact this
theorem cZ.I6{ts:List (List Nat)}{k:Nat}{i:ζ}(h:cZ ts k i)(q:Nat):ba q i.four=true:=by have:=h.fx;rw[ζ.fD]at this;have:bN i.four i.four:=⟨by simpa only[pf]using this.1,by simpa only[eB,AV.agg.injEq]using this.2⟩;exact this.ba q
theorem fj:z4.length=4:=by simp[z4]
section
variable{B:List θ}{pm ps:Nat}{P:AV}{c:ρ}{bs:List Nat}{co:ρ}{lo st fr n:Nat}{x:Int}{M:List θ}{q:Nat}{L:List AV}{T:List Nat}
theorem MM.at_(h:MM B pm ps P c bs co lo st fr n x q L M T)(A:List AV):(M.set q (.cells A))[q]?=some (.cells A):=by simp[h.qB]
theorem MM.zH(h:MM B pm ps P c bs co lo st fr n x q L M T):M[pm]?=some (.cells (bH ps P st fr)):=h.kt.ms.m
variable(hm:pm<B.length)(hs:ps<B.length)(φ:pm≠ps)(hb:bs.length<=300)
variable{d r i:Int}{c1 c2 c3 c4:ρ}{s:Sc}{out:List AV}{v:Nat}{e1 e2 e3 e4:ρ}{s':Sc}{σ:St}
include hm hs φ hb
theorem afj(hS:SS pm d r i c1 c2 c3 c4 s co out σ)(hI:SI 2 q v e1 e2 e3 e4 s' σ)(Γ:σ.mem= {ε:=M,η:=T})(hM:MM B pm ps P c bs co lo st fr n x q (aT 2 0 [] ω z4 z4 ω ω) M T)(hn:n<3000000000000000000)(dK:fr<1000000):
  κ (C u).gl (ab (C u)) IG σ fun z=>z.1= .normal/\∃x' n' M' ix,(n<=n'/\n'<=n+35)/\cZ s.turns 4 ix/\SS pm d r i c1 c2 c3 c4 s co out z.2/\SI 2 q v e1 e2 e3 e4 s' z.2/\z.2.mem= {ε:=M',η:=T}/\MM B pm ps P c bs co lo st (fr+1) n' x' q (aT 2 0 (bR [113] (fr+1)) ω ix.four z4 ω ω) M' T:=by
 obtain⟨h0,h1,h5,l5,h7,bo,bu⟩:=hS;obtain⟨h8,h9,aw,l10⟩:=hI;have nN:=Ch (u:=u) hM.kt.ms φ (by omega) [113] (by decide);have M1:=hM.mo hm φ st (fr+1);generalize M.set pm (.cells (bH ps P st (fr+1:Nat)))=N1 at nN M1;have H0:kO 4=35:=rfl;obtain⟨x2,n2,ix,b1,b2,b3,tK⟩:=JV (u:=u) M1.kt.ms φ hb c4 s.turns 4 (by omega) (by omega);have M2:=M1.draw hs φ n2 x2;generalize N1.set ps (.cells (aG c bs n2 x2))=N2 at tK M2;simp only[ζ.fD,wF]at tK;refine κ.done .normal (fun z=>SS pm d r i c1 c2 c3 c4 s co out z/\SI 2 q v e1 e2 e3 e4 s' z/\z.mem= {ε:=N2.set q (.cells (aT 2 0 (bR [113] (fr+1)) ω ix.four z4 ω ω)),η:=T}) (by
  unfold IG
  simp[SS,SI,h0,h1,h5,l5,h7,bo,bu,h8,h9,aw,l10,Γ,nN,tK,M2.q2,M2.at_,iJ,JA,wO,Lc,ig,fj,ζ.ft,Mem.put,Mem.ν,ν,ba,Θ.lo,b3.tE,b3.I6,cN,cQ]) fun z ⟨z1,z2,z3⟩=>⟨rfl,x2,n2,_,ix,by omega,b3,z1,z2,z3,M2.cell hm hs _⟩
theorem aff(hS:SS pm d r i c1 c2 c3 c4 s co out σ)(hI:SI 3 q v e1 e2 e3 e4 s' σ)(Γ:σ.mem= {ε:=M,η:=T})(hM:MM B pm ps P c bs co lo st fr n x q (aT 3 0 [] ω z4 z4 ω ω) M T)(hn:n<3000000000000000000)(hl:s.cA.length<1000000):
  κ (C u).gl (ab (C u)) Em σ fun z=>(z.1= .exit 1/\SS pm d r i c1 c2 c3 c4 s co out z.2/\z.2.mem= {ε:=M,η:=T})\/z.1= .normal/\∃x' n' M' nm,(n<=n'/\n'<=n+1)/\nm∈s.cA/\SS pm d r i c1 c2 c3 c4 s co out z.2/\SI 3 q v e1 e2 e3 e4 s' z.2/\z.2.mem= {ε:=M',η:=T}/\MM B pm ps P c bs co lo st fr n' x' q (aT 3 0 nm ω z4 z4 ω ω) M' T:=by
 obtain⟨h0,h1,h5,l5,h7,bo,bu⟩:=hS;obtain⟨h8,h9,aw,l10⟩:=hI;by_cases p9:s.cA=[]
 ·refine κ.done (.exit 1) (fun z=>SS pm d r i c1 c2 c3 c4 s co out z/\z.mem= {ε:=M,η:=T}) (by
   unfold Em
   simp[SS,h0,h1,h5,l5,h7,bo,bu,h8,h9,aw,l10,Γ,iJ,Jz,aZ,p9]) fun z ⟨z1,z2⟩=> .inl ⟨rfl,z1,z2⟩
 ·have jQ:0<s.cA.length:=qs.2 p9;obtain⟨x2,k,n2,b1,b2,b3,b4,-,kH⟩:=Ci (u:=u) hM.kt.ms hb s.cA.length (by omega);have b4:=b4 (by omega);obtain⟨k,rfl⟩:∃j:Nat,k=j:=⟨k.toNat,by omega⟩;have hk:k<s.cA.length:=by omega
  have M2:=hM.draw hs φ n2 x2;generalize M.set ps (.cells (aG c bs n2 x2))=N2 at kH M2;have ma:(s.cA.map AV.str)[k]?=some (.str s.cA[k]):=by rw[lB,dn hk];rfl
  have vL:¬(s.cA.length:Int)=0:=by omega
  refine κ.done .normal (fun z=>SS pm d r i c1 c2 c3 c4 s co out z/\SI 3 q v e1 e2 e3 e4 s' z/\z.mem= {ε:=N2.set q (.cells (aT 3 0 s.cA[k] ω z4 z4 ω ω)),η:=T}) (by
   unfold Em
   simp[SS,SI,h0,h1,h5,l5,h7,bo,bu,h8,h9,aw,l10,Γ,hM.zH,bH,kH,M2.q2,M2.at_,iJ,Jz,aZ,p9,vL,b4,hk,wO,ig,fj,Mem.put,Mem.ν,ν,ba,Θ.lo,cN,cQ,eK]) fun z ⟨z1,z2,z3⟩=> .inr ⟨rfl,x2,n2,_,s.cA[k],by omega,c_ hk,z1,z2,z3,M2.cell hm hs _⟩
theorem afe(hS:SS pm d r i c1 c2 c3 c4 s co out σ)(hI:SI 6 q v e1 e2 e3 e4 s' σ)(Γ:σ.mem= {ε:=M,η:=T})(hM:MM B pm ps P c bs co lo st fr n x q (aT 6 0 [] ω z4 z4 ω ω) M T)(hn:n<2000000000000000000)(hr:s.aB≠[])(hl:s.aB.length<1000000):
  κ (C u).gl (ab (C u)) IK σ fun z=>z.1= .normal/\∃x' n' M' p,(n<=n'/\n'<=n+72)/\f_ s.aB s.turns p/\SS pm d r i c1 c2 c3 c4 s co out z.2/\SI 6 q v e1 e2 e3 e4 s' z.2/\z.2.mem= {ε:=M',η:=T}/\MM B pm ps P c bs co lo st fr n' x' q (aT 6 0 [] (.list .full [p.av]) z4 z4 ω ω) M' T:=by
 obtain⟨h0,h1,h5,l5,h7,bo,bu⟩:=hS;obtain⟨h8,h9,aw,l10⟩:=hI;obtain⟨x2,n2,p,b1,b2,b3,tJ⟩:=JU (u:=u) hM.kt.ms φ hb c1 c2 c3 c4 s hr (by omega) (by omega);have M2:=hM.draw hs φ n2 x2;generalize M.set ps (.cells (aG c bs n2 x2))=N2 at tJ M2;have hp:=b3.fx.ν;have jN:ba q [AV.list .full [p.av]]=true:=by have:=b3.fx.lo q;simp[ba,Θ.lo,ρ.lo,this]
 have dX:shaped true 2 p.av=true:=rfl;refine κ.done .normal (fun z=>SS pm d r i c1 c2 c3 c4 s co out z/\SI 6 q v e1 e2 e3 e4 s' z/\z.mem= {ε:=N2.set q (.cells (aT 6 0 [] (.list .full [p.av]) z4 z4 ω ω)),η:=T}) (by
  unfold IK
  simp[SS,SI,h0,h1,h5,l5,h7,bo,bu,h8,h9,aw,l10,Γ,tJ,M2.q2,M2.at_,iJ,Aa,FW,ig,fj,Mem.put,Mem.ν,ν,cw,hp,dX,jN]) fun z ⟨z1,z2,z3⟩=>⟨rfl,x2,n2,_,p,by omega,b3,z1,z2,z3,M2.cell hm hs _⟩
end
section
variable{B:List θ}{pm ps:Nat}{P:AV}{c:ρ}{bs:List Nat}{co:ρ}{lo st fr n:Nat}{x:Int}{M:List θ}{q:Nat}{L:List AV}{T:List Nat}
variable(hm:pm<B.length)(hs:ps<B.length)(φ:pm≠ps)(hb:bs.length<=300)
variable{d r i:Int}{c1 c2 c3 c4:ρ}{s:Sc}{out:List AV}{v:Nat}{σ:St}
theorem Df(cc:ρ)(l:List (List Nat))(hl:l.length<1000000)(hc:cc= .nil->l=[])(nm:List Nat)(hM:MM B pm ps P c bs co lo st fr n x q L M T)(hm:pm<B.length)(hs:ps<B.length):
  ∃c' M1 c2 M2,(∀T,kf u 29 [aZ cc l] {ε:=M,η:=T}=some (aZ c' l,{ε:=M1,η:=T}))/\M1[q]?=some (.cells L)/\(∀T,gC {ε:=M1,η:=T} false 1 16 9 (aZ c' l) (.list .full [.str nm])=some (aZ c2 (l++[nm]),{ε:=M2,η:=T}))/\MM B pm ps P c bs co lo st fr n x q L M2 T/\c2≠ .nil:=by
 obtain⟨c',M1,q1,r1,HS⟩:=w29 (u:=u) (M:=M) cc l (by omega) hc B.length hM.kt.len;have Kg:MM B pm ps P c bs co lo st fr n x q L M1 T:=by
  rcases HS with rfl|rfl
  ·exact hM
  ·exact hM.push _
 obtain⟨c2,M2,q2,r2,-,Dl⟩:=yw (bytes:=16) (pl:=l.map AV.str) (v:= .str nm) (ag:=false) (by rw[cg];exact r1) Kg.kt.len (JJ l) rfl rfl (by omega) (by rw[cg];omega) (by rw[cg];omega);refine⟨c',M1,c2,M2,q1,Kg.q2,fun T=>?_,Kg.grow hm hs (sz:=1) (e:=9) (by decide) (by rw[cg]at Dl;exact Dl),fun h=>?_⟩
 ·simp only[aZ,kr,az,aJ];exact q2 T
 ·rw[cg]at r2;rcases r2 with⟨_,h2⟩|⟨t,rfl,_⟩
  ·omega
  ·cases h
include hm hs φ hb
theorem afc(hS:SS pm d r i c1 c2 c3 c4 s co out σ)(hI:SI 4 q v c1 c2 c3 c4 s σ)(Γ:σ.mem= {ε:=M,η:=T})(hM:MM B pm ps P c bs co lo st fr n x q (aT 4 0 [] ω z4 z4 ω ω) M T)(hn:n<3000000000000000000)(dK:fr<1000000)(hl:s.aB.length<1000000)(hc:c1= .nil->s.aB=[]):
  κ (C u).gl (ab (C u)) II σ fun z=>z.1= .normal/\∃x' n' M' ix c',(n<=n'/\n'<=n+35)/\cZ s.turns 4 ix/\SS pm d r i c1 c2 c3 c4 s co out z.2/\SI 4 q v c' c2 c3 c4 (s.ml (bR [114] (fr+1))) z.2/\c'≠ .nil/\z.2.mem= {ε:=M',η:=T}/\MM B pm ps P c bs co lo st (fr+1) n' x' q (aT 4 0 (bR [114] (fr+1)) ω ix.four z4 ω ω) M' T:=by
 obtain⟨h0,h1,h5,l5,h7,bo,bu⟩:=hS;obtain⟨h8,h9,aw,l10⟩:=hI;have nN:=Ch (u:=u) hM.kt.ms φ (by omega) [114] (by decide);have M1:=hM.mo hm φ st (fr+1);generalize M.set pm (.cells (bH ps P st (fr+1:Nat)))=N1 at nN M1;have H0:kO 4=35:=rfl;obtain⟨x2,n2,ix,b1,b2,b3,tK⟩:=JV (u:=u) M1.kt.ms φ hb c4 s.turns 4 (by omega) (by omega);have M2:=M1.draw hs φ n2 x2;generalize N1.set ps (.cells (aG c bs n2 x2))=N2 at tK M2;simp only[ζ.fD,wF]at tK;generalize jY:bR [114] (fr+1)=nm at*;have M3:=M2.cell hm hs (aT 4 0 nm ω ix.four z4 ω ω);unfold II;refine Δ (fun z=>SS pm d r i c1 c2 c3 c4 s co out z/\SI 4 q v c1 c2 c3 c4 s z/\z.mem= {ε:=N2.set q (.cells (aT 4 0 nm ω ix.four z4 ω ω)),η:=T}) (by simp[SS,SI,h0,h1,h5,l5,h7,bo,bu,h8,h9,aw,l10,Γ,nN,tK,M2.q2,M2.at_,iJ,JA,wO,Lc,ig,fj,ζ.ft,Mem.put,Mem.ν,ν,ba,Θ.lo,b3.tE,b3.I6,cN,cQ]) fun z ⟨⟨h0,h1,h5,l5,h7,bo,bu⟩,⟨h8,h9,aw,l10⟩,Γ⟩=>?_;generalize N2.set q (.cells (aT 4 0 nm ω ix.four z4 ω ω))=N3 at M3 Γ;obtain⟨c',N4,cc,N5,Pw,NQ,dB,M5,eG⟩:=Df (u:=u) c1 s.aB hl hc nm M3 hm hs;refine κ.done .normal (fun z=>SS pm d r i c1 c2 c3 c4 s co out z/\SI 4 q v cc c2 c3 c4 (s.ml nm) z/\z.mem= {ε:=N5,η:=T}) (by simp[SS,SI,h0,h1,h5,l5,h7,bo,bu,h8,h9,aw,l10,Γ,Pw,NQ,dB,M3.q2,iJ,Ab,PH,CO,ig,fj,ζ.ft,Mem.ν,ν,shaped,AV.one,wi,cN,cQ,ob,Sc.ml]) fun z ⟨z1,z2,z3⟩=>⟨rfl,x2,n2,_,ix,_,by omega,b3,z1,z2,eG,z3,M5⟩
theorem afi(hS:SS pm d r i c1 c2 c3 c4 s co out σ)(hI:SI 8 q v c1 c2 c3 c4 s σ)(Γ:σ.mem= {ε:=M,η:=T})(hM:MM B pm ps P c bs co lo st fr n x q (aT 8 0 [] ω z4 z4 ω ω) M T)(hn:n<3000000000000000000)(dK:fr<1000000)(hl:s.turns.length<1000000)(hc:c4= .nil->s.turns=[]):
  κ (C u).gl (ab (C u)) IL σ fun z=>z.1= .normal/\∃x' n' M' ix iy c',(n<=n'/\n'<=n+30)/\cZ s.turns 3 ix/\cZ s.turns 3 iy/\SS pm d r i c1 c2 c3 c4 s co out z.2/\SI 8 q v c1 c2 c3 c' (s.dS (bR [105] (fr+1))) z.2/\c'≠ .nil/\z.2.mem= {ε:=M',η:=T}/\MM B pm ps P c bs co lo st (fr+1) n' x' q (aT 8 0 (bR [105] (fr+1)) ω ix.four iy.four ω ω) M' T:=by
 obtain⟨h0,h1,h5,l5,h7,bo,bu⟩:=hS;obtain⟨h8,h9,aw,l10⟩:=hI;have nN:=Ch (u:=u) hM.kt.ms φ (by omega) [105] (by decide);have M1:=hM.mo hm φ st (fr+1);generalize M.set pm (.cells (bH ps P st (fr+1:Nat)))=N1 at nN M1;have MQ:kO 3=15:=rfl;obtain⟨x2,n2,ix,b1,b2,b3,tK⟩:=JV (u:=u) M1.kt.ms φ hb c4 s.turns 3 (by omega) (by omega);have M2:=M1.draw hs φ n2 x2;generalize N1.set ps (.cells (aG c bs n2 x2))=N2 at tK M2;obtain⟨x3,n3,iy,d1,d2,d3,Py⟩:=JV (u:=u) M2.kt.ms φ hb c4 s.turns 3 (by omega) (by omega);have M3:=M2.draw hs φ n3 x3;generalize N2.set ps (.cells (aG c bs n3 x3))=N3 at Py M3;simp only[ζ.fD,wF]at tK Py;generalize jY:bR [105] (fr+1)=nm at*;have M4:=M3.cell hm hs (aT 8 0 nm ω ix.four iy.four ω ω);unfold IL;refine Δ (fun z=>SS pm d r i c1 c2 c3 c4 s co out z/\SI 8 q v c1 c2 c3 c4 s z/\z.mem= {ε:=N3.set q (.cells (aT 8 0 nm ω ix.four iy.four ω ω)),η:=T}) (by simp[SS,SI,h0,h1,h5,l5,h7,bo,bu,h8,h9,aw,l10,Γ,nN,tK,Py,M3.q2,M3.at_,iJ,JA,wO,Lc,aaj,ig,fj,ζ.ft,Mem.put,Mem.ν,ν,ba,Θ.lo,b3.tE,b3.I6,d3.tE,d3.I6,cN,cQ]) fun z ⟨⟨h0,h1,h5,l5,h7,bo,bu⟩,⟨h8,h9,aw,l10⟩,Γ⟩=>?_;generalize N3.set q (.cells (aT 8 0 nm ω ix.four iy.four ω ω))=N4 at M4 Γ;obtain⟨c',N5,cc,N6,Pw,NQ,dB,M6,eG⟩:=Df (u:=u) c4 s.turns hl hc nm M4 hm hs;refine κ.done .normal (fun z=>SS pm d r i c1 c2 c3 c4 s co out z/\SI 8 q v c1 c2 c3 cc (s.dS nm) z/\z.mem= {ε:=N6,η:=T}) (by simp[SS,SI,h0,h1,h5,l5,h7,bo,bu,h8,h9,aw,l10,Γ,Pw,NQ,dB,M4.q2,iJ,JA,ajT,CO,ig,fj,ζ.ft,Mem.ν,ν,shaped,AV.one,wi,cN,cQ,ob,Sc.dS]) fun z ⟨z1,z2,z3⟩=>⟨rfl,x3,n3,_,ix,iy,_,by omega,b3,d3,z1,z2,eG,z3,M6⟩
theorem afk{e1 e2 e3 e4:ρ}{s':Sc}(hS:SS pm d r i c1 c2 c3 c4 s co out σ)(hI:SI 7 q v e1 e2 e3 e4 s' σ)(Γ:σ.mem= {ε:=M,η:=T})(hM:MM B pm ps P c bs co lo st fr n x q (aT 7 0 [] ω z4 z4 ω ω) M T)(hn:n<3000000000000000000)(hl:s.bits.length<1000000):
  κ (C u).gl (ab (C u)) Eo σ fun z=>(z.1= .exit 1/\SS pm d r i c1 c2 c3 c4 s co out z.2/\z.2.mem= {ε:=M,η:=T})\/z.1= .normal/\∃x' n' M' nm,(n<=n'/\n'<=n+1)/\nm∈s.bits/\SS pm d r i c1 c2 c3 c4 s co out z.2/\SI 7 q v e1 e2 e3 e4 s' z.2/\z.2.mem= {ε:=M',η:=T}/\MM B pm ps P c bs co lo st fr n' x' q (aT 7 0 nm ω z4 z4 ω ω) M' T:=by
 obtain⟨h0,h1,h5,l5,h7,bo,bu⟩:=hS;obtain⟨h8,h9,aw,l10⟩:=hI;by_cases p9:s.bits=[]
 ·refine κ.done (.exit 1) (fun z=>SS pm d r i c1 c2 c3 c4 s co out z/\z.mem= {ε:=M,η:=T}) (by
   unfold Eo
   simp[SS,h0,h1,h5,l5,h7,bo,bu,h8,h9,aw,l10,Γ,iJ,Ac,aZ,p9]) fun z ⟨z1,z2⟩=> .inl ⟨rfl,z1,z2⟩
 ·have jQ:0<s.bits.length:=qs.2 p9;obtain⟨x2,k,n2,b1,b2,b3,b4,-,kH⟩:=Ci (u:=u) hM.kt.ms hb s.bits.length (by omega);have b4:=b4 (by omega);obtain⟨k,rfl⟩:∃j:Nat,k=j:=⟨k.toNat,by omega⟩;have hk:k<s.bits.length:=by omega
  have M2:=hM.draw hs φ n2 x2;generalize M.set ps (.cells (aG c bs n2 x2))=N2 at kH M2;have ma:(s.bits.map AV.str)[k]?=some (.str s.bits[k]):=by rw[lB,dn hk];rfl
  have vL:¬(s.bits.length:Int)=0:=by omega
  refine κ.done .normal (fun z=>SS pm d r i c1 c2 c3 c4 s co out z/\SI 7 q v e1 e2 e3 e4 s' z/\z.mem= {ε:=N2.set q (.cells (aT 7 0 s.bits[k] ω z4 z4 ω ω)),η:=T}) (by
   unfold Eo
   simp[SS,SI,h0,h1,h5,l5,h7,bo,bu,h8,h9,aw,l10,Γ,hM.zH,bH,kH,M2.q2,M2.at_,iJ,Ac,aZ,p9,vL,b4,hk,wO,ig,fj,Mem.put,Mem.ν,ν,ba,Θ.lo,cN,cQ,eK]) fun z ⟨z1,z2,z3⟩=> .inr ⟨rfl,x2,n2,_,s.bits[k],by omega,c_ hk,z1,z2,z3,M2.cell hm hs _⟩
theorem afh{e1 e2 e3 e4:ρ}{s':Sc}(hS:SS pm d r i c1 c2 c3 c4 s co out σ)(hI:SI 5 q v e1 e2 e3 e4 s' σ)(Γ:σ.mem= {ε:=M,η:=T})(hM:MM B pm ps P c bs co lo st fr n x q (aT 5 0 [] ω z4 z4 ω ω) M T)(hn:n<2000000000000000000)(dK:fr<1000000)(hl:s.bits.length<1000000)(hr:s.aB≠[])(Iq:s.aB.length<1000000):
  κ (C u).gl (ab (C u)) IJ σ fun z=>z.1= .normal/\∃x' n' M' p nm,(n<=n'/\n'<=n+74)/\f_ s.aB s.turns p/\(nm=bR [98] (fr+1)\/nm∈s.bits)/\SS pm d r i c1 c2 c3 c4 s co out z.2/\SI 5 q v e1 e2 e3 e4 s' z.2/\z.2.mem= {ε:=M',η:=T}/\MM B pm ps P c bs co lo st (fr+1) n' x' q (aT 5 0 nm (.list .full [p.av]) z4 z4 ω ω) M' T:=by
 obtain⟨h0,h1,h5,l5,h7,bo,bu⟩:=hS;obtain⟨h8,h9,aw,l10⟩:=hI;obtain⟨x2,n2,p,b1,b2,b3,tJ⟩:=JU (u:=u) hM.kt.ms φ hb c1 c2 c3 c4 s hr (by omega) (by omega);have M1:=hM.draw hs φ n2 x2;generalize M.set ps (.cells (aG c bs n2 x2))=N1 at tJ M1;have nN:=Ch (u:=u) M1.kt.ms φ (by omega) [98] (by decide);have M2:=M1.mo hm φ st (fr+1);generalize N1.set pm (.cells (bH ps P st (fr+1:Nat)))=N2 at nN M2;generalize jY:bR [98] (fr+1)=nm at*;have hp:=b3.fx.ν;have jN:ba q [AV.list .full [p.av]]=true:=by have:=b3.fx.lo q;simp[ba,Θ.lo,ρ.lo,this]
 have dX:shaped true 2 p.av=true:=rfl;have M3:=M2.cell hm hs (aT 5 0 nm (.list .full [p.av]) z4 z4 ω ω);unfold IJ;refine Δ (fun z=>SS pm d r i c1 c2 c3 c4 s co out z/\SI 5 q v e1 e2 e3 e4 s' z/\z.mem= {ε:=N2.set q (.cells (aT 5 0 nm (.list .full [p.av]) z4 z4 ω ω)),η:=T}) (by simp[SS,SI,h0,h1,h5,l5,h7,bo,bu,h8,h9,aw,l10,Γ,tJ,nN,M2.q2,M2.at_,iJ,Aa,wO,FW,ig,fj,Mem.put,Mem.ν,ν,cw,hp,dX,jN,ba,Θ.lo]) fun z ⟨⟨h0,h1,h5,l5,h7,bo,bu⟩,⟨h8,h9,aw,l10⟩,Γ⟩=>?_;generalize N2.set q (.cells (aT 5 0 nm (.list .full [p.av]) z4 z4 ω ω))=N3 at M3 Γ;refine Δ (fun z=>∃x' n' N t,(n2<=n'/\n'<=n2+1/\(t=true->s.bits≠[]))/\MM B pm ps P c bs co lo st (fr+1) n' x' q (aT 5 0 nm (.list .full [p.av]) z4 z4 ω ω) N T/\SS pm d r i c1 c2 c3 c4 s co out z/\SI 5 q v e1 e2 e3 e4 s' z/\z.mem= {ε:=N,η:=T}/\z.e 171= .bool t) ?_ fun z ⟨x',n',N4,t,⟨g1,g2,g3⟩,M4,⟨h0,h1,h5,l5,h7,bo,bu⟩,⟨h8,h9,aw,l10⟩,Γ,TP⟩=>?_
 ·by_cases p9:s.bits=[]
  ·exact wU (P:=fun z=>SS pm d r i c1 c2 c3 c4 s co out z/\SI 5 q v e1 e2 e3 e4 s' z/\z.mem= {ε:=N3,η:=T}/\z.e 171= .bool false) (by simp[SS,SI,h0,h1,h5,l5,h7,bo,bu,h8,h9,aw,l10,Γ,iJ,Ac,aZ,p9]) fun z hz=>⟨x2,n2,N3,false,⟨Nat.le_refl _,by omega,fun h=>(by cases h)⟩,M3,hz⟩
  ·have jQ:0<s.bits.length:=qs.2 p9;obtain⟨x3,t,n3,d1,d2,Xu⟩:=aku (u:=u) M3.kt.ms hb 3 (by omega);have M4:=M3.draw hs φ n3 x3;generalize N3.set ps (.cells (aG c bs n3 x3))=N4 at Xu M4;exact wU (P:=fun z=>SS pm d r i c1 c2 c3 c4 s co out z/\SI 5 q v e1 e2 e3 e4 s' z/\z.mem= {ε:=N4,η:=T}/\z.e 171= .bool t) (by simp[SS,SI,h0,h1,h5,l5,h7,bo,bu,h8,h9,aw,l10,Γ,iJ,Ac,aZ,jQ,M3.zH,bH,Xu]) fun z hz=>⟨x3,n3,N4,t,⟨d1,d2,fun _=>p9⟩,M4,hz⟩
 ·cases t with
  |false=>refine κ.no (by simp[TP]) (κ.done .normal (fun z=>SS pm d r i c1 c2 c3 c4 s co out z/\SI 5 q v e1 e2 e3 e4 s' z/\z.mem= {ε:=N4,η:=T}) (by simp[SS,SI,h0,h1,h5,l5,h7,bo,bu,h8,h9,aw,l10,Γ]) fun z ⟨z1,z2,z3⟩=>⟨rfl,x',n',_,p,nm,by omega,b3,.inl rfl,z1,z2,z3,M4⟩)
  |true=>
   have p9:=g3 rfl
   have jQ:0<s.bits.length:=qs.2 p9;obtain⟨x5,k,n5,d1,d2,d3,d4,-,kH⟩:=Ci (u:=u) M4.kt.ms hb s.bits.length (by omega);have d4:=d4 (by omega);obtain⟨k,rfl⟩:∃j:Nat,k=j:=⟨k.toNat,by omega⟩;have hk:k<s.bits.length:=by omega
   have M5:=M4.draw hs φ n5 x5;generalize N4.set ps (.cells (aG c bs n5 x5))=N5 at kH M5;have ma:(s.bits.map AV.str)[k]?=some (.str s.bits[k]):=by rw[lB,dn hk];rfl
   refine κ.yes (by simp[TP]) (κ.done .normal (fun z=>SS pm d r i c1 c2 c3 c4 s co out z/\SI 5 q v e1 e2 e3 e4 s' z/\z.mem= {ε:=N5.set q (.cells (aT 5 0 s.bits[k] (.list .full [p.av]) z4 z4 ω ω)),η:=T}) (by simp[SS,SI,h0,h1,h5,l5,h7,bo,bu,h8,h9,aw,l10,Γ,M4.zH,bH,kH,M5.q2,M5.at_,iJ,Ac,aZ,p9,d4,hk,wO,ig,fj,Mem.put,Mem.ν,ν,ba,Θ.lo,cN,cQ,eK]) fun z ⟨z1,z2,z3⟩=>⟨rfl,x5,n5,_,p,s.bits[k],by omega,b3,.inr (c_ hk),z1,z2,z3,M5.cell hm hs _⟩)
end
theorem aaV{v:AV}{t:List Nat}(h:eB v= .str t):v= .str t:=by cases v<;>simp[eB]at h;rw[h]
theorem aaU{v:AV}{c:ρ}{l:List AV}(h:eB v= .list c l):∃c' l',v= .list c' l'/\l'.length=l.length:=by cases v<;>simp[eB]at h;rename_i c' l';exact⟨c',l',rfl,by rw[<-h.2,AR];simp⟩
theorem aaT{v:AV}{l:List AV}(h:eB v= .agg l):∃l',v= .agg l'/\l'.map eB=l:=by cases v<;>simp[eB]at h;rename_i l';exact⟨l',rfl,by rw[<-h,AR]⟩
theorem ait{Ps:List AV}{l:List τ}(h:bN Ps (l.map τ.av)){j:Nat}(hj:j<l.length):∃c' l' b',Ps[j]?=some (.agg [.str l[j].name,.list c' l',b'])/\l'.length=l[j].au.length:=by
 have hlen:=h.len;rw[cg]at hlen;have UQ:j<Ps.length:=by omega
 have e:eB Ps[j]=τ.av l[j]:=by have h2:=h.2;rw[AR]at h2;have:=congrArg (fun k=>k[j]?) h2;simpa[hj,UQ]using this
 obtain⟨A,hA,e⟩:=aaT e;have hl:A.length=3:=by have:=congrArg List.length e;simpa using this
 obtain⟨a,b,d,rfl⟩:∃a b d,A=[a,b,d]:=by
  match A,hl with
  |[a,b,d],_=>exact⟨a,b,d,rfl⟩
 simp only[az,aJ,List.cons.injEq,and_true]at e;obtain⟨c',l',rfl,iH⟩:=aaU e.2.1;refine⟨c',l',d,?_,by rw[iH];simp⟩;rw[dn UQ,hA,aaV e.1]
section
variable{B:List θ}{pm ps:Nat}{P:AV}{c:ρ}{bs:List Nat}{co:ρ}{lo st fr n:Nat}{x:Int}{M:List θ}{q:Nat}{L:List AV}{T:List Nat}
theorem zX{N:Nat}{sz:Nat}{e:TypeId}{cp:ρ}{k:Nat}(h:Go.Θ.Row N M sz e cp k)(ms:MS pm ps P c bs st fr n x M)(b:θ):Go.Θ.Row N (M.set ps b) sz e cp k:=
 h.bf fun t k ht=>by
  have:ps≠t:=fun e=>by rw[<-e,ms.s]at ht;cases ht
  rw[gR this];exact ht
theorem PD{N:Nat}{sz:Nat}{e:TypeId}{cp:ρ}{k:Nat}(h:Go.Θ.Row N M sz e cp k){q:Nat}{L:List AV}(hq:M[q]?=some (.cells L))(b:θ):Go.Θ.Row N (M.set q b) sz e cp k:=
 h.bf fun t k ht=>by
  have:q≠t:=fun e=>by rw[<-e,hq]at ht;cases ht
  rw[gR this];exact ht
theorem Xf(l:List ξ):(l.map ξ.av).all (shaped true 2)=true:=by rw[List.all_eq_true];intro y hy;obtain⟨p,-,rfl⟩:=eP.1 hy;rfl
variable(hm:pm<B.length)(hs:ps<B.length)(φ:pm≠ps)(hb:bs.length<=300)
variable{d r i:Int}{c1 c2 c3 c4:ρ}{s:Sc}{out:List AV}{v:Nat}{e1 e2 e3 e4:ρ}{s':Sc}{σ:St}
include hm hs φ hb
theorem ah6{k g:Int}{nm:List Nat}(m:Nat)(acL:m<=20)(hS:SS pm d r i c1 c2 c3 c4 s co out σ)(hI:SI k q v e1 e2 e3 e4 s' σ)(vn:σ.e 92= .n (m:Int))(vo:σ.e 93= .n 0)(Γ:σ.mem= {ε:=M,η:=T})(hM:MM B pm ps P c bs co lo st fr n x q (aT k g nm ω z4 z4 ω ω) M T)(hn:n<2000000000000000000)(hr:s.aB≠[])(hl:s.aB.length<1000000):
  κ (C u).gl (ab (C u)) (.block 3 (.loop Ow)) σ fun z=>z.1= .normal/\∃x' n' M' T' cp,∃l:List ξ,(n<=n'/\n'<=n+72*m)/\l.length=m/\(∀p∈l,f_ s.aB s.turns p)/\SS pm d r i c1 c2 c3 c4 s co out z.2/\SI k q v e1 e2 e3 e4 s' z.2/\z.2.mem= {ε:=M',η:=T'}/\MM B pm ps P c bs co lo st fr n' x' q (aT k g nm (.list cp (l.map ξ.av)) z4 z4 ω ω) M' T'/\cp.exp 0 false=Φ l:=by
 let I:Nat->St->Prop:=fun j z=>∃x' n' M' T' cp,∃l:List ξ,(n<=n'/\n'<=n+72*j)/\l.length=j/\(∀p∈l,f_ s.aB s.turns p)/\SS pm d r i c1 c2 c3 c4 s co out z/\SI k q v e1 e2 e3 e4 s' z/\z.mem= {ε:=M',η:=T'}/\MM B pm ps P c bs co lo st fr n' x' q (aT k g nm (.list cp (l.map ξ.av)) z4 z4 ω ω) M' T'/\Go.Θ.Row B.length M' 2 74 cp l.length/\cp.exp 0 false=Φ l/\z.e 92= .n (m:Int)/\z.e 93= .n (j:Int);refine κ.block (κ.kp (I:=I) m ⟨x,n,M,T,.nil,[],by omega,rfl,by simp,hS,hI,Γ,hM,Go.Θ.Row.nil,rfl,vn,by simpa using vo⟩ fun j z hj ⟨x',n',M',T',cp,l,l1,l2,l3,hS,hI,Γ,hM,hR,mS,vn,vo⟩=>?_);obtain⟨h0,h1,h5,l5,h7,bo,bu⟩:=hS;obtain⟨h8,h9,aw,l10⟩:=hI;unfold Ow;by_cases zc:j<m
 ·have lO:(j:Int)<m:=by omega
  have kB:bC .i64 ((j:Int)+1)=(j:Int)+1:=wrap_i64 (by omega) (by omega);obtain⟨x2,n2,p,b1,b2,b3,tJ⟩:=JU (u:=u) hM.kt.ms φ hb c1 c2 c3 c4 s hr (by omega) (by omega);have M2:=hM.draw hs φ n2 x2;have R2:=zX hR hM.kt.ms (.cells (aG c bs n2 x2));generalize M'.set ps (.cells (aG c bs n2 x2))=N2 at tJ M2 R2;have hp:=b3.fx.ν;have dX:shaped true 2 p.av=true:=rfl;obtain⟨cc,N3,dB,R3,eG,yQ⟩:=yw (bytes:=40) (pl:=l.map ξ.av) (v:=p.av) (ag:=true) (by rw[cg];exact R2) M2.kt.len (Xf l) dX hp (by omega) (by rw[cg];omega) (by rw[cg];omega);have M3:=M2.grow hm hs (sz:=2) (e:=74) (by decide) yQ;have M4:=(M3.cell hm hs (aT k g nm (.list cc (l.map ξ.av++[p.av])) z4 z4 ω ω)).Fe (ba q [AV.list cc (l.map ξ.av++[p.av])]);have R4:=PD R3 M3.q2 (.cells (aT k g nm (.list cc (l.map ξ.av++[p.av])) z4 z4 ω ω));have er:cw (l.map ξ.av++[p.av])=l.map ξ.av++[p.av]:=by rw[fH,kr,cT,az,aJ,hp];congr 1;exact de fun y hy=>(l3 y hy).fx.ν
  refine κ.done .normal (fun z=>SS pm d r i c1 c2 c3 c4 s co out z/\SI k q v e1 e2 e3 e4 s' z/\z.mem= {ε:=N3.set q (.cells (aT k g nm (.list cc (l.map ξ.av++[p.av])) z4 z4 ω ω)),η:=if ba q [AV.list cc (l.map ξ.av++[p.av])]=true then T' else q::T'}/\z.e 92= .n (m:Int)/\z.e 93= .n ((j:Int)+1)) (by simp[SS,SI,h0,h1,h5,l5,h7,bo,bu,h8,h9,aw,l10,vn,vo,lO,zc,kB,Γ,tJ,hM.q2,M2.q2,M3.q2,M3.at_,iJ,Aa,Sf,FW,ig,fj,dB,Mem.put,Mem.ν,ν,er,hp,dX,cN,cQ,ob]) fun z ⟨z1,z2,z3,z4,z5⟩=> .inl ⟨rfl,zc,x2,n2,_,_,cc,l++[p],by omega,by simp[l2],?_,z1,z2,z3,?_,?_,(by rw[eG];cases l<;>rfl),z4,by rw[z5];simp⟩
  ·intro y hy;rcases dT.1 hy with hy|hy
   ·exact l3 y hy
   ·rw[fU.1 hy];exact b3
  ·simpa using M4
  ·simpa using R4
 ·have lO:¬(j:Int)<m:=by omega
  obtain rfl:j=m:=by omega
  exact κ.done (.exit 3) (fun z=>SS pm d r i c1 c2 c3 c4 s co out z/\SI k q v e1 e2 e3 e4 s' z/\z.mem= {ε:=M',η:=T'}) (by simp[SS,SI,h0,h1,h5,l5,h7,bo,bu,h8,h9,aw,l10,vn,vo,Γ]) fun z ⟨z1,z2,z3⟩=> .inr ⟨by simp,.inl ⟨rfl,rfl,x',n',M',T',cp,l,l1,l2,l3,z1,z2,z3,hM,mS⟩⟩
theorem ah7{k g:Int}{nm:List Nat}(m:Nat)(acL:m<=20)(hS:SS pm d r i c1 c2 c3 c4 s co out σ)(hI:SI k q v e1 e2 e3 e4 s' σ)(vn:σ.e 266= .n (m:Int))(vo:σ.e 267= .n 0)(Γ:σ.mem= {ε:=M,η:=T})(hM:MM B pm ps P c bs co lo st fr n x q (aT k g nm ω z4 z4 ω ω) M T)(hn:n<2000000000000000000)(hr:s.aB≠[])(hl:s.aB.length<1000000):
  κ (C u).gl (ab (C u)) (.block 5 (.loop Ox)) σ fun z=>z.1= .normal/\∃x' n' M' T' cp,∃l:List ξ,(n<=n'/\n'<=n+72*m)/\l.length=m/\(∀p∈l,f_ s.aB s.turns p)/\SS pm d r i c1 c2 c3 c4 s co out z.2/\SI k q v e1 e2 e3 e4 s' z.2/\z.2.mem= {ε:=M',η:=T'}/\MM B pm ps P c bs co lo st fr n' x' q (aT k g nm (.list cp (l.map ξ.av)) z4 z4 ω ω) M' T'/\cp.exp 0 false=Φ l:=by
 let I:Nat->St->Prop:=fun j z=>∃x' n' M' T' cp,∃l:List ξ,(n<=n'/\n'<=n+72*j)/\l.length=j/\(∀p∈l,f_ s.aB s.turns p)/\SS pm d r i c1 c2 c3 c4 s co out z/\SI k q v e1 e2 e3 e4 s' z/\z.mem= {ε:=M',η:=T'}/\MM B pm ps P c bs co lo st fr n' x' q (aT k g nm (.list cp (l.map ξ.av)) z4 z4 ω ω) M' T'/\Go.Θ.Row B.length M' 2 74 cp l.length/\cp.exp 0 false=Φ l/\z.e 266= .n (m:Int)/\z.e 267= .n (j:Int);refine κ.block (κ.kp (I:=I) m ⟨x,n,M,T,.nil,[],by omega,rfl,by simp,hS,hI,Γ,hM,Go.Θ.Row.nil,rfl,vn,by simpa using vo⟩ fun j z hj ⟨x',n',M',T',cp,l,l1,l2,l3,hS,hI,Γ,hM,hR,mS,vn,vo⟩=>?_);obtain⟨h0,h1,h5,l5,h7,bo,bu⟩:=hS;obtain⟨h8,h9,aw,l10⟩:=hI;unfold Ox;by_cases zc:j<m
 ·have lO:(j:Int)<m:=by omega
  have kB:bC .i64 ((j:Int)+1)=(j:Int)+1:=wrap_i64 (by omega) (by omega);obtain⟨x2,n2,p,b1,b2,b3,tJ⟩:=JU (u:=u) hM.kt.ms φ hb c1 c2 c3 c4 s hr (by omega) (by omega);have M2:=hM.draw hs φ n2 x2;have R2:=zX hR hM.kt.ms (.cells (aG c bs n2 x2));generalize M'.set ps (.cells (aG c bs n2 x2))=N2 at tJ M2 R2;have hp:=b3.fx.ν;have dX:shaped true 2 p.av=true:=rfl;obtain⟨cc,N3,dB,R3,eG,yQ⟩:=yw (bytes:=40) (pl:=l.map ξ.av) (v:=p.av) (ag:=true) (by rw[cg];exact R2) M2.kt.len (Xf l) dX hp (by omega) (by rw[cg];omega) (by rw[cg];omega);have M3:=M2.grow hm hs (sz:=2) (e:=74) (by decide) yQ;have M4:=(M3.cell hm hs (aT k g nm (.list cc (l.map ξ.av++[p.av])) z4 z4 ω ω)).Fe (ba q [AV.list cc (l.map ξ.av++[p.av])]);have R4:=PD R3 M3.q2 (.cells (aT k g nm (.list cc (l.map ξ.av++[p.av])) z4 z4 ω ω));have er:cw (l.map ξ.av++[p.av])=l.map ξ.av++[p.av]:=by rw[fH,kr,cT,az,aJ,hp];congr 1;exact de fun y hy=>(l3 y hy).fx.ν
  refine κ.done .normal (fun z=>SS pm d r i c1 c2 c3 c4 s co out z/\SI k q v e1 e2 e3 e4 s' z/\z.mem= {ε:=N3.set q (.cells (aT k g nm (.list cc (l.map ξ.av++[p.av])) z4 z4 ω ω)),η:=if ba q [AV.list cc (l.map ξ.av++[p.av])]=true then T' else q::T'}/\z.e 266= .n (m:Int)/\z.e 267= .n ((j:Int)+1)) (by simp[SS,SI,h0,h1,h5,l5,h7,bo,bu,h8,h9,aw,l10,vn,vo,lO,zc,kB,Γ,tJ,hM.q2,M2.q2,M3.q2,M3.at_,iJ,Aa,Sf,FW,ig,fj,dB,Mem.put,Mem.ν,ν,er,hp,dX,cN,cQ,ob]) fun z ⟨z1,z2,z3,z4,z5⟩=> .inl ⟨rfl,zc,x2,n2,_,_,cc,l++[p],by omega,by simp[l2],?_,z1,z2,z3,?_,?_,(by rw[eG];cases l<;>rfl),z4,by rw[z5];simp⟩
  ·intro y hy;rcases dT.1 hy with hy|hy
   ·exact l3 y hy
   ·rw[fU.1 hy];exact b3
  ·simpa using M4
  ·simpa using R4
 ·have lO:¬(j:Int)<m:=by omega
  obtain rfl:j=m:=by omega
  exact κ.done (.exit 5) (fun z=>SS pm d r i c1 c2 c3 c4 s co out z/\SI k q v e1 e2 e3 e4 s' z/\z.mem= {ε:=M',η:=T'}) (by simp[SS,SI,h0,h1,h5,l5,h7,bo,bu,h8,h9,aw,l10,vn,vo,Γ]) fun z ⟨z1,z2,z3⟩=> .inr ⟨by simp,.inl ⟨rfl,rfl,x',n',M',T',cp,l,l1,l2,l3,z1,z2,z3,hM,mS⟩⟩
theorem afg(hS:SS pm d r i c1 c2 c3 c4 s co out σ)(hI:SI 1 q v e1 e2 e3 e4 s' σ)(Γ:σ.mem= {ε:=M,η:=T})(hM:MM B pm ps P c bs co lo st fr n x q (aT 1 0 [] ω z4 z4 ω ω) M T)(hn:n<1000000000000000000)(hr:s.aB≠[])(hl:s.aB.length<1000000):
  κ (C u).gl (ab (C u)) IF σ fun z=>z.1= .normal/\∃x' n' M' T' g cp,∃l:List ξ,(n<=n'/\n'<=n+280)/\(1<=g/\g<=12)/\l.length=gb g/\(∀p∈l,f_ s.aB s.turns p)/\SS pm d r i c1 c2 c3 c4 s co out z.2/\SI 1 q v e1 e2 e3 e4 s' z.2/\z.2.mem= {ε:=M',η:=T'}/\MM B pm ps P c bs co lo st fr n' x' q (aT 1 g [] (.list cp (l.map ξ.av)) z4 z4 ω ω) M' T'/\cp.exp 0 false=Φ l:=by
 obtain⟨h0,h1,h5,l5,h7,bo,bu⟩:=hS;obtain⟨h8,h9,aw,l10⟩:=hI;obtain⟨x2,g,n2,b1,b2,b3,b4,uU⟩:=JT (u:=u) hM.kt.ms hb 1 12 (by omega) (by omega) (by omega) (by omega);have M2:=hM.draw hs φ n2 x2;generalize M.set ps (.cells (aG c bs n2 x2))=N2 at uU M2;have M3:=M2.cell hm hs (aT 1 g [] ω z4 z4 ω ω);have aiE:=f183 (u:=u) g ⟨b3,b4⟩;have har:gb g<=3:=by
  unfold gb;split
  ·omega
  ·split<;>omega
 unfold IF;refine Δ (fun z=>SS pm d r i c1 c2 c3 c4 s co out z/\SI 1 q v e1 e2 e3 e4 s' z/\z.mem= {ε:=N2.set q (.cells (aT 1 g [] ω z4 z4 ω ω)),η:=T}) (by simp[SS,SI,h0,h1,h5,l5,h7,bo,bu,h8,h9,aw,l10,Γ,hM.zH,bH,uU,M2.q2,M2.at_,aah,ig,fj,Mem.put,Mem.ν,ν,ba,Θ.lo]) fun z ⟨⟨h0,h1,h5,l5,h7,bo,bu⟩,⟨h8,h9,aw,l10⟩,Γ⟩=>?_;generalize N2.set q (.cells (aT 1 g [] ω z4 z4 ω ω))=N3 at M3 Γ;refine Δ (fun z=>SS pm d r i c1 c2 c3 c4 s co out z/\SI 1 q v e1 e2 e3 e4 s' z/\z.mem= {ε:=N3,η:=T}/\z.e 92= .n (gb g:Int)/\z.e 93= .n 0) (by simp[SS,SI,h0,h1,h5,l5,h7,bo,bu,h8,h9,aw,l10,Γ,M3.q2,aak,ig,fj,aiE]) fun z ⟨z1,z2,z3,z4,z5⟩=>?_;refine κ.mono (ah6 (u:=u) hm hs φ hb (gb g) (by omega) z1 z2 z4 z5 z3 M3 (by omega) hr hl) fun z ⟨y1,x',n',M',T',cp,l,y2,y3,y4,y5,y6,y7,y8,y9⟩=>⟨y1,x',n',M',T',g,cp,l,by omega,⟨b3,b4⟩,y3,y4,y5,y6,y7,y8,y9⟩
theorem afd{cP:ρ}{Ps:List AV}{bA:List τ}(hP:P= .list cP Ps)(lq:bN Ps (bA.map τ.av))(gO:∀y∈bA,y.au.length<=3)(dH:bA.length<1000000)(hS:SS pm d r i c1 c2 c3 c4 s co out σ)(hI:SI 9 q v e1 e2 e3 e4 s' σ)(Γ:σ.mem= {ε:=M,η:=T})(hM:MM B pm ps P c bs co lo st fr n x q (aT 9 0 [] ω z4 z4 ω ω) M T)(hn:n<1000000000000000000)(hr:s.aB≠[])(hl:s.aB.length<1000000):
  κ (C u).gl (ab (C u)) IM σ fun z=>(z.1= .exit 1/\SS pm d r i c1 c2 c3 c4 s co out z.2/\z.2.mem= {ε:=M,η:=T})\/z.1= .normal/\∃x' n' M' T' nm k cp,∃l:List ξ,(n<=n'/\n'<=n+280)/\(nm,k)∈ly bA/\l.length=k/\(∀p∈l,f_ s.aB s.turns p)/\SS pm d r i c1 c2 c3 c4 s co out z.2/\SI 9 q v e1 e2 e3 e4 s' z.2/\z.2.mem= {ε:=M',η:=T'}/\MM B pm ps P c bs co lo st fr n' x' q (aT 9 0 nm (.list cp (l.map ξ.av)) z4 z4 ω ω) M' T'/\cp.exp 0 false=Φ l:=by
 obtain⟨h0,h1,h5,l5,h7,bo,bu⟩:=hS;obtain⟨h8,h9,aw,l10⟩:=hI;have hlen:Ps.length=bA.length:=by rw[lq.len,cg]
 have qR:=hM.zH;rw[hP]at qR;unfold IM;by_cases Vh:bA=[]
 ·have hP0:Ps=[]:=List.eq_nil_of_length_eq_zero (by rw[hlen,Vh];rfl);refine bJ (fun _=>False) (κ.done (.exit 1) (fun z=>SS pm d r i c1 c2 c3 c4 s co out z/\z.mem= {ε:=M,η:=T}) (by simp[SS,h0,h1,h5,l5,h7,bo,bu,h8,h9,aw,l10,Γ,qR,bH,hP0]) fun z ⟨z1,z2⟩=> .inr ⟨by simp,.inl ⟨rfl,z1,z2⟩⟩) fun z hz=>hz.elim
 ·have jQ:0<bA.length:=qs.2 Vh;obtain⟨x2,k,n2,b1,b2,b3,b4,-,kH⟩:=Ci (u:=u) hM.kt.ms hb bA.length (by omega);have b4:=b4 (by omega);obtain⟨k,rfl⟩:∃j:Nat,k=j:=⟨k.toNat,by omega⟩;have hk:k<bA.length:=by omega
  have Ib:k<Ps.length:=by omega
  have M2:=hM.draw hs φ n2 x2;generalize M.set ps (.cells (aG c bs n2 x2))=N2 at kH M2;have U4:=M2.zH;rw[hP]at U4;obtain⟨cq,pl,bq,ma,NN⟩:=ait lq hk;have acu:Ps[k]= .agg [.str bA[k].name,.list cq pl,bq]:=by rw[dn Ib]at ma;exact Option.some.inj ma
  have abW:¬Ps=[]:=fun h=>by rw[h]at Ib;cases Ib
  have akX:¬(Ps.length:Int)=0:=by omega
  have Nq:(k:Int)<Ps.length:=by omega
  have ali:=gO bA[k] (c_ hk);rw[<-hlen]at kH;refine Δ (fun z=>SS pm d r i c1 c2 c3 c4 s co out z/\SI 9 q v e1 e2 e3 e4 s' z/\z.mem= {ε:=M,η:=T}) (by simp[SS,SI,h0,h1,h5,l5,h7,bo,bu,h8,h9,aw,l10,Γ,qR,bH,abW]) fun z ⟨⟨h0,h1,h5,l5,h7,bo,bu⟩,⟨h8,h9,aw,l10⟩,Γ⟩=>?_;refine Δ (fun z=>SS pm d r i c1 c2 c3 c4 s co out z/\SI 9 q v e1 e2 e3 e4 s' z/\z.mem= {ε:=N2,η:=T}/\∃w,z.e 11= .aj 11 w 0/\z.q 11=some (w,.cells [.str bA[k].name,.list cq pl,bq])) (by
   generalize hw:bz (bQ z.loc) 11=w
   simp[SS,SI,h0,h1,h5,l5,h7,bo,bu,h8,h9,aw,l10,Γ,qR,U4,bH,kH,Nq,Ib,ma,acu,newVar,hw,dk,cN,nY,cQ,ob]) fun z ⟨⟨h0,h1,h5,l5,h7,bo,bu⟩,⟨h8,h9,aw,l10⟩,Γ,w,bP,vX⟩=>?_
  have M3:=M2.cell hm hs (aT 9 0 bA[k].name ω z4 z4 ω ω);refine Δ (fun z=>SS pm d r i c1 c2 c3 c4 s co out z/\SI 9 q v e1 e2 e3 e4 s' z/\z.mem= {ε:=N2.set q (.cells (aT 9 0 bA[k].name ω z4 z4 ω ω)),η:=T}/\z.e 11= .aj 11 w 0/\z.q 11=some (w,.cells [.str bA[k].name,.list cq pl,bq])) (by simp[SS,SI,h0,h1,h5,l5,h7,bo,bu,h8,h9,aw,l10,bP,vX,Γ,M2.q2,M2.at_,wO,ig,fj,Mem.put,Mem.ν,ν,ba,Θ.lo]) fun z ⟨⟨h0,h1,h5,l5,h7,bo,bu⟩,⟨h8,h9,aw,l10⟩,Γ,bP,vX⟩=>?_;generalize N2.set q (.cells (aT 9 0 bA[k].name ω z4 z4 ω ω))=N3 at M3 Γ;refine Δ (fun z=>SS pm d r i c1 c2 c3 c4 s co out z/\SI 9 q v e1 e2 e3 e4 s' z/\z.mem= {ε:=N3,η:=T}/\z.e 266= .n (bA[k].au.length:Int)/\z.e 267= .n 0) (by simp[SS,SI,h0,h1,h5,l5,h7,bo,bu,h8,h9,aw,l10,bP,vX,Γ,NN]) fun z ⟨z1,z2,z3,z4,z5⟩=>?_;refine κ.mono (ah7 (u:=u) hm hs φ hb bA[k].au.length (by omega) z1 z2 z4 z5 z3 M3 (by omega) hr hl) fun z ⟨y1,x',n',M',T',cp,l,y2,y3,y4,y5,y6,y7,y8,y9⟩=> .inr ⟨y1,x',n',M',T',bA[k].name,_,cp,l,by omega,eP.2 ⟨bA[k],c_ hk,rfl⟩,y3,y4,y5,y6,y7,y8,y9⟩
end
section
variable{B:List θ}{pm ps:Nat}{P:AV}{c:ρ}{bs:List Nat}{co:ρ}{lo st fr n:Nat}{x:Int}{M:List θ}{q:Nat}{L:List AV}{T:List Nat}
variable(hm:pm<B.length)(hs:ps<B.length)(φ:pm≠ps)(hb:bs.length<=300)
variable{d r i:Int}{c1 c2 c3 c4:ρ}{s:Sc}{out:List AV}{v:Nat}{e1 e2 e3 e4:ρ}{s':Sc}{σ:St}{k:Int}
theorem w65(cn:ρ)(l:List (List Nat))(t:List Nat)(hl:l.length<1000000)(m:Mem):kf u 65 [aZ cn l,.str t] m=some (.bool (l.contains t),m):=by rw[<-f65 (u:=u) (cn.exp 0 false) (BP cn 0) l t (by omega) m];exact F1 (by rfl) (by simp only[az,aJ,C7,vi,exp]) (by rfl)
theorem Jy(hk:k≠4/\k≠8/\k≠10/\k≠7/\k≠11)(hS:SS pm d r i c1 c2 c3 c4 s co out σ)(hI:SI k q v e1 e2 e3 e4 s' σ)(Γ:σ.mem= {ε:=M,η:=T}):
  κ (C u).gl (ab (C u)) uG σ fun z=>z.1= .normal/\SS pm d r i c1 c2 c3 c4 s co out z.2/\SI k q v e1 e2 e3 e4 s' z.2/\z.2.mem= {ε:=M,η:=T}:=by
 obtain⟨h0,h1,h5,l5,h7,bo,bu⟩:=hS;obtain⟨h8,h9,aw,l10⟩:=hI;obtain⟨k1,k2,k3,k4,k5⟩:=hk;unfold uG;exact κ.done .normal (fun z=>SS pm d r i c1 c2 c3 c4 s co out z/\SI k q v e1 e2 e3 e4 s' z/\z.mem= {ε:=M,η:=T}) (by simp[SS,SI,h0,h1,h5,l5,h7,bo,bu,h8,h9,aw,l10,Γ,ff k1,ff k2,ff k3,ff k4,ff k5]) fun z hz=>⟨rfl,hz⟩
theorem PG(hk:k=4\/k=8\/k=10){g:Int}{nm:List Nat}{X:AV}{I J:List AV}(vp:I.length=4)(vq:J.length=4){V:AV}(hV:Dv V V)(MG:V.cells=[V]){N:List θ}(hd:0<=d/\d<1000)
  (mu:∀T,kf u 122 [.μ pm 0,.n (d+1),.agg (gJ e1 e2 e3 e4 s')] {ε:=M,η:=T}=some (V,{ε:=N,η:=T})) (hN:N[q]?=some (.cells (aT k g nm X I J ω ω)))
  (hS:SS pm d r i c1 c2 c3 c4 s co out σ) (hI:SI k q v e1 e2 e3 e4 s' σ) (Γ:σ.mem= {ε:=M,η:=T}):
  κ (C u).gl (ab (C u)) uG σ fun z=>z.1= .normal/\SS pm d r i c1 c2 c3 c4 s co out z.2/\SI k q v e1 e2 e3 e4 s' z.2/\z.2.mem= {ε:=N.set q (.cells (aT k g nm X I J V ω)),η:=T}:=by
 obtain⟨h0,h1,h5,l5,h7,bo,bu⟩:=hS;obtain⟨h8,h9,aw,l10⟩:=hI;have hw:bC .i64 (d+1)=d+1:=wrap_i64 (by omega) (by omega);have MI:=hV.ν;have MH:ba q [V]=true:=by simp[ba,hV.lo q]
 unfold uG VN;refine κ.done .normal (fun z=>SS pm d r i c1 c2 c3 c4 s co out z/\SI k q v e1 e2 e3 e4 s' z/\z.mem= {ε:=N.set q (.cells (aT k g nm X I J V ω)),η:=T}) ?_ fun z hz=>⟨rfl,hz⟩;rcases hk with rfl|rfl|rfl<;>simp[SS,SI,h0,h1,h5,l5,h7,bo,bu,h8,h9,aw,l10,Γ,hw,mu,hN,iJ,Aa,Se,ig,vp,vq,MG,MI,MH,Mem.put,Mem.ν]
theorem ajK(hk:k=7\/k=11){g:Int}{nm:List Nat}{X:AV}{I J:List AV}(vp:I.length=4)(vq:J.length=4){V W:AV}(hV:Dv V V)(MG:V.cells=[V])(hW:Dv W W)(hW1:W.cells=[W]){N N':List θ}(hd:0<=d/\d<1000)
  (mu:∀T,kf u 122 [.μ pm 0,.n (d+1),.agg (gJ e1 e2 e3 e4 s')] {ε:=M,η:=T}=some (V,{ε:=N,η:=T}))
  (BY:∀T,kf u 122 [.μ pm 0,.n (d+1),.agg (gJ e1 e2 e3 e4 s')] {ε:=N,η:=T}=some (W,{ε:=N',η:=T})) (hN:N'[q]?=some (.cells (aT k g nm X I J ω ω)))
  (hS:SS pm d r i c1 c2 c3 c4 s co out σ) (hI:SI k q v e1 e2 e3 e4 s' σ) (Γ:σ.mem= {ε:=M,η:=T}):
  κ (C u).gl (ab (C u)) uG σ fun z=>z.1= .normal/\SS pm d r i c1 c2 c3 c4 s co out z.2/\SI k q v e1 e2 e3 e4 s' z.2/\z.2.mem= {ε:=N'.set q (.cells (aT k g nm X I J V W)),η:=T}:=by
 obtain⟨h0,h1,h5,l5,h7,bo,bu⟩:=hS;obtain⟨h8,h9,aw,l10⟩:=hI;have hw:bC .i64 (d+1)=d+1:=wrap_i64 (by omega) (by omega);have MI:=hV.ν;have hWn:=hW.ν;have MH:ba q [V]=true:=by simp[ba,hV.lo q]
 have hWl:ba q [W]=true:=by simp[ba,hW.lo q]
 have hqN:q<N'.length:=(List.getElem?_eq_some_iff.1 hN).1;have jz:∀A,(N'.set q (θ.cells A))[q]?=some (.cells A):=fun A=>by simp[hqN]
 unfold uG VO;refine κ.done .normal (fun z=>SS pm d r i c1 c2 c3 c4 s co out z/\SI k q v e1 e2 e3 e4 s' z/\z.mem= {ε:=N'.set q (.cells (aT k g nm X I J V W)),η:=T}) ?_ fun z hz=>⟨rfl,hz⟩;rcases hk with rfl|rfl<;>simp[SS,SI,h0,h1,h5,l5,h7,bo,bu,h8,h9,aw,l10,Γ,hw,mu,BY,hN,jz,iJ,Aa,Se,aai,ig,vp,vq,MG,MI,MH,hW1,hWn,hWl,Mem.put,Mem.ν,cN,cQ]
theorem ajN(hk:k≠2/\k≠3/\k≠5)(hS:SS pm d r i c1 c2 c3 c4 s co out σ)(hI:SI k q v e1 e2 e3 e4 s' σ)(Γ:σ.mem= {ε:=M,η:=T}):
  κ (C u).gl (ab (C u)) ra σ fun z=>z.1= .normal/\SS pm d r i c1 c2 c3 c4 s co out z.2/\SI k q v e1 e2 e3 e4 s' z.2/\z.2.mem= {ε:=M,η:=T}:=by
 obtain⟨h0,h1,h5,l5,h7,bo,bu⟩:=hS;obtain⟨h8,h9,aw,l10⟩:=hI;obtain⟨k1,k2,k3⟩:=hk;unfold ra;exact κ.done .normal (fun z=>SS pm d r i c1 c2 c3 c4 s co out z/\SI k q v e1 e2 e3 e4 s' z/\z.mem= {ε:=M,η:=T}) (by simp[SS,SI,h0,h1,h5,l5,h7,bo,bu,h8,h9,aw,l10,Γ,ff k1,ff k2,ff k3]) fun z hz=>⟨rfl,hz⟩
include hm hs
theorem ajO{g:Int}{nm:List Nat}{X:AV}{I J:List AV}{b e:AV}(vp:I.length=4)(vq:J.length=4)(Ml:c1= .nil->s.aB=[])(Mp:c2= .nil->s.cA=[])(vG:s.aB.length<1000000)(vH:s.cA.length<1000000)
  (hS:SS pm d r i c1 c2 c3 c4 s co out σ) (hI:SI 2 q v e1 e2 e3 e4 s' σ) (Γ:σ.mem= {ε:=M,η:=T}) (hM:MM B pm ps P c bs co lo st fr n x q (aT 2 g nm X I J b e) M T):
  κ (C u).gl (ab (C u)) ra σ fun z=>z.1= .normal/\∃gU gV M',SS pm d r i gU gV c3 c4 (s.put nm) co out z.2/\SI 2 q v e1 e2 e3 e4 s' z.2/\gU≠ .nil/\gV≠ .nil/\z.2.mem= {ε:=M',η:=T}/\MM B pm ps P c bs co lo st fr n x q (aT 2 g nm X I J b e) M' T:=by
 obtain⟨h0,h1,h5,l5,h7,bo,bu⟩:=hS;obtain⟨h8,h9,aw,l10⟩:=hI;obtain⟨a1,N1,a2,N2,q1,D0,p1,M2,ML⟩:=Df (u:=u) c1 s.aB vG Ml nm hM hm hs;obtain⟨b1,N3,b2,N4,q2,NP,p2,M4,dz⟩:=Df (u:=u) c2 s.cA vH Mp nm M2 hm hs;unfold ra VP;exact κ.done .normal (fun z=>SS pm d r i a2 b2 c3 c4 (s.put nm) co out z/\SI 2 q v e1 e2 e3 e4 s' z/\z.mem= {ε:=N4,η:=T}) (by simp[SS,SI,h0,h1,h5,l5,h7,bo,bu,h8,h9,aw,l10,Γ,q1,D0,p1,q2,NP,p2,hM.q2,M2.q2,M4.q2,iJ,Ab,Jz,PH,XU,CO,ig,vp,vq,Mem.ν,ν,shaped,AV.one,wi,cN,cQ,ob,Sc.put]) fun z ⟨z1,z2,z3⟩=>⟨rfl,a2,b2,N4,z1,z2,ML,dz,z3,M4⟩
omit hm hs in
theorem drop_eq(s:Sc)(nm:List Nat):s.drop nm=⟨hH nm s.aB,hH nm s.cA,s.bits,s.turns⟩:=rfl
theorem ajL{g:Int}{nm:List Nat}{X:AV}{I J:List AV}{b e:AV}(vp:I.length=4)(vq:J.length=4)(Ml:c1= .nil->s.aB=[])(Mp:c2= .nil->s.cA=[])(vG:s.aB.length<1000000)(vH:s.cA.length<1000000)
  (hS:SS pm d r i c1 c2 c3 c4 s co out σ) (hI:SI 3 q v e1 e2 e3 e4 s' σ) (Γ:σ.mem= {ε:=M,η:=T}) (hM:MM B pm ps P c bs co lo st fr n x q (aT 3 g nm X I J b e) M T):
  κ (C u).gl (ab (C u)) ra σ fun z=>z.1= .normal/\∃gU gV M',SS pm d r i gU gV c3 c4 (s.drop nm) co out z.2/\SI 3 q v e1 e2 e3 e4 s' z.2/\(gU= .nil->(s.drop nm).aB=[])/\(gV= .nil->(s.drop nm).cA=[])/\z.2.mem= {ε:=M',η:=T}/\MM B pm ps P c bs co lo st fr n x q (aT 3 g nm X I J b e) M' T:=by
 obtain⟨h0,h1,h5,l5,h7,bo,bu⟩:=hS;obtain⟨h8,h9,aw,l10⟩:=hI;have push:∀{M':List θ} {N:List θ},MM B pm ps P c bs co lo st fr n x q (aT 3 g nm X I J b e) M' T->(N=M'\/N=M'++[.dead])->MM B pm ps P c bs co lo st fr n x q (aT 3 g nm X I J b e) N T:=fun h hN=>by
  rcases hN with rfl|rfl
  ·exact h
  ·exact h.push _
 obtain⟨v1,A1,w1,A2,a1,A3,p1,p2,p3,p4,p5⟩:=TG (u:=u) c1 s.aB (by omega) Ml (M:=M) (show M[q]?=some (.cells (.n 3:: .n g:: .str nm::X::(I++(J++[b,e]))))from hM.q2);have M1:=push hM p5;obtain⟨v2,B1,w2,B2,b1,B3,r1,r2,r3,r4,r5⟩:=TG (u:=u) c2 s.cA (by omega) Mp (M:=A3) (show A3[q]?=some (.cells (.n 3:: .n g:: .str nm::X::(I++(J++[b,e]))))from M1.q2);have M2:=push M1 r5;unfold ra VQ;exact κ.done .normal (fun z=>SS pm d r i a1 b1 c3 c4 (s.drop nm) co out z/\SI 3 q v e1 e2 e3 e4 s' z/\z.mem= {ε:=B3,η:=T}) (by
  rw[drop_eq]
  simp[SS,SI,h0,h1,h5,l5,h7,bo,bu,h8,h9,aw,l10,Γ,p1,p2,p3,r1,r2,r3,iJ,Ab,Jz,PH,XU,wi,cN,cQ]) fun z ⟨z1,z2,z3⟩=>⟨rfl,a1,b1,B3,z1,z2,p4,r4,z3,M2⟩
theorem ajM{g:Int}{nm:List Nat}{X:AV}{I J:List AV}{b e:AV}(vp:I.length=4)(vq:J.length=4)(TV:c3= .nil->s.bits=[])(Nt:s.bits.length<1000000)
  (hS:SS pm d r i c1 c2 c3 c4 s co out σ) (hI:SI 5 q v e1 e2 e3 e4 s' σ) (Γ:σ.mem= {ε:=M,η:=T}) (hM:MM B pm ps P c bs co lo st fr n x q (aT 5 g nm X I J b e) M T):
  κ (C u).gl (ab (C u)) ra σ fun z=>z.1= .normal/\∃ll M',SS pm d r i c1 c2 ll c4 (s.bit nm) co out z.2/\SI 5 q v e1 e2 e3 e4 s' z.2/\(ll= .nil->(s.bit nm).bits=[])/\z.2.mem= {ε:=M',η:=T}/\MM B pm ps P c bs co lo st fr n x q (aT 5 g nm X I J b e) M' T:=by
 obtain⟨h0,h1,h5,l5,h7,bo,bu⟩:=hS;obtain⟨h8,h9,aw,l10⟩:=hI;have zV:=w65 (u:=u) c3 s.bits nm Nt;unfold ra VS;by_cases qO:nm∈s.bits
 ·have hc:s.bits.contains nm=true:=yd.2 qO;have yT:s.bit nm=s:=if_pos qO;rw[yT];exact κ.done .normal (fun z=>SS pm d r i c1 c2 c3 c4 s co out z/\SI 5 q v e1 e2 e3 e4 s' z/\z.mem= {ε:=M,η:=T}) (by simp[SS,SI,h0,h1,h5,l5,h7,bo,bu,h8,h9,aw,l10,Γ,hM.q2,zV,qO,iJ,Ac,CO,ig,vp,vq]) fun z ⟨z1,z2,z3⟩=>⟨rfl,c3,M,z1,z2,TV,z3,hM⟩
 ·have hc:s.bits.contains nm=false:=by
   cases h:s.bits.contains nm with
   |false=>rfl
   |true=>exact absurd (yd.1 h) qO
  have yT:s.bit nm= {s with bits:=s.bits++[nm]}:=if_neg qO;rw[yT];obtain⟨a1,N1,a2,N2,q1,D0,p1,M2,ML⟩:=Df (u:=u) c3 s.bits Nt TV nm hM hm hs;exact κ.done .normal (fun z=>SS pm d r i c1 c2 a2 c4 {s with bits:=s.bits++[nm]} co out z/\SI 5 q v e1 e2 e3 e4 s' z/\z.mem= {ε:=N2,η:=T}) (by simp[SS,SI,h0,h1,h5,l5,h7,bo,bu,h8,h9,aw,l10,Γ,hM.q2,zV,qO,q1,D0,p1,iJ,Ac,ajS,CO,ig,vp,vq,Mem.ν,ν,shaped,AV.one,wi,cN,cQ,ob]) fun z ⟨z1,z2,z3⟩=>⟨rfl,a2,N2,z1,z2,fun h=>absurd h ML,z3,M2⟩
end
theorem OU{ps:Nat}{P:AV}{st:Int}{fr:Nat}:(al2 2 (bH ps P st fr)).take 1=[.n st]:=rfl
theorem Wy{ps:Nat}{P:AV}{st:Int}{fr:Nat}(w:Int):dk (bH ps P st fr) 2 [.n w]=bH ps P w fr:=rfl
theorem BO{ps:Nat}{P:AV}{st:Int}{fr:Nat}:(bH ps P st fr).length=4:=rfl
def iO(d:Int)(e:Bool)(k:Int):Int:=if(d=5/\(k=4\/k=7\/9<k\/k=8))\/(e=true/\k≠4/\k≠10/\k≠11/\k≠8)then 2 else k
theorem aap(d:Int)(e:Bool)(k:Int)(hk:1<=k/\k<=11):(1<=iO d e k/\iO d e k<=11)/\(e=true->iO d e k=2\/iO d e k=4\/iO d e k=8\/iO d e k=10\/iO d e k=11)/\(d=5->iO d e k≠4/\iO d e k≠7/\iO d e k≠8/\iO d e k≠10/\iO d e k≠11):=by
 unfold iO;split
 ·omega
 ·rename_i h;cases e with
  |true=>simp only[true_and]at h⊢;omega
  |false=>simp at h⊢;omega
section
variable{B:List θ}{pm ps:Nat}{P:AV}{c:ρ}{bs:List Nat}{co:ρ}{lo st fr n:Nat}{x:Int}{M:List θ}{q:Nat}{L:List AV}{T:List Nat}
variable{d r i:Int}{c1 c2 c3 c4:ρ}{s:Sc}{out:List AV}{v:Nat}{e1 e2 e3 e4:ρ}{s':Sc}{σ:St}{k:Int}
theorem Kt.app(h:Kt B pm ps P c bs co lo st fr n x M)(hm:pm<B.length)(hs:ps<B.length){fp:ρ}{M':List θ}(R:Go.Θ.Row B.length M' 14 66 fp (lo+1))
  (hM:M'=M++[.front 1 14 66]\/∃t,B.length<=t/\M[t]?=some (.front lo 14 66)/\M'=M.set t (.front (lo+1) 14 66)):Kt B pm ps P c bs fp (lo+1) st fr n x M':=by
 rcases hM with rfl|⟨t,h1,h2,rfl⟩
 ·exact⟨h.ms.push _,fun i a b d=>by rw[List.getElem?_append_left (Nat.lt_of_lt_of_le a h.len)];exact h.oD i a b d,by have:=h.len;simp;omega,R⟩
 ·exact⟨h.ms.put (by omega) (by omega) _,fun i a b d=>by rw[gR (by omega)];exact h.oD i a b d,by simpa using h.len,R⟩
theorem ahM(hS:SS pm d r i c1 c2 c3 c4 s co out σ)(Γ:σ.mem= {ε:=M,η:=T})(hM:MS pm ps P c bs st fr n x M)(Ω:st<4000000000000000000):
  κ (C u).gl (ab (C u)) IP σ fun z=>(z.1= .exit 0/\40<=st\/z.1= .normal/\st<40)/\SS pm d r i c1 c2 c3 c4 s co out z.2/\z.2.mem= {ε:=M.set pm (.cells (bH ps P (st+1:Nat) fr)),η:=T}:=by
 obtain⟨h0,h1,h5,l5,h7,bo,bu⟩:=hS;obtain⟨w,hw⟩:∃w:Nat,w=st+1:=⟨_,rfl⟩;have e:bC .i64 ((st:Int)+1)=(w:Int):=by rw[wrap_i64 (by omega) (by omega)];omega
 rw[<-hw];have hg:M[pm]?=some (.cells (bH ps P st fr)):=hM.m;have jz:∀A,(M.set pm (θ.cells A))[pm]?=some (.cells A):=fun A=>by simp[hM.xY]
 unfold IP;refine Δ (fun z=>SS pm d r i c1 c2 c3 c4 s co out z/\z.mem= {ε:=M.set pm (.cells (bH ps P (w:Int) fr)),η:=T}) (by simp[SS,h0,h1,h5,l5,h7,bo,bu,Γ,hg,OU,Wy,BO,e,Mem.put,Mem.ν,ν,ba,Θ.lo]) fun z ⟨⟨h0,h1,h5,l5,h7,bo,bu⟩,Γ⟩=>?_;by_cases Mr:40<w
 ·have hI:(40:Int)<w:=by omega
  exact κ.done (.exit 0) (fun z=>SS pm d r i c1 c2 c3 c4 s co out z/\z.mem= {ε:=M.set pm (.cells (bH ps P (w:Int) fr)),η:=T}) (by simp[SS,h0,h1,h5,l5,h7,bo,bu,Γ,jz,OU,BO,Mr,hI]) fun z ⟨z1,z2⟩=>⟨.inl ⟨rfl,by omega⟩,z1,z2⟩
 ·have hI:¬(40:Int)<w:=by omega
  exact κ.done .normal (fun z=>SS pm d r i c1 c2 c3 c4 s co out z/\z.mem= {ε:=M.set pm (.cells (bH ps P (w:Int) fr)),η:=T}) (by simp[SS,h0,h1,h5,l5,h7,bo,bu,Γ,jz,OU,BO,Mr,hI]) fun z ⟨z1,z2⟩=>⟨.inr ⟨rfl,by omega⟩,z1,z2⟩
theorem ahK(hb:bs.length<=300)(hS:SS pm d r i c1 c2 c3 c4 s co out σ)(Γ:σ.mem= {ε:=M,η:=T})(hM:MS pm ps P c bs st fr n x M)(hn:n<3000000000000000000):
  κ (C u).gl (ab (C u)) IN σ fun z=>z.1= .normal/\∃x' n' k,(n<=n'/\n'<=n+1)/\(1<=k/\k<=11)/\SS pm d r i c1 c2 c3 c4 s co out z.2/\z.2.mem= {ε:=M.set ps (.cells (aG c bs n' x')),η:=T}/\aK z.2.env 8= .n k:=by
 obtain⟨h0,h1,h5,l5,h7,bo,bu⟩:=hS;obtain⟨x2,k,n2,b1,b2,b3,b4,uU⟩:=JT (u:=u) hM hb 1 11 (by omega) (by omega) (by omega) (by omega);have hg:M[pm]?=some (.cells (bH ps P st fr)):=hM.m;unfold IN;exact κ.done .normal (fun z=>SS pm d r i c1 c2 c3 c4 s co out z/\z.mem= {ε:=M.set ps (.cells (aG c bs n2 x2)),η:=T}/\z.e 8= .n k) (by simp[SS,h0,h1,h5,l5,h7,bo,bu,Γ,hg,bH,uU]) fun z ⟨z1,z2,z3⟩=>⟨rfl,x2,n2,k,⟨b1,b2⟩,⟨b3,b4⟩,z1,z2,z3⟩
theorem ahG(hk:1<=k/\k<=11)(hd:d=5)(hr:s.aB=[])(hS:SS pm d r i c1 c2 c3 c4 s co out σ)(h8:σ.e 8= .n k):
  κ (C u).gl (ab (C u)) tB σ fun z=>z.1= .normal/\SS pm d r i c1 c2 c3 c4 s co out z.2/\z.2.mem=σ.mem/\aK z.2.env 8= .n (iO d s.aB.isEmpty k):=by
 obtain⟨h0,h1,h5,l5,h7,bo,bu⟩:=hS;have uw:k=1\/k=2\/k=3\/k=4\/k=5\/k=6\/k=7\/k=8\/k=9\/k=10\/k=11:=by omega
 unfold tB;refine κ.done .normal (fun z=>SS pm d r i c1 c2 c3 c4 s co out z/\z.mem=σ.mem/\z.e 8= .n (iO d s.aB.isEmpty k)) ?_ fun z hz=>⟨rfl,hz⟩;rcases uw with rfl|rfl|rfl|rfl|rfl|rfl|rfl|rfl|rfl|rfl|rfl<;>simp[SS,h0,h1,h5,l5,h7,bo,bu,h8,hd,hr,Ab,iJ,aZ,iO]
theorem ahH(hk:1<=k/\k<=11)(hd:d=5)(hr:s.aB≠[])(hS:SS pm d r i c1 c2 c3 c4 s co out σ)(h8:σ.e 8= .n k):
  κ (C u).gl (ab (C u)) tB σ fun z=>z.1= .normal/\SS pm d r i c1 c2 c3 c4 s co out z.2/\z.2.mem=σ.mem/\aK z.2.env 8= .n (iO d s.aB.isEmpty k):=by
 obtain⟨h0,h1,h5,l5,h7,bo,bu⟩:=hS;have uw:k=1\/k=2\/k=3\/k=4\/k=5\/k=6\/k=7\/k=8\/k=9\/k=10\/k=11:=by omega
 have hz:((s.aB.length:Int)==0)=false:=by have:=qs.2 hr;exact ff (by omega)
 unfold tB;refine κ.done .normal (fun z=>SS pm d r i c1 c2 c3 c4 s co out z/\z.mem=σ.mem/\z.e 8= .n (iO d s.aB.isEmpty k)) ?_ fun z hz=>⟨rfl,hz⟩;rcases uw with rfl|rfl|rfl|rfl|rfl|rfl|rfl|rfl|rfl|rfl|rfl<;>simp[SS,h0,h1,h5,l5,h7,bo,bu,h8,hd,hr,Ab,iJ,aZ,iO,hz]
theorem ahI(hk:1<=k/\k<=11)(hd:d≠5)(hr:s.aB=[])(hS:SS pm d r i c1 c2 c3 c4 s co out σ)(h8:σ.e 8= .n k):
  κ (C u).gl (ab (C u)) tB σ fun z=>z.1= .normal/\SS pm d r i c1 c2 c3 c4 s co out z.2/\z.2.mem=σ.mem/\aK z.2.env 8= .n (iO d s.aB.isEmpty k):=by
 obtain⟨h0,h1,h5,l5,h7,bo,bu⟩:=hS;have uw:k=1\/k=2\/k=3\/k=4\/k=5\/k=6\/k=7\/k=8\/k=9\/k=10\/k=11:=by omega
 unfold tB;refine κ.done .normal (fun z=>SS pm d r i c1 c2 c3 c4 s co out z/\z.mem=σ.mem/\z.e 8= .n (iO d s.aB.isEmpty k)) ?_ fun z hz=>⟨rfl,hz⟩;rcases uw with rfl|rfl|rfl|rfl|rfl|rfl|rfl|rfl|rfl|rfl|rfl<;>simp[SS,h0,h1,h5,l5,h7,bo,bu,h8,hd,ff hd,hr,Ab,iJ,aZ,iO]
theorem ahJ(hk:1<=k/\k<=11)(hd:d≠5)(hr:s.aB≠[])(hS:SS pm d r i c1 c2 c3 c4 s co out σ)(h8:σ.e 8= .n k):
  κ (C u).gl (ab (C u)) tB σ fun z=>z.1= .normal/\SS pm d r i c1 c2 c3 c4 s co out z.2/\z.2.mem=σ.mem/\aK z.2.env 8= .n (iO d s.aB.isEmpty k):=by
 obtain⟨h0,h1,h5,l5,h7,bo,bu⟩:=hS;have hz:((s.aB.length:Int)==0)=false:=by have:=qs.2 hr;exact ff (by omega)
 unfold tB;refine κ.done .normal (fun z=>SS pm d r i c1 c2 c3 c4 s co out z/\z.mem=σ.mem/\z.e 8= .n (iO d s.aB.isEmpty k)) ?_ fun z hz=>⟨rfl,hz⟩;simp[SS,h0,h1,h5,l5,h7,bo,bu,h8,hd,ff hd,hr,Ab,iJ,aZ,iO,hz]
theorem ahF(hk:1<=k/\k<=11)(hS:SS pm d r i c1 c2 c3 c4 s co out σ)(h8:σ.e 8= .n k):
  κ (C u).gl (ab (C u)) tB σ fun z=>z.1= .normal/\SS pm d r i c1 c2 c3 c4 s co out z.2/\z.2.mem=σ.mem/\aK z.2.env 8= .n (iO d s.aB.isEmpty k):=by
 by_cases hd:d=5<;>by_cases hr:s.aB=[]
 ·exact ahG hk hd hr hS h8
 ·exact ahH hk hd hr hS h8
 ·exact ahI hk hd hr hS h8
 ·exact ahJ hk hd hr hS h8
theorem ahE(hS:SS pm d r i c1 c2 c3 c4 s co out σ)(h8:σ.e 8= .n k)(Γ:σ.mem= {ε:=M,η:=T}):
  ∃σ',exec (C u).gl (ab (C u)) dN IQ σ=some (.normal,σ')/\SS pm d r i c1 c2 c3 c4 s co out σ'/\σ'.e 8= .n k/\σ'.e 9= .μ M.length 0/\σ'.mem= {ε:=M++[.cells (aT k 0 [] ω z4 z4 ω ω)],η:=T}:=by
 obtain⟨h0,h1,h5,l5,h7,bo,bu⟩:=hS;unfold IQ;simp[SS,h0,h1,h5,l5,h7,bo,bu,h8,Γ,newVar,dd,dk,Mem.push,Mem.put,Mem.ν,ν,cw,ba,Θ.lo,aT,z4,List.set_append_right,ρ.lo]
theorem ahL(hS:SS pm d r i c1 c2 c3 c4 s co out σ)(h8:σ.e 8= .n k)(h9:σ.e 9= .μ q 0)(Γ:σ.mem= {ε:=M,η:=T}):
  ∃σ',exec (C u).gl (ab (C u)) dN IE σ=some (.normal,σ')/\SS pm d r i c1 c2 c3 c4 s co out σ'/\(∃v,SI k q v c1 c2 c3 c4 s σ')/\σ'.mem= {ε:=M,η:=T}:=by
 obtain⟨h0,h1,h5,l5,h7,bo,bu⟩:=hS;unfold IE;generalize hw:bz (bQ σ.loc) 10=w;simp[SS,SI,h0,h1,h5,l5,h7,bo,bu,h8,h9,Γ,newVar,hw,Aa,iJ,dk]
theorem Jj(hm:pm<B.length)(hs:ps<B.length)(hS:SS pm d r i c1 c2 c3 c4 s co out σ)(hI:SI k q v e1 e2 e3 e4 s' σ)(Γ:σ.mem= {ε:=M,η:=T})(hM:MM B pm ps P c bs co lo st fr n x q L M T)(hL:L.length=14)(hn:ν (.agg L)= .agg L)(ho:out.all (shaped true 14)=true)(jN:lo=out.length)(dx:out.length<1000000):
  κ (C u).gl (ab (C u)) zD σ fun z=>z.1= .normal/\∃fp M',SS pm d r i c1 c2 c3 c4 s fp (out++[.agg L]) z.2/\z.2.mem= {ε:=M',η:=T}/\Kt B pm ps P c bs fp (lo+1) st fr n x M'/\fp.exp 0 false= .any:=by
 obtain⟨h0,h1,h5,l5,h7,bo,bu⟩:=hS;obtain⟨h8,h9,aw,l10⟩:=hI;subst jN;have dX:shaped true 14 (.agg L)=true:=by simp[shaped,hL]
 obtain⟨cc,N,dB,R,eG,hN⟩:=yw (bytes:=216) (v:= .agg L) (ag:=true) hM.kt.row hM.kt.len ho dX hn (by omega) (by omega) (by omega);have lL:L.take 14=L:=List.take_of_length_le (by omega);unfold zD;exact κ.done .normal (fun z=>SS pm d r i c1 c2 c3 c4 s cc (out++[.agg L]) z/\z.mem= {ε:=N,η:=T}) (by simp[SS,h0,h1,h5,l5,h7,bo,bu,h8,h9,aw,l10,Γ,hM.q2,hL,lL,dX,Mem.ν,hn,dB]) fun z ⟨z1,z2⟩=>⟨rfl,cc,N,z1,z2,hM.kt.app hm hs R hN,eG 0⟩
end
end Go.Θ.Tz
