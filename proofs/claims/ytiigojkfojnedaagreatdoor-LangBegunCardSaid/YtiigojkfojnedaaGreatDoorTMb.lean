import Derived.Test.YtiigojkfojnedaaGreatDoorTMa
set_option linter.all false
set_option maxRecDepth 100000
set_option maxHeartbeats 8000000
open List renaming drop->alO,length_pos_iff->mR,getElem?_map->nD,getElem?_eq_getElem->dN,getElem_mem->df,length_map->cF,map_append->jT,map_cons->aA,map_nil->aP,getElem?_set_ne->gR,mem_map->eT,map_map->dc,map_congr_left->dD,mem_append->dE,mem_singleton->fK,contains_iff_mem->xW
open Int renaming cast_ofNat_Int->uX
open Go.IntKind renaming wrap->bC
namespace Go.Δ.Tz
open Go.Δ
variable{u:Nat}
attribute [local simp] exec dT dG eR aH dr ff eH aI fA bQ gX ib iC iL lq KR KV KX KU KS KT wg iH rd wr gL single eU ef κ cH RV.get cJ fF jU qn
section
variable{c1 c2 c3 c4:ξ}{s:Sc}
theorem iI:(gJ c1 c2 c3 c4 s).length=4:=rfl
theorem zN:(gJ c1 c2 c3 c4 s).take 4=gJ c1 c2 c3 c4 s:=rfl
theorem zO:(gJ c1 c2 c3 c4 s).take 1=[aX c1 s.aB]:=rfl
theorem Jm:(gJ c1 c2 c3 c4 s).tail.take 1=[aX c2 s.cz]:=rfl
theorem zP:(alO 2 (gJ c1 c2 c3 c4 s)).take 1=[aX c3 s.bits]:=rfl
theorem Jn:(alO 3 (gJ c1 c2 c3 c4 s)).take 1=[aX c4 s.turns]:=rfl
theorem PF(c':ξ)(l:List (List Nat)):dd (gJ c1 c2 c3 c4 s) 0 [aX c' l]=gJ c' c2 c3 c4 ⟨l,s.cz,s.bits,s.turns⟩:=rfl
theorem XE(c':ξ)(l:List (List Nat)):dd (gJ c1 c2 c3 c4 s) 1 [aX c' l]=gJ c1 c' c3 c4 ⟨s.aB,l,s.bits,s.turns⟩:=rfl
theorem ajt(c':ξ)(l:List (List Nat)):dd (gJ c1 c2 c3 c4 s) 2 [aX c' l]=gJ c1 c2 c' c4 ⟨s.aB,s.cz,l,s.turns⟩:=rfl
theorem aju(c':ξ)(l:List (List Nat)):dd (gJ c1 c2 c3 c4 s) 3 [aX c' l]=gJ c1 c2 c3 c' ⟨s.aB,s.cz,s.bits,l⟩:=rfl
end
theorem cW.ti{ts:List (List Nat)}{k:Nat}{i:η}(h:cW ts k i)(m:Mem):i.four.map m.ν=i.four:=by have:=h.ry;simp only[ν,fM,AV.agg.injEq]at this;exact this
theorem cW.IM{ts:List (List Nat)}{k:Nat}{i:η}(h:cW ts k i)(q:Nat):bo q i.four=true:=by have:=h.fx;rw[η.iM]at this;have:bS i.four i.four:=⟨by simpa only[pf]using this.1,by simpa only[eC,AV.agg.injEq]using this.2⟩;exact this.bo q
theorem fj:z4.length=4:=by simp[z4]
section
variable{B:List θ}{pm ps:Nat}{P:AV}{c:ξ}{bs:List Nat}{co:ξ}{lo st fr n:Nat}{x:Int}{M:List θ}{q:Nat}{L:List AV}{T:List Nat}
theorem MM.at_(h:MM B pm ps P c bs co lo st fr n x q L M T)(A:List AV):(M.set q (.cells A))[q]?=some (.cells A):=by simp[h.qB]
theorem MM.zq(h:MM B pm ps P c bs co lo st fr n x q L M T):M[pm]?=some (.cells (bK ps P st fr)):=h.kt.ms.m
variable(hm:pm<B.length)(hs:ps<B.length)(τ:pm≠ps)(hb:bs.length<=300)
variable{d r i:Int}{c1 c2 c3 c4:ξ}{s:Sc}{out:List AV}{v:Nat}{e1 e2 e3 e4:ξ}{s':Sc}{σ:St}
include hm hs τ hb
theorem ae2(hS:SS pm d r i c1 c2 c3 c4 s co out σ)(hI:SI 2 q v e1 e2 e3 e4 s' σ)(Γ:σ.mem= {ε:=M,ζ:=T})(hM:MM B pm ps P c bs co lo st fr n x q (aR 2 0 [] ω z4 z4 ω ω) M T)(hn:n<3000000000000000000)(dI:fr<1000000):
  κ (C u).gl (ah (C u)) Iq σ fun z=>z.1= .normal/\∃x' n' M' ix,(n<=n'/\n'<=n+35)/\cW s.turns 4 ix/\SS pm d r i c1 c2 c3 c4 s co out z.2/\SI 2 q v e1 e2 e3 e4 s' z.2/\z.2.mem= {ε:=M',ζ:=T}/\MM B pm ps P c bs co lo st (fr+1) n' x' q (aR 2 0 (bR [113] (fr+1)) ω ix.four z4 ω ω) M' T:=by
 obtain⟨h0,h1,h5,l5,h7,ba,bj⟩:=hS;obtain⟨h8,h9,aC,l10⟩:=hI;have ns:=BN (u:=u) hM.kt.ms τ (by omega) [113] (by decide);have M1:=hM.ma hm τ st (fr+1);generalize M.set pm (.cells (bK ps P st (fr+1:Nat)))=N1 at ns M1;have HF:kK 4=35:=rfl;obtain⟨x2,n2,ix,b1,b2,b3,tz⟩:=JK (u:=u) M1.kt.ms τ hb c4 s.turns 4 (by omega) (by omega);have M2:=M1.draw hs τ n2 x2;generalize N1.set ps (.cells (aG c bs n2 x2))=N2 at tz M2;simp only[η.iM,uX]at tz;refine κ.done .normal (fun z=>SS pm d r i c1 c2 c3 c4 s co out z/\SI 2 q v e1 e2 e3 e4 s' z/\z.mem= {ε:=N2.set q (.cells (aR 2 0 (bR [113] (fr+1)) ω ix.four z4 ω ω)),ζ:=T}) (by
  unfold Iq
  simp[SS,SI,h0,h1,h5,l5,h7,ba,bj,h8,h9,aC,l10,Γ,ns,tz,M2.q2,M2.at_,iI,Jn,wG,KQ,ie,fj,η.fR,Mem.put,Mem.ν,ν,bo,Δ.lo,b3.ti,b3.IM,cZ,c8]) fun z ⟨z1,z2,z3⟩=>⟨rfl,x2,n2,_,ix,by omega,b3,z1,z2,z3,M2.cell hm hs _⟩
theorem aeY(hS:SS pm d r i c1 c2 c3 c4 s co out σ)(hI:SI 3 q v e1 e2 e3 e4 s' σ)(Γ:σ.mem= {ε:=M,ζ:=T})(hM:MM B pm ps P c bs co lo st fr n x q (aR 3 0 [] ω z4 z4 ω ω) M T)(hn:n<3000000000000000000)(hl:s.cz.length<1000000):
  κ (C u).gl (ah (C u)) DZ σ fun z=>(z.1= .exit 1/\SS pm d r i c1 c2 c3 c4 s co out z.2/\z.2.mem= {ε:=M,ζ:=T})\/z.1= .normal/\∃x' n' M' nm,(n<=n'/\n'<=n+1)/\nm∈s.cz/\SS pm d r i c1 c2 c3 c4 s co out z.2/\SI 3 q v e1 e2 e3 e4 s' z.2/\z.2.mem= {ε:=M',ζ:=T}/\MM B pm ps P c bs co lo st fr n' x' q (aR 3 0 nm ω z4 z4 ω ω) M' T:=by
 obtain⟨h0,h1,h5,l5,h7,ba,bj⟩:=hS;obtain⟨h8,h9,aC,l10⟩:=hI;by_cases pQ:s.cz=[]
 ·refine κ.done (.exit 1) (fun z=>SS pm d r i c1 c2 c3 c4 s co out z/\z.mem= {ε:=M,ζ:=T}) (by
   unfold DZ
   simp[SS,h0,h1,h5,l5,h7,ba,bj,h8,h9,aC,l10,Γ,iI,Jm,aX,pQ]) fun z ⟨z1,z2⟩=> .inl ⟨rfl,z1,z2⟩
 ·have jN:0<s.cz.length:=mR.2 pQ;obtain⟨x2,k,n2,b1,b2,b3,b4,-,kC⟩:=BO (u:=u) hM.kt.ms hb s.cz.length (by omega);have b4:=b4 (by omega);obtain⟨k,rfl⟩:∃j:Nat,k=j:=⟨k.toNat,by omega⟩;have hk:k<s.cz.length:=by omega
  have M2:=hM.draw hs τ n2 x2;generalize M.set ps (.cells (aG c bs n2 x2))=N2 at kC M2;have kN:(s.cz.map AV.str)[k]?=some (.str s.cz[k]):=by rw[nD,dN hk];rfl
  have vD:¬(s.cz.length:Int)=0:=by omega
  refine κ.done .normal (fun z=>SS pm d r i c1 c2 c3 c4 s co out z/\SI 3 q v e1 e2 e3 e4 s' z/\z.mem= {ε:=N2.set q (.cells (aR 3 0 s.cz[k] ω z4 z4 ω ω)),ζ:=T}) (by
   unfold DZ
   simp[SS,SI,h0,h1,h5,l5,h7,ba,bj,h8,h9,aC,l10,Γ,hM.zq,bK,kC,M2.q2,M2.at_,iI,Jm,aX,pQ,vD,b4,hk,wG,ie,fj,Mem.put,Mem.ν,ν,bo,Δ.lo,cZ,c8,eZ]) fun z ⟨z1,z2,z3⟩=> .inr ⟨rfl,x2,n2,_,s.cz[k],by omega,df hk,z1,z2,z3,M2.cell hm hs _⟩
theorem aeX(hS:SS pm d r i c1 c2 c3 c4 s co out σ)(hI:SI 6 q v e1 e2 e3 e4 s' σ)(Γ:σ.mem= {ε:=M,ζ:=T})(hM:MM B pm ps P c bs co lo st fr n x q (aR 6 0 [] ω z4 z4 ω ω) M T)(hn:n<2000000000000000000)(hr:s.aB≠[])(hl:s.aB.length<1000000):
  κ (C u).gl (ah (C u)) It σ fun z=>z.1= .normal/\∃x' n' M' p,(n<=n'/\n'<=n+72)/\fZ s.aB s.turns p/\SS pm d r i c1 c2 c3 c4 s co out z.2/\SI 6 q v e1 e2 e3 e4 s' z.2/\z.2.mem= {ε:=M',ζ:=T}/\MM B pm ps P c bs co lo st fr n' x' q (aR 6 0 [] (.list .full [p.av]) z4 z4 ω ω) M' T:=by
 obtain⟨h0,h1,h5,l5,h7,ba,bj⟩:=hS;obtain⟨h8,h9,aC,l10⟩:=hI;obtain⟨x2,n2,p,b1,b2,b3,tw⟩:=JJ (u:=u) hM.kt.ms τ hb c1 c2 c3 c4 s hr (by omega) (by omega);have M2:=hM.draw hs τ n2 x2;generalize M.set ps (.cells (aG c bs n2 x2))=N2 at tw M2;have hp:=b3.fx.ν;have jL:bo q [AV.list .full [p.av]]=true:=by have:=b3.fx.lo q;simp[bo,Δ.lo,ξ.lo,this]
 have ej:shaped true 2 p.av=true:=rfl;refine κ.done .normal (fun z=>SS pm d r i c1 c2 c3 c4 s co out z/\SI 6 q v e1 e2 e3 e4 s' z/\z.mem= {ε:=N2.set q (.cells (aR 6 0 [] (.list .full [p.av]) z4 z4 ω ω)),ζ:=T}) (by
  unfold It
  simp[SS,SI,h0,h1,h5,l5,h7,ba,bj,h8,h9,aC,l10,Γ,tw,M2.q2,M2.at_,iI,zN,FB,ie,fj,Mem.put,Mem.ν,ν,cL,hp,ej,jL]) fun z ⟨z1,z2,z3⟩=>⟨rfl,x2,n2,_,p,by omega,b3,z1,z2,z3,M2.cell hm hs _⟩
end
section
variable{B:List θ}{pm ps:Nat}{P:AV}{c:ξ}{bs:List Nat}{co:ξ}{lo st fr n:Nat}{x:Int}{M:List θ}{q:Nat}{L:List AV}{T:List Nat}
variable(hm:pm<B.length)(hs:ps<B.length)(τ:pm≠ps)(hb:bs.length<=300)
variable{d r i:Int}{c1 c2 c3 c4:ξ}{s:Sc}{out:List AV}{v:Nat}{σ:St}
theorem CT(cc:ξ)(l:List (List Nat))(hl:l.length<1000000)(hc:cc= .nil->l=[])(nm:List Nat)(hM:MM B pm ps P c bs co lo st fr n x q L M T)(hm:pm<B.length)(hs:ps<B.length):
  ∃c' M1 c2 M2,(∀T,kf u 29 [aX cc l] {ε:=M,ζ:=T}=some (aX c' l,{ε:=M1,ζ:=T}))/\M1[q]?=some (.cells L)/\(∀T,gA {ε:=M1,ζ:=T} false 1 16 9 (aX c' l) (.list .full [.str nm])=some (aX c2 (l++[nm]),{ε:=M2,ζ:=T}))/\MM B pm ps P c bs co lo st fr n x q L M2 T/\c2≠ .nil:=by
 obtain⟨c',M1,q1,r1,Hw⟩:=w29 (u:=u) (M:=M) cc l (by omega) hc B.length hM.kt.len;have J6:MM B pm ps P c bs co lo st fr n x q L M1 T:=by
  rcases Hw with rfl|rfl
  ·exact hM
  ·exact hM.push _
 obtain⟨c2,M2,q2,r2,-,CY⟩:=yi (bytes:=16) (pl:=l.map AV.str) (v:= .str nm) (ag:=false) (by rw[cF];exact r1) J6.kt.len (Jv l) rfl rfl (by omega) (by rw[cF];omega) (by rw[cF];omega);refine⟨c',M1,c2,M2,q1,J6.q2,fun T=>?_,J6.grow hm hs (sz:=1) (e:=9) (by decide) (by rw[cF]at CY;exact CY),fun h=>?_⟩
 ·simp only[aX,jT,aA,aP];exact q2 T
 ·rw[cF]at r2;rcases r2 with⟨_,h2⟩|⟨t,rfl,_⟩
  ·omega
  ·cases h
include hm hs τ hb
theorem aeV(hS:SS pm d r i c1 c2 c3 c4 s co out σ)(hI:SI 4 q v c1 c2 c3 c4 s σ)(Γ:σ.mem= {ε:=M,ζ:=T})(hM:MM B pm ps P c bs co lo st fr n x q (aR 4 0 [] ω z4 z4 ω ω) M T)(hn:n<3000000000000000000)(dI:fr<1000000)(hl:s.aB.length<1000000)(hc:c1= .nil->s.aB=[]):
  κ (C u).gl (ah (C u)) Ir σ fun z=>z.1= .normal/\∃x' n' M' ix c',(n<=n'/\n'<=n+35)/\cW s.turns 4 ix/\SS pm d r i c1 c2 c3 c4 s co out z.2/\SI 4 q v c' c2 c3 c4 (s.l_ (bR [114] (fr+1))) z.2/\c'≠ .nil/\z.2.mem= {ε:=M',ζ:=T}/\MM B pm ps P c bs co lo st (fr+1) n' x' q (aR 4 0 (bR [114] (fr+1)) ω ix.four z4 ω ω) M' T:=by
 obtain⟨h0,h1,h5,l5,h7,ba,bj⟩:=hS;obtain⟨h8,h9,aC,l10⟩:=hI;have ns:=BN (u:=u) hM.kt.ms τ (by omega) [114] (by decide);have M1:=hM.ma hm τ st (fr+1);generalize M.set pm (.cells (bK ps P st (fr+1:Nat)))=N1 at ns M1;have HF:kK 4=35:=rfl;obtain⟨x2,n2,ix,b1,b2,b3,tz⟩:=JK (u:=u) M1.kt.ms τ hb c4 s.turns 4 (by omega) (by omega);have M2:=M1.draw hs τ n2 x2;generalize N1.set ps (.cells (aG c bs n2 x2))=N2 at tz M2;simp only[η.iM,uX]at tz;generalize jW:bR [114] (fr+1)=nm at*;have M3:=M2.cell hm hs (aR 4 0 nm ω ix.four z4 ω ω);unfold Ir;refine Θ (fun z=>SS pm d r i c1 c2 c3 c4 s co out z/\SI 4 q v c1 c2 c3 c4 s z/\z.mem= {ε:=N2.set q (.cells (aR 4 0 nm ω ix.four z4 ω ω)),ζ:=T}) (by simp[SS,SI,h0,h1,h5,l5,h7,ba,bj,h8,h9,aC,l10,Γ,ns,tz,M2.q2,M2.at_,iI,Jn,wG,KQ,ie,fj,η.fR,Mem.put,Mem.ν,ν,bo,Δ.lo,b3.ti,b3.IM,cZ,c8]) fun z ⟨⟨h0,h1,h5,l5,h7,ba,bj⟩,⟨h8,h9,aC,l10⟩,Γ⟩=>?_;generalize N2.set q (.cells (aR 4 0 nm ω ix.four z4 ω ω))=N3 at M3 Γ;obtain⟨c',N4,cc,N5,Pu,NH,dO,M5,eD⟩:=CT (u:=u) c1 s.aB hl hc nm M3 hm hs;refine κ.done .normal (fun z=>SS pm d r i c1 c2 c3 c4 s co out z/\SI 4 q v cc c2 c3 c4 (s.l_ nm) z/\z.mem= {ε:=N5,ζ:=T}) (by simp[SS,SI,h0,h1,h5,l5,h7,ba,bj,h8,h9,aC,l10,Γ,Pu,NH,dO,M3.q2,iI,zO,PF,Cq,ie,fj,η.fR,Mem.ν,ν,shaped,AV.one,wg,cZ,c8,nO,Sc.l_]) fun z ⟨z1,z2,z3⟩=>⟨rfl,x2,n2,_,ix,_,by omega,b3,z1,z2,eD,z3,M5⟩
theorem ae1(hS:SS pm d r i c1 c2 c3 c4 s co out σ)(hI:SI 8 q v c1 c2 c3 c4 s σ)(Γ:σ.mem= {ε:=M,ζ:=T})(hM:MM B pm ps P c bs co lo st fr n x q (aR 8 0 [] ω z4 z4 ω ω) M T)(hn:n<3000000000000000000)(dI:fr<1000000)(hl:s.turns.length<1000000)(hc:c4= .nil->s.turns=[]):
  κ (C u).gl (ah (C u)) Iu σ fun z=>z.1= .normal/\∃x' n' M' ix iy c',(n<=n'/\n'<=n+30)/\cW s.turns 3 ix/\cW s.turns 3 iy/\SS pm d r i c1 c2 c3 c4 s co out z.2/\SI 8 q v c1 c2 c3 c' (s.dR (bR [105] (fr+1))) z.2/\c'≠ .nil/\z.2.mem= {ε:=M',ζ:=T}/\MM B pm ps P c bs co lo st (fr+1) n' x' q (aR 8 0 (bR [105] (fr+1)) ω ix.four iy.four ω ω) M' T:=by
 obtain⟨h0,h1,h5,l5,h7,ba,bj⟩:=hS;obtain⟨h8,h9,aC,l10⟩:=hI;have ns:=BN (u:=u) hM.kt.ms τ (by omega) [105] (by decide);have M1:=hM.ma hm τ st (fr+1);generalize M.set pm (.cells (bK ps P st (fr+1:Nat)))=N1 at ns M1;have MJ:kK 3=15:=rfl;obtain⟨x2,n2,ix,b1,b2,b3,tz⟩:=JK (u:=u) M1.kt.ms τ hb c4 s.turns 3 (by omega) (by omega);have M2:=M1.draw hs τ n2 x2;generalize N1.set ps (.cells (aG c bs n2 x2))=N2 at tz M2;obtain⟨x3,n3,iy,d1,d2,d3,Pw⟩:=JK (u:=u) M2.kt.ms τ hb c4 s.turns 3 (by omega) (by omega);have M3:=M2.draw hs τ n3 x3;generalize N2.set ps (.cells (aG c bs n3 x3))=N3 at Pw M3;simp only[η.iM,uX]at tz Pw;generalize jW:bR [105] (fr+1)=nm at*;have M4:=M3.cell hm hs (aR 8 0 nm ω ix.four iy.four ω ω);unfold Iu;refine Θ (fun z=>SS pm d r i c1 c2 c3 c4 s co out z/\SI 8 q v c1 c2 c3 c4 s z/\z.mem= {ε:=N3.set q (.cells (aR 8 0 nm ω ix.four iy.four ω ω)),ζ:=T}) (by simp[SS,SI,h0,h1,h5,l5,h7,ba,bj,h8,h9,aC,l10,Γ,ns,tz,Pw,M3.q2,M3.at_,iI,Jn,wG,KQ,ZZ,ie,fj,η.fR,Mem.put,Mem.ν,ν,bo,Δ.lo,b3.ti,b3.IM,d3.ti,d3.IM,cZ,c8]) fun z ⟨⟨h0,h1,h5,l5,h7,ba,bj⟩,⟨h8,h9,aC,l10⟩,Γ⟩=>?_;generalize N3.set q (.cells (aR 8 0 nm ω ix.four iy.four ω ω))=N4 at M4 Γ;obtain⟨c',N5,cc,N6,Pu,NH,dO,M6,eD⟩:=CT (u:=u) c4 s.turns hl hc nm M4 hm hs;refine κ.done .normal (fun z=>SS pm d r i c1 c2 c3 c4 s co out z/\SI 8 q v c1 c2 c3 cc (s.dR nm) z/\z.mem= {ε:=N6,ζ:=T}) (by simp[SS,SI,h0,h1,h5,l5,h7,ba,bj,h8,h9,aC,l10,Γ,Pu,NH,dO,M4.q2,iI,Jn,aju,Cq,ie,fj,η.fR,Mem.ν,ν,shaped,AV.one,wg,cZ,c8,nO,Sc.dR]) fun z ⟨z1,z2,z3⟩=>⟨rfl,x3,n3,_,ix,iy,_,by omega,b3,d3,z1,z2,eD,z3,M6⟩
theorem ae3{e1 e2 e3 e4:ξ}{s':Sc}(hS:SS pm d r i c1 c2 c3 c4 s co out σ)(hI:SI 7 q v e1 e2 e3 e4 s' σ)(Γ:σ.mem= {ε:=M,ζ:=T})(hM:MM B pm ps P c bs co lo st fr n x q (aR 7 0 [] ω z4 z4 ω ω) M T)(hn:n<3000000000000000000)(hl:s.bits.length<1000000):
  κ (C u).gl (ah (C u)) D0 σ fun z=>(z.1= .exit 1/\SS pm d r i c1 c2 c3 c4 s co out z.2/\z.2.mem= {ε:=M,ζ:=T})\/z.1= .normal/\∃x' n' M' nm,(n<=n'/\n'<=n+1)/\nm∈s.bits/\SS pm d r i c1 c2 c3 c4 s co out z.2/\SI 7 q v e1 e2 e3 e4 s' z.2/\z.2.mem= {ε:=M',ζ:=T}/\MM B pm ps P c bs co lo st fr n' x' q (aR 7 0 nm ω z4 z4 ω ω) M' T:=by
 obtain⟨h0,h1,h5,l5,h7,ba,bj⟩:=hS;obtain⟨h8,h9,aC,l10⟩:=hI;by_cases pQ:s.bits=[]
 ·refine κ.done (.exit 1) (fun z=>SS pm d r i c1 c2 c3 c4 s co out z/\z.mem= {ε:=M,ζ:=T}) (by
   unfold D0
   simp[SS,h0,h1,h5,l5,h7,ba,bj,h8,h9,aC,l10,Γ,iI,zP,aX,pQ]) fun z ⟨z1,z2⟩=> .inl ⟨rfl,z1,z2⟩
 ·have jN:0<s.bits.length:=mR.2 pQ;obtain⟨x2,k,n2,b1,b2,b3,b4,-,kC⟩:=BO (u:=u) hM.kt.ms hb s.bits.length (by omega);have b4:=b4 (by omega);obtain⟨k,rfl⟩:∃j:Nat,k=j:=⟨k.toNat,by omega⟩;have hk:k<s.bits.length:=by omega
  have M2:=hM.draw hs τ n2 x2;generalize M.set ps (.cells (aG c bs n2 x2))=N2 at kC M2;have kN:(s.bits.map AV.str)[k]?=some (.str s.bits[k]):=by rw[nD,dN hk];rfl
  have vD:¬(s.bits.length:Int)=0:=by omega
  refine κ.done .normal (fun z=>SS pm d r i c1 c2 c3 c4 s co out z/\SI 7 q v e1 e2 e3 e4 s' z/\z.mem= {ε:=N2.set q (.cells (aR 7 0 s.bits[k] ω z4 z4 ω ω)),ζ:=T}) (by
   unfold D0
   simp[SS,SI,h0,h1,h5,l5,h7,ba,bj,h8,h9,aC,l10,Γ,hM.zq,bK,kC,M2.q2,M2.at_,iI,zP,aX,pQ,vD,b4,hk,wG,ie,fj,Mem.put,Mem.ν,ν,bo,Δ.lo,cZ,c8,eZ]) fun z ⟨z1,z2,z3⟩=> .inr ⟨rfl,x2,n2,_,s.bits[k],by omega,df hk,z1,z2,z3,M2.cell hm hs _⟩
theorem ae0{e1 e2 e3 e4:ξ}{s':Sc}(hS:SS pm d r i c1 c2 c3 c4 s co out σ)(hI:SI 5 q v e1 e2 e3 e4 s' σ)(Γ:σ.mem= {ε:=M,ζ:=T})(hM:MM B pm ps P c bs co lo st fr n x q (aR 5 0 [] ω z4 z4 ω ω) M T)(hn:n<2000000000000000000)(dI:fr<1000000)(hl:s.bits.length<1000000)(hr:s.aB≠[])(H_:s.aB.length<1000000):
  κ (C u).gl (ah (C u)) Is σ fun z=>z.1= .normal/\∃x' n' M' p nm,(n<=n'/\n'<=n+74)/\fZ s.aB s.turns p/\(nm=bR [98] (fr+1)\/nm∈s.bits)/\SS pm d r i c1 c2 c3 c4 s co out z.2/\SI 5 q v e1 e2 e3 e4 s' z.2/\z.2.mem= {ε:=M',ζ:=T}/\MM B pm ps P c bs co lo st (fr+1) n' x' q (aR 5 0 nm (.list .full [p.av]) z4 z4 ω ω) M' T:=by
 obtain⟨h0,h1,h5,l5,h7,ba,bj⟩:=hS;obtain⟨h8,h9,aC,l10⟩:=hI;obtain⟨x2,n2,p,b1,b2,b3,tw⟩:=JJ (u:=u) hM.kt.ms τ hb c1 c2 c3 c4 s hr (by omega) (by omega);have M1:=hM.draw hs τ n2 x2;generalize M.set ps (.cells (aG c bs n2 x2))=N1 at tw M1;have ns:=BN (u:=u) M1.kt.ms τ (by omega) [98] (by decide);have M2:=M1.ma hm τ st (fr+1);generalize N1.set pm (.cells (bK ps P st (fr+1:Nat)))=N2 at ns M2;generalize jW:bR [98] (fr+1)=nm at*;have hp:=b3.fx.ν;have jL:bo q [AV.list .full [p.av]]=true:=by have:=b3.fx.lo q;simp[bo,Δ.lo,ξ.lo,this]
 have ej:shaped true 2 p.av=true:=rfl;have M3:=M2.cell hm hs (aR 5 0 nm (.list .full [p.av]) z4 z4 ω ω);unfold Is;refine Θ (fun z=>SS pm d r i c1 c2 c3 c4 s co out z/\SI 5 q v e1 e2 e3 e4 s' z/\z.mem= {ε:=N2.set q (.cells (aR 5 0 nm (.list .full [p.av]) z4 z4 ω ω)),ζ:=T}) (by simp[SS,SI,h0,h1,h5,l5,h7,ba,bj,h8,h9,aC,l10,Γ,tw,ns,M2.q2,M2.at_,iI,zN,wG,FB,ie,fj,Mem.put,Mem.ν,ν,cL,hp,ej,jL,bo,Δ.lo]) fun z ⟨⟨h0,h1,h5,l5,h7,ba,bj⟩,⟨h8,h9,aC,l10⟩,Γ⟩=>?_;generalize N2.set q (.cells (aR 5 0 nm (.list .full [p.av]) z4 z4 ω ω))=N3 at M3 Γ;refine Θ (fun z=>∃x' n' N t,(n2<=n'/\n'<=n2+1/\(t=true->s.bits≠[]))/\MM B pm ps P c bs co lo st (fr+1) n' x' q (aR 5 0 nm (.list .full [p.av]) z4 z4 ω ω) N T/\SS pm d r i c1 c2 c3 c4 s co out z/\SI 5 q v e1 e2 e3 e4 s' z/\z.mem= {ε:=N,ζ:=T}/\z.e 171= .bool t) ?_ fun z ⟨x',n',N4,t,⟨g1,g2,g3⟩,M4,⟨h0,h1,h5,l5,h7,ba,bj⟩,⟨h8,h9,aC,l10⟩,Γ,Tv⟩=>?_
 ·by_cases pQ:s.bits=[]
  ·exact wM (P:=fun z=>SS pm d r i c1 c2 c3 c4 s co out z/\SI 5 q v e1 e2 e3 e4 s' z/\z.mem= {ε:=N3,ζ:=T}/\z.e 171= .bool false) (by simp[SS,SI,h0,h1,h5,l5,h7,ba,bj,h8,h9,aC,l10,Γ,iI,zP,aX,pQ]) fun z hz=>⟨x2,n2,N3,false,⟨Nat.le_refl _,by omega,fun h=>(by cases h)⟩,M3,hz⟩
  ·have jN:0<s.bits.length:=mR.2 pQ;obtain⟨x3,t,n3,d1,d2,Xe⟩:=aj' (u:=u) M3.kt.ms hb 3 (by omega);have M4:=M3.draw hs τ n3 x3;generalize N3.set ps (.cells (aG c bs n3 x3))=N4 at Xe M4;exact wM (P:=fun z=>SS pm d r i c1 c2 c3 c4 s co out z/\SI 5 q v e1 e2 e3 e4 s' z/\z.mem= {ε:=N4,ζ:=T}/\z.e 171= .bool t) (by simp[SS,SI,h0,h1,h5,l5,h7,ba,bj,h8,h9,aC,l10,Γ,iI,zP,aX,jN,M3.zq,bK,Xe]) fun z hz=>⟨x3,n3,N4,t,⟨d1,d2,fun _=>pQ⟩,M4,hz⟩
 ·cases t with
  |false=>refine κ.no (by simp[Tv]) (κ.done .normal (fun z=>SS pm d r i c1 c2 c3 c4 s co out z/\SI 5 q v e1 e2 e3 e4 s' z/\z.mem= {ε:=N4,ζ:=T}) (by simp[SS,SI,h0,h1,h5,l5,h7,ba,bj,h8,h9,aC,l10,Γ]) fun z ⟨z1,z2,z3⟩=>⟨rfl,x',n',_,p,nm,by omega,b3,.inl rfl,z1,z2,z3,M4⟩)
  |true=>
   have pQ:=g3 rfl
   have jN:0<s.bits.length:=mR.2 pQ;obtain⟨x5,k,n5,d1,d2,d3,d4,-,kC⟩:=BO (u:=u) M4.kt.ms hb s.bits.length (by omega);have d4:=d4 (by omega);obtain⟨k,rfl⟩:∃j:Nat,k=j:=⟨k.toNat,by omega⟩;have hk:k<s.bits.length:=by omega
   have M5:=M4.draw hs τ n5 x5;generalize N4.set ps (.cells (aG c bs n5 x5))=N5 at kC M5;have kN:(s.bits.map AV.str)[k]?=some (.str s.bits[k]):=by rw[nD,dN hk];rfl
   refine κ.yes (by simp[Tv]) (κ.done .normal (fun z=>SS pm d r i c1 c2 c3 c4 s co out z/\SI 5 q v e1 e2 e3 e4 s' z/\z.mem= {ε:=N5.set q (.cells (aR 5 0 s.bits[k] (.list .full [p.av]) z4 z4 ω ω)),ζ:=T}) (by simp[SS,SI,h0,h1,h5,l5,h7,ba,bj,h8,h9,aC,l10,Γ,M4.zq,bK,kC,M5.q2,M5.at_,iI,zP,aX,pQ,d4,hk,wG,ie,fj,Mem.put,Mem.ν,ν,bo,Δ.lo,cZ,c8,eZ]) fun z ⟨z1,z2,z3⟩=>⟨rfl,x5,n5,_,p,s.bits[k],by omega,b3,.inr (df hk),z1,z2,z3,M5.cell hm hs _⟩)
end
theorem aaB{v:AV}{t:List Nat}(h:eC v= .str t):v= .str t:=by cases v<;>simp[eC]at h;rw[h]
theorem aaA{v:AV}{c:ξ}{l:List AV}(h:eC v= .list c l):∃c' l',v= .list c' l'/\l'.length=l.length:=by cases v<;>simp[eC]at h;rename_i c' l';exact⟨c',l',rfl,by rw[<-h.2,Cy];simp⟩
theorem aaz{v:AV}{l:List AV}(h:eC v= .agg l):∃l',v= .agg l'/\l'.map eC=l:=by cases v<;>simp[eC]at h;rename_i l';exact⟨l',rfl,by rw[<-h,Cy]⟩
theorem ah5{Ps:List AV}{l:List φ}(h:bS Ps (l.map φ.av)){j:Nat}(hj:j<l.length):∃c' l' b',Ps[j]?=some (.agg [.str l[j].name,.list c' l',b'])/\l'.length=l[j].aq.length:=by
 have hlen:=h.len;rw[cF]at hlen;have UB:j<Ps.length:=by omega
 have e:eC Ps[j]=φ.av l[j]:=by have h2:=h.2;rw[Cy]at h2;have:=congrArg (fun k=>k[j]?) h2;simpa[hj,UB]using this
 obtain⟨A,hA,e⟩:=aaz e;have hl:A.length=3:=by have:=congrArg List.length e;simpa using this
 obtain⟨a,b,d,rfl⟩:∃a b d,A=[a,b,d]:=by
  match A,hl with
  |[a,b,d],_=>exact⟨a,b,d,rfl⟩
 simp only[aA,aP,List.cons.injEq,and_true]at e;obtain⟨c',l',rfl,sS⟩:=aaA e.2.1;refine⟨c',l',d,?_,by rw[sS];simp⟩;rw[dN UB,hA,aaB e.1]
section
variable{B:List θ}{pm ps:Nat}{P:AV}{c:ξ}{bs:List Nat}{co:ξ}{lo st fr n:Nat}{x:Int}{M:List θ}{q:Nat}{L:List AV}{T:List Nat}
theorem zI{N:Nat}{sz:Nat}{e:TypeId}{cp:ξ}{k:Nat}(h:Go.Δ.Row N M sz e cp k)(ms:MS pm ps P c bs st fr n x M)(b:θ):Go.Δ.Row N (M.set ps b) sz e cp k:=
 h.bm fun t k ht=>by
  have:ps≠t:=fun e=>by rw[<-e,ms.s]at ht;cases ht
  rw[gR this];exact ht
theorem PB{N:Nat}{sz:Nat}{e:TypeId}{cp:ξ}{k:Nat}(h:Go.Δ.Row N M sz e cp k){q:Nat}{L:List AV}(hq:M[q]?=some (.cells L))(b:θ):Go.Δ.Row N (M.set q b) sz e cp k:=
 h.bm fun t k ht=>by
  have:q≠t:=fun e=>by rw[<-e,hq]at ht;cases ht
  rw[gR this];exact ht
theorem W0(l:List ρ):(l.map ρ.av).all (shaped true 2)=true:=by rw[List.all_eq_true];intro y hy;obtain⟨p,-,rfl⟩:=eT.1 hy;rfl
variable(hm:pm<B.length)(hs:ps<B.length)(τ:pm≠ps)(hb:bs.length<=300)
variable{d r i:Int}{c1 c2 c3 c4:ξ}{s:Sc}{out:List AV}{v:Nat}{e1 e2 e3 e4:ξ}{s':Sc}{σ:St}
include hm hs τ hb
theorem ahH{k g:Int}{nm:List Nat}(m:Nat)(acr:m<=20)(hS:SS pm d r i c1 c2 c3 c4 s co out σ)(hI:SI k q v e1 e2 e3 e4 s' σ)(vg:σ.e 92= .n (m:Int))(vh:σ.e 93= .n 0)(Γ:σ.mem= {ε:=M,ζ:=T})(hM:MM B pm ps P c bs co lo st fr n x q (aR k g nm ω z4 z4 ω ω) M T)(hn:n<2000000000000000000)(hr:s.aB≠[])(hl:s.aB.length<1000000):
  κ (C u).gl (ah (C u)) (.block 3 (.loop Oo)) σ fun z=>z.1= .normal/\∃x' n' M' T' cp,∃l:List ρ,(n<=n'/\n'<=n+72*m)/\l.length=m/\(∀p∈l,fZ s.aB s.turns p)/\SS pm d r i c1 c2 c3 c4 s co out z.2/\SI k q v e1 e2 e3 e4 s' z.2/\z.2.mem= {ε:=M',ζ:=T'}/\MM B pm ps P c bs co lo st fr n' x' q (aR k g nm (.list cp (l.map ρ.av)) z4 z4 ω ω) M' T'/\cp.exp 0 false=Φ l:=by
 let I:Nat->St->Prop:=fun j z=>∃x' n' M' T' cp,∃l:List ρ,(n<=n'/\n'<=n+72*j)/\l.length=j/\(∀p∈l,fZ s.aB s.turns p)/\SS pm d r i c1 c2 c3 c4 s co out z/\SI k q v e1 e2 e3 e4 s' z/\z.mem= {ε:=M',ζ:=T'}/\MM B pm ps P c bs co lo st fr n' x' q (aR k g nm (.list cp (l.map ρ.av)) z4 z4 ω ω) M' T'/\Go.Δ.Row B.length M' 2 74 cp l.length/\cp.exp 0 false=Φ l/\z.e 92= .n (m:Int)/\z.e 93= .n (j:Int);refine κ.block (κ.kD (I:=I) m ⟨x,n,M,T,.nil,[],by omega,rfl,by simp,hS,hI,Γ,hM,Go.Δ.Row.nil,rfl,vg,by simpa using vh⟩ fun j z hj ⟨x',n',M',T',cp,l,l1,l2,l3,hS,hI,Γ,hM,hR,mE,vg,vh⟩=>?_);obtain⟨h0,h1,h5,l5,h7,ba,bj⟩:=hS;obtain⟨h8,h9,aC,l10⟩:=hI;unfold Oo;by_cases yU:j<m
 ·have lL:(j:Int)<m:=by omega
  have nQ:bC .i64 ((j:Int)+1)=(j:Int)+1:=wrap_i64 (by omega) (by omega);obtain⟨x2,n2,p,b1,b2,b3,tw⟩:=JJ (u:=u) hM.kt.ms τ hb c1 c2 c3 c4 s hr (by omega) (by omega);have M2:=hM.draw hs τ n2 x2;have R2:=zI hR hM.kt.ms (.cells (aG c bs n2 x2));generalize M'.set ps (.cells (aG c bs n2 x2))=N2 at tw M2 R2;have hp:=b3.fx.ν;have ej:shaped true 2 p.av=true:=rfl;obtain⟨cc,N3,dO,R3,eD,yH⟩:=yi (bytes:=40) (pl:=l.map ρ.av) (v:=p.av) (ag:=true) (by rw[cF];exact R2) M2.kt.len (W0 l) ej hp (by omega) (by rw[cF];omega) (by rw[cF];omega);have M3:=M2.grow hm hs (sz:=2) (e:=74) (by decide) yH;have M4:=(M3.cell hm hs (aR k g nm (.list cc (l.map ρ.av++[p.av])) z4 z4 ω ω)).EP (bo q [AV.list cc (l.map ρ.av++[p.av])]);have R4:=PB R3 M3.q2 (.cells (aR k g nm (.list cc (l.map ρ.av++[p.av])) z4 z4 ω ω));have eK:cL (l.map ρ.av++[p.av])=l.map ρ.av++[p.av]:=by rw[fM,jT,dc,aA,aP,hp];congr 1;exact dD fun y hy=>(l3 y hy).fx.ν
  refine κ.done .normal (fun z=>SS pm d r i c1 c2 c3 c4 s co out z/\SI k q v e1 e2 e3 e4 s' z/\z.mem= {ε:=N3.set q (.cells (aR k g nm (.list cc (l.map ρ.av++[p.av])) z4 z4 ω ω)),ζ:=if bo q [AV.list cc (l.map ρ.av++[p.av])]=true then T' else q::T'}/\z.e 92= .n (m:Int)/\z.e 93= .n ((j:Int)+1)) (by simp[SS,SI,h0,h1,h5,l5,h7,ba,bj,h8,h9,aC,l10,vg,vh,lL,yU,nQ,Γ,tw,hM.q2,M2.q2,M3.q2,M3.at_,iI,zN,R9,FB,ie,fj,dO,Mem.put,Mem.ν,ν,eK,hp,ej,cZ,c8,nO]) fun z ⟨z1,z2,z3,z4,z5⟩=> .inl ⟨rfl,yU,x2,n2,_,_,cc,l++[p],by omega,by simp[l2],?_,z1,z2,z3,?_,?_,(by rw[eD];cases l<;>rfl),z4,by rw[z5];simp⟩
  ·intro y hy;rcases dE.1 hy with hy|hy
   ·exact l3 y hy
   ·rw[fK.1 hy];exact b3
  ·simpa using M4
  ·simpa using R4
 ·have lL:¬(j:Int)<m:=by omega
  obtain rfl:j=m:=by omega
  exact κ.done (.exit 3) (fun z=>SS pm d r i c1 c2 c3 c4 s co out z/\SI k q v e1 e2 e3 e4 s' z/\z.mem= {ε:=M',ζ:=T'}) (by simp[SS,SI,h0,h1,h5,l5,h7,ba,bj,h8,h9,aC,l10,vg,vh,Γ]) fun z ⟨z1,z2,z3⟩=> .inr ⟨by simp,.inl ⟨rfl,rfl,x',n',M',T',cp,l,l1,l2,l3,z1,z2,z3,hM,mE⟩⟩
theorem ahI{k g:Int}{nm:List Nat}(m:Nat)(acr:m<=20)(hS:SS pm d r i c1 c2 c3 c4 s co out σ)(hI:SI k q v e1 e2 e3 e4 s' σ)(vg:σ.e 266= .n (m:Int))(vh:σ.e 267= .n 0)(Γ:σ.mem= {ε:=M,ζ:=T})(hM:MM B pm ps P c bs co lo st fr n x q (aR k g nm ω z4 z4 ω ω) M T)(hn:n<2000000000000000000)(hr:s.aB≠[])(hl:s.aB.length<1000000):
  κ (C u).gl (ah (C u)) (.block 5 (.loop Oq)) σ fun z=>z.1= .normal/\∃x' n' M' T' cp,∃l:List ρ,(n<=n'/\n'<=n+72*m)/\l.length=m/\(∀p∈l,fZ s.aB s.turns p)/\SS pm d r i c1 c2 c3 c4 s co out z.2/\SI k q v e1 e2 e3 e4 s' z.2/\z.2.mem= {ε:=M',ζ:=T'}/\MM B pm ps P c bs co lo st fr n' x' q (aR k g nm (.list cp (l.map ρ.av)) z4 z4 ω ω) M' T'/\cp.exp 0 false=Φ l:=by
 let I:Nat->St->Prop:=fun j z=>∃x' n' M' T' cp,∃l:List ρ,(n<=n'/\n'<=n+72*j)/\l.length=j/\(∀p∈l,fZ s.aB s.turns p)/\SS pm d r i c1 c2 c3 c4 s co out z/\SI k q v e1 e2 e3 e4 s' z/\z.mem= {ε:=M',ζ:=T'}/\MM B pm ps P c bs co lo st fr n' x' q (aR k g nm (.list cp (l.map ρ.av)) z4 z4 ω ω) M' T'/\Go.Δ.Row B.length M' 2 74 cp l.length/\cp.exp 0 false=Φ l/\z.e 266= .n (m:Int)/\z.e 267= .n (j:Int);refine κ.block (κ.kD (I:=I) m ⟨x,n,M,T,.nil,[],by omega,rfl,by simp,hS,hI,Γ,hM,Go.Δ.Row.nil,rfl,vg,by simpa using vh⟩ fun j z hj ⟨x',n',M',T',cp,l,l1,l2,l3,hS,hI,Γ,hM,hR,mE,vg,vh⟩=>?_);obtain⟨h0,h1,h5,l5,h7,ba,bj⟩:=hS;obtain⟨h8,h9,aC,l10⟩:=hI;unfold Oq;by_cases yU:j<m
 ·have lL:(j:Int)<m:=by omega
  have nQ:bC .i64 ((j:Int)+1)=(j:Int)+1:=wrap_i64 (by omega) (by omega);obtain⟨x2,n2,p,b1,b2,b3,tw⟩:=JJ (u:=u) hM.kt.ms τ hb c1 c2 c3 c4 s hr (by omega) (by omega);have M2:=hM.draw hs τ n2 x2;have R2:=zI hR hM.kt.ms (.cells (aG c bs n2 x2));generalize M'.set ps (.cells (aG c bs n2 x2))=N2 at tw M2 R2;have hp:=b3.fx.ν;have ej:shaped true 2 p.av=true:=rfl;obtain⟨cc,N3,dO,R3,eD,yH⟩:=yi (bytes:=40) (pl:=l.map ρ.av) (v:=p.av) (ag:=true) (by rw[cF];exact R2) M2.kt.len (W0 l) ej hp (by omega) (by rw[cF];omega) (by rw[cF];omega);have M3:=M2.grow hm hs (sz:=2) (e:=74) (by decide) yH;have M4:=(M3.cell hm hs (aR k g nm (.list cc (l.map ρ.av++[p.av])) z4 z4 ω ω)).EP (bo q [AV.list cc (l.map ρ.av++[p.av])]);have R4:=PB R3 M3.q2 (.cells (aR k g nm (.list cc (l.map ρ.av++[p.av])) z4 z4 ω ω));have eK:cL (l.map ρ.av++[p.av])=l.map ρ.av++[p.av]:=by rw[fM,jT,dc,aA,aP,hp];congr 1;exact dD fun y hy=>(l3 y hy).fx.ν
  refine κ.done .normal (fun z=>SS pm d r i c1 c2 c3 c4 s co out z/\SI k q v e1 e2 e3 e4 s' z/\z.mem= {ε:=N3.set q (.cells (aR k g nm (.list cc (l.map ρ.av++[p.av])) z4 z4 ω ω)),ζ:=if bo q [AV.list cc (l.map ρ.av++[p.av])]=true then T' else q::T'}/\z.e 266= .n (m:Int)/\z.e 267= .n ((j:Int)+1)) (by simp[SS,SI,h0,h1,h5,l5,h7,ba,bj,h8,h9,aC,l10,vg,vh,lL,yU,nQ,Γ,tw,hM.q2,M2.q2,M3.q2,M3.at_,iI,zN,R9,FB,ie,fj,dO,Mem.put,Mem.ν,ν,eK,hp,ej,cZ,c8,nO]) fun z ⟨z1,z2,z3,z4,z5⟩=> .inl ⟨rfl,yU,x2,n2,_,_,cc,l++[p],by omega,by simp[l2],?_,z1,z2,z3,?_,?_,(by rw[eD];cases l<;>rfl),z4,by rw[z5];simp⟩
  ·intro y hy;rcases dE.1 hy with hy|hy
   ·exact l3 y hy
   ·rw[fK.1 hy];exact b3
  ·simpa using M4
  ·simpa using R4
 ·have lL:¬(j:Int)<m:=by omega
  obtain rfl:j=m:=by omega
  exact κ.done (.exit 5) (fun z=>SS pm d r i c1 c2 c3 c4 s co out z/\SI k q v e1 e2 e3 e4 s' z/\z.mem= {ε:=M',ζ:=T'}) (by simp[SS,SI,h0,h1,h5,l5,h7,ba,bj,h8,h9,aC,l10,vg,vh,Γ]) fun z ⟨z1,z2,z3⟩=> .inr ⟨by simp,.inl ⟨rfl,rfl,x',n',M',T',cp,l,l1,l2,l3,z1,z2,z3,hM,mE⟩⟩
theorem aeZ(hS:SS pm d r i c1 c2 c3 c4 s co out σ)(hI:SI 1 q v e1 e2 e3 e4 s' σ)(Γ:σ.mem= {ε:=M,ζ:=T})(hM:MM B pm ps P c bs co lo st fr n x q (aR 1 0 [] ω z4 z4 ω ω) M T)(hn:n<1000000000000000000)(hr:s.aB≠[])(hl:s.aB.length<1000000):
  κ (C u).gl (ah (C u)) Ip σ fun z=>z.1= .normal/\∃x' n' M' T' g cp,∃l:List ρ,(n<=n'/\n'<=n+280)/\(1<=g/\g<=12)/\l.length=fL g/\(∀p∈l,fZ s.aB s.turns p)/\SS pm d r i c1 c2 c3 c4 s co out z.2/\SI 1 q v e1 e2 e3 e4 s' z.2/\z.2.mem= {ε:=M',ζ:=T'}/\MM B pm ps P c bs co lo st fr n' x' q (aR 1 g [] (.list cp (l.map ρ.av)) z4 z4 ω ω) M' T'/\cp.exp 0 false=Φ l:=by
 obtain⟨h0,h1,h5,l5,h7,ba,bj⟩:=hS;obtain⟨h8,h9,aC,l10⟩:=hI;obtain⟨x2,g,n2,b1,b2,b3,b4,uN⟩:=JI (u:=u) hM.kt.ms hb 1 12 (by omega) (by omega) (by omega) (by omega);have M2:=hM.draw hs τ n2 x2;generalize M.set ps (.cells (aG c bs n2 x2))=N2 at uN M2;have M3:=M2.cell hm hs (aR 1 g [] ω z4 z4 ω ω);have aif:=f183 (u:=u) g ⟨b3,b4⟩;have har:fL g<=3:=by
  unfold fL;split
  ·omega
  ·split<;>omega
 unfold Ip;refine Θ (fun z=>SS pm d r i c1 c2 c3 c4 s co out z/\SI 1 q v e1 e2 e3 e4 s' z/\z.mem= {ε:=N2.set q (.cells (aR 1 g [] ω z4 z4 ω ω)),ζ:=T}) (by simp[SS,SI,h0,h1,h5,l5,h7,ba,bj,h8,h9,aC,l10,Γ,hM.zq,bK,uN,M2.q2,M2.at_,ZX,ie,fj,Mem.put,Mem.ν,ν,bo,Δ.lo]) fun z ⟨⟨h0,h1,h5,l5,h7,ba,bj⟩,⟨h8,h9,aC,l10⟩,Γ⟩=>?_;generalize N2.set q (.cells (aR 1 g [] ω z4 z4 ω ω))=N3 at M3 Γ;refine Θ (fun z=>SS pm d r i c1 c2 c3 c4 s co out z/\SI 1 q v e1 e2 e3 e4 s' z/\z.mem= {ε:=N3,ζ:=T}/\z.e 92= .n (fL g:Int)/\z.e 93= .n 0) (by simp[SS,SI,h0,h1,h5,l5,h7,ba,bj,h8,h9,aC,l10,Γ,M3.q2,Z0,ie,fj,aif]) fun z ⟨z1,z2,z3,z4,z5⟩=>?_;refine κ.mono (ahH (u:=u) hm hs τ hb (fL g) (by omega) z1 z2 z4 z5 z3 M3 (by omega) hr hl) fun z ⟨y1,x',n',M',T',cp,l,y2,y3,y4,y5,y6,y7,y8,y9⟩=>⟨y1,x',n',M',T',g,cp,l,by omega,⟨b3,b4⟩,y3,y4,y5,y6,y7,y8,y9⟩
theorem aeW{cP:ξ}{Ps:List AV}{bF:List φ}(hP:P= .list cP Ps)(lu:bS Ps (bF.map φ.av))(gO:∀y∈bF,y.aq.length<=3)(dQ:bF.length<1000000)(hS:SS pm d r i c1 c2 c3 c4 s co out σ)(hI:SI 9 q v e1 e2 e3 e4 s' σ)(Γ:σ.mem= {ε:=M,ζ:=T})(hM:MM B pm ps P c bs co lo st fr n x q (aR 9 0 [] ω z4 z4 ω ω) M T)(hn:n<1000000000000000000)(hr:s.aB≠[])(hl:s.aB.length<1000000):
  κ (C u).gl (ah (C u)) Iv σ fun z=>(z.1= .exit 1/\SS pm d r i c1 c2 c3 c4 s co out z.2/\z.2.mem= {ε:=M,ζ:=T})\/z.1= .normal/\∃x' n' M' T' nm k cp,∃l:List ρ,(n<=n'/\n'<=n+280)/\(nm,k)∈lB bF/\l.length=k/\(∀p∈l,fZ s.aB s.turns p)/\SS pm d r i c1 c2 c3 c4 s co out z.2/\SI 9 q v e1 e2 e3 e4 s' z.2/\z.2.mem= {ε:=M',ζ:=T'}/\MM B pm ps P c bs co lo st fr n' x' q (aR 9 0 nm (.list cp (l.map ρ.av)) z4 z4 ω ω) M' T'/\cp.exp 0 false=Φ l:=by
 obtain⟨h0,h1,h5,l5,h7,ba,bj⟩:=hS;obtain⟨h8,h9,aC,l10⟩:=hI;have hlen:Ps.length=bF.length:=by rw[lu.len,cF]
 have qA:=hM.zq;rw[hP]at qA;unfold Iv;by_cases U6:bF=[]
 ·have hP0:Ps=[]:=List.eq_nil_of_length_eq_zero (by rw[hlen,U6];rfl);refine bP (fun _=>False) (κ.done (.exit 1) (fun z=>SS pm d r i c1 c2 c3 c4 s co out z/\z.mem= {ε:=M,ζ:=T}) (by simp[SS,h0,h1,h5,l5,h7,ba,bj,h8,h9,aC,l10,Γ,qA,bK,hP0]) fun z ⟨z1,z2⟩=> .inr ⟨by simp,.inl ⟨rfl,z1,z2⟩⟩) fun z hz=>hz.elim
 ·have jN:0<bF.length:=mR.2 U6;obtain⟨x2,k,n2,b1,b2,b3,b4,-,kC⟩:=BO (u:=u) hM.kt.ms hb bF.length (by omega);have b4:=b4 (by omega);obtain⟨k,rfl⟩:∃j:Nat,k=j:=⟨k.toNat,by omega⟩;have hk:k<bF.length:=by omega
  have HT:k<Ps.length:=by omega
  have M2:=hM.draw hs τ n2 x2;generalize M.set ps (.cells (aG c bs n2 x2))=N2 at kC M2;have UO:=M2.zq;rw[hP]at UO;obtain⟨cq,pl,bq,kN,ND⟩:=ah5 lu hk;have ab9:Ps[k]= .agg [.str bF[k].name,.list cq pl,bq]:=by rw[dN HT]at kN;exact Option.some.inj kN
  have abB:¬Ps=[]:=fun h=>by rw[h]at HT;cases HT
  have akE:¬(Ps.length:Int)=0:=by omega
  have Ni:(k:Int)<Ps.length:=by omega
  have ak1:=gO bF[k] (df hk);rw[<-hlen]at kC;refine Θ (fun z=>SS pm d r i c1 c2 c3 c4 s co out z/\SI 9 q v e1 e2 e3 e4 s' z/\z.mem= {ε:=M,ζ:=T}) (by simp[SS,SI,h0,h1,h5,l5,h7,ba,bj,h8,h9,aC,l10,Γ,qA,bK,abB]) fun z ⟨⟨h0,h1,h5,l5,h7,ba,bj⟩,⟨h8,h9,aC,l10⟩,Γ⟩=>?_;refine Θ (fun z=>SS pm d r i c1 c2 c3 c4 s co out z/\SI 9 q v e1 e2 e3 e4 s' z/\z.mem= {ε:=N2,ζ:=T}/\∃w,z.e 11= .aj 11 w 0/\z.q 11=some (w,.cells [.str bF[k].name,.list cq pl,bq])) (by
   generalize hw:bL (bQ z.loc) 11=w
   simp[SS,SI,h0,h1,h5,l5,h7,ba,bj,h8,h9,aC,l10,Γ,qA,UO,bK,kC,Ni,HT,kN,ab9,newVar,hw,dd,cZ,pC,c8,nO]) fun z ⟨⟨h0,h1,h5,l5,h7,ba,bj⟩,⟨h8,h9,aC,l10⟩,Γ,w,bp,Om⟩=>?_
  have M3:=M2.cell hm hs (aR 9 0 bF[k].name ω z4 z4 ω ω);refine Θ (fun z=>SS pm d r i c1 c2 c3 c4 s co out z/\SI 9 q v e1 e2 e3 e4 s' z/\z.mem= {ε:=N2.set q (.cells (aR 9 0 bF[k].name ω z4 z4 ω ω)),ζ:=T}/\z.e 11= .aj 11 w 0/\z.q 11=some (w,.cells [.str bF[k].name,.list cq pl,bq])) (by simp[SS,SI,h0,h1,h5,l5,h7,ba,bj,h8,h9,aC,l10,bp,Om,Γ,M2.q2,M2.at_,wG,ie,fj,Mem.put,Mem.ν,ν,bo,Δ.lo]) fun z ⟨⟨h0,h1,h5,l5,h7,ba,bj⟩,⟨h8,h9,aC,l10⟩,Γ,bp,Om⟩=>?_;generalize N2.set q (.cells (aR 9 0 bF[k].name ω z4 z4 ω ω))=N3 at M3 Γ;refine Θ (fun z=>SS pm d r i c1 c2 c3 c4 s co out z/\SI 9 q v e1 e2 e3 e4 s' z/\z.mem= {ε:=N3,ζ:=T}/\z.e 266= .n (bF[k].aq.length:Int)/\z.e 267= .n 0) (by simp[SS,SI,h0,h1,h5,l5,h7,ba,bj,h8,h9,aC,l10,bp,Om,Γ,ND]) fun z ⟨z1,z2,z3,z4,z5⟩=>?_;refine κ.mono (ahI (u:=u) hm hs τ hb bF[k].aq.length (by omega) z1 z2 z4 z5 z3 M3 (by omega) hr hl) fun z ⟨y1,x',n',M',T',cp,l,y2,y3,y4,y5,y6,y7,y8,y9⟩=> .inr ⟨y1,x',n',M',T',bF[k].name,_,cp,l,by omega,eT.2 ⟨bF[k],df hk,rfl⟩,y3,y4,y5,y6,y7,y8,y9⟩
end
section
variable{B:List θ}{pm ps:Nat}{P:AV}{c:ξ}{bs:List Nat}{co:ξ}{lo st fr n:Nat}{x:Int}{M:List θ}{q:Nat}{L:List AV}{T:List Nat}
variable(hm:pm<B.length)(hs:ps<B.length)(τ:pm≠ps)(hb:bs.length<=300)
variable{d r i:Int}{c1 c2 c3 c4:ξ}{s:Sc}{out:List AV}{v:Nat}{e1 e2 e3 e4:ξ}{s':Sc}{σ:St}{k:Int}
theorem w65(cn:ξ)(l:List (List Nat))(t:List Nat)(hl:l.length<1000000)(m:Mem):kf u 65 [aX cn l,.str t] m=some (.bool (l.contains t),m):=by rw[<-f65 (u:=u) (cn.exp 0 false) (Br cn 0) l t (by omega) m];exact FG (by rfl) (by simp only[aA,aP,CI,vb,exp]) (by rfl)
theorem Jl(hk:k≠4/\k≠8/\k≠10/\k≠7/\k≠11)(hS:SS pm d r i c1 c2 c3 c4 s co out σ)(hI:SI k q v e1 e2 e3 e4 s' σ)(Γ:σ.mem= {ε:=M,ζ:=T}):
  κ (C u).gl (ah (C u)) uA σ fun z=>z.1= .normal/\SS pm d r i c1 c2 c3 c4 s co out z.2/\SI k q v e1 e2 e3 e4 s' z.2/\z.2.mem= {ε:=M,ζ:=T}:=by
 obtain⟨h0,h1,h5,l5,h7,ba,bj⟩:=hS;obtain⟨h8,h9,aC,l10⟩:=hI;obtain⟨k1,k2,k3,k4,k5⟩:=hk;unfold uA;exact κ.done .normal (fun z=>SS pm d r i c1 c2 c3 c4 s co out z/\SI k q v e1 e2 e3 e4 s' z/\z.mem= {ε:=M,ζ:=T}) (by simp[SS,SI,h0,h1,h5,l5,h7,ba,bj,h8,h9,aC,l10,Γ,gi k1,gi k2,gi k3,gi k4,gi k5]) fun z hz=>⟨rfl,hz⟩
theorem PE(hk:k=4\/k=8\/k=10){g:Int}{nm:List Nat}{X:AV}{I J:List AV}(vi:I.length=4)(vj:J.length=4){V:AV}(hV:Dv V V)(Mw:V.cells=[V]){N:List θ}(hd:0<=d/\d<1000)
  (mg:∀T,kf u 122 [.μ pm 0,.n (d+1),.agg (gJ e1 e2 e3 e4 s')] {ε:=M,ζ:=T}=some (V,{ε:=N,ζ:=T})) (hN:N[q]?=some (.cells (aR k g nm X I J ω ω)))
  (hS:SS pm d r i c1 c2 c3 c4 s co out σ) (hI:SI k q v e1 e2 e3 e4 s' σ) (Γ:σ.mem= {ε:=M,ζ:=T}):
  κ (C u).gl (ah (C u)) uA σ fun z=>z.1= .normal/\SS pm d r i c1 c2 c3 c4 s co out z.2/\SI k q v e1 e2 e3 e4 s' z.2/\z.2.mem= {ε:=N.set q (.cells (aR k g nm X I J V ω)),ζ:=T}:=by
 obtain⟨h0,h1,h5,l5,h7,ba,bj⟩:=hS;obtain⟨h8,h9,aC,l10⟩:=hI;have hw:bC .i64 (d+1)=d+1:=wrap_i64 (by omega) (by omega);have My:=hV.ν;have Mx:bo q [V]=true:=by simp[bo,hV.lo q]
 unfold uA VE;refine κ.done .normal (fun z=>SS pm d r i c1 c2 c3 c4 s co out z/\SI k q v e1 e2 e3 e4 s' z/\z.mem= {ε:=N.set q (.cells (aR k g nm X I J V ω)),ζ:=T}) ?_ fun z hz=>⟨rfl,hz⟩;rcases hk with rfl|rfl|rfl<;>simp[SS,SI,h0,h1,h5,l5,h7,ba,bj,h8,h9,aC,l10,Γ,hw,mg,hN,iI,zN,R8,ie,vi,vj,Mw,My,Mx,Mem.put,Mem.ν]
theorem ajl(hk:k=7\/k=11){g:Int}{nm:List Nat}{X:AV}{I J:List AV}(vi:I.length=4)(vj:J.length=4){V W:AV}(hV:Dv V V)(Mw:V.cells=[V])(hW:Dv W W)(hW1:W.cells=[W]){N N':List θ}(hd:0<=d/\d<1000)
  (mg:∀T,kf u 122 [.μ pm 0,.n (d+1),.agg (gJ e1 e2 e3 e4 s')] {ε:=M,ζ:=T}=some (V,{ε:=N,ζ:=T}))
  (Bz:∀T,kf u 122 [.μ pm 0,.n (d+1),.agg (gJ e1 e2 e3 e4 s')] {ε:=N,ζ:=T}=some (W,{ε:=N',ζ:=T})) (hN:N'[q]?=some (.cells (aR k g nm X I J ω ω)))
  (hS:SS pm d r i c1 c2 c3 c4 s co out σ) (hI:SI k q v e1 e2 e3 e4 s' σ) (Γ:σ.mem= {ε:=M,ζ:=T}):
  κ (C u).gl (ah (C u)) uA σ fun z=>z.1= .normal/\SS pm d r i c1 c2 c3 c4 s co out z.2/\SI k q v e1 e2 e3 e4 s' z.2/\z.2.mem= {ε:=N'.set q (.cells (aR k g nm X I J V W)),ζ:=T}:=by
 obtain⟨h0,h1,h5,l5,h7,ba,bj⟩:=hS;obtain⟨h8,h9,aC,l10⟩:=hI;have hw:bC .i64 (d+1)=d+1:=wrap_i64 (by omega) (by omega);have My:=hV.ν;have hWn:=hW.ν;have Mx:bo q [V]=true:=by simp[bo,hV.lo q]
 have MA:bo q [W]=true:=by simp[bo,hW.lo q]
 have hqN:q<N'.length:=(List.getElem?_eq_some_iff.1 hN).1;have ij:∀A,(N'.set q (θ.cells A))[q]?=some (.cells A):=fun A=>by simp[hqN]
 unfold uA VF;refine κ.done .normal (fun z=>SS pm d r i c1 c2 c3 c4 s co out z/\SI k q v e1 e2 e3 e4 s' z/\z.mem= {ε:=N'.set q (.cells (aR k g nm X I J V W)),ζ:=T}) ?_ fun z hz=>⟨rfl,hz⟩;rcases hk with rfl|rfl<;>simp[SS,SI,h0,h1,h5,l5,h7,ba,bj,h8,h9,aC,l10,Γ,hw,mg,Bz,hN,ij,iI,zN,R8,ZY,ie,vi,vj,Mw,My,Mx,hW1,hWn,MA,Mem.put,Mem.ν,cZ,c8]
theorem ajo(hk:k≠2/\k≠3/\k≠5)(hS:SS pm d r i c1 c2 c3 c4 s co out σ)(hI:SI k q v e1 e2 e3 e4 s' σ)(Γ:σ.mem= {ε:=M,ζ:=T}):
  κ (C u).gl (ah (C u)) qM σ fun z=>z.1= .normal/\SS pm d r i c1 c2 c3 c4 s co out z.2/\SI k q v e1 e2 e3 e4 s' z.2/\z.2.mem= {ε:=M,ζ:=T}:=by
 obtain⟨h0,h1,h5,l5,h7,ba,bj⟩:=hS;obtain⟨h8,h9,aC,l10⟩:=hI;obtain⟨k1,k2,k3⟩:=hk;unfold qM;exact κ.done .normal (fun z=>SS pm d r i c1 c2 c3 c4 s co out z/\SI k q v e1 e2 e3 e4 s' z/\z.mem= {ε:=M,ζ:=T}) (by simp[SS,SI,h0,h1,h5,l5,h7,ba,bj,h8,h9,aC,l10,Γ,gi k1,gi k2,gi k3]) fun z hz=>⟨rfl,hz⟩
include hm hs
theorem ajp{g:Int}{nm:List Nat}{X:AV}{I J:List AV}{b e:AV}(vi:I.length=4)(vj:J.length=4)(Mc:c1= .nil->s.aB=[])(Mf:c2= .nil->s.cz=[])(xl:s.aB.length<1000000)(vA:s.cz.length<1000000)
  (hS:SS pm d r i c1 c2 c3 c4 s co out σ) (hI:SI 2 q v e1 e2 e3 e4 s' σ) (Γ:σ.mem= {ε:=M,ζ:=T}) (hM:MM B pm ps P c bs co lo st fr n x q (aR 2 g nm X I J b e) M T):
  κ (C u).gl (ah (C u)) qM σ fun z=>z.1= .normal/\∃gT gU M',SS pm d r i gT gU c3 c4 (s.put nm) co out z.2/\SI 2 q v e1 e2 e3 e4 s' z.2/\gT≠ .nil/\gU≠ .nil/\z.2.mem= {ε:=M',ζ:=T}/\MM B pm ps P c bs co lo st fr n x q (aR 2 g nm X I J b e) M' T:=by
 obtain⟨h0,h1,h5,l5,h7,ba,bj⟩:=hS;obtain⟨h8,h9,aC,l10⟩:=hI;obtain⟨a1,N1,a2,N2,q1,vH,p1,M2,MD⟩:=CT (u:=u) c1 s.aB xl Mc nm hM hm hs;obtain⟨b1,N3,b2,N4,q2,zd,p2,M4,dy⟩:=CT (u:=u) c2 s.cz vA Mf nm M2 hm hs;unfold qM VG;exact κ.done .normal (fun z=>SS pm d r i a2 b2 c3 c4 (s.put nm) co out z/\SI 2 q v e1 e2 e3 e4 s' z/\z.mem= {ε:=N4,ζ:=T}) (by simp[SS,SI,h0,h1,h5,l5,h7,ba,bj,h8,h9,aC,l10,Γ,q1,vH,p1,q2,zd,p2,hM.q2,M2.q2,M4.q2,iI,zO,Jm,PF,XE,Cq,ie,vi,vj,Mem.ν,ν,shaped,AV.one,wg,cZ,c8,nO,Sc.put]) fun z ⟨z1,z2,z3⟩=>⟨rfl,a2,b2,N4,z1,z2,MD,dy,z3,M4⟩
omit hm hs in
theorem drop_eq(s:Sc)(nm:List Nat):s.drop nm=⟨gZ nm s.aB,gZ nm s.cz,s.bits,s.turns⟩:=rfl
theorem ajm{g:Int}{nm:List Nat}{X:AV}{I J:List AV}{b e:AV}(vi:I.length=4)(vj:J.length=4)(Mc:c1= .nil->s.aB=[])(Mf:c2= .nil->s.cz=[])(xl:s.aB.length<1000000)(vA:s.cz.length<1000000)
  (hS:SS pm d r i c1 c2 c3 c4 s co out σ) (hI:SI 3 q v e1 e2 e3 e4 s' σ) (Γ:σ.mem= {ε:=M,ζ:=T}) (hM:MM B pm ps P c bs co lo st fr n x q (aR 3 g nm X I J b e) M T):
  κ (C u).gl (ah (C u)) qM σ fun z=>z.1= .normal/\∃gT gU M',SS pm d r i gT gU c3 c4 (s.drop nm) co out z.2/\SI 3 q v e1 e2 e3 e4 s' z.2/\(gT= .nil->(s.drop nm).aB=[])/\(gU= .nil->(s.drop nm).cz=[])/\z.2.mem= {ε:=M',ζ:=T}/\MM B pm ps P c bs co lo st fr n x q (aR 3 g nm X I J b e) M' T:=by
 obtain⟨h0,h1,h5,l5,h7,ba,bj⟩:=hS;obtain⟨h8,h9,aC,l10⟩:=hI;have push:∀{M':List θ} {N:List θ},MM B pm ps P c bs co lo st fr n x q (aR 3 g nm X I J b e) M' T->(N=M'\/N=M'++[.dead])->MM B pm ps P c bs co lo st fr n x q (aR 3 g nm X I J b e) N T:=fun h hN=>by
  rcases hN with rfl|rfl
  ·exact h
  ·exact h.push _
 obtain⟨v1,A1,w1,A2,a1,A3,p1,p2,p3,p4,p5⟩:=Tn (u:=u) c1 s.aB (by omega) Mc (M:=M) (show M[q]?=some (.cells (.n 3:: .n g:: .str nm::X::(I++(J++[b,e]))))from hM.q2);have M1:=push hM p5;obtain⟨v2,B1,w2,B2,b1,B3,r1,r2,r3,r4,r5⟩:=Tn (u:=u) c2 s.cz (by omega) Mf (M:=A3) (show A3[q]?=some (.cells (.n 3:: .n g:: .str nm::X::(I++(J++[b,e]))))from M1.q2);have M2:=push M1 r5;unfold qM VH;exact κ.done .normal (fun z=>SS pm d r i a1 b1 c3 c4 (s.drop nm) co out z/\SI 3 q v e1 e2 e3 e4 s' z/\z.mem= {ε:=B3,ζ:=T}) (by
  rw[drop_eq]
  simp[SS,SI,h0,h1,h5,l5,h7,ba,bj,h8,h9,aC,l10,Γ,p1,p2,p3,r1,r2,r3,iI,zO,Jm,PF,XE,wg,cZ,c8]) fun z ⟨z1,z2,z3⟩=>⟨rfl,a1,b1,B3,z1,z2,p4,r4,z3,M2⟩
theorem ajn{g:Int}{nm:List Nat}{X:AV}{I J:List AV}{b e:AV}(vi:I.length=4)(vj:J.length=4)(TC:c3= .nil->s.bits=[])(Nl:s.bits.length<1000000)
  (hS:SS pm d r i c1 c2 c3 c4 s co out σ) (hI:SI 5 q v e1 e2 e3 e4 s' σ) (Γ:σ.mem= {ε:=M,ζ:=T}) (hM:MM B pm ps P c bs co lo st fr n x q (aR 5 g nm X I J b e) M T):
  κ (C u).gl (ah (C u)) qM σ fun z=>z.1= .normal/\∃lr M',SS pm d r i c1 c2 lr c4 (s.bit nm) co out z.2/\SI 5 q v e1 e2 e3 e4 s' z.2/\(lr= .nil->(s.bit nm).bits=[])/\z.2.mem= {ε:=M',ζ:=T}/\MM B pm ps P c bs co lo st fr n x q (aR 5 g nm X I J b e) M' T:=by
 obtain⟨h0,h1,h5,l5,h7,ba,bj⟩:=hS;obtain⟨h8,h9,aC,l10⟩:=hI;have zF:=w65 (u:=u) c3 s.bits nm Nl;unfold qM VI;by_cases qx:nm∈s.bits
 ·have hc:s.bits.contains nm=true:=xW.2 qx;have yK:s.bit nm=s:=if_pos qx;rw[yK];exact κ.done .normal (fun z=>SS pm d r i c1 c2 c3 c4 s co out z/\SI 5 q v e1 e2 e3 e4 s' z/\z.mem= {ε:=M,ζ:=T}) (by simp[SS,SI,h0,h1,h5,l5,h7,ba,bj,h8,h9,aC,l10,Γ,hM.q2,zF,qx,iI,zP,Cq,ie,vi,vj]) fun z ⟨z1,z2,z3⟩=>⟨rfl,c3,M,z1,z2,TC,z3,hM⟩
 ·have hc:s.bits.contains nm=false:=by
   cases h:s.bits.contains nm with
   |false=>rfl
   |true=>exact absurd (xW.1 h) qx
  have yK:s.bit nm= {s with bits:=s.bits++[nm]}:=if_neg qx;rw[yK];obtain⟨a1,N1,a2,N2,q1,vH,p1,M2,MD⟩:=CT (u:=u) c3 s.bits Nl TC nm hM hm hs;exact κ.done .normal (fun z=>SS pm d r i c1 c2 a2 c4 {s with bits:=s.bits++[nm]} co out z/\SI 5 q v e1 e2 e3 e4 s' z/\z.mem= {ε:=N2,ζ:=T}) (by simp[SS,SI,h0,h1,h5,l5,h7,ba,bj,h8,h9,aC,l10,Γ,hM.q2,zF,qx,q1,vH,p1,iI,zP,ajt,Cq,ie,vi,vj,Mem.ν,ν,shaped,AV.one,wg,cZ,c8,nO]) fun z ⟨z1,z2,z3⟩=>⟨rfl,a2,N2,z1,z2,fun h=>absurd h MD,z3,M2⟩
end
theorem OT{ps:Nat}{P:AV}{st:Int}{fr:Nat}:(alO 2 (bK ps P st fr)).take 1=[.n st]:=rfl
theorem Wn{ps:Nat}{P:AV}{st:Int}{fr:Nat}(w:Int):dd (bK ps P st fr) 2 [.n w]=bK ps P w fr:=rfl
theorem Bq{ps:Nat}{P:AV}{st:Int}{fr:Nat}:(bK ps P st fr).length=4:=rfl
def iO(d:Int)(e:Bool)(k:Int):Int:=if(d=5/\(k=4\/k=7\/9<k\/k=8))\/(e=true/\k≠4/\k≠10/\k≠11/\k≠8)then 2 else k
theorem Z6(d:Int)(e:Bool)(k:Int)(hk:1<=k/\k<=11):(1<=iO d e k/\iO d e k<=11)/\(e=true->iO d e k=2\/iO d e k=4\/iO d e k=8\/iO d e k=10\/iO d e k=11)/\(d=5->iO d e k≠4/\iO d e k≠7/\iO d e k≠8/\iO d e k≠10/\iO d e k≠11):=by
 unfold iO;split
 ·omega
 ·rename_i h;cases e with
  |true=>simp only[true_and]at h⊢;omega
  |false=>simp at h⊢;omega
section
variable{B:List θ}{pm ps:Nat}{P:AV}{c:ξ}{bs:List Nat}{co:ξ}{lo st fr n:Nat}{x:Int}{M:List θ}{q:Nat}{L:List AV}{T:List Nat}
variable{d r i:Int}{c1 c2 c3 c4:ξ}{s:Sc}{out:List AV}{v:Nat}{e1 e2 e3 e4:ξ}{s':Sc}{σ:St}{k:Int}
theorem Kt.app(h:Kt B pm ps P c bs co lo st fr n x M)(hm:pm<B.length)(hs:ps<B.length){fo:ξ}{M':List θ}(R:Go.Δ.Row B.length M' 14 66 fo (lo+1))
  (hM:M'=M++[.front 1 14 66]\/∃t,B.length<=t/\M[t]?=some (.front lo 14 66)/\M'=M.set t (.front (lo+1) 14 66)):Kt B pm ps P c bs fo (lo+1) st fr n x M':=by
 rcases hM with rfl|⟨t,h1,h2,rfl⟩
 ·exact⟨h.ms.push _,fun i a b d=>by rw[List.getElem?_append_left (Nat.lt_of_lt_of_le a h.len)];exact h.od i a b d,by have:=h.len;simp;omega,R⟩
 ·exact⟨h.ms.put (by omega) (by omega) _,fun i a b d=>by rw[gR (by omega)];exact h.od i a b d,by simpa using h.len,R⟩
theorem ahn(hS:SS pm d r i c1 c2 c3 c4 s co out σ)(Γ:σ.mem= {ε:=M,ζ:=T})(hM:MS pm ps P c bs st fr n x M)(Ω:st<4000000000000000000):
  κ (C u).gl (ah (C u)) Ix σ fun z=>(z.1= .exit 0/\40<=st\/z.1= .normal/\st<40)/\SS pm d r i c1 c2 c3 c4 s co out z.2/\z.2.mem= {ε:=M.set pm (.cells (bK ps P (st+1:Nat) fr)),ζ:=T}:=by
 obtain⟨h0,h1,h5,l5,h7,ba,bj⟩:=hS;obtain⟨w,hw⟩:∃w:Nat,w=st+1:=⟨_,rfl⟩;have e:bC .i64 ((st:Int)+1)=(w:Int):=by rw[wrap_i64 (by omega) (by omega)];omega
 rw[<-hw];have hg:M[pm]?=some (.cells (bK ps P st fr)):=hM.m;have ij:∀A,(M.set pm (θ.cells A))[pm]?=some (.cells A):=fun A=>by simp[hM.xQ]
 unfold Ix;refine Θ (fun z=>SS pm d r i c1 c2 c3 c4 s co out z/\z.mem= {ε:=M.set pm (.cells (bK ps P (w:Int) fr)),ζ:=T}) (by simp[SS,h0,h1,h5,l5,h7,ba,bj,Γ,hg,OT,Wn,Bq,e,Mem.put,Mem.ν,ν,bo,Δ.lo]) fun z ⟨⟨h0,h1,h5,l5,h7,ba,bj⟩,Γ⟩=>?_;by_cases Mh:40<w
 ·have hI:(40:Int)<w:=by omega
  exact κ.done (.exit 0) (fun z=>SS pm d r i c1 c2 c3 c4 s co out z/\z.mem= {ε:=M.set pm (.cells (bK ps P (w:Int) fr)),ζ:=T}) (by simp[SS,h0,h1,h5,l5,h7,ba,bj,Γ,ij,OT,Bq,Mh,hI]) fun z ⟨z1,z2⟩=>⟨.inl ⟨rfl,by omega⟩,z1,z2⟩
 ·have hI:¬(40:Int)<w:=by omega
  exact κ.done .normal (fun z=>SS pm d r i c1 c2 c3 c4 s co out z/\z.mem= {ε:=M.set pm (.cells (bK ps P (w:Int) fr)),ζ:=T}) (by simp[SS,h0,h1,h5,l5,h7,ba,bj,Γ,ij,OT,Bq,Mh,hI]) fun z ⟨z1,z2⟩=>⟨.inr ⟨rfl,by omega⟩,z1,z2⟩
theorem ahl(hb:bs.length<=300)(hS:SS pm d r i c1 c2 c3 c4 s co out σ)(Γ:σ.mem= {ε:=M,ζ:=T})(hM:MS pm ps P c bs st fr n x M)(hn:n<3000000000000000000):
  κ (C u).gl (ah (C u)) Iw σ fun z=>z.1= .normal/\∃x' n' k,(n<=n'/\n'<=n+1)/\(1<=k/\k<=11)/\SS pm d r i c1 c2 c3 c4 s co out z.2/\z.2.mem= {ε:=M.set ps (.cells (aG c bs n' x')),ζ:=T}/\aI z.2.env 8= .n k:=by
 obtain⟨h0,h1,h5,l5,h7,ba,bj⟩:=hS;obtain⟨x2,k,n2,b1,b2,b3,b4,uN⟩:=JI (u:=u) hM hb 1 11 (by omega) (by omega) (by omega) (by omega);have hg:M[pm]?=some (.cells (bK ps P st fr)):=hM.m;unfold Iw;exact κ.done .normal (fun z=>SS pm d r i c1 c2 c3 c4 s co out z/\z.mem= {ε:=M.set ps (.cells (aG c bs n2 x2)),ζ:=T}/\z.e 8= .n k) (by simp[SS,h0,h1,h5,l5,h7,ba,bj,Γ,hg,bK,uN]) fun z ⟨z1,z2,z3⟩=>⟨rfl,x2,n2,k,⟨b1,b2⟩,⟨b3,b4⟩,z1,z2,z3⟩
theorem ahh(hk:1<=k/\k<=11)(hd:d=5)(hr:s.aB=[])(hS:SS pm d r i c1 c2 c3 c4 s co out σ)(h8:σ.e 8= .n k):
  κ (C u).gl (ah (C u)) tc σ fun z=>z.1= .normal/\SS pm d r i c1 c2 c3 c4 s co out z.2/\z.2.mem=σ.mem/\aI z.2.env 8= .n (iO d s.aB.isEmpty k):=by
 obtain⟨h0,h1,h5,l5,h7,ba,bj⟩:=hS;have ui:k=1\/k=2\/k=3\/k=4\/k=5\/k=6\/k=7\/k=8\/k=9\/k=10\/k=11:=by omega
 unfold tc;refine κ.done .normal (fun z=>SS pm d r i c1 c2 c3 c4 s co out z/\z.mem=σ.mem/\z.e 8= .n (iO d s.aB.isEmpty k)) ?_ fun z hz=>⟨rfl,hz⟩;rcases ui with rfl|rfl|rfl|rfl|rfl|rfl|rfl|rfl|rfl|rfl|rfl<;>simp[SS,h0,h1,h5,l5,h7,ba,bj,h8,hd,hr,zO,iI,aX,iO]
theorem ahi(hk:1<=k/\k<=11)(hd:d=5)(hr:s.aB≠[])(hS:SS pm d r i c1 c2 c3 c4 s co out σ)(h8:σ.e 8= .n k):
  κ (C u).gl (ah (C u)) tc σ fun z=>z.1= .normal/\SS pm d r i c1 c2 c3 c4 s co out z.2/\z.2.mem=σ.mem/\aI z.2.env 8= .n (iO d s.aB.isEmpty k):=by
 obtain⟨h0,h1,h5,l5,h7,ba,bj⟩:=hS;have ui:k=1\/k=2\/k=3\/k=4\/k=5\/k=6\/k=7\/k=8\/k=9\/k=10\/k=11:=by omega
 have hz:((s.aB.length:Int)==0)=false:=by have:=mR.2 hr;exact gi (by omega)
 unfold tc;refine κ.done .normal (fun z=>SS pm d r i c1 c2 c3 c4 s co out z/\z.mem=σ.mem/\z.e 8= .n (iO d s.aB.isEmpty k)) ?_ fun z hz=>⟨rfl,hz⟩;rcases ui with rfl|rfl|rfl|rfl|rfl|rfl|rfl|rfl|rfl|rfl|rfl<;>simp[SS,h0,h1,h5,l5,h7,ba,bj,h8,hd,hr,zO,iI,aX,iO,hz]
theorem ahj(hk:1<=k/\k<=11)(hd:d≠5)(hr:s.aB=[])(hS:SS pm d r i c1 c2 c3 c4 s co out σ)(h8:σ.e 8= .n k):
  κ (C u).gl (ah (C u)) tc σ fun z=>z.1= .normal/\SS pm d r i c1 c2 c3 c4 s co out z.2/\z.2.mem=σ.mem/\aI z.2.env 8= .n (iO d s.aB.isEmpty k):=by
 obtain⟨h0,h1,h5,l5,h7,ba,bj⟩:=hS;have ui:k=1\/k=2\/k=3\/k=4\/k=5\/k=6\/k=7\/k=8\/k=9\/k=10\/k=11:=by omega
 unfold tc;refine κ.done .normal (fun z=>SS pm d r i c1 c2 c3 c4 s co out z/\z.mem=σ.mem/\z.e 8= .n (iO d s.aB.isEmpty k)) ?_ fun z hz=>⟨rfl,hz⟩;rcases ui with rfl|rfl|rfl|rfl|rfl|rfl|rfl|rfl|rfl|rfl|rfl<;>simp[SS,h0,h1,h5,l5,h7,ba,bj,h8,hd,gi hd,hr,zO,iI,aX,iO]
theorem ahk(hk:1<=k/\k<=11)(hd:d≠5)(hr:s.aB≠[])(hS:SS pm d r i c1 c2 c3 c4 s co out σ)(h8:σ.e 8= .n k):
  κ (C u).gl (ah (C u)) tc σ fun z=>z.1= .normal/\SS pm d r i c1 c2 c3 c4 s co out z.2/\z.2.mem=σ.mem/\aI z.2.env 8= .n (iO d s.aB.isEmpty k):=by
 obtain⟨h0,h1,h5,l5,h7,ba,bj⟩:=hS;have hz:((s.aB.length:Int)==0)=false:=by have:=mR.2 hr;exact gi (by omega)
 unfold tc;refine κ.done .normal (fun z=>SS pm d r i c1 c2 c3 c4 s co out z/\z.mem=σ.mem/\z.e 8= .n (iO d s.aB.isEmpty k)) ?_ fun z hz=>⟨rfl,hz⟩;simp[SS,h0,h1,h5,l5,h7,ba,bj,h8,hd,gi hd,hr,zO,iI,aX,iO,hz]
theorem ahg(hk:1<=k/\k<=11)(hS:SS pm d r i c1 c2 c3 c4 s co out σ)(h8:σ.e 8= .n k):
  κ (C u).gl (ah (C u)) tc σ fun z=>z.1= .normal/\SS pm d r i c1 c2 c3 c4 s co out z.2/\z.2.mem=σ.mem/\aI z.2.env 8= .n (iO d s.aB.isEmpty k):=by
 by_cases hd:d=5<;>by_cases hr:s.aB=[]
 ·exact ahh hk hd hr hS h8
 ·exact ahi hk hd hr hS h8
 ·exact ahj hk hd hr hS h8
 ·exact ahk hk hd hr hS h8
theorem ahf(hS:SS pm d r i c1 c2 c3 c4 s co out σ)(h8:σ.e 8= .n k)(Γ:σ.mem= {ε:=M,ζ:=T}):
  ∃σ',exec (C u).gl (ah (C u)) dL Iy σ=some (.normal,σ')/\SS pm d r i c1 c2 c3 c4 s co out σ'/\σ'.e 8= .n k/\σ'.e 9= .μ M.length 0/\σ'.mem= {ε:=M++[.cells (aR k 0 [] ω z4 z4 ω ω)],ζ:=T}:=by
 obtain⟨h0,h1,h5,l5,h7,ba,bj⟩:=hS;unfold Iy;simp[SS,h0,h1,h5,l5,h7,ba,bj,h8,Γ,newVar,dp,dd,Mem.push,Mem.put,Mem.ν,ν,cL,bo,Δ.lo,aR,z4,List.set_append_right,ξ.lo]
theorem ahm(hS:SS pm d r i c1 c2 c3 c4 s co out σ)(h8:σ.e 8= .n k)(h9:σ.e 9= .μ q 0)(Γ:σ.mem= {ε:=M,ζ:=T}):
  ∃σ',exec (C u).gl (ah (C u)) dL Io σ=some (.normal,σ')/\SS pm d r i c1 c2 c3 c4 s co out σ'/\(∃v,SI k q v c1 c2 c3 c4 s σ')/\σ'.mem= {ε:=M,ζ:=T}:=by
 obtain⟨h0,h1,h5,l5,h7,ba,bj⟩:=hS;unfold Io;generalize hw:bL (bQ σ.loc) 10=w;simp[SS,SI,h0,h1,h5,l5,h7,ba,bj,h8,h9,Γ,newVar,hw,zN,iI,dd]
theorem I5(hm:pm<B.length)(hs:ps<B.length)(hS:SS pm d r i c1 c2 c3 c4 s co out σ)(hI:SI k q v e1 e2 e3 e4 s' σ)(Γ:σ.mem= {ε:=M,ζ:=T})(hM:MM B pm ps P c bs co lo st fr n x q L M T)(hL:L.length=14)(hn:ν (.agg L)= .agg L)(ho:out.all (shaped true 14)=true)(jL:lo=out.length)(dq:out.length<1000000):
  κ (C u).gl (ah (C u)) zn σ fun z=>z.1= .normal/\∃fo M',SS pm d r i c1 c2 c3 c4 s fo (out++[.agg L]) z.2/\z.2.mem= {ε:=M',ζ:=T}/\Kt B pm ps P c bs fo (lo+1) st fr n x M'/\fo.exp 0 false= .any:=by
 obtain⟨h0,h1,h5,l5,h7,ba,bj⟩:=hS;obtain⟨h8,h9,aC,l10⟩:=hI;subst jL;have ej:shaped true 14 (.agg L)=true:=by simp[shaped,hL]
 obtain⟨cc,N,dO,R,eD,hN⟩:=yi (bytes:=216) (v:= .agg L) (ag:=true) hM.kt.row hM.kt.len ho ej hn (by omega) (by omega) (by omega);have lI:L.take 14=L:=List.take_of_length_le (by omega);unfold zn;exact κ.done .normal (fun z=>SS pm d r i c1 c2 c3 c4 s cc (out++[.agg L]) z/\z.mem= {ε:=N,ζ:=T}) (by simp[SS,h0,h1,h5,l5,h7,ba,bj,h8,h9,aC,l10,Γ,hM.q2,hL,lI,ej,Mem.ν,hn,dO]) fun z ⟨z1,z2⟩=>⟨rfl,cc,N,z1,z2,hM.kt.app hm hs R hN,eD 0⟩
end
end Go.Δ.Tz
