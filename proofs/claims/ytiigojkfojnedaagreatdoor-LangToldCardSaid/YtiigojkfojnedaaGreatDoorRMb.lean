import Derived.Test.YtiigojkfojnedaaGreatDoorRMa
set_option linter.all false
set_option maxRecDepth 100000
set_option maxHeartbeats 8000000
open List renaming drop->akR,length_pos_iff->pY,getElem?_map->od,getElem?_eq_getElem->dp,getElem_mem->db,length_map->cz,map_append->kQ,map_cons->ax,map_nil->aI,getElem?_set_ne->gN,mem_map->fb,map_map->cT,map_congr_left->dh,mem_append->dQ,mem_singleton->fY,contains_iff_mem->xC
open Int renaming cast_ofNat_Int->zP
open Go.IntKind renaming wrap->bN
namespace Go.Δ.Tz
open Go.Δ
variable{u:Nat}
attribute [local simp] exec ef dR e_ aJ dF fE eR br fM bR iL iS jm jE mo Kg Kk Kl Kj Kh Ki vM jA rd wr iu single ff eF μ cF RV.get cK fV kT tQ
section
variable{c1 c2 c3 c4:τ}{s:Sc}
theorem iD:(gD c1 c2 c3 c4 s).length=4:=rfl
theorem zB:(gD c1 c2 c3 c4 s).take 4=gD c1 c2 c3 c4 s:=rfl
theorem zC:(gD c1 c2 c3 c4 s).take 1=[bw c1 s.aC]:=rfl
theorem I0:(gD c1 c2 c3 c4 s).tail.take 1=[bw c2 s.cu]:=rfl
theorem zD:(akR 2 (gD c1 c2 c3 c4 s)).take 1=[bw c3 s.bits]:=rfl
theorem I1:(akR 3 (gD c1 c2 c3 c4 s)).take 1=[bw c4 s.turns]:=rfl
theorem OU(c':τ)(l:List (List Nat)):dk (gD c1 c2 c3 c4 s) 0 [bw c' l]=gD c' c2 c3 c4 ⟨l,s.cu,s.bits,s.turns⟩:=rfl
theorem WU(c':τ)(l:List (List Nat)):dk (gD c1 c2 c3 c4 s) 1 [bw c' l]=gD c1 c' c3 c4 ⟨s.aC,l,s.bits,s.turns⟩:=rfl
theorem aiJ(c':τ)(l:List (List Nat)):dk (gD c1 c2 c3 c4 s) 2 [bw c' l]=gD c1 c2 c' c4 ⟨s.aC,s.cu,l,s.turns⟩:=rfl
theorem aiK(c':τ)(l:List (List Nat)):dk (gD c1 c2 c3 c4 s) 3 [bw c' l]=gD c1 c2 c3 c' ⟨s.aC,s.cu,s.bits,l⟩:=rfl
end
theorem cZ.s_{ts:List (List Nat)}{k:Nat}{i:ζ}(h:cZ ts k i)(m:Mem):i.four.map m.ν=i.four:=by have:=h.jR;simp only[ν,fH,AV.agg.injEq]at this;exact this
theorem cZ.Im{ts:List (List Nat)}{k:Nat}{i:ζ}(h:cZ ts k i)(q:Nat):bn q i.four=true:=by have:=h.fx;rw[ζ.fm]at this;have:bL i.four i.four:=⟨by simpa only[pf]using this.1,by simpa only[ej,AV.agg.injEq]using this.2⟩;exact this.bn q
theorem eV:z4.length=4:=by simp[z4]
section
variable{B:List θ}{pm ps:Nat}{P:AV}{c:τ}{bs:List Nat}{co:τ}{lo st fr n:Nat}{x:Int}{M:List θ}{q:Nat}{L:List AV}{T:List Nat}
theorem MM.at_(h:MM B pm ps P c bs co lo st fr n x q L M T)(A:List AV):(M.set q (.cells A))[q]?=some (.cells A):=by simp[h.qB]
theorem MM.ze(h:MM B pm ps P c bs co lo st fr n x q L M T):M[pm]?=some (.cells (bG ps P st fr)):=h.kt.ms.m
variable(hm:pm<B.length)(hs:ps<B.length)(φ:pm≠ps)(hb:bs.length<=300)
variable{d r i:Int}{c1 c2 c3 c4:τ}{s:Sc}{out:List AV}{v:Nat}{e1 e2 e3 e4:τ}{s':Sc}{σ:St}
include hm hs φ hb
theorem aeh(hS:SS pm d r i c1 c2 c3 c4 s co out σ)(hI:SI 2 q v e1 e2 e3 e4 s' σ)(Γ:σ.mem= {ε:=M,η:=T})(hM:MM B pm ps P c bs co lo st fr n x q (aS 2 0 [] ω z4 z4 ω ω) M T)(hn:n<3000000000000000000)(dH:fr<1000000):
  μ (C u).gl (ab (C u)) H0 σ fun z=>z.1= .normal/\∃x' n' M' ix,(n<=n'/\n'<=n+35)/\cZ s.turns 4 ix/\SS pm d r i c1 c2 c3 c4 s co out z.2/\SI 2 q v e1 e2 e3 e4 s' z.2/\z.2.mem= {ε:=M',η:=T}/\MM B pm ps P c bs co lo st (fr+1) n' x' q (aS 2 0 (bV [113] (fr+1)) ω ix.four z4 ω ω) M' T:=by
 obtain⟨h0,h1,h5,l5,h7,bo,bu⟩:=hS;obtain⟨h8,h9,aE,l10⟩:=hI;have ng:=BK (u:=u) hM.kt.ms φ (by omega) [113] (by decide);have M1:=hM.lY hm φ st (fr+1);generalize M.set pm (.cells (bG ps P st (fr+1:Nat)))=N1 at ng M1;have Hp:kF 4=35:=rfl;obtain⟨x2,n2,ix,b1,b2,b3,tq⟩:=Jj (u:=u) M1.kt.ms φ hb c4 s.turns 4 (by omega) (by omega);have M2:=M1.draw hs φ n2 x2;generalize N1.set ps (.cells (aP c bs n2 x2))=N2 at tq M2;simp only[ζ.fm,zP]at tq;refine μ.done .normal (fun z=>SS pm d r i c1 c2 c3 c4 s co out z/\SI 2 q v e1 e2 e3 e4 s' z/\z.mem= {ε:=N2.set q (.cells (aS 2 0 (bV [113] (fr+1)) ω ix.four z4 ω ω)),η:=T}) (by
  unfold H0
  simp[SS,SI,h0,h1,h5,l5,h7,bo,bu,h8,h9,aE,l10,Γ,ng,tq,M2.q2,M2.at_,iD,I1,wa,Kf,gY,eV,ζ.eY,Mem.put,Mem.ν,ν,bn,Δ.lo,b3.s_,b3.Im,c7,de]) fun z ⟨z1,z2,z3⟩=>⟨rfl,x2,n2,_,ix,by omega,b3,z1,z2,z3,M2.cell hm hs _⟩
theorem aed(hS:SS pm d r i c1 c2 c3 c4 s co out σ)(hI:SI 3 q v e1 e2 e3 e4 s' σ)(Γ:σ.mem= {ε:=M,η:=T})(hM:MM B pm ps P c bs co lo st fr n x q (aS 3 0 [] ω z4 z4 ω ω) M T)(hn:n<3000000000000000000)(hl:s.cu.length<1000000):
  μ (C u).gl (ab (C u)) DX σ fun z=>(z.1= .exit 1/\SS pm d r i c1 c2 c3 c4 s co out z.2/\z.2.mem= {ε:=M,η:=T})\/z.1= .normal/\∃x' n' M' nm,(n<=n'/\n'<=n+1)/\nm∈s.cu/\SS pm d r i c1 c2 c3 c4 s co out z.2/\SI 3 q v e1 e2 e3 e4 s' z.2/\z.2.mem= {ε:=M',η:=T}/\MM B pm ps P c bs co lo st fr n' x' q (aS 3 0 nm ω z4 z4 ω ω) M' T:=by
 obtain⟨h0,h1,h5,l5,h7,bo,bu⟩:=hS;obtain⟨h8,h9,aE,l10⟩:=hI;by_cases pH:s.cu=[]
 ·refine μ.done (.exit 1) (fun z=>SS pm d r i c1 c2 c3 c4 s co out z/\z.mem= {ε:=M,η:=T}) (by
   unfold DX
   simp[SS,h0,h1,h5,l5,h7,bo,bu,h8,h9,aE,l10,Γ,iD,I0,bw,pH]) fun z ⟨z1,z2⟩=> .inl ⟨rfl,z1,z2⟩
 ·have jL:0<s.cu.length:=pY.2 pH;obtain⟨x2,k,n2,b1,b2,b3,b4,-,ni⟩:=BL (u:=u) hM.kt.ms hb s.cu.length (by omega);have b4:=b4 (by omega);obtain⟨k,rfl⟩:∃j:Nat,k=j:=⟨k.toNat,by omega⟩;have hk:k<s.cu.length:=by omega
  have M2:=hM.draw hs φ n2 x2;generalize M.set ps (.cells (aP c bs n2 x2))=N2 at ni M2;have mB:(s.cu.map AV.str)[k]?=some (.str s.cu[k]):=by rw[od,dp hk];rfl
  have vj:¬(s.cu.length:Int)=0:=by omega
  refine μ.done .normal (fun z=>SS pm d r i c1 c2 c3 c4 s co out z/\SI 3 q v e1 e2 e3 e4 s' z/\z.mem= {ε:=N2.set q (.cells (aS 3 0 s.cu[k] ω z4 z4 ω ω)),η:=T}) (by
   unfold DX
   simp[SS,SI,h0,h1,h5,l5,h7,bo,bu,h8,h9,aE,l10,Γ,hM.ze,bG,ni,M2.q2,M2.at_,iD,I0,bw,pH,vj,b4,hk,wa,gY,eV,Mem.put,Mem.ν,ν,bn,Δ.lo,c7,de,fL]) fun z ⟨z1,z2,z3⟩=> .inr ⟨rfl,x2,n2,_,s.cu[k],by omega,db hk,z1,z2,z3,M2.cell hm hs _⟩
theorem aec(hS:SS pm d r i c1 c2 c3 c4 s co out σ)(hI:SI 6 q v e1 e2 e3 e4 s' σ)(Γ:σ.mem= {ε:=M,η:=T})(hM:MM B pm ps P c bs co lo st fr n x q (aS 6 0 [] ω z4 z4 ω ω) M T)(hn:n<2000000000000000000)(hr:s.aC≠[])(hl:s.aC.length<1000000):
  μ (C u).gl (ab (C u)) H4 σ fun z=>z.1= .normal/\∃x' n' M' p,(n<=n'/\n'<=n+72)/\gE s.aC s.turns p/\SS pm d r i c1 c2 c3 c4 s co out z.2/\SI 6 q v e1 e2 e3 e4 s' z.2/\z.2.mem= {ε:=M',η:=T}/\MM B pm ps P c bs co lo st fr n' x' q (aS 6 0 [] (.list .full [p.av]) z4 z4 ω ω) M' T:=by
 obtain⟨h0,h1,h5,l5,h7,bo,bu⟩:=hS;obtain⟨h8,h9,aE,l10⟩:=hI;obtain⟨x2,n2,p,b1,b2,b3,tn⟩:=Ji (u:=u) hM.kt.ms φ hb c1 c2 c3 c4 s hr (by omega) (by omega);have M2:=hM.draw hs φ n2 x2;generalize M.set ps (.cells (aP c bs n2 x2))=N2 at tn M2;have hp:=b3.fx.ν;have jJ:bn q [AV.list .full [p.av]]=true:=by have:=b3.fx.lo q;simp[bn,Δ.lo,τ.lo,this]
 have dX:shaped true 2 p.av=true:=rfl;refine μ.done .normal (fun z=>SS pm d r i c1 c2 c3 c4 s co out z/\SI 6 q v e1 e2 e3 e4 s' z/\z.mem= {ε:=N2.set q (.cells (aS 6 0 [] (.list .full [p.av]) z4 z4 ω ω)),η:=T}) (by
  unfold H4
  simp[SS,SI,h0,h1,h5,l5,h7,bo,bu,h8,h9,aE,l10,Γ,tn,M2.q2,M2.at_,iD,zB,Fk,gY,eV,Mem.put,Mem.ν,ν,cG,hp,dX,jJ]) fun z ⟨z1,z2,z3⟩=>⟨rfl,x2,n2,_,p,by omega,b3,z1,z2,z3,M2.cell hm hs _⟩
end
section
variable{B:List θ}{pm ps:Nat}{P:AV}{c:τ}{bs:List Nat}{co:τ}{lo st fr n:Nat}{x:Int}{M:List θ}{q:Nat}{L:List AV}{T:List Nat}
variable(hm:pm<B.length)(hs:ps<B.length)(φ:pm≠ps)(hb:bs.length<=300)
variable{d r i:Int}{c1 c2 c3 c4:τ}{s:Sc}{out:List AV}{v:Nat}{σ:St}
theorem CP(cc:τ)(l:List (List Nat))(hl:l.length<1000000)(hc:cc= .nil->l=[])(nm:List Nat)(hM:MM B pm ps P c bs co lo st fr n x q L M T)(hm:pm<B.length)(hs:ps<B.length):
  ∃c' M1 c2 M2,(∀T,kf u 29 [bw cc l] {ε:=M,η:=T}=some (bw c' l,{ε:=M1,η:=T}))/\M1[q]?=some (.cells L)/\(∀T,iq {ε:=M1,η:=T} false 1 16 9 (bw c' l) (.list .full [.str nm])=some (bw c2 (l++[nm]),{ε:=M2,η:=T}))/\MM B pm ps P c bs co lo st fr n x q L M2 T/\c2≠ .nil:=by
 obtain⟨c',M1,q1,r1,Hi⟩:=w29 (u:=u) (M:=M) cc l (by omega) hc B.length hM.kt.len;have Jz:MM B pm ps P c bs co lo st fr n x q L M1 T:=by
  rcases Hi with rfl|rfl
  ·exact hM
  ·exact hM.push _
 obtain⟨c2,M2,q2,r2,-,CT⟩:=xP (bytes:=16) (pl:=l.map AV.str) (v:= .str nm) (ag:=false) (by rw[cz];exact r1) Jz.kt.len (I8 l) rfl rfl (by omega) (by rw[cz];omega) (by rw[cz];omega);refine⟨c',M1,c2,M2,q1,Jz.q2,fun T=>?_,Jz.grow hm hs (sz:=1) (e:=9) (by decide) (by rw[cz]at CT;exact CT),fun h=>?_⟩
 ·simp only[bw,kQ,ax,aI];exact q2 T
 ·rw[cz]at r2;rcases r2 with⟨_,h2⟩|⟨t,rfl,_⟩
  ·omega
  ·cases h
include hm hs φ hb
theorem aea(hS:SS pm d r i c1 c2 c3 c4 s co out σ)(hI:SI 4 q v c1 c2 c3 c4 s σ)(Γ:σ.mem= {ε:=M,η:=T})(hM:MM B pm ps P c bs co lo st fr n x q (aS 4 0 [] ω z4 z4 ω ω) M T)(hn:n<3000000000000000000)(dH:fr<1000000)(hl:s.aC.length<1000000)(hc:c1= .nil->s.aC=[]):
  μ (C u).gl (ab (C u)) H2 σ fun z=>z.1= .normal/\∃x' n' M' ix c',(n<=n'/\n'<=n+35)/\cZ s.turns 4 ix/\SS pm d r i c1 c2 c3 c4 s co out z.2/\SI 4 q v c' c2 c3 c4 (s.mI (bV [114] (fr+1))) z.2/\c'≠ .nil/\z.2.mem= {ε:=M',η:=T}/\MM B pm ps P c bs co lo st (fr+1) n' x' q (aS 4 0 (bV [114] (fr+1)) ω ix.four z4 ω ω) M' T:=by
 obtain⟨h0,h1,h5,l5,h7,bo,bu⟩:=hS;obtain⟨h8,h9,aE,l10⟩:=hI;have ng:=BK (u:=u) hM.kt.ms φ (by omega) [114] (by decide);have M1:=hM.lY hm φ st (fr+1);generalize M.set pm (.cells (bG ps P st (fr+1:Nat)))=N1 at ng M1;have Hp:kF 4=35:=rfl;obtain⟨x2,n2,ix,b1,b2,b3,tq⟩:=Jj (u:=u) M1.kt.ms φ hb c4 s.turns 4 (by omega) (by omega);have M2:=M1.draw hs φ n2 x2;generalize N1.set ps (.cells (aP c bs n2 x2))=N2 at tq M2;simp only[ζ.fm,zP]at tq;generalize jV:bV [114] (fr+1)=nm at*;have M3:=M2.cell hm hs (aS 4 0 nm ω ix.four z4 ω ω);unfold H2;refine Ψ (fun z=>SS pm d r i c1 c2 c3 c4 s co out z/\SI 4 q v c1 c2 c3 c4 s z/\z.mem= {ε:=N2.set q (.cells (aS 4 0 nm ω ix.four z4 ω ω)),η:=T}) (by simp[SS,SI,h0,h1,h5,l5,h7,bo,bu,h8,h9,aE,l10,Γ,ng,tq,M2.q2,M2.at_,iD,I1,wa,Kf,gY,eV,ζ.eY,Mem.put,Mem.ν,ν,bn,Δ.lo,b3.s_,b3.Im,c7,de]) fun z ⟨⟨h0,h1,h5,l5,h7,bo,bu⟩,⟨h8,h9,aE,l10⟩,Γ⟩=>?_;generalize N2.set q (.cells (aS 4 0 nm ω ix.four z4 ω ω))=N3 at M3 Γ;obtain⟨c',N4,cc,N5,OH,MQ,eu,M5,ew⟩:=CP (u:=u) c1 s.aC hl hc nm M3 hm hs;refine μ.done .normal (fun z=>SS pm d r i c1 c2 c3 c4 s co out z/\SI 4 q v cc c2 c3 c4 (s.mI nm) z/\z.mem= {ε:=N5,η:=T}) (by simp[SS,SI,h0,h1,h5,l5,h7,bo,bu,h8,h9,aE,l10,Γ,OH,MQ,eu,M3.q2,iD,zC,OU,Co,gY,eV,ζ.eY,Mem.ν,ν,shaped,AV.one,vM,c7,de,nD,Sc.mI]) fun z ⟨z1,z2,z3⟩=>⟨rfl,x2,n2,_,ix,_,by omega,b3,z1,z2,ew,z3,M5⟩
theorem aeg(hS:SS pm d r i c1 c2 c3 c4 s co out σ)(hI:SI 8 q v c1 c2 c3 c4 s σ)(Γ:σ.mem= {ε:=M,η:=T})(hM:MM B pm ps P c bs co lo st fr n x q (aS 8 0 [] ω z4 z4 ω ω) M T)(hn:n<3000000000000000000)(dH:fr<1000000)(hl:s.turns.length<1000000)(hc:c4= .nil->s.turns=[]):
  μ (C u).gl (ab (C u)) H5 σ fun z=>z.1= .normal/\∃x' n' M' ix iy c',(n<=n'/\n'<=n+30)/\cZ s.turns 3 ix/\cZ s.turns 3 iy/\SS pm d r i c1 c2 c3 c4 s co out z.2/\SI 8 q v c1 c2 c3 c' (s.dZ (bV [105] (fr+1))) z.2/\c'≠ .nil/\z.2.mem= {ε:=M',η:=T}/\MM B pm ps P c bs co lo st (fr+1) n' x' q (aS 8 0 (bV [105] (fr+1)) ω ix.four iy.four ω ω) M' T:=by
 obtain⟨h0,h1,h5,l5,h7,bo,bu⟩:=hS;obtain⟨h8,h9,aE,l10⟩:=hI;have ng:=BK (u:=u) hM.kt.ms φ (by omega) [105] (by decide);have M1:=hM.lY hm φ st (fr+1);generalize M.set pm (.cells (bG ps P st (fr+1:Nat)))=N1 at ng M1;have LZ:kF 3=15:=rfl;obtain⟨x2,n2,ix,b1,b2,b3,tq⟩:=Jj (u:=u) M1.kt.ms φ hb c4 s.turns 3 (by omega) (by omega);have M2:=M1.draw hs φ n2 x2;generalize N1.set ps (.cells (aP c bs n2 x2))=N2 at tq M2;obtain⟨x3,n3,iy,d1,d2,d3,OJ⟩:=Jj (u:=u) M2.kt.ms φ hb c4 s.turns 3 (by omega) (by omega);have M3:=M2.draw hs φ n3 x3;generalize N2.set ps (.cells (aP c bs n3 x3))=N3 at OJ M3;simp only[ζ.fm,zP]at tq OJ;generalize jV:bV [105] (fr+1)=nm at*;have M4:=M3.cell hm hs (aS 8 0 nm ω ix.four iy.four ω ω);unfold H5;refine Ψ (fun z=>SS pm d r i c1 c2 c3 c4 s co out z/\SI 8 q v c1 c2 c3 c4 s z/\z.mem= {ε:=N3.set q (.cells (aS 8 0 nm ω ix.four iy.four ω ω)),η:=T}) (by simp[SS,SI,h0,h1,h5,l5,h7,bo,bu,h8,h9,aE,l10,Γ,ng,tq,OJ,M3.q2,M3.at_,iD,I1,wa,Kf,Ze,gY,eV,ζ.eY,Mem.put,Mem.ν,ν,bn,Δ.lo,b3.s_,b3.Im,d3.s_,d3.Im,c7,de]) fun z ⟨⟨h0,h1,h5,l5,h7,bo,bu⟩,⟨h8,h9,aE,l10⟩,Γ⟩=>?_;generalize N3.set q (.cells (aS 8 0 nm ω ix.four iy.four ω ω))=N4 at M4 Γ;obtain⟨c',N5,cc,N6,OH,MQ,eu,M6,ew⟩:=CP (u:=u) c4 s.turns hl hc nm M4 hm hs;refine μ.done .normal (fun z=>SS pm d r i c1 c2 c3 c4 s co out z/\SI 8 q v c1 c2 c3 cc (s.dZ nm) z/\z.mem= {ε:=N6,η:=T}) (by simp[SS,SI,h0,h1,h5,l5,h7,bo,bu,h8,h9,aE,l10,Γ,OH,MQ,eu,M4.q2,iD,I1,aiK,Co,gY,eV,ζ.eY,Mem.ν,ν,shaped,AV.one,vM,c7,de,nD,Sc.dZ]) fun z ⟨z1,z2,z3⟩=>⟨rfl,x3,n3,_,ix,iy,_,by omega,b3,d3,z1,z2,ew,z3,M6⟩
theorem aei{e1 e2 e3 e4:τ}{s':Sc}(hS:SS pm d r i c1 c2 c3 c4 s co out σ)(hI:SI 7 q v e1 e2 e3 e4 s' σ)(Γ:σ.mem= {ε:=M,η:=T})(hM:MM B pm ps P c bs co lo st fr n x q (aS 7 0 [] ω z4 z4 ω ω) M T)(hn:n<3000000000000000000)(hl:s.bits.length<1000000):
  μ (C u).gl (ab (C u)) DY σ fun z=>(z.1= .exit 1/\SS pm d r i c1 c2 c3 c4 s co out z.2/\z.2.mem= {ε:=M,η:=T})\/z.1= .normal/\∃x' n' M' nm,(n<=n'/\n'<=n+1)/\nm∈s.bits/\SS pm d r i c1 c2 c3 c4 s co out z.2/\SI 7 q v e1 e2 e3 e4 s' z.2/\z.2.mem= {ε:=M',η:=T}/\MM B pm ps P c bs co lo st fr n' x' q (aS 7 0 nm ω z4 z4 ω ω) M' T:=by
 obtain⟨h0,h1,h5,l5,h7,bo,bu⟩:=hS;obtain⟨h8,h9,aE,l10⟩:=hI;by_cases pH:s.bits=[]
 ·refine μ.done (.exit 1) (fun z=>SS pm d r i c1 c2 c3 c4 s co out z/\z.mem= {ε:=M,η:=T}) (by
   unfold DY
   simp[SS,h0,h1,h5,l5,h7,bo,bu,h8,h9,aE,l10,Γ,iD,zD,bw,pH]) fun z ⟨z1,z2⟩=> .inl ⟨rfl,z1,z2⟩
 ·have jL:0<s.bits.length:=pY.2 pH;obtain⟨x2,k,n2,b1,b2,b3,b4,-,ni⟩:=BL (u:=u) hM.kt.ms hb s.bits.length (by omega);have b4:=b4 (by omega);obtain⟨k,rfl⟩:∃j:Nat,k=j:=⟨k.toNat,by omega⟩;have hk:k<s.bits.length:=by omega
  have M2:=hM.draw hs φ n2 x2;generalize M.set ps (.cells (aP c bs n2 x2))=N2 at ni M2;have mB:(s.bits.map AV.str)[k]?=some (.str s.bits[k]):=by rw[od,dp hk];rfl
  have vj:¬(s.bits.length:Int)=0:=by omega
  refine μ.done .normal (fun z=>SS pm d r i c1 c2 c3 c4 s co out z/\SI 7 q v e1 e2 e3 e4 s' z/\z.mem= {ε:=N2.set q (.cells (aS 7 0 s.bits[k] ω z4 z4 ω ω)),η:=T}) (by
   unfold DY
   simp[SS,SI,h0,h1,h5,l5,h7,bo,bu,h8,h9,aE,l10,Γ,hM.ze,bG,ni,M2.q2,M2.at_,iD,zD,bw,pH,vj,b4,hk,wa,gY,eV,Mem.put,Mem.ν,ν,bn,Δ.lo,c7,de,fL]) fun z ⟨z1,z2,z3⟩=> .inr ⟨rfl,x2,n2,_,s.bits[k],by omega,db hk,z1,z2,z3,M2.cell hm hs _⟩
theorem aef{e1 e2 e3 e4:τ}{s':Sc}(hS:SS pm d r i c1 c2 c3 c4 s co out σ)(hI:SI 5 q v e1 e2 e3 e4 s' σ)(Γ:σ.mem= {ε:=M,η:=T})(hM:MM B pm ps P c bs co lo st fr n x q (aS 5 0 [] ω z4 z4 ω ω) M T)(hn:n<2000000000000000000)(dH:fr<1000000)(hl:s.bits.length<1000000)(hr:s.aC≠[])(MW:s.aC.length<1000000):
  μ (C u).gl (ab (C u)) H3 σ fun z=>z.1= .normal/\∃x' n' M' p nm,(n<=n'/\n'<=n+74)/\gE s.aC s.turns p/\(nm=bV [98] (fr+1)\/nm∈s.bits)/\SS pm d r i c1 c2 c3 c4 s co out z.2/\SI 5 q v e1 e2 e3 e4 s' z.2/\z.2.mem= {ε:=M',η:=T}/\MM B pm ps P c bs co lo st (fr+1) n' x' q (aS 5 0 nm (.list .full [p.av]) z4 z4 ω ω) M' T:=by
 obtain⟨h0,h1,h5,l5,h7,bo,bu⟩:=hS;obtain⟨h8,h9,aE,l10⟩:=hI;obtain⟨x2,n2,p,b1,b2,b3,tn⟩:=Ji (u:=u) hM.kt.ms φ hb c1 c2 c3 c4 s hr (by omega) (by omega);have M1:=hM.draw hs φ n2 x2;generalize M.set ps (.cells (aP c bs n2 x2))=N1 at tn M1;have ng:=BK (u:=u) M1.kt.ms φ (by omega) [98] (by decide);have M2:=M1.lY hm φ st (fr+1);generalize N1.set pm (.cells (bG ps P st (fr+1:Nat)))=N2 at ng M2;generalize jV:bV [98] (fr+1)=nm at*;have hp:=b3.fx.ν;have jJ:bn q [AV.list .full [p.av]]=true:=by have:=b3.fx.lo q;simp[bn,Δ.lo,τ.lo,this]
 have dX:shaped true 2 p.av=true:=rfl;have M3:=M2.cell hm hs (aS 5 0 nm (.list .full [p.av]) z4 z4 ω ω);unfold H3;refine Ψ (fun z=>SS pm d r i c1 c2 c3 c4 s co out z/\SI 5 q v e1 e2 e3 e4 s' z/\z.mem= {ε:=N2.set q (.cells (aS 5 0 nm (.list .full [p.av]) z4 z4 ω ω)),η:=T}) (by simp[SS,SI,h0,h1,h5,l5,h7,bo,bu,h8,h9,aE,l10,Γ,tn,ng,M2.q2,M2.at_,iD,zB,wa,Fk,gY,eV,Mem.put,Mem.ν,ν,cG,hp,dX,jJ,bn,Δ.lo]) fun z ⟨⟨h0,h1,h5,l5,h7,bo,bu⟩,⟨h8,h9,aE,l10⟩,Γ⟩=>?_;generalize N2.set q (.cells (aS 5 0 nm (.list .full [p.av]) z4 z4 ω ω))=N3 at M3 Γ;refine Ψ (fun z=>∃x' n' N t,(n2<=n'/\n'<=n2+1/\(t=true->s.bits≠[]))/\MM B pm ps P c bs co lo st (fr+1) n' x' q (aS 5 0 nm (.list .full [p.av]) z4 z4 ω ω) N T/\SS pm d r i c1 c2 c3 c4 s co out z/\SI 5 q v e1 e2 e3 e4 s' z/\z.mem= {ε:=N,η:=T}/\z.e 171= .bool t) ?_ fun z ⟨x',n',N4,t,⟨g1,g2,g3⟩,M4,⟨h0,h1,h5,l5,h7,bo,bu⟩,⟨h8,h9,aE,l10⟩,Γ,SU⟩=>?_
 ·by_cases pH:s.bits=[]
  ·exact wi (P:=fun z=>SS pm d r i c1 c2 c3 c4 s co out z/\SI 5 q v e1 e2 e3 e4 s' z/\z.mem= {ε:=N3,η:=T}/\z.e 171= .bool false) (by simp[SS,SI,h0,h1,h5,l5,h7,bo,bu,h8,h9,aE,l10,Γ,iD,zD,bw,pH]) fun z hz=>⟨x2,n2,N3,false,⟨Nat.le_refl _,by omega,fun h=>(by cases h)⟩,M3,hz⟩
  ·have jL:0<s.bits.length:=pY.2 pH;obtain⟨x3,t,n3,d1,d2,Wq⟩:=ajn (u:=u) M3.kt.ms hb 3 (by omega);have M4:=M3.draw hs φ n3 x3;generalize N3.set ps (.cells (aP c bs n3 x3))=N4 at Wq M4;exact wi (P:=fun z=>SS pm d r i c1 c2 c3 c4 s co out z/\SI 5 q v e1 e2 e3 e4 s' z/\z.mem= {ε:=N4,η:=T}/\z.e 171= .bool t) (by simp[SS,SI,h0,h1,h5,l5,h7,bo,bu,h8,h9,aE,l10,Γ,iD,zD,bw,jL,M3.ze,bG,Wq]) fun z hz=>⟨x3,n3,N4,t,⟨d1,d2,fun _=>pH⟩,M4,hz⟩
 ·cases t with
  |false=>refine μ.no (by simp[SU]) (μ.done .normal (fun z=>SS pm d r i c1 c2 c3 c4 s co out z/\SI 5 q v e1 e2 e3 e4 s' z/\z.mem= {ε:=N4,η:=T}) (by simp[SS,SI,h0,h1,h5,l5,h7,bo,bu,h8,h9,aE,l10,Γ]) fun z ⟨z1,z2,z3⟩=>⟨rfl,x',n',_,p,nm,by omega,b3,.inl rfl,z1,z2,z3,M4⟩)
  |true=>
   have pH:=g3 rfl
   have jL:0<s.bits.length:=pY.2 pH;obtain⟨x5,k,n5,d1,d2,d3,d4,-,ni⟩:=BL (u:=u) M4.kt.ms hb s.bits.length (by omega);have d4:=d4 (by omega);obtain⟨k,rfl⟩:∃j:Nat,k=j:=⟨k.toNat,by omega⟩;have hk:k<s.bits.length:=by omega
   have M5:=M4.draw hs φ n5 x5;generalize N4.set ps (.cells (aP c bs n5 x5))=N5 at ni M5;have mB:(s.bits.map AV.str)[k]?=some (.str s.bits[k]):=by rw[od,dp hk];rfl
   refine μ.yes (by simp[SU]) (μ.done .normal (fun z=>SS pm d r i c1 c2 c3 c4 s co out z/\SI 5 q v e1 e2 e3 e4 s' z/\z.mem= {ε:=N5.set q (.cells (aS 5 0 s.bits[k] (.list .full [p.av]) z4 z4 ω ω)),η:=T}) (by simp[SS,SI,h0,h1,h5,l5,h7,bo,bu,h8,h9,aE,l10,Γ,M4.ze,bG,ni,M5.q2,M5.at_,iD,zD,bw,pH,d4,hk,wa,gY,eV,Mem.put,Mem.ν,ν,bn,Δ.lo,c7,de,fL]) fun z ⟨z1,z2,z3⟩=>⟨rfl,x5,n5,_,p,s.bits[k],by omega,b3,.inr (db hk),z1,z2,z3,M5.cell hm hs _⟩)
end
theorem ZV{v:AV}{t:List Nat}(h:ej v= .str t):v= .str t:=by cases v<;>simp[ej]at h;rw[h]
theorem ZU{v:AV}{c:τ}{l:List AV}(h:ej v= .list c l):∃c' l',v= .list c' l'/\l'.length=l.length:=by cases v<;>simp[ej]at h;rename_i c' l';exact⟨c',l',rfl,by rw[<-h.2,Al];simp⟩
theorem ZT{v:AV}{l:List AV}(h:ej v= .agg l):∃l',v= .agg l'/\l'.map ej=l:=by cases v<;>simp[ej]at h;rename_i l';exact⟨l',rfl,by rw[<-h,Al]⟩
theorem ahi{Ps:List AV}{l:List ξ}(h:bL Ps (l.map ξ.av)){j:Nat}(hj:j<l.length):∃c' l' b',Ps[j]?=some (.agg [.str l[j].name,.list c' l',b'])/\l'.length=l[j].au.length:=by
 have hlen:=h.len;rw[cz]at hlen;have TQ:j<Ps.length:=by omega
 have e:ej Ps[j]=ξ.av l[j]:=by have h2:=h.2;rw[Al]at h2;have:=congrArg (fun k=>k[j]?) h2;simpa[hj,TQ]using this
 obtain⟨A,hA,e⟩:=ZT e;have hl:A.length=3:=by have:=congrArg List.length e;simpa using this
 obtain⟨a,b,d,rfl⟩:∃a b d,A=[a,b,d]:=by
  match A,hl with
  |[a,b,d],_=>exact⟨a,b,d,rfl⟩
 simp only[ax,aI,List.cons.injEq,and_true]at e;obtain⟨c',l',rfl,fO⟩:=ZU e.2.1;refine⟨c',l',d,?_,by rw[fO];simp⟩;rw[dp TQ,hA,ZV e.1]
section
variable{B:List θ}{pm ps:Nat}{P:AV}{c:τ}{bs:List Nat}{co:τ}{lo st fr n:Nat}{x:Int}{M:List θ}{q:Nat}{L:List AV}{T:List Nat}
theorem zw{N:Nat}{sz:Nat}{e:TypeId}{cp:τ}{k:Nat}(h:Go.Δ.Row N M sz e cp k)(ms:MS pm ps P c bs st fr n x M)(b:θ):Go.Δ.Row N (M.set ps b) sz e cp k:=
 h.ba fun t k ht=>by
  have:ps≠t:=fun e=>by rw[<-e,ms.s]at ht;cases ht
  rw[gN this];exact ht
theorem OP{N:Nat}{sz:Nat}{e:TypeId}{cp:τ}{k:Nat}(h:Go.Δ.Row N M sz e cp k){q:Nat}{L:List AV}(hq:M[q]?=some (.cells L))(b:θ):Go.Δ.Row N (M.set q b) sz e cp k:=
 h.ba fun t k ht=>by
  have:q≠t:=fun e=>by rw[<-e,hq]at ht;cases ht
  rw[gN this];exact ht
theorem Wc(l:List ρ):(l.map ρ.av).all (shaped true 2)=true:=by rw[List.all_eq_true];intro y hy;obtain⟨p,-,rfl⟩:=fb.1 hy;rfl
variable(hm:pm<B.length)(hs:ps<B.length)(φ:pm≠ps)(hb:bs.length<=300)
variable{d r i:Int}{c1 c2 c3 c4:τ}{s:Sc}{out:List AV}{v:Nat}{e1 e2 e3 e4:τ}{s':Sc}{σ:St}
include hm hs φ hb
theorem agV{k g:Int}{nm:List Nat}(m:Nat)(abE:m<=20)(hS:SS pm d r i c1 c2 c3 c4 s co out σ)(hI:SI k q v e1 e2 e3 e4 s' σ)(u3:σ.e 92= .n (m:Int))(u4:σ.e 93= .n 0)(Γ:σ.mem= {ε:=M,η:=T})(hM:MM B pm ps P c bs co lo st fr n x q (aS k g nm ω z4 z4 ω ω) M T)(hn:n<2000000000000000000)(hr:s.aC≠[])(hl:s.aC.length<1000000):
  μ (C u).gl (ab (C u)) (.block 3 (.loop Nx)) σ fun z=>z.1= .normal/\∃x' n' M' T' cp,∃l:List ρ,(n<=n'/\n'<=n+72*m)/\l.length=m/\(∀p∈l,gE s.aC s.turns p)/\SS pm d r i c1 c2 c3 c4 s co out z.2/\SI k q v e1 e2 e3 e4 s' z.2/\z.2.mem= {ε:=M',η:=T'}/\MM B pm ps P c bs co lo st fr n' x' q (aS k g nm (.list cp (l.map ρ.av)) z4 z4 ω ω) M' T'/\cp.exp 0 false=Ξ l:=by
 let I:Nat->St->Prop:=fun j z=>∃x' n' M' T' cp,∃l:List ρ,(n<=n'/\n'<=n+72*j)/\l.length=j/\(∀p∈l,gE s.aC s.turns p)/\SS pm d r i c1 c2 c3 c4 s co out z/\SI k q v e1 e2 e3 e4 s' z/\z.mem= {ε:=M',η:=T'}/\MM B pm ps P c bs co lo st fr n' x' q (aS k g nm (.list cp (l.map ρ.av)) z4 z4 ω ω) M' T'/\Go.Δ.Row B.length M' 2 74 cp l.length/\cp.exp 0 false=Ξ l/\z.e 92= .n (m:Int)/\z.e 93= .n (j:Int);refine μ.block (μ.lH (I:=I) m ⟨x,n,M,T,.nil,[],by omega,rfl,by simp,hS,hI,Γ,hM,Go.Δ.Row.nil,rfl,u3,by simpa using u4⟩ fun j z hj ⟨x',n',M',T',cp,l,l1,l2,l3,hS,hI,Γ,hM,hR,mz,u3,u4⟩=>?_);obtain⟨h0,h1,h5,l5,h7,bo,bu⟩:=hS;obtain⟨h8,h9,aE,l10⟩:=hI;unfold Nx;by_cases yD:j<m
 ·have ly:(j:Int)<m:=by omega
  have kj:bN .i64 ((j:Int)+1)=(j:Int)+1:=wrap_i64 (by omega) (by omega);obtain⟨x2,n2,p,b1,b2,b3,tn⟩:=Ji (u:=u) hM.kt.ms φ hb c1 c2 c3 c4 s hr (by omega) (by omega);have M2:=hM.draw hs φ n2 x2;have R2:=zw hR hM.kt.ms (.cells (aP c bs n2 x2));generalize M'.set ps (.cells (aP c bs n2 x2))=N2 at tn M2 R2;have hp:=b3.fx.ν;have dX:shaped true 2 p.av=true:=rfl;obtain⟨cc,N3,eu,R3,ew,yl⟩:=xP (bytes:=40) (pl:=l.map ρ.av) (v:=p.av) (ag:=true) (by rw[cz];exact R2) M2.kt.len (Wc l) dX hp (by omega) (by rw[cz];omega) (by rw[cz];omega);have M3:=M2.grow hm hs (sz:=2) (e:=74) (by decide) yl;have M4:=(M3.cell hm hs (aS k g nm (.list cc (l.map ρ.av++[p.av])) z4 z4 ω ω)).EI (bn q [AV.list cc (l.map ρ.av++[p.av])]);have R4:=OP R3 M3.q2 (.cells (aS k g nm (.list cc (l.map ρ.av++[p.av])) z4 z4 ω ω));have eI:cG (l.map ρ.av++[p.av])=l.map ρ.av++[p.av]:=by rw[fH,kQ,cT,ax,aI,hp];congr 1;exact dh fun y hy=>(l3 y hy).fx.ν
  refine μ.done .normal (fun z=>SS pm d r i c1 c2 c3 c4 s co out z/\SI k q v e1 e2 e3 e4 s' z/\z.mem= {ε:=N3.set q (.cells (aS k g nm (.list cc (l.map ρ.av++[p.av])) z4 z4 ω ω)),η:=if bn q [AV.list cc (l.map ρ.av++[p.av])]=true then T' else q::T'}/\z.e 92= .n (m:Int)/\z.e 93= .n ((j:Int)+1)) (by simp[SS,SI,h0,h1,h5,l5,h7,bo,bu,h8,h9,aE,l10,u3,u4,ly,yD,kj,Γ,tn,hM.q2,M2.q2,M3.q2,M3.at_,iD,zB,Rf,Fk,gY,eV,eu,Mem.put,Mem.ν,ν,eI,hp,dX,c7,de,nD]) fun z ⟨z1,z2,z3,z4,z5⟩=> .inl ⟨rfl,yD,x2,n2,_,_,cc,l++[p],by omega,by simp[l2],?_,z1,z2,z3,?_,?_,(by rw[ew];cases l<;>rfl),z4,by rw[z5];simp⟩
  ·intro y hy;rcases dQ.1 hy with hy|hy
   ·exact l3 y hy
   ·rw[fY.1 hy];exact b3
  ·simpa using M4
  ·simpa using R4
 ·have ly:¬(j:Int)<m:=by omega
  obtain rfl:j=m:=by omega
  exact μ.done (.exit 3) (fun z=>SS pm d r i c1 c2 c3 c4 s co out z/\SI k q v e1 e2 e3 e4 s' z/\z.mem= {ε:=M',η:=T'}) (by simp[SS,SI,h0,h1,h5,l5,h7,bo,bu,h8,h9,aE,l10,u3,u4,Γ]) fun z ⟨z1,z2,z3⟩=> .inr ⟨by simp,.inl ⟨rfl,rfl,x',n',M',T',cp,l,l1,l2,l3,z1,z2,z3,hM,mz⟩⟩
theorem agW{k g:Int}{nm:List Nat}(m:Nat)(abE:m<=20)(hS:SS pm d r i c1 c2 c3 c4 s co out σ)(hI:SI k q v e1 e2 e3 e4 s' σ)(u3:σ.e 266= .n (m:Int))(u4:σ.e 267= .n 0)(Γ:σ.mem= {ε:=M,η:=T})(hM:MM B pm ps P c bs co lo st fr n x q (aS k g nm ω z4 z4 ω ω) M T)(hn:n<2000000000000000000)(hr:s.aC≠[])(hl:s.aC.length<1000000):
  μ (C u).gl (ab (C u)) (.block 5 (.loop Ny)) σ fun z=>z.1= .normal/\∃x' n' M' T' cp,∃l:List ρ,(n<=n'/\n'<=n+72*m)/\l.length=m/\(∀p∈l,gE s.aC s.turns p)/\SS pm d r i c1 c2 c3 c4 s co out z.2/\SI k q v e1 e2 e3 e4 s' z.2/\z.2.mem= {ε:=M',η:=T'}/\MM B pm ps P c bs co lo st fr n' x' q (aS k g nm (.list cp (l.map ρ.av)) z4 z4 ω ω) M' T'/\cp.exp 0 false=Ξ l:=by
 let I:Nat->St->Prop:=fun j z=>∃x' n' M' T' cp,∃l:List ρ,(n<=n'/\n'<=n+72*j)/\l.length=j/\(∀p∈l,gE s.aC s.turns p)/\SS pm d r i c1 c2 c3 c4 s co out z/\SI k q v e1 e2 e3 e4 s' z/\z.mem= {ε:=M',η:=T'}/\MM B pm ps P c bs co lo st fr n' x' q (aS k g nm (.list cp (l.map ρ.av)) z4 z4 ω ω) M' T'/\Go.Δ.Row B.length M' 2 74 cp l.length/\cp.exp 0 false=Ξ l/\z.e 266= .n (m:Int)/\z.e 267= .n (j:Int);refine μ.block (μ.lH (I:=I) m ⟨x,n,M,T,.nil,[],by omega,rfl,by simp,hS,hI,Γ,hM,Go.Δ.Row.nil,rfl,u3,by simpa using u4⟩ fun j z hj ⟨x',n',M',T',cp,l,l1,l2,l3,hS,hI,Γ,hM,hR,mz,u3,u4⟩=>?_);obtain⟨h0,h1,h5,l5,h7,bo,bu⟩:=hS;obtain⟨h8,h9,aE,l10⟩:=hI;unfold Ny;by_cases yD:j<m
 ·have ly:(j:Int)<m:=by omega
  have kj:bN .i64 ((j:Int)+1)=(j:Int)+1:=wrap_i64 (by omega) (by omega);obtain⟨x2,n2,p,b1,b2,b3,tn⟩:=Ji (u:=u) hM.kt.ms φ hb c1 c2 c3 c4 s hr (by omega) (by omega);have M2:=hM.draw hs φ n2 x2;have R2:=zw hR hM.kt.ms (.cells (aP c bs n2 x2));generalize M'.set ps (.cells (aP c bs n2 x2))=N2 at tn M2 R2;have hp:=b3.fx.ν;have dX:shaped true 2 p.av=true:=rfl;obtain⟨cc,N3,eu,R3,ew,yl⟩:=xP (bytes:=40) (pl:=l.map ρ.av) (v:=p.av) (ag:=true) (by rw[cz];exact R2) M2.kt.len (Wc l) dX hp (by omega) (by rw[cz];omega) (by rw[cz];omega);have M3:=M2.grow hm hs (sz:=2) (e:=74) (by decide) yl;have M4:=(M3.cell hm hs (aS k g nm (.list cc (l.map ρ.av++[p.av])) z4 z4 ω ω)).EI (bn q [AV.list cc (l.map ρ.av++[p.av])]);have R4:=OP R3 M3.q2 (.cells (aS k g nm (.list cc (l.map ρ.av++[p.av])) z4 z4 ω ω));have eI:cG (l.map ρ.av++[p.av])=l.map ρ.av++[p.av]:=by rw[fH,kQ,cT,ax,aI,hp];congr 1;exact dh fun y hy=>(l3 y hy).fx.ν
  refine μ.done .normal (fun z=>SS pm d r i c1 c2 c3 c4 s co out z/\SI k q v e1 e2 e3 e4 s' z/\z.mem= {ε:=N3.set q (.cells (aS k g nm (.list cc (l.map ρ.av++[p.av])) z4 z4 ω ω)),η:=if bn q [AV.list cc (l.map ρ.av++[p.av])]=true then T' else q::T'}/\z.e 266= .n (m:Int)/\z.e 267= .n ((j:Int)+1)) (by simp[SS,SI,h0,h1,h5,l5,h7,bo,bu,h8,h9,aE,l10,u3,u4,ly,yD,kj,Γ,tn,hM.q2,M2.q2,M3.q2,M3.at_,iD,zB,Rf,Fk,gY,eV,eu,Mem.put,Mem.ν,ν,eI,hp,dX,c7,de,nD]) fun z ⟨z1,z2,z3,z4,z5⟩=> .inl ⟨rfl,yD,x2,n2,_,_,cc,l++[p],by omega,by simp[l2],?_,z1,z2,z3,?_,?_,(by rw[ew];cases l<;>rfl),z4,by rw[z5];simp⟩
  ·intro y hy;rcases dQ.1 hy with hy|hy
   ·exact l3 y hy
   ·rw[fY.1 hy];exact b3
  ·simpa using M4
  ·simpa using R4
 ·have ly:¬(j:Int)<m:=by omega
  obtain rfl:j=m:=by omega
  exact μ.done (.exit 5) (fun z=>SS pm d r i c1 c2 c3 c4 s co out z/\SI k q v e1 e2 e3 e4 s' z/\z.mem= {ε:=M',η:=T'}) (by simp[SS,SI,h0,h1,h5,l5,h7,bo,bu,h8,h9,aE,l10,u3,u4,Γ]) fun z ⟨z1,z2,z3⟩=> .inr ⟨by simp,.inl ⟨rfl,rfl,x',n',M',T',cp,l,l1,l2,l3,z1,z2,z3,hM,mz⟩⟩
theorem aee(hS:SS pm d r i c1 c2 c3 c4 s co out σ)(hI:SI 1 q v e1 e2 e3 e4 s' σ)(Γ:σ.mem= {ε:=M,η:=T})(hM:MM B pm ps P c bs co lo st fr n x q (aS 1 0 [] ω z4 z4 ω ω) M T)(hn:n<1000000000000000000)(hr:s.aC≠[])(hl:s.aC.length<1000000):
  μ (C u).gl (ab (C u)) HZ σ fun z=>z.1= .normal/\∃x' n' M' T' g cp,∃l:List ρ,(n<=n'/\n'<=n+280)/\(1<=g/\g<=12)/\l.length=ga g/\(∀p∈l,gE s.aC s.turns p)/\SS pm d r i c1 c2 c3 c4 s co out z.2/\SI 1 q v e1 e2 e3 e4 s' z.2/\z.2.mem= {ε:=M',η:=T'}/\MM B pm ps P c bs co lo st fr n' x' q (aS 1 g [] (.list cp (l.map ρ.av)) z4 z4 ω ω) M' T'/\cp.exp 0 false=Ξ l:=by
 obtain⟨h0,h1,h5,l5,h7,bo,bu⟩:=hS;obtain⟨h8,h9,aE,l10⟩:=hI;obtain⟨x2,g,n2,b1,b2,b3,b4,uB⟩:=Jh (u:=u) hM.kt.ms hb 1 12 (by omega) (by omega) (by omega) (by omega);have M2:=hM.draw hs φ n2 x2;generalize M.set ps (.cells (aP c bs n2 x2))=N2 at uB M2;have M3:=M2.cell hm hs (aS 1 g [] ω z4 z4 ω ω);have ahu:=f183 (u:=u) g ⟨b3,b4⟩;have har:ga g<=3:=by
  unfold ga;split
  ·omega
  ·split<;>omega
 unfold HZ;refine Ψ (fun z=>SS pm d r i c1 c2 c3 c4 s co out z/\SI 1 q v e1 e2 e3 e4 s' z/\z.mem= {ε:=N2.set q (.cells (aS 1 g [] ω z4 z4 ω ω)),η:=T}) (by simp[SS,SI,h0,h1,h5,l5,h7,bo,bu,h8,h9,aE,l10,Γ,hM.ze,bG,uB,M2.q2,M2.at_,Zc,gY,eV,Mem.put,Mem.ν,ν,bn,Δ.lo]) fun z ⟨⟨h0,h1,h5,l5,h7,bo,bu⟩,⟨h8,h9,aE,l10⟩,Γ⟩=>?_;generalize N2.set q (.cells (aS 1 g [] ω z4 z4 ω ω))=N3 at M3 Γ;refine Ψ (fun z=>SS pm d r i c1 c2 c3 c4 s co out z/\SI 1 q v e1 e2 e3 e4 s' z/\z.mem= {ε:=N3,η:=T}/\z.e 92= .n (ga g:Int)/\z.e 93= .n 0) (by simp[SS,SI,h0,h1,h5,l5,h7,bo,bu,h8,h9,aE,l10,Γ,M3.q2,Zf,gY,eV,ahu]) fun z ⟨z1,z2,z3,z4,z5⟩=>?_;refine μ.mono (agV (u:=u) hm hs φ hb (ga g) (by omega) z1 z2 z4 z5 z3 M3 (by omega) hr hl) fun z ⟨y1,x',n',M',T',cp,l,y2,y3,y4,y5,y6,y7,y8,y9⟩=>⟨y1,x',n',M',T',g,cp,l,by omega,⟨b3,b4⟩,y3,y4,y5,y6,y7,y8,y9⟩
theorem aeb{cP:τ}{Ps:List AV}{bc:List ξ}(hP:P= .list cP Ps)(kU:bL Ps (bc.map ξ.av))(gI:∀y∈bc,y.au.length<=3)(dS:bc.length<1000000)(hS:SS pm d r i c1 c2 c3 c4 s co out σ)(hI:SI 9 q v e1 e2 e3 e4 s' σ)(Γ:σ.mem= {ε:=M,η:=T})(hM:MM B pm ps P c bs co lo st fr n x q (aS 9 0 [] ω z4 z4 ω ω) M T)(hn:n<1000000000000000000)(hr:s.aC≠[])(hl:s.aC.length<1000000):
  μ (C u).gl (ab (C u)) H6 σ fun z=>(z.1= .exit 1/\SS pm d r i c1 c2 c3 c4 s co out z.2/\z.2.mem= {ε:=M,η:=T})\/z.1= .normal/\∃x' n' M' T' nm k cp,∃l:List ρ,(n<=n'/\n'<=n+280)/\(nm,k)∈kZ bc/\l.length=k/\(∀p∈l,gE s.aC s.turns p)/\SS pm d r i c1 c2 c3 c4 s co out z.2/\SI 9 q v e1 e2 e3 e4 s' z.2/\z.2.mem= {ε:=M',η:=T'}/\MM B pm ps P c bs co lo st fr n' x' q (aS 9 0 nm (.list cp (l.map ρ.av)) z4 z4 ω ω) M' T'/\cp.exp 0 false=Ξ l:=by
 obtain⟨h0,h1,h5,l5,h7,bo,bu⟩:=hS;obtain⟨h8,h9,aE,l10⟩:=hI;have hlen:Ps.length=bc.length:=by rw[kU.len,cz]
 have qp:=hM.ze;rw[hP]at qp;unfold H6;by_cases Ut:bc=[]
 ·have hP0:Ps=[]:=List.eq_nil_of_length_eq_zero (by rw[hlen,Ut];rfl);refine bS (fun _=>False) (μ.done (.exit 1) (fun z=>SS pm d r i c1 c2 c3 c4 s co out z/\z.mem= {ε:=M,η:=T}) (by simp[SS,h0,h1,h5,l5,h7,bo,bu,h8,h9,aE,l10,Γ,qp,bG,hP0]) fun z ⟨z1,z2⟩=> .inr ⟨by simp,.inl ⟨rfl,z1,z2⟩⟩) fun z hz=>hz.elim
 ·have jL:0<bc.length:=pY.2 Ut;obtain⟨x2,k,n2,b1,b2,b3,b4,-,ni⟩:=BL (u:=u) hM.kt.ms hb bc.length (by omega);have b4:=b4 (by omega);obtain⟨k,rfl⟩:∃j:Nat,k=j:=⟨k.toNat,by omega⟩;have hk:k<bc.length:=by omega
  have HA:k<Ps.length:=by omega
  have M2:=hM.draw hs φ n2 x2;generalize M.set ps (.cells (aP c bs n2 x2))=N2 at ni M2;have Ue:=M2.ze;rw[hP]at Ue;obtain⟨cq,pl,bq,mB,MN⟩:=ahi kU hk;have abn:Ps[k]= .agg [.str bc[k].name,.list cq pl,bq]:=by rw[dp HA]at mB;exact Option.some.inj mB
  have aaS:¬Ps=[]:=fun h=>by rw[h]at HA;cases HA
  have ajQ:¬(Ps.length:Int)=0:=by omega
  have Ms:(k:Int)<Ps.length:=by omega
  have aka:=gI bc[k] (db hk);rw[<-hlen]at ni;refine Ψ (fun z=>SS pm d r i c1 c2 c3 c4 s co out z/\SI 9 q v e1 e2 e3 e4 s' z/\z.mem= {ε:=M,η:=T}) (by simp[SS,SI,h0,h1,h5,l5,h7,bo,bu,h8,h9,aE,l10,Γ,qp,bG,aaS]) fun z ⟨⟨h0,h1,h5,l5,h7,bo,bu⟩,⟨h8,h9,aE,l10⟩,Γ⟩=>?_;refine Ψ (fun z=>SS pm d r i c1 c2 c3 c4 s co out z/\SI 9 q v e1 e2 e3 e4 s' z/\z.mem= {ε:=N2,η:=T}/\∃w,z.e 11= .ak 11 w 0/\z.q 11=some (w,.cells [.str bc[k].name,.list cq pl,bq])) (by
   generalize hw:bJ (bR z.loc) 11=w
   simp[SS,SI,h0,h1,h5,l5,h7,bo,bu,h8,h9,aE,l10,Γ,qp,Ue,bG,ni,Ms,HA,mB,abn,newVar,hw,dk,c7,uV,de,nD]) fun z ⟨⟨h0,h1,h5,l5,h7,bo,bu⟩,⟨h8,h9,aE,l10⟩,Γ,w,cH,Nu⟩=>?_
  have M3:=M2.cell hm hs (aS 9 0 bc[k].name ω z4 z4 ω ω);refine Ψ (fun z=>SS pm d r i c1 c2 c3 c4 s co out z/\SI 9 q v e1 e2 e3 e4 s' z/\z.mem= {ε:=N2.set q (.cells (aS 9 0 bc[k].name ω z4 z4 ω ω)),η:=T}/\z.e 11= .ak 11 w 0/\z.q 11=some (w,.cells [.str bc[k].name,.list cq pl,bq])) (by simp[SS,SI,h0,h1,h5,l5,h7,bo,bu,h8,h9,aE,l10,cH,Nu,Γ,M2.q2,M2.at_,wa,gY,eV,Mem.put,Mem.ν,ν,bn,Δ.lo]) fun z ⟨⟨h0,h1,h5,l5,h7,bo,bu⟩,⟨h8,h9,aE,l10⟩,Γ,cH,Nu⟩=>?_;generalize N2.set q (.cells (aS 9 0 bc[k].name ω z4 z4 ω ω))=N3 at M3 Γ;refine Ψ (fun z=>SS pm d r i c1 c2 c3 c4 s co out z/\SI 9 q v e1 e2 e3 e4 s' z/\z.mem= {ε:=N3,η:=T}/\z.e 266= .n (bc[k].au.length:Int)/\z.e 267= .n 0) (by simp[SS,SI,h0,h1,h5,l5,h7,bo,bu,h8,h9,aE,l10,cH,Nu,Γ,MN]) fun z ⟨z1,z2,z3,z4,z5⟩=>?_;refine μ.mono (agW (u:=u) hm hs φ hb bc[k].au.length (by omega) z1 z2 z4 z5 z3 M3 (by omega) hr hl) fun z ⟨y1,x',n',M',T',cp,l,y2,y3,y4,y5,y6,y7,y8,y9⟩=> .inr ⟨y1,x',n',M',T',bc[k].name,_,cp,l,by omega,fb.2 ⟨bc[k],db hk,rfl⟩,y3,y4,y5,y6,y7,y8,y9⟩
end
section
variable{B:List θ}{pm ps:Nat}{P:AV}{c:τ}{bs:List Nat}{co:τ}{lo st fr n:Nat}{x:Int}{M:List θ}{q:Nat}{L:List AV}{T:List Nat}
variable(hm:pm<B.length)(hs:ps<B.length)(φ:pm≠ps)(hb:bs.length<=300)
variable{d r i:Int}{c1 c2 c3 c4:τ}{s:Sc}{out:List AV}{v:Nat}{e1 e2 e3 e4:τ}{s':Sc}{σ:St}{k:Int}
theorem w65(cn:τ)(l:List (List Nat))(t:List Nat)(hl:l.length<1000000)(m:Mem):kf u 65 [bw cn l,.str t] m=some (.bool (l.contains t),m):=by rw[<-f65 (u:=u) (cn.exp 0 false) (Bn cn 0) l t (by omega) m];exact Fq (by rfl) (by simp only[ax,aI,CF,uZ,exp]) (by rfl)
theorem IZ(hk:k≠4/\k≠8/\k≠10/\k≠7/\k≠11)(hS:SS pm d r i c1 c2 c3 c4 s co out σ)(hI:SI k q v e1 e2 e3 e4 s' σ)(Γ:σ.mem= {ε:=M,η:=T}):
  μ (C u).gl (ab (C u)) ui σ fun z=>z.1= .normal/\SS pm d r i c1 c2 c3 c4 s co out z.2/\SI k q v e1 e2 e3 e4 s' z.2/\z.2.mem= {ε:=M,η:=T}:=by
 obtain⟨h0,h1,h5,l5,h7,bo,bu⟩:=hS;obtain⟨h8,h9,aE,l10⟩:=hI;obtain⟨k1,k2,k3,k4,k5⟩:=hk;unfold ui;exact μ.done .normal (fun z=>SS pm d r i c1 c2 c3 c4 s co out z/\SI k q v e1 e2 e3 e4 s' z/\z.mem= {ε:=M,η:=T}) (by simp[SS,SI,h0,h1,h5,l5,h7,bo,bu,h8,h9,aE,l10,Γ,eK k1,eK k2,eK k3,eK k4,eK k5]) fun z hz=>⟨rfl,hz⟩
theorem OT(hk:k=4\/k=8\/k=10){g:Int}{nm:List Nat}{X:AV}{I J:List AV}(u5:I.length=4)(u6:J.length=4){V:AV}(hV:Dv V V)(LN:V.cells=[V]){N:List θ}(hd:0<=d/\d<1000)
  (l8:∀T,kf u 122 [.κ pm 0,.n (d+1),.agg (gD e1 e2 e3 e4 s')] {ε:=M,η:=T}=some (V,{ε:=N,η:=T})) (hN:N[q]?=some (.cells (aS k g nm X I J ω ω)))
  (hS:SS pm d r i c1 c2 c3 c4 s co out σ) (hI:SI k q v e1 e2 e3 e4 s' σ) (Γ:σ.mem= {ε:=M,η:=T}):
  μ (C u).gl (ab (C u)) ui σ fun z=>z.1= .normal/\SS pm d r i c1 c2 c3 c4 s co out z.2/\SI k q v e1 e2 e3 e4 s' z.2/\z.2.mem= {ε:=N.set q (.cells (aS k g nm X I J V ω)),η:=T}:=by
 obtain⟨h0,h1,h5,l5,h7,bo,bu⟩:=hS;obtain⟨h8,h9,aE,l10⟩:=hI;have hw:bN .i64 (d+1)=d+1:=wrap_i64 (by omega) (by omega);have LP:=hV.ν;have LO:bn q [V]=true:=by simp[bn,hV.lo q]
 unfold ui UY;refine μ.done .normal (fun z=>SS pm d r i c1 c2 c3 c4 s co out z/\SI k q v e1 e2 e3 e4 s' z/\z.mem= {ε:=N.set q (.cells (aS k g nm X I J V ω)),η:=T}) ?_ fun z hz=>⟨rfl,hz⟩;rcases hk with rfl|rfl|rfl<;>simp[SS,SI,h0,h1,h5,l5,h7,bo,bu,h8,h9,aE,l10,Γ,hw,l8,hN,iD,zB,Re,gY,u5,u6,LN,LP,LO,Mem.put,Mem.ν]
theorem aiz(hk:k=7\/k=11){g:Int}{nm:List Nat}{X:AV}{I J:List AV}(u5:I.length=4)(u6:J.length=4){V W:AV}(hV:Dv V V)(LN:V.cells=[V])(hW:Dv W W)(hW1:W.cells=[W]){N N':List θ}(hd:0<=d/\d<1000)
  (l8:∀T,kf u 122 [.κ pm 0,.n (d+1),.agg (gD e1 e2 e3 e4 s')] {ε:=M,η:=T}=some (V,{ε:=N,η:=T}))
  (Bw:∀T,kf u 122 [.κ pm 0,.n (d+1),.agg (gD e1 e2 e3 e4 s')] {ε:=N,η:=T}=some (W,{ε:=N',η:=T})) (hN:N'[q]?=some (.cells (aS k g nm X I J ω ω)))
  (hS:SS pm d r i c1 c2 c3 c4 s co out σ) (hI:SI k q v e1 e2 e3 e4 s' σ) (Γ:σ.mem= {ε:=M,η:=T}):
  μ (C u).gl (ab (C u)) ui σ fun z=>z.1= .normal/\SS pm d r i c1 c2 c3 c4 s co out z.2/\SI k q v e1 e2 e3 e4 s' z.2/\z.2.mem= {ε:=N'.set q (.cells (aS k g nm X I J V W)),η:=T}:=by
 obtain⟨h0,h1,h5,l5,h7,bo,bu⟩:=hS;obtain⟨h8,h9,aE,l10⟩:=hI;have hw:bN .i64 (d+1)=d+1:=wrap_i64 (by omega) (by omega);have LP:=hV.ν;have hWn:=hW.ν;have LO:bn q [V]=true:=by simp[bn,hV.lo q]
 have hWl:bn q [W]=true:=by simp[bn,hW.lo q]
 have hqN:q<N'.length:=(List.getElem?_eq_some_iff.1 hN).1;have jr:∀A,(N'.set q (θ.cells A))[q]?=some (.cells A):=fun A=>by simp[hqN]
 unfold ui UZ;refine μ.done .normal (fun z=>SS pm d r i c1 c2 c3 c4 s co out z/\SI k q v e1 e2 e3 e4 s' z/\z.mem= {ε:=N'.set q (.cells (aS k g nm X I J V W)),η:=T}) ?_ fun z hz=>⟨rfl,hz⟩;rcases hk with rfl|rfl<;>simp[SS,SI,h0,h1,h5,l5,h7,bo,bu,h8,h9,aE,l10,Γ,hw,l8,Bw,hN,jr,iD,zB,Re,Zd,gY,u5,u6,LN,LP,LO,hW1,hWn,hWl,Mem.put,Mem.ν,c7,de]
theorem aiC(hk:k≠2/\k≠3/\k≠5)(hS:SS pm d r i c1 c2 c3 c4 s co out σ)(hI:SI k q v e1 e2 e3 e4 s' σ)(Γ:σ.mem= {ε:=M,η:=T}):
  μ (C u).gl (ab (C u)) qE σ fun z=>z.1= .normal/\SS pm d r i c1 c2 c3 c4 s co out z.2/\SI k q v e1 e2 e3 e4 s' z.2/\z.2.mem= {ε:=M,η:=T}:=by
 obtain⟨h0,h1,h5,l5,h7,bo,bu⟩:=hS;obtain⟨h8,h9,aE,l10⟩:=hI;obtain⟨k1,k2,k3⟩:=hk;unfold qE;exact μ.done .normal (fun z=>SS pm d r i c1 c2 c3 c4 s co out z/\SI k q v e1 e2 e3 e4 s' z/\z.mem= {ε:=M,η:=T}) (by simp[SS,SI,h0,h1,h5,l5,h7,bo,bu,h8,h9,aE,l10,Γ,eK k1,eK k2,eK k3]) fun z hz=>⟨rfl,hz⟩
include hm hs
theorem aiD{g:Int}{nm:List Nat}{X:AV}{I J:List AV}{b e:AV}(u5:I.length=4)(u6:J.length=4)(Lr:c1= .nil->s.aC=[])(Lt:c2= .nil->s.cu=[])(HB:s.aC.length<1000000)(yE:s.cu.length<1000000)
  (hS:SS pm d r i c1 c2 c3 c4 s co out σ) (hI:SI 2 q v e1 e2 e3 e4 s' σ) (Γ:σ.mem= {ε:=M,η:=T}) (hM:MM B pm ps P c bs co lo st fr n x q (aS 2 g nm X I J b e) M T):
  μ (C u).gl (ab (C u)) qE σ fun z=>z.1= .normal/\∃iw iz M',SS pm d r i iw iz c3 c4 (s.put nm) co out z.2/\SI 2 q v e1 e2 e3 e4 s' z.2/\iw≠ .nil/\iz≠ .nil/\z.2.mem= {ε:=M',η:=T}/\MM B pm ps P c bs co lo st fr n x q (aS 2 g nm X I J b e) M' T:=by
 obtain⟨h0,h1,h5,l5,h7,bo,bu⟩:=hS;obtain⟨h8,h9,aE,l10⟩:=hI;obtain⟨a1,N1,a2,N2,q1,Dy,p1,M2,LV⟩:=CP (u:=u) c1 s.aC HB Lr nm hM hm hs;obtain⟨b1,N3,b2,N4,q2,MP,p2,M4,dA⟩:=CP (u:=u) c2 s.cu yE Lt nm M2 hm hs;unfold qE U0;exact μ.done .normal (fun z=>SS pm d r i a2 b2 c3 c4 (s.put nm) co out z/\SI 2 q v e1 e2 e3 e4 s' z/\z.mem= {ε:=N4,η:=T}) (by simp[SS,SI,h0,h1,h5,l5,h7,bo,bu,h8,h9,aE,l10,Γ,q1,Dy,p1,q2,MP,p2,hM.q2,M2.q2,M4.q2,iD,zC,I0,OU,WU,Co,gY,u5,u6,Mem.ν,ν,shaped,AV.one,vM,c7,de,nD,Sc.put]) fun z ⟨z1,z2,z3⟩=>⟨rfl,a2,b2,N4,z1,z2,LV,dA,z3,M4⟩
omit hm hs in
theorem drop_eq(s:Sc)(nm:List Nat):s.drop nm=⟨gT nm s.aC,gT nm s.cu,s.bits,s.turns⟩:=rfl
theorem aiA{g:Int}{nm:List Nat}{X:AV}{I J:List AV}{b e:AV}(u5:I.length=4)(u6:J.length=4)(Lr:c1= .nil->s.aC=[])(Lt:c2= .nil->s.cu=[])(HB:s.aC.length<1000000)(yE:s.cu.length<1000000)
  (hS:SS pm d r i c1 c2 c3 c4 s co out σ) (hI:SI 3 q v e1 e2 e3 e4 s' σ) (Γ:σ.mem= {ε:=M,η:=T}) (hM:MM B pm ps P c bs co lo st fr n x q (aS 3 g nm X I J b e) M T):
  μ (C u).gl (ab (C u)) qE σ fun z=>z.1= .normal/\∃iw iz M',SS pm d r i iw iz c3 c4 (s.drop nm) co out z.2/\SI 3 q v e1 e2 e3 e4 s' z.2/\(iw= .nil->(s.drop nm).aC=[])/\(iz= .nil->(s.drop nm).cu=[])/\z.2.mem= {ε:=M',η:=T}/\MM B pm ps P c bs co lo st fr n x q (aS 3 g nm X I J b e) M' T:=by
 obtain⟨h0,h1,h5,l5,h7,bo,bu⟩:=hS;obtain⟨h8,h9,aE,l10⟩:=hI;have push:∀{M':List θ} {N:List θ},MM B pm ps P c bs co lo st fr n x q (aS 3 g nm X I J b e) M' T->(N=M'\/N=M'++[.dead])->MM B pm ps P c bs co lo st fr n x q (aS 3 g nm X I J b e) N T:=fun h hN=>by
  rcases hN with rfl|rfl
  ·exact h
  ·exact h.push _
 obtain⟨v1,A1,w1,A2,a1,A3,p1,p2,p3,p4,p5⟩:=SG (u:=u) c1 s.aC (by omega) Lr (M:=M) (show M[q]?=some (.cells (.n 3:: .n g:: .str nm::X::(I++(J++[b,e]))))from hM.q2);have M1:=push hM p5;obtain⟨v2,B1,w2,B2,b1,B3,r1,r2,r3,r4,r5⟩:=SG (u:=u) c2 s.cu (by omega) Lt (M:=A3) (show A3[q]?=some (.cells (.n 3:: .n g:: .str nm::X::(I++(J++[b,e]))))from M1.q2);have M2:=push M1 r5;unfold qE U1;exact μ.done .normal (fun z=>SS pm d r i a1 b1 c3 c4 (s.drop nm) co out z/\SI 3 q v e1 e2 e3 e4 s' z/\z.mem= {ε:=B3,η:=T}) (by
  rw[drop_eq]
  simp[SS,SI,h0,h1,h5,l5,h7,bo,bu,h8,h9,aE,l10,Γ,p1,p2,p3,r1,r2,r3,iD,zC,I0,OU,WU,vM,c7,de]) fun z ⟨z1,z2,z3⟩=>⟨rfl,a1,b1,B3,z1,z2,p4,r4,z3,M2⟩
theorem aiB{g:Int}{nm:List Nat}{X:AV}{I J:List AV}{b e:AV}(u5:I.length=4)(u6:J.length=4)(SZ:c3= .nil->s.bits=[])(TV:s.bits.length<1000000)
  (hS:SS pm d r i c1 c2 c3 c4 s co out σ) (hI:SI 5 q v e1 e2 e3 e4 s' σ) (Γ:σ.mem= {ε:=M,η:=T}) (hM:MM B pm ps P c bs co lo st fr n x q (aS 5 g nm X I J b e) M T):
  μ (C u).gl (ab (C u)) qE σ fun z=>z.1= .normal/\∃kS M',SS pm d r i c1 c2 kS c4 (s.bit nm) co out z.2/\SI 5 q v e1 e2 e3 e4 s' z.2/\(kS= .nil->(s.bit nm).bits=[])/\z.2.mem= {ε:=M',η:=T}/\MM B pm ps P c bs co lo st fr n x q (aS 5 g nm X I J b e) M' T:=by
 obtain⟨h0,h1,h5,l5,h7,bo,bu⟩:=hS;obtain⟨h8,h9,aE,l10⟩:=hI;have zt:=w65 (u:=u) c3 s.bits nm TV;unfold qE U2;by_cases qm:nm∈s.bits
 ·have hc:s.bits.contains nm=true:=xC.2 qm;have yq:s.bit nm=s:=if_pos qm;rw[yq];exact μ.done .normal (fun z=>SS pm d r i c1 c2 c3 c4 s co out z/\SI 5 q v e1 e2 e3 e4 s' z/\z.mem= {ε:=M,η:=T}) (by simp[SS,SI,h0,h1,h5,l5,h7,bo,bu,h8,h9,aE,l10,Γ,hM.q2,zt,qm,iD,zD,Co,gY,u5,u6]) fun z ⟨z1,z2,z3⟩=>⟨rfl,c3,M,z1,z2,SZ,z3,hM⟩
 ·have hc:s.bits.contains nm=false:=by
   cases h:s.bits.contains nm with
   |false=>rfl
   |true=>exact absurd (xC.1 h) qm
  have yq:s.bit nm= {s with bits:=s.bits++[nm]}:=if_neg qm;rw[yq];obtain⟨a1,N1,a2,N2,q1,Dy,p1,M2,LV⟩:=CP (u:=u) c3 s.bits TV SZ nm hM hm hs;exact μ.done .normal (fun z=>SS pm d r i c1 c2 a2 c4 {s with bits:=s.bits++[nm]} co out z/\SI 5 q v e1 e2 e3 e4 s' z/\z.mem= {ε:=N2,η:=T}) (by simp[SS,SI,h0,h1,h5,l5,h7,bo,bu,h8,h9,aE,l10,Γ,hM.q2,zt,qm,q1,Dy,p1,iD,zD,aiJ,Co,gY,u5,u6,Mem.ν,ν,shaped,AV.one,vM,c7,de,nD]) fun z ⟨z1,z2,z3⟩=>⟨rfl,a2,N2,z1,z2,fun h=>absurd h LV,z3,M2⟩
end
theorem NX{ps:Nat}{P:AV}{st:Int}{fr:Nat}:(akR 2 (bG ps P st fr)).take 1=[.n st]:=rfl
theorem VB{ps:Nat}{P:AV}{st:Int}{fr:Nat}(w:Int):dk (bG ps P st fr) 2 [.n w]=bG ps P w fr:=rfl
theorem Bm{ps:Nat}{P:AV}{st:Int}{fr:Nat}:(bG ps P st fr).length=4:=rfl
def iH(d:Int)(e:Bool)(k:Int):Int:=if(d=5/\(k=4\/k=7\/9<k\/k=8))\/(e=true/\k≠4/\k≠10/\k≠11/\k≠8)then 2 else k
theorem Zk(d:Int)(e:Bool)(k:Int)(hk:1<=k/\k<=11):(1<=iH d e k/\iH d e k<=11)/\(e=true->iH d e k=2\/iH d e k=4\/iH d e k=8\/iH d e k=10\/iH d e k=11)/\(d=5->iH d e k≠4/\iH d e k≠7/\iH d e k≠8/\iH d e k≠10/\iH d e k≠11):=by
 unfold iH;split
 ·omega
 ·rename_i h;cases e with
  |true=>simp only[true_and]at h⊢;omega
  |false=>simp at h⊢;omega
section
variable{B:List θ}{pm ps:Nat}{P:AV}{c:τ}{bs:List Nat}{co:τ}{lo st fr n:Nat}{x:Int}{M:List θ}{q:Nat}{L:List AV}{T:List Nat}
variable{d r i:Int}{c1 c2 c3 c4:τ}{s:Sc}{out:List AV}{v:Nat}{e1 e2 e3 e4:τ}{s':Sc}{σ:St}{k:Int}
theorem Kt.app(h:Kt B pm ps P c bs co lo st fr n x M)(hm:pm<B.length)(hs:ps<B.length){eX:τ}{M':List θ}(R:Go.Δ.Row B.length M' 14 66 eX (lo+1))
  (hM:M'=M++[.front 1 14 66]\/∃t,B.length<=t/\M[t]?=some (.front lo 14 66)/\M'=M.set t (.front (lo+1) 14 66)):Kt B pm ps P c bs eX (lo+1) st fr n x M':=by
 rcases hM with rfl|⟨t,h1,h2,rfl⟩
 ·exact⟨h.ms.push _,fun i a b d=>by rw[List.getElem?_append_left (Nat.lt_of_lt_of_le a h.len)];exact h.nW i a b d,by have:=h.len;simp;omega,R⟩
 ·exact⟨h.ms.put (by omega) (by omega) _,fun i a b d=>by rw[gN (by omega)];exact h.nW i a b d,by simpa using h.len,R⟩
theorem agC(hS:SS pm d r i c1 c2 c3 c4 s co out σ)(Γ:σ.mem= {ε:=M,η:=T})(hM:MS pm ps P c bs st fr n x M)(Ω:st<4000000000000000000):
  μ (C u).gl (ab (C u)) H8 σ fun z=>(z.1= .exit 0/\40<=st\/z.1= .normal/\st<40)/\SS pm d r i c1 c2 c3 c4 s co out z.2/\z.2.mem= {ε:=M.set pm (.cells (bG ps P (st+1:Nat) fr)),η:=T}:=by
 obtain⟨h0,h1,h5,l5,h7,bo,bu⟩:=hS;obtain⟨w,hw⟩:∃w:Nat,w=st+1:=⟨_,rfl⟩;have e:bN .i64 ((st:Int)+1)=(w:Int):=by rw[wrap_i64 (by omega) (by omega)];omega
 rw[<-hw];have hg:M[pm]?=some (.cells (bG ps P st fr)):=hM.m;have jr:∀A,(M.set pm (θ.cells A))[pm]?=some (.cells A):=fun A=>by simp[hM.xu]
 unfold H8;refine Ψ (fun z=>SS pm d r i c1 c2 c3 c4 s co out z/\z.mem= {ε:=M.set pm (.cells (bG ps P (w:Int) fr)),η:=T}) (by simp[SS,h0,h1,h5,l5,h7,bo,bu,Γ,hg,NX,VB,Bm,e,Mem.put,Mem.ν,ν,bn,Δ.lo]) fun z ⟨⟨h0,h1,h5,l5,h7,bo,bu⟩,Γ⟩=>?_;by_cases Lw:40<w
 ·have hI:(40:Int)<w:=by omega
  exact μ.done (.exit 0) (fun z=>SS pm d r i c1 c2 c3 c4 s co out z/\z.mem= {ε:=M.set pm (.cells (bG ps P (w:Int) fr)),η:=T}) (by simp[SS,h0,h1,h5,l5,h7,bo,bu,Γ,jr,NX,Bm,Lw,hI]) fun z ⟨z1,z2⟩=>⟨.inl ⟨rfl,by omega⟩,z1,z2⟩
 ·have hI:¬(40:Int)<w:=by omega
  exact μ.done .normal (fun z=>SS pm d r i c1 c2 c3 c4 s co out z/\z.mem= {ε:=M.set pm (.cells (bG ps P (w:Int) fr)),η:=T}) (by simp[SS,h0,h1,h5,l5,h7,bo,bu,Γ,jr,NX,Bm,Lw,hI]) fun z ⟨z1,z2⟩=>⟨.inr ⟨rfl,by omega⟩,z1,z2⟩
theorem agA(hb:bs.length<=300)(hS:SS pm d r i c1 c2 c3 c4 s co out σ)(Γ:σ.mem= {ε:=M,η:=T})(hM:MS pm ps P c bs st fr n x M)(hn:n<3000000000000000000):
  μ (C u).gl (ab (C u)) H7 σ fun z=>z.1= .normal/\∃x' n' k,(n<=n'/\n'<=n+1)/\(1<=k/\k<=11)/\SS pm d r i c1 c2 c3 c4 s co out z.2/\z.2.mem= {ε:=M.set ps (.cells (aP c bs n' x')),η:=T}/\br z.2.env 8= .n k:=by
 obtain⟨h0,h1,h5,l5,h7,bo,bu⟩:=hS;obtain⟨x2,k,n2,b1,b2,b3,b4,uB⟩:=Jh (u:=u) hM hb 1 11 (by omega) (by omega) (by omega) (by omega);have hg:M[pm]?=some (.cells (bG ps P st fr)):=hM.m;unfold H7;exact μ.done .normal (fun z=>SS pm d r i c1 c2 c3 c4 s co out z/\z.mem= {ε:=M.set ps (.cells (aP c bs n2 x2)),η:=T}/\z.e 8= .n k) (by simp[SS,h0,h1,h5,l5,h7,bo,bu,Γ,hg,bG,uB]) fun z ⟨z1,z2,z3⟩=>⟨rfl,x2,n2,k,⟨b1,b2⟩,⟨b3,b4⟩,z1,z2,z3⟩
theorem agw(hk:1<=k/\k<=11)(hd:d=5)(hr:s.aC=[])(hS:SS pm d r i c1 c2 c3 c4 s co out σ)(h8:σ.e 8= .n k):
  μ (C u).gl (ab (C u)) sZ σ fun z=>z.1= .normal/\SS pm d r i c1 c2 c3 c4 s co out z.2/\z.2.mem=σ.mem/\br z.2.env 8= .n (iH d s.aC.isEmpty k):=by
 obtain⟨h0,h1,h5,l5,h7,bo,bu⟩:=hS;have t_:k=1\/k=2\/k=3\/k=4\/k=5\/k=6\/k=7\/k=8\/k=9\/k=10\/k=11:=by omega
 unfold sZ;refine μ.done .normal (fun z=>SS pm d r i c1 c2 c3 c4 s co out z/\z.mem=σ.mem/\z.e 8= .n (iH d s.aC.isEmpty k)) ?_ fun z hz=>⟨rfl,hz⟩;rcases t_ with rfl|rfl|rfl|rfl|rfl|rfl|rfl|rfl|rfl|rfl|rfl<;>simp[SS,h0,h1,h5,l5,h7,bo,bu,h8,hd,hr,zC,iD,bw,iH]
theorem agx(hk:1<=k/\k<=11)(hd:d=5)(hr:s.aC≠[])(hS:SS pm d r i c1 c2 c3 c4 s co out σ)(h8:σ.e 8= .n k):
  μ (C u).gl (ab (C u)) sZ σ fun z=>z.1= .normal/\SS pm d r i c1 c2 c3 c4 s co out z.2/\z.2.mem=σ.mem/\br z.2.env 8= .n (iH d s.aC.isEmpty k):=by
 obtain⟨h0,h1,h5,l5,h7,bo,bu⟩:=hS;have t_:k=1\/k=2\/k=3\/k=4\/k=5\/k=6\/k=7\/k=8\/k=9\/k=10\/k=11:=by omega
 have hz:((s.aC.length:Int)==0)=false:=by have:=pY.2 hr;exact eK (by omega)
 unfold sZ;refine μ.done .normal (fun z=>SS pm d r i c1 c2 c3 c4 s co out z/\z.mem=σ.mem/\z.e 8= .n (iH d s.aC.isEmpty k)) ?_ fun z hz=>⟨rfl,hz⟩;rcases t_ with rfl|rfl|rfl|rfl|rfl|rfl|rfl|rfl|rfl|rfl|rfl<;>simp[SS,h0,h1,h5,l5,h7,bo,bu,h8,hd,hr,zC,iD,bw,iH,hz]
theorem agy(hk:1<=k/\k<=11)(hd:d≠5)(hr:s.aC=[])(hS:SS pm d r i c1 c2 c3 c4 s co out σ)(h8:σ.e 8= .n k):
  μ (C u).gl (ab (C u)) sZ σ fun z=>z.1= .normal/\SS pm d r i c1 c2 c3 c4 s co out z.2/\z.2.mem=σ.mem/\br z.2.env 8= .n (iH d s.aC.isEmpty k):=by
 obtain⟨h0,h1,h5,l5,h7,bo,bu⟩:=hS;have t_:k=1\/k=2\/k=3\/k=4\/k=5\/k=6\/k=7\/k=8\/k=9\/k=10\/k=11:=by omega
 unfold sZ;refine μ.done .normal (fun z=>SS pm d r i c1 c2 c3 c4 s co out z/\z.mem=σ.mem/\z.e 8= .n (iH d s.aC.isEmpty k)) ?_ fun z hz=>⟨rfl,hz⟩;rcases t_ with rfl|rfl|rfl|rfl|rfl|rfl|rfl|rfl|rfl|rfl|rfl<;>simp[SS,h0,h1,h5,l5,h7,bo,bu,h8,hd,eK hd,hr,zC,iD,bw,iH]
theorem agz(hk:1<=k/\k<=11)(hd:d≠5)(hr:s.aC≠[])(hS:SS pm d r i c1 c2 c3 c4 s co out σ)(h8:σ.e 8= .n k):
  μ (C u).gl (ab (C u)) sZ σ fun z=>z.1= .normal/\SS pm d r i c1 c2 c3 c4 s co out z.2/\z.2.mem=σ.mem/\br z.2.env 8= .n (iH d s.aC.isEmpty k):=by
 obtain⟨h0,h1,h5,l5,h7,bo,bu⟩:=hS;have hz:((s.aC.length:Int)==0)=false:=by have:=pY.2 hr;exact eK (by omega)
 unfold sZ;refine μ.done .normal (fun z=>SS pm d r i c1 c2 c3 c4 s co out z/\z.mem=σ.mem/\z.e 8= .n (iH d s.aC.isEmpty k)) ?_ fun z hz=>⟨rfl,hz⟩;simp[SS,h0,h1,h5,l5,h7,bo,bu,h8,hd,eK hd,hr,zC,iD,bw,iH,hz]
theorem agv(hk:1<=k/\k<=11)(hS:SS pm d r i c1 c2 c3 c4 s co out σ)(h8:σ.e 8= .n k):
  μ (C u).gl (ab (C u)) sZ σ fun z=>z.1= .normal/\SS pm d r i c1 c2 c3 c4 s co out z.2/\z.2.mem=σ.mem/\br z.2.env 8= .n (iH d s.aC.isEmpty k):=by
 by_cases hd:d=5<;>by_cases hr:s.aC=[]
 ·exact agw hk hd hr hS h8
 ·exact agx hk hd hr hS h8
 ·exact agy hk hd hr hS h8
 ·exact agz hk hd hr hS h8
theorem agu(hS:SS pm d r i c1 c2 c3 c4 s co out σ)(h8:σ.e 8= .n k)(Γ:σ.mem= {ε:=M,η:=T}):
  ∃σ',exec (C u).gl (ab (C u)) dP H9 σ=some (.normal,σ')/\SS pm d r i c1 c2 c3 c4 s co out σ'/\σ'.e 8= .n k/\σ'.e 9= .κ M.length 0/\σ'.mem= {ε:=M++[.cells (aS k 0 [] ω z4 z4 ω ω)],η:=T}:=by
 obtain⟨h0,h1,h5,l5,h7,bo,bu⟩:=hS;unfold H9;simp[SS,h0,h1,h5,l5,h7,bo,bu,h8,Γ,newVar,dG,dk,Mem.push,Mem.put,Mem.ν,ν,cG,bn,Δ.lo,aS,z4,List.set_append_right,τ.lo]
theorem agB(hS:SS pm d r i c1 c2 c3 c4 s co out σ)(h8:σ.e 8= .n k)(h9:σ.e 9= .κ q 0)(Γ:σ.mem= {ε:=M,η:=T}):
  ∃σ',exec (C u).gl (ab (C u)) dP HY σ=some (.normal,σ')/\SS pm d r i c1 c2 c3 c4 s co out σ'/\(∃v,SI k q v c1 c2 c3 c4 s σ')/\σ'.mem= {ε:=M,η:=T}:=by
 obtain⟨h0,h1,h5,l5,h7,bo,bu⟩:=hS;unfold HY;generalize hw:bJ (bR σ.loc) 10=w;simp[SS,SI,h0,h1,h5,l5,h7,bo,bu,h8,h9,Γ,newVar,hw,zB,iD,dk]
theorem IF(hm:pm<B.length)(hs:ps<B.length)(hS:SS pm d r i c1 c2 c3 c4 s co out σ)(hI:SI k q v e1 e2 e3 e4 s' σ)(Γ:σ.mem= {ε:=M,η:=T})(hM:MM B pm ps P c bs co lo st fr n x q L M T)(hL:L.length=14)(hn:ν (.agg L)= .agg L)(ho:out.all (shaped true 14)=true)(jJ:lo=out.length)(dm:out.length<1000000):
  μ (C u).gl (ab (C u)) za σ fun z=>z.1= .normal/\∃eX M',SS pm d r i c1 c2 c3 c4 s eX (out++[.agg L]) z.2/\z.2.mem= {ε:=M',η:=T}/\Kt B pm ps P c bs eX (lo+1) st fr n x M'/\eX.exp 0 false= .any:=by
 obtain⟨h0,h1,h5,l5,h7,bo,bu⟩:=hS;obtain⟨h8,h9,aE,l10⟩:=hI;subst jJ;have dX:shaped true 14 (.agg L)=true:=by simp[shaped,hL]
 obtain⟨cc,N,eu,R,ew,hN⟩:=xP (bytes:=216) (v:= .agg L) (ag:=true) hM.kt.row hM.kt.len ho dX hn (by omega) (by omega) (by omega);have lu:L.take 14=L:=List.take_of_length_le (by omega);unfold za;exact μ.done .normal (fun z=>SS pm d r i c1 c2 c3 c4 s cc (out++[.agg L]) z/\z.mem= {ε:=N,η:=T}) (by simp[SS,h0,h1,h5,l5,h7,bo,bu,h8,h9,aE,l10,Γ,hM.q2,hL,lu,dX,Mem.ν,hn,eu]) fun z ⟨z1,z2⟩=>⟨rfl,cc,N,z1,z2,hM.kt.app hm hs R hN,ew 0⟩
end
end Go.Δ.Tz
