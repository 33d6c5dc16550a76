import Derived.Test.YtiigojkfojnedaaGreatDoorSMb
set_option linter.all false
set_option maxRecDepth 100000
set_option maxHeartbeats 8000000
open List renaming length_filter_le->al7,mem_singleton->fU,append_nil->dF,map_append->kr,all_append->al8,ext_getElem?->al9,getElem?_take_of_lt->Kb,getElem?_set_ne->gR,getElem?_eq_none->h_,take_append_drop->al_,map_cons->az,map_nil->aJ,getElem?_append_left->ek,getElem?_eq_some_iff->fB,length_map->cg
open Nat renaming mul_le_mul_right->mD,le_refl->bS
open Go.IntKind renaming wrap->bC
namespace Go.Θ.Tz
open Go.Θ
variable{u:Nat}
noncomputable def JK:List (Nat×Nat×Int×AC):=[(83,82,1,IF),(105,104,2,IG),(115,114,3,Em),(134,133,4,II),(152,151,5,IJ),(186,185,6,IK),(193,192,7,Eo),(212,211,8,IL),(235,234,9,IM)]
theorem afy:Er= .seq (.ops [⟨some 81,.mv (.t 8),none⟩]) (.block 2 (Cg 81 JK .skip)):=by rfl
theorem κ.skip{gl:Nat->AV}{c:cx}{σ:St}{Q:Ex×St->Prop}(h:Q (.normal,σ)):κ gl c .skip σ Q:=⟨_,rfl,h⟩
theorem oB:Dv jE.av jE.av:= .agg (.cons (.int _ _) (.cons (.int _ _) (.cons (.str _) (.cons (Dv.list .nil .nil) .nil))))
theorem pv:Dv ω ω:=Dv.list .nil .nil
theorem uf{k g:Int}{nm:List Nat}{cp:ρ}{oE:List ξ}(hp:∀p∈oE,Dv p.av p.av){X Y:ζ}(hX:Dv X.av X.av)(hY:Dv Y.av Y.av){cb ce:ρ}{body els:List δ}(hb:Dv (.list cb (δ.χ body)) (.list cb (δ.χ body)))(he:Dv (.list ce (δ.χ els)) (.list ce (δ.χ els))):
  Dv (.agg (aT k g nm (.list cp (oE.map ξ.av)) X.four Y.four (.list cb (δ.χ body)) (.list ce (δ.χ els)))) (bw k g nm (cp.exp 0 false) oE X Y cb body ce els).av:=by
 have four:∀{X:ζ},Dv X.av X.av->bN X.four X.four:=fun h=>by rw[ζ.fD]at h;exact⟨by simpa only[pf]using h.1,by simpa only[eB,AV.agg.injEq]using h.2⟩
 have dH:bN (oE.map ξ.av) (oE.map ξ.av):=bN.of ξ.av oE hp;have:=Dv.agg (.cons (.int .i64 k) (.cons (.int .i64 g) (.cons (.str nm) (.cons (Dv.list cp dH) ((four hX).append ((four hY).append (.cons hb (.cons he .nil))))))));have e:(bw k g nm (cp.exp 0 false) oE X Y cb body ce els).av= .agg (.n k:: .n g:: .str nm:: .list (cp.exp 0 false) (oE.map ξ.av)::(X.four++(Y.four++[.list cb (δ.χ body),.list ce (δ.χ els)]))):=by simp[bw,δ.av,δ.cells]
 rw[e];exact this
section
variable{B:List θ}{pm ps:Nat}{P:AV}{c:ρ}{bs:List Nat}{co:ρ}{lo st fr n:Nat}{x:Int}{M:List θ}{q:Nat}{L:List AV}{T:List Nat}{mm:Mem}
variable{d r i:Int}{c1 c2 c3 c4:ρ}{s:Sc}{out:List AV}{v:Nat}{e1 e2 e3 e4:ρ}{s':Sc}{σ:St}{k:Int}
theorem ajz{Q:Ex×St->Prop}(hS:SS pm d r i c1 c2 c3 c4 s co out σ)(hI:SI k q v e1 e2 e3 e4 s' σ)(Γ:σ.mem=mm)(h:∀σ',SS pm d r i c1 c2 c3 c4 s co out σ'->SI k q v e1 e2 e3 e4 s' σ'->σ'.mem=mm->κ (C u).gl (ab (C u)) (swp k JK .skip) σ' Q)(hQ:∀z,Q z->z.1≠ .exit 2):
  κ (C u).gl (ab (C u)) Er σ Q:=by
 have h8:=hI.1;rw[afy];refine κ.go (s':= {σ with env:=nf σ.env 81 (.n k)}) (by simp[exec,dY,dP,eX,aI,dw,fA,eN,h8]) (κ.block (κ.mono (Q:=Q) ?_ fun z hz=> .inr ⟨hQ z hz,hz⟩));refine κ.Cg (K:=fun σ=>SS pm d r i c1 c2 c3 c4 s co out σ/\SI k q v e1 e2 e3 e4 s' σ/\σ.mem=mm) (k:=k) (fun σ j v hj ⟨h1,h2,h3⟩=>⟨h1.set hj v,h2.set hj v,h3⟩) JK .skip _ (by rfl) ⟨hS.set (by omega) _,hI.set (by omega) _,Γ⟩ (by simp[fL]) fun σ' ⟨h1,h2,h3⟩=>h σ' h1 h2 h3
theorem tO{mB:St->Prop}{a:AC}{Q:Ex×St->Prop}(hS:SS pm d r i c1 c2 c3 c4 s co out σ)(hI:SI k q v e1 e2 e3 e4 s' σ)(Γ:σ.mem=mm)(h:∀σ',SS pm d r i c1 c2 c3 c4 s co out σ'->SI k q v e1 e2 e3 e4 s' σ'->σ'.mem=mm->κ (C u).gl (ab (C u)) (swp k JK .skip) σ' fun z=>(z.1= .exit 1/\Q z)\/(z.1= .normal/\mB z.2))(h2:∀z,mB z->κ (C u).gl (ab (C u)) a z Q):
  κ (C u).gl (ab (C u)) (.seq Er a) σ Q:=by
 refine bJ (mB) (κ.mono (ajz (u:=u) (Q:=fun z=>(z.1= .exit 1/\Q z)\/(z.1= .normal/\mB z.2)) hS hI Γ h fun z hz=>?_) fun z hz=>?_) h2
 ·rcases hz with⟨e,-⟩|⟨e,-⟩<;>rw[e]<;>simp
 ·rcases hz with⟨e,hz⟩|hz
  ·exact .inr ⟨by rw[e];simp,hz⟩
  ·exact .inl hz
theorem C8(hm:pm<B.length)(hs:ps<B.length)(hk:k≠2/\k≠3/\k≠5)(hS:SS pm d r i c1 c2 c3 c4 s co out σ)(hI:SI k q v e1 e2 e3 e4 s' σ)(Γ:σ.mem= {ε:=M,η:=T})(hM:MM B pm ps P c bs co lo st fr n x q L M T)(hL:L.length=14)(hn:ν (.agg L)= .agg L)(ho:out.all (shaped true 14)=true)(jN:lo=out.length)(dx:out.length<1000000):
  κ (C u).gl (ab (C u)) (.seq ra zD) σ fun z=>z.1= .normal/\∃fp M',SS pm d r i c1 c2 c3 c4 s fp (out++[.agg L]) z.2/\z.2.mem= {ε:=M',η:=T}/\Kt B pm ps P c bs fp (lo+1) st fr n x M'/\fp.exp 0 false= .any:=by
 refine bJ (fun z=>SS pm d r i c1 c2 c3 c4 s co out z/\SI k q v e1 e2 e3 e4 s' z/\z.mem= {ε:=M,η:=T}) (κ.mono (ajN (u:=u) hk hS hI Γ) fun z ⟨h1,h2⟩=> .inl ⟨h1,h2⟩) fun z ⟨h1,h2,h3⟩=>?_;exact Jj hm hs h1 h2 h3 hM hL hn ho jN dx
theorem LY(hm:pm<B.length)(hs:ps<B.length)(gE:k≠4/\k≠8/\k≠10/\k≠7/\k≠11)(hk:k≠2/\k≠3/\k≠5)(hS:SS pm d r i c1 c2 c3 c4 s co out σ)(hI:SI k q v e1 e2 e3 e4 s' σ)(Γ:σ.mem= {ε:=M,η:=T})(hM:MM B pm ps P c bs co lo st fr n x q L M T)(hL:L.length=14)(hn:ν (.agg L)= .agg L)(ho:out.all (shaped true 14)=true)(jN:lo=out.length)(dx:out.length<1000000):
  κ (C u).gl (ab (C u)) (.seq uG (.seq ra zD)) σ fun z=>z.1= .normal/\∃fp M',SS pm d r i c1 c2 c3 c4 s fp (out++[.agg L]) z.2/\z.2.mem= {ε:=M',η:=T}/\Kt B pm ps P c bs fp (lo+1) st fr n x M'/\fp.exp 0 false= .any:=by
 refine bJ (fun z=>SS pm d r i c1 c2 c3 c4 s co out z/\SI k q v e1 e2 e3 e4 s' z/\z.mem= {ε:=M,η:=T}) (κ.mono (Jy (u:=u) gE hS hI Γ) fun z ⟨h1,h2⟩=> .inl ⟨h1,h2⟩) fun z ⟨h1,h2,h3⟩=>?_;exact C8 hm hs hk h1 h2 h3 hM hL hn ho jN dx
end
def Sc.size(s:Sc):Nat:=s.aB.length+s.cA.length+s.bits.length+s.turns.length
theorem Sc.Pq(s:Sc)(nm:List Nat):(s.put nm).size=s.size+2:=by simp[Sc.size,Sc.put];omega
theorem Sc.afV(s:Sc)(nm:List Nat):(s.ml nm).size=s.size+1:=by simp[Sc.size,Sc.ml];omega
theorem Sc.aks(s:Sc)(nm:List Nat):(s.dS nm).size=s.size+1:=by simp[Sc.size,Sc.dS];omega
theorem Sc.Zv(s:Sc)(nm:List Nat):(s.bit nm).size<=s.size+1:=by
 unfold Sc.bit;split
 ·omega
 ·simp[Sc.size];omega
theorem Sc.aaS(s:Sc)(nm:List Nat):(s.drop nm).size<=s.size:=by have h1:(s.drop nm).aB.length<=s.aB.length:=al7 _ _;have h2:(s.drop nm).cA.length<=s.cA.length:=al7 _ _;have h3:(s.drop nm).bits=s.bits:=rfl;have h4:(s.drop nm).turns=s.turns:=rfl;simp only[Sc.size,h3,h4];omega
def Bk(u pm ps:Nat)(P:AV)(c:ρ)(bs:List Nat)(bB:List (List Nat×Nat))(d D:Nat):Prop:=
 ∀(M:List θ) (st fr n:Nat) (x:Int) (c1 c2 c3 c4:ρ) (s:Sc),MS pm ps P c bs st fr n x M->n+10*D<500000000000000000->st+10*D<500000000000000000->fr+40<=1000+min st 40->s.size<=2*fr->(c1= .nil->s.aB=[])->(c3= .nil->s.bits=[])->(c4= .nil->s.turns=[])→
  ∃x' n' aV ax cap,∃l:List δ,(n<=n'/\n'<=n+D)/\(st<=aV/\aV<=st+D)/\(fr<=ax/\ax+min st 40<=fr+min aV 40)/\aR bB d fr s.inner l ax/\δ.bL l+min st 40<=min aV 40/\cap=Φ l/\Dv (.list cap (δ.χ l)) (.list cap (δ.χ l))∧
   ∀T,kf u 122 [.μ pm 0,.n (d:Int),.agg (gJ c1 c2 c3 c4 s)] {ε:=M,η:=T}=some (.list cap (δ.χ l),{ε:=(M.set pm (.cells (bH ps P (aV:Nat) ax))).set ps (.cells (aG c bs n' x')),η:=T})
section
variable{B:List θ}{pm ps:Nat}{P:AV}{c:ρ}{bs:List Nat}{co:ρ}{lo st fr n:Nat}{x:Int}{M:List θ}{q:Nat}{L:List AV}{T:List Nat}
variable(hm:pm<B.length)(hs:ps<B.length)(φ:pm≠ps)(hb:bs.length<=300)
variable{d:Nat}{r i:Int}{c1 c2 c3 c4:ρ}{s:Sc}{out:List AV}{v:Nat}{e1 e2 e3 e4:ρ}{s':Sc}{σ:St}
theorem MM.both(h:MM B pm ps P c bs co lo st fr n x q L M T)(hm:pm<B.length)(hs:ps<B.length)(φ:pm≠ps)(aV ax n':Nat)(x':Int):MM B pm ps P c bs co lo aV ax n' x' q L ((M.set pm (.cells (bH ps P aV ax))).set ps (.cells (aG c bs n' x'))) T:=
 (h.mo hm φ aV ax).draw hs φ n' x'
def Zr(B:List θ)(pm ps:Nat)(P:AV)(c:ρ)(bs:List Nat)(bB:List (List Nat×Nat))(d D:Nat)(r i:Int)(c1 c2 c3 c4:ρ)(s:Sc)(co:ρ)(out:List AV)(st fr n:Nat)(M:List θ)(T:List Nat)(z:Ex×St):Prop:=
 (z.1= .exit 1/\SS pm d r i c1 c2 c3 c4 s co out z.2/\z.2.mem= {ε:=M,η:=T})∨
 (z.1= .normal/\∃x' n' aV ax M' T' gU gV ll lZ s2 fp L,∃y:δ,SS pm d r i gU gV ll lZ s2 fp (out++[.agg L]) z.2/\z.2.mem= {ε:=M',η:=T'}/\(Kt B pm ps P c bs fp (out.length+1) aV ax n' x' M'/\fp.exp 0 false= .any)/\(∀i∈T',B.length<=i)/\eZ bB d fr s y ax s2/\Dv (.agg L) y.av/\L.length=14∧
  (n<=n'/\n'<=n+290+2*D)/\(st<=aV/\aV<=st+2*D)/\(fr<=ax/\ax+st<=fr+1+min aV 40)/\y.cnt+st<=1+min aV 40/\s2.size<=2*ax/\(gU= .nil->s2.aB=[])/\(gV= .nil->s2.cA=[])/\(ll= .nil->s2.bits=[])/\(lZ= .nil->s2.turns=[]))
include hm hs φ hb
variable{bB:List (List Nat×Nat)}{D:Nat}
variable(Ω:st<=40)(dK:fr+41<=1000+st)(hn:n+300+12*D<500000000000000000)(nH:st+12*D<500000000000000000)(aL:s.size<=2*fr)(k1:c1= .nil->s.aB=[])(k2:c2= .nil->s.cA=[])(k3:c3= .nil->s.bits=[])(k4:c4= .nil->s.turns=[])(ho:out.all (shaped true 14)=true)(dx:out.length<1000000)
variable(rec:d<5->Bk u pm ps P c bs bB (d+1) D)(qI:1<=d/\d<=5)
include Ω dK hn nH aL k1 k2 k3 k4 ho dx
noncomputable abbrev rn:AC:= .seq Er (.seq uG (.seq ra zD))
theorem aiO(hr:s.aB≠[])(hS:SS pm d r i c1 c2 c3 c4 s co out σ)(hI:SI 1 q v c1 c2 c3 c4 s σ)(Γ:σ.mem= {ε:=M,η:=T})(hM:MM B pm ps P c bs co out.length st fr n x q (aT 1 0 [] ω z4 z4 ω ω) M T):
  κ (C u).gl (ab (C u)) rn σ (Zr B pm ps P c bs bB d D r i c1 c2 c3 c4 s co out st fr n M T):=by
 have xC:s.aB.length<=s.size:=by unfold Sc.size;omega
 refine tO (u:=u) (mB:=fun z=>∃x' n' M' T' g cp,∃l:List ξ,(n<=n'/\n'<=n+280)/\(1<=g/\g<=12)/\l.length=gb g/\(∀p∈l,f_ s.aB s.turns p)/\SS pm d r i c1 c2 c3 c4 s co out z/\SI 1 q v c1 c2 c3 c4 s z/\z.mem= {ε:=M',η:=T'}/\MM B pm ps P c bs co out.length st fr n' x' q (aT 1 g [] (.list cp (l.map ξ.av)) z4 z4 ω ω) M' T'/\cp.exp 0 false=Φ l) hS hI Γ (fun σ' h1 h2 h3=>κ.mono (afg (u:=u) hm hs φ hb h1 h2 h3 hM (by omega) hr (by omega)) fun z hz=> .inr hz) fun z ⟨x',n',M',T',g,cp,l,l1,l2,l3,l4,h1,h2,h3,h4,mS⟩=>?_;have fF:=uf (k:=1) (g:=g) (nm:=[]) (cp:=cp) (fun p hp=>(l4 p hp).fx) oB oB (body:=[]) (els:=[]) pv pv;have hL:=ig (k:=1) (g:=g) (nm:=[]) (P:= .list cp (l.map ξ.av)) (b:=ω) (e:=ω) fj fj;refine κ.mono (LY (u:=u) hm hs (by omega) (by omega) h1 h2 h3 h4 hL fF.ν ho rfl dx) fun z ⟨y1,fp,N,y2,y3,y4⟩=> .inr ⟨y1,x',n',st,fr,N,T',c1,c2,c3,c4,s,fp,_,_,y2,y3,y4,h4.tt,.gate l2.1 l2.2 l3 l4 mS,fF,hL,by omega,by omega,by omega,?_,aL,k1,k2,k3,k4⟩;simp[bw,δ.cnt,aU,bm];omega
theorem aiR(hS:SS pm d r i c1 c2 c3 c4 s co out σ)(hI:SI 2 q v c1 c2 c3 c4 s σ)(Γ:σ.mem= {ε:=M,η:=T})(hM:MM B pm ps P c bs co out.length st fr n x q (aT 2 0 [] ω z4 z4 ω ω) M T):
  κ (C u).gl (ab (C u)) rn σ (Zr B pm ps P c bs bB d D r i c1 c2 c3 c4 s co out st fr n M T):=by
 have xC:s.aB.length<=s.size/\s.cA.length<=s.size:=by unfold Sc.size;omega
 refine tO (u:=u) (mB:=fun z=>∃x' n' M' ix,(n<=n'/\n'<=n+35)/\cZ s.turns 4 ix/\SS pm d r i c1 c2 c3 c4 s co out z/\SI 2 q v c1 c2 c3 c4 s z/\z.mem= {ε:=M',η:=T}/\MM B pm ps P c bs co out.length st (fr+1) n' x' q (aT 2 0 (bR [113] (fr+1)) ω ix.four z4 ω ω) M' T) hS hI Γ (fun σ' h1 h2 h3=>κ.mono (afj (u:=u) hm hs φ hb h1 h2 h3 hM (by omega) (by omega)) fun z hz=> .inr hz) fun z ⟨x',n',M',ix,l1,l2,h1,h2,h3,h4⟩=>?_;generalize jY:bR [113] (fr+1)=nm at*;have fF:=uf (k:=2) (g:=0) (nm:=nm) (cp:= .nil) (oE:=[]) (fun p hp=>(by cases hp)) l2.fx oB (body:=[]) (els:=[]) pv pv;have hL:=ig (k:=2) (g:=0) (nm:=nm) (P:=ω) (b:=ω) (e:=ω) ix.ft fj;refine bJ (fun z=>SS pm d r i c1 c2 c3 c4 s co out z/\SI 2 q v c1 c2 c3 c4 s z/\z.mem= {ε:=M',η:=T}) (κ.mono (Jy (u:=u) (by omega) h1 h2 h3) fun z ⟨h1,h2⟩=> .inl ⟨h1,h2⟩) fun z ⟨h1,h2,h3⟩=>?_;refine bJ (fun z=>∃gU gV M2,SS pm d r i gU gV c3 c4 (s.put nm) co out z/\SI 2 q v c1 c2 c3 c4 s z/\gU≠ .nil/\gV≠ .nil/\z.mem= {ε:=M2,η:=T}/\MM B pm ps P c bs co out.length st (fr+1) n' x' q (aT 2 0 nm ω ix.four z4 ω ω) M2 T) (κ.mono (ajO (u:=u) hm hs ix.ft fj k1 k2 (by omega) (by omega) h1 h2 h3 h4) fun z hz=> .inl hz) fun z ⟨gU,gV,M2,h1,h2,a1,a2,h3,h4⟩=>?_;refine κ.mono (Jj (u:=u) hm hs h1 h2 h3 h4 hL fF.ν ho rfl dx) fun z ⟨y1,fp,N,y2,y3,y4⟩=> .inr ⟨y1,x',n',st,fr+1,N,T,gU,gV,c3,c4,s.put nm,fp,_,_,y2,y3,y4,h4.tt,?_,fF,hL,by omega,by omega,by omega,?_,?_,fun h=>absurd h a1,fun h=>absurd h a2,k3,k4⟩
 ·rw[<-jY];exact .take l2
 ·simp[bw,δ.cnt,aU,bm];omega
 ·rw[Sc.Pq];omega
theorem aiN(hS:SS pm d r i c1 c2 c3 c4 s co out σ)(hI:SI 3 q v c1 c2 c3 c4 s σ)(Γ:σ.mem= {ε:=M,η:=T})(hM:MM B pm ps P c bs co out.length st fr n x q (aT 3 0 [] ω z4 z4 ω ω) M T):
  κ (C u).gl (ab (C u)) rn σ (Zr B pm ps P c bs bB d D r i c1 c2 c3 c4 s co out st fr n M T):=by
 have xC:s.aB.length<=s.size/\s.cA.length<=s.size:=by unfold Sc.size;omega
 refine tO (u:=u) (mB:=fun z=>∃x' n' M' nm,(n<=n'/\n'<=n+1)/\nm∈s.cA/\SS pm d r i c1 c2 c3 c4 s co out z/\SI 3 q v c1 c2 c3 c4 s z/\z.mem= {ε:=M',η:=T}/\MM B pm ps P c bs co out.length st fr n' x' q (aT 3 0 nm ω z4 z4 ω ω) M' T) hS hI Γ (fun σ' h1 h2 h3=>κ.mono (aff (u:=u) hm hs φ hb h1 h2 h3 hM (by omega) (by omega)) fun z hz=>?_) fun z ⟨x',n',M',nm,l1,l2,h1,h2,h3,h4⟩=>?_
 ·rcases hz with hz|hz
  ·exact .inl ⟨hz.1,.inl hz⟩
  ·exact .inr hz
 have fF:=uf (k:=3) (g:=0) (nm:=nm) (cp:= .nil) (oE:=[]) (fun p hp=>(by cases hp)) oB oB (body:=[]) (els:=[]) pv pv;have hL:=ig (k:=3) (g:=0) (nm:=nm) (P:=ω) (b:=ω) (e:=ω) fj fj;refine bJ (fun z=>SS pm d r i c1 c2 c3 c4 s co out z/\SI 3 q v c1 c2 c3 c4 s z/\z.mem= {ε:=M',η:=T}) (κ.mono (Jy (u:=u) (by omega) h1 h2 h3) fun z ⟨h1,h2⟩=> .inl ⟨h1,h2⟩) fun z ⟨h1,h2,h3⟩=>?_;refine bJ (fun z=>∃gU gV M2,SS pm d r i gU gV c3 c4 (s.drop nm) co out z/\SI 3 q v c1 c2 c3 c4 s z/\(gU= .nil->(s.drop nm).aB=[])/\(gV= .nil->(s.drop nm).cA=[])/\z.mem= {ε:=M2,η:=T}/\MM B pm ps P c bs co out.length st fr n' x' q (aT 3 0 nm ω z4 z4 ω ω) M2 T) (κ.mono (ajL (u:=u) hm hs fj fj k1 k2 (by omega) (by omega) h1 h2 h3 h4) fun z hz=> .inl hz) fun z ⟨gU,gV,M2,h1,h2,a1,a2,h3,h4⟩=>?_;refine κ.mono (Jj (u:=u) hm hs h1 h2 h3 h4 hL fF.ν ho rfl dx) fun z ⟨y1,fp,N,y2,y3,y4⟩=> .inr ⟨y1,x',n',st,fr,N,T,gU,gV,c3,c4,s.drop nm,fp,_,_,y2,y3,y4,h4.tt,.drop l2,fF,hL,by omega,by omega,by omega,?_,?_,a1,a2,k3,k4⟩
 ·simp[bw,δ.cnt,aU,bm];omega
 ·have:=s.aaS nm;omega
theorem aiP(hr:s.aB≠[])(hS:SS pm d r i c1 c2 c3 c4 s co out σ)(hI:SI 5 q v c1 c2 c3 c4 s σ)(Γ:σ.mem= {ε:=M,η:=T})(hM:MM B pm ps P c bs co out.length st fr n x q (aT 5 0 [] ω z4 z4 ω ω) M T):
  κ (C u).gl (ab (C u)) rn σ (Zr B pm ps P c bs bB d D r i c1 c2 c3 c4 s co out st fr n M T):=by
 have xC:s.aB.length<=s.size/\s.bits.length<=s.size:=by unfold Sc.size;omega
 refine tO (u:=u) (mB:=fun z=>∃x' n' M' p nm,(n<=n'/\n'<=n+74)/\f_ s.aB s.turns p/\(nm=bR [98] (fr+1)\/nm∈s.bits)/\SS pm d r i c1 c2 c3 c4 s co out z/\SI 5 q v c1 c2 c3 c4 s z/\z.mem= {ε:=M',η:=T}/\MM B pm ps P c bs co out.length st (fr+1) n' x' q (aT 5 0 nm (.list .full [p.av]) z4 z4 ω ω) M' T) hS hI Γ (fun σ' h1 h2 h3=>κ.mono (afh (u:=u) hm hs φ hb h1 h2 h3 hM (by omega) (by omega) (by omega) hr (by omega)) fun z hz=> .inr hz) fun z ⟨x',n',M',p,nm,l1,l2,l3,h1,h2,h3,h4⟩=>?_;have fF:=uf (k:=5) (g:=0) (nm:=nm) (cp:= .full) (oE:=[p]) (fun y hy=>(by rw[fU.1 hy];exact l2.fx)) oB oB (body:=[]) (els:=[]) pv pv;have hL:=ig (k:=5) (g:=0) (nm:=nm) (P:= .list .full [p.av]) (b:=ω) (e:=ω) fj fj;refine bJ (fun z=>SS pm d r i c1 c2 c3 c4 s co out z/\SI 5 q v c1 c2 c3 c4 s z/\z.mem= {ε:=M',η:=T}) (κ.mono (Jy (u:=u) (by omega) h1 h2 h3) fun z ⟨h1,h2⟩=> .inl ⟨h1,h2⟩) fun z ⟨h1,h2,h3⟩=>?_;refine bJ (fun z=>∃ll M2,SS pm d r i c1 c2 ll c4 (s.bit nm) co out z/\SI 5 q v c1 c2 c3 c4 s z/\(ll= .nil->(s.bit nm).bits=[])/\z.mem= {ε:=M2,η:=T}/\MM B pm ps P c bs co out.length st (fr+1) n' x' q (aT 5 0 nm (.list .full [p.av]) z4 z4 ω ω) M2 T) (κ.mono (ajM (u:=u) hm hs fj fj k3 (by omega) h1 h2 h3 h4) fun z hz=> .inl hz) fun z ⟨ll,M2,h1,h2,a1,h3,h4⟩=>?_;have dz:(s.bit nm).aB=s.aB/\(s.bit nm).cA=s.cA/\(s.bit nm).turns=s.turns:=by unfold Sc.bit;split<;>exact⟨rfl,rfl,rfl⟩
 refine κ.mono (Jj (u:=u) hm hs h1 h2 h3 h4 hL fF.ν ho rfl dx) fun z ⟨y1,fp,N,y2,y3,y4⟩=> .inr ⟨y1,x',n',st,fr+1,N,T,c1,c2,ll,c4,s.bit nm,fp,_,_,y2,y3,y4,h4.tt,.measure l2 l3,fF,hL,by omega,by omega,by omega,?_,?_,fun h=>by rw[dz.1];exact k1 h,fun h=>by rw[dz.2.1];exact k2 h,a1,fun h=>by rw[dz.2.2];exact k4 h⟩
 ·simp[bw,δ.cnt,aU,bm];omega
 ·have:=s.Zv nm;omega
theorem aiM(hr:s.aB≠[])(hS:SS pm d r i c1 c2 c3 c4 s co out σ)(hI:SI 6 q v c1 c2 c3 c4 s σ)(Γ:σ.mem= {ε:=M,η:=T})(hM:MM B pm ps P c bs co out.length st fr n x q (aT 6 0 [] ω z4 z4 ω ω) M T):
  κ (C u).gl (ab (C u)) rn σ (Zr B pm ps P c bs bB d D r i c1 c2 c3 c4 s co out st fr n M T):=by
 have xC:s.aB.length<=s.size:=by unfold Sc.size;omega
 refine tO (u:=u) (mB:=fun z=>∃x' n' M' p,(n<=n'/\n'<=n+72)/\f_ s.aB s.turns p/\SS pm d r i c1 c2 c3 c4 s co out z/\SI 6 q v c1 c2 c3 c4 s z/\z.mem= {ε:=M',η:=T}/\MM B pm ps P c bs co out.length st fr n' x' q (aT 6 0 [] (.list .full [p.av]) z4 z4 ω ω) M' T) hS hI Γ (fun σ' h1 h2 h3=>κ.mono (afe (u:=u) hm hs φ hb h1 h2 h3 hM (by omega) hr (by omega)) fun z hz=> .inr hz) fun z ⟨x',n',M',p,l1,l2,h1,h2,h3,h4⟩=>?_;have fF:=uf (k:=6) (g:=0) (nm:=[]) (cp:= .full) (oE:=[p]) (fun y hy=>(by rw[fU.1 hy];exact l2.fx)) oB oB (body:=[]) (els:=[]) pv pv;have hL:=ig (k:=6) (g:=0) (nm:=[]) (P:= .list .full [p.av]) (b:=ω) (e:=ω) fj fj;refine κ.mono (LY (u:=u) hm hs (by omega) (by omega) h1 h2 h3 h4 hL fF.ν ho rfl dx) fun z ⟨y1,fp,N,y2,y3,y4⟩=> .inr ⟨y1,x',n',st,fr,N,T,c1,c2,c3,c4,s,fp,_,_,y2,y3,y4,h4.tt,.reset l2,fF,hL,by omega,by omega,by omega,?_,aL,k1,k2,k3,k4⟩;simp[bw,δ.cnt,aU,bm];omega
theorem aiL{cP:ρ}{Ps:List AV}{bA:List τ}(hP:P= .list cP Ps)(lq:bN Ps (bA.map τ.av))(gO:∀y∈bA,y.au.length<=3)(dH:bA.length<1000000)(DY:bB=ly bA)(hr:s.aB≠[])(hS:SS pm d r i c1 c2 c3 c4 s co out σ)(hI:SI 9 q v c1 c2 c3 c4 s σ)(Γ:σ.mem= {ε:=M,η:=T})(hM:MM B pm ps P c bs co out.length st fr n x q (aT 9 0 [] ω z4 z4 ω ω) M T):
  κ (C u).gl (ab (C u)) rn σ (Zr B pm ps P c bs bB d D r i c1 c2 c3 c4 s co out st fr n M T):=by
 have xC:s.aB.length<=s.size:=by unfold Sc.size;omega
 refine tO (u:=u) (mB:=fun z=>∃x' n' M' T' nm k cp,∃l:List ξ,(n<=n'/\n'<=n+280)/\(nm,k)∈ly bA/\l.length=k/\(∀p∈l,f_ s.aB s.turns p)/\SS pm d r i c1 c2 c3 c4 s co out z/\SI 9 q v c1 c2 c3 c4 s z/\z.mem= {ε:=M',η:=T'}/\MM B pm ps P c bs co out.length st fr n' x' q (aT 9 0 nm (.list cp (l.map ξ.av)) z4 z4 ω ω) M' T'/\cp.exp 0 false=Φ l) hS hI Γ (fun σ' h1 h2 h3=>κ.mono (afd (u:=u) hm hs φ hb hP lq gO dH h1 h2 h3 hM (by omega) hr (by omega)) fun z hz=>?_) fun z ⟨x',n',M',T',nm,k,cp,l,l1,l2,l3,l4,h1,h2,h3,h4,mS⟩=>?_
 ·rcases hz with hz|hz
  ·exact .inl ⟨hz.1,.inl hz⟩
  ·exact .inr hz
 have fF:=uf (k:=9) (g:=0) (nm:=nm) (cp:=cp) (fun p hp=>(l4 p hp).fx) oB oB (body:=[]) (els:=[]) pv pv;have hL:=ig (k:=9) (g:=0) (nm:=nm) (P:= .list cp (l.map ξ.av)) (b:=ω) (e:=ω) fj fj;refine κ.mono (LY (u:=u) hm hs (by omega) (by omega) h1 h2 h3 h4 hL fF.ν ho rfl dx) fun z ⟨y1,fp,N,y2,y3,y4⟩=> .inr ⟨y1,x',n',st,fr,N,T',c1,c2,c3,c4,s,fp,_,_,y2,y3,y4,h4.tt,.call (by rw[DY];exact l2) l3 l4 mS,fF,hL,by omega,by omega,by omega,?_,aL,k1,k2,k3,k4⟩;simp[bw,δ.cnt,aU,bm];omega
end
section
variable{B:List θ}{pm ps:Nat}{P:AV}{c:ρ}{bs:List Nat}{co:ρ}{lo st fr n:Nat}{x:Int}{M:List θ}{q:Nat}{L:List AV}{T:List Nat}
variable(hm:pm<B.length)(hs:ps<B.length)(φ:pm≠ps)(hb:bs.length<=300)
variable{d:Nat}{r i:Int}{c1 c2 c3 c4:ρ}{s:Sc}{out:List AV}{v:Nat}{σ:St}
include hm hs φ hb
variable{bB:List (List Nat×Nat)}{D:Nat}
variable(Ω:st<=40)(dK:fr+41<=1000+st)(hn:n+300+12*D<500000000000000000)(nH:st+12*D<500000000000000000)(aL:s.size<=2*fr)(k1:c1= .nil->s.aB=[])(k2:c2= .nil->s.cA=[])(k3:c3= .nil->s.bits=[])(k4:c4= .nil->s.turns=[])(ho:out.all (shaped true 14)=true)(dx:out.length<1000000)
variable(rec:Bk u pm ps P c bs bB (d+1) D)(qI:d<5)
include Ω dK hn nH aL k1 k2 k3 k4 ho dx rec qI
theorem aiK(hS:SS pm d r i c1 c2 c3 c4 s co out σ)(hI:SI 4 q v c1 c2 c3 c4 s σ)(Γ:σ.mem= {ε:=M,η:=T})(hM:MM B pm ps P c bs co out.length st fr n x q (aT 4 0 [] ω z4 z4 ω ω) M T):
  κ (C u).gl (ab (C u)) rn σ (Zr B pm ps P c bs bB d D r i c1 c2 c3 c4 s co out st fr n M T):=by
 have xC:s.aB.length<=s.size:=by unfold Sc.size;omega
 have vz:((d+1:Nat):Int)=(d:Int)+1:=by omega
 refine tO (u:=u) (mB:=fun z=>∃x' n' M' ix c',(n<=n'/\n'<=n+35)/\cZ s.turns 4 ix/\SS pm d r i c1 c2 c3 c4 s co out z/\SI 4 q v c' c2 c3 c4 (s.ml (bR [114] (fr+1))) z/\c'≠ .nil/\z.mem= {ε:=M',η:=T}/\MM B pm ps P c bs co out.length st (fr+1) n' x' q (aT 4 0 (bR [114] (fr+1)) ω ix.four z4 ω ω) M' T) hS hI Γ (fun σ' h1 h2 h3=>κ.mono (afc (u:=u) hm hs φ hb h1 h2 h3 hM (by omega) (by omega) (by omega) k1) fun z hz=> .inr hz) fun z ⟨x',n',M',ix,c',l1,l2,h1,h2,l3,h3,h4⟩=>?_;obtain⟨x2,n2,pC,gW,cap,body,a1,a2,a3,a4,a5,a7,a8,mu⟩:=rec M' st (fr+1) n' x' c' c2 c3 c4 (s.ml (bR [114] (fr+1))) h4.kt.ms (by omega) (by omega) (by omega) (by rw[Sc.afV];omega) (fun h=>absurd h l3) k3 k4;rw[vz]at mu;generalize jY:bR [114] (fr+1)=nm at*;have M2:=h4.both hm hs φ pC gW n2 x2;have M3:=M2.cell hm hs (aT 4 0 nm ω ix.four z4 (.list cap (δ.χ body)) ω);have fF:=uf (k:=4) (g:=0) (nm:=nm) (cp:= .nil) (oE:=[]) (fun p hp=>(by cases hp)) l2.fx oB (els:=[]) a8 pv;have hL:=ig (k:=4) (g:=0) (nm:=nm) (P:=ω) (b:= .list cap (δ.χ body)) (e:=ω) ix.ft fj;refine bJ (fun z=>SS pm d r i c1 c2 c3 c4 s co out z/\SI 4 q v c' c2 c3 c4 (s.ml nm) z/\z.mem= {ε:=((M'.set pm (.cells (bH ps P (pC:Nat) gW))).set ps (.cells (aG c bs n2 x2))).set q (.cells (aT 4 0 nm ω ix.four z4 (.list cap (δ.χ body)) ω)),η:=T}) (κ.mono (PG (u:=u) (.inl rfl) ix.ft fj a8 rfl (by omega) mu M2.q2 h1 h2 h3) fun z hz=> .inl hz) fun z ⟨h1,h2,h3⟩=>?_;refine κ.mono (C8 (u:=u) hm hs (by omega) h1 h2 h3 M3 hL fF.ν ho rfl dx) fun z ⟨y1,fp,N,y2,y3,y4⟩=> .inr ⟨y1,x2,n2,pC,gW,N,T,c1,c2,c3,c4,s,fp,_,_,y2,y3,y4,h4.tt,?_,fF,hL,by omega,by omega,by omega,?_,by omega,k1,k2,k3,k4⟩
 ·rw[<-jY]at a4⊢;exact .borrow qI l2 a4 (a7▸kN _) a7
 ·simp[bw,δ.cnt,aU,bm];omega
theorem aiQ(hS:SS pm d r i c1 c2 c3 c4 s co out σ)(hI:SI 8 q v c1 c2 c3 c4 s σ)(Γ:σ.mem= {ε:=M,η:=T})(hM:MM B pm ps P c bs co out.length st fr n x q (aT 8 0 [] ω z4 z4 ω ω) M T):
  κ (C u).gl (ab (C u)) rn σ (Zr B pm ps P c bs bB d D r i c1 c2 c3 c4 s co out st fr n M T):=by
 have xC:s.turns.length<=s.size:=by unfold Sc.size;omega
 have vz:((d+1:Nat):Int)=(d:Int)+1:=by omega
 refine tO (u:=u) (mB:=fun z=>∃x' n' M' ix iy c',(n<=n'/\n'<=n+30)/\cZ s.turns 3 ix/\cZ s.turns 3 iy/\SS pm d r i c1 c2 c3 c4 s co out z/\SI 8 q v c1 c2 c3 c' (s.dS (bR [105] (fr+1))) z/\c'≠ .nil/\z.mem= {ε:=M',η:=T}/\MM B pm ps P c bs co out.length st (fr+1) n' x' q (aT 8 0 (bR [105] (fr+1)) ω ix.four iy.four ω ω) M' T) hS hI Γ (fun σ' h1 h2 h3=>κ.mono (afi (u:=u) hm hs φ hb h1 h2 h3 hM (by omega) (by omega) (by omega) k4) fun z hz=> .inr hz) fun z ⟨x',n',M',ix,iy,c',l1,l2,Et,h1,h2,l3,h3,h4⟩=>?_;obtain⟨x2,n2,pC,gW,cap,body,a1,a2,a3,a4,a5,a7,a8,mu⟩:=rec M' st (fr+1) n' x' c1 c2 c3 c' (s.dS (bR [105] (fr+1))) h4.kt.ms (by omega) (by omega) (by omega) (by rw[Sc.aks];omega) k1 k3 (fun h=>absurd h l3);rw[vz]at mu;generalize jY:bR [105] (fr+1)=nm at*;have M2:=h4.both hm hs φ pC gW n2 x2;have M3:=M2.cell hm hs (aT 8 0 nm ω ix.four iy.four (.list cap (δ.χ body)) ω);have fF:=uf (k:=8) (g:=0) (nm:=nm) (cp:= .nil) (oE:=[]) (fun p hp=>(by cases hp)) l2.fx Et.fx (els:=[]) a8 pv;have hL:=ig (k:=8) (g:=0) (nm:=nm) (P:=ω) (b:= .list cap (δ.χ body)) (e:=ω) ix.ft iy.ft;refine bJ (fun z=>SS pm d r i c1 c2 c3 c4 s co out z/\SI 8 q v c1 c2 c3 c' (s.dS nm) z/\z.mem= {ε:=((M'.set pm (.cells (bH ps P (pC:Nat) gW))).set ps (.cells (aG c bs n2 x2))).set q (.cells (aT 8 0 nm ω ix.four iy.four (.list cap (δ.χ body)) ω)),η:=T}) (κ.mono (PG (u:=u) (.inr (.inl rfl)) ix.ft iy.ft a8 rfl (by omega) mu M2.q2 h1 h2 h3) fun z hz=> .inl hz) fun z ⟨h1,h2,h3⟩=>?_;refine κ.mono (C8 (u:=u) hm hs (by omega) h1 h2 h3 M3 hL fF.ν ho rfl dx) fun z ⟨y1,fp,N,y2,y3,y4⟩=> .inr ⟨y1,x2,n2,pC,gW,N,T,c1,c2,c3,c4,s,fp,_,_,y2,y3,y4,h4.tt,?_,fF,hL,by omega,by omega,by omega,?_,by omega,k1,k2,k3,k4⟩
 ·rw[<-jY]at a4⊢;exact .loop qI l2 Et a4 (a7▸kN _) a7
 ·simp[bw,δ.cnt,aU,bm];omega
theorem aiS(hS:SS pm d r i c1 c2 c3 c4 s co out σ)(hI:SI 10 q v c1 c2 c3 c4 s σ)(Γ:σ.mem= {ε:=M,η:=T})(hM:MM B pm ps P c bs co out.length st fr n x q (aT 10 0 [] ω z4 z4 ω ω) M T):
  κ (C u).gl (ab (C u)) rn σ (Zr B pm ps P c bs bB d D r i c1 c2 c3 c4 s co out st fr n M T):=by
 have vz:((d+1:Nat):Int)=(d:Int)+1:=by omega
 refine tO (u:=u) (mB:=fun z=>SS pm d r i c1 c2 c3 c4 s co out z/\SI 10 q v c1 c2 c3 c4 s z/\z.mem= {ε:=M,η:=T}) hS hI Γ (fun σ' h1 h2 h3=>κ.skip (.inr ⟨rfl,h1,h2,h3⟩)) fun z ⟨h1,h2,h3⟩=>?_;obtain⟨x2,n2,pC,gW,cap,body,a1,a2,a3,a4,a5,a7,a8,mu⟩:=rec M st fr n x c1 c2 c3 c4 s hM.kt.ms (by omega) (by omega) (by omega) aL k1 k3 k4;rw[vz]at mu;have M2:=hM.both hm hs φ pC gW n2 x2;have M3:=M2.cell hm hs (aT 10 0 [] ω z4 z4 (.list cap (δ.χ body)) ω);have fF:=uf (k:=10) (g:=0) (nm:=[]) (cp:= .nil) (oE:=[]) (fun p hp=>(by cases hp)) oB oB (els:=[]) a8 pv;have hL:=ig (k:=10) (g:=0) (nm:=[]) (P:=ω) (b:= .list cap (δ.χ body)) (e:=ω) fj fj;refine bJ (fun z=>SS pm d r i c1 c2 c3 c4 s co out z/\SI 10 q v c1 c2 c3 c4 s z/\z.mem= {ε:=((M.set pm (.cells (bH ps P (pC:Nat) gW))).set ps (.cells (aG c bs n2 x2))).set q (.cells (aT 10 0 [] ω z4 z4 (.list cap (δ.χ body)) ω)),η:=T}) (κ.mono (PG (u:=u) (.inr (.inr rfl)) fj fj a8 rfl (by omega) mu M2.q2 h1 h2 h3) fun z hz=> .inl hz) fun z ⟨h1,h2,h3⟩=>?_;refine κ.mono (C8 (u:=u) hm hs (by omega) h1 h2 h3 M3 hL fF.ν ho rfl dx) fun z ⟨y1,fp,N,y2,y3,y4⟩=> .inr ⟨y1,x2,n2,pC,gW,N,T,c1,c2,c3,c4,s,fp,_,_,y2,y3,y4,hM.tt,.qp qI a4 (a7▸kN _) a7,fF,hL,by omega,by omega,by omega,?_,by omega,k1,k2,k3,k4⟩;simp[bw,δ.cnt,aU,bm];omega
theorem Yn{k g:Int}{nm:List Nat}(hk:k=7\/k=11){n':Nat}{x':Int}{M':List θ}(xw:n<=n'/\n'<=n+1)(h1:SS pm d r i c1 c2 c3 c4 s co out σ)(h2:SI k q v c1 c2 c3 c4 s σ)(h3:σ.mem= {ε:=M',η:=T})(h4:MM B pm ps P c bs co out.length st fr n' x' q (aT k g nm ω z4 z4 ω ω) M' T)
  (qR:∀{gW AZ:Nat} {cb ce:ρ} {body els:List δ},aR bB (d+1) fr s.inner body gW->aR bB (d+1) gW s.inner els AZ->bp cb->cb=Φ body->bp ce->ce=Φ els->eZ bB d fr s (bw k g nm .nil [] jE jE cb body ce els) AZ s):
  κ (C u).gl (ab (C u)) (.seq uG (.seq ra zD)) σ (Zr B pm ps P c bs bB d D r i c1 c2 c3 c4 s co out st fr n M T):=by
 have vz:((d+1:Nat):Int)=(d:Int)+1:=by omega
 obtain⟨x2,n2,pC,gW,cap,body,a1,a2,a3,a4,a5,a7,a8,mu⟩:=rec M' st fr n' x' c1 c2 c3 c4 s h4.kt.ms (by omega) (by omega) (by omega) aL k1 k3 k4;have M2:=h4.both hm hs φ pC gW n2 x2;obtain⟨x3,n3,PR,AZ,gq,els,b1,b2,b3,b4,b5,b7,b8,BY⟩:=rec _ pC gW n2 x2 c1 c2 c3 c4 s M2.kt.ms (by omega) (by omega) (by omega) (by omega) k1 k3 k4;rw[vz]at mu BY;have M3:=M2.both hm hs φ PR AZ n3 x3;have M4:=M3.cell hm hs (aT k g nm ω z4 z4 (.list cap (δ.χ body)) (.list gq (δ.χ els)));have fF:=uf (k:=k) (g:=g) (nm:=nm) (cp:= .nil) (oE:=[]) (fun p hp=>(by cases hp)) oB oB a8 b8;have hL:=ig (k:=k) (g:=g) (nm:=nm) (P:=ω) (b:= .list cap (δ.χ body)) (e:= .list gq (δ.χ els)) fj fj;refine bJ (fun z=>SS pm d r i c1 c2 c3 c4 s co out z/\SI k q v c1 c2 c3 c4 s z/\z.mem= {ε:=((((M'.set pm (.cells (bH ps P (pC:Nat) gW))).set ps (.cells (aG c bs n2 x2))).set pm (.cells (bH ps P (PR:Nat) AZ))).set ps (.cells (aG c bs n3 x3))).set q (.cells (aT k g nm ω z4 z4 (.list cap (δ.χ body)) (.list gq (δ.χ els)))),η:=T}) (κ.mono (ajK (u:=u) hk fj fj a8 rfl b8 rfl (by omega) mu BY M3.q2 h1 h2 h3) fun z hz=> .inl hz) fun z ⟨h1,h2,h3⟩=>?_;refine κ.mono (C8 (u:=u) hm hs (by omega) h1 h2 h3 M4 hL fF.ν ho rfl dx) fun z ⟨y1,fp,N,y2,y3,y4⟩=> .inr ⟨y1,x3,n3,PR,AZ,N,T,c1,c2,c3,c4,s,fp,_,_,y2,y3,y4,h4.tt,qR a4 b4 (a7▸kN _) a7 (b7▸kN _) b7,fF,hL,by omega,by omega,by omega,?_,by omega,k1,k2,k3,k4⟩;rcases hk with rfl|rfl<;>simp[bw,δ.cnt,aU,bm]<;>omega
theorem aiU(hS:SS pm d r i c1 c2 c3 c4 s co out σ)(hI:SI 11 q v c1 c2 c3 c4 s σ)(Γ:σ.mem= {ε:=M,η:=T})(hM:MM B pm ps P c bs co out.length st fr n x q (aT 11 0 [] ω z4 z4 ω ω) M T):
  κ (C u).gl (ab (C u)) rn σ (Zr B pm ps P c bs bB d D r i c1 c2 c3 c4 s co out st fr n M T):=by
 refine tO (u:=u) (mB:=fun z=>SS pm d r i c1 c2 c3 c4 s co out z/\SI 11 q v c1 c2 c3 c4 s z/\z.mem= {ε:=M,η:=T}) hS hI Γ (fun σ' h1 h2 h3=>κ.skip (.inr ⟨rfl,h1,h2,h3⟩)) fun z ⟨h1,h2,h3⟩=>?_;exact Yn hm hs φ hb Ω dK hn nH aL k1 k2 k3 k4 ho dx rec qI (.inr rfl) (by omega) h1 h2 h3 hM fun g1 g2 g3 g4 g5 g6=> .within qI g1 g2 g3 g4 g5 g6
theorem aiT(hS:SS pm d r i c1 c2 c3 c4 s co out σ)(hI:SI 7 q v c1 c2 c3 c4 s σ)(Γ:σ.mem= {ε:=M,η:=T})(hM:MM B pm ps P c bs co out.length st fr n x q (aT 7 0 [] ω z4 z4 ω ω) M T):
  κ (C u).gl (ab (C u)) rn σ (Zr B pm ps P c bs bB d D r i c1 c2 c3 c4 s co out st fr n M T):=by
 have xC:s.bits.length<=s.size:=by unfold Sc.size;omega
 refine tO (u:=u) (mB:=fun z=>∃x' n' M' nm,(n<=n'/\n'<=n+1)/\nm∈s.bits/\SS pm d r i c1 c2 c3 c4 s co out z/\SI 7 q v c1 c2 c3 c4 s z/\z.mem= {ε:=M',η:=T}/\MM B pm ps P c bs co out.length st fr n' x' q (aT 7 0 nm ω z4 z4 ω ω) M' T) hS hI Γ (fun σ' h1 h2 h3=>κ.mono (afk (u:=u) hm hs φ hb h1 h2 h3 hM (by omega) (by omega)) fun z hz=>?_) fun z ⟨x',n',M',nm,l1,l2,h1,h2,h3,h4⟩=>?_
 ·rcases hz with hz|hz
  ·exact .inl ⟨hz.1,.inl hz⟩
  ·exact .inr hz
 exact Yn hm hs φ hb Ω dK hn nH aL k1 k2 k3 k4 ho dx rec qI (.inl rfl) l1 h1 h2 h3 h4 fun g1 g2 g3 g4 g5 g6=> .cond qI l2 g1 g2 g3 g4 g5 g6
end
end Go.Θ.Tz
namespace Go.Θ
mutual
theorem Sz:∀v,pf v=true->pf (eB v)=true/\eB (eB v)=eB v
 | .int _ _,_=>⟨rfl,rfl⟩
 | .bool _,_=>⟨rfl,rfl⟩
 | .str _,_=>⟨rfl,rfl⟩
 | .list c l,h=>by obtain⟨h1,h2⟩:=F7 l (by simpa only[pf]using h);refine⟨by simpa only[eB,pf]using h1,?_⟩;simp only[eB,h2,vi]
 | .agg l,h=>by obtain⟨h1,h2⟩:=F7 l (by simpa only[pf]using h);exact⟨by simpa only[eB,pf]using h1,by simp only[eB,h2]⟩
 | .aQ l,h=>by obtain⟨h1,h2⟩:=F7 l (by simpa only[pf]using h);exact⟨by simpa only[eB,pf]using h1,by simp only[eB,h2]⟩
 | .undef,h| .cY,h| .iW,h| .fX,h| .gy,h| .gZ,h=>by simp[pf]at h
 | .aj _ _ _,h| .μ _ _,h| .ref _,h| .sl _ _ _ _ _,h| .fn _ _ _,h| .iface _ _,h| .map _,h=>by simp[pf]at h
theorem F7:∀l,kW l=true->kW (jJ l)=true/\jJ (jJ l)=jJ l
 |[],_=>⟨rfl,rfl⟩
 |v::l,h=>by simp only[kW,Bool.and_eq_true]at h;obtain⟨h1,h2⟩:=Sz v h.1;obtain⟨k1,k2⟩:=F7 l h.2;exact⟨by simp only[jJ,kW,h1,k1];rfl,by simp only[jJ,h2,k2]⟩
end
theorem Dv.self{v w:AV}(h:Dv v w):Dv w w:=by have:=Sz v h.1;rw[h.2]at this;exact this
end Go.Θ
namespace Go.Θ.Tz
open Go.Θ
variable{u:Nat}
attribute [local simp] exec dY dP eX aI dw fA eN aK fL bQ iu iE iM jd lG Ld Lh Lj Lg Le Lf wi iX rd wr gT single e_ ew κ cK RV.get cL fT kz rO
inductive yn (bB:List (List Nat×Nat)) (d oS:Nat) (s0:Sc):List δ->Nat->Sc->Prop
 |nil:yn bB d oS s0 [] oS s0
 |snoc {l:List δ} {y:δ} {fr ax:Nat} {s s':Sc} (h1:yn bB d oS s0 l fr s) (h2:eZ bB d fr s y ax s'):yn bB d oS s0 (l++[y]) ax s'
theorem yn.bl{bB:List (List Nat×Nat)}{d oS fr:Nat}{s0 s:Sc}{l:List δ}(h:yn bB d oS s0 l fr s):∀{r:List δ} {gW:Nat},aR bB d fr s r gW->aR bB d oS s0 (l++r) gW:=by
 induction h with
 |nil=>exact fun h=>h
 |snoc h1 h2 ih=>
  intro r gW hr
  rw[List.append_assoc];exact ih (.cons h2 hr)
theorem aav(l:List δ)(y:δ):δ.bL (l++[y])=δ.bL l+y.cnt:=by
 induction l with
 |nil=>simp[δ.bL]
 |cons a l ih=>simp only[List.cons_append,δ.bL,ih];omega
theorem Wx{f:FuncId}{g:AF}{args:List AV}{B B':List θ}{v:AV}(h1:(C u).gQ f=none)(h2:(C u).fs f=some g)(h3:(C u).bf f=false)(hl:B'.length=B.length)(hx:args.map (exp B.length false)=args)
  (hr:κ (C u).gl (ab (C u)) g.code {env:=args,loc:=[],mem:= {ε:=B,η:=[]}} fun r=>(∀i,r.1≠ .exit i)/\(∃bs T',r.2.mem= {ε:=B'++bs,η:=T'}/\∀i∈T',B.length<=i)/\∃l,cK r.2 g.results=some l/\aO r.2.mem.ε B.length 8 (cL l)=v) (T:List Nat):
  ab (C u) (.fn (.func f) [] []) args {ε:=B,η:=T}=some (v,{ε:=B',η:=T}):=by
 obtain⟨⟨ex,s'⟩,q1,q2,⟨bs,T',q3,q4⟩,l,q5,q6⟩:=hr;have eL:([]++args++[]).map (exp B.length false)=args:=by simp only[List.nil_append,dF,hx]
 have:ab (C u) (.fn (.func f) [] []) args {ε:=B,η:=T}=some (aO s'.mem.ε B.length 8 (cL l),({ε:=B,η:=T}:Mem).back s'.mem):=by
  apply sS;simp only[body,h1,h2,h3,eL,q1];cases ex with
  |exit i=>exact absurd rfl (q2 i)
  |_=>simp only[fin,q5];rfl
 rw[this];dsimp only at q3 q6;rw[q6,q3];have hb:({ε:=B,η:=T}:Mem).back {ε:=B'++bs,η:=T'}=({ε:=B',η:=T}:Mem).back {ε:=B'++bs,η:=T'}:=by simp only[Mem.back,hl]
 rw[hb,QG _ _ _ (fun i hi=>by dsimp only;rw[hl];exact q4 i hi)]
section
variable{B:List θ}{pm ps:Nat}{P:AV}{c:ρ}{bs:List Nat}
def Inv(B:List θ)(pm ps:Nat)(P:AV)(c:ρ)(bs:List Nat)(bB:List (List Nat×Nat))(d D nP oS n0:Nat)(s0:Sc)(r i:Int)(j:Nat)(z:St):Prop:=
 ∃x n st fr M T c1 c2 c3 c4 s co out,∃l:List δ,SS pm d r i c1 c2 c3 c4 s co out z/\z.mem= {ε:=M,η:=T}/\(Kt B pm ps P c bs co out.length st fr n x M/\co.exp 0 false=Φ l)/\(∀i∈T,B.length<=i)/\yn bB d oS s0 l fr s/\bN out (δ.χ l)/\out.all (shaped true 14)=true∧
  (n0<=n/\n<=n0+1+j*(300+2*D))/\(nP<=st/\st<=nP+j*(300+2*D))/\(oS<=fr/\fr+min nP 40<=oS+min st 40)/\δ.bL l+min nP 40<=min st 40/\out.length<=j/\s.size<=2*fr/\(c1= .nil->s.aB=[])/\(c2= .nil->s.cA=[])/\(c3= .nil->s.bits=[])/\(c4= .nil->s.turns=[])
variable(hm:pm<B.length)(hs:ps<B.length)(φ:pm≠ps)(hb:bs.length<=300)
variable{d D nP oS n0:Nat}{s0:Sc}{r i:Int}{bB:List (List Nat×Nat)}
variable{cP:ρ}{Ps:List AV}{bA:List τ}(hP:P= .list cP Ps)(lq:bN Ps (bA.map τ.av))(gO:∀y∈bA,y.au.length<=3)(dH:bA.length<1000000)(DY:bB=ly bA)
variable(rec:d<5->Bk u pm ps P c bs bB (d+1) D)(oY:d<=5)(zj:n0+1+12*(300+2*D)<500000000000000000)(Vl:nP+1+12*(300+2*D)<500000000000000000)(acr:oS+40<=1000+min nP 40)
include hm hs φ hb hP lq gO dH DY rec oY
theorem aiJ{co:ρ}{st fr n:Nat}{x:Int}{M:List θ}{q:Nat}{T:List Nat}{c1 c2 c3 c4:ρ}{s:Sc}{out:List AV}{v:Nat}{σ:St}{k:Int}
  (hk:1<=k/\k<=11) (DN:s.aB=[]->k=2\/k=4\/k=8\/k=10\/k=11) (o9:d=5->k≠4/\k≠7/\k≠8/\k≠10/\k≠11)
  (Ω:st<=40) (dK:fr+41<=1000+st) (hn:n+300+12*D<500000000000000000) (nH:st+12*D<500000000000000000) (aL:s.size<=2*fr) (k1:c1= .nil->s.aB=[]) (k2:c2= .nil->s.cA=[]) (k3:c3= .nil->s.bits=[]) (k4:c4= .nil->s.turns=[]) (ho:out.all (shaped true 14)=true) (dx:out.length<1000000)
  (hS:SS pm d r i c1 c2 c3 c4 s co out σ) (hI:SI k q v c1 c2 c3 c4 s σ) (Γ:σ.mem= {ε:=M,η:=T}) (hM:MM B pm ps P c bs co out.length st fr n x q (aT k 0 [] ω z4 z4 ω ω) M T):
  κ (C u).gl (ab (C u)) rn σ (Zr B pm ps P c bs bB d D r i c1 c2 c3 c4 s co out st fr n M T):=by
 have hr:k≠2/\k≠4/\k≠8/\k≠10/\k≠11->s.aB≠[]:=fun h e=>by have:=DN e;omega
 have hd:k=4\/k=7\/k=8\/k=10\/k=11->d<5:=fun h=>by
  rcases Nat.lt_or_ge d 5 with h'|h'
  ·exact h'
  ·have:=o9 (by omega);omega
 have uw:k=1\/k=2\/k=3\/k=4\/k=5\/k=6\/k=7\/k=8\/k=9\/k=10\/k=11:=by omega
 rcases uw with rfl|rfl|rfl|rfl|rfl|rfl|rfl|rfl|rfl|rfl|rfl
 ·exact aiO hm hs φ hb Ω dK hn nH aL k1 k2 k3 k4 ho dx (hr (by omega)) hS hI Γ hM
 ·exact aiR hm hs φ hb Ω dK hn nH aL k1 k2 k3 k4 ho dx hS hI Γ hM
 ·exact aiN hm hs φ hb Ω dK hn nH aL k1 k2 k3 k4 ho dx hS hI Γ hM
 ·exact aiK hm hs φ hb Ω dK hn nH aL k1 k2 k3 k4 ho dx (rec (hd (by omega))) (hd (by omega)) hS hI Γ hM
 ·exact aiP hm hs φ hb Ω dK hn nH aL k1 k2 k3 k4 ho dx (hr (by omega)) hS hI Γ hM
 ·exact aiM hm hs φ hb Ω dK hn nH aL k1 k2 k3 k4 ho dx (hr (by omega)) hS hI Γ hM
 ·exact aiT hm hs φ hb Ω dK hn nH aL k1 k2 k3 k4 ho dx (rec (hd (by omega))) (hd (by omega)) hS hI Γ hM
 ·exact aiQ hm hs φ hb Ω dK hn nH aL k1 k2 k3 k4 ho dx (rec (hd (by omega))) (hd (by omega)) hS hI Γ hM
 ·exact aiL hm hs φ hb Ω dK hn nH aL k1 k2 k3 k4 ho dx hP lq gO dH DY (hr (by omega)) hS hI Γ hM
 ·exact aiS hm hs φ hb Ω dK hn nH aL k1 k2 k3 k4 ho dx (rec (hd (by omega))) (hd (by omega)) hS hI Γ hM
 ·exact aiU hm hs φ hb Ω dK hn nH aL k1 k2 k3 k4 ho dx (rec (hd (by omega))) (hd (by omega)) hS hI Γ hM
include zj Vl acr
theorem ZI{j:Nat}(hj:j<4){σ:St}(hI:Inv B pm ps P c bs bB d D nP oS n0 s0 r i j σ):
  κ (C u).gl (ab (C u)) (.seq IP (.seq IN (.seq tB (.seq IQ (.seq IE rn))))) σ fun z=>(z.1= .exit 0\/z.1= .exit 1\/z.1= .normal)/\Inv B pm ps P c bs bB d D nP oS n0 s0 r i (j+1) z.2:=by
 obtain⟨x,n,st,fr,M,T,c1,c2,c3,c4,s,co,out,l,hS,Γ,⟨hK,cH⟩,hT,zo,fF,dX,hn,Ω,dK,oW,Vd,aL,k1,k2,k3,k4⟩:=hI;obtain⟨E,hE⟩:∃E,E=300+2*D:=⟨_,rfl⟩;have hjE:j*E<=4*E:=mD _ (by omega);have H':(j+1)*E=j*E+E:=Nat.succ_mul j E;rw[<-hE]at hn Ω zj Vl;refine bJ (fun z=>st<40/\SS pm d r i c1 c2 c3 c4 s co out z/\z.mem= {ε:=M.set pm (.cells (bH ps P (st+1:Nat) fr)),η:=T}) (κ.mono (ahM (u:=u) hS Γ hK.ms (by omega)) fun z ⟨hz,h1,h2⟩=>?_) fun z ⟨ψ,h1,h2⟩=>?_
 ·rcases hz with⟨e,Mr⟩|⟨e,ψ⟩
  ·refine .inr ⟨by rw[e];simp,.inl e,x,n,st+1,fr,_,T,c1,c2,c3,c4,s,co,out,l,h1,h2,⟨hK.mo φ (st+1) fr,cH⟩,hT,zo,fF,dX,?_,?_,by omega,by omega,by omega,aL,k1,k2,k3,k4⟩<;>rw[<-hE,H']<;>omega
  ·exact .inl ⟨e,ψ,h1,h2⟩
 have K1:=hK.mo φ (st+1) fr;generalize M.set pm (.cells (bH ps P (st+1:Nat) fr))=M1 at h2 K1;refine bJ (fun z=>∃x' n' k,(n<=n'/\n'<=n+1)/\(1<=k/\k<=11)/\SS pm d r i c1 c2 c3 c4 s co out z/\z.mem= {ε:=M1.set ps (.cells (aG c bs n' x')),η:=T}/\z.e 8= .n k) (κ.mono (ahK (u:=u) hb h1 h2 K1.ms (by omega)) fun z hz=> .inl hz) fun z ⟨x2,n2,k,b1,b2,h1,h2,h3⟩=>?_;have K2:=K1.draw φ n2 x2;generalize M1.set ps (.cells (aG c bs n2 x2))=M2 at h2 K2;obtain⟨hk,DN,o9⟩:=aap d s.aB.isEmpty k b2;refine bJ (fun z=>SS pm d r i c1 c2 c3 c4 s co out z/\z.mem= {ε:=M2,η:=T}/\z.e 8= .n (iO d s.aB.isEmpty k)) (κ.mono (ahF (u:=u) b2 h1 h3) fun z ⟨e1,e2,e3,e4⟩=> .inl ⟨e1,e2,by rw[e3,h2],e4⟩) fun z ⟨h1,h2,h3⟩=>?_;generalize iO d s.aB.isEmpty k=kk at*;obtain⟨σ1,q1,g1,g2,g3,g4⟩:=ahE (u:=u) h1 h3 h2;refine κ.go q1 ?_;obtain⟨σ2,q2,f1,⟨v,f2⟩,f3⟩:=ahL (u:=u) g1 g2 g3 g4;refine κ.go q2 ?_;have Qg:MM B pm ps P c bs co out.length (st+1) fr n2 x2 M2.length (aT kk 0 [] ω z4 z4 ω ω) (M2++[.cells (aT kk 0 [] ω z4 z4 ω ω)]) T:=⟨K2.push _,K2.len,by simp,hT⟩;refine κ.mono (aiJ (u:=u) hm hs φ hb hP lq gO dH DY rec oY hk (fun e=>DN (by rw[e];rfl)) (fun e=>o9 (by omega)) (by omega) (by omega) (by omega) (by omega) aL k1 k2 k3 k4 dX (by omega) f1 f2 f3 Qg) fun z hz=>?_;rcases hz with⟨e,y1,y2⟩|⟨e,x',n',aV,ax,M',T',gU,gV,ll,lZ,s2,fp,L,y,y1,y2,⟨y3,yc⟩,y4,y5,y6,y7,y8,y9,y10,y11,y12,y13,y14,y15,y16⟩
 ·refine⟨.inr (.inl e),x2,n2,st+1,fr,_,T,c1,c2,c3,c4,s,co,out,l,y1,y2,⟨Qg.kt,cH⟩,hT,zo,fF,dX,?_,?_,by omega,by omega,by omega,aL,k1,k2,k3,k4⟩<;>rw[<-hE,H']<;>omega
 ·have hlen:(out++[AV.agg L]).length=out.length+1:=by simp
  refine⟨.inr (.inr e),x',n',aV,ax,M',T',gU,gV,ll,lZ,s2,fp,out++[.agg L],l++[y],y1,y2,⟨by rw[hlen];exact y3,by rw[yc];cases l<;>rfl⟩,y4,zo.snoc y5,?_,?_,?_,?_,by omega,by rw[aav];omega,by rw[hlen];omega,y12,y13,y14,y15,y16⟩
  ·rw[δ.eo,kr,<-δ.eo];exact fF.append (.cons y6 .nil)
  ·rw[al8,dX];simp[shaped,y7]
  ·rw[<-hE,H'];omega
  ·rw[<-hE,H'];omega
end
theorem S_{pm ps:Nat}{P:AV}{c:ρ}{bs:List Nat}(φ:pm≠ps)(hb:bs.length<=300){cP:ρ}{Ps:List AV}{bA:List τ}(hP:P= .list cP Ps)(lq:bN Ps (bA.map τ.av))(gO:∀y∈bA,y.au.length<=3)(dH:bA.length<1000000)(d D:Nat)(oY:d<=5)(rec:d<5->Bk u pm ps P c bs (ly bA) (d+1) D):Bk u pm ps P c bs (ly bA) d (1+4*(300+2*D)):=by
 intro M st fr n x c1 c2 c3 c4 s hM hn Ω dK aL k1 k3 k4;have hm:=hM.xY;have hs:=hM.wc;have yX:∀cc:ρ,cc.exp 0 false= .nil->cc= .nil:=fun cc h=>by cases cc<;>simp[ρ.exp]at h<;>rfl
 have hr:κ (C u).gl (ab (C u)) KF {env:=[.μ pm 0,.n (d:Int),.agg (gJ (c1.exp 0 false) (c2.exp 0 false) (c3.exp 0 false) (c4.exp 0 false) s)],loc:=[],mem:= {ε:=M,η:=[]}} fun z=>z.1= .ret/\∃x' n' aV ax M' T' co out,∃l:List δ,∃s',z.2.mem= {ε:=M',η:=T'}/\aK z.2.env 6= .list co out/\(Kt M pm ps P c bs co out.length aV ax n' x' M'/\co.exp 0 false=Φ l)/\(∀i∈T',M.length<=i)/\yn (ly bA) d fr s.inner l ax s'/\bN out (δ.χ l)∧
   (n<=n'/\n'<=n+1+4*(300+2*D))/\(st<=aV/\aV<=st+4*(300+2*D))/\(fr<=ax/\ax+min st 40<=fr+min aV 40)/\δ.bL l+min st 40<=min aV 40:=by
  have uk:(c1.exp 0 false)= .nil->s.inner.aB=[]:=fun h=>k1 (yX c1 h);have hc3:(c3.exp 0 false)= .nil->s.inner.bits=[]:=fun h=>k3 (yX c3 h);have hc4:(c4.exp 0 false)= .nil->s.inner.turns=[]:=fun h=>k4 (yX c4 h);generalize c1.exp 0 false=c1 at*;generalize c2.exp 0 false=c2 at*;generalize c3.exp 0 false=c3 at*;generalize c4.exp 0 false=c4 at*;have ajR:dk (gJ c1 c2 c3 c4 s) 1 [.list .nil []]=gJ c1 .nil c3 c4 s.inner:=rfl;obtain⟨x2,r,n2,b1,b2,b3,b4,-,kH⟩:=Ci (u:=u) hM hb 5 (by omega);have b4:=b4 (by omega);obtain⟨r,rfl⟩:∃j:Nat,r=j:=⟨r.toNat,by omega⟩;have hg:M[pm]?=some (.cells (bH ps P st fr)):=hM.m;unfold KF;refine Δ (fun z=>(z.e 0= .μ pm 0/\z.e 1= .n (d:Int))/\(z.e 5= .aj 5 0 0/\z.q 5=some (0,.cells (gJ c1 c2 c3 c4 s)))/\z.mem= {ε:=M,η:=[]}) (by simp[newVar,bz,iJ]) fun z ⟨⟨h0,h1⟩,⟨h5,l5⟩,Γ⟩=>?_;refine Δ (fun z=>(z.e 0= .μ pm 0/\z.e 1= .n (d:Int))/\(z.e 5= .aj 5 0 0/\z.q 5=some (0,.cells (gJ c1 .nil c3 c4 s.inner)))/\z.mem= {ε:=M,η:=[]}) (by simp[h0,h1,h5,l5,Γ,iJ,ajR]) fun z ⟨⟨h0,h1⟩,⟨h5,l5⟩,Γ⟩=>?_;refine Δ (fun z=>(z.e 0= .μ pm 0/\z.e 1= .n (d:Int))/\(z.e 5= .aj 5 0 0/\z.q 5=some (0,.cells (gJ c1 .nil c3 c4 s.inner)))/\z.mem= {ε:=M,η:=[]}/\z.e 7= .list .nil []) (by simp[h0,h1,h5,l5,Γ]) fun z ⟨⟨h0,h1⟩,⟨h5,l5⟩,Γ,h7⟩=>?_;refine bJ (fun z=>∃i j,j<=4/\Inv M pm ps P c bs (ly bA) d D st fr n s.inner (r:Int) i j z) ?_ fun z ⟨i,j,hj,hI⟩=>?_
  ·refine Δ (fun z=>SS pm d r 0 c1 .nil c3 c4 s.inner .nil [] z/\z.mem= {ε:=M.set ps (.cells (aG c bs n2 x2)),η:=[]}) (by simp[SS,h0,h1,h5,l5,h7,Γ,hg,bH,kH]) fun z ⟨hS,Γ⟩=>?_;have K0:Kt M pm ps P c bs .nil 0 st fr n x M:=⟨hM,fun _ _ _ _=>rfl,bS _,Go.Θ.Row.nil⟩;have K1:=K0.draw φ n2 x2;have qO:s.inner.size<=s.size:=by simp[Sc.size,Sc.inner]
   refine κ.block (κ.kp (I:=fun j z=>Inv M pm ps P c bs (ly bA) d D st fr n s.inner (r:Int) (j:Int) j z) r ⟨x2,n2,st,fr,_,[],c1,.nil,c3,c4,s.inner,.nil,[],[],hS,Γ,⟨K1,rfl⟩,by simp,.nil,.nil,rfl,by omega,by omega,by omega,by simp[δ.bL],by simp,by omega,uk,fun _=>rfl,hc3,hc4⟩ fun j z hj hI=>?_);unfold VM;have sZ:=hI;obtain⟨x,n',aV,ax,M',T',gU,gV,ll,lZ,s',co,out,l,hS,Γ,qa⟩:=sZ;obtain⟨h0,h1,h5,l5,h7,bo,bu⟩:=hS;by_cases DK:j<r
   ·have lO:(j:Int)<r:=by omega
    have kB:bC .i64 ((j:Int)+1)=(j:Int)+1:=wrap_i64 (by omega) (by omega);refine Δ (fun z=>Inv M pm ps P c bs (ly bA) d D st fr n s.inner (r:Int) (j:Int) j z/\z.e 20= .bool true) ?_ fun z ⟨hI,sY⟩=>?_
    ·exact wU (P:=fun z=>(SS pm d r j gU gV ll lZ s' co out z/\z.mem= {ε:=M',η:=T'})/\z.e 20= .bool true) (by simp[SS,h0,h1,h5,l5,h7,bo,bu,Γ,lO,DK]) fun z ⟨⟨y1,y2⟩,y3⟩=>⟨⟨x,n',aV,ax,M',T',gU,gV,ll,lZ,s',co,out,l,y1,y2,qa⟩,y3⟩
    refine κ.go (s':=z) (by simp[sY]) ?_;refine bJ (fun z=>Inv M pm ps P c bs (ly bA) d D st fr n s.inner (r:Int) (j:Int) (j+1) z) (κ.block (κ.mono (ZI (u:=u) hm hs φ hb hP lq gO dH rfl rec oY (by omega) (by omega) dK (by omega) hI) fun z ⟨hz,hI⟩=>?_)) fun z hI=>?_
    ·rcases hz with e|e|e
     ·exact .inr ⟨by rw[e];simp,.inr ⟨by rw[e];simp,.inr ⟨by rw[e];simp,.inl ⟨e,.inl ⟨rfl,_,j+1,by omega,hI⟩⟩⟩⟩⟩
     ·exact .inl ⟨e,.inl ⟨rfl,hI⟩⟩
     ·exact .inr ⟨by rw[e];simp,.inl ⟨e,hI⟩⟩
    ·obtain⟨x,n',aV,ax,M',T',gU,gV,ll,lZ,s',co,out,l,hS,Γ,qa⟩:=hI;obtain⟨h0,h1,h5,l5,h7,bo,bu⟩:=hS;refine κ.done .normal (fun z=>SS pm d r ((j:Int)+1) gU gV ll lZ s' co out z/\z.mem= {ε:=M',η:=T'}) (by simp[SS,h0,h1,h5,l5,h7,bo,bu,Γ,kB]) fun z ⟨y1,y2⟩=> .inl ⟨rfl,DK,x,n',aV,ax,M',T',gU,gV,ll,lZ,s',co,out,l,by simpa using y1,y2,qa⟩
   ·have lO:¬(j:Int)<r:=by omega
    refine κ.done (.exit 0) (fun z=>SS pm d r j gU gV ll lZ s' co out z/\z.mem= {ε:=M',η:=T'}) (by simp[SS,h0,h1,h5,l5,h7,bo,bu,Γ,lO]) fun z ⟨y1,y2⟩=> .inr ⟨by simp,.inl ⟨rfl,.inl ⟨rfl,_,j,by omega,x,n',aV,ax,M',T',gU,gV,ll,lZ,s',co,out,l,y1,y2,qa⟩⟩⟩
  ·obtain⟨x,n',aV,ax,M',T',gU,gV,ll,lZ,s',co,out,l,⟨h0,h1,h5,l5,h7,bo,bu⟩,Γ,hK,hT,zo,fF,dX,gF,NZ,acq,oW,-⟩:=hI;have hjE:j*(300+2*D)<=4*(300+2*D):=mD _ hj;generalize hE:j*(300+2*D)=E at*;refine κ.done .ret (fun z=>z.mem= {ε:=M',η:=T'}/\z.e 6= .list co out) (by simp[h7,Γ]) fun z ⟨y1,y2⟩=>⟨rfl,x,n',aV,ax,M',T',co,out,l,s',y1,y2,hK,hT,zo,fF,by omega,by omega,by omega,by omega⟩
 obtain⟨z,hx,e,x',n',aV,ax,M',T',co,out,l,s',Γ,h6,⟨hK,cH⟩,hT,zo,fF,gF,NZ,acq,oW⟩:=hr;have HR:Dv (.list co out) (.list (co.exp 0 false) (δ.χ l)):=Dv.list co fF;have MC:M'=(M.set pm (.cells (bH ps P (aV:Nat) ax))).set ps (.cells (aG c bs n' x'))++M'.drop M.length:=by
  have h1:M'.take M.length=(M.set pm (.cells (bH ps P (aV:Nat) ax))).set ps (.cells (aG c bs n' x')):=by
   apply al9;intro i;by_cases hi:i<M.length
   ·rw[Kb hi];by_cases h2:i=ps
    ·subst h2;rw[hK.ms.s];simp[hs]
    ·rw[gR (Ne.symm h2)];by_cases h3:i=pm
     ·subst h3;rw[hK.ms.m];simp[hm]
     ·rw[gR (Ne.symm h3)];exact hK.oD i hi h3 h2
   ·rw[h_ (by simp;omega),h_ (by simp;omega)]
  rw[<-h1,al_]
 refine⟨x',n',aV,ax,co.exp 0 false,l,by omega,by omega,by omega,?_,oW,cH,HR.self,fun T=>?_⟩
 ·have:=zo.bl (r:=[]) .nil;rwa[dF]at this
 ·unfold kf;rw[F1 (args':=[.μ pm 0,.n (d:Int),.agg (gJ (c1.exp 0 false) (c2.exp 0 false) (c3.exp 0 false) (c4.exp 0 false) s)]) (by rfl) (by simp only[gJ,az,aJ,C7,vi,exp,aX]) (by rfl)];refine Wx (u:=u) (g:=Gx) rfl rfl rfl (by simp) (by simp only[gJ,az,aJ,C7,vi,exp,aX,hm,if_true]) ⟨z,hx,fun i=>by rw[e];simp,⟨_,T',by rw[Γ,<-MC],hT⟩,[.list co out],by simp[Gx,h6],?_⟩ T;rw[Γ];exact HR.aO _ _ _
theorem f122{pm ps:Nat}{P:AV}{c:ρ}{bs:List Nat}(φ:pm≠ps)(hb:bs.length<=300){cP:ρ}{Ps:List AV}{bA:List τ}(hP:P= .list cP Ps)(lq:bN Ps (bA.map τ.av))(gO:∀y∈bA,y.au.length<=3)(dH:bA.length<1000000):∀e d,d+e=5->Bk u pm ps P c bs (ly bA) d (yI (e+1)):=by
 intro e;induction e with
 |zero=>intro d hd;exact S_ φ hb hP lq gO dH d (yI 0) (by omega) fun h=>by omega
 |succ e ih=>intro d hd;exact S_ φ hb hP lq gO dH d (yI (e+1)) (by omega) fun _=>ih (d+1) (by omega)
end Go.Θ.Tz
namespace Go.Θ
theorem Row.HM{n:Nat}{M M':List θ}{sz eT:Nat}{e e':TypeId}{c:ρ}{k len:Nat}(φ:¬(sz=eT/\e=e'))(h:Row n M sz e c k)(hM:M'=M++[.front 1 eT e']\/∃t,n<=t/\M[t]?=some (.front len eT e')/\M'=M.set t (.front (len+1) eT e')):Row n M' sz e c k:=
 h.bf fun t k ht=>by
  rcases hM with rfl|⟨t',h1,h2,rfl⟩
  ·rw[ek (fB.1 ht).1];exact ht
  ·have:t'≠t:=fun e=>by rw[e,ht]at h2;cases h2;exact φ ⟨rfl,rfl⟩
   rw[gR this];exact ht
end Go.Θ
namespace Go.Θ.Tz
open Go.Θ
variable{u:Nat}
attribute [local simp] exec dY dP eX aI dw fA eN aK fL bQ iu iE iM jd lG Ld Lh Lj Lg Le Lf wi iX rd wr gT single e_ ew κ cK RV.get cL fT kz rO
theorem Wz{ps:Nat}{P:AV}{st:Int}{fr:Nat}:(bH ps P st fr).tail.take 1=[P]:=rfl
theorem agn{ps:Nat}{P:AV}{st:Int}{fr:Nat}(P':AV):dk (bH ps P st fr) 1 [P']=bH ps P' st fr:=rfl
theorem ahW(l:List ak):(l.map ak.av).all (shaped true 2)=true:=by rw[List.all_eq_true];intro y hy;obtain⟨p,-,rfl⟩:=List.mem_map.1 hy;rfl
theorem ak.dv(p:ak):Dv p.av p.av:= .agg (.cons (.str _) (.cons (.int _ _) .nil))
structure Km (B:List θ) (pm ps:Nat) (P:AV) (c:ρ) (bs:List Nat) (st fr n:Nat) (x:Int) (M:List θ) (T:List Nat):Prop where
 ms:MS pm ps P c bs st fr n x M
 oD:∀i,i<B.length->i≠ps->M[i]?=B[i]?
 len:B.length<=M.length
 tt:∀i∈T,B.length<=i
section
variable{B:List θ}{pm ps:Nat}{P:AV}{c:ρ}{bs:List Nat}{st fr n:Nat}{x:Int}{M:List θ}{T:List Nat}
theorem Km.draw(h:Km B pm ps P c bs st fr n x M T)(φ:pm≠ps)(n':Nat)(x':Int):Km B pm ps P c bs st fr n' x' (M.set ps (.cells (aG c bs n' x'))) T:=
 ⟨h.ms.draw φ n' x',fun i h1 h2=>by rw[gR (Ne.symm h2)];exact h.oD i h1 h2,by simpa using h.len,h.tt⟩
theorem Km.mo(h:Km B pm ps P c bs st fr n x M T)(φ:pm≠ps)(hm:B.length<=pm)(aV ax:Nat):Km B pm ps P c bs aV ax n x (M.set pm (.cells (bH ps P aV ax))) T:=
 ⟨h.ms.mo φ aV ax,fun i h1 h2=>by rw[gR (by omega)];exact h.oD i h1 h2,by simpa using h.len,h.tt⟩
theorem Km.procs(h:Km B pm ps P c bs st fr n x M T)(φ:pm≠ps)(hm:B.length<=pm)(P':AV)(b:Bool):Km B pm ps P' c bs st fr n x (M.set pm (.cells (bH ps P' st fr))) (if b then T else pm::T):=
 ⟨⟨by simp[h.ms.xY],by rw[gR φ];exact h.ms.s⟩,fun i h1 h2=>by rw[gR (by omega)];exact h.oD i h1 h2,by simpa using h.len,by
  cases b with
  |true=>exact h.tt
  |false=>
   intro i hi
   rcases List.mem_cons.1 hi with rfl|hi
   ·exact hm
   ·exact h.tt i hi⟩
theorem Km.grow(h:Km B pm ps P c bs st fr n x M T)(hs:ps<B.length){sz:Nat}{e:TypeId}{M':List θ}{len:Nat}
  (hM:M'=M++[.front 1 sz e]\/∃t,B.length<=t/\M[t]?=some (.front len sz e)/\M'=M.set t (.front (len+1) sz e)):Km B pm ps P c bs st fr n x M' T:=by
 rcases hM with rfl|⟨t,h1,h2,rfl⟩
 ·exact⟨h.ms.push _,fun i a b=>by rw[ek (Nat.lt_of_lt_of_le a h.len)];exact h.oD i a b,by have:=h.len;simp;omega,h.tt⟩
 ·have h3:t≠pm:=fun e=>by rw[e,h.ms.m]at h2;cases h2
  exact⟨h.ms.put h3 (by omega) _,fun i a b=>by rw[gR (by omega)];exact h.oD i a b,by simpa using h.len,h.tt⟩
theorem zY{N:Nat}{sz:Nat}{e:TypeId}{cp:ρ}{k:Nat}(h:Go.Θ.Row N M sz e cp k)(ms:MS pm ps P c bs st fr n x M)(b:θ):Go.Θ.Row N (M.set pm b) sz e cp k:=PD h ms.m b
theorem Km.both(h:Km B pm ps P c bs st fr n x M T)(φ:pm≠ps)(hm:B.length<=pm)(aV ax n':Nat)(x':Int):Km B pm ps P c bs aV ax n' x' ((M.set pm (.cells (bH ps P aV ax))).set ps (.cells (aG c bs n' x'))) T:=(h.mo φ hm aV ax).draw φ n' x'
end
def SM(pm ps:Nat)(r i:Int)(σ:St):Prop:=σ.e 0= .μ ps 0/\σ.e 2= .aj 2 0 0/\σ.q 2=some (0,.cells [ω])/\σ.e 3= .μ pm 0/\σ.e 11= .n r/\σ.e 12= .n i
def SP(w4 w5:Nat)(nm:List Nat)(cp:ρ)(l:List ak)(cr:ρ)(σ:St):Prop:=σ.e 4= .aj 4 w4 0/\σ.q 4=some (w4,.cells [.str nm,.list cp (l.map ak.av),ω])/\σ.e 5= .aj 5 w5 0/\σ.q 5=some (w5,.cells [aZ cr (l.map ak.name),ω,ω,ω])
section
variable{B:List θ}{pm ps:Nat}{c:ρ}{bs:List Nat}(hs:ps<B.length)(φ:pm≠ps)(hm:B.length<=pm)(hb:bs.length<=300)
include hs φ hm hb
theorem ahU{cP:ρ}{Ps:List AV}{st fr n:Nat}{x:Int}{M:List θ}{T:List Nat}{r i:Int}{w4 w5:Nat}{nm:List Nat}{k:Nat}(hk:k<=2){σ:St}(hS:SM pm ps r i σ)(hP:SP w4 w5 nm .nil [] .nil σ)(Γ:σ.mem= {ε:=M,η:=T})(hM:Km B pm ps (.list cP Ps) c bs st fr n x M T)(hR:Go.Θ.Row B.length M 3 70 cP Ps.length)(hn:n<1000000000000000000)(dK:fr<1000000)
  (bo:σ.e 18= .n (k:Int)) (bu:σ.e 19= .n 0):
  κ (C u).gl (ab (C u)) (.block 2 (.loop OF)) σ fun z=>z.1= .normal/\∃x' n' M' cp cr,∃l:List ak,(n<=n'/\n'<=n+2)/\SM pm ps r i z.2/\SP w4 w5 nm cp l cr z.2/\z.2.mem= {ε:=M',η:=T}/\Km B pm ps (.list cP Ps) c bs st (fr+k) n' x' M' T/\Go.Θ.Row B.length M' 3 70 cP Ps.length/\l.length=k/\(∀j (h:j<l.length),l[j].name=bR [113] (fr+1+j)/\1<=l[j].size/\l[j].size<=12)/\cp.exp 0 false=Φ l/\(cr= .nil->l=[]):=by
 let I:Nat->St->Prop:=fun j z=>∃x' n' M' cp cr,∃l:List ak,(n<=n'/\n'<=n+j)/\SM pm ps r i z/\SP w4 w5 nm cp l cr z/\z.mem= {ε:=M',η:=T}/\Km B pm ps (.list cP Ps) c bs st (fr+j) n' x' M' T/\Go.Θ.Row B.length M' 3 70 cP Ps.length/\l.length=j/\(∀j (h:j<l.length),l[j].name=bR [113] (fr+1+j)/\1<=l[j].size/\l[j].size<=12)∧
  cp.exp 0 false=Φ l/\Go.Θ.Row B.length M' 2 76 cp l.length/\Go.Θ.Row B.length M' 1 9 cr l.length/\z.e 18= .n (k:Int)/\z.e 19= .n (j:Int)
 refine κ.block (κ.kp (I:=I) k ⟨x,n,M,.nil,.nil,[],by omega,hS,hP,Γ,hM,hR,rfl,fun j h=>(by cases h),rfl,Go.Θ.Row.nil,Go.Θ.Row.nil,bo,by simpa using bu⟩ fun j z hj ⟨x',n',M',cp,cr,l,b1,hS,hP,Γ,hM,hR,hl,jX,mS,hRp,Uf,bo,bu⟩=>?_);obtain⟨h0,h2,l2,h3,bP,bZ⟩:=hS;obtain⟨h4,l4,h5,l5⟩:=hP;unfold OF;by_cases Ia:j<k
 ·have lO:(j:Int)<k:=by omega
  have kB:bC .i64 ((j:Int)+1)=(j:Int)+1:=wrap_i64 (by omega) (by omega);have nN:=Ch (u:=u) hM.ms φ (by omega) [113] (by decide);have M1:=hM.mo φ hm st (fr+j+1);have Ra:=zY hR hM.ms (.cells (bH ps (.list cP Ps) st (fr+j+1:Nat)));have Rb:=zY hRp hM.ms (.cells (bH ps (.list cP Ps) st (fr+j+1:Nat)));have Rc:=zY Uf hM.ms (.cells (bH ps (.list cP Ps) st (fr+j+1:Nat)));generalize M'.set pm (.cells (bH ps (.list cP Ps) st (fr+j+1:Nat)))=N1 at nN M1 Ra Rb Rc;obtain⟨x2,sz,n2,d1,d2,d3,d4,uU⟩:=JT (u:=u) M1.ms hb 1 12 (by omega) (by omega) (by omega) (by omega);have M2:=M1.draw φ n2 x2;have Ra:=zX Ra M1.ms (.cells (aG c bs n2 x2));have Rb:=zX Rb M1.ms (.cells (aG c bs n2 x2));have Rc:=zX Rc M1.ms (.cells (aG c bs n2 x2));generalize N1.set ps (.cells (aG c bs n2 x2))=N2 at uU M2 Ra Rb Rc;generalize jY:bR [113] (fr+j+1)=w at*;let p:ak:=⟨w,sz⟩;have hpa:p.av= .agg [.str w,.n sz]:=rfl;obtain⟨sR,N3,dB,Rb,ace,yQ⟩:=yw (bytes:=24) (pl:=l.map ak.av) (v:=p.av) (ag:=true) (by rw[cg];exact Rb) M2.len (ahW l) rfl (ak.dv p).ν (by omega) (by rw[cg];omega) (by rw[cg];omega);have M3:=M2.grow hs yQ;have Ra:=Ra.HM (by omega) yQ;have Rc:=Rc.HM (by omega) yQ;obtain⟨CT,N4,vr,Rc,ak6,MD⟩:=yw (bytes:=16) (pl:=(l.map ak.name).map AV.str) (v:= .str w) (ag:=false) (by rw[cg,cg];exact Rc) M3.len (JJ _) rfl rfl (by omega) (by rw[cg,cg];omega) (by rw[cg,cg];omega);have M4:=M3.grow hs MD;have Ra:=Ra.HM (by omega) MD;have Rb:=Rb.HM (by omega) MD;have Up:∀T,gC {ε:=N3,η:=T} false 1 16 9 (aZ cr (l.map ak.name)) (.list .full [.str w])=some (aZ CT ((l++[p]).map ak.name),{ε:=N4,η:=T}):=by intro T;simp only[aZ,kr,az,aJ]at vr⊢;exact vr T
  have Dq:∀T,gC {ε:=N2,η:=T} true 2 24 76 (.list cp (l.map ak.av)) (.list .full [.agg [.str w,.n sz]])=some (.list sR ((l++[p]).map ak.av),{ε:=N3,η:=T}):=by intro T;rw[kr,az,aJ];exact dB T
  refine Δ (fun z=>z.e 20= .bool true/\SM pm ps r i z/\SP w4 w5 nm cp l cr z/\z.mem= {ε:=M',η:=T}/\z.e 18= .n (k:Int)/\z.e 19= .n (j:Int)) (by simp[SM,SP,h0,h2,l2,h3,bP,bZ,h4,l4,h5,l5,bo,bu,Γ,lO,Ia]) fun z ⟨sY,⟨h0,h2,l2,h3,bP,bZ⟩,⟨h4,l4,h5,l5⟩,Γ,bo,bu⟩=>?_;refine κ.go (s':=z) (by simp[sY]) ?_;refine bJ (fun z=>SM pm ps r i z/\SP w4 w5 nm sR (l++[p]) CT z/\z.mem= {ε:=N4,η:=T}/\z.e 18= .n (k:Int)/\z.e 19= .n (j:Int)) (κ.block ?_) fun z ⟨⟨h0,h2,l2,h3,bP,bZ⟩,⟨h4,l4,h5,l5⟩,Γ,bo,bu⟩=>?_
  ·refine Δ (fun z=>(∃w6,z.e 6= .aj 6 w6 0/\z.q 6=some (w6,.cells [.str w,.n sz]))/\SM pm ps r i z/\SP w4 w5 nm cp l cr z/\z.mem= {ε:=N2,η:=T}/\z.e 18= .n (k:Int)/\z.e 19= .n (j:Int)) (by
    generalize hw:bz (bQ z.loc) 6=w6
    simp[SM,SP,h0,h2,l2,h3,bP,bZ,h4,l4,h5,l5,bo,bu,Γ,nN,uU,newVar,hw,dd,dk]) fun z ⟨⟨w6,h6,l6⟩,⟨h0,h2,l2,h3,bP,bZ⟩,⟨h4,l4,h5,l5⟩,Γ,bo,bu⟩=>?_
   refine κ.done .normal (fun z=>SM pm ps r i z/\SP w4 w5 nm sR (l++[p]) CT z/\z.mem= {ε:=N4,η:=T}/\z.e 18= .n (k:Int)/\z.e 19= .n (j:Int)) (by
    simp only[SM,SP]
    generalize(l++[p]).map ak.av=L1 at Dq⊢;generalize(l++[p]).map ak.name=L2 at Up⊢;simp[h0,h2,l2,h3,bP,bZ,h4,l4,h5,l5,h6,l6,bo,bu,Γ,Dq,Up,shaped,AV.one,Mem.ν,ν,cw,cN,cQ,dk,wi]) fun z hz=> .inr ⟨by simp,.inl ⟨rfl,hz⟩⟩
  ·refine κ.done .normal (fun z=>SM pm ps r i z/\SP w4 w5 nm sR (l++[p]) CT z/\z.mem= {ε:=N4,η:=T}/\z.e 18= .n (k:Int)/\z.e 19= .n ((j:Int)+1)) (by simp[SM,SP,h0,h2,l2,h3,bP,bZ,h4,l4,h5,l5,bo,bu,Γ,kB]) fun z ⟨y1,y2,y3,y4,y5⟩=> .inl ⟨rfl,Ia,x2,n2,N4,sR,CT,l++[p],by omega,y1,y2,y3,M4,Ra,by simp[hl],?_,(by rw[ace];cases l<;>rfl),by simpa using Rb,by simpa using Rc,y4,by rw[y5];simp⟩;intro j' dL;by_cases ψ:j'<l.length
   ·rw[List.getElem_append_left ψ];exact jX j' ψ
   ·have:j'=l.length:=by simp at dL;omega
    subst this;rw[List.getElem_append_right (bS _)];simp only[Nat.sub_self,List.getElem_cons_zero];exact⟨by show w=_;rw[<-jY,hl];congr 1;omega,d3,d4⟩
 ·have lO:¬(j:Int)<k:=by omega
  obtain rfl:j=k:=by omega
  have aag:∀{cc:ρ} {sz:Nat} {e:TypeId},Go.Θ.Row B.length M' sz e cc l.length->cc= .nil->l=[]:=fun h e=>by
   subst e;rcases h with⟨_,h⟩|⟨t,h,_⟩
   ·exact List.eq_nil_of_length_eq_zero h
   ·cases h
  exact κ.done (.exit 2) (fun z=>SM pm ps r i z/\SP w4 w5 nm cp l cr z/\z.mem= {ε:=M',η:=T}) (by simp[SM,SP,h0,h2,l2,h3,bP,bZ,h4,l4,h5,l5,bo,bu,Γ]) fun z ⟨y1,y2,y3⟩=> .inr ⟨by simp,.inl ⟨rfl,rfl,x',n',M',cp,cr,l,by omega,y1,y2,y3,hM,hR,hl,jX,mS,aag Uf⟩⟩
end
def Ap(B:List θ)(pm ps:Nat)(c:ρ)(bs:List Nat)(n0:Nat)(r i:Int)(j:Nat)(z:St):Prop:=
 ∃x n st fr M T cP Ps,∃bA:List τ,SM pm ps r i z/\z.mem= {ε:=M,η:=T}/\Km B pm ps (.list cP Ps) c bs st fr n x M T/\Go.Θ.Row B.length M 3 70 cP Ps.length/\bN Ps (bA.map τ.av)/\Ps.all (shaped true 3)=true/\gS bA fr/\bA.length=j/\fr<=43*j/\(n0<=n/\n<=n0+1+j*500000000)/\(∀y∈bA,y.au.length<=3)
theorem aaJ:yI 5<=400000000:=by simp[yI]
section
variable{B:List θ}{pm ps:Nat}{c:ρ}{bs:List Nat}(hs:ps<B.length)(φ:pm≠ps)(hm:B.length<=pm)(hb:bs.length<=300)
include hs φ hm hb
theorem ZJ{n0:Nat}(zj:n0<1000000000000){r i:Int}{j:Nat}(hj:j<4){σ:St}(hI:Ap B pm ps c bs n0 r i j σ):
  κ (C u).gl (ab (C u)) OG σ fun z=>z.1= .normal/\Ap B pm ps c bs n0 r i (j+1) z.2:=by
 obtain⟨x,n,st,fr,M,T,cP,Ps,bA,⟨h0,h2,l2,h3,bP,bZ⟩,Γ,hK,hR,lq,ME,zi,dH,dK,hn,gO⟩:=hI;have hPl:Ps.length=bA.length:=by rw[lq.len,cg]
 unfold OG;have nN:=Ch (u:=u) hK.ms φ (by omega) [112] (by decide);have K1:=hK.mo φ hm st (fr+1);have R1:=zY hR hK.ms (.cells (bH ps (.list cP Ps) st (fr+1:Nat)));generalize M.set pm (.cells (bH ps (.list cP Ps) st (fr+1:Nat)))=M1 at nN K1 R1;generalize jY:bR [112] (fr+1)=nm at*;refine Δ (fun z=>SM pm ps r i z/\(∃w4,z.e 4= .aj 4 w4 0/\z.q 4=some (w4,.cells [.str nm,ω,ω]))/\z.mem= {ε:=M1,η:=T}) (by
  generalize hw:bz (bQ σ.loc) 4=w4
  simp[SM,h0,h2,l2,h3,bP,bZ,Γ,nN,newVar,hw,dd,dk]) fun z ⟨⟨h0,h2,l2,h3,bP,bZ⟩,⟨w4,h4,l4⟩,Γ⟩=>?_
 refine Δ (fun z=>SM pm ps r i z/\(∃w5,SP w4 w5 nm .nil [] .nil z)/\z.mem= {ε:=M1,η:=T}) (by
  generalize hw:bz (bQ z.loc) 5=w5
  simp[SM,SP,h0,h2,l2,h3,bP,bZ,h4,l4,Γ,newVar,hw,aZ]) fun z ⟨⟨h0,h2,l2,h3,bP,bZ⟩,⟨w5,h4,l4,h5,l5⟩,Γ⟩=>?_
 obtain⟨x2,k,n2,b1,b2,b3,b4,-,kH⟩:=Ci (u:=u) K1.ms hb 3 (by omega);have b4:=b4 (by omega);obtain⟨k,rfl⟩:∃j:Nat,k=j:=⟨k.toNat,by omega⟩;have K2:=K1.draw φ n2 x2;have R2:=zX R1 K1.ms (.cells (aG c bs n2 x2));generalize M1.set ps (.cells (aG c bs n2 x2))=M2 at kH K2 R2;refine bJ (fun z=>∃x' n' M' cp cr,∃l:List ak,(n2<=n'/\n'<=n2+2)/\SM pm ps r i z/\SP w4 w5 nm cp l cr z/\z.mem= {ε:=M',η:=T}/\Km B pm ps (.list cP Ps) c bs st (fr+1+k) n' x' M' T/\Go.Θ.Row B.length M' 3 70 cP Ps.length/\l.length=k/\(∀j (h:j<l.length),l[j].name=bR [113] (fr+1+1+j)/\1<=l[j].size/\l[j].size<=12)/\cp.exp 0 false=Φ l/\(cr= .nil->l=[])) ?_ fun z ⟨x3,n3,M3,cp,cr,l,d1,⟨h0,h2,l2,h3,bP,bZ⟩,⟨h4,l4,h5,l5⟩,Γ,K3,R3,d2,d3,d4,d5⟩=>?_
 ·refine Δ (fun z=>SM pm ps r i z/\SP w4 w5 nm .nil [] .nil z/\z.mem= {ε:=M2,η:=T}/\z.e 18= .n (k:Int)/\z.e 19= .n 0) (by simp[SM,SP,h0,h2,l2,h3,bP,bZ,h4,l4,h5,l5,Γ,kH]) fun z ⟨z1,z2,z3,z4,z5⟩=>?_;exact κ.mono (ahU (u:=u) hs φ hm hb (by omega) z1 z2 z3 K2 R2 (by omega) (by omega) z4 z5) fun z hz=> .inl hz
 have K4:=K3.mo φ hm 0 (fr+1+k);have R4:=zY R3 K3.ms (.cells (bH ps (.list cP Ps) (0:Nat) (fr+1+k)));have hg:M3[pm]?=some (.cells (bH ps (.list cP Ps) st (fr+1+k))):=K3.ms.m;refine Δ (fun z=>SM pm ps r i z/\SP w4 w5 nm cp l cr z/\z.mem= {ε:=M3.set pm (.cells (bH ps (.list cP Ps) (0:Nat) (fr+1+k))),η:=T}) (by simp[SM,SP,h0,h2,l2,h3,bP,bZ,h4,l4,h5,l5,Γ,hg,BO,Wy,Mem.put,Mem.ν,ν,ba,Θ.lo]) fun z ⟨⟨h0,h2,l2,h3,bP,bZ⟩,⟨h4,l4,h5,l5⟩,Γ⟩=>?_;generalize M3.set pm (.cells (bH ps (.list cP Ps) (0:Nat) (fr+1+k)))=M4 at Γ K4 R4;have oY:=aaJ;have f:Bk u pm ps (.list cP Ps) c bs (ly bA) 1 (yI 5):=f122 (u:=u) φ hb rfl lq gO (by omega) 4 1 (by omega);obtain⟨x5,n5,wg,uh,cap,body,e1,e2,e3,e4,e5,e7,e8,mu⟩:=f M4 0 (fr+1+k) n3 x3 cr .nil .nil .nil ⟨l.map ak.name,[],[],[]⟩ K4.ms (by omega) (by omega) (by omega) (by simp[Sc.size,d2];omega) (fun h=>by rw[d5 h];rfl) (fun _=>rfl) (fun _=>rfl);have K5:=K4.both φ hm wg uh n5 x5;have R5:=zX (zY R4 K4.ms (.cells (bH ps (.list cP Ps) (wg:Nat) uh))) (K4.ms.mo φ wg uh) (.cells (aG c bs n5 x5));generalize(M4.set pm (.cells (bH ps (.list cP Ps) (wg:Nat) uh))).set ps (.cells (aG c bs n5 x5))=M5 at mu K5 R5;have D5:gJ cr .nil .nil .nil ⟨l.map ak.name,[],[],[]⟩=[aZ cr (l.map ak.name),ω,ω,ω]:=rfl;rw[D5]at mu;have BY:∀T,kf u 122 [.μ pm 0,.n 1,.agg [aZ cr (l.map ak.name),ω,ω,ω]] {ε:=M4,η:=T}=some (.list cap (δ.χ body),{ε:=M5,η:=T}):=mu;have MJ:Dv (.agg [.str nm,.list cp (l.map ak.av),.list cap (δ.χ body)]) (⟨nm,cp.exp 0 false,l,cap,body⟩:τ).av:=
  .agg (.cons (.str _) (.cons (Dv.list cp (bN.of ak.av l fun p _=>ak.dv p)) (.cons e8 .nil)))
 refine Δ (fun z=>SM pm ps r i z/\(z.e 4= .aj 4 w4 0/\z.q 4=some (w4,.cells [.str nm,.list cp (l.map ak.av),.list cap (δ.χ body)]))/\z.mem= {ε:=M5,η:=T}) (by simp[SM,h0,h2,l2,h3,bP,bZ,h4,l4,h5,l5,Γ,BY,dk]) fun z ⟨⟨h0,h2,l2,h3,bP,bZ⟩,⟨h4,l4⟩,Γ⟩=>?_;generalize hX:[AV.str nm,.list cp (l.map ak.av),.list cap (δ.χ body)]=X at MJ l4;have Uj:X.length=3:=by rw[<-hX];rfl
 have hXt:X.take 3=X:=List.take_of_length_le (by omega);have Uk:=MJ.ν;have MK:shaped true 3 (.agg X)=true:=by simp[shaped,Uj]
 obtain⟨ue,M6,dB,R6,ak3,hM6⟩:=yw (bytes:=64) (v:= .agg X) (ag:=true) R5 K5.len ME MK Uk (by omega) (by omega) (by omega);have K6:=K5.grow hs hM6;have Ud:bN (Ps++[.agg X]) ((bA++[(⟨nm,cp.exp 0 false,l,cap,body⟩:τ)]).map τ.av):=by rw[kr];exact lq.append (.cons MJ .nil)
 have Uc:ν (.list ue (Ps++[.agg X]))= .list ue (Ps++[.agg X]):=(Dv.list ue Ud).ν;have K7:=K6.procs φ hm (.list ue (Ps++[.agg X])) (ba pm [AV.list ue (Ps++[.agg X])]);have R7:=zY R6 K6.ms (.cells (bH ps (.list ue (Ps++[.agg X])) (wg:Nat) uh));have hg5:M5[pm]?=some (.cells (bH ps (.list cP Ps) (wg:Nat) uh)):=K5.ms.m;have hg6:M6[pm]?=some (.cells (bH ps (.list cP Ps) (wg:Nat) uh)):=K6.ms.m;refine κ.done .normal (fun z=>SM pm ps r i z/\z.mem= {ε:=M6.set pm (.cells (bH ps (.list ue (Ps++[.agg X])) (wg:Nat) uh)),η:=if ba pm [AV.list ue (Ps++[.agg X])]=true then T else pm::T}) (by
  generalize hP2:AV.list ue (Ps++[.agg X])=P2 at Uc dB⊢
  have abV:P2.cells=[P2]:=by rw[<-hP2];rfl
  simp[SM,h0,h2,l2,h3,bP,bZ,h4,l4,Γ,hg5,hg6,Wz,agn,BO,Uj,hXt,MK,Uk,dB,abV,Uc,Mem.put,Mem.ν]) fun z ⟨z1,z2⟩=>⟨rfl,x5,n5,wg,uh,_,_,ue,Ps++[.agg X],bA++[⟨nm,cp.exp 0 false,l,cap,body⟩],z1,z2,K7,by simpa using R7,Ud,by rw[al8,ME];simp[MK],?_,by simp[dH],by omega,by omega,?_⟩
 ·refine zi.snoc ⟨jY.symm,by show l.length<=2;omega,fun i hi=>?_,?_,by show δ.bL body<=40;omega,d4,e7⟩
  ·have:=d3 i hi;rwa[show fr+1+1+i=fr+2+i by omega]at this
  ·show aR (ly bA) 1 (fr+1+l.length) _ body uh;rw[d2];exact e4
 ·intro y hy;rcases List.mem_append.1 hy with hy|hy
  ·exact gO y hy
  ·rw[fU.1 hy];show l.length<=3;omega
end
theorem f35{ps:Nat}{c:ρ}{bs:List Nat}{n:Nat}{x:Int}{B:List θ}(hb:bs.length<=300)(hB:B[ps]?=some (.cells (aG c bs n x)))(hn:n<1000000000000):
  ∃n' x' cap fr,∃bA:List τ,(n<=n'/\n'<=n+3000000000)/\gS bA fr/\fr<=172/\(1<=bA.length/\bA.length<=4)/\bp cap/\∀T,kf u 35 [.μ ps 0] {ε:=B,η:=T}=some (.agg [.list cap (bA.map τ.av)],{ε:=B.set ps (.cells (aG c bs n' x')),η:=T}):=by
 have hs:ps<B.length:=(fB.1 hB).1;have hr:κ (C u).gl (ab (C u)) KS {env:=[.μ ps 0],loc:=[],mem:= {ε:=B,η:=[]}} fun z=>z.1= .ret/\∃x' n' st fr M T cP Ps,∃bA:List τ,z.2.mem= {ε:=M,η:=T}/\(aK z.2.env 2= .aj 2 0 0/\bQ z.2.loc 2=some (0,.cells [.list cP Ps]))/\Km B B.length ps (.list cP Ps) c bs st fr n' x' M T/\bN Ps (bA.map τ.av)/\gS bA fr/\fr<=172/\(1<=bA.length/\bA.length<=4)/\(n<=n'/\n'<=n+3000000000):=by
  have φ:B.length≠ps:=by omega
  have K0:Km B B.length ps (.list .nil []) c bs 0 0 n x (B++[.cells (bH ps (.list .nil []) (0:Nat) 0)]) []:=
   ⟨⟨by simp,by rw[ek hs];exact hB⟩,fun i h1 _=>ek h1,by simp,by simp⟩
  unfold KS;refine Δ (fun z=>(z.e 0= .μ ps 0/\z.e 2= .aj 2 0 0/\z.q 2=some (0,.cells [ω]))/\z.mem= {ε:=B,η:=[]}) (by simp[newVar,bz]) fun z ⟨⟨h0,h2,l2⟩,Γ⟩=>?_;refine Δ (fun z=>(z.e 0= .μ ps 0/\z.e 2= .aj 2 0 0/\z.q 2=some (0,.cells [ω])/\z.e 3= .μ B.length 0)/\z.mem= {ε:=B++[.cells (bH ps (.list .nil []) (0:Nat) 0)],η:=[]}) (by simp[h0,h2,l2,Γ,dd,dk,newVar,Mem.push,Mem.ν,ν,cw,bH]) fun z ⟨⟨h0,h2,l2,h3⟩,Γ⟩=>?_;generalize B++[θ.cells (bH ps (.list .nil []) (0:Nat) 0)]=M0 at K0 Γ;obtain⟨x1,r,n1,b1,b2,b3,b4,uU⟩:=JT (u:=u) K0.ms hb 1 4 (by omega) (by omega) (by omega) (by omega);obtain⟨r,rfl⟩:∃j:Nat,r=j:=⟨r.toNat,by omega⟩;have K1:=K0.draw φ n1 x1;generalize M0.set ps (.cells (aG c bs n1 x1))=M1 at uU K1;refine bJ (fun z=>∃i,Ap B B.length ps c bs n (r:Int) i r z) ?_ fun z ⟨i,x2,n2,st,fr,M,T,cP,Ps,bA,⟨h0,h2,l2,h3,bP,bZ⟩,Γ,hK,hR,lq,ME,zi,dH,dK,nF,gO⟩=>?_
  ·refine Δ (fun z=>SM B.length ps r 0 z/\z.mem= {ε:=M1,η:=[]}) (by simp[SM,h0,h2,l2,h3,Γ,uU]) fun z ⟨hS,Γ⟩=>?_;refine κ.block (κ.kp (I:=fun j z=>Ap B B.length ps c bs n (r:Int) (j:Int) j z) r ⟨x1,n1,0,0,M1,[],.nil,[],[],hS,Γ,K1,Go.Θ.Row.nil,.nil,rfl,.nil,rfl,by omega,by omega,by simp⟩ fun j z hj hI=>?_);have sZ:=hI;obtain⟨x2,n2,st,fr,M,T,cP,Ps,bA,hS,Γ,qa⟩:=sZ;obtain⟨h0,h2,l2,h3,bP,bZ⟩:=hS;unfold V_;by_cases DK:j<r
   ·have lO:(j:Int)<r:=by omega
    have kB:bC .i64 ((j:Int)+1)=(j:Int)+1:=wrap_i64 (by omega) (by omega);refine Δ (fun z=>Ap B B.length ps c bs n (r:Int) (j:Int) j z/\z.e 13= .bool true) ?_ fun z ⟨hI,dW⟩=>?_
    ·exact wU (P:=fun z=>(SM B.length ps r j z/\z.mem= {ε:=M,η:=T})/\z.e 13= .bool true) (by simp[SM,h0,h2,l2,h3,bP,bZ,Γ,lO,DK]) fun z ⟨⟨y1,y2⟩,y3⟩=>⟨⟨x2,n2,st,fr,M,T,cP,Ps,bA,y1,y2,qa⟩,y3⟩
    refine κ.go (s':=z) (by simp[dW]) ?_;refine bJ (fun z=>Ap B B.length ps c bs n (r:Int) (j:Int) (j+1) z) (κ.block (κ.mono (ZJ (u:=u) hs φ (bS _) hb hn (by omega) hI) fun z ⟨e,hI⟩=> .inr ⟨by rw[e];simp,.inl ⟨e,hI⟩⟩)) fun z ⟨x2,n2,st,fr,M,T,cP,Ps,bA,⟨h0,h2,l2,h3,bP,bZ⟩,Γ,qa⟩=>?_;exact κ.done .normal (fun z=>SM B.length ps r ((j:Int)+1) z/\z.mem= {ε:=M,η:=T}) (by simp[SM,h0,h2,l2,h3,bP,bZ,Γ,kB]) fun z ⟨y1,y2⟩=> .inl ⟨rfl,DK,x2,n2,st,fr,M,T,cP,Ps,bA,by simpa using y1,y2,qa⟩
   ·have lO:¬(j:Int)<r:=by omega
    obtain rfl:j=r:=by omega
    exact κ.done (.exit 0) (fun z=>SM B.length ps j j z/\z.mem= {ε:=M,η:=T}) (by simp[SM,h0,h2,l2,h3,bP,bZ,Γ,lO]) fun z ⟨y1,y2⟩=> .inr ⟨by simp,.inl ⟨rfl,.inl ⟨rfl,_,x2,n2,st,fr,M,T,cP,Ps,bA,y1,y2,qa⟩⟩⟩
  ·have hg:M[B.length]?=some (.cells (bH ps (.list cP Ps) st fr)):=hK.ms.m;refine Δ (fun z=>(z.e 2= .aj 2 0 0/\z.q 2=some (0,.cells [.list cP Ps]))/\z.mem= {ε:=M,η:=T}) (by simp[h0,h2,l2,h3,Γ,hg,Wz,BO,dk]) fun z ⟨⟨h2,l2⟩,Γ⟩=>?_;exact κ.done .ret (fun z=>(z.e 2= .aj 2 0 0/\z.q 2=some (0,.cells [.list cP Ps]))/\z.mem= {ε:=M,η:=T}) (by simp[h2,l2,Γ]) fun z ⟨y1,y2⟩=>⟨rfl,x2,n2,st,fr,M,T,cP,Ps,bA,y2,y1,hK,lq,zi,by omega,by omega,by omega⟩
 obtain⟨z,hx,e,x',n',st,fr,M,T',cP,Ps,bA,Γ,⟨h2,l2⟩,hK,lq,zi,dK,hlen,gF⟩:=hr;have HR:Dv (.agg [.list cP Ps]) (.agg [.list (cP.exp 0 false) (bA.map τ.av)]):= .agg (.cons (Dv.list cP lq) .nil);have MC:M=B.set ps (.cells (aG c bs n' x'))++M.drop B.length:=by
  have h1:M.take B.length=B.set ps (.cells (aG c bs n' x')):=by
   apply al9;intro i;by_cases hi:i<B.length
   ·rw[Kb hi];by_cases h2:i=ps
    ·subst h2;rw[hK.ms.s];simp[hs]
    ·rw[gR (Ne.symm h2)];exact hK.oD i hi h2
   ·rw[h_ (by simp;omega),h_ (by simp;omega)]
  rw[<-h1,al_]
 refine⟨n',x',cP.exp 0 false,fr,bA,gF,zi,dK,hlen,BP cP 0,fun T=>?_⟩;refine Wx (u:=u) (g:=Hy) rfl rfl rfl (by simp) (by simp[exp,hs]) ⟨z,hx,fun i=>by rw[e];simp,⟨_,T',by rw[Γ,<-MC],hK.tt⟩,[.agg [.list cP Ps]],by simp[Hy,h2,l2],?_⟩ T;rw[Γ];exact HR.aO _ _ _
end Go.Θ.Tz
