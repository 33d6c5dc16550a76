import Derived.Test.YtiigojkfojnedaaGreatDoorTMb
set_option linter.all false
set_option maxRecDepth 100000
set_option maxHeartbeats 8000000
open List renaming length_filter_le->alT,mem_singleton->fK,append_nil->de,map_append->jT,all_append->alU,ext_getElem?->alV,getElem?_take_of_lt->J0,getElem?_set_ne->gR,getElem?_eq_none->hU,take_append_drop->B0,map_cons->aA,map_nil->aP,getElem?_append_left->eo,getElem?_eq_some_iff->fu,length_map->cF
open Nat renaming mul_le_mul_right->mq,le_refl->bA
open Go.IntKind renaming wrap->bC
namespace Go.Δ.Tz
open Go.Δ
variable{u:Nat}
noncomputable def Jw:List (Nat×Nat×Int×AC):=[(83,82,1,Ip),(105,104,2,Iq),(115,114,3,DZ),(134,133,4,Ir),(152,151,5,Is),(186,185,6,It),(193,192,7,D0),(212,211,8,Iu),(235,234,9,Iv)]
theorem afb:D1= .seq (.ops [⟨some 81,.mv (.t 8),none⟩]) (.block 2 (BM 81 Jw .skip)):=by rfl
theorem κ.skip{gl:Nat->AV}{c:cu}{σ:St}{Q:Ex×St->Prop}(h:Q (.normal,σ)):κ gl c .skip σ Q:=⟨_,rfl,h⟩
theorem ob:Dv jB.av jB.av:= .agg (.cons (.int _ _) (.cons (.int _ _) (.cons (.str _) (.cons (Dv.list .nil .nil) .nil))))
theorem oY:Dv ω ω:=Dv.list .nil .nil
theorem tX{k g:Int}{nm:List Nat}{cp:ξ}{oe:List ρ}(hp:∀p∈oe,Dv p.av p.av){X Y:η}(hX:Dv X.av X.av)(hY:Dv Y.av Y.av){cb ce:ξ}{body els:List δ}(hb:Dv (.list cb (δ.ψ body)) (.list cb (δ.ψ body)))(he:Dv (.list ce (δ.ψ els)) (.list ce (δ.ψ els))):
  Dv (.agg (aR k g nm (.list cp (oe.map ρ.av)) X.four Y.four (.list cb (δ.ψ body)) (.list ce (δ.ψ els)))) (bz k g nm (cp.exp 0 false) oe X Y cb body ce els).av:=by
 have four:∀{X:η},Dv X.av X.av->bS X.four X.four:=fun h=>by rw[η.iM]at h;exact⟨by simpa only[pf]using h.1,by simpa only[eC,AV.agg.injEq]using h.2⟩
 have dQ:bS (oe.map ρ.av) (oe.map ρ.av):=bS.of ρ.av oe hp;have:=Dv.agg (.cons (.int .i64 k) (.cons (.int .i64 g) (.cons (.str nm) (.cons (Dv.list cp dQ) ((four hX).append ((four hY).append (.cons hb (.cons he .nil))))))));have e:(bz k g nm (cp.exp 0 false) oe X Y cb body ce els).av= .agg (.n k:: .n g:: .str nm:: .list (cp.exp 0 false) (oe.map ρ.av)::(X.four++(Y.four++[.list cb (δ.ψ body),.list ce (δ.ψ els)]))):=by simp[bz,δ.av,δ.cells]
 rw[e];exact this
section
variable{B:List θ}{pm ps:Nat}{P:AV}{c:ξ}{bs:List Nat}{co:ξ}{lo st fr n:Nat}{x:Int}{M:List θ}{q:Nat}{L:List AV}{T:List Nat}{mm:Mem}
variable{d r i:Int}{c1 c2 c3 c4:ξ}{s:Sc}{out:List AV}{v:Nat}{e1 e2 e3 e4:ξ}{s':Sc}{σ:St}{k:Int}
theorem aja{Q:Ex×St->Prop}(hS:SS pm d r i c1 c2 c3 c4 s co out σ)(hI:SI k q v e1 e2 e3 e4 s' σ)(Γ:σ.mem=mm)(h:∀σ',SS pm d r i c1 c2 c3 c4 s co out σ'->SI k q v e1 e2 e3 e4 s' σ'->σ'.mem=mm->κ (C u).gl (ah (C u)) (swp k Jw .skip) σ' Q)(hQ:∀z,Q z->z.1≠ .exit 2):
  κ (C u).gl (ah (C u)) D1 σ Q:=by
 have h8:=hI.1;rw[afb];refine κ.go (s':= {σ with env:=mN σ.env 81 (.n k)}) (by simp[exec,dT,dG,eR,aH,dr,ff,eH,h8]) (κ.block (κ.mono (Q:=Q) ?_ fun z hz=> .inr ⟨hQ z hz,hz⟩));refine κ.BM (K:=fun σ=>SS pm d r i c1 c2 c3 c4 s co out σ/\SI k q v e1 e2 e3 e4 s' σ/\σ.mem=mm) (k:=k) (fun σ j v hj ⟨h1,h2,h3⟩=>⟨h1.set hj v,h2.set hj v,h3⟩) Jw .skip _ (by rfl) ⟨hS.set (by omega) _,hI.set (by omega) _,Γ⟩ (by simp[fA]) fun σ' ⟨h1,h2,h3⟩=>h σ' h1 h2 h3
theorem tC{mo:St->Prop}{a:AC}{Q:Ex×St->Prop}(hS:SS pm d r i c1 c2 c3 c4 s co out σ)(hI:SI k q v e1 e2 e3 e4 s' σ)(Γ:σ.mem=mm)(h:∀σ',SS pm d r i c1 c2 c3 c4 s co out σ'->SI k q v e1 e2 e3 e4 s' σ'->σ'.mem=mm->κ (C u).gl (ah (C u)) (swp k Jw .skip) σ' fun z=>(z.1= .exit 1/\Q z)\/(z.1= .normal/\mo z.2))(h2:∀z,mo z->κ (C u).gl (ah (C u)) a z Q):
  κ (C u).gl (ah (C u)) (.seq D1 a) σ Q:=by
 refine bP (mo) (κ.mono (aja (u:=u) (Q:=fun z=>(z.1= .exit 1/\Q z)\/(z.1= .normal/\mo z.2)) hS hI Γ h fun z hz=>?_) fun z hz=>?_) h2
 ·rcases hz with⟨e,-⟩|⟨e,-⟩<;>rw[e]<;>simp
 ·rcases hz with⟨e,hz⟩|hz
  ·exact .inr ⟨by rw[e];simp,hz⟩
  ·exact .inl hz
theorem CJ(hm:pm<B.length)(hs:ps<B.length)(hk:k≠2/\k≠3/\k≠5)(hS:SS pm d r i c1 c2 c3 c4 s co out σ)(hI:SI k q v e1 e2 e3 e4 s' σ)(Γ:σ.mem= {ε:=M,ζ:=T})(hM:MM B pm ps P c bs co lo st fr n x q L M T)(hL:L.length=14)(hn:ν (.agg L)= .agg L)(ho:out.all (shaped true 14)=true)(jL:lo=out.length)(dq:out.length<1000000):
  κ (C u).gl (ah (C u)) (.seq qM zn) σ fun z=>z.1= .normal/\∃fo M',SS pm d r i c1 c2 c3 c4 s fo (out++[.agg L]) z.2/\z.2.mem= {ε:=M',ζ:=T}/\Kt B pm ps P c bs fo (lo+1) st fr n x M'/\fo.exp 0 false= .any:=by
 refine bP (fun z=>SS pm d r i c1 c2 c3 c4 s co out z/\SI k q v e1 e2 e3 e4 s' z/\z.mem= {ε:=M,ζ:=T}) (κ.mono (ajo (u:=u) hk hS hI Γ) fun z ⟨h1,h2⟩=> .inl ⟨h1,h2⟩) fun z ⟨h1,h2,h3⟩=>?_;exact I5 hm hs h1 h2 h3 hM hL hn ho jL dq
theorem LL(hm:pm<B.length)(hs:ps<B.length)(gE:k≠4/\k≠8/\k≠10/\k≠7/\k≠11)(hk:k≠2/\k≠3/\k≠5)(hS:SS pm d r i c1 c2 c3 c4 s co out σ)(hI:SI k q v e1 e2 e3 e4 s' σ)(Γ:σ.mem= {ε:=M,ζ:=T})(hM:MM B pm ps P c bs co lo st fr n x q L M T)(hL:L.length=14)(hn:ν (.agg L)= .agg L)(ho:out.all (shaped true 14)=true)(jL:lo=out.length)(dq:out.length<1000000):
  κ (C u).gl (ah (C u)) (.seq uA (.seq qM zn)) σ fun z=>z.1= .normal/\∃fo M',SS pm d r i c1 c2 c3 c4 s fo (out++[.agg L]) z.2/\z.2.mem= {ε:=M',ζ:=T}/\Kt B pm ps P c bs fo (lo+1) st fr n x M'/\fo.exp 0 false= .any:=by
 refine bP (fun z=>SS pm d r i c1 c2 c3 c4 s co out z/\SI k q v e1 e2 e3 e4 s' z/\z.mem= {ε:=M,ζ:=T}) (κ.mono (Jl (u:=u) gE hS hI Γ) fun z ⟨h1,h2⟩=> .inl ⟨h1,h2⟩) fun z ⟨h1,h2,h3⟩=>?_;exact CJ hm hs hk h1 h2 h3 hM hL hn ho jL dq
end
def Sc.size(s:Sc):Nat:=s.aB.length+s.cz.length+s.bits.length+s.turns.length
theorem Sc.Pp(s:Sc)(nm:List Nat):(s.put nm).size=s.size+2:=by simp[Sc.size,Sc.put];omega
theorem Sc.afx(s:Sc)(nm:List Nat):(s.l_ nm).size=s.size+1:=by simp[Sc.size,Sc.l_];omega
theorem Sc.aj9(s:Sc)(nm:List Nat):(s.dR nm).size=s.size+1:=by simp[Sc.size,Sc.dR];omega
theorem Sc.Zd(s:Sc)(nm:List Nat):(s.bit nm).size<=s.size+1:=by
 unfold Sc.bit;split
 ·omega
 ·simp[Sc.size];omega
theorem Sc.aay(s:Sc)(nm:List Nat):(s.drop nm).size<=s.size:=by have h1:(s.drop nm).aB.length<=s.aB.length:=alT _ _;have h2:(s.drop nm).cz.length<=s.cz.length:=alT _ _;have h3:(s.drop nm).bits=s.bits:=rfl;have h4:(s.drop nm).turns=s.turns:=rfl;simp only[Sc.size,h3,h4];omega
noncomputable def Bk(u pm ps:Nat)(P:AV)(c:ξ)(bs:List Nat)(bD:List (List Nat×Nat))(d D:Nat):Prop:=
 ∀(M:List θ) (st fr n:Nat) (x:Int) (c1 c2 c3 c4:ξ) (s:Sc),MS pm ps P c bs st fr n x M->n+10*D<500000000000000000->st+10*D<500000000000000000->fr+40<=1000+min st 40->s.size<=2*fr->(c1= .nil->s.aB=[])->(c3= .nil->s.bits=[])->(c4= .nil->s.turns=[])→
  ∃x' n' aL aw cap,∃l:List δ,(n<=n'/\n'<=n+D)/\(st<=aL/\aL<=st+D)/\(fr<=aw/\aw+min st 40<=fr+min aL 40)/\aN bD d fr s.inner l aw/\δ.bO l+min st 40<=min aL 40/\cap=Φ l/\Dv (.list cap (δ.ψ l)) (.list cap (δ.ψ l))∧
   ∀T,kf u 122 [.μ pm 0,.n (d:Int),.agg (gJ c1 c2 c3 c4 s)] {ε:=M,ζ:=T}=some (.list cap (δ.ψ l),{ε:=(M.set pm (.cells (bK ps P (aL:Nat) aw))).set ps (.cells (aG c bs n' x')),ζ:=T})
section
variable{B:List θ}{pm ps:Nat}{P:AV}{c:ξ}{bs:List Nat}{co:ξ}{lo st fr n:Nat}{x:Int}{M:List θ}{q:Nat}{L:List AV}{T:List Nat}
variable(hm:pm<B.length)(hs:ps<B.length)(τ:pm≠ps)(hb:bs.length<=300)
variable{d:Nat}{r i:Int}{c1 c2 c3 c4:ξ}{s:Sc}{out:List AV}{v:Nat}{e1 e2 e3 e4:ξ}{s':Sc}{σ:St}
theorem MM.both(h:MM B pm ps P c bs co lo st fr n x q L M T)(hm:pm<B.length)(hs:ps<B.length)(τ:pm≠ps)(aL aw n':Nat)(x':Int):MM B pm ps P c bs co lo aL aw n' x' q L ((M.set pm (.cells (bK ps P aL aw))).set ps (.cells (aG c bs n' x'))) T:=
 (h.ma hm τ aL aw).draw hs τ n' x'
noncomputable def Zr(B:List θ)(pm ps:Nat)(P:AV)(c:ξ)(bs:List Nat)(bD:List (List Nat×Nat))(d D:Nat)(r i:Int)(c1 c2 c3 c4:ξ)(s:Sc)(co:ξ)(out:List AV)(st fr n:Nat)(M:List θ)(T:List Nat)(z:Ex×St):Prop:=
 (z.1= .exit 1/\SS pm d r i c1 c2 c3 c4 s co out z.2/\z.2.mem= {ε:=M,ζ:=T})∨
 (z.1= .normal/\∃x' n' aL aw M' T' gT gU lr lV s2 fo L,∃y:δ,SS pm d r i gT gU lr lV s2 fo (out++[.agg L]) z.2/\z.2.mem= {ε:=M',ζ:=T'}/\(Kt B pm ps P c bs fo (out.length+1) aL aw n' x' M'/\fo.exp 0 false= .any)/\(∀i∈T',B.length<=i)/\eY bD d fr s y aw s2/\Dv (.agg L) y.av/\L.length=14∧
  (n<=n'/\n'<=n+290+2*D)/\(st<=aL/\aL<=st+2*D)/\(fr<=aw/\aw+st<=fr+1+min aL 40)/\y.cnt+st<=1+min aL 40/\s2.size<=2*aw/\(gT= .nil->s2.aB=[])/\(gU= .nil->s2.cz=[])/\(lr= .nil->s2.bits=[])/\(lV= .nil->s2.turns=[]))
include hm hs τ hb
variable{bD:List (List Nat×Nat)}{D:Nat}
variable(Ω:st<=40)(dI:fr+41<=1000+st)(hn:n+300+12*D<500000000000000000)(ni:st+12*D<500000000000000000)(aJ:s.size<=2*fr)(k1:c1= .nil->s.aB=[])(k2:c2= .nil->s.cz=[])(k3:c3= .nil->s.bits=[])(k4:c4= .nil->s.turns=[])(ho:out.all (shaped true 14)=true)(dq:out.length<1000000)
variable(rec:d<5->Bk u pm ps P c bs bD (d+1) D)(qq:1<=d/\d<=5)
include Ω dI hn ni aJ k1 k2 k3 k4 ho dq
noncomputable abbrev qU:AC:= .seq D1 (.seq uA (.seq qM zn))
theorem aiq(hr:s.aB≠[])(hS:SS pm d r i c1 c2 c3 c4 s co out σ)(hI:SI 1 q v c1 c2 c3 c4 s σ)(Γ:σ.mem= {ε:=M,ζ:=T})(hM:MM B pm ps P c bs co out.length st fr n x q (aR 1 0 [] ω z4 z4 ω ω) M T):
  κ (C u).gl (ah (C u)) qU σ (Zr B pm ps P c bs bD d D r i c1 c2 c3 c4 s co out st fr n M T):=by
 have xt:s.aB.length<=s.size:=by unfold Sc.size;omega
 refine tC (u:=u) (mo:=fun z=>∃x' n' M' T' g cp,∃l:List ρ,(n<=n'/\n'<=n+280)/\(1<=g/\g<=12)/\l.length=fL g/\(∀p∈l,fZ s.aB s.turns p)/\SS pm d r i c1 c2 c3 c4 s co out z/\SI 1 q v c1 c2 c3 c4 s z/\z.mem= {ε:=M',ζ:=T'}/\MM B pm ps P c bs co out.length st fr n' x' q (aR 1 g [] (.list cp (l.map ρ.av)) z4 z4 ω ω) M' T'/\cp.exp 0 false=Φ l) hS hI Γ (fun σ' h1 h2 h3=>κ.mono (aeZ (u:=u) hm hs τ hb h1 h2 h3 hM (by omega) hr (by omega)) fun z hz=> .inr hz) fun z ⟨x',n',M',T',g,cp,l,l1,l2,l3,l4,h1,h2,h3,h4,mE⟩=>?_;have fB:=tX (k:=1) (g:=g) (nm:=[]) (cp:=cp) (fun p hp=>(l4 p hp).fx) ob ob (body:=[]) (els:=[]) oY oY;have hL:=ie (k:=1) (g:=g) (nm:=[]) (P:= .list cp (l.map ρ.av)) (b:=ω) (e:=ω) fj fj;refine κ.mono (LL (u:=u) hm hs (by omega) (by omega) h1 h2 h3 h4 hL fB.ν ho rfl dq) fun z ⟨y1,fo,N,y2,y3,y4⟩=> .inr ⟨y1,x',n',st,fr,N,T',c1,c2,c3,c4,s,fo,_,_,y2,y3,y4,h4.tt,.gate l2.1 l2.2 l3 l4 mE,fB,hL,by omega,by omega,by omega,?_,aJ,k1,k2,k3,k4⟩;simp[bz,δ.cnt,aS,bh];omega
theorem ait(hS:SS pm d r i c1 c2 c3 c4 s co out σ)(hI:SI 2 q v c1 c2 c3 c4 s σ)(Γ:σ.mem= {ε:=M,ζ:=T})(hM:MM B pm ps P c bs co out.length st fr n x q (aR 2 0 [] ω z4 z4 ω ω) M T):
  κ (C u).gl (ah (C u)) qU σ (Zr B pm ps P c bs bD d D r i c1 c2 c3 c4 s co out st fr n M T):=by
 have xt:s.aB.length<=s.size/\s.cz.length<=s.size:=by unfold Sc.size;omega
 refine tC (u:=u) (mo:=fun z=>∃x' n' M' ix,(n<=n'/\n'<=n+35)/\cW s.turns 4 ix/\SS pm d r i c1 c2 c3 c4 s co out z/\SI 2 q v c1 c2 c3 c4 s z/\z.mem= {ε:=M',ζ:=T}/\MM B pm ps P c bs co out.length st (fr+1) n' x' q (aR 2 0 (bR [113] (fr+1)) ω ix.four z4 ω ω) M' T) hS hI Γ (fun σ' h1 h2 h3=>κ.mono (ae2 (u:=u) hm hs τ hb h1 h2 h3 hM (by omega) (by omega)) fun z hz=> .inr hz) fun z ⟨x',n',M',ix,l1,l2,h1,h2,h3,h4⟩=>?_;generalize jW:bR [113] (fr+1)=nm at*;have fB:=tX (k:=2) (g:=0) (nm:=nm) (cp:= .nil) (oe:=[]) (fun p hp=>(by cases hp)) l2.fx ob (body:=[]) (els:=[]) oY oY;have hL:=ie (k:=2) (g:=0) (nm:=nm) (P:=ω) (b:=ω) (e:=ω) ix.fR fj;refine bP (fun z=>SS pm d r i c1 c2 c3 c4 s co out z/\SI 2 q v c1 c2 c3 c4 s z/\z.mem= {ε:=M',ζ:=T}) (κ.mono (Jl (u:=u) (by omega) h1 h2 h3) fun z ⟨h1,h2⟩=> .inl ⟨h1,h2⟩) fun z ⟨h1,h2,h3⟩=>?_;refine bP (fun z=>∃gT gU M2,SS pm d r i gT gU c3 c4 (s.put nm) co out z/\SI 2 q v c1 c2 c3 c4 s z/\gT≠ .nil/\gU≠ .nil/\z.mem= {ε:=M2,ζ:=T}/\MM B pm ps P c bs co out.length st (fr+1) n' x' q (aR 2 0 nm ω ix.four z4 ω ω) M2 T) (κ.mono (ajp (u:=u) hm hs ix.fR fj k1 k2 (by omega) (by omega) h1 h2 h3 h4) fun z hz=> .inl hz) fun z ⟨gT,gU,M2,h1,h2,a1,a2,h3,h4⟩=>?_;refine κ.mono (I5 (u:=u) hm hs h1 h2 h3 h4 hL fB.ν ho rfl dq) fun z ⟨y1,fo,N,y2,y3,y4⟩=> .inr ⟨y1,x',n',st,fr+1,N,T,gT,gU,c3,c4,s.put nm,fo,_,_,y2,y3,y4,h4.tt,?_,fB,hL,by omega,by omega,by omega,?_,?_,fun h=>absurd h a1,fun h=>absurd h a2,k3,k4⟩
 ·rw[<-jW];exact .take l2
 ·simp[bz,δ.cnt,aS,bh];omega
 ·rw[Sc.Pp];omega
theorem aip(hS:SS pm d r i c1 c2 c3 c4 s co out σ)(hI:SI 3 q v c1 c2 c3 c4 s σ)(Γ:σ.mem= {ε:=M,ζ:=T})(hM:MM B pm ps P c bs co out.length st fr n x q (aR 3 0 [] ω z4 z4 ω ω) M T):
  κ (C u).gl (ah (C u)) qU σ (Zr B pm ps P c bs bD d D r i c1 c2 c3 c4 s co out st fr n M T):=by
 have xt:s.aB.length<=s.size/\s.cz.length<=s.size:=by unfold Sc.size;omega
 refine tC (u:=u) (mo:=fun z=>∃x' n' M' nm,(n<=n'/\n'<=n+1)/\nm∈s.cz/\SS pm d r i c1 c2 c3 c4 s co out z/\SI 3 q v c1 c2 c3 c4 s z/\z.mem= {ε:=M',ζ:=T}/\MM B pm ps P c bs co out.length st fr n' x' q (aR 3 0 nm ω z4 z4 ω ω) M' T) hS hI Γ (fun σ' h1 h2 h3=>κ.mono (aeY (u:=u) hm hs τ hb h1 h2 h3 hM (by omega) (by omega)) fun z hz=>?_) fun z ⟨x',n',M',nm,l1,l2,h1,h2,h3,h4⟩=>?_
 ·rcases hz with hz|hz
  ·exact .inl ⟨hz.1,.inl hz⟩
  ·exact .inr hz
 have fB:=tX (k:=3) (g:=0) (nm:=nm) (cp:= .nil) (oe:=[]) (fun p hp=>(by cases hp)) ob ob (body:=[]) (els:=[]) oY oY;have hL:=ie (k:=3) (g:=0) (nm:=nm) (P:=ω) (b:=ω) (e:=ω) fj fj;refine bP (fun z=>SS pm d r i c1 c2 c3 c4 s co out z/\SI 3 q v c1 c2 c3 c4 s z/\z.mem= {ε:=M',ζ:=T}) (κ.mono (Jl (u:=u) (by omega) h1 h2 h3) fun z ⟨h1,h2⟩=> .inl ⟨h1,h2⟩) fun z ⟨h1,h2,h3⟩=>?_;refine bP (fun z=>∃gT gU M2,SS pm d r i gT gU c3 c4 (s.drop nm) co out z/\SI 3 q v c1 c2 c3 c4 s z/\(gT= .nil->(s.drop nm).aB=[])/\(gU= .nil->(s.drop nm).cz=[])/\z.mem= {ε:=M2,ζ:=T}/\MM B pm ps P c bs co out.length st fr n' x' q (aR 3 0 nm ω z4 z4 ω ω) M2 T) (κ.mono (ajm (u:=u) hm hs fj fj k1 k2 (by omega) (by omega) h1 h2 h3 h4) fun z hz=> .inl hz) fun z ⟨gT,gU,M2,h1,h2,a1,a2,h3,h4⟩=>?_;refine κ.mono (I5 (u:=u) hm hs h1 h2 h3 h4 hL fB.ν ho rfl dq) fun z ⟨y1,fo,N,y2,y3,y4⟩=> .inr ⟨y1,x',n',st,fr,N,T,gT,gU,c3,c4,s.drop nm,fo,_,_,y2,y3,y4,h4.tt,.drop l2,fB,hL,by omega,by omega,by omega,?_,?_,a1,a2,k3,k4⟩
 ·simp[bz,δ.cnt,aS,bh];omega
 ·have:=s.aay nm;omega
theorem air(hr:s.aB≠[])(hS:SS pm d r i c1 c2 c3 c4 s co out σ)(hI:SI 5 q v c1 c2 c3 c4 s σ)(Γ:σ.mem= {ε:=M,ζ:=T})(hM:MM B pm ps P c bs co out.length st fr n x q (aR 5 0 [] ω z4 z4 ω ω) M T):
  κ (C u).gl (ah (C u)) qU σ (Zr B pm ps P c bs bD d D r i c1 c2 c3 c4 s co out st fr n M T):=by
 have xt:s.aB.length<=s.size/\s.bits.length<=s.size:=by unfold Sc.size;omega
 refine tC (u:=u) (mo:=fun z=>∃x' n' M' p nm,(n<=n'/\n'<=n+74)/\fZ s.aB s.turns p/\(nm=bR [98] (fr+1)\/nm∈s.bits)/\SS pm d r i c1 c2 c3 c4 s co out z/\SI 5 q v c1 c2 c3 c4 s z/\z.mem= {ε:=M',ζ:=T}/\MM B pm ps P c bs co out.length st (fr+1) n' x' q (aR 5 0 nm (.list .full [p.av]) z4 z4 ω ω) M' T) hS hI Γ (fun σ' h1 h2 h3=>κ.mono (ae0 (u:=u) hm hs τ hb h1 h2 h3 hM (by omega) (by omega) (by omega) hr (by omega)) fun z hz=> .inr hz) fun z ⟨x',n',M',p,nm,l1,l2,l3,h1,h2,h3,h4⟩=>?_;have fB:=tX (k:=5) (g:=0) (nm:=nm) (cp:= .full) (oe:=[p]) (fun y hy=>(by rw[fK.1 hy];exact l2.fx)) ob ob (body:=[]) (els:=[]) oY oY;have hL:=ie (k:=5) (g:=0) (nm:=nm) (P:= .list .full [p.av]) (b:=ω) (e:=ω) fj fj;refine bP (fun z=>SS pm d r i c1 c2 c3 c4 s co out z/\SI 5 q v c1 c2 c3 c4 s z/\z.mem= {ε:=M',ζ:=T}) (κ.mono (Jl (u:=u) (by omega) h1 h2 h3) fun z ⟨h1,h2⟩=> .inl ⟨h1,h2⟩) fun z ⟨h1,h2,h3⟩=>?_;refine bP (fun z=>∃lr M2,SS pm d r i c1 c2 lr c4 (s.bit nm) co out z/\SI 5 q v c1 c2 c3 c4 s z/\(lr= .nil->(s.bit nm).bits=[])/\z.mem= {ε:=M2,ζ:=T}/\MM B pm ps P c bs co out.length st (fr+1) n' x' q (aR 5 0 nm (.list .full [p.av]) z4 z4 ω ω) M2 T) (κ.mono (ajn (u:=u) hm hs fj fj k3 (by omega) h1 h2 h3 h4) fun z hz=> .inl hz) fun z ⟨lr,M2,h1,h2,a1,h3,h4⟩=>?_;have dy:(s.bit nm).aB=s.aB/\(s.bit nm).cz=s.cz/\(s.bit nm).turns=s.turns:=by unfold Sc.bit;split<;>exact⟨rfl,rfl,rfl⟩
 refine κ.mono (I5 (u:=u) hm hs h1 h2 h3 h4 hL fB.ν ho rfl dq) fun z ⟨y1,fo,N,y2,y3,y4⟩=> .inr ⟨y1,x',n',st,fr+1,N,T,c1,c2,lr,c4,s.bit nm,fo,_,_,y2,y3,y4,h4.tt,.measure l2 l3,fB,hL,by omega,by omega,by omega,?_,?_,fun h=>by rw[dy.1];exact k1 h,fun h=>by rw[dy.2.1];exact k2 h,a1,fun h=>by rw[dy.2.2];exact k4 h⟩
 ·simp[bz,δ.cnt,aS,bh];omega
 ·have:=s.Zd nm;omega
theorem aio(hr:s.aB≠[])(hS:SS pm d r i c1 c2 c3 c4 s co out σ)(hI:SI 6 q v c1 c2 c3 c4 s σ)(Γ:σ.mem= {ε:=M,ζ:=T})(hM:MM B pm ps P c bs co out.length st fr n x q (aR 6 0 [] ω z4 z4 ω ω) M T):
  κ (C u).gl (ah (C u)) qU σ (Zr B pm ps P c bs bD d D r i c1 c2 c3 c4 s co out st fr n M T):=by
 have xt:s.aB.length<=s.size:=by unfold Sc.size;omega
 refine tC (u:=u) (mo:=fun z=>∃x' n' M' p,(n<=n'/\n'<=n+72)/\fZ s.aB s.turns p/\SS pm d r i c1 c2 c3 c4 s co out z/\SI 6 q v c1 c2 c3 c4 s z/\z.mem= {ε:=M',ζ:=T}/\MM B pm ps P c bs co out.length st fr n' x' q (aR 6 0 [] (.list .full [p.av]) z4 z4 ω ω) M' T) hS hI Γ (fun σ' h1 h2 h3=>κ.mono (aeX (u:=u) hm hs τ hb h1 h2 h3 hM (by omega) hr (by omega)) fun z hz=> .inr hz) fun z ⟨x',n',M',p,l1,l2,h1,h2,h3,h4⟩=>?_;have fB:=tX (k:=6) (g:=0) (nm:=[]) (cp:= .full) (oe:=[p]) (fun y hy=>(by rw[fK.1 hy];exact l2.fx)) ob ob (body:=[]) (els:=[]) oY oY;have hL:=ie (k:=6) (g:=0) (nm:=[]) (P:= .list .full [p.av]) (b:=ω) (e:=ω) fj fj;refine κ.mono (LL (u:=u) hm hs (by omega) (by omega) h1 h2 h3 h4 hL fB.ν ho rfl dq) fun z ⟨y1,fo,N,y2,y3,y4⟩=> .inr ⟨y1,x',n',st,fr,N,T,c1,c2,c3,c4,s,fo,_,_,y2,y3,y4,h4.tt,.reset l2,fB,hL,by omega,by omega,by omega,?_,aJ,k1,k2,k3,k4⟩;simp[bz,δ.cnt,aS,bh];omega
theorem ain{cP:ξ}{Ps:List AV}{bF:List φ}(hP:P= .list cP Ps)(lu:bS Ps (bF.map φ.av))(gO:∀y∈bF,y.aq.length<=3)(dQ:bF.length<1000000)(DC:bD=lB bF)(hr:s.aB≠[])(hS:SS pm d r i c1 c2 c3 c4 s co out σ)(hI:SI 9 q v c1 c2 c3 c4 s σ)(Γ:σ.mem= {ε:=M,ζ:=T})(hM:MM B pm ps P c bs co out.length st fr n x q (aR 9 0 [] ω z4 z4 ω ω) M T):
  κ (C u).gl (ah (C u)) qU σ (Zr B pm ps P c bs bD d D r i c1 c2 c3 c4 s co out st fr n M T):=by
 have xt:s.aB.length<=s.size:=by unfold Sc.size;omega
 refine tC (u:=u) (mo:=fun z=>∃x' n' M' T' nm k cp,∃l:List ρ,(n<=n'/\n'<=n+280)/\(nm,k)∈lB bF/\l.length=k/\(∀p∈l,fZ s.aB s.turns p)/\SS pm d r i c1 c2 c3 c4 s co out z/\SI 9 q v c1 c2 c3 c4 s z/\z.mem= {ε:=M',ζ:=T'}/\MM B pm ps P c bs co out.length st fr n' x' q (aR 9 0 nm (.list cp (l.map ρ.av)) z4 z4 ω ω) M' T'/\cp.exp 0 false=Φ l) hS hI Γ (fun σ' h1 h2 h3=>κ.mono (aeW (u:=u) hm hs τ hb hP lu gO dQ h1 h2 h3 hM (by omega) hr (by omega)) fun z hz=>?_) fun z ⟨x',n',M',T',nm,k,cp,l,l1,l2,l3,l4,h1,h2,h3,h4,mE⟩=>?_
 ·rcases hz with hz|hz
  ·exact .inl ⟨hz.1,.inl hz⟩
  ·exact .inr hz
 have fB:=tX (k:=9) (g:=0) (nm:=nm) (cp:=cp) (fun p hp=>(l4 p hp).fx) ob ob (body:=[]) (els:=[]) oY oY;have hL:=ie (k:=9) (g:=0) (nm:=nm) (P:= .list cp (l.map ρ.av)) (b:=ω) (e:=ω) fj fj;refine κ.mono (LL (u:=u) hm hs (by omega) (by omega) h1 h2 h3 h4 hL fB.ν ho rfl dq) fun z ⟨y1,fo,N,y2,y3,y4⟩=> .inr ⟨y1,x',n',st,fr,N,T',c1,c2,c3,c4,s,fo,_,_,y2,y3,y4,h4.tt,.call (by rw[DC];exact l2) l3 l4 mE,fB,hL,by omega,by omega,by omega,?_,aJ,k1,k2,k3,k4⟩;simp[bz,δ.cnt,aS,bh];omega
end
section
variable{B:List θ}{pm ps:Nat}{P:AV}{c:ξ}{bs:List Nat}{co:ξ}{lo st fr n:Nat}{x:Int}{M:List θ}{q:Nat}{L:List AV}{T:List Nat}
variable(hm:pm<B.length)(hs:ps<B.length)(τ:pm≠ps)(hb:bs.length<=300)
variable{d:Nat}{r i:Int}{c1 c2 c3 c4:ξ}{s:Sc}{out:List AV}{v:Nat}{σ:St}
include hm hs τ hb
variable{bD:List (List Nat×Nat)}{D:Nat}
variable(Ω:st<=40)(dI:fr+41<=1000+st)(hn:n+300+12*D<500000000000000000)(ni:st+12*D<500000000000000000)(aJ:s.size<=2*fr)(k1:c1= .nil->s.aB=[])(k2:c2= .nil->s.cz=[])(k3:c3= .nil->s.bits=[])(k4:c4= .nil->s.turns=[])(ho:out.all (shaped true 14)=true)(dq:out.length<1000000)
variable(rec:Bk u pm ps P c bs bD (d+1) D)(qq:d<5)
include Ω dI hn ni aJ k1 k2 k3 k4 ho dq rec qq
theorem aim(hS:SS pm d r i c1 c2 c3 c4 s co out σ)(hI:SI 4 q v c1 c2 c3 c4 s σ)(Γ:σ.mem= {ε:=M,ζ:=T})(hM:MM B pm ps P c bs co out.length st fr n x q (aR 4 0 [] ω z4 z4 ω ω) M T):
  κ (C u).gl (ah (C u)) qU σ (Zr B pm ps P c bs bD d D r i c1 c2 c3 c4 s co out st fr n M T):=by
 have xt:s.aB.length<=s.size:=by unfold Sc.size;omega
 have vo:((d+1:Nat):Int)=(d:Int)+1:=by omega
 refine tC (u:=u) (mo:=fun z=>∃x' n' M' ix c',(n<=n'/\n'<=n+35)/\cW s.turns 4 ix/\SS pm d r i c1 c2 c3 c4 s co out z/\SI 4 q v c' c2 c3 c4 (s.l_ (bR [114] (fr+1))) z/\c'≠ .nil/\z.mem= {ε:=M',ζ:=T}/\MM B pm ps P c bs co out.length st (fr+1) n' x' q (aR 4 0 (bR [114] (fr+1)) ω ix.four z4 ω ω) M' T) hS hI Γ (fun σ' h1 h2 h3=>κ.mono (aeV (u:=u) hm hs τ hb h1 h2 h3 hM (by omega) (by omega) (by omega) k1) fun z hz=> .inr hz) fun z ⟨x',n',M',ix,c',l1,l2,h1,h2,l3,h3,h4⟩=>?_;obtain⟨x2,n2,o_,gV,cap,body,a1,a2,a3,a4,a5,a7,a8,mg⟩:=rec M' st (fr+1) n' x' c' c2 c3 c4 (s.l_ (bR [114] (fr+1))) h4.kt.ms (by omega) (by omega) (by omega) (by rw[Sc.afx];omega) (fun h=>absurd h l3) k3 k4;rw[vo]at mg;generalize jW:bR [114] (fr+1)=nm at*;have M2:=h4.both hm hs τ o_ gV n2 x2;have M3:=M2.cell hm hs (aR 4 0 nm ω ix.four z4 (.list cap (δ.ψ body)) ω);have fB:=tX (k:=4) (g:=0) (nm:=nm) (cp:= .nil) (oe:=[]) (fun p hp=>(by cases hp)) l2.fx ob (els:=[]) a8 oY;have hL:=ie (k:=4) (g:=0) (nm:=nm) (P:=ω) (b:= .list cap (δ.ψ body)) (e:=ω) ix.fR fj;refine bP (fun z=>SS pm d r i c1 c2 c3 c4 s co out z/\SI 4 q v c' c2 c3 c4 (s.l_ nm) z/\z.mem= {ε:=((M'.set pm (.cells (bK ps P (o_:Nat) gV))).set ps (.cells (aG c bs n2 x2))).set q (.cells (aR 4 0 nm ω ix.four z4 (.list cap (δ.ψ body)) ω)),ζ:=T}) (κ.mono (PE (u:=u) (.inl rfl) ix.fR fj a8 rfl (by omega) mg M2.q2 h1 h2 h3) fun z hz=> .inl hz) fun z ⟨h1,h2,h3⟩=>?_;refine κ.mono (CJ (u:=u) hm hs (by omega) h1 h2 h3 M3 hL fB.ν ho rfl dq) fun z ⟨y1,fo,N,y2,y3,y4⟩=> .inr ⟨y1,x2,n2,o_,gV,N,T,c1,c2,c3,c4,s,fo,_,_,y2,y3,y4,h4.tt,?_,fB,hL,by omega,by omega,by omega,?_,by omega,k1,k2,k3,k4⟩
 ·rw[<-jW]at a4⊢;exact .borrow qq l2 a4 (a7▸kJ _) a7
 ·simp[bz,δ.cnt,aS,bh];omega
theorem ais(hS:SS pm d r i c1 c2 c3 c4 s co out σ)(hI:SI 8 q v c1 c2 c3 c4 s σ)(Γ:σ.mem= {ε:=M,ζ:=T})(hM:MM B pm ps P c bs co out.length st fr n x q (aR 8 0 [] ω z4 z4 ω ω) M T):
  κ (C u).gl (ah (C u)) qU σ (Zr B pm ps P c bs bD d D r i c1 c2 c3 c4 s co out st fr n M T):=by
 have xt:s.turns.length<=s.size:=by unfold Sc.size;omega
 have vo:((d+1:Nat):Int)=(d:Int)+1:=by omega
 refine tC (u:=u) (mo:=fun z=>∃x' n' M' ix iy c',(n<=n'/\n'<=n+30)/\cW s.turns 3 ix/\cW s.turns 3 iy/\SS pm d r i c1 c2 c3 c4 s co out z/\SI 8 q v c1 c2 c3 c' (s.dR (bR [105] (fr+1))) z/\c'≠ .nil/\z.mem= {ε:=M',ζ:=T}/\MM B pm ps P c bs co out.length st (fr+1) n' x' q (aR 8 0 (bR [105] (fr+1)) ω ix.four iy.four ω ω) M' T) hS hI Γ (fun σ' h1 h2 h3=>κ.mono (ae1 (u:=u) hm hs τ hb h1 h2 h3 hM (by omega) (by omega) (by omega) k4) fun z hz=> .inr hz) fun z ⟨x',n',M',ix,iy,c',l1,l2,VQ,h1,h2,l3,h3,h4⟩=>?_;obtain⟨x2,n2,o_,gV,cap,body,a1,a2,a3,a4,a5,a7,a8,mg⟩:=rec M' st (fr+1) n' x' c1 c2 c3 c' (s.dR (bR [105] (fr+1))) h4.kt.ms (by omega) (by omega) (by omega) (by rw[Sc.aj9];omega) k1 k3 (fun h=>absurd h l3);rw[vo]at mg;generalize jW:bR [105] (fr+1)=nm at*;have M2:=h4.both hm hs τ o_ gV n2 x2;have M3:=M2.cell hm hs (aR 8 0 nm ω ix.four iy.four (.list cap (δ.ψ body)) ω);have fB:=tX (k:=8) (g:=0) (nm:=nm) (cp:= .nil) (oe:=[]) (fun p hp=>(by cases hp)) l2.fx VQ.fx (els:=[]) a8 oY;have hL:=ie (k:=8) (g:=0) (nm:=nm) (P:=ω) (b:= .list cap (δ.ψ body)) (e:=ω) ix.fR iy.fR;refine bP (fun z=>SS pm d r i c1 c2 c3 c4 s co out z/\SI 8 q v c1 c2 c3 c' (s.dR nm) z/\z.mem= {ε:=((M'.set pm (.cells (bK ps P (o_:Nat) gV))).set ps (.cells (aG c bs n2 x2))).set q (.cells (aR 8 0 nm ω ix.four iy.four (.list cap (δ.ψ body)) ω)),ζ:=T}) (κ.mono (PE (u:=u) (.inr (.inl rfl)) ix.fR iy.fR a8 rfl (by omega) mg M2.q2 h1 h2 h3) fun z hz=> .inl hz) fun z ⟨h1,h2,h3⟩=>?_;refine κ.mono (CJ (u:=u) hm hs (by omega) h1 h2 h3 M3 hL fB.ν ho rfl dq) fun z ⟨y1,fo,N,y2,y3,y4⟩=> .inr ⟨y1,x2,n2,o_,gV,N,T,c1,c2,c3,c4,s,fo,_,_,y2,y3,y4,h4.tt,?_,fB,hL,by omega,by omega,by omega,?_,by omega,k1,k2,k3,k4⟩
 ·rw[<-jW]at a4⊢;exact .loop qq l2 VQ a4 (a7▸kJ _) a7
 ·simp[bz,δ.cnt,aS,bh];omega
theorem aiu(hS:SS pm d r i c1 c2 c3 c4 s co out σ)(hI:SI 10 q v c1 c2 c3 c4 s σ)(Γ:σ.mem= {ε:=M,ζ:=T})(hM:MM B pm ps P c bs co out.length st fr n x q (aR 10 0 [] ω z4 z4 ω ω) M T):
  κ (C u).gl (ah (C u)) qU σ (Zr B pm ps P c bs bD d D r i c1 c2 c3 c4 s co out st fr n M T):=by
 have vo:((d+1:Nat):Int)=(d:Int)+1:=by omega
 refine tC (u:=u) (mo:=fun z=>SS pm d r i c1 c2 c3 c4 s co out z/\SI 10 q v c1 c2 c3 c4 s z/\z.mem= {ε:=M,ζ:=T}) hS hI Γ (fun σ' h1 h2 h3=>κ.skip (.inr ⟨rfl,h1,h2,h3⟩)) fun z ⟨h1,h2,h3⟩=>?_;obtain⟨x2,n2,o_,gV,cap,body,a1,a2,a3,a4,a5,a7,a8,mg⟩:=rec M st fr n x c1 c2 c3 c4 s hM.kt.ms (by omega) (by omega) (by omega) aJ k1 k3 k4;rw[vo]at mg;have M2:=hM.both hm hs τ o_ gV n2 x2;have M3:=M2.cell hm hs (aR 10 0 [] ω z4 z4 (.list cap (δ.ψ body)) ω);have fB:=tX (k:=10) (g:=0) (nm:=[]) (cp:= .nil) (oe:=[]) (fun p hp=>(by cases hp)) ob ob (els:=[]) a8 oY;have hL:=ie (k:=10) (g:=0) (nm:=[]) (P:=ω) (b:= .list cap (δ.ψ body)) (e:=ω) fj fj;refine bP (fun z=>SS pm d r i c1 c2 c3 c4 s co out z/\SI 10 q v c1 c2 c3 c4 s z/\z.mem= {ε:=((M.set pm (.cells (bK ps P (o_:Nat) gV))).set ps (.cells (aG c bs n2 x2))).set q (.cells (aR 10 0 [] ω z4 z4 (.list cap (δ.ψ body)) ω)),ζ:=T}) (κ.mono (PE (u:=u) (.inr (.inr rfl)) fj fj a8 rfl (by omega) mg M2.q2 h1 h2 h3) fun z hz=> .inl hz) fun z ⟨h1,h2,h3⟩=>?_;refine κ.mono (CJ (u:=u) hm hs (by omega) h1 h2 h3 M3 hL fB.ν ho rfl dq) fun z ⟨y1,fo,N,y2,y3,y4⟩=> .inr ⟨y1,x2,n2,o_,gV,N,T,c1,c2,c3,c4,s,fo,_,_,y2,y3,y4,hM.tt,.qa qq a4 (a7▸kJ _) a7,fB,hL,by omega,by omega,by omega,?_,by omega,k1,k2,k3,k4⟩;simp[bz,δ.cnt,aS,bh];omega
theorem X5{k g:Int}{nm:List Nat}(hk:k=7\/k=11){n':Nat}{x':Int}{M':List θ}(H3:n<=n'/\n'<=n+1)(h1:SS pm d r i c1 c2 c3 c4 s co out σ)(h2:SI k q v c1 c2 c3 c4 s σ)(h3:σ.mem= {ε:=M',ζ:=T})(h4:MM B pm ps P c bs co out.length st fr n' x' q (aR k g nm ω z4 z4 ω ω) M' T)
  (qA:∀{gV AD:Nat} {cb ce:ξ} {body els:List δ},aN bD (d+1) fr s.inner body gV->aN bD (d+1) gV s.inner els AD->br cb->cb=Φ body->br ce->ce=Φ els->eY bD d fr s (bz k g nm .nil [] jB jB cb body ce els) AD s):
  κ (C u).gl (ah (C u)) (.seq uA (.seq qM zn)) σ (Zr B pm ps P c bs bD d D r i c1 c2 c3 c4 s co out st fr n M T):=by
 have vo:((d+1:Nat):Int)=(d:Int)+1:=by omega
 obtain⟨x2,n2,o_,gV,cap,body,a1,a2,a3,a4,a5,a7,a8,mg⟩:=rec M' st fr n' x' c1 c2 c3 c4 s h4.kt.ms (by omega) (by omega) (by omega) aJ k1 k3 k4;have M2:=h4.both hm hs τ o_ gV n2 x2;obtain⟨x3,n3,PN,AD,gq,els,b1,b2,b3,b4,b5,b7,b8,Bz⟩:=rec _ o_ gV n2 x2 c1 c2 c3 c4 s M2.kt.ms (by omega) (by omega) (by omega) (by omega) k1 k3 k4;rw[vo]at mg Bz;have M3:=M2.both hm hs τ PN AD n3 x3;have M4:=M3.cell hm hs (aR k g nm ω z4 z4 (.list cap (δ.ψ body)) (.list gq (δ.ψ els)));have fB:=tX (k:=k) (g:=g) (nm:=nm) (cp:= .nil) (oe:=[]) (fun p hp=>(by cases hp)) ob ob a8 b8;have hL:=ie (k:=k) (g:=g) (nm:=nm) (P:=ω) (b:= .list cap (δ.ψ body)) (e:= .list gq (δ.ψ els)) fj fj;refine bP (fun z=>SS pm d r i c1 c2 c3 c4 s co out z/\SI k q v c1 c2 c3 c4 s z/\z.mem= {ε:=((((M'.set pm (.cells (bK ps P (o_:Nat) gV))).set ps (.cells (aG c bs n2 x2))).set pm (.cells (bK ps P (PN:Nat) AD))).set ps (.cells (aG c bs n3 x3))).set q (.cells (aR k g nm ω z4 z4 (.list cap (δ.ψ body)) (.list gq (δ.ψ els)))),ζ:=T}) (κ.mono (ajl (u:=u) hk fj fj a8 rfl b8 rfl (by omega) mg Bz M3.q2 h1 h2 h3) fun z hz=> .inl hz) fun z ⟨h1,h2,h3⟩=>?_;refine κ.mono (CJ (u:=u) hm hs (by omega) h1 h2 h3 M4 hL fB.ν ho rfl dq) fun z ⟨y1,fo,N,y2,y3,y4⟩=> .inr ⟨y1,x3,n3,PN,AD,N,T,c1,c2,c3,c4,s,fo,_,_,y2,y3,y4,h4.tt,qA a4 b4 (a7▸kJ _) a7 (b7▸kJ _) b7,fB,hL,by omega,by omega,by omega,?_,by omega,k1,k2,k3,k4⟩;rcases hk with rfl|rfl<;>simp[bz,δ.cnt,aS,bh]<;>omega
theorem aiw(hS:SS pm d r i c1 c2 c3 c4 s co out σ)(hI:SI 11 q v c1 c2 c3 c4 s σ)(Γ:σ.mem= {ε:=M,ζ:=T})(hM:MM B pm ps P c bs co out.length st fr n x q (aR 11 0 [] ω z4 z4 ω ω) M T):
  κ (C u).gl (ah (C u)) qU σ (Zr B pm ps P c bs bD d D r i c1 c2 c3 c4 s co out st fr n M T):=by
 refine tC (u:=u) (mo:=fun z=>SS pm d r i c1 c2 c3 c4 s co out z/\SI 11 q v c1 c2 c3 c4 s z/\z.mem= {ε:=M,ζ:=T}) hS hI Γ (fun σ' h1 h2 h3=>κ.skip (.inr ⟨rfl,h1,h2,h3⟩)) fun z ⟨h1,h2,h3⟩=>?_;exact X5 hm hs τ hb Ω dI hn ni aJ k1 k2 k3 k4 ho dq rec qq (.inr rfl) (by omega) h1 h2 h3 hM fun g1 g2 g3 g4 g5 g6=> .within qq g1 g2 g3 g4 g5 g6
theorem aiv(hS:SS pm d r i c1 c2 c3 c4 s co out σ)(hI:SI 7 q v c1 c2 c3 c4 s σ)(Γ:σ.mem= {ε:=M,ζ:=T})(hM:MM B pm ps P c bs co out.length st fr n x q (aR 7 0 [] ω z4 z4 ω ω) M T):
  κ (C u).gl (ah (C u)) qU σ (Zr B pm ps P c bs bD d D r i c1 c2 c3 c4 s co out st fr n M T):=by
 have xt:s.bits.length<=s.size:=by unfold Sc.size;omega
 refine tC (u:=u) (mo:=fun z=>∃x' n' M' nm,(n<=n'/\n'<=n+1)/\nm∈s.bits/\SS pm d r i c1 c2 c3 c4 s co out z/\SI 7 q v c1 c2 c3 c4 s z/\z.mem= {ε:=M',ζ:=T}/\MM B pm ps P c bs co out.length st fr n' x' q (aR 7 0 nm ω z4 z4 ω ω) M' T) hS hI Γ (fun σ' h1 h2 h3=>κ.mono (ae3 (u:=u) hm hs τ hb h1 h2 h3 hM (by omega) (by omega)) fun z hz=>?_) fun z ⟨x',n',M',nm,l1,l2,h1,h2,h3,h4⟩=>?_
 ·rcases hz with hz|hz
  ·exact .inl ⟨hz.1,.inl hz⟩
  ·exact .inr hz
 exact X5 hm hs τ hb Ω dI hn ni aJ k1 k2 k3 k4 ho dq rec qq (.inl rfl) l1 h1 h2 h3 h4 fun g1 g2 g3 g4 g5 g6=> .cond qq l2 g1 g2 g3 g4 g5 g6
end
end Go.Δ.Tz
namespace Go.Δ
mutual
theorem Ss:∀v,pf v=true->pf (eC v)=true/\eC (eC v)=eC v
 | .int _ _,_=>⟨rfl,rfl⟩
 | .bool _,_=>⟨rfl,rfl⟩
 | .str _,_=>⟨rfl,rfl⟩
 | .list c l,h=>by obtain⟨h1,h2⟩:=FM l (by simpa only[pf]using h);refine⟨by simpa only[eC,pf]using h1,?_⟩;simp only[eC,h2,vb]
 | .agg l,h=>by obtain⟨h1,h2⟩:=FM l (by simpa only[pf]using h);exact⟨by simpa only[eC,pf]using h1,by simp only[eC,h2]⟩
 | .aU l,h=>by obtain⟨h1,h2⟩:=FM l (by simpa only[pf]using h);exact⟨by simpa only[eC,pf]using h1,by simp only[eC,h2]⟩
 | .undef,h| .cU,h| .iU,h| .fV,h| .gx,h| .gY,h=>by simp[pf]at h
 | .aj _ _ _,h| .μ _ _,h| .ref _,h| .sl _ _ _ _ _,h| .fn _ _ _,h| .iface _ _,h| .map _,h=>by simp[pf]at h
theorem FM:∀l,lQ l=true->lQ (kp l)=true/\kp (kp l)=kp l
 |[],_=>⟨rfl,rfl⟩
 |v::l,h=>by simp only[lQ,Bool.and_eq_true]at h;obtain⟨h1,h2⟩:=Ss v h.1;obtain⟨k1,k2⟩:=FM l h.2;exact⟨by simp only[kp,lQ,h1,k1];rfl,by simp only[kp,h2,k2]⟩
end
theorem Dv.self{v w:AV}(h:Dv v w):Dv w w:=by have:=Ss v h.1;rw[h.2]at this;exact this
end Go.Δ
namespace Go.Δ.Tz
open Go.Δ
variable{u:Nat}
attribute [local simp] exec dT dG eR aH dr ff eH aI fA bQ gX ib iC iL lq KR KV KX KU KS KT wg iH rd wr gL single eU ef κ cH RV.get cJ fF jU qn
inductive yd (bD:List (List Nat×Nat)) (d oE:Nat) (s0:Sc):List δ->Nat->Sc->Prop
 |nil:yd bD d oE s0 [] oE s0
 |snoc {l:List δ} {y:δ} {fr aw:Nat} {s s':Sc} (h1:yd bD d oE s0 l fr s) (h2:eY bD d fr s y aw s'):yd bD d oE s0 (l++[y]) aw s'
theorem yd.bl{bD:List (List Nat×Nat)}{d oE fr:Nat}{s0 s:Sc}{l:List δ}(h:yd bD d oE s0 l fr s):∀{r:List δ} {gV:Nat},aN bD d fr s r gV->aN bD d oE s0 (l++r) gV:=by
 induction h with
 |nil=>exact fun h=>h
 |snoc h1 h2 ih=>
  intro r gV hr
  rw[List.append_assoc];exact ih (.cons h2 hr)
theorem aaa(l:List δ)(y:δ):δ.bO (l++[y])=δ.bO l+y.cnt:=by
 induction l with
 |nil=>simp[δ.bO]
 |cons a l ih=>simp only[List.cons_append,δ.bO,ih];omega
theorem Wm{f:FuncId}{g:AF}{args:List AV}{B B':List θ}{v:AV}(h1:(C u).iX f=none)(h2:(C u).fs f=some g)(h3:(C u).bm f=false)(hl:B'.length=B.length)(hx:args.map (exp B.length false)=args)
  (hr:κ (C u).gl (ah (C u)) g.code {env:=args,loc:=[],mem:= {ε:=B,ζ:=[]}} fun r=>(∀i,r.1≠ .exit i)/\(∃bs T',r.2.mem= {ε:=B'++bs,ζ:=T'}/\∀i∈T',B.length<=i)/\∃l,cH r.2 g.results=some l/\aK r.2.mem.ε B.length 8 (cJ l)=v) (T:List Nat):
  ah (C u) (.fn (.func f) [] []) args {ε:=B,ζ:=T}=some (v,{ε:=B',ζ:=T}):=by
 obtain⟨⟨ex,s'⟩,q1,q2,⟨bs,T',q3,q4⟩,l,q5,q6⟩:=hr;have eJ:([]++args++[]).map (exp B.length false)=args:=by simp only[List.nil_append,de,hx]
 have:ah (C u) (.fn (.func f) [] []) args {ε:=B,ζ:=T}=some (aK s'.mem.ε B.length 8 (cJ l),({ε:=B,ζ:=T}:Mem).back s'.mem):=by
  apply sF;simp only[body,h1,h2,h3,eJ,q1];cases ex with
  |exit i=>exact absurd rfl (q2 i)
  |_=>simp only[fin,q5];rfl
 rw[this];dsimp only at q3 q6;rw[q6,q3];have hb:({ε:=B,ζ:=T}:Mem).back {ε:=B'++bs,ζ:=T'}=({ε:=B',ζ:=T}:Mem).back {ε:=B'++bs,ζ:=T'}:=by simp only[Mem.back,hl]
 rw[hb,QD _ _ _ (fun i hi=>by dsimp only;rw[hl];exact q4 i hi)]
section
variable{B:List θ}{pm ps:Nat}{P:AV}{c:ξ}{bs:List Nat}
noncomputable def Inv(B:List θ)(pm ps:Nat)(P:AV)(c:ξ)(bs:List Nat)(bD:List (List Nat×Nat))(d D om oE n0:Nat)(s0:Sc)(r i:Int)(j:Nat)(z:St):Prop:=
 ∃x n st fr M T c1 c2 c3 c4 s co out,∃l:List δ,SS pm d r i c1 c2 c3 c4 s co out z/\z.mem= {ε:=M,ζ:=T}/\(Kt B pm ps P c bs co out.length st fr n x M/\co.exp 0 false=Φ l)/\(∀i∈T,B.length<=i)/\yd bD d oE s0 l fr s/\bS out (δ.ψ l)/\out.all (shaped true 14)=true∧
  (n0<=n/\n<=n0+1+j*(300+2*D))/\(om<=st/\st<=om+j*(300+2*D))/\(oE<=fr/\fr+min om 40<=oE+min st 40)/\δ.bO l+min om 40<=min st 40/\out.length<=j/\s.size<=2*fr/\(c1= .nil->s.aB=[])/\(c2= .nil->s.cz=[])/\(c3= .nil->s.bits=[])/\(c4= .nil->s.turns=[])
variable(hm:pm<B.length)(hs:ps<B.length)(τ:pm≠ps)(hb:bs.length<=300)
variable{d D om oE n0:Nat}{s0:Sc}{r i:Int}{bD:List (List Nat×Nat)}
variable{cP:ξ}{Ps:List AV}{bF:List φ}(hP:P= .list cP Ps)(lu:bS Ps (bF.map φ.av))(gO:∀y∈bF,y.aq.length<=3)(dQ:bF.length<1000000)(DC:bD=lB bF)
variable(rec:d<5->Bk u pm ps P c bs bD (d+1) D)(oK:d<=5)(uj:n0+1+12*(300+2*D)<500000000000000000)(Vd:om+1+12*(300+2*D)<500000000000000000)(ab7:oE+40<=1000+min om 40)
include hm hs τ hb hP lu gO dQ DC rec oK
theorem ail{co:ξ}{st fr n:Nat}{x:Int}{M:List θ}{q:Nat}{T:List Nat}{c1 c2 c3 c4:ξ}{s:Sc}{out:List AV}{v:Nat}{σ:St}{k:Int}
  (hk:1<=k/\k<=11) (Dn:s.aB=[]->k=2\/k=4\/k=8\/k=10\/k=11) (oQ:d=5->k≠4/\k≠7/\k≠8/\k≠10/\k≠11)
  (Ω:st<=40) (dI:fr+41<=1000+st) (hn:n+300+12*D<500000000000000000) (ni:st+12*D<500000000000000000) (aJ:s.size<=2*fr) (k1:c1= .nil->s.aB=[]) (k2:c2= .nil->s.cz=[]) (k3:c3= .nil->s.bits=[]) (k4:c4= .nil->s.turns=[]) (ho:out.all (shaped true 14)=true) (dq:out.length<1000000)
  (hS:SS pm d r i c1 c2 c3 c4 s co out σ) (hI:SI k q v c1 c2 c3 c4 s σ) (Γ:σ.mem= {ε:=M,ζ:=T}) (hM:MM B pm ps P c bs co out.length st fr n x q (aR k 0 [] ω z4 z4 ω ω) M T):
  κ (C u).gl (ah (C u)) qU σ (Zr B pm ps P c bs bD d D r i c1 c2 c3 c4 s co out st fr n M T):=by
 have hr:k≠2/\k≠4/\k≠8/\k≠10/\k≠11->s.aB≠[]:=fun h e=>by have:=Dn e;omega
 have hd:k=4\/k=7\/k=8\/k=10\/k=11->d<5:=fun h=>by
  rcases Nat.lt_or_ge d 5 with h'|h'
  ·exact h'
  ·have:=oQ (by omega);omega
 have ui:k=1\/k=2\/k=3\/k=4\/k=5\/k=6\/k=7\/k=8\/k=9\/k=10\/k=11:=by omega
 rcases ui with rfl|rfl|rfl|rfl|rfl|rfl|rfl|rfl|rfl|rfl|rfl
 ·exact aiq hm hs τ hb Ω dI hn ni aJ k1 k2 k3 k4 ho dq (hr (by omega)) hS hI Γ hM
 ·exact ait hm hs τ hb Ω dI hn ni aJ k1 k2 k3 k4 ho dq hS hI Γ hM
 ·exact aip hm hs τ hb Ω dI hn ni aJ k1 k2 k3 k4 ho dq hS hI Γ hM
 ·exact aim hm hs τ hb Ω dI hn ni aJ k1 k2 k3 k4 ho dq (rec (hd (by omega))) (hd (by omega)) hS hI Γ hM
 ·exact air hm hs τ hb Ω dI hn ni aJ k1 k2 k3 k4 ho dq (hr (by omega)) hS hI Γ hM
 ·exact aio hm hs τ hb Ω dI hn ni aJ k1 k2 k3 k4 ho dq (hr (by omega)) hS hI Γ hM
 ·exact aiv hm hs τ hb Ω dI hn ni aJ k1 k2 k3 k4 ho dq (rec (hd (by omega))) (hd (by omega)) hS hI Γ hM
 ·exact ais hm hs τ hb Ω dI hn ni aJ k1 k2 k3 k4 ho dq (rec (hd (by omega))) (hd (by omega)) hS hI Γ hM
 ·exact ain hm hs τ hb Ω dI hn ni aJ k1 k2 k3 k4 ho dq hP lu gO dQ DC (hr (by omega)) hS hI Γ hM
 ·exact aiu hm hs τ hb Ω dI hn ni aJ k1 k2 k3 k4 ho dq (rec (hd (by omega))) (hd (by omega)) hS hI Γ hM
 ·exact aiw hm hs τ hb Ω dI hn ni aJ k1 k2 k3 k4 ho dq (rec (hd (by omega))) (hd (by omega)) hS hI Γ hM
include uj Vd ab7
theorem Zq{j:Nat}(hj:j<4){σ:St}(hI:Inv B pm ps P c bs bD d D om oE n0 s0 r i j σ):
  κ (C u).gl (ah (C u)) (.seq Ix (.seq Iw (.seq tc (.seq Iy (.seq Io qU))))) σ fun z=>(z.1= .exit 0\/z.1= .exit 1\/z.1= .normal)/\Inv B pm ps P c bs bD d D om oE n0 s0 r i (j+1) z.2:=by
 obtain⟨x,n,st,fr,M,T,c1,c2,c3,c4,s,co,out,l,hS,Γ,⟨hK,cI⟩,hT,zc,fB,ej,hn,Ω,dI,oI,U0,aJ,k1,k2,k3,k4⟩:=hI;obtain⟨E,hE⟩:∃E,E=300+2*D:=⟨_,rfl⟩;have hjE:j*E<=4*E:=mq _ (by omega);have HO:(j+1)*E=j*E+E:=Nat.succ_mul j E;rw[<-hE]at hn Ω uj Vd;refine bP (fun z=>st<40/\SS pm d r i c1 c2 c3 c4 s co out z/\z.mem= {ε:=M.set pm (.cells (bK ps P (st+1:Nat) fr)),ζ:=T}) (κ.mono (ahn (u:=u) hS Γ hK.ms (by omega)) fun z ⟨hz,h1,h2⟩=>?_) fun z ⟨χ,h1,h2⟩=>?_
 ·rcases hz with⟨e,Mh⟩|⟨e,χ⟩
  ·refine .inr ⟨by rw[e];simp,.inl e,x,n,st+1,fr,_,T,c1,c2,c3,c4,s,co,out,l,h1,h2,⟨hK.ma τ (st+1) fr,cI⟩,hT,zc,fB,ej,?_,?_,by omega,by omega,by omega,aJ,k1,k2,k3,k4⟩<;>rw[<-hE,HO]<;>omega
  ·exact .inl ⟨e,χ,h1,h2⟩
 have K1:=hK.ma τ (st+1) fr;generalize M.set pm (.cells (bK ps P (st+1:Nat) fr))=M1 at h2 K1;refine bP (fun z=>∃x' n' k,(n<=n'/\n'<=n+1)/\(1<=k/\k<=11)/\SS pm d r i c1 c2 c3 c4 s co out z/\z.mem= {ε:=M1.set ps (.cells (aG c bs n' x')),ζ:=T}/\z.e 8= .n k) (κ.mono (ahl (u:=u) hb h1 h2 K1.ms (by omega)) fun z hz=> .inl hz) fun z ⟨x2,n2,k,b1,b2,h1,h2,h3⟩=>?_;have K2:=K1.draw τ n2 x2;generalize M1.set ps (.cells (aG c bs n2 x2))=M2 at h2 K2;obtain⟨hk,Dn,oQ⟩:=Z6 d s.aB.isEmpty k b2;refine bP (fun z=>SS pm d r i c1 c2 c3 c4 s co out z/\z.mem= {ε:=M2,ζ:=T}/\z.e 8= .n (iO d s.aB.isEmpty k)) (κ.mono (ahg (u:=u) b2 h1 h3) fun z ⟨e1,e2,e3,e4⟩=> .inl ⟨e1,e2,by rw[e3,h2],e4⟩) fun z ⟨h1,h2,h3⟩=>?_;generalize iO d s.aB.isEmpty k=kk at*;obtain⟨σ1,q1,g1,g2,g3,g4⟩:=ahf (u:=u) h1 h3 h2;refine κ.go q1 ?_;obtain⟨σ2,q2,f1,⟨v,f2⟩,f3⟩:=ahm (u:=u) g1 g2 g3 g4;refine κ.go q2 ?_;have Qf:MM B pm ps P c bs co out.length (st+1) fr n2 x2 M2.length (aR kk 0 [] ω z4 z4 ω ω) (M2++[.cells (aR kk 0 [] ω z4 z4 ω ω)]) T:=⟨K2.push _,K2.len,by simp,hT⟩;refine κ.mono (ail (u:=u) hm hs τ hb hP lu gO dQ DC rec oK hk (fun e=>Dn (by rw[e];rfl)) (fun e=>oQ (by omega)) (by omega) (by omega) (by omega) (by omega) aJ k1 k2 k3 k4 ej (by omega) f1 f2 f3 Qf) fun z hz=>?_;rcases hz with⟨e,y1,y2⟩|⟨e,x',n',aL,aw,M',T',gT,gU,lr,lV,s2,fo,L,y,y1,y2,⟨y3,yc⟩,y4,y5,y6,y7,y8,y9,y10,y11,y12,y13,y14,y15,y16⟩
 ·refine⟨.inr (.inl e),x2,n2,st+1,fr,_,T,c1,c2,c3,c4,s,co,out,l,y1,y2,⟨Qf.kt,cI⟩,hT,zc,fB,ej,?_,?_,by omega,by omega,by omega,aJ,k1,k2,k3,k4⟩<;>rw[<-hE,HO]<;>omega
 ·have hlen:(out++[AV.agg L]).length=out.length+1:=by simp
  refine⟨.inr (.inr e),x',n',aL,aw,M',T',gT,gU,lr,lV,s2,fo,out++[.agg L],l++[y],y1,y2,⟨by rw[hlen];exact y3,by rw[yc];cases l<;>rfl⟩,y4,zc.snoc y5,?_,?_,?_,?_,by omega,by rw[aaa];omega,by rw[hlen];omega,y12,y13,y14,y15,y16⟩
  ·rw[δ.eM,jT,<-δ.eM];exact fB.append (.cons y6 .nil)
  ·rw[alU,ej];simp[shaped,y7]
  ·rw[<-hE,HO];omega
  ·rw[<-hE,HO];omega
end
theorem SU{pm ps:Nat}{P:AV}{c:ξ}{bs:List Nat}(τ:pm≠ps)(hb:bs.length<=300){cP:ξ}{Ps:List AV}{bF:List φ}(hP:P= .list cP Ps)(lu:bS Ps (bF.map φ.av))(gO:∀y∈bF,y.aq.length<=3)(dQ:bF.length<1000000)(d D:Nat)(oK:d<=5)(rec:d<5->Bk u pm ps P c bs (lB bF) (d+1) D):Bk u pm ps P c bs (lB bF) d (1+4*(300+2*D)):=by
 intro M st fr n x c1 c2 c3 c4 s hM hn Ω dI aJ k1 k3 k4;have hm:=hM.xQ;have hs:=hM.v_;have yO:∀cc:ξ,cc.exp 0 false= .nil->cc= .nil:=fun cc h=>by cases cc<;>simp[ξ.exp]at h<;>rfl
 have hr:κ (C u).gl (ah (C u)) Kq {env:=[.μ pm 0,.n (d:Int),.agg (gJ (c1.exp 0 false) (c2.exp 0 false) (c3.exp 0 false) (c4.exp 0 false) s)],loc:=[],mem:= {ε:=M,ζ:=[]}} fun z=>z.1= .ret/\∃x' n' aL aw M' T' co out,∃l:List δ,∃s',z.2.mem= {ε:=M',ζ:=T'}/\aI z.2.env 6= .list co out/\(Kt M pm ps P c bs co out.length aL aw n' x' M'/\co.exp 0 false=Φ l)/\(∀i∈T',M.length<=i)/\yd (lB bF) d fr s.inner l aw s'/\bS out (δ.ψ l)∧
   (n<=n'/\n'<=n+1+4*(300+2*D))/\(st<=aL/\aL<=st+4*(300+2*D))/\(fr<=aw/\aw+min st 40<=fr+min aL 40)/\δ.bO l+min st 40<=min aL 40:=by
  have uc:(c1.exp 0 false)= .nil->s.inner.aB=[]:=fun h=>k1 (yO c1 h);have Ui:(c3.exp 0 false)= .nil->s.inner.bits=[]:=fun h=>k3 (yO c3 h);have MG:(c4.exp 0 false)= .nil->s.inner.turns=[]:=fun h=>k4 (yO c4 h);generalize c1.exp 0 false=c1 at*;generalize c2.exp 0 false=c2 at*;generalize c3.exp 0 false=c3 at*;generalize c4.exp 0 false=c4 at*;have ajs:dd (gJ c1 c2 c3 c4 s) 1 [.list .nil []]=gJ c1 .nil c3 c4 s.inner:=rfl;obtain⟨x2,r,n2,b1,b2,b3,b4,-,kC⟩:=BO (u:=u) hM hb 5 (by omega);have b4:=b4 (by omega);obtain⟨r,rfl⟩:∃j:Nat,r=j:=⟨r.toNat,by omega⟩;have hg:M[pm]?=some (.cells (bK ps P st fr)):=hM.m;unfold Kq;refine Θ (fun z=>(z.e 0= .μ pm 0/\z.e 1= .n (d:Int))/\(z.e 5= .aj 5 0 0/\z.q 5=some (0,.cells (gJ c1 c2 c3 c4 s)))/\z.mem= {ε:=M,ζ:=[]}) (by simp[newVar,bL,iI]) fun z ⟨⟨h0,h1⟩,⟨h5,l5⟩,Γ⟩=>?_;refine Θ (fun z=>(z.e 0= .μ pm 0/\z.e 1= .n (d:Int))/\(z.e 5= .aj 5 0 0/\z.q 5=some (0,.cells (gJ c1 .nil c3 c4 s.inner)))/\z.mem= {ε:=M,ζ:=[]}) (by simp[h0,h1,h5,l5,Γ,iI,ajs]) fun z ⟨⟨h0,h1⟩,⟨h5,l5⟩,Γ⟩=>?_;refine Θ (fun z=>(z.e 0= .μ pm 0/\z.e 1= .n (d:Int))/\(z.e 5= .aj 5 0 0/\z.q 5=some (0,.cells (gJ c1 .nil c3 c4 s.inner)))/\z.mem= {ε:=M,ζ:=[]}/\z.e 7= .list .nil []) (by simp[h0,h1,h5,l5,Γ]) fun z ⟨⟨h0,h1⟩,⟨h5,l5⟩,Γ,h7⟩=>?_;refine bP (fun z=>∃i j,j<=4/\Inv M pm ps P c bs (lB bF) d D st fr n s.inner (r:Int) i j z) ?_ fun z ⟨i,j,hj,hI⟩=>?_
  ·refine Θ (fun z=>SS pm d r 0 c1 .nil c3 c4 s.inner .nil [] z/\z.mem= {ε:=M.set ps (.cells (aG c bs n2 x2)),ζ:=[]}) (by simp[SS,h0,h1,h5,l5,h7,Γ,hg,bK,kC]) fun z ⟨hS,Γ⟩=>?_;have K0:Kt M pm ps P c bs .nil 0 st fr n x M:=⟨hM,fun _ _ _ _=>rfl,bA _,Go.Δ.Row.nil⟩;have K1:=K0.draw τ n2 x2;have qx:s.inner.size<=s.size:=by simp[Sc.size,Sc.inner]
   refine κ.block (κ.kD (I:=fun j z=>Inv M pm ps P c bs (lB bF) d D st fr n s.inner (r:Int) (j:Int) j z) r ⟨x2,n2,st,fr,_,[],c1,.nil,c3,c4,s.inner,.nil,[],[],hS,Γ,⟨K1,rfl⟩,by simp,.nil,.nil,rfl,by omega,by omega,by omega,by simp[δ.bO],by simp,by omega,uc,fun _=>rfl,Ui,MG⟩ fun j z hj hI=>?_);unfold VD;have sL:=hI;obtain⟨x,n',aL,aw,M',T',gT,gU,lr,lV,s',co,out,l,hS,Γ,pS⟩:=sL;obtain⟨h0,h1,h5,l5,h7,ba,bj⟩:=hS;by_cases Dk:j<r
   ·have lL:(j:Int)<r:=by omega
    have nQ:bC .i64 ((j:Int)+1)=(j:Int)+1:=wrap_i64 (by omega) (by omega);refine Θ (fun z=>Inv M pm ps P c bs (lB bF) d D st fr n s.inner (r:Int) (j:Int) j z/\z.e 20= .bool true) ?_ fun z ⟨hI,yE⟩=>?_
    ·exact wM (P:=fun z=>(SS pm d r j gT gU lr lV s' co out z/\z.mem= {ε:=M',ζ:=T'})/\z.e 20= .bool true) (by simp[SS,h0,h1,h5,l5,h7,ba,bj,Γ,lL,Dk]) fun z ⟨⟨y1,y2⟩,y3⟩=>⟨⟨x,n',aL,aw,M',T',gT,gU,lr,lV,s',co,out,l,y1,y2,pS⟩,y3⟩
    refine κ.go (s':=z) (by simp[yE]) ?_;refine bP (fun z=>Inv M pm ps P c bs (lB bF) d D st fr n s.inner (r:Int) (j:Int) (j+1) z) (κ.block (κ.mono (Zq (u:=u) hm hs τ hb hP lu gO dQ rfl rec oK (by omega) (by omega) dI (by omega) hI) fun z ⟨hz,hI⟩=>?_)) fun z hI=>?_
    ·rcases hz with e|e|e
     ·exact .inr ⟨by rw[e];simp,.inr ⟨by rw[e];simp,.inr ⟨by rw[e];simp,.inl ⟨e,.inl ⟨rfl,_,j+1,by omega,hI⟩⟩⟩⟩⟩
     ·exact .inl ⟨e,.inl ⟨rfl,hI⟩⟩
     ·exact .inr ⟨by rw[e];simp,.inl ⟨e,hI⟩⟩
    ·obtain⟨x,n',aL,aw,M',T',gT,gU,lr,lV,s',co,out,l,hS,Γ,pS⟩:=hI;obtain⟨h0,h1,h5,l5,h7,ba,bj⟩:=hS;refine κ.done .normal (fun z=>SS pm d r ((j:Int)+1) gT gU lr lV s' co out z/\z.mem= {ε:=M',ζ:=T'}) (by simp[SS,h0,h1,h5,l5,h7,ba,bj,Γ,nQ]) fun z ⟨y1,y2⟩=> .inl ⟨rfl,Dk,x,n',aL,aw,M',T',gT,gU,lr,lV,s',co,out,l,by simpa using y1,y2,pS⟩
   ·have lL:¬(j:Int)<r:=by omega
    refine κ.done (.exit 0) (fun z=>SS pm d r j gT gU lr lV s' co out z/\z.mem= {ε:=M',ζ:=T'}) (by simp[SS,h0,h1,h5,l5,h7,ba,bj,Γ,lL]) fun z ⟨y1,y2⟩=> .inr ⟨by simp,.inl ⟨rfl,.inl ⟨rfl,_,j,by omega,x,n',aL,aw,M',T',gT,gU,lr,lV,s',co,out,l,y1,y2,pS⟩⟩⟩
  ·obtain⟨x,n',aL,aw,M',T',gT,gU,lr,lV,s',co,out,l,⟨h0,h1,h5,l5,h7,ba,bj⟩,Γ,hK,hT,zc,fB,ej,gF,NR,ab6,oI,-⟩:=hI;have hjE:j*(300+2*D)<=4*(300+2*D):=mq _ hj;generalize hE:j*(300+2*D)=E at*;refine κ.done .ret (fun z=>z.mem= {ε:=M',ζ:=T'}/\z.e 6= .list co out) (by simp[h7,Γ]) fun z ⟨y1,y2⟩=>⟨rfl,x,n',aL,aw,M',T',co,out,l,s',y1,y2,hK,hT,zc,fB,by omega,by omega,by omega,by omega⟩
 obtain⟨z,hx,e,x',n',aL,aw,M',T',co,out,l,s',Γ,h6,⟨hK,cI⟩,hT,zc,fB,gF,NR,ab6,oI⟩:=hr;have Hu:Dv (.list co out) (.list (co.exp 0 false) (δ.ψ l)):=Dv.list co fB;have Mr:M'=(M.set pm (.cells (bK ps P (aL:Nat) aw))).set ps (.cells (aG c bs n' x'))++M'.drop M.length:=by
  have h1:M'.take M.length=(M.set pm (.cells (bK ps P (aL:Nat) aw))).set ps (.cells (aG c bs n' x')):=by
   apply alV;intro i;by_cases hi:i<M.length
   ·rw[J0 hi];by_cases h2:i=ps
    ·subst h2;rw[hK.ms.s];simp[hs]
    ·rw[gR (Ne.symm h2)];by_cases h3:i=pm
     ·subst h3;rw[hK.ms.m];simp[hm]
     ·rw[gR (Ne.symm h3)];exact hK.od i hi h3 h2
   ·rw[hU (by simp;omega),hU (by simp;omega)]
  rw[<-h1,B0]
 refine⟨x',n',aL,aw,co.exp 0 false,l,by omega,by omega,by omega,?_,oI,cI,Hu.self,fun T=>?_⟩
 ·have:=zc.bl (r:=[]) .nil;rwa[de]at this
 ·try unfold kf
  rw[FG (args':=[.μ pm 0,.n (d:Int),.agg (gJ (c1.exp 0 false) (c2.exp 0 false) (c3.exp 0 false) (c4.exp 0 false) s)]) (by rfl) (by simp only[gJ,aA,aP,CI,vb,exp,bn]) (by rfl)];refine Wm (u:=u) (g:=Gc) rfl rfl rfl (by simp) (by simp only[gJ,aA,aP,CI,vb,exp,bn,hm,if_true]) ⟨z,hx,fun i=>by rw[e];simp,⟨_,T',by rw[Γ,<-Mr],hT⟩,[.list co out],by simp[Gc,h6],?_⟩ T;rw[Γ];exact Hu.aK _ _ _
theorem f122{pm ps:Nat}{P:AV}{c:ξ}{bs:List Nat}(τ:pm≠ps)(hb:bs.length<=300){cP:ξ}{Ps:List AV}{bF:List φ}(hP:P= .list cP Ps)(lu:bS Ps (bF.map φ.av))(gO:∀y∈bF,y.aq.length<=3)(dQ:bF.length<1000000):∀e d,d+e=5->Bk u pm ps P c bs (lB bF) d (yw (e+1)):=by
 intro e;induction e with
 |zero=>intro d hd;exact SU τ hb hP lu gO dQ d (yw 0) (by omega) fun h=>by omega
 |succ e ih=>intro d hd;exact SU τ hb hP lu gO dQ d (yw (e+1)) (by omega) fun _=>ih (d+1) (by omega)
end Go.Δ.Tz
namespace Go.Δ
theorem Row.Ho{n:Nat}{M M':List θ}{sz eQ:Nat}{e e':TypeId}{c:ξ}{k len:Nat}(τ:¬(sz=eQ/\e=e'))(h:Row n M sz e c k)(hM:M'=M++[.front 1 eQ e']\/∃t,n<=t/\M[t]?=some (.front len eQ e')/\M'=M.set t (.front (len+1) eQ e')):Row n M' sz e c k:=
 h.bm fun t k ht=>by
  rcases hM with rfl|⟨t',h1,h2,rfl⟩
  ·rw[eo (fu.1 ht).1];exact ht
  ·have:t'≠t:=fun e=>by rw[e,ht]at h2;cases h2;exact τ ⟨rfl,rfl⟩
   rw[gR this];exact ht
end Go.Δ
namespace Go.Δ.Tz
open Go.Δ
variable{u:Nat}
attribute [local simp] exec dT dG eR aH dr ff eH aI fA bQ gX ib iC iL lq KR KV KX KU KS KT wg iH rd wr gL single eU ef κ cH RV.get cJ fF jU qn
theorem Wo{ps:Nat}{P:AV}{st:Int}{fr:Nat}:(bK ps P st fr).tail.take 1=[P]:=rfl
theorem af0{ps:Nat}{P:AV}{st:Int}{fr:Nat}(P':AV):dd (bK ps P st fr) 1 [P']=bK ps P' st fr:=rfl
theorem ahx(l:List ay):(l.map ay.av).all (shaped true 2)=true:=by rw[List.all_eq_true];intro y hy;obtain⟨p,-,rfl⟩:=List.mem_map.1 hy;rfl
theorem ay.dv(p:ay):Dv p.av p.av:= .agg (.cons (.str _) (.cons (.int _ _) .nil))
structure Km (B:List θ) (pm ps:Nat) (P:AV) (c:ξ) (bs:List Nat) (st fr n:Nat) (x:Int) (M:List θ) (T:List Nat):Prop where
 ms:MS pm ps P c bs st fr n x M
 od:∀i,i<B.length->i≠ps->M[i]?=B[i]?
 len:B.length<=M.length
 tt:∀i∈T,B.length<=i
section
variable{B:List θ}{pm ps:Nat}{P:AV}{c:ξ}{bs:List Nat}{st fr n:Nat}{x:Int}{M:List θ}{T:List Nat}
theorem Km.draw(h:Km B pm ps P c bs st fr n x M T)(τ:pm≠ps)(n':Nat)(x':Int):Km B pm ps P c bs st fr n' x' (M.set ps (.cells (aG c bs n' x'))) T:=
 ⟨h.ms.draw τ n' x',fun i h1 h2=>by rw[gR (Ne.symm h2)];exact h.od i h1 h2,by simpa using h.len,h.tt⟩
theorem Km.ma(h:Km B pm ps P c bs st fr n x M T)(τ:pm≠ps)(hm:B.length<=pm)(aL aw:Nat):Km B pm ps P c bs aL aw n x (M.set pm (.cells (bK ps P aL aw))) T:=
 ⟨h.ms.ma τ aL aw,fun i h1 h2=>by rw[gR (by omega)];exact h.od i h1 h2,by simpa using h.len,h.tt⟩
theorem Km.procs(h:Km B pm ps P c bs st fr n x M T)(τ:pm≠ps)(hm:B.length<=pm)(P':AV)(b:Bool):Km B pm ps P' c bs st fr n x (M.set pm (.cells (bK ps P' st fr))) (if b then T else pm::T):=
 ⟨⟨by simp[h.ms.xQ],by rw[gR τ];exact h.ms.s⟩,fun i h1 h2=>by rw[gR (by omega)];exact h.od i h1 h2,by simpa using h.len,by
  cases b with
  |true=>exact h.tt
  |false=>
   intro i hi
   rcases List.mem_cons.1 hi with rfl|hi
   ·exact hm
   ·exact h.tt i hi⟩
theorem Km.grow(h:Km B pm ps P c bs st fr n x M T)(hs:ps<B.length){sz:Nat}{e:TypeId}{M':List θ}{len:Nat}
  (hM:M'=M++[.front 1 sz e]\/∃t,B.length<=t/\M[t]?=some (.front len sz e)/\M'=M.set t (.front (len+1) sz e)):Km B pm ps P c bs st fr n x M' T:=by
 rcases hM with rfl|⟨t,h1,h2,rfl⟩
 ·exact⟨h.ms.push _,fun i a b=>by rw[eo (Nat.lt_of_lt_of_le a h.len)];exact h.od i a b,by have:=h.len;simp;omega,h.tt⟩
 ·have h3:t≠pm:=fun e=>by rw[e,h.ms.m]at h2;cases h2
  exact⟨h.ms.put h3 (by omega) _,fun i a b=>by rw[gR (by omega)];exact h.od i a b,by simpa using h.len,h.tt⟩
theorem zJ{N:Nat}{sz:Nat}{e:TypeId}{cp:ξ}{k:Nat}(h:Go.Δ.Row N M sz e cp k)(ms:MS pm ps P c bs st fr n x M)(b:θ):Go.Δ.Row N (M.set pm b) sz e cp k:=PB h ms.m b
theorem Km.both(h:Km B pm ps P c bs st fr n x M T)(τ:pm≠ps)(hm:B.length<=pm)(aL aw n':Nat)(x':Int):Km B pm ps P c bs aL aw n' x' ((M.set pm (.cells (bK ps P aL aw))).set ps (.cells (aG c bs n' x'))) T:=(h.ma τ hm aL aw).draw τ n' x'
end
def SM(pm ps:Nat)(r i:Int)(σ:St):Prop:=σ.e 0= .μ ps 0/\σ.e 2= .aj 2 0 0/\σ.q 2=some (0,.cells [ω])/\σ.e 3= .μ pm 0/\σ.e 11= .n r/\σ.e 12= .n i
def SP(w4 w5:Nat)(nm:List Nat)(cp:ξ)(l:List ay)(cr:ξ)(σ:St):Prop:=σ.e 4= .aj 4 w4 0/\σ.q 4=some (w4,.cells [.str nm,.list cp (l.map ay.av),ω])/\σ.e 5= .aj 5 w5 0/\σ.q 5=some (w5,.cells [aX cr (l.map ay.name),ω,ω,ω])
section
variable{B:List θ}{pm ps:Nat}{c:ξ}{bs:List Nat}(hs:ps<B.length)(τ:pm≠ps)(hm:B.length<=pm)(hb:bs.length<=300)
include hs τ hm hb
theorem ahv{cP:ξ}{Ps:List AV}{st fr n:Nat}{x:Int}{M:List θ}{T:List Nat}{r i:Int}{w4 w5:Nat}{nm:List Nat}{k:Nat}(hk:k<=2){σ:St}(hS:SM pm ps r i σ)(hP:SP w4 w5 nm .nil [] .nil σ)(Γ:σ.mem= {ε:=M,ζ:=T})(hM:Km B pm ps (.list cP Ps) c bs st fr n x M T)(hR:Go.Δ.Row B.length M 3 70 cP Ps.length)(hn:n<1000000000000000000)(dI:fr<1000000)
  (ba:σ.e 18= .n (k:Int)) (bj:σ.e 19= .n 0):
  κ (C u).gl (ah (C u)) (.block 2 (.loop OA)) σ fun z=>z.1= .normal/\∃x' n' M' cp cr,∃l:List ay,(n<=n'/\n'<=n+2)/\SM pm ps r i z.2/\SP w4 w5 nm cp l cr z.2/\z.2.mem= {ε:=M',ζ:=T}/\Km B pm ps (.list cP Ps) c bs st (fr+k) n' x' M' T/\Go.Δ.Row B.length M' 3 70 cP Ps.length/\l.length=k/\(∀j (h:j<l.length),l[j].name=bR [113] (fr+1+j)/\1<=l[j].size/\l[j].size<=12)/\cp.exp 0 false=Φ l/\(cr= .nil->l=[]):=by
 let I:Nat->St->Prop:=fun j z=>∃x' n' M' cp cr,∃l:List ay,(n<=n'/\n'<=n+j)/\SM pm ps r i z/\SP w4 w5 nm cp l cr z/\z.mem= {ε:=M',ζ:=T}/\Km B pm ps (.list cP Ps) c bs st (fr+j) n' x' M' T/\Go.Δ.Row B.length M' 3 70 cP Ps.length/\l.length=j/\(∀j (h:j<l.length),l[j].name=bR [113] (fr+1+j)/\1<=l[j].size/\l[j].size<=12)∧
  cp.exp 0 false=Φ l/\Go.Δ.Row B.length M' 2 76 cp l.length/\Go.Δ.Row B.length M' 1 9 cr l.length/\z.e 18= .n (k:Int)/\z.e 19= .n (j:Int)
 refine κ.block (κ.kD (I:=I) k ⟨x,n,M,.nil,.nil,[],by omega,hS,hP,Γ,hM,hR,rfl,fun j h=>(by cases h),rfl,Go.Δ.Row.nil,Go.Δ.Row.nil,ba,by simpa using bj⟩ fun j z hj ⟨x',n',M',cp,cr,l,b1,hS,hP,Γ,hM,hR,hl,jv,mE,hRp,TP,ba,bj⟩=>?_);obtain⟨h0,h2,l2,h3,bp,bY⟩:=hS;obtain⟨h4,l4,h5,l5⟩:=hP;unfold OA;by_cases HS:j<k
 ·have lL:(j:Int)<k:=by omega
  have nQ:bC .i64 ((j:Int)+1)=(j:Int)+1:=wrap_i64 (by omega) (by omega);have ns:=BN (u:=u) hM.ms τ (by omega) [113] (by decide);have M1:=hM.ma τ hm st (fr+j+1);have Ra:=zJ hR hM.ms (.cells (bK ps (.list cP Ps) st (fr+j+1:Nat)));have Rb:=zJ hRp hM.ms (.cells (bK ps (.list cP Ps) st (fr+j+1:Nat)));have Rc:=zJ TP hM.ms (.cells (bK ps (.list cP Ps) st (fr+j+1:Nat)));generalize M'.set pm (.cells (bK ps (.list cP Ps) st (fr+j+1:Nat)))=N1 at ns M1 Ra Rb Rc;obtain⟨x2,sz,n2,d1,d2,d3,d4,uN⟩:=JI (u:=u) M1.ms hb 1 12 (by omega) (by omega) (by omega) (by omega);have M2:=M1.draw τ n2 x2;have Ra:=zI Ra M1.ms (.cells (aG c bs n2 x2));have Rb:=zI Rb M1.ms (.cells (aG c bs n2 x2));have Rc:=zI Rc M1.ms (.cells (aG c bs n2 x2));generalize N1.set ps (.cells (aG c bs n2 x2))=N2 at uN M2 Ra Rb Rc;generalize jW:bR [113] (fr+j+1)=w at*;let p:ay:=⟨w,sz⟩;have hpa:p.av= .agg [.str w,.n sz]:=rfl;obtain⟨sE,N3,dO,Rb,abV,yH⟩:=yi (bytes:=24) (pl:=l.map ay.av) (v:=p.av) (ag:=true) (by rw[cF];exact Rb) M2.len (ahx l) rfl (ay.dv p).ν (by omega) (by rw[cF];omega) (by rw[cF];omega);have M3:=M2.grow hs yH;have Ra:=Ra.Ho (by omega) yH;have Rc:=Rc.Ho (by omega) yH;obtain⟨Cv,N4,vk,Rc,akN,Ms⟩:=yi (bytes:=16) (pl:=(l.map ay.name).map AV.str) (v:= .str w) (ag:=false) (by rw[cF,cF];exact Rc) M3.len (Jv _) rfl rfl (by omega) (by rw[cF,cF];omega) (by rw[cF,cF];omega);have M4:=M3.grow hs Ms;have Ra:=Ra.Ho (by omega) Ms;have Rb:=Rb.Ho (by omega) Ms;have TZ:∀T,gA {ε:=N3,ζ:=T} false 1 16 9 (aX cr (l.map ay.name)) (.list .full [.str w])=some (aX Cv ((l++[p]).map ay.name),{ε:=N4,ζ:=T}):=by intro T;simp only[aX,jT,aA,aP]at vk⊢;exact vk T
  have C3:∀T,gA {ε:=N2,ζ:=T} true 2 24 76 (.list cp (l.map ay.av)) (.list .full [.agg [.str w,.n sz]])=some (.list sE ((l++[p]).map ay.av),{ε:=N3,ζ:=T}):=by intro T;rw[jT,aA,aP];exact dO T
  refine Θ (fun z=>z.e 20= .bool true/\SM pm ps r i z/\SP w4 w5 nm cp l cr z/\z.mem= {ε:=M',ζ:=T}/\z.e 18= .n (k:Int)/\z.e 19= .n (j:Int)) (by simp[SM,SP,h0,h2,l2,h3,bp,bY,h4,l4,h5,l5,ba,bj,Γ,lL,HS]) fun z ⟨yE,⟨h0,h2,l2,h3,bp,bY⟩,⟨h4,l4,h5,l5⟩,Γ,ba,bj⟩=>?_;refine κ.go (s':=z) (by simp[yE]) ?_;refine bP (fun z=>SM pm ps r i z/\SP w4 w5 nm sE (l++[p]) Cv z/\z.mem= {ε:=N4,ζ:=T}/\z.e 18= .n (k:Int)/\z.e 19= .n (j:Int)) (κ.block ?_) fun z ⟨⟨h0,h2,l2,h3,bp,bY⟩,⟨h4,l4,h5,l5⟩,Γ,ba,bj⟩=>?_
  ·refine Θ (fun z=>(∃w6,z.e 6= .aj 6 w6 0/\z.q 6=some (w6,.cells [.str w,.n sz]))/\SM pm ps r i z/\SP w4 w5 nm cp l cr z/\z.mem= {ε:=N2,ζ:=T}/\z.e 18= .n (k:Int)/\z.e 19= .n (j:Int)) (by
    generalize hw:bL (bQ z.loc) 6=w6
    simp[SM,SP,h0,h2,l2,h3,bp,bY,h4,l4,h5,l5,ba,bj,Γ,ns,uN,newVar,hw,dp,dd]) fun z ⟨⟨w6,h6,l6⟩,⟨h0,h2,l2,h3,bp,bY⟩,⟨h4,l4,h5,l5⟩,Γ,ba,bj⟩=>?_
   refine κ.done .normal (fun z=>SM pm ps r i z/\SP w4 w5 nm sE (l++[p]) Cv z/\z.mem= {ε:=N4,ζ:=T}/\z.e 18= .n (k:Int)/\z.e 19= .n (j:Int)) (by
    simp only[SM,SP]
    generalize(l++[p]).map ay.av=L1 at C3⊢;generalize(l++[p]).map ay.name=L2 at TZ⊢;simp[h0,h2,l2,h3,bp,bY,h4,l4,h5,l5,h6,l6,ba,bj,Γ,C3,TZ,shaped,AV.one,Mem.ν,ν,cL,cZ,c8,dd,wg]) fun z hz=> .inr ⟨by simp,.inl ⟨rfl,hz⟩⟩
  ·refine κ.done .normal (fun z=>SM pm ps r i z/\SP w4 w5 nm sE (l++[p]) Cv z/\z.mem= {ε:=N4,ζ:=T}/\z.e 18= .n (k:Int)/\z.e 19= .n ((j:Int)+1)) (by simp[SM,SP,h0,h2,l2,h3,bp,bY,h4,l4,h5,l5,ba,bj,Γ,nQ]) fun z ⟨y1,y2,y3,y4,y5⟩=> .inl ⟨rfl,HS,x2,n2,N4,sE,Cv,l++[p],by omega,y1,y2,y3,M4,Ra,by simp[hl],?_,(by rw[abV];cases l<;>rfl),by simpa using Rb,by simpa using Rc,y4,by rw[y5];simp⟩;intro j' dJ;by_cases χ:j'<l.length
   ·rw[List.getElem_append_left χ];exact jv j' χ
   ·have:j'=l.length:=by simp at dJ;omega
    subst this;rw[List.getElem_append_right (bA _)];simp only[Nat.sub_self,List.getElem_cons_zero];exact⟨by show w=_;rw[<-jW,hl];congr 1;omega,d3,d4⟩
 ·have lL:¬(j:Int)<k:=by omega
  obtain rfl:j=k:=by omega
  have ZW:∀{cc:ξ} {sz:Nat} {e:TypeId},Go.Δ.Row B.length M' sz e cc l.length->cc= .nil->l=[]:=fun h e=>by
   subst e;rcases h with⟨_,h⟩|⟨t,h,_⟩
   ·exact List.eq_nil_of_length_eq_zero h
   ·cases h
  exact κ.done (.exit 2) (fun z=>SM pm ps r i z/\SP w4 w5 nm cp l cr z/\z.mem= {ε:=M',ζ:=T}) (by simp[SM,SP,h0,h2,l2,h3,bp,bY,h4,l4,h5,l5,ba,bj,Γ]) fun z ⟨y1,y2,y3⟩=> .inr ⟨by simp,.inl ⟨rfl,rfl,x',n',M',cp,cr,l,by omega,y1,y2,y3,hM,hR,hl,jv,mE,ZW TP⟩⟩
end
def z7(B:List θ)(pm ps:Nat)(c:ξ)(bs:List Nat)(n0:Nat)(r i:Int)(j:Nat)(z:St):Prop:=
 ∃x n st fr M T cP Ps,∃bF:List φ,SM pm ps r i z/\z.mem= {ε:=M,ζ:=T}/\Km B pm ps (.list cP Ps) c bs st fr n x M T/\Go.Δ.Row B.length M 3 70 cP Ps.length/\bS Ps (bF.map φ.av)/\Ps.all (shaped true 3)=true/\gj bF fr/\bF.length=j/\fr<=43*j/\(n0<=n/\n<=n0+1+j*500000000)/\(∀y∈bF,y.aq.length<=3)
theorem aap:yw 5<=400000000:=by simp[yw]
section
variable{B:List θ}{pm ps:Nat}{c:ξ}{bs:List Nat}(hs:ps<B.length)(τ:pm≠ps)(hm:B.length<=pm)(hb:bs.length<=300)
include hs τ hm hb
theorem Zs{n0:Nat}(uj:n0<1000000000000){r i:Int}{j:Nat}(hj:j<4){σ:St}(hI:z7 B pm ps c bs n0 r i j σ):
  κ (C u).gl (ah (C u)) OB σ fun z=>z.1= .normal/\z7 B pm ps c bs n0 r i (j+1) z.2:=by
 obtain⟨x,n,st,fr,M,T,cP,Ps,bF,⟨h0,h2,l2,h3,bp,bY⟩,Γ,hK,hR,lu,Mt,yY,dQ,dI,hn,gO⟩:=hI;have hPl:Ps.length=bF.length:=by rw[lu.len,cF]
 unfold OB;have ns:=BN (u:=u) hK.ms τ (by omega) [112] (by decide);have K1:=hK.ma τ hm st (fr+1);have R1:=zJ hR hK.ms (.cells (bK ps (.list cP Ps) st (fr+1:Nat)));generalize M.set pm (.cells (bK ps (.list cP Ps) st (fr+1:Nat)))=M1 at ns K1 R1;generalize jW:bR [112] (fr+1)=nm at*;refine Θ (fun z=>SM pm ps r i z/\(∃w4,z.e 4= .aj 4 w4 0/\z.q 4=some (w4,.cells [.str nm,ω,ω]))/\z.mem= {ε:=M1,ζ:=T}) (by
  generalize hw:bL (bQ σ.loc) 4=w4
  simp[SM,h0,h2,l2,h3,bp,bY,Γ,ns,newVar,hw,dp,dd]) fun z ⟨⟨h0,h2,l2,h3,bp,bY⟩,⟨w4,h4,l4⟩,Γ⟩=>?_
 refine Θ (fun z=>SM pm ps r i z/\(∃w5,SP w4 w5 nm .nil [] .nil z)/\z.mem= {ε:=M1,ζ:=T}) (by
  generalize hw:bL (bQ z.loc) 5=w5
  simp[SM,SP,h0,h2,l2,h3,bp,bY,h4,l4,Γ,newVar,hw,aX]) fun z ⟨⟨h0,h2,l2,h3,bp,bY⟩,⟨w5,h4,l4,h5,l5⟩,Γ⟩=>?_
 obtain⟨x2,k,n2,b1,b2,b3,b4,-,kC⟩:=BO (u:=u) K1.ms hb 3 (by omega);have b4:=b4 (by omega);obtain⟨k,rfl⟩:∃j:Nat,k=j:=⟨k.toNat,by omega⟩;have K2:=K1.draw τ n2 x2;have R2:=zI R1 K1.ms (.cells (aG c bs n2 x2));generalize M1.set ps (.cells (aG c bs n2 x2))=M2 at kC K2 R2;refine bP (fun z=>∃x' n' M' cp cr,∃l:List ay,(n2<=n'/\n'<=n2+2)/\SM pm ps r i z/\SP w4 w5 nm cp l cr z/\z.mem= {ε:=M',ζ:=T}/\Km B pm ps (.list cP Ps) c bs st (fr+1+k) n' x' M' T/\Go.Δ.Row B.length M' 3 70 cP Ps.length/\l.length=k/\(∀j (h:j<l.length),l[j].name=bR [113] (fr+1+1+j)/\1<=l[j].size/\l[j].size<=12)/\cp.exp 0 false=Φ l/\(cr= .nil->l=[])) ?_ fun z ⟨x3,n3,M3,cp,cr,l,d1,⟨h0,h2,l2,h3,bp,bY⟩,⟨h4,l4,h5,l5⟩,Γ,K3,R3,d2,d3,d4,d5⟩=>?_
 ·refine Θ (fun z=>SM pm ps r i z/\SP w4 w5 nm .nil [] .nil z/\z.mem= {ε:=M2,ζ:=T}/\z.e 18= .n (k:Int)/\z.e 19= .n 0) (by simp[SM,SP,h0,h2,l2,h3,bp,bY,h4,l4,h5,l5,Γ,kC]) fun z ⟨z1,z2,z3,z4,z5⟩=>?_;exact κ.mono (ahv (u:=u) hs τ hm hb (by omega) z1 z2 z3 K2 R2 (by omega) (by omega) z4 z5) fun z hz=> .inl hz
 have K4:=K3.ma τ hm 0 (fr+1+k);have R4:=zJ R3 K3.ms (.cells (bK ps (.list cP Ps) (0:Nat) (fr+1+k)));have hg:M3[pm]?=some (.cells (bK ps (.list cP Ps) st (fr+1+k))):=K3.ms.m;refine Θ (fun z=>SM pm ps r i z/\SP w4 w5 nm cp l cr z/\z.mem= {ε:=M3.set pm (.cells (bK ps (.list cP Ps) (0:Nat) (fr+1+k))),ζ:=T}) (by simp[SM,SP,h0,h2,l2,h3,bp,bY,h4,l4,h5,l5,Γ,hg,Bq,Wn,Mem.put,Mem.ν,ν,bo,Δ.lo]) fun z ⟨⟨h0,h2,l2,h3,bp,bY⟩,⟨h4,l4,h5,l5⟩,Γ⟩=>?_;generalize M3.set pm (.cells (bK ps (.list cP Ps) (0:Nat) (fr+1+k)))=M4 at Γ K4 R4;have oK:=aap;have f:Bk u pm ps (.list cP Ps) c bs (lB bF) 1 (yw 5):=f122 (u:=u) τ hb rfl lu gO (by omega) 4 1 (by omega);obtain⟨x5,n5,we,tZ,cap,body,e1,e2,e3,e4,e5,e7,e8,mg⟩:=f M4 0 (fr+1+k) n3 x3 cr .nil .nil .nil ⟨l.map ay.name,[],[],[]⟩ K4.ms (by omega) (by omega) (by omega) (by simp[Sc.size,d2];omega) (fun h=>by rw[d5 h];rfl) (fun _=>rfl) (fun _=>rfl);have K5:=K4.both τ hm we tZ n5 x5;have R5:=zI (zJ R4 K4.ms (.cells (bK ps (.list cP Ps) (we:Nat) tZ))) (K4.ms.ma τ we tZ) (.cells (aG c bs n5 x5));generalize(M4.set pm (.cells (bK ps (.list cP Ps) (we:Nat) tZ))).set ps (.cells (aG c bs n5 x5))=M5 at mg K5 R5;have DI:gJ cr .nil .nil .nil ⟨l.map ay.name,[],[],[]⟩=[aX cr (l.map ay.name),ω,ω,ω]:=rfl;rw[DI]at mg;have Bz:∀T,kf u 122 [.μ pm 0,.n 1,.agg [aX cr (l.map ay.name),ω,ω,ω]] {ε:=M4,ζ:=T}=some (.list cap (δ.ψ body),{ε:=M5,ζ:=T}):=mg;have MB:Dv (.agg [.str nm,.list cp (l.map ay.av),.list cap (δ.ψ body)]) (⟨nm,cp.exp 0 false,l,cap,body⟩:φ).av:=
  .agg (.cons (.str _) (.cons (Dv.list cp (bS.of ay.av l fun p _=>ay.dv p)) (.cons e8 .nil)))
 refine Θ (fun z=>SM pm ps r i z/\(z.e 4= .aj 4 w4 0/\z.q 4=some (w4,.cells [.str nm,.list cp (l.map ay.av),.list cap (δ.ψ body)]))/\z.mem= {ε:=M5,ζ:=T}) (by simp[SM,h0,h2,l2,h3,bp,bY,h4,l4,h5,l5,Γ,Bz,dd]) fun z ⟨⟨h0,h2,l2,h3,bp,bY⟩,⟨h4,l4⟩,Γ⟩=>?_;generalize hX:[AV.str nm,.list cp (l.map ay.av),.list cap (δ.ψ body)]=X at MB l4;have TT:X.length=3:=by rw[<-hX];rfl
 have hXt:X.take 3=X:=List.take_of_length_le (by omega);have TU:=MB.ν;have MC:shaped true 3 (.agg X)=true:=by simp[shaped,TT]
 obtain⟨tW,M6,dO,R6,akK,hM6⟩:=yi (bytes:=64) (v:= .agg X) (ag:=true) R5 K5.len Mt MC TU (by omega) (by omega) (by omega);have K6:=K5.grow hs hM6;have TN:bS (Ps++[.agg X]) ((bF++[(⟨nm,cp.exp 0 false,l,cap,body⟩:φ)]).map φ.av):=by rw[jT];exact lu.append (.cons MB .nil)
 have TM:ν (.list tW (Ps++[.agg X]))= .list tW (Ps++[.agg X]):=(Dv.list tW TN).ν;have K7:=K6.procs τ hm (.list tW (Ps++[.agg X])) (bo pm [AV.list tW (Ps++[.agg X])]);have R7:=zJ R6 K6.ms (.cells (bK ps (.list tW (Ps++[.agg X])) (we:Nat) tZ));have hg5:M5[pm]?=some (.cells (bK ps (.list cP Ps) (we:Nat) tZ)):=K5.ms.m;have hg6:M6[pm]?=some (.cells (bK ps (.list cP Ps) (we:Nat) tZ)):=K6.ms.m;refine κ.done .normal (fun z=>SM pm ps r i z/\z.mem= {ε:=M6.set pm (.cells (bK ps (.list tW (Ps++[.agg X])) (we:Nat) tZ)),ζ:=if bo pm [AV.list tW (Ps++[.agg X])]=true then T else pm::T}) (by
  generalize hP2:AV.list tW (Ps++[.agg X])=P2 at TM dO⊢
  have abA:P2.cells=[P2]:=by rw[<-hP2];rfl
  simp[SM,h0,h2,l2,h3,bp,bY,h4,l4,Γ,hg5,hg6,Wo,af0,Bq,TT,hXt,MC,TU,dO,abA,TM,Mem.put,Mem.ν]) fun z ⟨z1,z2⟩=>⟨rfl,x5,n5,we,tZ,_,_,tW,Ps++[.agg X],bF++[⟨nm,cp.exp 0 false,l,cap,body⟩],z1,z2,K7,by simpa using R7,TN,by rw[alU,Mt];simp[MC],?_,by simp[dQ],by omega,by omega,?_⟩
 ·refine yY.snoc ⟨jW.symm,by show l.length<=2;omega,fun i hi=>?_,?_,by show δ.bO body<=40;omega,d4,e7⟩
  ·have:=d3 i hi;rwa[show fr+1+1+i=fr+2+i by omega]at this
  ·show aN (lB bF) 1 (fr+1+l.length) _ body tZ;rw[d2];exact e4
 ·intro y hy;rcases List.mem_append.1 hy with hy|hy
  ·exact gO y hy
  ·rw[fK.1 hy];show l.length<=3;omega
end
theorem f35{ps:Nat}{c:ξ}{bs:List Nat}{n:Nat}{x:Int}{B:List θ}(hb:bs.length<=300)(hB:B[ps]?=some (.cells (aG c bs n x)))(hn:n<1000000000000):
  ∃n' x' cap fr,∃bF:List φ,(n<=n'/\n'<=n+3000000000)/\gj bF fr/\fr<=172/\(1<=bF.length/\bF.length<=4)/\br cap/\∀T,kf u 35 [.μ ps 0] {ε:=B,ζ:=T}=some (.agg [.list cap (bF.map φ.av)],{ε:=B.set ps (.cells (aG c bs n' x')),ζ:=T}):=by
 have hs:ps<B.length:=(fu.1 hB).1;have hr:κ (C u).gl (ah (C u)) KD {env:=[.μ ps 0],loc:=[],mem:= {ε:=B,ζ:=[]}} fun z=>z.1= .ret/\∃x' n' st fr M T cP Ps,∃bF:List φ,z.2.mem= {ε:=M,ζ:=T}/\(aI z.2.env 2= .aj 2 0 0/\bQ z.2.loc 2=some (0,.cells [.list cP Ps]))/\Km B B.length ps (.list cP Ps) c bs st fr n' x' M T/\bS Ps (bF.map φ.av)/\gj bF fr/\fr<=172/\(1<=bF.length/\bF.length<=4)/\(n<=n'/\n'<=n+3000000000):=by
  have τ:B.length≠ps:=by omega
  have K0:Km B B.length ps (.list .nil []) c bs 0 0 n x (B++[.cells (bK ps (.list .nil []) (0:Nat) 0)]) []:=
   ⟨⟨by simp,by rw[eo hs];exact hB⟩,fun i h1 _=>eo h1,by simp,by simp⟩
  unfold KD;refine Θ (fun z=>(z.e 0= .μ ps 0/\z.e 2= .aj 2 0 0/\z.q 2=some (0,.cells [ω]))/\z.mem= {ε:=B,ζ:=[]}) (by simp[newVar,bL]) fun z ⟨⟨h0,h2,l2⟩,Γ⟩=>?_;refine Θ (fun z=>(z.e 0= .μ ps 0/\z.e 2= .aj 2 0 0/\z.q 2=some (0,.cells [ω])/\z.e 3= .μ B.length 0)/\z.mem= {ε:=B++[.cells (bK ps (.list .nil []) (0:Nat) 0)],ζ:=[]}) (by simp[h0,h2,l2,Γ,dp,dd,newVar,Mem.push,Mem.ν,ν,cL,bK]) fun z ⟨⟨h0,h2,l2,h3⟩,Γ⟩=>?_;generalize B++[θ.cells (bK ps (.list .nil []) (0:Nat) 0)]=M0 at K0 Γ;obtain⟨x1,r,n1,b1,b2,b3,b4,uN⟩:=JI (u:=u) K0.ms hb 1 4 (by omega) (by omega) (by omega) (by omega);obtain⟨r,rfl⟩:∃j:Nat,r=j:=⟨r.toNat,by omega⟩;have K1:=K0.draw τ n1 x1;generalize M0.set ps (.cells (aG c bs n1 x1))=M1 at uN K1;refine bP (fun z=>∃i,z7 B B.length ps c bs n (r:Int) i r z) ?_ fun z ⟨i,x2,n2,st,fr,M,T,cP,Ps,bF,⟨h0,h2,l2,h3,bp,bY⟩,Γ,hK,hR,lu,Mt,yY,dQ,dI,nf,gO⟩=>?_
  ·refine Θ (fun z=>SM B.length ps r 0 z/\z.mem= {ε:=M1,ζ:=[]}) (by simp[SM,h0,h2,l2,h3,Γ,uN]) fun z ⟨hS,Γ⟩=>?_;refine κ.block (κ.kD (I:=fun j z=>z7 B B.length ps c bs n (r:Int) (j:Int) j z) r ⟨x1,n1,0,0,M1,[],.nil,[],[],hS,Γ,K1,Go.Δ.Row.nil,.nil,rfl,.nil,rfl,by omega,by omega,by simp⟩ fun j z hj hI=>?_);have sL:=hI;obtain⟨x2,n2,st,fr,M,T,cP,Ps,bF,hS,Γ,pS⟩:=sL;obtain⟨h0,h2,l2,h3,bp,bY⟩:=hS;unfold V1;by_cases Dk:j<r
   ·have lL:(j:Int)<r:=by omega
    have nQ:bC .i64 ((j:Int)+1)=(j:Int)+1:=wrap_i64 (by omega) (by omega);refine Θ (fun z=>z7 B B.length ps c bs n (r:Int) (j:Int) j z/\z.e 13= .bool true) ?_ fun z ⟨hI,db⟩=>?_
    ·exact wM (P:=fun z=>(SM B.length ps r j z/\z.mem= {ε:=M,ζ:=T})/\z.e 13= .bool true) (by simp[SM,h0,h2,l2,h3,bp,bY,Γ,lL,Dk]) fun z ⟨⟨y1,y2⟩,y3⟩=>⟨⟨x2,n2,st,fr,M,T,cP,Ps,bF,y1,y2,pS⟩,y3⟩
    refine κ.go (s':=z) (by simp[db]) ?_;refine bP (fun z=>z7 B B.length ps c bs n (r:Int) (j:Int) (j+1) z) (κ.block (κ.mono (Zs (u:=u) hs τ (bA _) hb hn (by omega) hI) fun z ⟨e,hI⟩=> .inr ⟨by rw[e];simp,.inl ⟨e,hI⟩⟩)) fun z ⟨x2,n2,st,fr,M,T,cP,Ps,bF,⟨h0,h2,l2,h3,bp,bY⟩,Γ,pS⟩=>?_;exact κ.done .normal (fun z=>SM B.length ps r ((j:Int)+1) z/\z.mem= {ε:=M,ζ:=T}) (by simp[SM,h0,h2,l2,h3,bp,bY,Γ,nQ]) fun z ⟨y1,y2⟩=> .inl ⟨rfl,Dk,x2,n2,st,fr,M,T,cP,Ps,bF,by simpa using y1,y2,pS⟩
   ·have lL:¬(j:Int)<r:=by omega
    obtain rfl:j=r:=by omega
    exact κ.done (.exit 0) (fun z=>SM B.length ps j j z/\z.mem= {ε:=M,ζ:=T}) (by simp[SM,h0,h2,l2,h3,bp,bY,Γ,lL]) fun z ⟨y1,y2⟩=> .inr ⟨by simp,.inl ⟨rfl,.inl ⟨rfl,_,x2,n2,st,fr,M,T,cP,Ps,bF,y1,y2,pS⟩⟩⟩
  ·have hg:M[B.length]?=some (.cells (bK ps (.list cP Ps) st fr)):=hK.ms.m;refine Θ (fun z=>(z.e 2= .aj 2 0 0/\z.q 2=some (0,.cells [.list cP Ps]))/\z.mem= {ε:=M,ζ:=T}) (by simp[h0,h2,l2,h3,Γ,hg,Wo,Bq,dd]) fun z ⟨⟨h2,l2⟩,Γ⟩=>?_;exact κ.done .ret (fun z=>(z.e 2= .aj 2 0 0/\z.q 2=some (0,.cells [.list cP Ps]))/\z.mem= {ε:=M,ζ:=T}) (by simp[h2,l2,Γ]) fun z ⟨y1,y2⟩=>⟨rfl,x2,n2,st,fr,M,T,cP,Ps,bF,y2,y1,hK,lu,yY,by omega,by omega,by omega⟩
 obtain⟨z,hx,e,x',n',st,fr,M,T',cP,Ps,bF,Γ,⟨h2,l2⟩,hK,lu,yY,dI,hlen,gF⟩:=hr;have Hu:Dv (.agg [.list cP Ps]) (.agg [.list (cP.exp 0 false) (bF.map φ.av)]):= .agg (.cons (Dv.list cP lu) .nil);have Mr:M=B.set ps (.cells (aG c bs n' x'))++M.drop B.length:=by
  have h1:M.take B.length=B.set ps (.cells (aG c bs n' x')):=by
   apply alV;intro i;by_cases hi:i<B.length
   ·rw[J0 hi];by_cases h2:i=ps
    ·subst h2;rw[hK.ms.s];simp[hs]
    ·rw[gR (Ne.symm h2)];exact hK.od i hi h2
   ·rw[hU (by simp;omega),hU (by simp;omega)]
  rw[<-h1,B0]
 refine⟨n',x',cP.exp 0 false,fr,bF,gF,yY,dI,hlen,Br cP 0,fun T=>?_⟩;refine Wm (u:=u) (g:=Hc) rfl rfl rfl (by simp) (by simp[exp,hs]) ⟨z,hx,fun i=>by rw[e];simp,⟨_,T',by rw[Γ,<-Mr],hK.tt⟩,[.agg [.list cP Ps]],by simp[Hc,h2,l2],?_⟩ T;rw[Γ];exact Hu.aK _ _ _
end Go.Δ.Tz
