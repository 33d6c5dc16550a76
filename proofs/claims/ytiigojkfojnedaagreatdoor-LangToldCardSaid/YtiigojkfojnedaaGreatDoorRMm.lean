import Derived.Test.YtiigojkfojnedaaGreatDoorRMb
set_option linter.all false
set_option maxRecDepth 100000
set_option maxHeartbeats 8000000
open List renaming length_filter_le->akW,mem_singleton->fY,append_nil->dM,map_append->kQ,all_append->akX,ext_getElem?->akY,getElem?_take_of_lt->Jv,getElem?_set_ne->gN,getElem?_eq_none->gW,take_append_drop->akZ,map_cons->ax,map_nil->aI,getElem?_append_left->d_,getElem?_eq_some_iff->fI,length_map->cz
open Nat renaming mul_le_mul_right->nu,le_refl->b_
open Go.IntKind renaming wrap->bN
namespace Go.Δ.Tz
open Go.Δ
variable{u:Nat}
def I9:List (Nat×Nat×Int×AC):=[(83,82,1,HZ),(105,104,2,H0),(115,114,3,DX),(134,133,4,H2),(152,151,5,H3),(186,185,6,H4),(193,192,7,DY),(212,211,8,H5),(235,234,9,H6)]
theorem aev:DZ= .seq (.ops [⟨some 81,.mv (.t 8),none⟩]) (.block 2 (BI 81 I9 .skip)):=by rfl
theorem μ.skip{gl:Nat->AV}{c:cg}{σ:St}{Q:Ex×St->Prop}(h:Q (.normal,σ)):μ gl c .skip σ Q:=⟨_,rfl,h⟩
theorem nU:Dv jy.av jy.av:= .agg (.cons (.int _ _) (.cons (.int _ _) (.cons (.str _) (.cons (Dv.list .nil .nil) .nil))))
theorem oV:Dv ω ω:=Dv.list .nil .nil
theorem tO{k g:Int}{nm:List Nat}{cp:τ}{nX:List ρ}(hp:∀p∈nX,Dv p.av p.av){X Y:ζ}(hX:Dv X.av X.av)(hY:Dv Y.av Y.av){cb ce:τ}{body els:List δ}(hb:Dv (.list cb (δ.χ body)) (.list cb (δ.χ body)))(he:Dv (.list ce (δ.χ els)) (.list ce (δ.χ els))):
  Dv (.agg (aS k g nm (.list cp (nX.map ρ.av)) X.four Y.four (.list cb (δ.χ body)) (.list ce (δ.χ els)))) (bD k g nm (cp.exp 0 false) nX X Y cb body ce els).av:=by
 have four:∀{X:ζ},Dv X.av X.av->bL X.four X.four:=fun h=>by rw[ζ.fm]at h;exact⟨by simpa only[pf]using h.1,by simpa only[ej,AV.agg.injEq]using h.2⟩
 have dS:bL (nX.map ρ.av) (nX.map ρ.av):=bL.of ρ.av nX hp;have:=Dv.agg (.cons (.int .i64 k) (.cons (.int .i64 g) (.cons (.str nm) (.cons (Dv.list cp dS) ((four hX).append ((four hY).append (.cons hb (.cons he .nil))))))));have e:(bD k g nm (cp.exp 0 false) nX X Y cb body ce els).av= .agg (.int .i64 k:: .n g:: .str nm:: .list (cp.exp 0 false) (nX.map ρ.av)::(X.four++(Y.four++[.list cb (δ.χ body),.list ce (δ.χ els)]))):=by simp[bD,δ.av,δ.cells]
 rw[e];exact this
section
variable{B:List θ}{pm ps:Nat}{P:AV}{c:τ}{bs:List Nat}{co:τ}{lo st fr n:Nat}{x:Int}{M:List θ}{q:Nat}{L:List AV}{T:List Nat}{mm:Mem}
variable{d r i:Int}{c1 c2 c3 c4:τ}{s:Sc}{out:List AV}{v:Nat}{e1 e2 e3 e4:τ}{s':Sc}{σ:St}{k:Int}
theorem aio{Q:Ex×St->Prop}(hS:SS pm d r i c1 c2 c3 c4 s co out σ)(hI:SI k q v e1 e2 e3 e4 s' σ)(Γ:σ.mem=mm)(h:∀σ',SS pm d r i c1 c2 c3 c4 s co out σ'->SI k q v e1 e2 e3 e4 s' σ'->σ'.mem=mm->μ (C u).gl (ab (C u)) (swp k I9 .skip) σ' Q)(hQ:∀z,Q z->z.1≠ .exit 2):
  μ (C u).gl (ab (C u)) DZ σ Q:=by
 have h8:=hI.1;rw[aev];refine μ.go (s':= {σ with env:=mL σ.env 81 (.n k)}) (by simp[exec,ef,dR,e_,aJ,dF,fE,eR,h8]) (μ.block (μ.mono (Q:=Q) ?_ fun z hz=> .inr ⟨hQ z hz,hz⟩));refine μ.BI (K:=fun σ=>SS pm d r i c1 c2 c3 c4 s co out σ/\SI k q v e1 e2 e3 e4 s' σ/\σ.mem=mm) (k:=k) (fun σ j v hj ⟨h1,h2,h3⟩=>⟨h1.set hj v,h2.set hj v,h3⟩) I9 .skip _ (by rfl) ⟨hS.set (by omega) _,hI.set (by omega) _,Γ⟩ (by simp[fM]) fun σ' ⟨h1,h2,h3⟩=>h σ' h1 h2 h3
theorem tv{mf:St->Prop}{a:AC}{Q:Ex×St->Prop}(hS:SS pm d r i c1 c2 c3 c4 s co out σ)(hI:SI k q v e1 e2 e3 e4 s' σ)(Γ:σ.mem=mm)(h:∀σ',SS pm d r i c1 c2 c3 c4 s co out σ'->SI k q v e1 e2 e3 e4 s' σ'->σ'.mem=mm->μ (C u).gl (ab (C u)) (swp k I9 .skip) σ' fun z=>(z.1= .exit 1/\Q z)\/(z.1= .normal/\mf z.2))(h2:∀z,mf z->μ (C u).gl (ab (C u)) a z Q):
  μ (C u).gl (ab (C u)) (.seq DZ a) σ Q:=by
 refine bS (mf) (μ.mono (aio (u:=u) (Q:=fun z=>(z.1= .exit 1/\Q z)\/(z.1= .normal/\mf z.2)) hS hI Γ h fun z hz=>?_) fun z hz=>?_) h2
 ·rcases hz with⟨e,-⟩|⟨e,-⟩<;>rw[e]<;>simp
 ·rcases hz with⟨e,hz⟩|hz
  ·exact .inr ⟨by rw[e];simp,hz⟩
  ·exact .inl hz
theorem CG(hm:pm<B.length)(hs:ps<B.length)(hk:k≠2/\k≠3/\k≠5)(hS:SS pm d r i c1 c2 c3 c4 s co out σ)(hI:SI k q v e1 e2 e3 e4 s' σ)(Γ:σ.mem= {ε:=M,η:=T})(hM:MM B pm ps P c bs co lo st fr n x q L M T)(hL:L.length=14)(hn:ν (.agg L)= .agg L)(ho:out.all (shaped true 14)=true)(jJ:lo=out.length)(dm:out.length<1000000):
  μ (C u).gl (ab (C u)) (.seq qE za) σ fun z=>z.1= .normal/\∃eX M',SS pm d r i c1 c2 c3 c4 s eX (out++[.agg L]) z.2/\z.2.mem= {ε:=M',η:=T}/\Kt B pm ps P c bs eX (lo+1) st fr n x M'/\eX.exp 0 false= .any:=by
 refine bS (fun z=>SS pm d r i c1 c2 c3 c4 s co out z/\SI k q v e1 e2 e3 e4 s' z/\z.mem= {ε:=M,η:=T}) (μ.mono (aiC (u:=u) hk hS hI Γ) fun z ⟨h1,h2⟩=> .inl ⟨h1,h2⟩) fun z ⟨h1,h2,h3⟩=>?_;exact IF hm hs h1 h2 h3 hM hL hn ho jJ dm
theorem KZ(hm:pm<B.length)(hs:ps<B.length)(gy:k≠4/\k≠8/\k≠10/\k≠7/\k≠11)(hk:k≠2/\k≠3/\k≠5)(hS:SS pm d r i c1 c2 c3 c4 s co out σ)(hI:SI k q v e1 e2 e3 e4 s' σ)(Γ:σ.mem= {ε:=M,η:=T})(hM:MM B pm ps P c bs co lo st fr n x q L M T)(hL:L.length=14)(hn:ν (.agg L)= .agg L)(ho:out.all (shaped true 14)=true)(jJ:lo=out.length)(dm:out.length<1000000):
  μ (C u).gl (ab (C u)) (.seq ui (.seq qE za)) σ fun z=>z.1= .normal/\∃eX M',SS pm d r i c1 c2 c3 c4 s eX (out++[.agg L]) z.2/\z.2.mem= {ε:=M',η:=T}/\Kt B pm ps P c bs eX (lo+1) st fr n x M'/\eX.exp 0 false= .any:=by
 refine bS (fun z=>SS pm d r i c1 c2 c3 c4 s co out z/\SI k q v e1 e2 e3 e4 s' z/\z.mem= {ε:=M,η:=T}) (μ.mono (IZ (u:=u) gy hS hI Γ) fun z ⟨h1,h2⟩=> .inl ⟨h1,h2⟩) fun z ⟨h1,h2,h3⟩=>?_;exact CG hm hs hk h1 h2 h3 hM hL hn ho jJ dm
end
def Sc.size(s:Sc):Nat:=s.aC.length+s.cu.length+s.bits.length+s.turns.length
theorem Sc.OD(s:Sc)(nm:List Nat):(s.put nm).size=s.size+2:=by simp[Sc.size,Sc.put];omega
theorem Sc.aeP(s:Sc)(nm:List Nat):(s.mI nm).size=s.size+1:=by simp[Sc.size,Sc.mI];omega
theorem Sc.ajl(s:Sc)(nm:List Nat):(s.dZ nm).size=s.size+1:=by simp[Sc.size,Sc.dZ];omega
theorem Sc.Yl(s:Sc)(nm:List Nat):(s.bit nm).size<=s.size+1:=by
 unfold Sc.bit;split
 ·omega
 ·simp[Sc.size];omega
theorem Sc.ZS(s:Sc)(nm:List Nat):(s.drop nm).size<=s.size:=by have h1:(s.drop nm).aC.length<=s.aC.length:=akW _ _;have h2:(s.drop nm).cu.length<=s.cu.length:=akW _ _;have h3:(s.drop nm).bits=s.bits:=rfl;have h4:(s.drop nm).turns=s.turns:=rfl;simp only[Sc.size,h3,h4];omega
def Bk(u pm ps:Nat)(P:AV)(c:τ)(bs:List Nat)(bH:List (List Nat×Nat))(d D:Nat):Prop:=
 ∀(M:List θ) (st fr n:Nat) (x:Int) (c1 c2 c3 c4:τ) (s:Sc),MS pm ps P c bs st fr n x M->n+10*D<500000000000000000->st+10*D<500000000000000000->fr+40<=1000+min st 40->s.size<=2*fr->(c1= .nil->s.aC=[])->(c3= .nil->s.bits=[])->(c4= .nil->s.turns=[])→
  ∃x' n' aT aA cap,∃l:List δ,(n<=n'/\n'<=n+D)/\(st<=aT/\aT<=st+D)/\(fr<=aA/\aA+min st 40<=fr+min aT 40)/\aY bH d fr s.inner l aA/\δ.bK l+min st 40<=min aT 40/\cap=Ξ l/\Dv (.list cap (δ.χ l)) (.list cap (δ.χ l))∧
   ∀T,kf u 122 [.κ pm 0,.n (d:Int),.agg (gD c1 c2 c3 c4 s)] {ε:=M,η:=T}=some (.list cap (δ.χ l),{ε:=(M.set pm (.cells (bG ps P (aT:Nat) aA))).set ps (.cells (aP c bs n' x')),η:=T})
section
variable{B:List θ}{pm ps:Nat}{P:AV}{c:τ}{bs:List Nat}{co:τ}{lo st fr n:Nat}{x:Int}{M:List θ}{q:Nat}{L:List AV}{T:List Nat}
variable(hm:pm<B.length)(hs:ps<B.length)(φ:pm≠ps)(hb:bs.length<=300)
variable{d:Nat}{r i:Int}{c1 c2 c3 c4:τ}{s:Sc}{out:List AV}{v:Nat}{e1 e2 e3 e4:τ}{s':Sc}{σ:St}
theorem MM.both(h:MM B pm ps P c bs co lo st fr n x q L M T)(hm:pm<B.length)(hs:ps<B.length)(φ:pm≠ps)(aT aA n':Nat)(x':Int):MM B pm ps P c bs co lo aT aA n' x' q L ((M.set pm (.cells (bG ps P aT aA))).set ps (.cells (aP c bs n' x'))) T:=
 (h.lY hm φ aT aA).draw hs φ n' x'
def Zr(B:List θ)(pm ps:Nat)(P:AV)(c:τ)(bs:List Nat)(bH:List (List Nat×Nat))(d D:Nat)(r i:Int)(c1 c2 c3 c4:τ)(s:Sc)(co:τ)(out:List AV)(st fr n:Nat)(M:List θ)(T:List Nat)(z:Ex×St):Prop:=
 (z.1= .exit 1/\SS pm d r i c1 c2 c3 c4 s co out z.2/\z.2.mem= {ε:=M,η:=T})∨
 (z.1= .normal/\∃x' n' aT aA M' T' iw iz kS lQ s2 eX L,∃y:δ,SS pm d r i iw iz kS lQ s2 eX (out++[.agg L]) z.2/\z.2.mem= {ε:=M',η:=T'}/\(Kt B pm ps P c bs eX (out.length+1) aT aA n' x' M'/\eX.exp 0 false= .any)/\(∀i∈T',B.length<=i)/\fB bH d fr s y aA s2/\Dv (.agg L) y.av/\L.length=14∧
  (n<=n'/\n'<=n+290+2*D)/\(st<=aT/\aT<=st+2*D)/\(fr<=aA/\aA+st<=fr+1+min aT 40)/\y.cnt+st<=1+min aT 40/\s2.size<=2*aA/\(iw= .nil->s2.aC=[])/\(iz= .nil->s2.cu=[])/\(kS= .nil->s2.bits=[])/\(lQ= .nil->s2.turns=[]))
include hm hs φ hb
variable{bH:List (List Nat×Nat)}{D:Nat}
variable(Ω:st<=40)(dH:fr+41<=1000+st)(hn:n+300+12*D<500000000000000000)(mY:st+12*D<500000000000000000)(aO:s.size<=2*fr)(k1:c1= .nil->s.aC=[])(k2:c2= .nil->s.cu=[])(k3:c3= .nil->s.bits=[])(k4:c4= .nil->s.turns=[])(ho:out.all (shaped true 14)=true)(dm:out.length<1000000)
variable(rec:d<5->Bk u pm ps P c bs bH (d+1) D)(rB:1<=d/\d<=5)
include Ω dH hn mY aO k1 k2 k3 k4 ho dm
abbrev qP:AC:= .seq DZ (.seq ui (.seq qE za))
theorem ahE(hr:s.aC≠[])(hS:SS pm d r i c1 c2 c3 c4 s co out σ)(hI:SI 1 q v c1 c2 c3 c4 s σ)(Γ:σ.mem= {ε:=M,η:=T})(hM:MM B pm ps P c bs co out.length st fr n x q (aS 1 0 [] ω z4 z4 ω ω) M T):
  μ (C u).gl (ab (C u)) qP σ (Zr B pm ps P c bs bH d D r i c1 c2 c3 c4 s co out st fr n M T):=by
 have wW:s.aC.length<=s.size:=by unfold Sc.size;omega
 refine tv (u:=u) (mf:=fun z=>∃x' n' M' T' g cp,∃l:List ρ,(n<=n'/\n'<=n+280)/\(1<=g/\g<=12)/\l.length=ga g/\(∀p∈l,gE s.aC s.turns p)/\SS pm d r i c1 c2 c3 c4 s co out z/\SI 1 q v c1 c2 c3 c4 s z/\z.mem= {ε:=M',η:=T'}/\MM B pm ps P c bs co out.length st fr n' x' q (aS 1 g [] (.list cp (l.map ρ.av)) z4 z4 ω ω) M' T'/\cp.exp 0 false=Ξ l) hS hI Γ (fun σ' h1 h2 h3=>μ.mono (aee (u:=u) hm hs φ hb h1 h2 h3 hM (by omega) hr (by omega)) fun z hz=> .inr hz) fun z ⟨x',n',M',T',g,cp,l,l1,l2,l3,l4,h1,h2,h3,h4,mz⟩=>?_;have fw:=tO (k:=1) (g:=g) (nm:=[]) (cp:=cp) (fun p hp=>(l4 p hp).fx) nU nU (body:=[]) (els:=[]) oV oV;have hL:=gY (k:=1) (g:=g) (nm:=[]) (P:= .list cp (l.map ρ.av)) (b:=ω) (e:=ω) eV eV;refine μ.mono (KZ (u:=u) hm hs (by omega) (by omega) h1 h2 h3 h4 hL fw.ν ho rfl dm) fun z ⟨y1,eX,N,y2,y3,y4⟩=> .inr ⟨y1,x',n',st,fr,N,T',c1,c2,c3,c4,s,eX,_,_,y2,y3,y4,h4.tt,.gate l2.1 l2.2 l3 l4 mz,fw,hL,by omega,by omega,by omega,?_,aO,k1,k2,k3,k4⟩;simp[bD,δ.cnt,bf,bz];omega
theorem ahH(hS:SS pm d r i c1 c2 c3 c4 s co out σ)(hI:SI 2 q v c1 c2 c3 c4 s σ)(Γ:σ.mem= {ε:=M,η:=T})(hM:MM B pm ps P c bs co out.length st fr n x q (aS 2 0 [] ω z4 z4 ω ω) M T):
  μ (C u).gl (ab (C u)) qP σ (Zr B pm ps P c bs bH d D r i c1 c2 c3 c4 s co out st fr n M T):=by
 have wW:s.aC.length<=s.size/\s.cu.length<=s.size:=by unfold Sc.size;omega
 refine tv (u:=u) (mf:=fun z=>∃x' n' M' ix,(n<=n'/\n'<=n+35)/\cZ s.turns 4 ix/\SS pm d r i c1 c2 c3 c4 s co out z/\SI 2 q v c1 c2 c3 c4 s z/\z.mem= {ε:=M',η:=T}/\MM B pm ps P c bs co out.length st (fr+1) n' x' q (aS 2 0 (bV [113] (fr+1)) ω ix.four z4 ω ω) M' T) hS hI Γ (fun σ' h1 h2 h3=>μ.mono (aeh (u:=u) hm hs φ hb h1 h2 h3 hM (by omega) (by omega)) fun z hz=> .inr hz) fun z ⟨x',n',M',ix,l1,l2,h1,h2,h3,h4⟩=>?_;generalize jV:bV [113] (fr+1)=nm at*;have fw:=tO (k:=2) (g:=0) (nm:=nm) (cp:= .nil) (nX:=[]) (fun p hp=>(by cases hp)) l2.fx nU (body:=[]) (els:=[]) oV oV;have hL:=gY (k:=2) (g:=0) (nm:=nm) (P:=ω) (b:=ω) (e:=ω) ix.eY eV;refine bS (fun z=>SS pm d r i c1 c2 c3 c4 s co out z/\SI 2 q v c1 c2 c3 c4 s z/\z.mem= {ε:=M',η:=T}) (μ.mono (IZ (u:=u) (by omega) h1 h2 h3) fun z ⟨h1,h2⟩=> .inl ⟨h1,h2⟩) fun z ⟨h1,h2,h3⟩=>?_;refine bS (fun z=>∃iw iz M2,SS pm d r i iw iz c3 c4 (s.put nm) co out z/\SI 2 q v c1 c2 c3 c4 s z/\iw≠ .nil/\iz≠ .nil/\z.mem= {ε:=M2,η:=T}/\MM B pm ps P c bs co out.length st (fr+1) n' x' q (aS 2 0 nm ω ix.four z4 ω ω) M2 T) (μ.mono (aiD (u:=u) hm hs ix.eY eV k1 k2 (by omega) (by omega) h1 h2 h3 h4) fun z hz=> .inl hz) fun z ⟨iw,iz,M2,h1,h2,a1,a2,h3,h4⟩=>?_;refine μ.mono (IF (u:=u) hm hs h1 h2 h3 h4 hL fw.ν ho rfl dm) fun z ⟨y1,eX,N,y2,y3,y4⟩=> .inr ⟨y1,x',n',st,fr+1,N,T,iw,iz,c3,c4,s.put nm,eX,_,_,y2,y3,y4,h4.tt,?_,fw,hL,by omega,by omega,by omega,?_,?_,fun h=>absurd h a1,fun h=>absurd h a2,k3,k4⟩
 ·rw[<-jV];exact .take l2
 ·simp[bD,δ.cnt,bf,bz];omega
 ·rw[Sc.OD];omega
theorem ahD(hS:SS pm d r i c1 c2 c3 c4 s co out σ)(hI:SI 3 q v c1 c2 c3 c4 s σ)(Γ:σ.mem= {ε:=M,η:=T})(hM:MM B pm ps P c bs co out.length st fr n x q (aS 3 0 [] ω z4 z4 ω ω) M T):
  μ (C u).gl (ab (C u)) qP σ (Zr B pm ps P c bs bH d D r i c1 c2 c3 c4 s co out st fr n M T):=by
 have wW:s.aC.length<=s.size/\s.cu.length<=s.size:=by unfold Sc.size;omega
 refine tv (u:=u) (mf:=fun z=>∃x' n' M' nm,(n<=n'/\n'<=n+1)/\nm∈s.cu/\SS pm d r i c1 c2 c3 c4 s co out z/\SI 3 q v c1 c2 c3 c4 s z/\z.mem= {ε:=M',η:=T}/\MM B pm ps P c bs co out.length st fr n' x' q (aS 3 0 nm ω z4 z4 ω ω) M' T) hS hI Γ (fun σ' h1 h2 h3=>μ.mono (aed (u:=u) hm hs φ hb h1 h2 h3 hM (by omega) (by omega)) fun z hz=>?_) fun z ⟨x',n',M',nm,l1,l2,h1,h2,h3,h4⟩=>?_
 ·rcases hz with hz|hz
  ·exact .inl ⟨hz.1,.inl hz⟩
  ·exact .inr hz
 have fw:=tO (k:=3) (g:=0) (nm:=nm) (cp:= .nil) (nX:=[]) (fun p hp=>(by cases hp)) nU nU (body:=[]) (els:=[]) oV oV;have hL:=gY (k:=3) (g:=0) (nm:=nm) (P:=ω) (b:=ω) (e:=ω) eV eV;refine bS (fun z=>SS pm d r i c1 c2 c3 c4 s co out z/\SI 3 q v c1 c2 c3 c4 s z/\z.mem= {ε:=M',η:=T}) (μ.mono (IZ (u:=u) (by omega) h1 h2 h3) fun z ⟨h1,h2⟩=> .inl ⟨h1,h2⟩) fun z ⟨h1,h2,h3⟩=>?_;refine bS (fun z=>∃iw iz M2,SS pm d r i iw iz c3 c4 (s.drop nm) co out z/\SI 3 q v c1 c2 c3 c4 s z/\(iw= .nil->(s.drop nm).aC=[])/\(iz= .nil->(s.drop nm).cu=[])/\z.mem= {ε:=M2,η:=T}/\MM B pm ps P c bs co out.length st fr n' x' q (aS 3 0 nm ω z4 z4 ω ω) M2 T) (μ.mono (aiA (u:=u) hm hs eV eV k1 k2 (by omega) (by omega) h1 h2 h3 h4) fun z hz=> .inl hz) fun z ⟨iw,iz,M2,h1,h2,a1,a2,h3,h4⟩=>?_;refine μ.mono (IF (u:=u) hm hs h1 h2 h3 h4 hL fw.ν ho rfl dm) fun z ⟨y1,eX,N,y2,y3,y4⟩=> .inr ⟨y1,x',n',st,fr,N,T,iw,iz,c3,c4,s.drop nm,eX,_,_,y2,y3,y4,h4.tt,.drop l2,fw,hL,by omega,by omega,by omega,?_,?_,a1,a2,k3,k4⟩
 ·simp[bD,δ.cnt,bf,bz];omega
 ·have:=s.ZS nm;omega
theorem ahF(hr:s.aC≠[])(hS:SS pm d r i c1 c2 c3 c4 s co out σ)(hI:SI 5 q v c1 c2 c3 c4 s σ)(Γ:σ.mem= {ε:=M,η:=T})(hM:MM B pm ps P c bs co out.length st fr n x q (aS 5 0 [] ω z4 z4 ω ω) M T):
  μ (C u).gl (ab (C u)) qP σ (Zr B pm ps P c bs bH d D r i c1 c2 c3 c4 s co out st fr n M T):=by
 have wW:s.aC.length<=s.size/\s.bits.length<=s.size:=by unfold Sc.size;omega
 refine tv (u:=u) (mf:=fun z=>∃x' n' M' p nm,(n<=n'/\n'<=n+74)/\gE s.aC s.turns p/\(nm=bV [98] (fr+1)\/nm∈s.bits)/\SS pm d r i c1 c2 c3 c4 s co out z/\SI 5 q v c1 c2 c3 c4 s z/\z.mem= {ε:=M',η:=T}/\MM B pm ps P c bs co out.length st (fr+1) n' x' q (aS 5 0 nm (.list .full [p.av]) z4 z4 ω ω) M' T) hS hI Γ (fun σ' h1 h2 h3=>μ.mono (aef (u:=u) hm hs φ hb h1 h2 h3 hM (by omega) (by omega) (by omega) hr (by omega)) fun z hz=> .inr hz) fun z ⟨x',n',M',p,nm,l1,l2,l3,h1,h2,h3,h4⟩=>?_;have fw:=tO (k:=5) (g:=0) (nm:=nm) (cp:= .full) (nX:=[p]) (fun y hy=>(by rw[fY.1 hy];exact l2.fx)) nU nU (body:=[]) (els:=[]) oV oV;have hL:=gY (k:=5) (g:=0) (nm:=nm) (P:= .list .full [p.av]) (b:=ω) (e:=ω) eV eV;refine bS (fun z=>SS pm d r i c1 c2 c3 c4 s co out z/\SI 5 q v c1 c2 c3 c4 s z/\z.mem= {ε:=M',η:=T}) (μ.mono (IZ (u:=u) (by omega) h1 h2 h3) fun z ⟨h1,h2⟩=> .inl ⟨h1,h2⟩) fun z ⟨h1,h2,h3⟩=>?_;refine bS (fun z=>∃kS M2,SS pm d r i c1 c2 kS c4 (s.bit nm) co out z/\SI 5 q v c1 c2 c3 c4 s z/\(kS= .nil->(s.bit nm).bits=[])/\z.mem= {ε:=M2,η:=T}/\MM B pm ps P c bs co out.length st (fr+1) n' x' q (aS 5 0 nm (.list .full [p.av]) z4 z4 ω ω) M2 T) (μ.mono (aiB (u:=u) hm hs eV eV k3 (by omega) h1 h2 h3 h4) fun z hz=> .inl hz) fun z ⟨kS,M2,h1,h2,a1,h3,h4⟩=>?_;have dA:(s.bit nm).aC=s.aC/\(s.bit nm).cu=s.cu/\(s.bit nm).turns=s.turns:=by unfold Sc.bit;split<;>exact⟨rfl,rfl,rfl⟩
 refine μ.mono (IF (u:=u) hm hs h1 h2 h3 h4 hL fw.ν ho rfl dm) fun z ⟨y1,eX,N,y2,y3,y4⟩=> .inr ⟨y1,x',n',st,fr+1,N,T,c1,c2,kS,c4,s.bit nm,eX,_,_,y2,y3,y4,h4.tt,.measure l2 l3,fw,hL,by omega,by omega,by omega,?_,?_,fun h=>by rw[dA.1];exact k1 h,fun h=>by rw[dA.2.1];exact k2 h,a1,fun h=>by rw[dA.2.2];exact k4 h⟩
 ·simp[bD,δ.cnt,bf,bz];omega
 ·have:=s.Yl nm;omega
theorem ahC(hr:s.aC≠[])(hS:SS pm d r i c1 c2 c3 c4 s co out σ)(hI:SI 6 q v c1 c2 c3 c4 s σ)(Γ:σ.mem= {ε:=M,η:=T})(hM:MM B pm ps P c bs co out.length st fr n x q (aS 6 0 [] ω z4 z4 ω ω) M T):
  μ (C u).gl (ab (C u)) qP σ (Zr B pm ps P c bs bH d D r i c1 c2 c3 c4 s co out st fr n M T):=by
 have wW:s.aC.length<=s.size:=by unfold Sc.size;omega
 refine tv (u:=u) (mf:=fun z=>∃x' n' M' p,(n<=n'/\n'<=n+72)/\gE s.aC s.turns p/\SS pm d r i c1 c2 c3 c4 s co out z/\SI 6 q v c1 c2 c3 c4 s z/\z.mem= {ε:=M',η:=T}/\MM B pm ps P c bs co out.length st fr n' x' q (aS 6 0 [] (.list .full [p.av]) z4 z4 ω ω) M' T) hS hI Γ (fun σ' h1 h2 h3=>μ.mono (aec (u:=u) hm hs φ hb h1 h2 h3 hM (by omega) hr (by omega)) fun z hz=> .inr hz) fun z ⟨x',n',M',p,l1,l2,h1,h2,h3,h4⟩=>?_;have fw:=tO (k:=6) (g:=0) (nm:=[]) (cp:= .full) (nX:=[p]) (fun y hy=>(by rw[fY.1 hy];exact l2.fx)) nU nU (body:=[]) (els:=[]) oV oV;have hL:=gY (k:=6) (g:=0) (nm:=[]) (P:= .list .full [p.av]) (b:=ω) (e:=ω) eV eV;refine μ.mono (KZ (u:=u) hm hs (by omega) (by omega) h1 h2 h3 h4 hL fw.ν ho rfl dm) fun z ⟨y1,eX,N,y2,y3,y4⟩=> .inr ⟨y1,x',n',st,fr,N,T,c1,c2,c3,c4,s,eX,_,_,y2,y3,y4,h4.tt,.reset l2,fw,hL,by omega,by omega,by omega,?_,aO,k1,k2,k3,k4⟩;simp[bD,δ.cnt,bf,bz];omega
theorem ahB{cP:τ}{Ps:List AV}{bc:List ξ}(hP:P= .list cP Ps)(kU:bL Ps (bc.map ξ.av))(gI:∀y∈bc,y.au.length<=3)(dS:bc.length<1000000)(Dw:bH=kZ bc)(hr:s.aC≠[])(hS:SS pm d r i c1 c2 c3 c4 s co out σ)(hI:SI 9 q v c1 c2 c3 c4 s σ)(Γ:σ.mem= {ε:=M,η:=T})(hM:MM B pm ps P c bs co out.length st fr n x q (aS 9 0 [] ω z4 z4 ω ω) M T):
  μ (C u).gl (ab (C u)) qP σ (Zr B pm ps P c bs bH d D r i c1 c2 c3 c4 s co out st fr n M T):=by
 have wW:s.aC.length<=s.size:=by unfold Sc.size;omega
 refine tv (u:=u) (mf:=fun z=>∃x' n' M' T' nm k cp,∃l:List ρ,(n<=n'/\n'<=n+280)/\(nm,k)∈kZ bc/\l.length=k/\(∀p∈l,gE s.aC s.turns p)/\SS pm d r i c1 c2 c3 c4 s co out z/\SI 9 q v c1 c2 c3 c4 s z/\z.mem= {ε:=M',η:=T'}/\MM B pm ps P c bs co out.length st fr n' x' q (aS 9 0 nm (.list cp (l.map ρ.av)) z4 z4 ω ω) M' T'/\cp.exp 0 false=Ξ l) hS hI Γ (fun σ' h1 h2 h3=>μ.mono (aeb (u:=u) hm hs φ hb hP kU gI dS h1 h2 h3 hM (by omega) hr (by omega)) fun z hz=>?_) fun z ⟨x',n',M',T',nm,k,cp,l,l1,l2,l3,l4,h1,h2,h3,h4,mz⟩=>?_
 ·rcases hz with hz|hz
  ·exact .inl ⟨hz.1,.inl hz⟩
  ·exact .inr hz
 have fw:=tO (k:=9) (g:=0) (nm:=nm) (cp:=cp) (fun p hp=>(l4 p hp).fx) nU nU (body:=[]) (els:=[]) oV oV;have hL:=gY (k:=9) (g:=0) (nm:=nm) (P:= .list cp (l.map ρ.av)) (b:=ω) (e:=ω) eV eV;refine μ.mono (KZ (u:=u) hm hs (by omega) (by omega) h1 h2 h3 h4 hL fw.ν ho rfl dm) fun z ⟨y1,eX,N,y2,y3,y4⟩=> .inr ⟨y1,x',n',st,fr,N,T',c1,c2,c3,c4,s,eX,_,_,y2,y3,y4,h4.tt,.call (by rw[Dw];exact l2) l3 l4 mz,fw,hL,by omega,by omega,by omega,?_,aO,k1,k2,k3,k4⟩;simp[bD,δ.cnt,bf,bz];omega
end
section
variable{B:List θ}{pm ps:Nat}{P:AV}{c:τ}{bs:List Nat}{co:τ}{lo st fr n:Nat}{x:Int}{M:List θ}{q:Nat}{L:List AV}{T:List Nat}
variable(hm:pm<B.length)(hs:ps<B.length)(φ:pm≠ps)(hb:bs.length<=300)
variable{d:Nat}{r i:Int}{c1 c2 c3 c4:τ}{s:Sc}{out:List AV}{v:Nat}{σ:St}
include hm hs φ hb
variable{bH:List (List Nat×Nat)}{D:Nat}
variable(Ω:st<=40)(dH:fr+41<=1000+st)(hn:n+300+12*D<500000000000000000)(mY:st+12*D<500000000000000000)(aO:s.size<=2*fr)(k1:c1= .nil->s.aC=[])(k2:c2= .nil->s.cu=[])(k3:c3= .nil->s.bits=[])(k4:c4= .nil->s.turns=[])(ho:out.all (shaped true 14)=true)(dm:out.length<1000000)
variable(rec:Bk u pm ps P c bs bH (d+1) D)(rB:d<5)
include Ω dH hn mY aO k1 k2 k3 k4 ho dm rec rB
theorem ahA(hS:SS pm d r i c1 c2 c3 c4 s co out σ)(hI:SI 4 q v c1 c2 c3 c4 s σ)(Γ:σ.mem= {ε:=M,η:=T})(hM:MM B pm ps P c bs co out.length st fr n x q (aS 4 0 [] ω z4 z4 ω ω) M T):
  μ (C u).gl (ab (C u)) qP σ (Zr B pm ps P c bs bH d D r i c1 c2 c3 c4 s co out st fr n M T):=by
 have wW:s.aC.length<=s.size:=by unfold Sc.size;omega
 have vb:((d+1:Nat):Int)=(d:Int)+1:=by omega
 refine tv (u:=u) (mf:=fun z=>∃x' n' M' ix c',(n<=n'/\n'<=n+35)/\cZ s.turns 4 ix/\SS pm d r i c1 c2 c3 c4 s co out z/\SI 4 q v c' c2 c3 c4 (s.mI (bV [114] (fr+1))) z/\c'≠ .nil/\z.mem= {ε:=M',η:=T}/\MM B pm ps P c bs co out.length st (fr+1) n' x' q (aS 4 0 (bV [114] (fr+1)) ω ix.four z4 ω ω) M' T) hS hI Γ (fun σ' h1 h2 h3=>μ.mono (aea (u:=u) hm hs φ hb h1 h2 h3 hM (by omega) (by omega) (by omega) k1) fun z hz=> .inr hz) fun z ⟨x',n',M',ix,c',l1,l2,h1,h2,l3,h3,h4⟩=>?_;obtain⟨x2,n2,oY,gP,cap,body,a1,a2,a3,a4,a5,a7,a8,l8⟩:=rec M' st (fr+1) n' x' c' c2 c3 c4 (s.mI (bV [114] (fr+1))) h4.kt.ms (by omega) (by omega) (by omega) (by rw[Sc.aeP];omega) (fun h=>absurd h l3) k3 k4;rw[vb]at l8;generalize jV:bV [114] (fr+1)=nm at*;have M2:=h4.both hm hs φ oY gP n2 x2;have M3:=M2.cell hm hs (aS 4 0 nm ω ix.four z4 (.list cap (δ.χ body)) ω);have fw:=tO (k:=4) (g:=0) (nm:=nm) (cp:= .nil) (nX:=[]) (fun p hp=>(by cases hp)) l2.fx nU (els:=[]) a8 oV;have hL:=gY (k:=4) (g:=0) (nm:=nm) (P:=ω) (b:= .list cap (δ.χ body)) (e:=ω) ix.eY eV;refine bS (fun z=>SS pm d r i c1 c2 c3 c4 s co out z/\SI 4 q v c' c2 c3 c4 (s.mI nm) z/\z.mem= {ε:=((M'.set pm (.cells (bG ps P (oY:Nat) gP))).set ps (.cells (aP c bs n2 x2))).set q (.cells (aS 4 0 nm ω ix.four z4 (.list cap (δ.χ body)) ω)),η:=T}) (μ.mono (OT (u:=u) (.inl rfl) ix.eY eV a8 rfl (by omega) l8 M2.q2 h1 h2 h3) fun z hz=> .inl hz) fun z ⟨h1,h2,h3⟩=>?_;refine μ.mono (CG (u:=u) hm hs (by omega) h1 h2 h3 M3 hL fw.ν ho rfl dm) fun z ⟨y1,eX,N,y2,y3,y4⟩=> .inr ⟨y1,x2,n2,oY,gP,N,T,c1,c2,c3,c4,s,eX,_,_,y2,y3,y4,h4.tt,?_,fw,hL,by omega,by omega,by omega,?_,by omega,k1,k2,k3,k4⟩
 ·rw[<-jV]at a4⊢;exact .borrow rB l2 a4 (a7▸kE _) a7
 ·simp[bD,δ.cnt,bf,bz];omega
theorem ahG(hS:SS pm d r i c1 c2 c3 c4 s co out σ)(hI:SI 8 q v c1 c2 c3 c4 s σ)(Γ:σ.mem= {ε:=M,η:=T})(hM:MM B pm ps P c bs co out.length st fr n x q (aS 8 0 [] ω z4 z4 ω ω) M T):
  μ (C u).gl (ab (C u)) qP σ (Zr B pm ps P c bs bH d D r i c1 c2 c3 c4 s co out st fr n M T):=by
 have wW:s.turns.length<=s.size:=by unfold Sc.size;omega
 have vb:((d+1:Nat):Int)=(d:Int)+1:=by omega
 refine tv (u:=u) (mf:=fun z=>∃x' n' M' ix iy c',(n<=n'/\n'<=n+30)/\cZ s.turns 3 ix/\cZ s.turns 3 iy/\SS pm d r i c1 c2 c3 c4 s co out z/\SI 8 q v c1 c2 c3 c' (s.dZ (bV [105] (fr+1))) z/\c'≠ .nil/\z.mem= {ε:=M',η:=T}/\MM B pm ps P c bs co out.length st (fr+1) n' x' q (aS 8 0 (bV [105] (fr+1)) ω ix.four iy.four ω ω) M' T) hS hI Γ (fun σ' h1 h2 h3=>μ.mono (aeg (u:=u) hm hs φ hb h1 h2 h3 hM (by omega) (by omega) (by omega) k4) fun z hz=> .inr hz) fun z ⟨x',n',M',ix,iy,c',l1,l2,xb,h1,h2,l3,h3,h4⟩=>?_;obtain⟨x2,n2,oY,gP,cap,body,a1,a2,a3,a4,a5,a7,a8,l8⟩:=rec M' st (fr+1) n' x' c1 c2 c3 c' (s.dZ (bV [105] (fr+1))) h4.kt.ms (by omega) (by omega) (by omega) (by rw[Sc.ajl];omega) k1 k3 (fun h=>absurd h l3);rw[vb]at l8;generalize jV:bV [105] (fr+1)=nm at*;have M2:=h4.both hm hs φ oY gP n2 x2;have M3:=M2.cell hm hs (aS 8 0 nm ω ix.four iy.four (.list cap (δ.χ body)) ω);have fw:=tO (k:=8) (g:=0) (nm:=nm) (cp:= .nil) (nX:=[]) (fun p hp=>(by cases hp)) l2.fx xb.fx (els:=[]) a8 oV;have hL:=gY (k:=8) (g:=0) (nm:=nm) (P:=ω) (b:= .list cap (δ.χ body)) (e:=ω) ix.eY iy.eY;refine bS (fun z=>SS pm d r i c1 c2 c3 c4 s co out z/\SI 8 q v c1 c2 c3 c' (s.dZ nm) z/\z.mem= {ε:=((M'.set pm (.cells (bG ps P (oY:Nat) gP))).set ps (.cells (aP c bs n2 x2))).set q (.cells (aS 8 0 nm ω ix.four iy.four (.list cap (δ.χ body)) ω)),η:=T}) (μ.mono (OT (u:=u) (.inr (.inl rfl)) ix.eY iy.eY a8 rfl (by omega) l8 M2.q2 h1 h2 h3) fun z hz=> .inl hz) fun z ⟨h1,h2,h3⟩=>?_;refine μ.mono (CG (u:=u) hm hs (by omega) h1 h2 h3 M3 hL fw.ν ho rfl dm) fun z ⟨y1,eX,N,y2,y3,y4⟩=> .inr ⟨y1,x2,n2,oY,gP,N,T,c1,c2,c3,c4,s,eX,_,_,y2,y3,y4,h4.tt,?_,fw,hL,by omega,by omega,by omega,?_,by omega,k1,k2,k3,k4⟩
 ·rw[<-jV]at a4⊢;exact .loop rB l2 xb a4 (a7▸kE _) a7
 ·simp[bD,δ.cnt,bf,bz];omega
theorem ahI(hS:SS pm d r i c1 c2 c3 c4 s co out σ)(hI:SI 10 q v c1 c2 c3 c4 s σ)(Γ:σ.mem= {ε:=M,η:=T})(hM:MM B pm ps P c bs co out.length st fr n x q (aS 10 0 [] ω z4 z4 ω ω) M T):
  μ (C u).gl (ab (C u)) qP σ (Zr B pm ps P c bs bH d D r i c1 c2 c3 c4 s co out st fr n M T):=by
 have vb:((d+1:Nat):Int)=(d:Int)+1:=by omega
 refine tv (u:=u) (mf:=fun z=>SS pm d r i c1 c2 c3 c4 s co out z/\SI 10 q v c1 c2 c3 c4 s z/\z.mem= {ε:=M,η:=T}) hS hI Γ (fun σ' h1 h2 h3=>μ.skip (.inr ⟨rfl,h1,h2,h3⟩)) fun z ⟨h1,h2,h3⟩=>?_;obtain⟨x2,n2,oY,gP,cap,body,a1,a2,a3,a4,a5,a7,a8,l8⟩:=rec M st fr n x c1 c2 c3 c4 s hM.kt.ms (by omega) (by omega) (by omega) aO k1 k3 k4;rw[vb]at l8;have M2:=hM.both hm hs φ oY gP n2 x2;have M3:=M2.cell hm hs (aS 10 0 [] ω z4 z4 (.list cap (δ.χ body)) ω);have fw:=tO (k:=10) (g:=0) (nm:=[]) (cp:= .nil) (nX:=[]) (fun p hp=>(by cases hp)) nU nU (els:=[]) a8 oV;have hL:=gY (k:=10) (g:=0) (nm:=[]) (P:=ω) (b:= .list cap (δ.χ body)) (e:=ω) eV eV;refine bS (fun z=>SS pm d r i c1 c2 c3 c4 s co out z/\SI 10 q v c1 c2 c3 c4 s z/\z.mem= {ε:=((M.set pm (.cells (bG ps P (oY:Nat) gP))).set ps (.cells (aP c bs n2 x2))).set q (.cells (aS 10 0 [] ω z4 z4 (.list cap (δ.χ body)) ω)),η:=T}) (μ.mono (OT (u:=u) (.inr (.inr rfl)) eV eV a8 rfl (by omega) l8 M2.q2 h1 h2 h3) fun z hz=> .inl hz) fun z ⟨h1,h2,h3⟩=>?_;refine μ.mono (CG (u:=u) hm hs (by omega) h1 h2 h3 M3 hL fw.ν ho rfl dm) fun z ⟨y1,eX,N,y2,y3,y4⟩=> .inr ⟨y1,x2,n2,oY,gP,N,T,c1,c2,c3,c4,s,eX,_,_,y2,y3,y4,hM.tt,.qT rB a4 (a7▸kE _) a7,fw,hL,by omega,by omega,by omega,?_,by omega,k1,k2,k3,k4⟩;simp[bD,δ.cnt,bf,bz];omega
theorem Xk{k g:Int}{nm:List Nat}(hk:k=7\/k=11){n':Nat}{x':Int}{M':List θ}(wS:n<=n'/\n'<=n+1)(h1:SS pm d r i c1 c2 c3 c4 s co out σ)(h2:SI k q v c1 c2 c3 c4 s σ)(h3:σ.mem= {ε:=M',η:=T})(h4:MM B pm ps P c bs co out.length st fr n' x' q (aS k g nm ω z4 z4 ω ω) M' T)
  (qp:∀{gP Au:Nat} {cb ce:τ} {body els:List δ},aY bH (d+1) fr s.inner body gP->aY bH (d+1) gP s.inner els Au->bm cb->cb=Ξ body->bm ce->ce=Ξ els->fB bH d fr s (bD k g nm .nil [] jy jy cb body ce els) Au s):
  μ (C u).gl (ab (C u)) (.seq ui (.seq qE za)) σ (Zr B pm ps P c bs bH d D r i c1 c2 c3 c4 s co out st fr n M T):=by
 have vb:((d+1:Nat):Int)=(d:Int)+1:=by omega
 obtain⟨x2,n2,oY,gP,cap,body,a1,a2,a3,a4,a5,a7,a8,l8⟩:=rec M' st fr n' x' c1 c2 c3 c4 s h4.kt.ms (by omega) (by omega) (by omega) aO k1 k3 k4;have M2:=h4.both hm hs φ oY gP n2 x2;obtain⟨x3,n3,O2,Au,gh,els,b1,b2,b3,b4,b5,b7,b8,Bw⟩:=rec _ oY gP n2 x2 c1 c2 c3 c4 s M2.kt.ms (by omega) (by omega) (by omega) (by omega) k1 k3 k4;rw[vb]at l8 Bw;have M3:=M2.both hm hs φ O2 Au n3 x3;have M4:=M3.cell hm hs (aS k g nm ω z4 z4 (.list cap (δ.χ body)) (.list gh (δ.χ els)));have fw:=tO (k:=k) (g:=g) (nm:=nm) (cp:= .nil) (nX:=[]) (fun p hp=>(by cases hp)) nU nU a8 b8;have hL:=gY (k:=k) (g:=g) (nm:=nm) (P:=ω) (b:= .list cap (δ.χ body)) (e:= .list gh (δ.χ els)) eV eV;refine bS (fun z=>SS pm d r i c1 c2 c3 c4 s co out z/\SI k q v c1 c2 c3 c4 s z/\z.mem= {ε:=((((M'.set pm (.cells (bG ps P (oY:Nat) gP))).set ps (.cells (aP c bs n2 x2))).set pm (.cells (bG ps P (O2:Nat) Au))).set ps (.cells (aP c bs n3 x3))).set q (.cells (aS k g nm ω z4 z4 (.list cap (δ.χ body)) (.list gh (δ.χ els)))),η:=T}) (μ.mono (aiz (u:=u) hk eV eV a8 rfl b8 rfl (by omega) l8 Bw M3.q2 h1 h2 h3) fun z hz=> .inl hz) fun z ⟨h1,h2,h3⟩=>?_;refine μ.mono (CG (u:=u) hm hs (by omega) h1 h2 h3 M4 hL fw.ν ho rfl dm) fun z ⟨y1,eX,N,y2,y3,y4⟩=> .inr ⟨y1,x3,n3,O2,Au,N,T,c1,c2,c3,c4,s,eX,_,_,y2,y3,y4,h4.tt,qp a4 b4 (a7▸kE _) a7 (b7▸kE _) b7,fw,hL,by omega,by omega,by omega,?_,by omega,k1,k2,k3,k4⟩;rcases hk with rfl|rfl<;>simp[bD,δ.cnt,bf,bz]<;>omega
theorem ahK(hS:SS pm d r i c1 c2 c3 c4 s co out σ)(hI:SI 11 q v c1 c2 c3 c4 s σ)(Γ:σ.mem= {ε:=M,η:=T})(hM:MM B pm ps P c bs co out.length st fr n x q (aS 11 0 [] ω z4 z4 ω ω) M T):
  μ (C u).gl (ab (C u)) qP σ (Zr B pm ps P c bs bH d D r i c1 c2 c3 c4 s co out st fr n M T):=by
 refine tv (u:=u) (mf:=fun z=>SS pm d r i c1 c2 c3 c4 s co out z/\SI 11 q v c1 c2 c3 c4 s z/\z.mem= {ε:=M,η:=T}) hS hI Γ (fun σ' h1 h2 h3=>μ.skip (.inr ⟨rfl,h1,h2,h3⟩)) fun z ⟨h1,h2,h3⟩=>?_;exact Xk hm hs φ hb Ω dH hn mY aO k1 k2 k3 k4 ho dm rec rB (.inr rfl) (by omega) h1 h2 h3 hM fun g1 g2 g3 g4 g5 g6=> .within rB g1 g2 g3 g4 g5 g6
theorem ahJ(hS:SS pm d r i c1 c2 c3 c4 s co out σ)(hI:SI 7 q v c1 c2 c3 c4 s σ)(Γ:σ.mem= {ε:=M,η:=T})(hM:MM B pm ps P c bs co out.length st fr n x q (aS 7 0 [] ω z4 z4 ω ω) M T):
  μ (C u).gl (ab (C u)) qP σ (Zr B pm ps P c bs bH d D r i c1 c2 c3 c4 s co out st fr n M T):=by
 have wW:s.bits.length<=s.size:=by unfold Sc.size;omega
 refine tv (u:=u) (mf:=fun z=>∃x' n' M' nm,(n<=n'/\n'<=n+1)/\nm∈s.bits/\SS pm d r i c1 c2 c3 c4 s co out z/\SI 7 q v c1 c2 c3 c4 s z/\z.mem= {ε:=M',η:=T}/\MM B pm ps P c bs co out.length st fr n' x' q (aS 7 0 nm ω z4 z4 ω ω) M' T) hS hI Γ (fun σ' h1 h2 h3=>μ.mono (aei (u:=u) hm hs φ hb h1 h2 h3 hM (by omega) (by omega)) fun z hz=>?_) fun z ⟨x',n',M',nm,l1,l2,h1,h2,h3,h4⟩=>?_
 ·rcases hz with hz|hz
  ·exact .inl ⟨hz.1,.inl hz⟩
  ·exact .inr hz
 exact Xk hm hs φ hb Ω dH hn mY aO k1 k2 k3 k4 ho dm rec rB (.inl rfl) l1 h1 h2 h3 h4 fun g1 g2 g3 g4 g5 g6=> .cond rB l2 g1 g2 g3 g4 g5 g6
end
end Go.Δ.Tz
namespace Go.Δ
mutual
theorem Ru:∀v,pf v=true->pf (ej v)=true/\ej (ej v)=ej v
 | .int _ _,_=>⟨rfl,rfl⟩
 | .bool _,_=>⟨rfl,rfl⟩
 | .str _,_=>⟨rfl,rfl⟩
 | .list c l,h=>by obtain⟨h1,h2⟩:=Fy l (by simpa only[pf]using h);refine⟨by simpa only[ej,pf]using h1,?_⟩;simp only[ej,h2,uZ]
 | .agg l,h=>by obtain⟨h1,h2⟩:=Fy l (by simpa only[pf]using h);exact⟨by simpa only[ej,pf]using h1,by simp only[ej,h2]⟩
 | .aU l,h=>by obtain⟨h1,h2⟩:=Fy l (by simpa only[pf]using h);exact⟨by simpa only[ej,pf]using h1,by simp only[ej,h2]⟩
 | .undef,h| .cR,h| .ig,h| .eQ,h| .gq,h| .fQ,h=>by simp[pf]at h
 | .ak _ _ _,h| .κ _ _,h| .ref _,h| .sl _ _ _ _ _,h| .fn _ _ _,h| .iface _ _,h| .map _,h=>by simp[pf]at h
theorem Fy:∀l,kL l=true->kL (jF l)=true/\jF (jF l)=jF l
 |[],_=>⟨rfl,rfl⟩
 |v::l,h=>by simp only[kL,Bool.and_eq_true]at h;obtain⟨h1,h2⟩:=Ru v h.1;obtain⟨k1,k2⟩:=Fy l h.2;exact⟨by simp only[jF,kL,h1,k1];rfl,by simp only[jF,h2,k2]⟩
end
theorem Dv.self{v w:AV}(h:Dv v w):Dv w w:=by have:=Ru v h.1;rw[h.2]at this;exact this
end Go.Δ
namespace Go.Δ.Tz
open Go.Δ
variable{u:Nat}
attribute [local simp] exec ef dR e_ aJ dF fE eR br fM bR iL iS jm jE mo Kg Kk Kl Kj Kh Ki vM jA rd wr iu single ff eF μ cF RV.get cK fV kT tQ
inductive xK (bH:List (List Nat×Nat)) (d oB:Nat) (s0:Sc):List δ->Nat->Sc->Prop
 |nil:xK bH d oB s0 [] oB s0
 |snoc {l:List δ} {y:δ} {fr aA:Nat} {s s':Sc} (h1:xK bH d oB s0 l fr s) (h2:fB bH d fr s y aA s'):xK bH d oB s0 (l++[y]) aA s'
theorem xK.bl{bH:List (List Nat×Nat)}{d oB fr:Nat}{s0 s:Sc}{l:List δ}(h:xK bH d oB s0 l fr s):∀{r:List δ} {gP:Nat},aY bH d fr s r gP->aY bH d oB s0 (l++r) gP:=by
 induction h with
 |nil=>exact fun h=>h
 |snoc h1 h2 ih=>
  intro r gP hr
  rw[List.append_assoc];exact ih (.cons h2 hr)
theorem Zq(l:List δ)(y:δ):δ.bK (l++[y])=δ.bK l+y.cnt:=by
 induction l with
 |nil=>simp[δ.bK]
 |cons a l ih=>simp only[List.cons_append,δ.bK,ih];omega
theorem VA{f:FuncId}{g:AF}{args:List AV}{B B':List θ}{v:AV}(h1:(C u).gM f=none)(h2:(C u).fs f=some g)(h3:(C u).ba f=false)(hl:B'.length=B.length)(hx:args.map (exp B.length false)=args)
  (hr:μ (C u).gl (ab (C u)) g.code {env:=args,loc:=[],mem:= {ε:=B,η:=[]}} fun r=>(∀i,r.1≠ .exit i)/\(∃bs T',r.2.mem= {ε:=B'++bs,η:=T'}/\∀i∈T',B.length<=i)/\∃l,cF r.2 g.results=some l/\aQ r.2.mem.ε B.length 8 (cK l)=v) (T:List Nat):
  ab (C u) (.fn (.func f) [] []) args {ε:=B,η:=T}=some (v,{ε:=B',η:=T}):=by
 obtain⟨⟨ex,s'⟩,q1,q2,⟨bs,T',q3,q4⟩,l,q5,q6⟩:=hr;have eG:([]++args++[]).map (exp B.length false)=args:=by simp only[List.nil_append,dM,hx]
 have:ab (C u) (.fn (.func f) [] []) args {ε:=B,η:=T}=some (aQ s'.mem.ε B.length 8 (cK l),({ε:=B,η:=T}:Mem).back s'.mem):=by
  apply sy;simp only[body,h1,h2,h3,eG,q1];cases ex with
  |exit i=>exact absurd rfl (q2 i)
  |_=>simp only[fin,q5];rfl
 rw[this];dsimp only at q3 q6;rw[q6,q3];have hb:({ε:=B,η:=T}:Mem).back {ε:=B'++bs,η:=T'}=({ε:=B',η:=T}:Mem).back {ε:=B'++bs,η:=T'}:=by simp only[Mem.back,hl]
 rw[hb,PO _ _ _ (fun i hi=>by dsimp only;rw[hl];exact q4 i hi)]
section
variable{B:List θ}{pm ps:Nat}{P:AV}{c:τ}{bs:List Nat}
def Inv(B:List θ)(pm ps:Nat)(P:AV)(c:τ)(bs:List Nat)(bH:List (List Nat×Nat))(d D nY oB n0:Nat)(s0:Sc)(r i:Int)(j:Nat)(z:St):Prop:=
 ∃x n st fr M T c1 c2 c3 c4 s co out,∃l:List δ,SS pm d r i c1 c2 c3 c4 s co out z/\z.mem= {ε:=M,η:=T}/\(Kt B pm ps P c bs co out.length st fr n x M/\co.exp 0 false=Ξ l)/\(∀i∈T,B.length<=i)/\xK bH d oB s0 l fr s/\bL out (δ.χ l)/\out.all (shaped true 14)=true∧
  (n0<=n/\n<=n0+1+j*(300+2*D))/\(nY<=st/\st<=nY+j*(300+2*D))/\(oB<=fr/\fr+min nY 40<=oB+min st 40)/\δ.bK l+min nY 40<=min st 40/\out.length<=j/\s.size<=2*fr/\(c1= .nil->s.aC=[])/\(c2= .nil->s.cu=[])/\(c3= .nil->s.bits=[])/\(c4= .nil->s.turns=[])
variable(hm:pm<B.length)(hs:ps<B.length)(φ:pm≠ps)(hb:bs.length<=300)
variable{d D nY oB n0:Nat}{s0:Sc}{r i:Int}{bH:List (List Nat×Nat)}
variable{cP:τ}{Ps:List AV}{bc:List ξ}(hP:P= .list cP Ps)(kU:bL Ps (bc.map ξ.av))(gI:∀y∈bc,y.au.length<=3)(dS:bc.length<1000000)(Dw:bH=kZ bc)
variable(rec:d<5->Bk u pm ps P c bs bH (d+1) D)(oI:d<=5)(yJ:n0+1+12*(300+2*D)<500000000000000000)(Uy:nY+1+12*(300+2*D)<500000000000000000)(abl:oB+40<=1000+min nY 40)
include hm hs φ hb hP kU gI dS Dw rec oI
theorem ahz{co:τ}{st fr n:Nat}{x:Int}{M:List θ}{q:Nat}{T:List Nat}{c1 c2 c3 c4:τ}{s:Sc}{out:List AV}{v:Nat}{σ:St}{k:Int}
  (hk:1<=k/\k<=11) (Di:s.aC=[]->k=2\/k=4\/k=8\/k=10\/k=11) (oN:d=5->k≠4/\k≠7/\k≠8/\k≠10/\k≠11)
  (Ω:st<=40) (dH:fr+41<=1000+st) (hn:n+300+12*D<500000000000000000) (mY:st+12*D<500000000000000000) (aO:s.size<=2*fr) (k1:c1= .nil->s.aC=[]) (k2:c2= .nil->s.cu=[]) (k3:c3= .nil->s.bits=[]) (k4:c4= .nil->s.turns=[]) (ho:out.all (shaped true 14)=true) (dm:out.length<1000000)
  (hS:SS pm d r i c1 c2 c3 c4 s co out σ) (hI:SI k q v c1 c2 c3 c4 s σ) (Γ:σ.mem= {ε:=M,η:=T}) (hM:MM B pm ps P c bs co out.length st fr n x q (aS k 0 [] ω z4 z4 ω ω) M T):
  μ (C u).gl (ab (C u)) qP σ (Zr B pm ps P c bs bH d D r i c1 c2 c3 c4 s co out st fr n M T):=by
 have hr:k≠2/\k≠4/\k≠8/\k≠10/\k≠11->s.aC≠[]:=fun h e=>by have:=Di e;omega
 have hd:k=4\/k=7\/k=8\/k=10\/k=11->d<5:=fun h=>by
  rcases Nat.lt_or_ge d 5 with h'|h'
  ·exact h'
  ·have:=oN (by omega);omega
 have t_:k=1\/k=2\/k=3\/k=4\/k=5\/k=6\/k=7\/k=8\/k=9\/k=10\/k=11:=by omega
 rcases t_ with rfl|rfl|rfl|rfl|rfl|rfl|rfl|rfl|rfl|rfl|rfl
 ·exact ahE hm hs φ hb Ω dH hn mY aO k1 k2 k3 k4 ho dm (hr (by omega)) hS hI Γ hM
 ·exact ahH hm hs φ hb Ω dH hn mY aO k1 k2 k3 k4 ho dm hS hI Γ hM
 ·exact ahD hm hs φ hb Ω dH hn mY aO k1 k2 k3 k4 ho dm hS hI Γ hM
 ·exact ahA hm hs φ hb Ω dH hn mY aO k1 k2 k3 k4 ho dm (rec (hd (by omega))) (hd (by omega)) hS hI Γ hM
 ·exact ahF hm hs φ hb Ω dH hn mY aO k1 k2 k3 k4 ho dm (hr (by omega)) hS hI Γ hM
 ·exact ahC hm hs φ hb Ω dH hn mY aO k1 k2 k3 k4 ho dm (hr (by omega)) hS hI Γ hM
 ·exact ahJ hm hs φ hb Ω dH hn mY aO k1 k2 k3 k4 ho dm (rec (hd (by omega))) (hd (by omega)) hS hI Γ hM
 ·exact ahG hm hs φ hb Ω dH hn mY aO k1 k2 k3 k4 ho dm (rec (hd (by omega))) (hd (by omega)) hS hI Γ hM
 ·exact ahB hm hs φ hb Ω dH hn mY aO k1 k2 k3 k4 ho dm hP kU gI dS Dw (hr (by omega)) hS hI Γ hM
 ·exact ahI hm hs φ hb Ω dH hn mY aO k1 k2 k3 k4 ho dm (rec (hd (by omega))) (hd (by omega)) hS hI Γ hM
 ·exact ahK hm hs φ hb Ω dH hn mY aO k1 k2 k3 k4 ho dm (rec (hd (by omega))) (hd (by omega)) hS hI Γ hM
include yJ Uy abl
theorem Yy{j:Nat}(hj:j<4){σ:St}(hI:Inv B pm ps P c bs bH d D nY oB n0 s0 r i j σ):
  μ (C u).gl (ab (C u)) (.seq H8 (.seq H7 (.seq sZ (.seq H9 (.seq HY qP))))) σ fun z=>(z.1= .exit 0\/z.1= .exit 1\/z.1= .normal)/\Inv B pm ps P c bs bH d D nY oB n0 s0 r i (j+1) z.2:=by
 obtain⟨x,n,st,fr,M,T,c1,c2,c3,c4,s,co,out,l,hS,Γ,⟨hK,cC⟩,hT,yO,fw,dX,hn,Ω,dH,oG,Up,aO,k1,k2,k3,k4⟩:=hI;obtain⟨E,hE⟩:∃E,E=300+2*D:=⟨_,rfl⟩;have hjE:j*E<=4*E:=nu _ (by omega);have Hy:(j+1)*E=j*E+E:=Nat.succ_mul j E;rw[<-hE]at hn Ω yJ Uy;refine bS (fun z=>st<40/\SS pm d r i c1 c2 c3 c4 s co out z/\z.mem= {ε:=M.set pm (.cells (bG ps P (st+1:Nat) fr)),η:=T}) (μ.mono (agC (u:=u) hS Γ hK.ms (by omega)) fun z ⟨hz,h1,h2⟩=>?_) fun z ⟨ψ,h1,h2⟩=>?_
 ·rcases hz with⟨e,Lw⟩|⟨e,ψ⟩
  ·refine .inr ⟨by rw[e];simp,.inl e,x,n,st+1,fr,_,T,c1,c2,c3,c4,s,co,out,l,h1,h2,⟨hK.lY φ (st+1) fr,cC⟩,hT,yO,fw,dX,?_,?_,by omega,by omega,by omega,aO,k1,k2,k3,k4⟩<;>rw[<-hE,Hy]<;>omega
  ·exact .inl ⟨e,ψ,h1,h2⟩
 have K1:=hK.lY φ (st+1) fr;generalize M.set pm (.cells (bG ps P (st+1:Nat) fr))=M1 at h2 K1;refine bS (fun z=>∃x' n' k,(n<=n'/\n'<=n+1)/\(1<=k/\k<=11)/\SS pm d r i c1 c2 c3 c4 s co out z/\z.mem= {ε:=M1.set ps (.cells (aP c bs n' x')),η:=T}/\z.e 8= .n k) (μ.mono (agA (u:=u) hb h1 h2 K1.ms (by omega)) fun z hz=> .inl hz) fun z ⟨x2,n2,k,b1,b2,h1,h2,h3⟩=>?_;have K2:=K1.draw φ n2 x2;generalize M1.set ps (.cells (aP c bs n2 x2))=M2 at h2 K2;obtain⟨hk,Di,oN⟩:=Zk d s.aC.isEmpty k b2;refine bS (fun z=>SS pm d r i c1 c2 c3 c4 s co out z/\z.mem= {ε:=M2,η:=T}/\z.e 8= .n (iH d s.aC.isEmpty k)) (μ.mono (agv (u:=u) b2 h1 h3) fun z ⟨e1,e2,e3,e4⟩=> .inl ⟨e1,e2,by rw[e3,h2],e4⟩) fun z ⟨h1,h2,h3⟩=>?_;generalize iH d s.aC.isEmpty k=kk at*;obtain⟨σ1,q1,g1,g2,g3,g4⟩:=agu (u:=u) h1 h3 h2;refine μ.go q1 ?_;obtain⟨σ2,q2,f1,⟨v,f2⟩,f3⟩:=agB (u:=u) g1 g2 g3 g4;refine μ.go q2 ?_;have Pp:MM B pm ps P c bs co out.length (st+1) fr n2 x2 M2.length (aS kk 0 [] ω z4 z4 ω ω) (M2++[.cells (aS kk 0 [] ω z4 z4 ω ω)]) T:=⟨K2.push _,K2.len,by simp,hT⟩;refine μ.mono (ahz (u:=u) hm hs φ hb hP kU gI dS Dw rec oI hk (fun e=>Di (by rw[e];rfl)) (fun e=>oN (by omega)) (by omega) (by omega) (by omega) (by omega) aO k1 k2 k3 k4 dX (by omega) f1 f2 f3 Pp) fun z hz=>?_;rcases hz with⟨e,y1,y2⟩|⟨e,x',n',aT,aA,M',T',iw,iz,kS,lQ,s2,eX,L,y,y1,y2,⟨y3,yc⟩,y4,y5,y6,y7,y8,y9,y10,y11,y12,y13,y14,y15,y16⟩
 ·refine⟨.inr (.inl e),x2,n2,st+1,fr,_,T,c1,c2,c3,c4,s,co,out,l,y1,y2,⟨Pp.kt,cC⟩,hT,yO,fw,dX,?_,?_,by omega,by omega,by omega,aO,k1,k2,k3,k4⟩<;>rw[<-hE,Hy]<;>omega
 ·have hlen:(out++[AV.agg L]).length=out.length+1:=by simp
  refine⟨.inr (.inr e),x',n',aT,aA,M',T',iw,iz,kS,lQ,s2,eX,out++[.agg L],l++[y],y1,y2,⟨by rw[hlen];exact y3,by rw[yc];cases l<;>rfl⟩,y4,yO.snoc y5,?_,?_,?_,?_,by omega,by rw[Zq];omega,by rw[hlen];omega,y12,y13,y14,y15,y16⟩
  ·rw[δ.dW,kQ,<-δ.dW];exact fw.append (.cons y6 .nil)
  ·rw[akX,dX];simp[shaped,y7]
  ·rw[<-hE,Hy];omega
  ·rw[<-hE,Hy];omega
end
theorem RW{pm ps:Nat}{P:AV}{c:τ}{bs:List Nat}(φ:pm≠ps)(hb:bs.length<=300){cP:τ}{Ps:List AV}{bc:List ξ}(hP:P= .list cP Ps)(kU:bL Ps (bc.map ξ.av))(gI:∀y∈bc,y.au.length<=3)(dS:bc.length<1000000)(d D:Nat)(oI:d<=5)(rec:d<5->Bk u pm ps P c bs (kZ bc) (d+1) D):Bk u pm ps P c bs (kZ bc) d (1+4*(300+2*D)):=by
 intro M st fr n x c1 c2 c3 c4 s hM hn Ω dH aO k1 k3 k4;have hm:=hM.xu;have hs:=hM.vH;have yx:∀cc:τ,cc.exp 0 false= .nil->cc= .nil:=fun cc h=>by cases cc<;>simp[τ.exp]at h<;>rfl
 have hr:μ (C u).gl (ab (C u)) JT {env:=[.κ pm 0,.n (d:Int),.agg (gD (c1.exp 0 false) (c2.exp 0 false) (c3.exp 0 false) (c4.exp 0 false) s)],loc:=[],mem:= {ε:=M,η:=[]}} fun z=>z.1= .ret/\∃x' n' aT aA M' T' co out,∃l:List δ,∃s',z.2.mem= {ε:=M',η:=T'}/\br z.2.env 6= .list co out/\(Kt M pm ps P c bs co out.length aT aA n' x' M'/\co.exp 0 false=Ξ l)/\(∀i∈T',M.length<=i)/\xK (kZ bc) d fr s.inner l aA s'/\bL out (δ.χ l)∧
   (n<=n'/\n'<=n+1+4*(300+2*D))/\(st<=aT/\aT<=st+4*(300+2*D))/\(fr<=aA/\aA+min st 40<=fr+min aT 40)/\δ.bK l+min st 40<=min aT 40:=by
  have tT:(c1.exp 0 false)= .nil->s.inner.aC=[]:=fun h=>k1 (yx c1 h);have hc3:(c3.exp 0 false)= .nil->s.inner.bits=[]:=fun h=>k3 (yx c3 h);have hc4:(c4.exp 0 false)= .nil->s.inner.turns=[]:=fun h=>k4 (yx c4 h);generalize c1.exp 0 false=c1 at*;generalize c2.exp 0 false=c2 at*;generalize c3.exp 0 false=c3 at*;generalize c4.exp 0 false=c4 at*;have aiI:dk (gD c1 c2 c3 c4 s) 1 [.list .nil []]=gD c1 .nil c3 c4 s.inner:=rfl;obtain⟨x2,r,n2,b1,b2,b3,b4,-,ni⟩:=BL (u:=u) hM hb 5 (by omega);have b4:=b4 (by omega);obtain⟨r,rfl⟩:∃j:Nat,r=j:=⟨r.toNat,by omega⟩;have hg:M[pm]?=some (.cells (bG ps P st fr)):=hM.m;unfold JT;refine Ψ (fun z=>(z.e 0= .κ pm 0/\z.e 1= .n (d:Int))/\(z.e 5= .ak 5 0 0/\z.q 5=some (0,.cells (gD c1 c2 c3 c4 s)))/\z.mem= {ε:=M,η:=[]}) (by simp[newVar,bJ,iD]) fun z ⟨⟨h0,h1⟩,⟨h5,l5⟩,Γ⟩=>?_;refine Ψ (fun z=>(z.e 0= .κ pm 0/\z.e 1= .n (d:Int))/\(z.e 5= .ak 5 0 0/\z.q 5=some (0,.cells (gD c1 .nil c3 c4 s.inner)))/\z.mem= {ε:=M,η:=[]}) (by simp[h0,h1,h5,l5,Γ,iD,aiI]) fun z ⟨⟨h0,h1⟩,⟨h5,l5⟩,Γ⟩=>?_;refine Ψ (fun z=>(z.e 0= .κ pm 0/\z.e 1= .n (d:Int))/\(z.e 5= .ak 5 0 0/\z.q 5=some (0,.cells (gD c1 .nil c3 c4 s.inner)))/\z.mem= {ε:=M,η:=[]}/\z.e 7= .list .nil []) (by simp[h0,h1,h5,l5,Γ]) fun z ⟨⟨h0,h1⟩,⟨h5,l5⟩,Γ,h7⟩=>?_;refine bS (fun z=>∃i j,j<=4/\Inv M pm ps P c bs (kZ bc) d D st fr n s.inner (r:Int) i j z) ?_ fun z ⟨i,j,hj,hI⟩=>?_
  ·refine Ψ (fun z=>SS pm d r 0 c1 .nil c3 c4 s.inner .nil [] z/\z.mem= {ε:=M.set ps (.cells (aP c bs n2 x2)),η:=[]}) (by simp[SS,h0,h1,h5,l5,h7,Γ,hg,bG,ni]) fun z ⟨hS,Γ⟩=>?_;have K0:Kt M pm ps P c bs .nil 0 st fr n x M:=⟨hM,fun _ _ _ _=>rfl,b_ _,Go.Δ.Row.nil⟩;have K1:=K0.draw φ n2 x2;have qm:s.inner.size<=s.size:=by simp[Sc.size,Sc.inner]
   refine μ.block (μ.lH (I:=fun j z=>Inv M pm ps P c bs (kZ bc) d D st fr n s.inner (r:Int) (j:Int) j z) r ⟨x2,n2,st,fr,_,[],c1,.nil,c3,c4,s.inner,.nil,[],[],hS,Γ,⟨K1,rfl⟩,by simp,.nil,.nil,rfl,by omega,by omega,by omega,by simp[δ.bK],by simp,by omega,tT,fun _=>rfl,hc3,hc4⟩ fun j z hj hI=>?_);unfold UX;have sH:=hI;obtain⟨x,n',aT,aA,M',T',iw,iz,kS,lQ,s',co,out,l,hS,Γ,pK⟩:=sH;obtain⟨h0,h1,h5,l5,h7,bo,bu⟩:=hS;by_cases Df:j<r
   ·have ly:(j:Int)<r:=by omega
    have kj:bN .i64 ((j:Int)+1)=(j:Int)+1:=wrap_i64 (by omega) (by omega);refine Ψ (fun z=>Inv M pm ps P c bs (kZ bc) d D st fr n s.inner (r:Int) (j:Int) j z/\z.e 20= .bool true) ?_ fun z ⟨hI,yg⟩=>?_
    ·exact wi (P:=fun z=>(SS pm d r j iw iz kS lQ s' co out z/\z.mem= {ε:=M',η:=T'})/\z.e 20= .bool true) (by simp[SS,h0,h1,h5,l5,h7,bo,bu,Γ,ly,Df]) fun z ⟨⟨y1,y2⟩,y3⟩=>⟨⟨x,n',aT,aA,M',T',iw,iz,kS,lQ,s',co,out,l,y1,y2,pK⟩,y3⟩
    refine μ.go (s':=z) (by simp[yg]) ?_;refine bS (fun z=>Inv M pm ps P c bs (kZ bc) d D st fr n s.inner (r:Int) (j:Int) (j+1) z) (μ.block (μ.mono (Yy (u:=u) hm hs φ hb hP kU gI dS rfl rec oI (by omega) (by omega) dH (by omega) hI) fun z ⟨hz,hI⟩=>?_)) fun z hI=>?_
    ·rcases hz with e|e|e
     ·exact .inr ⟨by rw[e];simp,.inr ⟨by rw[e];simp,.inr ⟨by rw[e];simp,.inl ⟨e,.inl ⟨rfl,_,j+1,by omega,hI⟩⟩⟩⟩⟩
     ·exact .inl ⟨e,.inl ⟨rfl,hI⟩⟩
     ·exact .inr ⟨by rw[e];simp,.inl ⟨e,hI⟩⟩
    ·obtain⟨x,n',aT,aA,M',T',iw,iz,kS,lQ,s',co,out,l,hS,Γ,pK⟩:=hI;obtain⟨h0,h1,h5,l5,h7,bo,bu⟩:=hS;refine μ.done .normal (fun z=>SS pm d r ((j:Int)+1) iw iz kS lQ s' co out z/\z.mem= {ε:=M',η:=T'}) (by simp[SS,h0,h1,h5,l5,h7,bo,bu,Γ,kj]) fun z ⟨y1,y2⟩=> .inl ⟨rfl,Df,x,n',aT,aA,M',T',iw,iz,kS,lQ,s',co,out,l,by simpa using y1,y2,pK⟩
   ·have ly:¬(j:Int)<r:=by omega
    refine μ.done (.exit 0) (fun z=>SS pm d r j iw iz kS lQ s' co out z/\z.mem= {ε:=M',η:=T'}) (by simp[SS,h0,h1,h5,l5,h7,bo,bu,Γ,ly]) fun z ⟨y1,y2⟩=> .inr ⟨by simp,.inl ⟨rfl,.inl ⟨rfl,_,j,by omega,x,n',aT,aA,M',T',iw,iz,kS,lQ,s',co,out,l,y1,y2,pK⟩⟩⟩
  ·obtain⟨x,n',aT,aA,M',T',iw,iz,kS,lQ,s',co,out,l,⟨h0,h1,h5,l5,h7,bo,bu⟩,Γ,hK,hT,yO,fw,dX,gR,M8,abk,oG,-⟩:=hI;have hjE:j*(300+2*D)<=4*(300+2*D):=nu _ hj;generalize hE:j*(300+2*D)=E at*;refine μ.done .ret (fun z=>z.mem= {ε:=M',η:=T'}/\z.e 6= .list co out) (by simp[h7,Γ]) fun z ⟨y1,y2⟩=>⟨rfl,x,n',aT,aA,M',T',co,out,l,s',y1,y2,hK,hT,yO,fw,by omega,by omega,by omega,by omega⟩
 obtain⟨z,hx,e,x',n',aT,aA,M',T',co,out,l,s',Γ,h6,⟨hK,cC⟩,hT,yO,fw,gR,M8,abk,oG⟩:=hr;have Hh:Dv (.list co out) (.list (co.exp 0 false) (δ.χ l)):=Dv.list co fw;have LJ:M'=(M.set pm (.cells (bG ps P (aT:Nat) aA))).set ps (.cells (aP c bs n' x'))++M'.drop M.length:=by
  have h1:M'.take M.length=(M.set pm (.cells (bG ps P (aT:Nat) aA))).set ps (.cells (aP c bs n' x')):=by
   apply akY;intro i;by_cases hi:i<M.length
   ·rw[Jv hi];by_cases h2:i=ps
    ·subst h2;rw[hK.ms.s];simp[hs]
    ·rw[gN (Ne.symm h2)];by_cases h3:i=pm
     ·subst h3;rw[hK.ms.m];simp[hm]
     ·rw[gN (Ne.symm h3)];exact hK.nW i hi h3 h2
   ·rw[gW (by simp;omega),gW (by simp;omega)]
  rw[<-h1,akZ]
 refine⟨x',n',aT,aA,co.exp 0 false,l,by omega,by omega,by omega,?_,oG,cC,Hh.self,fun T=>?_⟩
 ·have:=yO.bl (r:=[]) .nil;rwa[dM]at this
 ·unfold kf;rw[Fq (args':=[.κ pm 0,.n (d:Int),.agg (gD (c1.exp 0 false) (c2.exp 0 false) (c3.exp 0 false) (c4.exp 0 false) s)]) (by rfl) (by simp only[gD,ax,aI,CF,uZ,exp,aX]) (by rfl)];refine VA (u:=u) (g:=FZ) rfl rfl rfl (by simp) (by simp only[gD,ax,aI,CF,uZ,exp,aX,hm,if_true]) ⟨z,hx,fun i=>by rw[e];simp,⟨_,T',by rw[Γ,<-LJ],hT⟩,[.list co out],by simp[FZ,h6],?_⟩ T;rw[Γ];exact Hh.aQ _ _ _
theorem f122{pm ps:Nat}{P:AV}{c:τ}{bs:List Nat}(φ:pm≠ps)(hb:bs.length<=300){cP:τ}{Ps:List AV}{bc:List ξ}(hP:P= .list cP Ps)(kU:bL Ps (bc.map ξ.av))(gI:∀y∈bc,y.au.length<=3)(dS:bc.length<1000000):∀e d,d+e=5->Bk u pm ps P c bs (kZ bc) d (xZ (e+1)):=by
 intro e;induction e with
 |zero=>intro d hd;exact RW φ hb hP kU gI dS d (xZ 0) (by omega) fun h=>by omega
 |succ e ih=>intro d hd;exact RW φ hb hP kU gI dS d (xZ (e+1)) (by omega) fun _=>ih (d+1) (by omega)
end Go.Δ.Tz
namespace Go.Δ
theorem Row.Hc{n:Nat}{M M':List θ}{sz eN:Nat}{e e':TypeId}{c:τ}{k len:Nat}(φ:¬(sz=eN/\e=e'))(h:Row n M sz e c k)(hM:M'=M++[.front 1 eN e']\/∃t,n<=t/\M[t]?=some (.front len eN e')/\M'=M.set t (.front (len+1) eN e')):Row n M' sz e c k:=
 h.ba fun t k ht=>by
  rcases hM with rfl|⟨t',h1,h2,rfl⟩
  ·rw[d_ (fI.1 ht).1];exact ht
  ·have:t'≠t:=fun e=>by rw[e,ht]at h2;cases h2;exact φ ⟨rfl,rfl⟩
   rw[gN this];exact ht
end Go.Δ
namespace Go.Δ.Tz
open Go.Δ
variable{u:Nat}
attribute [local simp] exec ef dR e_ aJ dF fE eR br fM bR iL iS jm jE mo Kg Kk Kl Kj Kh Ki vM jA rd wr iu single ff eF μ cF RV.get cK fV kT tQ
theorem VC{ps:Nat}{P:AV}{st:Int}{fr:Nat}:(bG ps P st fr).tail.take 1=[P]:=rfl
theorem aff{ps:Nat}{P:AV}{st:Int}{fr:Nat}(P':AV):dk (bG ps P st fr) 1 [P']=bG ps P' st fr:=rfl
theorem agL(l:List ai):(l.map ai.av).all (shaped true 2)=true:=by rw[List.all_eq_true];intro y hy;obtain⟨p,-,rfl⟩:=List.mem_map.1 hy;rfl
theorem ai.dv(p:ai):Dv p.av p.av:= .agg (.cons (.str _) (.cons (.int _ _) .nil))
structure Km (B:List θ) (pm ps:Nat) (P:AV) (c:τ) (bs:List Nat) (st fr n:Nat) (x:Int) (M:List θ) (T:List Nat):Prop where
 ms:MS pm ps P c bs st fr n x M
 nW:∀i,i<B.length->i≠ps->M[i]?=B[i]?
 len:B.length<=M.length
 tt:∀i∈T,B.length<=i
section
variable{B:List θ}{pm ps:Nat}{P:AV}{c:τ}{bs:List Nat}{st fr n:Nat}{x:Int}{M:List θ}{T:List Nat}
theorem Km.draw(h:Km B pm ps P c bs st fr n x M T)(φ:pm≠ps)(n':Nat)(x':Int):Km B pm ps P c bs st fr n' x' (M.set ps (.cells (aP c bs n' x'))) T:=
 ⟨h.ms.draw φ n' x',fun i h1 h2=>by rw[gN (Ne.symm h2)];exact h.nW i h1 h2,by simpa using h.len,h.tt⟩
theorem Km.lY(h:Km B pm ps P c bs st fr n x M T)(φ:pm≠ps)(hm:B.length<=pm)(aT aA:Nat):Km B pm ps P c bs aT aA n x (M.set pm (.cells (bG ps P aT aA))) T:=
 ⟨h.ms.lY φ aT aA,fun i h1 h2=>by rw[gN (by omega)];exact h.nW i h1 h2,by simpa using h.len,h.tt⟩
theorem Km.procs(h:Km B pm ps P c bs st fr n x M T)(φ:pm≠ps)(hm:B.length<=pm)(P':AV)(b:Bool):Km B pm ps P' c bs st fr n x (M.set pm (.cells (bG ps P' st fr))) (if b then T else pm::T):=
 ⟨⟨by simp[h.ms.xu],by rw[gN φ];exact h.ms.s⟩,fun i h1 h2=>by rw[gN (by omega)];exact h.nW i h1 h2,by simpa using h.len,by
  cases b with
  |true=>exact h.tt
  |false=>
   intro i hi
   rcases List.mem_cons.1 hi with rfl|hi
   ·exact hm
   ·exact h.tt i hi⟩
theorem Km.grow(h:Km B pm ps P c bs st fr n x M T)(hs:ps<B.length){sz:Nat}{e:TypeId}{M':List θ}{len:Nat}
  (hM:M'=M++[.front 1 sz e]\/∃t,B.length<=t/\M[t]?=some (.front len sz e)/\M'=M.set t (.front (len+1) sz e)):Km B pm ps P c bs st fr n x M' T:=by
 rcases hM with rfl|⟨t,h1,h2,rfl⟩
 ·exact⟨h.ms.push _,fun i a b=>by rw[d_ (Nat.lt_of_lt_of_le a h.len)];exact h.nW i a b,by have:=h.len;simp;omega,h.tt⟩
 ·have h3:t≠pm:=fun e=>by rw[e,h.ms.m]at h2;cases h2
  exact⟨h.ms.put h3 (by omega) _,fun i a b=>by rw[gN (by omega)];exact h.nW i a b,by simpa using h.len,h.tt⟩
theorem zx{N:Nat}{sz:Nat}{e:TypeId}{cp:τ}{k:Nat}(h:Go.Δ.Row N M sz e cp k)(ms:MS pm ps P c bs st fr n x M)(b:θ):Go.Δ.Row N (M.set pm b) sz e cp k:=OP h ms.m b
theorem Km.both(h:Km B pm ps P c bs st fr n x M T)(φ:pm≠ps)(hm:B.length<=pm)(aT aA n':Nat)(x':Int):Km B pm ps P c bs aT aA n' x' ((M.set pm (.cells (bG ps P aT aA))).set ps (.cells (aP c bs n' x'))) T:=(h.lY φ hm aT aA).draw φ n' x'
end
def SM(pm ps:Nat)(r i:Int)(σ:St):Prop:=σ.e 0= .κ ps 0/\σ.e 2= .ak 2 0 0/\σ.q 2=some (0,.cells [ω])/\σ.e 3= .κ pm 0/\σ.e 11= .n r/\σ.e 12= .n i
def SP(w4 w5:Nat)(nm:List Nat)(cp:τ)(l:List ai)(cr:τ)(σ:St):Prop:=σ.e 4= .ak 4 w4 0/\σ.q 4=some (w4,.cells [.str nm,.list cp (l.map ai.av),ω])/\σ.e 5= .ak 5 w5 0/\σ.q 5=some (w5,.cells [bw cr (l.map ai.name),ω,ω,ω])
section
variable{B:List θ}{pm ps:Nat}{c:τ}{bs:List Nat}(hs:ps<B.length)(φ:pm≠ps)(hm:B.length<=pm)(hb:bs.length<=300)
include hs φ hm hb
theorem agJ{cP:τ}{Ps:List AV}{st fr n:Nat}{x:Int}{M:List θ}{T:List Nat}{r i:Int}{w4 w5:Nat}{nm:List Nat}{k:Nat}(hk:k<=2){σ:St}(hS:SM pm ps r i σ)(hP:SP w4 w5 nm .nil [] .nil σ)(Γ:σ.mem= {ε:=M,η:=T})(hM:Km B pm ps (.list cP Ps) c bs st fr n x M T)(hR:Go.Δ.Row B.length M 3 70 cP Ps.length)(hn:n<1000000000000000000)(dH:fr<1000000)
  (bo:σ.e 18= .n (k:Int)) (bu:σ.e 19= .n 0):
  μ (C u).gl (ab (C u)) (.block 2 (.loop NH)) σ fun z=>z.1= .normal/\∃x' n' M' cp cr,∃l:List ai,(n<=n'/\n'<=n+2)/\SM pm ps r i z.2/\SP w4 w5 nm cp l cr z.2/\z.2.mem= {ε:=M',η:=T}/\Km B pm ps (.list cP Ps) c bs st (fr+k) n' x' M' T/\Go.Δ.Row B.length M' 3 70 cP Ps.length/\l.length=k/\(∀j (h:j<l.length),l[j].name=bV [113] (fr+1+j)/\1<=l[j].size/\l[j].size<=12)/\cp.exp 0 false=Ξ l/\(cr= .nil->l=[]):=by
 let I:Nat->St->Prop:=fun j z=>∃x' n' M' cp cr,∃l:List ai,(n<=n'/\n'<=n+j)/\SM pm ps r i z/\SP w4 w5 nm cp l cr z/\z.mem= {ε:=M',η:=T}/\Km B pm ps (.list cP Ps) c bs st (fr+j) n' x' M' T/\Go.Δ.Row B.length M' 3 70 cP Ps.length/\l.length=j/\(∀j (h:j<l.length),l[j].name=bV [113] (fr+1+j)/\1<=l[j].size/\l[j].size<=12)∧
  cp.exp 0 false=Ξ l/\Go.Δ.Row B.length M' 2 76 cp l.length/\Go.Δ.Row B.length M' 1 9 cr l.length/\z.e 18= .n (k:Int)/\z.e 19= .n (j:Int)
 refine μ.block (μ.lH (I:=I) k ⟨x,n,M,.nil,.nil,[],by omega,hS,hP,Γ,hM,hR,rfl,fun j h=>(by cases h),rfl,Go.Δ.Row.nil,Go.Δ.Row.nil,bo,by simpa using bu⟩ fun j z hj ⟨x',n',M',cp,cr,l,b1,hS,hP,Γ,hM,hR,hl,jU,mz,hRp,Te,bo,bu⟩=>?_);obtain⟨h0,h2,l2,h3,cH,dq⟩:=hS;obtain⟨h4,l4,h5,l5⟩:=hP;unfold NH;by_cases Hz:j<k
 ·have ly:(j:Int)<k:=by omega
  have kj:bN .i64 ((j:Int)+1)=(j:Int)+1:=wrap_i64 (by omega) (by omega);have ng:=BK (u:=u) hM.ms φ (by omega) [113] (by decide);have M1:=hM.lY φ hm st (fr+j+1);have Ra:=zx hR hM.ms (.cells (bG ps (.list cP Ps) st (fr+j+1:Nat)));have Rb:=zx hRp hM.ms (.cells (bG ps (.list cP Ps) st (fr+j+1:Nat)));have Rc:=zx Te hM.ms (.cells (bG ps (.list cP Ps) st (fr+j+1:Nat)));generalize M'.set pm (.cells (bG ps (.list cP Ps) st (fr+j+1:Nat)))=N1 at ng M1 Ra Rb Rc;obtain⟨x2,sz,n2,d1,d2,d3,d4,uB⟩:=Jh (u:=u) M1.ms hb 1 12 (by omega) (by omega) (by omega) (by omega);have M2:=M1.draw φ n2 x2;have Ra:=zw Ra M1.ms (.cells (aP c bs n2 x2));have Rb:=zw Rb M1.ms (.cells (aP c bs n2 x2));have Rc:=zw Rc M1.ms (.cells (aP c bs n2 x2));generalize N1.set ps (.cells (aP c bs n2 x2))=N2 at uB M2 Ra Rb Rc;generalize jV:bV [113] (fr+j+1)=w at*;let p:ai:=⟨w,sz⟩;have hpa:p.av= .agg [.str w,.n sz]:=rfl;obtain⟨sx,N3,eu,Rb,aa',yl⟩:=xP (bytes:=24) (pl:=l.map ai.av) (v:=p.av) (ag:=true) (by rw[cz];exact Rb) M2.len (agL l) rfl (ai.dv p).ν (by omega) (by rw[cz];omega) (by rw[cz];omega);have M3:=M2.grow hs yl;have Ra:=Ra.Hc (by omega) yl;have Rc:=Rc.Hc (by omega) yl;obtain⟨Ct,N4,u7,Rc,ajZ,LK⟩:=xP (bytes:=16) (pl:=(l.map ai.name).map AV.str) (v:= .str w) (ag:=false) (by rw[cz,cz];exact Rc) M3.len (I8 _) rfl rfl (by omega) (by rw[cz,cz];omega) (by rw[cz,cz];omega);have M4:=M3.grow hs LK;have Ra:=Ra.Hc (by omega) LK;have Rb:=Rb.Hc (by omega) LK;have Tn:∀T,iq {ε:=N3,η:=T} false 1 16 9 (bw cr (l.map ai.name)) (.list .full [.str w])=some (bw Ct ((l++[p]).map ai.name),{ε:=N4,η:=T}):=by intro T;simp only[bw,kQ,ax,aI]at u7⊢;exact u7 T
  have CX:∀T,iq {ε:=N2,η:=T} true 2 24 76 (.list cp (l.map ai.av)) (.list .full [.agg [.str w,.n sz]])=some (.list sx ((l++[p]).map ai.av),{ε:=N3,η:=T}):=by intro T;rw[kQ,ax,aI];exact eu T
  refine Ψ (fun z=>z.e 20= .bool true/\SM pm ps r i z/\SP w4 w5 nm cp l cr z/\z.mem= {ε:=M',η:=T}/\z.e 18= .n (k:Int)/\z.e 19= .n (j:Int)) (by simp[SM,SP,h0,h2,l2,h3,cH,dq,h4,l4,h5,l5,bo,bu,Γ,ly,Hz]) fun z ⟨yg,⟨h0,h2,l2,h3,cH,dq⟩,⟨h4,l4,h5,l5⟩,Γ,bo,bu⟩=>?_;refine μ.go (s':=z) (by simp[yg]) ?_;refine bS (fun z=>SM pm ps r i z/\SP w4 w5 nm sx (l++[p]) Ct z/\z.mem= {ε:=N4,η:=T}/\z.e 18= .n (k:Int)/\z.e 19= .n (j:Int)) (μ.block ?_) fun z ⟨⟨h0,h2,l2,h3,cH,dq⟩,⟨h4,l4,h5,l5⟩,Γ,bo,bu⟩=>?_
  ·refine Ψ (fun z=>(∃w6,z.e 6= .ak 6 w6 0/\z.q 6=some (w6,.cells [.str w,.n sz]))/\SM pm ps r i z/\SP w4 w5 nm cp l cr z/\z.mem= {ε:=N2,η:=T}/\z.e 18= .n (k:Int)/\z.e 19= .n (j:Int)) (by
    generalize hw:bJ (bR z.loc) 6=w6
    simp[SM,SP,h0,h2,l2,h3,cH,dq,h4,l4,h5,l5,bo,bu,Γ,ng,uB,newVar,hw,dG,dk]) fun z ⟨⟨w6,h6,l6⟩,⟨h0,h2,l2,h3,cH,dq⟩,⟨h4,l4,h5,l5⟩,Γ,bo,bu⟩=>?_
   refine μ.done .normal (fun z=>SM pm ps r i z/\SP w4 w5 nm sx (l++[p]) Ct z/\z.mem= {ε:=N4,η:=T}/\z.e 18= .n (k:Int)/\z.e 19= .n (j:Int)) (by
    simp only[SM,SP]
    generalize(l++[p]).map ai.av=L1 at CX⊢;generalize(l++[p]).map ai.name=L2 at Tn⊢;simp[h0,h2,l2,h3,cH,dq,h4,l4,h5,l5,h6,l6,bo,bu,Γ,CX,Tn,shaped,AV.one,Mem.ν,ν,cG,c7,de,dk,vM]) fun z hz=> .inr ⟨by simp,.inl ⟨rfl,hz⟩⟩
  ·refine μ.done .normal (fun z=>SM pm ps r i z/\SP w4 w5 nm sx (l++[p]) Ct z/\z.mem= {ε:=N4,η:=T}/\z.e 18= .n (k:Int)/\z.e 19= .n ((j:Int)+1)) (by simp[SM,SP,h0,h2,l2,h3,cH,dq,h4,l4,h5,l5,bo,bu,Γ,kj]) fun z ⟨y1,y2,y3,y4,y5⟩=> .inl ⟨rfl,Hz,x2,n2,N4,sx,Ct,l++[p],by omega,y1,y2,y3,M4,Ra,by simp[hl],?_,(by rw[aa'];cases l<;>rfl),by simpa using Rb,by simpa using Rc,y4,by rw[y5];simp⟩;intro j' dI;by_cases ψ:j'<l.length
   ·rw[List.getElem_append_left ψ];exact jU j' ψ
   ·have:j'=l.length:=by simp at dI;omega
    subst this;rw[List.getElem_append_right (b_ _)];simp only[Nat.sub_self,List.getElem_cons_zero];exact⟨by show w=_;rw[<-jV,hl];congr 1;omega,d3,d4⟩
 ·have ly:¬(j:Int)<k:=by omega
  obtain rfl:j=k:=by omega
  have Zb:∀{cc:τ} {sz:Nat} {e:TypeId},Go.Δ.Row B.length M' sz e cc l.length->cc= .nil->l=[]:=fun h e=>by
   subst e;rcases h with⟨_,h⟩|⟨t,h,_⟩
   ·exact List.eq_nil_of_length_eq_zero h
   ·cases h
  exact μ.done (.exit 2) (fun z=>SM pm ps r i z/\SP w4 w5 nm cp l cr z/\z.mem= {ε:=M',η:=T}) (by simp[SM,SP,h0,h2,l2,h3,cH,dq,h4,l4,h5,l5,bo,bu,Γ]) fun z ⟨y1,y2,y3⟩=> .inr ⟨by simp,.inl ⟨rfl,rfl,x',n',M',cp,cr,l,by omega,y1,y2,y3,hM,hR,hl,jU,mz,Zb Te⟩⟩
end
def zQ(B:List θ)(pm ps:Nat)(c:τ)(bs:List Nat)(n0:Nat)(r i:Int)(j:Nat)(z:St):Prop:=
 ∃x n st fr M T cP Ps,∃bc:List ξ,SM pm ps r i z/\z.mem= {ε:=M,η:=T}/\Km B pm ps (.list cP Ps) c bs st fr n x M T/\Go.Δ.Row B.length M 3 70 cP Ps.length/\bL Ps (bc.map ξ.av)/\Ps.all (shaped true 3)=true/\fZ bc fr/\bc.length=j/\fr<=43*j/\(n0<=n/\n<=n0+1+j*500000000)/\(∀y∈bc,y.au.length<=3)
theorem ZJ:xZ 5<=400000000:=by simp[xZ]
section
variable{B:List θ}{pm ps:Nat}{c:τ}{bs:List Nat}(hs:ps<B.length)(φ:pm≠ps)(hm:B.length<=pm)(hb:bs.length<=300)
include hs φ hm hb
theorem Yz{n0:Nat}(yJ:n0<1000000000000){r i:Int}{j:Nat}(hj:j<4){σ:St}(hI:zQ B pm ps c bs n0 r i j σ):
  μ (C u).gl (ab (C u)) NI σ fun z=>z.1= .normal/\zQ B pm ps c bs n0 r i (j+1) z.2:=by
 obtain⟨x,n,st,fr,M,T,cP,Ps,bc,⟨h0,h2,l2,h3,cH,dq⟩,Γ,hK,hR,kU,LL,yI,dS,dH,hn,gI⟩:=hI;have hPl:Ps.length=bc.length:=by rw[kU.len,cz]
 unfold NI;have ng:=BK (u:=u) hK.ms φ (by omega) [112] (by decide);have K1:=hK.lY φ hm st (fr+1);have R1:=zx hR hK.ms (.cells (bG ps (.list cP Ps) st (fr+1:Nat)));generalize M.set pm (.cells (bG ps (.list cP Ps) st (fr+1:Nat)))=M1 at ng K1 R1;generalize jV:bV [112] (fr+1)=nm at*;refine Ψ (fun z=>SM pm ps r i z/\(∃w4,z.e 4= .ak 4 w4 0/\z.q 4=some (w4,.cells [.str nm,ω,ω]))/\z.mem= {ε:=M1,η:=T}) (by
  generalize hw:bJ (bR σ.loc) 4=w4
  simp[SM,h0,h2,l2,h3,cH,dq,Γ,ng,newVar,hw,dG,dk]) fun z ⟨⟨h0,h2,l2,h3,cH,dq⟩,⟨w4,h4,l4⟩,Γ⟩=>?_
 refine Ψ (fun z=>SM pm ps r i z/\(∃w5,SP w4 w5 nm .nil [] .nil z)/\z.mem= {ε:=M1,η:=T}) (by
  generalize hw:bJ (bR z.loc) 5=w5
  simp[SM,SP,h0,h2,l2,h3,cH,dq,h4,l4,Γ,newVar,hw,bw]) fun z ⟨⟨h0,h2,l2,h3,cH,dq⟩,⟨w5,h4,l4,h5,l5⟩,Γ⟩=>?_
 obtain⟨x2,k,n2,b1,b2,b3,b4,-,ni⟩:=BL (u:=u) K1.ms hb 3 (by omega);have b4:=b4 (by omega);obtain⟨k,rfl⟩:∃j:Nat,k=j:=⟨k.toNat,by omega⟩;have K2:=K1.draw φ n2 x2;have R2:=zw R1 K1.ms (.cells (aP c bs n2 x2));generalize M1.set ps (.cells (aP c bs n2 x2))=M2 at ni K2 R2;refine bS (fun z=>∃x' n' M' cp cr,∃l:List ai,(n2<=n'/\n'<=n2+2)/\SM pm ps r i z/\SP w4 w5 nm cp l cr z/\z.mem= {ε:=M',η:=T}/\Km B pm ps (.list cP Ps) c bs st (fr+1+k) n' x' M' T/\Go.Δ.Row B.length M' 3 70 cP Ps.length/\l.length=k/\(∀j (h:j<l.length),l[j].name=bV [113] (fr+1+1+j)/\1<=l[j].size/\l[j].size<=12)/\cp.exp 0 false=Ξ l/\(cr= .nil->l=[])) ?_ fun z ⟨x3,n3,M3,cp,cr,l,d1,⟨h0,h2,l2,h3,cH,dq⟩,⟨h4,l4,h5,l5⟩,Γ,K3,R3,d2,d3,d4,d5⟩=>?_
 ·refine Ψ (fun z=>SM pm ps r i z/\SP w4 w5 nm .nil [] .nil z/\z.mem= {ε:=M2,η:=T}/\z.e 18= .n (k:Int)/\z.e 19= .n 0) (by simp[SM,SP,h0,h2,l2,h3,cH,dq,h4,l4,h5,l5,Γ,ni]) fun z ⟨z1,z2,z3,z4,z5⟩=>?_;exact μ.mono (agJ (u:=u) hs φ hm hb (by omega) z1 z2 z3 K2 R2 (by omega) (by omega) z4 z5) fun z hz=> .inl hz
 have K4:=K3.lY φ hm 0 (fr+1+k);have R4:=zx R3 K3.ms (.cells (bG ps (.list cP Ps) (0:Nat) (fr+1+k)));have hg:M3[pm]?=some (.cells (bG ps (.list cP Ps) st (fr+1+k))):=K3.ms.m;refine Ψ (fun z=>SM pm ps r i z/\SP w4 w5 nm cp l cr z/\z.mem= {ε:=M3.set pm (.cells (bG ps (.list cP Ps) (0:Nat) (fr+1+k))),η:=T}) (by simp[SM,SP,h0,h2,l2,h3,cH,dq,h4,l4,h5,l5,Γ,hg,Bm,VB,Mem.put,Mem.ν,ν,bn,Δ.lo]) fun z ⟨⟨h0,h2,l2,h3,cH,dq⟩,⟨h4,l4,h5,l5⟩,Γ⟩=>?_;generalize M3.set pm (.cells (bG ps (.list cP Ps) (0:Nat) (fr+1+k)))=M4 at Γ K4 R4;have oI:=ZJ;have f:Bk u pm ps (.list cP Ps) c bs (kZ bc) 1 (xZ 5):=f122 (u:=u) φ hb rfl kU gI (by omega) 4 1 (by omega);obtain⟨x5,n5,vL,tP,cap,body,e1,e2,e3,e4,e5,e7,e8,l8⟩:=f M4 0 (fr+1+k) n3 x3 cr .nil .nil .nil ⟨l.map ai.name,[],[],[]⟩ K4.ms (by omega) (by omega) (by omega) (by simp[Sc.size,d2];omega) (fun h=>by rw[d5 h];rfl) (fun _=>rfl) (fun _=>rfl);have K5:=K4.both φ hm vL tP n5 x5;have R5:=zw (zx R4 K4.ms (.cells (bG ps (.list cP Ps) (vL:Nat) tP))) (K4.ms.lY φ vL tP) (.cells (aP c bs n5 x5));generalize(M4.set pm (.cells (bG ps (.list cP Ps) (vL:Nat) tP))).set ps (.cells (aP c bs n5 x5))=M5 at l8 K5 R5;have DD:gD cr .nil .nil .nil ⟨l.map ai.name,[],[],[]⟩=[bw cr (l.map ai.name),ω,ω,ω]:=rfl;rw[DD]at l8;have Bw:∀T,kf u 122 [.κ pm 0,.n 1,.agg [bw cr (l.map ai.name),ω,ω,ω]] {ε:=M4,η:=T}=some (.list cap (δ.χ body),{ε:=M5,η:=T}):=l8;have LR:Dv (.agg [.str nm,.list cp (l.map ai.av),.list cap (δ.χ body)]) (⟨nm,cp.exp 0 false,l,cap,body⟩:ξ).av:=
  .agg (.cons (.str _) (.cons (Dv.list cp (bL.of ai.av l fun p _=>ai.dv p)) (.cons e8 .nil)))
 refine Ψ (fun z=>SM pm ps r i z/\(z.e 4= .ak 4 w4 0/\z.q 4=some (w4,.cells [.str nm,.list cp (l.map ai.av),.list cap (δ.χ body)]))/\z.mem= {ε:=M5,η:=T}) (by simp[SM,h0,h2,l2,h3,cH,dq,h4,l4,h5,l5,Γ,Bw,dk]) fun z ⟨⟨h0,h2,l2,h3,cH,dq⟩,⟨h4,l4⟩,Γ⟩=>?_;generalize hX:[AV.str nm,.list cp (l.map ai.av),.list cap (δ.χ body)]=X at LR l4;have Th:X.length=3:=by rw[<-hX];rfl
 have hXt:X.take 3=X:=List.take_of_length_le (by omega);have Ti:=LR.ν;have LU:shaped true 3 (.agg X)=true:=by simp[shaped,Th]
 obtain⟨tN,M6,eu,R6,ajW,hM6⟩:=xP (bytes:=64) (v:= .agg X) (ag:=true) R5 K5.len LL LU Ti (by omega) (by omega) (by omega);have K6:=K5.grow hs hM6;have Tc:bL (Ps++[.agg X]) ((bc++[(⟨nm,cp.exp 0 false,l,cap,body⟩:ξ)]).map ξ.av):=by rw[kQ];exact kU.append (.cons LR .nil)
 have Tb:ν (.list tN (Ps++[.agg X]))= .list tN (Ps++[.agg X]):=(Dv.list tN Tc).ν;have K7:=K6.procs φ hm (.list tN (Ps++[.agg X])) (bn pm [AV.list tN (Ps++[.agg X])]);have R7:=zx R6 K6.ms (.cells (bG ps (.list tN (Ps++[.agg X])) (vL:Nat) tP));have hg5:M5[pm]?=some (.cells (bG ps (.list cP Ps) (vL:Nat) tP)):=K5.ms.m;have hg6:M6[pm]?=some (.cells (bG ps (.list cP Ps) (vL:Nat) tP)):=K6.ms.m;refine μ.done .normal (fun z=>SM pm ps r i z/\z.mem= {ε:=M6.set pm (.cells (bG ps (.list tN (Ps++[.agg X])) (vL:Nat) tP)),η:=if bn pm [AV.list tN (Ps++[.agg X])]=true then T else pm::T}) (by
  generalize hP2:AV.list tN (Ps++[.agg X])=P2 at Tb eu⊢
  have aaR:P2.cells=[P2]:=by rw[<-hP2];rfl
  simp[SM,h0,h2,l2,h3,cH,dq,h4,l4,Γ,hg5,hg6,VC,aff,Bm,Th,hXt,LU,Ti,eu,aaR,Tb,Mem.put,Mem.ν]) fun z ⟨z1,z2⟩=>⟨rfl,x5,n5,vL,tP,_,_,tN,Ps++[.agg X],bc++[⟨nm,cp.exp 0 false,l,cap,body⟩],z1,z2,K7,by simpa using R7,Tc,by rw[akX,LL];simp[LU],?_,by simp[dS],by omega,by omega,?_⟩
 ·refine yI.snoc ⟨jV.symm,by show l.length<=2;omega,fun i hi=>?_,?_,by show δ.bK body<=40;omega,d4,e7⟩
  ·have:=d3 i hi;rwa[show fr+1+1+i=fr+2+i by omega]at this
  ·show aY (kZ bc) 1 (fr+1+l.length) _ body tP;rw[d2];exact e4
 ·intro y hy;rcases List.mem_append.1 hy with hy|hy
  ·exact gI y hy
  ·rw[fY.1 hy];show l.length<=3;omega
end
theorem f35{ps:Nat}{c:τ}{bs:List Nat}{n:Nat}{x:Int}{B:List θ}(hb:bs.length<=300)(hB:B[ps]?=some (.cells (aP c bs n x)))(hn:n<1000000000000):
  ∃n' x' cap fr,∃bc:List ξ,(n<=n'/\n'<=n+3000000000)/\fZ bc fr/\fr<=172/\(1<=bc.length/\bc.length<=4)/\bm cap/\∀T,kf u 35 [.κ ps 0] {ε:=B,η:=T}=some (.agg [.list cap (bc.map ξ.av)],{ε:=B.set ps (.cells (aP c bs n' x')),η:=T}):=by
 have hs:ps<B.length:=(fI.1 hB).1;have hr:μ (C u).gl (ab (C u)) J7 {env:=[.κ ps 0],loc:=[],mem:= {ε:=B,η:=[]}} fun z=>z.1= .ret/\∃x' n' st fr M T cP Ps,∃bc:List ξ,z.2.mem= {ε:=M,η:=T}/\(br z.2.env 2= .ak 2 0 0/\bR z.2.loc 2=some (0,.cells [.list cP Ps]))/\Km B B.length ps (.list cP Ps) c bs st fr n' x' M T/\bL Ps (bc.map ξ.av)/\fZ bc fr/\fr<=172/\(1<=bc.length/\bc.length<=4)/\(n<=n'/\n'<=n+3000000000):=by
  have φ:B.length≠ps:=by omega
  have K0:Km B B.length ps (.list .nil []) c bs 0 0 n x (B++[.cells (bG ps (.list .nil []) (0:Nat) 0)]) []:=
   ⟨⟨by simp,by rw[d_ hs];exact hB⟩,fun i h1 _=>d_ h1,by simp,by simp⟩
  unfold J7;refine Ψ (fun z=>(z.e 0= .κ ps 0/\z.e 2= .ak 2 0 0/\z.q 2=some (0,.cells [ω]))/\z.mem= {ε:=B,η:=[]}) (by simp[newVar,bJ]) fun z ⟨⟨h0,h2,l2⟩,Γ⟩=>?_;refine Ψ (fun z=>(z.e 0= .κ ps 0/\z.e 2= .ak 2 0 0/\z.q 2=some (0,.cells [ω])/\z.e 3= .κ B.length 0)/\z.mem= {ε:=B++[.cells (bG ps (.list .nil []) (0:Nat) 0)],η:=[]}) (by simp[h0,h2,l2,Γ,dG,dk,newVar,Mem.push,Mem.ν,ν,cG,bG]) fun z ⟨⟨h0,h2,l2,h3⟩,Γ⟩=>?_;generalize B++[θ.cells (bG ps (.list .nil []) (0:Nat) 0)]=M0 at K0 Γ;obtain⟨x1,r,n1,b1,b2,b3,b4,uB⟩:=Jh (u:=u) K0.ms hb 1 4 (by omega) (by omega) (by omega) (by omega);obtain⟨r,rfl⟩:∃j:Nat,r=j:=⟨r.toNat,by omega⟩;have K1:=K0.draw φ n1 x1;generalize M0.set ps (.cells (aP c bs n1 x1))=M1 at uB K1;refine bS (fun z=>∃i,zQ B B.length ps c bs n (r:Int) i r z) ?_ fun z ⟨i,x2,n2,st,fr,M,T,cP,Ps,bc,⟨h0,h2,l2,h3,cH,dq⟩,Γ,hK,hR,kU,LL,yI,dS,dH,mX,gI⟩=>?_
  ·refine Ψ (fun z=>SM B.length ps r 0 z/\z.mem= {ε:=M1,η:=[]}) (by simp[SM,h0,h2,l2,h3,Γ,uB]) fun z ⟨hS,Γ⟩=>?_;refine μ.block (μ.lH (I:=fun j z=>zQ B B.length ps c bs n (r:Int) (j:Int) j z) r ⟨x1,n1,0,0,M1,[],.nil,[],[],hS,Γ,K1,Go.Δ.Row.nil,.nil,rfl,.nil,rfl,by omega,by omega,by simp⟩ fun j z hj hI=>?_);have sH:=hI;obtain⟨x2,n2,st,fr,M,T,cP,Ps,bc,hS,Γ,pK⟩:=sH;obtain⟨h0,h2,l2,h3,cH,dq⟩:=hS;unfold Vh;by_cases Df:j<r
   ·have ly:(j:Int)<r:=by omega
    have kj:bN .i64 ((j:Int)+1)=(j:Int)+1:=wrap_i64 (by omega) (by omega);refine Ψ (fun z=>zQ B B.length ps c bs n (r:Int) (j:Int) j z/\z.e 13= .bool true) ?_ fun z ⟨hI,jT⟩=>?_
    ·exact wi (P:=fun z=>(SM B.length ps r j z/\z.mem= {ε:=M,η:=T})/\z.e 13= .bool true) (by simp[SM,h0,h2,l2,h3,cH,dq,Γ,ly,Df]) fun z ⟨⟨y1,y2⟩,y3⟩=>⟨⟨x2,n2,st,fr,M,T,cP,Ps,bc,y1,y2,pK⟩,y3⟩
    refine μ.go (s':=z) (by simp[jT]) ?_;refine bS (fun z=>zQ B B.length ps c bs n (r:Int) (j:Int) (j+1) z) (μ.block (μ.mono (Yz (u:=u) hs φ (b_ _) hb hn (by omega) hI) fun z ⟨e,hI⟩=> .inr ⟨by rw[e];simp,.inl ⟨e,hI⟩⟩)) fun z ⟨x2,n2,st,fr,M,T,cP,Ps,bc,⟨h0,h2,l2,h3,cH,dq⟩,Γ,pK⟩=>?_;exact μ.done .normal (fun z=>SM B.length ps r ((j:Int)+1) z/\z.mem= {ε:=M,η:=T}) (by simp[SM,h0,h2,l2,h3,cH,dq,Γ,kj]) fun z ⟨y1,y2⟩=> .inl ⟨rfl,Df,x2,n2,st,fr,M,T,cP,Ps,bc,by simpa using y1,y2,pK⟩
   ·have ly:¬(j:Int)<r:=by omega
    obtain rfl:j=r:=by omega
    exact μ.done (.exit 0) (fun z=>SM B.length ps j j z/\z.mem= {ε:=M,η:=T}) (by simp[SM,h0,h2,l2,h3,cH,dq,Γ,ly]) fun z ⟨y1,y2⟩=> .inr ⟨by simp,.inl ⟨rfl,.inl ⟨rfl,_,x2,n2,st,fr,M,T,cP,Ps,bc,y1,y2,pK⟩⟩⟩
  ·have hg:M[B.length]?=some (.cells (bG ps (.list cP Ps) st fr)):=hK.ms.m;refine Ψ (fun z=>(z.e 2= .ak 2 0 0/\z.q 2=some (0,.cells [.list cP Ps]))/\z.mem= {ε:=M,η:=T}) (by simp[h0,h2,l2,h3,Γ,hg,VC,Bm,dk]) fun z ⟨⟨h2,l2⟩,Γ⟩=>?_;exact μ.done .ret (fun z=>(z.e 2= .ak 2 0 0/\z.q 2=some (0,.cells [.list cP Ps]))/\z.mem= {ε:=M,η:=T}) (by simp[h2,l2,Γ]) fun z ⟨y1,y2⟩=>⟨rfl,x2,n2,st,fr,M,T,cP,Ps,bc,y2,y1,hK,kU,yI,by omega,by omega,by omega⟩
 obtain⟨z,hx,e,x',n',st,fr,M,T',cP,Ps,bc,Γ,⟨h2,l2⟩,hK,kU,yI,dH,hlen,gR⟩:=hr;have Hh:Dv (.agg [.list cP Ps]) (.agg [.list (cP.exp 0 false) (bc.map ξ.av)]):= .agg (.cons (Dv.list cP kU) .nil);have LJ:M=B.set ps (.cells (aP c bs n' x'))++M.drop B.length:=by
  have h1:M.take B.length=B.set ps (.cells (aP c bs n' x')):=by
   apply akY;intro i;by_cases hi:i<B.length
   ·rw[Jv hi];by_cases h2:i=ps
    ·subst h2;rw[hK.ms.s];simp[hs]
    ·rw[gN (Ne.symm h2)];exact hK.nW i hi h2
   ·rw[gW (by simp;omega),gW (by simp;omega)]
  rw[<-h1,akZ]
 refine⟨n',x',cP.exp 0 false,fr,bc,gR,yI,dH,hlen,Bn cP 0,fun T=>?_⟩;refine VA (u:=u) (g:=G4) rfl rfl rfl (by simp) (by simp[exp,hs]) ⟨z,hx,fun i=>by rw[e];simp,⟨_,T',by rw[Γ,<-LJ],hK.tt⟩,[.agg [.list cP Ps]],by simp[G4,h2,l2],?_⟩ T;rw[Γ];exact Hh.aQ _ _ _
end Go.Δ.Tz
