import Derived.Test.YtiigojkfojnedaaGreatDoorPVa
set_option linter.unusedVariables false
set_option linter.unusedSimpArgs false
set_option maxRecDepth 100000
set_option maxHeartbeats 8000000
open List renaming mem_cons->dX,map_map->di,map_congr_left->dz,length_cons->dO,contains_iff_mem->yZ,getD_eq_getElem?_getD->kT,getElem?_eq_getElem->eo,getElem_mem->cz,getElem_of_mem->vw,map_cons->ah,map_nil->aw,all_eq_false->ahA
open Go.IntKind renaming wrap->aT,bits->rK
open Nat renaming lt_or_ge->bP
namespace Go.ab
structure φ where
 name:List Nat
 c:Γ
 ix:List ζ
inductive δ
 |mk (k g:Int) (name:List Nat) (cp:Γ) (pl:List φ) (size to:ζ) (cb:Γ) (body:List δ) (ce:Γ) (aA:List δ)
structure aC where
 name:List Nat
 size:Int
structure ω where
 name:List Nat
 cp:Γ
 ay:List aC
 cb:Γ
 body:List δ
structure pL where
 c:Γ
 procs:List ω
def ζ.four:ζ->List AV
 | .mk k n s c l=>[.int .i64 k,.int .i64 n,.str s,.list c (ζ.ψ l)]
theorem ζ.gA(x:ζ):x.av= .agg x.four:=by cases x;rfl
def φ.av(p:φ):AV:= .agg [.str p.name,.list p.c (p.ix.map ζ.av)]
mutual
def δ.cells:δ->List AV
 | .mk k g nm cp pl size to cb body ce aA=>[.int .i64 k,.int .i64 g,.str nm,.list cp (pl.map φ.av)]++size.four++to.four++[.list cb (δ.ψ body),.list ce (δ.ψ aA)]
def δ.ψ:List δ->List AV
 |[]=>[]
 |s::l=> .agg s.cells::δ.ψ l
end
def δ.av(s:δ):AV:= .agg s.cells
theorem δ.dZ(l:List δ):δ.ψ l=l.map δ.av:=by
 induction l with
 |nil=>rfl
 |cons a l ih=>simp[δ.ψ,ih,δ.av]
def aC.av(p:aC):AV:= .agg [.str p.name,.n p.size]
def ω.av(p:ω):AV:= .agg [.str p.name,.list p.cp (p.ay.map aC.av),.list p.cb (δ.ψ p.body)]
def pL.cells(p:pL):List AV:=[.list p.c (p.procs.map ω.av)]
def pL.av(p:pL):AV:= .agg p.cells
theorem δ.iB{Q:δ->Prop}(h:∀k g nm cp pl size to cb body ce aA,(∀y∈body,Q y)->(∀y∈aA,Q y)->Q (.mk k g nm cp pl size to cb body ce aA))(x:δ):Q x:=
 δ.rec (motive_1:=Q) (motive_2:=fun l=>∀y∈l,Q y) (fun k g nm cp pl size to cb body ce aA h1 h2=>h k g nm cp pl size to cb body ce aA h1 h2) (fun y hy=>(by cases hy))
  (fun x l hx hl y hy=>(by
   rcases dX.1 hy with rfl|hy
   ·exact hx
   ·exact hl y hy)) x
def δ.body:δ->List δ
 | .mk _ _ _ _ _ _ _ _ b _ _=>b
def δ.aA:δ->List δ
 | .mk _ _ _ _ _ _ _ _ _ _ e=>e
theorem δ.lists{P:List δ->Prop}(h:∀l:List δ,(∀y∈l,P y.body/\P y.aA)->P l)(l:List δ):P l:=
 h l fun y _=>δ.iB (Q:=fun y=>P y.body/\P y.aA) (fun _ _ _ _ _ _ _ _ body _ aA h1 h2=>⟨h body h1,h aA h2⟩) y
def dJ(s:List Nat):Prop:=∀b∈s,b<256
mutual
def ζ.lz:ζ->Prop
 | .mk _ _ s _ l=>dJ s/\ζ.Strs l
def ζ.Strs:List ζ->Prop
 |[]=>True
 |x::l=>x.lz/\ζ.Strs l
end
def ζ.eD(x:ζ):Prop:=x.Ok/\x.lz
def φ.Ok(p:φ):Prop:=dJ p.name/\aJ p.c/\∀x∈p.ix,x.eD
mutual
def δ.Ok:δ->Prop
 | .mk _ _ nm cp pl size to cb body ce aA=>dJ nm/\aJ cp/\(∀p∈pl,p.Ok)/\size.eD/\to.eD/\aJ cb/\δ.cW body/\aJ ce/\δ.cW aA
def δ.cW:List δ->Prop
 |[]=>True
 |s::l=>s.Ok/\δ.cW l
end
theorem δ.gb{l:List δ}(h:δ.cW l):∀x∈l,x.Ok:=by
 induction l with
 |nil=>intro x hx;cases hx
 |cons a l ih=>
  intro x hx
  rcases dX.1 hx with rfl|hx
  ·exact h.1
  ·exact ih h.2 x hx
def ω.Ok(p:ω):Prop:=dJ p.name/\aJ p.cp/\(∀x∈p.ay,dJ x.name)/\aJ p.cb/\δ.cW p.body/\(p.cp= .nil->p.ay=[])
def pL.Ok(p:pL):Prop:=aJ p.c/\∀x∈p.procs,x.Ok
theorem ζ.Qk(n:Nat)(k:Bool)(x:ζ)(h:x.Ok):bn n k x.four=x.four:=by have:=ζ.dH n k x h;rw[ζ.gA]at this;simpa only[exp,AV.agg.injEq]using this
theorem ζ.Tv(x:ζ):cL x.four=x.four:=by have:=ζ.n_ x;rw[ζ.gA]at this;simpa only[ρ,AV.agg.injEq]using this
theorem φ.dH(n:Nat)(k:Bool)(p:φ)(h:p.Ok):exp n k p.av=p.av:=by
 have:bn n k (p.ix.map ζ.av)=p.ix.map ζ.av:=by rw[fm,di];exact dz fun x hx=>ζ.dH n k x (h.2.2 x hx).1
 simp only[φ.av,exp,bn,fu h.2.1,this]
theorem φ.n_(p:φ):ρ p.av=p.av:=by
 have:cL (p.ix.map ζ.av)=p.ix.map ζ.av:=by rw[fC,di];exact dz fun x _=>ζ.n_ x
 simp only[φ.av,ρ,cL,this]
theorem Xx(n:Nat)(k:Bool)(a b:List AV):bn n k (a++b)=bn n k a++bn n k b:=by simp[fm]
theorem adS(a b:List AV):cL (a++b)=cL a++cL b:=by simp[fC]
theorem δ.EA(n:Nat)(k:Bool)(x:δ):x.Ok->bn n k x.cells=x.cells:=by
 refine δ.iB (Q:=fun x=>x.Ok->bn n k x.cells=x.cells) (fun kk g nm cp pl size to cb body ce aA h1 h2 h=>?_) x;simp only[δ.Ok]at h;obtain⟨-,k1,k2,k3,k4,k5,k6,k7,k8⟩:=h;have e1:bn n k (pl.map φ.av)=pl.map φ.av:=by rw[fm,di];exact dz fun x hx=>φ.dH n k x (k2 x hx)
 have go:∀l:List δ,δ.cW l->(∀y∈l,y.Ok->bn n k y.cells=y.cells)->bn n k (δ.ψ l)=δ.ψ l:=by intro l hl hy;rw[fm,δ.dZ,di];refine dz fun y hm=>?_;simp only[Function.comp,δ.av,exp,hy y hm (δ.gb hl y hm)]
 simp only[δ.cells,Xx,bn,exp,fu k1,fu k5,fu k7,e1,ζ.Qk _ _ _ k3.1,ζ.Qk _ _ _ k4.1,go body k6 h1,go aA k8 h2]
theorem δ.dH(n:Nat)(k:Bool)(x:δ)(h:x.Ok):exp n k x.av=x.av:=by simp only[δ.av,exp,δ.EA n k x h]
theorem δ.Ez(n:Nat)(k:Bool)(l:List δ)(h:δ.cW l):bn n k (δ.ψ l)=δ.ψ l:=by rw[fm,δ.dZ,di];exact dz fun x hx=>δ.dH n k x (δ.gb h x hx)
theorem δ.yF(x:δ):cL x.cells=x.cells:=by
 refine δ.iB (Q:=fun x=>cL x.cells=x.cells) (fun kk g nm cp pl size to cb body ce aA h1 h2=>?_) x;have e1:cL (pl.map φ.av)=pl.map φ.av:=by rw[fC,di];exact dz fun x hx=>φ.n_ x
 have go:∀l:List δ,(∀y∈l,cL y.cells=y.cells)->cL (δ.ψ l)=δ.ψ l:=by intro l hy;rw[fC,δ.dZ,di];refine dz fun y hm=>?_;simp only[Function.comp,δ.av,ρ,hy y hm]
 simp only[δ.cells,adS,cL,ρ,e1,ζ.Tv,go body h1,go aA h2]
theorem ω.dH(n:Nat)(k:Bool)(p:ω)(h:p.Ok):exp n k p.av=p.av:=by
 obtain⟨-,k1,k2,k3,k4,-⟩:=h;have e1:bn n k (p.ay.map aC.av)=p.ay.map aC.av:=by rw[fm,di];exact dz fun x _=>rfl
 simp only[ω.av,exp,bn,fu k1,fu k3,e1,δ.Ez _ _ _ k4]
theorem pL.EA(n:Nat)(k:Bool)(p:pL)(h:p.Ok):bn n k p.cells=p.cells:=by
 have e1:bn n k (p.procs.map ω.av)=p.procs.map ω.av:=by rw[fm,di];exact dz fun x hx=>ω.dH n k x (h.2 x hx)
 simp only[pL.cells,bn,exp,fu h.1,e1]
theorem pL.dH(n:Nat)(k:Bool)(p:pL)(h:p.Ok):exp n k p.av=p.av:=by simp only[pL.av,exp,pL.EA n k p h]
theorem ζ.fK(x:ζ):x.four.length=4:=by cases x;rfl
theorem δ.i_(x:δ):x.cells.length=14:=by cases x;simp[δ.cells,ζ.fK]
def bu:List (List Nat):=[[120],[121],[122],[104],[115],[115,100],[116],[116,100],[99,120],[99,122],[115,119,97,112],[99,99,120]]
def fO:List (List Nat):=[[112,114,111,99],[116,97,107,101],[100,114,111,112],[98,111,114,114,111,119],[109,101,97,115,117,114,101],[114,101,115,101,116],[105,102],[101,108,115,101],[102,111,114],[117,110,100,111],[119,105,116,104,105,110],[97,112,112,108,121]]
def lN(s:List Nat):Bool:=s.all fun b=>decide (97<=b)&&decide (b<=122)
def jZ(s:List Nat):Bool:=decide (0<s.length)&&decide (s.length<=8)&&lN s&& !bu.contains s&& !fO.contains s
mutual
def ζ.part(may:List Nat->Bool)(no:Int):ζ->Int
 | .mk k n s _ l=>if gy k n l.length≠0 then gy k n l.length else if k=2/\may s=false then no else ζ.parts may no l
def ζ.parts(may:List Nat->Bool)(no:Int):List ζ->Int
 |[]=>0
 |x::l=>if x.part may no≠0 then x.part may no else ζ.parts may no l
end
def ζ.err(may:List Nat->Bool)(no:Int)(x:ζ):Int:=if 9<x.cnt then 2 else x.part may no
inductive lB
 |none
 |nG (ahp:Bool)
 |bit
 |Ds
 deriving DecidableEq
abbrev bw:=List Nat->lB
def lB.n4:lB->Bool
 | .nG _=>true
 |_=>false
def cT(L:bw)(s:List Nat):Bool:=decide (L s= .Ds)
def cx(L:bw)(p:φ):Int:=if(L p.name).n4=false then 1 else if 2<p.ix.length then 2 else first (ζ.err (cT L) 1) p.ix
def ek(L:bw)(s:List Nat):Int:=if jZ s=false then 4 else if L s≠ .none then 5 else 0
def gT(g:Int):Nat:=if g<=8 then 1 else if g<=11 then 2 else 3
def ob(ps:List ω)(s:List Nat):Option Nat:=ps.findIdx? fun p=>p.name==s
def c8(ps:List ω)(own:Nat)(L:bw):δ->Int
 | .mk k g nm _ pl size to _ _ _ _=>
  if k=1 then(if g<1\/12<g then 3 else if pl.length≠gT g then 2 else first (cx L) pl)
  else if k=2\/k=4 then(if ek L nm≠0 then ek L nm else size.err (cT L) 1)
  else if k=8 then(if ek L nm≠0 then ek L nm else if size.err (cT L) 1≠0 then size.err (cT L) 1 else to.err (cT L) 1)
  else if k=3 then(match L nm with
   | .nG true=>0
   | .nG false=>7
   |_=>1)
  else if k=5 then(match pl with
   |[p]=>if cx L p≠0 then cx L p else if L nm= .bit then 0 else ek L nm
   |_=>2)
  else if k=6 then(match pl with
   |[p]=>cx L p
   |_=>2)
  else if k=7 then(if L nm= .bit then 0 else 1)
  else if k=9 then(match ob ps nm with
   |none=>1
   |some n=>if own<=n then 15 else match ps[n]? with
    |some q=>if pl.length≠q.ay.length then 2 else first (cx L) pl
    |none=>1)
  else if k=10\/k=11 then 0 else 3
def cg(k:Int):Bool:=decide (k=4\/k=8\/k=10\/k=7\/k=11)
def cB(k:Int):Bool:=decide (k=7\/k=11)
mutual
def δ.cnt:δ->Nat
 | .mk k _ _ _ _ _ _ _ body _ aA=>1+(if cg k then δ.aU body else 0)+(if cB k then δ.aU aA else 0)
def δ.aU:List δ->Nat
 |[]=>0
 |s::l=>s.cnt+δ.aU l
end
mutual
def δ.deep:δ->Nat
 | .mk k _ _ _ _ _ _ _ body _ aA=>1+max (if cg k then δ.cH body else 0) (if cB k then δ.cH aA else 0)
def δ.cH:List δ->Nat
 |[]=>0
 |s::l=>max s.deep (δ.cH l)
end
def φ.wt(p:φ):Nat:=1+ζ.aU p.ix
def gH:List φ->Nat
 |[]=>0
 |p::l=>p.wt+gH l
mutual
def δ.wt:δ->Nat
 | .mk _ _ _ _ pl size to _ body _ aA=>1+gH pl+size.cnt+to.cnt+δ.bX body+δ.bX aA
def δ.bX:List δ->Nat
 |[]=>0
 |s::l=>s.wt+δ.bX l
end
def ω.wt(p:ω):Nat:=1+p.ay.length+δ.bX p.body
def kR:List ω->Nat
 |[]=>0
 |p::l=>p.wt+kR l
theorem φ.my{l:List φ}{x:φ}(h:x∈l):x.wt<=gH l:=by
 induction l with
 |nil=>cases h
 |cons a l ih=>
  simp only[gH]
  rcases dX.1 h with rfl|h
  ·omega
  ·have:=ih h;omega
theorem MF(l:List φ):l.length<=gH l:=by
 induction l with
 |nil=>simp
 |cons a l ih=>simp only[dO,gH,φ.wt];omega
theorem δ.my{l:List δ}{x:δ}(h:x∈l):x.wt<=δ.bX l:=by
 induction l with
 |nil=>cases h
 |cons a l ih=>
  simp only[δ.bX]
  rcases dX.1 h with rfl|h
  ·omega
  ·have:=ih h;omega
theorem δ.vm(x:δ):3+δ.bX x.body+δ.bX x.aA<=x.wt:=by obtain⟨k,g,nm,cp,pl,size,to,cb,body,ce,aA⟩:=x;have h1:=ζ.Jg size;have h2:=ζ.Jg to;simp only[δ.wt,δ.body,δ.aA];omega
theorem δ.uh(l:List δ):l.length<=δ.bX l:=by
 induction l with
 |nil=>simp
 |cons a l ih=>have:=δ.vm a;simp only[dO,δ.bX];omega
theorem C6(l:List ω):l.length<=kR l:=by
 induction l with
 |nil=>simp
 |cons a l ih=>simp only[dO,kR,ω.wt];omega
theorem ω.my{l:List ω}{x:ω}(h:x∈l):x.wt<=kR l:=by
 induction l with
 |nil=>cases h
 |cons a l ih=>
  simp only[kR]
  rcases dX.1 h with rfl|h
  ·omega
  ·have:=ih h;omega
def bw.put(L:bw)(s:List Nat)(w:lB):bw:=fun t=>if t=s then w else L t
def bw.inner(L:bw):bw:=fun t=>match L t with
 | .nG _=> .nG false
 |w=>w
def inside(L:bw)(k:Int)(nm:List Nat):bw:=if k=4 then L.inner.put nm (.nG false)else if k=8 then L.inner.put nm .Ds else L.inner
def after(L:bw)(k:Int)(nm:List Nat):bw:=if k=2 then L.put nm (.nG true)else if k=3 then L.put nm .none else if k=5 then L.put nm .bit else L
def δ.kind:δ->Int
 | .mk k _ _ _ _ _ _ _ _ _ _=>k
def δ.name:δ->List Nat
 | .mk _ _ nm _ _ _ _ _ _ _ _=>nm
mutual
def dF(ps:List ω)(own:Nat):List δ->bw->Int
 |[],_=>0
 |s::l,L=>if c8 ps own L s≠0 then c8 ps own L s else if sN ps own s L≠0 then sN ps own s L else dF ps own l (after L s.kind s.name)
def sN(ps:List ω)(own:Nat):δ->bw->Int
 | .mk k _ nm _ _ _ _ _ body _ aA,L=>if cg k then(if dF ps own body (inside L k nm)≠0 then dF ps own body (inside L k nm)else if cB k then dF ps own aA (inside L k nm)else 0)else 0
end
def oa:List aC->bw->Int
 |[],_=>0
 |x::l,L=>if jZ x.name=false then 4 else if x.size<1\/12<x.size then 3 else if L x.name≠ .none then 5 else oa l (L.put x.name (.nG false))
def lQ:List aC->bw->bw
 |[],L=>L
 |x::l,L=>lQ l (L.put x.name (.nG false))
def j_:bw:=fun _=> .none
def sU(ps:List ω)(own:Nat)(x:ω):Int:=
 if jZ x.name=false then 4
 else if(ps.take own).any (fun p=>p.name==x.name)then 5
 else if 4<x.ay.length then 2
 else if oa x.ay j_≠0 then oa x.ay j_
 else if 120<δ.aU x.body then 2
 else if 6<δ.cH x.body then 11
 else dF ps own x.body (lQ x.ay j_)
def pH(ps:List ω):Nat->List ω->Int
 |_,[]=>0
 |k,x::l=>if sU ps k x≠0 then sU ps k x else pH ps (k+1) l
def kG(ps:List ω):Int:=if ps.length<1\/12<ps.length then 2 else pH ps 0 ps
end Go.ab
namespace Go.ab.Tz
open Go.ab
variable{u:Nat}
def fX:List (List Nat):=fO++bu
def fV(n:Nat):List Nat:=fX.getD n []
theorem agA:∀i,i<24->fV i≠[]:=by decide
def kI(s:List Nat):Bool:=fX.contains s
theorem agz{i:Nat}{s:List Nat}(h:i<24)(he:fV i=s):kI s=true:=by unfold kI;have hl:i<fX.length:=h;rw[yZ,<-he,fV,kT,eo hl];exact cz hl
theorem agB{s:List Nat}(h:∀j,j<24->fV j≠s):kI s=false:=by
 unfold kI;cases hc:fX.contains s with
 |false=>rfl
 |true=>
  rw[yZ]at hc
  obtain⟨j,hj,he⟩:=vw hc;exact absurd (by rw[fV,kT,eo hj];exact he) (h j hj)
attribute [local simp] exec eG eu fz aF d_ fQ fe bq gN bT gF gS hU hZ AV.cells newVar hH rd wr gg single fy bF er dL
theorem f157(n:Nat)(h:1<=n)(h':n<=12)(m:Mem):kf u 157 [.n n] m=some (.str (bu.getD (n-1) []),m):=by
 refine bz (g:=oB) rfl rfl rfl ?_
 match n,h,h' with
 |1,_,_=>simp[κ,oB,c157,exp,bf,RV.get,ba,ax,cA,bu]
 |2,_,_=>simp[κ,oB,c157,exp,bf,RV.get,ba,ax,cA,bu]
 |3,_,_=>simp[κ,oB,c157,exp,bf,RV.get,ba,ax,cA,bu]
 |4,_,_=>simp[κ,oB,c157,exp,bf,RV.get,ba,ax,cA,bu]
 |5,_,_=>simp[κ,oB,c157,exp,bf,RV.get,ba,ax,cA,bu]
 |6,_,_=>simp[κ,oB,c157,exp,bf,RV.get,ba,ax,cA,bu]
 |7,_,_=>simp[κ,oB,c157,exp,bf,RV.get,ba,ax,cA,bu]
 |8,_,_=>simp[κ,oB,c157,exp,bf,RV.get,ba,ax,cA,bu]
 |9,_,_=>simp[κ,oB,c157,exp,bf,RV.get,ba,ax,cA,bu]
 |10,_,_=>simp[κ,oB,c157,exp,bf,RV.get,ba,ax,cA,bu]
 |11,_,_=>simp[κ,oB,c157,exp,bf,RV.get,ba,ax,cA,bu]
 |12,_,_=>simp[κ,oB,c157,exp,bf,RV.get,ba,ax,cA,bu]
 |n+13,_,h'=>omega
theorem f88(n:Nat)(h:n<=24)(m:Mem):kf u 88 [.n n] m=some (.str (fV n),m):=by
 refine bz (g:=ig) rfl rfl rfl ?_
 match n,h with
 |0,_=>simp[κ,ig,iZ,exp,bf,RV.get,ba,ax,cA,fV,fX,bu,fO]
 |1,_=>simp[κ,ig,iZ,exp,bf,RV.get,ba,ax,cA,fV,fX,bu,fO]
 |2,_=>simp[κ,ig,iZ,exp,bf,RV.get,ba,ax,cA,fV,fX,bu,fO]
 |3,_=>simp[κ,ig,iZ,exp,bf,RV.get,ba,ax,cA,fV,fX,bu,fO]
 |4,_=>simp[κ,ig,iZ,exp,bf,RV.get,ba,ax,cA,fV,fX,bu,fO]
 |5,_=>simp[κ,ig,iZ,exp,bf,RV.get,ba,ax,cA,fV,fX,bu,fO]
 |6,_=>simp[κ,ig,iZ,exp,bf,RV.get,ba,ax,cA,fV,fX,bu,fO]
 |7,_=>simp[κ,ig,iZ,exp,bf,RV.get,ba,ax,cA,fV,fX,bu,fO]
 |8,_=>simp[κ,ig,iZ,exp,bf,RV.get,ba,ax,cA,fV,fX,bu,fO]
 |9,_=>simp[κ,ig,iZ,exp,bf,RV.get,ba,ax,cA,fV,fX,bu,fO]
 |10,_=>simp[κ,ig,iZ,exp,bf,RV.get,ba,ax,cA,fV,fX,bu,fO]
 |11,_=>simp[κ,ig,iZ,exp,bf,RV.get,ba,ax,cA,fV,fX,bu,fO]
 |12,_=>have e:∀m,kf u 157 [.int .i64 1] m=some (.str (bu.getD 0 []),m):=f157 (u:=u) 1 (by omega) (by omega);simp[κ,ig,iZ,exp,bf,RV.get,ba,ax,cA,fV,fX,bu,fO,e,aT,rK]
 |13,_=>have e:∀m,kf u 157 [.int .i64 2] m=some (.str (bu.getD 1 []),m):=f157 (u:=u) 2 (by omega) (by omega);simp[κ,ig,iZ,exp,bf,RV.get,ba,ax,cA,fV,fX,bu,fO,e,aT,rK]
 |14,_=>have e:∀m,kf u 157 [.int .i64 3] m=some (.str (bu.getD 2 []),m):=f157 (u:=u) 3 (by omega) (by omega);simp[κ,ig,iZ,exp,bf,RV.get,ba,ax,cA,fV,fX,bu,fO,e,aT,rK]
 |15,_=>have e:∀m,kf u 157 [.int .i64 4] m=some (.str (bu.getD 3 []),m):=f157 (u:=u) 4 (by omega) (by omega);simp[κ,ig,iZ,exp,bf,RV.get,ba,ax,cA,fV,fX,bu,fO,e,aT,rK]
 |16,_=>have e:∀m,kf u 157 [.int .i64 5] m=some (.str (bu.getD 4 []),m):=f157 (u:=u) 5 (by omega) (by omega);simp[κ,ig,iZ,exp,bf,RV.get,ba,ax,cA,fV,fX,bu,fO,e,aT,rK]
 |17,_=>have e:∀m,kf u 157 [.int .i64 6] m=some (.str (bu.getD 5 []),m):=f157 (u:=u) 6 (by omega) (by omega);simp[κ,ig,iZ,exp,bf,RV.get,ba,ax,cA,fV,fX,bu,fO,e,aT,rK]
 |18,_=>have e:∀m,kf u 157 [.int .i64 7] m=some (.str (bu.getD 6 []),m):=f157 (u:=u) 7 (by omega) (by omega);simp[κ,ig,iZ,exp,bf,RV.get,ba,ax,cA,fV,fX,bu,fO,e,aT,rK]
 |19,_=>have e:∀m,kf u 157 [.int .i64 8] m=some (.str (bu.getD 7 []),m):=f157 (u:=u) 8 (by omega) (by omega);simp[κ,ig,iZ,exp,bf,RV.get,ba,ax,cA,fV,fX,bu,fO,e,aT,rK]
 |20,_=>have e:∀m,kf u 157 [.int .i64 9] m=some (.str (bu.getD 8 []),m):=f157 (u:=u) 9 (by omega) (by omega);simp[κ,ig,iZ,exp,bf,RV.get,ba,ax,cA,fV,fX,bu,fO,e,aT,rK]
 |21,_=>have e:∀m,kf u 157 [.int .i64 10] m=some (.str (bu.getD 9 []),m):=f157 (u:=u) 10 (by omega) (by omega);simp[κ,ig,iZ,exp,bf,RV.get,ba,ax,cA,fV,fX,bu,fO,e,aT,rK]
 |22,_=>have e:∀m,kf u 157 [.int .i64 11] m=some (.str (bu.getD 10 []),m):=f157 (u:=u) 11 (by omega) (by omega);simp[κ,ig,iZ,exp,bf,RV.get,ba,ax,cA,fV,fX,bu,fO,e,aT,rK]
 |23,_=>have e:∀m,kf u 157 [.int .i64 12] m=some (.str (bu.getD 11 []),m):=f157 (u:=u) 12 (by omega) (by omega);simp[κ,ig,iZ,exp,bf,RV.get,ba,ax,cA,fV,fX,bu,fO,e,aT,rK]
 |24,_=>simp[κ,ig,iZ,exp,bf,RV.get,ba,ax,cA,fV,fX,bu,fO]
 |n+25,h=>omega
attribute [local simp] κ bf RV.get ba dU jy
theorem f217(s:List Nat)(m:Mem):kf u 217 [.str s] m=some (.bool (kI s),m):=by
 refine bz (g:=FD) rfl rfl rfl ?_;simp only[ah,aw,exp,FD,OO];let K:St->Prop:=fun st=>st.e 0= .str s/\st.mem= {ε:=m.ε,η:=[]};refine χ (K) (by simp[K]) fun s1 ⟨h1,h2⟩=>?_;refine aZ (fun st=>K st/\kI s=false) ?_ fun s2 ⟨⟨h1,h2⟩,h3⟩=>?_
 ·let I:Nat->St->Prop:=fun i st=>K st/\st.e 3= .n i/\∀j,j<i->fV j≠s;refine χ (I 0) (by simp[I,K,h1,h2]) fun s4 hI=>?_;refine κ.block (κ.loop (I:=I) 24 hI fun i st hi τ=>?_);obtain⟨⟨q1,q2⟩,q3,q4⟩:=τ;have e:=f88 (u:=u) i hi;have hw:aT .i64 ((i:Int)+1)=(i:Int)+1:=wrap_i64 (by omega) (by omega);rcases bP i 24 with ν|cD
  ·have aj:=agA i ν;by_cases he:fV i=s
   ·right;have hc:=agz ν he;have Lb:s≠[]:=he▸aj;simp[Hw,q1,q2,q3,e,he,Lb,hc]
   ·left;refine⟨ν,?_⟩;simp[I,K,Hw,q1,q2,q3,e,aj,he,hw];intro j hj;rcases bP j i with h|h
    ·exact q4 j h
    ·have:j=i:=by omega
     subst this;exact he
  ·right;have:i=24:=by omega
   subst this;have hz:fV 24=[]:=by decide
   have hn:=agB q4;rw[hz]at e;have e':∀m,kf u 88 [.n 24] m=some (.str [],m):=e;simp[K,Hw,q1,q2,q3,e',hn]
 ·simp[h1,h2,h3]
theorem HQ(s:List Nat):jZ s=(!(decide (s.length<1)||decide (8<s.length)||kI s)&&lN s):=by
 unfold jZ;have:kI s=(fO.contains s||bu.contains s):=by simp[kI,fX]
 rw[this];by_cases h1:s.length<1<;>by_cases h2:8<s.length<;>cases fO.contains s<;>cases bu.contains s<;>cases lN s<;>simp[h1,h2]<;>first|omega|(intro;omega)|exact List.eq_nil_of_length_eq_zero (by omega)|skip
theorem f164(s:List Nat)(m:Mem):kf u 164 [.str s] m=some (.bool (jZ s),m):=by
 refine bz (g:=E6) rfl rfl rfl ?_;simp only[ah,aw,exp,E6,c164];let K:St->Prop:=fun st=>st.e 0= .str s/\st.mem= {ε:=m.ε,η:=[]};refine χ (K) (by simp[K]) fun s1 ⟨h1,h2⟩=>?_;refine aZ (fun st=>K st/\1<=s.length/\s.length<=8/\kI s=false) ?_ fun s2 ⟨⟨h1,h2⟩,g1,g2,g3⟩=>?_
 ·have e:=f217 (u:=u) s;by_cases c1:s.length<1
  ·have:jZ s=false:=by rw[HQ];simp[c1]
   have xn:(s.length:Int)<1:=by omega
   simp[K,h1,h2,xn,this]
  have xn:¬(s.length:Int)<1:=by omega
  by_cases c2:8<s.length
  ·have:jZ s=false:=by rw[HQ];simp[c2]
   have oq:(8:Int)<s.length:=by omega
   simp[K,h1,h2,xn,oq,this]
  have oq:¬(8:Int)<s.length:=by omega
  cases c3:kI s with
  |true=>
   have:jZ s=false:=by rw[HQ];simp[c3]
   rw[c3]at e;simp[K,h1,h2,xn,oq,e,this]
  |false=>
   rw[c3]at e
   have Wl:1<=s.length:=by omega
   have Bj:s.length<=8:=by omega
   simp[K,h1,h2,xn,oq,Wl,Bj,e]
 ·have kr:jZ s=lN s:=by
   have n1:¬s.length<1:=by omega
   have n2:¬8<s.length:=by omega
   rw[HQ,g3];simp only[n1,n2,decide_false,Bool.or_self,Bool.not_false,Bool.true_and]
  rw[kr];refine aZ (fun st=>K st/\lN s=true) ?_ fun s2 ⟨⟨h1,h2⟩,h3⟩=>?_
  ·let I:Nat->St->Prop:=fun i st=>K st/\st.e 3= .n i/\∀j (hj:j<s.length),j<i->97<=s[j]/\s[j]<=122;refine χ (I 0) (by simp[I,K,h1,h2]) fun s4 hI=>?_;refine κ.block (κ.loop (I:=I) s.length hI fun i st hi τ=>?_);obtain⟨⟨q1,q2⟩,q3,q4⟩:=τ;have hw:aT .i64 ((i:Int)+1)=(i:Int)+1:=wrap_i64 (by omega) (by omega);rcases bP i s.length with ν|cD
   ·by_cases a1:s[i]<97
    ·right;have hn:lN s=false:=by simp only[lN,ahA];exact⟨s[i],cz ν,by simp;omega⟩
     have qK:(s[i]:Int)<97:=by omega
     simp[CP,q1,q2,q3,ν,qK,hn]
    by_cases a2:122<s[i]
    ·right;have hn:lN s=false:=by simp only[lN,ahA];exact⟨s[i],cz ν,by simp;omega⟩
     have qK:¬(s[i]:Int)<97:=by omega
     have vB:(122:Int)<s[i]:=by omega
     simp[CP,q1,q2,q3,ν,qK,vB,hn]
    ·left;have qK:¬(s[i]:Int)<97:=by omega
     have vB:¬(122:Int)<s[i]:=by omega
     refine⟨ν,?_⟩;simp[I,K,CP,q1,q2,q3,ν,qK,vB,hw];intro j hj jD;rcases bP j i with h|h
     ·exact q4 j hj h
     ·have:j=i:=by omega
      subst this;omega
   ·right;have:i=s.length:=by omega
    subst this;have hy:lN s=true:=by simp only[lN,List.all_eq_true];intro b hb;obtain⟨j,hj,rfl⟩:=vw hb;have:=q4 j hj hj;simp;omega
    simp[K,CP,q1,q2,q3,hy]
  ·simp[h1,h2,h3]
end Go.ab.Tz
