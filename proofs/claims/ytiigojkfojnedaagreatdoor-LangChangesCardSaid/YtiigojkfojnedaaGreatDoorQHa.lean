import Derived.Test.YtiigojkfojnedaaGreatDoorQVa
set_option linter.unusedVariables false
set_option linter.unusedSimpArgs false
set_option linter.unusedSectionVars false
set_option maxRecDepth 100000
set_option maxHeartbeats 8000000
open List renaming mem_cons->dO,map_map->c6,map_congr_left->dt,length_cons->eZ,contains_iff_mem->yP,getD_eq_getElem?_getD->kJ,getElem?_eq_getElem->dr,getElem_mem->cL,getElem_of_mem->vr,map_cons->ay,map_nil->aA,all_eq_false->ahz
open Go.IntKind renaming wrap->a_,bits->rB
open Nat renaming lt_or_ge->bP
namespace Go.ah
structure Γ where
 name:List Nat
 c:χ
 ix:List η
inductive δ
 |mk (k g:Int) (name:List Nat) (cp:χ) (pl:List Γ) (size to:η) (cb:χ) (body:List δ) (ce:χ) (aG:List δ)
structure aI where
 name:List Nat
 size:Int
structure Ξ where
 name:List Nat
 cp:χ
 aK:List aI
 cb:χ
 body:List δ
structure pb where
 c:χ
 procs:List Ξ
def η.four:η->List AV
 | .mk k n s c l=>[.int .i64 k,.int .i64 n,.str s,.list c (η.Δ l)]
theorem η.jA(x:η):x.av= .agg x.four:=by cases x;rfl
def Γ.av(p:Γ):AV:= .agg [.str p.name,.list p.c (p.ix.map η.av)]
mutual
def δ.cells:δ->List AV
 | .mk k g nm cp pl size to cb body ce aG=>[.int .i64 k,.int .i64 g,.str nm,.list cp (pl.map Γ.av)]++size.four++to.four++[.list cb (δ.Δ body),.list ce (δ.Δ aG)]
def δ.Δ:List δ->List AV
 |[]=>[]
 |s::l=> .agg s.cells::δ.Δ l
end
def δ.av(s:δ):AV:= .agg s.cells
theorem δ.eo(l:List δ):δ.Δ l=l.map δ.av:=by
 induction l with
 |nil=>rfl
 |cons a l ih=>simp[δ.Δ,ih,δ.av]
def aI.av(p:aI):AV:= .agg [.str p.name,.int .i64 p.size]
def Ξ.av(p:Ξ):AV:= .agg [.str p.name,.list p.cp (p.aK.map aI.av),.list p.cb (δ.Δ p.body)]
def pb.cells(p:pb):List AV:=[.list p.c (p.procs.map Ξ.av)]
def pb.av(p:pb):AV:= .agg p.cells
theorem δ.jY{Q:δ->Prop}(h:∀k g nm cp pl size to cb body ce aG,(∀y∈body,Q y)->(∀y∈aG,Q y)->Q (.mk k g nm cp pl size to cb body ce aG))(x:δ):Q x:=
 δ.rec (motive_1:=Q) (motive_2:=fun l=>∀y∈l,Q y) (fun k g nm cp pl size to cb body ce aG h1 h2=>h k g nm cp pl size to cb body ce aG h1 h2) (fun y hy=>(by cases hy))
  (fun x l hx hl y hy=>(by
   rcases dO.1 hy with rfl|hy
   ·exact hx
   ·exact hl y hy)) x
def δ.body:δ->List δ
 | .mk _ _ _ _ _ _ _ _ b _ _=>b
def δ.aG:δ->List δ
 | .mk _ _ _ _ _ _ _ _ _ _ e=>e
theorem δ.lists{P:List δ->Prop}(h:∀l:List δ,(∀y∈l,P y.body/\P y.aG)->P l)(l:List δ):P l:=
 h l fun y _=>δ.jY (Q:=fun y=>P y.body/\P y.aG) (fun _ _ _ _ _ _ _ _ body _ aG h1 h2=>⟨h body h1,h aG h2⟩) y
def cX(s:List Nat):Prop:=∀b∈s,b<256
mutual
def η.vu:η->Prop
 | .mk _ _ s _ l=>cX s/\η.Strs l
def η.Strs:List η->Prop
 |[]=>True
 |x::l=>x.vu/\η.Strs l
end
def η.ey(x:η):Prop:=x.Ok/\x.vu
def Γ.Ok(p:Γ):Prop:=cX p.name/\aJ p.c/\∀x∈p.ix,x.ey
mutual
def δ.Ok:δ->Prop
 | .mk _ _ nm cp pl size to cb body ce aG=>cX nm/\aJ cp/\(∀p∈pl,p.Ok)/\size.ey/\to.ey/\aJ cb/\δ.c7 body/\aJ ce/\δ.c7 aG
def δ.c7:List δ->Prop
 |[]=>True
 |s::l=>s.Ok/\δ.c7 l
end
theorem δ.gO{l:List δ}(h:δ.c7 l):∀x∈l,x.Ok:=by
 induction l with
 |nil=>intro x hx;cases hx
 |cons a l ih=>
  intro x hx
  rcases dO.1 hx with rfl|hx
  ·exact h.1
  ·exact ih h.2 x hx
def Ξ.Ok(p:Ξ):Prop:=cX p.name/\aJ p.cp/\(∀x∈p.aK,cX x.name)/\aJ p.cb/\δ.c7 p.body/\(p.cp= .nil->p.aK=[])
def pb.Ok(p:pb):Prop:=aJ p.c/\∀x∈p.procs,x.Ok
theorem η.PN(n:Nat)(k:Bool)(x:η)(h:x.Ok):bn n k x.four=x.four:=by have:=η.ep n k x h;rw[η.jA]at this;simpa only[exp,AV.agg.injEq]using this
theorem η.SK(x:η):cW x.four=x.four:=by have:=η.nO x;rw[η.jA]at this;simpa only[φ,AV.agg.injEq]using this
theorem Γ.ep(n:Nat)(k:Bool)(p:Γ)(h:p.Ok):exp n k p.av=p.av:=by
 have:bn n k (p.ix.map η.av)=p.ix.map η.av:=by rw[fo,c6];exact dt fun x hx=>η.ep n k x (h.2.2 x hx).1
 simp only[Γ.av,exp,bn,fb h.2.1,this]
theorem Γ.nO(p:Γ):φ p.av=p.av:=by
 have:cW (p.ix.map η.av)=p.ix.map η.av:=by rw[fO,c6];exact dt fun x _=>η.nO x
 simp only[Γ.av,φ,cW,this]
theorem WW(n:Nat)(k:Bool)(a b:List AV):bn n k (a++b)=bn n k a++bn n k b:=by simp[fo]
theorem adC(a b:List AV):cW (a++b)=cW a++cW b:=by simp[fO]
theorem δ.Eo(n:Nat)(k:Bool)(x:δ):x.Ok->bn n k x.cells=x.cells:=by
 refine δ.jY (Q:=fun x=>x.Ok->bn n k x.cells=x.cells) (fun kk g nm cp pl size to cb body ce aG h1 h2 h=>?_) x;simp only[δ.Ok]at h;obtain⟨-,k1,k2,k3,k4,k5,k6,k7,k8⟩:=h;have e1:bn n k (pl.map Γ.av)=pl.map Γ.av:=by rw[fo,c6];exact dt fun x hx=>Γ.ep n k x (k2 x hx)
 have go:∀l:List δ,δ.c7 l->(∀y∈l,y.Ok->bn n k y.cells=y.cells)->bn n k (δ.Δ l)=δ.Δ l:=by intro l hl hy;rw[fo,δ.eo,c6];refine dt fun y hm=>?_;simp only[Function.comp,δ.av,exp,hy y hm (δ.gO hl y hm)]
 simp only[δ.cells,WW,bn,exp,fb k1,fb k5,fb k7,e1,η.PN _ _ _ k3.1,η.PN _ _ _ k4.1,go body k6 h1,go aG k8 h2]
theorem δ.ep(n:Nat)(k:Bool)(x:δ)(h:x.Ok):exp n k x.av=x.av:=by simp only[δ.av,exp,δ.Eo n k x h]
theorem δ.Em(n:Nat)(k:Bool)(l:List δ)(h:δ.c7 l):bn n k (δ.Δ l)=δ.Δ l:=by rw[fo,δ.eo,c6];exact dt fun x hx=>δ.ep n k x (δ.gO h x hx)
theorem δ.yt(x:δ):cW x.cells=x.cells:=by
 refine δ.jY (Q:=fun x=>cW x.cells=x.cells) (fun kk g nm cp pl size to cb body ce aG h1 h2=>?_) x;have e1:cW (pl.map Γ.av)=pl.map Γ.av:=by rw[fO,c6];exact dt fun x hx=>Γ.nO x
 have go:∀l:List δ,(∀y∈l,cW y.cells=y.cells)->cW (δ.Δ l)=δ.Δ l:=by intro l hy;rw[fO,δ.eo,c6];refine dt fun y hm=>?_;simp only[Function.comp,δ.av,φ,hy y hm]
 simp only[δ.cells,adC,cW,φ,e1,η.SK,go body h1,go aG h2]
theorem Ξ.ep(n:Nat)(k:Bool)(p:Ξ)(h:p.Ok):exp n k p.av=p.av:=by
 obtain⟨-,k1,k2,k3,k4,-⟩:=h;have e1:bn n k (p.aK.map aI.av)=p.aK.map aI.av:=by rw[fo,c6];exact dt fun x _=>rfl
 simp only[Ξ.av,exp,bn,fb k1,fb k3,e1,δ.Em _ _ _ k4]
theorem pb.Eo(n:Nat)(k:Bool)(p:pb)(h:p.Ok):bn n k p.cells=p.cells:=by
 have e1:bn n k (p.procs.map Ξ.av)=p.procs.map Ξ.av:=by rw[fo,c6];exact dt fun x hx=>Ξ.ep n k x (h.2 x hx)
 simp only[pb.cells,bn,exp,fb h.1,e1]
theorem pb.ep(n:Nat)(k:Bool)(p:pb)(h:p.Ok):exp n k p.av=p.av:=by simp only[pb.av,exp,pb.Eo n k p h]
theorem η.gK(x:η):x.four.length=4:=by cases x;rfl
theorem δ.jT(x:δ):x.cells.length=14:=by cases x;simp[δ.cells,η.gK]
def bu:List (List Nat):=[[120],[121],[122],[104],[115],[115,100],[116],[116,100],[99,120],[99,122],[115,119,97,112],[99,99,120]]
def fH:List (List Nat):=[[112,114,111,99],[116,97,107,101],[100,114,111,112],[98,111,114,114,111,119],[109,101,97,115,117,114,101],[114,101,115,101,116],[105,102],[101,108,115,101],[102,111,114],[117,110,100,111],[119,105,116,104,105,110],[97,112,112,108,121]]
def lD(s:List Nat):Bool:=s.all fun b=>decide (97<=b)&&decide (b<=122)
def jM(s:List Nat):Bool:=decide (0<s.length)&&decide (s.length<=8)&&lD s&& !bu.contains s&& !fH.contains s
mutual
def η.part(may:List Nat->Bool)(no:Int):η->Int
 | .mk k n s _ l=>if gr k n l.length≠0 then gr k n l.length else if k=2/\may s=false then no else η.parts may no l
def η.parts(may:List Nat->Bool)(no:Int):List η->Int
 |[]=>0
 |x::l=>if x.part may no≠0 then x.part may no else η.parts may no l
end
def η.err(may:List Nat->Bool)(no:Int)(x:η):Int:=if 9<x.cnt then 2 else x.part may no
inductive k_
 |none
 |nf (ahp:Bool)
 |bit
 |Dp
 deriving DecidableEq
abbrev bq:=List Nat->k_
def k_.nK:k_->Bool
 | .nf _=>true
 |_=>false
def cC(L:bq)(s:List Nat):Bool:=decide (L s= .Dp)
def b_(L:bq)(p:Γ):Int:=if(L p.name).nK=false then 1 else if 2<p.ix.length then 2 else first (η.err (cC L) 1) p.ix
def dV(L:bq)(s:List Nat):Int:=if jM s=false then 4 else if L s≠ .none then 5 else 0
def gS(g:Int):Nat:=if g<=8 then 1 else if g<=11 then 2 else 3
def nQ(ps:List Ξ)(s:List Nat):Option Nat:=ps.findIdx? fun p=>p.name==s
def cJ(ps:List Ξ)(own:Nat)(L:bq):δ->Int
 | .mk k g nm _ pl size to _ _ _ _=>
  if k=1 then(if g<1\/12<g then 3 else if pl.length≠gS g then 2 else first (b_ L) pl)
  else if k=2\/k=4 then(if dV L nm≠0 then dV L nm else size.err (cC L) 1)
  else if k=8 then(if dV L nm≠0 then dV L nm else if size.err (cC L) 1≠0 then size.err (cC L) 1 else to.err (cC L) 1)
  else if k=3 then(match L nm with
   | .nf true=>0
   | .nf false=>7
   |_=>1)
  else if k=5 then(match pl with
   |[p]=>if b_ L p≠0 then b_ L p else if L nm= .bit then 0 else dV L nm
   |_=>2)
  else if k=6 then(match pl with
   |[p]=>b_ L p
   |_=>2)
  else if k=7 then(if L nm= .bit then 0 else 1)
  else if k=9 then(match nQ ps nm with
   |none=>1
   |some n=>if own<=n then 15 else match ps[n]? with
    |some q=>if pl.length≠q.aK.length then 2 else first (b_ L) pl
    |none=>1)
  else if k=10\/k=11 then 0 else 3
def dh(k:Int):Bool:=decide (k=4\/k=8\/k=10\/k=7\/k=11)
def de(k:Int):Bool:=decide (k=7\/k=11)
mutual
def δ.cnt:δ->Nat
 | .mk k _ _ _ _ _ _ _ body _ aG=>1+(if dh k then δ.bj body else 0)+(if de k then δ.bj aG else 0)
def δ.bj:List δ->Nat
 |[]=>0
 |s::l=>s.cnt+δ.bj l
end
mutual
def δ.deep:δ->Nat
 | .mk k _ _ _ _ _ _ _ body _ aG=>1+max (if dh k then δ.cM body else 0) (if de k then δ.cM aG else 0)
def δ.cM:List δ->Nat
 |[]=>0
 |s::l=>max s.deep (δ.cM l)
end
def Γ.wt(p:Γ):Nat:=1+η.bj p.ix
def gQ:List Γ->Nat
 |[]=>0
 |p::l=>p.wt+gQ l
mutual
def δ.wt:δ->Nat
 | .mk _ _ _ _ pl size to _ body _ aG=>1+gQ pl+size.cnt+to.cnt+δ.bX body+δ.bX aG
def δ.bX:List δ->Nat
 |[]=>0
 |s::l=>s.wt+δ.bX l
end
def Ξ.wt(p:Ξ):Nat:=1+p.aK.length+δ.bX p.body
def lH:List Ξ->Nat
 |[]=>0
 |p::l=>p.wt+lH l
theorem Γ.o_{l:List Γ}{x:Γ}(h:x∈l):x.wt<=gQ l:=by
 induction l with
 |nil=>cases h
 |cons a l ih=>
  simp only[gQ]
  rcases dO.1 h with rfl|h
  ·omega
  ·have:=ih h;omega
theorem Te(l:List Γ):l.length<=gQ l:=by
 induction l with
 |nil=>simp
 |cons a l ih=>simp only[eZ,gQ,Γ.wt];omega
theorem δ.o_{l:List δ}{x:δ}(h:x∈l):x.wt<=δ.bX l:=by
 induction l with
 |nil=>cases h
 |cons a l ih=>
  simp only[δ.bX]
  rcases dO.1 h with rfl|h
  ·omega
  ·have:=ih h;omega
theorem δ.yM(x:δ):3+δ.bX x.body+δ.bX x.aG<=x.wt:=by obtain⟨k,g,nm,cp,pl,size,to,cb,body,ce,aG⟩:=x;have h1:=η.I3 size;have h2:=η.I3 to;simp only[δ.wt,δ.body,δ.aG];omega
theorem δ.wT(l:List δ):l.length<=δ.bX l:=by
 induction l with
 |nil=>simp
 |cons a l ih=>have:=δ.yM a;simp only[eZ,δ.bX];omega
theorem HK(l:List Ξ):l.length<=lH l:=by
 induction l with
 |nil=>simp
 |cons a l ih=>simp only[eZ,lH,Ξ.wt];omega
theorem Ξ.o_{l:List Ξ}{x:Ξ}(h:x∈l):x.wt<=lH l:=by
 induction l with
 |nil=>cases h
 |cons a l ih=>
  simp only[lH]
  rcases dO.1 h with rfl|h
  ·omega
  ·have:=ih h;omega
def bq.put(L:bq)(s:List Nat)(w:k_):bq:=fun t=>if t=s then w else L t
def bq.inner(L:bq):bq:=fun t=>match L t with
 | .nf _=> .nf false
 |w=>w
def inside(L:bq)(k:Int)(nm:List Nat):bq:=if k=4 then L.inner.put nm (.nf false)else if k=8 then L.inner.put nm .Dp else L.inner
def after(L:bq)(k:Int)(nm:List Nat):bq:=if k=2 then L.put nm (.nf true)else if k=3 then L.put nm .none else if k=5 then L.put nm .bit else L
def δ.kind:δ->Int
 | .mk k _ _ _ _ _ _ _ _ _ _=>k
def δ.name:δ->List Nat
 | .mk _ _ nm _ _ _ _ _ _ _ _=>nm
mutual
def du(ps:List Ξ)(own:Nat):List δ->bq->Int
 |[],_=>0
 |s::l,L=>if cJ ps own L s≠0 then cJ ps own L s else if sB ps own s L≠0 then sB ps own s L else du ps own l (after L s.kind s.name)
def sB(ps:List Ξ)(own:Nat):δ->bq->Int
 | .mk k _ nm _ _ _ _ _ body _ aG,L=>if dh k then(if du ps own body (inside L k nm)≠0 then du ps own body (inside L k nm)else if de k then du ps own aG (inside L k nm)else 0)else 0
end
def nP:List aI->bq->Int
 |[],_=>0
 |x::l,L=>if jM x.name=false then 4 else if x.size<1\/12<x.size then 3 else if L x.name≠ .none then 5 else nP l (L.put x.name (.nf false))
def lG:List aI->bq->bq
 |[],L=>L
 |x::l,L=>lG l (L.put x.name (.nf false))
def jN:bq:=fun _=> .none
def sK(ps:List Ξ)(own:Nat)(x:Ξ):Int:=
 if jM x.name=false then 4
 else if(ps.take own).any (fun p=>p.name==x.name)then 5
 else if 4<x.aK.length then 2
 else if nP x.aK jN≠0 then nP x.aK jN
 else if 120<δ.bj x.body then 2
 else if 6<δ.cM x.body then 11
 else du ps own x.body (lG x.aK jN)
def o8(ps:List Ξ):Nat->List Ξ->Int
 |_,[]=>0
 |k,x::l=>if sK ps k x≠0 then sK ps k x else o8 ps (k+1) l
def ko(ps:List Ξ):Int:=if ps.length<1\/12<ps.length then 2 else o8 ps 0 ps
end Go.ah
namespace Go.ah.Tz
open Go.ah
variable{u:Nat}
def fR:List (List Nat):=fH++bu
def fP(n:Nat):List Nat:=fR.getD n []
theorem agv:∀i,i<24->fP i≠[]:=by decide
def ku(s:List Nat):Bool:=fR.contains s
theorem agu{i:Nat}{s:List Nat}(h:i<24)(he:fP i=s):ku s=true:=by unfold ku;have hl:i<fR.length:=h;rw[yP,<-he,fP,kJ,dr hl];exact cL hl
theorem agw{s:List Nat}(h:∀j,j<24->fP j≠s):ku s=false:=by
 unfold ku;cases hc:fR.contains s with
 |false=>rfl
 |true=>
  rw[yP]at hc
  obtain⟨j,hj,he⟩:=vr hc;exact absurd (by rw[fP,kJ,dr hj];exact he) (h j hj)
attribute [local simp] exec ed dP eX aC dQ ft eL ζ gg τ fW gy gH gI AV.cells newVar gE rd wr fK single eV bY ek dF
theorem f157(n:Nat)(h:1<=n)(h':n<=12)(m:Mem):kf u 157 [.int .i64 n] m=some (.str (bu.getD (n-1) []),m):=by
 refine bD (g:=n4) rfl rfl rfl ?_
 match n,h,h' with
 |1,_,_=>simp[μ,n4,c157,exp,aY,RV.get,aV,ai,bK,bu]
 |2,_,_=>simp[μ,n4,c157,exp,aY,RV.get,aV,ai,bK,bu]
 |3,_,_=>simp[μ,n4,c157,exp,aY,RV.get,aV,ai,bK,bu]
 |4,_,_=>simp[μ,n4,c157,exp,aY,RV.get,aV,ai,bK,bu]
 |5,_,_=>simp[μ,n4,c157,exp,aY,RV.get,aV,ai,bK,bu]
 |6,_,_=>simp[μ,n4,c157,exp,aY,RV.get,aV,ai,bK,bu]
 |7,_,_=>simp[μ,n4,c157,exp,aY,RV.get,aV,ai,bK,bu]
 |8,_,_=>simp[μ,n4,c157,exp,aY,RV.get,aV,ai,bK,bu]
 |9,_,_=>simp[μ,n4,c157,exp,aY,RV.get,aV,ai,bK,bu]
 |10,_,_=>simp[μ,n4,c157,exp,aY,RV.get,aV,ai,bK,bu]
 |11,_,_=>simp[μ,n4,c157,exp,aY,RV.get,aV,ai,bK,bu]
 |12,_,_=>simp[μ,n4,c157,exp,aY,RV.get,aV,ai,bK,bu]
 |n+13,_,h'=>omega
theorem f88(n:Nat)(h:n<=24)(m:Mem):kf u 88 [.int .i64 n] m=some (.str (fP n),m):=by
 refine bD (g:=hZ) rfl rfl rfl ?_
 match n,h with
 |0,_=>simp[μ,hZ,iQ,exp,aY,RV.get,aV,ai,bK,fP,fR,bu,fH]
 |1,_=>simp[μ,hZ,iQ,exp,aY,RV.get,aV,ai,bK,fP,fR,bu,fH]
 |2,_=>simp[μ,hZ,iQ,exp,aY,RV.get,aV,ai,bK,fP,fR,bu,fH]
 |3,_=>simp[μ,hZ,iQ,exp,aY,RV.get,aV,ai,bK,fP,fR,bu,fH]
 |4,_=>simp[μ,hZ,iQ,exp,aY,RV.get,aV,ai,bK,fP,fR,bu,fH]
 |5,_=>simp[μ,hZ,iQ,exp,aY,RV.get,aV,ai,bK,fP,fR,bu,fH]
 |6,_=>simp[μ,hZ,iQ,exp,aY,RV.get,aV,ai,bK,fP,fR,bu,fH]
 |7,_=>simp[μ,hZ,iQ,exp,aY,RV.get,aV,ai,bK,fP,fR,bu,fH]
 |8,_=>simp[μ,hZ,iQ,exp,aY,RV.get,aV,ai,bK,fP,fR,bu,fH]
 |9,_=>simp[μ,hZ,iQ,exp,aY,RV.get,aV,ai,bK,fP,fR,bu,fH]
 |10,_=>simp[μ,hZ,iQ,exp,aY,RV.get,aV,ai,bK,fP,fR,bu,fH]
 |11,_=>simp[μ,hZ,iQ,exp,aY,RV.get,aV,ai,bK,fP,fR,bu,fH]
 |12,_=>have e:∀m,kf u 157 [.int .i64 1] m=some (.str (bu.getD 0 []),m):=f157 (u:=u) 1 (by omega) (by omega);simp[μ,hZ,iQ,exp,aY,RV.get,aV,ai,bK,fP,fR,bu,fH,e,a_,rB]
 |13,_=>have e:∀m,kf u 157 [.int .i64 2] m=some (.str (bu.getD 1 []),m):=f157 (u:=u) 2 (by omega) (by omega);simp[μ,hZ,iQ,exp,aY,RV.get,aV,ai,bK,fP,fR,bu,fH,e,a_,rB]
 |14,_=>have e:∀m,kf u 157 [.int .i64 3] m=some (.str (bu.getD 2 []),m):=f157 (u:=u) 3 (by omega) (by omega);simp[μ,hZ,iQ,exp,aY,RV.get,aV,ai,bK,fP,fR,bu,fH,e,a_,rB]
 |15,_=>have e:∀m,kf u 157 [.int .i64 4] m=some (.str (bu.getD 3 []),m):=f157 (u:=u) 4 (by omega) (by omega);simp[μ,hZ,iQ,exp,aY,RV.get,aV,ai,bK,fP,fR,bu,fH,e,a_,rB]
 |16,_=>have e:∀m,kf u 157 [.int .i64 5] m=some (.str (bu.getD 4 []),m):=f157 (u:=u) 5 (by omega) (by omega);simp[μ,hZ,iQ,exp,aY,RV.get,aV,ai,bK,fP,fR,bu,fH,e,a_,rB]
 |17,_=>have e:∀m,kf u 157 [.int .i64 6] m=some (.str (bu.getD 5 []),m):=f157 (u:=u) 6 (by omega) (by omega);simp[μ,hZ,iQ,exp,aY,RV.get,aV,ai,bK,fP,fR,bu,fH,e,a_,rB]
 |18,_=>have e:∀m,kf u 157 [.int .i64 7] m=some (.str (bu.getD 6 []),m):=f157 (u:=u) 7 (by omega) (by omega);simp[μ,hZ,iQ,exp,aY,RV.get,aV,ai,bK,fP,fR,bu,fH,e,a_,rB]
 |19,_=>have e:∀m,kf u 157 [.int .i64 8] m=some (.str (bu.getD 7 []),m):=f157 (u:=u) 8 (by omega) (by omega);simp[μ,hZ,iQ,exp,aY,RV.get,aV,ai,bK,fP,fR,bu,fH,e,a_,rB]
 |20,_=>have e:∀m,kf u 157 [.int .i64 9] m=some (.str (bu.getD 8 []),m):=f157 (u:=u) 9 (by omega) (by omega);simp[μ,hZ,iQ,exp,aY,RV.get,aV,ai,bK,fP,fR,bu,fH,e,a_,rB]
 |21,_=>have e:∀m,kf u 157 [.int .i64 10] m=some (.str (bu.getD 9 []),m):=f157 (u:=u) 10 (by omega) (by omega);simp[μ,hZ,iQ,exp,aY,RV.get,aV,ai,bK,fP,fR,bu,fH,e,a_,rB]
 |22,_=>have e:∀m,kf u 157 [.int .i64 11] m=some (.str (bu.getD 10 []),m):=f157 (u:=u) 11 (by omega) (by omega);simp[μ,hZ,iQ,exp,aY,RV.get,aV,ai,bK,fP,fR,bu,fH,e,a_,rB]
 |23,_=>have e:∀m,kf u 157 [.int .i64 12] m=some (.str (bu.getD 11 []),m):=f157 (u:=u) 12 (by omega) (by omega);simp[μ,hZ,iQ,exp,aY,RV.get,aV,ai,bK,fP,fR,bu,fH,e,a_,rB]
 |24,_=>simp[μ,hZ,iQ,exp,aY,RV.get,aV,ai,bK,fP,fR,bu,fH]
 |n+25,h=>omega
attribute [local simp] μ aY RV.get aV dB iE
theorem f217(s:List Nat)(m:Mem):kf u 217 [.str s] m=some (.bool (ku s),m):=by
 refine bD (g:=Ft) rfl rfl rfl ?_;simp only[ay,aA,exp,Ft,Oo];let K:St->Prop:=fun st=>ζ st.env 0= .str s/\st.mem= {ε:=m.ε,θ:=[]};refine ω (K) (by simp[K]) fun s1 ⟨h1,h2⟩=>?_;refine bc (fun st=>K st/\ku s=false) ?_ fun s2 ⟨⟨h1,h2⟩,h3⟩=>?_
 ·let I:Nat->St->Prop:=fun i st=>K st/\ζ st.env 3= .int .i64 i/\∀j,j<i->fP j≠s;refine ω (I 0) (by simp[I,K,h1,h2]) fun s4 hI=>?_;refine μ.block (μ.loop (I:=I) 24 hI fun i st hi ψ=>?_);obtain⟨⟨q1,q2⟩,q3,q4⟩:=ψ;have e:=f88 (u:=u) i hi;have hw:a_ .i64 ((i:Int)+1)=(i:Int)+1:=wrap_i64 (by omega) (by omega);rcases bP i 24 with ρ|cG
  ·have ak:=agv i ρ;by_cases he:fP i=s
   ·right;have hc:=agu ρ he;have Ce:s≠[]:=he▸ak;simp[Hj,q1,q2,q3,e,he,Ce,hc]
   ·left;refine⟨ρ,?_⟩;simp[I,K,Hj,q1,q2,q3,e,ak,he,hw];intro j hj;rcases bP j i with h|h
    ·exact q4 j h
    ·have:j=i:=by omega
     subst this;exact he
  ·right;have:i=24:=by omega
   subst this;have hz:fP 24=[]:=by decide
   have hn:=agw q4;rw[hz]at e;have e':∀m,kf u 88 [.int .i64 24] m=some (.str [],m):=e;simp[K,Hj,q1,q2,q3,e',hn]
 ·simp[h1,h2,h3]
theorem HC(s:List Nat):jM s=(!(decide (s.length<1)||decide (8<s.length)||ku s)&&lD s):=by
 unfold jM;have:ku s=(fH.contains s||bu.contains s):=by simp[ku,fR]
 rw[this];by_cases h1:s.length<1<;>by_cases h2:8<s.length<;>cases fH.contains s<;>cases bu.contains s<;>cases lD s<;>simp[h1,h2]<;>first|omega|(intro;omega)|exact List.eq_nil_of_length_eq_zero (by omega)|skip
theorem f164(s:List Nat)(m:Mem):kf u 164 [.str s] m=some (.bool (jM s),m):=by
 refine bD (g:=EY) rfl rfl rfl ?_;simp only[ay,aA,exp,EY,c164];let K:St->Prop:=fun st=>ζ st.env 0= .str s/\st.mem= {ε:=m.ε,θ:=[]};refine ω (K) (by simp[K]) fun s1 ⟨h1,h2⟩=>?_;refine bc (fun st=>K st/\1<=s.length/\s.length<=8/\ku s=false) ?_ fun s2 ⟨⟨h1,h2⟩,g1,g2,g3⟩=>?_
 ·have e:=f217 (u:=u) s;by_cases c1:s.length<1
  ·have:jM s=false:=by rw[HC];simp[c1]
   have xh:(s.length:Int)<1:=by omega
   simp[K,h1,h2,xh,this]
  have xh:¬(s.length:Int)<1:=by omega
  by_cases c2:8<s.length
  ·have:jM s=false:=by rw[HC];simp[c2]
   have nU:(8:Int)<s.length:=by omega
   simp[K,h1,h2,xh,nU,this]
  have nU:¬(8:Int)<s.length:=by omega
  cases c3:ku s with
  |true=>
   have:jM s=false:=by rw[HC];simp[c3]
   rw[c3]at e;simp[K,h1,h2,xh,nU,e,this]
  |false=>
   rw[c3]at e
   have VJ:1<=s.length:=by omega
   have A_:s.length<=8:=by omega
   simp[K,h1,h2,xh,nU,VJ,A_,e]
 ·have kx:jM s=lD s:=by
   have n1:¬s.length<1:=by omega
   have n2:¬8<s.length:=by omega
   rw[HC,g3];simp only[n1,n2,decide_false,Bool.or_self,Bool.not_false,Bool.true_and]
  rw[kx];refine bc (fun st=>K st/\lD s=true) ?_ fun s2 ⟨⟨h1,h2⟩,h3⟩=>?_
  ·let I:Nat->St->Prop:=fun i st=>K st/\ζ st.env 3= .int .i64 i/\∀j (hj:j<s.length),j<i->97<=s[j]/\s[j]<=122;refine ω (I 0) (by simp[I,K,h1,h2]) fun s4 hI=>?_;refine μ.block (μ.loop (I:=I) s.length hI fun i st hi ψ=>?_);obtain⟨⟨q1,q2⟩,q3,q4⟩:=ψ;have hw:a_ .i64 ((i:Int)+1)=(i:Int)+1:=wrap_i64 (by omega) (by omega);rcases bP i s.length with ρ|cG
   ·by_cases a1:s[i]<97
    ·right;have hn:lD s=false:=by simp only[lD,ahz];exact⟨s[i],cL ρ,by simp;omega⟩
     have qx:(s[i]:Int)<97:=by omega
     simp[CI,q1,q2,q3,ρ,qx,hn]
    by_cases a2:122<s[i]
    ·right;have hn:lD s=false:=by simp only[lD,ahz];exact⟨s[i],cL ρ,by simp;omega⟩
     have qx:¬(s[i]:Int)<97:=by omega
     have vw:(122:Int)<s[i]:=by omega
     simp[CI,q1,q2,q3,ρ,qx,vw,hn]
    ·left;have qx:¬(s[i]:Int)<97:=by omega
     have vw:¬(122:Int)<s[i]:=by omega
     refine⟨ρ,?_⟩;simp[I,K,CI,q1,q2,q3,ρ,qx,vw,hw];intro j hj jg;rcases bP j i with h|h
     ·exact q4 j hj h
     ·have:j=i:=by omega
      subst this;omega
   ·right;have:i=s.length:=by omega
    subst this;have hy:lD s=true:=by simp only[lD,List.all_eq_true];intro b hb;obtain⟨j,hj,rfl⟩:=vr hb;have:=q4 j hj hj;simp;omega
    simp[K,CI,q1,q2,q3,hy]
  ·simp[h1,h2,h3]
end Go.ah.Tz
