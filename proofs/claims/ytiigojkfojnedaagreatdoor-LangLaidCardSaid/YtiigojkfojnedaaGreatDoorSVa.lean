import Derived.Test.YtiigojkfojnedaaGreatDoorSZga
set_option linter.all false
set_option maxRecDepth 100000
set_option maxHeartbeats 8000000
open List renaming length_cons->cD,mem_cons->cy,map_map->cT,map_congr_left->de,take_succ_cons->sL,getElem_cons_succ->pF,map_cons->az,map_nil->aJ,getElem_mem->c_,findIdx?_eq_some_iff_getElem->tU,findIdx?_eq_none_iff->wG,all_eq_false->amp,contains_iff_mem->yd
open Go.IntKind renaming wrap->bC
open Nat renaming lt_or_ge->da,add_zero->qu
namespace Go.Θ
inductive ζ
 |mk (k n:Int) (s:List Nat) (c:ρ) (l:List ζ)
mutual
def ζ.av:ζ->AV
 | .mk k n s c l=> .agg [.int .i64 k,.int .i64 n,.str s,.list c (ζ.χ l)]
def ζ.χ:List ζ->List AV
 |[]=>[]
 |x::l=>x.av::ζ.χ l
end
theorem ζ.eo(l:List ζ):ζ.χ l=l.map ζ.av:=by
 induction l with
 |nil=>rfl
 |cons a l ih=>simp[ζ.χ,ih]
mutual
def ζ.cnt:ζ->Nat
 | .mk _ _ _ _ l=>1+ζ.bL l
def ζ.bL:List ζ->Nat
 |[]=>0
 |x::l=>x.cnt+ζ.bL l
end
theorem ζ.Ll(x:ζ):0<x.cnt:=by cases x;simp[ζ.cnt];omega
theorem ζ.AQ(l:List ζ):l.length<=ζ.bL l:=by
 induction l with
 |nil=>simp
 |cons a l ih=>have:=ζ.Ll a;simp only[cD,ζ.bL];omega
theorem ζ.AP{l:List ζ}{x:ζ}(h:x∈l):x.cnt<=ζ.bL l:=by
 induction l with
 |nil=>cases h
 |cons a l ih=>
  simp only[ζ.bL]
  rcases cy.1 h with rfl|h
  ·omega
  ·have:=ih h;omega
theorem ζ.jR{Q:ζ->Prop}(h:∀k n s c l,(∀y∈l,Q y)->Q (.mk k n s c l))(x:ζ):Q x:=
 ζ.rec (motive_1:=Q) (motive_2:=fun l=>∀y∈l,Q y) (fun k n s c l ih=>h k n s c l ih) (fun y hy=>(by cases hy))
  (fun x l hx hl y hy=>(by
   rcases cy.1 hy with rfl|hy
   ·exact hx
   ·exact hl y hy)) x
def kX(k n:Int)(m:Nat):Int:=
 if k<1\/5<k\/(k=1/\(n<0\/99<n))then 3
 else if(3<=k/\m≠2)\/(k<3/\m≠0)then 2 else 0
def OM(n:Int):Int×Int:=if n< -1000000000\/1000000000<n then(0,8)else(n,0)
def comb(names:List (List Nat))(uK:List Int)(k n:Int)(s:List Nat)(rs:List (Int×Int)):Int×Int:=
 if k=2 then
  match names.findIdx? (fun x=>x==s)with
  |none=>(0,1)
  |some i=>OM (uK.getD i 0)
 else if 3<=k then
  match rs with
  |[(a,ea),(b,eb)]=>if ea≠0 then(0,ea)else if eb≠0 then(0,eb)else OM (if k=3 then a+b else if k=4 then a-b else a*b)
  |_=>(0,0)
 else OM n
mutual
def ζ.val(names:List (List Nat))(uK:List Int):ζ->Int×Int
 | .mk k n s _ l=>if kX k n l.length=0 then comb names uK k n s (ζ.Yq names uK l)else(0,kX k n l.length)
def ζ.Yq(names:List (List Nat))(uK:List Int):List ζ->List (Int×Int)
 |[]=>[]
 |x::l=>x.val names uK::ζ.Yq names uK l
end
def ζ.value(names:List (List Nat))(uK:List Int)(x:ζ):Int×Int:=
 if 9<x.cnt then(0,2)else if names.length≠uK.length then(0,7)else x.val names uK
def bp(c:ρ):Prop:=c= .nil\/c= .any
theorem fR{n:Nat}{k:Bool}{c:ρ}(h:bp c):c.exp n k=c:=by rcases h with rfl|rfl<;>rfl
mutual
def ζ.Ok:ζ->Prop
 | .mk _ _ _ c l=>bp c/\ζ.cJ l
def ζ.cJ:List ζ->Prop
 |[]=>True
 |x::l=>x.Ok/\ζ.cJ l
end
theorem ζ.iB{l:List ζ}(h:ζ.cJ l):∀x∈l,x.Ok:=by
 induction l with
 |nil=>intro x hx;cases hx
 |cons a l ih=>
  intro x hx
  rcases cy.1 hx with rfl|hx
  ·exact h.1
  ·exact ih h.2 x hx
theorem ζ.jM(n:Nat)(k:Bool)(x:ζ):x.Ok->exp n k x.av=x.av:=by
 refine ζ.jR (Q:=fun x=>x.Ok->exp n k x.av=x.av) (fun kk nn s c l ih h=>?_) x;simp only[ζ.Ok]at h;have hl:aX n k (ζ.χ l)=ζ.χ l:=by rw[fe,ζ.eo,cT];exact de fun y hy=>ih y hy (ζ.iB h.2 y hy)
 simp only[ζ.av,exp,aX,fR h.1,hl]
theorem ζ.tF(x:ζ):ν x.av=x.av:=by
 refine ζ.jR (Q:=fun x=>ν x.av=x.av) (fun kk nn s c l ih=>?_) x;have hl:cw (ζ.χ l)=ζ.χ l:=by rw[fH,ζ.eo,cT];exact de fun y hy=>ih y hy
 simp only[ζ.av,ν,cw,hl]
theorem ζ.yN(bs:List θ)(n k:Nat)(x:ζ):x.Ok->aO bs n k x.av=x.av:=by
 refine ζ.jR (Q:=fun x=>x.Ok->aO bs n k x.av=x.av) (fun kk nn s c l ih h=>?_) x;simp only[ζ.Ok]at h;cases k with
 |zero=>exact ζ.jM n false _ (by simp only[ζ.Ok];exact h)
 |succ k=>
  have hl:(ζ.χ l).map (aO bs n (k+1))=ζ.χ l:=by rw[ζ.eo,cT];exact de fun y hy=>ih y hy (ζ.iB h.2 y hy)
  simp only[aO]at hl;simp only[ζ.av,aO,fK,oT,qF,fR h.1,hl]
theorem wrap_i64{n:Int}(h1: -9223372036854775808<=n)(h2:n<9223372036854775808):bC .i64 n=n:=by
 show(if(true&&decide (n % 18446744073709551616≥9223372036854775808))=true then n % 18446744073709551616-18446744073709551616 else n % 18446744073709551616)=n;split
 ·rename_i h;simp at h;omega
 ·rename_i h;simp at h;omega
end Go.Θ
namespace Go.Θ.Tz
open Go.Θ
variable{u:Nat}
theorem fT(bs:List θ)(n:Nat)(k:IntKind)(i:Int):aO bs n 8 (.int k i)= .int k i:=rfl
theorem kz(bs:List θ)(n:Nat)(b:Bool):aO bs n 8 (.bool b)= .bool b:=rfl
theorem rF(l:List ζ):(ζ.χ l).length=l.length:=by rw[ζ.eo];simp
theorem FF(l:List ζ)(i:Nat)(h:i<l.length):(ζ.χ l)[i]'(by rw[rF];exact h)=l[i].av:=by simp[ζ.eo]
theorem aaw(l:List ζ)(i:Nat)(h:i<l.length):ζ.bL (l.take (i+1))=ζ.bL (l.take i)+l[i].cnt:=by
 induction l generalizing i with
 |nil=>simp at h
 |cons a l ih=>
  cases i with
  |zero=>simp[ζ.bL]
  |succ i=>
   have:=ih i (by simpa using h)
   simp only[sL,ζ.bL,pF]at this⊢;omega
theorem aau(l:List ζ)(i:Nat):ζ.bL (l.take i)<=ζ.bL l:=by
 induction l generalizing i with
 |nil=>simp
 |cons a l ih=>
  cases i with
  |zero=>simp[ζ.bL]
  |succ i=>have:=ih i;simp only[sL,ζ.bL];omega
attribute [local simp] exec dY dP eX aI dw fA eN aK fL bQ iu iE iM jd AV.cells newVar iX rd wr gT single dk cE e_ ew
theorem f117(x:ζ):x.Ok->x.cnt<1000000000000->∀m,kf u 117 [x.av] m=some (.n x.cnt,m):=by
 refine ζ.jR (Q:=fun x=>x.Ok->x.cnt<1000000000000->∀m,kf u 117 [x.av] m=some (.n x.cnt,m)) (fun k n s c l ih ai hc m=>?_) x;refine dI (g:=Gu) rfl rfl rfl ?_;simp only[az,aJ,ζ.jM _ _ _ ai,Gu,c117];simp only[ζ.cnt]at hc;refine Δ (fun s1=>s1.e 1= .aj 1 0 0/\s1.q 1=some (0,.cells [.n k,.n n,.str s,.list c (ζ.χ l)])/\s1.mem= {ε:=m.ε,η:=[]}) (by simp[ζ.av,bz]) fun s1 ⟨h1,h2,h3⟩=>?_;refine Δ (fun s2=>s2.e 1= .aj 1 0 0/\s2.q 1=some (0,.cells [.n k,.n n,.str s,.list c (ζ.χ l)])/\s2.mem= {ε:=m.ε,η:=[]}/\s2.e 3= .n 1) (by simp[h1,h2,h3]) fun s2 ⟨h1,h2,h3,h4⟩=>?_;refine bJ (fun s3=>s3.mem= {ε:=m.ε,η:=[]}/\s3.e 3= .n ((1+ζ.bL l:Nat):Int)) ?_ fun s3 ⟨h3,h4⟩=>?_
 ·let I:Nat->St->Prop:=fun i st=>st.e 3= .n ((1+ζ.bL (l.take i):Nat):Int)/\st.e 7= .list c (ζ.χ l)/\st.e 8= .n l.length/\st.e 9= .n i/\st.mem= {ε:=m.ε,η:=[]};refine Δ (I 0) (by simp[I,h1,h2,h3,h4,rF,ζ.bL]) fun s4 hI=>?_;refine κ.block (κ.loop (I:=I) l.length hI fun i st hi Ω=>?_);obtain⟨q1,q2,q3,q4,q5⟩:=Ω;by_cases ψ:i<l.length
  ·left;refine⟨ψ,?_⟩;have hg:=FF l i ψ;have ht:=aaw l i ψ;have hle:=aau l (i+1);have xI:=ih l[i] (c_ ψ) (ζ.iB ai.2 _ (c_ ψ)) (by have:=ζ.AP (c_ ψ);omega);generalize l[i]=y at hg ht xI;obtain⟨k',n',s',c',l'⟩:=y;simp only[ζ.av]at hg xI;have hw:bC .i64 (1+(ζ.bL (l.take i):Int)+((ζ.mk k' n' s' c' l').cnt:Int))=1+(ζ.bL (l.take i):Int)+((ζ.mk k' n' s' c' l').cnt:Int):=wrap_i64 (by omega) (by omega);have mf:bC .i64 ((i:Int)+1)=(i:Int)+1:=wrap_i64 (by omega) (by have:=ζ.AQ l;omega);simp[I,Ov,q1,q2,q3,q4,q5,ψ,hg,xI,hw,mf,ht,rF];omega
  ·right;have:i=l.length:=by omega
   subst this;simp[Ov,q1,q2,q3,q4,q5]
 ·simp[κ,h3,h4,cK,RV.get,cL,fT,ζ.cnt]
theorem f176(k n:Int)(s:List Nat)(c:ρ)(l:List ζ)(m:Mem)(ai:(ζ.mk k n s c l).Ok):
  kf u 176 [(ζ.mk k n s c l).av] m=some (.n (kX k n l.length),m):=by
 have hl:(ζ.χ l).length=l.length:=by rw[ζ.eo];simp
 refine dI (g:=qG) rfl rfl rfl ?_;simp only[az,aJ,ζ.jM _ _ _ ai];by_cases h1:k<1
 ·have e3:(k==3)=false:=by simp;omega
  have e4:(k==4)=false:=by simp;omega
  have e5:(k==5)=false:=by simp;omega
  simp[κ,qG,sO,ζ.av,cK,RV.get,cL,fT,kX,h1,e3,e4,e5]
 by_cases h2:k>5
 ·have e3:(k==3)=false:=by simp;omega
  have e4:(k==4)=false:=by simp;omega
  have e5:(k==5)=false:=by simp;omega
  simp[κ,qG,sO,ζ.av,cK,RV.get,cL,fT,kX,h1,h2,e3,e4,e5]
 by_cases h3:k=1
 ·subst h3;by_cases h4:n<0
  ·simp[κ,qG,sO,ζ.av,cK,RV.get,cL,fT,kX,h4]
  by_cases h5:n>99
  ·simp[κ,qG,sO,ζ.av,cK,RV.get,cL,fT,kX,h4,h5]
  by_cases h8:l.length=0
  ·simp[κ,qG,sO,ζ.av,cK,RV.get,cL,fT,kX,hl,h4,h5,h8]
  ·have rR:0<l.length:=by omega
   simp[κ,qG,sO,ζ.av,cK,RV.get,cL,fT,kX,hl,h4,h5,h8,rR]
 by_cases gE:k=2
 ·subst gE;by_cases h8:l.length=0
  ·simp[κ,qG,sO,ζ.av,cK,RV.get,cL,fT,kX,hl,h8]
  ·have rR:0<l.length:=by omega
   simp[κ,qG,sO,ζ.av,cK,RV.get,cL,fT,kX,hl,h8,rR]
 have hk:k=3\/k=4\/k=5:=by omega
 by_cases h7:l.length=2
 ·rcases hk with rfl|rfl|rfl<;>simp[κ,qG,sO,ζ.av,cK,RV.get,cL,fT,kX,hl,h7]
 ·have h7':((l.length:Int) !=2)=true:=by simp;omega
  rcases hk with rfl|rfl|rfl<;>simp[κ,qG,sO,ζ.av,cK,RV.get,cL,fT,kX,hl,h7,h7']
def aZ(c:ρ)(l:List (List Nat)):AV:= .list c (l.map AV.str)
theorem wV{n:Nat}{k:Bool}{c:ρ}(hc:bp c)(l:List (List Nat)):exp n k (aZ c l)=aZ c l:=by simp only[aZ,exp,fR hc,fe,cT];congr 1
def placeOf(l:List (List Nat))(t:List Nat):Int:=match l.findIdx? (fun x=>x==t)with
 |some i=>(i:Int)
 |none=> -1
theorem ah9{l:List (List Nat)}{t:List Nat}{i:Nat}(h:i<l.length)(he:l[i]=t)(hn:∀j (hj:j<l.length),j<i->l[j]≠t):l.findIdx? (fun x=>x==t)=some i:=by rw[tU];refine⟨h,by simpa using he,fun j hj=>?_⟩;have:=hn j (by omega) hj;simpa using this
theorem ah8{l:List (List Nat)}{t:List Nat}(hn:∀j (hj:j<l.length),l[j]≠t):l.findIdx? (fun x=>x==t)=none:=by rw[wG];intro x hx;obtain⟨j,hj,rfl⟩:=List.mem_iff_getElem.1 hx;simpa using hn j hj
theorem f85(cn:ρ)(mR:bp cn)(ss:List (List Nat))(t:List Nat)(hlen:ss.length<1000000000000)(m:Mem):
  kf u 85 [aZ cn ss,.str t] m=some (.n (placeOf ss t),m):=by
 refine dI (g:=De) rfl rfl rfl ?_;simp only[az,aJ,wV mR,exp,De,c85];refine Δ (fun s1=>s1.e 0=aZ cn ss/\s1.e 1= .str t/\s1.mem= {ε:=m.ε,η:=[]}) (by simp) fun s1 ⟨h1,h2,h3⟩=>?_;refine bJ (fun s3=>s3.mem= {ε:=m.ε,η:=[]}/\∀j (hj:j<ss.length),ss[j]≠t) ?_ fun s3 ⟨h3,h4⟩=>?_
 ·let I:Nat->St->Prop:=fun i st=>st.e 0=aZ cn ss/\st.e 1= .str t/\st.e 7= .n ss.length/\st.e 8= .n i/\st.mem= {ε:=m.ε,η:=[]}/\∀j (hj:j<ss.length),j<i->ss[j]≠t;refine Δ (I 0) (by simp[I,h1,h2,h3,aZ]) fun s4 hI=>?_;refine κ.block (κ.loop (I:=I) ss.length hI fun i st hi Ω=>?_);obtain⟨q1,q2,q3,q4,q5,q6⟩:=Ω;simp only[aZ]at q1;by_cases ψ:i<ss.length
  ·have mf:bC .i64 ((i:Int)+1)=(i:Int)+1:=wrap_i64 (by omega) (by omega);by_cases he:ss[i]=t
   ·right;have hp:=ah9 ψ he q6;simp[IX,q1,q2,q3,q4,q5,ψ,he];simp[cK,De,RV.get,fL,cL,fT,placeOf,hp]
   ·left;have qJ:¬t=ss[i]:=fun e=>he e.symm;refine⟨ψ,?_⟩;simp[I,IX,q1,q2,q3,q4,q5,ψ,qJ,mf,aZ];intro j hj me;rcases da j i with h|h
    ·exact q6 j hj h
    ·have:j=i:=by omega
     subst this;exact he
  ·right;have:i=ss.length:=by omega
   subst this;simp[IX,q1,q2,q3,q4,q5];exact fun j hj=>q6 j hj hj
 ·have hp:=ah8 h4;simp[κ,h3,cK,RV.get,cL,fT,placeOf,hp]
mutual
def _root_.Go.Θ.ζ.copy:ζ->ζ
 | .mk k n s _ l=> .mk k n s (match l with
  |[]=> .nil
  |_=> .any) (Lo l)
def Lo:List ζ->List ζ
 |[]=>[]
 |x::l=>x.copy::Lo l
end
theorem PK(B:List θ)(x y:θ):(B++[x]).set B.length y=B++[y]:=by simp
end Go.Θ.Tz
namespace Go.Θ
structure ξ where
 name:List Nat
 c:ρ
 ix:List ζ
inductive δ
 |mk (k g:Int) (name:List Nat) (cp:ρ) (pl:List ξ) (size to:ζ) (cb:ρ) (body:List δ) (ce:ρ) (els:List δ)
structure ak where
 name:List Nat
 size:Int
structure τ where
 name:List Nat
 cp:ρ
 au:List ak
 cb:ρ
 body:List δ
structure Az where
 c:ρ
 procs:List τ
def ζ.four:ζ->List AV
 | .mk k n s c l=>[.int .i64 k,.int .i64 n,.str s,.list c (ζ.χ l)]
theorem ζ.fD(x:ζ):x.av= .agg x.four:=by cases x;rfl
def ξ.av(p:ξ):AV:= .agg [.str p.name,.list p.c (p.ix.map ζ.av)]
mutual
def δ.cells:δ->List AV
 | .mk k g nm cp pl size to cb body ce els=>[.int .i64 k,.int .i64 g,.str nm,.list cp (pl.map ξ.av)]++size.four++to.four++[.list cb (δ.χ body),.list ce (δ.χ els)]
def δ.χ:List δ->List AV
 |[]=>[]
 |s::l=> .agg s.cells::δ.χ l
end
def δ.av(s:δ):AV:= .agg s.cells
theorem δ.eo(l:List δ):δ.χ l=l.map δ.av:=by
 induction l with
 |nil=>rfl
 |cons a l ih=>simp[δ.χ,ih,δ.av]
def ak.av(p:ak):AV:= .agg [.str p.name,.n p.size]
def τ.av(p:τ):AV:= .agg [.str p.name,.list p.cp (p.au.map ak.av),.list p.cb (δ.χ p.body)]
def Az.cells(p:Az):List AV:=[.list p.c (p.procs.map τ.av)]
def Az.av(p:Az):AV:= .agg p.cells
theorem δ.jR{Q:δ->Prop}(h:∀k g nm cp pl size to cb body ce els,(∀y∈body,Q y)->(∀y∈els,Q y)->Q (.mk k g nm cp pl size to cb body ce els))(x:δ):Q x:=
 δ.rec (motive_1:=Q) (motive_2:=fun l=>∀y∈l,Q y) (fun k g nm cp pl size to cb body ce els h1 h2=>h k g nm cp pl size to cb body ce els h1 h2) (fun y hy=>(by cases hy))
  (fun x l hx hl y hy=>(by
   rcases cy.1 hy with rfl|hy
   ·exact hx
   ·exact hl y hy)) x
def δ.body:δ->List δ
 | .mk _ _ _ _ _ _ _ _ b _ _=>b
def δ.els:δ->List δ
 | .mk _ _ _ _ _ _ _ _ _ _ e=>e
theorem δ.lists{P:List δ->Prop}(h:∀l:List δ,(∀y∈l,P y.body/\P y.els)->P l)(l:List δ):P l:=
 h l fun y _=>δ.jR (Q:=fun y=>P y.body/\P y.els) (fun _ _ _ _ _ _ _ _ body _ els h1 h2=>⟨h body h1,h els h2⟩) y
def du(s:List Nat):Prop:=∀b∈s,b<256
mutual
def ζ.rB:ζ->Prop
 | .mk _ _ s _ l=>du s/\ζ.Strs l
def ζ.Strs:List ζ->Prop
 |[]=>True
 |x::l=>x.rB/\ζ.Strs l
end
def ζ.gA(x:ζ):Prop:=x.Ok/\x.rB
def ξ.Ok(p:ξ):Prop:=du p.name/\bp p.c/\∀x∈p.ix,x.gA
mutual
def δ.Ok:δ->Prop
 | .mk _ _ nm cp pl size to cb body ce els=>du nm/\bp cp/\(∀p∈pl,p.Ok)/\size.gA/\to.gA/\bp cb/\δ.cJ body/\bp ce/\δ.cJ els
def δ.cJ:List δ->Prop
 |[]=>True
 |s::l=>s.Ok/\δ.cJ l
end
theorem δ.iB{l:List δ}(h:δ.cJ l):∀x∈l,x.Ok:=by
 induction l with
 |nil=>intro x hx;cases hx
 |cons a l ih=>
  intro x hx
  rcases cy.1 hx with rfl|hx
  ·exact h.1
  ·exact ih h.2 x hx
def τ.Ok(p:τ):Prop:=du p.name/\bp p.cp/\(∀x∈p.au,du x.name)/\bp p.cb/\δ.cJ p.body/\(p.cp= .nil->p.au=[])
def Az.Ok(p:Az):Prop:=bp p.c/\∀x∈p.procs,x.Ok
theorem ζ.S7(n:Nat)(k:Bool)(x:ζ)(h:x.Ok):aX n k x.four=x.four:=by have:=ζ.jM n k x h;rw[ζ.fD]at this;simpa only[exp,AV.agg.injEq]using this
theorem ζ.WI(x:ζ):cw x.four=x.four:=by have:=ζ.tF x;rw[ζ.fD]at this;simpa only[ν,AV.agg.injEq]using this
theorem ξ.jM(n:Nat)(k:Bool)(p:ξ)(h:p.Ok):exp n k p.av=p.av:=by
 have:aX n k (p.ix.map ζ.av)=p.ix.map ζ.av:=by rw[fe,cT];exact de fun x hx=>ζ.jM n k x (h.2.2 x hx).1
 simp only[ξ.av,exp,aX,fR h.2.1,this]
theorem ξ.tF(p:ξ):ν p.av=p.av:=by
 have:cw (p.ix.map ζ.av)=p.ix.map ζ.av:=by rw[fH,cT];exact de fun x _=>ζ.tF x
 simp only[ξ.av,ν,cw,this]
theorem abf(n:Nat)(k:Bool)(a b:List AV):aX n k (a++b)=aX n k a++aX n k b:=by simp[fe]
theorem agy(a b:List AV):cw (a++b)=cw a++cw b:=by simp[fH]
theorem δ.S0(n:Nat)(k:Bool)(x:δ):x.Ok->aX n k x.cells=x.cells:=by
 refine δ.jR (Q:=fun x=>x.Ok->aX n k x.cells=x.cells) (fun kk g nm cp pl size to cb body ce els h1 h2 h=>?_) x;simp only[δ.Ok]at h;obtain⟨-,k1,k2,k3,k4,k5,k6,k7,k8⟩:=h;have e1:aX n k (pl.map ξ.av)=pl.map ξ.av:=by rw[fe,cT];exact de fun x hx=>ξ.jM n k x (k2 x hx)
 have go:∀l:List δ,δ.cJ l->(∀y∈l,y.Ok->aX n k y.cells=y.cells)->aX n k (δ.χ l)=δ.χ l:=by intro l hl hy;rw[fe,δ.eo,cT];refine de fun y hm=>?_;simp only[Function.comp,δ.av,exp,hy y hm (δ.iB hl y hm)]
 simp only[δ.cells,abf,aX,exp,fR k1,fR k5,fR k7,e1,ζ.S7 _ _ _ k3.1,ζ.S7 _ _ _ k4.1,go body k6 h1,go els k8 h2]
theorem δ.jM(n:Nat)(k:Bool)(x:δ)(h:x.Ok):exp n k x.av=x.av:=by simp only[δ.av,exp,δ.S0 n k x h]
theorem δ.Gc(n:Nat)(k:Bool)(l:List δ)(h:δ.cJ l):aX n k (δ.χ l)=δ.χ l:=by rw[fe,δ.eo,cT];exact de fun x hx=>δ.jM n k x (δ.iB h x hx)
theorem δ.zN(x:δ):cw x.cells=x.cells:=by
 refine δ.jR (Q:=fun x=>cw x.cells=x.cells) (fun kk g nm cp pl size to cb body ce els h1 h2=>?_) x;have e1:cw (pl.map ξ.av)=pl.map ξ.av:=by rw[fH,cT];exact de fun x hx=>ξ.tF x
 have go:∀l:List δ,(∀y∈l,cw y.cells=y.cells)->cw (δ.χ l)=δ.χ l:=by intro l hy;rw[fH,δ.eo,cT];refine de fun y hm=>?_;simp only[Function.comp,δ.av,ν,hy y hm]
 simp only[δ.cells,agy,cw,ν,e1,ζ.WI,go body h1,go els h2]
theorem τ.jM(n:Nat)(k:Bool)(p:τ)(h:p.Ok):exp n k p.av=p.av:=by
 obtain⟨-,k1,k2,k3,k4,-⟩:=h;have e1:aX n k (p.au.map ak.av)=p.au.map ak.av:=by rw[fe,cT];exact de fun x _=>rfl
 simp only[τ.av,exp,aX,fR k1,fR k3,e1,δ.Gc _ _ _ k4]
theorem ζ.ft(x:ζ):x.four.length=4:=by cases x;rfl
theorem δ.lH(x:δ):x.cells.length=14:=by cases x;simp[δ.cells,ζ.ft]
def fu:List (List Nat):=[[120],[121],[122],[104],[115],[115,100],[116],[116,100],[99,120],[99,122],[115,119,97,112],[99,99,120]]
def uF:List (List Nat):=[[112,114,111,99],[116,97,107,101],[100,114,111,112],[98,111,114,114,111,119],[109,101,97,115,117,114,101],[114,101,115,101,116],[105,102],[101,108,115,101],[102,111,114],[117,110,100,111],[119,105,116,104,105,110],[97,112,112,108,121]]
def su(s:List Nat):Bool:=s.all fun b=>decide (97<=b)&&decide (b<=122)
def dc(s:List Nat):Bool:=decide (0<s.length)&&decide (s.length<=8)&&su s&& !fu.contains s&& !uF.contains s
mutual
def ζ.part(may:List Nat->Bool)(no:Int):ζ->Int
 | .mk k n s _ l=>if kX k n l.length≠0 then kX k n l.length else if k=2/\may s=false then no else ζ.parts may no l
def ζ.parts(may:List Nat->Bool)(no:Int):List ζ->Int
 |[]=>0
 |x::l=>if x.part may no≠0 then x.part may no else ζ.parts may no l
end
def ζ.err(may:List Nat->Bool)(no:Int)(x:ζ):Int:=if 9<x.cnt then 2 else x.part may no
inductive rD
 |none
 |ki (cA:Bool)
 |bit
 |dS
 deriving DecidableEq
abbrev bX:=List Nat->rD
def rD.zB:rD->Bool
 | .ki _=>true
 |_=>false
def iV(L:bX)(s:List Nat):Bool:=decide (L s= .dS)
def jt(L:bX)(p:ξ):Int:=if(L p.name).zB=false then 1 else if 2<p.ix.length then 2 else first (ζ.err (iV L) 1) p.ix
def fG(L:bX)(s:List Nat):Int:=if dc s=false then 4 else if L s≠ .none then 5 else 0
def gb(g:Int):Nat:=if g<=8 then 1 else if g<=11 then 2 else 3
def ql(ps:List τ)(s:List Nat):Option Nat:=ps.findIdx? fun p=>p.name==s
def eh(ps:List τ)(own:Nat)(L:bX):δ->Int
 | .mk k g nm _ pl size to _ _ _ _=>
  if k=1 then(if g<1\/12<g then 3 else if pl.length≠gb g then 2 else first (jt L) pl)
  else if k=2\/k=4 then(if fG L nm≠0 then fG L nm else size.err (iV L) 1)
  else if k=8 then(if fG L nm≠0 then fG L nm else if size.err (iV L) 1≠0 then size.err (iV L) 1 else to.err (iV L) 1)
  else if k=3 then(match L nm with
   | .ki true=>0
   | .ki false=>7
   |_=>1)
  else if k=5 then(match pl with
   |[p]=>if jt L p≠0 then jt L p else if L nm= .bit then 0 else fG L nm
   |_=>2)
  else if k=6 then(match pl with
   |[p]=>jt L p
   |_=>2)
  else if k=7 then(if L nm= .bit then 0 else 1)
  else if k=9 then(match ql ps nm with
   |none=>1
   |some n=>if own<=n then 15 else match ps[n]? with
    |some q=>if pl.length≠q.au.length then 2 else first (jt L) pl
    |none=>1)
  else if k=10\/k=11 then 0 else 3
def aU(k:Int):Bool:=decide (k=4\/k=8\/k=10\/k=7\/k=11)
def bm(k:Int):Bool:=decide (k=7\/k=11)
mutual
def δ.cnt:δ->Nat
 | .mk k _ _ _ _ _ _ _ body _ els=>1+(if aU k then δ.bL body else 0)+(if bm k then δ.bL els else 0)
def δ.bL:List δ->Nat
 |[]=>0
 |s::l=>s.cnt+δ.bL l
end
mutual
def δ.deep:δ->Nat
 | .mk k _ _ _ _ _ _ _ body _ els=>1+max (if aU k then δ.dA body else 0) (if bm k then δ.dA els else 0)
def δ.dA:List δ->Nat
 |[]=>0
 |s::l=>max s.deep (δ.dA l)
end
def ξ.wt(p:ξ):Nat:=1+ζ.bL p.ix
def eR:List ξ->Nat
 |[]=>0
 |p::l=>p.wt+eR l
mutual
def δ.wt:δ->Nat
 | .mk _ _ _ _ pl size to _ body _ els=>1+eR pl+size.cnt+to.cnt+δ.bI body+δ.bI els
def δ.bI:List δ->Nat
 |[]=>0
 |s::l=>s.wt+δ.bI l
end
def τ.wt(p:τ):Nat:=1+p.au.length+δ.bI p.body
def g_:List τ->Nat
 |[]=>0
 |p::l=>p.wt+g_ l
theorem ξ.oI{l:List ξ}{x:ξ}(h:x∈l):x.wt<=eR l:=by
 induction l with
 |nil=>cases h
 |cons a l ih=>
  simp only[eR]
  rcases cy.1 h with rfl|h
  ·omega
  ·have:=ih h;omega
theorem aia(l:List ξ):l.length<=eR l:=by
 induction l with
 |nil=>simp
 |cons a l ih=>simp only[cD,eR,ξ.wt];omega
theorem δ.oI{l:List δ}{x:δ}(h:x∈l):x.wt<=δ.bI l:=by
 induction l with
 |nil=>cases h
 |cons a l ih=>
  simp only[δ.bI]
  rcases cy.1 h with rfl|h
  ·omega
  ·have:=ih h;omega
theorem δ.Ck(x:δ):3+δ.bI x.body+δ.bI x.els<=x.wt:=by obtain⟨k,g,nm,cp,pl,size,to,cb,body,ce,els⟩:=x;have h1:=ζ.Ll size;have h2:=ζ.Ll to;simp only[δ.wt,δ.body,δ.els];omega
theorem δ.Al(l:List δ):l.length<=δ.bI l:=by
 induction l with
 |nil=>simp
 |cons a l ih=>have:=δ.Ck a;simp only[cD,δ.bI];omega
theorem Xi(l:List τ):l.length<=g_ l:=by
 induction l with
 |nil=>simp
 |cons a l ih=>simp only[cD,g_,τ.wt];omega
theorem τ.oI{l:List τ}{x:τ}(h:x∈l):x.wt<=g_ l:=by
 induction l with
 |nil=>cases h
 |cons a l ih=>
  simp only[g_]
  rcases cy.1 h with rfl|h
  ·omega
  ·have:=ih h;omega
def bX.put(L:bX)(s:List Nat)(w:rD):bX:=fun t=>if t=s then w else L t
def bX.inner(L:bX):bX:=fun t=>match L t with
 | .ki _=> .ki false
 |w=>w
def inside(L:bX)(k:Int)(nm:List Nat):bX:=if k=4 then L.inner.put nm (.ki false)else if k=8 then L.inner.put nm .dS else L.inner
def after(L:bX)(k:Int)(nm:List Nat):bX:=if k=2 then L.put nm (.ki true)else if k=3 then L.put nm .none else if k=5 then L.put nm .bit else L
def δ.kind:δ->Int
 | .mk k _ _ _ _ _ _ _ _ _ _=>k
def δ.name:δ->List Nat
 | .mk _ _ nm _ _ _ _ _ _ _ _=>nm
mutual
def gm(ps:List τ)(own:Nat):List δ->bX->Int
 |[],_=>0
 |s::l,L=>if eh ps own L s≠0 then eh ps own L s else if lv ps own s L≠0 then lv ps own s L else gm ps own l (after L s.kind s.name)
def lv(ps:List τ)(own:Nat):δ->bX->Int
 | .mk k _ nm _ _ _ _ _ body _ els,L=>if aU k then(if gm ps own body (inside L k nm)≠0 then gm ps own body (inside L k nm)else if bm k then gm ps own els (inside L k nm)else 0)else 0
end
def ri:List ak->bX->Int
 |[],_=>0
 |x::l,L=>if dc x.name=false then 4 else if x.size<1\/12<x.size then 3 else if L x.name≠ .none then 5 else ri l (L.put x.name (.ki false))
def rj:List ak->bX->bX
 |[],L=>L
 |x::l,L=>rj l (L.put x.name (.ki false))
def pA:bX:=fun _=> .none
def sD(ps:List τ)(own:Nat)(x:τ):Int:=
 if dc x.name=false then 4
 else if(ps.take own).any (fun p=>p.name==x.name)then 5
 else if 4<x.au.length then 2
 else if ri x.au pA≠0 then ri x.au pA
 else if 120<δ.bL x.body then 2
 else if 6<δ.dA x.body then 11
 else gm ps own x.body (rj x.au pA)
def tI(ps:List τ):Nat->List τ->Int
 |_,[]=>0
 |k,x::l=>if sD ps k x≠0 then sD ps k x else tI ps (k+1) l
def nw(ps:List τ):Int:=if ps.length<1\/12<ps.length then 2 else tI ps 0 ps
end Go.Θ
namespace Go.Θ.Tz
open Go.Θ
variable{u:Nat}
def AE:List (List Nat):=uF++fu
def vt(s:List Nat):Bool:=AE.contains s
attribute [local simp] exec dY dP eX aI dw fA eN aK fL bQ iu iE iM jd AV.cells newVar iX rd wr gT single dk cE e_ ew κ cK RV.get cL fT kz
structure c7 where
 name:List Nat
 w:Int
 d:Int
def c7.av(x:c7):AV:= .agg [.str x.name,.n x.w,.n x.d]
theorem rO(bs:List θ)(n:Nat)(a:List Nat):aO bs n 8 (.str a)= .str a:=rfl
def jf:List c7->List Nat->c7
 |[],_=>⟨[],0,0⟩
 |x::l,s=>if x.name=s then x else jf l s
def EP(ps:List τ)(s:List Nat):Int:=match ql ps s with
 |none=> -1
 |some i=>i
theorem u0(l:List δ):(δ.χ l).length=l.length:=by rw[δ.eo];simp
theorem JI(l:List δ)(i:Nat)(h:i<l.length):(δ.χ l)[i]'(by rw[u0];exact h)=l[i].av:=by simp[δ.eo]
theorem aaQ(l:List δ)(i:Nat)(h:i<l.length):δ.dA (l.take (i+1))=max (δ.dA (l.take i)) l[i].deep:=by
 induction l generalizing i with
 |nil=>simp at h
 |cons a l ih=>
  cases i with
  |zero=>simp[δ.dA]
  |succ i=>simp only[sL,δ.dA,pF,ih i (by simpa using h),Nat.max_assoc]
theorem δ.aat(x:δ):x.cnt<=x.wt/\x.deep<=x.wt:=by
 refine δ.jR (Q:=fun x=>x.cnt<=x.wt/\x.deep<=x.wt) (fun k g nm cp pl size to cb body ce els h1 h2=>?_) x;have go:∀l:List δ,(∀y∈l,y.cnt<=y.wt/\y.deep<=y.wt)->δ.bL l<=δ.bI l/\δ.dA l<=δ.bI l:=by
  intro l hl;induction l with
  |nil=>simp[δ.bL,δ.dA]
  |cons a l ih=>
   have:=ih fun y hy=>hl y (by simp[hy])
   have ha:=hl a (by simp);simp only[δ.bL,δ.dA,δ.bI];omega
 have a1:=go body h1;have a2:=go els h2;simp only[δ.cnt,δ.deep,δ.wt];split<;>split<;>omega
theorem δ.Lm(l:List δ):δ.bL l<=δ.bI l/\δ.dA l<=δ.bI l:=by
 induction l with
 |nil=>simp[δ.bL,δ.dA]
 |cons a l ih=>have:=δ.aat a;simp only[δ.bL,δ.dA,δ.bI];omega
theorem akP(l:List δ)(i:Nat):δ.bI (l.take i)<=δ.bI l:=by
 induction l generalizing i with
 |nil=>simp
 |cons a l ih=>cases i with
  |zero=>simp[δ.bI]
  |succ i=>have:=ih i;simp only[sL,δ.bI];omega
theorem rN{n:Nat}{k:Bool}{c:ρ}(hc:bp c){l:List δ}(h:δ.cJ l):exp n k (.list c (δ.χ l))= .list c (δ.χ l):=by simp only[exp,fR hc,δ.Gc _ _ _ h]
theorem δ.O_{x:δ}(h:x.Ok):δ.cJ x.body/\δ.cJ x.els:=by obtain⟨k,g,nm,cp,pl,size,to,cb,body,ce,els⟩:=x;simp only[δ.Ok]at h;exact⟨h.2.2.2.2.2.2.1,h.2.2.2.2.2.2.2.2⟩
theorem QP(s:List Nat)(i:Nat)(hi:i<s.length)(h:s[i]<256):((⟨(s.map UInt8.ofNat).toArray⟩:ByteArray).get! i).toNat=s[i]:=by simp[ByteArray.get!,hi];omega
theorem Sx{s:List Nat}{i:Nat}(hi:i<s.length)(h:s[i]<128):Utf8.decode ⟨(s.map UInt8.ofNat).toArray⟩ i=(s[i],1):=by have h0:=QP s i hi (by omega);simp only[Utf8.decode,qu,h0];simp[h]
theorem aaM{s:List Nat}{i:Nat}(hi:i<s.length)(h1:s[i]<256)(h:128<=s[i]):128<=(Utf8.decode ⟨(s.map UInt8.ofNat).toArray⟩ i).1:=by
 have h0:=QP s i hi h1;simp only[Utf8.decode,qu,h0];have:¬s[i]<128:=by omega
 simp only[this,if_false]
 (repeat' split)<;>simp_all [Utf8.runeError]<;>omega
theorem f178(s:List Nat)(hs:du s)(m:Mem):kf u 178 [.str s] m=some (.bool (su s),m):=by
 refine dI (g:=GL) rfl rfl rfl ?_;simp only[az,aJ,exp,GL,Q7];let K:St->Prop:=fun st=>st.mem= {ε:=m.ε,η:=[]};refine Δ (fun st=>K st/\st.e 0= .str s) (by simp[K]) fun s1 ⟨h1,h2⟩=>?_;refine bJ (fun st=>K st/\su s=true) ?_ fun s2 ⟨h1,h2⟩=>?_
 ·let I:Nat->St->Prop:=fun i st=>K st/\(∃v,st.e 6= .aj 6 v 0/\st.q 6=some (v,.iter s i))/\∀j (hj:j<s.length),j<i->97<=s[j]/\s[j]<=122;refine Δ (I 0) (by simp[I,K,h1,h2]) fun s4 hI=>?_;refine κ.block (κ.loop (I:=I) s.length hI fun i st hi Ω=>?_);obtain⟨h1,⟨v,q1,q2⟩,q3⟩:=Ω;rcases da i s.length with ψ|dD
  ·have hb:s[i]<256:=hs _ (c_ ψ);by_cases a0:s[i]<128
   ·have hd:=Sx ψ a0;by_cases a1:97<=s[i]/\s[i]<=122
    ·left;refine⟨ψ,?_⟩;have a2:¬(s[i]:Int)<97:=by omega
     have a3:¬(122:Int)<s[i]:=by omega
     simp[I,K,BL,h1,q1,q2,ψ,hd,a2,a3];exact fun j hj me=>by
      rcases da j i with h|h
      ·exact q3 j hj h
      ·have:j=i:=by omega
       subst this;exact a1
    ·right;have hn:su s=false:=by simp only[su,amp];exact⟨s[i],c_ ψ,by simp;omega⟩
     by_cases a2:(s[i]:Int)<97
     ·simp[BL,K,h1,q1,q2,ψ,hd,a2,hn]<;>exact h1
     ·have a3:(122:Int)<s[i]:=by omega
      simp[BL,K,h1,q1,q2,ψ,hd,a2,a3,hn]<;>exact h1
   ·right;have hd:=aaM ψ hb (by omega);have hn:su s=false:=by simp only[su,amp];exact⟨s[i],c_ ψ,by simp;omega⟩
    have a2:¬((Utf8.decode ⟨(s.map UInt8.ofNat).toArray⟩ i).1:Int)<97:=by omega
    have a3:(122:Int)<(Utf8.decode ⟨(s.map UInt8.ofNat).toArray⟩ i).1:=by omega
    simp[BL,K,h1,q1,q2,ψ,a2,a3,hn]<;>exact h1
  ·right;have:i=s.length:=by omega
   subst this;have hy:su s=true:=by simp only[su,List.all_eq_true];intro b hb;obtain⟨j,hj,rfl⟩:=List.getElem_of_mem hb;have:=q3 j hj hj;simp;omega
   simp[BL,K,h1,q1,q2,hy]<;>exact h1
 ·have kA:s2.mem= {ε:=m.ε,η:=[]}:=h1;simp[h2,kA]
theorem f65(cn:ρ)(mR:bp cn)(ss:List (List Nat))(t:List Nat)(hlen:ss.length<1000000000000)(m:Mem):kf u 65 [aZ cn ss,.str t] m=some (.bool (ss.contains t),m):=by
 have e:=f85 (u:=u) cn mR ss t hlen;refine dI (g:=HF) rfl rfl rfl ?_;simp only[az,aJ,wV mR,exp,HF,RY];cases hf:ss.findIdx? (fun x=>x==t)with
 |none=>
  have hc:ss.contains t=false:=by
   rw[wG]at hf;cases h:ss.contains t with
   |false=>rfl
   |true=>
    rw[yd]at h
    have:=hf t h;simp at this
  rw[hc];simp[e,placeOf,hf]
 |some i=>
  have hc:ss.contains t=true:=by
   rw[tU]at hf;obtain⟨h1,h2,_⟩:=hf;rw[yd];have:ss[i]=t:=by simpa using h2
   rw[<-this];exact c_ h1
  have:(0:Int)<=(i:Int):=by omega
  rw[hc];simp[e,placeOf,hf,this]
theorem Bf:(C u).gl 0= .ref [aZ .any fu]:=by rfl
theorem HK:(C u).gl 1= .ref [aZ .any uF]:=by rfl
theorem f113(s:List Nat)(hs:du s)(m:Mem):kf u 113 [.str s] m=some (.bool (dc s),m):=by
 have e1:=f178 (u:=u) s hs;have e2:=f65 (u:=u) .any (.inr rfl) fu s (by decide);have e3:=f65 (u:=u) .any (.inr rfl) uF s (by decide);refine dI (g:=Gs) rfl rfl rfl ?_;simp only[az,aJ,exp,Gs,QV];unfold dc;generalize fu.contains s=bg at*;generalize uF.contains s=bk at*;by_cases a1:0<s.length
 ·by_cases a2:s.length<=8
  ·have AD:(0:Int)<(s.length:Int):=by omega
   have Fy:(s.length:Int)<=8:=by omega
   cases a3:su s with
   |false=>simp[e1,e2,e3,Bf,HK,a1,a2,AD,Fy,a3]
   |true=>cases bg<;>simp[e1,e2,e3,Bf,HK,a1,a2,AD,Fy,a3]
  ·have AD:(0:Int)<(s.length:Int):=by omega
   have Fy:¬(s.length:Int)<=8:=by omega
   simp[e1,e2,e3,Bf,HK,a1,a2,AD,Fy]
 ·have AD:¬(0:Int)<(s.length:Int):=by omega
  simp[e1,e2,e3,Bf,HK,a1,AD]
theorem ahY(may:List Nat->Bool)(no:Int)(l:List ζ):ζ.parts may no l=first (ζ.part may no) l:=by
 induction l with
 |nil=>rfl
 |cons a l ih=>simp only[ζ.parts,first,ih]
theorem Gc{n:Nat}{k:Bool}{c:ρ}(hc:bp c){l:List ζ}(h:ζ.cJ l):exp n k (.list c (ζ.χ l))= .list c (ζ.χ l):=by
 have:aX n k (ζ.χ l)=ζ.χ l:=by rw[fe,ζ.eo,cT];exact de fun x hx=>ζ.jM n k x (ζ.iB h x hx)
 simp only[exp,fR hc,this]
theorem aka{l:List ζ}(h:ζ.Strs l):∀x∈l,x.rB:=by
 induction l with
 |nil=>intro x hx;cases hx
 |cons a l ih=>
  intro x hx
  rcases cy.1 hx with rfl|hx
  ·exact h.1
  ·exact ih h.2 x hx
def Fix(n:Nat)(fv:AV):Prop:=∀k b,n<=k->exp k b fv=fv
def lA(u:Nat)(B:List θ)(fv:AV)(args:List AV)(r:AV):Prop:=∀ext T,ab (C u) fv args {ε:=B++ext,η:=T}=some (r,{ε:=B++ext,η:=T})
theorem f177{B:List θ}{fv:AV}{F:ζ->Int}(hf:Fix B.length fv)(c:ρ)(hc:bp c)(l:List ζ)(hl:ζ.cJ l)(hlen:l.length<1000000000000)
  (h:∀x∈l,lA u B fv [x.av] (.n (F x))):lA u B (.fn (.func 177) [] []) [.list c (ζ.χ l),fv] (.n (first F l)):=by
 intro ext T;refine dI (g:=GK) rfl rfl rfl ?_;simp only[az,aJ,Gc hc hl,hf _ false (show B.length<=(B++ext).length by simp),GK,Q6];let K:St->Prop:=fun st=>st.e 1=fv/\st.mem= {ε:=B++ext,η:=[]};refine Δ (fun st=>K st/\st.e 0= .list c (ζ.χ l)) (by simp[K]) fun s1 ⟨⟨h1,h2⟩,h3⟩=>?_;refine bJ (fun st=>K st/\first F l=0) ?_ fun s2 ⟨⟨h1,h2⟩,h3⟩=>?_
 ·let I:Nat->St->Prop:=fun i st=>K st/\st.e 8= .list c (ζ.χ l)/\st.e 9= .n l.length/\st.e 10= .n i/\∀j (hj:j<l.length),j<i->F l[j]=0;refine Δ (I 0) (by simp[I,K,h1,h2,h3,rF]) fun s4 hI=>?_;refine κ.block (κ.loop (I:=I) l.length hI fun i st hi Ω=>?_);obtain⟨⟨h1,h2⟩,q1,q2,q3,q4⟩:=Ω;rcases da i l.length with ψ|dD
  ·have hw:bC .i64 ((i:Int)+1)=(i:Int)+1:=wrap_i64 (by omega) (by omega);have hg:=FF l i ψ;have hx:=h _ (c_ ψ) ext [];by_cases hz:F l[i]=0
   ·left;refine⟨ψ,?_⟩;rw[hz]at hx;have q5:=CE (P:=fun j=>∀hj:j<l.length,F l[j]=0) (n:=l.length) (fun j a b c=>q4 j c b) (fun _=>hz);generalize l[i]=y at hg hx;obtain⟨k',n',s',c2,l'⟩:=y;simp only[ζ.av]at hg hx;simp[I,K,IS,h1,h2,q1,q2,q3,ψ,hg,hx,hw,rF];exact fun j hj me=>q5 j hj me hj
   ·right;have rW:=LZ ψ q4 hz;rw[rW];have e1:=bne_true hz;generalize l[i]=y at hg hx hz e1;obtain⟨k',n',s',c2,l'⟩:=y;simp only[ζ.av]at hg hx;simp[K,IS,h1,h2,q1,q2,q3,ψ,hg,hx,e1,rF]
  ·right;have:i=l.length:=by omega
   subst this;have hz:=Gg (f:=F) fun j hj=>q4 j hj hj;simp[K,IS,h1,h2,q1,q2,q3,hz]
 ·simp[h1,h2,h3]
def mX(B:List θ)(mq:AV)(no:Int):List θ:=B++[.cells [mq],.cells [.n no],.cells [.fn (.func 175) [] [.μ B.length 0,.μ (B.length+1) 0,.μ (B.length+2) 0]]]
theorem VE(B:List θ)(mq:AV)(no:Int):(mX B mq no).length=B.length+3:=by simp[mX]
theorem f175(B:List θ)(mq:AV)(no:Int)(may:List Nat->Bool)(ND:∀s,du s->lA u B mq [.str s] (.bool (may s)))(x:ζ):x.Ok->x.rB->x.cnt<1000000000000→
  lA u (mX B mq no) (.fn (.func 175) [] [.μ B.length 0,.μ (B.length+1) 0,.μ (B.length+2) 0]) [x.av] (.n (x.part may no)):=by
 refine ζ.jR (Q:=fun x=>x.Ok->x.rB->x.cnt<1000000000000->lA u (mX B mq no) (.fn (.func 175) [] [.μ B.length 0,.μ (B.length+1) 0,.μ (B.length+2) 0]) [x.av] (.n (x.part may no))) (fun k n s c l ih ai qV oW=>?_) x;intro ext T;simp only[ζ.rB]at qV;simp only[ζ.cnt]at oW;have vJ:=ζ.AQ l;have hlen:(mX B mq no++ext).length=B.length+3+ext.length:=by simp[VE]
 have a0:B.length<B.length+3+ext.length:=by omega
 have a1:B.length+1<B.length+3+ext.length:=by omega
 have a2:B.length+2<B.length+3+ext.length:=by omega
 have d0:(mX B mq no++ext)[B.length]?=some (.cells [mq]):=by simp[mX]
 have d1:(mX B mq no++ext)[B.length+1]?=some (.cells [.n no]):=by simp[mX]
 have d2:(mX B mq no++ext)[B.length+2]?=some (.cells [.fn (.func 175) [] [.μ B.length 0,.μ (B.length+1) 0,.μ (B.length+2) 0]]):=by simp[mX]
 have dX:=fun m=>f176 (u:=u) k n s c l m ai;have hm:=ND s qV.1 ([.cells [mq],.cells [.n no],.cells [.fn (.func 175) [] [.μ B.length 0,.μ (B.length+1) 0,.μ (B.length+2) 0]]]++ext) [];have lP:ab (C u) mq [.str s] {ε:=mX B mq no++ext,η:=[]}=some (.bool (may s),{ε:=mX B mq no++ext,η:=[]}):=by simpa[mX]using hm
 have tf:Fix (mX B mq no).length (.fn (.func 175) [] [.μ B.length 0,.μ (B.length+1) 0,.μ (B.length+2) 0]):=by intro kk b hk;rw[VE]at hk;simp[exp,aX,Fn.below];omega
 have y_:=f177 (u:=u) tf c ai.1 l ai.2 (by omega) (fun y hy=>ih y hy (ζ.iB ai.2 y hy) (aka qV.2 y hy) (by have:=ζ.AP hy;omega)) ext [];rw[<-ahY]at y_;refine sQ (g:=GJ) rfl rfl rfl ?_;have eL:([]++[(ζ.mk k n s c l).av]++[AV.μ B.length 0,.μ (B.length+1) 0,.μ (B.length+2) 0]).map (exp (mX B mq no++ext).length false)=[(ζ.mk k n s c l).av,AV.μ B.length 0,.μ (B.length+1) 0,.μ (B.length+2) 0]:=by simp only[List.nil_append,List.cons_append,az,aJ,ζ.jM _ _ _ ai,exp,hlen,a0,a1,a2,if_true]
 rw[eL];simp only[GJ,c175,ζ.part];simp only[ζ.av]at dX⊢;generalize mX B mq no++ext=BB at*;by_cases kQ:kX k n l.length=0
 ·rw[kQ]at dX;by_cases gE:k=2
  ·subst gE;cases mU:may s with
   |true=>
    rw[mU]at lP
    simp[dX,d0,d1,d2,lP,y_,kQ]
   |false=>
    rw[mU]at lP
    simp[dX,d0,d1,d2,lP,y_,kQ]
  ·simp[dX,d0,d1,d2,lP,y_,kQ,gE,ff gE]
 ·simp[dX,d0,d1,d2,lP,y_,kQ,bne_true kQ]
theorem f112{B:List θ}{F:Fn}{fa fc:List AV}{may:List Nat->Bool}(no:Int)(tf:Fix B.length (.fn F fa fc))(p_:fa.map ν=fa)(nF:fc.map ν=fc)(ND:∀s,du s->lA u B (.fn F fa fc) [.str s] (.bool (may s)))(x:ζ)(ai:x.Ok)(qV:x.rB)(oW:x.cnt<1000000000000):
  lA u B (.fn (.func 112) [] []) [x.av,.fn F fa fc,.n no] (.n (x.err may no)):=by
 intro ext T;have aL:=fun m=>f117 (u:=u) x ai oW m;have acM:∀s,du s->lA u (B++ext) (.fn F fa fc) [.str s] (.bool (may s)):=fun s hs e t=>by have:=ND s hs (ext++e) t;rwa[<-List.append_assoc]at this
 have dC:=f175 (u:=u) (B++ext) (.fn F fa fc) no may acM x ai qV oW [] [];refine dI (g:=Gr) rfl rfl rfl ?_;simp only[az,aJ,ζ.jM _ _ _ ai,tf _ false (show B.length<=(B++ext).length by simp)];simp only[exp,Gr,QU];generalize B++ext=BB at*;obtain⟨k,n,s,c,l⟩:=x;simp only[ζ.av]at aL dC⊢;by_cases h9:9<(ζ.mk k n s c l).cnt
 ·have Mu:(9:Int)<((ζ.mk k n s c l).cnt:Int):=by omega
  simp[aL,Mem.push,Mem.ν,ν,fH,p_,nF,ζ.err,h9,Mu]
 ·have Mu:¬(9:Int)<((ζ.mk k n s c l).cnt:Int):=by omega
  simp only[mX,List.append_nil]at dC;simp[aL,Mem.push,Mem.ν,ν,fH,cw,p_,nF,ζ.err,h9,Mu,Mem.put,ba,lo,Fn.below,dC]
end Go.Θ.Tz
