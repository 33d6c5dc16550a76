import Derived.Test.YtiigojkfojnedaaGreatDoorRZga
set_option linter.all false
set_option maxRecDepth 100000
set_option maxHeartbeats 8000000
open List renaming length_cons->cN,mem_cons->cB,map_map->cT,map_congr_left->dh,take_succ_cons->tF,getElem_cons_succ->pX,map_cons->ax,map_nil->aI,getElem_mem->db,findIdx?_eq_some_iff_getElem->tD,findIdx?_eq_none_iff->vV,all_eq_false->alf,contains_iff_mem->xC
open Go.IntKind renaming wrap->bN
open Nat renaming lt_or_ge->di,add_zero->qX
namespace Go.Δ
inductive ζ
 |mk (k n:Int) (s:List Nat) (c:τ) (l:List ζ)
mutual
def ζ.av:ζ->AV
 | .mk k n s c l=> .agg [.int .i64 k,.int .i64 n,.str s,.list c (ζ.χ l)]
def ζ.χ:List ζ->List AV
 |[]=>[]
 |x::l=>x.av::ζ.χ l
end
theorem ζ.dW(l:List ζ):ζ.χ l=l.map ζ.av:=by
 induction l with
 |nil=>rfl
 |cons a l ih=>simp[ζ.χ,ih]
mutual
def ζ.cnt:ζ->Nat
 | .mk _ _ _ _ l=>1+ζ.bK l
def ζ.bK:List ζ->Nat
 |[]=>0
 |x::l=>x.cnt+ζ.bK l
end
theorem ζ.Ko(x:ζ):0<x.cnt:=by cases x;simp[ζ.cnt];omega
theorem ζ.Ak(l:List ζ):l.length<=ζ.bK l:=by
 induction l with
 |nil=>simp
 |cons a l ih=>have:=ζ.Ko a;simp only[cN,ζ.bK];omega
theorem ζ.Aj{l:List ζ}{x:ζ}(h:x∈l):x.cnt<=ζ.bK l:=by
 induction l with
 |nil=>cases h
 |cons a l ih=>
  simp only[ζ.bK]
  rcases cB.1 h with rfl|h
  ·omega
  ·have:=ih h;omega
theorem ζ.jd{Q:ζ->Prop}(h:∀k n s c l,(∀y∈l,Q y)->Q (.mk k n s c l))(x:ζ):Q x:=
 ζ.rec (motive_1:=Q) (motive_2:=fun l=>∀y∈l,Q y) (fun k n s c l ih=>h k n s c l ih) (fun y hy=>(by cases hy))
  (fun x l hx hl y hy=>(by
   rcases cB.1 hy with rfl|hy
   ·exact hx
   ·exact hl y hy)) x
def kN(k n:Int)(m:Nat):Int:=
 if k<1\/5<k\/(k=1/\(n<0\/99<n))then 3
 else if(3<=k/\m≠2)\/(k<3/\m≠0)then 2 else 0
def NP(n:Int):Int×Int:=if n< -1000000000\/1000000000<n then(0,8)else(n,0)
def comb(names:List (List Nat))(um:List Int)(k n:Int)(s:List Nat)(rs:List (Int×Int)):Int×Int:=
 if k=2 then
  match names.findIdx? (fun x=>x==s)with
  |none=>(0,1)
  |some i=>NP (um.getD i 0)
 else if 3<=k then
  match rs with
  |[(a,ea),(b,eb)]=>if ea≠0 then(0,ea)else if eb≠0 then(0,eb)else NP (if k=3 then a+b else if k=4 then a-b else a*b)
  |_=>(0,0)
 else NP n
mutual
def ζ.val(names:List (List Nat))(um:List Int):ζ->Int×Int
 | .mk k n s _ l=>if kN k n l.length=0 then comb names um k n s (ζ.Xn names um l)else(0,kN k n l.length)
def ζ.Xn(names:List (List Nat))(um:List Int):List ζ->List (Int×Int)
 |[]=>[]
 |x::l=>x.val names um::ζ.Xn names um l
end
def ζ.value(names:List (List Nat))(um:List Int)(x:ζ):Int×Int:=
 if 9<x.cnt then(0,2)else if names.length≠um.length then(0,7)else x.val names um
def bm(c:τ):Prop:=c= .nil\/c= .any
theorem fq{n:Nat}{k:Bool}{c:τ}(h:bm c):c.exp n k=c:=by rcases h with rfl|rfl<;>rfl
mutual
def ζ.Ok:ζ->Prop
 | .mk _ _ _ c l=>bm c/\ζ.cm l
def ζ.cm:List ζ->Prop
 |[]=>True
 |x::l=>x.Ok/\ζ.cm l
end
theorem ζ.gK{l:List ζ}(h:ζ.cm l):∀x∈l,x.Ok:=by
 induction l with
 |nil=>intro x hx;cases hx
 |cons a l ih=>
  intro x hx
  rcases cB.1 hx with rfl|hx
  ·exact h.1
  ·exact ih h.2 x hx
theorem ζ.jI(n:Nat)(k:Bool)(x:ζ):x.Ok->exp n k x.av=x.av:=by
 refine ζ.jd (Q:=fun x=>x.Ok->exp n k x.av=x.av) (fun kk nn s c l ih h=>?_) x;simp only[ζ.Ok]at h;have hl:aX n k (ζ.χ l)=ζ.χ l:=by rw[ft,ζ.dW,cT];exact dh fun y hy=>ih y hy (ζ.gK h.2 y hy)
 simp only[ζ.av,exp,aX,fq h.1,hl]
theorem ζ.tc(x:ζ):ν x.av=x.av:=by
 refine ζ.jd (Q:=fun x=>ν x.av=x.av) (fun kk nn s c l ih=>?_) x;have hl:cG (ζ.χ l)=ζ.χ l:=by rw[fH,ζ.dW,cT];exact dh fun y hy=>ih y hy
 simp only[ζ.av,ν,cG,hl]
theorem ζ.yf(bs:List θ)(n k:Nat)(x:ζ):x.Ok->aQ bs n k x.av=x.av:=by
 refine ζ.jd (Q:=fun x=>x.Ok->aQ bs n k x.av=x.av) (fun kk nn s c l ih h=>?_) x;simp only[ζ.Ok]at h;cases k with
 |zero=>exact ζ.jI n false _ (by simp only[ζ.Ok];exact h)
 |succ k=>
  have hl:(ζ.χ l).map (aQ bs n (k+1))=ζ.χ l:=by rw[ζ.dW,cT];exact dh fun y hy=>ih y hy (ζ.gK h.2 y hy)
  simp only[aQ]at hl;simp only[ζ.av,aQ,fC,oC,qc,fq h.1,hl]
theorem wrap_i64{n:Int}(h1: -9223372036854775808<=n)(h2:n<9223372036854775808):bN .i64 n=n:=by
 show(if(true&&decide (n % 18446744073709551616≥9223372036854775808))=true then n % 18446744073709551616-18446744073709551616 else n % 18446744073709551616)=n;split
 ·rename_i h;simp at h;omega
 ·rename_i h;simp at h;omega
end Go.Δ
namespace Go.Δ.Tz
open Go.Δ
variable{u:Nat}
theorem fV(bs:List θ)(n:Nat)(k:IntKind)(i:Int):aQ bs n 8 (.int k i)= .int k i:=rfl
theorem kT(bs:List θ)(n:Nat)(b:Bool):aQ bs n 8 (.bool b)= .bool b:=rfl
theorem rb(l:List ζ):(ζ.χ l).length=l.length:=by rw[ζ.dW];simp
theorem E6(l:List ζ)(i:Nat)(h:i<l.length):(ζ.χ l)[i]'(by rw[rb];exact h)=l[i].av:=by simp[ζ.dW]
theorem Zs(l:List ζ)(i:Nat)(h:i<l.length):ζ.bK (l.take (i+1))=ζ.bK (l.take i)+l[i].cnt:=by
 induction l generalizing i with
 |nil=>simp at h
 |cons a l ih=>
  cases i with
  |zero=>simp[ζ.bK]
  |succ i=>
   have:=ih i (by simpa using h)
   simp only[tF,ζ.bK,pX]at this⊢;omega
theorem Zp(l:List ζ)(i:Nat):ζ.bK (l.take i)<=ζ.bK l:=by
 induction l generalizing i with
 |nil=>simp
 |cons a l ih=>
  cases i with
  |zero=>simp[ζ.bK]
  |succ i=>have:=ih i;simp only[tF,ζ.bK];omega
attribute [local simp] exec ef dR e_ aJ dF fE eR br fM bR iL iS jm jE AV.cells newVar jA rd wr iu single dk cD ff eF
theorem f117(x:ζ):x.Ok->x.cnt<1000000000000->∀m,kf u 117 [x.av] m=some (.n x.cnt,m):=by
 refine ζ.jd (Q:=fun x=>x.Ok->x.cnt<1000000000000->∀m,kf u 117 [x.av] m=some (.n x.cnt,m)) (fun k n s c l ih aj hc m=>?_) x;refine dt (g:=FW) rfl rfl rfl ?_;simp only[ax,aI,ζ.jI _ _ _ aj,FW,c117];simp only[ζ.cnt]at hc;refine Ψ (fun s1=>s1.e 1= .ak 1 0 0/\s1.q 1=some (0,.cells [.n k,.n n,.str s,.list c (ζ.χ l)])/\s1.mem= {ε:=m.ε,η:=[]}) (by simp[ζ.av,bJ]) fun s1 ⟨h1,h2,h3⟩=>?_;refine Ψ (fun s2=>s2.e 1= .ak 1 0 0/\s2.q 1=some (0,.cells [.n k,.n n,.str s,.list c (ζ.χ l)])/\s2.mem= {ε:=m.ε,η:=[]}/\s2.e 3= .n 1) (by simp[h1,h2,h3]) fun s2 ⟨h1,h2,h3,h4⟩=>?_;refine bS (fun s3=>s3.mem= {ε:=m.ε,η:=[]}/\s3.e 3= .n ((1+ζ.bK l:Nat):Int)) ?_ fun s3 ⟨h3,h4⟩=>?_
 ·let I:Nat->St->Prop:=fun i st=>st.e 3= .n ((1+ζ.bK (l.take i):Nat):Int)/\st.e 7= .list c (ζ.χ l)/\st.e 8= .n l.length/\st.e 9= .n i/\st.mem= {ε:=m.ε,η:=[]};refine Ψ (I 0) (by simp[I,h1,h2,h3,h4,rb,ζ.bK]) fun s4 hI=>?_;refine μ.block (μ.loop (I:=I) l.length hI fun i st hi Ω=>?_);obtain⟨q1,q2,q3,q4,q5⟩:=Ω;by_cases ψ:i<l.length
  ·left;refine⟨ψ,?_⟩;have hg:=E6 l i ψ;have ht:=Zs l i ψ;have hle:=Zp l (i+1);have w8:=ih l[i] (db ψ) (ζ.gK aj.2 _ (db ψ)) (by have:=ζ.Aj (db ψ);omega);generalize l[i]=y at hg ht w8;obtain⟨k',n',s',c',l'⟩:=y;simp only[ζ.av]at hg w8;have hw:bN .i64 (1+(ζ.bK (l.take i):Int)+((ζ.mk k' n' s' c' l').cnt:Int))=1+(ζ.bK (l.take i):Int)+((ζ.mk k' n' s' c' l').cnt:Int):=wrap_i64 (by omega) (by omega);have qy:bN .i64 ((i:Int)+1)=(i:Int)+1:=wrap_i64 (by omega) (by have:=ζ.Ak l;omega);simp[I,Nv,q1,q2,q3,q4,q5,ψ,hg,w8,hw,qy,ht,rb];omega
  ·right;have:i=l.length:=by omega
   subst this;simp[Nv,q1,q2,q3,q4,q5]
 ·simp[μ,h3,h4,cF,RV.get,cK,fV,ζ.cnt]
theorem f176(k n:Int)(s:List Nat)(c:τ)(l:List ζ)(m:Mem)(aj:(ζ.mk k n s c l).Ok):
  kf u 176 [(ζ.mk k n s c l).av] m=some (.n (kN k n l.length),m):=by
 have hl:(ζ.χ l).length=l.length:=by rw[ζ.dW];simp
 refine dt (g:=qd) rfl rfl rfl ?_;simp only[ax,aI,ζ.jI _ _ _ aj];by_cases h1:k<1
 ·have e3:(k==3)=false:=by simp;omega
  have e4:(k==4)=false:=by simp;omega
  have e5:(k==5)=false:=by simp;omega
  simp[μ,qd,su,ζ.av,cF,RV.get,cK,fV,kN,h1,e3,e4,e5]
 by_cases h2:k>5
 ·have e3:(k==3)=false:=by simp;omega
  have e4:(k==4)=false:=by simp;omega
  have e5:(k==5)=false:=by simp;omega
  simp[μ,qd,su,ζ.av,cF,RV.get,cK,fV,kN,h1,h2,e3,e4,e5]
 by_cases h3:k=1
 ·subst h3;by_cases h4:n<0
  ·simp[μ,qd,su,ζ.av,cF,RV.get,cK,fV,kN,h4]
  by_cases h5:n>99
  ·simp[μ,qd,su,ζ.av,cF,RV.get,cK,fV,kN,h4,h5]
  by_cases h8:l.length=0
  ·simp[μ,qd,su,ζ.av,cF,RV.get,cK,fV,kN,hl,h4,h5,h8]
  ·have ru:0<l.length:=by omega
   simp[μ,qd,su,ζ.av,cF,RV.get,cK,fV,kN,hl,h4,h5,h8,ru]
 by_cases gy:k=2
 ·subst gy;by_cases h8:l.length=0
  ·simp[μ,qd,su,ζ.av,cF,RV.get,cK,fV,kN,hl,h8]
  ·have ru:0<l.length:=by omega
   simp[μ,qd,su,ζ.av,cF,RV.get,cK,fV,kN,hl,h8,ru]
 have hk:k=3\/k=4\/k=5:=by omega
 by_cases h7:l.length=2
 ·rcases hk with rfl|rfl|rfl<;>simp[μ,qd,su,ζ.av,cF,RV.get,cK,fV,kN,hl,h7]
 ·have h7':((l.length:Int) !=2)=true:=by simp;omega
  rcases hk with rfl|rfl|rfl<;>simp[μ,qd,su,ζ.av,cF,RV.get,cK,fV,kN,hl,h7,h7']
def bw(c:τ)(l:List (List Nat)):AV:= .list c (l.map AV.str)
theorem x_{n:Nat}{k:Bool}{c:τ}(hc:bm c)(l:List (List Nat)):exp n k (bw c l)=bw c l:=by simp only[bw,exp,fq hc,ft,cT];congr 1
def placeOf(l:List (List Nat))(t:List Nat):Int:=match l.findIdx? (fun x=>x==t)with
 |some i=>(i:Int)
 |none=> -1
theorem agY{l:List (List Nat)}{t:List Nat}{i:Nat}(h:i<l.length)(he:l[i]=t)(hn:∀j (hj:j<l.length),j<i->l[j]≠t):l.findIdx? (fun x=>x==t)=some i:=by rw[tD];refine⟨h,by simpa using he,fun j hj=>?_⟩;have:=hn j (by omega) hj;simpa using this
theorem agX{l:List (List Nat)}{t:List Nat}(hn:∀j (hj:j<l.length),l[j]≠t):l.findIdx? (fun x=>x==t)=none:=by rw[vV];intro x hx;obtain⟨j,hj,rfl⟩:=List.mem_iff_getElem.1 hx;simpa using hn j hj
theorem f85(cn:τ)(my:bm cn)(ss:List (List Nat))(t:List Nat)(hlen:ss.length<1000000000000)(m:Mem):
  kf u 85 [bw cn ss,.str t] m=some (.n (placeOf ss t),m):=by
 refine dt (g:=CO) rfl rfl rfl ?_;simp only[ax,aI,x_ my,exp,CO,c85];refine Ψ (fun s1=>s1.e 0=bw cn ss/\s1.e 1= .str t/\s1.mem= {ε:=m.ε,η:=[]}) (by simp) fun s1 ⟨h1,h2,h3⟩=>?_;refine bS (fun s3=>s3.mem= {ε:=m.ε,η:=[]}/\∀j (hj:j<ss.length),ss[j]≠t) ?_ fun s3 ⟨h3,h4⟩=>?_
 ·let I:Nat->St->Prop:=fun i st=>st.e 0=bw cn ss/\st.e 1= .str t/\st.e 7= .n ss.length/\st.e 8= .n i/\st.mem= {ε:=m.ε,η:=[]}/\∀j (hj:j<ss.length),j<i->ss[j]≠t;refine Ψ (I 0) (by simp[I,h1,h2,h3,bw]) fun s4 hI=>?_;refine μ.block (μ.loop (I:=I) ss.length hI fun i st hi Ω=>?_);obtain⟨q1,q2,q3,q4,q5,q6⟩:=Ω;simp only[bw]at q1;by_cases ψ:i<ss.length
  ·have qy:bN .i64 ((i:Int)+1)=(i:Int)+1:=wrap_i64 (by omega) (by omega);by_cases he:ss[i]=t
   ·right;have hp:=agY ψ he q6;simp[Ic,q1,q2,q3,q4,q5,ψ,he];simp[cF,CO,RV.get,fM,cK,fV,placeOf,hp]
   ·left;have sN:¬t=ss[i]:=fun e=>he e.symm;refine⟨ψ,?_⟩;simp[I,Ic,q1,q2,q3,q4,q5,ψ,sN,qy,bw];intro j hj lU;rcases di j i with h|h
    ·exact q6 j hj h
    ·have:j=i:=by omega
     subst this;exact he
  ·right;have:i=ss.length:=by omega
   subst this;simp[Ic,q1,q2,q3,q4,q5];exact fun j hj=>q6 j hj hj
 ·have hp:=agX h4;simp[μ,h3,cF,RV.get,cK,fV,placeOf,hp]
mutual
def _root_.Go.Δ.ζ.copy:ζ->ζ
 | .mk k n s _ l=> .mk k n s (match l with
  |[]=> .nil
  |_=> .any) (Kr l)
def Kr:List ζ->List ζ
 |[]=>[]
 |x::l=>x.copy::Kr l
end
end Go.Δ.Tz
namespace Go.Δ
structure ρ where
 name:List Nat
 c:τ
 ix:List ζ
inductive δ
 |mk (k g:Int) (name:List Nat) (cp:τ) (pl:List ρ) (size to:ζ) (cb:τ) (body:List δ) (ce:τ) (els:List δ)
structure ai where
 name:List Nat
 size:Int
structure ξ where
 name:List Nat
 cp:τ
 au:List ai
 cb:τ
 body:List δ
structure zX where
 c:τ
 procs:List ξ
def ζ.four:ζ->List AV
 | .mk k n s c l=>[.int .i64 k,.int .i64 n,.str s,.list c (ζ.χ l)]
theorem ζ.fm(x:ζ):x.av= .agg x.four:=by cases x;rfl
def ρ.av(p:ρ):AV:= .agg [.str p.name,.list p.c (p.ix.map ζ.av)]
mutual
def δ.cells:δ->List AV
 | .mk k g nm cp pl size to cb body ce els=>[.int .i64 k,.int .i64 g,.str nm,.list cp (pl.map ρ.av)]++size.four++to.four++[.list cb (δ.χ body),.list ce (δ.χ els)]
def δ.χ:List δ->List AV
 |[]=>[]
 |s::l=> .agg s.cells::δ.χ l
end
def δ.av(s:δ):AV:= .agg s.cells
theorem δ.dW(l:List δ):δ.χ l=l.map δ.av:=by
 induction l with
 |nil=>rfl
 |cons a l ih=>simp[δ.χ,ih,δ.av]
def ai.av(p:ai):AV:= .agg [.str p.name,.n p.size]
def ξ.av(p:ξ):AV:= .agg [.str p.name,.list p.cp (p.au.map ai.av),.list p.cb (δ.χ p.body)]
def zX.cells(p:zX):List AV:=[.list p.c (p.procs.map ξ.av)]
def zX.av(p:zX):AV:= .agg p.cells
theorem δ.jd{Q:δ->Prop}(h:∀k g nm cp pl size to cb body ce els,(∀y∈body,Q y)->(∀y∈els,Q y)->Q (.mk k g nm cp pl size to cb body ce els))(x:δ):Q x:=
 δ.rec (motive_1:=Q) (motive_2:=fun l=>∀y∈l,Q y) (fun k g nm cp pl size to cb body ce els h1 h2=>h k g nm cp pl size to cb body ce els h1 h2) (fun y hy=>(by cases hy))
  (fun x l hx hl y hy=>(by
   rcases cB.1 hy with rfl|hy
   ·exact hx
   ·exact hl y hy)) x
def δ.body:δ->List δ
 | .mk _ _ _ _ _ _ _ _ b _ _=>b
def δ.els:δ->List δ
 | .mk _ _ _ _ _ _ _ _ _ _ e=>e
theorem δ.lists{P:List δ->Prop}(h:∀l:List δ,(∀y∈l,P y.body/\P y.els)->P l)(l:List δ):P l:=
 h l fun y _=>δ.jd (Q:=fun y=>P y.body/\P y.els) (fun _ _ _ _ _ _ _ _ body _ els h1 h2=>⟨h body h1,h els h2⟩) y
def dB(s:List Nat):Prop:=∀b∈s,b<256
mutual
def ζ.qZ:ζ->Prop
 | .mk _ _ s _ l=>dB s/\ζ.Strs l
def ζ.Strs:List ζ->Prop
 |[]=>True
 |x::l=>x.qZ/\ζ.Strs l
end
def ζ.gu(x:ζ):Prop:=x.Ok/\x.qZ
def ρ.Ok(p:ρ):Prop:=dB p.name/\bm p.c/\∀x∈p.ix,x.gu
mutual
def δ.Ok:δ->Prop
 | .mk _ _ nm cp pl size to cb body ce els=>dB nm/\bm cp/\(∀p∈pl,p.Ok)/\size.gu/\to.gu/\bm cb/\δ.cm body/\bm ce/\δ.cm els
def δ.cm:List δ->Prop
 |[]=>True
 |s::l=>s.Ok/\δ.cm l
end
theorem δ.gK{l:List δ}(h:δ.cm l):∀x∈l,x.Ok:=by
 induction l with
 |nil=>intro x hx;cases hx
 |cons a l ih=>
  intro x hx
  rcases cB.1 hx with rfl|hx
  ·exact h.1
  ·exact ih h.2 x hx
def ξ.Ok(p:ξ):Prop:=dB p.name/\bm p.cp/\(∀x∈p.au,dB x.name)/\bm p.cb/\δ.cm p.body/\(p.cp= .nil->p.au=[])
def zX.Ok(p:zX):Prop:=bm p.c/\∀x∈p.procs,x.Ok
theorem ζ.RR(n:Nat)(k:Bool)(x:ζ)(h:x.Ok):aX n k x.four=x.four:=by have:=ζ.jI n k x h;rw[ζ.fm]at this;simpa only[exp,AV.agg.injEq]using this
theorem ζ.VK(x:ζ):cG x.four=x.four:=by have:=ζ.tc x;rw[ζ.fm]at this;simpa only[ν,AV.agg.injEq]using this
theorem ρ.jI(n:Nat)(k:Bool)(p:ρ)(h:p.Ok):exp n k p.av=p.av:=by
 have:aX n k (p.ix.map ζ.av)=p.ix.map ζ.av:=by rw[ft,cT];exact dh fun x hx=>ζ.jI n k x (h.2.2 x hx).1
 simp only[ρ.av,exp,aX,fq h.2.1,this]
theorem ρ.tc(p:ρ):ν p.av=p.av:=by
 have:cG (p.ix.map ζ.av)=p.ix.map ζ.av:=by rw[fH,cT];exact dh fun x _=>ζ.tc x
 simp only[ρ.av,ν,cG,this]
theorem aae(n:Nat)(k:Bool)(a b:List AV):aX n k (a++b)=aX n k a++aX n k b:=by simp[ft]
theorem afq(a b:List AV):cG (a++b)=cG a++cG b:=by simp[fH]
theorem δ.RQ(n:Nat)(k:Bool)(x:δ):x.Ok->aX n k x.cells=x.cells:=by
 refine δ.jd (Q:=fun x=>x.Ok->aX n k x.cells=x.cells) (fun kk g nm cp pl size to cb body ce els h1 h2 h=>?_) x;simp only[δ.Ok]at h;obtain⟨-,k1,k2,k3,k4,k5,k6,k7,k8⟩:=h;have e1:aX n k (pl.map ρ.av)=pl.map ρ.av:=by rw[ft,cT];exact dh fun x hx=>ρ.jI n k x (k2 x hx)
 have go:∀l:List δ,δ.cm l->(∀y∈l,y.Ok->aX n k y.cells=y.cells)->aX n k (δ.χ l)=δ.χ l:=by intro l hl hy;rw[ft,δ.dW,cT];refine dh fun y hm=>?_;simp only[Function.comp,δ.av,exp,hy y hm (δ.gK hl y hm)]
 simp only[δ.cells,aae,aX,exp,fq k1,fq k5,fq k7,e1,ζ.RR _ _ _ k3.1,ζ.RR _ _ _ k4.1,go body k6 h1,go els k8 h2]
theorem δ.jI(n:Nat)(k:Bool)(x:δ)(h:x.Ok):exp n k x.av=x.av:=by simp only[δ.av,exp,δ.RQ n k x h]
theorem δ.FF(n:Nat)(k:Bool)(l:List δ)(h:δ.cm l):aX n k (δ.χ l)=δ.χ l:=by rw[ft,δ.dW,cT];exact dh fun x hx=>δ.jI n k x (δ.gK h x hx)
theorem δ.zk(x:δ):cG x.cells=x.cells:=by
 refine δ.jd (Q:=fun x=>cG x.cells=x.cells) (fun kk g nm cp pl size to cb body ce els h1 h2=>?_) x;have e1:cG (pl.map ρ.av)=pl.map ρ.av:=by rw[fH,cT];exact dh fun x hx=>ρ.tc x
 have go:∀l:List δ,(∀y∈l,cG y.cells=y.cells)->cG (δ.χ l)=δ.χ l:=by intro l hy;rw[fH,δ.dW,cT];refine dh fun y hm=>?_;simp only[Function.comp,δ.av,ν,hy y hm]
 simp only[δ.cells,afq,cG,ν,e1,ζ.VK,go body h1,go els h2]
theorem ξ.jI(n:Nat)(k:Bool)(p:ξ)(h:p.Ok):exp n k p.av=p.av:=by
 obtain⟨-,k1,k2,k3,k4,-⟩:=h;have e1:aX n k (p.au.map ai.av)=p.au.map ai.av:=by rw[ft,cT];exact dh fun x _=>rfl
 simp only[ξ.av,exp,aX,fq k1,fq k3,e1,δ.FF _ _ _ k4]
theorem ζ.eY(x:ζ):x.four.length=4:=by cases x;rfl
theorem δ.ll(x:δ):x.cells.length=14:=by cases x;simp[δ.cells,ζ.eY]
def fu:List (List Nat):=[[120],[121],[122],[104],[115],[115,100],[116],[116,100],[99,120],[99,122],[115,119,97,112],[99,99,120]]
def uh:List (List Nat):=[[112,114,111,99],[116,97,107,101],[100,114,111,112],[98,111,114,114,111,119],[109,101,97,115,117,114,101],[114,101,115,101,116],[105,102],[101,108,115,101],[102,111,114],[117,110,100,111],[119,105,116,104,105,110],[97,112,112,108,121]]
def rT(s:List Nat):Bool:=s.all fun b=>decide (97<=b)&&decide (b<=122)
def df(s:List Nat):Bool:=decide (0<s.length)&&decide (s.length<=8)&&rT s&& !fu.contains s&& !uh.contains s
mutual
def ζ.part(may:List Nat->Bool)(no:Int):ζ->Int
 | .mk k n s _ l=>if kN k n l.length≠0 then kN k n l.length else if k=2/\may s=false then no else ζ.parts may no l
def ζ.parts(may:List Nat->Bool)(no:Int):List ζ->Int
 |[]=>0
 |x::l=>if x.part may no≠0 then x.part may no else ζ.parts may no l
end
def ζ.err(may:List Nat->Bool)(no:Int)(x:ζ):Int:=if 9<x.cnt then 2 else x.part may no
inductive ra
 |none
 |j_ (cu:Bool)
 |bit
 |dZ
 deriving DecidableEq
abbrev bT:=List Nat->ra
def ra.yZ:ra->Bool
 | .j_ _=>true
 |_=>false
def iN(L:bT)(s:List Nat):Bool:=decide (L s= .dZ)
def jg(L:bT)(p:ρ):Int:=if(L p.name).yZ=false then 1 else if 2<p.ix.length then 2 else first (ζ.err (iN L) 1) p.ix
def fA(L:bT)(s:List Nat):Int:=if df s=false then 4 else if L s≠ .none then 5 else 0
def ga(g:Int):Nat:=if g<=8 then 1 else if g<=11 then 2 else 3
def pS(ps:List ξ)(s:List Nat):Option Nat:=ps.findIdx? fun p=>p.name==s
def dV(ps:List ξ)(own:Nat)(L:bT):δ->Int
 | .mk k g nm _ pl size to _ _ _ _=>
  if k=1 then(if g<1\/12<g then 3 else if pl.length≠ga g then 2 else first (jg L) pl)
  else if k=2\/k=4 then(if fA L nm≠0 then fA L nm else size.err (iN L) 1)
  else if k=8 then(if fA L nm≠0 then fA L nm else if size.err (iN L) 1≠0 then size.err (iN L) 1 else to.err (iN L) 1)
  else if k=3 then(match L nm with
   | .j_ true=>0
   | .j_ false=>7
   |_=>1)
  else if k=5 then(match pl with
   |[p]=>if jg L p≠0 then jg L p else if L nm= .bit then 0 else fA L nm
   |_=>2)
  else if k=6 then(match pl with
   |[p]=>jg L p
   |_=>2)
  else if k=7 then(if L nm= .bit then 0 else 1)
  else if k=9 then(match pS ps nm with
   |none=>1
   |some n=>if own<=n then 15 else match ps[n]? with
    |some q=>if pl.length≠q.au.length then 2 else first (jg L) pl
    |none=>1)
  else if k=10\/k=11 then 0 else 3
def bf(k:Int):Bool:=decide (k=4\/k=8\/k=10\/k=7\/k=11)
def bz(k:Int):Bool:=decide (k=7\/k=11)
mutual
def δ.cnt:δ->Nat
 | .mk k _ _ _ _ _ _ _ body _ els=>1+(if bf k then δ.bK body else 0)+(if bz k then δ.bK els else 0)
def δ.bK:List δ->Nat
 |[]=>0
 |s::l=>s.cnt+δ.bK l
end
mutual
def δ.deep:δ->Nat
 | .mk k _ _ _ _ _ _ _ body _ els=>1+max (if bf k then δ.du body else 0) (if bz k then δ.du els else 0)
def δ.du:List δ->Nat
 |[]=>0
 |s::l=>max s.deep (δ.du l)
end
def ρ.wt(p:ρ):Nat:=1+ζ.bK p.ix
def eL:List ρ->Nat
 |[]=>0
 |p::l=>p.wt+eL l
mutual
def δ.wt:δ->Nat
 | .mk _ _ _ _ pl size to _ body _ els=>1+eL pl+size.cnt+to.cnt+δ.bC body+δ.bC els
def δ.bC:List δ->Nat
 |[]=>0
 |s::l=>s.wt+δ.bC l
end
def ξ.wt(p:ξ):Nat:=1+p.au.length+δ.bC p.body
def gC:List ξ->Nat
 |[]=>0
 |p::l=>p.wt+gC l
theorem ρ.kP{l:List ρ}{x:ρ}(h:x∈l):x.wt<=eL l:=by
 induction l with
 |nil=>cases h
 |cons a l ih=>
  simp only[eL]
  rcases cB.1 h with rfl|h
  ·omega
  ·have:=ih h;omega
theorem ag1(l:List ρ):l.length<=eL l:=by
 induction l with
 |nil=>simp
 |cons a l ih=>simp only[cN,eL,ρ.wt];omega
theorem δ.kP{l:List δ}{x:δ}(h:x∈l):x.wt<=δ.bC l:=by
 induction l with
 |nil=>cases h
 |cons a l ih=>
  simp only[δ.bC]
  rcases cB.1 h with rfl|h
  ·omega
  ·have:=ih h;omega
theorem δ.xB(x:δ):3+δ.bC x.body+δ.bC x.els<=x.wt:=by obtain⟨k,g,nm,cp,pl,size,to,cb,body,ce,els⟩:=x;have h1:=ζ.Ko size;have h2:=ζ.Ko to;simp only[δ.wt,δ.body,δ.els];omega
theorem δ.zM(l:List δ):l.length<=δ.bC l:=by
 induction l with
 |nil=>simp
 |cons a l ih=>have:=δ.xB a;simp only[cN,δ.bC];omega
theorem We(l:List ξ):l.length<=gC l:=by
 induction l with
 |nil=>simp
 |cons a l ih=>simp only[cN,gC,ξ.wt];omega
theorem ξ.kP{l:List ξ}{x:ξ}(h:x∈l):x.wt<=gC l:=by
 induction l with
 |nil=>cases h
 |cons a l ih=>
  simp only[gC]
  rcases cB.1 h with rfl|h
  ·omega
  ·have:=ih h;omega
def bT.put(L:bT)(s:List Nat)(w:ra):bT:=fun t=>if t=s then w else L t
def bT.inner(L:bT):bT:=fun t=>match L t with
 | .j_ _=> .j_ false
 |w=>w
def inside(L:bT)(k:Int)(nm:List Nat):bT:=if k=4 then L.inner.put nm (.j_ false)else if k=8 then L.inner.put nm .dZ else L.inner
def after(L:bT)(k:Int)(nm:List Nat):bT:=if k=2 then L.put nm (.j_ true)else if k=3 then L.put nm .none else if k=5 then L.put nm .bit else L
def δ.kind:δ->Int
 | .mk k _ _ _ _ _ _ _ _ _ _=>k
def δ.name:δ->List Nat
 | .mk _ _ nm _ _ _ _ _ _ _ _=>nm
mutual
def gb(ps:List ξ)(own:Nat):List δ->bT->Int
 |[],_=>0
 |s::l,L=>if dV ps own L s≠0 then dV ps own L s else if kX ps own s L≠0 then kX ps own s L else gb ps own l (after L s.kind s.name)
def kX(ps:List ξ)(own:Nat):δ->bT->Int
 | .mk k _ nm _ _ _ _ _ body _ els,L=>if bf k then(if gb ps own body (inside L k nm)≠0 then gb ps own body (inside L k nm)else if bz k then gb ps own els (inside L k nm)else 0)else 0
end
def qJ:List ai->bT->Int
 |[],_=>0
 |x::l,L=>if df x.name=false then 4 else if x.size<1\/12<x.size then 3 else if L x.name≠ .none then 5 else qJ l (L.put x.name (.j_ false))
def qK:List ai->bT->bT
 |[],L=>L
 |x::l,L=>qK l (L.put x.name (.j_ false))
def oW:bT:=fun _=> .none
def rZ(ps:List ξ)(own:Nat)(x:ξ):Int:=
 if df x.name=false then 4
 else if(ps.take own).any (fun p=>p.name==x.name)then 5
 else if 4<x.au.length then 2
 else if qJ x.au oW≠0 then qJ x.au oW
 else if 120<δ.bK x.body then 2
 else if 6<δ.du x.body then 11
 else gb ps own x.body (qK x.au oW)
def tm(ps:List ξ):Nat->List ξ->Int
 |_,[]=>0
 |k,x::l=>if rZ ps k x≠0 then rZ ps k x else tm ps (k+1) l
def mQ(ps:List ξ):Int:=if ps.length<1\/12<ps.length then 2 else tm ps 0 ps
end Go.Δ
namespace Go.Δ.Tz
open Go.Δ
variable{u:Nat}
def z7:List (List Nat):=uh++fu
def u9(s:List Nat):Bool:=z7.contains s
attribute [local simp] exec ef dR e_ aJ dF fE eR br fM bR iL iS jm jE AV.cells newVar jA rd wr iu single dk cD ff eF μ cF RV.get cK fV kT
structure cU where
 name:List Nat
 w:Int
 d:Int
def cU.av(x:cU):AV:= .agg [.str x.name,.n x.w,.n x.d]
theorem tQ(bs:List θ)(n:Nat)(a:List Nat):aQ bs n 8 (.str a)= .str a:=rfl
def iV:List cU->List Nat->cU
 |[],_=>⟨[],0,0⟩
 |x::l,s=>if x.name=s then x else iV l s
def Ee(ps:List ξ)(s:List Nat):Int:=match pS ps s with
 |none=> -1
 |some i=>i
theorem uF(l:List δ):(δ.χ l).length=l.length:=by rw[δ.dW];simp
theorem I7(l:List δ)(i:Nat)(h:i<l.length):(δ.χ l)[i]'(by rw[uF];exact h)=l[i].av:=by simp[δ.dW]
theorem ZQ(l:List δ)(i:Nat)(h:i<l.length):δ.du (l.take (i+1))=max (δ.du (l.take i)) l[i].deep:=by
 induction l generalizing i with
 |nil=>simp at h
 |cons a l ih=>
  cases i with
  |zero=>simp[δ.du]
  |succ i=>simp only[tF,δ.du,pX,ih i (by simpa using h),Nat.max_assoc]
theorem δ.Zo(x:δ):x.cnt<=x.wt/\x.deep<=x.wt:=by
 refine δ.jd (Q:=fun x=>x.cnt<=x.wt/\x.deep<=x.wt) (fun k g nm cp pl size to cb body ce els h1 h2=>?_) x;have go:∀l:List δ,(∀y∈l,y.cnt<=y.wt/\y.deep<=y.wt)->δ.bK l<=δ.bC l/\δ.du l<=δ.bC l:=by
  intro l hl;induction l with
  |nil=>simp[δ.bK,δ.du]
  |cons a l ih=>
   have:=ih fun y hy=>hl y (by simp[hy])
   have ha:=hl a (by simp);simp only[δ.bK,δ.du,δ.bC];omega
 have a1:=go body h1;have a2:=go els h2;simp only[δ.cnt,δ.deep,δ.wt];split<;>split<;>omega
theorem δ.Kp(l:List δ):δ.bK l<=δ.bC l/\δ.du l<=δ.bC l:=by
 induction l with
 |nil=>simp[δ.bK,δ.du]
 |cons a l ih=>have:=δ.Zo a;simp only[δ.bK,δ.du,δ.bC];omega
theorem ajH(l:List δ)(i:Nat):δ.bC (l.take i)<=δ.bC l:=by
 induction l generalizing i with
 |nil=>simp
 |cons a l ih=>cases i with
  |zero=>simp[δ.bC]
  |succ i=>have:=ih i;simp only[tF,δ.bC];omega
theorem rp{n:Nat}{k:Bool}{c:τ}(hc:bm c){l:List δ}(h:δ.cm l):exp n k (.list c (δ.χ l))= .list c (δ.χ l):=by simp only[exp,fq hc,δ.FF _ _ _ h]
theorem δ.Oj{x:δ}(h:x.Ok):δ.cm x.body/\δ.cm x.els:=by obtain⟨k,g,nm,cp,pl,size,to,cb,body,ce,els⟩:=x;simp only[δ.Ok]at h;exact⟨h.2.2.2.2.2.2.1,h.2.2.2.2.2.2.2.2⟩
theorem P3(s:List Nat)(i:Nat)(hi:i<s.length)(h:s[i]<256):((⟨(s.map UInt8.ofNat).toArray⟩:ByteArray).get! i).toNat=s[i]:=by simp[ByteArray.get!,hi];omega
theorem Rr{s:List Nat}{i:Nat}(hi:i<s.length)(h:s[i]<128):Utf8.decode ⟨(s.map UInt8.ofNat).toArray⟩ i=(s[i],1):=by have h0:=P3 s i hi (by omega);simp only[Utf8.decode,qX,h0];simp[h]
theorem ZM{s:List Nat}{i:Nat}(hi:i<s.length)(h1:s[i]<256)(h:128<=s[i]):128<=(Utf8.decode ⟨(s.map UInt8.ofNat).toArray⟩ i).1:=by
 have h0:=P3 s i hi h1;simp only[Utf8.decode,qX,h0];have:¬s[i]<128:=by omega
 simp only[this,if_false]
 (repeat' split)<;>simp_all [Utf8.runeError]<;>omega
theorem f178(s:List Nat)(hs:dB s)(m:Mem):kf u 178 [.str s] m=some (.bool (rT s),m):=by
 refine dt (g:=Gb) rfl rfl rfl ?_;simp only[ax,aI,exp,Gb,Qh];let K:St->Prop:=fun st=>st.mem= {ε:=m.ε,η:=[]};refine Ψ (fun st=>K st/\st.e 0= .str s) (by simp[K]) fun s1 ⟨h1,h2⟩=>?_;refine bS (fun st=>K st/\rT s=true) ?_ fun s2 ⟨h1,h2⟩=>?_
 ·let I:Nat->St->Prop:=fun i st=>K st/\(∃v,st.e 6= .ak 6 v 0/\st.q 6=some (v,.iter s i))/\∀j (hj:j<s.length),j<i->97<=s[j]/\s[j]<=122;refine Ψ (I 0) (by simp[I,K,h1,h2]) fun s4 hI=>?_;refine μ.block (μ.loop (I:=I) s.length hI fun i st hi Ω=>?_);obtain⟨h1,⟨v,q1,q2⟩,q3⟩:=Ω;rcases di i s.length with ψ|eH
  ·have hb:s[i]<256:=hs _ (db ψ);by_cases a0:s[i]<128
   ·have hd:=Rr ψ a0;by_cases a1:97<=s[i]/\s[i]<=122
    ·left;refine⟨ψ,?_⟩;have a2:¬(s[i]:Int)<97:=by omega
     have a3:¬(122:Int)<s[i]:=by omega
     simp[I,K,Bi,h1,q1,q2,ψ,hd,a2,a3];exact fun j hj lU=>by
      rcases di j i with h|h
      ·exact q3 j hj h
      ·have:j=i:=by omega
       subst this;exact a1
    ·right;have hn:rT s=false:=by simp only[rT,alf];exact⟨s[i],db ψ,by simp;omega⟩
     by_cases a2:(s[i]:Int)<97
     ·simp[Bi,K,h1,q1,q2,ψ,hd,a2,hn]<;>exact h1
     ·have a3:(122:Int)<s[i]:=by omega
      simp[Bi,K,h1,q1,q2,ψ,hd,a2,a3,hn]<;>exact h1
   ·right;have hd:=ZM ψ hb (by omega);have hn:rT s=false:=by simp only[rT,alf];exact⟨s[i],db ψ,by simp;omega⟩
    have a2:¬((Utf8.decode ⟨(s.map UInt8.ofNat).toArray⟩ i).1:Int)<97:=by omega
    have a3:(122:Int)<(Utf8.decode ⟨(s.map UInt8.ofNat).toArray⟩ i).1:=by omega
    simp[Bi,K,h1,q1,q2,ψ,a2,a3,hn]<;>exact h1
  ·right;have:i=s.length:=by omega
   subst this;have hy:rT s=true:=by simp only[rT,List.all_eq_true];intro b hb;obtain⟨j,hj,rfl⟩:=List.getElem_of_mem hb;have:=q3 j hj hj;simp;omega
   simp[Bi,K,h1,q1,q2,hy]<;>exact h1
 ·have nF:s2.mem= {ε:=m.ε,η:=[]}:=h1;simp[h2,nF]
theorem f65(cn:τ)(my:bm cn)(ss:List (List Nat))(t:List Nat)(hlen:ss.length<1000000000000)(m:Mem):kf u 65 [bw cn ss,.str t] m=some (.bool (ss.contains t),m):=by
 have e:=f85 (u:=u) cn my ss t hlen;refine dt (g:=G8) rfl rfl rfl ?_;simp only[ax,aI,x_ my,exp,G8,Q0];cases hf:ss.findIdx? (fun x=>x==t)with
 |none=>
  have hc:ss.contains t=false:=by
   rw[vV]at hf;cases h:ss.contains t with
   |false=>rfl
   |true=>
    rw[xC]at h
    have:=hf t h;simp at this
  rw[hc];simp[e,placeOf,hf]
 |some i=>
  have hc:ss.contains t=true:=by
   rw[tD]at hf;obtain⟨h1,h2,_⟩:=hf;rw[xC];have:ss[i]=t:=by simpa using h2
   rw[<-this];exact db h1
  have:(0:Int)<=(i:Int):=by omega
  rw[hc];simp[e,placeOf,hf,this]
theorem AJ:(C u).gl 0= .ref [bw .any fu]:=by rfl
theorem Hb:(C u).gl 1= .ref [bw .any uh]:=by rfl
theorem f113(s:List Nat)(hs:dB s)(m:Mem):kf u 113 [.str s] m=some (.bool (df s),m):=by
 have e1:=f178 (u:=u) s hs;have e2:=f65 (u:=u) .any (.inr rfl) fu s (by decide);have e3:=f65 (u:=u) .any (.inr rfl) uh s (by decide);refine dt (g:=FU) rfl rfl rfl ?_;simp only[ax,aI,exp,FU,P8];unfold df;generalize fu.contains s=bg at*;generalize uh.contains s=bk at*;by_cases a1:0<s.length
 ·by_cases a2:s.length<=8
  ·have zZ:(0:Int)<(s.length:Int):=by omega
   have EZ:(s.length:Int)<=8:=by omega
   cases a3:rT s with
   |false=>simp[e1,e2,e3,AJ,Hb,a1,a2,zZ,EZ,a3]
   |true=>cases bg<;>simp[e1,e2,e3,AJ,Hb,a1,a2,zZ,EZ,a3]
  ·have zZ:(0:Int)<(s.length:Int):=by omega
   have EZ:¬(s.length:Int)<=8:=by omega
   simp[e1,e2,e3,AJ,Hb,a1,a2,zZ,EZ]
 ·have zZ:¬(0:Int)<(s.length:Int):=by omega
  simp[e1,e2,e3,AJ,Hb,a1,zZ]
theorem agN(may:List Nat->Bool)(no:Int)(l:List ζ):ζ.parts may no l=first (ζ.part may no) l:=by
 induction l with
 |nil=>rfl
 |cons a l ih=>simp only[ζ.parts,first,ih]
theorem FF{n:Nat}{k:Bool}{c:τ}(hc:bm c){l:List ζ}(h:ζ.cm l):exp n k (.list c (ζ.χ l))= .list c (ζ.χ l):=by
 have:aX n k (ζ.χ l)=ζ.χ l:=by rw[ft,ζ.dW,cT];exact dh fun x hx=>ζ.jI n k x (ζ.gK h x hx)
 simp only[exp,fq hc,this]
theorem ai4{l:List ζ}(h:ζ.Strs l):∀x∈l,x.qZ:=by
 induction l with
 |nil=>intro x hx;cases hx
 |cons a l ih=>
  intro x hx
  rcases cB.1 hx with rfl|hx
  ·exact h.1
  ·exact ih h.2 x hx
def Fix(n:Nat)(fv:AV):Prop:=∀k b,n<=k->exp k b fv=fv
def lf(u:Nat)(B:List θ)(fv:AV)(args:List AV)(r:AV):Prop:=∀ext T,ab (C u) fv args {ε:=B++ext,η:=T}=some (r,{ε:=B++ext,η:=T})
theorem f177{B:List θ}{fv:AV}{F:ζ->Int}(hf:Fix B.length fv)(c:τ)(hc:bm c)(l:List ζ)(hl:ζ.cm l)(hlen:l.length<1000000000000)
  (h:∀x∈l,lf u B fv [x.av] (.n (F x))):lf u B (.fn (.func 177) [] []) [.list c (ζ.χ l),fv] (.n (first F l)):=by
 intro ext T;refine dt (g:=Ga) rfl rfl rfl ?_;simp only[ax,aI,FF hc hl,hf _ false (show B.length<=(B++ext).length by simp),Ga,Qg];let K:St->Prop:=fun st=>st.e 1=fv/\st.mem= {ε:=B++ext,η:=[]};refine Ψ (fun st=>K st/\st.e 0= .list c (ζ.χ l)) (by simp[K]) fun s1 ⟨⟨h1,h2⟩,h3⟩=>?_;refine bS (fun st=>K st/\first F l=0) ?_ fun s2 ⟨⟨h1,h2⟩,h3⟩=>?_
 ·let I:Nat->St->Prop:=fun i st=>K st/\st.e 8= .list c (ζ.χ l)/\st.e 9= .n l.length/\st.e 10= .n i/\∀j (hj:j<l.length),j<i->F l[j]=0;refine Ψ (I 0) (by simp[I,K,h1,h2,h3,rb]) fun s4 hI=>?_;refine μ.block (μ.loop (I:=I) l.length hI fun i st hi Ω=>?_);obtain⟨⟨h1,h2⟩,q1,q2,q3,q4⟩:=Ω;rcases di i l.length with ψ|eH
  ·have hw:bN .i64 ((i:Int)+1)=(i:Int)+1:=wrap_i64 (by omega) (by omega);have hg:=E6 l i ψ;have hx:=h _ (db ψ) ext [];by_cases hz:F l[i]=0
   ·left;refine⟨ψ,?_⟩;rw[hz]at hx;have q5:=Cf (P:=fun j=>∀hj:j<l.length,F l[j]=0) (n:=l.length) (fun j a b c=>q4 j c b) (fun _=>hz);generalize l[i]=y at hg hx;obtain⟨k',n',s',c2,l'⟩:=y;simp only[ζ.av]at hg hx;simp[I,K,H_,h1,h2,q1,q2,q3,ψ,hg,hx,hw,rb];exact fun j hj lU=>q5 j hj lU hj
   ·right;have rC:=K_ ψ q4 hz;rw[rC];have e1:=bne_true hz;generalize l[i]=y at hg hx hz e1;obtain⟨k',n',s',c2,l'⟩:=y;simp only[ζ.av]at hg hx;simp[K,H_,h1,h2,q1,q2,q3,ψ,hg,hx,e1,rb]
  ·right;have:i=l.length:=by omega
   subst this;have hz:=FJ (f:=F) fun j hj=>q4 j hj hj;simp[K,H_,h1,h2,q1,q2,q3,hz]
 ·simp[h1,h2,h3]
def mG(B:List θ)(lZ:AV)(no:Int):List θ:=B++[.cells [lZ],.cells [.n no],.cells [.fn (.func 175) [] [.κ B.length 0,.κ (B.length+1) 0,.κ (B.length+2) 0]]]
theorem UQ(B:List θ)(lZ:AV)(no:Int):(mG B lZ no).length=B.length+3:=by simp[mG]
theorem f175(B:List θ)(lZ:AV)(no:Int)(may:List Nat->Bool)(ME:∀s,dB s->lf u B lZ [.str s] (.bool (may s)))(x:ζ):x.Ok->x.qZ->x.cnt<1000000000000→
  lf u (mG B lZ no) (.fn (.func 175) [] [.κ B.length 0,.κ (B.length+1) 0,.κ (B.length+2) 0]) [x.av] (.n (x.part may no)):=by
 refine ζ.jd (Q:=fun x=>x.Ok->x.qZ->x.cnt<1000000000000->lf u (mG B lZ no) (.fn (.func 175) [] [.κ B.length 0,.κ (B.length+1) 0,.κ (B.length+2) 0]) [x.av] (.n (x.part may no))) (fun k n s c l ih aj qv oG=>?_) x;intro ext T;simp only[ζ.qZ]at qv;simp only[ζ.cnt]at oG;have wR:=ζ.Ak l;have hlen:(mG B lZ no++ext).length=B.length+3+ext.length:=by simp[UQ]
 have a0:B.length<B.length+3+ext.length:=by omega
 have a1:B.length+1<B.length+3+ext.length:=by omega
 have a2:B.length+2<B.length+3+ext.length:=by omega
 have d0:(mG B lZ no++ext)[B.length]?=some (.cells [lZ]):=by simp[mG]
 have d1:(mG B lZ no++ext)[B.length+1]?=some (.cells [.n no]):=by simp[mG]
 have d2:(mG B lZ no++ext)[B.length+2]?=some (.cells [.fn (.func 175) [] [.κ B.length 0,.κ (B.length+1) 0,.κ (B.length+2) 0]]):=by simp[mG]
 have dX:=fun m=>f176 (u:=u) k n s c l m aj;have hm:=ME s qv.1 ([.cells [lZ],.cells [.n no],.cells [.fn (.func 175) [] [.κ B.length 0,.κ (B.length+1) 0,.κ (B.length+2) 0]]]++ext) [];have lz:ab (C u) lZ [.str s] {ε:=mG B lZ no++ext,η:=[]}=some (.bool (may s),{ε:=mG B lZ no++ext,η:=[]}):=by simpa[mG]using hm
 have sP:Fix (mG B lZ no).length (.fn (.func 175) [] [.κ B.length 0,.κ (B.length+1) 0,.κ (B.length+2) 0]):=by intro kk b hk;rw[UQ]at hk;simp[exp,aX,Fn.below];omega
 have yB:=f177 (u:=u) sP c aj.1 l aj.2 (by omega) (fun y hy=>ih y hy (ζ.gK aj.2 y hy) (ai4 qv.2 y hy) (by have:=ζ.Aj hy;omega)) ext [];rw[<-agN]at yB;refine sw (g:=F') rfl rfl rfl ?_;have eG:([]++[(ζ.mk k n s c l).av]++[AV.κ B.length 0,.κ (B.length+1) 0,.κ (B.length+2) 0]).map (exp (mG B lZ no++ext).length false)=[(ζ.mk k n s c l).av,AV.κ B.length 0,.κ (B.length+1) 0,.κ (B.length+2) 0]:=by simp only[List.nil_append,List.cons_append,ax,aI,ζ.jI _ _ _ aj,exp,hlen,a0,a1,a2,if_true]
 rw[eG];simp only[F',c175,ζ.part];simp only[ζ.av]at dX⊢;generalize mG B lZ no++ext=BB at*;by_cases kH:kN k n l.length=0
 ·rw[kH]at dX;by_cases gy:k=2
  ·subst gy;cases mC:may s with
   |true=>
    rw[mC]at lz
    simp[dX,d0,d1,d2,lz,yB,kH]
   |false=>
    rw[mC]at lz
    simp[dX,d0,d1,d2,lz,yB,kH]
  ·simp[dX,d0,d1,d2,lz,yB,kH,gy,eK gy]
 ·simp[dX,d0,d1,d2,lz,yB,kH,bne_true kH]
theorem f112{B:List θ}{F:Fn}{fa fc:List AV}{may:List Nat->Bool}(no:Int)(sP:Fix B.length (.fn F fa fc))(pJ:fa.map ν=fa)(mX:fc.map ν=fc)(ME:∀s,dB s->lf u B (.fn F fa fc) [.str s] (.bool (may s)))(x:ζ)(aj:x.Ok)(qv:x.qZ)(oG:x.cnt<1000000000000):
  lf u B (.fn (.func 112) [] []) [x.av,.fn F fa fc,.n no] (.n (x.err may no)):=by
 intro ext T;have aO:=fun m=>f117 (u:=u) x aj oG m;have abF:∀s,dB s->lf u (B++ext) (.fn F fa fc) [.str s] (.bool (may s)):=fun s hs e t=>by have:=ME s hs (ext++e) t;rwa[<-List.append_assoc]at this
 have dw:=f175 (u:=u) (B++ext) (.fn F fa fc) no may abF x aj qv oG [] [];refine dt (g:=FT) rfl rfl rfl ?_;simp only[ax,aI,ζ.jI _ _ _ aj,sP _ false (show B.length<=(B++ext).length by simp)];simp only[exp,FT,P7];generalize B++ext=BB at*;obtain⟨k,n,s,c,l⟩:=x;simp only[ζ.av]at aO dw⊢;by_cases h9:9<(ζ.mk k n s c l).cnt
 ·have Ly:(9:Int)<((ζ.mk k n s c l).cnt:Int):=by omega
  simp[aO,Mem.push,Mem.ν,ν,fH,pJ,mX,ζ.err,h9,Ly]
 ·have Ly:¬(9:Int)<((ζ.mk k n s c l).cnt:Int):=by omega
  simp only[mG,List.append_nil]at dw;simp[aO,Mem.push,Mem.ν,ν,fH,cG,pJ,mX,ζ.err,h9,Ly,Mem.put,bn,lo,Fn.below,dw]
end Go.Δ.Tz
