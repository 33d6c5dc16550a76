import Derived.Test.YtiigojkfojnedaaGreatDoorTZga
set_option linter.all false
set_option maxRecDepth 100000
set_option maxHeartbeats 8000000
open List renaming length_cons->cE,mem_cons->cw,map_map->dc,map_congr_left->dD,take_succ_cons->sv,getElem_cons_succ->qY,map_cons->aA,map_nil->aP,getElem_mem->df,findIdx?_eq_some_iff_getElem->tK,findIdx?_eq_none_iff->wv,all_eq_false->al_,contains_iff_mem->xW
open Go.IntKind renaming wrap->bC
open Nat renaming lt_or_ge->cX,add_zero->qd
namespace Go.Δ
inductive η
 |mk (k n:Int) (s:List Nat) (c:ξ) (l:List η)
mutual
def η.av:η->AV
 | .mk k n s c l=> .agg [.int .i64 k,.int .i64 n,.str s,.list c (η.ψ l)]
def η.ψ:List η->List AV
 |[]=>[]
 |x::l=>x.av::η.ψ l
end
theorem η.eM(l:List η):η.ψ l=l.map η.av:=by
 induction l with
 |nil=>rfl
 |cons a l ih=>simp[η.ψ,ih]
mutual
def η.cnt:η->Nat
 | .mk _ _ _ _ l=>1+η.bO l
def η.bO:List η->Nat
 |[]=>0
 |x::l=>x.cnt+η.bO l
end
theorem η.K_(x:η):0<x.cnt:=by cases x;simp[η.cnt];omega
theorem η.La(l:List η):l.length<=η.bO l:=by
 induction l with
 |nil=>simp
 |cons a l ih=>have:=η.K_ a;simp only[cE,η.bO];omega
theorem η.KZ{l:List η}{x:η}(h:x∈l):x.cnt<=η.bO l:=by
 induction l with
 |nil=>cases h
 |cons a l ih=>
  simp only[η.bO]
  rcases cw.1 h with rfl|h
  ·omega
  ·have:=ih h;omega
theorem η.kR{Q:η->Prop}(h:∀k n s c l,(∀y∈l,Q y)->Q (.mk k n s c l))(x:η):Q x:=
 η.rec (motive_1:=Q) (motive_2:=fun l=>∀y∈l,Q y) (fun k n s c l ih=>h k n s c l ih) (fun y hy=>(by cases hy))
  (fun x l hx hl y hy=>(by
   rcases cw.1 hy with rfl|hy
   ·exact hx
   ·exact hl y hy)) x
def kW(k n:Int)(m:Nat):Int:=
 if k<1\/5<k\/(k=1/\(n<0\/99<n))then 3
 else if(3<=k/\m≠2)\/(k<3/\m≠0)then 2 else 0
def OL(n:Int):Int×Int:=if n< -1000000000\/1000000000<n then(0,8)else(n,0)
def comb(names:List (List Nat))(uD:List Int)(k n:Int)(s:List Nat)(rs:List (Int×Int)):Int×Int:=
 if k=2 then
  match names.findIdx? (fun x=>x==s)with
  |none=>(0,1)
  |some i=>OL (uD.getD i 0)
 else if 3<=k then
  match rs with
  |[(a,ea),(b,eb)]=>if ea≠0 then(0,ea)else if eb≠0 then(0,eb)else OL (if k=3 then a+b else if k=4 then a-b else a*b)
  |_=>(0,0)
 else OL n
mutual
def η.val(names:List (List Nat))(uD:List Int):η->Int×Int
 | .mk k n s _ l=>if kW k n l.length=0 then comb names uD k n s (η.X9 names uD l)else(0,kW k n l.length)
def η.X9(names:List (List Nat))(uD:List Int):List η->List (Int×Int)
 |[]=>[]
 |x::l=>x.val names uD::η.X9 names uD l
end
def η.value(names:List (List Nat))(uD:List Int)(x:η):Int×Int:=
 if 9<x.cnt then(0,2)else if names.length≠uD.length then(0,7)else x.val names uD
def br(c:ξ):Prop:=c= .nil\/c= .any
theorem ga{n:Nat}{k:Bool}{c:ξ}(h:br c):c.exp n k=c:=by rcases h with rfl|rfl<;>rfl
mutual
def η.Ok:η->Prop
 | .mk _ _ _ c l=>br c/\η.da l
def η.da:List η->Prop
 |[]=>True
 |x::l=>x.Ok/\η.da l
end
theorem η.jE{l:List η}(h:η.da l):∀x∈l,x.Ok:=by
 induction l with
 |nil=>intro x hx;cases hx
 |cons a l ih=>
  intro x hx
  rcases cw.1 hx with rfl|hx
  ·exact h.1
  ·exact ih h.2 x hx
theorem η.jJ(n:Nat)(k:Bool)(x:η):x.Ok->exp n k x.av=x.av:=by
 refine η.kR (Q:=fun x=>x.Ok->exp n k x.av=x.av) (fun kk nn s c l ih h=>?_) x;simp only[η.Ok]at h;have hl:bn n k (η.ψ l)=η.ψ l:=by rw[fQ,η.eM,dc];exact dD fun y hy=>ih y hy (η.jE h.2 y hy)
 simp only[η.av,exp,bn,ga h.1,hl]
theorem η.tm(x:η):ν x.av=x.av:=by
 refine η.kR (Q:=fun x=>ν x.av=x.av) (fun kk nn s c l ih=>?_) x;have hl:cL (η.ψ l)=η.ψ l:=by rw[fM,η.eM,dc];exact dD fun y hy=>ih y hy
 simp only[η.av,ν,cL,hl]
theorem η.yC(bs:List θ)(n k:Nat)(x:η):x.Ok->aK bs n k x.av=x.av:=by
 refine η.kR (Q:=fun x=>x.Ok->aK bs n k x.av=x.av) (fun kk nn s c l ih h=>?_) x;simp only[η.Ok]at h;cases k with
 |zero=>exact η.jJ n false _ (by simp only[η.Ok];exact h)
 |succ k=>
  have hl:(η.ψ l).map (aK bs n (k+1))=η.ψ l:=by rw[η.eM,dc];exact dD fun y hy=>ih y hy (η.jE h.2 y hy)
  simp only[aK]at hl;simp only[η.av,aK,fE,oF,qm,ga h.1,hl]
theorem wrap_i64{n:Int}(h1: -9223372036854775808<=n)(h2:n<9223372036854775808):bC .i64 n=n:=by
 show(if(true&&decide (n % 18446744073709551616≥9223372036854775808))=true then n % 18446744073709551616-18446744073709551616 else n % 18446744073709551616)=n;split
 ·rename_i h;simp at h;omega
 ·rename_i h;simp at h;omega
end Go.Δ
namespace Go.Δ.Tz
open Go.Δ
variable{u:Nat}
theorem fF(bs:List θ)(n:Nat)(k:IntKind)(i:Int):aK bs n 8 (.int k i)= .int k i:=rfl
theorem jU(bs:List θ)(n:Nat)(b:Bool):aK bs n 8 (.bool b)= .bool b:=rfl
theorem ri(l:List η):(η.ψ l).length=l.length:=by rw[η.eM];simp
theorem Fg(l:List η)(i:Nat)(h:i<l.length):(η.ψ l)[i]'(by rw[ri];exact h)=l[i].av:=by simp[η.eM]
theorem aab(l:List η)(i:Nat)(h:i<l.length):η.bO (l.take (i+1))=η.bO (l.take i)+l[i].cnt:=by
 induction l generalizing i with
 |nil=>simp at h
 |cons a l ih=>
  cases i with
  |zero=>simp[η.bO]
  |succ i=>
   have:=ih i (by simpa using h)
   simp only[sv,η.bO,qY]at this⊢;omega
theorem Z'(l:List η)(i:Nat):η.bO (l.take i)<=η.bO l:=by
 induction l generalizing i with
 |nil=>simp
 |cons a l ih=>
  cases i with
  |zero=>simp[η.bO]
  |succ i=>have:=ih i;simp only[sv,η.bO];omega
attribute [local simp] exec dT dG eR aH dr ff eH aI fA bQ gX ib iC iL AV.cells newVar iH rd wr gL single dd cA eU ef
theorem f117(x:η):x.Ok->x.cnt<1000000000000->∀m,kf u 117 [x.av] m=some (.n x.cnt,m):=by
 refine η.kR (Q:=fun x=>x.Ok->x.cnt<1000000000000->∀m,kf u 117 [x.av] m=some (.n x.cnt,m)) (fun k n s c l ih ai hc m=>?_) x;refine eN (g:=F') rfl rfl rfl ?_;simp only[aA,aP,η.jJ _ _ _ ai,F',c117];simp only[η.cnt]at hc;refine Θ (fun s1=>s1.e 1= .aj 1 0 0/\s1.q 1=some (0,.cells [.n k,.n n,.str s,.list c (η.ψ l)])/\s1.mem= {ε:=m.ε,ζ:=[]}) (by simp[η.av,bL]) fun s1 ⟨h1,h2,h3⟩=>?_;refine Θ (fun s2=>s2.e 1= .aj 1 0 0/\s2.q 1=some (0,.cells [.n k,.n n,.str s,.list c (η.ψ l)])/\s2.mem= {ε:=m.ε,ζ:=[]}/\s2.e 3= .n 1) (by simp[h1,h2,h3]) fun s2 ⟨h1,h2,h3,h4⟩=>?_;refine bP (fun s3=>s3.mem= {ε:=m.ε,ζ:=[]}/\s3.e 3= .n ((1+η.bO l:Nat):Int)) ?_ fun s3 ⟨h3,h4⟩=>?_
 ·let I:Nat->St->Prop:=fun i st=>st.e 3= .n ((1+η.bO (l.take i):Nat):Int)/\st.e 7= .list c (η.ψ l)/\st.e 8= .n l.length/\st.e 9= .n i/\st.mem= {ε:=m.ε,ζ:=[]};refine Θ (I 0) (by simp[I,h1,h2,h3,h4,ri,η.bO]) fun s4 hI=>?_;refine κ.block (κ.loop (I:=I) l.length hI fun i st hi Ω=>?_);obtain⟨q1,q2,q3,q4,q5⟩:=Ω;by_cases χ:i<l.length
  ·left;refine⟨χ,?_⟩;have hg:=Fg l i χ;have ht:=aab l i χ;have hle:=Z' l (i+1);have xz:=ih l[i] (df χ) (η.jE ai.2 _ (df χ)) (by have:=η.KZ (df χ);omega);generalize l[i]=y at hg ht xz;obtain⟨k',n',s',c',l'⟩:=y;simp only[η.av]at hg xz;have hw:bC .i64 (1+(η.bO (l.take i):Int)+((η.mk k' n' s' c' l').cnt:Int))=1+(η.bO (l.take i):Int)+((η.mk k' n' s' c' l').cnt:Int):=wrap_i64 (by omega) (by omega);have ly:bC .i64 ((i:Int)+1)=(i:Int)+1:=wrap_i64 (by omega) (by have:=η.La l;omega);simp[I,On,q1,q2,q3,q4,q5,χ,hg,xz,hw,ly,ht,ri];omega
  ·right;have:i=l.length:=by omega
   subst this;simp[On,q1,q2,q3,q4,q5]
 ·simp[κ,h3,h4,cH,RV.get,cJ,fF,η.cnt]
theorem f176(k n:Int)(s:List Nat)(c:ξ)(l:List η)(m:Mem)(ai:(η.mk k n s c l).Ok):
  kf u 176 [(η.mk k n s c l).av] m=some (.n (kW k n l.length),m):=by
 have hl:(η.ψ l).length=l.length:=by rw[η.eM];simp
 refine eN (g:=qo) rfl rfl rfl ?_;simp only[aA,aP,η.jJ _ _ _ ai];by_cases h1:k<1
 ·have e3:(k==3)=false:=by simp;omega
  have e4:(k==4)=false:=by simp;omega
  have e5:(k==5)=false:=by simp;omega
  simp[κ,qo,sy,η.av,cH,RV.get,cJ,fF,kW,h1,e3,e4,e5]
 by_cases h2:k>5
 ·have e3:(k==3)=false:=by simp;omega
  have e4:(k==4)=false:=by simp;omega
  have e5:(k==5)=false:=by simp;omega
  simp[κ,qo,sy,η.av,cH,RV.get,cJ,fF,kW,h1,h2,e3,e4,e5]
 by_cases h3:k=1
 ·subst h3;by_cases h4:n<0
  ·simp[κ,qo,sy,η.av,cH,RV.get,cJ,fF,kW,h4]
  by_cases h5:n>99
  ·simp[κ,qo,sy,η.av,cH,RV.get,cJ,fF,kW,h4,h5]
  by_cases h8:l.length=0
  ·simp[κ,qo,sy,η.av,cH,RV.get,cJ,fF,kW,hl,h4,h5,h8]
  ·have rE:0<l.length:=by omega
   simp[κ,qo,sy,η.av,cH,RV.get,cJ,fF,kW,hl,h4,h5,h8,rE]
 by_cases gE:k=2
 ·subst gE;by_cases h8:l.length=0
  ·simp[κ,qo,sy,η.av,cH,RV.get,cJ,fF,kW,hl,h8]
  ·have rE:0<l.length:=by omega
   simp[κ,qo,sy,η.av,cH,RV.get,cJ,fF,kW,hl,h8,rE]
 have hk:k=3\/k=4\/k=5:=by omega
 by_cases h7:l.length=2
 ·rcases hk with rfl|rfl|rfl<;>simp[κ,qo,sy,η.av,cH,RV.get,cJ,fF,kW,hl,h7]
 ·have h7':((l.length:Int) !=2)=true:=by simp;omega
  rcases hk with rfl|rfl|rfl<;>simp[κ,qo,sy,η.av,cH,RV.get,cJ,fF,kW,hl,h7,h7']
def aX(c:ξ)(l:List (List Nat)):AV:= .list c (l.map AV.str)
theorem wN{n:Nat}{k:Bool}{c:ξ}(hc:br c)(l:List (List Nat)):exp n k (aX c l)=aX c l:=by simp only[aX,exp,ga hc,fQ,dc];congr 1
def placeOf(l:List (List Nat))(t:List Nat):Int:=match l.findIdx? (fun x=>x==t)with
 |some i=>(i:Int)
 |none=> -1
theorem ahK{l:List (List Nat)}{t:List Nat}{i:Nat}(h:i<l.length)(he:l[i]=t)(hn:∀j (hj:j<l.length),j<i->l[j]≠t):l.findIdx? (fun x=>x==t)=some i:=by rw[tK];refine⟨h,by simpa using he,fun j hj=>?_⟩;have:=hn j (by omega) hj;simpa using this
theorem ahJ{l:List (List Nat)}{t:List Nat}(hn:∀j (hj:j<l.length),l[j]≠t):l.findIdx? (fun x=>x==t)=none:=by rw[wv];intro x hx;obtain⟨j,hj,rfl⟩:=List.mem_iff_getElem.1 hx;simpa using hn j hj
theorem f85(cn:ξ)(mD:br cn)(ss:List (List Nat))(t:List Nat)(hlen:ss.length<1000000000000)(m:Mem):
  kf u 85 [aX cn ss,.str t] m=some (.n (placeOf ss t),m):=by
 refine eN (g:=CS) rfl rfl rfl ?_;simp only[aA,aP,wN mD,exp,CS,c85];refine Θ (fun s1=>s1.e 0=aX cn ss/\s1.e 1= .str t/\s1.mem= {ε:=m.ε,ζ:=[]}) (by simp) fun s1 ⟨h1,h2,h3⟩=>?_;refine bP (fun s3=>s3.mem= {ε:=m.ε,ζ:=[]}/\∀j (hj:j<ss.length),ss[j]≠t) ?_ fun s3 ⟨h3,h4⟩=>?_
 ·let I:Nat->St->Prop:=fun i st=>st.e 0=aX cn ss/\st.e 1= .str t/\st.e 7= .n ss.length/\st.e 8= .n i/\st.mem= {ε:=m.ε,ζ:=[]}/\∀j (hj:j<ss.length),j<i->ss[j]≠t;refine Θ (I 0) (by simp[I,h1,h2,h3,aX]) fun s4 hI=>?_;refine κ.block (κ.loop (I:=I) ss.length hI fun i st hi Ω=>?_);obtain⟨q1,q2,q3,q4,q5,q6⟩:=Ω;simp only[aX]at q1;by_cases χ:i<ss.length
  ·have ly:bC .i64 ((i:Int)+1)=(i:Int)+1:=wrap_i64 (by omega) (by omega);by_cases he:ss[i]=t
   ·right;have hp:=ahK χ he q6;simp[ID,q1,q2,q3,q4,q5,χ,he];simp[cH,CS,RV.get,fA,cJ,fF,placeOf,hp]
   ·left;have qs:¬t=ss[i]:=fun e=>he e.symm;refine⟨χ,?_⟩;simp[I,ID,q1,q2,q3,q4,q5,χ,qs,ly,aX];intro j hj oO;rcases cX j i with h|h
    ·exact q6 j hj h
    ·have:j=i:=by omega
     subst this;exact he
  ·right;have:i=ss.length:=by omega
   subst this;simp[ID,q1,q2,q3,q4,q5];exact fun j hj=>q6 j hj hj
 ·have hp:=ahJ h4;simp[κ,h3,cH,RV.get,cJ,fF,placeOf,hp]
mutual
def _root_.Go.Δ.η.copy:η->η
 | .mk k n s _ l=> .mk k n s (match l with
  |[]=> .nil
  |_=> .any) (Ld l)
def Ld:List η->List η
 |[]=>[]
 |x::l=>x.copy::Ld l
end
theorem PI(B:List θ)(x y:θ):(B++[x]).set B.length y=B++[y]:=by simp
end Go.Δ.Tz
namespace Go.Δ
structure ρ where
 name:List Nat
 c:ξ
 ix:List η
inductive δ
 |mk (k g:Int) (name:List Nat) (cp:ξ) (pl:List ρ) (size to:η) (cb:ξ) (body:List δ) (ce:ξ) (els:List δ)
structure ay where
 name:List Nat
 size:Int
structure φ where
 name:List Nat
 cp:ξ
 aq:List ay
 cb:ξ
 body:List δ
structure Ah where
 c:ξ
 procs:List φ
def η.four:η->List AV
 | .mk k n s c l=>[.int .i64 k,.int .i64 n,.str s,.list c (η.ψ l)]
theorem η.iM(x:η):x.av= .agg x.four:=by cases x;rfl
def ρ.av(p:ρ):AV:= .agg [.str p.name,.list p.c (p.ix.map η.av)]
mutual
def δ.cells:δ->List AV
 | .mk k g nm cp pl size to cb body ce els=>[.int .i64 k,.int .i64 g,.str nm,.list cp (pl.map ρ.av)]++size.four++to.four++[.list cb (δ.ψ body),.list ce (δ.ψ els)]
def δ.ψ:List δ->List AV
 |[]=>[]
 |s::l=> .agg s.cells::δ.ψ l
end
def δ.av(s:δ):AV:= .agg s.cells
theorem δ.eM(l:List δ):δ.ψ l=l.map δ.av:=by
 induction l with
 |nil=>rfl
 |cons a l ih=>simp[δ.ψ,ih,δ.av]
def ay.av(p:ay):AV:= .agg [.str p.name,.n p.size]
def φ.av(p:φ):AV:= .agg [.str p.name,.list p.cp (p.aq.map ay.av),.list p.cb (δ.ψ p.body)]
def Ah.cells(p:Ah):List AV:=[.list p.c (p.procs.map φ.av)]
def Ah.av(p:Ah):AV:= .agg p.cells
theorem δ.kR{Q:δ->Prop}(h:∀k g nm cp pl size to cb body ce els,(∀y∈body,Q y)->(∀y∈els,Q y)->Q (.mk k g nm cp pl size to cb body ce els))(x:δ):Q x:=
 δ.rec (motive_1:=Q) (motive_2:=fun l=>∀y∈l,Q y) (fun k g nm cp pl size to cb body ce els h1 h2=>h k g nm cp pl size to cb body ce els h1 h2) (fun y hy=>(by cases hy))
  (fun x l hx hl y hy=>(by
   rcases cw.1 hy with rfl|hy
   ·exact hx
   ·exact hl y hy)) x
def δ.body:δ->List δ
 | .mk _ _ _ _ _ _ _ _ b _ _=>b
def δ.els:δ->List δ
 | .mk _ _ _ _ _ _ _ _ _ _ e=>e
theorem δ.lists{P:List δ->Prop}(h:∀l:List δ,(∀y∈l,P y.body/\P y.els)->P l)(l:List δ):P l:=
 h l fun y _=>δ.kR (Q:=fun y=>P y.body/\P y.els) (fun _ _ _ _ _ _ _ _ body _ els h1 h2=>⟨h body h1,h els h2⟩) y
def cV(s:List Nat):Prop:=∀b∈s,b<256
mutual
def η.rb:η->Prop
 | .mk _ _ s _ l=>cV s/\η.Strs l
def η.Strs:List η->Prop
 |[]=>True
 |x::l=>x.rb/\η.Strs l
end
def η.gz(x:η):Prop:=x.Ok/\x.rb
def ρ.Ok(p:ρ):Prop:=cV p.name/\br p.c/\∀x∈p.ix,x.gz
mutual
def δ.Ok:δ->Prop
 | .mk _ _ nm cp pl size to cb body ce els=>cV nm/\br cp/\(∀p∈pl,p.Ok)/\size.gz/\to.gz/\br cb/\δ.da body/\br ce/\δ.da els
def δ.da:List δ->Prop
 |[]=>True
 |s::l=>s.Ok/\δ.da l
end
theorem δ.jE{l:List δ}(h:δ.da l):∀x∈l,x.Ok:=by
 induction l with
 |nil=>intro x hx;cases hx
 |cons a l ih=>
  intro x hx
  rcases cw.1 hx with rfl|hx
  ·exact h.1
  ·exact ih h.2 x hx
def φ.Ok(p:φ):Prop:=cV p.name/\br p.cp/\(∀x∈p.aq,cV x.name)/\br p.cb/\δ.da p.body/\(p.cp= .nil->p.aq=[])
def Ah.Ok(p:Ah):Prop:=br p.c/\∀x∈p.procs,x.Ok
theorem η.SN(n:Nat)(k:Bool)(x:η)(h:x.Ok):bn n k x.four=x.four:=by have:=η.jJ n k x h;rw[η.iM]at this;simpa only[exp,AV.agg.injEq]using this
theorem η.Wx(x:η):cL x.four=x.four:=by have:=η.tm x;rw[η.iM]at this;simpa only[ν,AV.agg.injEq]using this
theorem ρ.jJ(n:Nat)(k:Bool)(p:ρ)(h:p.Ok):exp n k p.av=p.av:=by
 have:bn n k (p.ix.map η.av)=p.ix.map η.av:=by rw[fQ,dc];exact dD fun x hx=>η.jJ n k x (h.2.2 x hx).1
 simp only[ρ.av,exp,bn,ga h.2.1,this]
theorem ρ.tm(p:ρ):ν p.av=p.av:=by
 have:cL (p.ix.map η.av)=p.ix.map η.av:=by rw[fM,dc];exact dD fun x _=>η.tm x
 simp only[ρ.av,ν,cL,this]
theorem aaV(n:Nat)(k:Bool)(a b:List AV):bn n k (a++b)=bn n k a++bn n k b:=by simp[fQ]
theorem af'(a b:List AV):cL (a++b)=cL a++cL b:=by simp[fM]
theorem δ.SL(n:Nat)(k:Bool)(x:δ):x.Ok->bn n k x.cells=x.cells:=by
 refine δ.kR (Q:=fun x=>x.Ok->bn n k x.cells=x.cells) (fun kk g nm cp pl size to cb body ce els h1 h2 h=>?_) x;simp only[δ.Ok]at h;obtain⟨-,k1,k2,k3,k4,k5,k6,k7,k8⟩:=h;have e1:bn n k (pl.map ρ.av)=pl.map ρ.av:=by rw[fQ,dc];exact dD fun x hx=>ρ.jJ n k x (k2 x hx)
 have go:∀l:List δ,δ.da l->(∀y∈l,y.Ok->bn n k y.cells=y.cells)->bn n k (δ.ψ l)=δ.ψ l:=by intro l hl hy;rw[fQ,δ.eM,dc];refine dD fun y hm=>?_;simp only[Function.comp,δ.av,exp,hy y hm (δ.jE hl y hm)]
 simp only[δ.cells,aaV,bn,exp,ga k1,ga k5,ga k7,e1,η.SN _ _ _ k3.1,η.SN _ _ _ k4.1,go body k6 h1,go els k8 h2]
theorem δ.jJ(n:Nat)(k:Bool)(x:δ)(h:x.Ok):exp n k x.av=x.av:=by simp only[δ.av,exp,δ.SL n k x h]
theorem δ.FW(n:Nat)(k:Bool)(l:List δ)(h:δ.da l):bn n k (δ.ψ l)=δ.ψ l:=by rw[fQ,δ.eM,dc];exact dD fun x hx=>δ.jJ n k x (δ.jE h x hx)
theorem δ.zx(x:δ):cL x.cells=x.cells:=by
 refine δ.kR (Q:=fun x=>cL x.cells=x.cells) (fun kk g nm cp pl size to cb body ce els h1 h2=>?_) x;have e1:cL (pl.map ρ.av)=pl.map ρ.av:=by rw[fM,dc];exact dD fun x hx=>ρ.tm x
 have go:∀l:List δ,(∀y∈l,cL y.cells=y.cells)->cL (δ.ψ l)=δ.ψ l:=by intro l hy;rw[fM,δ.eM,dc];refine dD fun y hm=>?_;simp only[Function.comp,δ.av,ν,hy y hm]
 simp only[δ.cells,af',cL,ν,e1,η.Wx,go body h1,go els h2]
theorem φ.jJ(n:Nat)(k:Bool)(p:φ)(h:p.Ok):exp n k p.av=p.av:=by
 obtain⟨-,k1,k2,k3,k4,-⟩:=h;have e1:bn n k (p.aq.map ay.av)=p.aq.map ay.av:=by rw[fQ,dc];exact dD fun x _=>rfl
 simp only[φ.av,exp,bn,ga k1,ga k3,e1,δ.FW _ _ _ k4]
theorem η.fR(x:η):x.four.length=4:=by cases x;rfl
theorem δ.mw(x:δ):x.cells.length=14:=by cases x;simp[δ.cells,η.fR]
def fq:List (List Nat):=[[120],[121],[122],[104],[115],[115,100],[116],[116,100],[99,120],[99,122],[115,119,97,112],[99,99,120]]
def uz:List (List Nat):=[[112,114,111,99],[116,97,107,101],[100,114,111,112],[98,111,114,114,111,119],[109,101,97,115,117,114,101],[114,101,115,101,116],[105,102],[101,108,115,101],[102,111,114],[117,110,100,111],[119,105,116,104,105,110],[97,112,112,108,121]]
def rY(s:List Nat):Bool:=s.all fun b=>decide (97<=b)&&decide (b<=122)
def c_(s:List Nat):Bool:=decide (0<s.length)&&decide (s.length<=8)&&rY s&& !fq.contains s&& !uz.contains s
mutual
def η.part(may:List Nat->Bool)(no:Int):η->Int
 | .mk k n s _ l=>if kW k n l.length≠0 then kW k n l.length else if k=2/\may s=false then no else η.parts may no l
def η.parts(may:List Nat->Bool)(no:Int):List η->Int
 |[]=>0
 |x::l=>if x.part may no≠0 then x.part may no else η.parts may no l
end
def η.err(may:List Nat->Bool)(no:Int)(x:η):Int:=if 9<x.cnt then 2 else x.part may no
inductive rh
 |none
 |j_ (cz:Bool)
 |bit
 |dR
 deriving DecidableEq
abbrev b_:=List Nat->rh
def rh.zm:rh->Bool
 | .j_ _=>true
 |_=>false
def iT(L:b_)(s:List Nat):Bool:=decide (L s= .dR)
def jo(L:b_)(p:ρ):Int:=if(L p.name).zm=false then 1 else if 2<p.ix.length then 2 else first (η.err (iT L) 1) p.ix
def fC(L:b_)(s:List Nat):Int:=if c_ s=false then 4 else if L s≠ .none then 5 else 0
def fL(g:Int):Nat:=if g<=8 then 1 else if g<=11 then 2 else 3
def p8(ps:List φ)(s:List Nat):Option Nat:=ps.findIdx? fun p=>p.name==s
def d_(ps:List φ)(own:Nat)(L:b_):δ->Int
 | .mk k g nm _ pl size to _ _ _ _=>
  if k=1 then(if g<1\/12<g then 3 else if pl.length≠fL g then 2 else first (jo L) pl)
  else if k=2\/k=4 then(if fC L nm≠0 then fC L nm else size.err (iT L) 1)
  else if k=8 then(if fC L nm≠0 then fC L nm else if size.err (iT L) 1≠0 then size.err (iT L) 1 else to.err (iT L) 1)
  else if k=3 then(match L nm with
   | .j_ true=>0
   | .j_ false=>7
   |_=>1)
  else if k=5 then(match pl with
   |[p]=>if jo L p≠0 then jo L p else if L nm= .bit then 0 else fC L nm
   |_=>2)
  else if k=6 then(match pl with
   |[p]=>jo L p
   |_=>2)
  else if k=7 then(if L nm= .bit then 0 else 1)
  else if k=9 then(match p8 ps nm with
   |none=>1
   |some n=>if own<=n then 15 else match ps[n]? with
    |some q=>if pl.length≠q.aq.length then 2 else first (jo L) pl
    |none=>1)
  else if k=10\/k=11 then 0 else 3
def aS(k:Int):Bool:=decide (k=4\/k=8\/k=10\/k=7\/k=11)
def bh(k:Int):Bool:=decide (k=7\/k=11)
mutual
def δ.cnt:δ->Nat
 | .mk k _ _ _ _ _ _ _ body _ els=>1+(if aS k then δ.bO body else 0)+(if bh k then δ.bO els else 0)
def δ.bO:List δ->Nat
 |[]=>0
 |s::l=>s.cnt+δ.bO l
end
mutual
def δ.deep:δ->Nat
 | .mk k _ _ _ _ _ _ _ body _ els=>1+max (if aS k then δ.dx body else 0) (if bh k then δ.dx els else 0)
def δ.dx:List δ->Nat
 |[]=>0
 |s::l=>max s.deep (δ.dx l)
end
def ρ.wt(p:ρ):Nat:=1+η.bO p.ix
def fe:List ρ->Nat
 |[]=>0
 |p::l=>p.wt+fe l
mutual
def δ.wt:δ->Nat
 | .mk _ _ _ _ pl size to _ body _ els=>1+fe pl+size.cnt+to.cnt+δ.bX body+δ.bX els
def δ.bX:List δ->Nat
 |[]=>0
 |s::l=>s.wt+δ.bX l
end
def φ.wt(p:φ):Nat:=1+p.aq.length+δ.bX p.body
def jq:List φ->Nat
 |[]=>0
 |p::l=>p.wt+jq l
theorem ρ.uU{l:List ρ}{x:ρ}(h:x∈l):x.wt<=fe l:=by
 induction l with
 |nil=>cases h
 |cons a l ih=>
  simp only[fe]
  rcases cw.1 h with rfl|h
  ·omega
  ·have:=ih h;omega
theorem ahN(l:List ρ):l.length<=fe l:=by
 induction l with
 |nil=>simp
 |cons a l ih=>simp only[cE,fe,ρ.wt];omega
theorem δ.uU{l:List δ}{x:δ}(h:x∈l):x.wt<=δ.bX l:=by
 induction l with
 |nil=>cases h
 |cons a l ih=>
  simp only[δ.bX]
  rcases cw.1 h with rfl|h
  ·omega
  ·have:=ih h;omega
theorem δ.JM(x:δ):3+δ.bX x.body+δ.bX x.els<=x.wt:=by obtain⟨k,g,nm,cp,pl,size,to,cb,body,ce,els⟩:=x;have h1:=η.K_ size;have h2:=η.K_ to;simp only[δ.wt,δ.body,δ.els];omega
theorem δ.ET(l:List δ):l.length<=δ.bX l:=by
 induction l with
 |nil=>simp
 |cons a l ih=>have:=δ.JM a;simp only[cE,δ.bX];omega
theorem W3(l:List φ):l.length<=jq l:=by
 induction l with
 |nil=>simp
 |cons a l ih=>simp only[cE,jq,φ.wt];omega
theorem φ.uU{l:List φ}{x:φ}(h:x∈l):x.wt<=jq l:=by
 induction l with
 |nil=>cases h
 |cons a l ih=>
  simp only[jq]
  rcases cw.1 h with rfl|h
  ·omega
  ·have:=ih h;omega
def b_.put(L:b_)(s:List Nat)(w:rh):b_:=fun t=>if t=s then w else L t
def b_.inner(L:b_):b_:=fun t=>match L t with
 | .j_ _=> .j_ false
 |w=>w
def inside(L:b_)(k:Int)(nm:List Nat):b_:=if k=4 then L.inner.put nm (.j_ false)else if k=8 then L.inner.put nm .dR else L.inner
def after(L:b_)(k:Int)(nm:List Nat):b_:=if k=2 then L.put nm (.j_ true)else if k=3 then L.put nm .none else if k=5 then L.put nm .bit else L
def δ.kind:δ->Int
 | .mk k _ _ _ _ _ _ _ _ _ _=>k
def δ.name:δ->List Nat
 | .mk _ _ nm _ _ _ _ _ _ _ _=>nm
mutual
def gn(ps:List φ)(own:Nat):List δ->b_->Int
 |[],_=>0
 |s::l,L=>if d_ ps own L s≠0 then d_ ps own L s else if lA ps own s L≠0 then lA ps own s L else gn ps own l (after L s.kind s.name)
def lA(ps:List φ)(own:Nat):δ->b_->Int
 | .mk k _ nm _ _ _ _ _ body _ els,L=>if aS k then(if gn ps own body (inside L k nm)≠0 then gn ps own body (inside L k nm)else if bh k then gn ps own els (inside L k nm)else 0)else 0
end
def qQ:List ay->b_->Int
 |[],_=>0
 |x::l,L=>if c_ x.name=false then 4 else if x.size<1\/12<x.size then 3 else if L x.name≠ .none then 5 else qQ l (L.put x.name (.j_ false))
def qR:List ay->b_->b_
 |[],L=>L
 |x::l,L=>qR l (L.put x.name (.j_ false))
def o6:b_:=fun _=> .none
def sg(ps:List φ)(own:Nat)(x:φ):Int:=
 if c_ x.name=false then 4
 else if(ps.take own).any (fun p=>p.name==x.name)then 5
 else if 4<x.aq.length then 2
 else if qQ x.aq o6≠0 then qQ x.aq o6
 else if 120<δ.bO x.body then 2
 else if 6<δ.dx x.body then 11
 else gn ps own x.body (qR x.aq o6)
def tv(ps:List φ):Nat->List φ->Int
 |_,[]=>0
 |k,x::l=>if sg ps k x≠0 then sg ps k x else tv ps (k+1) l
def mW(ps:List φ):Int:=if ps.length<1\/12<ps.length then 2 else tv ps 0 ps
end Go.Δ
namespace Go.Δ.Tz
open Go.Δ
variable{u:Nat}
def Al:List (List Nat):=uz++fq
def vl(s:List Nat):Bool:=Al.contains s
attribute [local simp] exec dT dG eR aH dr ff eH aI fA bQ gX ib iC iL AV.cells newVar iH rd wr gL single dd cA eU ef κ cH RV.get cJ fF jU
structure cY where
 name:List Nat
 w:Int
 d:Int
def cY.av(x:cY):AV:= .agg [.str x.name,.n x.w,.n x.d]
theorem qn(bs:List θ)(n:Nat)(a:List Nat):aK bs n 8 (.str a)= .str a:=rfl
def jb:List cY->List Nat->cY
 |[],_=>⟨[],0,0⟩
 |x::l,s=>if x.name=s then x else jb l s
def Ej(ps:List φ)(s:List Nat):Int:=match p8 ps s with
 |none=> -1
 |some i=>i
theorem uP(l:List δ):(δ.ψ l).length=l.length:=by rw[δ.eM];simp
theorem Jt(l:List δ)(i:Nat)(h:i<l.length):(δ.ψ l)[i]'(by rw[uP];exact h)=l[i].av:=by simp[δ.eM]
theorem aaw(l:List δ)(i:Nat)(h:i<l.length):δ.dx (l.take (i+1))=max (δ.dx (l.take i)) l[i].deep:=by
 induction l generalizing i with
 |nil=>simp at h
 |cons a l ih=>
  cases i with
  |zero=>simp[δ.dx]
  |succ i=>simp only[sv,δ.dx,qY,ih i (by simpa using h),Nat.max_assoc]
theorem δ.Z_(x:δ):x.cnt<=x.wt/\x.deep<=x.wt:=by
 refine δ.kR (Q:=fun x=>x.cnt<=x.wt/\x.deep<=x.wt) (fun k g nm cp pl size to cb body ce els h1 h2=>?_) x;have go:∀l:List δ,(∀y∈l,y.cnt<=y.wt/\y.deep<=y.wt)->δ.bO l<=δ.bX l/\δ.dx l<=δ.bX l:=by
  intro l hl;induction l with
  |nil=>simp[δ.bO,δ.dx]
  |cons a l ih=>
   have:=ih fun y hy=>hl y (by simp[hy])
   have ha:=hl a (by simp);simp only[δ.bO,δ.dx,δ.bX];omega
 have a1:=go body h1;have a2:=go els h2;simp only[δ.cnt,δ.deep,δ.wt];split<;>split<;>omega
theorem δ.Lb(l:List δ):δ.bO l<=δ.bX l/\δ.dx l<=δ.bX l:=by
 induction l with
 |nil=>simp[δ.bO,δ.dx]
 |cons a l ih=>have:=δ.Z_ a;simp only[δ.bO,δ.dx,δ.bX];omega
theorem aku(l:List δ)(i:Nat):δ.bX (l.take i)<=δ.bX l:=by
 induction l generalizing i with
 |nil=>simp
 |cons a l ih=>cases i with
  |zero=>simp[δ.bX]
  |succ i=>have:=ih i;simp only[sv,δ.bX];omega
theorem ru{n:Nat}{k:Bool}{c:ξ}(hc:br c){l:List δ}(h:δ.da l):exp n k (.list c (δ.ψ l))= .list c (δ.ψ l):=by simp only[exp,ga hc,δ.FW _ _ _ h]
theorem δ.O_{x:δ}(h:x.Ok):δ.da x.body/\δ.da x.els:=by obtain⟨k,g,nm,cp,pl,size,to,cb,body,ce,els⟩:=x;simp only[δ.Ok]at h;exact⟨h.2.2.2.2.2.2.1,h.2.2.2.2.2.2.2.2⟩
theorem QM(s:List Nat)(i:Nat)(hi:i<s.length)(h:s[i]<256):((⟨(s.map UInt8.ofNat).toArray⟩:ByteArray).get! i).toNat=s[i]:=by simp[ByteArray.get!,hi];omega
theorem Sq{s:List Nat}{i:Nat}(hi:i<s.length)(h:s[i]<128):Utf8.decode ⟨(s.map UInt8.ofNat).toArray⟩ i=(s[i],1):=by have h0:=QM s i hi (by omega);simp only[Utf8.decode,qd,h0];simp[h]
theorem aas{s:List Nat}{i:Nat}(hi:i<s.length)(h1:s[i]<256)(h:128<=s[i]):128<=(Utf8.decode ⟨(s.map UInt8.ofNat).toArray⟩ i).1:=by
 have h0:=QM s i hi h1;simp only[Utf8.decode,qd,h0];have:¬s[i]<128:=by omega
 simp only[this,if_false]
 (repeat' split)<;>simp_all [Utf8.runeError]<;>omega
theorem f178(s:List Nat)(hs:cV s)(m:Mem):kf u 178 [.str s] m=some (.bool (rY s),m):=by
 refine eN (g:=Gn) rfl rfl rfl ?_;simp only[aA,aP,exp,Gn,Q0];let K:St->Prop:=fun st=>st.mem= {ε:=m.ε,ζ:=[]};refine Θ (fun st=>K st/\st.e 0= .str s) (by simp[K]) fun s1 ⟨h1,h2⟩=>?_;refine bP (fun st=>K st/\rY s=true) ?_ fun s2 ⟨h1,h2⟩=>?_
 ·let I:Nat->St->Prop:=fun i st=>K st/\(∃v,st.e 6= .aj 6 v 0/\st.q 6=some (v,.iter s i))/\∀j (hj:j<s.length),j<i->97<=s[j]/\s[j]<=122;refine Θ (I 0) (by simp[I,K,h1,h2]) fun s4 hI=>?_;refine κ.block (κ.loop (I:=I) s.length hI fun i st hi Ω=>?_);obtain⟨h1,⟨v,q1,q2⟩,q3⟩:=Ω;rcases cX i s.length with χ|du
  ·have hb:s[i]<256:=hs _ (df χ);by_cases a0:s[i]<128
   ·have hd:=Sq χ a0;by_cases a1:97<=s[i]/\s[i]<=122
    ·left;refine⟨χ,?_⟩;have a2:¬(s[i]:Int)<97:=by omega
     have a3:¬(122:Int)<s[i]:=by omega
     simp[I,K,Bn,h1,q1,q2,χ,hd,a2,a3];exact fun j hj oO=>by
      rcases cX j i with h|h
      ·exact q3 j hj h
      ·have:j=i:=by omega
       subst this;exact a1
    ·right;have hn:rY s=false:=by simp only[rY,al_];exact⟨s[i],df χ,by simp;omega⟩
     by_cases a2:(s[i]:Int)<97
     ·simp[Bn,K,h1,q1,q2,χ,hd,a2,hn]<;>exact h1
     ·have a3:(122:Int)<s[i]:=by omega
      simp[Bn,K,h1,q1,q2,χ,hd,a2,a3,hn]<;>exact h1
   ·right;have hd:=aas χ hb (by omega);have hn:rY s=false:=by simp only[rY,al_];exact⟨s[i],df χ,by simp;omega⟩
    have a2:¬((Utf8.decode ⟨(s.map UInt8.ofNat).toArray⟩ i).1:Int)<97:=by omega
    have a3:(122:Int)<(Utf8.decode ⟨(s.map UInt8.ofNat).toArray⟩ i).1:=by omega
    simp[Bn,K,h1,q1,q2,χ,a2,a3,hn]<;>exact h1
  ·right;have:i=s.length:=by omega
   subst this;have hy:rY s=true:=by simp only[rY,List.all_eq_true];intro b hb;obtain⟨j,hj,rfl⟩:=List.getElem_of_mem hb;have:=q3 j hj hj;simp;omega
   simp[Bn,K,h1,q1,q2,hy]<;>exact h1
 ·have kr:s2.mem= {ε:=m.ε,ζ:=[]}:=h1;simp[h2,kr]
theorem f65(cn:ξ)(mD:br cn)(ss:List (List Nat))(t:List Nat)(hlen:ss.length<1000000000000)(m:Mem):kf u 65 [aX cn ss,.str t] m=some (.bool (ss.contains t),m):=by
 have e:=f85 (u:=u) cn mD ss t hlen;refine eN (g:=Hi) rfl rfl rfl ?_;simp only[aA,aP,wN mD,exp,Hi,RP];cases hf:ss.findIdx? (fun x=>x==t)with
 |none=>
  have hc:ss.contains t=false:=by
   rw[wv]at hf;cases h:ss.contains t with
   |false=>rfl
   |true=>
    rw[xW]at h
    have:=hf t h;simp at this
  rw[hc];simp[e,placeOf,hf]
 |some i=>
  have hc:ss.contains t=true:=by
   rw[tK]at hf;obtain⟨h1,h2,_⟩:=hf;rw[xW];have:ss[i]=t:=by simpa using h2
   rw[<-this];exact df h1
  have:(0:Int)<=(i:Int):=by omega
  rw[hc];simp[e,placeOf,hf,this]
theorem AR:(C u).gl 0= .ref [aX .any fq]:=by rfl
theorem Hm:(C u).gl 1= .ref [aX .any uz]:=by rfl
theorem f113(s:List Nat)(hs:cV s)(m:Mem):kf u 113 [.str s] m=some (.bool (c_ s),m):=by
 have e1:=f178 (u:=u) s hs;have e2:=f65 (u:=u) .any (.inr rfl) fq s (by decide);have e3:=f65 (u:=u) .any (.inr rfl) uz s (by decide);refine eN (g:=F9) rfl rfl rfl ?_;simp only[aA,aP,exp,F9,QR];unfold c_;generalize fq.contains s=bg at*;generalize uz.contains s=bk at*;by_cases a1:0<s.length
 ·by_cases a2:s.length<=8
  ·have Ak:(0:Int)<(s.length:Int):=by omega
   have E9:(s.length:Int)<=8:=by omega
   cases a3:rY s with
   |false=>simp[e1,e2,e3,AR,Hm,a1,a2,Ak,E9,a3]
   |true=>cases bg<;>simp[e1,e2,e3,AR,Hm,a1,a2,Ak,E9,a3]
  ·have Ak:(0:Int)<(s.length:Int):=by omega
   have E9:¬(s.length:Int)<=8:=by omega
   simp[e1,e2,e3,AR,Hm,a1,a2,Ak,E9]
 ·have Ak:¬(0:Int)<(s.length:Int):=by omega
  simp[e1,e2,e3,AR,Hm,a1,Ak]
theorem ahz(may:List Nat->Bool)(no:Int)(l:List η):η.parts may no l=first (η.part may no) l:=by
 induction l with
 |nil=>rfl
 |cons a l ih=>simp only[η.parts,first,ih]
theorem FW{n:Nat}{k:Bool}{c:ξ}(hc:br c){l:List η}(h:η.da l):exp n k (.list c (η.ψ l))= .list c (η.ψ l):=by
 have:bn n k (η.ψ l)=η.ψ l:=by rw[fQ,η.eM,dc];exact dD fun x hx=>η.jJ n k x (η.jE h x hx)
 simp only[exp,ga hc,this]
theorem ajN{l:List η}(h:η.Strs l):∀x∈l,x.rb:=by
 induction l with
 |nil=>intro x hx;cases hx
 |cons a l ih=>
  intro x hx
  rcases cw.1 hx with rfl|hx
  ·exact h.1
  ·exact ih h.2 x hx
def Fix(n:Nat)(fv:AV):Prop:=∀k b,n<=k->exp k b fv=fv
def lD(u:Nat)(B:List θ)(fv:AV)(args:List AV)(r:AV):Prop:=∀ext T,ah (C u) fv args {ε:=B++ext,ζ:=T}=some (r,{ε:=B++ext,ζ:=T})
theorem f177{B:List θ}{fv:AV}{F:η->Int}(hf:Fix B.length fv)(c:ξ)(hc:br c)(l:List η)(hl:η.da l)(hlen:l.length<1000000000000)
  (h:∀x∈l,lD u B fv [x.av] (.n (F x))):lD u B (.fn (.func 177) [] []) [.list c (η.ψ l),fv] (.n (first F l)):=by
 intro ext T;refine eN (g:=Gm) rfl rfl rfl ?_;simp only[aA,aP,FW hc hl,hf _ false (show B.length<=(B++ext).length by simp),Gm,QZ];let K:St->Prop:=fun st=>st.e 1=fv/\st.mem= {ε:=B++ext,ζ:=[]};refine Θ (fun st=>K st/\st.e 0= .list c (η.ψ l)) (by simp[K]) fun s1 ⟨⟨h1,h2⟩,h3⟩=>?_;refine bP (fun st=>K st/\first F l=0) ?_ fun s2 ⟨⟨h1,h2⟩,h3⟩=>?_
 ·let I:Nat->St->Prop:=fun i st=>K st/\st.e 8= .list c (η.ψ l)/\st.e 9= .n l.length/\st.e 10= .n i/\∀j (hj:j<l.length),j<i->F l[j]=0;refine Θ (I 0) (by simp[I,K,h1,h2,h3,ri]) fun s4 hI=>?_;refine κ.block (κ.loop (I:=I) l.length hI fun i st hi Ω=>?_);obtain⟨⟨h1,h2⟩,q1,q2,q3,q4⟩:=Ω;rcases cX i l.length with χ|du
  ·have hw:bC .i64 ((i:Int)+1)=(i:Int)+1:=wrap_i64 (by omega) (by omega);have hg:=Fg l i χ;have hx:=h _ (df χ) ext [];by_cases hz:F l[i]=0
   ·left;refine⟨χ,?_⟩;rw[hz]at hx;have q5:=Ch (P:=fun j=>∀hj:j<l.length,F l[j]=0) (n:=l.length) (fun j a b c=>q4 j c b) (fun _=>hz);generalize l[i]=y at hg hx;obtain⟨k',n',s',c2,l'⟩:=y;simp only[η.av]at hg hx;simp[I,K,Iz,h1,h2,q1,q2,q3,χ,hg,hx,hw,ri];exact fun j hj oO=>q5 j hj oO hj
   ·right;have rJ:=LM χ q4 hz;rw[rJ];have e1:=bne_true hz;generalize l[i]=y at hg hx hz e1;obtain⟨k',n',s',c2,l'⟩:=y;simp only[η.av]at hg hx;simp[K,Iz,h1,h2,q1,q2,q3,χ,hg,hx,e1,ri]
  ·right;have:i=l.length:=by omega
   subst this;have hz:=F0 (f:=F) fun j hj=>q4 j hj hj;simp[K,Iz,h1,h2,q1,q2,q3,hz]
 ·simp[h1,h2,h3]
def mJ(B:List θ)(mc:AV)(no:Int):List θ:=B++[.cells [mc],.cells [.n no],.cells [.fn (.func 175) [] [.μ B.length 0,.μ (B.length+1) 0,.μ (B.length+2) 0]]]
theorem Vw(B:List θ)(mc:AV)(no:Int):(mJ B mc no).length=B.length+3:=by simp[mJ]
theorem f175(B:List θ)(mc:AV)(no:Int)(may:List Nat->Bool)(Nu:∀s,cV s->lD u B mc [.str s] (.bool (may s)))(x:η):x.Ok->x.rb->x.cnt<1000000000000→
  lD u (mJ B mc no) (.fn (.func 175) [] [.μ B.length 0,.μ (B.length+1) 0,.μ (B.length+2) 0]) [x.av] (.n (x.part may no)):=by
 refine η.kR (Q:=fun x=>x.Ok->x.rb->x.cnt<1000000000000->lD u (mJ B mc no) (.fn (.func 175) [] [.μ B.length 0,.μ (B.length+1) 0,.μ (B.length+2) 0]) [x.av] (.n (x.part may no))) (fun k n s c l ih ai qE oI=>?_) x;intro ext T;simp only[η.rb]at qE;simp only[η.cnt]at oI;have vC:=η.La l;have hlen:(mJ B mc no++ext).length=B.length+3+ext.length:=by simp[Vw]
 have a0:B.length<B.length+3+ext.length:=by omega
 have a1:B.length+1<B.length+3+ext.length:=by omega
 have a2:B.length+2<B.length+3+ext.length:=by omega
 have d0:(mJ B mc no++ext)[B.length]?=some (.cells [mc]):=by simp[mJ]
 have d1:(mJ B mc no++ext)[B.length+1]?=some (.cells [.n no]):=by simp[mJ]
 have d2:(mJ B mc no++ext)[B.length+2]?=some (.cells [.fn (.func 175) [] [.μ B.length 0,.μ (B.length+1) 0,.μ (B.length+2) 0]]):=by simp[mJ]
 have ej:=fun m=>f176 (u:=u) k n s c l m ai;have hm:=Nu s qE.1 ([.cells [mc],.cells [.n no],.cells [.fn (.func 175) [] [.μ B.length 0,.μ (B.length+1) 0,.μ (B.length+2) 0]]]++ext) [];have lM:ah (C u) mc [.str s] {ε:=mJ B mc no++ext,ζ:=[]}=some (.bool (may s),{ε:=mJ B mc no++ext,ζ:=[]}):=by simpa[mJ]using hm
 have sQ:Fix (mJ B mc no).length (.fn (.func 175) [] [.μ B.length 0,.μ (B.length+1) 0,.μ (B.length+2) 0]):=by intro kk b hk;rw[Vw]at hk;simp[exp,bn,Fn.below];omega
 have yR:=f177 (u:=u) sQ c ai.1 l ai.2 (by omega) (fun y hy=>ih y hy (η.jE ai.2 y hy) (ajN qE.2 y hy) (by have:=η.KZ hy;omega)) ext [];rw[<-ahz]at yR;refine sD (g:=Gl) rfl rfl rfl ?_;have eJ:([]++[(η.mk k n s c l).av]++[AV.μ B.length 0,.μ (B.length+1) 0,.μ (B.length+2) 0]).map (exp (mJ B mc no++ext).length false)=[(η.mk k n s c l).av,AV.μ B.length 0,.μ (B.length+1) 0,.μ (B.length+2) 0]:=by simp only[List.nil_append,List.cons_append,aA,aP,η.jJ _ _ _ ai,exp,hlen,a0,a1,a2,if_true]
 rw[eJ];simp only[Gl,c175,η.part];simp only[η.av]at ej⊢;generalize mJ B mc no++ext=BB at*;by_cases kO:kW k n l.length=0
 ·rw[kO]at ej;by_cases gE:k=2
  ·subst gE;cases mG:may s with
   |true=>
    rw[mG]at lM
    simp[ej,d0,d1,d2,lM,yR,kO]
   |false=>
    rw[mG]at lM
    simp[ej,d0,d1,d2,lM,yR,kO]
  ·simp[ej,d0,d1,d2,lM,yR,kO,gE,gi gE]
 ·simp[ej,d0,d1,d2,lM,yR,kO,bne_true kO]
theorem f112{B:List θ}{F:Fn}{fa fc:List AV}{may:List Nat->Bool}(no:Int)(sQ:Fix B.length (.fn F fa fc))(pR:fa.map ν=fa)(nf:fc.map ν=fc)(Nu:∀s,cV s->lD u B (.fn F fa fc) [.str s] (.bool (may s)))(x:η)(ai:x.Ok)(qE:x.rb)(oI:x.cnt<1000000000000):
  lD u B (.fn (.func 112) [] []) [x.av,.fn F fa fc,.n no] (.n (x.err may no)):=by
 intro ext T;have aJ:=fun m=>f117 (u:=u) x ai oI m;have acs:∀s,cV s->lD u (B++ext) (.fn F fa fc) [.str s] (.bool (may s)):=fun s hs e t=>by have:=Nu s hs (ext++e) t;rwa[<-List.append_assoc]at this
 have dz:=f175 (u:=u) (B++ext) (.fn F fa fc) no may acs x ai qE oI [] [];refine eN (g:=F8) rfl rfl rfl ?_;simp only[aA,aP,η.jJ _ _ _ ai,sQ _ false (show B.length<=(B++ext).length by simp)];simp only[exp,F8,QQ];generalize B++ext=BB at*;obtain⟨k,n,s,c,l⟩:=x;simp only[η.av]at aJ dz⊢;by_cases h9:9<(η.mk k n s c l).cnt
 ·have Mj:(9:Int)<((η.mk k n s c l).cnt:Int):=by omega
  simp[aJ,Mem.push,Mem.ν,ν,fM,pR,nf,η.err,h9,Mj]
 ·have Mj:¬(9:Int)<((η.mk k n s c l).cnt:Int):=by omega
  simp only[mJ,List.append_nil]at dz;simp[aJ,Mem.push,Mem.ν,ν,fM,cL,pR,nf,η.err,h9,Mj,Mem.put,bo,lo,Fn.below,dz]
end Go.Δ.Tz
