import Derived.Test.YtiigojkfojnedaaGreatDoorPZg
set_option linter.unusedVariables false
set_option linter.unusedSimpArgs false
open List renaming mem_cons->dX,map_map->di,map_congr_left->dz,map_cons->ah,map_nil->aw,take_succ_cons->pK,getElem_mem->cz
open Go.IntKind renaming wrap->aT
namespace Go.ab
inductive ζ
 |mk (k n:Int) (s:List Nat) (c:Γ) (l:List ζ)
mutual
def ζ.av:ζ->AV
 | .mk k n s c l=> .agg [.int .i64 k,.int .i64 n,.str s,.list c (ζ.ψ l)]
def ζ.ψ:List ζ->List AV
 |[]=>[]
 |x::l=>x.av::ζ.ψ l
end
theorem ζ.dZ(l:List ζ):ζ.ψ l=l.map ζ.av:=by
 induction l with
 |nil=>rfl
 |cons a l ih=>simp[ζ.ψ,ih]
mutual
def ζ.cnt:ζ->Nat
 | .mk _ _ _ _ l=>1+ζ.aU l
def ζ.aU:List ζ->Nat
 |[]=>0
 |x::l=>x.cnt+ζ.aU l
end
theorem ζ.Jg(x:ζ):0<x.cnt:=by cases x;simp[ζ.cnt];omega
theorem ζ.zo(l:List ζ):l.length<=ζ.aU l:=by
 induction l with
 |nil=>simp
 |cons a l ih=>have:=ζ.Jg a;simp only[List.length_cons,ζ.aU];omega
theorem ζ.vG{l:List ζ}{x:ζ}(h:x∈l):x.cnt<=ζ.aU l:=by
 induction l with
 |nil=>cases h
 |cons a l ih=>
  simp only[ζ.aU]
  rcases dX.1 h with rfl|h
  ·omega
  ·have:=ih h;omega
theorem ζ.iB{Q:ζ->Prop}(h:∀k n s c l,(∀y∈l,Q y)->Q (.mk k n s c l))(x:ζ):Q x:=
 ζ.rec (motive_1:=Q) (motive_2:=fun l=>∀y∈l,Q y) (fun k n s c l ih=>h k n s c l ih) (fun y hy=>(by cases hy))
  (fun x l hx hl y hy=>(by
   rcases dX.1 hy with rfl|hy
   ·exact hx
   ·exact hl y hy)) x
def gy(k n:Int)(m:Nat):Int:=
 if k<1\/5<k\/(k=1/\(n<0\/99<n))then 3
 else if(3<=k/\m≠2)\/(k<3/\m≠0)then 2 else 0
def Mh(n:Int):Int×Int:=if n< -1000000000\/1000000000<n then(0,8)else(n,0)
def comb(names:List (List Nat))(tQ:List Int)(k n:Int)(s:List Nat)(rs:List (Int×Int)):Int×Int:=
 if k=2 then
  match names.findIdx? (fun x=>x==s)with
  |none=>(0,1)
  |some i=>Mh (tQ.getD i 0)
 else if 3<=k then
  match rs with
  |[(a,ea),(b,eb)]=>if ea≠0 then(0,ea)else if eb≠0 then(0,eb)else Mh (if k=3 then a+b else if k=4 then a-b else a*b)
  |_=>(0,0)
 else Mh n
mutual
def ζ.val(names:List (List Nat))(tQ:List Int):ζ->Int×Int
 | .mk k n s _ l=>if gy k n l.length=0 then comb names tQ k n s (ζ.U0 names tQ l)else(0,gy k n l.length)
def ζ.U0(names:List (List Nat))(tQ:List Int):List ζ->List (Int×Int)
 |[]=>[]
 |x::l=>x.val names tQ::ζ.U0 names tQ l
end
def ζ.value(names:List (List Nat))(tQ:List Int)(x:ζ):Int×Int:=
 if 9<x.cnt then(0,2)else if names.length≠tQ.length then(0,7)else x.val names tQ
def aJ(c:Γ):Prop:=c= .nil\/c= .any
theorem fu{n:Nat}{k:Bool}{c:Γ}(h:aJ c):c.exp n k=c:=by rcases h with rfl|rfl<;>rfl
mutual
def ζ.Ok:ζ->Prop
 | .mk _ _ _ c l=>aJ c/\ζ.cW l
def ζ.cW:List ζ->Prop
 |[]=>True
 |x::l=>x.Ok/\ζ.cW l
end
theorem ζ.gb{l:List ζ}(h:ζ.cW l):∀x∈l,x.Ok:=by
 induction l with
 |nil=>intro x hx;cases hx
 |cons a l ih=>
  intro x hx
  rcases dX.1 hx with rfl|hx
  ·exact h.1
  ·exact ih h.2 x hx
theorem ζ.dH(n:Nat)(k:Bool)(x:ζ):x.Ok->exp n k x.av=x.av:=by
 refine ζ.iB (Q:=fun x=>x.Ok->exp n k x.av=x.av) (fun kk nn s c l ih h=>?_) x;simp only[ζ.Ok]at h;have hl:bn n k (ζ.ψ l)=ζ.ψ l:=by rw[fm,ζ.dZ,di];exact dz fun y hy=>ih y hy (ζ.gb h.2 y hy)
 simp only[ζ.av,exp,bn,fu h.1,hl]
theorem ζ.n_(x:ζ):ρ x.av=x.av:=by
 refine ζ.iB (Q:=fun x=>ρ x.av=x.av) (fun kk nn s c l ih=>?_) x;have hl:cL (ζ.ψ l)=ζ.ψ l:=by rw[fC,ζ.dZ,di];exact dz fun y hy=>ih y hy
 simp only[ζ.av,ρ,cL,hl]
theorem ζ.vK(bs:List θ)(n k:Nat)(x:ζ):x.Ok->ax bs n k x.av=x.av:=by
 refine ζ.iB (Q:=fun x=>x.Ok->ax bs n k x.av=x.av) (fun kk nn s c l ih h=>?_) x;simp only[ζ.Ok]at h;cases k with
 |zero=>exact ζ.dH n false _ (by simp only[ζ.Ok];exact h)
 |succ k=>
  have hl:(ζ.ψ l).map (ax bs n (k+1))=ζ.ψ l:=by rw[ζ.dZ,di];exact dz fun y hy=>ih y hy (ζ.gb h.2 y hy)
  simp only[ax]at hl;simp only[ζ.av,ax,cA,pc,pd,fu h.1,hl]
theorem wrap_i64{n:Int}(h1: -9223372036854775808<=n)(h2:n<9223372036854775808):aT .i64 n=n:=by
 show(if(true&&decide (n % 18446744073709551616≥9223372036854775808))=true then n % 18446744073709551616-18446744073709551616 else n % 18446744073709551616)=n;split
 ·rename_i h;simp at h;omega
 ·rename_i h;simp at h;omega
set_option maxRecDepth 100000
set_option maxHeartbeats 8000000
end Go.ab
namespace Go.ab.Tz
open Go.ab
variable{u:Nat}
theorem dU(bs:List θ)(n:Nat)(k:IntKind)(i:Int):ax bs n 8 (.int k i)= .int k i:=rfl
theorem jy(bs:List θ)(n:Nat)(b:Bool):ax bs n 8 (.bool b)= .bool b:=rfl
attribute [local simp] exec eG eu fz aF d_ fQ fe bq gN bT gF gS hU hZ AV.cells newVar hH rd wr gg single fy bF er dL
theorem f99(n lo hi:Int)(m:Mem):kf u 99 [.n n,.n lo,.n hi] m=some (.bool (decide (n<lo)||decide (n>hi)),m):=by
 refine bz (g:=GF) rfl rfl rfl ?_;by_cases h1:n<lo<;>by_cases h2:n>hi<;>
  simp[κ,GF,PC,exp,bf,RV.get,ba,jy,h1,h2]
theorem f181(k n:Int)(s:List Nat)(c:Γ)(l:List ζ)(m:Mem)(Θ:(ζ.mk k n s c l).Ok):
  kf u 181 [(ζ.mk k n s c l).av] m=some (.n (gy k n l.length),m):=by
 have hl:(ζ.ψ l).length=l.length:=by rw[ζ.dZ];simp
 refine bz (g:=pU) rfl rfl rfl ?_;simp only[ah,aw,ζ.dH _ _ _ Θ];by_cases h1:k<1
 ·simp[κ,pU,rV,ζ.av,f99,bf,RV.get,ba,dU,gy,h1]
 by_cases h2:k>5
 ·simp[κ,pU,rV,ζ.av,f99,bf,RV.get,ba,dU,gy,h1,h2]
 by_cases h3:k=1
 ·subst h3;by_cases h4:n<0
  ·simp[κ,pU,rV,ζ.av,f99,bf,RV.get,ba,dU,gy,h4]
  by_cases h5:n>99
  ·simp[κ,pU,rV,ζ.av,f99,bf,RV.get,ba,dU,gy,h4,h5]
  by_cases h8:l.length=0
  ·simp[κ,pU,rV,ζ.av,f99,bf,RV.get,ba,dU,gy,hl,h4,h5,h8]
  ·simp[κ,pU,rV,ζ.av,f99,bf,RV.get,ba,dU,gy,hl,h4,h5,h8]
 have gi:(k==1)=false:=by simpa using h3
 by_cases h6:k≥3
 ·have GH:¬k<3:=by omega
  have GI:¬k<=2:=by omega
  by_cases h7:l.length=2
  ·simp[κ,pU,rV,ζ.av,f99,bf,RV.get,ba,dU,gy,hl,h1,h2,h3,gi,h6,GH,GI,h7]
  ·have J9:((l.length:Int) !=2)=true:=by simp;omega
   simp[κ,pU,rV,ζ.av,f99,bf,RV.get,ba,dU,gy,hl,h1,h2,h3,gi,h6,h7,J9]
 ·have GH:k<3:=by omega
  have GI:k<=2:=by omega
  by_cases h8:l.length=0
  ·simp[κ,pU,rV,ζ.av,f99,bf,RV.get,ba,dU,gy,hl,h1,h2,h3,gi,h6,GH,GI,h8]
  ·simp[κ,pU,rV,ζ.av,f99,bf,RV.get,ba,dU,gy,hl,h1,h2,h3,gi,h6,GH,GI,h8]
theorem iX(l:List ζ):(ζ.ψ l).length=l.length:=by rw[ζ.dZ];simp
theorem tq(l:List ζ)(i:Nat)(h:i<l.length):(ζ.ψ l)[i]'(by rw[iX];exact h)=l[i].av:=by simp[ζ.dZ]
theorem PJ(l:List ζ)(i:Nat)(h:i<l.length):ζ.aU (l.take (i+1))=ζ.aU (l.take i)+l[i].cnt:=by
 induction l generalizing i with
 |nil=>simp at h
 |cons a l ih=>
  cases i with
  |zero=>simp[ζ.aU]
  |succ i=>
   have:=ih i (by simpa using h)
   simp only[pK,ζ.aU,List.getElem_cons_succ]at this⊢;omega
theorem Jh(l:List ζ)(i:Nat):ζ.aU (l.take i)<=ζ.aU l:=by
 induction l generalizing i with
 |nil=>simp
 |cons a l ih=>
  cases i with
  |zero=>simp[ζ.aU]
  |succ i=>have:=ih i;simp only[pK,ζ.aU];omega
theorem f117(x:ζ):x.Ok->x.cnt<1000000000000->∀m,kf u 117 [x.av] m=some (.n x.cnt,m):=by
 refine ζ.iB (Q:=fun x=>x.Ok->x.cnt<1000000000000->∀m,kf u 117 [x.av] m=some (.n x.cnt,m)) (fun k n s c l ih Θ hc m=>?_) x;refine bz (g:=EU) rfl rfl rfl ?_;simp only[ah,aw,ζ.dH _ _ _ Θ,EU,c117];simp only[ζ.cnt]at hc;refine χ (fun s1=>s1.e 1= .Ω 1 0 0/\s1.q 1=some (0,.cells [.n k,.n n,.str s,.list c (ζ.ψ l)])/\s1.mem= {ε:=m.ε,η:=[]}) (by simp[ζ.av,aQ]) fun s1 ⟨h1,h2,h3⟩=>?_;refine χ (fun s2=>s2.e 1= .Ω 1 0 0/\s2.q 1=some (0,.cells [.n k,.n n,.str s,.list c (ζ.ψ l)])/\s2.mem= {ε:=m.ε,η:=[]}/\s2.e 3= .n 1) (by simp[h1,h2,h3]) fun s2 ⟨h1,h2,h3,h4⟩=>?_;refine aZ (fun s3=>s3.mem= {ε:=m.ε,η:=[]}/\s3.e 3= .n ((1+ζ.aU l:Nat):Int)) ?_ fun s3 ⟨h3,h4⟩=>?_
 ·let I:Nat->St->Prop:=fun i st=>st.e 3= .n ((1+ζ.aU (l.take i):Nat):Int)/\st.e 7= .list c (ζ.ψ l)/\st.e 8= .n l.length/\st.e 9= .n i/\st.mem= {ε:=m.ε,η:=[]};refine χ (I 0) (by simp[I,h1,h2,h3,h4,iX,ζ.aU]) fun s4 hI=>?_;refine κ.block (κ.loop (I:=I) l.length hI fun i st hi τ=>?_);obtain⟨q1,q2,q3,q4,q5⟩:=τ;by_cases ν:i<l.length
  ·left;refine⟨ν,?_⟩;have hg:=tq l i ν;have ht:=PJ l i ν;have hle:=Jh l (i+1);have mQ:=ih l[i] (cz ν) (ζ.gb Θ.2 _ (cz ν)) (by have:=ζ.vG (cz ν);omega);generalize l[i]=y at hg ht mQ;obtain⟨k',n',s',c',l'⟩:=y;simp only[ζ.av]at hg mQ;have hw:aT .i64 (1+(ζ.aU (l.take i):Int)+((ζ.mk k' n' s' c' l').cnt:Int))=1+(ζ.aU (l.take i):Int)+((ζ.mk k' n' s' c' l').cnt:Int):=wrap_i64 (by omega) (by omega);have jE:aT .i64 ((i:Int)+1)=(i:Int)+1:=wrap_i64 (by omega) (by have:=ζ.zo l;omega);simp[I,LY,q1,q2,q3,q4,q5,ν,hg,mQ,hw,jE,ht,iX];omega
  ·right;have:i=l.length:=by omega
   subst this;simp[LY,q1,q2,q3,q4,q5]
 ·simp[κ,h3,h4,bf,RV.get,ba,dU,ζ.cnt]
theorem f115(x:ζ):x.Ok->x.cnt<1000000000000->∀m,kf u 115 [x.av] m=some (.n (min x.cnt 10:Nat),m):=by
 refine ζ.iB (Q:=fun x=>x.Ok->x.cnt<1000000000000->∀m,kf u 115 [x.av] m=some (.n (min x.cnt 10:Nat),m)) (fun k n s c l ih Θ hc m=>?_) x;refine bz (g:=ET) rfl rfl rfl ?_;simp only[ah,aw,ζ.dH _ _ _ Θ,ET,Oi];simp only[ζ.cnt]at hc;refine χ (fun s1=>s1.e 1= .Ω 1 0 0/\s1.q 1=some (0,.cells [.n k,.n n,.str s,.list c (ζ.ψ l)])/\s1.mem= {ε:=m.ε,η:=[]}) (by simp[ζ.av,aQ]) fun s1 ⟨h1,h2,h3⟩=>?_;refine χ (fun s2=>s2.e 1= .Ω 1 0 0/\s2.q 1=some (0,.cells [.n k,.n n,.str s,.list c (ζ.ψ l)])/\s2.mem= {ε:=m.ε,η:=[]}/\s2.e 3= .n 1) (by simp[h1,h2,h3]) fun s2 ⟨h1,h2,h3,h4⟩=>?_;refine aZ (fun s3=>s3.mem= {ε:=m.ε,η:=[]}/\∃N:Nat,s3.e 3= .n N/\min N 10=min (1+ζ.aU l) 10) ?_ fun s3 ⟨h3,N,h4,h5⟩=>?_
 ·let I:Nat->St->Prop:=fun i st=>st.e 1= .Ω 1 0 0/\st.q 1=some (0,.cells [.n k,.n n,.str s,.list c (ζ.ψ l)])∧
   (∃N:Nat,st.e 3= .n N/\N<=1+ζ.aU (l.take i)/\min N 10=min (1+ζ.aU (l.take i)) 10)/\st.e 4= .n i/\st.mem= {ε:=m.ε,η:=[]}
  refine χ (I 0) (by simp[I,h1,h2,h3,h4,ζ.aU];exact⟨1,by simp⟩) fun s4 hI=>?_;refine κ.block (κ.loop (I:=I) l.length hI fun i st hi τ=>?_);obtain⟨q0,q1,⟨N,q2,q3,q4⟩,q5,q6⟩:=τ;by_cases ν:i<l.length
  ·by_cases hN:N<10
   ·left;refine⟨ν,?_⟩;have hg:=tq l i ν;have ht:=PJ l i ν;have hle:=Jh l (i+1);have mQ:=ih l[i] (cz ν) (ζ.gb Θ.2 _ (cz ν)) (by have:=ζ.vG (cz ν);omega);generalize l[i]=y at hg ht mQ;obtain⟨k',n',s',c',l'⟩:=y;simp only[ζ.av]at hg mQ;generalize(ζ.mk k' n' s' c' l').cnt=cy at ht mQ;have hw:aT .i64 ((N:Int)+((min cy 10:Nat):Int))=((N+min cy 10:Nat):Int):=by rw[wrap_i64 (by omega) (by omega)];omega
    have jE:aT .i64 ((i:Int)+1)=(i:Int)+1:=wrap_i64 (by omega) (by have:=ζ.zo l;omega);have sr:(N:Int)<10:=by omega
    simp only[Hq];simp[I,q0,q1,q2,q3,q4,q5,q6,ν,sr,hg,mQ,hw,jE,ht,iX,-Int.natCast_add];exact⟨⟨N+min cy 10,rfl,by omega,by omega⟩,rfl⟩
   ·right;have sr:¬(N:Int)<10:=by omega
    have:=Jh l i;simp[Hq,q0,q1,q2,q3,q4,q5,q6,ν,sr,iX];exact⟨N,rfl,by omega⟩
  ·right;have:i=l.length:=by omega
   subst this;simp only[List.take_length]at q4;simp[Hq,q0,q1,q2,q3,q5,q6,iX];exact⟨N,rfl,q4⟩
 ·have hN:(if(10:Int)<(N:Int)then(10:Int)else(N:Int))=((min (ζ.mk k n s c l).cnt 10:Nat):Int):=by simp only[ζ.cnt];split<;>omega
  simp only[κ,exec,eG,eu,fz,aF,d_,fQ,fe,bq,gN,bT,gF,gS,hU,hZ,AV.cells,newVar,hH,rd,wr,gg,single,fy,bF,er,dL,h3,h4];simp[bf,RV.get,ba,dU,gN,hN,h3]
theorem f176(k n:Int)(s:List Nat)(c:Γ)(l:List ζ)(m:Mem)(Θ:(ζ.mk k n s c l).Ok):
  kf u 176 [(ζ.mk k n s c l).av] m=some (.n (gy k n l.length),m):=by
 have hl:(ζ.ψ l).length=l.length:=by rw[ζ.dZ];simp
 refine bz (g:=pS) rfl rfl rfl ?_;simp only[ah,aw,ζ.dH _ _ _ Θ];by_cases h1:k<1
 ·have e3:(k==3)=false:=by simp;omega
  have e4:(k==4)=false:=by simp;omega
  have e5:(k==5)=false:=by simp;omega
  simp[κ,pS,rU,ζ.av,bf,RV.get,ba,dU,gy,h1,e3,e4,e5]
 by_cases h2:k>5
 ·have e3:(k==3)=false:=by simp;omega
  have e4:(k==4)=false:=by simp;omega
  have e5:(k==5)=false:=by simp;omega
  simp[κ,pS,rU,ζ.av,bf,RV.get,ba,dU,gy,h1,h2,e3,e4,e5]
 by_cases h3:k=1
 ·subst h3;by_cases h4:n<0
  ·simp[κ,pS,rU,ζ.av,bf,RV.get,ba,dU,gy,h4]
  by_cases h5:n>99
  ·simp[κ,pS,rU,ζ.av,bf,RV.get,ba,dU,gy,h4,h5]
  by_cases h8:l.length=0
  ·simp[κ,pS,rU,ζ.av,bf,RV.get,ba,dU,gy,hl,h4,h5,h8]
  ·have lf:0<l.length:=by omega
   simp[κ,pS,rU,ζ.av,bf,RV.get,ba,dU,gy,hl,h4,h5,h8,lf]
 by_cases fo:k=2
 ·subst fo;by_cases h8:l.length=0
  ·simp[κ,pS,rU,ζ.av,bf,RV.get,ba,dU,gy,hl,h8]
  ·have lf:0<l.length:=by omega
   simp[κ,pS,rU,ζ.av,bf,RV.get,ba,dU,gy,hl,h8,lf]
 have hk:k=3\/k=4\/k=5:=by omega
 by_cases h7:l.length=2
 ·rcases hk with rfl|rfl|rfl<;>simp[κ,pS,rU,ζ.av,bf,RV.get,ba,dU,gy,hl,h7]
 ·have J9:((l.length:Int) !=2)=true:=by simp;omega
  rcases hk with rfl|rfl|rfl<;>simp[κ,pS,rU,ζ.av,bf,RV.get,ba,dU,gy,hl,h7,J9]
def nH(c:Γ)(l:List (List Nat)):AV:= .list c (l.map AV.str)
theorem Qm{n:Nat}{k:Bool}{c:Γ}(hc:aJ c)(l:List (List Nat)):exp n k (nH c l)=nH c l:=by simp only[nH,exp,fu hc,fm,di];congr 1
def placeOf(l:List (List Nat))(t:List Nat):Int:=match l.findIdx? (fun x=>x==t)with
 |some i=>(i:Int)
 |none=> -1
theorem ae2{l:List (List Nat)}{t:List Nat}{i:Nat}(h:i<l.length)(he:l[i]=t)(hn:∀j (hj:j<l.length),j<i->l[j]≠t):l.findIdx? (fun x=>x==t)=some i:=by rw[List.findIdx?_eq_some_iff_getElem];refine⟨h,by simpa using he,fun j hj=>?_⟩;have:=hn j (by omega) hj;simpa using this
theorem ae1{l:List (List Nat)}{t:List Nat}(hn:∀j (hj:j<l.length),l[j]≠t):l.findIdx? (fun x=>x==t)=none:=by rw[List.findIdx?_eq_none_iff];intro x hx;obtain⟨j,hj,rfl⟩:=List.mem_iff_getElem.1 hx;simpa using hn j hj
theorem f85(cn:Γ)(jQ:aJ cn)(ss:List (List Nat))(t:List Nat)(hlen:ss.length<1000000000000)(m:Mem):
  kf u 85 [nH cn ss,.str t] m=some (.n (placeOf ss t),m):=by
 refine bz (g:=BV) rfl rfl rfl ?_;simp only[ah,aw,Qm jQ,exp,BV,c85];refine χ (fun s1=>s1.e 0=nH cn ss/\s1.e 1= .str t/\s1.mem= {ε:=m.ε,η:=[]}) (by simp) fun s1 ⟨h1,h2,h3⟩=>?_;refine aZ (fun s3=>s3.mem= {ε:=m.ε,η:=[]}/\∀j (hj:j<ss.length),ss[j]≠t) ?_ fun s3 ⟨h3,h4⟩=>?_
 ·let I:Nat->St->Prop:=fun i st=>st.e 0=nH cn ss/\st.e 1= .str t/\st.e 7= .n ss.length/\st.e 8= .n i/\st.mem= {ε:=m.ε,η:=[]}/\∀j (hj:j<ss.length),j<i->ss[j]≠t;refine χ (I 0) (by simp[I,h1,h2,h3,nH]) fun s4 hI=>?_;refine κ.block (κ.loop (I:=I) ss.length hI fun i st hi τ=>?_);obtain⟨q1,q2,q3,q4,q5,q6⟩:=τ;simp only[nH]at q1;by_cases ν:i<ss.length
  ·have jE:aT .i64 ((i:Int)+1)=(i:Int)+1:=wrap_i64 (by omega) (by omega);by_cases he:ss[i]=t
   ·right;have hp:=ae2 ν he q6;simp[HE,q1,q2,q3,q4,q5,ν,he];simp[bf,BV,RV.get,gN,ba,dU,placeOf,hp]
   ·left;have gW:¬t=ss[i]:=fun e=>he e.symm;refine⟨ν,?_⟩;simp[I,HE,q1,q2,q3,q4,q5,ν,gW,jE,nH];intro j hj jD;rcases Nat.lt_or_ge j i with h|h
    ·exact q6 j hj h
    ·have:j=i:=by omega
     subst this;exact he
  ·right;have:i=ss.length:=by omega
   subst this;simp[HE,q1,q2,q3,q4,q5];exact fun j hj=>q6 j hj hj
 ·have hp:=ae1 h4;simp[κ,h3,bf,RV.get,ba,dU,placeOf,hp]
mutual
def _root_.Go.ab.ζ.copy:ζ->ζ
 | .mk k n s _ l=> .mk k n s (match l with
  |[]=> .nil
  |_=> .any) (gU l)
def gU:List ζ->List ζ
 |[]=>[]
 |x::l=>x.copy::gU l
end
theorem Br(l:List ζ):gU l=l.map ζ.copy:=by
 induction l with
 |nil=>rfl
 |cons a l ih=>simp[gU,ih]
theorem xt(l:List ζ):(gU l).length=l.length:=by rw[Br];simp
theorem PN(l:List ζ)(i:Nat)(h:i<l.length):(gU l)[i]'(by rw[xt];exact h)=l[i].copy:=by simp[Br]
theorem Ec(x:ζ):x.copy.Ok:=by
 refine ζ.iB (Q:=fun x=>x.copy.Ok) (fun k n s c l ih=>?_) x;simp only[ζ.copy,ζ.Ok];refine⟨?_,?_⟩
 ·cases l
  ·exact .inl rfl
  ·exact .inr rfl
 ·rw[Br];clear c;induction l with
  |nil=>trivial
  |cons a l gq=>exact⟨ih a (by simp),gq fun y hy=>ih y (by simp[hy])⟩
theorem f28(x:ζ):x.Ok->x.cnt<1000000000000->∀m,kf u 28 [x.copy.av,x.av] m=some (.bool true,m):=by
 refine ζ.iB (Q:=fun x=>x.Ok->x.cnt<1000000000000->∀m,kf u 28 [x.copy.av,x.av] m=some (.bool true,m)) (fun k n s c l ih Θ hc m=>?_) x;refine bz (g:=Gf) rfl rfl rfl ?_;simp only[ah,aw,ζ.dH _ _ _ Θ,ζ.dH _ _ _ (Ec _),Gf,c28];simp only[ζ.cnt]at hc;have gO:=ζ.zo l;have du:(ζ.ψ (gU l)).length=l.length:=by rw[iX,xt]
 obtain⟨c',jb⟩:∃c',(ζ.mk k n s c l).copy= .mk k n s c' (gU l):=⟨_,rfl⟩;rw[jb];let K:St->Prop:=fun st=>st.e 2= .Ω 2 0 0/\st.e 3= .Ω 3 0 0/\st.q 2=some (0,.cells [.n k,.n n,.str s,.list c' (ζ.ψ (gU l))])/\st.q 3=some (0,.cells [.n k,.n n,.str s,.list c (ζ.ψ l)])∧
  st.mem= {ε:=m.ε,η:=[]}
 refine χ (K) (by simp[K,ζ.av,aQ]) fun s1 ⟨h1,h2,h3,h4,h5⟩=>?_;refine χ (K) (by simp[K,h1,h2,h3,h4,h5,iX,du]) fun s1 ⟨h1,h2,h3,h4,h5⟩=>?_;refine aZ (fun s3=>s3.mem= {ε:=m.ε,η:=[]}) ?_ fun s3 h3=>?_
 ·let I:Nat->St->Prop:=fun i st=>K st/\st.e 5= .n i;refine χ (I 0) (by simp[I,K,h1,h2,h3,h4,h5]) fun s4 hI=>?_;refine κ.block (κ.loop (I:=I) l.length hI fun i st hi τ=>?_);obtain⟨⟨h1,h2,h3,h4,h5⟩,q1⟩:=τ;by_cases ν:i<l.length
  ·have jE:aT .i64 ((i:Int)+1)=(i:Int)+1:=wrap_i64 (by omega) (by omega);left;refine⟨ν,?_⟩;have hg:=tq l i ν;have zZ:=tq (gU l) i (by rw[xt];exact ν);rw[PN l i ν]at zZ;have mQ:=ih l[i] (cz ν) (ζ.gb Θ.2 _ (cz ν)) (by have:=ζ.vG (cz ν);omega);generalize l[i]=y at hg zZ mQ;obtain⟨k',n',s',c2,l'⟩:=y;obtain⟨c3,Kn⟩:∃c3,(ζ.mk k' n' s' c2 l').copy= .mk k' n' s' c3 (gU l'):=⟨_,rfl⟩;rw[Kn]at zZ mQ;simp only[ζ.av]at hg zZ mQ;simp[I,K,L9,h1,h2,h3,h4,h5,q1,ν,hg,zZ,mQ,jE,iX,xt]
  ·right;have:i=l.length:=by omega
   subst this;simp[L9,h1,h2,h3,h4,h5,q1,iX,xt]
 ·simp[κ,h3,bf,RV.get,ba,jy]
theorem M9(B:List θ)(x y:θ):(B++[x]).set B.length y=B++[y]:=by simp
end Go.ab.Tz
