import Derived.Test.YtiigojkfojnedaaGreatDoorQZg
set_option linter.unusedVariables false
set_option linter.unusedSimpArgs false
set_option linter.unusedSectionVars false
set_option maxRecDepth 100000
set_option maxHeartbeats 8000000
open List renaming mem_cons->dO,map_map->c6,map_congr_left->dt,map_cons->ay,map_nil->aA,take_succ_cons->rE,getElem_mem->cL
open Go.IntKind renaming wrap->a_
namespace Go.ah
inductive η
 |mk (k n:Int) (s:List Nat) (c:χ) (l:List η)
mutual
def η.av:η->AV
 | .mk k n s c l=> .agg [.int .i64 k,.int .i64 n,.str s,.list c (η.Δ l)]
def η.Δ:List η->List AV
 |[]=>[]
 |x::l=>x.av::η.Δ l
end
theorem η.eo(l:List η):η.Δ l=l.map η.av:=by
 induction l with
 |nil=>rfl
 |cons a l ih=>simp[η.Δ,ih]
mutual
def η.cnt:η->Nat
 | .mk _ _ _ _ l=>1+η.bj l
def η.bj:List η->Nat
 |[]=>0
 |x::l=>x.cnt+η.bj l
end
theorem η.I3(x:η):0<x.cnt:=by cases x;simp[η.cnt];omega
theorem η.Bg(l:List η):l.length<=η.bj l:=by
 induction l with
 |nil=>simp
 |cons a l ih=>have:=η.I3 a;simp only[List.length_cons,η.bj];omega
theorem η.zb{l:List η}{x:η}(h:x∈l):x.cnt<=η.bj l:=by
 induction l with
 |nil=>cases h
 |cons a l ih=>
  simp only[η.bj]
  rcases dO.1 h with rfl|h
  ·omega
  ·have:=ih h;omega
theorem η.jY{Q:η->Prop}(h:∀k n s c l,(∀y∈l,Q y)->Q (.mk k n s c l))(x:η):Q x:=
 η.rec (motive_1:=Q) (motive_2:=fun l=>∀y∈l,Q y) (fun k n s c l ih=>h k n s c l ih) (fun y hy=>(by cases hy))
  (fun x l hx hl y hy=>(by
   rcases dO.1 hy with rfl|hy
   ·exact hx
   ·exact hl y hy)) x
def gr(k n:Int)(m:Nat):Int:=
 if k<1\/5<k\/(k=1/\(n<0\/99<n))then 3
 else if(3<=k/\m≠2)\/(k<3/\m≠0)then 2 else 0
def LW(n:Int):Int×Int:=if n< -1000000000\/1000000000<n then(0,8)else(n,0)
def comb(names:List (List Nat))(tQ:List Int)(k n:Int)(s:List Nat)(rs:List (Int×Int)):Int×Int:=
 if k=2 then
  match names.findIdx? (fun x=>x==s)with
  |none=>(0,1)
  |some i=>LW (tQ.getD i 0)
 else if 3<=k then
  match rs with
  |[(a,ea),(b,eb)]=>if ea≠0 then(0,ea)else if eb≠0 then(0,eb)else LW (if k=3 then a+b else if k=4 then a-b else a*b)
  |_=>(0,0)
 else LW n
mutual
def η.val(names:List (List Nat))(tQ:List Int):η->Int×Int
 | .mk k n s _ l=>if gr k n l.length=0 then comb names tQ k n s (η.Ul names tQ l)else(0,gr k n l.length)
def η.Ul(names:List (List Nat))(tQ:List Int):List η->List (Int×Int)
 |[]=>[]
 |x::l=>x.val names tQ::η.Ul names tQ l
end
def η.value(names:List (List Nat))(tQ:List Int)(x:η):Int×Int:=
 if 9<x.cnt then(0,2)else if names.length≠tQ.length then(0,7)else x.val names tQ
def aJ(c:χ):Prop:=c= .nil\/c= .any
theorem fb{n:Nat}{k:Bool}{c:χ}(h:aJ c):c.exp n k=c:=by rcases h with rfl|rfl<;>rfl
mutual
def η.Ok:η->Prop
 | .mk _ _ _ c l=>aJ c/\η.c7 l
def η.c7:List η->Prop
 |[]=>True
 |x::l=>x.Ok/\η.c7 l
end
theorem η.gO{l:List η}(h:η.c7 l):∀x∈l,x.Ok:=by
 induction l with
 |nil=>intro x hx;cases hx
 |cons a l ih=>
  intro x hx
  rcases dO.1 hx with rfl|hx
  ·exact h.1
  ·exact ih h.2 x hx
theorem η.ep(n:Nat)(k:Bool)(x:η):x.Ok->exp n k x.av=x.av:=by
 refine η.jY (Q:=fun x=>x.Ok->exp n k x.av=x.av) (fun kk nn s c l ih h=>?_) x;simp only[η.Ok]at h;have hl:bn n k (η.Δ l)=η.Δ l:=by rw[fo,η.eo,c6];exact dt fun y hy=>ih y hy (η.gO h.2 y hy)
 simp only[η.av,exp,bn,fb h.1,hl]
theorem η.nO(x:η):φ x.av=x.av:=by
 refine η.jY (Q:=fun x=>φ x.av=x.av) (fun kk nn s c l ih=>?_) x;have hl:cW (η.Δ l)=η.Δ l:=by rw[fO,η.eo,c6];exact dt fun y hy=>ih y hy
 simp only[η.av,φ,cW,hl]
theorem η.vH(bs:List κ)(n k:Nat)(x:η):x.Ok->ai bs n k x.av=x.av:=by
 refine η.jY (Q:=fun x=>x.Ok->ai bs n k x.av=x.av) (fun kk nn s c l ih h=>?_) x;simp only[η.Ok]at h;cases k with
 |zero=>exact η.ep n false _ (by simp only[η.Ok];exact h)
 |succ k=>
  have hl:(η.Δ l).map (ai bs n (k+1))=η.Δ l:=by rw[η.eo,c6];exact dt fun y hy=>ih y hy (η.gO h.2 y hy)
  simp only[ai]at hl;simp only[η.av,ai,bK,hU,nZ,fb h.1,hl]
theorem wrap_i64{n:Int}(h1: -9223372036854775808<=n)(h2:n<9223372036854775808):a_ .i64 n=n:=by
 show(if(true&&decide (n % 18446744073709551616≥9223372036854775808))=true then n % 18446744073709551616-18446744073709551616 else n % 18446744073709551616)=n;split
 ·rename_i h;simp at h;omega
 ·rename_i h;simp at h;omega
end Go.ah
namespace Go.ah.Tz
open Go.ah
variable{u:Nat}
theorem dB(bs:List κ)(n:Nat)(k:IntKind)(i:Int):ai bs n 8 (.int k i)= .int k i:=rfl
theorem iE(bs:List κ)(n:Nat)(b:Bool):ai bs n 8 (.bool b)= .bool b:=rfl
attribute [local simp] exec ed dP eX aC dQ ft eL ζ gg τ fW gy gH gI AV.cells newVar gE rd wr fK single eV bY ek dF
theorem f99(n lo hi:Int)(m:Mem):kf u 99 [.int .i64 n,.int .i64 lo,.int .i64 hi] m=some (.bool (decide (n<lo)||decide (n>hi)),m):=by
 refine bD (g:=Gs) rfl rfl rfl ?_;by_cases h1:n<lo<;>by_cases h2:n>hi<;>
  simp[μ,Gs,Pc,exp,aY,RV.get,aV,iE,h1,h2]
theorem f181(k n:Int)(s:List Nat)(c:χ)(l:List η)(m:Mem)(ab:(η.mk k n s c l).Ok):
  kf u 181 [(η.mk k n s c l).av] m=some (.int .i64 (gr k n l.length),m):=by
 have hl:(η.Δ l).length=l.length:=by rw[η.eo];simp
 refine bD (g:=pq) rfl rfl rfl ?_;simp only[ay,aA,η.ep _ _ _ ab];by_cases h1:k<1
 ·simp[μ,pq,rK,η.av,f99,aY,RV.get,aV,dB,gr,h1]
 by_cases h2:k>5
 ·simp[μ,pq,rK,η.av,f99,aY,RV.get,aV,dB,gr,h1,h2]
 by_cases h3:k=1
 ·subst h3;by_cases h4:n<0
  ·simp[μ,pq,rK,η.av,f99,aY,RV.get,aV,dB,gr,h4]
  by_cases h5:n>99
  ·simp[μ,pq,rK,η.av,f99,aY,RV.get,aV,dB,gr,h4,h5]
  by_cases h8:l.length=0
  ·simp[μ,pq,rK,η.av,f99,aY,RV.get,aV,dB,gr,hl,h4,h5,h8]
  ·simp[μ,pq,rK,η.av,f99,aY,RV.get,aV,dB,gr,hl,h4,h5,h8]
 have fe:(k==1)=false:=by simpa using h3
 by_cases h6:k≥3
 ·have qM:¬k<3:=by omega
  have Gu:¬k<=2:=by omega
  by_cases h7:l.length=2
  ·simp[μ,pq,rK,η.av,f99,aY,RV.get,aV,dB,gr,hl,h1,h2,h3,fe,h6,qM,Gu,h7]
  ·have JP:((l.length:Int) !=2)=true:=by simp;omega
   simp[μ,pq,rK,η.av,f99,aY,RV.get,aV,dB,gr,hl,h1,h2,h3,fe,h6,h7,JP]
 ·have qM:k<3:=by omega
  have Gu:k<=2:=by omega
  by_cases h8:l.length=0
  ·simp[μ,pq,rK,η.av,f99,aY,RV.get,aV,dB,gr,hl,h1,h2,h3,fe,h6,qM,Gu,h8]
  ·simp[μ,pq,rK,η.av,f99,aY,RV.get,aV,dB,gr,hl,h1,h2,h3,fe,h6,qM,Gu,h8]
theorem mm(l:List η):(η.Δ l).length=l.length:=by rw[η.eo];simp
theorem yU(l:List η)(i:Nat)(h:i<l.length):(η.Δ l)[i]'(by rw[mm];exact h)=l[i].av:=by simp[η.eo]
theorem Pl(l:List η)(i:Nat)(h:i<l.length):η.bj (l.take (i+1))=η.bj (l.take i)+l[i].cnt:=by
 induction l generalizing i with
 |nil=>simp at h
 |cons a l ih=>
  cases i with
  |zero=>simp[η.bj]
  |succ i=>
   have:=ih i (by simpa using h)
   simp only[rE,η.bj,List.getElem_cons_succ]at this⊢;omega
theorem I4(l:List η)(i:Nat):η.bj (l.take i)<=η.bj l:=by
 induction l generalizing i with
 |nil=>simp
 |cons a l ih=>
  cases i with
  |zero=>simp[η.bj]
  |succ i=>have:=ih i;simp only[rE,η.bj];omega
theorem f117(x:η):x.Ok->x.cnt<1000000000000->∀m,kf u 117 [x.av] m=some (.int .i64 x.cnt,m):=by
 refine η.jY (Q:=fun x=>x.Ok->x.cnt<1000000000000->∀m,kf u 117 [x.av] m=some (.int .i64 x.cnt,m)) (fun k n s c l ih ab hc m=>?_) x;refine bD (g:=EK) rfl rfl rfl ?_;simp only[ay,aA,η.ep _ _ _ ab,EK,c117];simp only[η.cnt]at hc;refine ω (fun s1=>ζ s1.env 1= .ae 1 0 0/\τ s1.loc 1=some (0,.cells [.int .i64 k,.int .i64 n,.str s,.list c (η.Δ l)])/\s1.mem= {ε:=m.ε,θ:=[]}) (by simp[η.av,aR]) fun s1 ⟨h1,h2,h3⟩=>?_;refine ω (fun s2=>ζ s2.env 1= .ae 1 0 0/\τ s2.loc 1=some (0,.cells [.int .i64 k,.int .i64 n,.str s,.list c (η.Δ l)])/\s2.mem= {ε:=m.ε,θ:=[]}/\ζ s2.env 3= .int .i64 1) (by simp[h1,h2,h3]) fun s2 ⟨h1,h2,h3,h4⟩=>?_;refine bc (fun s3=>s3.mem= {ε:=m.ε,θ:=[]}/\ζ s3.env 3= .int .i64 ((1+η.bj l:Nat):Int)) ?_ fun s3 ⟨h3,h4⟩=>?_
 ·let I:Nat->St->Prop:=fun i st=>ζ st.env 3= .int .i64 ((1+η.bj (l.take i):Nat):Int)/\ζ st.env 7= .list c (η.Δ l)/\ζ st.env 8= .int .i64 l.length/\ζ st.env 9= .int .i64 i/\st.mem= {ε:=m.ε,θ:=[]};refine ω (I 0) (by simp[I,h1,h2,h3,h4,mm,η.bj]) fun s4 hI=>?_;refine μ.block (μ.loop (I:=I) l.length hI fun i st hi ψ=>?_);obtain⟨q1,q2,q3,q4,q5⟩:=ψ;by_cases ρ:i<l.length
  ·left;refine⟨ρ,?_⟩;have hg:=yU l i ρ;have ht:=Pl l i ρ;have hle:=I4 l (i+1);have pX:=ih l[i] (cL ρ) (η.gO ab.2 _ (cL ρ)) (by have:=η.zb (cL ρ);omega);generalize l[i]=y at hg ht pX;obtain⟨k',n',s',c',l'⟩:=y;simp only[η.av]at hg pX;have hw:a_ .i64 (1+(η.bj (l.take i):Int)+((η.mk k' n' s' c' l').cnt:Int))=1+(η.bj (l.take i):Int)+((η.mk k' n' s' c' l').cnt:Int):=wrap_i64 (by omega) (by omega);have ji:a_ .i64 ((i:Int)+1)=(i:Int)+1:=wrap_i64 (by omega) (by have:=η.Bg l;omega);simp[I,LD,q1,q2,q3,q4,q5,ρ,hg,pX,hw,ji,ht,mm];omega
  ·right;have:i=l.length:=by omega
   subst this;simp[LD,q1,q2,q3,q4,q5]
 ·simp[μ,h3,h4,aY,RV.get,aV,dB,η.cnt]
theorem f115(x:η):x.Ok->x.cnt<1000000000000->∀m,kf u 115 [x.av] m=some (.int .i64 (min x.cnt 10:Nat),m):=by
 refine η.jY (Q:=fun x=>x.Ok->x.cnt<1000000000000->∀m,kf u 115 [x.av] m=some (.int .i64 (min x.cnt 10:Nat),m)) (fun k n s c l ih ab hc m=>?_) x;refine bD (g:=EJ) rfl rfl rfl ?_;simp only[ay,aA,η.ep _ _ _ ab,EJ,NU];simp only[η.cnt]at hc;refine ω (fun s1=>ζ s1.env 1= .ae 1 0 0/\τ s1.loc 1=some (0,.cells [.int .i64 k,.int .i64 n,.str s,.list c (η.Δ l)])/\s1.mem= {ε:=m.ε,θ:=[]}) (by simp[η.av,aR]) fun s1 ⟨h1,h2,h3⟩=>?_;refine ω (fun s2=>ζ s2.env 1= .ae 1 0 0/\τ s2.loc 1=some (0,.cells [.int .i64 k,.int .i64 n,.str s,.list c (η.Δ l)])/\s2.mem= {ε:=m.ε,θ:=[]}/\ζ s2.env 3= .int .i64 1) (by simp[h1,h2,h3]) fun s2 ⟨h1,h2,h3,h4⟩=>?_;refine bc (fun s3=>s3.mem= {ε:=m.ε,θ:=[]}/\∃N:Nat,ζ s3.env 3= .int .i64 N/\min N 10=min (1+η.bj l) 10) ?_ fun s3 ⟨h3,N,h4,h5⟩=>?_
 ·let I:Nat->St->Prop:=fun i st=>ζ st.env 1= .ae 1 0 0/\τ st.loc 1=some (0,.cells [.int .i64 k,.int .i64 n,.str s,.list c (η.Δ l)])∧
   (∃N:Nat,ζ st.env 3= .int .i64 N/\N<=1+η.bj (l.take i)/\min N 10=min (1+η.bj (l.take i)) 10)/\ζ st.env 4= .int .i64 i/\st.mem= {ε:=m.ε,θ:=[]}
  refine ω (I 0) (by simp[I,h1,h2,h3,h4,η.bj];exact⟨1,by simp⟩) fun s4 hI=>?_;refine μ.block (μ.loop (I:=I) l.length hI fun i st hi ψ=>?_);obtain⟨q0,q1,⟨N,q2,q3,q4⟩,q5,q6⟩:=ψ;by_cases ρ:i<l.length
  ·by_cases hN:N<10
   ·left;refine⟨ρ,?_⟩;have hg:=yU l i ρ;have ht:=Pl l i ρ;have hle:=I4 l (i+1);have pX:=ih l[i] (cL ρ) (η.gO ab.2 _ (cL ρ)) (by have:=η.zb (cL ρ);omega);generalize l[i]=y at hg ht pX;obtain⟨k',n',s',c',l'⟩:=y;simp only[η.av]at hg pX;generalize(η.mk k' n' s' c' l').cnt=cy at ht pX;have hw:a_ .i64 ((N:Int)+((min cy 10:Nat):Int))=((N+min cy 10:Nat):Int):=by rw[wrap_i64 (by omega) (by omega)];omega
    have ji:a_ .i64 ((i:Int)+1)=(i:Int)+1:=wrap_i64 (by omega) (by have:=η.Bg l;omega);have rX:(N:Int)<10:=by omega
    simp only[He];simp[I,q0,q1,q2,q3,q4,q5,q6,ρ,rX,hg,pX,hw,ji,ht,mm,-Int.natCast_add];exact⟨⟨N+min cy 10,rfl,by omega,by omega⟩,rfl⟩
   ·right;have rX:¬(N:Int)<10:=by omega
    have:=I4 l i;simp[He,q0,q1,q2,q3,q4,q5,q6,ρ,rX,mm];exact⟨N,rfl,by omega⟩
  ·right;have:i=l.length:=by omega
   subst this;simp only[List.take_length]at q4;simp[He,q0,q1,q2,q3,q5,q6,mm];exact⟨N,rfl,q4⟩
 ·have hN:(if(10:Int)<(N:Int)then(10:Int)else(N:Int))=((min (η.mk k n s c l).cnt 10:Nat):Int):=by simp only[η.cnt];split<;>omega
  simp only[μ,exec,ed,dP,eX,aC,dQ,ft,eL,ζ,gg,τ,fW,gy,gH,gI,AV.cells,newVar,gE,rd,wr,fK,single,eV,bY,ek,dF,h3,h4];simp[aY,RV.get,aV,dB,gg,hN,h3]
theorem f176(k n:Int)(s:List Nat)(c:χ)(l:List η)(m:Mem)(ab:(η.mk k n s c l).Ok):
  kf u 176 [(η.mk k n s c l).av] m=some (.int .i64 (gr k n l.length),m):=by
 have hl:(η.Δ l).length=l.length:=by rw[η.eo];simp
 refine bD (g:=po) rfl rfl rfl ?_;simp only[ay,aA,η.ep _ _ _ ab];by_cases h1:k<1
 ·have e3:(k==3)=false:=by simp;omega
  have e4:(k==4)=false:=by simp;omega
  have e5:(k==5)=false:=by simp;omega
  simp[μ,po,rJ,η.av,aY,RV.get,aV,dB,gr,h1,e3,e4,e5]
 by_cases h2:k>5
 ·have e3:(k==3)=false:=by simp;omega
  have e4:(k==4)=false:=by simp;omega
  have e5:(k==5)=false:=by simp;omega
  simp[μ,po,rJ,η.av,aY,RV.get,aV,dB,gr,h1,h2,e3,e4,e5]
 by_cases h3:k=1
 ·subst h3;by_cases h4:n<0
  ·simp[μ,po,rJ,η.av,aY,RV.get,aV,dB,gr,h4]
  by_cases h5:n>99
  ·simp[μ,po,rJ,η.av,aY,RV.get,aV,dB,gr,h4,h5]
  by_cases h8:l.length=0
  ·simp[μ,po,rJ,η.av,aY,RV.get,aV,dB,gr,hl,h4,h5,h8]
  ·have kP:0<l.length:=by omega
   simp[μ,po,rJ,η.av,aY,RV.get,aV,dB,gr,hl,h4,h5,h8,kP]
 by_cases eF:k=2
 ·subst eF;by_cases h8:l.length=0
  ·simp[μ,po,rJ,η.av,aY,RV.get,aV,dB,gr,hl,h8]
  ·have kP:0<l.length:=by omega
   simp[μ,po,rJ,η.av,aY,RV.get,aV,dB,gr,hl,h8,kP]
 have hk:k=3\/k=4\/k=5:=by omega
 by_cases h7:l.length=2
 ·rcases hk with rfl|rfl|rfl<;>simp[μ,po,rJ,η.av,aY,RV.get,aV,dB,gr,hl,h7]
 ·have JP:((l.length:Int) !=2)=true:=by simp;omega
  rcases hk with rfl|rfl|rfl<;>simp[μ,po,rJ,η.av,aY,RV.get,aV,dB,gr,hl,h7,JP]
def nj(c:χ)(l:List (List Nat)):AV:= .list c (l.map AV.str)
def dC(c:χ)(l:List Int):AV:= .list c (l.map (AV.int .i64))
theorem PR{n:Nat}{k:Bool}{c:χ}(hc:aJ c)(l:List (List Nat)):exp n k (nj c l)=nj c l:=by simp only[nj,exp,fb hc,fo,c6];congr 1
theorem vF{n:Nat}{k:Bool}{c:χ}(hc:aJ c)(l:List Int):exp n k (dC c l)=dC c l:=by simp only[dC,exp,fb hc,fo,c6];congr 1
def placeOf(l:List (List Nat))(t:List Nat):Int:=match l.findIdx? (fun x=>x==t)with
 |some i=>(i:Int)
 |none=> -1
theorem aeM{l:List (List Nat)}{t:List Nat}{i:Nat}(h:i<l.length)(he:l[i]=t)(hn:∀j (hj:j<l.length),j<i->l[j]≠t):l.findIdx? (fun x=>x==t)=some i:=by rw[List.findIdx?_eq_some_iff_getElem];refine⟨h,by simpa using he,fun j hj=>?_⟩;have:=hn j (by omega) hj;simpa using this
theorem aeL{l:List (List Nat)}{t:List Nat}(hn:∀j (hj:j<l.length),l[j]≠t):l.findIdx? (fun x=>x==t)=none:=by rw[List.findIdx?_eq_none_iff];intro x hx;obtain⟨j,hj,rfl⟩:=List.mem_iff_getElem.1 hx;simpa using hn j hj
theorem f85(cn:χ)(kQ:aJ cn)(ss:List (List Nat))(t:List Nat)(hlen:ss.length<1000000000000)(m:Mem):
  kf u 85 [nj cn ss,.str t] m=some (.int .i64 (placeOf ss t),m):=by
 refine bD (g:=BI) rfl rfl rfl ?_;simp only[ay,aA,PR kQ,exp,BI,c85];refine ω (fun s1=>ζ s1.env 0=nj cn ss/\ζ s1.env 1= .str t/\s1.mem= {ε:=m.ε,θ:=[]}) (by simp) fun s1 ⟨h1,h2,h3⟩=>?_;refine bc (fun s3=>s3.mem= {ε:=m.ε,θ:=[]}/\∀j (hj:j<ss.length),ss[j]≠t) ?_ fun s3 ⟨h3,h4⟩=>?_
 ·let I:Nat->St->Prop:=fun i st=>ζ st.env 0=nj cn ss/\ζ st.env 1= .str t/\ζ st.env 7= .int .i64 ss.length/\ζ st.env 8= .int .i64 i/\st.mem= {ε:=m.ε,θ:=[]}/\∀j (hj:j<ss.length),j<i->ss[j]≠t;refine ω (I 0) (by simp[I,h1,h2,h3,nj]) fun s4 hI=>?_;refine μ.block (μ.loop (I:=I) ss.length hI fun i st hi ψ=>?_);obtain⟨q1,q2,q3,q4,q5,q6⟩:=ψ;simp only[nj]at q1;by_cases ρ:i<ss.length
  ·have ji:a_ .i64 ((i:Int)+1)=(i:Int)+1:=wrap_i64 (by omega) (by omega);by_cases he:ss[i]=t
   ·right;have hp:=aeM ρ he q6;simp[Hq,q1,q2,q3,q4,q5,ρ,he];simp[aY,BI,RV.get,gg,aV,dB,placeOf,hp]
   ·left;have fT:¬t=ss[i]:=fun e=>he e.symm;refine⟨ρ,?_⟩;simp[I,Hq,q1,q2,q3,q4,q5,ρ,fT,ji,nj];intro j hj jg;rcases Nat.lt_or_ge j i with h|h
    ·exact q6 j hj h
    ·have:j=i:=by omega
     subst this;exact he
  ·right;have:i=ss.length:=by omega
   subst this;simp[Hq,q1,q2,q3,q4,q5];exact fun j hj=>q6 j hj hj
 ·have hp:=aeL h4;simp[μ,h3,aY,RV.get,aV,dB,placeOf,hp]
theorem f34(c1 c2:χ)(h1:aJ c1)(h2:aJ c2)(ns:List Int)(hlen:ns.length<1000000000000)(m:Mem):
  kf u 34 [dC c1 ns,dC c2 ns] m=some (.bool true,m):=by
 refine bD (g:=Gg) rfl rfl rfl ?_;simp only[ay,aA,vF h1,vF h2,Gg,O5];refine ω (fun s1=>ζ s1.env 0=dC c1 ns/\ζ s1.env 1=dC c2 ns/\s1.mem= {ε:=m.ε,θ:=[]}) (by simp) fun s1 ⟨h1,h2,h3⟩=>?_;refine ω (fun s1=>ζ s1.env 0=dC c1 ns/\ζ s1.env 1=dC c2 ns/\s1.mem= {ε:=m.ε,θ:=[]}) (by simp[dC,h1,h2,h3]) fun s1 ⟨h1,h2,h3⟩=>?_;refine bc (fun s3=>s3.mem= {ε:=m.ε,θ:=[]}) ?_ fun s3 h3=>?_
 ·let I:Nat->St->Prop:=fun i st=>ζ st.env 0=dC c1 ns/\ζ st.env 1=dC c2 ns/\ζ st.env 12= .int .i64 ns.length/\ζ st.env 13= .int .i64 i/\st.mem= {ε:=m.ε,θ:=[]};refine ω (I 0) (by simp[I,h1,h2,h3,dC]) fun s4 hI=>?_;refine μ.block (μ.loop (I:=I) ns.length hI fun i st hi ψ=>?_);obtain⟨q1,q2,q3,q4,q5⟩:=ψ;simp only[dC]at q1 q2;by_cases ρ:i<ns.length
  ·have ji:a_ .i64 ((i:Int)+1)=(i:Int)+1:=wrap_i64 (by omega) (by omega);left;refine⟨ρ,?_⟩;simp[I,LL,q1,q2,q3,q4,q5,ρ,ji,dC]
  ·right;have:i=ns.length:=by omega
   subst this;simp[LL,q1,q2,q3,q4,q5]
 ·simp[μ,h3,aY,RV.get,aV,iE]
theorem Xu(bs:List κ)(n:Nat)(c:χ)(l:List Int):ai bs n 8 (.list c (l.map (AV.int .i64)))= .list (c.exp n false) (l.map (AV.int .i64)):=by simp only[ai,bK,nZ,c6];congr 1
theorem f30(c:χ)(ns:List Int)(hc:(c= .nil/\ns=[])\/c= .any)(hlen:ns.length<1000000000000)(m:Mem):kf u 30 [dC c ns] m=some (dC c ns,m):=by
 refine bD (g:=zy) rfl rfl rfl ?_;rcases hc with⟨rfl,rfl⟩|rfl
 ·simp[μ,zy,DX,exp,bn,χ.exp,isNil,dC,aY,RV.get,aV,ai,bK,hU]
 ·cases ns with
  |nil=>simp[μ,zy,DX,exp,bn,χ.exp,isNil,dC,aY,RV.get,aV,ai,bK,hU,f_]
  |cons a l=>
   have h1:(l.map (AV.int .i64)).all (shaped false 1)=true:=by simp[shaped,AV.one]
   have h2:(l.length+1)*8<=140737488355328:=by simp at hlen;omega
   have h3:l.length+1<=140737488355328:=by simp at hlen;omega
   have e1:bn m.ε.length false (l.map (AV.int .i64))=l.map (AV.int .i64):=by rw[fo,c6];exact dt fun _ _=>rfl
   simp[μ,zy,DX,exp,bn,χ.exp,isNil,dC,aY,RV.get,aV,f_,shaped,AV.one,h1,h2,h3,e1,Mem.φ,φ,Mem.push];exact Xu _ _ (.own m.ε.length) (a::l)
mutual
def _root_.Go.ah.η.copy:η->η
 | .mk k n s _ l=> .mk k n s (match l with
  |[]=> .nil
  |_=> .any) (ny l)
def ny:List η->List η
 |[]=>[]
 |x::l=>x.copy::ny l
end
theorem Wi(l:List η):ny l=l.map η.copy:=by
 induction l with
 |nil=>rfl
 |cons a l ih=>simp[ny,ih]
theorem MJ(B:List κ)(x y:κ):(B++[x]).set B.length y=B++[y]:=by simp
end Go.ah.Tz
