import Derived.Test.YtiigojkfojnedaaGreatDoorQKe
set_option linter.unusedVariables false
set_option linter.unusedSimpArgs false
set_option linter.unusedSectionVars false
set_option maxRecDepth 100000
set_option maxHeartbeats 8000000
open Int renaming toNat_natCast->Du,toNat_of_nonneg->ah0
open List renaming mem_append->dE,getElem?_cons_zero->vp,mem_append_left->wX,mem_append_right->s_,length_cons->eZ,map_cons->ay,map_nil->aA,getElem?_map->uh,length_map->dd,getElem?_eq_none->gZ,getElem?_eq_getElem->dr,take_of_length_le->dY
open Nat renaming zero_add->jz,le_refl->bF
open Option.some renaming injEq->aZ
namespace Go.ah
def Sp.f:Sp->Nat
 | .mk f _ _=>f
def Sp.t:Sp->Nat
 | .mk _ t _=>t
def Sp.ins:Sp->List (List Sp)
 | .mk _ _ ins=>ins
def fq:List Int->List (List Sp)->Option Sp
 |a::b::r,l=>if a<0\/b<0 then none else match l[a.toNat]? with
  |none=>none
  |some c=>match c[b.toNat]? with
   |none=>none
   |some x=>if r.isEmpty then some x else fq r x.ins
 |_,_=>none
def vf(x:Sp)(r:List Int):Option Sp:=if r.isEmpty then some x else fq r x.ins
def nz(l:List Nat):List Int:=l.map fun n:Nat=>(n:Int)
theorem LP{k i:Nat}{r:List Int}{l:List (List Sp)}{c:List Sp}{x:Sp}(h1:l[k]?=some c)(h2:c[i]?=some x):fq ((k:Int)::(i:Int)::r) l=vf x r:=by
 have hk:¬((k:Int)<0\/(i:Int)<0):=by omega
 simp only[fq,hk,if_false,Du,h1,h2,vf]
theorem LR{p:List Int}{l:List (List Sp)}{z:Sp}(h:fq p l=some z):∃(k i:Nat) (r:List Int) (c:List Sp) (x:Sp),p=(k:Int)::(i:Int)::r/\l[k]?=some c/\c[i]?=some x/\vf x r=some z:=by
 match p,h with
 |a::b::r,h=>
  simp only[fq]at h
  split at h
  ·cases h
  ·rename_i Gz;cases hc:l[a.toNat]? with
   |none=>simp[hc]at h
   |some c=>
    cases hx:c[b.toNat]? with
    |none=>simp[hc,hx]at h
    |some x=>
     simp only[hc,hx]at h
     exact⟨a.toNat,b.toNat,r,c,x,by rw[ah0 (by omega),ah0 (by omega)],hc,hx,h⟩
namespace Tz
mutual
theorem adr:∀(x:Sp) (p:List Nat) (y:jx),y∈rq x p->∃r z,y.path=p++r/\vf x (nz r)=some z/\y.fr=z.f/\y.to=z.t
 | .mk f t ins,p,y,h=>by
  rw[rq]at h;rcases dE.1 h with h|h
  ·obtain⟨k,i,r,z,c,x,h1,h2,h3,h4,h5⟩:=SC ins p 0 y h;refine⟨k::i::r,z,by rw[h3,jz],?_,h5⟩;show fq ((k:Int)::(i:Int)::nz r) ins=some z;rw[LP h1 h2,h4]
  ·rw[List.mem_singleton.1 h];exact⟨[],.mk f t ins,by simp,rfl,rfl,rfl⟩
theorem SC:∀(l:List (List Sp)) (p:List Nat) (j:Nat) (y:jx),y∈ox l p j->∃k i r z c x,l[k]?=some c/\c[i]?=some x/\y.path=p++(j+k)::i::r/\vf x (nz r)=some z/\y.fr=z.f/\y.to=z.t
 |[],_,_,_,h=>by simp[ox]at h
 |b::l,p,j,y,h=>by
  rw[ox]at h;rcases dE.1 h with h|h
  ·obtain⟨i,r,z,x,h1,h2,h3,h4⟩:=L5 b (p++[j]) 0 y h;exact⟨0,i,r,z,b,x,rfl,h1,by rw[h2];simp,h3,h4⟩
  ·obtain⟨k,i,r,z,c,x,h1,h2,h3,h4⟩:=SC l p (j+1) y h;exact⟨k+1,i,r,z,c,x,by simpa using h1,h2,by rw[h3,show j+1+k=j+(k+1) by omega],h4⟩
theorem L5:∀(l:List Sp) (p:List Nat) (j:Nat) (y:jx),y∈j_ l p j->∃k r z x,l[k]?=some x/\y.path=p++(j+k)::r/\vf x (nz r)=some z/\y.fr=z.f/\y.to=z.t
 |[],_,_,_,h=>by simp[j_]at h
 |x::l,p,j,y,h=>by
  rw[j_]at h;rcases dE.1 h with h|h
  ·obtain⟨r,z,h1,h2⟩:=adr x (p++[j]) y h;exact⟨0,r,z,x,rfl,by rw[h1];simp,h2⟩
  ·obtain⟨k,r,z,x',h1,h2,h3⟩:=L5 l p (j+1) y h;exact⟨k+1,r,z,x',by simpa using h1,by rw[h2,show j+1+k=j+(k+1) by omega],h3⟩
end
theorem adp(l:List (List Sp))(j:Nat)(y:jx)(h:y∈oy l j):∃k i r z c x,l[k]?=some c/\c[i]?=some x/\y.path=(j+k)::i::r/\vf x (nz r)=some z/\y.fr=z.f/\y.to=z.t:=by
 induction l generalizing j with
 |nil=>simp[oy]at h
 |cons b l ih=>
  rw[oy]at h
  rcases dE.1 h with h|h
  ·obtain⟨i,r,z,x,h1,h2,h3,h4⟩:=L5 b [j] 0 y h;exact⟨0,i,r,z,b,x,rfl,h1,by rw[h2];simp,h3,h4⟩
  ·obtain⟨k,i,r,z,c,x,h1,h2,h3,h4⟩:=ih (j+1) h;exact⟨k+1,i,r,z,c,x,by simpa using h1,h2,by rw[h3,show j+1+k=j+(k+1) by omega],h4⟩
theorem TX{l:List Sp}{k:Nat}{x:Sp}(h:l[k]?=some x)(p:List Nat)(j:Nat){y:jx}(hy:y∈rq x (p++[j+k])):y∈j_ l p j:=by
 induction l generalizing j k with
 |nil=>simp at h
 |cons a l ih=>
  rw[j_]
  cases k with
  |zero=>simp only[vp,aZ]at h;subst h;exact wX _ hy
  |succ k=>exact s_ _ (ih (by simpa using h) (j+1) (by rwa[show j+1+k=j+(k+1) by omega]))
theorem aaz{l:List (List Sp)}{k i:Nat}{c:List Sp}{x:Sp}(h:l[k]?=some c)(h2:c[i]?=some x)(p:List Nat)(j:Nat){y:jx}(hy:y∈rq x (p++[j+k,i])):y∈ox l p j:=by
 induction l generalizing j k with
 |nil=>simp at h
 |cons a l ih=>
  rw[ox]
  cases k with
  |zero=>
   simp only[vp,aZ]at h;subst h
   exact wX _ (TX h2 _ 0 (by simpa using hy))
  |succ k=>exact s_ _ (ih (by simpa using h) (j+1) (by rwa[show j+1+k=j+(k+1) by omega]))
theorem Tg{l:List (List Sp)}{k i:Nat}{c:List Sp}{x:Sp}(h:l[k]?=some c)(h2:c[i]?=some x)(j:Nat){y:jx}(hy:y∈rq x [j+k,i]):y∈oy l j:=by
 induction l generalizing j k with
 |nil=>simp at h
 |cons a l ih=>
  rw[oy]
  cases k with
  |zero=>
   simp only[vp,aZ]at h;subst h
   exact wX _ (TX h2 _ 0 (by simpa using hy))
  |succ k=>exact s_ _ (ih (by simpa using h) (j+1) (by rwa[show j+1+k=j+(k+1) by omega]))
theorem Ub:∀(n:Nat) (r:List Int),r.length<=n->∀(x:Sp) (p:List Nat) (z:Sp),vf x r=some z->∃y∈rq x p,nz y.path=nz p++r/\y.fr=z.f/\y.to=z.t:=by
 intro n;induction n with
 |zero=>
  intro r hr x p z h
  obtain rfl:r=[]:=List.eq_nil_of_length_eq_zero (by omega);cases h;cases x with
  |mk f t ins=>exact⟨⟨f,t,p⟩,by simp[rq],by simp,rfl,rfl⟩
 |succ n ih=>
  intro r hr x p z h
  cases r with
  |nil=>
   cases h
   cases x with
   |mk f t ins=>exact⟨⟨f,t,p⟩,by simp[rq],by simp,rfl,rfl⟩
  |cons a r=>
   have h':fq (a::r) x.ins=some z:=h
   obtain⟨k,i,r',c,x',h1,h2,h3,h4⟩:=LR h';rw[h1]at hr;simp only[eZ]at hr;obtain⟨y,hy,h5,h6⟩:=ih r' (by omega) x' (p++[k,i]) z h4;refine⟨y,?_,by rw[h5,h1];simp[nz],h6⟩;cases x with
   |mk f t ins=>
    rw[rq]
    exact wX _ (aaz h2 h3 p 0 (by simpa using hy))
theorem Xh(l:List (List Sp))(p:List Int):(((oy l 0).find? fun y=>nz y.path==p).map fun y=>(y.fr,y.to))=(fq p l).map fun z=>((z.f:Int),(z.t:Int)):=by
 cases hf:(oy l 0).find? fun y=>nz y.path==p with
 |some y=>
  have hp:=List.find?_some hf
  obtain⟨k,i,r,z,c,x,h1,h2,h3,h4,h5,h6⟩:=adp l 0 y (List.mem_of_find?_eq_some hf);have:fq p l=some z:=by rw[<-beq_iff_eq.1 hp,h3,jz,<-h4];exact LP h1 h2
  simp[this,h5,h6]
 |none=>
  cases hz:fq p l with
  |none=>rfl
  |some z=>
   obtain⟨k,i,r,c,x,h1,h2,h3,h4⟩:=LR hz
   obtain⟨y,hy,h5,-⟩:=Ub r.length r (bF _) x [k,i] z h4;have:=List.find?_eq_none.1 hf y (Tg h2 h3 0 (by simpa using hy));exact absurd (by rw[beq_iff_eq,h5,h1];rfl) this
def jQ(s:List Nat)(p:List Int):Int×Int×Int:=if(bI s).2.2=0 then match fq p (bI s).1.2 with
  |some z=>(z.f,z.t,0)
  |none=>(0,0,1)
 else(0,0,(bI s).2.2)
def rk(s:List Nat)(p:List Int)(v:List Nat):List Nat:=s.take (jQ s p).1.toNat++v++s.drop (jQ s p).2.1.toNat
def yz(s:List Nat)(p:List Int)(v:List Nat):List Nat×Int:=if(jQ s p).2.2=0 then if(bI (rk s p v)).2.2=0 then(rk s p v,0)else([],(bI (rk s p v)).2.2)else([],(jQ s p).2.2)
end Tz
end Go.ah
namespace Go.ah.Tz
open Go.ah
variable{u:Nat}
attribute [local simp] exec ed dP eX aC dQ ft eL ζ gg τ fW gy gH gI lf AV.cells newVar gE rd wr fK single eV bY ek dF μ aY RV.get aV dB iE
theorem PL{v:AV}(h:Dv v v)(n:Nat):exp n false v=v:=by rw[(p9 n false v h.1).2.2.2,h.2]
theorem TV(c:χ)(hc:aJ c)(l:List (List Sp)):Dv (.list c (Sp.lists l)) (.list c (Sp.lists l)):=by have:=Dv.list c (Sp.zp l);rwa[fb hc]at this
theorem f132(x:Sp)(m:Mem):kf u 132 [.agg x.cells] m=some (.list (Φ x.ins) (Sp.lists x.ins),m):=by
 have hx:Dv (.agg x.cells) (.agg x.cells):= .agg (Sp.fx x);have hv:=TV _ (hH x.ins) x.ins;refine bD (g:=ES) rfl rfl rfl ?_;simp only[ay,aA,PL hx];cases x with
 |mk f t ins=>
  simp only[Sp.ins]at hv⊢
  simp[ES,NY,aR,Sp.cells];exact hv.ai _ _ _
def zc:List AV:=[.int .i64 0,.int .i64 0,.list .nil []]
theorem TU(x:Sp):x.cells.length=3:=by cases x;rfl
theorem af5{l:List (List Sp)}{k:Nat}{c:List Sp}(h:l[k]?=some c):(Sp.lists l)[k]?=some (.list (Φ c) (Sp.Δ c)):=by rw[Sp.uW,uh,h];rfl
theorem TW(l:List Sp):Sp.Δ l=l.map fun x=>AV.agg x.cells:=by
 induction l with
 |nil=>rfl
 |cons x l ih=>simp[Sp.Δ,ih]
theorem af8{l:List Sp}{k:Nat}{x:Sp}(h:l[k]?=some x):(Sp.Δ l)[k]?=some (.agg x.cells):=by rw[TW,uh,h];rfl
theorem ac8(z:Sp)(b:Bool):Dv (.aP [.agg z.cells,.bool b]) (.aP [.agg z.cells,.bool b]):= .aP (.cons (.agg (Sp.fx z)) (.cons ⟨rfl,rfl⟩ .nil))
theorem f131(n:Nat):∀(p:List Int),p.length<=n->∀(c1 c2:χ),aJ c1->aJ c2->∀(l:List (List Sp)) (m:Mem),kf u 131 [.list c1 (Sp.lists l),dC c2 p,.fn (.func 132) [] []] m=some (.aP [.agg ((fq p l).getD (.mk 0 0 [])).cells,.bool (fq p l).isSome],m):=by
 induction n using Nat.strongRecOn with
 |ind n ih=>
 intro p hpn c1 c2 GD n9 l m
 have hv:=ac8 ((fq p l).getD (.mk 0 0 [])) (fq p l).isSome;have xQ:=TV c1 GD l;refine bD (g:=ER) rfl rfl rfl ?_;have mB:exp m.ε.length false (.fn (.func 132) [] [])= .fn (.func 132) [] []:=by simp[exp,bn,Fn.below]
 simp only[ay,aA,vF n9,PL xQ,mB,ER,c131];let K:St->Prop:=fun st=>ζ st.env 0= .list c1 (Sp.lists l)/\ζ st.env 1=dC c2 p/\ζ st.env 2= .fn (.func 132) [] []/\ζ st.env 6= .ae 6 0 0/\τ st.loc 6=some (0,.cells zc)/\st.mem= {ε:=m.ε,θ:=[]};refine ω (fun st=>K st/\τ st.loc 8=none/\τ st.loc 9=none) (by simp[K,aR,zc]) fun s1 ⟨⟨h0,h1,h2,h3,h4,h5⟩,h6,h7⟩=>?_;let K2:St->Prop:=fun st=>K st/\ζ st.env 8= .ae 8 0 0/\τ st.loc 8=some (0,.cells zc);refine ω (fun st=>K2 st/\τ st.loc 9=none) (by simp[K2,K,aR,zc,h0,h1,h2,h3,h4,h5,h6,h7]) fun s1 ⟨⟨⟨h0,h1,h2,h3,h4,h5⟩,h6,qM⟩,h7⟩=>?_;have no:∀{a b k:AC} (hz:fq p l=none) (hd:∃s',exec (C u).gl (aU (C u)) fI a s1=some (.normal,s')/\(K2 s'/\ζ s'.env 45= .bool true)),μ (C u).gl (aU (C u)) (.seq (.seq a (.cond (.t 45) (.seq (.ops [⟨(some 46),.ld true 3 (.t 8),none⟩,⟨none,.st 3 (.t 6) (.t 46),none⟩,⟨(some 7),.mv (.c (.bool false)),none⟩]) .ret) b)) k) s1 fun r=>(∀i,r.1≠ .exit i)/\(∃bs,r.2.mem= {ε:=m.ε++bs,θ:=[]})/\∃l',aY r.2 [.cell 6 true 3,.tmp 7]=some l'/\ai r.2.mem.ε m.ε.length 8 (aV l')= .aP [.agg ((fq p l).getD (.mk 0 0 [])).cells,.bool (fq p l).isSome]:=by intro a b k hz hd;refine bc (fun _=>False) (μ.seq' hd fun s2 ⟨⟨⟨q0,q1,q2,q3,q4,q5⟩,q6,q6'⟩,q7⟩=>μ.yes (by simp[q7]) ?_) fun _ h=>h.elim;refine μ.done .ret (fun st=>ζ st.env 6= .ae 6 0 0/\τ st.loc 6=some (0,.cells zc)/\ζ st.env 7= .bool false/\st.mem= {ε:=m.ε,θ:=[]}) (by simp[q0,q1,q2,q3,q4,q5,q6,q6',zc]) fun s' ⟨m1,m2,m3,m4⟩=> .inr ⟨by simp,by simp,⟨[],by rw[m4];simp⟩,[.agg zc,.bool false],by simp[m1,m2,m3,zc],?_⟩;rw[hz]at hv⊢;exact hv.ai _ _ _
 cases p with
 |nil=>
  have hz:fq [] l=none:=rfl
  simp only[dC]at h1;refine no hz ?_;simp[K2,K,h0,h1,h2,h3,h4,h5,h6,qM,dC]
 |cons a p=>
 cases p with
 |nil=>
  have hz:fq [a] l=none:=rfl
  simp only[dC]at h1;refine no hz ?_;simp[K2,K,h0,h1,h2,h3,h4,h5,h6,qM,dC]
 |cons b r=>
 have e2:¬((r.length:Int)+1+1<2):=by omega
 have p0:(0:Int)<(r.length:Int)+1+1:=by omega
 have p1:(1:Int)<(r.length:Int)+1+1:=by omega
 have ll:(Sp.lists l).length=l.length:=by rw[Sp.uW,dd]
 simp only[dC,ay]at h1;by_cases ha:a<0
 ·have hz:fq (a::b::r) l=none:=by simp[fq,ha]
  refine no hz ?_;simp[K2,K,h0,h1,h2,h3,h4,h5,h6,qM,dC,e2,p0,p1,ha]
 have zD:¬a<0:=ha;by_cases GA:(l.length:Int)<=a
 ·have hz:fq (a::b::r) l=none:=by have:l[a.toNat]?=none:=gZ (by omega);simp only[fq,this];split<;>rfl
  refine no hz ?_;simp[K2,K,h0,h1,h2,h3,h4,h5,h6,qM,dC,e2,p0,p1,ha,GA,ll]
 by_cases hb:b<0
 ·have hz:fq (a::b::r) l=none:=by simp[fq,hb]
  refine no hz ?_;simp[K2,K,h0,h1,h2,h3,h4,h5,h6,qM,dC,e2,p0,p1,ha,GA,hb,ll]
 obtain⟨k,rfl⟩:∃k:Nat,a=k:=⟨a.toNat,by omega⟩;obtain⟨i,rfl⟩:∃i:Nat,b=i:=⟨b.toNat,by omega⟩;obtain⟨c,hc⟩:∃c,l[k]?=some c:=⟨_,dr (by omega)⟩;have gc:=af5 hc;have hk:(k:Int)<l.length:=by omega
 have cl:(Sp.Δ c).length=c.length:=by rw[TW,dd]
 by_cases QU:(c.length:Int)<=i
 ·have hz:fq ((k:Int)::(i:Int)::r) l=none:=by have:c[i]?=none:=gZ (by omega);simp only[fq,Du,hc,this];split<;>rfl
  refine no hz ?_;simp[K2,K,h0,h1,h2,h3,h4,h5,h6,qM,dC,e2,p0,p1,ha,GA,hb,QU,ll,cl,gc,hk]
 obtain⟨x,hx⟩:∃x,c[i]?=some x:=⟨_,dr (by omega)⟩;have gx:=af8 hx;have hi:(i:Int)<c.length:=by omega
 have hz:=LP (r:=r) hc hx;have ae9:=fun m=>f132 (u:=u) x m;clear no;let K3:St->Prop:=fun st=>ζ st.env 1= .list c2 (.int .i64 k:: .int .i64 i::r.map (AV.int .i64))/\ζ st.env 2= .fn (.func 132) [] []/\ζ st.env 6= .ae 6 0 0/\τ st.loc 6=some (0,.cells zc)/\st.mem= {ε:=m.ε,θ:=[]}/\τ st.loc 9=none/\ζ st.env 0= .list c1 (Sp.lists l);refine ω (K3) (by simp[K3,h0,h1,h2,h3,h4,h5,h6,qM,h7,dC,e2,p0,p1,ha,GA,hb,QU,ll,cl,gc,hk]) fun s1 ⟨h1,h2,h3,h4,h5,h7,h0⟩=>?_;let K4:St->Prop:=fun st=>ζ st.env 1= .list c2 (.int .i64 k:: .int .i64 i::r.map (AV.int .i64))/\ζ st.env 2= .fn (.func 132) [] []/\ζ st.env 6= .ae 6 0 0/\τ st.loc 6=some (0,.cells zc)/\st.mem= {ε:=m.ε,θ:=[]}/\ζ st.env 9= .ae 9 0 0/\τ st.loc 9=some (0,.cells x.cells);have xl:=TU x;have x3:x.cells.take 3=x.cells:=dY (by omega);refine ω (K4) (by simp[K4,h0,h1,h2,h3,h4,h5,h7,p0,p1,gc,gx,hk,hi,ll,cl,xl,x3,aR,vC]) fun s1 ⟨h1,h2,h3,h4,h5,h7,h8⟩=>?_;cases r with
 |nil=>
  rw[hz]at hv⊢
  refine bc (fun _=>False) ?_ fun _ h=>h.elim;refine μ.done .ret (fun st=>ζ st.env 6= .ae 6 0 0/\τ st.loc 6=some (0,.cells x.cells)/\ζ st.env 7= .bool true/\st.mem= {ε:=m.ε,θ:=[]}) (by simp[h1,h2,h3,h4,h5,h7,h8,xl,x3,zc]) fun s' ⟨m1,m2,m3,m4⟩=> .inr ⟨by simp,by simp,⟨[],by rw[m4];simp⟩,[.agg x.cells,.bool true],by simp[m1,m2,m3,xl,x3],?_⟩;exact hv.ai _ _ _
 |cons d r=>
  have ak:¬((r.length:Int)+1+1+1=2):=by omega
  have Ce:((r.length:Int)+1+1+1==2)=false:=beq_eq_false_iff_ne.2 ak;refine ω (K4) (by simp[K4,h1,h2,h3,h4,h5,h7,h8,ak,Ce]) fun s1 ⟨h1,h2,h3,h4,h5,h7,h8⟩=>?_;obtain⟨c3,J9,Yr⟩:∃c3,aJ c3/\(if c2=χ.nil then χ.nil else if c2=χ.full then χ.full else χ.any)=c3:=by
   rcases n9 with rfl|rfl
   ·exact⟨.nil,.inl rfl,by simp⟩
   ·exact⟨.any,.inr rfl,by simp⟩
  have u7:=fun m=>ih (r.length+1) (by simp only[eZ]at hpn;omega) (d::r) (bF _) (Φ x.ins) c3 (hH _) J9 x.ins m;have dH:vf x (d::r)=fq (d::r) x.ins:=rfl;rw[dH]at hz;rw[hz]at hv⊢;generalize fq (d::r) x.ins=lz at*;have zl:=TU (lz.getD (.mk 0 0 []));have z3:(lz.getD (.mk 0 0 [])).cells.take 3=(lz.getD (.mk 0 0 [])).cells:=dY (by omega);simp only[dC,ay]at u7;have tl:(r.map (AV.int .i64)).take r.length=r.map (AV.int .i64):=dY (by simp);have s2:(2:Int)<=(r.length:Int)+1+1+1:=by omega
  refine μ.done .ret (fun st=>ζ st.env 6= .ae 6 0 0/\τ st.loc 6=some (0,.cells (lz.getD (.mk 0 0 [])).cells)/\ζ st.env 7= .bool lz.isSome/\st.mem= {ε:=m.ε,θ:=[]}) (by simp[h1,h2,h3,h4,h5,h7,h8,xl,x3,zc,ae9,bound,s2,Yr,u7,zl,z3,tl]) fun s' ⟨m1,m2,m3,m4⟩=>⟨by simp,⟨[],by rw[m4];simp⟩,[.agg (lz.getD (.mk 0 0 [])).cells,.bool lz.isSome],by simp[m1,m2,m3,zl,z3],?_⟩;exact hv.ai _ _ _
theorem f61(s:List Nat)(hs:cX s)(hl:s.length<1000000000)(p:List Int)(c2:χ)(n9:aJ c2)(m:Mem):kf u 61 [.str s,dC c2 p] m=some (.aP [.int .i64 (jQ s p).1,.int .i64 (jQ s p).2.1,.int .i64 (jQ s p).2.2],m):=by
 have C6:=fun m=>f124 (u:=u) s hs hl m;simp only[wO]at C6;have u7:=fun m=>f131 (u:=u) p.length p (bF _) (Φ (bI s).1.2) c2 (hH _) n9 (bI s).1.2 m;unfold jQ;generalize bI s=X at*;obtain⟨⟨ps,li⟩,w,e⟩:=X;dsimp only at*;refine bD (g:=Gn) rfl rfl rfl ?_;simp only[ay,aA,vF n9,exp,Gn,O_];let K:St->Prop:=fun st=>ζ st.env 1=dC c2 p/\st.mem= {ε:=m.ε,θ:=[]};refine ω (fun st=>K st/\ζ st.env 0= .str s/\τ st.loc 7=none/\τ st.loc 11=none) (by simp[K]) fun s1 ⟨⟨h1,h2⟩,h3,h4,h5⟩=>?_;let K2:St->Prop:=fun st=>K st/\ζ st.env 8= .list (Φ li) (Sp.lists li)/\ζ st.env 10= .int .i64 e/\τ st.loc 11=none;refine ω (K2) (by simp[K2,K,h1,h2,h3,h4,h5,C6,aR]) fun s1 ⟨⟨h1,h2⟩,h3,h4,h5⟩=>?_;by_cases he:e=0
 ·subst he;refine ω (K2) (by simp[K2,K,h1,h2,h3,h4,h5]) fun s1 ⟨⟨h1,h2⟩,h3,h4,h5⟩=>?_;cases hz:fq p li with
  |none=>
   rw[hz]at u7
   simp only[Option.getD_none,Option.isSome_none,Sp.cells]at u7;refine ω (fun st=>ζ st.env 12= .bool false/\st.mem= {ε:=m.ε,θ:=[]}) (by simp[h1,h2,h3,h4,h5,u7,aR]) fun s1 ⟨h1,h2⟩=>?_;simp[h1,h2,ai,bK,hU]
  |some z=>
   rw[hz]at u7
   cases z with
   |mk f t ins=>
   simp only[Option.getD_some,Option.isSome_some,Sp.cells]at u7
   refine ω (fun st=>ζ st.env 12= .bool true/\ζ st.env 11= .ae 11 0 0/\τ st.loc 11=some (0,.cells [.int .i64 f,.int .i64 t,.list (Φ ins) (Sp.lists ins)])/\st.mem= {ε:=m.ε,θ:=[]}) (by simp[h1,h2,h3,h4,h5,u7,aR]) fun s1 ⟨h1,h2,h3,h4⟩=>?_;simp[h1,h2,h3,h4,Sp.f,Sp.t,ai,bK,hU]
 ·have fT:(e==0)=false:=beq_eq_false_iff_ne.2 he;refine bc (fun _=>False) ?_ fun _ h=>h.elim;simp[h1,h2,h3,h4,h5,he,fT,ai,bK,hU]
theorem Uq{s:List Nat}(hs:cX s)(hl:s.length<1000000000)(p:List Int):0<=(jQ s p).1/\(jQ s p).1<=s.length/\0<=(jQ s p).2.1/\(jQ s p).2.1<=s.length:=by
 obtain⟨sp,⟨-,c,gl,-,-,-,ab,di⟩,-⟩:=f54 (u:=0) s hs hl {ε:=[],θ:=[]};unfold jQ;by_cases he:(bI s).2.2=0
 ·simp only[he,if_true];cases hz:fq p (bI s).1.2 with
  |none=>simp
  |some z=>
   obtain⟨k,i,r,c',x,h1,h2,h3,h4⟩:=LR hz
   obtain⟨y,hy,-,h6,h7⟩:=Ub r.length r (bF _) x [k,i] z h4;have hm:=Tg (l:=(bI s).1.2) h2 h3 0 (y:=y) (by simpa using hy);rw[<-di he]at hm;obtain⟨g,hg,rfl⟩:=List.mem_map.1 hm;have:=ab g hg;simp only[jx.Ok]at this;simp only;omega
 ·simp[he]
theorem To{s v:List Nat}{p:List Int}(hs:cX s)(hv:cX v):cX (rk s p v):=fun b hb=>by
 rcases dE.1 hb with h|h
 ·rcases dE.1 h with h|h
  ·exact hs b (List.mem_of_mem_take h)
  ·exact hv b h
 ·exact hs b (List.mem_of_mem_drop h)
theorem Tn(s v:List Nat)(p:List Int):(rk s p v).length<=s.length+v.length+s.length:=by simp only[rk,List.length_append,List.length_take,List.length_drop];omega
theorem f62(s v:List Nat)(hs:cX s)(hv:cX v)(hl:s.length<100000000)(uQ:v.length<100000000)(p:List Int)(c2:χ)(n9:aJ c2)(m:Mem):kf u 62 [.str s,dC c2 p,.str v] m=some (.aP [.str (yz s p v).1,.int .i64 (yz s p v).2],m):=by
 have MC:=fun m=>f61 (u:=u) s hs (by omega) p c2 n9 m;have hb:=Uq hs (by omega) p;have sL:=fun m=>f39 (u:=u) (rk s p v) (To hs hv) (by have:=Tn s v p;omega) m;unfold yz;have hT:rk s p v=s.take (jQ s p).1.toNat++v++s.drop (jQ s p).2.1.toNat:=rfl;generalize rk s p v=T at*;generalize jQ s p=X at*;obtain⟨a,b,e⟩:=X;generalize bI T=Y at*;obtain⟨⟨ps,li⟩,w,e2⟩:=Y;dsimp only at*;obtain⟨a,rfl⟩:∃n:Nat,a=n:=⟨a.toNat,by omega⟩;obtain⟨b,rfl⟩:∃n:Nat,b=n:=⟨b.toNat,by omega⟩;simp only[Du]at hT;have ha:a<=s.length:=by omega
 have bf:b<=s.length:=by omega
 have n1:¬(9223372036854775807:Int)<(a:Int)+v.length:=by omega
 have n2:¬(9223372036854775807:Int)<(a:Int)+v.length+((s.length-b:Nat):Int):=by omega
 refine bD (g:=Gp) rfl rfl rfl ?_;simp only[ay,aA,vF n9,exp,Gp,O'];let K:St->Prop:=fun st=>ζ st.env 0= .str s/\ζ st.env 2= .str v/\st.mem= {ε:=m.ε,θ:=[]}/\τ st.loc 12=none;refine ω (fun st=>K st/\ζ st.env 1=dC c2 p) (by simp[K]) fun s1 ⟨⟨h0,h1,h2,h3⟩,h4⟩=>?_;let K2:St->Prop:=fun st=>K st/\ζ st.env 8= .int .i64 a/\ζ st.env 9= .int .i64 b/\ζ st.env 10= .int .i64 e;refine ω (K2) (by simp[K2,K,h0,h1,h2,h3,h4,MC]) fun s1 ⟨⟨h0,h1,h2,h3⟩,h4,h5,h6⟩=>?_;by_cases he:e=0
 ·subst he;refine ω (K2) (by simp[K2,K,h0,h1,h2,h3,h4,h5,h6]) fun s1 ⟨⟨h0,h1,h2,h3⟩,h4,h5,h6⟩=>?_;refine ω (fun st=>ζ st.env 11= .str T/\st.mem= {ε:=m.ε,θ:=[]}/\τ st.loc 12=none) (by simp[h0,h1,h2,h3,h4,h5,h6,bound,ha,bf,hT,n1,n2]) fun s1 ⟨h1,h2,h3⟩=>?_;by_cases gM:e2=0
  ·subst gM;refine ω (fun st=>ζ st.env 11= .str T/\st.mem= {ε:=m.ε,θ:=[]}) (by simp[h1,h2,h3,sL,aR]) fun s1 ⟨h1,h2⟩=>?_;simp[h1,h2,ai,bK,hU]
  ·have fT:(e2==0)=false:=beq_eq_false_iff_ne.2 gM;refine bc (fun _=>False) ?_ fun _ h=>h.elim;simp[h1,h2,h3,sL,aR,gM,fT,ai,bK,hU]
 ·have fT:(e==0)=false:=beq_eq_false_iff_ne.2 he;refine bc (fun _=>False) ?_ fun _ h=>h.elim;simp[h0,h1,h2,h3,h4,h5,h6,he,fT,ai,bK,hU]
end Go.ah.Tz
