import Derived.Test.YtiigojkfojnedaaGreatDoorSKa
import Derived.Test.YtiigojkfojnedaaGreatDoorSHm
set_option linter.all false
set_option maxRecDepth 100000
set_option maxHeartbeats 8000000
open Bool renaming and_eq_true->ej,not_eq_true'->Ao,or_eq_false_iff->Fj,true_and->rr,false_eq_true->jV,true_eq_false->Cn
open List renaming all_eq_true->dO,contains_iff_mem->yd,cons_append->cG,append_assoc->bO,nil_append->bE,map_cons->az,map_nil->aJ,length_append->cI,length_cons->cD,mem_cons->cy,not_mem_nil->lE,length_nil->eO,mem_map->eP,mem_singleton->fU,take_left->ama,mem_append->dT,head?_cons->amb
open Nat renaming lt_of_lt_of_le->ku
open List.cons renaming injEq->u9
open Prod renaming snd->alS
open Option.some renaming injEq->bh
namespace Go.Θ
open Tz (vt)
def di:List Nat->Nat
 |[]=>0
 |b::_=>if isLet b then 1 else if ca b then 2 else b
def TS:List (List Nat)->List Tok->Prop
 |[],[]=>True
 |w::ws,t::ts=>(t.text=w/\t.kind=di w/\t.c8= -1)/\TS ws ts
 |_,_=>False
theorem TS.split{a b:List (List Nat)}{ts:List Tok}(h:TS (a++b) ts):∃t1 t2,ts=t1++t2/\TS a t1/\TS b t2:=by
 induction a generalizing ts with
 |nil=>exact⟨[],ts,rfl,trivial,h⟩
 |cons w a ih=>
  cases ts with
  |nil=>exact h.elim
  |cons t ts=>
   obtain⟨t1,t2,rfl,h1,h2⟩:=ih h.2
   exact⟨t::t1,t2,rfl,⟨h.1,h1⟩,h2⟩
theorem TS.cons{w:List Nat}{ws:List (List Nat)}{ts:List Tok}(h:TS (w::ws) ts):∃t r,ts=t::r/\(t.text=w/\t.kind=di w/\t.c8= -1)/\TS ws r:=by
 cases ts with
 |nil=>exact h.elim
 |cons t ts=>exact⟨t,ts,rfl,h.1,h.2⟩
theorem TS.one{w:List Nat}{ts:List Tok}(h:TS [w] ts):∃t,ts=[t]/\(t.text=w/\t.kind=di w/\t.c8= -1):=by
 obtain⟨t,r,rfl,h1,h2⟩:=h.cons;cases r with
 |nil=>exact⟨t,rfl,h1⟩
 |cons=>exact h2.elim
theorem TS.nil{ts:List Tok}(h:TS [] ts):ts=[]:=by cases ts<;>first|rfl|exact h.elim
theorem TS.len{ws:List (List Nat)}{ts:List Tok}(h:TS ws ts):ts.length=ws.length:=by
 induction ws generalizing ts with
 |nil=>rw[h.nil];rfl
 |cons w ws ih=>obtain⟨t,r,rfl,-,h2⟩:=h.cons;simp[ih h2]
def lN(r:List Tok):List Nat:=match r with
 |[]=>[]
 |t::_=>t.text
theorem P0{e:Nat}{f:Tok->Bool}{w:List Nat}{t:Tok}{r:List Tok}{a:Nat}(ht:t.text=w/\t.kind=di w/\t.c8= -1)(hk:di w≠0)(hf:f t=true):ko e f ⟨a,t::r⟩= .ok w ⟨t.at_+t.text.length,r⟩:=by
 have h1:¬(t.kind=0\/f t=false):=by rw[ht.2.1,hf];simpa using hk
 have h2:¬(0<=t.c8):=by rw[ht.2.2];decide
 simp only[ko,h1,h2,if_false,ht.1]
theorem u5{e:Nat}{w:List Nat}{t:Tok}{r:List Tok}{a:Nat}(ht:t.text=w/\t.kind=di w/\t.c8= -1)(hk:di w≠0):aE e w ⟨a,t::r⟩= .ok w ⟨t.at_+t.text.length,r⟩:=
 P0 ht hk (by simp[ht.1])
theorem OK{w:List Nat}(h:dc w=true):di w=1/\vt w=false:=by
 simp only[dc,ej,Ao,decide_eq_true_eq]at h;obtain⟨⟨⟨⟨h1,h2⟩,h3⟩,h4⟩,h5⟩:=h;constructor
 ·cases w with
  |nil=>simp at h1
  |cons b w=>
   have:isLet b=true:=by simpa[su,isLet]using(dO.1 h3) b (by simp)
   simp[di,this]
 ·cases hh:vt w with
  |false=>rfl
  |true=>
   have hm:w∈Tz.AE:=yd.1 hh
   have jX:(Tz.AE.all fun w=>fu.contains w||uF.contains w)=true:=by decide
   have:=dO.1 jX w hm;rw[h4,h5]at this;cases this
theorem O1{e:Nat}{w:List Nat}{t:Tok}{r:List Tok}{a:Nat}(hn:dc w=true)(ht:t.text=w/\t.kind=di w/\t.c8= -1):gY e ⟨a,t::r⟩= .ok w ⟨t.at_+t.text.length,r⟩:=by obtain⟨h1,h2⟩:=OK hn;exact P0 ht (by rw[h1];decide) (by rw[ht.2.1,ht.1,h1,h2];rfl)
theorem F3{n:Nat}(h:n<100):di (fq n)=2/\numOf (fq n)=n:=by
 by_cases h1:n<10
 ·have e:fq n=[48+n]:=if_pos h1;rw[e];have a:¬(97<=48+n):=by omega
  have b:48<=48+n/\48+n<=57:=by omega
  exact⟨by simp[di,isLet,ca,a,b.2],by simp[numOf]⟩
 ·have e:fq n=[48+n/10,48+n % 10]:=if_neg h1;rw[e];have b:48+n/10<=57:=by omega
  exact⟨by simp[di,isLet,ca,b];omega,by simp[numOf];omega⟩
theorem WK{e n:Nat}(hn:n<100){t:Tok}{r:List Tok}{a:Nat}(ht:t.text=fq n/\t.kind=di (fq n)/\t.c8= -1):uJ e ⟨a,t::r⟩= .ok n ⟨t.at_+t.text.length,r⟩:=by obtain⟨h1,h2⟩:=F3 hn;have:=P0 (e:=e) (f:=fun t=>t.kind==2) (r:=r) (a:=a) ht (by rw[h1];decide) (by rw[ht.2.1,h1];rfl);simp only[uJ,this,R.map,h2]
def qj(b:Bool)(ws:List (List Nat)):List (List Nat):=if b then[40]::(ws++[[41]])else ws
def sx(k:Int):List Nat:=if k=3 then[43]else if k=4 then[45]else[42]
def tA(k n:Int)(s:List Nat)(ks:List Int)(ts:List (List (List Nat))):List (List Nat):=
 if k=1 then[fq n.toNat]else if k=2 then[s]else
  match ks,ts with
  |[ka,kb],[ta,tb]=>qj (decide (k=5)&&fW ka) ta++sx k::qj (if k=5 then decide (3<=kb)else fW kb) tb
  |_,_=>[]
mutual
def ζ.words:ζ->List (List Nat)
 | .mk k n s _ l=>tA k n s (l.map ζ.kind) (ζ.JY l)
def ζ.JY:List ζ->List (List (List Nat))
 |[]=>[]
 |x::l=>x.words::ζ.JY l
end
inductive ζ.Can:ζ->Prop
 |fix {n:Int} (h1:0<=n) (h2:n<100):ζ.Can (.mk 1 n [] .nil [])
 |dS {s:List Nat} (h:dc s=true):ζ.Can (.mk 2 0 s .nil [])
 |bin {k:Int} {a b:ζ} (h1:3<=k) (h2:k<=5) (ha:ζ.Can a) (hb:ζ.Can b):ζ.Can (.mk k 0 [] .any [a,b])
abbrev cP:PS->Bool:=fun s=>s.a_ [42]
abbrev cS:PS->Bool:=fun s=>s.a_ [43]||s.a_ [45]
abbrev fP(e:Nat)(at':PS->R ζ):ζ->PS->R ζ:=fun x s=>(aE e [42] s).bind fun _ s=>(at' s).map fun y=> .mk 5 0 [] .any [x,y]
abbrev fS(e:Nat)(pr:PS->R ζ):ζ->PS->R ζ:=fun x s=>(aE e s.hd s).bind fun w s=>(pr s).map fun y=> .mk (if w=[45]then 4 else 3) 0 [] .any [x,y]
def Reads(P:PS->R ζ)(x:ζ)(ws:List (List Nat))(stop:List (List Nat)):Prop:=
 ∀a ts rest,TS ws ts->lN rest∉stop->∃b,P ⟨a,ts++rest⟩= .ok x ⟨b,rest⟩
theorem BN{α:Type}{c:PS->Bool}{f:α->PS->R α}{n:Nat}{x:α}{s:PS}(hc:c s=false):cR c f (n+1) x s= .ok x s:=by simp only[cR,hc];rfl
theorem EA{α:Type}{c:PS->Bool}{f:α->PS->R α}{n:Nat}{x:α}{s:PS}(hc:c s=true):cR c f (n+1) x s=(f x s).bind (cR c f n):=by simp only[cR,hc];rfl
theorem vC(a:Nat)(r:List Tok):(⟨a,r⟩:PS).hd=lN r:=rfl
theorem MR{w:List Nat}{ws:List (List Nat)}{ts rest:List Tok}(h:TS (w::ws) ts):lN (ts++rest)=w:=by obtain⟨t,r,rfl,h1,-⟩:=h.cons;exact h1.1
theorem Kw{e k:Nat}{x:ζ}(hx:x.Can)(ih:Reads (aC e k) x x.words [[42],[43],[45]]):Reads (fC e (aC e k)) x (qj true x.words) []:=by
 intro a ts rest ht _;simp only[qj,if_true]at ht;obtain⟨t,r,rfl,h1,h2⟩:=ht.cons;obtain⟨t1,t2,rfl,h3,h4⟩:=h2.split;obtain⟨t',rfl,h5⟩:=h4.one;have hb:(⟨a,t::(t1++[t'])++rest⟩:PS).a_ [40]=true:=by simp[PS.a_,PS.hd,h1.1]
 obtain⟨b,dz⟩:=ih (t.at_+t.text.length) t1 (t'::rest) h3 (by show t'.text∉_;rw[h5.1];decide);refine⟨t'.at_+t'.text.length,?_⟩;simp only[fC,hb,if_true];simp only[cG,u5 h1 (by decide),R.bind,bO,bE,dz,u5 h5 (by decide),R.map]
theorem QE{e:Nat}{ix:PS->R ζ}{x:ζ}(hx:x.Can)(hk:x.kind<=2):Reads (fC e ix) x x.words []:=by
 intro a ts rest ht _;cases hx with
 |@fix n h1 h2=>
  obtain⟨n,rfl⟩:∃j:Nat,n=j:=⟨n.toNat,by omega⟩
  have h3:n<100:=by omega
  simp only[ζ.words,tA,if_true,Int.toNat_natCast]at ht;obtain⟨t,rfl,h⟩:=ht.one;obtain⟨k1,-⟩:=F3 h3;have hb:(⟨a,[t]++rest⟩:PS).a_ [40]=false:=by
   have:fq n≠[40]:=fun e=>by rw[e]at k1;revert k1;decide
   simpa[PS.a_,PS.hd,h.1]using this
  have o9:(⟨a,[t]++rest⟩:PS).kd=2:=by simp[PS.kd,h.2.1,k1]
  refine⟨t.at_+t.text.length,?_⟩;simp only[fC,hb,o9];simp only[cG,bE,WK h3 h,R.map];rfl
 |@dS s h1=>
  simp only[ζ.words,tA]at ht
  obtain⟨t,rfl,h⟩:=(show TS [s] ts from ht).one;obtain⟨k1,k2⟩:=OK h1;have hb:(⟨a,[t]++rest⟩:PS).a_ [40]=false:=by
   have:s≠[40]:=fun e=>by rw[e]at k1;revert k1;decide
   simpa[PS.a_,PS.hd,h.1]using this
  have o9:(⟨a,[t]++rest⟩:PS).kd=1:=by simp[PS.kd,h.2.1,k1]
  refine⟨t.at_+t.text.length,?_⟩;simp only[fC,hb,o9];simp only[cG,bE,O1 h1 h,R.map];rfl
 |bin h1 h2=>simp only[ζ.kind]at hk;omega
theorem P3{k:Int}{a b:ζ}(h1:3<=k):(ζ.mk k 0 [] .any [a,b]).words=qj (decide (k=5)&&fW a.kind) a.words++sx k::qj (if k=5 then decide (3<=b.kind)else fW b.kind) b.words:=by
 have e1:¬k=1:=by omega
 have e2:¬k=2:=by omega
 simp only[ζ.words,ζ.JY,tA,e1,e2,if_false,az,aJ]
theorem Pc(b:Bool)(ws:List (List Nat)):ws.length<=(qj b ws).length/\(b=true->(qj b ws).length=ws.length+2):=by cases b<;>simp[qj]<;>omega
section
variable{e k N:Nat}(IH:∀y:ζ,y.Can->y.words.length<N->Reads (aC e k) y y.words [[42],[43],[45]])
include IH
theorem aiu{x:ζ}(hx:x.Can):x.words.length<=N->fW x.kind=false->∀a ts rest,TS x.words ts->∃b n,rest.length<n/\lx e (fC e (aC e k)) ⟨a,ts++rest⟩=cR cP (fP e (fC e (aC e k))) n x ⟨b,rest⟩:=by
 have leaf:∀{x:ζ},x.Can->x.kind<=2->∀a ts rest,TS x.words ts->∃b n,rest.length<n/\lx e (fC e (aC e k)) ⟨a,ts++rest⟩=cR cP (fP e (fC e (aC e k))) n x ⟨b,rest⟩:=by intro x hx hk a ts rest ht;obtain⟨b,hb⟩:=QE (e:=e) (ix:=aC e k) hx hk a ts rest ht (by simp);exact⟨b,rest.length+1,by omega,by show(fC _ _ _).bind _=_;rw[hb];rfl⟩
 induction hx with
 |fix h1 h2=>exact fun _ _=>leaf (.fix h1 h2) (by simp[ζ.kind])
 |dS h=>exact fun _ _=>leaf (.dS h) (by simp[ζ.kind])
 |@bin kk a b h1 h2 ha hb dM gx=>
  intro hN hs a0 ts rest ht
  have p8:kk=5:=by
   have:kk≠3/\kk≠4:=by simp only[fW,ζ.kind,Fj]at hs;exact⟨of_decide_eq_false hs.1,of_decide_eq_false hs.2⟩
   omega
  subst p8;rw[P3 h1]at ht hN;simp only[decide_true,rr,if_true]at ht hN;obtain⟨t1,t2,rfl,g1,g2⟩:=ht.split;obtain⟨t,t3,rfl,g3,g4⟩:=g2.cons;have l1:=Pc (fW a.kind) a.words;have l2:=Pc (decide (3<=b.kind)) b.words;simp only[cI,cD]at hN;have first:∃b1 n1,(t::(t3++rest)).length<n1/\lx e (fC e (aC e k)) ⟨a0,t1++(t::(t3++rest))⟩=cR cP (fP e (fC e (aC e k))) n1 a ⟨b1,t::(t3++rest)⟩:=by
   cases NX:fW a.kind with
   |true=>
    rw[NX]at g1 l1 hN
    obtain⟨b1,dy⟩:=Kw (e:=e) ha (IH a ha (by have:=l1.2 rfl;have:=l2.1;omega)) a0 t1 (t::(t3++rest)) g1 (by simp);exact⟨b1,(t::(t3++rest)).length+1,by omega,by show(fC _ _ _).bind _=_;rw[dy];rfl⟩
   |false=>
    rw[NX]at g1
    exact dM (by omega) NX a0 t1 _ g1
  obtain⟨b1,n1,f1,f2⟩:=first
  have second:∃b2,fC e (aC e k) ⟨t.at_+t.text.length,t3++rest⟩= .ok b ⟨b2,rest⟩:=by
   cases qU:decide (3<=b.kind)with
   |true=>
    rw[qU]at g4 l2 hN
    exact Kw (e:=e) hb (IH b hb (by have:=l2.2 rfl;have:=l1.1;omega)) _ t3 rest g4 (by simp)
   |false=>
    rw[qU]at g4
    exact QE (e:=e) (ix:=aC e k) hb (by simp at qU;omega) _ t3 rest g4 (by simp)
  obtain⟨b2,s1⟩:=second;obtain⟨n2,rfl⟩:∃n2,n1=n2+1:=⟨n1-1,by omega⟩;have hc:cP ⟨b1,t::(t3++rest)⟩=true:=by simp[cP,PS.a_,PS.hd,g3.1,sx]
  refine⟨b2,n2,by simp at f1;omega,?_⟩;rw[bO,cG,f2,EA hc];simp only[fP,u5 (show t.text=[42]/\t.kind=di [42]/\t.c8= -1 from g3) (by decide),R.bind,s1,R.map]
theorem Xn{x:ζ}(hx:x.Can)(hN:x.words.length<=N)(hs:fW x.kind=false):Reads (lx e (fC e (aC e k))) x x.words [[42]]:=by
 intro a ts rest ht hr;obtain⟨b,n,h1,h2⟩:=aiu IH hx hN hs a ts rest ht;obtain⟨n2,rfl⟩:∃n2,n=n2+1:=⟨n-1,by omega⟩;have hc:cP ⟨b,rest⟩=false:=by
  have:lN rest≠[42]:=by simpa using hr
  simpa[cP,PS.a_,vC]using this
 exact⟨b,by rw[h2,BN hc]⟩
theorem ahO{x:ζ}(hx:x.Can)(hN:x.words.length<N):Reads (lx e (fC e (aC e k))) x (qj true x.words) [[42]]:=by
 intro a ts rest ht hr;obtain⟨b,hb⟩:=Kw (e:=e) hx (IH x hx hN) a ts rest ht (by simp);have hc:cP ⟨b,rest⟩=false:=by
  have:lN rest≠[42]:=by simpa using hr
  simpa[cP,PS.a_,vC]using this
 exact⟨b,by show(fC _ _ _).bind _=_;rw[hb];exact BN (c:=cP) (f:=fP e (fC e (aC e k))) (n:=rest.length) (x:=x) hc⟩
theorem akb{x:ζ}(hx:x.Can):x.words.length<=N->∀a ts rest,TS x.words ts->lN rest≠[42]->∃b n,rest.length<n/\wm e (lx e (fC e (aC e k))) ⟨a,ts++rest⟩=cR cS (fS e (lx e (fC e (aC e k)))) n x ⟨b,rest⟩:=by
 have leaf:∀{x:ζ},x.Can->x.words.length<=N->fW x.kind=false->∀a ts rest,TS x.words ts->lN rest≠[42]->∃b n,rest.length<n/\wm e (lx e (fC e (aC e k))) ⟨a,ts++rest⟩=cR cS (fS e (lx e (fC e (aC e k)))) n x ⟨b,rest⟩:=by intro x hx hN hs a ts rest ht hr;obtain⟨b,hb⟩:=Xn IH hx hN hs a ts rest ht (by simpa using hr);exact⟨b,rest.length+1,by omega,by show(lx _ _ _).bind _=_;rw[hb];rfl⟩
 induction hx with
 |fix h1 h2=>exact fun h=>leaf (.fix h1 h2) h (by simp[ζ.kind,fW])
 |dS h=>exact fun h'=>leaf (.dS h) h' (by simp[ζ.kind,fW])
 |@bin kk a b h1 h2 ha hb dM gx=>
  intro hN
  by_cases p8:kk=5
  ·subst p8;exact leaf (.bin h1 h2 ha hb) hN (by simp[ζ.kind,fW])
  intro a0 ts rest ht hr;rw[P3 h1]at ht hN;have e5:decide (kk=5)=false:=by simpa using p8
  simp only[e5,Bool.false_and,if_neg p8]at ht hN;obtain⟨t1,t2,rfl,g1,g2⟩:=ht.split;obtain⟨t,t3,rfl,g3,g4⟩:=g2.cons;have l2:=Pc (fW b.kind) b.words;simp only[cI,cD,qj,jV,if_false]at hN g1;have vH:b.words.length<N:=by have:=l2.1;have:(if fW b.kind=true then[40]::(b.words++[[41]])else b.words).length=(qj (fW b.kind) b.words).length:=rfl;omega
  have Ξ:sx kk≠[42]/\di (sx kk)≠0/\(sx kk=[43]\/sx kk=[45])/\(if sx kk=[45]then(4:Int)else 3)=kk:=by
   have:kk=3\/kk=4:=by omega
   rcases this with rfl|rfl<;>decide
  obtain⟨b1,n1,f1,f2⟩:=dM (by omega) a0 t1 (t::(t3++rest)) g1 (by show t.text≠_;rw[g3.1];exact Ξ.1);have second:∃b2,lx e (fC e (aC e k)) ⟨t.at_+t.text.length,t3++rest⟩= .ok b ⟨b2,rest⟩:=by
   cases qU:fW b.kind with
   |true=>rw[qU]at g4;exact ahO IH hb vH _ t3 rest g4 (by simpa using hr)
   |false=>rw[qU]at g4;exact Xn IH hb (by omega) qU _ t3 rest g4 (by simpa using hr)
  obtain⟨b2,s1⟩:=second;obtain⟨n2,rfl⟩:∃n2,n1=n2+1:=⟨n1-1,by omega⟩;have hc:cS ⟨b1,t::(t3++rest)⟩=true:=by rcases Ξ.2.2.1 with h|h<;>simp[cS,PS.a_,PS.hd,g3.1,h]
  have DI:(⟨b1,t::(t3++rest)⟩:PS).hd=sx kk:=g3.1;refine⟨b2,n2,by simp at f1;omega,?_⟩;rw[bO,cG,f2,EA hc];simp only[fS,DI,u5 g3 Ξ.2.1,R.bind,s1,R.map,Ξ.2.2.2]
end
theorem adx(e:Nat):∀(k:Nat) (x:ζ),x.Can->x.words.length<k->Reads (aC e k) x x.words [[42],[43],[45]]:=by
 intro k;induction k with
 |zero=>intro x _ h;omega
 |succ k ih=>
  intro x hx hk a ts rest ht hr
  simp only[cy,lE,or_false,not_or]at hr;obtain⟨b,n,h1,h2⟩:=akb (N:=k) ih hx (by omega) a ts rest ht hr.1;obtain⟨n2,rfl⟩:∃n2,n=n2+1:=⟨n-1,by omega⟩;have hc:cS ⟨b,rest⟩=false:=by simp[cS,PS.a_,vC,hr.2.1,hr.2.2]
  exact⟨b,by show wm e _ _=_;rw[h2,BN hc]⟩
def jK:Nat->List Tok->Nat
 |a,[]=>a
 |_,t::ts=>jK (t.at_+t.text.length) ts
theorem wS(a:Nat)(x y:List Tok):jK a (x++y)=jK (jK a x) y:=by
 induction x generalizing a with
 |nil=>rfl
 |cons t x ih=>exact ih _
def Ends{α:Type}(P:PS->R α):Prop:=∀s x t,P s= .ok x t->∃ts,s.l=ts++t.l/\t.last=jK s.last ts
theorem Ends.take(e:Nat)(f:Tok->Bool):Ends (ko e f):=by
 intro s x t h;unfold ko at h;split at h
 ·cases h
 ·rename_i y l hl;split at h
  ·cases h
  ·split at h
   ·cases h
   ·cases h;exact⟨[y],by simp[hl],rfl⟩
theorem Ends.bind{α β:Type}{P:PS->R α}{Q:α->PS->R β}(h:Ends P)(k:∀x,Ends (Q x)):Ends fun s=>(P s).bind Q:=by
 intro s y t e;cases hp:P s with
 |ok x s'=>
  simp only[hp,R.bind]at e
  obtain⟨t1,h1,h2⟩:=h s x s' hp;obtain⟨t2,k1,k2⟩:=k x s' y t e;exact⟨t1++t2,by rw[h1,k1,bO],by rw[k2,h2,wS]⟩
 |no w=>simp only[hp,R.bind]at e;cases e
theorem Ends.map{α β:Type}{P:PS->R α}(f:α->β)(h:Ends P):Ends fun s=>(P s).map f:=by
 intro s y t e;cases hp:P s with
 |ok x s'=>simp only[hp,R.map]at e;cases e;exact h s x _ hp
 |no w=>simp only[hp,R.map]at e;cases e
theorem Ends.no{α:Type}(w:Nat):Ends (α:=α) fun _=> .no w:=by intro s y t e;cases e
theorem Ends.ite{α:Type}{c:PS->Prop}[∀s,Decidable (c s)]{P Q:PS->R α}(h:Ends P)(k:Ends Q):Ends fun s=>if c s then P s else Q s:=by
 intro s x t e;by_cases hc:c s
 ·exact h s x t (by simpa only[hc,if_true]using e)
 ·exact k s x t (by simpa only[hc,if_false]using e)
theorem Ends.loop{α:Type}{c:PS->Bool}{f:α->PS->R α}(h:∀x,Ends (f x)):∀n x,Ends (cR c f n x)
 |0,x=> .no 0
 |n+1,x=>by
  intro s y t e;unfold cR at e;split at e
  ·exact(Ends.bind (h x) fun y=>Ends.loop h n y) s y t e
  ·cases e;exact⟨[],rfl,rfl⟩
theorem Ends.word{β:Type}{e:Nat}{Q:List Nat->PS->R β}(k:∀x,Ends (Q x)):Ends fun s=>(aE e s.hd s).bind Q:=fun s y t h=>(Ends.bind (Ends.take e fun t=>t.text==s.hd) k) s y t h
theorem Ends.Zg{α:Type}{P:PS->R α}(h:Ends P){a b:Nat}{ts rest:List Tok}{x:α}(e:P ⟨a,ts++rest⟩= .ok x ⟨b,rest⟩):b=jK a ts:=by obtain⟨Ah,h1,h2⟩:=h _ _ _ e;have:ts=Ah:=List.append_cancel_right h1;rw[this];exact h2
theorem SW(e:Nat):∀k,Ends (aC e k)
 |0=> .no 0
 |k+1=>by
  have ih:=SW e k;have jz:Ends (fC e (aC e k)):= .ite ((Ends.take _ _).bind fun _=>ih.bind fun x=>(Ends.take _ _).map _) (.ite (((Ends.take _ _).map _).map _) ((Ends.take _ _).map _));have vO:Ends (lx e (fC e (aC e k))):=by
   intro s y t h;simp only[lx]at h;cases hp:fC e (aC e k) s with
   |ok x s'=>
    rw[hp]at h
    obtain⟨t1,h1,h2⟩:=jz s x s' hp;obtain⟨t2,k1,k2⟩:=Ends.loop (fun x=>(Ends.take _ _).bind fun _=>jz.map _) _ x s' y t h;exact⟨t1++t2,by rw[h1,k1,bO],by rw[k2,h2,wS]⟩
   |no w=>rw[hp]at h;cases h
  intro s y t h;show∃ts,_;have h:wm e (lx e (fC e (aC e k))) s= .ok y t:=h;simp only[wm]at h;cases hp:lx e (fC e (aC e k)) s with
  |ok x s'=>
   rw[hp]at h
   obtain⟨t1,h1,h2⟩:=vO s x s' hp;obtain⟨t2,k1,k2⟩:=Ends.loop (fun x=>Ends.word fun w=>vO.map _) _ x s' y t h;exact⟨t1++t2,by rw[h1,k1,bO],by rw[k2,h2,wS]⟩
  |no w=>rw[hp]at h;cases h
def aS{α:Type}(P:PS->R α)(ws:List (List Nat))(Q:List Tok->α->Prop)(stop:List (List Nat)):Prop:=
 ∀a ts rest,TS ws ts->lN rest∉stop->∃x,Q ts x/\P ⟨a,ts++rest⟩= .ok x ⟨jK a ts,rest⟩
theorem B0{e k:Nat}{x:ζ}(hx:x.Can)(hk:x.words.length<k):aS (aC e k) x.words (fun _ y=>y=x) [[42],[43],[45]]:=by intro a ts rest ht hr;obtain⟨b,hb⟩:=adx e k x hx hk a ts rest ht hr;exact⟨x,rfl,by rw[hb,(SW e k).Zg hb]⟩
theorem aS.bind{α β:Type}{P:PS->R α}{K:α->PS->R β}{w1 w2:List (List Nat)}{Q1:List Tok->α->Prop}{Q2:List Tok->β->Prop}{s1 s2:List (List Nat)}
  (h:aS P w1 Q1 s1) (hs:∀t2 rest,TS w2 t2->lN rest∉s2->lN (t2++rest)∉s1) (k:∀t1 x,TS w1 t1->Q1 t1 x->aS (K x) w2 (fun t2 y=>Q2 (t1++t2) y) s2):aS (fun s=>(P s).bind K) (w1++w2) Q2 s2:=by
 intro a ts rest ht hr;obtain⟨t1,t2,rfl,h1,h2⟩:=ht.split;obtain⟨x,q1,e1⟩:=h a t1 (t2++rest) h1 (hs t2 rest h2 hr);obtain⟨y,q2,e2⟩:=k t1 x h1 q1 (jK a t1) t2 rest h2 hr;refine⟨y,q2,?_⟩;rw[bO];simp only[e1,R.bind,e2,wS]
theorem aS.map{α β:Type}{P:PS->R α}{f:α->β}{w:List (List Nat)}{Q:List Tok->α->Prop}{Q2:List Tok->β->Prop}{s:List (List Nat)}(h:aS P w Q s)(k:∀t x,TS w t->Q t x->Q2 t (f x)):aS (fun s=>(P s).map f) w Q2 s:=by intro a ts rest ht hr;obtain⟨x,q1,e1⟩:=h a ts rest ht hr;exact⟨f x,k ts x ht q1,by simp only[e1,R.map]⟩
theorem aS.weaken{α:Type}{P:PS->R α}{w:List (List Nat)}{Q Q2:List Tok->α->Prop}{s s2:List (List Nat)}(h:aS P w Q s)(hs:∀x,x∈s->x∈s2)(k:∀t x,TS w t->Q t x->Q2 t x):aS P w Q2 s2:=by intro a ts rest ht hr;obtain⟨x,q1,e1⟩:=h a ts rest ht fun h=>hr (hs _ h);exact⟨x,k ts x ht q1,e1⟩
theorem iC(e:Nat){w:List Nat}(hk:di w≠0):aS (aE e w) [w] (fun _ y=>y=w) []:=by intro a ts rest ht _;obtain⟨t,rfl,h⟩:=ht.one;exact⟨w,rfl,u5 h hk⟩
theorem tL(e:Nat){w:List Nat}(hn:dc w=true):aS (gY e) [w] (fun _ y=>y=w) []:=by intro a ts rest ht _;obtain⟨t,rfl,h⟩:=ht.one;exact⟨w,rfl,O1 hn h⟩
theorem aiW(e:Nat){n:Nat}(hn:n<100):aS (uJ e) [fq n] (fun _ y=>y=n) []:=by intro a ts rest ht _;obtain⟨t,rfl,h⟩:=ht.one;exact⟨n,rfl,WK hn h⟩
theorem aS.yes{α:Type}{P P':PS->R α}{w:List Nat}{ws:List (List Nat)}{Q:List Tok->α->Prop}{st:List (List Nat)}(h:aS P (w::ws) Q st)(hp:∀s:PS,s.hd=w->P' s=P s):aS P' (w::ws) Q st:=by intro a ts rest ht hr;obtain⟨x,q1,e1⟩:=h a ts rest ht hr;exact⟨x,q1,by rw[hp _ (by rw[vC];exact MR ht)];exact e1⟩
theorem yx{s:PS}{w v:List Nat}(h:s.hd=w):s.a_ v=(w==v):=by rw[PS.a_,h]
def ξ.words(p:ξ):List (List Nat):=match p.ix with
 |[]=>[p.name]
 |[a]=>[p.name]++([[91]]++(a.words++[[93]]))
 |a::b::_=>[p.name]++([[91]]++(a.words++([[58]]++(b.words++[[93]]))))
structure ξ.Can (p:ξ):Prop where
 nm:dc p.name=true
 c:p.c=Φ p.ix
 len:p.ix.length<=2
 pn:∀x∈p.ix,x.Can
theorem s_{w:List Nat}{ws:List (List Nat)}{t2 rest:List Tok}{st:List (List Nat)}(h:TS (w::ws) t2)(hw:w∉st):lN (t2++rest)∉st:=by rw[MR h];exact hw
theorem EX{e k:Nat}{p:ξ}(hp:p.Can)(hk:p.words.length<k):aS (kg e (aC e k)) p.words (fun _ y=>y=p) [[91]]:=by
 obtain⟨nm,c,ix⟩:=p;obtain⟨h1,h2,h3,h4⟩:=hp;simp only at h1 h2 h3 h4
 match ix,h2,h3,h4,hk with
 |[],h2,_,_,_=>
  subst h2
  intro a ts rest ht hr;obtain⟨t,rfl,h⟩:=(show TS [nm] ts from ht).one;have hb:(⟨t.at_+t.text.length,rest⟩:PS).a_ [91]=false:=by
   have:lN rest≠[91]:=by simpa using hr
   simpa[PS.a_,vC]using this
  refine⟨_,rfl,?_⟩;simp only[kg,cG,bE,O1 h1 h,R.bind,hb];rfl
 |[x],h2,_,h4,hk=>
  subst h2
  simp only[ξ.words,cI,cD]at hk;have hx:=h4 x (by simp);refine(tL e h1).bind (fun _ _ _ _=>by simp) fun t1 n _ hn=>?_;subst hn;refine aS.yes (P:=fun s=>(aE e [91] s).bind fun _ s=>(aC e k s).bind fun x s=>(if s.a_ [58]then(aE e [58] s).bind fun _ s=>(aC e k s).map fun y=>[x,y]else .ok [x] s).bind fun l s=>(aE e [93] s).map fun _=>(⟨n,.any,l⟩:ξ)) ?_ fun s hs=>by simp only[yx hs];rfl
  refine(iC e (by decide)).bind (fun _ _ _ _=>by simp) fun t2 _ _ _=>?_;refine(B0 hx (by omega)).bind (fun t3 rest h _=>s_ h (by decide)) fun t3 y _ hy=>?_;subst hy;intro a ts rest ht hr;obtain⟨t,rfl,h⟩:=(show TS [[93]] ts from ht).one;have hb:(⟨a,t::rest⟩:PS).a_ [58]=false:=by simp[PS.a_,PS.hd,h.1]
  refine⟨_,rfl,?_⟩;simp only[cG,bE,hb,R.bind,jV,if_false,u5 h (show di [93]≠0 by decide),R.map,jK,Φ]
 |[x,y],h2,_,h4,hk=>
  subst h2
  simp only[ξ.words,cI,cD]at hk;have hx:=h4 x (by simp);have hy:=h4 y (by simp);refine(tL e h1).bind (fun _ _ _ _=>by simp) fun t1 n _ hn=>?_;subst hn;refine aS.yes (P:=fun s=>(aE e [91] s).bind fun _ s=>(aC e k s).bind fun x s=>(if s.a_ [58]then(aE e [58] s).bind fun _ s=>(aC e k s).map fun y=>[x,y]else .ok [x] s).bind fun l s=>(aE e [93] s).map fun _=>(⟨n,.any,l⟩:ξ)) ?_ fun s hs=>by simp only[yx hs];rfl
  refine(iC e (by decide)).bind (fun _ _ _ _=>by simp) fun t2 _ _ _=>?_;refine(B0 hx (by omega)).bind (fun t3 rest h _=>s_ h (by decide)) fun t3 x' _ gr=>?_;subst gr;refine aS.yes (P:=fun s=>((aE e [58] s).bind fun _ s=>(aC e k s).map fun y=>[x',y]).bind fun l s=>(aE e [93] s).map fun _=>(⟨n,.any,l⟩:ξ)) ?_ fun s hs=>by simp only[yx hs];rfl
  intro a ts rest ht hr;have ht:TS ([[58]]++(y.words++[[93]])) ts:=ht;obtain⟨t4,t5,rfl,g1,g2⟩:=ht.split;obtain⟨t6,t7,rfl,g3,g4⟩:=g2.split;obtain⟨t,rfl,k1⟩:=g1.one;obtain⟨t',rfl,k4⟩:=g4.one;obtain⟨y',rfl,ey⟩:=B0 (e:=e) hy (show y.words.length<k by omega) (t.at_+t.text.length) t6 ([t']++rest) g3 (by show t'.text∉_;rw[k4.1];decide);refine⟨_,rfl,?_⟩;simp only[cG,bE,bO,u5 k1 (show di [58]≠0 by decide),R.bind]at ey⊢;simp only[ey,R.map,u5 k4 (show di [93]≠0 by decide),jK,wS,Φ]
 |_::_::_::_,_,h3,_,_=>simp at h3
def kj(l:List (List (List Nat))):List (List Nat):=match l with
 |[]=>[]
 |w::l=>[[44]]++(w++kj l)
def iP:List (List (List Nat))->List (List Nat)
 |[]=>[]
 |w::l=>w++kj l
theorem akd(l:List (List (List Nat))):l.length<=(kj l).length:=by
 induction l with
 |nil=>simp
 |cons w l ih=>simp only[kj,cI,cD,eO];omega
theorem Yb{l:List (List (List Nat))}{w:List (List Nat)}(h:w∈l):w.length<=(kj l).length:=by
 induction l with
 |nil=>cases h
 |cons v l ih=>
  simp only[kj,cI,cD,eO]
  rcases cy.1 h with rfl|h
  ·omega
  ·have:=ih h;omega
theorem aax{l:List (List (List Nat))}{w:List (List Nat)}(h:w∈l):w.length<=(iP l).length:=by
 cases l with
 |nil=>cases h
 |cons v l=>
  simp only[iP,cI]
  rcases cy.1 h with rfl|h
  ·omega
  ·have:=Yb h;omega
section
variable{e:Nat}{α:Type}{item:PS->R α}{W:α->List (List Nat)}{S:List (List Nat)}(hS:[44]∉S)
include hS
theorem JM{l:List α}{ts rest:List Tok}(h:TS (kj (l.map W)) ts)(hr:lN rest∉[44]::S):lN (ts++rest)∉S:=by
 cases l with
 |nil=>rw[h.nil];exact fun h=>hr (List.mem_cons_of_mem _ h)
 |cons y l=>exact s_ (ws:=W y++kj (l.map W)) h hS
theorem XF:∀(l:List α),(∀y∈l,aS item (W y) (fun _ x=>x=y) S)->∀(n:Nat) (l0:List α),l.length<n->aS (cR (fun s=>s.a_ [44]) (fun l s=>(aE e [44] s).bind fun _ s=>(item s).map fun y=>l++[y]) n l0) (kj (l.map W)) (fun _ y=>y=l0++l) ([44]::S)
 |[],_,n,l0,hn=>by
  intro a ts rest ht hr;obtain rfl:=ht.nil;obtain⟨n,rfl⟩:∃j,n=j+1:=⟨n-1,by simp at hn;omega⟩;have hb:(⟨a,rest⟩:PS).a_ [44]=false:=by have:lN rest≠[44]:=fun h=>hr (by rw[h];exact List.mem_cons_self);simpa[PS.a_,vC]using this
  exact⟨l0++[],rfl,by rw[bE,BN hb];simp[jK]⟩
 |y::l,h,n,l0,hn=>by
  obtain⟨n,rfl⟩:∃j,n=j+1:=⟨n-1,by simp at hn;omega⟩;have ih:=XF l (fun z hz=>h z (by simp[hz])) n (l0++[y]) (by simpa using hn);have:aS (fun s=>((aE e [44] s).bind fun _ s=>(item s).map fun y=>l0++[y]).bind (cR (fun s=>s.a_ [44]) (fun l s=>(aE e [44] s).bind fun _ s=>(item s).map fun y=>l++[y]) n)) (([[44]]++W y)++kj (l.map W)) (fun _ y'=>y'=l0++(y::l)) ([44]::S):=by refine aS.bind (s1:=S) (Q1:=fun _ x=>x=l0++[y]) (aS.bind (iC e (by decide)) (fun _ _ _ _=>by simp) fun _ _ _ _=>aS.map (h y (by simp)) fun _ x _ hx=>by rw[hx]) (fun t2 rest ht hr=>JM hS ht hr) fun t1 x _ hx=>?_;subst hx;exact ih.weaken (fun _ h=>h) fun _ x _ hx=>by rw[hx];simp
  rw[bO]at this;refine aS.yes (w:=[44]) (ws:=W y++kj (l.map W)) this fun s hs=>?_;have hb:s.a_ [44]=true:=by rw[yx hs];rfl
  exact EA hb
theorem XE(TW:[41]∉S)(l:List α)(h:∀y∈l,aS item (W y) (fun _ x=>x=y) S)(hW:∀y∈l,∃w ws,W y=w::ws/\w≠[41]):aS (pj e item) (iP (l.map W)++[[41]]) (fun _ x=>x=l) []:=by
 cases l with
 |nil=>
  refine aS.yes (P:=fun s=>(aE e [41] s).map fun _=>[]) (ws:=[]) (aS.map (iC e (by decide)) fun _ _ _ _=>rfl) fun s hs=>?_
  have hb:s.a_ [41]=true:=by rw[yx hs];rfl
  simp only[pj,hb,if_true]
 |cons y l=>
  obtain⟨w,ws,hw,φ⟩:=hW y (by simp)
  have:aS (fun s=>(item s).bind fun x s=>(cR (fun s=>s.a_ [44]) (fun l s=>(aE e [44] s).bind fun _ s=>(item s).map fun y=>l++[y]) (s.l.length+1) [x] s).bind fun l s=>(aE e [41] s).map fun _=>l) (W y++(kj (l.map W)++[[41]])) (fun _ x=>x=y::l) []:=by
   refine aS.bind (h y (by simp)) (fun t2 rest ht hr=>?_) fun t1 x _ hx=>?_
   ·obtain⟨t3,t4,rfl,g1,g2⟩:=ht.split;rw[bO];exact JM hS g1 (s_ (ws:=[]) g2 (by simp only[cy,not_or];exact⟨by decide,TW⟩))
   ·subst hx;refine aS.bind (P:=fun s=>cR (fun s=>s.a_ [44]) (fun l s=>(aE e [44] s).bind fun _ s=>(item s).map fun y=>l++[y]) (s.l.length+1) [x] s) (Q1:=fun _ z=>z=x::l) (s1:=[44]::S) ?_ (fun t2 rest ht hr=>s_ (ws:=[]) ht (by simp only[cy,not_or];exact⟨by decide,TW⟩)) fun _ z _ hz=>aS.map (iC e (by decide)) fun _ _ _ _=>hz;intro a ts rest ht hr;have hl:l.length<=ts.length:=by rw[ht.len];have:=akd (l.map W);rw[List.length_map]at this;exact this
    exact XF hS l (fun z hz=>h z (by simp[hz])) ((ts++rest).length+1) [x] (by simp;omega) a ts rest ht hr
  have e1:iP ((y::l).map W)++[[41]]=W y++(kj (l.map W)++[[41]]):=by simp[iP]
  rw[e1];rw[hw,cG]at this⊢;refine aS.yes this fun s hs=>?_;have hb:s.a_ [41]=false:=by rw[yx hs];simpa using φ
  simp only[pj,hb];rfl
end
theorem ah_{p:ξ}(hp:p.Can):∃w ws,p.words=w::ws/\di w=1:=by
 obtain⟨nm,c,ix⟩:=p;have:=(OK hp.nm).1
 match ix with
 |[]=>exact⟨nm,[],rfl,this⟩
 |[a]=>exact⟨nm,_,rfl,this⟩
 |a::b::l=>exact⟨nm,_,rfl,this⟩
theorem XG{e k:Nat}:∀(l:List ξ),(∀p∈l,p.Can)->(∀p∈l,p.words.length<k)->∀l0,aS (pq e (kg e (aC e k)) l.length l0) (kj (l.map ξ.words)) (fun _ y=>y=l0++l) [[44],[91]]
 |[],_,_,l0=>by intro a ts rest ht hr;obtain rfl:=ht.nil;exact⟨l0++[],rfl,by simp[pq,jK]⟩
 |p::l,h,hk,l0=>by refine aS.bind (iC e (by decide)) (fun _ _ _ _=>by simp) fun _ _ _ _=>?_;refine aS.bind (EX (h p (by simp)) (hk p (by simp))) (fun t2 rest ht hr=>JM (by decide) ht hr) fun _ x _ hx=>?_;subst hx;exact(XG l (fun q hq=>h q (by simp[hq])) (fun q hq=>hk q (by simp[hq])) (l0++[x])).weaken (fun _ h=>h) fun _ y _ hy=>by rw[hy];simp
theorem XH{e k:Nat}{nm:List Nat}{x:ζ}(hn:dc nm=true)(hx:x.Can)(hk:x.words.length<k):aS (uY e (aC e k)) ([nm]++([[91]]++(x.words++[[93]]))) (fun _ y=>y=(nm,x)) []:=by refine aS.bind (tL e hn) (fun _ _ _ _=>by simp) fun _ n _ h1=>?_;refine aS.bind (iC e (by decide)) (fun _ _ _ _=>by simp) fun _ _ _ _=>?_;refine aS.bind (B0 hx hk) (fun t3 rest h _=>s_ (ws:=[]) h (by decide)) fun _ y _ h2=>?_;exact aS.map (iC e (by decide)) fun _ _ _ _=>by rw[h1,h2]
def fN(k g:Int)(nm:List Nat)(pl:List ξ)(size to:ζ):List (List Nat):=
 if k=1 then[fu.getD (g-1).toNat []]++iP (pl.map ξ.words)
 else if k=2 then[[116,97,107,101]]++([nm]++([[91]]++(size.words++[[93]])))
 else if k=3 then[[100,114,111,112]]++[nm]
 else if k=4 then[[98,111,114,114,111,119]]++([nm]++([[91]]++(size.words++[[93]])))
 else if k=5 then[[109,101,97,115,117,114,101]]++(iP (pl.map ξ.words)++([[58]]++[nm]))
 else if k=6 then[[114,101,115,101,116]]++iP (pl.map ξ.words)
 else if k=7 then[[105,102]]++[nm]
 else if k=8 then[[102,111,114]]++([nm]++([[61]]++(size.words++([[58]]++to.words))))
 else if k=9 then[nm]++([[40]]++(iP (pl.map ξ.words)++[[41]]))
 else if k=10 then[[117,110,100,111]]
 else[[119,105,116,104,105,110]]
mutual
def kI:List δ->List (List Nat)
 |[]=>[]
 |s::l=>s.words++kI l
def δ.words:δ->List (List Nat)
 | .mk k g nm _ pl size to _ body _ els=>fN k g nm pl size to++
   (if aU k=false then[[59]]
    else[[123]]++(kI body++([[125]]++
    (if bm k=true/\¬(k=7/\els.length=0)then[ns k]++([[123]]++(kI els++[[125]]))else[]))))
end
mutual
inductive δ.Can:δ->Prop
 |gate {g:Int} {pl:List ξ} (h1:1<=g) (h2:g<=12) (h3:pl.length=gb g) (h4:∀p∈pl,p.Can):δ.Can (.mk 1 g [] .any pl z0 z0 .nil [] .nil [])
 |take {nm:List Nat} {x:ζ} (h1:dc nm=true) (h2:x.Can):δ.Can (.mk 2 0 nm .nil [] x z0 .nil [] .nil [])
 |drop {nm:List Nat} (h1:dc nm=true):δ.Can (.mk 3 0 nm .nil [] z0 z0 .nil [] .nil [])
 |borrow {nm:List Nat} {x:ζ} {b:List δ} (h1:dc nm=true) (h2:x.Can) (h3:δ.jW b):δ.Can (.mk 4 0 nm .nil [] x z0 (Φ b) b .nil [])
 |measure {nm:List Nat} {p:ξ} (h1:dc nm=true) (h2:p.Can):δ.Can (.mk 5 0 nm .any [p] z0 z0 .nil [] .nil [])
 |reset {p:ξ} (h2:p.Can):δ.Can (.mk 6 0 [] .any [p] z0 z0 .nil [] .nil [])
 |cond {nm:List Nat} {b d:List δ} (h1:dc nm=true) (h3:δ.jW b) (h4:δ.jW d):δ.Can (.mk 7 0 nm .nil [] z0 z0 (Φ b) b (Φ d) d)
 |loop {nm:List Nat} {x y:ζ} {b:List δ} (h1:dc nm=true) (h2:x.Can) (l9:y.Can) (h3:δ.jW b):δ.Can (.mk 8 0 nm .nil [] x y (Φ b) b .nil [])
 |call {nm:List Nat} {pl:List ξ} (h1:dc nm=true) (h4:∀p∈pl,p.Can):δ.Can (.mk 9 0 nm (Φ pl) pl z0 z0 .nil [] .nil [])
 |qp {b:List δ} (h3:δ.jW b):δ.Can (.mk 10 0 [] .nil [] z0 z0 (Φ b) b .nil [])
 |within {b d:List δ} (h3:δ.jW b) (h4:δ.jW d):δ.Can (.mk 11 0 [] .nil [] z0 z0 (Φ b) b (Φ d) d)
inductive δ.jW:List δ->Prop
 |nil:δ.jW []
 |cons {s:δ} {l:List δ} (h1:δ.Can s) (h2:δ.jW l):δ.jW (s::l)
end
theorem Dh{g:Int}(h1:1<=g)(h2:g<=12):jh (fu.getD (g-1).toNat [])=g.toNat/\di (fu.getD (g-1).toNat [])=1/\1<=gb g∧
  fu.getD (g-1).toNat []∉[[98,111,114,114,111,119],[105,102],[102,111,114],[117,110,100,111],[119,105,116,104,105,110],[125],[101,108,115,101]]:=by
 have:g=1\/g=2\/g=3\/g=4\/g=5\/g=6\/g=7\/g=8\/g=9\/g=10\/g=11\/g=12:=by omega
 rcases this with rfl|rfl|rfl|rfl|rfl|rfl|rfl|rfl|rfl|rfl|rfl|rfl<;>decide
theorem Jc{w:List Nat}(h:dc w=true):jh w=0/\w∉[[98,111,114,114,111,119],[105,102],[102,111,114],[117,110,100,111],[119,105,116,104,105,110],[125],[101,108,115,101],[116,97,107,101],[100,114,111,112],[109,101,97,115,117,114,101],[114,101,115,101,116],[41]]:=by
 constructor
 ·simp only[dc,ej,Ao]at h;have hg:=h.1.2;rw[jh];cases hf:fu.findIdx? fun x=>x==w with
  |none=>rfl
  |some i=>
   obtain⟨hi,hp,-⟩:=List.findIdx?_eq_some_iff_getElem.1 hf
   have:w∈fu:=by rw[<-show fu[i]=w by simpa using hp];exact List.getElem_mem hi
   rw[yd.2 this]at hg;cases hg
 ·intro hm;simp only[cy,lE,or_false]at hm;rcases hm with rfl|rfl|rfl|rfl|rfl|rfl|rfl|rfl|rfl|rfl|rfl|rfl<;>revert h<;>decide
theorem PU{s:δ}(h:s.Can):∃w ws,s.words=w::ws/\w∉[[125],[101,108,115,101]]:=by
 cases h with
 |gate h1 h2 h3 h4=>
  obtain⟨-,-,-,h⟩:=Dh h1 h2
  refine⟨_,_,rfl,?_⟩;simp only[cy,lE,or_false,not_or]at h⊢;exact⟨h.2.2.2.2.2.1,h.2.2.2.2.2.2⟩
 |call h1 h4=>
  obtain⟨-,h⟩:=Jc h1
  refine⟨_,_,rfl,?_⟩;simp only[cy,lE,or_false,not_or]at h⊢;exact⟨h.2.2.2.2.2.1,h.2.2.2.2.2.2.1⟩
 |_=>exact⟨_,_,rfl,by decide⟩
theorem DD{k g:Int}{nm:List Nat}{cp:ρ}{pl:List ξ}{size to:ζ}{cb ce:ρ}{b d:List δ}:(fN k g nm pl size to).length<(δ.mk k g nm cp pl size to cb b ce d).words.length:=by simp only[δ.words,cI];split<;>simp
section
variable{e K:Nat}
theorem ah'{pl:List ξ}(h4:∀p∈pl,p.Can)(hk:(iP (pl.map ξ.words)).length<K):∀p∈pl,aS (kg e (aC e K)) p.words (fun _ y=>y=p) [[91]]:=
 fun p hp=>EX (h4 p hp) (Nat.lt_of_le_of_lt (aax (eP.2 ⟨p,hp,rfl⟩)) hk)
theorem aiZ{s:δ}(h:s.Can)(hb:aU s.kind=false)(hk:s.words.length<=K):aS (Ae e (aC e K)) s.words (fun _ y=>y=s) []:=by
 have B_:∀{s:δ} {ws:List (List Nat)},aS (lT e (aC e K)) ws (fun _ y=>y=s) [[91],[44]]->aS (Ae e (aC e K)) (ws++[[59]]) (fun _ y=>y=s) []:=fun h=>aS.bind h (fun t2 rest ht _=>s_ (ws:=[]) ht (by decide)) fun _ x _ hx=>aS.map (iC e (by decide)) fun _ _ _ _=>hx;cases h with
 |@gate g pl h1 h2 h3 h4=>
  obtain⟨f1,f2,f3,f4⟩:=Dh h1 h2
  have eI:=ku DD hk
  match pl,h3,h4,eI with
  |[],h3,_,_=>simp at h3;omega
  |p::pl,h3,h4,eI=>
   have e1:fN 1 g [] (p::pl) z0 z0=[fu.getD (g-1).toNat []]++(p.words++kj (pl.map ξ.words)):=rfl
   rw[e1]at eI;simp only[cI,cD,eO]at eI;refine B_ (s:= .mk 1 g [] .any (p::pl) z0 z0 .nil [] .nil []) ?_;rw[e1];generalize hw:fu.getD (g-1).toNat []=w at*;have H6:(g.toNat:Int)=g:=by omega
   refine aS.yes (w:=w) (ws:=p.words++kj (pl.map ξ.words)) (P:=fun s=>(aE e w s).bind fun _ s=>(kg e (aC e K) s).bind fun p s=>(pq e (kg e (aC e K)) (gb (jh w)-1) [p] s).map fun l=> .mk 1 (jh w) [] .any l z0 z0 .nil [] .nil []) ?_ fun s hs=>?_
   ·refine aS.bind (iC e (by rw[f2];decide)) (fun _ _ _ _=>by simp) fun _ _ _ _=>?_;refine aS.bind (EX (h4 p (by simp)) (by omega)) (fun t2 rest ht hr=>JM (S:=[[91]]) (by decide) ht (by simpa[or_comm]using hr)) fun _ x _ hx=>?_;subst hx;have hlen:gb (jh w)-1=pl.length:=by rw[f1,H6,<-h3];simp
    rw[hlen,f1,H6];refine aS.map ((XG pl (fun q hq=>h4 q (by simp[hq])) (fun q hq=>by have:=Yb (eP.2 ⟨q,hq,rfl⟩:q.words∈pl.map ξ.words);omega) [x]).weaken (fun y hy=>by simpa[or_comm]using hy) fun _ _ _ h=>h) fun _ y _ hy=>by rw[hy];rfl
   ·have:0<jh w:=by rw[f1];omega
    simp only[lT,hs,this,if_true]
 |@take nm x h1 h2=>
  have eI:=ku DD hk
  refine B_ (s:= .mk 2 0 nm .nil [] x z0 .nil [] .nil []) ?_;have e1:fN 2 0 nm [] x z0=[[116,97,107,101]]++([nm]++([[91]]++(x.words++[[93]]))):=rfl;rw[e1]at eI⊢;simp only[cI,cD,eO]at eI;refine aS.yes (P:=fun s=>(aE e [116,97,107,101] s).bind fun _ s=>(uY e (aC e K) s).map fun x=> .mk 2 0 x.1 .nil [] x.2 z0 .nil [] .nil []) (ws:=[nm]++([[91]]++(x.words++[[93]]))) ?_ fun s hs=>by simp only[lT,hs];rfl
  refine aS.bind (iC e (by decide)) (fun _ _ _ _=>by simp) fun _ _ _ _=>?_;exact aS.map ((XH h1 h2 (by omega)).weaken (by simp) fun _ _ _ h=>h) fun _ y _ hy=>by rw[hy]
 |@drop nm h1=>
  refine B_ (s:= .mk 3 0 nm .nil [] z0 z0 .nil [] .nil []) ?_
  refine aS.yes (P:=fun s=>(aE e [100,114,111,112] s).bind fun _ s=>(gY e s).map fun n=> .mk 3 0 n .nil [] z0 z0 .nil [] .nil []) (w:=[100,114,111,112]) (ws:=[nm]) ?_ fun s hs=>by simp only[lT,hs];rfl
  refine aS.bind (w1:=[[100,114,111,112]]) (iC e (by decide)) (fun _ _ _ _=>by simp) fun _ _ _ _=>?_;exact aS.map ((tL e h1).weaken (by simp) fun _ _ _ h=>h) fun _ y _ hy=>by rw[hy]
 |@measure nm p h1 h2=>
  have eI:=ku DD hk
  refine B_ (s:= .mk 5 0 nm .any [p] z0 z0 .nil [] .nil []) ?_;have e1:fN 5 0 nm [p] z0 z0=[[109,101,97,115,117,114,101]]++(p.words++([[58]]++[nm])):=by simp[fN,iP,kj]
  rw[e1]at eI⊢;simp only[cI,cD,eO]at eI;refine aS.yes (P:=fun s=>(aE e [109,101,97,115,117,114,101] s).bind fun _ s=>(kg e (aC e K) s).bind fun p s=>(aE e [58] s).bind fun _ s=>(gY e s).map fun n=> .mk 5 0 n .any [p] z0 z0 .nil [] .nil []) (ws:=p.words++([[58]]++[nm])) ?_ fun s hs=>by simp only[lT,hs];rfl
  refine aS.bind (iC e (by decide)) (fun _ _ _ _=>by simp) fun _ _ _ _=>?_;refine aS.bind (EX h2 (by omega)) (fun t2 rest ht _=>s_ (ws:=[nm]) ht (by decide)) fun _ x _ hx=>?_;refine aS.bind (iC e (by decide)) (fun _ _ _ _=>by simp) fun _ _ _ _=>?_;exact aS.map ((tL e h1).weaken (by simp) fun _ _ _ h=>h) fun _ y _ hy=>by rw[hy,hx]
 |@reset p h2=>
  have eI:=ku DD hk
  refine B_ (s:= .mk 6 0 [] .any [p] z0 z0 .nil [] .nil []) ?_;have e1:fN 6 0 [] [p] z0 z0=[[114,101,115,101,116]]++p.words:=by simp[fN,iP,kj]
  rw[e1]at eI⊢;simp only[cI,cD,eO]at eI;refine aS.yes (P:=fun s=>(aE e [114,101,115,101,116] s).bind fun _ s=>(kg e (aC e K) s).map fun p=> .mk 6 0 [] .any [p] z0 z0 .nil [] .nil []) (ws:=p.words) ?_ fun s hs=>by simp only[lT,hs];rfl
  refine aS.bind (iC e (by decide)) (fun _ _ _ _=>by simp) fun _ _ _ _=>?_;exact aS.map ((EX h2 (by omega)).weaken (fun x hx=>by rw[fU.1 hx];simp) fun _ _ _ h=>h) fun _ y _ hy=>by rw[hy]
 |@call nm pl h1 h4=>
  have eI:=ku DD hk
  obtain⟨g1,g2⟩:=Jc h1;simp only[cy,lE,or_false,not_or]at g2;refine B_ (s:= .mk 9 0 nm (Φ pl) pl z0 z0 .nil [] .nil []) ?_;have e1:fN 9 0 nm pl z0 z0=[nm]++([[40]]++(iP (pl.map ξ.words)++[[41]])):=rfl;rw[e1]at eI⊢;simp only[cI,cD,eO]at eI;refine aS.yes (P:=fun s=>(gY e s).bind fun n s=>(aE e [40] s).bind fun _ s=>(pj e (kg e (aC e K)) s).map fun l=> .mk 9 0 n (Φ l) l z0 z0 .nil [] .nil []) (ws:=[[40]]++(iP (pl.map ξ.words)++[[41]])) ?_ fun s hs=>by
   have n0:¬(0<jh nm):=by omega
   simp only[lT,hs,n0,g2.2.2.2.2.2.2.2.1,g2.2.2.2.2.2.2.2.2.1,g2.2.2.2.2.2.2.2.2.2.1,g2.2.2.2.2.2.2.2.2.2.2.1,if_false]
  refine aS.bind (tL e h1) (fun _ _ _ _=>by simp) fun _ n _ hn=>?_;refine aS.bind (iC e (by decide)) (fun _ _ _ _=>by simp) fun _ _ _ _=>?_;refine aS.map ((XE (S:=[[91]]) (by decide) (by decide) pl (ah' h4 (by omega)) fun p hp=>?_).weaken (by simp) fun _ _ _ h=>h) fun _ y _ hy=>by rw[hy,hn]
  obtain⟨w,ws,h5,h6⟩:=ah_ (h4 p hp);exact⟨w,ws,h5,fun h=>by rw[h]at h6;revert h6;decide⟩
 |borrow|cond|loop|qp|within=>simp[δ.kind,aU]at hb
end
def Kv:List Tok->Nat
 |[]=>0
 |t::_=>t.at_
mutual
inductive sM:δ->List Tok->List (List Sp)->Prop
 |none {s:δ} {ts:List Tok} (h:aU s.kind=false):sM s ts []
 |one {s:δ} {t1 tb:List Tok} {o c:Tok} {sb:List Sp} (h:bm s.kind=false\/s.els=[]) (h1:vc s.body tb sb):sM s (t1++o::(tb++[c])) [sb]
 |two {s:δ} {t1 tb te:List Tok} {o c m o' c':Tok} {sb se:List Sp} (h:bm s.kind=true) (h1:vc s.body tb sb) (h2:vc s.els te se):sM s (t1++o::(tb++c::m::o'::(te++[c']))) [sb,se]
inductive vc:List δ->List Tok->List Sp->Prop
 |nil:vc [] [] []
 |cons {s:δ} {l:List δ} {ts Ah:List Tok} {ins:List (List Sp)} {lz:List Sp} (h0:TS s.words ts) (h1:sM s ts ins) (h2:vc l Ah lz):vc (s::l) (ts++Ah) (.mk (Kv ts) (jK 0 ts) ins::lz)
end
def bW(l:List δ):List (List Nat):=[[123]]++(kI l++[[125]])
def Fi(l:List δ)(ts:List Tok)(x:List δ×List Sp):Prop:=x.1=l/\∃o tb c,ts=o::(tb++[c])/\vc l tb x.2
theorem Zt:ns 7=[101,108,115,101]:=rfl
theorem Zs:ns 11=[97,112,112,108,121]:=rfl
section
variable{e K:Nat}{blk:PS->R (List δ×List Sp)}{N:Nat}(IH:∀l:List δ,δ.jW l->(bW l).length<=N->aS blk (bW l) (Fi l) [])
include IH
theorem ai0{s:δ}(h:s.Can)(hk:s.words.length<=K)(hN:s.words.length<=N):aS (iK e (aC e K) blk) s.words (fun ts x=>x.1=s/\sM s ts x.2) [[101,108,115,101]]:=by
 have simple:∀{s:δ} (h:s.Can) (hk:s.words.length<=K) (hb:aU s.kind=false) {w:List Nat} {ws:List (List Nat)} (hw:s.words=w::ws) (hh:w∉[[98,111,114,114,111,119],[105,102],[102,111,114],[117,110,100,111],[119,105,116,104,105,110]]),aS (iK e (aC e K) blk) s.words (fun ts x=>x.1=s/\sM s ts x.2) [[101,108,115,101]]:=by intro s h hk hb w ws hw hh;have:=aS.map (f:=fun x=>(x,([]:List (List Sp)))) (Q2:=fun ts x=>x.1=s/\sM s ts x.2) (aiZ (e:=e) h hb hk) fun _ y _ hy=>⟨hy,.none hb⟩;have:=this.weaken (s2:=[[101,108,115,101]]) (by simp) fun _ _ _ h=>h;rw[hw]at this⊢;simp only[cy,lE,or_false,not_or]at hh;refine aS.yes this fun s hs=>?_;simp only[iK,hs,hh.1,hh.2.1,hh.2.2.1,hh.2.2.2.1,hh.2.2.2.2,if_false]
 have eI:=h;cases h with
 |@gate g pl h1 h2 h3 h4=>
  obtain⟨-,-,-,f⟩:=Dh h1 h2
  exact simple eI hk rfl rfl (by simp only[cy,lE,or_false,not_or]at f⊢;exact⟨f.1,f.2.1,f.2.2.1,f.2.2.2.1,f.2.2.2.2.1⟩)
 |take h1 h2=>exact simple eI hk rfl rfl (by decide)
 |drop h1=>exact simple eI hk rfl rfl (by decide)
 |measure h1 h2=>exact simple eI hk rfl rfl (by decide)
 |reset h2=>exact simple eI hk rfl rfl (by decide)
 |@call nm pl h1 h4=>
  obtain⟨-,f⟩:=Jc h1
  exact simple eI hk rfl rfl (by simp only[cy,lE,or_false,not_or]at f⊢;exact⟨f.1,f.2.1,f.2.2.1,f.2.2.2.1,f.2.2.2.2.1⟩)
 |@borrow nm x b h1 h2 h3=>
  have e1:(δ.mk 4 0 nm .nil [] x z0 (Φ b) b .nil []).words=[[98,111,114,114,111,119]]++(([nm]++([[91]]++(x.words++[[93]])))++bW b):=by simp[δ.words,fN,aU,bm,bW]
  rw[e1]at hk hN⊢;simp only[cI,cD,eO]at hk hN;refine aS.yes (P:=fun s=>(aE e [98,111,114,114,111,119] s).bind fun _ s=>(uY e (aC e K) s).bind fun x s=>(blk s).map fun b=>(.mk 4 0 x.1 .nil [] x.2 z0 (Φ b.1) b.1 .nil [],[b.2])) (ws:=([nm]++([[91]]++(x.words++[[93]])))++bW b) ?_ fun s hs=>by simp only[iK,hs];rfl
  refine aS.bind (iC e (by decide)) (fun _ _ _ _=>by simp) fun t1 _ _ _=>?_;refine aS.bind (XH h1 h2 (by omega)) (fun _ _ _ _=>by simp) fun t2 y _ hy=>?_;refine aS.map ((IH b h3 (by omega)).weaken (by simp) fun _ _ _ h=>h) fun t3 z _ hz=>?_;obtain⟨gu,o,tb,cc,rfl,iI⟩:=hz;subst hy;refine⟨by simp[gu],?_⟩;rw[<-bO];exact .one (.inl rfl) iI
 |@qp b h3=>
  have e1:(δ.mk 10 0 [] .nil [] z0 z0 (Φ b) b .nil []).words=[[117,110,100,111]]++bW b:=by simp[δ.words,fN,aU,bm,bW]
  rw[e1]at hk hN⊢;simp only[cI,cD,eO]at hk hN;refine aS.yes (P:=fun s=>(aE e [117,110,100,111] s).bind fun _ s=>(blk s).map fun b=>(.mk 10 0 [] .nil [] z0 z0 (Φ b.1) b.1 .nil [],[b.2])) (ws:=bW b) ?_ fun s hs=>by simp only[iK,hs];rfl
  refine aS.bind (iC e (by decide)) (fun _ _ _ _=>by simp) fun t1 _ _ _=>?_;refine aS.map ((IH b h3 (by omega)).weaken (by simp) fun _ _ _ h=>h) fun t3 z _ hz=>?_;obtain⟨gu,o,tb,cc,rfl,iI⟩:=hz;exact⟨by simp[gu],.one (.inl rfl) iI⟩
 |@loop nm x y b h1 h2 l9 h3=>
  have e1:(δ.mk 8 0 nm .nil [] x y (Φ b) b .nil []).words=[[102,111,114]]++([nm]++([[61]]++(x.words++([[58]]++(y.words++bW b))))):=by simp[δ.words,fN,aU,bm,bW]
  rw[e1]at hk hN⊢;simp only[cI,cD,eO]at hk hN;refine aS.yes (P:=fun s=>(aE e [102,111,114] s).bind fun _ s=>(gY e s).bind fun n s=>(aE e [61] s).bind fun _ s=>(aC e K s).bind fun x s=>(aE e [58] s).bind fun _ s=>(aC e K s).bind fun y s=>(blk s).map fun b=>(.mk 8 0 n .nil [] x y (Φ b.1) b.1 .nil [],[b.2])) (ws:=[nm]++([[61]]++(x.words++([[58]]++(y.words++bW b))))) ?_ fun s hs=>by simp only[iK,hs];rfl
  refine aS.bind (iC e (by decide)) (fun _ _ _ _=>by simp) fun t1 _ _ _=>?_;refine aS.bind (tL e h1) (fun _ _ _ _=>by simp) fun t2 n _ hn=>?_;refine aS.bind (iC e (by decide)) (fun _ _ _ _=>by simp) fun t3 _ _ _=>?_;refine aS.bind (B0 h2 (by omega)) (fun t rest ht _=>s_ (ws:=y.words++bW b) ht (by decide)) fun t4 x' _ hx=>?_;refine aS.bind (iC e (by decide)) (fun _ _ _ _=>by simp) fun t5 _ _ _=>?_;refine aS.bind (B0 l9 (by omega)) (fun t rest ht _=>s_ (ws:=kI b++[[125]]) ht (by decide)) fun t6 y' _ hy=>?_;refine aS.map ((IH b h3 (by omega)).weaken (by simp) fun _ _ _ h=>h) fun t7 z _ hz=>?_;obtain⟨gu,o,tb,cc,rfl,iI⟩:=hz;subst hn hx hy;refine⟨by simp[gu],?_⟩;have:=sM.one (s:= .mk 8 0 n .nil [] x' y' (Φ b) b .nil []) (t1:=t1++(t2++(t3++(t4++(t5++t6))))) (o:=o) (c:=cc) (.inl rfl) iI;simpa only[bO]using this
 |@within b d h3 h4=>
  have e1:(δ.mk 11 0 [] .nil [] z0 z0 (Φ b) b (Φ d) d).words=[[119,105,116,104,105,110]]++(bW b++([[97,112,112,108,121]]++bW d)):=by simp[δ.words,fN,aU,bm,bW,Zs]
  rw[e1]at hk hN⊢;simp only[cI,cD,eO]at hk hN;refine aS.yes (P:=fun s=>(aE e [119,105,116,104,105,110] s).bind fun _ s=>(blk s).bind fun b s=>(aE e [97,112,112,108,121] s).bind fun _ s=>(blk s).map fun d=>(.mk 11 0 [] .nil [] z0 z0 (Φ b.1) b.1 (Φ d.1) d.1,[b.2,d.2])) (ws:=bW b++([[97,112,112,108,121]]++bW d)) ?_ fun s hs=>by simp only[iK,hs];rfl
  refine aS.bind (iC e (by decide)) (fun _ _ _ _=>by simp) fun t1 _ _ _=>?_;refine aS.bind (IH b h3 (by omega)) (fun _ _ _ _=>by simp) fun t2 z _ hz=>?_;refine aS.bind (iC e (by decide)) (fun _ _ _ _=>by simp) fun t3 _ qc _=>?_;refine aS.map ((IH d h4 (by omega)).weaken (by simp) fun _ _ _ h=>h) fun t4 z' _ sn=>?_;obtain⟨gu,o,tb,cc,rfl,iI⟩:=hz;obtain⟨Oe,o',tb',Lb,rfl,Og⟩:=sn;obtain⟨m,rfl,-⟩:=qc.one;refine⟨by simp[gu,Oe],?_⟩;have:=sM.two (s:= .mk 11 0 [] .nil [] z0 z0 (Φ b) b (Φ d) d) (t1:=t1) (o:=o) (c:=cc) (m:=m) (o':=o') (c':=Lb) rfl iI Og;simpa only[bO,cG,bE]using this
 |@cond nm b d h1 h3 h4=>
  by_cases hd:d=[]
  ·subst hd;have e1:(δ.mk 7 0 nm .nil [] z0 z0 (Φ b) b (Φ ([]:List δ)) []).words=[[105,102]]++([nm]++bW b):=by simp[δ.words,fN,aU,bm,bW]
   rw[e1]at hk hN⊢;simp only[cI,cD,eO]at hk hN;refine aS.yes (P:=fun s=>(aE e [105,102] s).bind fun _ s=>(gY e s).bind fun n s=>(blk s).bind fun b s=>
    if s.a_ [101,108,115,101]then(aE e [101,108,115,101] s).bind fun _ s=>(blk s).map fun d=>(.mk 7 0 n .nil [] z0 z0 (Φ b.1) b.1 (Φ d.1) d.1,[b.2,d.2])
    else .ok (.mk 7 0 n .nil [] z0 z0 (Φ b.1) b.1 .nil [],[b.2]) s) (ws:=[nm]++bW b) ?_ fun s hs=>by simp only[iK,hs];rfl
   refine aS.bind (iC e (by decide)) (fun _ _ _ _=>by simp) fun t1 _ _ _=>?_;refine aS.bind (tL e h1) (fun _ _ _ _=>by simp) fun t2 n _ hn=>?_;intro a ts rest ht hr;obtain⟨z,⟨gu,o,tb,cc,rfl,iI⟩,ez⟩:=IH b h3 (by omega) a ts rest ht (by simp);have hb:(⟨jK a (o::(tb++[cc])),rest⟩:PS).a_ [101,108,115,101]=false:=by
    have:lN rest≠[101,108,115,101]:=by simpa using hr
    simpa[PS.a_,vC]using this
   subst hn;refine⟨_,⟨?_,?_⟩,by simp only[ez,R.bind,hb];rfl⟩
   ·rw[gu];rfl
   ·have:=sM.one (s:= .mk 7 0 n .nil [] z0 z0 (Φ b) b (Φ ([]:List δ)) []) (t1:=t1++t2) (o:=o) (c:=cc) (.inr rfl) iI;simpa only[bO]using this
  ·have hdl:¬d.length=0:=fun h=>hd (List.eq_nil_of_length_eq_zero h);have e1:(δ.mk 7 0 nm .nil [] z0 z0 (Φ b) b (Φ d) d).words=[[105,102]]++([nm]++(bW b++([[101,108,115,101]]++bW d))):=by simp[δ.words,fN,aU,bm,bW,Zt,hd]
   rw[e1]at hk hN⊢;simp only[cI,cD,eO]at hk hN;refine aS.yes (P:=fun s=>(aE e [105,102] s).bind fun _ s=>(gY e s).bind fun n s=>(blk s).bind fun b s=>
    if s.a_ [101,108,115,101]then(aE e [101,108,115,101] s).bind fun _ s=>(blk s).map fun d=>(.mk 7 0 n .nil [] z0 z0 (Φ b.1) b.1 (Φ d.1) d.1,[b.2,d.2])
    else .ok (.mk 7 0 n .nil [] z0 z0 (Φ b.1) b.1 .nil [],[b.2]) s) (ws:=[nm]++(bW b++([[101,108,115,101]]++bW d))) ?_ fun s hs=>by simp only[iK,hs];rfl
   refine aS.bind (iC e (by decide)) (fun _ _ _ _=>by simp) fun t1 _ _ _=>?_;refine aS.bind (tL e h1) (fun _ _ _ _=>by simp) fun t2 n _ hn=>?_;refine aS.bind (IH b h3 (by omega)) (fun _ _ _ _=>by simp) fun t3 z _ hz=>?_;refine aS.yes (P:=fun s=>(aE e [101,108,115,101] s).bind fun _ s=>(blk s).map fun d=>(.mk 7 0 n .nil [] z0 z0 (Φ z.1) z.1 (Φ d.1) d.1,[z.2,d.2])) (w:=[101,108,115,101]) (ws:=bW d) ?_ fun s hs=>by simp only[yx hs];rfl
   refine aS.bind (w1:=[[101,108,115,101]]) (iC e (by decide)) (fun _ _ _ _=>by simp) fun t4 _ D8 _=>?_;refine aS.map ((IH d h4 (by omega)).weaken (by simp) fun _ _ _ h=>h) fun t5 z' _ sn=>?_;obtain⟨gu,o,tb,cc,rfl,iI⟩:=hz;obtain⟨Oe,o',tb',Lb,rfl,Og⟩:=sn;obtain⟨m,rfl,-⟩:=D8.one;subst hn;refine⟨by simp[gu,Oe],?_⟩;have:=sM.two (s:= .mk 7 0 n .nil [] z0 z0 (Φ b) b (Φ d) d) (t1:=t1++t2) (o:=o) (c:=cc) (m:=m) (o':=o') (c':=Lb) rfl iI Og;simpa only[bO,cG,bE]using this
end
theorem Ym{w:List Nat}{ws:List (List Nat)}{ts:List Tok}(h:TS (w::ws) ts):∃t r,ts=t::r:=by obtain⟨t,r,e,-⟩:=h.cons;exact⟨t,r,e⟩
theorem δ.jW.mem{l:List δ}(h:δ.jW l):∀s∈l,s.Can:=by
 induction l with
 |nil=>intro s hs;cases hs
 |cons a l ih=>
  cases h with
  |cons h1 h2=>
   intro s hs
   rcases cy.1 hs with rfl|hs
   ·exact h1
   ·exact ih h2 s hs
theorem aky{l:List δ}(h:δ.jW l):l.length<=(kI l).length:=by
 induction l with
 |nil=>simp
 |cons s l ih=>
  cases h with
  |cons h1 h2=>
   obtain⟨w,ws,hw,-⟩:=PU h1
   have:=ih h2;simp only[kI,cI,cD,hw];omega
section
variable{e K:Nat}{blk:PS->R (List δ×List Sp)}{N:Nat}(IH:∀l:List δ,δ.jW l->(bW l).length<=N->aS blk (bW l) (Fi l) [])
include IH
theorem X4:∀(l:List δ),δ.jW l->(kI l).length<=K->(kI l).length<=N->∀(n:Nat) (l0:List δ) (s0:List Sp),l.length<n->∀a ts rest,TS (kI l) ts->lN rest=[125]→
  ∃lz,vc l ts lz/\cR (fun s=>!s.a_ [125]) (fun l s=>(uZ e (iK e (aC e K) blk) s).map fun x=>(l.1++[x.1],l.2++[x.2])) n (l0,s0) ⟨a,ts++rest⟩= .ok (l0++l,s0++lz) ⟨jK a ts,rest⟩
 |[],_,_,_,n,l0,s0,hn,a,ts,rest,ht,hr=>by
  obtain rfl:=ht.nil;obtain⟨n,rfl⟩:∃j,n=j+1:=⟨n-1,by simp at hn;omega⟩;have hb:(fun s:PS=>!s.a_ [125]) ⟨a,rest⟩=false:=by simp[PS.a_,vC,hr]
  exact⟨[],.nil,by rw[bE,BN hb];simp[jK]⟩
 |s::l,hc,hk,hN,n,l0,s0,hn,a,ts,rest,ht,hr=>by
  cases hc with
  |cons h1 h2=>
  obtain⟨n,rfl⟩:∃j,n=j+1:=⟨n-1,by simp at hn;omega⟩
  obtain⟨t1,t2,rfl,g1,g2⟩:=(show TS (s.words++kI l) ts from ht).split;simp only[kI,cI]at hk hN;obtain⟨w,ws,hw,φ⟩:=PU h1;simp only[cy,lE,or_false,not_or]at φ;have L_:=g1;rw[hw]at L_;have DI:lN (t1++(t2++rest))=w:=MR L_;have acQ:lN (t2++rest)∉[[101,108,115,101]]:=by
   cases l with
   |nil=>rw[g2.nil,bE,hr];decide
   |cons s' l'=>
    cases h2 with
    |cons h3 h4=>
    obtain⟨w',P7,lS,Ij⟩:=PU h3
    simp only[cy,lE,or_false,not_or]at Ij;simp only[kI,lS,cG]at g2;exact s_ g2 (by simpa using Ij.2)
  obtain⟨x,⟨q1,q2⟩,e1⟩:=ai0 (e:=e) (K:=K) IH h1 (by omega) (by omega) a t1 (t2++rest) g1 acQ;obtain⟨t,r,rfl⟩:=Ym L_;obtain⟨lz,k1,k2⟩:=X4 l h2 (by omega) (by omega) n (l0++[s]) (s0++[.mk (Kv (t::r)) (jK 0 (t::r)) x.2]) (by simpa using hn) (jK a (t::r)) t2 rest g2 hr;have hb:(fun s:PS=>!s.a_ [125]) ⟨a,t::r++(t2++rest)⟩=true:=by
   have:lN (t::r++(t2++rest))≠[125]:=by rw[DI];exact φ.1
   simpa[PS.a_,vC]using this
  refine⟨_,.cons g1 q2 k1,?_⟩;rw[bO,EA hb];have BC:uZ e (iK e (aC e K) blk) ⟨a,t::r++(t2++rest)⟩= .ok (s,.mk (Kv (t::r)) (jK 0 (t::r)) x.2) ⟨jK a (t::r),t2++rest⟩:=by simp only[uZ,e1,R.bind,q1];rfl
  rw[BC];show cR _ _ n (l0++[s],s0++[_]) _=_;rw[k2,wS];simp
theorem aiV{l:List δ}(hc:δ.jW l)(hk:(kI l).length<=K)(hN:(kI l).length<=N):aS (zF e (iK e (aC e K) blk)) (bW l) (Fi l) []:=by
 intro a ts rest ht _;obtain⟨t1,t2,rfl,g1,g2⟩:=(show TS ([[123]]++(kI l++[[125]])) ts from ht).split;obtain⟨t3,t4,rfl,g3,g4⟩:=g2.split;obtain⟨o,rfl,k1⟩:=g1.one;obtain⟨c,rfl,k2⟩:=g4.one;have hl:=aky hc;have hlen:l.length<(t3++([c]++rest)).length+1:=by have:=g3.len;simp only[cI];omega
 obtain⟨lz,q1,q2⟩:=X4 (e:=e) (K:=K) IH l hc hk hN ((t3++([c]++rest)).length+1) [] [] hlen (o.at_+o.text.length) t3 ([c]++rest) g3 (by show c.text=_;rw[k2.1]);refine⟨(l,lz),⟨rfl,o,t3,c,rfl,q1⟩,?_⟩;simp only[zF,cG,bE,bO,u5 k1 (show di [123]≠0 by decide),R.bind]at q2⊢;rw[q2];simp only[R.bind,R.map,u5 k2 (show di [125]≠0 by decide),jK,wS]
end
theorem XD(e K:Nat):∀(k:Nat) (l:List δ),δ.jW l->(bW l).length<=k->(bW l).length<=K->aS (eA e (aC e K) k) (bW l) (Fi l) []
 |0,l,_,h,_=>by simp[bW]at h
 |k+1,l,hc,h,hK=>by
  have e1:(bW l).length=(kI l).length+2:=by simp[bW]
  rw[e1]at h hK;exact aiV (e:=e) (K:=K) (N:=min k K) (fun l' gX h'=>XD e K k l' gX (by omega) (by omega)) hc (by omega) (by omega)
def ak.words(p:ak):List (List Nat):=[p.name]++([[91]]++([fq p.size.toNat]++[[93]]))
def τ.words(p:τ):List (List Nat):=[[112,114,111,99]]++([p.name]++([[40]]++((iP (p.au.map ak.words)++[[41]])++bW p.body)))
structure τ.Can (p:τ):Prop where
 nm:dc p.name=true
 cp:p.cp=Φ p.au
 au:∀x∈p.au,dc x.name=true/\0<=x.size/\x.size<100
 cb:p.cb=Φ p.body
 body:δ.jW p.body
theorem aiX{e:Nat}{p:ak}(h1:dc p.name=true)(h2:0<=p.size)(h3:p.size<100):aS (zS e) p.words (fun _ y=>y=p) []:=by
 refine aS.bind (tL e h1) (fun _ _ _ _=>by simp) fun _ n _ hn=>?_;refine aS.bind (iC e (by decide)) (fun _ _ _ _=>by simp) fun _ _ _ _=>?_;refine aS.bind (aiW e (by omega)) (fun _ _ _ _=>by simp) fun _ k _ hk=>?_;refine aS.map (iC e (by decide)) fun _ _ _ _=>?_;subst hn hk;obtain⟨nm,sz⟩:=p;have:(sz.toNat:Int)=sz:=by simp only at h2;omega
 simp only[this]
def Qi(p:τ)(ts:List Tok)(x:τ×List Sp):Prop:=x.1=p/\∃t0 o tb c,ts=t0++o::(tb++[c])/\vc p.body tb x.2
theorem aiY{e K:Nat}{p:τ}(h:p.Can)(hK:p.words.length<=K):aS (zU e (eA e (aC e K) K)) p.words (Qi p) []:=by
 have e1:(bW p.body).length<=K:=by simp only[τ.words,cI]at hK;omega
 refine aS.bind (iC e (by decide)) (fun _ _ _ _=>by simp) fun t1 _ _ _=>?_;refine aS.bind (tL e h.nm) (fun _ _ _ _=>by simp) fun t2 n _ hn=>?_;refine aS.bind (iC e (by decide)) (fun _ _ _ _=>by simp) fun t3 _ _ _=>?_;refine aS.bind (XE (S:=[]) (by simp) (by simp) p.au (fun y hy=>aiX (h.au y hy).1 (h.au y hy).2.1 (h.au y hy).2.2) fun y hy=>⟨y.name,_,rfl,fun e=>by
  have:=(Jc (h.au y hy).1).2
  rw[e]at this
  revert this;decide⟩) (fun _ _ _ _=>by simp) fun t4 ps _ cX=>?_
 refine aS.map (XD e K K p.body h.body e1 e1) fun t5 z _ hz=>?_;obtain⟨gu,o,tb,c,rfl,iI⟩:=hz;refine⟨?_,t1++(t2++(t3++t4)),o,tb,c,by simp,iI⟩;obtain⟨nm,cp,au,cb,body⟩:=p;obtain⟨-,h2,-,h4,-⟩:=h;simp only at h2 h4 hn cX gu;simp only[hn,cX,gu,h2,h4]
def gi:List τ->List (List Nat)
 |[]=>[]
 |p::l=>p.words++gi l
inductive Cx:List τ->List Tok->List (List Sp)->Prop
 |nil:Cx [] [] []
 |cons {p:τ} {l:List τ} {ts Ah:List Tok} {sp:List Sp} {lz:List (List Sp)} (h0:TS p.words ts) (h1:Qi p ts (p,sp)) (h2:Cx l Ah lz):Cx (p::l) (ts++Ah) (sp::lz)
theorem Xl(l:List τ):l.length<=(gi l).length:=by
 induction l with
 |nil=>simp
 |cons p l ih=>simp only[gi,cI,cD,τ.words,eO];omega
theorem Xo{e K:Nat}:∀(l:List τ),(∀p∈l,p.Can)->(gi l).length<=K->∀(n:Nat) (l0:List τ) (s0:List (List Sp)),l.length<n->∀a ts,TS (gi l) ts→
  ∃lz,Cx l ts lz/\cR (fun s=>!s.l.isEmpty) (fun l s=>(zU e (eA e (aC e K) K) s).map fun x=>(l.1++[x.1],l.2++[x.2])) n (l0,s0) ⟨a,ts⟩= .ok (l0++l,s0++lz) ⟨jK a ts,[]⟩
 |[],_,_,n,l0,s0,hn,a,ts,ht=>by obtain rfl:=ht.nil;obtain⟨n,rfl⟩:∃j,n=j+1:=⟨n-1,by simp at hn;omega⟩;exact⟨[],.nil,by rw[BN (by rfl)];simp[jK]⟩
 |p::l,h,hK,n,l0,s0,hn,a,ts,ht=>by
  obtain⟨n,rfl⟩:∃j,n=j+1:=⟨n-1,by simp at hn;omega⟩;obtain⟨t1,t2,rfl,g1,g2⟩:=(show TS (p.words++gi l) ts from ht).split;simp only[gi,cI]at hK;have zn:p.words.length<=K:=by omega
  obtain⟨x,⟨q1,q2⟩,e1⟩:=aiY (e:=e) (K:=K) (h p (by simp)) zn a t1 t2 g1 (by simp);obtain⟨lz,k1,k2⟩:=Xo (e:=e) (K:=K) l (fun q hq=>h q (by simp[hq])) (by omega) n (l0++[p]) (s0++[x.2]) (by simpa using hn) (jK a t1) t2 g2;obtain⟨t,r,rfl⟩:=Ym (ws:=_) (show TS ([112,114,111,99]::_) t1 from g1);refine⟨_,.cons g1 ⟨rfl,q2⟩ k1,?_⟩;rw[EA (by rfl)];rw[e1];show cR _ _ n (l0++[x.1],s0++[x.2]) _=_;rw[q1,k2,wS];simp
theorem aiv(e:Nat){l:List τ}(h:∀p∈l,p.Can){ts:List Tok}(ht:TS (gi l) ts):∃lz,Cx l ts lz/\BW e ts= .ok (l,lz) ⟨jK 0 ts,[]⟩:=by have hl:=Xl l;have:=ht.len;obtain⟨lz,h1,h2⟩:=Xo (e:=e) (K:=ts.length+1) l h (by omega) (ts.length+1) [] [] (by rw[this];omega) 0 ts ht;exact⟨lz,h1,h2⟩
structure Lay (g:List Nat):Prop where
 go:∀r,bY false (g++r)=g.length+bY false r
 ok:du g
theorem Lay.nil:Lay []:=⟨fun r=>by simp,fun b hb=>by cases hb⟩
theorem Lay.cons{b:Nat}{g:List Nat}(hb:b=32\/b=10)(h:Lay g):Lay (b::g):=⟨fun r=>by
 rw[cG,bY,if_pos hb,h.go r,cD];omega,fun c hc=>by
 rcases cy.1 hc with rfl|hc
 ·omega
 ·exact h.ok c hc⟩
theorem Lay.sp{g:List Nat}(h:∀b∈g,b=32\/b=10):Lay g:=by
 induction g with
 |nil=>exact .nil
 |cons b g ih=>exact .cons (h b (by simp)) (ih fun c hc=>h c (by simp[hc]))
inductive lj:List Nat->Prop
 |lets {w:List Nat} (h1:w≠[]) (h2:w.length<=8) (h3:∀b∈w,isLet b=true):lj w
 |num {n:Nat} (h:n<100):lj (fq n)
 |sign {b:Nat} (h:b∈qn):lj [b]
theorem E6{b:Nat}(h:b∈qn):isLet b=false/\ca b=false/\2<b:=by simp only[qn,cy,lE,or_false]at h;rcases h with rfl|rfl|rfl|rfl|rfl|rfl|rfl|rfl|rfl|rfl|rfl|rfl|rfl<;>decide
theorem lj.Wl{w:List Nat}(h1:w≠[])(h3:∀b∈w,isLet b=true):di w=1:=by
 cases w with
 |nil=>exact absurd rfl h1
 |cons b w=>simp[di,h3 b (by simp)]
theorem lj.kind{w:List Nat}(h:lj w):di w≠0/\w≠[]:=by
 cases h with
 |lets h1 h2 h3=>rw[lj.Wl h1 h3];exact⟨by decide,h1⟩
 |@num n h=>
  refine⟨by rw[(F3 h).1];decide,?_⟩
  unfold fq;split<;>simp
 |@sign b h=>obtain⟨h1,h2,h3⟩:=E6 h;exact⟨by simp[di,h1,h2];omega,by simp⟩
theorem Jw(f:Nat->Bool)(w r:List Nat)(hw:∀b∈w,f b=true)(hr:∀b,r.head?=some b->f b=false):runN f (w++r)=w.length:=by
 induction w with
 |nil=>
  cases r with
  |nil=>rfl
  |cons b r=>simp[runN,hr b rfl]
 |cons a w ih=>simp[runN,hw a (by simp),ih fun b hb=>hw b (by simp[hb])]
theorem lj.ok{w:List Nat}(h:lj w):du w:=by
 intro b hb;cases h with
 |lets h1 h2 h3=>
  have:=h3 b hb
  simp only[isLet,ej,decide_eq_true_eq]at this;omega
 |@num n hn=>
  unfold fq at hb
  split at hb
  ·rw[fU.1 hb];omega
  ·rcases cy.1 hb with rfl|hb
   ·omega
   ·rw[fU.1 hb];omega
 |@sign c hc=>
  rw[fU.1 hb]
  simp only[qn,cy,lE,or_false]at hc;omega
def Sep(w r:List Nat):Prop:=∀b,r.head?=some b->¬(di w=1/\isLet b=true)/\¬(di w=2/\ca b=true)
theorem akk{n:Nat}{w r:List Nat}(h:lj w)(hs:Sep w r):gz n (w++r)=⟨n,di w,w,-1⟩:=by
 cases h with
 |lets h1 h2 h3=>
  have hk:=lj.Wl h1 h3
  have hr:=Jw isLet w r h3 fun b hb=>by
   have:=(hs b hb).1;cases h:isLet b with
   |false=>rfl
   |true=>exact absurd ⟨hk,h⟩ this
  cases w with
  |nil=>exact absurd rfl h1
  |cons b w=>
   have hb:=h3 b (by simp)
   rw[cG]at hr⊢;simp only[gz,hb,if_true,hr,hk];have:¬8<(b::w).length:=by omega
   rw[if_neg this,<-cG,ama]
 |@num m hm=>
  obtain⟨hk,-⟩:=F3 hm
  have hd:∀b∈fq m,ca b=true:=by
   intro b hb;unfold fq at hb;split at hb
   ·rw[fU.1 hb];simp[ca];omega
   ·rcases cy.1 hb with rfl|hb
    ·simp[ca];omega
    ·rw[fU.1 hb];simp[ca];omega
  have hr:=Jw ca (fq m) r hd fun b hb=>by
   have:=(hs b hb).2;cases h:ca b with
   |false=>rfl
   |true=>exact absurd ⟨hk,h⟩ this
  have h48:∀b l,fq m=b::l->¬(1<(fq m).length/\b=48):=by
   intro b l hb ⟨h1,h2⟩;unfold fq at hb h1;split at hb
   ·rename_i h;simp[h]at h1
   ·rename_i h;simp only[u9]at hb;omega
  have vH:¬2<(fq m).length:=by unfold fq;split<;>simp
  generalize hw:fq m=w at*;cases w with
  |nil=>cases hk
  |cons b w=>
   have hb:=hd b (by simp)
   have eC:isLet b=false:=by simp only[ca,ej,decide_eq_true_eq]at hb;simp[isLet];omega
   rw[cG]at hr⊢;simp only[gz,hb,eC,if_true,hr,hk,jV,if_false,h48 b w rfl,vH];rw[<-cG,ama]
 |@sign b hb=>
  obtain⟨h1,h2,-⟩:=E6 hb
  simp only[cG,bE,gz,h1,h2,hb,jV,if_false,if_true,di]
abbrev GW:=List (List Nat×List Nat)
def cd:GW->List Nat
 |[]=>[]
 |x::l=>x.1++(x.2++cd l)
theorem Wc(a b:GW):cd (a++b)=cd a++cd b:=by
 induction a with
 |nil=>rfl
 |cons x a ih=>simp[cd,ih]
def iD:Nat->GW->Bool
 |_,[]=>true
 |k,x::l=>(!x.1.isEmpty||!(k==di x.2&&(k==1||k==2)))&&iD (di x.2) l
def uH:Nat->GW->Nat
 |k,[]=>k
 |_,x::l=>uH (di x.2) l
theorem J0(k:Nat)(a b:GW):iD k (a++b)=(iD k a&&iD (uH k a) b):=by
 induction a generalizing k with
 |nil=>rfl
 |cons x a ih=>simp only[cG,iD,uH,ih,Bool.and_assoc]
def wE(l:GW):Prop:=∀x∈l,Lay x.1/\lj x.2
theorem wE.ok{l:GW}(h:wE l):du (cd l):=by
 induction l with
 |nil=>intro b hb;cases hb
 |cons x l ih=>
  intro b hb
  have hx:=h x (by simp);rcases dT.1 hb with hb|hb
  ·exact hx.1.ok b hb
  ·rcases dT.1 hb with hb|hb
   ·exact hx.2.ok b hb
   ·exact ih (fun y hy=>h y (by simp[hy])) b hb
def oH:Nat->GW->List Tok
 |_,[]=>[]
 |n,x::l=>⟨n+x.1.length,di x.2,x.2,-1⟩::oH (n+x.1.length+x.2.length) l
theorem akn(l:GW):∀n,TS (l.map alS) (oH n l):=by
 induction l with
 |nil=>intro n;trivial
 |cons x l ih=>intro n;exact⟨⟨rfl,rfl,rfl⟩,ih _⟩
theorem Wh{b:Nat}{z:List Nat}(h:bY false (b::z)=(b::z).length):isLet b=false/\ca b=false:=by
 rw[bY]at h;split at h
 ·rename_i hb;rcases hb with rfl|rfl<;>decide
 ·split at h
  ·rename_i hb;subst hb;decide
  ·simp at h
theorem afM{b:Nat}{g:List Nat}(h:Lay (b::g)):isLet b=false/\ca b=false:=by have:=h.go [];simp only[List.append_nil,bY,Nat.add_zero]at this;exact Wh (z:=g) this
theorem Yw{w:List Nat}(h:lj w):∃b r,w=b::r/\(isLet b=true->di w=1)/\(ca b=true->di w=2):=by
 obtain⟨h1,h2⟩:=h.kind;cases w with
 |nil=>exact absurd rfl h2
 |cons b r=>
  refine⟨b,r,rfl,fun h=>by simp[di,h],fun h=>?_⟩
  have:isLet b=false:=by simp only[ca,ej,decide_eq_true_eq]at h;simp[isLet];omega
  simp[di,h,this]
theorem Wg{z:List Nat}(h:bY false z=z.length):∀b,z.head?=some b->isLet b=false/\ca b=false:=by
 intro b hb;cases z with
 |nil=>cases hb
 |cons c z=>
  cases hb
  exact Wh h
theorem XX{w:List Nat}{l:GW}{z:List Nat}(hl:wE l)(ha:iD (di w) l=true)(hz:∀b,z.head?=some b->isLet b=false/\ca b=false):Sep w (cd l++z):=by
 intro b hb;cases l with
 |nil=>
  obtain⟨h1,h2⟩:=hz b hb
  rw[h1,h2];simp
 |cons x l=>
  obtain⟨g,v⟩:=x
  obtain⟨h1,h2⟩:=hl (g,v) (by simp);cases g with
  |cons c g=>
   simp only[cd,cG,amb,bh]at hb
   subst hb;obtain⟨h3,h4⟩:=afM h1;rw[h3,h4];simp
  |nil=>
   obtain⟨c,r,rfl,h3,h4⟩:=Yw h2
   simp only[cd,bE,cG,amb,bh]at hb;subst hb;simp only[iD,List.isEmpty_nil,Bool.not_true,Bool.false_or,ej,Ao,Bool.and_eq_false_iff,beq_eq_false_iff_ne,Fj,ne_eq]at ha;refine⟨fun⟨k1,k2⟩=>?_,fun⟨k1,k2⟩=>?_⟩
   ·have:=h3 k2;rw[k1,this]at ha;simp at ha
   ·have:=h4 k2;rw[k1,this]at ha;simp at ha
theorem Yk(D:Nat->List Tok):∀(l:GW) (z:List Nat) (k0:Nat),wE l->iD k0 l=true->(∀b,z.head?=some b->isLet b=false/\ca b=false)->(∀k n,z.length<k->oG k n z=D n)->∀k n,(cd l++z).length<k->oG k n (cd l++z)=oH n l++D (n+(cd l).length)
 |[],z,_,_,_,_,hD,k,n,hk=>hD k n hk
 |x::l,z,k0,hl,ha,hz,hD,k,n,hk=>by
  obtain⟨g,w⟩:=x;have h1:Lay g:=(hl (g,w) (by simp)).1;have h2:lj w:=(hl (g,w) (by simp)).2;obtain⟨k,rfl⟩:∃j,k=j+1:=⟨k-1,by omega⟩;simp only[iD,ej]at ha;have iH:wE l:=fun y hy=>hl y (by simp[hy]);have ac9:Sep w (cd l++z):=XX iH ha.2 hz;obtain⟨o9,φ⟩:=h2.kind;obtain⟨b,r,yV,-⟩:=Yw h2;have acC:bY false (w++(cd l++z))=0:=by
   rw[yV,cG,bY];have TU:¬(b=32\/b=10)/\¬b=35:=by
    cases h2 with
    |lets a1 a2 a3=>
     have:=a3 b (by rw[yV];simp)
     simp only[isLet,ej,decide_eq_true_eq]at this;omega
    |@num m hm=>
     unfold fq at yV
     split at yV<;>simp only[u9]at yV<;>omega
    |@sign c hc=>
     simp only[u9]at yV
     rw[<-yV.1];simp only[qn,cy,lE,or_false]at hc;omega
   rw[if_neg TU.1,if_neg TU.2]
  have e0:cd ((g,w)::l)++z=g++(w++(cd l++z)):=by simp[cd]
  have eg:bY false (g++(w++(cd l++z)))=g.length:=by rw[h1.go,acC];rfl
  have qW:gz (n+g.length) (w++(cd l++z))=⟨n+g.length,di w,w,-1⟩:=akk h2 ac9;have xF:0<w.length:=List.length_pos_iff.2 φ;have er:¬(g++(w++(cd l++z))).length<=g.length:=by simp only[cI];omega
  rw[e0]at hk⊢;simp only[oG,eg,if_neg er,List.drop_left,qW,if_neg o9];rw[Yk D l z (di w) iH ha.2 hz hD k _ (by simp only[cI]at hk⊢;omega)];simp only[cd,oH,cI,List.cons_append,Nat.add_assoc]
theorem ako{l:GW}{z:List Nat}(hl:wE l)(ha:iD 0 l=true)(hz:bY false z=z.length):cj (cd l++z)=oH 0 l:=by
 have:=Yk (fun _=>[]) l z 0 hl ha (Wg hz) (fun k n hk=>by
  obtain⟨k,rfl⟩:∃j,k=j+1:=⟨k-1,by omega⟩
  simp[oG,hz]) _ 0 (Nat.lt_succ_self _)
 exact this.trans (List.append_nil _)
def nV(g:List Nat):Prop:=∀b∈g,b=32\/b=10
theorem nV.app{g h:List Nat}(h1:nV g)(h2:nV h):nV (g++h):=fun b hb=>(dT.1 hb).elim (h1 b) (h2 b)
def AA(l:GW):Prop:=∀x∈l,nV x.1/\lj x.2
theorem AA.HL{l:GW}(h:AA l):wE l:=fun x hx=>⟨.sp (h x hx).1,(h x hx).2⟩
def ga(s:List Nat)(ws:List (List Nat))(b e:Bool):Prop:=
 ∃l:GW,cd l=s/\l.map alS=ws/\AA l/\l≠[]/\(∀k,(b=true\/(k≠1/\k≠2))->iD k l=true)/\(e=true->∀k,uH k l≠1/\uH k l≠2)
theorem afG(k:Nat)(a b:GW):uH k (a++b)=uH (uH k a) b:=by
 induction a generalizing k with
 |nil=>rfl
 |cons x a ih=>exact ih _
theorem ga.app{s1 s2:List Nat}{w1 w2:List (List Nat)}{b1 e1 b2 e2:Bool}(h:ga s1 w1 b1 e1)(k:ga s2 w2 b2 e2)(hc:(e1||b2)=true):ga (s1++s2) (w1++w2) b1 e2:=by
 obtain⟨l1,a1,a2,a3,a4,a5,a6⟩:=h;obtain⟨l2,c1,c2,c3,c4,c5,c6⟩:=k;refine⟨l1++l2,by rw[Wc,a1,c1],by rw[List.map_append,a2,c2],fun x hx=>?_,by simp[a4],fun j hj=>?_,fun he j=>?_⟩
 ·rcases dT.1 hx with hx|hx
  ·exact a3 x hx
  ·exact c3 x hx
 ·rw[J0,a5 j hj,rr];refine c5 _ ?_;cases b2 with
  |true=>exact .inl rfl
  |false=>exact .inr (a6 (by simpa using hc) j)
 ·rw[afG];exact c6 he _
theorem ga.gg{s:List Nat}{ws:List (List Nat)}{b e:Bool}(h:ga s ws b e){g:List Nat}(hg:nV g)(φ:g≠[]):ga (g++s) ws true e:=by
 obtain⟨l,a1,a2,a3,a4,a5,a6⟩:=h;cases l with
 |nil=>exact absurd rfl a4
 |cons x l=>
  refine⟨(g++x.1,x.2)::l,by rw[<-a1];simp[cd],a2,fun y hy=>?_,by simp,fun j _=>?_,a6⟩
  ·rcases cy.1 hy with rfl|hy
   ·exact⟨hg.app (a3 x (by simp)).1,(a3 x (by simp)).2⟩
   ·exact a3 y (by simp[hy])
  ·have:=a5 0 (.inr ⟨by decide,by decide⟩);simp only[iD,ej]at this⊢;refine⟨?_,this.2⟩;have:(g++x.1).isEmpty=false:=by cases g<;>first|exact absurd rfl φ|rfl
   rw[this];rfl
theorem ga.Cj{s:List Nat}{ws:List (List Nat)}{b e:Bool}(h:ga s ws b e):ga s ws false false:=by obtain⟨l,a1,a2,a3,a4,a5,a6⟩:=h;exact⟨l,a1,a2,a3,a4,fun k hk=>a5 k (hk.elim (fun h=>by cases h) .inr),fun h=>by cases h⟩
theorem Jn{w:List Nat}(h:lj w):ga w [w] false false:=by
 refine⟨[([],w)],by simp[cd],rfl,fun x hx=>by rw[fU.1 hx];exact⟨by simp[nV],h⟩,by simp,fun k hk=>?_,fun h=>by cases h⟩;rcases hk with hk|⟨h1,h2⟩
 ·cases hk
 ·have h1:(k==1)=false:=by simpa using h1
  have h2:(k==2)=false:=by simpa using h2
  simp[iD,h1,h2]
theorem kG{b:Nat}(h:b∈qn):ga [b] [[b]] true true:=by
 obtain⟨h1,h2,h3⟩:=E6 h;have hk:di [b]=b:=by simp[di,h1,h2]
 refine⟨[([],[b])],by simp[cd],rfl,fun x hx=>by rw[fU.1 hx];exact⟨by simp[nV],.sign h⟩,by simp,fun k _=>?_,fun _ k=>?_⟩
 ·have:(k==b&&(k==1||k==2))=false:=by
   cases hh:(k==b&&(k==1||k==2))with
   |false=>rfl
   |true=>
    simp only[ej,Bool.or_eq_true,beq_iff_eq]at hh
    omega
  simp[iD,hk,this]
 ·simp only[uH,hk];omega
theorem agq{w:List Nat}(h:dc w=true):lj w:=by simp only[dc,ej,decide_eq_true_eq]at h;refine .lets (fun e=>by rw[e]at h;simp at h) h.1.1.1.2 fun b hb=>?_;have:=dO.1 h.1.1.2 b hb;simpa[isLet]using this
theorem uS{w:List Nat}(h:dc w=true):ga w [w] false false:=Jn (agq h)
theorem j_:nV [32]:=by simp[nV]
theorem afJ:nV [10]:=by simp[nV]
theorem W8{s:List Nat}{ws:List (List Nat)}(h:ga s ws false false)(b:Bool):ga (paren b s) (qj b ws) false false:=by
 cases b with
 |false=>exact h
 |true=>
  have:=(kG (b:=40) (by decide)).app (h.app (kG (b:=41) (by decide)) rfl) rfl
  exact this.Cj
theorem ζ.Can.akh{k:Int}{a b:ζ}(h1:3<=k):(ζ.mk k 0 [] .any [a,b]).text=paren (decide (k=5)&&fW a.kind) a.text++(xR k++paren (if k=5 then decide (3<=b.kind)else fW b.kind) b.text):=by
 have e1:¬k=1:=by omega
 have e2:¬k=2:=by omega
 simp only[ζ.text,ζ.texts,xK,e1,e2,if_false,az,aJ,bO]
theorem BT{x:ζ}(h:x.Can):ga x.text x.words false false:=by
 induction h with
 |@fix n h1 h2=>
  have:ga (fq n.toNat) [fq n.toNat] false false:=Jn (.num (by omega))
  simpa[ζ.text,ζ.words,xK,tA]using this
 |@dS s h=>simpa[ζ.text,ζ.words,xK,tA]using uS h
 |@bin k a b h1 h2 ha hb dM gx=>
  rw[ζ.Can.akh h1,P3 h1]
  have Ξ:∃c,c∈qn/\xR k=[32]++([c]++[32])/\sx k=[c]:=by
   have:k=3\/k=4\/k=5:=by omega
   rcases this with rfl|rfl|rfl
   ·exact⟨43,by decide,rfl,rfl⟩
   ·exact⟨45,by decide,rfl,rfl⟩
   ·exact⟨42,by decide,rfl,rfl⟩
  obtain⟨c,hc,e1,e2⟩:=Ξ;rw[e1,e2];have p1:=W8 dM (decide (k=5)&&fW a.kind);have p2:=(kG hc).gg j_ (by simp);have p3:=(W8 gx (if k=5 then decide (3<=b.kind)else fW b.kind)).gg j_ (by simp);have:=p1.app (p2.app p3 rfl) rfl;simpa only[bO,cG,bE]using this
theorem ah4{p:ξ}(h:p.Can):ga p.text p.words false false:=by
 obtain⟨nm,c,ix⟩:=p;obtain⟨h1,h2,h3,h4⟩:=h;simp only at h1 h2 h3 h4;have p0:=uS h1;have pl:=kG (b:=91) (by decide);have pr:=kG (b:=93) (by decide)
 match ix,h3,h4 with
 |[],_,_=>exact p0
 |[a],_,h4=>
  have:=p0.app (pl.app ((BT (h4 a (by simp))).app pr rfl) rfl) rfl
  simpa only[ξ.text,ξ.words,bO]using this.Cj
 |[a,b],_,h4=>
  have pc:=(kG (b:=58) (by decide)).gg j_ (by simp)
  have:=p0.app (pl.app ((BT (h4 a (by simp))).app (pc.app (((BT (h4 b (by simp))).gg j_ (by simp)).app pr rfl) rfl) rfl) rfl) rfl;simpa only[ξ.text,ξ.words,bO,cG,bE]using this.Cj
 |_::_::_::_,h3,_=>simp at h3
theorem Ph{α:Type}(T:α->List Nat)(W:α->List (List Nat)):∀(l:List α),(∀x∈l,ga (T x) (W x) false false)->l≠[]->ga (lI (l.map T)) (iP (l.map W)) false false
 |[],_,h=>absurd rfl h
 |[x],h,_=>by simpa[lI,iP,kj]using h x (by simp)
 |x::y::l,h,_=>by
  have ih:=Ph T W (y::l) (fun z hz=>h z (by simp[hz])) (by simp);have p1:=h x (by simp);have p2:=kG (b:=44) (by decide);have:=p1.app (p2.app (ih.gg j_ (by simp)) rfl) rfl;have e1:lI ((x::y::l).map T)=T x++([44]++([32]++lI ((y::l).map T))):=by simp[lI]
  have e2:iP ((x::y::l).map W)=W x++([[44]]++iP ((y::l).map W)):=by simp[iP,kj]
  rw[e1,e2];exact this
theorem Jm{l:List ξ}(h:∀p∈l,p.Can)(φ:l≠[]):ga (nK l) (iP (l.map ξ.words)) false false:=Ph ξ.text ξ.words l (fun p hp=>ah4 (h p hp)) φ
theorem ah5{l:List ξ}(h:∀p∈l,p.Can){c:Nat}(hc:c∈qn):ga (nK l++[c]) (iP (l.map ξ.words)++[[c]]) false true:=by
 by_cases φ:l=[]
 ·subst φ;obtain⟨l,a1,a2,a3,a4,a5,a6⟩:=kG hc;exact⟨l,a1,a2,a3,a4,fun k _=>a5 k (.inl rfl),a6⟩
 ·exact(Jm h φ).app (kG hc) rfl
theorem sH{w:List Nat}(h1:w≠[])(h2:w.length<=8)(h3:(w.all isLet)=true):ga w [w] false false:=Jn (.lets h1 h2 (dO.1 h3))
theorem ah2{k g:Int}{nm:List Nat}{cp:ρ}{pl:List ξ}{size to:ζ}{cb ce:ρ}{bd ed:List δ}(h:(δ.mk k g nm cp pl size to cb bd ce ed).Can):ga (cm k g nm pl size to) (fN k g nm pl size to) false false:=by
 have sz:∀{nm:List Nat} {x:ζ} {kw:List Nat},dc nm=true->x.Can->ga kw [kw] false false->ga (kw++([32]++(nm++([91]++(x.text++[93]))))) ([kw]++([nm]++([[91]]++(x.words++[[93]])))) false false:=fun h1 h2 hk=>by have:=hk.app (((uS h1).app ((kG (b:=91) (by decide)).app ((BT h2).app (kG (b:=93) (by decide)) rfl) rfl) rfl).gg j_ (by simp)) rfl;exact this.Cj
 cases h with
 |gate h1 h2 h3 h4=>
  obtain⟨-,f2,f3,-⟩:=Dh h1 h2
  have φ:pl≠[]:=fun e=>by rw[e]at h3;simp at h3;omega
  have hw:ga (fu.getD (g-1).toNat []) [fu.getD (g-1).toNat []] false false:=by
   have:g=1\/g=2\/g=3\/g=4\/g=5\/g=6\/g=7\/g=8\/g=9\/g=10\/g=11\/g=12:=by omega
   rcases this with rfl|rfl|rfl|rfl|rfl|rfl|rfl|rfl|rfl|rfl|rfl|rfl<;>exact sH (by decide) (by decide) (by decide)
  have:=hw.app ((Jm h4 φ).gg j_ (by simp)) rfl;simpa only[cm,fN,if_true,bO]using this
 |take h1 h2=>simpa[cm,fN]using sz h1 h2 (sH (w:=[116,97,107,101]) (by decide) (by decide) (by decide))
 |drop h1=>
  have:=(sH (w:=[100,114,111,112]) (by decide) (by decide) (by decide)).app ((uS h1).gg j_ (by simp)) rfl
  simpa[cm,fN]using this
 |borrow h1 h2 h3=>simpa[cm,fN]using sz h1 h2 (sH (w:=[98,111,114,114,111,119]) (by decide) (by decide) (by decide))
 |measure h1 h2=>
  have pc:=(kG (b:=58) (by decide)).gg j_ (by simp)
  have:=(sH (w:=[109,101,97,115,117,114,101]) (by decide) (by decide) (by decide)).app (((Jm (l:=[_]) (by simpa using h2) (by simp)).gg j_ (by simp)).app (pc.app ((uS h1).gg j_ (by simp)) rfl) rfl) rfl;simpa[cm,fN]using this
 |reset h2=>
  have:=(sH (w:=[114,101,115,101,116]) (by decide) (by decide) (by decide)).app ((Jm (l:=[_]) (by simpa using h2) (by simp)).gg j_ (by simp)) rfl
  simpa[cm,fN]using this
 |cond h1 h3 h4=>
  have:=(sH (w:=[105,102]) (by decide) (by decide) (by decide)).app ((uS h1).gg j_ (by simp)) rfl
  simpa[cm,fN]using this
 |loop h1 h2 l9 h3=>
  have pe:=(kG (b:=61) (by decide)).gg j_ (by simp)
  have pc:=(kG (b:=58) (by decide)).gg j_ (by simp);have:=(sH (w:=[102,111,114]) (by decide) (by decide) (by decide)).app (((uS h1).gg j_ (by simp)).app (pe.app (((BT h2).gg j_ (by simp)).app (pc.app ((BT l9).gg j_ (by simp)) rfl) rfl) rfl) rfl) rfl;simpa[cm,fN]using this
 |call h1 h4=>
  have:=(uS h1).app ((kG (b:=40) (by decide)).app (ah5 h4 (c:=41) (by decide)) rfl) rfl
  simpa[cm,fN]using this.Cj
 |qp h3=>simpa[cm,fN]using sH (w:=[117,110,100,111]) (by decide) (by decide) (by decide)
 |within h3 h4=>simpa[cm,fN]using sH (w:=[119,105,116,104,105,110]) (by decide) (by decide) (by decide)
theorem Wi{b:List Nat}(hb:∀c∈b,c=32):nV (10::b):=fun c hc=>by
 rcases cy.1 hc with rfl|hc
 ·exact .inr rfl
 ·exact .inl (hb c hc)
theorem Zw{b:List Nat}(hb:∀c∈b,c=32):∀c∈b++fJ,c=32:=fun c hc=>by
 rcases dT.1 hc with hc|hc
 ·exact hb c hc
 ·simp only[fJ,cy,lE,or_false,or_self]at hc;exact hc
def ve(l:List δ)(b:List Nat):List Nat:=[123,10]++dj l (b++fJ)++b++[125]
theorem afY(k g:Int)(nm:List Nat)(cp:ρ)(pl:List ξ)(size to:ζ)(cb ce:ρ)(body els:List δ)(b:List Nat):jr (.mk k g nm cp pl size to cb body ce els) b=b++(cm k g nm pl size to++
  (if aU k=false then[59]else[32]++(ve body b++(if bm k=true/\¬(k=7/\els.length=0)then[32]++(ns k++([32]++ve els b))else[]))))++[10]:=by
 simp only[jr];cases hb:aU k with
 |false=>simp
 |true=>
  by_cases he:bm k=true/\¬(k=7/\els.length=0)
  ·simp only[if_pos he,Cn,if_false];simp[ve]
  ·simp only[if_neg he,Cn,if_false];simp[ve]
theorem ah1(k:Int):ga (ns k) [ns k] false false:=by unfold ns;split<;>exact sH (by decide) (by decide) (by decide)
def Qd(s:δ):Prop:=∀b,(∀c∈b,c=32)->∃S,[10]++jr s b=S++[10]/\ga S s.words true true
def Cp(l:List δ):Prop:=∀b,(∀c∈b,c=32)->l≠[]->∃S,[10]++dj l b=S++[10]/\ga S (kI l) true true
theorem Pg{l:List δ}(h:Cp l)(b:List Nat)(hb:∀c∈b,c=32):ga (ve l b) (bW l) true true:=by
 have p1:=kG (b:=123) (by decide);have p2:=(kG (b:=125) (by decide)).gg (Wi hb) (by simp);by_cases hl:l=[]
 ·subst hl;have:=p1.app p2 rfl;simpa[ve,dj,bW,kI]using this
 ·obtain⟨S,h1,h2⟩:=h (b++fJ) (Zw hb) hl;have:=p1.app (h2.app p2 rfl) rfl;have e:ve l b=[123]++(S++(10::b++[125])):=by have:[123,10]++dj l (b++fJ)=[123]++([10]++dj l (b++fJ)):=rfl;rw[ve,this,h1];simp
  rw[e];exact this
theorem af0{s:δ}(h:s.Can)(hb:aU s.kind=true->Cp s.body)(he:bm s.kind=true->Cp s.els):Qd s:=by
 intro b fM;obtain⟨k,g,nm,cp,pl,size,to,cb,body,ce,els⟩:=s;simp only[δ.kind,δ.body,δ.els]at hb he;have ph:=ah2 h;have Mg:=Wi fM;refine⟨_,by rw[afY,<-bO],?_⟩;simp only[δ.words];cases hk:aU k with
 |false=>
  have:=(ph.app (kG (b:=59) (by decide)) rfl).gg Mg (by simp)
  simpa using this
 |true=>
  have pb:=Pg (hb hk) b fM
  by_cases hc:bm k=true/\¬(k=7/\els.length=0)
  ·have pe:=Pg (he hc.1) b fM;have:=(ph.app ((pb.app (((ah1 k).app (pe.gg j_ (by simp)) rfl).gg j_ (by simp)) rfl).gg j_ (by simp)) rfl).gg Mg (by simp);simp only[if_pos hc,Cn,if_false];simpa[bW]using this
  ·have:=(ph.app (pb.gg j_ (by simp)) rfl).gg Mg (by simp);simp only[if_neg hc,Cn,if_false];simpa[bW]using this
theorem δ.Can.sub{s:δ}(h:s.Can):δ.jW s.body/\δ.jW s.els:=by cases h<;>first|exact⟨‹_›,‹_›⟩|exact⟨‹_›,.nil⟩|exact⟨.nil,.nil⟩
theorem af3(l:List δ):δ.jW l->Cp l:=by
 refine δ.lists (P:=fun l=>δ.jW l->Cp l) (fun l ih hc=>?_) l;have each:∀s∈l,Qd s:=fun s hs=>by have h1:=hc.mem s hs;exact af0 h1 (fun _=>(ih s hs).1 h1.sub.1) fun _=>(ih s hs).2 h1.sub.2
 clear ih hc;induction l with
 |nil=>intro b _ h;exact absurd rfl h
 |cons s l xH=>
  intro b hb _
  obtain⟨S,h1,h2⟩:=each s (by simp) b hb;by_cases hl:l=[]
  ·subst hl;exact⟨S,by simpa[dj]using h1,by simpa[kI]using h2⟩
  ·obtain⟨S2,k1,k2⟩:=xH (fun y hy=>each y (by simp[hy])) b hb hl;refine⟨S++S2,?_,h2.app k2 rfl⟩;rw[dj,<-bO,h1,bO,k1,bO]
theorem ah3{p:ak}(h1:dc p.name=true)(h2:0<=p.size)(h3:p.size<100):ga p.text p.words false true:=by have:=(uS h1).app ((kG (b:=91) (by decide)).app ((Jn (.num (n:=p.size.toNat) (by omega))).app (kG (b:=93) (by decide)) rfl) rfl) rfl;simpa[ak.text,ak.words]using this
theorem W9{p:τ}(h:p.Can):∃S,p.text=S++[10]/\ga S p.words false true:=by
 have p1:=sH (w:=[112,114,111,99]) (by decide) (by decide) (by decide);have p2:=(uS h.nm).gg j_ (by simp);have p3:=kG (b:=40) (by decide);have p4:ga (lI (p.au.map ak.text)++[41]) (iP (p.au.map ak.words)++[[41]]) false true:=by
  by_cases φ:p.au=[]
  ·rw[φ];obtain⟨l,a1,a2,a3,a4,a5,a6⟩:=kG (b:=41) (by decide);exact⟨l,a1,a2,a3,a4,fun k _=>a5 k (.inl rfl),a6⟩
  ·exact(Ph ak.text ak.words p.au (fun x hx=>(ah3 (h.au x hx).1 (h.au x hx).2.1 (h.au x hx).2.2).Cj) φ).app (kG (by decide)) rfl
 have p5:=(Pg (af3 p.body h.body) [] (by simp)).gg j_ (by simp);have:=p1.app (p2.app (p3.app (p4.app p5 rfl) rfl) rfl) rfl;refine⟨_,?_,by simpa only[τ.words]using this⟩;simp[τ.text,ve,fJ]
theorem Xm:∀(l:List τ),(∀p∈l,p.Can)->l≠[]->∃S,fI l=S++[10]/\ga S (gi l) false true
 |[],_,h=>absurd rfl h
 |[p],h,_=>by obtain⟨S,h1,h2⟩:=W9 (h p (by simp));exact⟨S,by simp[fI,h1],by simpa[gi]using h2⟩
 |p::q::l,h,_=>by
  obtain⟨S,h1,h2⟩:=W9 (h p (by simp));obtain⟨S2,k1,k2⟩:=Xm (q::l) (fun y hy=>h y (by simp[hy])) (by simp);refine⟨S++([10]++S2),?_,?_⟩
  ·rw[fI,h1,k1];simp
  ·rw[gi];exact h2.app (k2.gg afJ (by simp)) rfl
theorem aio{l:List τ}(h:∀p∈l,p.Can)(φ:l≠[]):∃w:GW,fI l=cd w++[10]/\w.map alS=gi l/\AA w/\iD 0 w=true:=by obtain⟨S,h1,w,a1,a2,a3,a4,a5,a6⟩:=Xm l h φ;exact⟨w,by rw[h1,a1],a2,a3,a5 0 (.inr ⟨by decide,by decide⟩)⟩
end Go.Θ
