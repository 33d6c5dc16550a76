import Derived.Test.YtiigojkfojnedaaGreatDoorRKa
import Derived.Test.YtiigojkfojnedaaGreatDoorRHm
set_option linter.all false
set_option maxRecDepth 100000
set_option maxHeartbeats 8000000
open Bool renaming and_eq_true->dy,not_eq_true'->BP,or_eq_false_iff->EN,true_and->sg,false_eq_true->jO,true_eq_false->BR
open List renaming all_eq_true->dL,contains_iff_mem->xC,cons_append->cy,append_assoc->bQ,nil_append->bB,map_cons->ax,map_nil->aI,length_append->cX,length_cons->cN,mem_cons->cB,not_mem_nil->mO,length_nil->eT,mem_map->fb,mem_singleton->fY,mem_append->dQ,take_left->ak1,head?_cons->ak3
open Nat renaming lt_of_lt_of_le->kg
open List.cons renaming injEq->sk
open Prod renaming snd->ak2
open Option.some renaming injEq->a_
namespace Go.Δ
open Tz (u9)
def eD:List Nat->Nat
 |[]=>0
 |b::_=>if isLet b then 1 else if dn b then 2 else b
def TS:List (List Nat)->List Tok->Prop
 |[],[]=>True
 |w::ws,t::ts=>(t.text=w/\t.kind=eD w/\t.gV= -1)/\TS ws ts
 |_,_=>False
theorem TS.split{a b:List (List Nat)}{ts:List Tok}(h:TS (a++b) ts):∃t1 t2,ts=t1++t2/\TS a t1/\TS b t2:=by
 induction a generalizing ts with
 |nil=>exact⟨[],ts,rfl,trivial,h⟩
 |cons w a ih=>
  cases ts with
  |nil=>exact h.elim
  |cons t ts=>
   obtain⟨t1,t2,rfl,h1,h2⟩:=ih h.2
   exact⟨t::t1,t2,rfl,⟨h.1,h1⟩,h2⟩
theorem TS.cons{w:List Nat}{ws:List (List Nat)}{ts:List Tok}(h:TS (w::ws) ts):∃t r,ts=t::r/\(t.text=w/\t.kind=eD w/\t.gV= -1)/\TS ws r:=by
 cases ts with
 |nil=>exact h.elim
 |cons t ts=>exact⟨t,ts,rfl,h.1,h.2⟩
theorem TS.one{w:List Nat}{ts:List Tok}(h:TS [w] ts):∃t,ts=[t]/\(t.text=w/\t.kind=eD w/\t.gV= -1):=by
 obtain⟨t,r,rfl,h1,h2⟩:=h.cons;cases r with
 |nil=>exact⟨t,rfl,h1⟩
 |cons=>exact h2.elim
theorem TS.nil{ts:List Tok}(h:TS [] ts):ts=[]:=by cases ts<;>first|rfl|exact h.elim
theorem TS.len{ws:List (List Nat)}{ts:List Tok}(h:TS ws ts):ts.length=ws.length:=by
 induction ws generalizing ts with
 |nil=>rw[h.nil];rfl
 |cons w ws ih=>obtain⟨t,r,rfl,-,h2⟩:=h.cons;simp[ih h2]
def lx(r:List Tok):List Nat:=match r with
 |[]=>[]
 |t::_=>t.text
theorem O8{e:Nat}{f:Tok->Bool}{w:List Nat}{t:Tok}{r:List Tok}{a:Nat}(ht:t.text=w/\t.kind=eD w/\t.gV= -1)(hk:eD w≠0)(hf:f t=true):ke e f ⟨a,t::r⟩= .ok w ⟨t.at_+t.text.length,r⟩:=by
 have h1:¬(t.kind=0\/f t=false):=by rw[ht.2.1,hf];simpa using hk
 have h2:¬(0<=t.gV):=by rw[ht.2.2];decide
 simp only[ke,h1,h2,if_false,ht.1]
theorem uJ{e:Nat}{w:List Nat}{t:Tok}{r:List Tok}{a:Nat}(ht:t.text=w/\t.kind=eD w/\t.gV= -1)(hk:eD w≠0):aF e w ⟨a,t::r⟩= .ok w ⟨t.at_+t.text.length,r⟩:=
 O8 ht hk (by simp[ht.1])
theorem NN{w:List Nat}(h:df w=true):eD w=1/\u9 w=false:=by
 simp only[df,dy,BP,decide_eq_true_eq]at h;obtain⟨⟨⟨⟨h1,h2⟩,h3⟩,h4⟩,h5⟩:=h;constructor
 ·cases w with
  |nil=>simp at h1
  |cons b w=>
   have:isLet b=true:=by simpa[rT,isLet]using(dL.1 h3) b (by simp)
   simp[eD,this]
 ·cases hh:u9 w with
  |false=>rfl
  |true=>
   have hm:w∈Tz.z7:=xC.1 hh
   have jU:(Tz.z7.all fun w=>fu.contains w||uh.contains w)=true:=by decide
   have:=dL.1 jU w hm;rw[h4,h5]at this;cases this
theorem Oa{e:Nat}{w:List Nat}{t:Tok}{r:List Tok}{a:Nat}(hn:df w=true)(ht:t.text=w/\t.kind=eD w/\t.gV= -1):gS e ⟨a,t::r⟩= .ok w ⟨t.at_+t.text.length,r⟩:=by obtain⟨h1,h2⟩:=NN hn;exact O8 ht (by rw[h1];decide) (by rw[ht.2.1,ht.1,h1,h2];rfl)
theorem Ft{n:Nat}(h:n<100):eD (gi n)=2/\numOf (gi n)=n:=by
 by_cases h1:n<10
 ·have e:gi n=[48+n]:=if_pos h1;rw[e];have a:¬(97<=48+n):=by omega
  have b:48<=48+n/\48+n<=57:=by omega
  exact⟨by simp[eD,isLet,dn,a,b.2],by simp[numOf]⟩
 ·have e:gi n=[48+n/10,48+n % 10]:=if_neg h1;rw[e];have b:48+n/10<=57:=by omega
  exact⟨by simp[eD,isLet,dn,b];omega,by simp[numOf];omega⟩
theorem VM{e n:Nat}(hn:n<100){t:Tok}{r:List Tok}{a:Nat}(ht:t.text=gi n/\t.kind=eD (gi n)/\t.gV= -1):uk e ⟨a,t::r⟩= .ok n ⟨t.at_+t.text.length,r⟩:=by obtain⟨h1,h2⟩:=Ft hn;have:=O8 (e:=e) (f:=fun t=>t.kind==2) (r:=r) (a:=a) ht (by rw[h1];decide) (by rw[ht.2.1,h1];rfl);simp only[uk,this,R.map,h2]
def qI(b:Bool)(ws:List (List Nat)):List (List Nat):=if b then[40]::(ws++[[41]])else ws
def uq(k:Int):List Nat:=if k=3 then[43]else if k=4 then[45]else[42]
def Bg(k n:Int)(s:List Nat)(ks:List Int)(ts:List (List (List Nat))):List (List Nat):=
 if k=1 then[gi n.toNat]else if k=2 then[s]else
  match ks,ts with
  |[ka,kb],[ta,tb]=>qI (decide (k=5)&&gJ ka) ta++uq k::qI (if k=5 then decide (3<=kb)else gJ kb) tb
  |_,_=>[]
mutual
def ζ.words:ζ->List (List Nat)
 | .mk k n s _ l=>Bg k n s (l.map ζ.kind) (ζ.Pa l)
def ζ.Pa:List ζ->List (List (List Nat))
 |[]=>[]
 |x::l=>x.words::ζ.Pa l
end
inductive ζ.Can:ζ->Prop
 |fix {n:Int} (h1:0<=n) (h2:n<100):ζ.Can (.mk 1 n [] .nil [])
 |dZ {s:List Nat} (h:df s=true):ζ.Can (.mk 2 0 s .nil [])
 |bin {k:Int} {a b:ζ} (h1:3<=k) (h2:k<=5) (ha:ζ.Can a) (hb:ζ.Can b):ζ.Can (.mk k 0 [] .any [a,b])
abbrev cP:PS->Bool:=fun s=>s.aV [42]
abbrev cS:PS->Bool:=fun s=>s.aV [43]||s.aV [45]
abbrev fP(e:Nat)(at':PS->R ζ):ζ->PS->R ζ:=fun x s=>(aF e [42] s).bind fun _ s=>(at' s).map fun y=> .mk 5 0 [] .any [x,y]
abbrev fS(e:Nat)(pr:PS->R ζ):ζ->PS->R ζ:=fun x s=>(aF e s.hd s).bind fun w s=>(pr s).map fun y=> .mk (if w=[45]then 4 else 3) 0 [] .any [x,y]
def Reads(P:PS->R ζ)(x:ζ)(ws:List (List Nat))(stop:List (List Nat)):Prop:=
 ∀a ts rest,TS ws ts->lx rest∉stop->∃b,P ⟨a,ts++rest⟩= .ok x ⟨b,rest⟩
theorem Bl{α:Type}{c:PS->Bool}{f:α->PS->R α}{n:Nat}{x:α}{s:PS}(hc:c s=false):cJ c f (n+1) x s= .ok x s:=by simp only[cJ,hc];rfl
theorem D4{α:Type}{c:PS->Bool}{f:α->PS->R α}{n:Nat}{x:α}{s:PS}(hc:c s=true):cJ c f (n+1) x s=(f x s).bind (cJ c f n):=by simp only[cJ,hc];rfl
theorem vd(a:Nat)(r:List Tok):(⟨a,r⟩:PS).hd=lx r:=rfl
theorem L0{w:List Nat}{ws:List (List Nat)}{ts rest:List Tok}(h:TS (w::ws) ts):lx (ts++rest)=w:=by obtain⟨t,r,rfl,h1,-⟩:=h.cons;exact h1.1
theorem JN{e k:Nat}{x:ζ}(hx:x.Can)(ih:Reads (aB e k) x x.words [[42],[43],[45]]):Reads (fj e (aB e k)) x (qI true x.words) []:=by
 intro a ts rest ht _;simp only[qI,if_true]at ht;obtain⟨t,r,rfl,h1,h2⟩:=ht.cons;obtain⟨t1,t2,rfl,h3,h4⟩:=h2.split;obtain⟨t',rfl,h5⟩:=h4.one;have hb:(⟨a,t::(t1++[t'])++rest⟩:PS).aV [40]=true:=by simp[PS.aV,PS.hd,h1.1]
 obtain⟨b,dA⟩:=ih (t.at_+t.text.length) t1 (t'::rest) h3 (by show t'.text∉_;rw[h5.1];decide);refine⟨t'.at_+t'.text.length,?_⟩;simp only[fj,hb,if_true];simp only[cy,uJ h1 (by decide),R.bind,bQ,bB,dA,uJ h5 (by decide),R.map]
theorem PL{e:Nat}{ix:PS->R ζ}{x:ζ}(hx:x.Can)(hk:x.kind<=2):Reads (fj e ix) x x.words []:=by
 intro a ts rest ht _;cases hx with
 |@fix n h1 h2=>
  obtain⟨n,rfl⟩:∃j:Nat,n=j:=⟨n.toNat,by omega⟩
  have h3:n<100:=by omega
  simp only[ζ.words,Bg,if_true,Int.toNat_natCast]at ht;obtain⟨t,rfl,h⟩:=ht.one;obtain⟨k1,-⟩:=Ft h3;have hb:(⟨a,[t]++rest⟩:PS).aV [40]=false:=by
   have:gi n≠[40]:=fun e=>by rw[e]at k1;revert k1;decide
   simpa[PS.aV,PS.hd,h.1]using this
  have oN:(⟨a,[t]++rest⟩:PS).kd=2:=by simp[PS.kd,h.2.1,k1]
  refine⟨t.at_+t.text.length,?_⟩;simp only[fj,hb,oN];simp only[cy,bB,VM h3 h,R.map];rfl
 |@dZ s h1=>
  simp only[ζ.words,Bg]at ht
  obtain⟨t,rfl,h⟩:=(show TS [s] ts from ht).one;obtain⟨k1,k2⟩:=NN h1;have hb:(⟨a,[t]++rest⟩:PS).aV [40]=false:=by
   have:s≠[40]:=fun e=>by rw[e]at k1;revert k1;decide
   simpa[PS.aV,PS.hd,h.1]using this
  have oN:(⟨a,[t]++rest⟩:PS).kd=1:=by simp[PS.kd,h.2.1,k1]
  refine⟨t.at_+t.text.length,?_⟩;simp only[fj,hb,oN];simp only[cy,bB,Oa h1 h,R.map];rfl
 |bin h1 h2=>simp only[ζ.kind]at hk;omega
theorem O'{k:Int}{a b:ζ}(h1:3<=k):(ζ.mk k 0 [] .any [a,b]).words=qI (decide (k=5)&&gJ a.kind) a.words++uq k::qI (if k=5 then decide (3<=b.kind)else gJ b.kind) b.words:=by
 have e1:¬k=1:=by omega
 have e2:¬k=2:=by omega
 simp only[ζ.words,ζ.Pa,Bg,e1,e2,if_false,ax,aI]
theorem Oo(b:Bool)(ws:List (List Nat)):ws.length<=(qI b ws).length/\(b=true->(qI b ws).length=ws.length+2):=by cases b<;>simp[qI]<;>omega
section
variable{e k N:Nat}(IH:∀y:ζ,y.Can->y.words.length<N->Reads (aB e k) y y.words [[42],[43],[45]])
include IH
theorem ahj{x:ζ}(hx:x.Can):x.words.length<=N->gJ x.kind=false->∀a ts rest,TS x.words ts->∃b n,rest.length<n/\kY e (fj e (aB e k)) ⟨a,ts++rest⟩=cJ cP (fP e (fj e (aB e k))) n x ⟨b,rest⟩:=by
 have leaf:∀{x:ζ},x.Can->x.kind<=2->∀a ts rest,TS x.words ts->∃b n,rest.length<n/\kY e (fj e (aB e k)) ⟨a,ts++rest⟩=cJ cP (fP e (fj e (aB e k))) n x ⟨b,rest⟩:=by intro x hx hk a ts rest ht;obtain⟨b,hb⟩:=PL (e:=e) (ix:=aB e k) hx hk a ts rest ht (by simp);exact⟨b,rest.length+1,by omega,by show(fj _ _ _).bind _=_;rw[hb];rfl⟩
 induction hx with
 |fix h1 h2=>exact fun _ _=>leaf (.fix h1 h2) (by simp[ζ.kind])
 |dZ h=>exact fun _ _=>leaf (.dZ h) (by simp[ζ.kind])
 |@bin kk a b h1 h2 ha hb dJ gm=>
  intro hN hs a0 ts rest ht
  have pG:kk=5:=by
   have:kk≠3/\kk≠4:=by simp only[gJ,ζ.kind,EN]at hs;exact⟨of_decide_eq_false hs.1,of_decide_eq_false hs.2⟩
   omega
  subst pG;rw[O' h1]at ht hN;simp only[decide_true,sg,if_true]at ht hN;obtain⟨t1,t2,rfl,g1,g2⟩:=ht.split;obtain⟨t,t3,rfl,g3,g4⟩:=g2.cons;have l1:=Oo (gJ a.kind) a.words;have l2:=Oo (decide (3<=b.kind)) b.words;simp only[cX,cN]at hN;have first:∃b1 n1,(t::(t3++rest)).length<n1/\kY e (fj e (aB e k)) ⟨a0,t1++(t::(t3++rest))⟩=cJ cP (fP e (fj e (aB e k))) n1 a ⟨b1,t::(t3++rest)⟩:=by
   cases MZ:gJ a.kind with
   |true=>
    rw[MZ]at g1 l1 hN
    obtain⟨b1,dr⟩:=JN (e:=e) ha (IH a ha (by have:=l1.2 rfl;have:=l2.1;omega)) a0 t1 (t::(t3++rest)) g1 (by simp);exact⟨b1,(t::(t3++rest)).length+1,by omega,by show(fj _ _ _).bind _=_;rw[dr];rfl⟩
   |false=>
    rw[MZ]at g1
    exact dJ (by omega) MZ a0 t1 _ g1
  obtain⟨b1,n1,f1,f2⟩:=first
  have second:∃b2,fj e (aB e k) ⟨t.at_+t.text.length,t3++rest⟩= .ok b ⟨b2,rest⟩:=by
   cases qu:decide (3<=b.kind)with
   |true=>
    rw[qu]at g4 l2 hN
    exact JN (e:=e) hb (IH b hb (by have:=l2.2 rfl;have:=l1.1;omega)) _ t3 rest g4 (by simp)
   |false=>
    rw[qu]at g4
    exact PL (e:=e) (ix:=aB e k) hb (by simp at qu;omega) _ t3 rest g4 (by simp)
  obtain⟨b2,s1⟩:=second;obtain⟨n2,rfl⟩:∃n2,n1=n2+1:=⟨n1-1,by omega⟩;have hc:cP ⟨b1,t::(t3++rest)⟩=true:=by simp[cP,PS.aV,PS.hd,g3.1,uq]
  refine⟨b2,n2,by simp at f1;omega,?_⟩;rw[bQ,cy,f2,D4 hc];simp only[fP,uJ (show t.text=[42]/\t.kind=eD [42]/\t.gV= -1 from g3) (by decide),R.bind,s1,R.map]
theorem Wi{x:ζ}(hx:x.Can)(hN:x.words.length<=N)(hs:gJ x.kind=false):Reads (kY e (fj e (aB e k))) x x.words [[42]]:=by
 intro a ts rest ht hr;obtain⟨b,n,h1,h2⟩:=ahj IH hx hN hs a ts rest ht;obtain⟨n2,rfl⟩:∃n2,n=n2+1:=⟨n-1,by omega⟩;have hc:cP ⟨b,rest⟩=false:=by
  have:lx rest≠[42]:=by simpa using hr
  simpa[cP,PS.aV,vd]using this
 exact⟨b,by rw[h2,Bl hc]⟩
theorem agD{x:ζ}(hx:x.Can)(hN:x.words.length<N):Reads (kY e (fj e (aB e k))) x (qI true x.words) [[42]]:=by
 intro a ts rest ht hr;obtain⟨b,hb⟩:=JN (e:=e) hx (IH x hx hN) a ts rest ht (by simp);have hc:cP ⟨b,rest⟩=false:=by
  have:lx rest≠[42]:=by simpa using hr
  simpa[cP,PS.aV,vd]using this
 exact⟨b,by show(fj _ _ _).bind _=_;rw[hb];exact Bl (c:=cP) (f:=fP e (fj e (aB e k))) (n:=rest.length) (x:=x) hc⟩
theorem ai5{x:ζ}(hx:x.Can):x.words.length<=N->∀a ts rest,TS x.words ts->lx rest≠[42]->∃b n,rest.length<n/\vN e (kY e (fj e (aB e k))) ⟨a,ts++rest⟩=cJ cS (fS e (kY e (fj e (aB e k)))) n x ⟨b,rest⟩:=by
 have leaf:∀{x:ζ},x.Can->x.words.length<=N->gJ x.kind=false->∀a ts rest,TS x.words ts->lx rest≠[42]->∃b n,rest.length<n/\vN e (kY e (fj e (aB e k))) ⟨a,ts++rest⟩=cJ cS (fS e (kY e (fj e (aB e k)))) n x ⟨b,rest⟩:=by intro x hx hN hs a ts rest ht hr;obtain⟨b,hb⟩:=Wi IH hx hN hs a ts rest ht (by simpa using hr);exact⟨b,rest.length+1,by omega,by show(kY _ _ _).bind _=_;rw[hb];rfl⟩
 induction hx with
 |fix h1 h2=>exact fun h=>leaf (.fix h1 h2) h (by simp[ζ.kind,gJ])
 |dZ h=>exact fun h'=>leaf (.dZ h) h' (by simp[ζ.kind,gJ])
 |@bin kk a b h1 h2 ha hb dJ gm=>
  intro hN
  by_cases pG:kk=5
  ·subst pG;exact leaf (.bin h1 h2 ha hb) hN (by simp[ζ.kind,gJ])
  intro a0 ts rest ht hr;rw[O' h1]at ht hN;have e5:decide (kk=5)=false:=by simpa using pG
  simp only[e5,Bool.false_and,if_neg pG]at ht hN;obtain⟨t1,t2,rfl,g1,g2⟩:=ht.split;obtain⟨t,t3,rfl,g3,g4⟩:=g2.cons;have l2:=Oo (gJ b.kind) b.words;simp only[cX,cN,qI,jO,if_false]at hN g1;have yE:b.words.length<N:=by have:=l2.1;have:(if gJ b.kind=true then[40]::(b.words++[[41]])else b.words).length=(qI (gJ b.kind) b.words).length:=rfl;omega
  have Θ:uq kk≠[42]/\eD (uq kk)≠0/\(uq kk=[43]\/uq kk=[45])/\(if uq kk=[45]then(4:Int)else 3)=kk:=by
   have:kk=3\/kk=4:=by omega
   rcases this with rfl|rfl<;>decide
  obtain⟨b1,n1,f1,f2⟩:=dJ (by omega) a0 t1 (t::(t3++rest)) g1 (by show t.text≠_;rw[g3.1];exact Θ.1);have second:∃b2,kY e (fj e (aB e k)) ⟨t.at_+t.text.length,t3++rest⟩= .ok b ⟨b2,rest⟩:=by
   cases qu:gJ b.kind with
   |true=>rw[qu]at g4;exact agD IH hb yE _ t3 rest g4 (by simpa using hr)
   |false=>rw[qu]at g4;exact Wi IH hb (by omega) qu _ t3 rest g4 (by simpa using hr)
  obtain⟨b2,s1⟩:=second;obtain⟨n2,rfl⟩:∃n2,n1=n2+1:=⟨n1-1,by omega⟩;have hc:cS ⟨b1,t::(t3++rest)⟩=true:=by rcases Θ.2.2.1 with h|h<;>simp[cS,PS.aV,PS.hd,g3.1,h]
  have Dd:(⟨b1,t::(t3++rest)⟩:PS).hd=uq kk:=g3.1;refine⟨b2,n2,by simp at f1;omega,?_⟩;rw[bQ,cy,f2,D4 hc];simp only[fS,Dd,uJ g3 Θ.2.1,R.bind,s1,R.map,Θ.2.2.2]
end
theorem acn(e:Nat):∀(k:Nat) (x:ζ),x.Can->x.words.length<k->Reads (aB e k) x x.words [[42],[43],[45]]:=by
 intro k;induction k with
 |zero=>intro x _ h;omega
 |succ k ih=>
  intro x hx hk a ts rest ht hr
  simp only[cB,mO,or_false,not_or]at hr;obtain⟨b,n,h1,h2⟩:=ai5 (N:=k) ih hx (by omega) a ts rest ht hr.1;obtain⟨n2,rfl⟩:∃n2,n=n2+1:=⟨n-1,by omega⟩;have hc:cS ⟨b,rest⟩=false:=by simp[cS,PS.aV,vd,hr.2.1,hr.2.2]
  exact⟨b,by show vN e _ _=_;rw[h2,Bl hc]⟩
def jG:Nat->List Tok->Nat
 |a,[]=>a
 |_,t::ts=>jG (t.at_+t.text.length) ts
theorem wg(a:Nat)(x y:List Tok):jG a (x++y)=jG (jG a x) y:=by
 induction x generalizing a with
 |nil=>rfl
 |cons t x ih=>exact ih _
def Ends{α:Type}(P:PS->R α):Prop:=∀s x t,P s= .ok x t->∃ts,s.l=ts++t.l/\t.last=jG s.last ts
theorem Ends.take(e:Nat)(f:Tok->Bool):Ends (ke e f):=by
 intro s x t h;unfold ke at h;split at h
 ·cases h
 ·rename_i y l hl;split at h
  ·cases h
  ·split at h
   ·cases h
   ·cases h;exact⟨[y],by simp[hl],rfl⟩
theorem Ends.bind{α β:Type}{P:PS->R α}{Q:α->PS->R β}(h:Ends P)(k:∀x,Ends (Q x)):Ends fun s=>(P s).bind Q:=by
 intro s y t e;cases hp:P s with
 |ok x s'=>
  simp only[hp,R.bind]at e
  obtain⟨t1,h1,h2⟩:=h s x s' hp;obtain⟨t2,k1,k2⟩:=k x s' y t e;exact⟨t1++t2,by rw[h1,k1,bQ],by rw[k2,h2,wg]⟩
 |no w=>simp only[hp,R.bind]at e;cases e
theorem Ends.map{α β:Type}{P:PS->R α}(f:α->β)(h:Ends P):Ends fun s=>(P s).map f:=by
 intro s y t e;cases hp:P s with
 |ok x s'=>simp only[hp,R.map]at e;cases e;exact h s x _ hp
 |no w=>simp only[hp,R.map]at e;cases e
theorem Ends.no{α:Type}(w:Nat):Ends (α:=α) fun _=> .no w:=by intro s y t e;cases e
theorem Ends.ite{α:Type}{c:PS->Prop}[∀s,Decidable (c s)]{P Q:PS->R α}(h:Ends P)(k:Ends Q):Ends fun s=>if c s then P s else Q s:=by
 intro s x t e;by_cases hc:c s
 ·exact h s x t (by simpa only[hc,if_true]using e)
 ·exact k s x t (by simpa only[hc,if_false]using e)
theorem Ends.loop{α:Type}{c:PS->Bool}{f:α->PS->R α}(h:∀x,Ends (f x)):∀n x,Ends (cJ c f n x)
 |0,x=> .no 0
 |n+1,x=>by
  intro s y t e;unfold cJ at e;split at e
  ·exact(Ends.bind (h x) fun y=>Ends.loop h n y) s y t e
  ·cases e;exact⟨[],rfl,rfl⟩
theorem Ends.word{β:Type}{e:Nat}{Q:List Nat->PS->R β}(k:∀x,Ends (Q x)):Ends fun s=>(aF e s.hd s).bind Q:=fun s y t h=>(Ends.bind (Ends.take e fun t=>t.text==s.hd) k) s y t h
theorem Ends.X7{α:Type}{P:PS->R α}(h:Ends P){a b:Nat}{ts rest:List Tok}{x:α}(e:P ⟨a,ts++rest⟩= .ok x ⟨b,rest⟩):b=jG a ts:=by obtain⟨zI,h1,h2⟩:=h _ _ _ e;have:ts=zI:=List.append_cancel_right h1;rw[this];exact h2
theorem RJ(e:Nat):∀k,Ends (aB e k)
 |0=> .no 0
 |k+1=>by
  have ih:=RJ e k;have jr:Ends (fj e (aB e k)):= .ite ((Ends.take _ _).bind fun _=>ih.bind fun x=>(Ends.take _ _).map _) (.ite (((Ends.take _ _).map _).map _) ((Ends.take _ _).map _));have vm:Ends (kY e (fj e (aB e k))):=by
   intro s y t h;simp only[kY]at h;cases hp:fj e (aB e k) s with
   |ok x s'=>
    rw[hp]at h
    obtain⟨t1,h1,h2⟩:=jr s x s' hp;obtain⟨t2,k1,k2⟩:=Ends.loop (fun x=>(Ends.take _ _).bind fun _=>jr.map _) _ x s' y t h;exact⟨t1++t2,by rw[h1,k1,bQ],by rw[k2,h2,wg]⟩
   |no w=>rw[hp]at h;cases h
  intro s y t h;show∃ts,_;have h:vN e (kY e (fj e (aB e k))) s= .ok y t:=h;simp only[vN]at h;cases hp:kY e (fj e (aB e k)) s with
  |ok x s'=>
   rw[hp]at h
   obtain⟨t1,h1,h2⟩:=vm s x s' hp;obtain⟨t2,k1,k2⟩:=Ends.loop (fun x=>Ends.word fun w=>vm.map _) _ x s' y t h;exact⟨t1++t2,by rw[h1,k1,bQ],by rw[k2,h2,wg]⟩
  |no w=>rw[hp]at h;cases h
def aR{α:Type}(P:PS->R α)(ws:List (List Nat))(Q:List Tok->α->Prop)(stop:List (List Nat)):Prop:=
 ∀a ts rest,TS ws ts->lx rest∉stop->∃x,Q ts x/\P ⟨a,ts++rest⟩= .ok x ⟨jG a ts,rest⟩
theorem Bx{e k:Nat}{x:ζ}(hx:x.Can)(hk:x.words.length<k):aR (aB e k) x.words (fun _ y=>y=x) [[42],[43],[45]]:=by intro a ts rest ht hr;obtain⟨b,hb⟩:=acn e k x hx hk a ts rest ht hr;exact⟨x,rfl,by rw[hb,(RJ e k).X7 hb]⟩
theorem aR.bind{α β:Type}{P:PS->R α}{K:α->PS->R β}{w1 w2:List (List Nat)}{Q1:List Tok->α->Prop}{Q2:List Tok->β->Prop}{s1 s2:List (List Nat)}
  (h:aR P w1 Q1 s1) (hs:∀t2 rest,TS w2 t2->lx rest∉s2->lx (t2++rest)∉s1) (k:∀t1 x,TS w1 t1->Q1 t1 x->aR (K x) w2 (fun t2 y=>Q2 (t1++t2) y) s2):aR (fun s=>(P s).bind K) (w1++w2) Q2 s2:=by
 intro a ts rest ht hr;obtain⟨t1,t2,rfl,h1,h2⟩:=ht.split;obtain⟨x,q1,e1⟩:=h a t1 (t2++rest) h1 (hs t2 rest h2 hr);obtain⟨y,q2,e2⟩:=k t1 x h1 q1 (jG a t1) t2 rest h2 hr;refine⟨y,q2,?_⟩;rw[bQ];simp only[e1,R.bind,e2,wg]
theorem aR.map{α β:Type}{P:PS->R α}{f:α->β}{w:List (List Nat)}{Q:List Tok->α->Prop}{Q2:List Tok->β->Prop}{s:List (List Nat)}(h:aR P w Q s)(k:∀t x,TS w t->Q t x->Q2 t (f x)):aR (fun s=>(P s).map f) w Q2 s:=by intro a ts rest ht hr;obtain⟨x,q1,e1⟩:=h a ts rest ht hr;exact⟨f x,k ts x ht q1,by simp only[e1,R.map]⟩
theorem aR.weaken{α:Type}{P:PS->R α}{w:List (List Nat)}{Q Q2:List Tok->α->Prop}{s s2:List (List Nat)}(h:aR P w Q s)(hs:∀x,x∈s->x∈s2)(k:∀t x,TS w t->Q t x->Q2 t x):aR P w Q2 s2:=by intro a ts rest ht hr;obtain⟨x,q1,e1⟩:=h a ts rest ht fun h=>hr (hs _ h);exact⟨x,k ts x ht q1,e1⟩
theorem ij(e:Nat){w:List Nat}(hk:eD w≠0):aR (aF e w) [w] (fun _ y=>y=w) []:=by intro a ts rest ht _;obtain⟨t,rfl,h⟩:=ht.one;exact⟨w,rfl,uJ h hk⟩
theorem tu(e:Nat){w:List Nat}(hn:df w=true):aR (gS e) [w] (fun _ y=>y=w) []:=by intro a ts rest ht _;obtain⟨t,rfl,h⟩:=ht.one;exact⟨w,rfl,Oa hn h⟩
theorem ahM(e:Nat){n:Nat}(hn:n<100):aR (uk e) [gi n] (fun _ y=>y=n) []:=by intro a ts rest ht _;obtain⟨t,rfl,h⟩:=ht.one;exact⟨n,rfl,VM hn h⟩
theorem aR.yes{α:Type}{P P':PS->R α}{w:List Nat}{ws:List (List Nat)}{Q:List Tok->α->Prop}{st:List (List Nat)}(h:aR P (w::ws) Q st)(hp:∀s:PS,s.hd=w->P' s=P s):aR P' (w::ws) Q st:=by intro a ts rest ht hr;obtain⟨x,q1,e1⟩:=h a ts rest ht hr;exact⟨x,q1,by rw[hp _ (by rw[vd];exact L0 ht)];exact e1⟩
theorem xR{s:PS}{w v:List Nat}(h:s.hd=w):s.aV v=(w==v):=by rw[PS.aV,h]
def ρ.words(p:ρ):List (List Nat):=match p.ix with
 |[]=>[p.name]
 |[a]=>[p.name]++([[91]]++(a.words++[[93]]))
 |a::b::_=>[p.name]++([[91]]++(a.words++([[58]]++(b.words++[[93]]))))
structure ρ.Can (p:ρ):Prop where
 nm:df p.name=true
 c:p.c=Ξ p.ix
 len:p.ix.length<=2
 lW:∀x∈p.ix,x.Can
theorem sM{w:List Nat}{ws:List (List Nat)}{t2 rest:List Tok}{st:List (List Nat)}(h:TS (w::ws) t2)(hw:w∉st):lx (t2++rest)∉st:=by rw[L0 h];exact hw
theorem Em{e k:Nat}{p:ρ}(hp:p.Can)(hk:p.words.length<k):aR (jZ e (aB e k)) p.words (fun _ y=>y=p) [[91]]:=by
 obtain⟨nm,c,ix⟩:=p;obtain⟨h1,h2,h3,h4⟩:=hp;simp only at h1 h2 h3 h4
 match ix,h2,h3,h4,hk with
 |[],h2,_,_,_=>
  subst h2
  intro a ts rest ht hr;obtain⟨t,rfl,h⟩:=(show TS [nm] ts from ht).one;have hb:(⟨t.at_+t.text.length,rest⟩:PS).aV [91]=false:=by
   have:lx rest≠[91]:=by simpa using hr
   simpa[PS.aV,vd]using this
  refine⟨_,rfl,?_⟩;simp only[jZ,cy,bB,Oa h1 h,R.bind,hb];rfl
 |[x],h2,_,h4,hk=>
  subst h2
  simp only[ρ.words,cX,cN]at hk;have hx:=h4 x (by simp);refine(tu e h1).bind (fun _ _ _ _=>by simp) fun t1 n _ hn=>?_;subst hn;refine aR.yes (P:=fun s=>(aF e [91] s).bind fun _ s=>(aB e k s).bind fun x s=>(if s.aV [58]then(aF e [58] s).bind fun _ s=>(aB e k s).map fun y=>[x,y]else .ok [x] s).bind fun l s=>(aF e [93] s).map fun _=>(⟨n,.any,l⟩:ρ)) ?_ fun s hs=>by simp only[xR hs];rfl
  refine(ij e (by decide)).bind (fun _ _ _ _=>by simp) fun t2 _ _ _=>?_;refine(Bx hx (by omega)).bind (fun t3 rest h _=>sM h (by decide)) fun t3 y _ hy=>?_;subst hy;intro a ts rest ht hr;obtain⟨t,rfl,h⟩:=(show TS [[93]] ts from ht).one;have hb:(⟨a,t::rest⟩:PS).aV [58]=false:=by simp[PS.aV,PS.hd,h.1]
  refine⟨_,rfl,?_⟩;simp only[cy,bB,hb,R.bind,jO,if_false,uJ h (show eD [93]≠0 by decide),R.map,jG,Ξ]
 |[x,y],h2,_,h4,hk=>
  subst h2
  simp only[ρ.words,cX,cN]at hk;have hx:=h4 x (by simp);have hy:=h4 y (by simp);refine(tu e h1).bind (fun _ _ _ _=>by simp) fun t1 n _ hn=>?_;subst hn;refine aR.yes (P:=fun s=>(aF e [91] s).bind fun _ s=>(aB e k s).bind fun x s=>(if s.aV [58]then(aF e [58] s).bind fun _ s=>(aB e k s).map fun y=>[x,y]else .ok [x] s).bind fun l s=>(aF e [93] s).map fun _=>(⟨n,.any,l⟩:ρ)) ?_ fun s hs=>by simp only[xR hs];rfl
  refine(ij e (by decide)).bind (fun _ _ _ _=>by simp) fun t2 _ _ _=>?_;refine(Bx hx (by omega)).bind (fun t3 rest h _=>sM h (by decide)) fun t3 x' _ gj=>?_;subst gj;refine aR.yes (P:=fun s=>((aF e [58] s).bind fun _ s=>(aB e k s).map fun y=>[x',y]).bind fun l s=>(aF e [93] s).map fun _=>(⟨n,.any,l⟩:ρ)) ?_ fun s hs=>by simp only[xR hs];rfl
  intro a ts rest ht hr;have ht:TS ([[58]]++(y.words++[[93]])) ts:=ht;obtain⟨t4,t5,rfl,g1,g2⟩:=ht.split;obtain⟨t6,t7,rfl,g3,g4⟩:=g2.split;obtain⟨t,rfl,k1⟩:=g1.one;obtain⟨t',rfl,k4⟩:=g4.one;obtain⟨y',rfl,ey⟩:=Bx (e:=e) hy (show y.words.length<k by omega) (t.at_+t.text.length) t6 ([t']++rest) g3 (by show t'.text∉_;rw[k4.1];decide);refine⟨_,rfl,?_⟩;simp only[cy,bB,bQ,uJ k1 (show eD [58]≠0 by decide),R.bind]at ey⊢;simp only[ey,R.map,uJ k4 (show eD [93]≠0 by decide),jG,wg,Ξ]
 |_::_::_::_,_,h3,_,_=>simp at h3
def lG(l:List (List (List Nat))):List (List Nat):=match l with
 |[]=>[]
 |w::l=>[[44]]++(w++lG l)
def ki:List (List (List Nat))->List (List Nat)
 |[]=>[]
 |w::l=>w++lG l
theorem ai7(l:List (List (List Nat))):l.length<=(lG l).length:=by
 induction l with
 |nil=>simp
 |cons w l ih=>simp only[lG,cX,cN,eT];omega
theorem Xb{l:List (List (List Nat))}{w:List (List Nat)}(h:w∈l):w.length<=(lG l).length:=by
 induction l with
 |nil=>cases h
 |cons v l ih=>
  simp only[lG,cX,cN,eT]
  rcases cB.1 h with rfl|h
  ·omega
  ·have:=ih h;omega
theorem Zt{l:List (List (List Nat))}{w:List (List Nat)}(h:w∈l):w.length<=(ki l).length:=by
 cases l with
 |nil=>cases h
 |cons v l=>
  simp only[ki,cX]
  rcases cB.1 h with rfl|h
  ·omega
  ·have:=Xb h;omega
section
variable{e:Nat}{α:Type}{item:PS->R α}{W:α->List (List Nat)}{S:List (List Nat)}(hS:[44]∉S)
include hS
theorem Ja{l:List α}{ts rest:List Tok}(h:TS (lG (l.map W)) ts)(hr:lx rest∉[44]::S):lx (ts++rest)∉S:=by
 cases l with
 |nil=>rw[h.nil];exact fun h=>hr (List.mem_cons_of_mem _ h)
 |cons y l=>exact sM (ws:=W y++lG (l.map W)) h hS
theorem WB:∀(l:List α),(∀y∈l,aR item (W y) (fun _ x=>x=y) S)->∀(n:Nat) (l0:List α),l.length<n->aR (cJ (fun s=>s.aV [44]) (fun l s=>(aF e [44] s).bind fun _ s=>(item s).map fun y=>l++[y]) n l0) (lG (l.map W)) (fun _ y=>y=l0++l) ([44]::S)
 |[],_,n,l0,hn=>by
  intro a ts rest ht hr;obtain rfl:=ht.nil;obtain⟨n,rfl⟩:∃j,n=j+1:=⟨n-1,by simp at hn;omega⟩;have hb:(⟨a,rest⟩:PS).aV [44]=false:=by have:lx rest≠[44]:=fun h=>hr (by rw[h];exact List.mem_cons_self);simpa[PS.aV,vd]using this
  exact⟨l0++[],rfl,by rw[bB,Bl hb];simp[jG]⟩
 |y::l,h,n,l0,hn=>by
  obtain⟨n,rfl⟩:∃j,n=j+1:=⟨n-1,by simp at hn;omega⟩;have ih:=WB l (fun z hz=>h z (by simp[hz])) n (l0++[y]) (by simpa using hn);have:aR (fun s=>((aF e [44] s).bind fun _ s=>(item s).map fun y=>l0++[y]).bind (cJ (fun s=>s.aV [44]) (fun l s=>(aF e [44] s).bind fun _ s=>(item s).map fun y=>l++[y]) n)) (([[44]]++W y)++lG (l.map W)) (fun _ y'=>y'=l0++(y::l)) ([44]::S):=by refine aR.bind (s1:=S) (Q1:=fun _ x=>x=l0++[y]) (aR.bind (ij e (by decide)) (fun _ _ _ _=>by simp) fun _ _ _ _=>aR.map (h y (by simp)) fun _ x _ hx=>by rw[hx]) (fun t2 rest ht hr=>Ja hS ht hr) fun t1 x _ hx=>?_;subst hx;exact ih.weaken (fun _ h=>h) fun _ x _ hx=>by rw[hx];simp
  rw[bQ]at this;refine aR.yes (w:=[44]) (ws:=W y++lG (l.map W)) this fun s hs=>?_;have hb:s.aV [44]=true:=by rw[xR hs];rfl
  exact D4 hb
theorem WA(S0:[41]∉S)(l:List α)(h:∀y∈l,aR item (W y) (fun _ x=>x=y) S)(hW:∀y∈l,∃w ws,W y=w::ws/\w≠[41]):aR (oS e item) (ki (l.map W)++[[41]]) (fun _ x=>x=l) []:=by
 cases l with
 |nil=>
  refine aR.yes (P:=fun s=>(aF e [41] s).map fun _=>[]) (ws:=[]) (aR.map (ij e (by decide)) fun _ _ _ _=>rfl) fun s hs=>?_
  have hb:s.aV [41]=true:=by rw[xR hs];rfl
  simp only[oS,hb,if_true]
 |cons y l=>
  obtain⟨w,ws,hw,φ⟩:=hW y (by simp)
  have:aR (fun s=>(item s).bind fun x s=>(cJ (fun s=>s.aV [44]) (fun l s=>(aF e [44] s).bind fun _ s=>(item s).map fun y=>l++[y]) (s.l.length+1) [x] s).bind fun l s=>(aF e [41] s).map fun _=>l) (W y++(lG (l.map W)++[[41]])) (fun _ x=>x=y::l) []:=by
   refine aR.bind (h y (by simp)) (fun t2 rest ht hr=>?_) fun t1 x _ hx=>?_
   ·obtain⟨t3,t4,rfl,g1,g2⟩:=ht.split;rw[bQ];exact Ja hS g1 (sM (ws:=[]) g2 (by simp only[cB,not_or];exact⟨by decide,S0⟩))
   ·subst hx;refine aR.bind (P:=fun s=>cJ (fun s=>s.aV [44]) (fun l s=>(aF e [44] s).bind fun _ s=>(item s).map fun y=>l++[y]) (s.l.length+1) [x] s) (Q1:=fun _ z=>z=x::l) (s1:=[44]::S) ?_ (fun t2 rest ht hr=>sM (ws:=[]) ht (by simp only[cB,not_or];exact⟨by decide,S0⟩)) fun _ z _ hz=>aR.map (ij e (by decide)) fun _ _ _ _=>hz;intro a ts rest ht hr;have hl:l.length<=ts.length:=by rw[ht.len];have:=ai7 (l.map W);rw[List.length_map]at this;exact this
    exact WB hS l (fun z hz=>h z (by simp[hz])) ((ts++rest).length+1) [x] (by simp;omega) a ts rest ht hr
  have e1:ki ((y::l).map W)++[[41]]=W y++(lG (l.map W)++[[41]]):=by simp[ki]
  rw[e1];rw[hw,cy]at this⊢;refine aR.yes this fun s hs=>?_;have hb:s.aV [41]=false:=by rw[xR hs];simpa using φ
  simp only[oS,hb];rfl
end
theorem agZ{p:ρ}(hp:p.Can):∃w ws,p.words=w::ws/\eD w=1:=by
 obtain⟨nm,c,ix⟩:=p;have:=(NN hp.nm).1
 match ix with
 |[]=>exact⟨nm,[],rfl,this⟩
 |[a]=>exact⟨nm,_,rfl,this⟩
 |a::b::l=>exact⟨nm,_,rfl,this⟩
theorem WC{e k:Nat}:∀(l:List ρ),(∀p∈l,p.Can)->(∀p∈l,p.words.length<k)->∀l0,aR (oU e (jZ e (aB e k)) l.length l0) (lG (l.map ρ.words)) (fun _ y=>y=l0++l) [[44],[91]]
 |[],_,_,l0=>by intro a ts rest ht hr;obtain rfl:=ht.nil;exact⟨l0++[],rfl,by simp[oU,jG]⟩
 |p::l,h,hk,l0=>by refine aR.bind (ij e (by decide)) (fun _ _ _ _=>by simp) fun _ _ _ _=>?_;refine aR.bind (Em (h p (by simp)) (hk p (by simp))) (fun t2 rest ht hr=>Ja (by decide) ht hr) fun _ x _ hx=>?_;subst hx;exact(WC l (fun q hq=>h q (by simp[hq])) (fun q hq=>hk q (by simp[hq])) (l0++[x])).weaken (fun _ h=>h) fun _ y _ hy=>by rw[hy];simp
theorem WD{e k:Nat}{nm:List Nat}{x:ζ}(hn:df nm=true)(hx:x.Can)(hk:x.words.length<k):aR (uD e (aB e k)) ([nm]++([[91]]++(x.words++[[93]]))) (fun _ y=>y=(nm,x)) []:=by refine aR.bind (tu e hn) (fun _ _ _ _=>by simp) fun _ n _ h1=>?_;refine aR.bind (ij e (by decide)) (fun _ _ _ _=>by simp) fun _ _ _ _=>?_;refine aR.bind (Bx hx hk) (fun t3 rest h _=>sM (ws:=[]) h (by decide)) fun _ y _ h2=>?_;exact aR.map (ij e (by decide)) fun _ _ _ _=>by rw[h1,h2]
def i_(k g:Int)(nm:List Nat)(pl:List ρ)(size to:ζ):List (List Nat):=
 if k=1 then[fu.getD (g-1).toNat []]++ki (pl.map ρ.words)
 else if k=2 then[[116,97,107,101]]++([nm]++([[91]]++(size.words++[[93]])))
 else if k=3 then[[100,114,111,112]]++[nm]
 else if k=4 then[[98,111,114,114,111,119]]++([nm]++([[91]]++(size.words++[[93]])))
 else if k=5 then[[109,101,97,115,117,114,101]]++(ki (pl.map ρ.words)++([[58]]++[nm]))
 else if k=6 then[[114,101,115,101,116]]++ki (pl.map ρ.words)
 else if k=7 then[[105,102]]++[nm]
 else if k=8 then[[102,111,114]]++([nm]++([[61]]++(size.words++([[58]]++to.words))))
 else if k=9 then[nm]++([[40]]++(ki (pl.map ρ.words)++[[41]]))
 else if k=10 then[[117,110,100,111]]
 else[[119,105,116,104,105,110]]
mutual
def lI:List δ->List (List Nat)
 |[]=>[]
 |s::l=>s.words++lI l
def δ.words:δ->List (List Nat)
 | .mk k g nm _ pl size to _ body _ els=>i_ k g nm pl size to++
   (if bf k=false then[[59]]
    else[[123]]++(lI body++([[125]]++
    (if bz k=true/\¬(k=7/\els.length=0)then[om k]++([[123]]++(lI els++[[125]]))else[]))))
end
mutual
inductive δ.Can:δ->Prop
 |gate {g:Int} {pl:List ρ} (h1:1<=g) (h2:g<=12) (h3:pl.length=ga g) (h4:∀p∈pl,p.Can):δ.Can (.mk 1 g [] .any pl z0 z0 .nil [] .nil [])
 |take {nm:List Nat} {x:ζ} (h1:df nm=true) (h2:x.Can):δ.Can (.mk 2 0 nm .nil [] x z0 .nil [] .nil [])
 |drop {nm:List Nat} (h1:df nm=true):δ.Can (.mk 3 0 nm .nil [] z0 z0 .nil [] .nil [])
 |borrow {nm:List Nat} {x:ζ} {b:List δ} (h1:df nm=true) (h2:x.Can) (h3:δ.jQ b):δ.Can (.mk 4 0 nm .nil [] x z0 (Ξ b) b .nil [])
 |measure {nm:List Nat} {p:ρ} (h1:df nm=true) (h2:p.Can):δ.Can (.mk 5 0 nm .any [p] z0 z0 .nil [] .nil [])
 |reset {p:ρ} (h2:p.Can):δ.Can (.mk 6 0 [] .any [p] z0 z0 .nil [] .nil [])
 |cond {nm:List Nat} {b d:List δ} (h1:df nm=true) (h3:δ.jQ b) (h4:δ.jQ d):δ.Can (.mk 7 0 nm .nil [] z0 z0 (Ξ b) b (Ξ d) d)
 |loop {nm:List Nat} {x y:ζ} {b:List δ} (h1:df nm=true) (h2:x.Can) (tR:y.Can) (h3:δ.jQ b):δ.Can (.mk 8 0 nm .nil [] x y (Ξ b) b .nil [])
 |call {nm:List Nat} {pl:List ρ} (h1:df nm=true) (h4:∀p∈pl,p.Can):δ.Can (.mk 9 0 nm (Ξ pl) pl z0 z0 .nil [] .nil [])
 |qT {b:List δ} (h3:δ.jQ b):δ.Can (.mk 10 0 [] .nil [] z0 z0 (Ξ b) b .nil [])
 |within {b d:List δ} (h3:δ.jQ b) (h4:δ.jQ d):δ.Can (.mk 11 0 [] .nil [] z0 z0 (Ξ b) b (Ξ d) d)
inductive δ.jQ:List δ->Prop
 |nil:δ.jQ []
 |cons {s:δ} {l:List δ} (h1:δ.Can s) (h2:δ.jQ l):δ.jQ (s::l)
end
theorem CQ{g:Int}(h1:1<=g)(h2:g<=12):iX (fu.getD (g-1).toNat [])=g.toNat/\eD (fu.getD (g-1).toNat [])=1/\1<=ga g∧
  fu.getD (g-1).toNat []∉[[98,111,114,114,111,119],[105,102],[102,111,114],[117,110,100,111],[119,105,116,104,105,110],[125],[101,108,115,101]]:=by
 have:g=1\/g=2\/g=3\/g=4\/g=5\/g=6\/g=7\/g=8\/g=9\/g=10\/g=11\/g=12:=by omega
 rcases this with rfl|rfl|rfl|rfl|rfl|rfl|rfl|rfl|rfl|rfl|rfl|rfl<;>decide
theorem Iw{w:List Nat}(h:df w=true):iX w=0/\w∉[[98,111,114,114,111,119],[105,102],[102,111,114],[117,110,100,111],[119,105,116,104,105,110],[125],[101,108,115,101],[116,97,107,101],[100,114,111,112],[109,101,97,115,117,114,101],[114,101,115,101,116],[41]]:=by
 constructor
 ·simp only[df,dy,BP]at h;have hg:=h.1.2;rw[iX];cases hf:fu.findIdx? fun x=>x==w with
  |none=>rfl
  |some i=>
   obtain⟨hi,hp,-⟩:=List.findIdx?_eq_some_iff_getElem.1 hf
   have:w∈fu:=by rw[<-show fu[i]=w by simpa using hp];exact List.getElem_mem hi
   rw[xC.2 this]at hg;cases hg
 ·intro hm;simp only[cB,mO,or_false]at hm;rcases hm with rfl|rfl|rfl|rfl|rfl|rfl|rfl|rfl|rfl|rfl|rfl|rfl<;>revert h<;>decide
theorem O4{s:δ}(h:s.Can):∃w ws,s.words=w::ws/\w∉[[125],[101,108,115,101]]:=by
 cases h with
 |gate h1 h2 h3 h4=>
  obtain⟨-,-,-,h⟩:=CQ h1 h2
  refine⟨_,_,rfl,?_⟩;simp only[cB,mO,or_false,not_or]at h⊢;exact⟨h.2.2.2.2.2.1,h.2.2.2.2.2.2⟩
 |call h1 h4=>
  obtain⟨-,h⟩:=Iw h1
  refine⟨_,_,rfl,?_⟩;simp only[cB,mO,or_false,not_or]at h⊢;exact⟨h.2.2.2.2.2.1,h.2.2.2.2.2.2.1⟩
 |_=>exact⟨_,_,rfl,by decide⟩
theorem C9{k g:Int}{nm:List Nat}{cp:τ}{pl:List ρ}{size to:ζ}{cb ce:τ}{b d:List δ}:(i_ k g nm pl size to).length<(δ.mk k g nm cp pl size to cb b ce d).words.length:=by simp only[δ.words,cX];split<;>simp
section
variable{e K:Nat}
theorem ag0{pl:List ρ}(h4:∀p∈pl,p.Can)(hk:(ki (pl.map ρ.words)).length<K):∀p∈pl,aR (jZ e (aB e K)) p.words (fun _ y=>y=p) [[91]]:=
 fun p hp=>Em (h4 p hp) (Nat.lt_of_le_of_lt (Zt (fb.2 ⟨p,hp,rfl⟩)) hk)
theorem ahP{s:δ}(h:s.Can)(hb:bf s.kind=false)(hk:s.words.length<=K):aR (zF e (aB e K)) s.words (fun _ y=>y=s) []:=by
 have BA:∀{s:δ} {ws:List (List Nat)},aR (lD e (aB e K)) ws (fun _ y=>y=s) [[91],[44]]->aR (zF e (aB e K)) (ws++[[59]]) (fun _ y=>y=s) []:=fun h=>aR.bind h (fun t2 rest ht _=>sM (ws:=[]) ht (by decide)) fun _ x _ hx=>aR.map (ij e (by decide)) fun _ _ _ _=>hx;cases h with
 |@gate g pl h1 h2 h3 h4=>
  obtain⟨f1,f2,f3,f4⟩:=CQ h1 h2
  have eC:=kg C9 hk
  match pl,h3,h4,eC with
  |[],h3,_,_=>simp at h3;omega
  |p::pl,h3,h4,eC=>
   have e1:i_ 1 g [] (p::pl) z0 z0=[fu.getD (g-1).toNat []]++(p.words++lG (pl.map ρ.words)):=rfl
   rw[e1]at eC;simp only[cX,cN,eT]at eC;refine BA (s:= .mk 1 g [] .any (p::pl) z0 z0 .nil [] .nil []) ?_;rw[e1];generalize hw:fu.getD (g-1).toNat []=w at*;have Ht:(g.toNat:Int)=g:=by omega
   refine aR.yes (w:=w) (ws:=p.words++lG (pl.map ρ.words)) (P:=fun s=>(aF e w s).bind fun _ s=>(jZ e (aB e K) s).bind fun p s=>(oU e (jZ e (aB e K)) (ga (iX w)-1) [p] s).map fun l=> .mk 1 (iX w) [] .any l z0 z0 .nil [] .nil []) ?_ fun s hs=>?_
   ·refine aR.bind (ij e (by rw[f2];decide)) (fun _ _ _ _=>by simp) fun _ _ _ _=>?_;refine aR.bind (Em (h4 p (by simp)) (by omega)) (fun t2 rest ht hr=>Ja (S:=[[91]]) (by decide) ht (by simpa[or_comm]using hr)) fun _ x _ hx=>?_;subst hx;have hlen:ga (iX w)-1=pl.length:=by rw[f1,Ht,<-h3];simp
    rw[hlen,f1,Ht];refine aR.map ((WC pl (fun q hq=>h4 q (by simp[hq])) (fun q hq=>by have:=Xb (fb.2 ⟨q,hq,rfl⟩:q.words∈pl.map ρ.words);omega) [x]).weaken (fun y hy=>by simpa[or_comm]using hy) fun _ _ _ h=>h) fun _ y _ hy=>by rw[hy];rfl
   ·have:0<iX w:=by rw[f1];omega
    simp only[lD,hs,this,if_true]
 |@take nm x h1 h2=>
  have eC:=kg C9 hk
  refine BA (s:= .mk 2 0 nm .nil [] x z0 .nil [] .nil []) ?_;have e1:i_ 2 0 nm [] x z0=[[116,97,107,101]]++([nm]++([[91]]++(x.words++[[93]]))):=rfl;rw[e1]at eC⊢;simp only[cX,cN,eT]at eC;refine aR.yes (P:=fun s=>(aF e [116,97,107,101] s).bind fun _ s=>(uD e (aB e K) s).map fun x=> .mk 2 0 x.1 .nil [] x.2 z0 .nil [] .nil []) (ws:=[nm]++([[91]]++(x.words++[[93]]))) ?_ fun s hs=>by simp only[lD,hs];rfl
  refine aR.bind (ij e (by decide)) (fun _ _ _ _=>by simp) fun _ _ _ _=>?_;exact aR.map ((WD h1 h2 (by omega)).weaken (by simp) fun _ _ _ h=>h) fun _ y _ hy=>by rw[hy]
 |@drop nm h1=>
  refine BA (s:= .mk 3 0 nm .nil [] z0 z0 .nil [] .nil []) ?_
  refine aR.yes (P:=fun s=>(aF e [100,114,111,112] s).bind fun _ s=>(gS e s).map fun n=> .mk 3 0 n .nil [] z0 z0 .nil [] .nil []) (w:=[100,114,111,112]) (ws:=[nm]) ?_ fun s hs=>by simp only[lD,hs];rfl
  refine aR.bind (w1:=[[100,114,111,112]]) (ij e (by decide)) (fun _ _ _ _=>by simp) fun _ _ _ _=>?_;exact aR.map ((tu e h1).weaken (by simp) fun _ _ _ h=>h) fun _ y _ hy=>by rw[hy]
 |@measure nm p h1 h2=>
  have eC:=kg C9 hk
  refine BA (s:= .mk 5 0 nm .any [p] z0 z0 .nil [] .nil []) ?_;have e1:i_ 5 0 nm [p] z0 z0=[[109,101,97,115,117,114,101]]++(p.words++([[58]]++[nm])):=by simp[i_,ki,lG]
  rw[e1]at eC⊢;simp only[cX,cN,eT]at eC;refine aR.yes (P:=fun s=>(aF e [109,101,97,115,117,114,101] s).bind fun _ s=>(jZ e (aB e K) s).bind fun p s=>(aF e [58] s).bind fun _ s=>(gS e s).map fun n=> .mk 5 0 n .any [p] z0 z0 .nil [] .nil []) (ws:=p.words++([[58]]++[nm])) ?_ fun s hs=>by simp only[lD,hs];rfl
  refine aR.bind (ij e (by decide)) (fun _ _ _ _=>by simp) fun _ _ _ _=>?_;refine aR.bind (Em h2 (by omega)) (fun t2 rest ht _=>sM (ws:=[nm]) ht (by decide)) fun _ x _ hx=>?_;refine aR.bind (ij e (by decide)) (fun _ _ _ _=>by simp) fun _ _ _ _=>?_;exact aR.map ((tu e h1).weaken (by simp) fun _ _ _ h=>h) fun _ y _ hy=>by rw[hy,hx]
 |@reset p h2=>
  have eC:=kg C9 hk
  refine BA (s:= .mk 6 0 [] .any [p] z0 z0 .nil [] .nil []) ?_;have e1:i_ 6 0 [] [p] z0 z0=[[114,101,115,101,116]]++p.words:=by simp[i_,ki,lG]
  rw[e1]at eC⊢;simp only[cX,cN,eT]at eC;refine aR.yes (P:=fun s=>(aF e [114,101,115,101,116] s).bind fun _ s=>(jZ e (aB e K) s).map fun p=> .mk 6 0 [] .any [p] z0 z0 .nil [] .nil []) (ws:=p.words) ?_ fun s hs=>by simp only[lD,hs];rfl
  refine aR.bind (ij e (by decide)) (fun _ _ _ _=>by simp) fun _ _ _ _=>?_;exact aR.map ((Em h2 (by omega)).weaken (fun x hx=>by rw[fY.1 hx];simp) fun _ _ _ h=>h) fun _ y _ hy=>by rw[hy]
 |@call nm pl h1 h4=>
  have eC:=kg C9 hk
  obtain⟨g1,g2⟩:=Iw h1;simp only[cB,mO,or_false,not_or]at g2;refine BA (s:= .mk 9 0 nm (Ξ pl) pl z0 z0 .nil [] .nil []) ?_;have e1:i_ 9 0 nm pl z0 z0=[nm]++([[40]]++(ki (pl.map ρ.words)++[[41]])):=rfl;rw[e1]at eC⊢;simp only[cX,cN,eT]at eC;refine aR.yes (P:=fun s=>(gS e s).bind fun n s=>(aF e [40] s).bind fun _ s=>(oS e (jZ e (aB e K)) s).map fun l=> .mk 9 0 n (Ξ l) l z0 z0 .nil [] .nil []) (ws:=[[40]]++(ki (pl.map ρ.words)++[[41]])) ?_ fun s hs=>by
   have n0:¬(0<iX nm):=by omega
   simp only[lD,hs,n0,g2.2.2.2.2.2.2.2.1,g2.2.2.2.2.2.2.2.2.1,g2.2.2.2.2.2.2.2.2.2.1,g2.2.2.2.2.2.2.2.2.2.2.1,if_false]
  refine aR.bind (tu e h1) (fun _ _ _ _=>by simp) fun _ n _ hn=>?_;refine aR.bind (ij e (by decide)) (fun _ _ _ _=>by simp) fun _ _ _ _=>?_;refine aR.map ((WA (S:=[[91]]) (by decide) (by decide) pl (ag0 h4 (by omega)) fun p hp=>?_).weaken (by simp) fun _ _ _ h=>h) fun _ y _ hy=>by rw[hy,hn]
  obtain⟨w,ws,h5,h6⟩:=agZ (h4 p hp);exact⟨w,ws,h5,fun h=>by rw[h]at h6;revert h6;decide⟩
 |borrow|cond|loop|qT|within=>simp[δ.kind,bf]at hb
end
def JM:List Tok->Nat
 |[]=>0
 |t::_=>t.at_
mutual
inductive so:δ->List Tok->List (List Sp)->Prop
 |none {s:δ} {ts:List Tok} (h:bf s.kind=false):so s ts []
 |one {s:δ} {t1 tb:List Tok} {o c:Tok} {sb:List Sp} (h:bz s.kind=false\/s.els=[]) (h1:uQ s.body tb sb):so s (t1++o::(tb++[c])) [sb]
 |two {s:δ} {t1 tb te:List Tok} {o c m o' c':Tok} {sb se:List Sp} (h:bz s.kind=true) (h1:uQ s.body tb sb) (h2:uQ s.els te se):so s (t1++o::(tb++c::m::o'::(te++[c']))) [sb,se]
inductive uQ:List δ->List Tok->List Sp->Prop
 |nil:uQ [] [] []
 |cons {s:δ} {l:List δ} {ts zI:List Tok} {ins:List (List Sp)} {k_:List Sp} (h0:TS s.words ts) (h1:so s ts ins) (h2:uQ l zI k_):uQ (s::l) (ts++zI) (.mk (JM ts) (jG 0 ts) ins::k_)
end
def bW(l:List δ):List (List Nat):=[[123]]++(lI l++[[125]])
def EM(l:List δ)(ts:List Tok)(x:List δ×List Sp):Prop:=x.1=l/\∃o tb c,ts=o::(tb++[c])/\uQ l tb x.2
theorem Yj:om 7=[101,108,115,101]:=rfl
theorem Yi:om 11=[97,112,112,108,121]:=rfl
section
variable{e K:Nat}{blk:PS->R (List δ×List Sp)}{N:Nat}(IH:∀l:List δ,δ.jQ l->(bW l).length<=N->aR blk (bW l) (EM l) [])
include IH
theorem ahQ{s:δ}(h:s.Can)(hk:s.words.length<=K)(hN:s.words.length<=N):aR (iE e (aB e K) blk) s.words (fun ts x=>x.1=s/\so s ts x.2) [[101,108,115,101]]:=by
 have simple:∀{s:δ} (h:s.Can) (hk:s.words.length<=K) (hb:bf s.kind=false) {w:List Nat} {ws:List (List Nat)} (hw:s.words=w::ws) (hh:w∉[[98,111,114,114,111,119],[105,102],[102,111,114],[117,110,100,111],[119,105,116,104,105,110]]),aR (iE e (aB e K) blk) s.words (fun ts x=>x.1=s/\so s ts x.2) [[101,108,115,101]]:=by intro s h hk hb w ws hw hh;have:=aR.map (f:=fun x=>(x,([]:List (List Sp)))) (Q2:=fun ts x=>x.1=s/\so s ts x.2) (ahP (e:=e) h hb hk) fun _ y _ hy=>⟨hy,.none hb⟩;have:=this.weaken (s2:=[[101,108,115,101]]) (by simp) fun _ _ _ h=>h;rw[hw]at this⊢;simp only[cB,mO,or_false,not_or]at hh;refine aR.yes this fun s hs=>?_;simp only[iE,hs,hh.1,hh.2.1,hh.2.2.1,hh.2.2.2.1,hh.2.2.2.2,if_false]
 have eC:=h;cases h with
 |@gate g pl h1 h2 h3 h4=>
  obtain⟨-,-,-,f⟩:=CQ h1 h2
  exact simple eC hk rfl rfl (by simp only[cB,mO,or_false,not_or]at f⊢;exact⟨f.1,f.2.1,f.2.2.1,f.2.2.2.1,f.2.2.2.2.1⟩)
 |take h1 h2=>exact simple eC hk rfl rfl (by decide)
 |drop h1=>exact simple eC hk rfl rfl (by decide)
 |measure h1 h2=>exact simple eC hk rfl rfl (by decide)
 |reset h2=>exact simple eC hk rfl rfl (by decide)
 |@call nm pl h1 h4=>
  obtain⟨-,f⟩:=Iw h1
  exact simple eC hk rfl rfl (by simp only[cB,mO,or_false,not_or]at f⊢;exact⟨f.1,f.2.1,f.2.2.1,f.2.2.2.1,f.2.2.2.2.1⟩)
 |@borrow nm x b h1 h2 h3=>
  have e1:(δ.mk 4 0 nm .nil [] x z0 (Ξ b) b .nil []).words=[[98,111,114,114,111,119]]++(([nm]++([[91]]++(x.words++[[93]])))++bW b):=by simp[δ.words,i_,bf,bz,bW]
  rw[e1]at hk hN⊢;simp only[cX,cN,eT]at hk hN;refine aR.yes (P:=fun s=>(aF e [98,111,114,114,111,119] s).bind fun _ s=>(uD e (aB e K) s).bind fun x s=>(blk s).map fun b=>(.mk 4 0 x.1 .nil [] x.2 z0 (Ξ b.1) b.1 .nil [],[b.2])) (ws:=([nm]++([[91]]++(x.words++[[93]])))++bW b) ?_ fun s hs=>by simp only[iE,hs];rfl
  refine aR.bind (ij e (by decide)) (fun _ _ _ _=>by simp) fun t1 _ _ _=>?_;refine aR.bind (WD h1 h2 (by omega)) (fun _ _ _ _=>by simp) fun t2 y _ hy=>?_;refine aR.map ((IH b h3 (by omega)).weaken (by simp) fun _ _ _ h=>h) fun t3 z _ hz=>?_;obtain⟨fX,o,tb,cc,rfl,hU⟩:=hz;subst hy;refine⟨by simp[fX],?_⟩;rw[<-bQ];exact .one (.inl rfl) hU
 |@qT b h3=>
  have e1:(δ.mk 10 0 [] .nil [] z0 z0 (Ξ b) b .nil []).words=[[117,110,100,111]]++bW b:=by simp[δ.words,i_,bf,bz,bW]
  rw[e1]at hk hN⊢;simp only[cX,cN,eT]at hk hN;refine aR.yes (P:=fun s=>(aF e [117,110,100,111] s).bind fun _ s=>(blk s).map fun b=>(.mk 10 0 [] .nil [] z0 z0 (Ξ b.1) b.1 .nil [],[b.2])) (ws:=bW b) ?_ fun s hs=>by simp only[iE,hs];rfl
  refine aR.bind (ij e (by decide)) (fun _ _ _ _=>by simp) fun t1 _ _ _=>?_;refine aR.map ((IH b h3 (by omega)).weaken (by simp) fun _ _ _ h=>h) fun t3 z _ hz=>?_;obtain⟨fX,o,tb,cc,rfl,hU⟩:=hz;exact⟨by simp[fX],.one (.inl rfl) hU⟩
 |@loop nm x y b h1 h2 tR h3=>
  have e1:(δ.mk 8 0 nm .nil [] x y (Ξ b) b .nil []).words=[[102,111,114]]++([nm]++([[61]]++(x.words++([[58]]++(y.words++bW b))))):=by simp[δ.words,i_,bf,bz,bW]
  rw[e1]at hk hN⊢;simp only[cX,cN,eT]at hk hN;refine aR.yes (P:=fun s=>(aF e [102,111,114] s).bind fun _ s=>(gS e s).bind fun n s=>(aF e [61] s).bind fun _ s=>(aB e K s).bind fun x s=>(aF e [58] s).bind fun _ s=>(aB e K s).bind fun y s=>(blk s).map fun b=>(.mk 8 0 n .nil [] x y (Ξ b.1) b.1 .nil [],[b.2])) (ws:=[nm]++([[61]]++(x.words++([[58]]++(y.words++bW b))))) ?_ fun s hs=>by simp only[iE,hs];rfl
  refine aR.bind (ij e (by decide)) (fun _ _ _ _=>by simp) fun t1 _ _ _=>?_;refine aR.bind (tu e h1) (fun _ _ _ _=>by simp) fun t2 n _ hn=>?_;refine aR.bind (ij e (by decide)) (fun _ _ _ _=>by simp) fun t3 _ _ _=>?_;refine aR.bind (Bx h2 (by omega)) (fun t rest ht _=>sM (ws:=y.words++bW b) ht (by decide)) fun t4 x' _ hx=>?_;refine aR.bind (ij e (by decide)) (fun _ _ _ _=>by simp) fun t5 _ _ _=>?_;refine aR.bind (Bx tR (by omega)) (fun t rest ht _=>sM (ws:=lI b++[[125]]) ht (by decide)) fun t6 y' _ hy=>?_;refine aR.map ((IH b h3 (by omega)).weaken (by simp) fun _ _ _ h=>h) fun t7 z _ hz=>?_;obtain⟨fX,o,tb,cc,rfl,hU⟩:=hz;subst hn hx hy;refine⟨by simp[fX],?_⟩;have:=so.one (s:= .mk 8 0 n .nil [] x' y' (Ξ b) b .nil []) (t1:=t1++(t2++(t3++(t4++(t5++t6))))) (o:=o) (c:=cc) (.inl rfl) hU;simpa only[bQ]using this
 |@within b d h3 h4=>
  have e1:(δ.mk 11 0 [] .nil [] z0 z0 (Ξ b) b (Ξ d) d).words=[[119,105,116,104,105,110]]++(bW b++([[97,112,112,108,121]]++bW d)):=by simp[δ.words,i_,bf,bz,bW,Yi]
  rw[e1]at hk hN⊢;simp only[cX,cN,eT]at hk hN;refine aR.yes (P:=fun s=>(aF e [119,105,116,104,105,110] s).bind fun _ s=>(blk s).bind fun b s=>(aF e [97,112,112,108,121] s).bind fun _ s=>(blk s).map fun d=>(.mk 11 0 [] .nil [] z0 z0 (Ξ b.1) b.1 (Ξ d.1) d.1,[b.2,d.2])) (ws:=bW b++([[97,112,112,108,121]]++bW d)) ?_ fun s hs=>by simp only[iE,hs];rfl
  refine aR.bind (ij e (by decide)) (fun _ _ _ _=>by simp) fun t1 _ _ _=>?_;refine aR.bind (IH b h3 (by omega)) (fun _ _ _ _=>by simp) fun t2 z _ hz=>?_;refine aR.bind (ij e (by decide)) (fun _ _ _ _=>by simp) fun t3 _ pL _=>?_;refine aR.map ((IH d h4 (by omega)).weaken (by simp) fun _ _ _ h=>h) fun t4 z' _ rO=>?_;obtain⟨fX,o,tb,cc,rfl,hU⟩:=hz;obtain⟨Ni,o',tb',Ke,rfl,Nk⟩:=rO;obtain⟨m,rfl,-⟩:=pL.one;refine⟨by simp[fX,Ni],?_⟩;have:=so.two (s:= .mk 11 0 [] .nil [] z0 z0 (Ξ b) b (Ξ d) d) (t1:=t1) (o:=o) (c:=cc) (m:=m) (o':=o') (c':=Ke) rfl hU Nk;simpa only[bQ,cy,bB]using this
 |@cond nm b d h1 h3 h4=>
  by_cases hd:d=[]
  ·subst hd;have e1:(δ.mk 7 0 nm .nil [] z0 z0 (Ξ b) b (Ξ ([]:List δ)) []).words=[[105,102]]++([nm]++bW b):=by simp[δ.words,i_,bf,bz,bW]
   rw[e1]at hk hN⊢;simp only[cX,cN,eT]at hk hN;refine aR.yes (P:=fun s=>(aF e [105,102] s).bind fun _ s=>(gS e s).bind fun n s=>(blk s).bind fun b s=>
    if s.aV [101,108,115,101]then(aF e [101,108,115,101] s).bind fun _ s=>(blk s).map fun d=>(.mk 7 0 n .nil [] z0 z0 (Ξ b.1) b.1 (Ξ d.1) d.1,[b.2,d.2])
    else .ok (.mk 7 0 n .nil [] z0 z0 (Ξ b.1) b.1 .nil [],[b.2]) s) (ws:=[nm]++bW b) ?_ fun s hs=>by simp only[iE,hs];rfl
   refine aR.bind (ij e (by decide)) (fun _ _ _ _=>by simp) fun t1 _ _ _=>?_;refine aR.bind (tu e h1) (fun _ _ _ _=>by simp) fun t2 n _ hn=>?_;intro a ts rest ht hr;obtain⟨z,⟨fX,o,tb,cc,rfl,hU⟩,ez⟩:=IH b h3 (by omega) a ts rest ht (by simp);have hb:(⟨jG a (o::(tb++[cc])),rest⟩:PS).aV [101,108,115,101]=false:=by
    have:lx rest≠[101,108,115,101]:=by simpa using hr
    simpa[PS.aV,vd]using this
   subst hn;refine⟨_,⟨?_,?_⟩,by simp only[ez,R.bind,hb];rfl⟩
   ·rw[fX];rfl
   ·have:=so.one (s:= .mk 7 0 n .nil [] z0 z0 (Ξ b) b (Ξ ([]:List δ)) []) (t1:=t1++t2) (o:=o) (c:=cc) (.inr rfl) hU;simpa only[bQ]using this
  ·have hdl:¬d.length=0:=fun h=>hd (List.eq_nil_of_length_eq_zero h);have e1:(δ.mk 7 0 nm .nil [] z0 z0 (Ξ b) b (Ξ d) d).words=[[105,102]]++([nm]++(bW b++([[101,108,115,101]]++bW d))):=by simp[δ.words,i_,bf,bz,bW,Yj,hd]
   rw[e1]at hk hN⊢;simp only[cX,cN,eT]at hk hN;refine aR.yes (P:=fun s=>(aF e [105,102] s).bind fun _ s=>(gS e s).bind fun n s=>(blk s).bind fun b s=>
    if s.aV [101,108,115,101]then(aF e [101,108,115,101] s).bind fun _ s=>(blk s).map fun d=>(.mk 7 0 n .nil [] z0 z0 (Ξ b.1) b.1 (Ξ d.1) d.1,[b.2,d.2])
    else .ok (.mk 7 0 n .nil [] z0 z0 (Ξ b.1) b.1 .nil [],[b.2]) s) (ws:=[nm]++(bW b++([[101,108,115,101]]++bW d))) ?_ fun s hs=>by simp only[iE,hs];rfl
   refine aR.bind (ij e (by decide)) (fun _ _ _ _=>by simp) fun t1 _ _ _=>?_;refine aR.bind (tu e h1) (fun _ _ _ _=>by simp) fun t2 n _ hn=>?_;refine aR.bind (IH b h3 (by omega)) (fun _ _ _ _=>by simp) fun t3 z _ hz=>?_;refine aR.yes (P:=fun s=>(aF e [101,108,115,101] s).bind fun _ s=>(blk s).map fun d=>(.mk 7 0 n .nil [] z0 z0 (Ξ z.1) z.1 (Ξ d.1) d.1,[z.2,d.2])) (w:=[101,108,115,101]) (ws:=bW d) ?_ fun s hs=>by simp only[xR hs];rfl
   refine aR.bind (w1:=[[101,108,115,101]]) (ij e (by decide)) (fun _ _ _ _=>by simp) fun t4 _ DG _=>?_;refine aR.map ((IH d h4 (by omega)).weaken (by simp) fun _ _ _ h=>h) fun t5 z' _ rO=>?_;obtain⟨fX,o,tb,cc,rfl,hU⟩:=hz;obtain⟨Ni,o',tb',Ke,rfl,Nk⟩:=rO;obtain⟨m,rfl,-⟩:=DG.one;subst hn;refine⟨by simp[fX,Ni],?_⟩;have:=so.two (s:= .mk 7 0 n .nil [] z0 z0 (Ξ b) b (Ξ d) d) (t1:=t1++t2) (o:=o) (c:=cc) (m:=m) (o':=o') (c':=Ke) rfl hU Nk;simpa only[bQ,cy,bB]using this
end
theorem Xj{w:List Nat}{ws:List (List Nat)}{ts:List Tok}(h:TS (w::ws) ts):∃t r,ts=t::r:=by obtain⟨t,r,e,-⟩:=h.cons;exact⟨t,r,e⟩
theorem δ.jQ.mem{l:List δ}(h:δ.jQ l):∀s∈l,s.Can:=by
 induction l with
 |nil=>intro s hs;cases hs
 |cons a l ih=>
  cases h with
  |cons h1 h2=>
   intro s hs
   rcases cB.1 hs with rfl|hs
   ·exact h1
   ·exact ih h2 s hs
theorem ajq{l:List δ}(h:δ.jQ l):l.length<=(lI l).length:=by
 induction l with
 |nil=>simp
 |cons s l ih=>
  cases h with
  |cons h1 h2=>
   obtain⟨w,ws,hw,-⟩:=O4 h1
   have:=ih h2;simp only[lI,cX,cN,hw];omega
section
variable{e K:Nat}{blk:PS->R (List δ×List Sp)}{N:Nat}(IH:∀l:List δ,δ.jQ l->(bW l).length<=N->aR blk (bW l) (EM l) [])
include IH
theorem W4:∀(l:List δ),δ.jQ l->(lI l).length<=K->(lI l).length<=N->∀(n:Nat) (l0:List δ) (s0:List Sp),l.length<n->∀a ts rest,TS (lI l) ts->lx rest=[125]→
  ∃k_,uQ l ts k_/\cJ (fun s=>!s.aV [125]) (fun l s=>(uE e (iE e (aB e K) blk) s).map fun x=>(l.1++[x.1],l.2++[x.2])) n (l0,s0) ⟨a,ts++rest⟩= .ok (l0++l,s0++k_) ⟨jG a ts,rest⟩
 |[],_,_,_,n,l0,s0,hn,a,ts,rest,ht,hr=>by
  obtain rfl:=ht.nil;obtain⟨n,rfl⟩:∃j,n=j+1:=⟨n-1,by simp at hn;omega⟩;have hb:(fun s:PS=>!s.aV [125]) ⟨a,rest⟩=false:=by simp[PS.aV,vd,hr]
  exact⟨[],.nil,by rw[bB,Bl hb];simp[jG]⟩
 |s::l,hc,hk,hN,n,l0,s0,hn,a,ts,rest,ht,hr=>by
  cases hc with
  |cons h1 h2=>
  obtain⟨n,rfl⟩:∃j,n=j+1:=⟨n-1,by simp at hn;omega⟩
  obtain⟨t1,t2,rfl,g1,g2⟩:=(show TS (s.words++lI l) ts from ht).split;simp only[lI,cX]at hk hN;obtain⟨w,ws,hw,φ⟩:=O4 h1;simp only[cB,mO,or_false,not_or]at φ;have Lg:=g1;rw[hw]at Lg;have Dd:lx (t1++(t2++rest))=w:=L0 Lg;have abJ:lx (t2++rest)∉[[101,108,115,101]]:=by
   cases l with
   |nil=>rw[g2.nil,bB,hr];decide
   |cons s' l'=>
    cases h2 with
    |cons h3 h4=>
    obtain⟨w',Pe,nS,HH⟩:=O4 h3
    simp only[cB,mO,or_false,not_or]at HH;simp only[lI,nS,cy]at g2;exact sM g2 (by simpa using HH.2)
  obtain⟨x,⟨q1,q2⟩,e1⟩:=ahQ (e:=e) (K:=K) IH h1 (by omega) (by omega) a t1 (t2++rest) g1 abJ;obtain⟨t,r,rfl⟩:=Xj Lg;obtain⟨k_,k1,k2⟩:=W4 l h2 (by omega) (by omega) n (l0++[s]) (s0++[.mk (JM (t::r)) (jG 0 (t::r)) x.2]) (by simpa using hn) (jG a (t::r)) t2 rest g2 hr;have hb:(fun s:PS=>!s.aV [125]) ⟨a,t::r++(t2++rest)⟩=true:=by
   have:lx (t::r++(t2++rest))≠[125]:=by rw[Dd];exact φ.1
   simpa[PS.aV,vd]using this
  refine⟨_,.cons g1 q2 k1,?_⟩;rw[bQ,D4 hb];have A8:uE e (iE e (aB e K) blk) ⟨a,t::r++(t2++rest)⟩= .ok (s,.mk (JM (t::r)) (jG 0 (t::r)) x.2) ⟨jG a (t::r),t2++rest⟩:=by simp only[uE,e1,R.bind,q1];rfl
  rw[A8];show cJ _ _ n (l0++[s],s0++[_]) _=_;rw[k2,wg];simp
theorem ahL{l:List δ}(hc:δ.jQ l)(hk:(lI l).length<=K)(hN:(lI l).length<=N):aR (zc e (iE e (aB e K) blk)) (bW l) (EM l) []:=by
 intro a ts rest ht _;obtain⟨t1,t2,rfl,g1,g2⟩:=(show TS ([[123]]++(lI l++[[125]])) ts from ht).split;obtain⟨t3,t4,rfl,g3,g4⟩:=g2.split;obtain⟨o,rfl,k1⟩:=g1.one;obtain⟨c,rfl,k2⟩:=g4.one;have hl:=ajq hc;have hlen:l.length<(t3++([c]++rest)).length+1:=by have:=g3.len;simp only[cX];omega
 obtain⟨k_,q1,q2⟩:=W4 (e:=e) (K:=K) IH l hc hk hN ((t3++([c]++rest)).length+1) [] [] hlen (o.at_+o.text.length) t3 ([c]++rest) g3 (by show c.text=_;rw[k2.1]);refine⟨(l,k_),⟨rfl,o,t3,c,rfl,q1⟩,?_⟩;simp only[zc,cy,bB,bQ,uJ k1 (show eD [123]≠0 by decide),R.bind]at q2⊢;rw[q2];simp only[R.bind,R.map,uJ k2 (show eD [125]≠0 by decide),jG,wg]
end
theorem Wz(e K:Nat):∀(k:Nat) (l:List δ),δ.jQ l->(bW l).length<=k->(bW l).length<=K->aR (eh e (aB e K) k) (bW l) (EM l) []
 |0,l,_,h,_=>by simp[bW]at h
 |k+1,l,hc,h,hK=>by
  have e1:(bW l).length=(lI l).length+2:=by simp[bW]
  rw[e1]at h hK;exact ahL (e:=e) (K:=K) (N:=min k K) (fun l' gQ h'=>Wz e K k l' gQ (by omega) (by omega)) hc (by omega) (by omega)
def ai.words(p:ai):List (List Nat):=[p.name]++([[91]]++([gi p.size.toNat]++[[93]]))
def ξ.words(p:ξ):List (List Nat):=[[112,114,111,99]]++([p.name]++([[40]]++((ki (p.au.map ai.words)++[[41]])++bW p.body)))
structure ξ.Can (p:ξ):Prop where
 nm:df p.name=true
 cp:p.cp=Ξ p.au
 au:∀x∈p.au,df x.name=true/\0<=x.size/\x.size<100
 cb:p.cb=Ξ p.body
 body:δ.jQ p.body
theorem ahN{e:Nat}{p:ai}(h1:df p.name=true)(h2:0<=p.size)(h3:p.size<100):aR (zq e) p.words (fun _ y=>y=p) []:=by
 refine aR.bind (tu e h1) (fun _ _ _ _=>by simp) fun _ n _ hn=>?_;refine aR.bind (ij e (by decide)) (fun _ _ _ _=>by simp) fun _ _ _ _=>?_;refine aR.bind (ahM e (by omega)) (fun _ _ _ _=>by simp) fun _ k _ hk=>?_;refine aR.map (ij e (by decide)) fun _ _ _ _=>?_;subst hn hk;obtain⟨nm,sz⟩:=p;have:(sz.toNat:Int)=sz:=by simp only at h2;omega
 simp only[this]
def Pr(p:ξ)(ts:List Tok)(x:ξ×List Sp):Prop:=x.1=p/\∃t0 o tb c,ts=t0++o::(tb++[c])/\uQ p.body tb x.2
theorem ahO{e K:Nat}{p:ξ}(h:p.Can)(hK:p.words.length<=K):aR (zs e (eh e (aB e K) K)) p.words (Pr p) []:=by
 have e1:(bW p.body).length<=K:=by simp only[ξ.words,cX]at hK;omega
 refine aR.bind (ij e (by decide)) (fun _ _ _ _=>by simp) fun t1 _ _ _=>?_;refine aR.bind (tu e h.nm) (fun _ _ _ _=>by simp) fun t2 n _ hn=>?_;refine aR.bind (ij e (by decide)) (fun _ _ _ _=>by simp) fun t3 _ _ _=>?_;refine aR.bind (WA (S:=[]) (by simp) (by simp) p.au (fun y hy=>ahN (h.au y hy).1 (h.au y hy).2.1 (h.au y hy).2.2) fun y hy=>⟨y.name,_,rfl,fun e=>by
  have:=(Iw (h.au y hy).1).2
  rw[e]at this
  revert this;decide⟩) (fun _ _ _ _=>by simp) fun t4 ps _ dd=>?_
 refine aR.map (Wz e K K p.body h.body e1 e1) fun t5 z _ hz=>?_;obtain⟨fX,o,tb,c,rfl,hU⟩:=hz;refine⟨?_,t1++(t2++(t3++t4)),o,tb,c,by simp,hU⟩;obtain⟨nm,cp,au,cb,body⟩:=p;obtain⟨-,h2,-,h4,-⟩:=h;simp only at h2 h4 hn dd fX;simp only[hn,dd,fX,h2,h4]
def qN:List ξ->List (List Nat)
 |[]=>[]
 |p::l=>p.words++qN l
inductive B9:List ξ->List Tok->List (List Sp)->Prop
 |nil:B9 [] [] []
 |cons {p:ξ} {l:List ξ} {ts zI:List Tok} {sp:List Sp} {k_:List (List Sp)} (h0:TS p.words ts) (h1:Pr p ts (p,sp)) (h2:B9 l zI k_):B9 (p::l) (ts++zI) (sp::k_)
theorem ahd(l:List ξ):l.length<=(qN l).length:=by
 induction l with
 |nil=>simp
 |cons p l ih=>simp only[qN,cX,cN,ξ.words,eT];omega
theorem Wj{e K:Nat}:∀(l:List ξ),(∀p∈l,p.Can)->(qN l).length<=K->∀(n:Nat) (l0:List ξ) (s0:List (List Sp)),l.length<n->∀a ts,TS (qN l) ts→
  ∃k_,B9 l ts k_/\cJ (fun s=>!s.l.isEmpty) (fun l s=>(zs e (eh e (aB e K) K) s).map fun x=>(l.1++[x.1],l.2++[x.2])) n (l0,s0) ⟨a,ts⟩= .ok (l0++l,s0++k_) ⟨jG a ts,[]⟩
 |[],_,_,n,l0,s0,hn,a,ts,ht=>by obtain rfl:=ht.nil;obtain⟨n,rfl⟩:∃j,n=j+1:=⟨n-1,by simp at hn;omega⟩;exact⟨[],.nil,by rw[Bl (by rfl)];simp[jG]⟩
 |p::l,h,hK,n,l0,s0,hn,a,ts,ht=>by
  obtain⟨n,rfl⟩:∃j,n=j+1:=⟨n-1,by simp at hn;omega⟩;obtain⟨t1,t2,rfl,g1,g2⟩:=(show TS (p.words++qN l) ts from ht).split;simp only[qN,cX]at hK;have yN:p.words.length<=K:=by omega
  obtain⟨x,⟨q1,q2⟩,e1⟩:=ahO (e:=e) (K:=K) (h p (by simp)) yN a t1 t2 g1 (by simp);obtain⟨k_,k1,k2⟩:=Wj (e:=e) (K:=K) l (fun q hq=>h q (by simp[hq])) (by omega) n (l0++[p]) (s0++[x.2]) (by simpa using hn) (jG a t1) t2 g2;obtain⟨t,r,rfl⟩:=Xj (ws:=_) (show TS ([112,114,111,99]::_) t1 from g1);refine⟨_,.cons g1 ⟨rfl,q2⟩ k1,?_⟩;rw[D4 (by rfl)];rw[e1];show cJ _ _ n (l0++[x.1],s0++[x.2]) _=_;rw[q1,k2,wg];simp
theorem ahk(e:Nat){l:List ξ}(h:∀p∈l,p.Can){ts:List Tok}(ht:TS (qN l) ts):∃k_,B9 l ts k_/\Bu e ts= .ok (l,k_) ⟨jG 0 ts,[]⟩:=by have hl:=ahd l;have:=ht.len;obtain⟨k_,h1,h2⟩:=Wj (e:=e) (K:=ts.length+1) l h (by omega) (ts.length+1) [] [] (by rw[this];omega) 0 ts ht;exact⟨k_,h1,h2⟩
structure Lay (g:List Nat):Prop where
 go:∀r,bZ false (g++r)=g.length+bZ false r
 ok:dB g
theorem Lay.nil:Lay []:=⟨fun r=>by simp,fun b hb=>by cases hb⟩
theorem Lay.cons{b:Nat}{g:List Nat}(hb:b=32\/b=10)(h:Lay g):Lay (b::g):=⟨fun r=>by
 rw[cy,bZ,if_pos hb,h.go r,cN];omega,fun c hc=>by
 rcases cB.1 hc with rfl|hc
 ·omega
 ·exact h.ok c hc⟩
theorem Lay.app{g h:List Nat}(h1:Lay g)(h2:Lay h):Lay (g++h):=⟨fun r=>by
 rw[bQ,h1.go,h2.go,cX];omega,fun c hc=>by
 rcases dQ.1 hc with hc|hc
 ·exact h1.ok c hc
 ·exact h2.ok c hc⟩
theorem Lay.sp{g:List Nat}(h:∀b∈g,b=32\/b=10):Lay g:=by
 induction g with
 |nil=>exact .nil
 |cons b g ih=>exact .cons (h b (by simp)) (ih fun c hc=>h c (by simp[hc]))
inductive nw:List Nat->Prop
 |lets {w:List Nat} (h1:w≠[]) (h2:w.length<=8) (h3:∀b∈w,isLet b=true):nw w
 |num {n:Nat} (h:n<100):nw (gi n)
 |sign {b:Nat} (h:b∈pV):nw [b]
theorem O1{b:Nat}(h:b∈pV):isLet b=false/\dn b=false/\2<b:=by simp only[pV,cB,mO,or_false]at h;rcases h with rfl|rfl|rfl|rfl|rfl|rfl|rfl|rfl|rfl|rfl|rfl|rfl|rfl<;>decide
theorem nw.Vo{w:List Nat}(h1:w≠[])(h3:∀b∈w,isLet b=true):eD w=1:=by
 cases w with
 |nil=>exact absurd rfl h1
 |cons b w=>simp[eD,h3 b (by simp)]
theorem nw.kind{w:List Nat}(h:nw w):eD w≠0/\w≠[]:=by
 cases h with
 |lets h1 h2 h3=>rw[nw.Vo h1 h3];exact⟨by decide,h1⟩
 |@num n h=>
  refine⟨by rw[(Ft h).1];decide,?_⟩
  unfold gi;split<;>simp
 |@sign b h=>obtain⟨h1,h2,h3⟩:=O1 h;exact⟨by simp[eD,h1,h2];omega,by simp⟩
theorem WK(f:Nat->Bool)(w r:List Nat)(hw:∀b∈w,f b=true)(hr:∀b,r.head?=some b->f b=false):runN f (w++r)=w.length:=by
 induction w with
 |nil=>
  cases r with
  |nil=>rfl
  |cons b r=>simp[runN,hr b rfl]
 |cons a w ih=>simp[runN,hw a (by simp),ih fun b hb=>hw b (by simp[hb])]
theorem nw.ok{w:List Nat}(h:nw w):dB w:=by
 intro b hb;cases h with
 |lets h1 h2 h3=>
  have:=h3 b hb
  simp only[isLet,dy,decide_eq_true_eq]at this;omega
 |@num n hn=>
  unfold gi at hb
  split at hb
  ·rw[fY.1 hb];omega
  ·rcases cB.1 hb with rfl|hb
   ·omega
   ·rw[fY.1 hb];omega
 |@sign c hc=>
  rw[fY.1 hb]
  simp only[pV,cB,mO,or_false]at hc;omega
def Sep(w r:List Nat):Prop:=∀b,r.head?=some b->¬(eD w=1/\isLet b=true)/\¬(eD w=2/\dn b=true)
theorem ajd{n:Nat}{w r:List Nat}(h:nw w)(hs:Sep w r):gr n (w++r)=⟨n,eD w,w,-1⟩:=by
 cases h with
 |lets h1 h2 h3=>
  have hk:=nw.Vo h1 h3
  have hr:=WK isLet w r h3 fun b hb=>by
   have:=(hs b hb).1;cases h:isLet b with
   |false=>rfl
   |true=>exact absurd ⟨hk,h⟩ this
  cases w with
  |nil=>exact absurd rfl h1
  |cons b w=>
   have hb:=h3 b (by simp)
   rw[cy]at hr⊢;simp only[gr,hb,if_true,hr,hk];have:¬8<(b::w).length:=by omega
   rw[if_neg this,<-cy,ak1]
 |@num m hm=>
  obtain⟨hk,-⟩:=Ft hm
  have hd:∀b∈gi m,dn b=true:=by
   intro b hb;unfold gi at hb;split at hb
   ·rw[fY.1 hb];simp[dn];omega
   ·rcases cB.1 hb with rfl|hb
    ·simp[dn];omega
    ·rw[fY.1 hb];simp[dn];omega
  have hr:=WK dn (gi m) r hd fun b hb=>by
   have:=(hs b hb).2;cases h:dn b with
   |false=>rfl
   |true=>exact absurd ⟨hk,h⟩ this
  have h48:∀b l,gi m=b::l->¬(1<(gi m).length/\b=48):=by
   intro b l hb ⟨h1,h2⟩;unfold gi at hb h1;split at hb
   ·rename_i h;simp[h]at h1
   ·rename_i h;simp only[sk]at hb;omega
  have yE:¬2<(gi m).length:=by unfold gi;split<;>simp
  generalize hw:gi m=w at*;cases w with
  |nil=>cases hk
  |cons b w=>
   have hb:=hd b (by simp)
   have ek:isLet b=false:=by simp only[dn,dy,decide_eq_true_eq]at hb;simp[isLet];omega
   rw[cy]at hr⊢;simp only[gr,hb,ek,if_true,hr,hk,jO,if_false,h48 b w rfl,yE];rw[<-cy,ak1]
 |@sign b hb=>
  obtain⟨h1,h2,-⟩:=O1 hb
  simp only[cy,bB,gr,h1,h2,hb,jO,if_false,if_true,eD]
abbrev GW:=List (List Nat×List Nat)
def je:GW->List Nat
 |[]=>[]
 |x::l=>x.1++(x.2++je l)
theorem aeA(a b:GW):je (a++b)=je a++je b:=by
 induction a with
 |nil=>rfl
 |cons x a ih=>simp[je,ih]
def oa:Nat->GW->Bool
 |_,[]=>true
 |k,x::l=>(!x.1.isEmpty||!(k==eD x.2&&(k==1||k==2)))&&oa (eD x.2) l
def vw:Nat->GW->Nat
 |k,[]=>k
 |_,x::l=>vw (eD x.2) l
theorem Xy(k:Nat)(a b:GW):oa k (a++b)=(oa k a&&oa (vw k a) b):=by
 induction a generalizing k with
 |nil=>rfl
 |cons x a ih=>simp only[cy,oa,vw,ih,Bool.and_assoc]
def vU(l:GW):Prop:=∀x∈l,Lay x.1/\nw x.2
theorem vU.ok{l:GW}(h:vU l):dB (je l):=by
 induction l with
 |nil=>intro b hb;cases hb
 |cons x l ih=>
  intro b hb
  have hx:=h x (by simp);rcases dQ.1 hb with hb|hb
  ·exact hx.1.ok b hb
  ·rcases dQ.1 hb with hb|hb
   ·exact hx.2.ok b hb
   ·exact ih (fun y hy=>h y (by simp[hy])) b hb
def BJ:Nat->GW->List Tok
 |_,[]=>[]
 |n,x::l=>⟨n+x.1.length,eD x.2,x.2,-1⟩::BJ (n+x.1.length+x.2.length) l
theorem ajg(l:GW):∀n,TS (l.map ak2) (BJ n l):=by
 induction l with
 |nil=>intro n;trivial
 |cons x l ih=>intro n;exact⟨⟨rfl,rfl,rfl⟩,ih _⟩
theorem Vk{b:Nat}{z:List Nat}(h:bZ false (b::z)=(b::z).length):isLet b=false/\dn b=false:=by
 rw[bZ]at h;split at h
 ·rename_i hb;rcases hb with rfl|rfl<;>decide
 ·split at h
  ·rename_i hb;subst hb;decide
  ·simp at h
theorem aeG{b:Nat}{g:List Nat}(h:Lay (b::g)):isLet b=false/\dn b=false:=by have:=h.go [];simp only[List.append_nil,bZ,Nat.add_zero]at this;exact Vk (z:=g) this
theorem Xs{w:List Nat}(h:nw w):∃b r,w=b::r/\(isLet b=true->eD w=1)/\(dn b=true->eD w=2):=by
 obtain⟨h1,h2⟩:=h.kind;cases w with
 |nil=>exact absurd rfl h2
 |cons b r=>
  refine⟨b,r,rfl,fun h=>by simp[eD,h],fun h=>?_⟩
  have:isLet b=false:=by simp only[dn,dy,decide_eq_true_eq]at h;simp[isLet];omega
  simp[eD,h,this]
theorem aiQ{w:List Nat}{l:GW}{z:List Nat}(hl:vU l)(ha:oa (eD w) l=true)(hz:bZ false z=z.length):Sep w (je l++z):=by
 intro b hb;cases l with
 |nil=>
  cases z with
  |nil=>cases hb
  |cons c z=>
   simp only[je,bB,ak3,a_]at hb
   subst hb;obtain⟨h1,h2⟩:=Vk hz;rw[h1,h2];simp
 |cons x l=>
  obtain⟨g,v⟩:=x
  obtain⟨h1,h2⟩:=hl (g,v) (by simp);cases g with
  |cons c g=>
   simp only[je,cy,ak3,a_]at hb
   subst hb;obtain⟨h3,h4⟩:=aeG h1;rw[h3,h4];simp
  |nil=>
   obtain⟨c,r,rfl,h3,h4⟩:=Xs h2
   simp only[je,bB,cy,ak3,a_]at hb;subst hb;simp only[oa,List.isEmpty_nil,Bool.not_true,Bool.false_or,dy,BP,Bool.and_eq_false_iff,beq_eq_false_iff_ne,EN,ne_eq]at ha;refine⟨fun⟨k1,k2⟩=>?_,fun⟨k1,k2⟩=>?_⟩
   ·have:=h3 k2;rw[k1,this]at ha;simp at ha
   ·have:=h4 k2;rw[k1,this]at ha;simp at ha
theorem Xh:∀(l:GW) (z:List Nat) (k0:Nat),vU l->oa k0 l=true->bZ false z=z.length->∀k n,(je l++z).length<k->oZ k n (je l++z)=BJ n l
 |[],z,_,_,_,hz,k,n,hk=>by obtain⟨k,rfl⟩:∃j,k=j+1:=⟨k-1,by omega⟩;simp[je,oZ,BJ,hz]
 |x::l,z,k0,hl,ha,hz,k,n,hk=>by
  obtain⟨g,w⟩:=x;have h1:Lay g:=(hl (g,w) (by simp)).1;have h2:nw w:=(hl (g,w) (by simp)).2;obtain⟨k,rfl⟩:∃j,k=j+1:=⟨k-1,by omega⟩;simp only[oa,dy]at ha;have fO:vU l:=fun y hy=>hl y (by simp[hy]);have ab1:Sep w (je l++z):=aiQ fO ha.2 hz;obtain⟨oN,φ⟩:=h2.kind;obtain⟨b,r,yt,-⟩:=Xs h2;have abw:bZ false (w++(je l++z))=0:=by
   rw[yt,cy,bZ];have SY:¬(b=32\/b=10)/\¬b=35:=by
    cases h2 with
    |lets a1 a2 a3=>
     have:=a3 b (by rw[yt];simp)
     simp only[isLet,dy,decide_eq_true_eq]at this;omega
    |@num m hm=>
     unfold gi at yt
     split at yt<;>simp only[sk]at yt<;>omega
    |@sign c hc=>
     simp only[sk]at yt
     rw[<-yt.1];simp only[pV,cB,mO,or_false]at hc;omega
   rw[if_neg SY.1,if_neg SY.2]
  have e0:je ((g,w)::l)++z=g++(w++(je l++z)):=by simp[je]
  have eg:bZ false (g++(w++(je l++z)))=g.length:=by rw[h1.go,abw];rfl
  have qx:gr (n+g.length) (w++(je l++z))=⟨n+g.length,eD w,w,-1⟩:=ajd h2 ab1;have hwl:0<w.length:=List.length_pos_iff.2 φ;have eI:¬(g++(w++(je l++z))).length<=g.length:=by simp only[cX];omega
  rw[e0]at hk⊢;simp only[oZ,eg,if_neg eI,List.drop_left,qx,if_neg oN];rw[Xh l z (eD w) fO ha.2 hz k _ (by simp only[cX]at hk⊢;omega)];rfl
theorem ajh{l:GW}{z:List Nat}(hl:vU l)(ha:oa 0 l=true)(hz:bZ false z=z.length):dK (je l++z)=BJ 0 l:=Xh l z 0 hl ha hz _ 0 (Nat.lt_succ_self _)
def fU(s:List Nat)(ws:List (List Nat))(b e:Bool):Prop:=
 ∃l:GW,je l=s/\l.map ak2=ws/\vU l/\l≠[]/\(∀k,(b=true\/(k≠1/\k≠2))->oa k l=true)/\(e=true->∀k,vw k l≠1/\vw k l≠2)
theorem aeC(k:Nat)(a b:GW):vw k (a++b)=vw (vw k a) b:=by
 induction a generalizing k with
 |nil=>rfl
 |cons x a ih=>exact ih _
theorem fU.app{s1 s2:List Nat}{w1 w2:List (List Nat)}{b1 e1 b2 e2:Bool}(h:fU s1 w1 b1 e1)(k:fU s2 w2 b2 e2)(hc:(e1||b2)=true):fU (s1++s2) (w1++w2) b1 e2:=by
 obtain⟨l1,a1,a2,a3,a4,a5,a6⟩:=h;obtain⟨l2,c1,c2,c3,c4,c5,c6⟩:=k;refine⟨l1++l2,by rw[aeA,a1,c1],by rw[List.map_append,a2,c2],fun x hx=>?_,by simp[a4],fun j hj=>?_,fun he j=>?_⟩
 ·rcases dQ.1 hx with hx|hx
  ·exact a3 x hx
  ·exact c3 x hx
 ·rw[Xy,a5 j hj,sg];refine c5 _ ?_;cases b2 with
  |true=>exact .inl rfl
  |false=>exact .inr (a6 (by simpa using hc) j)
 ·rw[aeC];exact c6 he _
theorem fU.iA{s:List Nat}{ws:List (List Nat)}{b e:Bool}(h:fU s ws b e){g:List Nat}(hg:Lay g)(φ:g≠[]):fU (g++s) ws true e:=by
 obtain⟨l,a1,a2,a3,a4,a5,a6⟩:=h;cases l with
 |nil=>exact absurd rfl a4
 |cons x l=>
  refine⟨(g++x.1,x.2)::l,by rw[<-a1];simp[je],a2,fun y hy=>?_,by simp,fun j _=>?_,a6⟩
  ·rcases cB.1 hy with rfl|hy
   ·exact⟨hg.app (a3 x (by simp)).1,(a3 x (by simp)).2⟩
   ·exact a3 y (by simp[hy])
  ·have:=a5 0 (.inr ⟨by decide,by decide⟩);simp only[oa,dy]at this⊢;refine⟨?_,this.2⟩;have:(g++x.1).isEmpty=false:=by cases g<;>first|exact absurd rfl φ|rfl
   rw[this];rfl
theorem fU.BM{s:List Nat}{ws:List (List Nat)}{b e:Bool}(h:fU s ws b e):fU s ws false false:=by obtain⟨l,a1,a2,a3,a4,a5,a6⟩:=h;exact⟨l,a1,a2,a3,a4,fun k hk=>a5 k (hk.elim (fun h=>by cases h) .inr),fun h=>by cases h⟩
theorem IK{w:List Nat}(h:nw w):fU w [w] false false:=by
 refine⟨[([],w)],by simp[je],rfl,fun x hx=>by rw[fY.1 hx];exact⟨.nil,h⟩,by simp,fun k hk=>?_,fun h=>by cases h⟩;rcases hk with hk|⟨h1,h2⟩
 ·cases hk
 ·have h1:(k==1)=false:=by simpa using h1
  have h2:(k==2)=false:=by simpa using h2
  simp[oa,h1,h2]
theorem kx{b:Nat}(h:b∈pV):fU [b] [[b]] true true:=by
 obtain⟨h1,h2,h3⟩:=O1 h;have hk:eD [b]=b:=by simp[eD,h1,h2]
 refine⟨[([],[b])],by simp[je],rfl,fun x hx=>by rw[fY.1 hx];exact⟨.nil,.sign h⟩,by simp,fun k _=>?_,fun _ k=>?_⟩
 ·have:(k==b&&(k==1||k==2))=false:=by
   cases hh:(k==b&&(k==1||k==2))with
   |false=>rfl
   |true=>
    simp only[dy,Bool.or_eq_true,beq_iff_eq]at hh
    omega
  simp[oa,hk,this]
 ·simp only[vw,hk];omega
theorem afi{w:List Nat}(h:df w=true):nw w:=by simp only[df,dy,decide_eq_true_eq]at h;refine .lets (fun e=>by rw[e]at h;simp at h) h.1.1.1.2 fun b hb=>?_;have:=dL.1 h.1.1.2 b hb;simpa[isLet]using this
theorem uz{w:List Nat}(h:df w=true):fU w [w] false false:=IK (afi h)
theorem jX:Lay [32]:= .sp (by simp)
theorem aeD:Lay [10]:= .sp (by simp)
theorem V7{s:List Nat}{ws:List (List Nat)}(h:fU s ws false false)(b:Bool):fU (paren b s) (qI b ws) false false:=by
 cases b with
 |false=>exact h
 |true=>
  have:=(kx (b:=40) (by decide)).app (h.app (kx (b:=41) (by decide)) rfl) rfl
  exact this.BM
theorem ζ.Can.ai_{k:Int}{a b:ζ}(h1:3<=k):(ζ.mk k 0 [] .any [a,b]).text=paren (decide (k=5)&&gJ a.kind) a.text++(xl k++paren (if k=5 then decide (3<=b.kind)else gJ b.kind) b.text):=by
 have e1:¬k=1:=by omega
 have e2:¬k=2:=by omega
 simp only[ζ.text,ζ.texts,w_,e1,e2,if_false,ax,aI,bQ]
theorem Br{x:ζ}(h:x.Can):fU x.text x.words false false:=by
 induction h with
 |@fix n h1 h2=>
  have:fU (gi n.toNat) [gi n.toNat] false false:=IK (.num (by omega))
  simpa[ζ.text,ζ.words,w_,Bg]using this
 |@dZ s h=>simpa[ζ.text,ζ.words,w_,Bg]using uz h
 |@bin k a b h1 h2 ha hb dJ gm=>
  rw[ζ.Can.ai_ h1,O' h1]
  have Θ:∃c,c∈pV/\xl k=[32]++([c]++[32])/\uq k=[c]:=by
   have:k=3\/k=4\/k=5:=by omega
   rcases this with rfl|rfl|rfl
   ·exact⟨43,by decide,rfl,rfl⟩
   ·exact⟨45,by decide,rfl,rfl⟩
   ·exact⟨42,by decide,rfl,rfl⟩
  obtain⟨c,hc,e1,e2⟩:=Θ;rw[e1,e2];have p1:=V7 dJ (decide (k=5)&&gJ a.kind);have p2:=(kx hc).iA jX (by simp);have p3:=(V7 gm (if k=5 then decide (3<=b.kind)else gJ b.kind)).iA jX (by simp);have:=p1.app (p2.app p3 rfl) rfl;simpa only[bQ,cy,bB]using this
theorem agT{p:ρ}(h:p.Can):fU p.text p.words false false:=by
 obtain⟨nm,c,ix⟩:=p;obtain⟨h1,h2,h3,h4⟩:=h;simp only at h1 h2 h3 h4;have p0:=uz h1;have pl:=kx (b:=91) (by decide);have pr:=kx (b:=93) (by decide)
 match ix,h3,h4 with
 |[],_,_=>exact p0
 |[a],_,h4=>
  have:=p0.app (pl.app ((Br (h4 a (by simp))).app pr rfl) rfl) rfl
  simpa only[ρ.text,ρ.words,bQ]using this.BM
 |[a,b],_,h4=>
  have pc:=(kx (b:=58) (by decide)).iA jX (by simp)
  have:=p0.app (pl.app ((Br (h4 a (by simp))).app (pc.app (((Br (h4 b (by simp))).iA jX (by simp)).app pr rfl) rfl) rfl) rfl) rfl;simpa only[ρ.text,ρ.words,bQ,cy,bB]using this.BM
 |_::_::_::_,h3,_=>simp at h3
theorem Ow{α:Type}(T:α->List Nat)(W:α->List (List Nat)):∀(l:List α),(∀x∈l,fU (T x) (W x) false false)->l≠[]->fU (lq (l.map T)) (ki (l.map W)) false false
 |[],_,h=>absurd rfl h
 |[x],h,_=>by simpa[lq,ki,lG]using h x (by simp)
 |x::y::l,h,_=>by
  have ih:=Ow T W (y::l) (fun z hz=>h z (by simp[hz])) (by simp);have p1:=h x (by simp);have p2:=kx (b:=44) (by decide);have:=p1.app (p2.app (ih.iA jX (by simp)) rfl) rfl;have e1:lq ((x::y::l).map T)=T x++([44]++([32]++lq ((y::l).map T))):=by simp[lq]
  have e2:ki ((x::y::l).map W)=W x++([[44]]++ki ((y::l).map W)):=by simp[ki,lG]
  rw[e1,e2];exact this
theorem IJ{l:List ρ}(h:∀p∈l,p.Can)(φ:l≠[]):fU (mK l) (ki (l.map ρ.words)) false false:=Ow ρ.text ρ.words l (fun p hp=>agT (h p hp)) φ
theorem agU{l:List ρ}(h:∀p∈l,p.Can){c:Nat}(hc:c∈pV):fU (mK l++[c]) (ki (l.map ρ.words)++[[c]]) false true:=by
 by_cases φ:l=[]
 ·subst φ;obtain⟨l,a1,a2,a3,a4,a5,a6⟩:=kx hc;exact⟨l,a1,a2,a3,a4,fun k _=>a5 k (.inl rfl),a6⟩
 ·exact(IJ h φ).app (kx hc) rfl
theorem sa{w:List Nat}(h1:w≠[])(h2:w.length<=8)(h3:(w.all isLet)=true):fU w [w] false false:=IK (.lets h1 h2 (dL.1 h3))
theorem agR{k g:Int}{nm:List Nat}{cp:τ}{pl:List ρ}{size to:ζ}{cb ce:τ}{bd ed:List δ}(h:(δ.mk k g nm cp pl size to cb bd ce ed).Can):fU (bY k g nm pl size to) (i_ k g nm pl size to) false false:=by
 have sz:∀{nm:List Nat} {x:ζ} {kw:List Nat},df nm=true->x.Can->fU kw [kw] false false->fU (kw++([32]++(nm++([91]++(x.text++[93]))))) ([kw]++([nm]++([[91]]++(x.words++[[93]])))) false false:=fun h1 h2 hk=>by have:=hk.app (((uz h1).app ((kx (b:=91) (by decide)).app ((Br h2).app (kx (b:=93) (by decide)) rfl) rfl) rfl).iA jX (by simp)) rfl;exact this.BM
 cases h with
 |gate h1 h2 h3 h4=>
  obtain⟨-,f2,f3,-⟩:=CQ h1 h2
  have φ:pl≠[]:=fun e=>by rw[e]at h3;simp at h3;omega
  have hw:fU (fu.getD (g-1).toNat []) [fu.getD (g-1).toNat []] false false:=by
   have:g=1\/g=2\/g=3\/g=4\/g=5\/g=6\/g=7\/g=8\/g=9\/g=10\/g=11\/g=12:=by omega
   rcases this with rfl|rfl|rfl|rfl|rfl|rfl|rfl|rfl|rfl|rfl|rfl|rfl<;>exact sa (by decide) (by decide) (by decide)
  have:=hw.app ((IJ h4 φ).iA jX (by simp)) rfl;simpa only[bY,i_,if_true,bQ]using this
 |take h1 h2=>simpa[bY,i_]using sz h1 h2 (sa (w:=[116,97,107,101]) (by decide) (by decide) (by decide))
 |drop h1=>
  have:=(sa (w:=[100,114,111,112]) (by decide) (by decide) (by decide)).app ((uz h1).iA jX (by simp)) rfl
  simpa[bY,i_]using this
 |borrow h1 h2 h3=>simpa[bY,i_]using sz h1 h2 (sa (w:=[98,111,114,114,111,119]) (by decide) (by decide) (by decide))
 |measure h1 h2=>
  have pc:=(kx (b:=58) (by decide)).iA jX (by simp)
  have:=(sa (w:=[109,101,97,115,117,114,101]) (by decide) (by decide) (by decide)).app (((IJ (l:=[_]) (by simpa using h2) (by simp)).iA jX (by simp)).app (pc.app ((uz h1).iA jX (by simp)) rfl) rfl) rfl;simpa[bY,i_]using this
 |reset h2=>
  have:=(sa (w:=[114,101,115,101,116]) (by decide) (by decide) (by decide)).app ((IJ (l:=[_]) (by simpa using h2) (by simp)).iA jX (by simp)) rfl
  simpa[bY,i_]using this
 |cond h1 h3 h4=>
  have:=(sa (w:=[105,102]) (by decide) (by decide) (by decide)).app ((uz h1).iA jX (by simp)) rfl
  simpa[bY,i_]using this
 |loop h1 h2 tR h3=>
  have pe:=(kx (b:=61) (by decide)).iA jX (by simp)
  have pc:=(kx (b:=58) (by decide)).iA jX (by simp);have:=(sa (w:=[102,111,114]) (by decide) (by decide) (by decide)).app (((uz h1).iA jX (by simp)).app (pe.app (((Br h2).iA jX (by simp)).app (pc.app ((Br tR).iA jX (by simp)) rfl) rfl) rfl) rfl) rfl;simpa[bY,i_]using this
 |call h1 h4=>
  have:=(uz h1).app ((kx (b:=40) (by decide)).app (agU h4 (c:=41) (by decide)) rfl) rfl
  simpa[bY,i_]using this.BM
 |qT h3=>simpa[bY,i_]using sa (w:=[117,110,100,111]) (by decide) (by decide) (by decide)
 |within h3 h4=>simpa[bY,i_]using sa (w:=[119,105,116,104,105,110]) (by decide) (by decide) (by decide)
theorem Vl{b:List Nat}(hb:∀c∈b,c=32):Lay (10::b):= .sp fun c hc=>by
 rcases cB.1 hc with rfl|hc
 ·exact .inr rfl
 ·exact .inl (hb c hc)
theorem Ym{b:List Nat}(hb:∀c∈b,c=32):∀c∈b++fo,c=32:=fun c hc=>by
 rcases dQ.1 hc with hc|hc
 ·exact hb c hc
 ·simp only[fo,cB,mO,or_false,or_self]at hc;exact hc
def uT(l:List δ)(b:List Nat):List Nat:=[123,10]++cW l (b++fo)++b++[125]
theorem aeS(k g:Int)(nm:List Nat)(cp:τ)(pl:List ρ)(size to:ζ)(cb ce:τ)(body els:List δ)(b:List Nat):gn (.mk k g nm cp pl size to cb body ce els) b=b++(bY k g nm pl size to++
  (if bf k=false then[59]else[32]++(uT body b++(if bz k=true/\¬(k=7/\els.length=0)then[32]++(om k++([32]++uT els b))else[]))))++[10]:=by
 simp only[gn];cases hb:bf k with
 |false=>simp
 |true=>
  by_cases he:bz k=true/\¬(k=7/\els.length=0)
  ·simp only[if_pos he,BR,if_false];simp[uT]
  ·simp only[if_neg he,BR,if_false];simp[uT]
theorem agQ(k:Int):fU (om k) [om k] false false:=by unfold om;split<;>exact sa (by decide) (by decide) (by decide)
def Pm(s:δ):Prop:=∀b,(∀c∈b,c=32)->∃S,[10]++gn s b=S++[10]/\fU S s.words true true
def BT(l:List δ):Prop:=∀b,(∀c∈b,c=32)->l≠[]->∃S,[10]++cW l b=S++[10]/\fU S (lI l) true true
theorem Ov{l:List δ}(h:BT l)(b:List Nat)(hb:∀c∈b,c=32):fU (uT l b) (bW l) true true:=by
 have p1:=kx (b:=123) (by decide);have p2:=(kx (b:=125) (by decide)).iA (Vl hb) (by simp);by_cases hl:l=[]
 ·subst hl;have:=p1.app p2 rfl;simpa[uT,cW,bW,lI]using this
 ·obtain⟨S,h1,h2⟩:=h (b++fo) (Ym hb) hl;have:=p1.app (h2.app p2 rfl) rfl;have e:uT l b=[123]++(S++(10::b++[125])):=by have:[123,10]++cW l (b++fo)=[123]++([10]++cW l (b++fo)):=rfl;rw[uT,this,h1];simp
  rw[e];exact this
theorem aeU{s:δ}(h:s.Can)(hb:bf s.kind=true->BT s.body)(he:bz s.kind=true->BT s.els):Pm s:=by
 intro b fD;obtain⟨k,g,nm,cp,pl,size,to,cb,body,ce,els⟩:=s;simp only[δ.kind,δ.body,δ.els]at hb he;have ph:=agR h;have Ln:=Vl fD;refine⟨_,by rw[aeS,<-bQ],?_⟩;simp only[δ.words];cases hk:bf k with
 |false=>
  have:=(ph.app (kx (b:=59) (by decide)) rfl).iA Ln (by simp)
  simpa using this
 |true=>
  have pb:=Ov (hb hk) b fD
  by_cases hc:bz k=true/\¬(k=7/\els.length=0)
  ·have pe:=Ov (he hc.1) b fD;have:=(ph.app ((pb.app (((agQ k).app (pe.iA jX (by simp)) rfl).iA jX (by simp)) rfl).iA jX (by simp)) rfl).iA Ln (by simp);simp only[if_pos hc,BR,if_false];simpa[bW]using this
  ·have:=(ph.app (pb.iA jX (by simp)) rfl).iA Ln (by simp);simp only[if_neg hc,BR,if_false];simpa[bW]using this
theorem δ.Can.sub{s:δ}(h:s.Can):δ.jQ s.body/\δ.jQ s.els:=by cases h<;>first|exact⟨‹_›,‹_›⟩|exact⟨‹_›,.nil⟩|exact⟨.nil,.nil⟩
theorem aeX(l:List δ):δ.jQ l->BT l:=by
 refine δ.lists (P:=fun l=>δ.jQ l->BT l) (fun l ih hc=>?_) l;have each:∀s∈l,Pm s:=fun s hs=>by have h1:=hc.mem s hs;exact aeU h1 (fun _=>(ih s hs).1 h1.sub.1) fun _=>(ih s hs).2 h1.sub.2
 clear ih hc;induction l with
 |nil=>intro b _ h;exact absurd rfl h
 |cons s l w7=>
  intro b hb _
  obtain⟨S,h1,h2⟩:=each s (by simp) b hb;by_cases hl:l=[]
  ·subst hl;exact⟨S,by simpa[cW]using h1,by simpa[lI]using h2⟩
  ·obtain⟨S2,k1,k2⟩:=w7 (fun y hy=>each y (by simp[hy])) b hb hl;refine⟨S++S2,?_,h2.app k2 rfl⟩;rw[cW,<-bQ,h1,bQ,k1,bQ]
theorem agS{p:ai}(h1:df p.name=true)(h2:0<=p.size)(h3:p.size<100):fU p.text p.words false true:=by have:=(uz h1).app ((kx (b:=91) (by decide)).app ((IK (.num (n:=p.size.toNat) (by omega))).app (kx (b:=93) (by decide)) rfl) rfl) rfl;simpa[ai.text,ai.words]using this
theorem V8{p:ξ}(h:p.Can):∃S,p.text=S++[10]/\fU S p.words false true:=by
 have p1:=sa (w:=[112,114,111,99]) (by decide) (by decide) (by decide);have p2:=(uz h.nm).iA jX (by simp);have p3:=kx (b:=40) (by decide);have p4:fU (lq (p.au.map ai.text)++[41]) (ki (p.au.map ai.words)++[[41]]) false true:=by
  by_cases φ:p.au=[]
  ·rw[φ];obtain⟨l,a1,a2,a3,a4,a5,a6⟩:=kx (b:=41) (by decide);exact⟨l,a1,a2,a3,a4,fun k _=>a5 k (.inl rfl),a6⟩
  ·exact(Ow ai.text ai.words p.au (fun x hx=>(agS (h.au x hx).1 (h.au x hx).2.1 (h.au x hx).2.2).BM) φ).app (kx (by decide)) rfl
 have p5:=(Ov (aeX p.body h.body) [] (by simp)).iA jX (by simp);have:=p1.app (p2.app (p3.app (p4.app p5 rfl) rfl) rfl) rfl;refine⟨_,?_,by simpa only[ξ.words]using this⟩;simp[ξ.text,uT,fo]
theorem Wh:∀(l:List ξ),(∀p∈l,p.Can)->l≠[]->∃S,cM l=S++[10]/\fU S (qN l) false true
 |[],_,h=>absurd rfl h
 |[p],h,_=>by obtain⟨S,h1,h2⟩:=V8 (h p (by simp));exact⟨S,by simp[cM,h1],by simpa[qN]using h2⟩
 |p::q::l,h,_=>by
  obtain⟨S,h1,h2⟩:=V8 (h p (by simp));obtain⟨S2,k1,k2⟩:=Wh (q::l) (fun y hy=>h y (by simp[hy])) (by simp);refine⟨S++([10]++S2),?_,?_⟩
  ·rw[cM,h1,k1];simp
  ·rw[qN];exact h2.app (k2.iA aeD (by simp)) rfl
theorem Wg{l:List ξ}(h:∀p∈l,p.Can)(φ:l≠[]):∃w:GW,cM l=je w++[10]/\w.map ak2=qN l/\vU w/\oa 0 w=true:=by obtain⟨S,h1,w,a1,a2,a3,a4,a5,a6⟩:=Wh l h φ;exact⟨w,by rw[h1,a1],a2,a3,a5 0 (.inr ⟨by decide,by decide⟩)⟩
end Go.Δ
