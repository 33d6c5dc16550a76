import Derived.Test.YtiigojkfojnedaaGreatDoorTKa
import Derived.Test.YtiigojkfojnedaaGreatDoorTHm
set_option linter.all false
set_option maxRecDepth 100000
set_option maxHeartbeats 8000000
open Bool renaming and_eq_true->dW,not_eq_true'->zZ,or_eq_false_iff->EX,true_and->tG,false_eq_true->jI,true_eq_false->BS
open List renaming all_eq_true->dS,contains_iff_mem->xW,cons_append->cy,append_assoc->bH,nil_append->bG,map_cons->aA,map_nil->aP,length_append->cD,length_cons->cE,mem_cons->cw,not_mem_nil->lF,length_nil->eI,mem_map->eT,mem_singleton->fK,take_left->B5,mem_append->dE,append_nil->de,head?_cons->alW
open Nat renaming lt_of_lt_of_le->kj
open List.cons renaming injEq->xV
open Prod renaming snd->tO
open Option.some renaming injEq->bc
namespace Go.Δ
open Tz (vl)
def dB:List Nat->Nat
 |[]=>0
 |b::_=>if isLet b then 1 else if cj b then 2 else b
def TS:List (List Nat)->List Tok->Prop
 |[],[]=>True
 |w::ws,t::ts=>(t.text=w/\t.kind=dB w/\t.gK= -1)/\TS ws ts
 |_,_=>False
theorem TS.split{a b:List (List Nat)}{ts:List Tok}(h:TS (a++b) ts):∃t1 t2,ts=t1++t2/\TS a t1/\TS b t2:=by
 induction a generalizing ts with
 |nil=>exact⟨[],ts,rfl,trivial,h⟩
 |cons w a ih=>
  cases ts with
  |nil=>exact h.elim
  |cons t ts=>
   obtain⟨t1,t2,rfl,h1,h2⟩:=ih h.2
   exact⟨t::t1,t2,rfl,⟨h.1,h1⟩,h2⟩
theorem TS.cons{w:List Nat}{ws:List (List Nat)}{ts:List Tok}(h:TS (w::ws) ts):∃t r,ts=t::r/\(t.text=w/\t.kind=dB w/\t.gK= -1)/\TS ws r:=by
 cases ts with
 |nil=>exact h.elim
 |cons t ts=>exact⟨t,ts,rfl,h.1,h.2⟩
theorem TS.one{w:List Nat}{ts:List Tok}(h:TS [w] ts):∃t,ts=[t]/\(t.text=w/\t.kind=dB w/\t.gK= -1):=by
 obtain⟨t,r,rfl,h1,h2⟩:=h.cons;cases r with
 |nil=>exact⟨t,rfl,h1⟩
 |cons=>exact h2.elim
theorem TS.nil{ts:List Tok}(h:TS [] ts):ts=[]:=by cases ts<;>first|rfl|exact h.elim
theorem TS.len{ws:List (List Nat)}{ts:List Tok}(h:TS ws ts):ts.length=ws.length:=by
 induction ws generalizing ts with
 |nil=>rw[h.nil];rfl
 |cons w ws ih=>obtain⟨t,r,rfl,-,h2⟩:=h.cons;simp[ih h2]
theorem TS.app{a b:List (List Nat)}{t1 t2:List Tok}(h1:TS a t1)(h2:TS b t2):TS (a++b) (t1++t2):=by
 induction a generalizing t1 with
 |nil=>rw[h1.nil];exact h2
 |cons w a ih=>obtain⟨t,r,rfl,h3,h4⟩:=h1.cons;exact⟨h3,ih h4⟩
def lK(r:List Tok):List Nat:=match r with
 |[]=>[]
 |t::_=>t.text
theorem PX{e:Nat}{f:Tok->Bool}{w:List Nat}{t:Tok}{r:List Tok}{a:Nat}(ht:t.text=w/\t.kind=dB w/\t.gK= -1)(hk:dB w≠0)(hf:f t=true):iJ e f ⟨a,t::r⟩= .ok w ⟨t.at_+t.text.length,r⟩:=by
 have h1:¬(t.kind=0\/f t=false):=by rw[ht.2.1,hf];simpa using hk
 have h2:¬(0<=t.gK):=by rw[ht.2.2];decide
 simp only[iJ,h1,h2,if_false,ht.1]
theorem uT{e:Nat}{w:List Nat}{t:Tok}{r:List Tok}{a:Nat}(ht:t.text=w/\t.kind=dB w/\t.gK= -1)(hk:dB w≠0):aD e w ⟨a,t::r⟩= .ok w ⟨t.at_+t.text.length,r⟩:=
 PX ht hk (by simp[ht.1])
theorem OJ{w:List Nat}(h:c_ w=true):dB w=1/\vl w=false:=by
 simp only[c_,dW,zZ,decide_eq_true_eq]at h;obtain⟨⟨⟨⟨h1,h2⟩,h3⟩,h4⟩,h5⟩:=h;constructor
 ·cases w with
  |nil=>simp at h1
  |cons b w=>
   have:isLet b=true:=by simpa[rY,isLet]using(dS.1 h3) b (by simp)
   simp[dB,this]
 ·cases hh:vl w with
  |false=>rfl
  |true=>
   have hm:w∈Tz.Al:=xW.1 hh
   have jv:(Tz.Al.all fun w=>fq.contains w||uz.contains w)=true:=by decide
   have:=dS.1 jv w hm;rw[h4,h5]at this;cases this
theorem O0{e:Nat}{w:List Nat}{t:Tok}{r:List Tok}{a:Nat}(hn:c_ w=true)(ht:t.text=w/\t.kind=dB w/\t.gK= -1):gH e ⟨a,t::r⟩= .ok w ⟨t.at_+t.text.length,r⟩:=by obtain⟨h1,h2⟩:=OJ hn;exact PX ht (by rw[h1];decide) (by rw[ht.2.1,ht.1,h1,h2];rfl)
theorem FI{n:Nat}(h:n<100):dB (fp n)=2/\numOf (fp n)=n:=by
 by_cases h1:n<10
 ·have e:fp n=[48+n]:=if_pos h1;rw[e];have a:¬(97<=48+n):=by omega
  have b:48<=48+n/\48+n<=57:=by omega
  exact⟨by simp[dB,isLet,cj,a,b.2],by simp[numOf]⟩
 ·have e:fp n=[48+n/10,48+n % 10]:=if_neg h1;rw[e];have b:48+n/10<=57:=by omega
  exact⟨by simp[dB,isLet,cj,b];omega,by simp[numOf];omega⟩
theorem Wz{e n:Nat}(hn:n<100){t:Tok}{r:List Tok}{a:Nat}(ht:t.text=fp n/\t.kind=dB (fp n)/\t.gK= -1):r8 e ⟨a,t::r⟩= .ok n ⟨t.at_+t.text.length,r⟩:=by obtain⟨h1,h2⟩:=FI hn;have:=PX (e:=e) (f:=fun t=>t.kind==2) (r:=r) (a:=a) ht (by rw[h1];decide) (by rw[ht.2.1,h1];rfl);simp only[r8,this,R.map,h2]
def pZ(b:Bool)(ws:List (List Nat)):List (List Nat):=if b then[40]::(ws++[[41]])else ws
def r_(k:Int):List Nat:=if k=3 then[43]else if k=4 then[45]else[42]
def s_(k n:Int)(s:List Nat)(ks:List Int)(ts:List (List (List Nat))):List (List Nat):=
 if k=1 then[fp n.toNat]else if k=2 then[s]else
  match ks,ts with
  |[ka,kb],[ta,tb]=>pZ (decide (k=5)&&fU ka) ta++r_ k::pZ (if k=5 then decide (3<=kb)else fU kb) tb
  |_,_=>[]
mutual
def η.words:η->List (List Nat)
 | .mk k n s _ l=>s_ k n s (l.map η.kind) (η.JL l)
def η.JL:List η->List (List (List Nat))
 |[]=>[]
 |x::l=>x.words::η.JL l
end
inductive η.Can:η->Prop
 |fix {n:Int} (h1:0<=n) (h2:n<100):η.Can (.mk 1 n [] .nil [])
 |dR {s:List Nat} (h:c_ s=true):η.Can (.mk 2 0 s .nil [])
 |bin {k:Int} {a b:η} (h1:3<=k) (h2:k<=5) (ha:η.Can a) (hb:η.Can b):η.Can (.mk k 0 [] .any [a,b])
abbrev cP:PS->Bool:=fun s=>s.aZ [42]
abbrev cS:PS->Bool:=fun s=>s.aZ [43]||s.aZ [45]
abbrev fP(e:Nat)(at':PS->R η):η->PS->R η:=fun x s=>(aD e [42] s).bind fun _ s=>(at' s).map fun y=> .mk 5 0 [] .any [x,y]
abbrev fS(e:Nat)(pr:PS->R η):η->PS->R η:=fun x s=>(aD e s.hd s).bind fun w s=>(pr s).map fun y=> .mk (if w=[45]then 4 else 3) 0 [] .any [x,y]
def Reads(P:PS->R η)(x:η)(ws:List (List Nat))(stop:List (List Nat)):Prop:=
 ∀a ts rest,TS ws ts->lK rest∉stop->∃b,P ⟨a,ts++rest⟩= .ok x ⟨b,rest⟩
theorem Bp{α:Type}{c:PS->Bool}{f:α->PS->R α}{n:Nat}{x:α}{s:PS}(hc:c s=false):cd c f (n+1) x s= .ok x s:=by simp only[cd,hc];rfl
theorem vW{α:Type}{c:PS->Bool}{f:α->PS->R α}{n:Nat}{x:α}{s:PS}(hc:c s=true):cd c f (n+1) x s=(f x s).bind (cd c f n):=by simp only[cd,hc];rfl
theorem vr(a:Nat)(r:List Tok):(⟨a,r⟩:PS).hd=lK r:=rfl
theorem MK{w:List Nat}{ws:List (List Nat)}{ts rest:List Tok}(h:TS (w::ws) ts):lK (ts++rest)=w:=by obtain⟨t,r,rfl,h1,-⟩:=h.cons;exact h1.1
theorem Kj{e k:Nat}{x:η}(hx:x.Can)(ih:Reads (au e k) x x.words [[42],[43],[45]]):Reads (eA e (au e k)) x (pZ true x.words) []:=by
 intro a ts rest ht _;simp only[pZ,if_true]at ht;obtain⟨t,r,rfl,h1,h2⟩:=ht.cons;obtain⟨t1,t2,rfl,h3,h4⟩:=h2.split;obtain⟨t',rfl,h5⟩:=h4.one;have hb:(⟨a,t::(t1++[t'])++rest⟩:PS).aZ [40]=true:=by simp[PS.aZ,PS.hd,h1.1]
 obtain⟨b,dy⟩:=ih (t.at_+t.text.length) t1 (t'::rest) h3 (by show t'.text∉_;rw[h5.1];decide);refine⟨t'.at_+t'.text.length,?_⟩;simp only[eA,hb,if_true];simp only[cy,uT h1 (by decide),R.bind,bH,bG,dy,uT h5 (by decide),R.map]
theorem QB{e:Nat}{ix:PS->R η}{x:η}(hx:x.Can)(hk:x.kind<=2):Reads (eA e ix) x x.words []:=by
 intro a ts rest ht _;cases hx with
 |@fix n h1 h2=>
  obtain⟨n,rfl⟩:∃j:Nat,n=j:=⟨n.toNat,by omega⟩
  have h3:n<100:=by omega
  simp only[η.words,s_,if_true,Int.toNat_natCast]at ht;obtain⟨t,rfl,h⟩:=ht.one;obtain⟨k1,-⟩:=FI h3;have hb:(⟨a,[t]++rest⟩:PS).aZ [40]=false:=by
   have:fp n≠[40]:=fun e=>by rw[e]at k1;revert k1;decide
   simpa[PS.aZ,PS.hd,h.1]using this
  have oQ:(⟨a,[t]++rest⟩:PS).kd=2:=by simp[PS.kd,h.2.1,k1]
  refine⟨t.at_+t.text.length,?_⟩;simp only[eA,hb,oQ];simp only[cy,bG,Wz h3 h,R.map];rfl
 |@dR s h1=>
  simp only[η.words,s_]at ht
  obtain⟨t,rfl,h⟩:=(show TS [s] ts from ht).one;obtain⟨k1,k2⟩:=OJ h1;have hb:(⟨a,[t]++rest⟩:PS).aZ [40]=false:=by
   have:s≠[40]:=fun e=>by rw[e]at k1;revert k1;decide
   simpa[PS.aZ,PS.hd,h.1]using this
  have oQ:(⟨a,[t]++rest⟩:PS).kd=1:=by simp[PS.kd,h.2.1,k1]
  refine⟨t.at_+t.text.length,?_⟩;simp only[eA,hb,oQ];simp only[cy,bG,O0 h1 h,R.map];rfl
 |bin h1 h2=>simp only[η.kind]at hk;omega
theorem P1{k:Int}{a b:η}(h1:3<=k):(η.mk k 0 [] .any [a,b]).words=pZ (decide (k=5)&&fU a.kind) a.words++r_ k::pZ (if k=5 then decide (3<=b.kind)else fU b.kind) b.words:=by
 have e1:¬k=1:=by omega
 have e2:¬k=2:=by omega
 simp only[η.words,η.JL,s_,e1,e2,if_false,aA,aP]
theorem Pc(b:Bool)(ws:List (List Nat)):ws.length<=(pZ b ws).length/\(b=true->(pZ b ws).length=ws.length+2):=by cases b<;>simp[pZ]<;>omega
section
variable{e k N:Nat}(IH:∀y:η,y.Can->y.words.length<N->Reads (au e k) y y.words [[42],[43],[45]])
include IH
theorem ah6{x:η}(hx:x.Can):x.words.length<=N->fU x.kind=false->∀a ts rest,TS x.words ts->∃b n,rest.length<n/\kB e (eA e (au e k)) ⟨a,ts++rest⟩=cd cP (fP e (eA e (au e k))) n x ⟨b,rest⟩:=by
 have leaf:∀{x:η},x.Can->x.kind<=2->∀a ts rest,TS x.words ts->∃b n,rest.length<n/\kB e (eA e (au e k)) ⟨a,ts++rest⟩=cd cP (fP e (eA e (au e k))) n x ⟨b,rest⟩:=by intro x hx hk a ts rest ht;obtain⟨b,hb⟩:=QB (e:=e) (ix:=au e k) hx hk a ts rest ht (by simp);exact⟨b,rest.length+1,by omega,by show(eA _ _ _).bind _=_;rw[hb];rfl⟩
 induction hx with
 |fix h1 h2=>exact fun _ _=>leaf (.fix h1 h2) (by simp[η.kind])
 |dR h=>exact fun _ _=>leaf (.dR h) (by simp[η.kind])
 |@bin kk a b h1 h2 ha hb dK gu=>
  intro hN hs a0 ts rest ht
  have pP:kk=5:=by
   have:kk≠3/\kk≠4:=by simp only[fU,η.kind,EX]at hs;exact⟨of_decide_eq_false hs.1,of_decide_eq_false hs.2⟩
   omega
  subst pP;rw[P1 h1]at ht hN;simp only[decide_true,tG,if_true]at ht hN;obtain⟨t1,t2,rfl,g1,g2⟩:=ht.split;obtain⟨t,t3,rfl,g3,g4⟩:=g2.cons;have l1:=Pc (fU a.kind) a.words;have l2:=Pc (decide (3<=b.kind)) b.words;simp only[cD,cE]at hN;have first:∃b1 n1,(t::(t3++rest)).length<n1/\kB e (eA e (au e k)) ⟨a0,t1++(t::(t3++rest))⟩=cd cP (fP e (eA e (au e k))) n1 a ⟨b1,t::(t3++rest)⟩:=by
   cases NP:fU a.kind with
   |true=>
    rw[NP]at g1 l1 hN
    obtain⟨b1,dt⟩:=Kj (e:=e) ha (IH a ha (by have:=l1.2 rfl;have:=l2.1;omega)) a0 t1 (t::(t3++rest)) g1 (by simp);exact⟨b1,(t::(t3++rest)).length+1,by omega,by show(eA _ _ _).bind _=_;rw[dt];rfl⟩
   |false=>
    rw[NP]at g1
    exact dK (by omega) NP a0 t1 _ g1
  obtain⟨b1,n1,f1,f2⟩:=first
  have second:∃b2,eA e (au e k) ⟨t.at_+t.text.length,t3++rest⟩= .ok b ⟨b2,rest⟩:=by
   cases qD:decide (3<=b.kind)with
   |true=>
    rw[qD]at g4 l2 hN
    exact Kj (e:=e) hb (IH b hb (by have:=l2.2 rfl;have:=l1.1;omega)) _ t3 rest g4 (by simp)
   |false=>
    rw[qD]at g4
    exact QB (e:=e) (ix:=au e k) hb (by simp at qD;omega) _ t3 rest g4 (by simp)
  obtain⟨b2,s1⟩:=second;obtain⟨n2,rfl⟩:∃n2,n1=n2+1:=⟨n1-1,by omega⟩;have hc:cP ⟨b1,t::(t3++rest)⟩=true:=by simp[cP,PS.aZ,PS.hd,g3.1,r_]
  refine⟨b2,n2,by simp at f1;omega,?_⟩;rw[bH,cy,f2,vW hc];simp only[fP,uT (show t.text=[42]/\t.kind=dB [42]/\t.gK= -1 from g3) (by decide),R.bind,s1,R.map]
theorem W8{x:η}(hx:x.Can)(hN:x.words.length<=N)(hs:fU x.kind=false):Reads (kB e (eA e (au e k))) x x.words [[42]]:=by
 intro a ts rest ht hr;obtain⟨b,n,h1,h2⟩:=ah6 IH hx hN hs a ts rest ht;obtain⟨n2,rfl⟩:∃n2,n=n2+1:=⟨n-1,by omega⟩;have hc:cP ⟨b,rest⟩=false:=by
  have:lK rest≠[42]:=by simpa using hr
  simpa[cP,PS.aZ,vr]using this
 exact⟨b,by rw[h2,Bp hc]⟩
theorem ahp{x:η}(hx:x.Can)(hN:x.words.length<N):Reads (kB e (eA e (au e k))) x (pZ true x.words) [[42]]:=by
 intro a ts rest ht hr;obtain⟨b,hb⟩:=Kj (e:=e) hx (IH x hx hN) a ts rest ht (by simp);have hc:cP ⟨b,rest⟩=false:=by
  have:lK rest≠[42]:=by simpa using hr
  simpa[cP,PS.aZ,vr]using this
 exact⟨b,by show(eA _ _ _).bind _=_;rw[hb];exact Bp (c:=cP) (f:=fP e (eA e (au e k))) (n:=rest.length) (x:=x) hc⟩
theorem ajO{x:η}(hx:x.Can):x.words.length<=N->∀a ts rest,TS x.words ts->lK rest≠[42]->∃b n,rest.length<n/\wh e (kB e (eA e (au e k))) ⟨a,ts++rest⟩=cd cS (fS e (kB e (eA e (au e k)))) n x ⟨b,rest⟩:=by
 have leaf:∀{x:η},x.Can->x.words.length<=N->fU x.kind=false->∀a ts rest,TS x.words ts->lK rest≠[42]->∃b n,rest.length<n/\wh e (kB e (eA e (au e k))) ⟨a,ts++rest⟩=cd cS (fS e (kB e (eA e (au e k)))) n x ⟨b,rest⟩:=by intro x hx hN hs a ts rest ht hr;obtain⟨b,hb⟩:=W8 IH hx hN hs a ts rest ht (by simpa using hr);exact⟨b,rest.length+1,by omega,by show(kB _ _ _).bind _=_;rw[hb];rfl⟩
 induction hx with
 |fix h1 h2=>exact fun h=>leaf (.fix h1 h2) h (by simp[η.kind,fU])
 |dR h=>exact fun h'=>leaf (.dR h) h' (by simp[η.kind,fU])
 |@bin kk a b h1 h2 ha hb dK gu=>
  intro hN
  by_cases pP:kk=5
  ·subst pP;exact leaf (.bin h1 h2 ha hb) hN (by simp[η.kind,fU])
  intro a0 ts rest ht hr;rw[P1 h1]at ht hN;have e5:decide (kk=5)=false:=by simpa using pP
  simp only[e5,Bool.false_and,if_neg pP]at ht hN;obtain⟨t1,t2,rfl,g1,g2⟩:=ht.split;obtain⟨t,t3,rfl,g3,g4⟩:=g2.cons;have l2:=Pc (fU b.kind) b.words;simp only[cD,cE,pZ,jI,if_false]at hN g1;have vA:b.words.length<N:=by have:=l2.1;have:(if fU b.kind=true then[40]::(b.words++[[41]])else b.words).length=(pZ (fU b.kind) b.words).length:=rfl;omega
  have Ξ:r_ kk≠[42]/\dB (r_ kk)≠0/\(r_ kk=[43]\/r_ kk=[45])/\(if r_ kk=[45]then(4:Int)else 3)=kk:=by
   have:kk=3\/kk=4:=by omega
   rcases this with rfl|rfl<;>decide
  obtain⟨b1,n1,f1,f2⟩:=dK (by omega) a0 t1 (t::(t3++rest)) g1 (by show t.text≠_;rw[g3.1];exact Ξ.1);have second:∃b2,kB e (eA e (au e k)) ⟨t.at_+t.text.length,t3++rest⟩= .ok b ⟨b2,rest⟩:=by
   cases qD:fU b.kind with
   |true=>rw[qD]at g4;exact ahp IH hb vA _ t3 rest g4 (by simpa using hr)
   |false=>rw[qD]at g4;exact W8 IH hb (by omega) qD _ t3 rest g4 (by simpa using hr)
  obtain⟨b2,s1⟩:=second;obtain⟨n2,rfl⟩:∃n2,n1=n2+1:=⟨n1-1,by omega⟩;have hc:cS ⟨b1,t::(t3++rest)⟩=true:=by rcases Ξ.2.2.1 with h|h<;>simp[cS,PS.aZ,PS.hd,g3.1,h]
  have Di:(⟨b1,t::(t3++rest)⟩:PS).hd=r_ kk:=g3.1;refine⟨b2,n2,by simp at f1;omega,?_⟩;rw[bH,cy,f2,vW hc];simp only[fS,Di,uT g3 Ξ.2.1,R.bind,s1,R.map,Ξ.2.2.2]
end
theorem adm(e:Nat):∀(k:Nat) (x:η),x.Can->x.words.length<k->Reads (au e k) x x.words [[42],[43],[45]]:=by
 intro k;induction k with
 |zero=>intro x _ h;omega
 |succ k ih=>
  intro x hx hk a ts rest ht hr
  simp only[cw,lF,or_false,not_or]at hr;obtain⟨b,n,h1,h2⟩:=ajO (N:=k) ih hx (by omega) a ts rest ht hr.1;obtain⟨n2,rfl⟩:∃n2,n=n2+1:=⟨n-1,by omega⟩;have hc:cS ⟨b,rest⟩=false:=by simp[cS,PS.aZ,vr,hr.2.1,hr.2.2]
  exact⟨b,by show wh e _ _=_;rw[h2,Bp hc]⟩
def ja:Nat->List Tok->Nat
 |a,[]=>a
 |_,t::ts=>ja (t.at_+t.text.length) ts
theorem wJ(a:Nat)(x y:List Tok):ja a (x++y)=ja (ja a x) y:=by
 induction x generalizing a with
 |nil=>rfl
 |cons t x ih=>exact ih _
def Ends{α:Type}(P:PS->R α):Prop:=∀s x t,P s= .ok x t->∃ts,s.l=ts++t.l/\t.last=ja s.last ts
theorem Ends.take(e:Nat)(f:Tok->Bool):Ends (iJ e f):=by
 intro s x t h;unfold iJ at h;split at h
 ·cases h
 ·rename_i y l hl;split at h
  ·cases h
  ·split at h
   ·cases h
   ·cases h;exact⟨[y],by simp[hl],rfl⟩
theorem Ends.bind{α β:Type}{P:PS->R α}{Q:α->PS->R β}(h:Ends P)(k:∀x,Ends (Q x)):Ends fun s=>(P s).bind Q:=by
 intro s y t e;cases hp:P s with
 |ok x s'=>
  simp only[hp,R.bind]at e
  obtain⟨t1,h1,h2⟩:=h s x s' hp;obtain⟨t2,k1,k2⟩:=k x s' y t e;exact⟨t1++t2,by rw[h1,k1,bH],by rw[k2,h2,wJ]⟩
 |no w=>simp only[hp,R.bind]at e;cases e
theorem Ends.map{α β:Type}{P:PS->R α}(f:α->β)(h:Ends P):Ends fun s=>(P s).map f:=by
 intro s y t e;cases hp:P s with
 |ok x s'=>simp only[hp,R.map]at e;cases e;exact h s x _ hp
 |no w=>simp only[hp,R.map]at e;cases e
theorem Ends.no{α:Type}(w:Nat):Ends (α:=α) fun _=> .no w:=by intro s y t e;cases e
theorem Ends.ite{α:Type}{c:PS->Prop}[∀s,Decidable (c s)]{P Q:PS->R α}(h:Ends P)(k:Ends Q):Ends fun s=>if c s then P s else Q s:=by
 intro s x t e;by_cases hc:c s
 ·exact h s x t (by simpa only[hc,if_true]using e)
 ·exact k s x t (by simpa only[hc,if_false]using e)
theorem Ends.loop{α:Type}{c:PS->Bool}{f:α->PS->R α}(h:∀x,Ends (f x)):∀n x,Ends (cd c f n x)
 |0,x=> .no 0
 |n+1,x=>by
  intro s y t e;unfold cd at e;split at e
  ·exact(Ends.bind (h x) fun y=>Ends.loop h n y) s y t e
  ·cases e;exact⟨[],rfl,rfl⟩
theorem Ends.word{β:Type}{e:Nat}{Q:List Nat->PS->R β}(k:∀x,Ends (Q x)):Ends fun s=>(aD e s.hd s).bind Q:=fun s y t h=>(Ends.bind (Ends.take e fun t=>t.text==s.hd) k) s y t h
theorem Ends.YZ{α:Type}{P:PS->R α}(h:Ends P){a b:Nat}{ts rest:List Tok}{x:α}(e:P ⟨a,ts++rest⟩= .ok x ⟨b,rest⟩):b=ja a ts:=by obtain⟨zS,h1,h2⟩:=h _ _ _ e;have:ts=zS:=List.append_cancel_right h1;rw[this];exact h2
theorem SJ(e:Nat):∀k,Ends (au e k)
 |0=> .no 0
 |k+1=>by
  have ih:=SJ e k;have ij:Ends (eA e (au e k)):= .ite ((Ends.take _ _).bind fun _=>ih.bind fun x=>(Ends.take _ _).map _) (.ite (((Ends.take _ _).map _).map _) ((Ends.take _ _).map _));have rQ:Ends (kB e (eA e (au e k))):=by
   intro s y t h;simp only[kB]at h;cases hp:eA e (au e k) s with
   |ok x s'=>
    rw[hp]at h
    obtain⟨t1,h1,h2⟩:=ij s x s' hp;obtain⟨t2,k1,k2⟩:=Ends.loop (fun x=>(Ends.take _ _).bind fun _=>ij.map _) _ x s' y t h;exact⟨t1++t2,by rw[h1,k1,bH],by rw[k2,h2,wJ]⟩
   |no w=>rw[hp]at h;cases h
  intro s y t h;show∃ts,_;have h:wh e (kB e (eA e (au e k))) s= .ok y t:=h;simp only[wh]at h;cases hp:kB e (eA e (au e k)) s with
  |ok x s'=>
   rw[hp]at h
   obtain⟨t1,h1,h2⟩:=rQ s x s' hp;obtain⟨t2,k1,k2⟩:=Ends.loop (fun x=>Ends.word fun w=>rQ.map _) _ x s' y t h;exact⟨t1++t2,by rw[h1,k1,bH],by rw[k2,h2,wJ]⟩
  |no w=>rw[hp]at h;cases h
def aQ{α:Type}(P:PS->R α)(ws:List (List Nat))(Q:List Tok->α->Prop)(stop:List (List Nat)):Prop:=
 ∀a ts rest,TS ws ts->lK rest∉stop->∃x,Q ts x/\P ⟨a,ts++rest⟩= .ok x ⟨ja a ts,rest⟩
theorem BA{e k:Nat}{x:η}(hx:x.Can)(hk:x.words.length<k):aQ (au e k) x.words (fun _ y=>y=x) [[42],[43],[45]]:=by intro a ts rest ht hr;obtain⟨b,hb⟩:=adm e k x hx hk a ts rest ht hr;exact⟨x,rfl,by rw[hb,(SJ e k).YZ hb]⟩
theorem aQ.bind{α β:Type}{P:PS->R α}{K:α->PS->R β}{w1 w2:List (List Nat)}{Q1:List Tok->α->Prop}{Q2:List Tok->β->Prop}{s1 s2:List (List Nat)}
  (h:aQ P w1 Q1 s1) (hs:∀t2 rest,TS w2 t2->lK rest∉s2->lK (t2++rest)∉s1) (k:∀t1 x,TS w1 t1->Q1 t1 x->aQ (K x) w2 (fun t2 y=>Q2 (t1++t2) y) s2):aQ (fun s=>(P s).bind K) (w1++w2) Q2 s2:=by
 intro a ts rest ht hr;obtain⟨t1,t2,rfl,h1,h2⟩:=ht.split;obtain⟨x,q1,e1⟩:=h a t1 (t2++rest) h1 (hs t2 rest h2 hr);obtain⟨y,q2,e2⟩:=k t1 x h1 q1 (ja a t1) t2 rest h2 hr;refine⟨y,q2,?_⟩;rw[bH];simp only[e1,R.bind,e2,wJ]
theorem aQ.map{α β:Type}{P:PS->R α}{f:α->β}{w:List (List Nat)}{Q:List Tok->α->Prop}{Q2:List Tok->β->Prop}{s:List (List Nat)}(h:aQ P w Q s)(k:∀t x,TS w t->Q t x->Q2 t (f x)):aQ (fun s=>(P s).map f) w Q2 s:=by intro a ts rest ht hr;obtain⟨x,q1,e1⟩:=h a ts rest ht hr;exact⟨f x,k ts x ht q1,by simp only[e1,R.map]⟩
theorem aQ.weaken{α:Type}{P:PS->R α}{w:List (List Nat)}{Q Q2:List Tok->α->Prop}{s s2:List (List Nat)}(h:aQ P w Q s)(hs:∀x,x∈s->x∈s2)(k:∀t x,TS w t->Q t x->Q2 t x):aQ P w Q2 s2:=by intro a ts rest ht hr;obtain⟨x,q1,e1⟩:=h a ts rest ht fun h=>hr (hs _ h);exact⟨x,k ts x ht q1,e1⟩
theorem iB(e:Nat){w:List Nat}(hk:dB w≠0):aQ (aD e w) [w] (fun _ y=>y=w) []:=by intro a ts rest ht _;obtain⟨t,rfl,h⟩:=ht.one;exact⟨w,rfl,uT h hk⟩
theorem tA(e:Nat){w:List Nat}(hn:c_ w=true):aQ (gH e) [w] (fun _ y=>y=w) []:=by intro a ts rest ht _;obtain⟨t,rfl,h⟩:=ht.one;exact⟨w,rfl,O0 hn h⟩
theorem aiy(e:Nat){n:Nat}(hn:n<100):aQ (r8 e) [fp n] (fun _ y=>y=n) []:=by intro a ts rest ht _;obtain⟨t,rfl,h⟩:=ht.one;exact⟨n,rfl,Wz hn h⟩
theorem aQ.yes{α:Type}{P P':PS->R α}{w:List Nat}{ws:List (List Nat)}{Q:List Tok->α->Prop}{st:List (List Nat)}(h:aQ P (w::ws) Q st)(hp:∀s:PS,s.hd=w->P' s=P s):aQ P' (w::ws) Q st:=by intro a ts rest ht hr;obtain⟨x,q1,e1⟩:=h a ts rest ht hr;exact⟨x,q1,by rw[hp _ (by rw[vr];exact MK ht)];exact e1⟩
theorem yk{s:PS}{w v:List Nat}(h:s.hd=w):s.aZ v=(w==v):=by rw[PS.aZ,h]
def ρ.words(p:ρ):List (List Nat):=match p.ix with
 |[]=>[p.name]
 |[a]=>[p.name]++([[91]]++(a.words++[[93]]))
 |a::b::_=>[p.name]++([[91]]++(a.words++([[58]]++(b.words++[[93]]))))
structure ρ.Can (p:ρ):Prop where
 nm:c_ p.name=true
 c:p.c=Φ p.ix
 len:p.ix.length<=2
 qL:∀x∈p.ix,x.Can
theorem sO{w:List Nat}{ws:List (List Nat)}{t2 rest:List Tok}{st:List (List Nat)}(h:TS (w::ws) t2)(hw:w∉st):lK (t2++rest)∉st:=by rw[MK h];exact hw
theorem Ev{e k:Nat}{p:ρ}(hp:p.Can)(hk:p.words.length<k):aQ (gQ e (au e k)) p.words (fun _ y=>y=p) [[91]]:=by
 obtain⟨nm,c,ix⟩:=p;obtain⟨h1,h2,h3,h4⟩:=hp;simp only at h1 h2 h3 h4
 match ix,h2,h3,h4,hk with
 |[],h2,_,_,_=>
  subst h2
  intro a ts rest ht hr;obtain⟨t,rfl,h⟩:=(show TS [nm] ts from ht).one;have hb:(⟨t.at_+t.text.length,rest⟩:PS).aZ [91]=false:=by
   have:lK rest≠[91]:=by simpa using hr
   simpa[PS.aZ,vr]using this
  refine⟨_,rfl,?_⟩;simp only[gQ,cy,bG,O0 h1 h,R.bind,hb];rfl
 |[x],h2,_,h4,hk=>
  subst h2
  simp only[ρ.words,cD,cE]at hk;have hx:=h4 x (by simp);refine(tA e h1).bind (fun _ _ _ _=>by simp) fun t1 n _ hn=>?_;subst hn;refine aQ.yes (P:=fun s=>(aD e [91] s).bind fun _ s=>(au e k s).bind fun x s=>(if s.aZ [58]then(aD e [58] s).bind fun _ s=>(au e k s).map fun y=>[x,y]else .ok [x] s).bind fun l s=>(aD e [93] s).map fun _=>(⟨n,.any,l⟩:ρ)) ?_ fun s hs=>by simp only[yk hs];rfl
  refine(iB e (by decide)).bind (fun _ _ _ _=>by simp) fun t2 _ _ _=>?_;refine(BA hx (by omega)).bind (fun t3 rest h _=>sO h (by decide)) fun t3 y _ hy=>?_;subst hy;intro a ts rest ht hr;obtain⟨t,rfl,h⟩:=(show TS [[93]] ts from ht).one;have hb:(⟨a,t::rest⟩:PS).aZ [58]=false:=by simp[PS.aZ,PS.hd,h.1]
  refine⟨_,rfl,?_⟩;simp only[cy,bG,hb,R.bind,jI,if_false,uT h (show dB [93]≠0 by decide),R.map,ja,Φ]
 |[x,y],h2,_,h4,hk=>
  subst h2
  simp only[ρ.words,cD,cE]at hk;have hx:=h4 x (by simp);have hy:=h4 y (by simp);refine(tA e h1).bind (fun _ _ _ _=>by simp) fun t1 n _ hn=>?_;subst hn;refine aQ.yes (P:=fun s=>(aD e [91] s).bind fun _ s=>(au e k s).bind fun x s=>(if s.aZ [58]then(aD e [58] s).bind fun _ s=>(au e k s).map fun y=>[x,y]else .ok [x] s).bind fun l s=>(aD e [93] s).map fun _=>(⟨n,.any,l⟩:ρ)) ?_ fun s hs=>by simp only[yk hs];rfl
  refine(iB e (by decide)).bind (fun _ _ _ _=>by simp) fun t2 _ _ _=>?_;refine(BA hx (by omega)).bind (fun t3 rest h _=>sO h (by decide)) fun t3 x' _ gr=>?_;subst gr;refine aQ.yes (P:=fun s=>((aD e [58] s).bind fun _ s=>(au e k s).map fun y=>[x',y]).bind fun l s=>(aD e [93] s).map fun _=>(⟨n,.any,l⟩:ρ)) ?_ fun s hs=>by simp only[yk hs];rfl
  intro a ts rest ht hr;have ht:TS ([[58]]++(y.words++[[93]])) ts:=ht;obtain⟨t4,t5,rfl,g1,g2⟩:=ht.split;obtain⟨t6,t7,rfl,g3,g4⟩:=g2.split;obtain⟨t,rfl,k1⟩:=g1.one;obtain⟨t',rfl,k4⟩:=g4.one;obtain⟨y',rfl,ey⟩:=BA (e:=e) hy (show y.words.length<k by omega) (t.at_+t.text.length) t6 ([t']++rest) g3 (by show t'.text∉_;rw[k4.1];decide);refine⟨_,rfl,?_⟩;simp only[cy,bG,bH,uT k1 (show dB [58]≠0 by decide),R.bind]at ey⊢;simp only[ey,R.map,uT k4 (show dB [93]≠0 by decide),ja,wJ,Φ]
 |_::_::_::_,_,h3,_,_=>simp at h3
def ke(l:List (List (List Nat))):List (List Nat):=match l with
 |[]=>[]
 |w::l=>[[44]]++(w++ke l)
def iD:List (List (List Nat))->List (List Nat)
 |[]=>[]
 |w::l=>w++ke l
theorem ajR(l:List (List (List Nat))):l.length<=(ke l).length:=by
 induction l with
 |nil=>simp
 |cons w l ih=>simp only[ke,cD,cE,eI];omega
theorem XV{l:List (List (List Nat))}{w:List (List Nat)}(h:w∈l):w.length<=(ke l).length:=by
 induction l with
 |nil=>cases h
 |cons v l ih=>
  simp only[ke,cD,cE,eI]
  rcases cw.1 h with rfl|h
  ·omega
  ·have:=ih h;omega
theorem aac{l:List (List (List Nat))}{w:List (List Nat)}(h:w∈l):w.length<=(iD l).length:=by
 cases l with
 |nil=>cases h
 |cons v l=>
  simp only[iD,cD]
  rcases cw.1 h with rfl|h
  ·omega
  ·have:=XV h;omega
section
variable{e:Nat}{α:Type}{item:PS->R α}{W:α->List (List Nat)}{S:List (List Nat)}(hS:[44]∉S)
include hS
theorem Jz{l:List α}{ts rest:List Tok}(h:TS (ke (l.map W)) ts)(hr:lK rest∉[44]::S):lK (ts++rest)∉S:=by
 cases l with
 |nil=>rw[h.nil];exact fun h=>hr (List.mem_cons_of_mem _ h)
 |cons y l=>exact sO (ws:=W y++ke (l.map W)) h hS
theorem Xq:∀(l:List α),(∀y∈l,aQ item (W y) (fun _ x=>x=y) S)->∀(n:Nat) (l0:List α),l.length<n->aQ (cd (fun s=>s.aZ [44]) (fun l s=>(aD e [44] s).bind fun _ s=>(item s).map fun y=>l++[y]) n l0) (ke (l.map W)) (fun _ y=>y=l0++l) ([44]::S)
 |[],_,n,l0,hn=>by
  intro a ts rest ht hr;obtain rfl:=ht.nil;obtain⟨n,rfl⟩:∃j,n=j+1:=⟨n-1,by simp at hn;omega⟩;have hb:(⟨a,rest⟩:PS).aZ [44]=false:=by have:lK rest≠[44]:=fun h=>hr (by rw[h];exact List.mem_cons_self);simpa[PS.aZ,vr]using this
  exact⟨l0++[],rfl,by rw[bG,Bp hb];simp[ja]⟩
 |y::l,h,n,l0,hn=>by
  obtain⟨n,rfl⟩:∃j,n=j+1:=⟨n-1,by simp at hn;omega⟩;have ih:=Xq l (fun z hz=>h z (by simp[hz])) n (l0++[y]) (by simpa using hn);have:aQ (fun s=>((aD e [44] s).bind fun _ s=>(item s).map fun y=>l0++[y]).bind (cd (fun s=>s.aZ [44]) (fun l s=>(aD e [44] s).bind fun _ s=>(item s).map fun y=>l++[y]) n)) (([[44]]++W y)++ke (l.map W)) (fun _ y'=>y'=l0++(y::l)) ([44]::S):=by refine aQ.bind (s1:=S) (Q1:=fun _ x=>x=l0++[y]) (aQ.bind (iB e (by decide)) (fun _ _ _ _=>by simp) fun _ _ _ _=>aQ.map (h y (by simp)) fun _ x _ hx=>by rw[hx]) (fun t2 rest ht hr=>Jz hS ht hr) fun t1 x _ hx=>?_;subst hx;exact ih.weaken (fun _ h=>h) fun _ x _ hx=>by rw[hx];simp
  rw[bH]at this;refine aQ.yes (w:=[44]) (ws:=W y++ke (l.map W)) this fun s hs=>?_;have hb:s.aZ [44]=true:=by rw[yk hs];rfl
  exact vW hb
theorem Xp(TD:[41]∉S)(l:List α)(h:∀y∈l,aQ item (W y) (fun _ x=>x=y) S)(hW:∀y∈l,∃w ws,W y=w::ws/\w≠[41]):aQ (nk e item) (iD (l.map W)++[[41]]) (fun _ x=>x=l) []:=by
 cases l with
 |nil=>
  refine aQ.yes (P:=fun s=>(aD e [41] s).map fun _=>[]) (ws:=[]) (aQ.map (iB e (by decide)) fun _ _ _ _=>rfl) fun s hs=>?_
  have hb:s.aZ [41]=true:=by rw[yk hs];rfl
  simp only[nk,hb,if_true]
 |cons y l=>
  obtain⟨w,ws,hw,τ⟩:=hW y (by simp)
  have:aQ (fun s=>(item s).bind fun x s=>(cd (fun s=>s.aZ [44]) (fun l s=>(aD e [44] s).bind fun _ s=>(item s).map fun y=>l++[y]) (s.l.length+1) [x] s).bind fun l s=>(aD e [41] s).map fun _=>l) (W y++(ke (l.map W)++[[41]])) (fun _ x=>x=y::l) []:=by
   refine aQ.bind (h y (by simp)) (fun t2 rest ht hr=>?_) fun t1 x _ hx=>?_
   ·obtain⟨t3,t4,rfl,g1,g2⟩:=ht.split;rw[bH];exact Jz hS g1 (sO (ws:=[]) g2 (by simp only[cw,not_or];exact⟨by decide,TD⟩))
   ·subst hx;refine aQ.bind (P:=fun s=>cd (fun s=>s.aZ [44]) (fun l s=>(aD e [44] s).bind fun _ s=>(item s).map fun y=>l++[y]) (s.l.length+1) [x] s) (Q1:=fun _ z=>z=x::l) (s1:=[44]::S) ?_ (fun t2 rest ht hr=>sO (ws:=[]) ht (by simp only[cw,not_or];exact⟨by decide,TD⟩)) fun _ z _ hz=>aQ.map (iB e (by decide)) fun _ _ _ _=>hz;intro a ts rest ht hr;have hl:l.length<=ts.length:=by rw[ht.len];have:=ajR (l.map W);rw[List.length_map]at this;exact this
    exact Xq hS l (fun z hz=>h z (by simp[hz])) ((ts++rest).length+1) [x] (by simp;omega) a ts rest ht hr
  have e1:iD ((y::l).map W)++[[41]]=W y++(ke (l.map W)++[[41]]):=by simp[iD]
  rw[e1];rw[hw,cy]at this⊢;refine aQ.yes this fun s hs=>?_;have hb:s.aZ [41]=false:=by rw[yk hs];simpa using τ
  simp only[nk,hb];rfl
end
theorem ahL{p:ρ}(hp:p.Can):∃w ws,p.words=w::ws/\dB w=1:=by
 obtain⟨nm,c,ix⟩:=p;have:=(OJ hp.nm).1
 match ix with
 |[]=>exact⟨nm,[],rfl,this⟩
 |[a]=>exact⟨nm,_,rfl,this⟩
 |a::b::l=>exact⟨nm,_,rfl,this⟩
theorem Xr{e k:Nat}:∀(l:List ρ),(∀p∈l,p.Can)->(∀p∈l,p.words.length<k)->∀l0,aQ (me e (gQ e (au e k)) l.length l0) (ke (l.map ρ.words)) (fun _ y=>y=l0++l) [[44],[91]]
 |[],_,_,l0=>by intro a ts rest ht hr;obtain rfl:=ht.nil;exact⟨l0++[],rfl,by simp[me,ja]⟩
 |p::l,h,hk,l0=>by refine aQ.bind (iB e (by decide)) (fun _ _ _ _=>by simp) fun _ _ _ _=>?_;refine aQ.bind (Ev (h p (by simp)) (hk p (by simp))) (fun t2 rest ht hr=>Jz (by decide) ht hr) fun _ x _ hx=>?_;subst hx;exact(Xr l (fun q hq=>h q (by simp[hq])) (fun q hq=>hk q (by simp[hq])) (l0++[x])).weaken (fun _ h=>h) fun _ y _ hy=>by rw[hy];simp
theorem Xs{e k:Nat}{nm:List Nat}{x:η}(hn:c_ nm=true)(hx:x.Can)(hk:x.words.length<k):aQ (sn e (au e k)) ([nm]++([[91]]++(x.words++[[93]]))) (fun _ y=>y=(nm,x)) []:=by refine aQ.bind (tA e hn) (fun _ _ _ _=>by simp) fun _ n _ h1=>?_;refine aQ.bind (iB e (by decide)) (fun _ _ _ _=>by simp) fun _ _ _ _=>?_;refine aQ.bind (BA hx hk) (fun t3 rest h _=>sO (ws:=[]) h (by decide)) fun _ y _ h2=>?_;exact aQ.map (iB e (by decide)) fun _ _ _ _=>by rw[h1,h2]
def fH(k g:Int)(nm:List Nat)(pl:List ρ)(size to:η):List (List Nat):=
 if k=1 then[fq.getD (g-1).toNat []]++iD (pl.map ρ.words)
 else if k=2 then[[116,97,107,101]]++([nm]++([[91]]++(size.words++[[93]])))
 else if k=3 then[[100,114,111,112]]++[nm]
 else if k=4 then[[98,111,114,114,111,119]]++([nm]++([[91]]++(size.words++[[93]])))
 else if k=5 then[[109,101,97,115,117,114,101]]++(iD (pl.map ρ.words)++([[58]]++[nm]))
 else if k=6 then[[114,101,115,101,116]]++iD (pl.map ρ.words)
 else if k=7 then[[105,102]]++[nm]
 else if k=8 then[[102,111,114]]++([nm]++([[61]]++(size.words++([[58]]++to.words))))
 else if k=9 then[nm]++([[40]]++(iD (pl.map ρ.words)++[[41]]))
 else if k=10 then[[117,110,100,111]]
 else[[119,105,116,104,105,110]]
mutual
def kg:List δ->List (List Nat)
 |[]=>[]
 |s::l=>s.words++kg l
def δ.words:δ->List (List Nat)
 | .mk k g nm _ pl size to _ body _ els=>fH k g nm pl size to++
   (if aS k=false then[[59]]
    else[[123]]++(kg body++([[125]]++
    (if bh k=true/\¬(k=7/\els.length=0)then[mU k]++([[123]]++(kg els++[[125]]))else[]))))
end
mutual
inductive δ.Can:δ->Prop
 |gate {g:Int} {pl:List ρ} (h1:1<=g) (h2:g<=12) (h3:pl.length=fL g) (h4:∀p∈pl,p.Can):δ.Can (.mk 1 g [] .any pl z0 z0 .nil [] .nil [])
 |take {nm:List Nat} {x:η} (h1:c_ nm=true) (h2:x.Can):δ.Can (.mk 2 0 nm .nil [] x z0 .nil [] .nil [])
 |drop {nm:List Nat} (h1:c_ nm=true):δ.Can (.mk 3 0 nm .nil [] z0 z0 .nil [] .nil [])
 |borrow {nm:List Nat} {x:η} {b:List δ} (h1:c_ nm=true) (h2:x.Can) (h3:δ.jR b):δ.Can (.mk 4 0 nm .nil [] x z0 (Φ b) b .nil [])
 |measure {nm:List Nat} {p:ρ} (h1:c_ nm=true) (h2:p.Can):δ.Can (.mk 5 0 nm .any [p] z0 z0 .nil [] .nil [])
 |reset {p:ρ} (h2:p.Can):δ.Can (.mk 6 0 [] .any [p] z0 z0 .nil [] .nil [])
 |cond {nm:List Nat} {b d:List δ} (h1:c_ nm=true) (h3:δ.jR b) (h4:δ.jR d):δ.Can (.mk 7 0 nm .nil [] z0 z0 (Φ b) b (Φ d) d)
 |loop {nm:List Nat} {x y:η} {b:List δ} (h1:c_ nm=true) (h2:x.Can) (lX:y.Can) (h3:δ.jR b):δ.Can (.mk 8 0 nm .nil [] x y (Φ b) b .nil [])
 |call {nm:List Nat} {pl:List ρ} (h1:c_ nm=true) (h4:∀p∈pl,p.Can):δ.Can (.mk 9 0 nm (Φ pl) pl z0 z0 .nil [] .nil [])
 |qa {b:List δ} (h3:δ.jR b):δ.Can (.mk 10 0 [] .nil [] z0 z0 (Φ b) b .nil [])
 |within {b d:List δ} (h3:δ.jR b) (h4:δ.jR d):δ.Can (.mk 11 0 [] .nil [] z0 z0 (Φ b) b (Φ d) d)
inductive δ.jR:List δ->Prop
 |nil:δ.jR []
 |cons {s:δ} {l:List δ} (h1:δ.Can s) (h2:δ.jR l):δ.jR (s::l)
end
theorem CV{g:Int}(h1:1<=g)(h2:g<=12):gW (fq.getD (g-1).toNat [])=g.toNat/\dB (fq.getD (g-1).toNat [])=1/\1<=fL g∧
  fq.getD (g-1).toNat []∉[[98,111,114,114,111,119],[105,102],[102,111,114],[117,110,100,111],[119,105,116,104,105,110],[125],[101,108,115,101]]:=by
 have:g=1\/g=2\/g=3\/g=4\/g=5\/g=6\/g=7\/g=8\/g=9\/g=10\/g=11\/g=12:=by omega
 rcases this with rfl|rfl|rfl|rfl|rfl|rfl|rfl|rfl|rfl|rfl|rfl|rfl<;>decide
theorem IW{w:List Nat}(h:c_ w=true):gW w=0/\w∉[[98,111,114,114,111,119],[105,102],[102,111,114],[117,110,100,111],[119,105,116,104,105,110],[125],[101,108,115,101],[116,97,107,101],[100,114,111,112],[109,101,97,115,117,114,101],[114,101,115,101,116],[41]]:=by
 constructor
 ·simp only[c_,dW,zZ]at h;have hg:=h.1.2;rw[gW];cases hf:fq.findIdx? fun x=>x==w with
  |none=>rfl
  |some i=>
   obtain⟨hi,hp,-⟩:=List.findIdx?_eq_some_iff_getElem.1 hf
   have:w∈fq:=by rw[<-show fq[i]=w by simpa using hp];exact List.getElem_mem hi
   rw[xW.2 this]at hg;cases hg
 ·intro hm;simp only[cw,lF,or_false]at hm;rcases hm with rfl|rfl|rfl|rfl|rfl|rfl|rfl|rfl|rfl|rfl|rfl|rfl<;>revert h<;>decide
theorem PR{s:δ}(h:s.Can):∃w ws,s.words=w::ws/\w∉[[125],[101,108,115,101]]:=by
 cases h with
 |gate h1 h2 h3 h4=>
  obtain⟨-,-,-,h⟩:=CV h1 h2
  refine⟨_,_,rfl,?_⟩;simp only[cw,lF,or_false,not_or]at h⊢;exact⟨h.2.2.2.2.2.1,h.2.2.2.2.2.2⟩
 |call h1 h4=>
  obtain⟨-,h⟩:=IW h1
  refine⟨_,_,rfl,?_⟩;simp only[cw,lF,or_false,not_or]at h⊢;exact⟨h.2.2.2.2.2.1,h.2.2.2.2.2.2.1⟩
 |_=>exact⟨_,_,rfl,by decide⟩
theorem Dc{k g:Int}{nm:List Nat}{cp:ξ}{pl:List ρ}{size to:η}{cb ce:ξ}{b d:List δ}:(fH k g nm pl size to).length<(δ.mk k g nm cp pl size to cb b ce d).words.length:=by simp only[δ.words,cD];split<;>simp
section
variable{e K:Nat}
theorem ahM{pl:List ρ}(h4:∀p∈pl,p.Can)(hk:(iD (pl.map ρ.words)).length<K):∀p∈pl,aQ (gQ e (au e K)) p.words (fun _ y=>y=p) [[91]]:=
 fun p hp=>Ev (h4 p hp) (Nat.lt_of_le_of_lt (aac (eT.2 ⟨p,hp,rfl⟩)) hk)
theorem aiA{s:δ}(h:s.Can)(hb:aS s.kind=false)(hk:s.words.length<=K):aQ (wc e (au e K)) s.words (fun _ y=>y=s) []:=by
 have BF:∀{s:δ} {ws:List (List Nat)},aQ (kT e (au e K)) ws (fun _ y=>y=s) [[91],[44]]->aQ (wc e (au e K)) (ws++[[59]]) (fun _ y=>y=s) []:=fun h=>aQ.bind h (fun t2 rest ht _=>sO (ws:=[]) ht (by decide)) fun _ x _ hx=>aQ.map (iB e (by decide)) fun _ _ _ _=>hx;cases h with
 |@gate g pl h1 h2 h3 h4=>
  obtain⟨f1,f2,f3,f4⟩:=CV h1 h2
  have fb:=kj Dc hk
  match pl,h3,h4,fb with
  |[],h3,_,_=>simp at h3;omega
  |p::pl,h3,h4,fb=>
   have e1:fH 1 g [] (p::pl) z0 z0=[fq.getD (g-1).toNat []]++(p.words++ke (pl.map ρ.words)):=rfl
   rw[e1]at fb;simp only[cD,cE,eI]at fb;refine BF (s:= .mk 1 g [] .any (p::pl) z0 z0 .nil [] .nil []) ?_;rw[e1];generalize hw:fq.getD (g-1).toNat []=w at*;have HJ:(g.toNat:Int)=g:=by omega
   refine aQ.yes (w:=w) (ws:=p.words++ke (pl.map ρ.words)) (P:=fun s=>(aD e w s).bind fun _ s=>(gQ e (au e K) s).bind fun p s=>(me e (gQ e (au e K)) (fL (gW w)-1) [p] s).map fun l=> .mk 1 (gW w) [] .any l z0 z0 .nil [] .nil []) ?_ fun s hs=>?_
   ·refine aQ.bind (iB e (by rw[f2];decide)) (fun _ _ _ _=>by simp) fun _ _ _ _=>?_;refine aQ.bind (Ev (h4 p (by simp)) (by omega)) (fun t2 rest ht hr=>Jz (S:=[[91]]) (by decide) ht (by simpa[or_comm]using hr)) fun _ x _ hx=>?_;subst hx;have hlen:fL (gW w)-1=pl.length:=by rw[f1,HJ,<-h3];simp
    rw[hlen,f1,HJ];refine aQ.map ((Xr pl (fun q hq=>h4 q (by simp[hq])) (fun q hq=>by have:=XV (eT.2 ⟨q,hq,rfl⟩:q.words∈pl.map ρ.words);omega) [x]).weaken (fun y hy=>by simpa[or_comm]using hy) fun _ _ _ h=>h) fun _ y _ hy=>by rw[hy];rfl
   ·have:0<gW w:=by rw[f1];omega
    simp only[kT,hs,this,if_true]
 |@take nm x h1 h2=>
  have fb:=kj Dc hk
  refine BF (s:= .mk 2 0 nm .nil [] x z0 .nil [] .nil []) ?_;have e1:fH 2 0 nm [] x z0=[[116,97,107,101]]++([nm]++([[91]]++(x.words++[[93]]))):=rfl;rw[e1]at fb⊢;simp only[cD,cE,eI]at fb;refine aQ.yes (P:=fun s=>(aD e [116,97,107,101] s).bind fun _ s=>(sn e (au e K) s).map fun x=> .mk 2 0 x.1 .nil [] x.2 z0 .nil [] .nil []) (ws:=[nm]++([[91]]++(x.words++[[93]]))) ?_ fun s hs=>by simp only[kT,hs];rfl
  refine aQ.bind (iB e (by decide)) (fun _ _ _ _=>by simp) fun _ _ _ _=>?_;exact aQ.map ((Xs h1 h2 (by omega)).weaken (by simp) fun _ _ _ h=>h) fun _ y _ hy=>by rw[hy]
 |@drop nm h1=>
  refine BF (s:= .mk 3 0 nm .nil [] z0 z0 .nil [] .nil []) ?_
  refine aQ.yes (P:=fun s=>(aD e [100,114,111,112] s).bind fun _ s=>(gH e s).map fun n=> .mk 3 0 n .nil [] z0 z0 .nil [] .nil []) (w:=[100,114,111,112]) (ws:=[nm]) ?_ fun s hs=>by simp only[kT,hs];rfl
  refine aQ.bind (w1:=[[100,114,111,112]]) (iB e (by decide)) (fun _ _ _ _=>by simp) fun _ _ _ _=>?_;exact aQ.map ((tA e h1).weaken (by simp) fun _ _ _ h=>h) fun _ y _ hy=>by rw[hy]
 |@measure nm p h1 h2=>
  have fb:=kj Dc hk
  refine BF (s:= .mk 5 0 nm .any [p] z0 z0 .nil [] .nil []) ?_;have e1:fH 5 0 nm [p] z0 z0=[[109,101,97,115,117,114,101]]++(p.words++([[58]]++[nm])):=by simp[fH,iD,ke]
  rw[e1]at fb⊢;simp only[cD,cE,eI]at fb;refine aQ.yes (P:=fun s=>(aD e [109,101,97,115,117,114,101] s).bind fun _ s=>(gQ e (au e K) s).bind fun p s=>(aD e [58] s).bind fun _ s=>(gH e s).map fun n=> .mk 5 0 n .any [p] z0 z0 .nil [] .nil []) (ws:=p.words++([[58]]++[nm])) ?_ fun s hs=>by simp only[kT,hs];rfl
  refine aQ.bind (iB e (by decide)) (fun _ _ _ _=>by simp) fun _ _ _ _=>?_;refine aQ.bind (Ev h2 (by omega)) (fun t2 rest ht _=>sO (ws:=[nm]) ht (by decide)) fun _ x _ hx=>?_;refine aQ.bind (iB e (by decide)) (fun _ _ _ _=>by simp) fun _ _ _ _=>?_;exact aQ.map ((tA e h1).weaken (by simp) fun _ _ _ h=>h) fun _ y _ hy=>by rw[hy,hx]
 |@reset p h2=>
  have fb:=kj Dc hk
  refine BF (s:= .mk 6 0 [] .any [p] z0 z0 .nil [] .nil []) ?_;have e1:fH 6 0 [] [p] z0 z0=[[114,101,115,101,116]]++p.words:=by simp[fH,iD,ke]
  rw[e1]at fb⊢;simp only[cD,cE,eI]at fb;refine aQ.yes (P:=fun s=>(aD e [114,101,115,101,116] s).bind fun _ s=>(gQ e (au e K) s).map fun p=> .mk 6 0 [] .any [p] z0 z0 .nil [] .nil []) (ws:=p.words) ?_ fun s hs=>by simp only[kT,hs];rfl
  refine aQ.bind (iB e (by decide)) (fun _ _ _ _=>by simp) fun _ _ _ _=>?_;exact aQ.map ((Ev h2 (by omega)).weaken (fun x hx=>by rw[fK.1 hx];simp) fun _ _ _ h=>h) fun _ y _ hy=>by rw[hy]
 |@call nm pl h1 h4=>
  have fb:=kj Dc hk
  obtain⟨g1,g2⟩:=IW h1;simp only[cw,lF,or_false,not_or]at g2;refine BF (s:= .mk 9 0 nm (Φ pl) pl z0 z0 .nil [] .nil []) ?_;have e1:fH 9 0 nm pl z0 z0=[nm]++([[40]]++(iD (pl.map ρ.words)++[[41]])):=rfl;rw[e1]at fb⊢;simp only[cD,cE,eI]at fb;refine aQ.yes (P:=fun s=>(gH e s).bind fun n s=>(aD e [40] s).bind fun _ s=>(nk e (gQ e (au e K)) s).map fun l=> .mk 9 0 n (Φ l) l z0 z0 .nil [] .nil []) (ws:=[[40]]++(iD (pl.map ρ.words)++[[41]])) ?_ fun s hs=>by
   have n0:¬(0<gW nm):=by omega
   simp only[kT,hs,n0,g2.2.2.2.2.2.2.2.1,g2.2.2.2.2.2.2.2.2.1,g2.2.2.2.2.2.2.2.2.2.1,g2.2.2.2.2.2.2.2.2.2.2.1,if_false]
  refine aQ.bind (tA e h1) (fun _ _ _ _=>by simp) fun _ n _ hn=>?_;refine aQ.bind (iB e (by decide)) (fun _ _ _ _=>by simp) fun _ _ _ _=>?_;refine aQ.map ((Xp (S:=[[91]]) (by decide) (by decide) pl (ahM h4 (by omega)) fun p hp=>?_).weaken (by simp) fun _ _ _ h=>h) fun _ y _ hy=>by rw[hy,hn]
  obtain⟨w,ws,h5,h6⟩:=ahL (h4 p hp);exact⟨w,ws,h5,fun h=>by rw[h]at h6;revert h6;decide⟩
 |borrow|cond|loop|qa|within=>simp[δ.kind,aS]at hb
end
def Ki:List Tok->Nat
 |[]=>0
 |t::_=>t.at_
mutual
inductive sw:δ->List Tok->List (List Sp)->Prop
 |none {s:δ} {ts:List Tok} (h:aS s.kind=false):sw s ts []
 |one {s:δ} {t1 tb:List Tok} {o c:Tok} {sb:List Sp} (h:bh s.kind=false\/s.els=[]) (h1:u4 s.body tb sb):sw s (t1++o::(tb++[c])) [sb]
 |two {s:δ} {t1 tb te:List Tok} {o c m o' c':Tok} {sb se:List Sp} (h:bh s.kind=true) (h1:u4 s.body tb sb) (h2:u4 s.els te se):sw s (t1++o::(tb++c::m::o'::(te++[c']))) [sb,se]
inductive u4:List δ->List Tok->List Sp->Prop
 |nil:u4 [] [] []
 |cons {s:δ} {l:List δ} {ts zS:List Tok} {ins:List (List Sp)} {lC:List Sp} (h0:TS s.words ts) (h1:sw s ts ins) (h2:u4 l zS lC):u4 (s::l) (ts++zS) (.mk (Ki ts) (ja 0 ts) ins::lC)
end
def bW(l:List δ):List (List Nat):=[[123]]++(kg l++[[125]])
def EW(l:List δ)(ts:List Tok)(x:List δ×List Sp):Prop:=x.1=l/\∃o tb c,ts=o::(tb++[c])/\u4 l tb x.2
theorem Zb:mU 7=[101,108,115,101]:=rfl
theorem Za:mU 11=[97,112,112,108,121]:=rfl
section
variable{e K:Nat}{blk:PS->R (List δ×List Sp)}{N:Nat}(IH:∀l:List δ,δ.jR l->(bW l).length<=N->aQ blk (bW l) (EW l) [])
include IH
theorem aiB{s:δ}(h:s.Can)(hk:s.words.length<=K)(hN:s.words.length<=N):aQ (g_ e (au e K) blk) s.words (fun ts x=>x.1=s/\sw s ts x.2) [[101,108,115,101]]:=by
 have simple:∀{s:δ} (h:s.Can) (hk:s.words.length<=K) (hb:aS s.kind=false) {w:List Nat} {ws:List (List Nat)} (hw:s.words=w::ws) (hh:w∉[[98,111,114,114,111,119],[105,102],[102,111,114],[117,110,100,111],[119,105,116,104,105,110]]),aQ (g_ e (au e K) blk) s.words (fun ts x=>x.1=s/\sw s ts x.2) [[101,108,115,101]]:=by intro s h hk hb w ws hw hh;have:=aQ.map (f:=fun x=>(x,([]:List (List Sp)))) (Q2:=fun ts x=>x.1=s/\sw s ts x.2) (aiA (e:=e) h hb hk) fun _ y _ hy=>⟨hy,.none hb⟩;have:=this.weaken (s2:=[[101,108,115,101]]) (by simp) fun _ _ _ h=>h;rw[hw]at this⊢;simp only[cw,lF,or_false,not_or]at hh;refine aQ.yes this fun s hs=>?_;simp only[g_,hs,hh.1,hh.2.1,hh.2.2.1,hh.2.2.2.1,hh.2.2.2.2,if_false]
 have fb:=h;cases h with
 |@gate g pl h1 h2 h3 h4=>
  obtain⟨-,-,-,f⟩:=CV h1 h2
  exact simple fb hk rfl rfl (by simp only[cw,lF,or_false,not_or]at f⊢;exact⟨f.1,f.2.1,f.2.2.1,f.2.2.2.1,f.2.2.2.2.1⟩)
 |take h1 h2=>exact simple fb hk rfl rfl (by decide)
 |drop h1=>exact simple fb hk rfl rfl (by decide)
 |measure h1 h2=>exact simple fb hk rfl rfl (by decide)
 |reset h2=>exact simple fb hk rfl rfl (by decide)
 |@call nm pl h1 h4=>
  obtain⟨-,f⟩:=IW h1
  exact simple fb hk rfl rfl (by simp only[cw,lF,or_false,not_or]at f⊢;exact⟨f.1,f.2.1,f.2.2.1,f.2.2.2.1,f.2.2.2.2.1⟩)
 |@borrow nm x b h1 h2 h3=>
  have e1:(δ.mk 4 0 nm .nil [] x z0 (Φ b) b .nil []).words=[[98,111,114,114,111,119]]++(([nm]++([[91]]++(x.words++[[93]])))++bW b):=by simp[δ.words,fH,aS,bh,bW]
  rw[e1]at hk hN⊢;simp only[cD,cE,eI]at hk hN;refine aQ.yes (P:=fun s=>(aD e [98,111,114,114,111,119] s).bind fun _ s=>(sn e (au e K) s).bind fun x s=>(blk s).map fun b=>(.mk 4 0 x.1 .nil [] x.2 z0 (Φ b.1) b.1 .nil [],[b.2])) (ws:=([nm]++([[91]]++(x.words++[[93]])))++bW b) ?_ fun s hs=>by simp only[g_,hs];rfl
  refine aQ.bind (iB e (by decide)) (fun _ _ _ _=>by simp) fun t1 _ _ _=>?_;refine aQ.bind (Xs h1 h2 (by omega)) (fun _ _ _ _=>by simp) fun t2 y _ hy=>?_;refine aQ.map ((IH b h3 (by omega)).weaken (by simp) fun _ _ _ h=>h) fun t3 z _ hz=>?_;obtain⟨fT,o,tb,cc,rfl,gh⟩:=hz;subst hy;refine⟨by simp[fT],?_⟩;rw[<-bH];exact .one (.inl rfl) gh
 |@qa b h3=>
  have e1:(δ.mk 10 0 [] .nil [] z0 z0 (Φ b) b .nil []).words=[[117,110,100,111]]++bW b:=by simp[δ.words,fH,aS,bh,bW]
  rw[e1]at hk hN⊢;simp only[cD,cE,eI]at hk hN;refine aQ.yes (P:=fun s=>(aD e [117,110,100,111] s).bind fun _ s=>(blk s).map fun b=>(.mk 10 0 [] .nil [] z0 z0 (Φ b.1) b.1 .nil [],[b.2])) (ws:=bW b) ?_ fun s hs=>by simp only[g_,hs];rfl
  refine aQ.bind (iB e (by decide)) (fun _ _ _ _=>by simp) fun t1 _ _ _=>?_;refine aQ.map ((IH b h3 (by omega)).weaken (by simp) fun _ _ _ h=>h) fun t3 z _ hz=>?_;obtain⟨fT,o,tb,cc,rfl,gh⟩:=hz;exact⟨by simp[fT],.one (.inl rfl) gh⟩
 |@loop nm x y b h1 h2 lX h3=>
  have e1:(δ.mk 8 0 nm .nil [] x y (Φ b) b .nil []).words=[[102,111,114]]++([nm]++([[61]]++(x.words++([[58]]++(y.words++bW b))))):=by simp[δ.words,fH,aS,bh,bW]
  rw[e1]at hk hN⊢;simp only[cD,cE,eI]at hk hN;refine aQ.yes (P:=fun s=>(aD e [102,111,114] s).bind fun _ s=>(gH e s).bind fun n s=>(aD e [61] s).bind fun _ s=>(au e K s).bind fun x s=>(aD e [58] s).bind fun _ s=>(au e K s).bind fun y s=>(blk s).map fun b=>(.mk 8 0 n .nil [] x y (Φ b.1) b.1 .nil [],[b.2])) (ws:=[nm]++([[61]]++(x.words++([[58]]++(y.words++bW b))))) ?_ fun s hs=>by simp only[g_,hs];rfl
  refine aQ.bind (iB e (by decide)) (fun _ _ _ _=>by simp) fun t1 _ _ _=>?_;refine aQ.bind (tA e h1) (fun _ _ _ _=>by simp) fun t2 n _ hn=>?_;refine aQ.bind (iB e (by decide)) (fun _ _ _ _=>by simp) fun t3 _ _ _=>?_;refine aQ.bind (BA h2 (by omega)) (fun t rest ht _=>sO (ws:=y.words++bW b) ht (by decide)) fun t4 x' _ hx=>?_;refine aQ.bind (iB e (by decide)) (fun _ _ _ _=>by simp) fun t5 _ _ _=>?_;refine aQ.bind (BA lX (by omega)) (fun t rest ht _=>sO (ws:=kg b++[[125]]) ht (by decide)) fun t6 y' _ hy=>?_;refine aQ.map ((IH b h3 (by omega)).weaken (by simp) fun _ _ _ h=>h) fun t7 z _ hz=>?_;obtain⟨fT,o,tb,cc,rfl,gh⟩:=hz;subst hn hx hy;refine⟨by simp[fT],?_⟩;have:=sw.one (s:= .mk 8 0 n .nil [] x' y' (Φ b) b .nil []) (t1:=t1++(t2++(t3++(t4++(t5++t6))))) (o:=o) (c:=cc) (.inl rfl) gh;simpa only[bH]using this
 |@within b d h3 h4=>
  have e1:(δ.mk 11 0 [] .nil [] z0 z0 (Φ b) b (Φ d) d).words=[[119,105,116,104,105,110]]++(bW b++([[97,112,112,108,121]]++bW d)):=by simp[δ.words,fH,aS,bh,bW,Za]
  rw[e1]at hk hN⊢;simp only[cD,cE,eI]at hk hN;refine aQ.yes (P:=fun s=>(aD e [119,105,116,104,105,110] s).bind fun _ s=>(blk s).bind fun b s=>(aD e [97,112,112,108,121] s).bind fun _ s=>(blk s).map fun d=>(.mk 11 0 [] .nil [] z0 z0 (Φ b.1) b.1 (Φ d.1) d.1,[b.2,d.2])) (ws:=bW b++([[97,112,112,108,121]]++bW d)) ?_ fun s hs=>by simp only[g_,hs];rfl
  refine aQ.bind (iB e (by decide)) (fun _ _ _ _=>by simp) fun t1 _ _ _=>?_;refine aQ.bind (IH b h3 (by omega)) (fun _ _ _ _=>by simp) fun t2 z _ hz=>?_;refine aQ.bind (iB e (by decide)) (fun _ _ _ _=>by simp) fun t3 _ pU _=>?_;refine aQ.map ((IH d h4 (by omega)).weaken (by simp) fun _ _ _ h=>h) fun t4 z' _ rU=>?_;obtain⟨fT,o,tb,cc,rfl,gh⟩:=hz;obtain⟨N8,o',tb',KP,rfl,N_⟩:=rU;obtain⟨m,rfl,-⟩:=pU.one;refine⟨by simp[fT,N8],?_⟩;have:=sw.two (s:= .mk 11 0 [] .nil [] z0 z0 (Φ b) b (Φ d) d) (t1:=t1) (o:=o) (c:=cc) (m:=m) (o':=o') (c':=KP) rfl gh N_;simpa only[bH,cy,bG]using this
 |@cond nm b d h1 h3 h4=>
  by_cases hd:d=[]
  ·subst hd;have e1:(δ.mk 7 0 nm .nil [] z0 z0 (Φ b) b (Φ ([]:List δ)) []).words=[[105,102]]++([nm]++bW b):=by simp[δ.words,fH,aS,bh,bW]
   rw[e1]at hk hN⊢;simp only[cD,cE,eI]at hk hN;refine aQ.yes (P:=fun s=>(aD e [105,102] s).bind fun _ s=>(gH e s).bind fun n s=>(blk s).bind fun b s=>
    if s.aZ [101,108,115,101]then(aD e [101,108,115,101] s).bind fun _ s=>(blk s).map fun d=>(.mk 7 0 n .nil [] z0 z0 (Φ b.1) b.1 (Φ d.1) d.1,[b.2,d.2])
    else .ok (.mk 7 0 n .nil [] z0 z0 (Φ b.1) b.1 .nil [],[b.2]) s) (ws:=[nm]++bW b) ?_ fun s hs=>by simp only[g_,hs];rfl
   refine aQ.bind (iB e (by decide)) (fun _ _ _ _=>by simp) fun t1 _ _ _=>?_;refine aQ.bind (tA e h1) (fun _ _ _ _=>by simp) fun t2 n _ hn=>?_;intro a ts rest ht hr;obtain⟨z,⟨fT,o,tb,cc,rfl,gh⟩,ez⟩:=IH b h3 (by omega) a ts rest ht (by simp);have hb:(⟨ja a (o::(tb++[cc])),rest⟩:PS).aZ [101,108,115,101]=false:=by
    have:lK rest≠[101,108,115,101]:=by simpa using hr
    simpa[PS.aZ,vr]using this
   subst hn;refine⟨_,⟨?_,?_⟩,by simp only[ez,R.bind,hb];rfl⟩
   ·rw[fT];rfl
   ·have:=sw.one (s:= .mk 7 0 n .nil [] z0 z0 (Φ b) b (Φ ([]:List δ)) []) (t1:=t1++t2) (o:=o) (c:=cc) (.inr rfl) gh;simpa only[bH]using this
  ·have hdl:¬d.length=0:=fun h=>hd (List.eq_nil_of_length_eq_zero h);have e1:(δ.mk 7 0 nm .nil [] z0 z0 (Φ b) b (Φ d) d).words=[[105,102]]++([nm]++(bW b++([[101,108,115,101]]++bW d))):=by simp[δ.words,fH,aS,bh,bW,Zb,hd]
   rw[e1]at hk hN⊢;simp only[cD,cE,eI]at hk hN;refine aQ.yes (P:=fun s=>(aD e [105,102] s).bind fun _ s=>(gH e s).bind fun n s=>(blk s).bind fun b s=>
    if s.aZ [101,108,115,101]then(aD e [101,108,115,101] s).bind fun _ s=>(blk s).map fun d=>(.mk 7 0 n .nil [] z0 z0 (Φ b.1) b.1 (Φ d.1) d.1,[b.2,d.2])
    else .ok (.mk 7 0 n .nil [] z0 z0 (Φ b.1) b.1 .nil [],[b.2]) s) (ws:=[nm]++(bW b++([[101,108,115,101]]++bW d))) ?_ fun s hs=>by simp only[g_,hs];rfl
   refine aQ.bind (iB e (by decide)) (fun _ _ _ _=>by simp) fun t1 _ _ _=>?_;refine aQ.bind (tA e h1) (fun _ _ _ _=>by simp) fun t2 n _ hn=>?_;refine aQ.bind (IH b h3 (by omega)) (fun _ _ _ _=>by simp) fun t3 z _ hz=>?_;refine aQ.yes (P:=fun s=>(aD e [101,108,115,101] s).bind fun _ s=>(blk s).map fun d=>(.mk 7 0 n .nil [] z0 z0 (Φ z.1) z.1 (Φ d.1) d.1,[z.2,d.2])) (w:=[101,108,115,101]) (ws:=bW d) ?_ fun s hs=>by simp only[yk hs];rfl
   refine aQ.bind (w1:=[[101,108,115,101]]) (iB e (by decide)) (fun _ _ _ _=>by simp) fun t4 _ DL _=>?_;refine aQ.map ((IH d h4 (by omega)).weaken (by simp) fun _ _ _ h=>h) fun t5 z' _ rU=>?_;obtain⟨fT,o,tb,cc,rfl,gh⟩:=hz;obtain⟨N8,o',tb',KP,rfl,N_⟩:=rU;obtain⟨m,rfl,-⟩:=DL.one;subst hn;refine⟨by simp[fT,N8],?_⟩;have:=sw.two (s:= .mk 7 0 n .nil [] z0 z0 (Φ b) b (Φ d) d) (t1:=t1++t2) (o:=o) (c:=cc) (m:=m) (o':=o') (c':=KP) rfl gh N_;simpa only[bH,cy,bG]using this
end
theorem X4{w:List Nat}{ws:List (List Nat)}{ts:List Tok}(h:TS (w::ws) ts):∃t r,ts=t::r:=by obtain⟨t,r,e,-⟩:=h.cons;exact⟨t,r,e⟩
theorem δ.jR.mem{l:List δ}(h:δ.jR l):∀s∈l,s.Can:=by
 induction l with
 |nil=>intro s hs;cases hs
 |cons a l ih=>
  cases h with
  |cons h1 h2=>
   intro s hs
   rcases cw.1 hs with rfl|hs
   ·exact h1
   ·exact ih h2 s hs
theorem akd{l:List δ}(h:δ.jR l):l.length<=(kg l).length:=by
 induction l with
 |nil=>simp
 |cons s l ih=>
  cases h with
  |cons h1 h2=>
   obtain⟨w,ws,hw,-⟩:=PR h1
   have:=ih h2;simp only[kg,cD,cE,hw];omega
section
variable{e K:Nat}{blk:PS->R (List δ×List Sp)}{N:Nat}(IH:∀l:List δ,δ.jR l->(bW l).length<=N->aQ blk (bW l) (EW l) [])
include IH
theorem XO:∀(l:List δ),δ.jR l->(kg l).length<=K->(kg l).length<=N->∀(n:Nat) (l0:List δ) (s0:List Sp),l.length<n->∀a ts rest,TS (kg l) ts->lK rest=[125]→
  ∃lC,u4 l ts lC/\cd (fun s=>!s.aZ [125]) (fun l s=>(o9 e (g_ e (au e K) blk) s).map fun x=>(l.1++[x.1],l.2++[x.2])) n (l0,s0) ⟨a,ts++rest⟩= .ok (l0++l,s0++lC) ⟨ja a ts,rest⟩
 |[],_,_,_,n,l0,s0,hn,a,ts,rest,ht,hr=>by
  obtain rfl:=ht.nil;obtain⟨n,rfl⟩:∃j,n=j+1:=⟨n-1,by simp at hn;omega⟩;have hb:(fun s:PS=>!s.aZ [125]) ⟨a,rest⟩=false:=by simp[PS.aZ,vr,hr]
  exact⟨[],.nil,by rw[bG,Bp hb];simp[ja]⟩
 |s::l,hc,hk,hN,n,l0,s0,hn,a,ts,rest,ht,hr=>by
  cases hc with
  |cons h1 h2=>
  obtain⟨n,rfl⟩:∃j,n=j+1:=⟨n-1,by simp at hn;omega⟩
  obtain⟨t1,t2,rfl,g1,g2⟩:=(show TS (s.words++kg l) ts from ht).split;simp only[kg,cD]at hk hN;obtain⟨w,ws,hw,τ⟩:=PR h1;simp only[cw,lF,or_false,not_or]at τ;have LZ:=g1;rw[hw]at LZ;have Di:lK (t1++(t2++rest))=w:=MK LZ;have acy:lK (t2++rest)∉[[101,108,115,101]]:=by
   cases l with
   |nil=>rw[g2.nil,bG,hr];decide
   |cons s' l'=>
    cases h2 with
    |cons h3 h4=>
    obtain⟨w',P6,rR,H2⟩:=PR h3
    simp only[cw,lF,or_false,not_or]at H2;simp only[kg,rR,cy]at g2;exact sO g2 (by simpa using H2.2)
  obtain⟨x,⟨q1,q2⟩,e1⟩:=aiB (e:=e) (K:=K) IH h1 (by omega) (by omega) a t1 (t2++rest) g1 acy;obtain⟨t,r,rfl⟩:=X4 LZ;obtain⟨lC,k1,k2⟩:=XO l h2 (by omega) (by omega) n (l0++[s]) (s0++[.mk (Ki (t::r)) (ja 0 (t::r)) x.2]) (by simpa using hn) (ja a (t::r)) t2 rest g2 hr;have hb:(fun s:PS=>!s.aZ [125]) ⟨a,t::r++(t2++rest)⟩=true:=by
   have:lK (t::r++(t2++rest))≠[125]:=by rw[Di];exact τ.1
   simpa[PS.aZ,vr]using this
  refine⟨_,.cons g1 q2 k1,?_⟩;rw[bH,vW hb];have Bd:o9 e (g_ e (au e K) blk) ⟨a,t::r++(t2++rest)⟩= .ok (s,.mk (Ki (t::r)) (ja 0 (t::r)) x.2) ⟨ja a (t::r),t2++rest⟩:=by simp only[o9,e1,R.bind,q1];rfl
  rw[Bd];show cd _ _ n (l0++[s],s0++[_]) _=_;rw[k2,wJ];simp
theorem aix{l:List δ}(hc:δ.jR l)(hk:(kg l).length<=K)(hN:(kg l).length<=N):aQ (vV e (g_ e (au e K) blk)) (bW l) (EW l) []:=by
 intro a ts rest ht _;obtain⟨t1,t2,rfl,g1,g2⟩:=(show TS ([[123]]++(kg l++[[125]])) ts from ht).split;obtain⟨t3,t4,rfl,g3,g4⟩:=g2.split;obtain⟨o,rfl,k1⟩:=g1.one;obtain⟨c,rfl,k2⟩:=g4.one;have hl:=akd hc;have hlen:l.length<(t3++([c]++rest)).length+1:=by have:=g3.len;simp only[cD];omega
 obtain⟨lC,q1,q2⟩:=XO (e:=e) (K:=K) IH l hc hk hN ((t3++([c]++rest)).length+1) [] [] hlen (o.at_+o.text.length) t3 ([c]++rest) g3 (by show c.text=_;rw[k2.1]);refine⟨(l,lC),⟨rfl,o,t3,c,rfl,q1⟩,?_⟩;simp only[vV,cy,bG,bH,uT k1 (show dB [123]≠0 by decide),R.bind]at q2⊢;rw[q2];simp only[R.bind,R.map,uT k2 (show dB [125]≠0 by decide),ja,wJ]
end
theorem Xo(e K:Nat):∀(k:Nat) (l:List δ),δ.jR l->(bW l).length<=k->(bW l).length<=K->aQ (dw e (au e K) k) (bW l) (EW l) []
 |0,l,_,h,_=>by simp[bW]at h
 |k+1,l,hc,h,hK=>by
  have e1:(bW l).length=(kg l).length+2:=by simp[bW]
  rw[e1]at h hK;exact aix (e:=e) (K:=K) (N:=min k K) (fun l' gD h'=>Xo e K k l' gD (by omega) (by omega)) hc (by omega) (by omega)
def ay.words(p:ay):List (List Nat):=[p.name]++([[91]]++([fp p.size.toNat]++[[93]]))
def φ.words(p:φ):List (List Nat):=[[112,114,111,99]]++([p.name]++([[40]]++((iD (p.aq.map ay.words)++[[41]])++bW p.body)))
structure φ.Can (p:φ):Prop where
 nm:c_ p.name=true
 cp:p.cp=Φ p.aq
 aq:∀x∈p.aq,c_ x.name=true/\0<=x.size/\x.size<100
 cb:p.cb=Φ p.body
 body:δ.jR p.body
theorem aiz{e:Nat}{p:ay}(h1:c_ p.name=true)(h2:0<=p.size)(h3:p.size<100):aQ (zC e) p.words (fun _ y=>y=p) []:=by
 refine aQ.bind (tA e h1) (fun _ _ _ _=>by simp) fun _ n _ hn=>?_;refine aQ.bind (iB e (by decide)) (fun _ _ _ _=>by simp) fun _ _ _ _=>?_;refine aQ.bind (aiy e (by omega)) (fun _ _ _ _=>by simp) fun _ k _ hk=>?_;refine aQ.map (iB e (by decide)) fun _ _ _ _=>?_;subst hn hk;obtain⟨nm,sz⟩:=p;have:(sz.toNat:Int)=sz:=by simp only at h2;omega
 simp only[this]
def Qi(p:φ)(ts:List Tok)(x:φ×List Sp):Prop:=x.1=p/\∃t0 o tb c,ts=t0++o::(tb++[c])/\u4 p.body tb x.2
theorem Jh{e K:Nat}{p:φ}(h:p.Can)(hK:p.words.length<=K):aQ (tu e (dw e (au e K) K)) p.words (Qi p) []:=by
 have e1:(bW p.body).length<=K:=by simp only[φ.words,cD]at hK;omega
 refine aQ.bind (iB e (by decide)) (fun _ _ _ _=>by simp) fun t1 _ _ _=>?_;refine aQ.bind (tA e h.nm) (fun _ _ _ _=>by simp) fun t2 n _ hn=>?_;refine aQ.bind (iB e (by decide)) (fun _ _ _ _=>by simp) fun t3 _ _ _=>?_;refine aQ.bind (Xp (S:=[]) (by simp) (by simp) p.aq (fun y hy=>aiz (h.aq y hy).1 (h.aq y hy).2.1 (h.aq y hy).2.2) fun y hy=>⟨y.name,_,rfl,fun e=>by
  have:=(IW (h.aq y hy).1).2
  rw[e]at this
  revert this;decide⟩) (fun _ _ _ _=>by simp) fun t4 ps _ cT=>?_
 refine aQ.map (Xo e K K p.body h.body e1 e1) fun t5 z _ hz=>?_;obtain⟨fT,o,tb,c,rfl,gh⟩:=hz;refine⟨?_,t1++(t2++(t3++t4)),o,tb,c,by simp,gh⟩;obtain⟨nm,cp,aq,cb,body⟩:=p;obtain⟨-,h2,-,h4,-⟩:=h;simp only at h2 h4 hn cT fT;simp only[hn,cT,fT,h2,h4]
def eG:List φ->List (List Nat)
 |[]=>[]
 |p::l=>p.words++eG l
inductive Ca:List φ->List Tok->List (List Sp)->Prop
 |nil:Ca [] [] []
 |cons {p:φ} {l:List φ} {ts zS:List Tok} {sp:List Sp} {lC:List (List Sp)} (h0:TS p.words ts) (h1:Qi p ts (p,sp)) (h2:Ca l zS lC):Ca (p::l) (ts++zS) (sp::lC)
theorem W6(l:List φ):l.length<=(eG l).length:=by
 induction l with
 |nil=>simp
 |cons p l ih=>simp only[eG,cD,cE,φ.words,eI];omega
theorem W9{e K:Nat}:∀(l:List φ),(∀p∈l,p.Can)->(eG l).length<=K->∀(n:Nat) (l0:List φ) (s0:List (List Sp)),l.length<n->∀a ts,TS (eG l) ts→
  ∃lC,Ca l ts lC/\cd (fun s=>!s.l.isEmpty) (fun l s=>(tu e (dw e (au e K) K) s).map fun x=>(l.1++[x.1],l.2++[x.2])) n (l0,s0) ⟨a,ts⟩= .ok (l0++l,s0++lC) ⟨ja a ts,[]⟩
 |[],_,_,n,l0,s0,hn,a,ts,ht=>by obtain rfl:=ht.nil;obtain⟨n,rfl⟩:∃j,n=j+1:=⟨n-1,by simp at hn;omega⟩;exact⟨[],.nil,by rw[Bp (by rfl)];simp[ja]⟩
 |p::l,h,hK,n,l0,s0,hn,a,ts,ht=>by
  obtain⟨n,rfl⟩:∃j,n=j+1:=⟨n-1,by simp at hn;omega⟩;obtain⟨t1,t2,rfl,g1,g2⟩:=(show TS (p.words++eG l) ts from ht).split;simp only[eG,cD]at hK;have zb:p.words.length<=K:=by omega
  obtain⟨x,⟨q1,q2⟩,e1⟩:=Jh (e:=e) (K:=K) (h p (by simp)) zb a t1 t2 g1 (by simp);obtain⟨lC,k1,k2⟩:=W9 (e:=e) (K:=K) l (fun q hq=>h q (by simp[hq])) (by omega) n (l0++[p]) (s0++[x.2]) (by simpa using hn) (ja a t1) t2 g2;obtain⟨t,r,rfl⟩:=X4 (ws:=_) (show TS ([112,114,111,99]::_) t1 from g1);refine⟨_,.cons g1 ⟨rfl,q2⟩ k1,?_⟩;rw[vW (by rfl)];rw[e1];show cd _ _ n (l0++[x.1],s0++[x.2]) _=_;rw[q1,k2,wJ];simp
theorem ah7(e:Nat){l:List φ}(h:∀p∈l,p.Can){ts:List Tok}(ht:TS (eG l) ts):∃lC,Ca l ts lC/\zD e ts= .ok (l,lC) ⟨ja 0 ts,[]⟩:=by have hl:=W6 l;have:=ht.len;obtain⟨lC,h1,h2⟩:=W9 (e:=e) (K:=ts.length+1) l h (by omega) (ts.length+1) [] [] (by rw[this];omega) 0 ts ht;exact⟨lC,h1,h2⟩
structure Lay (g:List Nat):Prop where
 go:∀r,bZ false (g++r)=g.length+bZ false r
 ok:cV g
theorem Lay.nil:Lay []:=⟨fun r=>by simp,fun b hb=>by cases hb⟩
theorem Lay.cons{b:Nat}{g:List Nat}(hb:b=32\/b=10)(h:Lay g):Lay (b::g):=⟨fun r=>by
 rw[cy,bZ,if_pos hb,h.go r,cE];omega,fun c hc=>by
 rcases cw.1 hc with rfl|hc
 ·omega
 ·exact h.ok c hc⟩
theorem Lay.sp{g:List Nat}(h:∀b∈g,b=32\/b=10):Lay g:=by
 induction g with
 |nil=>exact .nil
 |cons b g ih=>exact .cons (h b (by simp)) (ih fun c hc=>h c (by simp[hc]))
inductive ll:List Nat->Prop
 |lets {w:List Nat} (h1:w≠[]) (h2:w.length<=8) (h3:∀b∈w,isLet b=true):ll w
 |num {n:Nat} (h:n<100):ll (fp n)
 |sign {b:Nat} (h:b∈o8):ll [b]
theorem EF{b:Nat}(h:b∈o8):isLet b=false/\cj b=false/\2<b:=by simp only[o8,cw,lF,or_false]at h;rcases h with rfl|rfl|rfl|rfl|rfl|rfl|rfl|rfl|rfl|rfl|rfl|rfl|rfl<;>decide
theorem ll.Wb{w:List Nat}(h1:w≠[])(h3:∀b∈w,isLet b=true):dB w=1:=by
 cases w with
 |nil=>exact absurd rfl h1
 |cons b w=>simp[dB,h3 b (by simp)]
theorem ll.kind{w:List Nat}(h:ll w):dB w≠0/\w≠[]:=by
 cases h with
 |lets h1 h2 h3=>rw[ll.Wb h1 h3];exact⟨by decide,h1⟩
 |@num n h=>
  refine⟨by rw[(FI h).1];decide,?_⟩
  unfold fp;split<;>simp
 |@sign b h=>obtain⟨h1,h2,h3⟩:=EF h;exact⟨by simp[dB,h1,h2];omega,by simp⟩
theorem Jj(f:Nat->Bool)(w r:List Nat)(hw:∀b∈w,f b=true)(hr:∀b,r.head?=some b->f b=false):runN f (w++r)=w.length:=by
 induction w with
 |nil=>
  cases r with
  |nil=>rfl
  |cons b r=>simp[runN,hr b rfl]
 |cons a w ih=>simp[runN,hw a (by simp),ih fun b hb=>hw b (by simp[hb])]
theorem ll.ok{w:List Nat}(h:ll w):cV w:=by
 intro b hb;cases h with
 |lets h1 h2 h3=>
  have:=h3 b hb
  simp only[isLet,dW,decide_eq_true_eq]at this;omega
 |@num n hn=>
  unfold fp at hb
  split at hb
  ·rw[fK.1 hb];omega
  ·rcases cw.1 hb with rfl|hb
   ·omega
   ·rw[fK.1 hb];omega
 |@sign c hc=>
  rw[fK.1 hb]
  simp only[o8,cw,lF,or_false]at hc;omega
def Sep(w r:List Nat):Prop:=∀b,r.head?=some b->¬(dB w=1/\isLet b=true)/\¬(dB w=2/\cj b=true)
theorem ajY{n:Nat}{w r:List Nat}(h:ll w)(hs:Sep w r):fW n (w++r)=⟨n,dB w,w,-1⟩:=by
 cases h with
 |lets h1 h2 h3=>
  have hk:=ll.Wb h1 h3
  have hr:=Jj isLet w r h3 fun b hb=>by
   have:=(hs b hb).1;cases h:isLet b with
   |false=>rfl
   |true=>exact absurd ⟨hk,h⟩ this
  cases w with
  |nil=>exact absurd rfl h1
  |cons b w=>
   have hb:=h3 b (by simp)
   rw[cy]at hr⊢;simp only[fW,hb,if_true,hr,hk];have:¬8<(b::w).length:=by omega
   rw[if_neg this,<-cy,B5]
 |@num m hm=>
  obtain⟨hk,-⟩:=FI hm
  have hd:∀b∈fp m,cj b=true:=by
   intro b hb;unfold fp at hb;split at hb
   ·rw[fK.1 hb];simp[cj];omega
   ·rcases cw.1 hb with rfl|hb
    ·simp[cj];omega
    ·rw[fK.1 hb];simp[cj];omega
  have hr:=Jj cj (fp m) r hd fun b hb=>by
   have:=(hs b hb).2;cases h:cj b with
   |false=>rfl
   |true=>exact absurd ⟨hk,h⟩ this
  have h48:∀b l,fp m=b::l->¬(1<(fp m).length/\b=48):=by
   intro b l hb ⟨h1,h2⟩;unfold fp at hb h1;split at hb
   ·rename_i h;simp[h]at h1
   ·rename_i h;simp only[xV]at hb;omega
  have vA:¬2<(fp m).length:=by unfold fp;split<;>simp
  generalize hw:fp m=w at*;cases w with
  |nil=>cases hk
  |cons b w=>
   have hb:=hd b (by simp)
   have ep:isLet b=false:=by simp only[cj,dW,decide_eq_true_eq]at hb;simp[isLet];omega
   rw[cy]at hr⊢;simp only[fW,hb,ep,if_true,hr,hk,jI,if_false,h48 b w rfl,vA];rw[<-cy,B5]
 |@sign b hb=>
  obtain⟨h1,h2,-⟩:=EF hb
  simp only[cy,bG,fW,h1,h2,hb,jI,if_false,if_true,dB]
abbrev GW:=List (List Nat×List Nat)
def bB:GW->List Nat
 |[]=>[]
 |x::l=>x.1++(x.2++bB l)
theorem OE(a b:GW):bB (a++b)=bB a++bB b:=by
 induction a with
 |nil=>rfl
 |cons x a ih=>simp[bB,ih]
def gy:Nat->GW->Bool
 |_,[]=>true
 |k,x::l=>(!x.1.isEmpty||!(k==dB x.2&&(k==1||k==2)))&&gy (dB x.2) l
def uB:Nat->GW->Nat
 |k,[]=>k
 |_,x::l=>uB (dB x.2) l
theorem EU(k:Nat)(a b:GW):gy k (a++b)=(gy k a&&gy (uB k a) b):=by
 induction a generalizing k with
 |nil=>rfl
 |cons x a ih=>simp only[cy,gy,uB,ih,Bool.and_assoc]
def tJ(l:GW):Prop:=∀x∈l,Lay x.1/\ll x.2
theorem tJ.ok{l:GW}(h:tJ l):cV (bB l):=by
 induction l with
 |nil=>intro b hb;cases hb
 |cons x l ih=>
  intro b hb
  have hx:=h x (by simp);rcases dE.1 hb with hb|hb
  ·exact hx.1.ok b hb
  ·rcases dE.1 hb with hb|hb
   ·exact hx.2.ok b hb
   ·exact ih (fun y hy=>h y (by simp[hy])) b hb
def nx:Nat->GW->List Tok
 |_,[]=>[]
 |n,x::l=>⟨n+x.1.length,dB x.2,x.2,-1⟩::nx (n+x.1.length+x.2.length) l
theorem aj3(l:GW):∀n,TS (l.map tO) (nx n l):=by
 induction l with
 |nil=>intro n;trivial
 |cons x l ih=>intro n;exact⟨⟨rfl,rfl,rfl⟩,ih _⟩
theorem V9{b:Nat}{z:List Nat}(h:bZ false (b::z)=(b::z).length):isLet b=false/\cj b=false:=by
 rw[bZ]at h;split at h
 ·rename_i hb;rcases hb with rfl|rfl<;>decide
 ·split at h
  ·rename_i hb;subst hb;decide
  ·simp at h
theorem afo{b:Nat}{g:List Nat}(h:Lay (b::g)):isLet b=false/\cj b=false:=by have:=h.go [];simp only[de,bZ,Nat.add_zero]at this;exact V9 (z:=g) this
theorem Ye{w:List Nat}(h:ll w):∃b r,w=b::r/\(isLet b=true->dB w=1)/\(cj b=true->dB w=2):=by
 obtain⟨h1,h2⟩:=h.kind;cases w with
 |nil=>exact absurd rfl h2
 |cons b r=>
  refine⟨b,r,rfl,fun h=>by simp[dB,h],fun h=>?_⟩
  have:isLet b=false:=by simp only[cj,dW,decide_eq_true_eq]at h;simp[isLet];omega
  simp[dB,h,this]
theorem V8{z:List Nat}(h:bZ false z=z.length):∀b,z.head?=some b->isLet b=false/\cj b=false:=by
 intro b hb;cases z with
 |nil=>cases hb
 |cons c z=>
  cases hb
  exact V9 h
theorem XH{w:List Nat}{l:GW}{z:List Nat}(hl:tJ l)(ha:gy (dB w) l=true)(hz:∀b,z.head?=some b->isLet b=false/\cj b=false):Sep w (bB l++z):=by
 intro b hb;cases l with
 |nil=>
  obtain⟨h1,h2⟩:=hz b hb
  rw[h1,h2];simp
 |cons x l=>
  obtain⟨g,v⟩:=x
  obtain⟨h1,h2⟩:=hl (g,v) (by simp);cases g with
  |cons c g=>
   simp only[bB,cy,alW,bc]at hb
   subst hb;obtain⟨h3,h4⟩:=afo h1;rw[h3,h4];simp
  |nil=>
   obtain⟨c,r,rfl,h3,h4⟩:=Ye h2
   simp only[bB,bG,cy,alW,bc]at hb;subst hb;simp only[gy,List.isEmpty_nil,Bool.not_true,Bool.false_or,dW,zZ,Bool.and_eq_false_iff,beq_eq_false_iff_ne,EX,ne_eq]at ha;refine⟨fun⟨k1,k2⟩=>?_,fun⟨k1,k2⟩=>?_⟩
   ·have:=h3 k2;rw[k1,this]at ha;simp at ha
   ·have:=h4 k2;rw[k1,this]at ha;simp at ha
theorem PY(D:Nat->List Tok):∀(l:GW) (z:List Nat) (k0:Nat),tJ l->gy k0 l=true->(∀b,z.head?=some b->isLet b=false/\cj b=false)->(∀k n,z.length<k->nw k n z=D n)->∀k n,(bB l++z).length<k->nw k n (bB l++z)=nx n l++D (n+(bB l).length)
 |[],z,_,_,_,_,hD,k,n,hk=>hD k n hk
 |x::l,z,k0,hl,ha,hz,hD,k,n,hk=>by
  obtain⟨g,w⟩:=x;have h1:Lay g:=(hl (g,w) (by simp)).1;have h2:ll w:=(hl (g,w) (by simp)).2;obtain⟨k,rfl⟩:∃j,k=j+1:=⟨k-1,by omega⟩;simp only[gy,dW]at ha;have sS:tJ l:=fun y hy=>hl y (by simp[hy]);have acY:Sep w (bB l++z):=XH sS ha.2 hz;obtain⟨oQ,τ⟩:=h2.kind;obtain⟨b,r,yM,-⟩:=Ye h2;have ach:bZ false (w++(bB l++z))=0:=by
   rw[yM,cy,bZ];have TB:¬(b=32\/b=10)/\¬b=35:=by
    cases h2 with
    |lets a1 a2 a3=>
     have:=a3 b (by rw[yM];simp)
     simp only[isLet,dW,decide_eq_true_eq]at this;omega
    |@num m hm=>
     unfold fp at yM
     split at yM<;>simp only[xV]at yM<;>omega
    |@sign c hc=>
     simp only[xV]at yM
     rw[<-yM.1];simp only[o8,cw,lF,or_false]at hc;omega
   rw[if_neg TB.1,if_neg TB.2]
  have e0:bB ((g,w)::l)++z=g++(w++(bB l++z)):=by simp[bB]
  have eg:bZ false (g++(w++(bB l++z)))=g.length:=by rw[h1.go,ach];rfl
  have qF:fW (n+g.length) (w++(bB l++z))=⟨n+g.length,dB w,w,-1⟩:=ajY h2 acY;have vP:0<w.length:=List.length_pos_iff.2 τ;have eK:¬(g++(w++(bB l++z))).length<=g.length:=by simp only[cD];omega
  rw[e0]at hk⊢;simp only[nw,eg,if_neg eK,List.drop_left,qF,if_neg oQ];rw[PY D l z (dB w) sS ha.2 hz hD k _ (by simp only[cD]at hk⊢;omega)];simp only[bB,nx,cD,cy,Nat.add_assoc]
theorem aj5{l:GW}{z:List Nat}(hl:tJ l)(ha:gy 0 l=true)(hz:bZ false z=z.length):dM (bB l++z)=nx 0 l:=by
 have:=PY (fun _=>[]) l z 0 hl ha (V8 hz) (fun k n hk=>by
  obtain⟨k,rfl⟩:∃j,k=j+1:=⟨k-1,by omega⟩
  simp[nw,hz]) _ 0 (Nat.lt_succ_self _)
 exact this.trans (de _)
def nF(g:List Nat):Prop:=∀b∈g,b=32\/b=10
theorem nF.app{g h:List Nat}(h1:nF g)(h2:nF h):nF (g++h):=fun b hb=>(dE.1 hb).elim (h1 b) (h2 b)
def Ai(l:GW):Prop:=∀x∈l,nF x.1/\ll x.2
theorem Ai.Hn{l:GW}(h:Ai l):tJ l:=fun x hx=>⟨.sp (h x hx).1,(h x hx).2⟩
def f_(s:List Nat)(ws:List (List Nat))(b e:Bool):Prop:=
 ∃l:GW,bB l=s/\l.map tO=ws/\Ai l/\l≠[]/\(∀k,(b=true\/(k≠1/\k≠2))->gy k l=true)/\(e=true->∀k,uB k l≠1/\uB k l≠2)
theorem afj(k:Nat)(a b:GW):uB k (a++b)=uB (uB k a) b:=by
 induction a generalizing k with
 |nil=>rfl
 |cons x a ih=>exact ih _
theorem f_.app{s1 s2:List Nat}{w1 w2:List (List Nat)}{b1 e1 b2 e2:Bool}(h:f_ s1 w1 b1 e1)(k:f_ s2 w2 b2 e2)(hc:(e1||b2)=true):f_ (s1++s2) (w1++w2) b1 e2:=by
 obtain⟨l1,a1,a2,a3,a4,a5,a6⟩:=h;obtain⟨l2,c1,c2,c3,c4,c5,c6⟩:=k;refine⟨l1++l2,by rw[OE,a1,c1],by rw[List.map_append,a2,c2],fun x hx=>?_,by simp[a4],fun j hj=>?_,fun he j=>?_⟩
 ·rcases dE.1 hx with hx|hx
  ·exact a3 x hx
  ·exact c3 x hx
 ·rw[EU,a5 j hj,tG];refine c5 _ ?_;cases b2 with
  |true=>exact .inl rfl
  |false=>exact .inr (a6 (by simpa using hc) j)
 ·rw[afj];exact c6 he _
theorem f_.gb{s:List Nat}{ws:List (List Nat)}{b e:Bool}(h:f_ s ws b e){g:List Nat}(hg:nF g)(τ:g≠[]):f_ (g++s) ws true e:=by
 obtain⟨l,a1,a2,a3,a4,a5,a6⟩:=h;cases l with
 |nil=>exact absurd rfl a4
 |cons x l=>
  refine⟨(g++x.1,x.2)::l,by rw[<-a1];simp[bB],a2,fun y hy=>?_,by simp,fun j _=>?_,a6⟩
  ·rcases cw.1 hy with rfl|hy
   ·exact⟨hg.app (a3 x (by simp)).1,(a3 x (by simp)).2⟩
   ·exact a3 y (by simp[hy])
  ·have:=a5 0 (.inr ⟨by decide,by decide⟩);simp only[gy,dW]at this⊢;refine⟨?_,this.2⟩;have:(g++x.1).isEmpty=false:=by cases g<;>first|exact absurd rfl τ|rfl
   rw[this];rfl
theorem f_.BP{s:List Nat}{ws:List (List Nat)}{b e:Bool}(h:f_ s ws b e):f_ s ws false false:=by obtain⟨l,a1,a2,a3,a4,a5,a6⟩:=h;exact⟨l,a1,a2,a3,a4,fun k hk=>a5 k (hk.elim (fun h=>by cases h) .inr),fun h=>by cases h⟩
theorem I9{w:List Nat}(h:ll w):f_ w [w] false false:=by
 refine⟨[([],w)],by simp[bB],rfl,fun x hx=>by rw[fK.1 hx];exact⟨by simp[nF],h⟩,by simp,fun k hk=>?_,fun h=>by cases h⟩;rcases hk with hk|⟨h1,h2⟩
 ·cases hk
 ·have h1:(k==1)=false:=by simpa using h1
  have h2:(k==2)=false:=by simpa using h2
  simp[gy,h1,h2]
theorem kA{b:Nat}(h:b∈o8):f_ [b] [[b]] true true:=by
 obtain⟨h1,h2,h3⟩:=EF h;have hk:dB [b]=b:=by simp[dB,h1,h2]
 refine⟨[([],[b])],by simp[bB],rfl,fun x hx=>by rw[fK.1 hx];exact⟨by simp[nF],.sign h⟩,by simp,fun k _=>?_,fun _ k=>?_⟩
 ·have:(k==b&&(k==1||k==2))=false:=by
   cases hh:(k==b&&(k==1||k==2))with
   |false=>rfl
   |true=>
    simp only[dW,Bool.or_eq_true,beq_iff_eq]at hh
    omega
  simp[gy,hk,this]
 ·simp only[uB,hk];omega
theorem af3{w:List Nat}(h:c_ w=true):ll w:=by simp only[c_,dW,decide_eq_true_eq]at h;refine .lets (fun e=>by rw[e]at h;simp at h) h.1.1.1.2 fun b hb=>?_;have:=dS.1 h.1.1.2 b hb;simpa[isLet]using this
theorem uL{w:List Nat}(h:c_ w=true):f_ w [w] false false:=I9 (af3 h)
theorem jY:nF [32]:=by simp[nF]
theorem afl:nF [10]:=by simp[nF]
theorem WU{s:List Nat}{ws:List (List Nat)}(h:f_ s ws false false)(b:Bool):f_ (paren b s) (pZ b ws) false false:=by
 cases b with
 |false=>exact h
 |true=>
  have:=(kA (b:=40) (by decide)).app (h.app (kA (b:=41) (by decide)) rfl) rfl
  exact this.BP
theorem η.Can.ajV{k:Int}{a b:η}(h1:3<=k):(η.mk k 0 [] .any [a,b]).text=paren (decide (k=5)&&fU a.kind) a.text++(xJ k++paren (if k=5 then decide (3<=b.kind)else fU b.kind) b.text):=by
 have e1:¬k=1:=by omega
 have e2:¬k=2:=by omega
 simp only[η.text,η.texts,xC,e1,e2,if_false,aA,aP,bH]
theorem Bw{x:η}(h:x.Can):f_ x.text x.words false false:=by
 induction h with
 |@fix n h1 h2=>
  have:f_ (fp n.toNat) [fp n.toNat] false false:=I9 (.num (by omega))
  simpa[η.text,η.words,xC,s_]using this
 |@dR s h=>simpa[η.text,η.words,xC,s_]using uL h
 |@bin k a b h1 h2 ha hb dK gu=>
  rw[η.Can.ajV h1,P1 h1]
  have Ξ:∃c,c∈o8/\xJ k=[32]++([c]++[32])/\r_ k=[c]:=by
   have:k=3\/k=4\/k=5:=by omega
   rcases this with rfl|rfl|rfl
   ·exact⟨43,by decide,rfl,rfl⟩
   ·exact⟨45,by decide,rfl,rfl⟩
   ·exact⟨42,by decide,rfl,rfl⟩
  obtain⟨c,hc,e1,e2⟩:=Ξ;rw[e1,e2];have p1:=WU dK (decide (k=5)&&fU a.kind);have p2:=(kA hc).gb jY (by simp);have p3:=(WU gu (if k=5 then decide (3<=b.kind)else fU b.kind)).gb jY (by simp);have:=p1.app (p2.app p3 rfl) rfl;simpa only[bH,cy,bG]using this
theorem ahF{p:ρ}(h:p.Can):f_ p.text p.words false false:=by
 obtain⟨nm,c,ix⟩:=p;obtain⟨h1,h2,h3,h4⟩:=h;simp only at h1 h2 h3 h4;have p0:=uL h1;have pl:=kA (b:=91) (by decide);have pr:=kA (b:=93) (by decide)
 match ix,h3,h4 with
 |[],_,_=>exact p0
 |[a],_,h4=>
  have:=p0.app (pl.app ((Bw (h4 a (by simp))).app pr rfl) rfl) rfl
  simpa only[ρ.text,ρ.words,bH]using this.BP
 |[a,b],_,h4=>
  have pc:=(kA (b:=58) (by decide)).gb jY (by simp)
  have:=p0.app (pl.app ((Bw (h4 a (by simp))).app (pc.app (((Bw (h4 b (by simp))).gb jY (by simp)).app pr rfl) rfl) rfl) rfl) rfl;simpa only[ρ.text,ρ.words,bH,cy,bG]using this.BP
 |_::_::_::_,h3,_=>simp at h3
theorem Pg{α:Type}(T:α->List Nat)(W:α->List (List Nat)):∀(l:List α),(∀x∈l,f_ (T x) (W x) false false)->l≠[]->f_ (lG (l.map T)) (iD (l.map W)) false false
 |[],_,h=>absurd rfl h
 |[x],h,_=>by simpa[lG,iD,ke]using h x (by simp)
 |x::y::l,h,_=>by
  have ih:=Pg T W (y::l) (fun z hz=>h z (by simp[hz])) (by simp);have p1:=h x (by simp);have p2:=kA (b:=44) (by decide);have:=p1.app (p2.app (ih.gb jY (by simp)) rfl) rfl;have e1:lG ((x::y::l).map T)=T x++([44]++([32]++lG ((y::l).map T))):=by simp[lG]
  have e2:iD ((x::y::l).map W)=W x++([[44]]++iD ((y::l).map W)):=by simp[iD,ke]
  rw[e1,e2];exact this
theorem I8{l:List ρ}(h:∀p∈l,p.Can)(τ:l≠[]):f_ (nq l) (iD (l.map ρ.words)) false false:=Pg ρ.text ρ.words l (fun p hp=>ahF (h p hp)) τ
theorem ahG{l:List ρ}(h:∀p∈l,p.Can){c:Nat}(hc:c∈o8):f_ (nq l++[c]) (iD (l.map ρ.words)++[[c]]) false true:=by
 by_cases τ:l=[]
 ·subst τ;obtain⟨l,a1,a2,a3,a4,a5,a6⟩:=kA hc;exact⟨l,a1,a2,a3,a4,fun k _=>a5 k (.inl rfl),a6⟩
 ·exact(I8 h τ).app (kA hc) rfl
theorem sq{w:List Nat}(h1:w≠[])(h2:w.length<=8)(h3:(w.all isLet)=true):f_ w [w] false false:=I9 (.lets h1 h2 (dS.1 h3))
theorem ahD{k g:Int}{nm:List Nat}{cp:ξ}{pl:List ρ}{size to:η}{cb ce:ξ}{bd ed:List δ}(h:(δ.mk k g nm cp pl size to cb bd ce ed).Can):f_ (cg k g nm pl size to) (fH k g nm pl size to) false false:=by
 have sz:∀{nm:List Nat} {x:η} {kw:List Nat},c_ nm=true->x.Can->f_ kw [kw] false false->f_ (kw++([32]++(nm++([91]++(x.text++[93]))))) ([kw]++([nm]++([[91]]++(x.words++[[93]])))) false false:=fun h1 h2 hk=>by have:=hk.app (((uL h1).app ((kA (b:=91) (by decide)).app ((Bw h2).app (kA (b:=93) (by decide)) rfl) rfl) rfl).gb jY (by simp)) rfl;exact this.BP
 cases h with
 |gate h1 h2 h3 h4=>
  obtain⟨-,f2,f3,-⟩:=CV h1 h2
  have τ:pl≠[]:=fun e=>by rw[e]at h3;simp at h3;omega
  have hw:f_ (fq.getD (g-1).toNat []) [fq.getD (g-1).toNat []] false false:=by
   have:g=1\/g=2\/g=3\/g=4\/g=5\/g=6\/g=7\/g=8\/g=9\/g=10\/g=11\/g=12:=by omega
   rcases this with rfl|rfl|rfl|rfl|rfl|rfl|rfl|rfl|rfl|rfl|rfl|rfl<;>exact sq (by decide) (by decide) (by decide)
  have:=hw.app ((I8 h4 τ).gb jY (by simp)) rfl;simpa only[cg,fH,if_true,bH]using this
 |take h1 h2=>simpa[cg,fH]using sz h1 h2 (sq (w:=[116,97,107,101]) (by decide) (by decide) (by decide))
 |drop h1=>
  have:=(sq (w:=[100,114,111,112]) (by decide) (by decide) (by decide)).app ((uL h1).gb jY (by simp)) rfl
  simpa[cg,fH]using this
 |borrow h1 h2 h3=>simpa[cg,fH]using sz h1 h2 (sq (w:=[98,111,114,114,111,119]) (by decide) (by decide) (by decide))
 |measure h1 h2=>
  have pc:=(kA (b:=58) (by decide)).gb jY (by simp)
  have:=(sq (w:=[109,101,97,115,117,114,101]) (by decide) (by decide) (by decide)).app (((I8 (l:=[_]) (by simpa using h2) (by simp)).gb jY (by simp)).app (pc.app ((uL h1).gb jY (by simp)) rfl) rfl) rfl;simpa[cg,fH]using this
 |reset h2=>
  have:=(sq (w:=[114,101,115,101,116]) (by decide) (by decide) (by decide)).app ((I8 (l:=[_]) (by simpa using h2) (by simp)).gb jY (by simp)) rfl
  simpa[cg,fH]using this
 |cond h1 h3 h4=>
  have:=(sq (w:=[105,102]) (by decide) (by decide) (by decide)).app ((uL h1).gb jY (by simp)) rfl
  simpa[cg,fH]using this
 |loop h1 h2 lX h3=>
  have pe:=(kA (b:=61) (by decide)).gb jY (by simp)
  have pc:=(kA (b:=58) (by decide)).gb jY (by simp);have:=(sq (w:=[102,111,114]) (by decide) (by decide) (by decide)).app (((uL h1).gb jY (by simp)).app (pe.app (((Bw h2).gb jY (by simp)).app (pc.app ((Bw lX).gb jY (by simp)) rfl) rfl) rfl) rfl) rfl;simpa[cg,fH]using this
 |call h1 h4=>
  have:=(uL h1).app ((kA (b:=40) (by decide)).app (ahG h4 (c:=41) (by decide)) rfl) rfl
  simpa[cg,fH]using this.BP
 |qa h3=>simpa[cg,fH]using sq (w:=[117,110,100,111]) (by decide) (by decide) (by decide)
 |within h3 h4=>simpa[cg,fH]using sq (w:=[119,105,116,104,105,110]) (by decide) (by decide) (by decide)
theorem V_{b:List Nat}(hb:∀c∈b,c=32):nF (10::b):=fun c hc=>by
 rcases cw.1 hc with rfl|hc
 ·exact .inr rfl
 ·exact .inl (hb c hc)
theorem Ze{b:List Nat}(hb:∀c∈b,c=32):∀c∈b++fD,c=32:=fun c hc=>by
 rcases dE.1 hc with hc|hc
 ·exact hb c hc
 ·simp only[fD,cw,lF,or_false,or_self]at hc;exact hc
def u7(l:List δ)(b:List Nat):List Nat:=[123,10]++dj l (b++fD)++b++[125]
theorem afA(k g:Int)(nm:List Nat)(cp:ξ)(pl:List ρ)(size to:η)(cb ce:ξ)(body els:List δ)(b:List Nat):jm (.mk k g nm cp pl size to cb body ce els) b=b++(cg k g nm pl size to++
  (if aS k=false then[59]else[32]++(u7 body b++(if bh k=true/\¬(k=7/\els.length=0)then[32]++(mU k++([32]++u7 els b))else[]))))++[10]:=by
 simp only[jm];cases hb:aS k with
 |false=>simp
 |true=>
  by_cases he:bh k=true/\¬(k=7/\els.length=0)
  ·simp only[if_pos he,BS,if_false];simp[u7]
  ·simp only[if_neg he,BS,if_false];simp[u7]
theorem ahC(k:Int):f_ (mU k) [mU k] false false:=by unfold mU;split<;>exact sq (by decide) (by decide) (by decide)
def Qc(s:δ):Prop:=∀b,(∀c∈b,c=32)->∃S,[10]++jm s b=S++[10]/\f_ S s.words true true
def BU(l:List δ):Prop:=∀b,(∀c∈b,c=32)->l≠[]->∃S,[10]++dj l b=S++[10]/\f_ S (kg l) true true
theorem Pf{l:List δ}(h:BU l)(b:List Nat)(hb:∀c∈b,c=32):f_ (u7 l b) (bW l) true true:=by
 have p1:=kA (b:=123) (by decide);have p2:=(kA (b:=125) (by decide)).gb (V_ hb) (by simp);by_cases hl:l=[]
 ·subst hl;have:=p1.app p2 rfl;simpa[u7,dj,bW,kg]using this
 ·obtain⟨S,h1,h2⟩:=h (b++fD) (Ze hb) hl;have:=p1.app (h2.app p2 rfl) rfl;have e:u7 l b=[123]++(S++(10::b++[125])):=by have:[123,10]++dj l (b++fD)=[123]++([10]++dj l (b++fD)):=rfl;rw[u7,this,h1];simp
  rw[e];exact this
theorem afC{s:δ}(h:s.Can)(hb:aS s.kind=true->BU s.body)(he:bh s.kind=true->BU s.els):Qc s:=by
 intro b fG;obtain⟨k,g,nm,cp,pl,size,to,cb,body,ce,els⟩:=s;simp only[δ.kind,δ.body,δ.els]at hb he;have ph:=ahD h;have L8:=V_ fG;refine⟨_,by rw[afA,<-bH],?_⟩;simp only[δ.words];cases hk:aS k with
 |false=>
  have:=(ph.app (kA (b:=59) (by decide)) rfl).gb L8 (by simp)
  simpa using this
 |true=>
  have pb:=Pf (hb hk) b fG
  by_cases hc:bh k=true/\¬(k=7/\els.length=0)
  ·have pe:=Pf (he hc.1) b fG;have:=(ph.app ((pb.app (((ahC k).app (pe.gb jY (by simp)) rfl).gb jY (by simp)) rfl).gb jY (by simp)) rfl).gb L8 (by simp);simp only[if_pos hc,BS,if_false];simpa[bW]using this
  ·have:=(ph.app (pb.gb jY (by simp)) rfl).gb L8 (by simp);simp only[if_neg hc,BS,if_false];simpa[bW]using this
theorem δ.Can.sub{s:δ}(h:s.Can):δ.jR s.body/\δ.jR s.els:=by cases h<;>first|exact⟨‹_›,‹_›⟩|exact⟨‹_›,.nil⟩|exact⟨.nil,.nil⟩
theorem afF(l:List δ):δ.jR l->BU l:=by
 refine δ.lists (P:=fun l=>δ.jR l->BU l) (fun l ih hc=>?_) l;have each:∀s∈l,Qc s:=fun s hs=>by have h1:=hc.mem s hs;exact afC h1 (fun _=>(ih s hs).1 h1.sub.1) fun _=>(ih s hs).2 h1.sub.2
 clear ih hc;induction l with
 |nil=>intro b _ h;exact absurd rfl h
 |cons s l xy=>
  intro b hb _
  obtain⟨S,h1,h2⟩:=each s (by simp) b hb;by_cases hl:l=[]
  ·subst hl;exact⟨S,by simpa[dj]using h1,by simpa[kg]using h2⟩
  ·obtain⟨S2,k1,k2⟩:=xy (fun y hy=>each y (by simp[hy])) b hb hl;refine⟨S++S2,?_,h2.app k2 rfl⟩;rw[dj,<-bH,h1,bH,k1,bH]
theorem ahE{p:ay}(h1:c_ p.name=true)(h2:0<=p.size)(h3:p.size<100):f_ p.text p.words false true:=by have:=(uL h1).app ((kA (b:=91) (by decide)).app ((I9 (.num (n:=p.size.toNat) (by omega))).app (kA (b:=93) (by decide)) rfl) rfl) rfl;simpa[ay.text,ay.words]using this
theorem WV{p:φ}(h:p.Can):∃S,p.text=S++[10]/\f_ S p.words false true:=by
 have p1:=sq (w:=[112,114,111,99]) (by decide) (by decide) (by decide);have p2:=(uL h.nm).gb jY (by simp);have p3:=kA (b:=40) (by decide);have p4:f_ (lG (p.aq.map ay.text)++[41]) (iD (p.aq.map ay.words)++[[41]]) false true:=by
  by_cases τ:p.aq=[]
  ·rw[τ];obtain⟨l,a1,a2,a3,a4,a5,a6⟩:=kA (b:=41) (by decide);exact⟨l,a1,a2,a3,a4,fun k _=>a5 k (.inl rfl),a6⟩
  ·exact(Pg ay.text ay.words p.aq (fun x hx=>(ahE (h.aq x hx).1 (h.aq x hx).2.1 (h.aq x hx).2.2).BP) τ).app (kA (by decide)) rfl
 have p5:=(Pf (afF p.body h.body) [] (by simp)).gb jY (by simp);have:=p1.app (p2.app (p3.app (p4.app p5 rfl) rfl) rfl) rfl;refine⟨_,?_,by simpa only[φ.words]using this⟩;simp[φ.text,u7,fD]
theorem W7:∀(l:List φ),(∀p∈l,p.Can)->l≠[]->∃S,fI l=S++[10]/\f_ S (eG l) false true
 |[],_,h=>absurd rfl h
 |[p],h,_=>by obtain⟨S,h1,h2⟩:=WV (h p (by simp));exact⟨S,by simp[fI,h1],by simpa[eG]using h2⟩
 |p::q::l,h,_=>by
  obtain⟨S,h1,h2⟩:=WV (h p (by simp));obtain⟨S2,k1,k2⟩:=W7 (q::l) (fun y hy=>h y (by simp[hy])) (by simp);refine⟨S++([10]++S2),?_,?_⟩
  ·rw[fI,h1,k1];simp
  ·rw[eG];exact h2.app (k2.gb afl (by simp)) rfl
theorem ah0{l:List φ}(h:∀p∈l,p.Can)(τ:l≠[]):∃w:GW,fI l=bB w++[10]/\w.map tO=eG l/\Ai w/\gy 0 w=true:=by obtain⟨S,h1,w,a1,a2,a3,a4,a5,a6⟩:=W7 l h τ;exact⟨w,by rw[h1,a1],a2,a3,a5 0 (.inr ⟨by decide,by decide⟩)⟩
end Go.Δ
