import Derived.Test.YtiigojkfojnedaaGreatDoorQHa
set_option linter.unusedVariables false
set_option linter.unusedSimpArgs false
set_option linter.unusedSectionVars false
set_option maxRecDepth 100000
set_option maxHeartbeats 8000000
open List renaming length_cons->eZ,length_take->mf,length_drop->kK,drop_eq_getElem_cons->jR,map_cons->ay,map_nil->aA,getElem_mem->cL,take_length->mL,take_take->ahP,getElem?_eq_none->gZ
open Nat renaming lt_or_ge->bP,zero_le->qu,min_eq_left->ahQ
open Go.IntKind renaming wrap->a_
open Bool renaming false_eq_true->gY,and_eq_true->jv,and_self->vm
namespace Go.ah
def bO:Bool->List Nat->Nat
 |_,[]=>0
 |false,b::l=>if b=32\/b=10 then bO false l+1 else if b=35 then bO true l+1 else 0
 |true,b::l=>if b=10 then bO false l+1 else bO true l+1
def isLet(b:Nat):Bool:=decide (97<=b)&&decide (b<=122)
def eD:List Nat:=[40,41,91,93,123,125,44,59,58,61,43,45,42]
def runN(f:Nat->Bool):List Nat->Nat
 |[]=>0
 |b::l=>if f b then runN f l+1 else 0
structure Tok where
 at_:Nat
 kind:Nat
 text:List Nat
 cZ:Int
def dA(n:Nat):List Nat->Tok
 |[]=>⟨n,0,[],-1⟩
 |b::l=>
  if isLet b then⟨n,1,(b::l).take (runN isLet (b::l)),if 8<runN isLet (b::l)then n+8 else-1⟩
  else if dx b then⟨n,2,(b::l).take (runN dx (b::l)),if 1<runN dx (b::l)/\b=48 then n+1 else if 2<runN dx (b::l)then n+2 else-1⟩
  else if b∈eD then⟨n,b,[b],-1⟩
  else⟨n,0,[b],n⟩
def Tok.cut(t:Tok):List Nat:=
 if t.cZ<0 then t.text else if t.kind=1 then t.text.take 8 else if t.kind=2 then(if t.text.head?=some 48 then[48]else t.text.take 2)else[]
theorem CL(c:Bool)(l:List Nat):bO c l<=l.length:=by
 induction l generalizing c with
 |nil=>cases c<;>simp[bO]
 |cons b l ih=>
  have h1:=ih false
  have h2:=ih true;cases c<;>simp only[bO,eZ]<;>(repeat' split)<;>omega
theorem acZ(l:List Nat):∀k,(∀e,iY 10 l k=some e->k<=e/\e-k<=l.length/\bO true l=(e-k)+bO false (l.drop (e-k)))/\(iY 10 l k=none->bO true l=l.length):=by
 induction l with
 |nil=>intro k;simp[iY,bO]
 |cons b l ih=>
  intro k
  by_cases h:b=10
  ·subst h;simp[iY,bO]
  ·obtain⟨h1,h2⟩:=ih (k+1);refine⟨fun e he=>?_,fun he=>?_⟩
   ·simp only[iY,h,if_false]at he;obtain⟨q1,q2,q3⟩:=h1 e he;have e1:e-k=(e-(k+1))+1:=by omega
    refine⟨by omega,by simp only[eZ];omega,?_⟩;rw[e1,List.drop_succ_cons];simp only[bO,h,if_false,q3];omega
   ·simp only[iY,h,if_false]at he;simp only[bO,h,if_false,h2 he,eZ]
theorem yF(f:Nat->Bool)(l:List Nat):runN f l<=l.length:=by
 induction l with
 |nil=>simp[runN]
 |cons b l ih=>simp only[runN,eZ];split<;>omega
theorem Dn(n b:Nat)(l:List Nat):0<(dA n (b::l)).text.length:=by
 simp only[dA];have e1:isLet b=true->0<runN isLet (b::l):=fun h=>by simp[runN,h]
 have e2:dx b=true->0<runN dx (b::l):=fun h=>by simp[runN,h]
 split
 ·rename_i h;have:=e1 h;have:=yF isLet (b::l);simp only[mf];omega
 ·split
  ·rename_i h;have:=e2 h;have:=yF dx (b::l);simp only[mf];omega
  ·split<;>simp
theorem MU(n:Nat)(l:List Nat):(dA n l).text.length<=l.length:=by
 cases l with
 |nil=>simp[dA]
 |cons b l=>
  simp only[dA]
  split
  ·simp only[mf];omega
  ·split
   ·simp only[mf];omega
   ·split<;>simp
def ru:Nat->Nat->List Nat->List Tok
 |0,_,_=>[]
 |k+1,n,l=>
  if l.length<=bO false l then[]else
   let m:=n+bO false l;let r:=l.drop (bO false l);let t:=dA m r
   if t.kind=0 then[t]else t::ru k (m+t.text.length) (r.drop t.text.length)
def cY(s:List Nat):List Tok:=ru (s.length+1) 0 s
theorem ago(k j n:Nat)(l:List Nat)(h:l.length<k)(hj:l.length<j):ru k n l=ru j n l:=by
 induction k generalizing j n l with
 |zero=>omega
 |succ k ih=>
  cases j with
  |zero=>omega
  |succ j=>
   simp only[ru]
   split
   ·rfl
   ·rename_i hl;split
    ·rfl
    ·congr 1;have hl:=Nat.not_le.1 hl;cases hr:l.drop (bO false l)with
     |nil=>have:=congrArg List.length hr;simp at this;omega
     |cons b r=>
      have e:(b::r).length=l.length-bO false l:=by rw[<-hr];simp
      have hp:=Dn (n+bO false l) b r;simp only[eZ]at e;refine ih j _ _ ?_ ?_<;>simp only[kK,eZ]<;>omega
end Go.ah
namespace Go.ah.Tz
open Go.ah
variable{u:Nat}
attribute [local simp] exec ed dP eX aC dQ ft eL ζ gg τ fW gy gH gI AV.cells newVar gE rd wr fK single eV bY ek dF μ aY RV.get aV dB iE
theorem yk{s:List Nat}{p:Nat}(h:p<s.length):bO false (s.drop p)=if s[p]=32\/s[p]=10 then bO false (s.drop (p+1))+1 else if s[p]=35 then bO true (s.drop (p+1))+1 else 0:=by rw[jR h];rfl
theorem acY{s:List Nat}{p:Nat}(h:p<s.length)(JO:s[p]=35)(h2:(s.length:Int)<4000000000):
  (∀e,iY 10 (s.drop p) 0=some e->0<e/\p+e<=s.length/\p+bO false (s.drop p)=(p+e)+bO false (s.drop (p+e)))/\(iY 10 (s.drop p) 0=none->p+bO false (s.drop p)=s.length):=by
 have hc:¬(s[p]=32\/s[p]=10):=by omega
 have hx:bO false (s.drop p)=bO true (s.drop (p+1))+1:=by rw[yk h,if_neg hc,if_pos JO]
 have hd:s.drop p=s[p]::s.drop (p+1):=jR h;have ak:¬s[p]=10:=by omega
 obtain⟨k1,k2⟩:=acZ (s.drop (p+1)) 1;have hi:iY 10 (s.drop p) 0=iY 10 (s.drop (p+1)) 1:=by rw[hd];simp only[iY,ak,if_false]
 refine⟨fun e he=>?_,fun he=>?_⟩
 ·rw[hi]at he;obtain⟨q1,q2,q3⟩:=k1 e he;simp only[kK]at q2;rw[List.drop_drop]at q3;have e1:p+1+(e-1)=p+e:=by omega
  rw[e1]at q3;exact⟨by omega,by omega,by omega⟩
 ·rw[hi]at he;have q:=k2 he;simp only[kK]at q;omega
theorem aaw(b:Nat):(match iY b [32,10,35] 0 with
  |some i=>(i:Int)
  |none=> -1)=if b=32 then 0 else if b=10 then 1 else if b=35 then 2 else-1:=by
 simp only[iY];by_cases h1:b=32
 ·subst h1;rfl
 by_cases h2:b=10
 ·subst h2;rfl
 by_cases h3:b=35
 ·subst h3;rfl
 have fF:=Ne.symm h1;have pv:=Ne.symm h2;have fe:=Ne.symm h3;simp[h1,h2,h3,fF,pv,fe]
theorem Am{C:iM}{f:FuncId}{p:Prim}{fst args cap:List AV}{m:Mem}{r:AV×Mem}(hp:C.jm f=some p)(h:p ((fst++args++cap).map (exp m.ε.length (C.bw f))) m=some r):aU C (.fn (.func f) fst cap) args m=some r:=by apply ur;simp only[body,hp,h]
theorem f238(s:List Nat)(c:Nat)(h:c<256)(m:Mem):kf u 238 [.str s,.int .u8 c] m=some (.int .i64 (match iY c s 0 with
  |some i=>(i:Int)
  |none=> -1),m):=by
 refine Am (p:=wJ) (by rfl) ?_;have h1:(0:Int)<=c/\(c:Int)<256:=by omega
 simp only[List.nil_append,List.append_nil,ay,aA,exp,wJ,h1,and_self,if_true,Int.toNat_natCast];cases iY c s 0<;>rfl
theorem packed{gl:Nat->AV}{c:cx}{a:AC}{s:St}{I:St->Prop}(M:St->Prop)(h:∃s',exec gl c fI a s=some (.normal,s')/\M s')(k:∀s',M s'->I s'):∃s',exec gl c fI a s=some (.normal,s')/\I s':=
 h.imp fun s' h=>⟨h.1,k s' h.2⟩
theorem f202(s:List Nat)(hs:cX s)(n:Nat)(hn:n<=s.length)(hl:s.length<4000000000)(m:Mem):
  kf u 202 [.str s,.int .i64 n] m=some (.int .i64 ((n+bO false (s.drop n):Nat):Int),m):=by
 refine bD (g:=Fk) rfl rfl rfl ?_;simp only[ay,aA,exp,Fk,Oj];generalize Le:n+bO false (s.drop n)=sV;let K:St->Prop:=fun st=>ζ st.env 0= .str s/\st.mem= {ε:=m.ε,θ:=[]};let I:Nat->St->Prop:=fun i st=>K st/\∃p:Nat,ζ st.env 1= .int .i64 p/\i<=p/\p<=s.length/\p+bO false (s.drop p)=sV;refine ω (I 0) ?_ fun s1 hI=>?_
 ·simp[I,K];exact⟨n,rfl,hn,Le⟩
 refine bc (fun st=>K st/\ζ st.env 1= .int .i64 sV) ?_ fun s2 ⟨⟨h1,h2⟩,h3⟩=>?_
 ·refine μ.block (μ.loop (I:=I) s.length hI fun i st hi ψ=>?_);obtain⟨⟨q1,q2⟩,p,q3,q4,q5,q6⟩:=ψ;have e:=fun(b:Nat) (hb:b<256)=>f238 (u:=u) [32,10,35] b hb;have mO:∀m,kf u 238 [.str (s.drop p),.int .u8 10] m=some (.int .i64 (match iY 10 (s.drop p) 0 with
    |some i=>(i:Int)
    |none=> -1),m):=f238 (u:=u) (s.drop p) 10 (by omega)
  have UG:∀m,kf u 238 [.str [32,10,35],.int .u8 32] m=some (.int .i64 0,m):=f238 (u:=u) [32,10,35] 32 (by omega);have UF:∀m,kf u 238 [.str [32,10,35],.int .u8 10] m=some (.int .i64 1,m):=f238 (u:=u) [32,10,35] 10 (by omega);have Ni:∀m,kf u 238 [.str [32,10,35],.int .u8 35] m=some (.int .i64 2,m):=f238 (u:=u) [32,10,35] 35 (by omega);rcases bP p s.length with ρ|cG
  ·have hb:s[p]<256:=hs _ (cL ρ);have dq:(p:Int)<s.length:=by omega
   have e:=e s[p] hb;simp only[aaw]at e;have hw:a_ .i64 ((p:Int)+1)=(p:Int)+1:=wrap_i64 (by omega) (by omega);have kk:=fun JO=>acY ρ JO (by omega);by_cases c1:s[p]=32
   ·left;have hx:=yk ρ;simp only[c1,true_or,if_true]at hx;refine⟨by omega,?_⟩;refine packed (fun st=>K st/\ζ st.env 1= .int .i64 ((p+1:Nat):Int)) ?_ fun s' h=>⟨h.1,p+1,h.2,by omega,by omega,by omega⟩;simp[K,yj,q1,q2,q3,ρ,c1,UG,hw]
   by_cases c2:s[p]=10
   ·left;have hx:=yk ρ;simp only[c2,or_true,if_true]at hx;refine⟨by omega,?_⟩;refine packed (fun st=>K st/\ζ st.env 1= .int .i64 ((p+1:Nat):Int)) ?_ fun s' h=>⟨h.1,p+1,h.2,by omega,by omega,by omega⟩;simp[K,yj,q1,q2,q3,ρ,c2,UF,hw]
   by_cases c3:s[p]=35
   ·left;obtain⟨k1,k2⟩:=kk c3;refine⟨by omega,?_⟩;have ig:¬(s.length:Int)<p:=by omega
    cases aH:iY 10 (s.drop p) 0 with
    |none=>
     have k2:=k2 aH
     rw[aH]at mO;refine packed (fun st=>K st/\ζ st.env 1= .int .i64 ((s.length:Nat):Int)) ?_ fun s' h=>⟨h.1,s.length,h.2,by omega,by omega,by simp[bO];omega⟩;simp[K,yj,q1,q2,q3,ρ,c3,Ni,mO,bound,q5,mL]
    |some x=>
     obtain⟨k1,k3,k4⟩:=k1 x aH
     rw[aH]at mO;have ji:a_ .i64 ((p:Int)+x)=(p:Int)+x:=wrap_i64 (by omega) (by omega);refine packed (fun st=>K st/\ζ st.env 1= .int .i64 ((p+x:Nat):Int)) ?_ fun s' h=>⟨h.1,p+x,h.2,by omega,by omega,by omega⟩;simp[K,yj,q1,q2,q3,ρ,c3,Ni,mO,ji,bound,q5,mL]
   ·right;have hx:=yk ρ;simp only[c1,c2,c3,or_self,if_false]at hx;simp only[c1,c2,c3,if_false]at e;have:sV=p:=by omega
    subst this;simp[yj,K,q1,q2,q3,ρ,e]
  ·right;have:p=s.length:=by omega
   subst this;have hz:bO false (s.drop s.length)=0:=by simp[bO]
   have:sV=s.length:=by omega
   subst this;simp[yj,K,q1,q2,q3]
 ·simp[h1,h2,h3]
theorem μ.jt{gl:Nat->AV}{c:cx}{a:AC}{I:Nat->St->Prop}{Q:Ex×St->Prop}(n:Nat){s:St}(h0:I 0 s)
  (step:∀i s,i<=n->I i s->μ gl c a s fun r=>(r.1= .normal/\i<n/\I (i+1) r.2)\/(r.1≠ .normal/\Q r)):μ gl c (.loop a) s Q:=by
 refine μ.loop n h0 fun i s hi hs=>?_;obtain⟨⟨e,s'⟩,h1,h2⟩:=step i s hi hs;rcases h2 with⟨rfl,h2,h3⟩|⟨h2,h3⟩
 ·exact .inl ⟨h2,s',h1,h3⟩
 ·exact .inr ⟨_,h1,h2,h3⟩
theorem Sm{s:List Nat}{p:Nat}(h:p<s.length):bO true (s.drop p)=if s[p]=10 then bO false (s.drop (p+1))+1 else bO true (s.drop (p+1))+1:=by rw[jR h];rfl
theorem μ.done{gl:Nat->AV}{c:cx}{a:AC}{s:St}{Q:Ex×St->Prop}(ex:Ex)(M:St->Prop)(h:∃s',exec gl c fI a s=some (ex,s')/\M s')(k:∀s',M s'->Q (ex,s')):μ gl c a s Q:=by obtain⟨s',h1,h2⟩:=h;exact⟨_,h1,k s' h2⟩
theorem f194(s:List Nat)(n:Nat)(hn:n<=s.length)(hl:s.length<4000000000)(m:Mem):
  kf u 194 [.str s,.int .i64 n] m=some (.int .i64 ((n+bO false (s.drop n):Nat):Int),m):=by
 refine bD (g:=Ff) rfl rfl rfl ?_;simp only[ay,aA,exp,Ff,c194];generalize Le:n+bO false (s.drop n)=sV;let K:St->Prop:=fun st=>ζ st.env 0= .str s/\st.mem= {ε:=m.ε,θ:=[]};let I:Nat->St->Prop:=fun i st=>K st/\∃p:Nat,ζ st.env 1= .int .i64 p/\i<=p/\p<=s.length/\p+bO false (s.drop p)=sV;refine ω (I 0) ?_ fun s1 hI=>?_
 ·simp[I,K];exact⟨n,rfl,hn,Le⟩
 refine bc (fun st=>K st/\ζ st.env 1= .int .i64 sV) ?_ fun s2 ⟨⟨h1,h2⟩,h3⟩=>?_
 ·refine μ.block (μ.jt (I:=I) s.length hI fun i st hi ψ=>?_);obtain⟨⟨q1,q2⟩,p,q3,q4,q5,q6⟩:=ψ;unfold RW;rcases bP p s.length with ρ|cG
  ·have dq:(p:Int)<s.length:=by omega
   have hw:a_ .i64 ((p:Int)+1)=(p:Int)+1:=wrap_i64 (by omega) (by omega);refine ω (fun st=>K st/\ζ st.env 1= .int .i64 p) (by simp[K,q1,q2,q3,ρ]) fun s1 ⟨⟨q1,q2⟩,q3⟩=>?_;refine μ.block ?_;refine ω (fun st=>(K st/\ζ st.env 1= .int .i64 p)/\ζ st.env 12= .bool (decide (s[p]=35))) (by
    by_cases c:s[p]=35
    ·simp[K,q1,q2,q3,ρ,c]
    ·have c':¬(s[p]:Int)=35:=by omega
     simp[K,q1,q2,q3,ρ,c,c']) fun s1 ⟨⟨⟨q1,q2⟩,q3⟩,q7⟩=>?_
   by_cases c3:s[p]=35
   ·refine μ.yes (by simp[q7,c3]) ?_;let J:Nat->St->Prop:=fun j st=>K st/\∃q:Nat,ζ st.env 1= .int .i64 q/\p<=q/\j<=q/\q<=s.length/\q+bO true (s.drop q)=sV;have h0:bO true (s.drop p)=bO false (s.drop p):=by rw[yk ρ,Sm ρ];simp[c3]
    have hJ:J 0 s1:=⟨⟨q1,q2⟩,p,q3,Nat.le_refl _,qu _,q5,by omega⟩;refine μ.block (μ.jt (I:=J) s.length hJ fun j st hj ψ=>?_);obtain⟨⟨q1,q2⟩,q,q3,r4,r5,r6,r7⟩:=ψ;unfold RU;rcases bP q s.length with tH|cG
    ·have hx:=Sm tH;have Lk:a_ .i64 ((q:Int)+1)=(q:Int)+1:=wrap_i64 (by omega) (by omega);by_cases d:s[q]=10
     ·have pV:=yk tH;simp only[d,if_true]at hx;simp only[d,or_true,if_true]at pV;have:p≠q:=fun he=>by subst he;omega
      refine μ.done (.exit 2) (fun st=>K st/\ζ st.env 1= .int .i64 q) (by simp[K,q1,q2,q3,tH,d]) fun s' h=> .inr ⟨by simp,?_⟩;refine .inl ⟨rfl,.inr ⟨by simp,.inl ⟨rfl,by omega,h.1,q,h.2,by omega,by omega,by omega⟩⟩⟩
     ·have d':¬(s[q]:Int)=10:=by omega
      simp only[d,if_false]at hx;refine μ.done .normal (fun st=>K st/\ζ st.env 1= .int .i64 ((q+1:Nat):Int)) (by simp[K,q1,q2,q3,tH,d,d',Lk]) fun s' h=> .inl ⟨rfl,by omega,h.1,q+1,h.2,by omega,by omega,by omega,by omega⟩
    ·have:q=s.length:=by omega
     subst this;have hz:bO true (s.drop s.length)=0:=by simp[bO]
     refine μ.done (.exit 2) (fun st=>K st/\ζ st.env 1= .int .i64 s.length) (by simp[K,q1,q2,q3]) fun s' h=> .inr ⟨by simp,?_⟩;refine .inl ⟨rfl,.inr ⟨by simp,.inl ⟨rfl,by omega,h.1,s.length,h.2,by omega,by omega,by simp[bO];omega⟩⟩⟩
   ·refine μ.no (by simp[q7,c3]) ?_;have hx:=yk ρ;have c3':¬(s[p]:Int)=35:=by omega
    by_cases c1:s[p]=32
    ·simp only[c1,true_or,if_true]at hx;refine μ.done .normal (fun st=>K st/\ζ st.env 1= .int .i64 ((p+1:Nat):Int)) (by simp[K,q1,q2,q3,ρ,c1,hw]) fun s' h=> .inr ⟨by simp,.inl ⟨rfl,by omega,h.1,p+1,h.2,by omega,by omega,by omega⟩⟩
    have xh:¬(s[p]:Int)=32:=by omega
    by_cases c2:s[p]=10
    ·simp only[c2,or_true,if_true]at hx;refine μ.done .normal (fun st=>K st/\ζ st.env 1= .int .i64 ((p+1:Nat):Int)) (by simp[K,q1,q2,q3,ρ,c2,hw]) fun s' h=> .inr ⟨by simp,.inl ⟨rfl,by omega,h.1,p+1,h.2,by omega,by omega,by omega⟩⟩
    have nU:¬(s[p]:Int)=10:=by omega
    simp only[c1,c2,c3,or_self,if_false]at hx;have b1:((s[p]:Int)==32)=false:=beq_eq_false_iff_ne.2 xh;have b2:((s[p]:Int)==10)=false:=beq_eq_false_iff_ne.2 nU;have:sV=p:=by omega
    subst this;refine μ.done .ret (fun st=>K st/\ζ st.env 4= .int .i64 sV) (by simp[K,q1,q2,q3,ρ,b1,b2]) fun s' ⟨⟨h1,h2⟩,h3⟩=>?_;simp[h1,h2,h3]
  ·have:p=s.length:=by omega
   subst this;have hz:bO false (s.drop s.length)=0:=by simp[bO]
   have:sV=s.length:=by omega
   subst this;simp[K,q1,q2,q3]
 ·simp[h1,h2,h3]
theorem f234(b:Nat)(m:Mem):kf u 234 [.int .u8 b] m=some (.bool (isLet b),m):=by
 refine bD (g:=FC) rfl rfl rfl ?_;simp only[ay,aA,exp,FC,c234];by_cases h1:97<=b<;>by_cases h2:b<=122
 ·have fF:(97:Int)<=b:=by omega
  have pv:(b:Int)<=122:=by omega
  simp[isLet,h1,h2,fF,pv]
 ·have fF:(97:Int)<=b:=by omega
  have pv:¬(b:Int)<=122:=by omega
  simp[isLet,h1,h2,fF,pv]
 ·have fF:¬(97:Int)<=b:=by omega
  simp[isLet,h1,h2,fF]
 ·have fF:¬(97:Int)<=b:=by omega
  simp[isLet,h1,h2,fF]
theorem f235(b:Nat)(m:Mem):kf u 235 [.int .u8 b] m=some (.bool (dx b),m):=by
 refine bD (g:=FD) rfl rfl rfl ?_;simp only[ay,aA,exp,FD,Oy];by_cases h1:48<=b<;>by_cases h2:b<=57
 ·have fF:(48:Int)<=b:=by omega
  have pv:(b:Int)<=57:=by omega
  simp[dx,h1,h2,fF,pv]
 ·have fF:(48:Int)<=b:=by omega
  have pv:¬(b:Int)<=57:=by omega
  simp[dx,h1,h2,fF,pv]
 ·have fF:¬(48:Int)<=b:=by omega
  simp[dx,h1,h2,fF]
 ·have fF:¬(48:Int)<=b:=by omega
  simp[dx,h1,h2,fF]
attribute [local simp] lf
theorem yE{f:Nat->Bool}{s:List Nat}{p:Nat}(h:p<s.length):runN f (s.drop p)=if f s[p]then runN f (s.drop (p+1))+1 else 0:=by rw[jR h];rfl
theorem MF{f:Nat->Bool}{s:List Nat}:runN f (s.drop s.length)=0:=by simp[runN]
theorem Dj{s:List Nat}{a i:Nat}(h:a<=i):(s.take i).drop a=(s.drop a).take (i-a):=by rw[List.drop_take]
def _root_.Go.ah.Tok.u9(t:Tok):AV:= .agg [.int .i64 t.at_,.int .i64 t.kind,.str t.cut]
theorem H7{s:List Nat}{p:Nat}(h:p<s.length):dA p (s.drop p)=
  if isLet s[p]then⟨p,1,(s.drop p).take (runN isLet (s.drop p)),if 8<runN isLet (s.drop p)then p+8 else-1⟩
  else if dx s[p]then⟨p,2,(s.drop p).take (runN dx (s.drop p)),if 1<runN dx (s.drop p)/\s[p]=48 then p+1 else if 2<runN dx (s.drop p)then p+2 else-1⟩
  else if s[p]∈eD then⟨p,s[p],[s[p]],-1⟩
  else⟨p,0,[s[p]],p⟩:=by
 rw[jR h];rfl
def tw(t:Tok):AV:= .aP [t.u9,.int .i64 t.cZ]
theorem f195(s:List Nat)(p:Nat)(hp:p<s.length)(hl:s.length<4000000000)(m:Mem):
  kf u 195 [.str s,.int .i64 p,.int .i64 2,.str eD] m=some (tw (dA p (s.drop p)),m):=by
 refine bD (g:=Fg) rfl rfl rfl ?_;simp only[ay,aA,exp,Fg,Oh];let K:St->Prop:=fun st=>ζ st.env 0= .str s/\ζ st.env 1= .int .i64 p/\ζ st.env 2= .int .i64 2/\ζ st.env 3= .str eD/\ζ st.env 8= .ae 8 0 0/\ζ st.env 10= .ae 10 0 0/\(∃x y z,τ st.loc 8=some (0,.cells [x,y,z]))/\st.mem= {ε:=m.ε,θ:=[]};let T:Nat->List Nat->St->Prop:=fun k t st=>τ st.loc 10=some (0,.cells [.int .i64 p,.int .i64 k,.str t]);have fS:=H7 hp;refine ω (fun st=>ζ st.env 0= .str s/\ζ st.env 1= .int .i64 p/\ζ st.env 2= .int .i64 2/\ζ st.env 3= .str eD/\ζ st.env 8= .ae 8 0 0/\τ st.loc 8=some (0,.cells [.int .i64 0,.int .i64 0,.str []])/\τ st.loc 10=none/\st.mem= {ε:=m.ε,θ:=[]}) (by simp[aR]) fun s1 ⟨h0,h1,h2,h3,h4,h5,h6,h7⟩=>?_;refine ω (fun st=>K st/\T 0 [] st) (by simp[K,T,h0,h1,h2,h3,h4,h5,h6,h7,cF,aR]) fun s2 ⟨⟨h0,h1,h2,h3,h4,h5,⟨x,y,z,h6⟩,h7⟩,h8⟩=>?_;simp only[T]at h8;have HT:=fun(i:Nat) m=>f234 (u:=u) i m;have C8:=fun(i:Nat) m=>f235 (u:=u) i m;have hq:(∀i,(Ex.ret:Ex)≠ .exit i):=by simp
 refine bc (fun st=>K st/\T 0 [] st/\isLet s[p]=false) ?_ fun s3 ⟨⟨h0,h1,h2,h3,h4,h5,⟨x,y,z,h6⟩,h7⟩,h8,h9⟩=>?_
 ·refine ω (fun st=>(K st/\T 0 [] st)/\ζ st.env 19= .bool (isLet s[p])) (by simp[K,T,h0,h1,h2,h3,h4,h5,h6,h7,h8,hp,HT]) fun s3 ⟨⟨⟨h0,h1,h2,h3,h4,h5,⟨x,y,z,h6⟩,h7⟩,h8⟩,h9⟩=>?_;cases hc:isLet s[p]with
  |false=>exact μ.no (by simp[h9,hc]) ⟨_,rfl,.inl ⟨rfl,⟨h0,h1,h2,h3,h4,h5,⟨x,y,z,h6⟩,h7⟩,h8,rfl⟩⟩
  |true=>
   rw[hc]at fS
   simp only[if_true]at fS;generalize hr:runN isLet (s.drop p)=r at fS;have hrp:0<r:=by rw[<-hr,yE hp,hc];simp
   refine μ.yes (by simp[h9,hc]) ?_;simp only[T]at h8;refine ω (fun st=>K st/\T 1 [] st) (by simp[K,T,h0,h1,h2,h3,h4,h5,h6,h7,h8]) fun s4 ⟨⟨h0,h1,h2,h3,h4,h5,⟨x,y,z,h6⟩,h7⟩,h8⟩=>?_;simp only[T]at h8;let I:Nat->St->Prop:=fun j st=>K st/\∃q:Nat,T 1 ((s.drop p).take j) st/\ζ st.env 11= .int .i64 q/\q=p+j/\q<=s.length/\j<=8/\r=j+runN isLet (s.drop q);refine bc (fun st=>K st/\T 1 ((s.drop p).take r) st/\r<=8) ?_ fun s5 ⟨⟨h0,h1,h2,h3,h4,h5,⟨x,y,z,h6⟩,h7⟩,h8,h9⟩=>?_
   ·refine ω (I 0) (by simp[I,K,T,h0,h1,h2,h3,h4,h5,h6,h7,h8,hr];exact⟨p,rfl,rfl,by omega,hr.symm⟩) fun s5 hI=>?_;refine μ.block (μ.jt (I:=I) 8 hI fun j st hj ψ=>?_);obtain⟨⟨h0,h1,h2,h3,h4,h5,⟨x,y,z,h6⟩,h7⟩,q,h8,h9,ha,hb,iS,hd⟩:=ψ;simp only[T]at h8;unfold RX;rcases bP q s.length with ρ|cG
    ·rw[yE ρ]at hd;cases hi:isLet s[q]with
     |false=>
      simp only[hi,gY,if_false]at hd
      have:j=r:=by omega
      subst this;refine μ.done (.exit 0) (fun st=>K st/\T 1 ((s.drop p).take j) st) (by simp[K,T,h0,h1,h2,h3,h4,h5,h6,h7,h8,h9,ρ,HT,hi]) fun s' h=> .inr ⟨by simp,.inl ⟨rfl,.inl ⟨rfl,h.1,h.2,iS⟩⟩⟩
     |true=>
      simp only[hi,if_true]at hd
      have hlen:((s.drop p).take j).length=j:=by simp;omega
      by_cases kP:j=8
      ·subst kP;have Cp:(q:Int)=p+8:=by omega
       refine μ.done .ret (fun st=>ζ st.env 8= .ae 8 0 0/\τ st.loc 8=some (0,.cells [.int .i64 p,.int .i64 1,.str ((s.drop p).take 8)])/\ζ st.env 9= .int .i64 q/\st.mem= {ε:=m.ε,θ:=[]}) (by simp[h0,h1,h2,h3,h4,h5,h6,h7,h8,h9,ρ,HT,hi,hlen]) fun s' ⟨k1,k2,k3,k4⟩=> .inr ⟨by simp,?_⟩;have e8:8<r:=by omega
       have Jn:8<=r:=by omega
       simp[k1,k2,k3,k4,Cp,fS,e8,tw,Tok.u9,Tok.cut,ahP,ahQ Jn];rfl
      ·have GP:¬((j:Int)=8):=by omega
       have hw:a_ .i64 ((q:Int)+1)=(q:Int)+1:=wrap_i64 (by omega) (by omega);have sx:(s.take (q+1)).drop p=(s.drop p).take (j+1):=by rw[Dj (by omega)];congr 1;omega
       have bN:(p:Int)<=(q:Int)+1:=by omega
       have cQ:(0:Int)<=(q:Int)+1:=by omega
       have mS:(q:Int)+1<=s.length:=by omega
       refine μ.done .normal (fun st=>K st/\T 1 ((s.drop p).take (j+1)) st/\ζ st.env 11= .int .i64 ((q+1:Nat):Int)) (by simp[K,T,h0,h1,h2,h3,h4,h5,h6,h7,h8,h9,ρ,HT,hi,hlen,GP,hw,bound,sx,bN,cQ,mS]) fun s' h=> .inl ⟨rfl,by omega,h.1,q+1,h.2.1,h.2.2,by omega,by omega,by omega,by omega⟩
    ·have:q=s.length:=by omega
     subst this;rw[MF]at hd;have:j=r:=by omega
     subst this;refine μ.done (.exit 0) (fun st=>K st/\T 1 ((s.drop p).take j) st) (by simp[K,T,h0,h1,h2,h3,h4,h5,h6,h7,h8,h9]) fun s' h=> .inr ⟨by simp,.inl ⟨rfl,.inl ⟨rfl,h.1,h.2,iS⟩⟩⟩
   ·simp only[T]at h8;have e8:¬8<r:=by omega
    simp[h0,h1,h2,h3,h4,h5,h6,h7,h8,fS,e8,tw,Tok.u9,Tok.cut];rfl
 refine bc (fun st=>K st/\T 0 [] st/\dx s[p]=false) ?_ fun s4 ⟨⟨h0,h1,h2,h3,h4,h5,⟨x,y,z,h6⟩,h7⟩,h8,aH⟩=>?_
 ·simp only[T]at h8;refine ω (fun st=>(K st/\T 0 [] st)/\ζ st.env 50= .bool (dx s[p])) (by simp[K,T,h0,h1,h2,h3,h4,h5,h6,h7,h8,hp,C8]) fun s3 ⟨⟨⟨h0,h1,h2,h3,h4,h5,⟨x,y,z,h6⟩,h7⟩,h8⟩,cO⟩=>?_;cases hc:dx s[p]with
  |false=>exact μ.no (by simp[cO,hc]) ⟨_,rfl,.inl ⟨rfl,⟨h0,h1,h2,h3,h4,h5,⟨x,y,z,h6⟩,h7⟩,h8,rfl⟩⟩
  |true=>
   rw[h9,hc]at fS
   simp only[if_true,gY,if_false]at fS;generalize hr:runN dx (s.drop p)=r at fS;have hrp:0<r:=by rw[<-hr,yE hp,hc];simp
   have Ka:∀j,0<j->((s.drop p).take j).head?=some s[p]:=fun j hj=>by
    rw[jR hp];cases j with
    |zero=>omega
    |succ j=>rfl
   refine μ.yes (by simp[cO,hc]) ?_;simp only[T]at h8;refine ω (fun st=>K st/\T 2 [] st) (by simp[K,T,h0,h1,h2,h3,h4,h5,h6,h7,h8]) fun s4 ⟨⟨h0,h1,h2,h3,h4,h5,⟨x,y,z,h6⟩,h7⟩,h8⟩=>?_;simp only[T]at h8;let I:Nat->St->Prop:=fun j st=>K st/\∃q:Nat,T 2 ((s.drop p).take j) st/\ζ st.env 12= .int .i64 q/\q=p+j/\q<=s.length/\j<=2/\r=j+runN dx (s.drop q)/\(j=2->s[p]≠48);refine bc (fun st=>K st/\T 2 ((s.drop p).take r) st/\r<=2/\(1<r->s[p]≠48)) ?_ fun s5 ⟨⟨h0,h1,h2,h3,h4,h5,⟨x,y,z,h6⟩,h7⟩,h8,h9,hz⟩=>?_
   ·refine ω (I 0) (by simp[I,K,T,h0,h1,h2,h3,h4,h5,h6,h7,h8,hr];exact⟨p,rfl,rfl,by omega,hr.symm⟩) fun s5 hI=>?_;refine μ.block (μ.jt (I:=I) 2 hI fun j st hj ψ=>?_);obtain⟨⟨h0,h1,h2,h3,h4,h5,⟨x,y,z,h6⟩,h7⟩,q,h8,h9,ha,hb,iS,hd,hz⟩:=ψ;simp only[T]at h8;unfold RY;rcases bP q s.length with ρ|cG
    ·rw[yE ρ]at hd;cases hi:dx s[q]with
     |false=>
      simp only[hi,gY,if_false]at hd
      have:j=r:=by omega
      subst this;refine μ.done (.exit 2) (fun st=>K st/\T 2 ((s.drop p).take j) st) (by simp[K,T,h0,h1,h2,h3,h4,h5,h6,h7,h8,h9,ρ,C8,hi]) fun s' h=> .inr ⟨by simp,.inl ⟨rfl,.inl ⟨rfl,h.1,h.2,iS,fun h=>hz (by omega)⟩⟩⟩
     |true=>
      simp only[hi,if_true]at hd
      have hlen:((s.drop p).take j).length=j:=by simp;omega
      have out:∀s',ζ s'.env 8= .ae 8 0 0/\τ s'.loc 8=some (0,.cells [.int .i64 p,.int .i64 2,.str ((s.drop p).take j)])/\ζ s'.env 9= .int .i64 q/\s'.mem= {ε:=m.ε,θ:=[]}->(j=2\/j=1/\s[p]=48)->∃l,aY s' [.cell 8 true 3,.tmp 9]=some l/\ai s'.mem.ε m.ε.length 8 (aV l)=tw (dA p (s.drop p)):=by
       intro s' ⟨k1,k2,k3,k4⟩ hj;have Rh:j<r:=by omega
       rcases hj with hj|⟨hj,dp⟩
       ·have hz:=hz hj;subst hj;have Jn:2<=r:=by omega
        have Cp:(q:Int)=p+2:=by omega
        have ak:¬((s.drop p).take r).head?=some 48:=by rw[Ka r (by omega)];simpa using hz
        have ig:¬(p:Int)+2<0:=by omega
        simp[k1,k2,k3,k4,Cp,fS,Rh,hz,ig,ak,tw,Tok.u9,Tok.cut,ahP,ahQ Jn];rfl
       ·subst hj;have Cp:(q:Int)=p+1:=by omega
        have uF:(s.drop p).take 1=[48]:=by rw[jR hp];simp[dp]
        have ig:¬(p:Int)+1<0:=by omega
        simp[k1,k2,k3,k4,Cp,fS,Rh,dp,ig,tw,Tok.u9,Tok.cut,uF,Ka r (by omega)];rfl
      by_cases kP:j=2
      ·refine μ.done .ret (fun st=>ζ st.env 8= .ae 8 0 0/\τ st.loc 8=some (0,.cells [.int .i64 p,.int .i64 2,.str ((s.drop p).take j)])/\ζ st.env 9= .int .i64 q/\st.mem= {ε:=m.ε,θ:=[]}) (by simp[h0,h1,h2,h3,h4,h5,h6,h7,h8,h9,ρ,C8,hi,hlen,beq_iff_eq.2 (show(j:Int)=2 by omega)]) fun s' hh=> .inr ⟨by simp,.inr ⟨by simp,.inr ⟨by simp,?_⟩⟩⟩;exact .inr ⟨by simp,by simp,⟨[],by simp[hh.2.2.2]⟩,out s' hh (.inl kP)⟩
      have GP:¬((j:Int)=2):=by omega
      have Zk:((j:Int)==2)=false:=beq_eq_false_iff_ne.2 GP;by_cases BN:(s.drop p).take j=[48]
      ·have Ky:j=1:=by rw[<-hlen,BN];rfl
       have kS:s[p]=48:=by have:=Ka j (by omega);rw[BN]at this;simpa using this.symm
       refine μ.done .ret (fun st=>ζ st.env 8= .ae 8 0 0/\τ st.loc 8=some (0,.cells [.int .i64 p,.int .i64 2,.str ((s.drop p).take j)])/\ζ st.env 9= .int .i64 q/\st.mem= {ε:=m.ε,θ:=[]}) (by simp[h0,h1,h2,h3,h4,h5,h6,h7,h8,h9,ρ,C8,hi,BN]) fun s' hh=> .inr ⟨by simp,.inr ⟨by simp,.inr ⟨by simp,?_⟩⟩⟩;exact .inr ⟨by simp,by simp,⟨[],by simp[hh.2.2.2]⟩,out s' hh (.inr ⟨Ky,kS⟩)⟩
      ·have hw:a_ .i64 ((q:Int)+1)=(q:Int)+1:=wrap_i64 (by omega) (by omega);have sx:(s.take (q+1)).drop p=(s.drop p).take (j+1):=by rw[Dj (by omega)];congr 1;omega
       have bN:(p:Int)<=(q:Int)+1:=by omega
       have cQ:(0:Int)<=(q:Int)+1:=by omega
       have mS:(q:Int)+1<=s.length:=by omega
       refine μ.done .normal (fun st=>K st/\T 2 ((s.drop p).take (j+1)) st/\ζ st.env 12= .int .i64 ((q+1:Nat):Int)) (by simp[K,T,h0,h1,h2,h3,h4,h5,h6,h7,h8,h9,ρ,C8,hi,hlen,GP,Zk,BN,hw,bound,sx,bN,cQ,mS]) fun s' h=> .inl ⟨rfl,by omega,h.1,q+1,h.2.1,h.2.2,by omega,by omega,by omega,by omega,fun xO he=>BN ?_⟩;have Ky:j=1:=by omega
       rw[Ky,jR hp,he];rfl
    ·have:q=s.length:=by omega
     subst this;rw[MF]at hd;have:j=r:=by omega
     subst this;refine μ.done (.exit 2) (fun st=>K st/\T 2 ((s.drop p).take j) st) (by simp[K,T,h0,h1,h2,h3,h4,h5,h6,h7,h8,h9]) fun s' h=> .inr ⟨by simp,.inl ⟨rfl,.inl ⟨rfl,h.1,h.2,iS,fun h=>hz (by omega)⟩⟩⟩
   ·simp only[T]at h8;have e8:¬2<r:=by omega
    have e9:¬(1<r/\s[p]=48):=fun h=>hz h.1 h.2;simp[h0,h1,h2,h3,h4,h5,h6,h7,h8,fS,e8,e9,tw,Tok.u9,Tok.cut];rfl
 rw[h9,aH]at fS;simp only[gY,if_false]at fS;simp only[T]at h8;have bN:(p:Int)<=(p:Int)+1:=by omega
 have cQ:(0:Int)<=(p:Int)+1:=by omega
 have mS:(p:Int)+1<=s.length:=by omega
 have hw:a_ .i64 ((p:Int)+1)=(p:Int)+1:=wrap_i64 (by omega) (by omega);have sx:(s.take (p+1)).drop p=[s[p]]:=by rw[Dj (by omega),show p+1-p=1 by omega,jR hp];rfl
 have ij:eD.length=13:=rfl;let I:Nat->St->Prop:=fun j st=>K st/\T 0 [] st/\ζ st.env 13= .int .i64 j/\∀i (h:i<eD.length),i<j->eD[i]≠s[p];refine bc (fun st=>K st/\T 0 [] st/\¬s[p]∈eD) ?_ fun s5 ⟨⟨h0,h1,h2,h3,h4,h5,⟨x,y,z,h6⟩,h7⟩,h8,h9⟩=>?_
 ·refine ω (I 0) (by simp[I,K,T,h0,h1,h2,h3,h4,h5,h6,h7,h8]) fun s5 hI=>?_;refine μ.block (μ.jt (I:=I) 13 hI fun j st hj ψ=>?_);obtain⟨⟨h0,h1,h2,h3,h4,h5,⟨x,y,z,h6⟩,h7⟩,h8,h9,ha⟩:=ψ;simp only[T]at h8;unfold RZ;rcases bP j 13 with ρ|cG
  ·have dq:j<eD.length:=by omega
   have dk:(j:Int)<13:=by omega
   have zO:eD[j]?=some eD[j]:=List.getElem?_eq_getElem dq;have ji:a_ .i64 ((j:Int)+1)=(j:Int)+1:=wrap_i64 (by omega) (by omega);by_cases hc:eD[j]=s[p]
   ·have ca:s[p]∈eD:=by rw[<-hc];exact cL dq
    rw[if_pos ca]at fS;have XS:a_ .i64 (s[p]:Int)=(s[p]:Int):=wrap_i64 (by omega) (by have:=(by decide:∀b∈eD,b<=125) _ ca;omega);refine μ.done .ret (fun st=>ζ st.env 8= .ae 8 0 0/\τ st.loc 8=some (0,.cells [.int .i64 p,.int .i64 s[p],.str [s[p]]])/\ζ st.env 9= .int .i64 (-1)/\st.mem= {ε:=m.ε,θ:=[]}) (by simp[h0,h1,h2,h3,h4,h5,h6,h7,h8,h9,ij,zO,dk,hc,hp,XS,hw,bound,sx,bN,cQ,mS]) fun s' ⟨k1,k2,k3,k4⟩=> .inr ⟨by simp,?_⟩;simp[k1,k2,k3,k4,fS,tw,Tok.u9,Tok.cut];rfl
   ·have gj:¬(eD[j]:Int)=s[p]:=by omega
    refine μ.done .normal (fun st=>K st/\T 0 [] st/\ζ st.env 13= .int .i64 ((j+1:Nat):Int)) (by simp[K,T,h0,h1,h2,h3,h4,h5,h6,h7,h8,h9,ij,zO,dk,hc,gj,hp,ji]) fun s' h=> .inl ⟨rfl,by omega,h.1,h.2.1,h.2.2,fun i hi nG=>?_⟩;rcases bP i j with hl|hl
    ·exact ha i hi hl
    ·have:i=j:=by omega
     subst this;exact hc
  ·have:j=13:=by omega
   subst this;refine μ.done (.exit 4) (fun st=>K st/\T 0 [] st) (by simp[K,T,h0,h1,h2,h3,h4,h5,h6,h7,h8,h9,ij]) fun s' h=> .inr ⟨by simp,.inl ⟨rfl,.inl ⟨rfl,h.1,h.2,fun hm=>?_⟩⟩⟩;obtain⟨i,hi,he⟩:=List.getElem_of_mem hm;exact ha i hi (by omega) he
 ·simp only[T]at h8;rw[if_neg h9]at fS;simp[h0,h1,h2,h3,h4,h5,h6,h7,h8,fS,tw,Tok.u9,Tok.cut];rfl
def sM(s:List Nat)(p:Nat):List AV:=[.str s,.int .i64 2,.str eD,.int .i64 p,.int .i64 (dA p (s.drop p)).at_,.int .i64 (dA p (s.drop p)).kind,.str (dA p (s.drop p)).cut,.int .i64 (dA p (s.drop p)).cZ,.bool (decide (p=s.length))]
theorem f128(s:List Nat)(at':Nat)(a k w:Int)(nn:Bool)(MY:List Nat)(n:Nat)(hn:n=at'+MY.length)(h:n<=s.length)(hl:s.length<4000000000)(m:Mem):
  kf u 128 [.agg [.str s,.int .i64 2,.str eD,.int .i64 at',.int .i64 a,.int .i64 k,.str MY,.int .i64 w,.bool nn]] m=some (.agg (sM s (n+bO false (s.drop n))),m):=by
 refine bD (g:=EN) rfl rfl rfl ?_;simp only[ay,aA,exp,bn,EN,NW];have Tt:=fun m=>f194 (u:=u) s n h hl m;have hle:=CL false (s.drop n);have e1:a_ .i64 ((at':Int)+MY.length)=n:=by rw[wrap_i64 (by omega) (by omega)];omega
 generalize hp:n+bO false (s.drop n)=p at*;have bA:p<=s.length:=by simp only[kK]at hle;omega
 by_cases hc:p=s.length
 ·have ht:dA p (s.drop p)=⟨p,0,[],-1⟩:=by rw[hc];simp[dA]
  have hb:((p:Int)==s.length)=true:=beq_iff_eq.2 (by omega);simp[aR,Tt,e1,cF,sM,ht,Tok.cut,hb,hc];rfl
 ·have ρ:p<s.length:=by omega
  have ae':=fun m=>f195 (u:=u) s p ρ hl m;have hb:((p:Int)==s.length)=false:=beq_eq_false_iff_ne.2 (by omega);simp[aR,Tt,ae',e1,cF,sM,tw,Tok.u9,hb,hc];rfl
theorem f127(s:List Nat)(hl:s.length<4000000000)(m:Mem):
  kf u 127 [.str s,.int .i64 2,.str eD] m=some (.agg (sM s (bO false s)),m):=by
 have q:∀m,kf u 128 [.agg [.str s,.int .i64 2,.str eD,.int .i64 0,.int .i64 0,.int .i64 0,.str [],.int .i64 0,.bool false]] m=some (.agg (sM s (bO false s)),m):=fun m=>by have q:=f128 (u:=u) s 0 0 0 0 false [] 0 rfl (qu _) hl m;rw[List.drop_zero,Nat.zero_add]at q;exact q
 refine bD (g:=EM) rfl rfl rfl ?_;simp[exp,EM,c127,aR,cF,q,sM];rfl
end Go.ah.Tz
namespace Go.ah
mutual
def pf:AV->Bool
 | .int _ _=>true
 | .bool _=>true
 | .str _=>true
 | .list _ l=>l5 l
 | .agg l=>l5 l
 | .aP l=>l5 l
 |_=>false
def l5:List AV->Bool
 |[]=>true
 |v::l=>pf v&&l5 l
end
mutual
def gJ:AV->AV
 | .list c l=> .list (c.exp 0 false) (mo l)
 | .agg l=> .agg (mo l)
 | .aP l=> .aP (mo l)
 |v=>v
def mo:List AV->List AV
 |[]=>[]
 |v::l=>gJ v::mo l
end
theorem Ju(c:χ)(n:Nat)(k:Bool)(m:Nat):(c.exp n k).exp m false=c.exp 0 false:=by
 cases c with
 |own t=>by_cases h:(k&&decide (t<n))=true<;>simp[χ.exp,h]
 |full=>cases k<;>rfl
 |_=>rfl
mutual
theorem p9(n:Nat)(k:Bool):∀v,pf v=true->pf (exp n k v)=true/\gJ (exp n k v)=gJ v/\φ v=v/\exp n false v=gJ v
 | .int _ _,_=>⟨rfl,rfl,rfl,rfl⟩
 | .bool _,_=>⟨rfl,rfl,rfl,rfl⟩
 | .str _,_=>⟨rfl,rfl,rfl,rfl⟩
 | .list c l,h=>by obtain⟨h1,h2,h3,h4⟩:=C1 n k l (by simpa only[pf]using h);have:=Ju c 0 false n;refine⟨by simpa only[exp,pf]using h1,by simp only[exp,gJ,h2,Ju],by simp only[φ,h3],?_⟩;simp only[exp,gJ,h4];congr 1
 | .agg l,h=>by obtain⟨h1,h2,h3,h4⟩:=C1 n k l (by simpa only[pf]using h);exact⟨by simpa only[exp,pf]using h1,by simp only[exp,gJ,h2],by simp only[φ,h3],by simp only[exp,gJ,h4]⟩
 | .aP l,h=>by obtain⟨h1,h2,h3,h4⟩:=C1 n k l (by simpa only[pf]using h);exact⟨by simpa only[exp,pf]using h1,by simp only[exp,gJ,h2],by simp only[φ,h3],by simp only[exp,gJ,h4]⟩
 | .undef,h| .cR,h| .iK,h| .eJ,h| .fY,h| .fJ,h=>by simp[pf]at h
 | .ae _ _ _,h| .ν _ _,h| .ref _,h| .sl _ _ _ _ _,h| .fn _ _ _,h| .iface _ _,h| .map _,h=>by simp[pf]at h
theorem C1(n:Nat)(k:Bool):∀l,l5 l=true->l5 (bn n k l)=true/\mo (bn n k l)=mo l/\cW l=l/\bn n false l=mo l
 |[],_=>⟨rfl,rfl,rfl,rfl⟩
 |v::l,h=>by simp only[l5,jv]at h;obtain⟨h1,h2,h3,h4⟩:=p9 n k v h.1;obtain⟨k1,k2,k3,k4⟩:=C1 n k l h.2;exact⟨by simp only[bn,l5,h1,k1];rfl,by simp only[bn,mo,h2,k2],by simp only[cW,h3,k3],by simp only[bn,mo,h4,k4]⟩
end
mutual
theorem Tb(n:Nat)(hp:Nat->Nat->AV)(hs:Nat->Nat->Nat->Nat->AV):∀v,pf v=true->bK n hp hs v=gJ v
 | .int _ _,_=>rfl
 | .bool _,_=>rfl
 | .str _,_=>rfl
 | .list c l,h=>by simp only[bK,gJ,HJ n hp hs l (by simpa only[pf]using h)];congr 1
 | .agg l,h=>by simp only[bK,gJ,HJ n hp hs l (by simpa only[pf]using h)]
 | .aP l,h=>by simp only[bK,gJ,HJ n hp hs l (by simpa only[pf]using h)]
 | .undef,h| .cR,h| .iK,h| .eJ,h| .fY,h| .fJ,h=>by simp[pf]at h
 | .ae _ _ _,h| .ν _ _,h| .ref _,h| .sl _ _ _ _ _,h| .fn _ _ _,h| .iface _ _,h| .map _,h=>by simp[pf]at h
theorem HJ(n:Nat)(hp:Nat->Nat->AV)(hs:Nat->Nat->Nat->Nat->AV):∀l,l5 l=true->hU n hp hs l=mo l
 |[],_=>rfl
 |v::l,h=>by simp only[l5,jv]at h;simp only[hU,mo,Tb n hp hs v h.1,HJ n hp hs l h.2]
end
theorem aeK(bs:List κ)(n k:Nat){v:AV}(h:pf v=true):ai bs n k v=gJ v:=by
 cases k with
 |zero=>exact(p9 n false v h).2.2.2
 |succ k=>exact Tb n _ _ v h
theorem Jc(l:List AV):mo l=l.map gJ:=by
 induction l with
 |nil=>rfl
 |cons a l ih=>simp[mo,ih]
theorem CZ(l:List AV):l5 l=l.all pf:=by
 induction l with
 |nil=>rfl
 |cons a l ih=>simp[l5,ih]
def Dv(v w:AV):Prop:=pf v=true/\gJ v=w
theorem Dv.φ{v w:AV}(h:Dv v w):φ v=v:=(p9 0 false v h.1).2.2.1
theorem Dv.ai{v w:AV}(h:Dv v w)(bs:List κ)(n k:Nat):ah.ai bs n k v=w:=by rw[aeK bs n k h.1,h.2]
theorem Dv.exp{v w:AV}(h:Dv v w)(n:Nat)(k:Bool):Dv (ah.exp n k v) w:=⟨(p9 n k v h.1).1,by rw[(p9 n k v h.1).2.1,h.2]⟩
theorem Dv.str(s:List Nat):Dv (.str s) (.str s):=⟨rfl,rfl⟩
theorem Dv.int(k:IntKind)(n:Int):Dv (.int k n) (.int k n):=⟨rfl,rfl⟩
def Fx(v:AV):Prop:=Dv v v
theorem Fx.El{v:AV}(h:Fx v)(n:Nat):ah.exp n false v=v:=by rw[(p9 n false v h.1).2.2.2,h.2]
def bB(l ws:List AV):Prop:=l5 l=true/\mo l=ws
theorem bB.nil:bB [] []:=⟨rfl,rfl⟩
theorem bB.cons{v w:AV}{l ws:List AV}(h:Dv v w)(k:bB l ws):bB (v::l) (w::ws):=⟨by simp only[l5,h.1,k.1];rfl,by simp only[mo,h.2,k.2]⟩
theorem bB.append{l ws l' Us:List AV}(h:bB l ws)(k:bB l' Us):bB (l++l') (ws++Us):=by obtain⟨h1,rfl⟩:=h;obtain⟨k1,rfl⟩:=k;rw[CZ]at h1 k1;exact⟨by rw[CZ,List.all_append,h1,k1];rfl,by simp only[Jc,List.map_append]⟩
theorem bB.len{l ws:List AV}(h:bB l ws):l.length=ws.length:=by rw[<-h.2,Jc];simp
theorem Dv.list{l ws:List AV}(c:χ)(h:bB l ws):Dv (.list c l) (.list (c.exp 0 false) ws):=⟨by simpa only[pf]using h.1,by simp only[gJ,h.2]⟩
theorem Dv.agg{l ws:List AV}(h:bB l ws):Dv (.agg l) (.agg ws):=⟨by simpa only[pf]using h.1,by simp only[gJ,h.2]⟩
theorem Dv.aP{l ws:List AV}(h:bB l ws):Dv (.aP l) (.aP ws):=⟨by simpa only[pf]using h.1,by simp only[gJ,h.2]⟩
theorem bB.of{α:Type}(f:α->AV)(l:List α)(h:∀x∈l,Fx (f x)):bB (l.map f) (l.map f):=by
 induction l with
 |nil=>exact .nil
 |cons a l ih=>exact .cons (h a (by simp)) (ih fun x hx=>h x (by simp[hx]))
theorem Dv.shaped{ag:Bool}{sz:Nat}{v w:AV}(h:Dv v w):shaped ag sz v=shaped ag sz w:=by obtain⟨h1,rfl⟩:=h;cases v<;>first|rfl|simp[ah.shaped,gJ,Jc,AV.one]
theorem bB.shaped{ag:Bool}{sz:Nat}{l ws:List AV}(h:bB l ws)(k:ws.all (ah.shaped ag sz)=true):l.all (ah.shaped ag sz)=true:=by
 obtain⟨h1,rfl⟩:=h;induction l with
 |nil=>rfl
 |cons a l ih=>
  simp only[l5,jv]at h1
  simp only[mo,List.all_cons,jv]at k⊢;exact⟨by rw[Dv.shaped (w:=gJ a) ⟨h1.1,rfl⟩];exact k.1,ih h1.2 k.2⟩
mutual
theorem Py(n:Nat):∀v,pf v=true->lo n (gJ v)=true
 | .int _ _,_=>rfl
 | .bool _,_=>rfl
 | .str _,_=>rfl
 | .list c l,h=>by
  have hc:(c.exp 0 false).lo n=true:=by cases c<;>rfl
  simp only[gJ,lo,hc,Bl n l (by simpa only[pf]using h),vm]
 | .agg l,h=>by simp only[gJ,lo,Bl n l (by simpa only[pf]using h)]
 | .aP l,h=>by simp only[gJ,lo,Bl n l (by simpa only[pf]using h)]
 | .undef,h| .cR,h| .iK,h| .eJ,h| .fY,h| .fJ,h=>by simp[pf]at h
 | .ae _ _ _,h| .ν _ _,h| .ref _,h| .sl _ _ _ _ _,h| .fn _ _ _,h| .iface _ _,h| .map _,h=>by simp[pf]at h
theorem Bl(n:Nat):∀l,l5 l=true->bp n (mo l)=true
 |[],_=>rfl
 |v::l,h=>by simp only[l5,jv]at h;simp only[mo,bp,Py n v h.1,Bl n l h.2,vm]
end
theorem bB.bp{l ws:List AV}(h:bB l ws)(n:Nat):ah.bp n ws=true:=by rw[<-h.2];exact Bl n l h.1
theorem Dv.lo{v w:AV}(h:Dv v w)(n:Nat):ah.lo n w=true:=by rw[<-h.2];exact Py n v h.1
theorem af0(n:Nat)(T:List Nat):∀bs:List κ,(∀i∈T,bs.length<=i)->lJ n T bs=bs:=by
 induction T with
 |nil=>intro bs _;rfl
 |cons i T ih=>
  intro bs h
  simp only[lJ,gZ (h i (by simp))];exact ih bs fun j hj=>h j (by simp[hj])
theorem Vn(m:Mem)(bs:List κ)(T:List Nat)(h:∀i∈T,m.ε.length<=i):m.back {ε:=m.ε++bs,θ:=T}=m:=by
 have h1:(m.ε++bs).take m.ε.length=m.ε:=by simp
 have h2:(T.filter fun i=>match m.ε[i]? with
   |some b=>!b.clean i
   |none=>false)=[]:=by
  rw[List.filter_eq_nil_iff];intro i hi;simp[gZ (h i hi)]
 cases m;simp only[Mem.back]at*;rw[h1,af0 _ _ _ h];simp only[Mem.mk.injEq,true_and];exact List.append_right_eq_self.2 h2
theorem IY{C:iM}{f:FuncId}{g:AF}{args:List AV}{m:Mem}{v:AV}(hp:C.jm f=none)(hf:C.fs f=some g)(hk:C.bw f=false)
  (hx:μ C.gl (aU C) g.code {env:=args.map (exp m.ε.length false),loc:=[],mem:= {ε:=m.ε,θ:=[]}} fun r=>
   (∀i,r.1≠ .exit i)/\(∃bs,r.2.mem.ε=m.ε++bs)/\(∀i∈r.2.mem.θ,m.ε.length<=i)/\∃l,aY r.2 g.results=some l/\ai r.2.mem.ε m.ε.length 8 (aV l)=v):aU C (.fn (.func f) [] []) args m=some (v,m):=by
 obtain⟨⟨ex,s'⟩,h1,h2,⟨bs,h3⟩,h6,l,h4,h5⟩:=hx;rw[IX hp hf hk h1 h2 h4];dsimp only at h3 h5 h6;have:s'.mem= {ε:=m.ε++bs,θ:=s'.mem.θ}:=by rw[<-h3]
 rw[h5,this,Vn m bs _ h6]
end Go.ah
