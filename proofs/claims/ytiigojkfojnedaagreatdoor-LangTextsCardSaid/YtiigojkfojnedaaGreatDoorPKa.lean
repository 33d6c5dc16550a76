import Derived.Test.YtiigojkfojnedaaGreatDoorPHa
set_option linter.unusedVariables false
set_option linter.unusedSimpArgs false
set_option maxRecDepth 100000
set_option maxHeartbeats 8000000
open List renaming length_cons->dO,length_take->kD,length_drop->kz,drop_eq_getElem_cons->ko,map_cons->ah,map_nil->aw,getElem_mem->cz,take_length->lX,take_take->ahS,getElem?_eq_none->iU
open Nat renaming lt_or_ge->bP,zero_le->oY,min_eq_left->ahT
open Go.IntKind renaming wrap->aT
open Bool renaming false_eq_true->hS,and_eq_true->kj,and_self->vq
namespace Go.ab
def bI:Bool->List Nat->Nat
 |_,[]=>0
 |false,b::l=>if b=32\/b=10 then bI false l+1 else if b=35 then bI true l+1 else 0
 |true,b::l=>if b=10 then bI false l+1 else bI true l+1
def isLet(b:Nat):Bool:=decide (97<=b)&&decide (b<=122)
def eJ:List Nat:=[40,41,91,93,123,125,44,59,58,61,43,45,42]
def runN(f:Nat->Bool):List Nat->Nat
 |[]=>0
 |b::l=>if f b then runN f l+1 else 0
structure Tok where
 at_:Nat
 kind:Nat
 text:List Nat
 bB:Int
def dK(n:Nat):List Nat->Tok
 |[]=>⟨n,0,[],-1⟩
 |b::l=>
  if isLet b then⟨n,1,(b::l).take (runN isLet (b::l)),if 8<runN isLet (b::l)then n+8 else-1⟩
  else if dI b then⟨n,2,(b::l).take (runN dI (b::l)),if 1<runN dI (b::l)/\b=48 then n+1 else if 2<runN dI (b::l)then n+2 else-1⟩
  else if b∈eJ then⟨n,b,[b],-1⟩
  else⟨n,0,[b],n⟩
def Tok.cut(t:Tok):List Nat:=
 if t.bB<0 then t.text else if t.kind=1 then t.text.take 8 else if t.kind=2 then(if t.text.head?=some 48 then[48]else t.text.take 2)else[]
theorem Ax(c:Bool)(l:List Nat):bI c l<=l.length:=by
 induction l generalizing c with
 |nil=>cases c<;>simp[bI]
 |cons b l ih=>
  have h1:=ih false
  have h2:=ih true;cases c<;>simp only[bI,dO]<;>(repeat' split)<;>omega
theorem adl(l:List Nat):∀k,(∀e,jm 10 l k=some e->k<=e/\e-k<=l.length/\bI true l=(e-k)+bI false (l.drop (e-k)))/\(jm 10 l k=none->bI true l=l.length):=by
 induction l with
 |nil=>intro k;simp[jm,bI]
 |cons b l ih=>
  intro k
  by_cases h:b=10
  ·subst h;simp[jm,bI]
  ·obtain⟨h1,h2⟩:=ih (k+1);refine⟨fun e he=>?_,fun he=>?_⟩
   ·simp only[jm,h,if_false]at he;obtain⟨q1,q2,q3⟩:=h1 e he;have e1:e-k=(e-(k+1))+1:=by omega
    refine⟨by omega,by simp only[dO];omega,?_⟩;rw[e1,List.drop_succ_cons];simp only[bI,h,if_false,q3];omega
   ·simp only[jm,h,if_false]at he;simp only[bI,h,if_false,h2 he,dO]
theorem yQ(f:Nat->Bool)(l:List Nat):runN f l<=l.length:=by
 induction l with
 |nil=>simp[runN]
 |cons b l ih=>simp only[runN,dO];split<;>omega
theorem AS(n b:Nat)(l:List Nat):0<(dK n (b::l)).text.length:=by
 simp only[dK];have e1:isLet b=true->0<runN isLet (b::l):=fun h=>by simp[runN,h]
 have e2:dI b=true->0<runN dI (b::l):=fun h=>by simp[runN,h]
 split
 ·rename_i h;have:=e1 h;have:=yQ isLet (b::l);simp only[kD];omega
 ·split
  ·rename_i h;have:=e2 h;have:=yQ dI (b::l);simp only[kD];omega
  ·split<;>simp
theorem Il(n:Nat)(l:List Nat):(dK n l).text.length<=l.length:=by
 cases l with
 |nil=>simp[dK]
 |cons b l=>
  simp only[dK]
  split
  ·simp only[kD];omega
  ·split
   ·simp only[kD];omega
   ·split<;>simp
def rG:Nat->Nat->List Nat->List Tok
 |0,_,_=>[]
 |k+1,n,l=>
  if l.length<=bI false l then[]else
   let m:=n+bI false l;let r:=l.drop (bI false l);let t:=dK m r
   if t.kind=0 then[t]else t::rG k (m+t.text.length) (r.drop t.text.length)
def bG(s:List Nat):List Tok:=rG (s.length+1) 0 s
def pR:List Tok->Option Int
 |[]=>none
 |t::l=>if 0<=t.bB then some t.bB else pR l
theorem agt(k j n:Nat)(l:List Nat)(h:l.length<k)(hj:l.length<j):rG k n l=rG j n l:=by
 induction k generalizing j n l with
 |zero=>omega
 |succ k ih=>
  cases j with
  |zero=>omega
  |succ j=>
   simp only[rG]
   split
   ·rfl
   ·rename_i hl;split
    ·rfl
    ·congr 1;have hl:=Nat.not_le.1 hl;cases hr:l.drop (bI false l)with
     |nil=>have:=congrArg List.length hr;simp at this;omega
     |cons b r=>
      have e:(b::r).length=l.length-bI false l:=by rw[<-hr];simp
      have hp:=AS (n+bI false l) b r;simp only[dO]at e;refine ih j _ _ ?_ ?_<;>simp only[kz,dO]<;>omega
end Go.ab
namespace Go.ab.Tz
open Go.ab
variable{u:Nat}
attribute [local simp] exec eG eu fz aF d_ fQ fe bq gN bT gF gS hU hZ AV.cells newVar hH rd wr gg single fy bF er dL κ bf RV.get ba dU jy
theorem yx{s:List Nat}{p:Nat}(h:p<s.length):bI false (s.drop p)=if s[p]=32\/s[p]=10 then bI false (s.drop (p+1))+1 else if s[p]=35 then bI true (s.drop (p+1))+1 else 0:=by rw[ko h];rfl
theorem adk{s:List Nat}{p:Nat}(h:p<s.length)(J8:s[p]=35)(h2:(s.length:Int)<4000000000):
  (∀e,jm 10 (s.drop p) 0=some e->0<e/\p+e<=s.length/\p+bI false (s.drop p)=(p+e)+bI false (s.drop (p+e)))/\(jm 10 (s.drop p) 0=none->p+bI false (s.drop p)=s.length):=by
 have hc:¬(s[p]=32\/s[p]=10):=by omega
 have hx:bI false (s.drop p)=bI true (s.drop (p+1))+1:=by rw[yx h,if_neg hc,if_pos J8]
 have hd:s.drop p=s[p]::s.drop (p+1):=ko h;have aj:¬s[p]=10:=by omega
 obtain⟨k1,k2⟩:=adl (s.drop (p+1)) 1;have hi:jm 10 (s.drop p) 0=jm 10 (s.drop (p+1)) 1:=by rw[hd];simp only[jm,aj,if_false]
 refine⟨fun e he=>?_,fun he=>?_⟩
 ·rw[hi]at he;obtain⟨q1,q2,q3⟩:=k1 e he;simp only[kz]at q2;rw[List.drop_drop]at q3;have e1:p+1+(e-1)=p+e:=by omega
  rw[e1]at q3;exact⟨by omega,by omega,by omega⟩
 ·rw[hi]at he;have q:=k2 he;simp only[kz]at q;omega
theorem aaQ(b:Nat):(match jm b [32,10,35] 0 with
  |some i=>(i:Int)
  |none=> -1)=if b=32 then 0 else if b=10 then 1 else if b=35 then 2 else-1:=by
 simp only[jm];by_cases h1:b=32
 ·subst h1;rfl
 by_cases h2:b=10
 ·subst h2;rfl
 by_cases h3:b=35
 ·subst h3;rfl
 have fL:=Ne.symm h1;have pW:=Ne.symm h2;have gi:=Ne.symm h3;simp[h1,h2,h3,fL,pW,gi]
theorem AD{C:iT}{f:FuncId}{p:Prim}{fst args cap:List AV}{m:Mem}{r:AV×Mem}(hp:C.jG f=some p)(h:p ((fst++args++cap).map (exp m.ε.length (C.bD f))) m=some r):aS C (.fn (.func f) fst cap) args m=some r:=by apply uw;simp only[body,hp,h]
theorem f238(s:List Nat)(c:Nat)(h:c<256)(m:Mem):kf u 238 [.str s,.int .u8 c] m=some (.n (match jm c s 0 with
  |some i=>(i:Int)
  |none=> -1),m):=by
 refine AD (p:=wP) (by rfl) ?_;have h1:(0:Int)<=c/\(c:Int)<256:=by omega
 simp only[List.nil_append,List.append_nil,ah,aw,exp,wP,h1,and_self,if_true,Int.toNat_natCast];cases jm c s 0<;>rfl
theorem packed{gl:Nat->AV}{c:cM}{a:AC}{s:St}{I:St->Prop}(M:St->Prop)(h:∃s',exec gl c fT a s=some (.normal,s')/\M s')(k:∀s',M s'->I s'):∃s',exec gl c fT a s=some (.normal,s')/\I s':=
 h.imp fun s' h=>⟨h.1,k s' h.2⟩
theorem f202(s:List Nat)(hs:dJ s)(n:Nat)(hn:n<=s.length)(hl:s.length<4000000000)(m:Mem):
  kf u 202 [.str s,.n n] m=some (.n ((n+bI false (s.drop n):Nat):Int),m):=by
 refine bz (g:=Fv) rfl rfl rfl ?_;simp only[ah,aw,exp,Fv,OK];generalize Lx:n+bI false (s.drop n)=s0;let K:St->Prop:=fun st=>st.e 0= .str s/\st.mem= {ε:=m.ε,η:=[]};let I:Nat->St->Prop:=fun i st=>K st/\∃p:Nat,st.e 1= .n p/\i<=p/\p<=s.length/\p+bI false (s.drop p)=s0;refine χ (I 0) ?_ fun s1 hI=>?_
 ·simp[I,K];exact⟨n,rfl,hn,Lx⟩
 refine aZ (fun st=>K st/\st.e 1= .n s0) ?_ fun s2 ⟨⟨h1,h2⟩,h3⟩=>?_
 ·refine κ.block (κ.loop (I:=I) s.length hI fun i st hi τ=>?_);obtain⟨⟨q1,q2⟩,p,q3,q4,q5,q6⟩:=τ;have e:=fun(b:Nat) (hb:b<256)=>f238 (u:=u) [32,10,35] b hb;have ng:∀m,kf u 238 [.str (s.drop p),.int .u8 10] m=some (.n (match jm 10 (s.drop p) 0 with
    |some i=>(i:Int)
    |none=> -1),m):=f238 (u:=u) (s.drop p) 10 (by omega)
  have Vj:∀m,kf u 238 [.str [32,10,35],.int .u8 32] m=some (.n 0,m):=f238 (u:=u) [32,10,35] 32 (by omega);have Vi:∀m,kf u 238 [.str [32,10,35],.int .u8 10] m=some (.n 1,m):=f238 (u:=u) [32,10,35] 10 (by omega);have NH:∀m,kf u 238 [.str [32,10,35],.int .u8 35] m=some (.n 2,m):=f238 (u:=u) [32,10,35] 35 (by omega);rcases bP p s.length with ν|cD
  ·have hb:s[p]<256:=hs _ (cz ν);have dE:(p:Int)<s.length:=by omega
   have e:=e s[p] hb;simp only[aaQ]at e;have hw:aT .i64 ((p:Int)+1)=(p:Int)+1:=wrap_i64 (by omega) (by omega);have kk:=fun J8=>adk ν J8 (by omega);by_cases c1:s[p]=32
   ·left;have hx:=yx ν;simp only[c1,true_or,if_true]at hx;refine⟨by omega,?_⟩;refine packed (fun st=>K st/\st.e 1= .n ((p+1:Nat):Int)) ?_ fun s' h=>⟨h.1,p+1,h.2,by omega,by omega,by omega⟩;simp[K,yw,q1,q2,q3,ν,c1,Vj,hw]
   by_cases c2:s[p]=10
   ·left;have hx:=yx ν;simp only[c2,or_true,if_true]at hx;refine⟨by omega,?_⟩;refine packed (fun st=>K st/\st.e 1= .n ((p+1:Nat):Int)) ?_ fun s' h=>⟨h.1,p+1,h.2,by omega,by omega,by omega⟩;simp[K,yw,q1,q2,q3,ν,c2,Vi,hw]
   by_cases c3:s[p]=35
   ·left;obtain⟨k1,k2⟩:=kk c3;refine⟨by omega,?_⟩;have iu:¬(s.length:Int)<p:=by omega
    cases aG:jm 10 (s.drop p) 0 with
    |none=>
     have k2:=k2 aG
     rw[aG]at ng;refine packed (fun st=>K st/\st.e 1= .n ((s.length:Nat):Int)) ?_ fun s' h=>⟨h.1,s.length,h.2,by omega,by omega,by simp[bI];omega⟩;simp[K,yw,q1,q2,q3,ν,c3,NH,ng,bound,q5,lX]
    |some x=>
     obtain⟨k1,k3,k4⟩:=k1 x aG
     rw[aG]at ng;have jE:aT .i64 ((p:Int)+x)=(p:Int)+x:=wrap_i64 (by omega) (by omega);refine packed (fun st=>K st/\st.e 1= .n ((p+x:Nat):Int)) ?_ fun s' h=>⟨h.1,p+x,h.2,by omega,by omega,by omega⟩;simp[K,yw,q1,q2,q3,ν,c3,NH,ng,jE,bound,q5,lX]
   ·right;have hx:=yx ν;simp only[c1,c2,c3,or_self,if_false]at hx;simp only[c1,c2,c3,if_false]at e;have:s0=p:=by omega
    subst this;simp[yw,K,q1,q2,q3,ν,e]
  ·right;have:p=s.length:=by omega
   subst this;have hz:bI false (s.drop s.length)=0:=by simp[bI]
   have:s0=s.length:=by omega
   subst this;simp[yw,K,q1,q2,q3]
 ·simp[h1,h2,h3]
theorem κ.ki{gl:Nat->AV}{c:cM}{a:AC}{I:Nat->St->Prop}{Q:Ex×St->Prop}(n:Nat){s:St}(h0:I 0 s)
  (step:∀i s,i<=n->I i s->κ gl c a s fun r=>(r.1= .normal/\i<n/\I (i+1) r.2)\/(r.1≠ .normal/\Q r)):κ gl c (.loop a) s Q:=by
 refine κ.loop n h0 fun i s hi hs=>?_;obtain⟨⟨e,s'⟩,h1,h2⟩:=step i s hi hs;rcases h2 with⟨rfl,h2,h3⟩|⟨h2,h3⟩
 ·exact .inl ⟨h2,s',h1,h3⟩
 ·exact .inr ⟨_,h1,h2,h3⟩
theorem S_{s:List Nat}{p:Nat}(h:p<s.length):bI true (s.drop p)=if s[p]=10 then bI false (s.drop (p+1))+1 else bI true (s.drop (p+1))+1:=by rw[ko h];rfl
theorem κ.done{gl:Nat->AV}{c:cM}{a:AC}{s:St}{Q:Ex×St->Prop}(ex:Ex)(M:St->Prop)(h:∃s',exec gl c fT a s=some (ex,s')/\M s')(k:∀s',M s'->Q (ex,s')):κ gl c a s Q:=by obtain⟨s',h1,h2⟩:=h;exact⟨_,h1,k s' h2⟩
theorem f194(s:List Nat)(n:Nat)(hn:n<=s.length)(hl:s.length<4000000000)(m:Mem):
  kf u 194 [.str s,.n n] m=some (.n ((n+bI false (s.drop n):Nat):Int),m):=by
 refine bz (g:=Fp) rfl rfl rfl ?_;simp only[ah,aw,exp,Fp,c194];generalize Lx:n+bI false (s.drop n)=s0;let K:St->Prop:=fun st=>st.e 0= .str s/\st.mem= {ε:=m.ε,η:=[]};let I:Nat->St->Prop:=fun i st=>K st/\∃p:Nat,st.e 1= .n p/\i<=p/\p<=s.length/\p+bI false (s.drop p)=s0;refine χ (I 0) ?_ fun s1 hI=>?_
 ·simp[I,K];exact⟨n,rfl,hn,Lx⟩
 refine aZ (fun st=>K st/\st.e 1= .n s0) ?_ fun s2 ⟨⟨h1,h2⟩,h3⟩=>?_
 ·refine κ.block (κ.ki (I:=I) s.length hI fun i st hi τ=>?_);obtain⟨⟨q1,q2⟩,p,q3,q4,q5,q6⟩:=τ;unfold SB;rcases bP p s.length with ν|cD
  ·have dE:(p:Int)<s.length:=by omega
   have hw:aT .i64 ((p:Int)+1)=(p:Int)+1:=wrap_i64 (by omega) (by omega);refine χ (fun st=>K st/\st.e 1= .n p) (by simp[K,q1,q2,q3,ν]) fun s1 ⟨⟨q1,q2⟩,q3⟩=>?_;refine κ.block ?_;refine χ (fun st=>(K st/\st.e 1= .n p)/\st.e 12= .bool (decide (s[p]=35))) (by
    by_cases c:s[p]=35
    ·simp[K,q1,q2,q3,ν,c]
    ·have c':¬(s[p]:Int)=35:=by omega
     simp[K,q1,q2,q3,ν,c,c']) fun s1 ⟨⟨⟨q1,q2⟩,q3⟩,q7⟩=>?_
   by_cases c3:s[p]=35
   ·refine κ.yes (by simp[q7,c3]) ?_;let J:Nat->St->Prop:=fun j st=>K st/\∃q:Nat,st.e 1= .n q/\p<=q/\j<=q/\q<=s.length/\q+bI true (s.drop q)=s0;have h0:bI true (s.drop p)=bI false (s.drop p):=by rw[yx ν,S_ ν];simp[c3]
    have hJ:J 0 s1:=⟨⟨q1,q2⟩,p,q3,Nat.le_refl _,oY _,q5,by omega⟩;refine κ.block (κ.ki (I:=J) s.length hJ fun j st hj τ=>?_);obtain⟨⟨q1,q2⟩,q,q3,r4,r5,r6,r7⟩:=τ;unfold SA;rcases bP q s.length with tH|cD
    ·have hx:=S_ tH;have LF:aT .i64 ((q:Int)+1)=(q:Int)+1:=wrap_i64 (by omega) (by omega);by_cases d:s[q]=10
     ·have qs:=yx tH;simp only[d,if_true]at hx;simp only[d,or_true,if_true]at qs;have:p≠q:=fun he=>by subst he;omega
      refine κ.done (.exit 2) (fun st=>K st/\st.e 1= .n q) (by simp[K,q1,q2,q3,tH,d]) fun s' h=> .inr ⟨by simp,?_⟩;refine .inl ⟨rfl,.inr ⟨by simp,.inl ⟨rfl,by omega,h.1,q,h.2,by omega,by omega,by omega⟩⟩⟩
     ·have d':¬(s[q]:Int)=10:=by omega
      simp only[d,if_false]at hx;refine κ.done .normal (fun st=>K st/\st.e 1= .n ((q+1:Nat):Int)) (by simp[K,q1,q2,q3,tH,d,d',LF]) fun s' h=> .inl ⟨rfl,by omega,h.1,q+1,h.2,by omega,by omega,by omega,by omega⟩
    ·have:q=s.length:=by omega
     subst this;have hz:bI true (s.drop s.length)=0:=by simp[bI]
     refine κ.done (.exit 2) (fun st=>K st/\st.e 1= .n s.length) (by simp[K,q1,q2,q3]) fun s' h=> .inr ⟨by simp,?_⟩;refine .inl ⟨rfl,.inr ⟨by simp,.inl ⟨rfl,by omega,h.1,s.length,h.2,by omega,by omega,by simp[bI];omega⟩⟩⟩
   ·refine κ.no (by simp[q7,c3]) ?_;have hx:=yx ν;have c3':¬(s[p]:Int)=35:=by omega
    by_cases c1:s[p]=32
    ·simp only[c1,true_or,if_true]at hx;refine κ.done .normal (fun st=>K st/\st.e 1= .n ((p+1:Nat):Int)) (by simp[K,q1,q2,q3,ν,c1,hw]) fun s' h=> .inr ⟨by simp,.inl ⟨rfl,by omega,h.1,p+1,h.2,by omega,by omega,by omega⟩⟩
    have xn:¬(s[p]:Int)=32:=by omega
    by_cases c2:s[p]=10
    ·simp only[c2,or_true,if_true]at hx;refine κ.done .normal (fun st=>K st/\st.e 1= .n ((p+1:Nat):Int)) (by simp[K,q1,q2,q3,ν,c2,hw]) fun s' h=> .inr ⟨by simp,.inl ⟨rfl,by omega,h.1,p+1,h.2,by omega,by omega,by omega⟩⟩
    have oq:¬(s[p]:Int)=10:=by omega
    simp only[c1,c2,c3,or_self,if_false]at hx;have b1:((s[p]:Int)==32)=false:=beq_eq_false_iff_ne.2 xn;have b2:((s[p]:Int)==10)=false:=beq_eq_false_iff_ne.2 oq;have:s0=p:=by omega
    subst this;refine κ.done .ret (fun st=>K st/\st.e 4= .n s0) (by simp[K,q1,q2,q3,ν,b1,b2]) fun s' ⟨⟨h1,h2⟩,h3⟩=>?_;simp[h1,h2,h3]
  ·have:p=s.length:=by omega
   subst this;have hz:bI false (s.drop s.length)=0:=by simp[bI]
   have:s0=s.length:=by omega
   subst this;simp[K,q1,q2,q3]
 ·simp[h1,h2,h3]
theorem f234(b:Nat)(m:Mem):kf u 234 [.int .u8 b] m=some (.bool (isLet b),m):=by
 refine bz (g:=FM) rfl rfl rfl ?_;simp only[ah,aw,exp,FM,c234];by_cases h1:97<=b<;>by_cases h2:b<=122
 ·have fL:(97:Int)<=b:=by omega
  have pW:(b:Int)<=122:=by omega
  simp[isLet,h1,h2,fL,pW]
 ·have fL:(97:Int)<=b:=by omega
  have pW:¬(b:Int)<=122:=by omega
  simp[isLet,h1,h2,fL,pW]
 ·have fL:¬(97:Int)<=b:=by omega
  simp[isLet,h1,h2,fL]
 ·have fL:¬(97:Int)<=b:=by omega
  simp[isLet,h1,h2,fL]
theorem f235(b:Nat)(m:Mem):kf u 235 [.int .u8 b] m=some (.bool (dI b),m):=by
 refine bz (g:=FN) rfl rfl rfl ?_;simp only[ah,aw,exp,FN,OY];by_cases h1:48<=b<;>by_cases h2:b<=57
 ·have fL:(48:Int)<=b:=by omega
  have pW:(b:Int)<=57:=by omega
  simp[dI,h1,h2,fL,pW]
 ·have fL:(48:Int)<=b:=by omega
  have pW:¬(b:Int)<=57:=by omega
  simp[dI,h1,h2,fL,pW]
 ·have fL:¬(48:Int)<=b:=by omega
  simp[dI,h1,h2,fL]
 ·have fL:¬(48:Int)<=b:=by omega
  simp[dI,h1,h2,fL]
attribute [local simp] mD
theorem yP{f:Nat->Bool}{s:List Nat}{p:Nat}(h:p<s.length):runN f (s.drop p)=if f s[p]then runN f (s.drop (p+1))+1 else 0:=by rw[ko h];rfl
theorem M3{f:Nat->Bool}{s:List Nat}:runN f (s.drop s.length)=0:=by simp[runN]
theorem Dm{s:List Nat}{a i:Nat}(h:a<=i):(s.take i).drop a=(s.drop a).take (i-a):=by rw[List.drop_take]
def _root_.Go.ab.Tok.va(t:Tok):AV:= .agg [.n t.at_,.n t.kind,.str t.cut]
theorem Dr{s:List Nat}{p:Nat}(h:p<s.length):dK p (s.drop p)=
  if isLet s[p]then⟨p,1,(s.drop p).take (runN isLet (s.drop p)),if 8<runN isLet (s.drop p)then p+8 else-1⟩
  else if dI s[p]then⟨p,2,(s.drop p).take (runN dI (s.drop p)),if 1<runN dI (s.drop p)/\s[p]=48 then p+1 else if 2<runN dI (s.drop p)then p+2 else-1⟩
  else if s[p]∈eJ then⟨p,s[p],[s[p]],-1⟩
  else⟨p,0,[s[p]],p⟩:=by
 rw[ko h];rfl
def tA(t:Tok):AV:= .aO [t.va,.n t.bB]
theorem f195(s:List Nat)(p:Nat)(hp:p<s.length)(hl:s.length<4000000000)(m:Mem):
  kf u 195 [.str s,.n p,.n 2,.str eJ] m=some (tA (dK p (s.drop p)),m):=by
 refine bz (g:=Fq) rfl rfl rfl ?_;simp only[ah,aw,exp,Fq,OI];let K:St->Prop:=fun st=>st.e 0= .str s/\st.e 1= .n p/\st.e 2= .n 2/\st.e 3= .str eJ/\st.e 8= .Ω 8 0 0/\st.e 10= .Ω 10 0 0/\(∃x y z,st.q 8=some (0,.cells [x,y,z]))/\st.mem= {ε:=m.ε,η:=[]};let T:Nat->List Nat->St->Prop:=fun k t st=>st.q 10=some (0,.cells [.n p,.n k,.str t]);have fY:=Dr hp;refine χ (fun st=>st.e 0= .str s/\st.e 1= .n p/\st.e 2= .n 2/\st.e 3= .str eJ/\st.e 8= .Ω 8 0 0/\st.q 8=some (0,.cells [.n 0,.n 0,.str []])/\st.q 10=none/\st.mem= {ε:=m.ε,η:=[]}) (by simp[aQ]) fun s1 ⟨h0,h1,h2,h3,h4,h5,h6,h7⟩=>?_;refine χ (fun st=>K st/\T 0 [] st) (by simp[K,T,h0,h1,h2,h3,h4,h5,h6,h7,cX,aQ]) fun s2 ⟨⟨h0,h1,h2,h3,h4,h5,⟨x,y,z,h6⟩,h7⟩,h8⟩=>?_;simp only[T]at h8;have H8:=fun(i:Nat) m=>f234 (u:=u) i m;have C':=fun(i:Nat) m=>f235 (u:=u) i m;have hq:(∀i,(Ex.ret:Ex)≠ .exit i):=by simp
 refine aZ (fun st=>K st/\T 0 [] st/\isLet s[p]=false) ?_ fun s3 ⟨⟨h0,h1,h2,h3,h4,h5,⟨x,y,z,h6⟩,h7⟩,h8,h9⟩=>?_
 ·refine χ (fun st=>(K st/\T 0 [] st)/\st.e 19= .bool (isLet s[p])) (by simp[K,T,h0,h1,h2,h3,h4,h5,h6,h7,h8,hp,H8]) fun s3 ⟨⟨⟨h0,h1,h2,h3,h4,h5,⟨x,y,z,h6⟩,h7⟩,h8⟩,h9⟩=>?_;cases hc:isLet s[p]with
  |false=>exact κ.no (by simp[h9,hc]) ⟨_,rfl,.inl ⟨rfl,⟨h0,h1,h2,h3,h4,h5,⟨x,y,z,h6⟩,h7⟩,h8,rfl⟩⟩
  |true=>
   rw[hc]at fY
   simp only[if_true]at fY;generalize hr:runN isLet (s.drop p)=r at fY;have hrp:0<r:=by rw[<-hr,yP hp,hc];simp
   refine κ.yes (by simp[h9,hc]) ?_;simp only[T]at h8;refine χ (fun st=>K st/\T 1 [] st) (by simp[K,T,h0,h1,h2,h3,h4,h5,h6,h7,h8]) fun s4 ⟨⟨h0,h1,h2,h3,h4,h5,⟨x,y,z,h6⟩,h7⟩,h8⟩=>?_;simp only[T]at h8;let I:Nat->St->Prop:=fun j st=>K st/\∃q:Nat,T 1 ((s.drop p).take j) st/\st.e 11= .n q/\q=p+j/\q<=s.length/\j<=8/\r=j+runN isLet (s.drop q);refine aZ (fun st=>K st/\T 1 ((s.drop p).take r) st/\r<=8) ?_ fun s5 ⟨⟨h0,h1,h2,h3,h4,h5,⟨x,y,z,h6⟩,h7⟩,h8,h9⟩=>?_
   ·refine χ (I 0) (by simp[I,K,T,h0,h1,h2,h3,h4,h5,h6,h7,h8,hr];exact⟨p,rfl,rfl,by omega,hr.symm⟩) fun s5 hI=>?_;refine κ.block (κ.ki (I:=I) 8 hI fun j st hj τ=>?_);obtain⟨⟨h0,h1,h2,h3,h4,h5,⟨x,y,z,h6⟩,h7⟩,q,h8,h9,ha,hb,jd,hd⟩:=τ;simp only[T]at h8;unfold SC;rcases bP q s.length with ν|cD
    ·rw[yP ν]at hd;cases hi:isLet s[q]with
     |false=>
      simp only[hi,hS,if_false]at hd
      have:j=r:=by omega
      subst this;refine κ.done (.exit 0) (fun st=>K st/\T 1 ((s.drop p).take j) st) (by simp[K,T,h0,h1,h2,h3,h4,h5,h6,h7,h8,h9,ν,H8,hi]) fun s' h=> .inr ⟨by simp,.inl ⟨rfl,.inl ⟨rfl,h.1,h.2,jd⟩⟩⟩
     |true=>
      simp only[hi,if_true]at hd
      have hlen:((s.drop p).take j).length=j:=by simp;omega
      by_cases lf:j=8
      ·subst lf;have Cz:(q:Int)=p+8:=by omega
       refine κ.done .ret (fun st=>st.e 8= .Ω 8 0 0/\st.q 8=some (0,.cells [.n p,.n 1,.str ((s.drop p).take 8)])/\st.e 9= .n q/\st.mem= {ε:=m.ε,η:=[]}) (by simp[h0,h1,h2,h3,h4,h5,h6,h7,h8,h9,ν,H8,hi,hlen]) fun s' ⟨k1,k2,k3,k4⟩=> .inr ⟨by simp,?_⟩;have e8:8<r:=by omega
       have JD:8<=r:=by omega
       simp[k1,k2,k3,k4,Cz,fY,e8,tA,Tok.va,Tok.cut,ahS,ahT JD];rfl
      ·have G0:¬((j:Int)=8):=by omega
       have hw:aT .i64 ((q:Int)+1)=(q:Int)+1:=wrap_i64 (by omega) (by omega);have sM:(s.take (q+1)).drop p=(s.drop p).take (j+1):=by rw[Dm (by omega)];congr 1;omega
       have bR:(p:Int)<=(q:Int)+1:=by omega
       have dt:(0:Int)<=(q:Int)+1:=by omega
       have nq:(q:Int)+1<=s.length:=by omega
       refine κ.done .normal (fun st=>K st/\T 1 ((s.drop p).take (j+1)) st/\st.e 11= .n ((q+1:Nat):Int)) (by simp[K,T,h0,h1,h2,h3,h4,h5,h6,h7,h8,h9,ν,H8,hi,hlen,G0,hw,bound,sM,bR,dt,nq]) fun s' h=> .inl ⟨rfl,by omega,h.1,q+1,h.2.1,h.2.2,by omega,by omega,by omega,by omega⟩
    ·have:q=s.length:=by omega
     subst this;rw[M3]at hd;have:j=r:=by omega
     subst this;refine κ.done (.exit 0) (fun st=>K st/\T 1 ((s.drop p).take j) st) (by simp[K,T,h0,h1,h2,h3,h4,h5,h6,h7,h8,h9]) fun s' h=> .inr ⟨by simp,.inl ⟨rfl,.inl ⟨rfl,h.1,h.2,jd⟩⟩⟩
   ·simp only[T]at h8;have e8:¬8<r:=by omega
    simp[h0,h1,h2,h3,h4,h5,h6,h7,h8,fY,e8,tA,Tok.va,Tok.cut];rfl
 refine aZ (fun st=>K st/\T 0 [] st/\dI s[p]=false) ?_ fun s4 ⟨⟨h0,h1,h2,h3,h4,h5,⟨x,y,z,h6⟩,h7⟩,h8,aG⟩=>?_
 ·simp only[T]at h8;refine χ (fun st=>(K st/\T 0 [] st)/\st.e 50= .bool (dI s[p])) (by simp[K,T,h0,h1,h2,h3,h4,h5,h6,h7,h8,hp,C']) fun s3 ⟨⟨⟨h0,h1,h2,h3,h4,h5,⟨x,y,z,h6⟩,h7⟩,h8⟩,c6⟩=>?_;cases hc:dI s[p]with
  |false=>exact κ.no (by simp[c6,hc]) ⟨_,rfl,.inl ⟨rfl,⟨h0,h1,h2,h3,h4,h5,⟨x,y,z,h6⟩,h7⟩,h8,rfl⟩⟩
  |true=>
   rw[h9,hc]at fY
   simp only[if_true,hS,if_false]at fY;generalize hr:runN dI (s.drop p)=r at fY;have hrp:0<r:=by rw[<-hr,yP hp,hc];simp
   have Kq:∀j,0<j->((s.drop p).take j).head?=some s[p]:=fun j hj=>by
    rw[ko hp];cases j with
    |zero=>omega
    |succ j=>rfl
   refine κ.yes (by simp[c6,hc]) ?_;simp only[T]at h8;refine χ (fun st=>K st/\T 2 [] st) (by simp[K,T,h0,h1,h2,h3,h4,h5,h6,h7,h8]) fun s4 ⟨⟨h0,h1,h2,h3,h4,h5,⟨x,y,z,h6⟩,h7⟩,h8⟩=>?_;simp only[T]at h8;let I:Nat->St->Prop:=fun j st=>K st/\∃q:Nat,T 2 ((s.drop p).take j) st/\st.e 12= .n q/\q=p+j/\q<=s.length/\j<=2/\r=j+runN dI (s.drop q)/\(j=2->s[p]≠48);refine aZ (fun st=>K st/\T 2 ((s.drop p).take r) st/\r<=2/\(1<r->s[p]≠48)) ?_ fun s5 ⟨⟨h0,h1,h2,h3,h4,h5,⟨x,y,z,h6⟩,h7⟩,h8,h9,hz⟩=>?_
   ·refine χ (I 0) (by simp[I,K,T,h0,h1,h2,h3,h4,h5,h6,h7,h8,hr];exact⟨p,rfl,rfl,by omega,hr.symm⟩) fun s5 hI=>?_;refine κ.block (κ.ki (I:=I) 2 hI fun j st hj τ=>?_);obtain⟨⟨h0,h1,h2,h3,h4,h5,⟨x,y,z,h6⟩,h7⟩,q,h8,h9,ha,hb,jd,hd,hz⟩:=τ;simp only[T]at h8;unfold SD;rcases bP q s.length with ν|cD
    ·rw[yP ν]at hd;cases hi:dI s[q]with
     |false=>
      simp only[hi,hS,if_false]at hd
      have:j=r:=by omega
      subst this;refine κ.done (.exit 2) (fun st=>K st/\T 2 ((s.drop p).take j) st) (by simp[K,T,h0,h1,h2,h3,h4,h5,h6,h7,h8,h9,ν,C',hi]) fun s' h=> .inr ⟨by simp,.inl ⟨rfl,.inl ⟨rfl,h.1,h.2,jd,fun h=>hz (by omega)⟩⟩⟩
     |true=>
      simp only[hi,if_true]at hd
      have hlen:((s.drop p).take j).length=j:=by simp;omega
      have out:∀s',s'.e 8= .Ω 8 0 0/\s'.q 8=some (0,.cells [.n p,.n 2,.str ((s.drop p).take j)])/\s'.e 9= .n q/\s'.mem= {ε:=m.ε,η:=[]}->(j=2\/j=1/\s[p]=48)->∃l,bf s' [.cell 8 true 3,.tmp 9]=some l/\ax s'.mem.ε m.ε.length 8 (ba l)=tA (dK p (s.drop p)):=by
       intro s' ⟨k1,k2,k3,k4⟩ hj;have RW:j<r:=by omega
       rcases hj with hj|⟨hj,dD⟩
       ·have hz:=hz hj;subst hj;have JD:2<=r:=by omega
        have Cz:(q:Int)=p+2:=by omega
        have aj:¬((s.drop p).take r).head?=some 48:=by rw[Kq r (by omega)];simpa using hz
        have iu:¬(p:Int)+2<0:=by omega
        simp[k1,k2,k3,k4,Cz,fY,RW,hz,iu,aj,tA,Tok.va,Tok.cut,ahS,ahT JD];rfl
       ·subst hj;have Cz:(q:Int)=p+1:=by omega
        have uH:(s.drop p).take 1=[48]:=by rw[ko hp];simp[dD]
        have iu:¬(p:Int)+1<0:=by omega
        simp[k1,k2,k3,k4,Cz,fY,RW,dD,iu,tA,Tok.va,Tok.cut,uH,Kq r (by omega)];rfl
      by_cases lf:j=2
      ·refine κ.done .ret (fun st=>st.e 8= .Ω 8 0 0/\st.q 8=some (0,.cells [.n p,.n 2,.str ((s.drop p).take j)])/\st.e 9= .n q/\st.mem= {ε:=m.ε,η:=[]}) (by simp[h0,h1,h2,h3,h4,h5,h6,h7,h8,h9,ν,C',hi,hlen,beq_iff_eq.2 (show(j:Int)=2 by omega)]) fun s' hh=> .inr ⟨by simp,.inr ⟨by simp,.inr ⟨by simp,?_⟩⟩⟩;exact .inr ⟨by simp,by simp,⟨[],by simp[hh.2.2.2]⟩,out s' hh (.inl lf)⟩
      have G0:¬((j:Int)=2):=by omega
      have ZJ:((j:Int)==2)=false:=beq_eq_false_iff_ne.2 G0;by_cases BY:(s.drop p).take j=[48]
      ·have KO:j=1:=by rw[<-hlen,BY];rfl
       have lq:s[p]=48:=by have:=Kq j (by omega);rw[BY]at this;simpa using this.symm
       refine κ.done .ret (fun st=>st.e 8= .Ω 8 0 0/\st.q 8=some (0,.cells [.n p,.n 2,.str ((s.drop p).take j)])/\st.e 9= .n q/\st.mem= {ε:=m.ε,η:=[]}) (by simp[h0,h1,h2,h3,h4,h5,h6,h7,h8,h9,ν,C',hi,BY]) fun s' hh=> .inr ⟨by simp,.inr ⟨by simp,.inr ⟨by simp,?_⟩⟩⟩;exact .inr ⟨by simp,by simp,⟨[],by simp[hh.2.2.2]⟩,out s' hh (.inr ⟨KO,lq⟩)⟩
      ·have hw:aT .i64 ((q:Int)+1)=(q:Int)+1:=wrap_i64 (by omega) (by omega);have sM:(s.take (q+1)).drop p=(s.drop p).take (j+1):=by rw[Dm (by omega)];congr 1;omega
       have bR:(p:Int)<=(q:Int)+1:=by omega
       have dt:(0:Int)<=(q:Int)+1:=by omega
       have nq:(q:Int)+1<=s.length:=by omega
       refine κ.done .normal (fun st=>K st/\T 2 ((s.drop p).take (j+1)) st/\st.e 12= .n ((q+1:Nat):Int)) (by simp[K,T,h0,h1,h2,h3,h4,h5,h6,h7,h8,h9,ν,C',hi,hlen,G0,ZJ,BY,hw,bound,sM,bR,dt,nq]) fun s' h=> .inl ⟨rfl,by omega,h.1,q+1,h.2.1,h.2.2,by omega,by omega,by omega,by omega,fun xW he=>BY ?_⟩;have KO:j=1:=by omega
       rw[KO,ko hp,he];rfl
    ·have:q=s.length:=by omega
     subst this;rw[M3]at hd;have:j=r:=by omega
     subst this;refine κ.done (.exit 2) (fun st=>K st/\T 2 ((s.drop p).take j) st) (by simp[K,T,h0,h1,h2,h3,h4,h5,h6,h7,h8,h9]) fun s' h=> .inr ⟨by simp,.inl ⟨rfl,.inl ⟨rfl,h.1,h.2,jd,fun h=>hz (by omega)⟩⟩⟩
   ·simp only[T]at h8;have e8:¬2<r:=by omega
    have e9:¬(1<r/\s[p]=48):=fun h=>hz h.1 h.2;simp[h0,h1,h2,h3,h4,h5,h6,h7,h8,fY,e8,e9,tA,Tok.va,Tok.cut];rfl
 rw[h9,aG]at fY;simp only[hS,if_false]at fY;simp only[T]at h8;have bR:(p:Int)<=(p:Int)+1:=by omega
 have dt:(0:Int)<=(p:Int)+1:=by omega
 have nq:(p:Int)+1<=s.length:=by omega
 have hw:aT .i64 ((p:Int)+1)=(p:Int)+1:=wrap_i64 (by omega) (by omega);have sM:(s.take (p+1)).drop p=[s[p]]:=by rw[Dm (by omega),show p+1-p=1 by omega,ko hp];rfl
 have iw:eJ.length=13:=rfl;let I:Nat->St->Prop:=fun j st=>K st/\T 0 [] st/\st.e 13= .n j/\∀i (h:i<eJ.length),i<j->eJ[i]≠s[p];refine aZ (fun st=>K st/\T 0 [] st/\¬s[p]∈eJ) ?_ fun s5 ⟨⟨h0,h1,h2,h3,h4,h5,⟨x,y,z,h6⟩,h7⟩,h8,h9⟩=>?_
 ·refine χ (I 0) (by simp[I,K,T,h0,h1,h2,h3,h4,h5,h6,h7,h8]) fun s5 hI=>?_;refine κ.block (κ.ki (I:=I) 13 hI fun j st hj τ=>?_);obtain⟨⟨h0,h1,h2,h3,h4,h5,⟨x,y,z,h6⟩,h7⟩,h8,h9,ha⟩:=τ;simp only[T]at h8;unfold SE;rcases bP j 13 with ν|cD
  ·have dE:j<eJ.length:=by omega
   have cY:(j:Int)<13:=by omega
   have z7:eJ[j]?=some eJ[j]:=List.getElem?_eq_getElem dE;have jE:aT .i64 ((j:Int)+1)=(j:Int)+1:=wrap_i64 (by omega) (by omega);by_cases hc:eJ[j]=s[p]
   ·have cE:s[p]∈eJ:=by rw[<-hc];exact cz dE
    rw[if_pos cE]at fY;have Yo:aT .i64 (s[p]:Int)=(s[p]:Int):=wrap_i64 (by omega) (by have:=(by decide:∀b∈eJ,b<=125) _ cE;omega);refine κ.done .ret (fun st=>st.e 8= .Ω 8 0 0/\st.q 8=some (0,.cells [.n p,.n s[p],.str [s[p]]])/\st.e 9= .n (-1)/\st.mem= {ε:=m.ε,η:=[]}) (by simp[h0,h1,h2,h3,h4,h5,h6,h7,h8,h9,iw,z7,cY,hc,hp,Yo,hw,bound,sM,bR,dt,nq]) fun s' ⟨k1,k2,k3,k4⟩=> .inr ⟨by simp,?_⟩;simp[k1,k2,k3,k4,fY,tA,Tok.va,Tok.cut];rfl
   ·have jb:¬(eJ[j]:Int)=s[p]:=by omega
    refine κ.done .normal (fun st=>K st/\T 0 [] st/\st.e 13= .n ((j+1:Nat):Int)) (by simp[K,T,h0,h1,h2,h3,h4,h5,h6,h7,h8,h9,iw,z7,cY,hc,jb,hp,jE]) fun s' h=> .inl ⟨rfl,by omega,h.1,h.2.1,h.2.2,fun i hi nU=>?_⟩;rcases bP i j with hl|hl
    ·exact ha i hi hl
    ·have:i=j:=by omega
     subst this;exact hc
  ·have:j=13:=by omega
   subst this;refine κ.done (.exit 4) (fun st=>K st/\T 0 [] st) (by simp[K,T,h0,h1,h2,h3,h4,h5,h6,h7,h8,h9,iw]) fun s' h=> .inr ⟨by simp,.inl ⟨rfl,.inl ⟨rfl,h.1,h.2,fun hm=>?_⟩⟩⟩;obtain⟨i,hi,he⟩:=List.getElem_of_mem hm;exact ha i hi (by omega) he
 ·simp only[T]at h8;rw[if_neg h9]at fY;simp[h0,h1,h2,h3,h4,h5,h6,h7,h8,fY,tA,Tok.va,Tok.cut];rfl
def mW(s:List Nat)(p:Nat):List AV:=[.str s,.n 2,.str eJ,.n p,.n (dK p (s.drop p)).at_,.n (dK p (s.drop p)).kind,.str (dK p (s.drop p)).cut,.n (dK p (s.drop p)).bB,.bool (decide (p=s.length))]
theorem f128(s:List Nat)(at':Nat)(a k w:Int)(nn:Bool)(Nj:List Nat)(n:Nat)(hn:n=at'+Nj.length)(h:n<=s.length)(hl:s.length<4000000000)(m:Mem):
  kf u 128 [.agg [.str s,.n 2,.str eJ,.n at',.n a,.n k,.str Nj,.n w,.bool nn]] m=some (.agg (mW s (n+bI false (s.drop n))),m):=by
 refine bz (g:=EX) rfl rfl rfl ?_;simp only[ah,aw,exp,bn,EX,Ol];have Ug:=fun m=>f194 (u:=u) s n h hl m;have hle:=Ax false (s.drop n);have e1:aT .i64 ((at':Int)+Nj.length)=n:=by rw[wrap_i64 (by omega) (by omega)];omega
 generalize hp:n+bI false (s.drop n)=p at*;have bo:p<=s.length:=by simp only[kz]at hle;omega
 by_cases hc:p=s.length
 ·have ht:dK p (s.drop p)=⟨p,0,[],-1⟩:=by rw[hc];simp[dK]
  have hb:((p:Int)==s.length)=true:=beq_iff_eq.2 (by omega);simp[aQ,Ug,e1,cX,mW,ht,Tok.cut,hb,hc];rfl
 ·have ν:p<s.length:=by omega
  have afk:=fun m=>f195 (u:=u) s p ν hl m;have hb:((p:Int)==s.length)=false:=beq_eq_false_iff_ne.2 (by omega);simp[aQ,Ug,afk,e1,cX,mW,tA,Tok.va,hb,hc];rfl
theorem f127(s:List Nat)(hl:s.length<4000000000)(m:Mem):
  kf u 127 [.str s,.n 2,.str eJ] m=some (.agg (mW s (bI false s)),m):=by
 have q:∀m,kf u 128 [.agg [.str s,.n 2,.str eJ,.n 0,.n 0,.n 0,.str [],.n 0,.bool false]] m=some (.agg (mW s (bI false s)),m):=fun m=>by have q:=f128 (u:=u) s 0 0 0 0 false [] 0 rfl (oY _) hl m;rw[List.drop_zero,Nat.zero_add]at q;exact q
 refine bz (g:=EW) rfl rfl rfl ?_;simp[exp,EW,c127,aQ,cX,q,mW];rfl
end Go.ab.Tz
namespace Go.ab
mutual
def pf:AV->Bool
 | .int _ _=>true
 | .bool _=>true
 | .str _=>true
 | .list _ l=>mr l
 | .agg l=>mr l
 | .aO l=>mr l
 |_=>false
def mr:List AV->Bool
 |[]=>true
 |v::l=>pf v&&mr l
end
mutual
def gM:AV->AV
 | .list c l=> .list (c.exp 0 false) (mG l)
 | .agg l=> .agg (mG l)
 | .aO l=> .aO (mG l)
 |v=>v
def mG:List AV->List AV
 |[]=>[]
 |v::l=>gM v::mG l
end
theorem JK(c:Γ)(n:Nat)(k:Bool)(m:Nat):(c.exp n k).exp m false=c.exp 0 false:=by
 cases c with
 |own t=>by_cases h:(k&&decide (t<n))=true<;>simp[Γ.exp,h]
 |full=>cases k<;>rfl
 |_=>rfl
mutual
theorem rz(n:Nat)(k:Bool):∀v,pf v=true->pf (exp n k v)=true/\gM (exp n k v)=gM v/\ρ v=v/\exp n false v=gM v
 | .int _ _,_=>⟨rfl,rfl,rfl,rfl⟩
 | .bool _,_=>⟨rfl,rfl,rfl,rfl⟩
 | .str _,_=>⟨rfl,rfl,rfl,rfl⟩
 | .list c l,h=>by obtain⟨h1,h2,h3,h4⟩:=C5 n k l (by simpa only[pf]using h);have:=JK c 0 false n;refine⟨by simpa only[exp,pf]using h1,by simp only[exp,gM,h2,JK],by simp only[ρ,h3],?_⟩;simp only[exp,gM,h4];congr 1
 | .agg l,h=>by obtain⟨h1,h2,h3,h4⟩:=C5 n k l (by simpa only[pf]using h);exact⟨by simpa only[exp,pf]using h1,by simp only[exp,gM,h2],by simp only[ρ,h3],by simp only[exp,gM,h4]⟩
 | .aO l,h=>by obtain⟨h1,h2,h3,h4⟩:=C5 n k l (by simpa only[pf]using h);exact⟨by simpa only[exp,pf]using h1,by simp only[exp,gM,h2],by simp only[ρ,h3],by simp only[exp,gM,h4]⟩
 | .undef,h| .dd,h| .iR,h| .eU,h| .ga,h| .fP,h=>by simp[pf]at h
 | .Ω _ _ _,h| .μ _ _,h| .ref _,h| .sl _ _ _ _ _,h| .fn _ _ _,h| .iface _ _,h| .map _,h=>by simp[pf]at h
theorem C5(n:Nat)(k:Bool):∀l,mr l=true->mr (bn n k l)=true/\mG (bn n k l)=mG l/\cL l=l/\bn n false l=mG l
 |[],_=>⟨rfl,rfl,rfl,rfl⟩
 |v::l,h=>by simp only[mr,kj]at h;obtain⟨h1,h2,h3,h4⟩:=rz n k v h.1;obtain⟨k1,k2,k3,k4⟩:=C5 n k l h.2;exact⟨by simp only[bn,mr,h1,k1];rfl,by simp only[bn,mG,h2,k2],by simp only[cL,h3,k3],by simp only[bn,mG,h4,k4]⟩
end
mutual
theorem TR(n:Nat)(hp:Nat->Nat->AV)(hs:Nat->Nat->Nat->Nat->AV):∀v,pf v=true->cA n hp hs v=gM v
 | .int _ _,_=>rfl
 | .bool _,_=>rfl
 | .str _,_=>rfl
 | .list c l,h=>by simp only[cA,gM,HW n hp hs l (by simpa only[pf]using h)];congr 1
 | .agg l,h=>by simp only[cA,gM,HW n hp hs l (by simpa only[pf]using h)]
 | .aO l,h=>by simp only[cA,gM,HW n hp hs l (by simpa only[pf]using h)]
 | .undef,h| .dd,h| .iR,h| .eU,h| .ga,h| .fP,h=>by simp[pf]at h
 | .Ω _ _ _,h| .μ _ _,h| .ref _,h| .sl _ _ _ _ _,h| .fn _ _ _,h| .iface _ _,h| .map _,h=>by simp[pf]at h
theorem HW(n:Nat)(hp:Nat->Nat->AV)(hs:Nat->Nat->Nat->Nat->AV):∀l,mr l=true->pc n hp hs l=mG l
 |[],_=>rfl
 |v::l,h=>by simp only[mr,kj]at h;simp only[pc,mG,TR n hp hs v h.1,HW n hp hs l h.2]
end
theorem ae0(bs:List θ)(n k:Nat){v:AV}(h:pf v=true):ax bs n k v=gM v:=by
 cases k with
 |zero=>exact(rz n false v h).2.2.2
 |succ k=>exact TR n _ _ v h
theorem Jq(l:List AV):mG l=l.map gM:=by
 induction l with
 |nil=>rfl
 |cons a l ih=>simp[mG,ih]
theorem C4(l:List AV):mr l=l.all pf:=by
 induction l with
 |nil=>rfl
 |cons a l ih=>simp[mr,ih]
def Dv(v w:AV):Prop:=pf v=true/\gM v=w
theorem Dv.ρ{v w:AV}(h:Dv v w):ρ v=v:=(rz 0 false v h.1).2.2.1
theorem Dv.ax{v w:AV}(h:Dv v w)(bs:List θ)(n k:Nat):ab.ax bs n k v=w:=by rw[ae0 bs n k h.1,h.2]
theorem Dv.exp{v w:AV}(h:Dv v w)(n:Nat)(k:Bool):Dv (ab.exp n k v) w:=⟨(rz n k v h.1).1,by rw[(rz n k v h.1).2.1,h.2]⟩
theorem Dv.str(s:List Nat):Dv (.str s) (.str s):=⟨rfl,rfl⟩
theorem Dv.int(k:IntKind)(n:Int):Dv (.int k n) (.int k n):=⟨rfl,rfl⟩
def Fx(v:AV):Prop:=Dv v v
theorem Fx.Ey{v:AV}(h:Fx v)(n:Nat):ab.exp n false v=v:=by rw[(rz n false v h.1).2.2.2,h.2]
def bJ(l ws:List AV):Prop:=mr l=true/\mG l=ws
theorem bJ.nil:bJ [] []:=⟨rfl,rfl⟩
theorem bJ.cons{v w:AV}{l ws:List AV}(h:Dv v w)(k:bJ l ws):bJ (v::l) (w::ws):=⟨by simp only[mr,h.1,k.1];rfl,by simp only[mG,h.2,k.2]⟩
theorem bJ.append{l ws l' U5:List AV}(h:bJ l ws)(k:bJ l' U5):bJ (l++l') (ws++U5):=by obtain⟨h1,rfl⟩:=h;obtain⟨k1,rfl⟩:=k;rw[C4]at h1 k1;exact⟨by rw[C4,List.all_append,h1,k1];rfl,by simp only[Jq,List.map_append]⟩
theorem bJ.len{l ws:List AV}(h:bJ l ws):l.length=ws.length:=by rw[<-h.2,Jq];simp
theorem Dv.list{l ws:List AV}(c:Γ)(h:bJ l ws):Dv (.list c l) (.list (c.exp 0 false) ws):=⟨by simpa only[pf]using h.1,by simp only[gM,h.2]⟩
theorem Dv.agg{l ws:List AV}(h:bJ l ws):Dv (.agg l) (.agg ws):=⟨by simpa only[pf]using h.1,by simp only[gM,h.2]⟩
theorem Dv.aO{l ws:List AV}(h:bJ l ws):Dv (.aO l) (.aO ws):=⟨by simpa only[pf]using h.1,by simp only[gM,h.2]⟩
theorem bJ.of{α:Type}(f:α->AV)(l:List α)(h:∀x∈l,Fx (f x)):bJ (l.map f) (l.map f):=by
 induction l with
 |nil=>exact .nil
 |cons a l ih=>exact .cons (h a (by simp)) (ih fun x hx=>h x (by simp[hx]))
theorem Dv.shaped{ag:Bool}{sz:Nat}{v w:AV}(h:Dv v w):shaped ag sz v=shaped ag sz w:=by obtain⟨h1,rfl⟩:=h;cases v<;>first|rfl|simp[ab.shaped,gM,Jq,AV.one]
theorem bJ.shaped{ag:Bool}{sz:Nat}{l ws:List AV}(h:bJ l ws)(k:ws.all (ab.shaped ag sz)=true):l.all (ab.shaped ag sz)=true:=by
 obtain⟨h1,rfl⟩:=h;induction l with
 |nil=>rfl
 |cons a l ih=>
  simp only[mr,kj]at h1
  simp only[mG,List.all_cons,kj]at k⊢;exact⟨by rw[Dv.shaped (w:=gM a) ⟨h1.1,rfl⟩];exact k.1,ih h1.2 k.2⟩
mutual
theorem P6(n:Nat):∀v,pf v=true->lo n (gM v)=true
 | .int _ _,_=>rfl
 | .bool _,_=>rfl
 | .str _,_=>rfl
 | .list c l,h=>by
  have hc:(c.exp 0 false).lo n=true:=by cases c<;>rfl
  simp only[gM,lo,hc,Bx n l (by simpa only[pf]using h),vq]
 | .agg l,h=>by simp only[gM,lo,Bx n l (by simpa only[pf]using h)]
 | .aO l,h=>by simp only[gM,lo,Bx n l (by simpa only[pf]using h)]
 | .undef,h| .dd,h| .iR,h| .eU,h| .ga,h| .fP,h=>by simp[pf]at h
 | .Ω _ _ _,h| .μ _ _,h| .ref _,h| .sl _ _ _ _ _,h| .fn _ _ _,h| .iface _ _,h| .map _,h=>by simp[pf]at h
theorem Bx(n:Nat):∀l,mr l=true->bh n (mG l)=true
 |[],_=>rfl
 |v::l,h=>by simp only[mr,kj]at h;simp only[mG,bh,P6 n v h.1,Bx n l h.2,vq]
end
theorem bJ.bh{l ws:List AV}(h:bJ l ws)(n:Nat):ab.bh n ws=true:=by rw[<-h.2];exact Bx n l h.1
theorem Dv.lo{v w:AV}(h:Dv v w)(n:Nat):ab.lo n w=true:=by rw[<-h.2];exact P6 n v h.1
theorem af'(n:Nat)(T:List Nat):∀bs:List θ,(∀i∈T,bs.length<=i)->lT n T bs=bs:=by
 induction T with
 |nil=>intro bs _;rfl
 |cons i T ih=>
  intro bs h
  simp only[lT,iU (h i (by simp))];exact ih bs fun j hj=>h j (by simp[hj])
theorem V4(m:Mem)(bs:List θ)(T:List Nat)(h:∀i∈T,m.ε.length<=i):m.back {ε:=m.ε++bs,η:=T}=m:=by
 have h1:(m.ε++bs).take m.ε.length=m.ε:=by simp
 have h2:(T.filter fun i=>match m.ε[i]? with
   |some b=>!b.clean i
   |none=>false)=[]:=by
  rw[List.filter_eq_nil_iff];intro i hi;simp[iU (h i hi)]
 cases m;simp only[Mem.back]at*;rw[h1,af' _ _ _ h];simp only[Mem.mk.injEq,true_and];exact List.append_right_eq_self.2 h2
theorem D7{C:iT}{f:FuncId}{g:AF}{args:List AV}{m:Mem}{v:AV}(hp:C.jG f=none)(hf:C.fs f=some g)(hk:C.bD f=false)
  (hx:κ C.gl (aS C) g.code {env:=args.map (exp m.ε.length false),loc:=[],mem:= {ε:=m.ε,η:=[]}} fun r=>
   (∀i,r.1≠ .exit i)/\(∃bs,r.2.mem.ε=m.ε++bs)/\(∀i∈r.2.mem.η,m.ε.length<=i)/\∃l,bf r.2 g.results=some l/\ax r.2.mem.ε m.ε.length 8 (ba l)=v):aS C (.fn (.func f) [] []) args m=some (v,m):=by
 obtain⟨⟨ex,s'⟩,h1,h2,⟨bs,h3⟩,h6,l,h4,h5⟩:=hx;rw[Jc hp hf hk h1 h2 h4];dsimp only at h3 h5 h6;have:s'.mem= {ε:=m.ε++bs,η:=s'.mem.η}:=by rw[<-h3]
 rw[h5,this,V4 m bs _ h6]
end Go.ab
