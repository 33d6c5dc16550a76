import Derived.Test.YtiigojkfojnedaaGreatDoorTVa
set_option linter.all false
set_option maxRecDepth 100000
set_option maxHeartbeats 8000000
open List renaming length_cons->cE,length_take->kE,length->ki,length_drop->kZ,drop_eq_getElem_cons->mQ,drop_drop->ov,nil_append->bG,append_nil->de,map_cons->aA,map_nil->aP,getElem_mem->df,take_length->po,getElem?_eq_none->hU,filter_eq_nil_iff->alq,replicate->BZ,mem_append->dE,eq_of_mem_replicate->alr,mem_of_mem_take->pn,mem_of_mem_drop->tM,take_of_length_le->fw,getElem?_append_left->eo,getElem?_append_right->tL,all_map->pg,append_assoc->bH,length_map->cF,mem_cons->cw,getElem?_cons_zero->BW,getElem?_eq_getElem->dN,length_set->mS,set_append_left->mT,mem_singleton->fK,take_succ_cons->sv,any_cons->als,any_nil->alu
open Nat renaming lt_or_ge->cX,zero_le->q_,le_refl->bA
open Go.IntKind renaming wrap->bC
open Bool renaming and_eq_true->dW,and_self->zY,false_eq_true->jI,or_false->alv
namespace Go.Δ
def bZ:Bool->List Nat->Nat
 |_,[]=>0
 |false,b::l=>if b=32\/b=10 then bZ false l+1 else if b=35 then bZ true l+1 else 0
 |true,b::l=>if b=10 then bZ false l+1 else bZ true l+1
def isLet(b:Nat):Bool:=decide (97<=b)&&decide (b<=122)
def o8:List Nat:=[40,41,91,93,123,125,44,59,58,61,43,45,42]
def runN(f:Nat->Bool):List Nat->Nat
 |[]=>0
 |b::l=>if f b then runN f l+1 else 0
structure Tok where
 at_:Nat
 kind:Nat
 text:List Nat
 gK:Int
def fW(n:Nat):List Nat->Tok
 |[]=>⟨n,0,[],-1⟩
 |b::l=>
  if isLet b then⟨n,1,(b::l).take (runN isLet (b::l)),if 8<runN isLet (b::l)then n+8 else-1⟩
  else if cj b then⟨n,2,(b::l).take (runN cj (b::l)),if 1<runN cj (b::l)/\b=48 then n+1 else if 2<runN cj (b::l)then n+2 else-1⟩
  else if b∈o8 then⟨n,b,[b],-1⟩
  else⟨n,0,[b],n⟩
def Tok.cut(t:Tok):List Nat:=
 if t.gK<0 then t.text else if t.kind=1 then t.text.take 8 else if t.kind=2 then(if t.text.head?=some 48 then[48]else t.text.take 2)else[]
theorem V7(c:Bool)(l:List Nat):bZ c l<=l.length:=by
 induction l generalizing c with
 |nil=>cases c<;>simp[bZ]
 |cons b l ih=>
  have h1:=ih false
  have h2:=ih true;cases c<;>simp only[bZ,cE]<;>(repeat' split)<;>omega
theorem afn(l:List Nat):∀k,(∀e,jA 10 l k=some e->k<=e/\e-k<=l.length/\bZ true l=(e-k)+bZ false (l.drop (e-k)))/\(jA 10 l k=none->bZ true l=l.length):=by
 induction l with
 |nil=>intro k;simp[jA,bZ]
 |cons b l ih=>
  intro k
  by_cases h:b=10
  ·subst h;simp[jA,bZ]
  ·obtain⟨h1,h2⟩:=ih (k+1);refine⟨fun e he=>?_,fun he=>?_⟩
   ·simp only[jA,h,if_false]at he;obtain⟨q1,q2,q3⟩:=h1 e he;have e1:e-k=(e-(k+1))+1:=by omega
    refine⟨by omega,by simp only[cE];omega,?_⟩;rw[e1,List.drop_succ_cons];simp only[bZ,h,if_false,q3];omega
   ·simp only[jA,h,if_false]at he;simp only[bZ,h,if_false,h2 he,cE]
theorem zK(f:Nat->Bool)(l:List Nat):runN f l<=l.length:=by
 induction l with
 |nil=>simp[runN]
 |cons b l ih=>simp only[runN,cE];split<;>omega
theorem EO(n b:Nat)(l:List Nat):0<(fW n (b::l)).text.length:=by
 simp only[fW];have e1:isLet b=true->0<runN isLet (b::l):=fun h=>by simp[runN,h]
 have e2:cj b=true->0<runN cj (b::l):=fun h=>by simp[runN,h]
 split
 ·rename_i h;have:=e1 h;have:=zK isLet (b::l);simp only[kE];omega
 ·split
  ·rename_i h;have:=e2 h;have:=zK cj (b::l);simp only[kE];omega
  ·split<;>simp
theorem X1(n:Nat)(l:List Nat):(fW n l).text.length<=l.length:=by
 cases l with
 |nil=>simp[fW]
 |cons b l=>
  simp only[fW]
  split
  ·simp only[kE];omega
  ·split
   ·simp only[kE];omega
   ·split<;>simp
def nw:Nat->Nat->List Nat->List Tok
 |0,_,_=>[]
 |k+1,n,l=>
  if l.length<=bZ false l then[]else
   let m:=n+bZ false l;let r:=l.drop (bZ false l);let t:=fW m r
   if t.kind=0 then[t]else t::nw k (m+t.text.length) (r.drop t.text.length)
def dM(s:List Nat):List Tok:=nw (s.length+1) 0 s
theorem aj0(k j n:Nat)(l:List Nat)(h:l.length<k)(hj:l.length<j):nw k n l=nw j n l:=by
 induction k generalizing j n l with
 |zero=>omega
 |succ k ih=>
  cases j with
  |zero=>omega
  |succ j=>
   simp only[nw]
   split
   ·rfl
   ·rename_i hl;split
    ·rfl
    ·congr 1;have hl:=Nat.not_le.1 hl;cases hr:l.drop (bZ false l)with
     |nil=>have:=congrArg ki hr;simp at this;omega
     |cons b r=>
      have e:(b::r).length=l.length-bZ false l:=by rw[<-hr];simp
      have hp:=EO (n+bZ false l) b r;simp only[cE]at e;refine ih j _ _ ?_ ?_<;>simp only[kZ,cE]<;>omega
end Go.Δ
namespace Go.Δ.Tz
open Go.Δ
variable{u:Nat}
attribute [local simp] exec dT dG eR aH dr ff eH aI fA bQ gX ib iC iL AV.cells newVar iH rd wr gL single dd cA eU ef κ cH RV.get cJ fF jU
theorem IE{s:List Nat}{p:Nat}(h:p<s.length):bZ false (s.drop p)=if s[p]=32\/s[p]=10 then bZ false (s.drop (p+1))+1 else if s[p]=35 then bZ true (s.drop (p+1))+1 else 0:=by rw[mQ h];rfl
theorem afm{s:List Nat}{p:Nat}(h:p<s.length)(Mg:s[p]=35)(h2:(s.length:Int)<4000000000):
  (∀e,jA 10 (s.drop p) 0=some e->0<e/\p+e<=s.length/\p+bZ false (s.drop p)=(p+e)+bZ false (s.drop (p+e)))/\(jA 10 (s.drop p) 0=none->p+bZ false (s.drop p)=s.length):=by
 have hc:¬(s[p]=32\/s[p]=10):=by omega
 have hx:bZ false (s.drop p)=bZ true (s.drop (p+1))+1:=by rw[IE h,if_neg hc,if_pos Mg]
 have hd:s.drop p=s[p]::s.drop (p+1):=mQ h;have τ:¬s[p]=10:=by omega
 obtain⟨k1,k2⟩:=afn (s.drop (p+1)) 1;have hi:jA 10 (s.drop p) 0=jA 10 (s.drop (p+1)) 1:=by rw[hd];simp only[jA,τ,if_false]
 refine⟨fun e he=>?_,fun he=>?_⟩
 ·rw[hi]at he;obtain⟨q1,q2,q3⟩:=k1 e he;simp only[kZ]at q2;rw[ov]at q3;have e1:p+1+(e-1)=p+e:=by omega
  rw[e1]at q3;exact⟨by omega,by omega,by omega⟩
 ·rw[hi]at he;have q:=k2 he;simp only[kZ]at q;omega
theorem ac'(b:Nat):(match jA b [32,10,35] 0 with
  |some i=>(i:Int)
  |none=> -1)=if b=32 then 0 else if b=10 then 1 else if b=35 then 2 else-1:=by
 simp only[jA];by_cases h1:b=32
 ·subst h1;rfl
 by_cases h2:b=10
 ·subst h2;rfl
 by_cases h3:b=35
 ·subst h3;rfl
 have kr:=Ne.symm h1;have lX:=Ne.symm h2;have ft:=Ne.symm h3;simp[h1,h2,h3,kr,lX,ft]
theorem Bx{C:iK}{f:FuncId}{p:Prim}{fst args cap:List AV}{m:Mem}{r:AV×Mem}(hp:C.iX f=some p)(h:p ((fst++args++cap).map (exp m.ε.length (C.bm f))) m=some r):ah C (.fn (.func f) fst cap) args m=some r:=by apply sF;simp only[body,hp,h]
theorem f238(s:List Nat)(c:Nat)(h:c<256)(m:Mem):kf u 238 [.str s,.int .u8 c] m=some (.n (match jA c s 0 with
  |some i=>(i:Int)
  |none=> -1),m):=by
 refine Bx (p:=xL) (by rfl) ?_;have h1:(0:Int)<=c/\(c:Int)<256:=by omega
 simp only[bG,de,aA,aP,exp,xL,h1,and_self,if_true,Int.toNat_natCast];cases jA c s 0<;>rfl
theorem packed{gl:Nat->AV}{c:cu}{a:AC}{s:St}{I:St->Prop}(M:St->Prop)(h:∃s',exec gl c dL a s=some (.normal,s')/\M s')(k:∀s',M s'->I s'):∃s',exec gl c dL a s=some (.normal,s')/\I s':=
 h.imp fun s' h=>⟨h.1,k s' h.2⟩
theorem f202(s:List Nat)(hs:cV s)(n:Nat)(hn:n<=s.length)(hl:s.length<4000000000)(m:Mem):
  kf u 202 [.str s,.n n] m=some (.n ((n+bZ false (s.drop n):Nat):Int),m):=by
 refine eN (g:=Gz) rfl rfl rfl ?_;simp only[aA,aP,exp,Gz,Re];generalize htg:n+bZ false (s.drop n)=JE;let K:St->Prop:=fun st=>st.e 0= .str s/\st.mem= {ε:=m.ε,ζ:=[]};let I:Nat->St->Prop:=fun i st=>K st/\∃p:Nat,st.e 1= .n p/\i<=p/\p<=s.length/\p+bZ false (s.drop p)=JE;refine Θ (I 0) ?_ fun s1 hI=>?_
 ·simp[I,K];exact⟨n,rfl,hn,htg⟩
 refine bP (fun st=>K st/\st.e 1= .n JE) ?_ fun s2 ⟨⟨h1,h2⟩,h3⟩=>?_
 ·refine κ.block (κ.loop (I:=I) s.length hI fun i st hi Ω=>?_);obtain⟨⟨q1,q2⟩,p,q3,q4,q5,q6⟩:=Ω;have e:=fun(b:Nat) (hb:b<256)=>f238 (u:=u) [32,10,35] b hb;have pD:∀m,kf u 238 [.str (s.drop p),.int .u8 10] m=some (.n (match jA 10 (s.drop p) 0 with
    |some i=>(i:Int)
    |none=> -1),m):=f238 (u:=u) (s.drop p) 10 (by omega)
  have Yy:∀m,kf u 238 [.str [32,10,35],.int .u8 32] m=some (.n 0,m):=f238 (u:=u) [32,10,35] 32 (by omega);have Yx:∀m,kf u 238 [.str [32,10,35],.int .u8 10] m=some (.n 1,m):=f238 (u:=u) [32,10,35] 10 (by omega);have Qk:∀m,kf u 238 [.str [32,10,35],.int .u8 35] m=some (.n 2,m):=f238 (u:=u) [32,10,35] 35 (by omega);rcases cX p s.length with χ|du
  ·have hb:s[p]<256:=hs _ (df χ);have eO:(p:Int)<s.length:=by omega
   have e:=e s[p] hb;simp only[ac']at e;have hw:bC .i64 ((p:Int)+1)=(p:Int)+1:=wrap_i64 (by omega) (by omega);have kk:=fun Mg=>afm χ Mg (by omega);by_cases c1:s[p]=32
   ·left;have hx:=IE χ;simp only[c1,true_or,if_true]at hx;refine⟨by omega,?_⟩;refine packed (fun st=>K st/\st.e 1= .n ((p+1:Nat):Int)) ?_ fun s' h=>⟨h.1,p+1,h.2,by omega,by omega,by omega⟩;simp[K,zo,q1,q2,q3,χ,c1,Yy,hw]
   by_cases c2:s[p]=10
   ·left;have hx:=IE χ;simp only[c2,or_true,if_true]at hx;refine⟨by omega,?_⟩;refine packed (fun st=>K st/\st.e 1= .n ((p+1:Nat):Int)) ?_ fun s' h=>⟨h.1,p+1,h.2,by omega,by omega,by omega⟩;simp[K,zo,q1,q2,q3,χ,c2,Yx,hw]
   by_cases c3:s[p]=35
   ·left;obtain⟨k1,k2⟩:=kk c3;refine⟨by omega,?_⟩;have lN:¬(s.length:Int)<p:=by omega
    cases aC:jA 10 (s.drop p) 0 with
    |none=>
     have k2:=k2 aC
     rw[aC]at pD;refine packed (fun st=>K st/\st.e 1= .n ((s.length:Nat):Int)) ?_ fun s' h=>⟨h.1,s.length,h.2,by omega,by omega,by simp[bZ];omega⟩;simp[K,zo,q1,q2,q3,χ,c3,Qk,pD,bound,q5,po]
    |some x=>
     obtain⟨k1,k3,k4⟩:=k1 x aC
     rw[aC]at pD;have ly:bC .i64 ((p:Int)+x)=(p:Int)+x:=wrap_i64 (by omega) (by omega);refine packed (fun st=>K st/\st.e 1= .n ((p+x:Nat):Int)) ?_ fun s' h=>⟨h.1,p+x,h.2,by omega,by omega,by omega⟩;simp[K,zo,q1,q2,q3,χ,c3,Qk,pD,ly,bound,q5,po]
   ·right;have hx:=IE χ;simp only[c1,c2,c3,or_self,if_false]at hx;simp only[c1,c2,c3,if_false]at e;have:JE=p:=by omega
    subst this;simp[zo,K,q1,q2,q3,χ,e]
  ·right;have:p=s.length:=by omega
   subst this;have hz:bZ false (s.drop s.length)=0:=by simp[bZ]
   have:JE=s.length:=by omega
   subst this;simp[zo,K,q1,q2,q3]
 ·simp[h1,h2,h3]
theorem κ.kD{gl:Nat->AV}{c:cu}{a:AC}{I:Nat->St->Prop}{Q:Ex×St->Prop}(n:Nat){s:St}(h0:I 0 s)
  (step:∀i s,i<=n->I i s->κ gl c a s fun r=>(r.1= .normal/\i<n/\I (i+1) r.2)\/(r.1≠ .normal/\Q r)):κ gl c (.loop a) s Q:=by
 refine κ.loop n h0 fun i s hi hs=>?_;obtain⟨⟨e,s'⟩,h1,h2⟩:=step i s hi hs;rcases h2 with⟨rfl,h2,h3⟩|⟨h2,h3⟩
 ·exact .inl ⟨h2,s',h1,h3⟩
 ·exact .inr ⟨_,h1,h2,h3⟩
theorem κ.done{gl:Nat->AV}{c:cu}{a:AC}{s:St}{Q:Ex×St->Prop}(ex:Ex)(M:St->Prop)(h:∃s',exec gl c dL a s=some (ex,s')/\M s')(k:∀s',M s'->Q (ex,s')):κ gl c a s Q:=by obtain⟨s',h1,h2⟩:=h;exact⟨_,h1,k s' h2⟩
attribute [local simp] lq
theorem PC{f:Nat->Bool}{s:List Nat}{p:Nat}(h:p<s.length):runN f (s.drop p)=if f s[p]then runN f (s.drop (p+1))+1 else 0:=by rw[mQ h];rfl
theorem aiW{f:Nat->Bool}{s:List Nat}:runN f (s.drop s.length)=0:=by simp[runN]
theorem XX{s:List Nat}{a i:Nat}(h:a<=i):(s.take i).drop a=(s.drop a).take (i-a):=by rw[List.drop_take]
theorem ajW{s:List Nat}{p:Nat}(h:p<s.length):fW p (s.drop p)=
  if isLet s[p]then⟨p,1,(s.drop p).take (runN isLet (s.drop p)),if 8<runN isLet (s.drop p)then p+8 else-1⟩
  else if cj s[p]then⟨p,2,(s.drop p).take (runN cj (s.drop p)),if 1<runN cj (s.drop p)/\s[p]=48 then p+1 else if 2<runN cj (s.drop p)then p+2 else-1⟩
  else if s[p]∈o8 then⟨p,s[p],[s[p]],-1⟩
  else⟨p,0,[s[p]],p⟩:=by
 rw[mQ h];rfl
end Go.Δ.Tz
namespace Go.Δ
mutual
def pf:AV->Bool
 | .int _ _=>true
 | .bool _=>true
 | .str _=>true
 | .list _ l=>lQ l
 | .agg l=>lQ l
 | .aU l=>lQ l
 |_=>false
def lQ:List AV->Bool
 |[]=>true
 |v::l=>pf v&&lQ l
end
mutual
def eC:AV->AV
 | .list c l=> .list (c.exp 0 false) (kp l)
 | .agg l=> .agg (kp l)
 | .aU l=> .aU (kp l)
 |v=>v
def kp:List AV->List AV
 |[]=>[]
 |v::l=>eC v::kp l
end
theorem vb(c:ξ)(n:Nat)(k:Bool)(m:Nat):(c.exp n k).exp m false=c.exp 0 false:=by
 cases c with
 |own t=>by_cases h:(k&&decide (t<n))=true<;>simp[ξ.exp,h]
 |full=>cases k<;>rfl
 |_=>rfl
mutual
theorem Bv(n:Nat)(k:Bool):∀v,pf v=true->pf (exp n k v)=true/\eC (exp n k v)=eC v/\ν v=v/\exp n false v=eC v
 | .int _ _,_=>⟨rfl,rfl,rfl,rfl⟩
 | .bool _,_=>⟨rfl,rfl,rfl,rfl⟩
 | .str _,_=>⟨rfl,rfl,rfl,rfl⟩
 | .list c l,h=>by obtain⟨h1,h2,h3,h4⟩:=Ef n k l (by simpa only[pf]using h);have:=vb c 0 false n;refine⟨by simpa only[exp,pf]using h1,by simp only[exp,eC,h2,vb],by simp only[ν,h3],?_⟩;simp only[exp,eC,h4];congr 1
 | .agg l,h=>by obtain⟨h1,h2,h3,h4⟩:=Ef n k l (by simpa only[pf]using h);exact⟨by simpa only[exp,pf]using h1,by simp only[exp,eC,h2],by simp only[ν,h3],by simp only[exp,eC,h4]⟩
 | .aU l,h=>by obtain⟨h1,h2,h3,h4⟩:=Ef n k l (by simpa only[pf]using h);exact⟨by simpa only[exp,pf]using h1,by simp only[exp,eC,h2],by simp only[ν,h3],by simp only[exp,eC,h4]⟩
 | .undef,h| .cU,h| .iU,h| .fV,h| .gx,h| .gY,h=>by simp[pf]at h
 | .aj _ _ _,h| .μ _ _,h| .ref _,h| .sl _ _ _ _ _,h| .fn _ _ _,h| .iface _ _,h| .map _,h=>by simp[pf]at h
theorem Ef(n:Nat)(k:Bool):∀l,lQ l=true->lQ (bn n k l)=true/\kp (bn n k l)=kp l/\cL l=l/\bn n false l=kp l
 |[],_=>⟨rfl,rfl,rfl,rfl⟩
 |v::l,h=>by simp only[lQ,dW]at h;obtain⟨h1,h2,h3,h4⟩:=Bv n k v h.1;obtain⟨k1,k2,k3,k4⟩:=Ef n k l h.2;exact⟨by simp only[bn,lQ,h1,k1];rfl,by simp only[bn,kp,h2,k2],by simp only[cL,h3,k3],by simp only[bn,kp,h4,k4]⟩
end
mutual
theorem WS(n:Nat)(hp:Nat->Nat->AV)(hs:Nat->Nat->Nat->Nat->AV):∀v,pf v=true->fE n hp hs v=eC v
 | .int _ _,_=>rfl
 | .bool _,_=>rfl
 | .str _,_=>rfl
 | .list c l,h=>by simp only[fE,eC,I7 n hp hs l (by simpa only[pf]using h)];congr 1
 | .agg l,h=>by simp only[fE,eC,I7 n hp hs l (by simpa only[pf]using h)]
 | .aU l,h=>by simp only[fE,eC,I7 n hp hs l (by simpa only[pf]using h)]
 | .undef,h| .cU,h| .iU,h| .fV,h| .gx,h| .gY,h=>by simp[pf]at h
 | .aj _ _ _,h| .μ _ _,h| .ref _,h| .sl _ _ _ _ _,h| .fn _ _ _,h| .iface _ _,h| .map _,h=>by simp[pf]at h
theorem I7(n:Nat)(hp:Nat->Nat->AV)(hs:Nat->Nat->Nat->Nat->AV):∀l,lQ l=true->oF n hp hs l=kp l
 |[],_=>rfl
 |v::l,h=>by simp only[lQ,dW]at h;simp only[oF,kp,WS n hp hs v h.1,I7 n hp hs l h.2]
end
theorem ahB(bs:List θ)(n k:Nat){v:AV}(h:pf v=true):aK bs n k v=eC v:=by
 cases k with
 |zero=>exact(Bv n false v h).2.2.2
 |succ k=>exact WS n _ _ v h
theorem Cy(l:List AV):kp l=l.map eC:=by
 induction l with
 |nil=>rfl
 |cons a l ih=>simp[kp,ih]
theorem WT(l:List AV):lQ l=l.all pf:=by
 induction l with
 |nil=>rfl
 |cons a l ih=>simp[lQ,ih]
def Dv(v w:AV):Prop:=pf v=true/\eC v=w
theorem Dv.ν{v w:AV}(h:Dv v w):ν v=v:=(Bv 0 false v h.1).2.2.1
theorem Dv.aK{v w:AV}(h:Dv v w)(bs:List θ)(n k:Nat):Δ.aK bs n k v=w:=by rw[ahB bs n k h.1,h.2]
theorem Dv.str(s:List Nat):Dv (.str s) (.str s):=⟨rfl,rfl⟩
theorem Dv.int(k:IntKind)(n:Int):Dv (.int k n) (.int k n):=⟨rfl,rfl⟩
def Fx(v:AV):Prop:=Dv v v
theorem Fx.aaT{v:AV}(h:Fx v)(n:Nat):Δ.exp n false v=v:=by rw[(Bv n false v h.1).2.2.2,h.2]
def bS(l ws:List AV):Prop:=lQ l=true/\kp l=ws
theorem bS.nil:bS [] []:=⟨rfl,rfl⟩
theorem bS.cons{v w:AV}{l ws:List AV}(h:Dv v w)(k:bS l ws):bS (v::l) (w::ws):=⟨by simp only[lQ,h.1,k.1];rfl,by simp only[kp,h.2,k.2]⟩
theorem bS.append{l ws l' P6:List AV}(h:bS l ws)(k:bS l' P6):bS (l++l') (ws++P6):=by obtain⟨h1,rfl⟩:=h;obtain⟨k1,rfl⟩:=k;rw[WT]at h1 k1;exact⟨by rw[WT,List.all_append,h1,k1];rfl,by simp only[Cy,List.map_append]⟩
theorem bS.len{l ws:List AV}(h:bS l ws):l.length=ws.length:=by rw[<-h.2,Cy];simp
theorem Dv.list{l ws:List AV}(c:ξ)(h:bS l ws):Dv (.list c l) (.list (c.exp 0 false) ws):=⟨by simpa only[pf]using h.1,by simp only[eC,h.2]⟩
theorem Dv.agg{l ws:List AV}(h:bS l ws):Dv (.agg l) (.agg ws):=⟨by simpa only[pf]using h.1,by simp only[eC,h.2]⟩
theorem Dv.aU{l ws:List AV}(h:bS l ws):Dv (.aU l) (.aU ws):=⟨by simpa only[pf]using h.1,by simp only[eC,h.2]⟩
theorem bS.of{α:Type}(f:α->AV)(l:List α)(h:∀x∈l,Fx (f x)):bS (l.map f) (l.map f):=by
 induction l with
 |nil=>exact .nil
 |cons a l ih=>exact .cons (h a (by simp)) (ih fun x hx=>h x (by simp[hx]))
mutual
theorem Su(n:Nat):∀v,pf v=true->lo n (eC v)=true
 | .int _ _,_=>rfl
 | .bool _,_=>rfl
 | .str _,_=>rfl
 | .list c l,h=>by
  have hc:(c.exp 0 false).lo n=true:=by cases c<;>rfl
  simp only[eC,lo,hc,Cz n l (by simpa only[pf]using h),zY]
 | .agg l,h=>by simp only[eC,lo,Cz n l (by simpa only[pf]using h)]
 | .aU l,h=>by simp only[eC,lo,Cz n l (by simpa only[pf]using h)]
 | .undef,h| .cU,h| .iU,h| .fV,h| .gx,h| .gY,h=>by simp[pf]at h
 | .aj _ _ _,h| .μ _ _,h| .ref _,h| .sl _ _ _ _ _,h| .fn _ _ _,h| .iface _ _,h| .map _,h=>by simp[pf]at h
theorem Cz(n:Nat):∀l,lQ l=true->bo n (kp l)=true
 |[],_=>rfl
 |v::l,h=>by simp only[lQ,dW]at h;simp only[kp,bo,Su n v h.1,Cz n l h.2,zY]
end
theorem bS.bo{l ws:List AV}(h:bS l ws)(n:Nat):Δ.bo n ws=true:=by rw[<-h.2];exact Cz n l h.1
theorem Dv.lo{v w:AV}(h:Dv v w)(n:Nat):Δ.lo n w=true:=by rw[<-h.2];exact Su n v h.1
theorem ajx(n:Nat)(T:List Nat):∀bs:List θ,(∀i∈T,bs.length<=i)->lS n T bs=bs:=by
 induction T with
 |nil=>intro bs _;rfl
 |cons i T ih=>
  intro bs h
  simp only[lS,hU (h i (by simp))];exact ih bs fun j hj=>h j (by simp[hj])
theorem QD(m:Mem)(bs:List θ)(T:List Nat)(h:∀i∈T,m.ε.length<=i):m.back {ε:=m.ε++bs,ζ:=T}=m:=by
 have h1:(m.ε++bs).take m.ε.length=m.ε:=by simp
 have h2:(T.filter fun i=>match m.ε[i]? with
   |some b=>!b.clean i
   |none=>false)=[]:=by
  rw[alq];intro i hi;simp[hU (h i hi)]
 cases m;simp only[Mem.back]at*;rw[h1,ajx _ _ _ h];simp only[Mem.mk.injEq,true_and];exact List.append_right_eq_self.2 h2
theorem RW{C:iK}{f:FuncId}{g:AF}{args:List AV}{m:Mem}{v:AV}(hp:C.iX f=none)(hf:C.fs f=some g)(hk:C.bm f=false)
  (hx:κ C.gl (ah C) g.code {env:=args.map (exp m.ε.length false),loc:=[],mem:= {ε:=m.ε,ζ:=[]}} fun r=>
   (∀i,r.1≠ .exit i)/\(∃bs,r.2.mem.ε=m.ε++bs)/\(∀i∈r.2.mem.ζ,m.ε.length<=i)/\∃l,cH r.2 g.results=some l/\aK r.2.mem.ε m.ε.length 8 (cJ l)=v):ah C (.fn (.func f) [] []) args m=some (v,m):=by
 obtain⟨⟨ex,s'⟩,h1,h2,⟨bs,h3⟩,h6,l,h4,h5⟩:=hx;rw[KL hp hf hk h1 h2 h4];dsimp only at h3 h5 h6;have:s'.mem= {ε:=m.ε++bs,ζ:=s'.mem.ζ}:=by rw[<-h3]
 rw[h5,this,QD m bs _ h6]
end Go.Δ
namespace Go.Δ.Tz
open Go.Δ
variable{u:Nat}
attribute [local simp] exec dT dG eR aH dr ff eH aI fA bQ gX ib iC iL lq AV.cells newVar iH rd wr gL single dd cA eU ef κ cH RV.get cJ fF jU
def zW:List AV:=BZ 256 (.bool false)
def Ol:List KK:=BZ 256 .bool
noncomputable def Rq(z:List AV):AC:=(.seq (.ops [⟨(some 2),.alloc false z,none⟩]) (.seq (.ops [⟨(some 3),.alloc false z,none⟩]) (.seq (.seq (.ops [⟨(some 5),.mv (.t 0),none⟩,⟨(some 6),.tB (.t 5),none⟩]) (.block 0 (.loop Ow))) (.seq (.ops [⟨(some 14),.ld true 256 (.t 3),none⟩,⟨none,.st 256 (.t 2) (.t 14),none⟩]) .ret))))
def Ro(ks:List KK):AC:=(.seq (.ops [⟨(some 2),.box false 256 (.t 0),none⟩,⟨(some 4),.mv (.c (.bool false)),none⟩]) (.seq (.draw [⟨(some 5),.ld true 256 (.t 2),none⟩,⟨(some 6),.mv (.t 1),none⟩,⟨(some 7),.conv (.int .i32) (.t 6),none⟩,⟨(some 8),.conv .char (.t 7),none⟩,⟨(some 9),.call (.c (.fn (.func 243) [] [])) [(.t 8)],none⟩,⟨(some 10),.eqs false ks (.t 5) (.t 9),none⟩,⟨(some 4),.mv (.t 10),none⟩] [(0,4)] []) .ret))
theorem ZJ:Rp=Rq zW:=rfl
theorem ZI:Rn=Ro Ol:=rfl
def oq(f:Nat->Bool):List AV:=(List.range 256).map fun b=> .bool (f b)
theorem Jy(f:Nat->Bool){b:Nat}(h:b<256):((oq f).drop b).take 1=[.bool (f b)]:=by
 have hl:b<(oq f).length:=by simpa[oq]using h
 rw[mQ hl];simp[oq]
theorem XU(f:Nat->Bool):(oq f).length=256:=by simp[oq]
def Ii(b:Nat):Bool:=decide (b∈o8)
def mf(b:Nat):List AV:=dd zW b [.bool true]
theorem akA:zW.length=256:=by simp[zW]
theorem WB{b:Nat}(h:b<256):(mf b).length=256:=by simp[mf,zW];omega
theorem Ta{b:Nat}(h:b<256):Fx (.agg (mf b)):=by
 have h1:∀v∈mf b,∃x,v= .bool x:=by
  intro v hv;simp only[mf,zW,dd,dE]at hv;rcases hv with(hv|hv)|hv
  ·exact⟨_,alr (pn hv)⟩
  ·exact⟨_,by simpa using hv⟩
  ·exact⟨_,alr (tM hv)⟩
 have h2:=bS.of id (mf b) fun v hv=>by obtain⟨x,rfl⟩:=h1 v hv;exact⟨rfl,rfl⟩
 rw[List.map_id]at h2;exact .agg h2
theorem f243(b:Nat)(h:b<128)(m:Mem):kf u 243 [.str [b]] m=some (.agg (mf b),m):=by
 refine eN (g:=GQ) rfl rfl rfl ?_;simp only[aA,aP,exp,GQ,ZJ,Rq];have hz:=akA;generalize Od:zW=z at*;let K:St->Prop:=fun st=>st.e 0= .str [b]/\st.e 2= .aj 2 0 0/\st.q 2=some (0,.cells z)/\st.e 3= .aj 3 0 0/\st.mem= {ε:=m.ε,ζ:=[]};refine Θ (fun st=>st.e 0= .str [b]/\st.e 2= .aj 2 0 0/\st.q 2=some (0,.cells z)/\st.q 3=none/\st.mem= {ε:=m.ε,ζ:=[]}) (by simp[bL]) fun s1 ⟨h0,h1,h2,h3,h4⟩=>?_;refine Θ (fun st=>K st/\st.q 3=some (0,.cells z)) (by simp[K,h0,h1,h2,h3,h4,bL]) fun s1 ⟨⟨h0,h1,h2,h3,h4⟩,h5⟩=>?_;refine bP (fun st=>K st/\st.q 3=some (0,.cells (mf b))) ?_ fun s2 ⟨⟨h0,h1,h2,h3,h4⟩,h5⟩=>?_
 ·let I:Nat->St->Prop:=fun i st=>K st/\st.q 3=some (0,.cells (if i=0 then z else mf b))/\∃v,st.e 6= .aj 6 v 0/\st.q 6=some (v,.iter [b] i);refine Θ (I 0) (by simp[I,K,h0,h1,h2,h3,h4,h5]) fun s2 hI=>?_;refine κ.block (κ.kD (I:=I) 1 hI fun i st hi Ω=>?_);obtain⟨⟨h0,h1,h2,h3,h4⟩,h5,v,h6,h7⟩:=Ω;unfold Ow;rcases cX i 1 with χ|du
  ·have:i=0:=by omega
   subst this;have hd:=Sq (s:=[b]) (i:=0) (by simp) (by simpa using h);simp only[aA,aP,List.getElem_cons_zero]at hd;have hb:(b:Int)<256:=by omega
   have dy:b<256:=by omega
   have sN:b+1<=256:=by omega
   refine κ.done .normal (fun st=>I 1 st) (by simp[I,K,h0,h1,h2,h3,h4,h5,h6,h7,hd,hb,dy,sN,hz,mf,Od]) fun s' h=> .inl ⟨rfl,by omega,h⟩
  ·have:i=1:=by omega
   subst this;refine κ.done (.exit 0) (fun st=>K st/\st.q 3=some (0,.cells (mf b))) (by simp[K,h0,h1,h2,h3,h4,h5,h6,h7]) fun s' h=> .inr ⟨by simp,.inl ⟨rfl,.inl ⟨rfl,h⟩⟩⟩
 ·have U0:(mf b).length=256:=WB (by omega);have ht:(mf b).take 256=mf b:=fw (by omega);simp[h0,h1,h2,h3,h4,h5,U0,hz,ht];exact(Ta (show b<256 by omega)).aK _ _ _
theorem f242(T:List AV)(hT:T.length=256)(r:Bool)(hr:kL Ol T (mf 48)=some r)(m:Mem)(hx:bn m.ε.length false T=T):kf u 242 [.agg T,.int .u8 48] m=some (.bool r,m):=by
 have q:=fun m=>f243 (u:=u) 48 (by omega) m;refine eN (g:=GP) rfl rfl rfl ?_;simp only[aA,aP,exp,hx,GP,ZI,Ro];have hw:bC .i32 48=48:=by decide
 have he:(Utf8.encode 48).data.toList.map UInt8.toNat=[48]:=by rfl
 have ht:T.take 256=T:=fw (by omega);simp[bL,hT,q,hr,hw,he,ht,cZ,c8,eZ]
theorem agl:∀i,i<10->kL Ol (mf (48+i)) (mf 48)=some (decide (i=0)):=by decide
def nM(B:List θ)(s:List Nat)(p q:Nat):List θ:=B++[.cells [.str s],.cells [.n p],.cells [.n q]]
section
variable(B:List θ)(s:List Nat)(p q:Nat)
theorem af1:(nM B s p q).length=B.length+3:=by simp[nM]
theorem xH:(nM B s p q)[B.length]?=some (.cells [.str s]):=by simp[nM]
theorem rZ:(nM B s p q)[B.length+1]?=some (.cells [.n p]):=by simp[nM]
theorem D8:(nM B s p q)[B.length+2]?=some (.cells [.n q]):=by simp[nM]
theorem af2(r:Nat):(nM B s p q).set (B.length+2) (.cells [.n r])=nM B s p r:=by simp[nM]
end
theorem f239(f:Nat->Bool)(B:List θ)(s:List Nat)(hs:cV s)(p q:Nat)(hpq:p<=q)(hq:q<=s.length)(hl:s.length<4000000000)(T:List Nat):
  ah (C u) (.fn (.func 239) [] [.μ (B.length+2) 0,.μ B.length 0,.μ (B.length+1) 0]) [.agg (oq f)] {ε:=nM B s p q,ζ:=T}=some (.n ((q+runN f (s.drop q)-p:Nat):Int),{ε:=nM B s p (q+runN f (s.drop q)),ζ:=T}):=by
 have hle:=zK f (s.drop q);simp only[kZ]at hle;generalize hr:q+runN f (s.drop q)=r at*;have hT:=XU f;refine VA (m':= {ε:=nM B s p r,ζ:=T}) (g:=GO) rfl rfl rfl ?_ rfl;have Df:∀n,bn n true (oq f)=oq f:=fun n=>by rw[fQ];simp[oq,exp]
 have eJ:([AV.agg (oq f)]++[AV.μ (B.length+2) 0,.μ B.length 0,.μ (B.length+1) 0]).map (exp (nM B s p q).length true)=[AV.agg (oq f),.μ (B.length+2) 0,.μ B.length 0,.μ (B.length+1) 0]:=by simp[Df,exp,af1]
 rw[eJ];simp only[GO,Rm];let K:Nat->St->Prop:=fun q st=>st.e 1= .μ (B.length+2) 0/\st.e 2= .μ B.length 0/\st.e 3= .μ (B.length+1) 0/\st.e 4= .aj 4 0 0/\st.q 4=some (0,.cells (oq f))/\st.mem= {ε:=nM B s p q,ζ:=[]};refine Θ (K q) (by simp[K,bL,hT]) fun s1 hK=>?_;refine bP (K r) ?_ fun s2 ⟨h1,h2,h3,h4,h5,h6⟩=>?_
 ·let I:Nat->St->Prop:=fun i st=>∃x:Nat,K x st/\q+i=x/\x<=s.length/\x+runN f (s.drop x)=r;have h0:I 0 s1:=⟨q,hK,rfl,hq,hr⟩;refine κ.block (κ.kD (I:=I) s.length h0 fun i st hi Ω=>?_);obtain⟨x,⟨h1,h2,h3,h4,h5,h6⟩,hx,Vp,Ih⟩:=Ω;unfold VV;rcases cX x s.length with χ|du
  ·have hb:s[x]<256:=hs _ (df χ);have dy:(s[x]:Int)<256:=by omega
   have sN:s[x]+1<=256:=by omega
   have hg:=Jy f hb;have hw:bC .i64 ((x:Int)+1)=((x+1:Nat):Int):=by rw[wrap_i64 (by omega) (by omega)];omega
   rw[PC χ]at Ih;cases hc:f s[x]with
   |false=>
    rw[hc]at hg
    simp only[hc,jI,if_false]at Ih;have:x=r:=by omega
    subst this;refine κ.done (.exit 0) (fun st=>K x st) (by simp[K,h1,h2,h3,h4,h5,h6,xH,rZ,D8,χ,hb,dy,sN,hT,hg]) fun s' h=> .inr ⟨by simp,.inl ⟨rfl,.inl ⟨rfl,h⟩⟩⟩
   |true=>
    rw[hc]at hg
    simp only[hc,if_true]at Ih;have lO:(nM B s p x).set (B.length+2) (.cells [.n ((x:Int)+1)])=nM B s p (x+1):=af2 B s p x (x+1);refine κ.done .normal (fun st=>K (x+1) st) (by simp[K,h1,h2,h3,h4,h5,h6,xH,rZ,D8,χ,hb,dy,sN,hT,hg,hw,Mem.put,Mem.ν,ν,bo,lo,lO]) fun s' h=> .inl ⟨rfl,by omega,x+1,h,by omega,by omega,by omega⟩
  ·have:x=s.length:=by omega
   subst this;rw[aiW]at Ih;have:s.length=r:=by omega
   rw[this]at h6;refine κ.done (.exit 0) (fun st=>K r st) (by simp[K,h1,h2,h3,h4,h5,h6,xH,rZ,D8,this]) fun s' h=> .inr ⟨by simp,.inl ⟨rfl,.inl ⟨rfl,h⟩⟩⟩
 ·have hw:bC .i64 ((r:Int)-p)=((r-p:Nat):Int):=by rw[wrap_i64 (by omega) (by omega)];omega
  simp[h1,h2,h3,h4,h5,h6,rZ,D8,hw,exp]
def _root_.Go.Δ.Tok.bu(t:Tok):AV:= .agg [.n t.at_,.n t.kind,.str t.text,.n t.gK]
theorem FL{b:Nat}(h:cj b=true):48<=b/\b<=57:=by simpa[cj]using h
theorem f203(s:List Nat)(hs:cV s)(p:Nat)(hp:p<s.length)(hl:s.length<4000000000)(m:Mem):
  kf u 203 [.str s,.n p] m=some ((fW p (s.drop p)).bu,m):=by
 refine eN (g:=GA) rfl rfl rfl ?_;have oL:=ajW hp;have hb:s[p]<256:=hs _ (df hp);simp only[aA,aP,exp,GA,c203];have Pq:∀m,kf u 240 [] m=some (.agg (oq isLet),m):=fun m=>Bx (p:=uK EK) (by rfl) (by rfl);have Er:∀m,kf u 241 [] m=some (.agg (oq cj),m):=fun m=>Bx (p:=uK EM) (by rfl) (by rfl);have Xh:∀m,kf u 244 [] m=some (.agg (oq Ii),m):=fun m=>Bx (p:=uK EN) (by rfl) (by rfl);have sh:=fun f T=>f239 (u:=u) f m.ε s hs p (p+1) (by omega) (by omega) hl T;have hw:bC .i64 ((p:Int)+1)=((p+1:Nat):Int):=by rw[wrap_i64 (by omega) (by omega)];omega
 let K:Nat->St->Prop:=fun q st=>st.e 2= .μ m.ε.length 0/\st.e 3= .μ (m.ε.length+1) 0/\st.e 4= .aj 4 0 0/\st.q 4=some (0,.cells [.n 0,.n 0,.str [],.n 0])/\st.e 5= .aj 5 0 0/\st.e 6= .μ (m.ε.length+2) 0/\st.mem= {ε:=nM m.ε s p q,ζ:=[]};let T:Int->List Nat->Int->St->Prop:=fun k t w st=>st.q 5=some (0,.cells [.n p,.n k,.str t,.n w]);refine Θ (fun st=>st.e 2= .μ m.ε.length 0/\st.e 3= .μ (m.ε.length+1) 0/\st.e 4= .aj 4 0 0/\st.q 4=some (0,.cells [.n 0,.n 0,.str [],.n 0])/\st.q 5=none/\st.mem= {ε:=m.ε++[.cells [.str s],.cells [.n p]],ζ:=[]}) (by simp[bL,Mem.push,Mem.ν,ν]) fun s1 ⟨h1,h2,h3,h4,h5,h6⟩=>?_;refine Θ (fun st=>K (p+1) st/\T 0 [] (-1) st) (by simp[K,T,h1,h2,h3,h4,h5,h6,bL,dp,hw,Mem.push,Mem.put,Mem.ν,ν,bo,lo,cZ,pC,c8,eZ,AV.gS,AV.beq,nM]) fun s1 ⟨⟨h1,h2,h3,h4,h5,h6,h7⟩,h8⟩=>?_;have UF:=zK isLet (s.drop p);have HW:=zK cj (s.drop p);simp only[kZ]at UF HW;have dy:(s[p]:Int)<256:=by omega
 have sN:s[p]+1<=256:=by omega
 have g1:=Jy isLet hb;have g2:=Jy cj hb;have g3:=Jy Ii hb;have hT:=fun f=>XU f;generalize qF:fW p (s.drop p)=tk at oL;refine Θ (fun st=>K (p+1) st/\T 0 [] (-1) st/\st.e 7= .fn (.func 239) [] [.μ (m.ε.length+2) 0,.μ m.ε.length 0,.μ (m.ε.length+1) 0]) (by simp[K,T,h1,h2,h3,h4,h5,h6,h7,h8]) fun s1 ⟨⟨h1,h2,h3,h4,h5,h6,h7⟩,h8,h9⟩=>?_;have Bc:isLet s[p]=true->p+1+runN isLet (s.drop (p+1))=p+runN isLet (s.drop p):=fun h=>by rw[PC hp,h];simp;omega
 have DE:cj s[p]=true->p+1+runN cj (s.drop (p+1))=p+runN cj (s.drop p):=fun h=>by rw[PC hp,h];simp;omega
 have di:∀n:Nat,p+n-p=n:=fun n=>by omega
 refine bP (fun st=>K (p+tk.text.length) st/\T tk.kind [] tk.gK st/\tk.at_=p/\tk.text=(s.drop p).take tk.text.length/\p+tk.text.length<=s.length) ?_ fun s2 ⟨⟨h1,h2,h3,h4,h5,h6,h7⟩,h8,h9,aC,bp⟩=>?_
 ·refine Θ (fun st=>(K (p+1) st/\T 0 [] (-1) st)/\st.e 7= .fn (.func 239) [] [.μ (m.ε.length+2) 0,.μ m.ε.length 0,.μ (m.ε.length+1) 0]/\st.e 8= .int .u8 s[p]) (by simp[K,T,h1,h2,h3,h4,h5,h6,h7,h8,h9,xH,rZ,hp]) fun s1 ⟨⟨⟨h1,h2,h3,h4,h5,h6,h7⟩,h8⟩,h9,aC⟩=>?_;simp only[T]at h8;refine κ.block ?_;refine Θ (fun st=>((K (p+1) st/\T 0 [] (-1) st)/\st.e 7= .fn (.func 239) [] [.μ (m.ε.length+2) 0,.μ m.ε.length 0,.μ (m.ε.length+1) 0]/\st.e 8= .int .u8 s[p])/\st.e 21= .bool (isLet s[p])) (by simp[K,T,h1,h2,h3,h4,h5,h6,h7,h8,h9,aC,Pq,dy,sN,hT,g1]) fun s1 ⟨⟨⟨⟨h1,h2,h3,h4,h5,h6,h7⟩,h8⟩,h9,aC⟩,bp⟩=>?_;simp only[T]at h8;cases c1:isLet s[p]with
  |true=>
   have Bc:=Bc c1
   rw[c1]at oL;simp only[if_true]at oL;refine κ.yes (by simp[bp,c1]) ?_;have sh:=sh isLet [];rw[Bc,di]at sh;generalize hr:runN isLet (s.drop p)=r at*;have hlen:((s.drop p).take r).length=r:=by simp;omega
   have ly:bC .i64 ((p:Int)+8)=(p:Int)+8:=wrap_i64 (by omega) (by omega);subst oL;by_cases TE:8<r
   ·have Mi:(8:Int)<r:=by omega
    refine κ.done .normal (fun st=>K (p+r) st/\T 1 [] ((p:Int)+8) st) (by simp[K,T,h1,h2,h3,h4,h5,h6,h7,h8,h9,aC,Pq,sh,Mi,rZ,ly]) fun s' h=> .inr ⟨by simp,.inl ⟨rfl,?_⟩⟩;simp only[TE,if_true,hlen];exact⟨h.1,h.2,trivial,trivial,by omega⟩
   ·have Mi:¬(8:Int)<r:=by omega
    refine κ.done .normal (fun st=>K (p+r) st/\T 1 [] (-1) st) (by simp[K,T,h1,h2,h3,h4,h5,h6,h7,h8,h9,aC,Pq,sh,Mi,rZ,ly]) fun s' h=> .inr ⟨by simp,.inl ⟨rfl,?_⟩⟩;simp only[TE,if_false,hlen];exact⟨h.1,h.2,trivial,trivial,by omega⟩
  |false=>
   refine κ.no (by simp[bp,c1]) ?_
   rw[c1]at oL;simp only[jI,if_false]at oL;refine Θ (fun st=>((K (p+1) st/\T 0 [] (-1) st)/\st.e 7= .fn (.func 239) [] [.μ (m.ε.length+2) 0,.μ m.ε.length 0,.μ (m.ε.length+1) 0]/\st.e 8= .int .u8 s[p])/\st.e 34= .bool (cj s[p])) (by simp[K,T,h1,h2,h3,h4,h5,h6,h7,h8,h9,aC,Er,dy,sN,hT,g2]) fun s1 ⟨⟨⟨⟨h1,h2,h3,h4,h5,h6,h7⟩,h8⟩,h9,aC⟩,bp⟩=>?_;simp only[T]at h8;cases c2:cj s[p]with
   |true=>
    have DE:=DE c2
    rw[c2]at oL;simp only[if_true]at oL;refine κ.yes (by simp[bp,c2]) ?_;have sh:=sh cj [];rw[DE,di]at sh;generalize hr:runN cj (s.drop p)=r at*;have hlen:((s.drop p).take r).length=r:=by simp;omega
    have hd:=FL c2;have Pt:=fun m=>f243 (u:=u) s[p] (by omega) m;have Pr:∀m,kf u 242 [.agg (mf s[p]),.int .u8 48] m=some (.bool (decide (s[p]=48)),m):=fun m=>by
     refine f242 (u:=u) (mf s[p]) (WB hb) _ ?_ m ?_
     ·have:=agl (s[p]-48) (by omega);rw[show 48+(s[p]-48)=s[p] by omega]at this;rw[this];congr 1;simp only[decide_eq_decide];omega
     ·have:=(Ta hb).aaT m.ε.length;simpa only[exp,AV.agg.injEq]using this
    have uv:(s.take (p+1)).drop p=[s[p]]:=by rw[XX (by omega),show p+1-p=1 by omega,mQ hp];rfl
    have oa:bC .i64 ((p:Int)+1)=(p:Int)+1:=wrap_i64 (by omega) (by omega);have ly:bC .i64 ((p:Int)+2)=(p:Int)+2:=wrap_i64 (by omega) (by omega);have dt:(p:Int)<=(p:Int)+1:=by omega
    have yI:(0:Int)<=(p:Int)+1:=by omega
    have C4:(p:Int)+1<=s.length:=by omega
    subst oL;have fin:∀st w,K (p+r) st/\T 2 [] w st->w=(if 1<r/\s[p]=48 then(p:Int)+1 else if 2<r then(p:Int)+2 else-1)->K (p+((s.drop p).take r).length) st/\T 2 [] (if 1<r/\s[p]=48 then(p:Int)+1 else if 2<r then(p:Int)+2 else-1) st/\p=p/\(s.drop p).take r=(s.drop p).take ((s.drop p).take r).length/\p+((s.drop p).take r).length<=s.length:=by intro st w h hw;rw[hlen,<-hw];exact⟨h.1,h.2,rfl,rfl,by omega⟩
    by_cases ha:1<r
    ·have C1:(1:Int)<r:=by omega
     by_cases hz:s[p]=48
     ·refine κ.done .normal (fun st=>K (p+r) st/\T 2 [] ((p:Int)+1) st) (by simp[K,T,h1,h2,h3,h4,h5,h6,h7,h8,h9,aC,Er,sh,Pr,Pt,C1,decide_eq_true hz,xH,rZ,oa,bound,uv,dt,yI,C4]) fun s' h=> .inr ⟨by simp,.inl ⟨rfl,fin _ _ h (by simp[ha,hz])⟩⟩
     ·by_cases hy:2<r
      ·have l8:(2:Int)<r:=by omega
       refine κ.done .normal (fun st=>K (p+r) st/\T 2 [] ((p:Int)+2) st) (by simp[K,T,h1,h2,h3,h4,h5,h6,h7,h8,h9,aC,Er,sh,Pr,Pt,C1,l8,hz,xH,rZ,oa,ly,bound,uv,dt,yI,C4]) fun s' h=> .inr ⟨by simp,.inl ⟨rfl,fin _ _ h (by simp[hy,hz])⟩⟩
      ·have l8:¬(2:Int)<r:=by omega
       refine κ.done .normal (fun st=>K (p+r) st/\T 2 [] (-1) st) (by simp[K,T,h1,h2,h3,h4,h5,h6,h7,h8,h9,aC,Er,sh,Pr,Pt,C1,l8,hz,xH,rZ,oa,ly,bound,uv,dt,yI,C4]) fun s' h=> .inr ⟨by simp,.inl ⟨rfl,fin _ _ h (by simp[hy,hz])⟩⟩
    ·have C1:¬(1:Int)<r:=by omega
     have l8:¬(2:Int)<r:=by omega
     have hy:¬2<r:=by omega
     refine κ.done .normal (fun st=>K (p+r) st/\T 2 [] (-1) st) (by simp[K,T,h1,h2,h3,h4,h5,h6,h7,h8,h9,aC,Er,sh,C1,l8]) fun s' h=> .inr ⟨by simp,.inl ⟨rfl,fin _ _ h (by simp[ha,hy])⟩⟩
   |false=>
    refine κ.no (by simp[bp,c2]) ?_
    rw[c2]at oL;simp only[jI,if_false]at oL;have qq:(s.drop p).take 1=[s[p]]:=by rw[mQ hp];rfl
    have oa:bC .i64 (s[p]:Int)=(s[p]:Int):=wrap_i64 (by omega) (by omega);by_cases c3:s[p]∈o8
    ·rw[if_pos c3]at oL;have L5:Ii s[p]=true:=decide_eq_true c3;rw[L5]at g3;subst oL;refine κ.done .normal (fun st=>K (p+1) st/\T s[p] [] (-1) st) (by simp[K,T,h1,h2,h3,h4,h5,h6,h7,h8,h9,aC,Xh,dy,sN,hT,g3,oa]) fun s' h=> .inr ⟨by simp,.inl ⟨rfl,h.1,h.2,rfl,qq.symm,hp⟩⟩
    ·rw[if_neg c3]at oL;have L5:Ii s[p]=false:=decide_eq_false c3;rw[L5]at g3;subst oL;refine κ.done .normal (fun st=>K (p+1) st/\T 0 [] p st) (by simp[K,T,h1,h2,h3,h4,h5,h6,h7,h8,h9,aC,Xh,dy,sN,hT,g3,rZ]) fun s' h=> .inr ⟨by simp,.inl ⟨rfl,h.1,h.2,rfl,qq.symm,hp⟩⟩
 ·simp only[T]at h8;have dt:(p:Int)<=(p:Int)+tk.text.length:=by omega
  have yI:(0:Int)<=(p:Int)+tk.text.length:=by omega
  have C4:(p:Int)+tk.text.length<=s.length:=by omega
  have uv:(s.take (p+tk.text.length)).drop p=tk.text:=by rw[XX (by omega),show p+tk.text.length-p=tk.text.length by omega];exact aC.symm
  have e1:((p:Int)+tk.text.length).toNat=p+tk.text.length:=by omega
  simp[h1,h2,h3,h4,h5,h6,h7,h8,xH,rZ,D8,bound,dt,yI,C4,e1,uv];refine⟨⟨_,rfl⟩,?_⟩;rw[Tok.bu,h9];rfl
def rest(s:List Nat)(n:Nat):List Tok:=nw (s.length+1) n (s.drop n)
theorem aiK(s:List Nat)(n:Nat)(hn:n<=s.length):rest s n=if n+bZ false (s.drop n)<s.length then
  (if(fW (n+bZ false (s.drop n)) (s.drop (n+bZ false (s.drop n)))).kind=0 then[fW (n+bZ false (s.drop n)) (s.drop (n+bZ false (s.drop n)))]
   else fW (n+bZ false (s.drop n)) (s.drop (n+bZ false (s.drop n)))::rest s (n+bZ false (s.drop n)+(fW (n+bZ false (s.drop n)) (s.drop (n+bZ false (s.drop n)))).text.length))else[]:=by
 have hle:=V7 false (s.drop n);simp only[kZ]at hle
 conv=>lhs;rw[rest,nw]
 simp only[kZ,ov];by_cases h:n+bZ false (s.drop n)<s.length
 ·have h1:¬s.length-n<=bZ false (s.drop n):=by omega
  rw[if_neg h1,if_pos h];split
  ·rfl
  ·congr 1;cases hr:s.drop (n+bZ false (s.drop n))with
   |nil=>have:=congrArg ki hr;simp at this;omega
   |cons b r=>
    have hp:=EO (n+bZ false (s.drop n)) b r
    rw[<-hr]at hp;rw[<-hr];refine aj0 _ _ _ _ ?_ ?_<;>simp only[kZ]<;>omega
 ·have h1:s.length-n<=bZ false (s.drop n):=by omega
  rw[if_pos h1,if_neg h]
def sK{σ:Type}(f:σ->Tok->σ×Bool):List Tok->σ->σ
 |[],x=>x
 |t::l,x=>if(f x t).2 then sK f l (f x t).1 else(f x t).1
theorem f201{σ:Type}{I D:σ->List θ->Prop}{f:σ->Tok->σ×Bool}{N l:Nat}(s:List Nat)(hs:cV s)(hl:s.length<4000000000)
  (hI:∀x bs,I x bs->l<bs.length)
  {cnt:σ->Nat} (jf:∀x t,cnt (f x t).1<=cnt x+1)
  (hy:∀x bs T t,I x bs->cnt x<s.length->∃kI T',ah (C u) (.fn (.yield l) [] []) [t.bu] {ε:=bs,ζ:=T}=some (.bool (f x t).2,{ε:=kI,ζ:=T'})/\(if(f x t).2 then I (f x t).1 kI else D (f x t).1 kI)/\∀i∈T',i∈T\/N<=i)
  (x:σ) (bs:List θ) (T:List Nat) (hx:I x bs) (AY:cnt x=0):
  ∃kI T',ah (C u) (.fn (.func 201) [] [.ref [.str s]]) [.fn (.yield l) [] []] {ε:=bs,ζ:=T}=some (.aU [],{ε:=kI,ζ:=T'})/\(I (sK f (dM s) x) kI\/D (sK f (dM s) x) kI)/\∀i∈T',i∈T\/N<=i:=by
 generalize hG:sK f (dM s) x=G;have dY:κ (C u).gl (ah (C u)) CP.code {env:=([AV.fn (.yield l) [] []]++[AV.ref [.str s]]).map (exp bs.length true),loc:=[],mem:= {ε:=bs,ζ:=[]}} fun r=>
   (∀i,r.1≠ .exit i)/\(I G r.2.mem.ε\/D G r.2.mem.ε)/\∀i∈r.2.mem.ζ,N<=i:=by
  have nX:=hI _ _ hx;have eJ:([AV.fn (.yield l) [] []]++[AV.ref [.str s]]).map (exp bs.length true)=[AV.fn (.yield l) [] [],AV.ref [.str s]]:=by simp[exp,bn,Fn.below,nX]
  rw[eJ];simp only[CP,c201];have Eo:=fun n hn m=>f202 (u:=u) s hs n hn hl m;have Jg:=fun p hp m=>f203 (u:=u) s hs p hp hl m;let K:St->Prop:=fun st=>st.e 0= .fn (.yield l) [] []/\st.e 1= .ref [.str s]/\∀i∈st.mem.ζ,N<=i;let J:Nat->St->Prop:=fun i st=>K st/\∃n y,I y st.mem.ε/\n<=s.length/\(i<=n+bZ false (s.drop n)/\cnt y<=n+bZ false (s.drop n))/\sK f (rest s n) y=G/\st.e 3= .n ((n+bZ false (s.drop n):Nat):Int);have q0:∀m,kf u 202 [.str s,.n 0] m=some (.n (bZ false s:Nat),m):=fun m=>by have:=Eo 0 (q_ _) m;rw[List.drop_zero,Nat.zero_add]at this;exact this
  refine Θ (J 0) (by
   simp[J,K,q0]
   exact⟨0,x,hx,q_ _,by omega,hG,by simp⟩) fun s1 hJ=>?_
  refine κ.block (κ.kD (I:=J) s.length hJ fun i st hi Ω=>?_);obtain⟨⟨h1,h2,h3⟩,n,y,h4,h5,⟨h6,h66⟩,h7,h8⟩:=Ω;rw[aiK s n h5]at h7;have hle:=V7 false (s.drop n);simp only[kZ]at hle;generalize hp:n+bZ false (s.drop n)=p at*;generalize rF:st.mem.ε=bb at h4;generalize mH:st.mem.ζ=tt at h3;have hm:st.mem= {ε:=bb,ζ:=tt}:=by rw[<-rF,<-mH]
  unfold VS;rcases cX p s.length with χ|du
  ·rw[if_pos χ]at h7;have Jg:=Jg p χ;have eO:(p:Int)<s.length:=by omega
   have hlen:=X1 p (s.drop p);have jN:0<(fW p (s.drop p)).text.length:=by rw[mQ χ];exact EO _ _ _
   simp only[kZ]at hlen;generalize fW p (s.drop p)=tk at*;obtain⟨Cg,T',e,sL,hT'⟩:=hy y bb tt tk h4 (by omega);have jf:=jf y tk;obtain⟨a,k,tx,w⟩:=tk;simp only[Tok.bu]at e Jg;dsimp only at h7 hlen jN sL e jf;have Mu:∀i∈T',N<=i:=fun i hi=>(hT' i hi).elim (h3 i) id;refine Θ (fun st=>st.e 0= .fn (.yield l) [] []/\st.e 1= .ref [.str s]/\st.e 3= .n p/\st.mem= {ε:=bb,ζ:=tt}) (by simp[h1,h2,h8,hm,eO]) fun s1 ⟨h1,h2,h3,h8⟩=>?_;refine κ.block ?_;refine Θ (fun st=>st.e 0= .fn (.yield l) [] []/\st.e 1= .ref [.str s]/\st.e 3= .n p/\st.mem= {ε:=bb,ζ:=tt}/\st.e 4= .aj 4 (bL (bQ s1.loc) 4) 0/\st.q 4=some (bL (bQ s1.loc) 4,.cells [.n a,.n k,.str tx,.n w])) (by simp[h1,h2,h3,h8,Jg]) fun s2 ⟨h1,h2,h3,h8,h9,aC⟩=>?_;generalize bL (bQ s1.loc) 4=vv at*;refine bP (fun st=>st.e 0= .fn (.yield l) [] []/\st.e 1= .ref [.str s]/\st.e 3= .n p/\st.mem= {ε:=Cg,ζ:=T'}/\st.e 4= .aj 4 vv 0/\st.q 4=some (vv,.cells [.n a,.n k,.str tx,.n w])/\k≠0/\(f y ⟨a,k,tx,w⟩).2=true) ?_ fun s3 ⟨h1,h2,h3,h8,h9,aC,bp,bY⟩=>?_
   ·cases hc:(f y ⟨a,k,tx,w⟩).2 with
    |false=>
     rw[hc]at e
     refine κ.done .ret (fun st=>st.mem= {ε:=Cg,ζ:=T'}) (by simp[h1,h2,h3,h8,h9,aC,e]) fun s' h=> .inr ⟨by simp,.inr ⟨by simp,.inr ⟨by simp,.inr ⟨by simp,by simp,?_⟩⟩⟩⟩;rw[h];refine⟨?_,Mu⟩;have:(f y ⟨a,k,tx,w⟩).1=G:=by split at h7<;>simpa[sK,hc]using h7
     rw[hc]at sL;rw[<-this];exact .inr sL
    |true=>
     rw[hc]at e
     by_cases hk:k=0
     ·have dh:((k:Int)==0)=true:=beq_iff_eq.2 (by omega);refine κ.done .ret (fun st=>st.mem= {ε:=Cg,ζ:=T'}) (by simp[h1,h2,h3,h8,h9,aC,e,dh]) fun s' h=> .inr ⟨by simp,.inr ⟨by simp,.inr ⟨by simp,.inr ⟨by simp,by simp,?_⟩⟩⟩⟩;simp only[hk,if_true,sK]at h7;rw[h];refine⟨?_,Mu⟩;have:(f y ⟨a,k,tx,w⟩).1=G:=by simpa[hk,hc]using h7
      rw[hc,if_pos rfl]at sL;rw[<-this];exact .inl sL
     ·have dh:((k:Int)==0)=false:=beq_eq_false_iff_ne.2 (by omega);refine κ.done .normal (fun st=>st.e 0= .fn (.yield l) [] []/\st.e 1= .ref [.str s]/\st.e 3= .n p/\st.mem= {ε:=Cg,ζ:=T'}/\st.e 4= .aj 4 vv 0/\st.q 4=some (vv,.cells [.n a,.n k,.str tx,.n w])) (by simp[h1,h2,h3,h8,h9,aC,e,dh,hk]) fun s' h=> .inl ⟨rfl,?_⟩;exact⟨h.1,h.2.1,h.2.2.1,h.2.2.2.1,h.2.2.2.2.1,h.2.2.2.2.2,hk,rfl⟩
   ·have hw:bC .i64 ((p:Int)+tx.length)=(p:Int)+tx.length:=wrap_i64 (by omega) (by omega);have Eo:=Eo (p+tx.length) (by omega);simp only[Int.natCast_add]at Eo;rw[if_neg bp]at h7;refine κ.done .normal (fun st=>st.e 0= .fn (.yield l) [] []/\st.e 1= .ref [.str s]/\st.e 3= .n ((p+tx.length+bZ false (s.drop (p+tx.length)):Nat):Int)/\st.mem= {ε:=Cg,ζ:=T'}) (by simp[h1,h2,h3,h8,h9,aC,hw,Eo]) fun s' ⟨h1,h2,h3,h8⟩=> .inr ⟨by simp,?_⟩;refine .inl ⟨rfl,by omega,⟨h1,h2,by rw[h8];exact Mu⟩,p+tx.length,_,by rw[bY,if_pos rfl]at sL;rw[h8];exact sL,by omega,by omega,?_,h3⟩;simpa[sK,bY]using h7
  ·rw[if_neg (by omega)]at h7;have yS:¬(p:Int)<s.length:=by omega
   refine κ.done (.exit 0) (fun st=>st.mem= {ε:=bb,ζ:=tt}) (by simp[h1,h2,h8,hm,yS]) fun s' h=> .inr ⟨by simp,?_⟩;refine .inl ⟨rfl,by simp,?_⟩;rw[h];refine⟨?_,h3⟩;simp only[sK]at h7;rw[<-h7];exact .inl h4
 obtain⟨⟨ex,s'⟩,h1,h2,h3,h4⟩:=dY;refine⟨s'.mem.ε,T++s'.mem.ζ,?_,h3,fun i hi=>(dE.1 hi).imp id (h4 i)⟩;have:=sB (C:=C u) (f:=201) (g:=CP) (args:=[.fn (.yield l) [] []]) (cap:=[.ref [.str s]]) (m:= {ε:=bs,ζ:=T}) (l:=[]) rfl rfl rfl h1 h2 (by rfl);exact this
theorem f130(s:List Nat)(m:Mem):kf u 130 [.str s] m=some (.fn (.func 201) [] [.ref [.str s]],m):=by refine eN (g:=Ge) rfl rfl rfl ?_;simp[Ge,c130,exp,Mem.push,Mem.ν,ν,aK,fE,oF,Fn.below]
theorem IQ{α:Type}{l:List α}{i:Nat}{x:α}(h:l[i]?=some x):i<l.length:=by
 rcases cX i l.length with hl|hl
 ·exact hl
 ·rw[hU hl]at h;cases h
theorem Row.push{n:Nat}{bs:List θ}{sz:Nat}{e:TypeId}{c:ξ}{len:Nat}(h:Row n bs sz e c len)(x:List θ):Row n (bs++x) sz e c len:=by
 rcases h with h|⟨t,h1,h2,h3⟩
 ·exact .inl h
 ·refine .inr ⟨t,h1,h2,?_⟩;rw[eo (IQ h3)];exact h3
theorem Row.swap{n:Nat}{P P' x:List θ}{sz:Nat}{e:TypeId}{c:ξ}{len:Nat}(h:Row n (P++x) sz e c len)(h1:P.length=P'.length)(h2:P.length<=n):Row n (P'++x) sz e c len:=by
 rcases h with h|⟨t,k1,k2,k3⟩
 ·exact .inl h
 ·refine .inr ⟨t,k1,k2,?_⟩;rw[tL (by omega)]at k3⊢;rw[<-h1];exact k3
theorem akz{C:iK}{l:Nat}{args:List AV}{mem:Mem}{env:List AV}{ps:List Nat}{fO bd:AC}{om:LS}{M:St->Prop}{Q:AV->Mem->Prop}(hm:mem.ε[l]?=some (.loop env ps fO bd om))(hl:ps.length=args.length)
  (h1:κ C.gl (ah C) fO {env:=wb env ps (args.map (exp mem.ε.length false)),loc:=[],mem:=mem} fun r=>r.1= .normal/\r.2.mem.ls l=some .ready/\M r.2)
  (h2:∀s,M s->κ C.gl (ah C) bd {s with mem:=s.mem.kV l .busy} fun r=>r.2.mem.ls l=some .busy/\match r.1 with
   | .normal=>Q (.bool true) (r.2.mem.kV l .ready)
   | .ret=>Q (.bool false) (r.2.mem.kV l (.done none))
   | .exit i=>Q (.bool false) (r.2.mem.kV l (.done (some i)))):∃v m',ah C (.fn (.yield l) [] []) args mem=some (v,m')/\Q v m':=by
 obtain⟨⟨e1,s1⟩,k1,rfl,k3,k4⟩:=h1;obtain⟨⟨e2,s2⟩,k5,k6,k7⟩:=h2 s1 k4;dsimp only at k3 k6 k7;cases e2 with
 |normal=>exact⟨_,_,by apply sF;simp only[body,round,hm,hl,if_true,k1,k3,k5,k6],k7⟩
 |ret=>exact⟨_,_,by apply sF;simp only[body,round,hm,hl,if_true,k1,k3,k5,k6],k7⟩
 |exit i=>exact⟨_,_,by apply sF;simp only[body,round,hm,hl,if_true,k1,k3,k5,k6],k7⟩
theorem abr(l:List AV)(i:Nat):aI (l.map ν) i=ν (aI l i):=by
 induction l generalizing i with
 |nil=>simp[aI,ν]
 |cons a l ih=>cases i with
  |zero=>rfl
  |succ i=>simp only[aA,aI,ih]
def tP:AC:= .ops [⟨(some 5),.alloc true [(.n 0),(.n 0),(.str []),(.n 0)],none⟩,⟨none,.st 4 (.t 5) (.t 7),none⟩]
def tS:AC:= .block 1 (.ops [⟨(some 8),.ld false 1 (.t 2),none⟩,⟨(some 9),.ld true 4 (.t 5),none⟩,⟨(some 10),.Ap true 4 [(.t 9)],none⟩,⟨(some 11),.app true 4 40 194 (.t 8) (.t 10),none⟩,⟨none,.st 1 (.t 2) (.t 11),none⟩])
def aM(B:List θ)(env:List AV)(c:ξ)(l:List Tok)(st:LS):List θ:=B++[.cells [.list c (l.map Tok.bu)],.loop env [7] tP tS st]
theorem u5(B:List θ)(env:List AV)(c:ξ)(l:List Tok)(st:LS):(aM B env c l st).length=B.length+2:=by simp[aM]
theorem Tok.SO(n:Nat)(k:Bool)(t:Tok):exp n k t.bu=t.bu:=by simp[Tok.bu,exp,bn]
theorem Tok.Tb(t:Tok):Fx t.bu:=⟨rfl,rfl⟩
theorem ahA(l:List Tok):(l.map Tok.bu).all (shaped true 4)=true:=by simp[pg,Tok.bu,shaped,Function.comp]
theorem akx(B:List θ)(env:List AV)(h2:aI env 2= .μ B.length 0)(c:ξ)(l:List Tok)(ext:List θ)(hr:Row (B.length+2) (aM B env c l .ready++ext) 4 194 c l.length)(hl:l.length<1000000000)(t:Tok)(T:List Nat):
  ∃c' ext' T',ah (C u) (.fn (.yield (B.length+1)) [] []) [t.bu] {ε:=aM B env c l .ready++ext,ζ:=T}=some (.bool true,{ε:=aM B env c' (l++[t]) .ready++ext',ζ:=T'})∧
   Row (B.length+2) (aM B env c' (l++[t]) .ready++ext') 4 194 c' (l.length+1)/\∀i∈T',i∈T\/B.length<=i:=by
 have hy:=akz (C:=C u) (l:=B.length+1) (args:=[t.bu]) (mem:= {ε:=aM B env c l .ready++ext,ζ:=T}) (env:=env) (ps:=[7]) (fO:=tP) (bd:=tS) (om:= .ready)
  (M:=fun s=>s.e 2= .μ B.length 0/\s.e 5= .μ (B.length+2+ext.length) 0/\s.mem= {ε:=aM B env c l .ready++(ext++[.cells [.n t.at_,.n t.kind,.str t.text,.n t.gK]]),ζ:=T})
  (Q:=fun v m=>v= .bool true/\∃c' ext' T',m= {ε:=aM B env c' (l++[t]) .ready++ext',ζ:=T'}/\Row (B.length+2) (aM B env c' (l++[t]) .ready++ext') 4 194 c' (l.length+1)/\∀i∈T',i∈T\/B.length<=i)
  (by simp[aM]) rfl (by
   have hg:(aM B env c l .ready++ext)[B.length+1]?=some (.loop env [7] tP tS .ready):=by simp[aM]
   have hX:(aM B env c l .ready++ext).length=B.length+2+ext.length:=by simp[u5]
   rw[<-bH];generalize aM B env c l .ready++ext=X at*;have g1:∀z,(X++[z])[B.length+2+ext.length]?=some z:=fun z=>by rw[<-hX];simp
   have g2:∀z w,(X++[z]).set (B.length+2+ext.length) w=X++[w]:=fun z w=>by rw[<-hX];simp
   have g3:∀z,(X++[z])[B.length+1]?=some (.loop env [7] tP tS .ready):=fun z=>by rw[eo (IQ hg)];exact hg
   simp[tP,wb,Tok.bu,exp,bn,h2,hX,Mem.push,g1,g2,g3,Mem.put,Mem.ν,ν,bo,lo,Mem.ls]) ?_
 ·obtain⟨v,m',e,rfl,c',ext',T',rfl,k1,k2⟩:=hy;exact⟨c',ext',T',e,k1,k2⟩
 ·intro s ⟨k1,k2,k3⟩;have lO:Mem.kV {ε:=aM B env c l .ready++(ext++[.cells [.n t.at_,.n t.kind,.str t.text,.n t.gK]]),ζ:=T} (B.length+1) .busy= {ε:=aM B env c l .busy++(ext++[.cells [.n t.at_,.n t.kind,.str t.text,.n t.gK]]),ζ:=T}:=by simp[Mem.kV,aM]
  have jz:Row (aM B env c l .busy).length (aM B env c l .busy++(ext++[.cells [.n t.at_,.n t.kind,.str t.text,.n t.gK]])) 4 194 c (l.map Tok.bu).length:=by rw[u5,<-bH,cF];exact Row.push (Row.swap hr (by simp[u5]) (by simp[u5])) _
  obtain⟨c',ext',dO,iu,-⟩:=wa (bytes:=40) jz (ahA l) (show shaped true 4 t.bu=true by rfl) (show ν t.bu=t.bu by rfl) (by omega) (by simp;omega) (by simp;omega);rw[u5,cF]at iu;simp only[k3,lO];have g1:∀x,(aM B env c l .busy++x)[B.length]?=some (.cells [.list c (l.map Tok.bu)]):=fun x=>by simp[aM]
  have g2:(aM B env c l .busy++(ext++[.cells [.n t.at_,.n t.kind,.str t.text,.n t.gK]]))[B.length+2+ext.length]?=some (.cells [.n t.at_,.n t.kind,.str t.text,.n t.gK]):=by
   have:B.length+2+ext.length=(aM B env c l .busy++ext).length:=by simp[u5]
   rw[this,<-bH];simp
  have g3:∀x,(aM B env c l .busy++x).set B.length (.cells [.list c' (l.map Tok.bu++[t.bu])])=aM B env c' (l++[t]) .busy++x:=fun x=>by simp[aM]
  have g4:∀x st,Mem.kV {ε:=aM B env c' (l++[t]) .busy++x,ζ:=st} (B.length+1) .ready= {ε:=aM B env c' (l++[t]) .ready++x,ζ:=st}:=fun x st=>by simp[Mem.kV,aM]
  have g5:∀x st,Mem.ls {ε:=aM B env c' (l++[t]) .busy++x,ζ:=st} (B.length+1)=some .busy:=fun x st=>by simp[Mem.ls,aM]
  have g6:cL (l.map Tok.bu++[t.bu])=l.map Tok.bu++[t.bu]:=by simp[fM,Function.comp,Tok.bu,ν,cL]
  have ej:shaped true 4 (.agg [.n t.at_,.n t.kind,.str t.text,.n t.gK])=true:=rfl;simp only[Tok.bu]at dO g3 g6;refine κ.done .normal (fun s=>∃T',s.mem= {ε:=aM B env c' (l++[t]) .busy++ext',ζ:=T'}/\∀i∈T',i∈T\/B.length<=i) (by
   simp[tS,k1,k2,g1,g2,ej,Mem.ν,ν,cL,Tok.bu,dO,Mem.put]
   simp only[g6,g3];refine⟨_,⟨trivial,rfl⟩,fun i hi=>?_⟩;split at hi
   ·exact .inl hi
   ·exact(cw.1 hi).elim (fun h=> .inr (by omega)) .inl) fun s' h=>?_
  obtain⟨T',h1,h2⟩:=h;refine⟨by rw[h1];exact g5 _ _,by trivial,c',ext',T',by rw[h1,g4],Row.swap iu (by simp[u5]) (by simp[u5]),h2⟩
theorem aby{σ:Type}(g:σ->Tok->σ)(l:List Tok)(x:σ):sK (fun x t=>(g x t,true)) l x=l.foldl g x:=by
 induction l generalizing x with
 |nil=>rfl
 |cons a l ih=>simp[sK,ih]
theorem aa_(l x:List Tok):l.foldl (fun l t=>l++[t]) x=x++l:=by
 induction l generalizing x with
 |nil=>simp
 |cons a l ih=>simp[ih]
theorem X3(s:List Nat):(dM s).length<=s.length:=by
 have:∀k n (l:List Nat),(nw k n l).length<=l.length:=by
  intro k;induction k with
  |zero=>intro n l;simp[nw]
  |succ k ih=>
   intro n l
   simp only[nw];split
   ·simp
   ·rename_i h;split
    ·simp;omega
    ·have:=ih (n+bZ false l+(fW (n+bZ false l) (l.drop (bZ false l))).text.length) ((l.drop (bZ false l)).drop (fW (n+bZ false l) (l.drop (bZ false l))).text.length);cases hr:l.drop (bZ false l)with
     |nil=>have:=congrArg ki hr;simp at this;omega
     |cons b r=>
      have hp:=EO (n+bZ false l) b r
      rw[hr]at this;simp only[cE,kZ]at this⊢;have:=congrArg ki hr;simp at this;omega
 exact this _ _ _
theorem aaU(c:ξ)(n:Nat):(c.exp n true).exp n true=c.exp n true:=by
 cases c with
 |own t=>by_cases h:t<n<;>simp[ξ.exp,h]
 |_=>rfl
theorem ajz(X:List θ)(L:List AV)(hL:bn (X.length+1) true L=L)(T:List Nat):∀c,(∀i∈T,X.length<=i)→
  lS (X.length+1) T (X++[.cells [.list c L]])=X++[.cells [.list (if X.length∈T then c.exp (X.length+1) true else c) L]]:=by
 induction T with
 |nil=>intro c _;simp[lS]
 |cons i T ih=>
  intro c h
  simp only[lS];by_cases hi:i=X.length
  ·subst hi;simp only[tL (bA _),Nat.sub_self,BW,θ.BE,aA,aP,exp,hL,List.set_append_right _ _ (bA _),List.set_cons_zero];rw[ih _ fun j hj=>h j (by simp[hj])];by_cases hm:X.length∈T<;>simp[hm,aaU]
  ·have h1:(X++[θ.cells [.list c L]])[i]?=none:=hU (by have:=h i (by simp);simp;omega);rw[h1];rw[ih _ fun j hj=>h j (by simp[hj])];simp[Ne.symm hi]
theorem Y9(X:List θ)(L:List AV)(hL:bn (X.length+1) true L=L)(jL:bo X.length L=true)(T:List Nat)(c:ξ)(hT:∀i∈T,X.length<=i)(bs Y:List θ)(h1:Y.length=X.length+1):
  ∃c2,Mem.back {ε:=Y,ζ:=[]} {ε:=X++[.cells [.list c L]]++bs,ζ:=T}= {ε:=X++[.cells [.list c2 L]],ζ:=[]}/\c2.exp 0 false=c.exp 0 false:=by
 refine⟨if X.length∈T then c.exp (X.length+1) true else c,?_,by split<;>simp[vb]⟩;have h2:(X++[θ.cells [.list c L]]++bs).take (X.length+1)=X++[θ.cells [.list c L]]:=by rw[List.take_append_of_le_length (by simp)];exact fw (by simp)
 simp only[Mem.back,h1,h2,ajz X L hL T c hT,bG,Mem.mk.injEq,true_and];rw[alq];intro i hi;by_cases he:i=X.length
 ·subst he;simp only[tL (bA _),Nat.sub_self,BW,hi,if_true,θ.clean,bo,lo,jL];cases c with
  |own t=>
   by_cases ht:t<X.length+1
   ·simp[ξ.exp,ht,ξ.lo];omega
   ·simp[ξ.exp,ht,ξ.lo]
  |_=>simp[ξ.exp,ξ.lo]
 ·have h1:∀w:θ,(X++[w])[i]?=none:=fun w=>hU (by have:=hT i hi;simp;omega);simp[h1]
theorem f225(s:List Nat)(hs:cV s)(hl:s.length<1000000000)(m:Mem):kf u 225 [.list .nil [],.fn (.func 201) [] [.ref [.str s]]] m=some (.list (if dM s=[]then .nil else .any) ((dM s).map Tok.bu),m):=by
 have Xg:=fun(env:List AV) (h2:aI env 2= .μ m.ε.length 0)=>f201 (u:=u) (σ:=List Tok) (I:=fun l bs=>∃c ext,bs=aM m.ε env c l .ready++ext/\Row (m.ε.length+2) bs 4 194 c l.length/\(l=[]->c= .nil)) (D:=fun _ _=>False) (f:=fun l t=>(l++[t],true)) (N:=m.ε.length) (l:=m.ε.length+1)
  s hs (by omega) (fun l bs ⟨c,ext,h,_⟩=>by rw[h,List.length_append,u5];omega) (cnt:=ki) (fun l t=>by simp)
  (fun l bs T t ⟨c,ext,h,hr,hn⟩ hc=>by
   subst h
   obtain⟨c',ext',T',k1,k2,k3⟩:=akx (u:=u) m.ε env h2 c l ext hr (by omega) t T;exact⟨_,T',k1,by rw[if_pos rfl];exact⟨c',ext',rfl,by simpa using k2,fun h=>by simp at h⟩,k3⟩) [] (aM m.ε env .nil [] .ready) [] ⟨.nil,[],by simp,Row.nil,fun _=>rfl⟩ rfl
 rw[aby,aa_,bG]at Xg;refine eN (g:=GI) rfl rfl rfl ?_;have eJ:[AV.list .nil [],AV.fn (.func 201) [] [.ref [.str s]]].map (exp m.ε.length false)=[AV.list .nil [],AV.fn (.func 201) [] [.ref [.str s]]]:=by simp[exp,bn,Fn.below,ξ.exp]
 rw[eJ];simp only[GI,Rj];refine Θ (fun st=>st.e 1= .fn (.func 201) [] [.ref [.str s]]/\st.e 2= .μ m.ε.length 0/\st.mem= {ε:=m.ε++[.cells [.list .nil []]],ζ:=[]}) (by simp[Mem.push,Mem.ν,ν,cL]) fun s1 ⟨h1,h2,h3⟩=>?_;have vt:∀n k,bn n k ((dM s).map Tok.bu)=(dM s).map Tok.bu:=fun n k=>by rw[fQ,List.map_map];exact List.map_congr_left fun t _=>Tok.SO n k t
 refine bP (fun st=>st.e 2= .μ m.ε.length 0/\∃c,st.mem= {ε:=m.ε++[.cells [.list c ((dM s).map Tok.bu)]],ζ:=[]}/\c.exp 0 false=if dM s=[]then .nil else .any) ?_ fun s2 ⟨h1,c,h2,h3⟩=>?_
 ·refine Θ (fun st=>st.e 6= .fn (.func 201) [] [.ref [.str s]]/\st.e 2= .μ m.ε.length 0/\st.mem= {ε:=m.ε++[.cells [.list .nil []]],ζ:=[]}) (by simp[h1,h2,h3]) fun s1 ⟨h1,h2,h3⟩=>?_;refine κ.block ?_;obtain⟨kI,T',e,⟨c,ext,rfl,hr,hn⟩|⟨⟨⟩⟩,hT⟩:=Xg (s1.env.map ν) (by rw[abr];exact congrArg ν h2);have eK:∀M:Mem,M.ν=ν:=fun _=>rfl;have e0:aM m.ε (s1.env.map ν) .nil [] .ready=m.ε++[.cells [.list .nil []]]++[.loop (s1.env.map ν) [7] tP tS .ready]:=by simp[aM]
  rw[e0]at e;have xl:(m.ε++[θ.cells [.list .nil []]]).length=m.ε.length+1:=by simp
  have HY:(aM m.ε (s1.env.map ν) c (dM s) .ready++ext)[m.ε.length+1]?=some (.loop (s1.env.map ν) [7] tP tS .ready):=by simp[aM]
  obtain⟨c2,hb,HC⟩:=Y9 m.ε ((dM s).map Tok.bu) (vt _ _) (by simp[np,pg,Function.comp,Tok.bu,lo,bo]) T' c (fun i hi=>(hT i hi).elim (fun h=>by cases h) id) (.loop (s1.env.map ν) [7] tP tS .ready::ext) (m.ε++[.cells [.list .nil []]]) (by simp);have e1:aM m.ε (s1.env.map ν) c (dM s) .ready++ext=m.ε++[.cells [.list c ((dM s).map Tok.bu)]]++(.loop (s1.env.map ν) [7] tP tS .ready::ext):=by simp[aM]
  rw[<-e1]at hb;refine⟨(.normal,{s1 with mem:= {ε:=m.ε++[.cells [.list c2 ((dM s).map Tok.bu)]],ζ:=[]}}),?_,?_⟩
  ·simp only[Int.ofNat_eq_natCast,Int.cast_ofNat_Int,exec,dr,h1,AV.DW,Option.bind_some,h3,xl,eK];rw[<-tP,<-tS,e];simp only[HY,hb]
  ·refine .inr ⟨by simp,.inl ⟨rfl,h2,c2,rfl,?_⟩⟩;rw[HC];by_cases h0:dM s=[]
   ·rw[hn h0,if_pos h0];rfl
   ·rw[if_neg h0];rcases hr with⟨_,hc⟩|⟨t,rfl,_,_⟩
    ·exact absurd (List.eq_nil_of_length_eq_zero hc) h0
    ·rfl
 ·simp[h1,h2];have:=(Dv.list c (bS.of Tok.bu (dM s) fun t _=>Tok.Tb t)).aK (m.ε++[.cells [.list c ((dM s).map Tok.bu)]]) m.ε.length 8;rw[h3]at this;exact this
theorem f187(s:List Nat)(hs:cV s)(hl:s.length<1000000000)(m:Mem):kf u 187 [.fn (.func 201) [] [.ref [.str s]]] m=some (.list (if dM s=[]then .nil else .any) ((dM s).map Tok.bu),m):=by have q:=fun m=>f225 (u:=u) s hs hl m;refine eN (g:=Gt) rfl rfl rfl ?_;simp[Gt,Q6,exp,bn,Fn.below,q];have h:=(Dv.list (if dM s=[]then .nil else .any) (bS.of Tok.bu (dM s) fun t _=>Tok.Tb t)).aK m.ε m.ε.length 8;rw[ga (by split<;>simp[br])]at h;exact h
end Go.Δ.Tz
namespace Go.Δ
open Tz (vl)
structure PS where
 last:Nat
 l:List Tok
inductive R (α:Type)
 |ok (x:α) (s:PS)
 |no (w:Nat)
inductive RS
 |r (s:PS)
 |w (w:Nat)
def R.bind{α β:Type}:R α->(α->PS->R β)->R β
 | .ok x s,f=>f x s
 | .no w,_=> .no w
def R.map{α β:Type}(f:α->β):R α->R β
 | .ok x s=> .ok (f x) s
 | .no w=> .no w
theorem R.bind_map{α β γ:Type}(a:R α)(Q:α->PS->R β)(f:β->γ):(a.bind Q).map f=a.bind fun x s=>(Q x s).map f:=by cases a<;>rfl
def aF{α:Type}(P:PS->R α)(a:RS)(x:α)(b:RS):Prop:=
 match a with
 | .w w=>b= .w w
 | .r s=>match P s with
  | .ok y t=>x=y/\b= .r t
  | .no w=>b= .w w
def PS.hd(s:PS):List Nat:=match s.l with
 |[]=>[]
 |t::_=>t.text
def PS.kd(s:PS):Nat:=match s.l with
 |[]=>0
 |t::_=>t.kind
def PS.aZ(s:PS)(w:List Nat):Bool:=s.hd==w
def PS.at_(e:Nat)(s:PS):Nat:=match s.l with
 |[]=>e
 |t::_=>t.at_
def iJ(e:Nat)(f:Tok->Bool)(s:PS):R (List Nat):=match s.l with
 |[]=> .no e
 |t::l=>if t.kind=0\/f t=false then .no t.at_ else if 0<=t.gK then .no t.gK.toNat else .ok t.text ⟨t.at_+t.text.length,l⟩
def aD(e:Nat)(w:List Nat):PS->R (List Nat):=iJ e fun t=>t.text==w
def gH(e:Nat):PS->R (List Nat):=iJ e fun t=>t.kind==1&& !vl t.text
def numOf(s:List Nat):Nat:=s.foldl (fun n b=>10*n+(b-48)) 0
def r8(e:Nat)(s:PS):R Nat:=(iJ e (fun t=>t.kind==2) s).map numOf
def cd{α:Type}(c:PS->Bool)(f:α->PS->R α):Nat->α->PS->R α
 |0,_,_=> .no 0
 |n+1,x,s=>if c s then(f x s).bind (cd c f n)else .ok x s
def z0:η:= .mk 0 0 [] .nil []
def eA(e:Nat)(ix:PS->R η)(s:PS):R η:=
 if s.aZ [40]then(aD e [40] s).bind fun _ s=>(ix s).bind fun x s=>(aD e [41] s).map fun _=>x
 else if s.kd=2 then(r8 e s).map fun n:Nat=> .mk 1 (n:Int) [] .nil []
 else(gH e s).map fun n=> .mk 2 0 n .nil []
def kB(e:Nat)(at':PS->R η)(s:PS):R η:=
 (at' s).bind fun x s=>cd (fun s=>s.aZ [42]) (fun x s=>(aD e [42] s).bind fun _ s=>(at' s).map fun y=> .mk 5 0 [] .any [x,y]) (s.l.length+1) x s
def wh(e:Nat)(pr:PS->R η)(s:PS):R η:=
 (pr s).bind fun x s=>cd (fun s=>s.aZ [43]||s.aZ [45]) (fun x s=>(aD e s.hd s).bind fun w s=>(pr s).map fun y=> .mk (if w=[45]then 4 else 3) 0 [] .any [x,y]) (s.l.length+1) x s
def au(e:Nat):Nat->PS->R η
 |0=>fun _=> .no 0
 |k+1=>wh e (kB e (eA e (au e k)))
def gQ(e:Nat)(ix:PS->R η)(s:PS):R ρ:=
 (gH e s).bind fun n s=>
  if s.aZ [91]then(aD e [91] s).bind fun _ s=>(ix s).bind fun x s=>(if s.aZ [58]then(aD e [58] s).bind fun _ s=>(ix s).map fun y=>[x,y]else .ok [x] s).bind fun l s=>(aD e [93] s).map fun _=>⟨n,.any,l⟩
  else .ok ⟨n,.nil,[]⟩ s
def sn(e:Nat)(ix:PS->R η)(s:PS):R (List Nat×η):=
 (gH e s).bind fun n s=>(aD e [91] s).bind fun _ s=>(ix s).bind fun x s=>(aD e [93] s).map fun _=>(n,x)
inductive Sp
 |mk (from_ to:Nat) (ins:List (List Sp))
def Φ{α:Type}:List α->ξ
 |[]=> .nil
 |_=> .any
def nk{α:Type}(e:Nat)(item:PS->R α)(s:PS):R (List α):=
 if s.aZ [41]then(aD e [41] s).map fun _=>[]
 else(item s).bind fun x s=>(cd (fun s=>s.aZ [44]) (fun l s=>(aD e [44] s).bind fun _ s=>(item s).map fun y=>l++[y]) (s.l.length+1) [x] s).bind fun l s=>(aD e [41] s).map fun _=>l
def gW(s:List Nat):Nat:=match fq.findIdx? fun x=>x==s with
 |none=>0
 |some i=>i+1
def me(e:Nat)(pl:PS->R ρ):Nat->List ρ->PS->R (List ρ)
 |0,l,s=> .ok l s
 |n+1,l,s=>(aD e [44] s).bind fun _ s=>(pl s).bind fun p s=>me e pl n (l++[p]) s
def kT(e:Nat)(ix:PS->R η)(s:PS):R δ:=
 let w:=s.hd
 let pl:=gQ e ix
 if 0<gW w then(aD e w s).bind fun _ s=>(pl s).bind fun p s=>(me e pl (fL (gW w)-1) [p] s).map fun l=> .mk 1 (gW w) [] .any l z0 z0 .nil [] .nil []
 else if w=[116,97,107,101]then(aD e w s).bind fun _ s=>(sn e ix s).map fun x=> .mk 2 0 x.1 .nil [] x.2 z0 .nil [] .nil []
 else if w=[100,114,111,112]then(aD e w s).bind fun _ s=>(gH e s).map fun n=> .mk 3 0 n .nil [] z0 z0 .nil [] .nil []
 else if w=[109,101,97,115,117,114,101]then(aD e w s).bind fun _ s=>(pl s).bind fun p s=>(aD e [58] s).bind fun _ s=>(gH e s).map fun n=> .mk 5 0 n .any [p] z0 z0 .nil [] .nil []
 else if w=[114,101,115,101,116]then(aD e w s).bind fun _ s=>(pl s).map fun p=> .mk 6 0 [] .any [p] z0 z0 .nil [] .nil []
 else(gH e s).bind fun n s=>(aD e [40] s).bind fun _ s=>(nk e pl s).map fun l=> .mk 9 0 n (Φ l) l z0 z0 .nil [] .nil []
def wc(e:Nat)(ix:PS->R η)(s:PS):R δ:=(kT e ix s).bind fun x s=>(aD e [59] s).map fun _=>x
def g_(e:Nat)(ix:PS->R η)(blk:PS->R (List δ×List Sp))(s:PS):R (δ×List (List Sp)):=
 let w:=s.hd
 if w=[98,111,114,114,111,119]then(aD e w s).bind fun _ s=>(sn e ix s).bind fun x s=>(blk s).map fun b=>(.mk 4 0 x.1 .nil [] x.2 z0 (Φ b.1) b.1 .nil [],[b.2])
 else if w=[105,102]then(aD e w s).bind fun _ s=>(gH e s).bind fun n s=>(blk s).bind fun b s=>
  if s.aZ [101,108,115,101]then(aD e [101,108,115,101] s).bind fun _ s=>(blk s).map fun d=>(.mk 7 0 n .nil [] z0 z0 (Φ b.1) b.1 (Φ d.1) d.1,[b.2,d.2])
  else .ok (.mk 7 0 n .nil [] z0 z0 (Φ b.1) b.1 .nil [],[b.2]) s
 else if w=[102,111,114]then(aD e w s).bind fun _ s=>(gH e s).bind fun n s=>(aD e [61] s).bind fun _ s=>(ix s).bind fun x s=>(aD e [58] s).bind fun _ s=>(ix s).bind fun y s=>(blk s).map fun b=>(.mk 8 0 n .nil [] x y (Φ b.1) b.1 .nil [],[b.2])
 else if w=[117,110,100,111]then(aD e w s).bind fun _ s=>(blk s).map fun b=>(.mk 10 0 [] .nil [] z0 z0 (Φ b.1) b.1 .nil [],[b.2])
 else if w=[119,105,116,104,105,110]then(aD e w s).bind fun _ s=>(blk s).bind fun b s=>(aD e [97,112,112,108,121] s).bind fun _ s=>(blk s).map fun d=>(.mk 11 0 [] .nil [] z0 z0 (Φ b.1) b.1 (Φ d.1) d.1,[b.2,d.2])
 else(wc e ix s).map fun x=>(x,[])
def o9(e:Nat)(st:PS->R (δ×List (List Sp)))(s:PS):R (δ×Sp):=(st s).bind fun x t=> .ok (x.1,.mk (s.at_ e) t.last x.2) t
def vV(e:Nat)(st:PS->R (δ×List (List Sp)))(s:PS):R (List δ×List Sp):=
 (aD e [123] s).bind fun _ s=>(cd (fun s=>!s.aZ [125]) (fun l s=>(o9 e st s).map fun x=>(l.1++[x.1],l.2++[x.2])) (s.l.length+1) ([],[]) s).bind fun l s=>(aD e [125] s).map fun _=>l
def dw(e:Nat)(ix:PS->R η):Nat->PS->R (List δ×List Sp)
 |0=>fun _=> .no 0
 |k+1=>vV e (g_ e ix (dw e ix k))
def zC(e:Nat)(s:PS):R ay:=(gH e s).bind fun n s=>(aD e [91] s).bind fun _ s=>(r8 e s).bind fun k s=>(aD e [93] s).map fun _=>⟨n,k⟩
def tu(e:Nat)(blk:PS->R (List δ×List Sp))(s:PS):R (φ×List Sp):=
 (aD e [112,114,111,99] s).bind fun _ s=>(gH e s).bind fun n s=>(aD e [40] s).bind fun _ s=>(nk e (zC e) s).bind fun ps s=>(blk s).map fun b=>(⟨n,Φ ps,ps,Φ b.1,b.1⟩,b.2)
def zD(e:Nat)(ts:List Tok):R (List φ×List (List Sp)):=
 cd (fun s=>!s.l.isEmpty) (fun l s=>(tu e (dw e (au e (ts.length+1)) (ts.length+1)) s).map fun x=>(l.1++[x.1],l.2++[x.2])) (ts.length+1) ([],[]) ⟨0,ts⟩
theorem aF.bind{α β:Type}{P:PS->R α}{Q:α->PS->R β}{a b c:RS}{x:α}{y:β}(h:aF P a x b)(k:aF (Q x) b y c):aF (fun s=>(P s).bind Q) a y c:=by
 cases a with
 |w w=>
  simp only[aF]at h
  subst h;exact k
 |r s=>
  simp only[aF]at h⊢
  cases hp:P s with
  |ok z t=>
   rw[hp]at h
   obtain⟨rfl,rfl⟩:=h;exact k
  |no w=>
   rw[hp]at h
   subst h;exact k
theorem aF.map{α β:Type}{P:PS->R α}{a b:RS}{x:α}(f:α->β)(h:aF P a x b):aF (fun s=>(P s).map f) a (f x) b:=by
 cases a with
 |w w=>exact h
 |r s=>
  simp only[aF]at h⊢
  cases hp:P s with
  |ok z t=>
   rw[hp]at h
   obtain⟨rfl,rfl⟩:=h;exact⟨rfl,rfl⟩
  |no w=>rw[hp]at h;exact h
theorem aF.pure{α:Type}(x:α)(a:RS):aF (fun s=> .ok x s) a x a:=by
 cases a with
 |w w=>rfl
 |r s=>exact⟨rfl,rfl⟩
def RS.sz(a:RS):Nat:=match a with
 | .r s=>s.l.length
 | .w _=>0
def RS.yr(c:PS->Bool)(a:RS):Bool:=match a with
 | .r s=>c s
 | .w _=>false
def RS.aZ(a:RS)(w:List Nat):Bool:=a.yr fun s=>s.aZ w
theorem tT{a:RS}{w:List Nat}(h:a.aZ w=true)(hw:w≠[]):0<a.sz:=by
 cases a with
 |w w=>cases h
 |r st=>
  obtain⟨la,l⟩:=st
  cases l with
  |nil=>exact absurd (beq_iff_eq.1 (show(PS.hd ⟨la,[]⟩==w)=true from h)).symm hw
  |cons t l=>simp[RS.sz]
theorem aF.D5{α:Type}{c:PS->Bool}{f:α->PS->R α}{n:Nat}{x:α}{a:RS}(h:a.yr c=false):aF (cd c f (n+1) x) a x a:=by
 cases a with
 |w w=>rfl
 |r s=>
  have h:c s=false:=h
  simp[aF,cd,h]
theorem aF.D6{α:Type}{c:PS->Bool}{f:α->PS->R α}{n:Nat}{x x' y:α}{a a' b:RS}(hc:a.yr c=true)(h:aF (f x) a x' a')(k:aF (cd c f n x') a' y b):aF (cd c f (n+1) x) a y b:=by
 cases a with
 |w w=>cases hc
 |r s=>
  have hc:c s=true:=hc
  have e:∀s',c s'=true->cd c f (n+1) x s'=(f x s').bind (cd c f n):=fun s' h=>by simp[cd,h]
  have:=aF.bind (P:=f x) (Q:=cd c f n) h k;simpa only[aF,e s hc]using this
theorem aF.fuel{α:Type}{c:PS->Bool}{f:α->PS->R α}{x y:α}{a b:RS}(h:aF (cd c f (a.sz+1) x) a y b):aF (fun s=>cd c f (s.l.length+1) x s) a y b:=by
 cases a with
 |w w=>exact h
 |r s=>exact h
theorem aF.as{α:Type}{P Q:PS->R α}{a b:RS}{x:α}(h:aF P a x b)(k:∀s,a= .r s->Q s=P s):aF Q a x b:=by
 cases a with
 |w w=>exact h
 |r s=>simp only[aF]at h⊢;rw[k s rfl];exact h
def dk{α:Type}(P:PS->R α):Prop:=∀s x t,P s= .ok x t->t.l.length<=s.l.length
theorem aF.sz{α:Type}{P:PS->R α}{a b:RS}{x:α}(h:aF P a x b)(k:dk P):b.sz<=a.sz:=by
 cases a with
 |w w=>simp only[aF]at h;subst h;simp[RS.sz]
 |r s=>
  simp only[aF]at h
  cases hp:P s with
  |ok y t=>rw[hp]at h;obtain⟨_,rfl⟩:=h;exact k _ _ _ hp
  |no w=>rw[hp]at h;subst h;simp[RS.sz]
theorem JA{e:Nat}{f:Tok->Bool}{s:PS}{x:List Nat}{t:PS}(h:iJ e f s= .ok x t):t.l.length+1=s.l.length:=by
 obtain⟨la,l⟩:=s;cases l with
 |nil=>cases h
 |cons a l=>
  simp only[iJ]at h
  split at h
  ·cases h
  ·split at h
   ·cases h
   ·cases h;rfl
def RS.hd(a:RS):List Nat:=match a with
 | .r s=>s.hd
 | .w _=>[]
theorem ajU{e:Nat}{f:Tok->Bool}{s:PS}{x:List Nat}{t:PS}(h:iJ e f s= .ok x t):x=s.hd:=by
 obtain⟨la,l⟩:=s;cases l with
 |nil=>cases h
 |cons a l=>
  simp only[iJ]at h
  split at h
  ·cases h
  ·split at h
   ·cases h
   ·cases h;rfl
theorem aF.word{β:Type}{e:Nat}{f:Tok->Bool}{Q:List Nat->PS->R β}{a b c:RS}{x:List Nat}{y:β}(h:aF (iJ e f) a x b)(k:aF (Q a.hd) b y c):aF (fun s=>(iJ e f s).bind Q) a y c:=by
 cases a with
 |w w=>simp only[aF]at h;subst h;exact k
 |r s=>
  simp only[aF]at h⊢
  cases hp:iJ e f s with
  |ok z t=>
   rw[hp]at h
   obtain⟨rfl,rfl⟩:=h;rw[ajU hp];exact k
  |no w=>rw[hp]at h;subst h;exact k
theorem aF.take{e:Nat}{f:Tok->Bool}{a b:RS}{x:List Nat}(h:aF (iJ e f) a x b)(ha:0<a.sz):b.sz<a.sz:=by
 cases a with
 |w w=>simp[RS.sz]at ha
 |r s=>
  simp only[aF]at h
  cases hp:iJ e f s with
  |ok y t=>rw[hp]at h;obtain⟨_,rfl⟩:=h;have:=JA hp;simp only[RS.sz];omega
  |no w=>rw[hp]at h;subst h;exact ha
theorem dk.take(e:Nat)(f:Tok->Bool):dk (iJ e f):=fun _ _ _ h=>by have:=JA h;omega
theorem dk.bind{α β:Type}{P:PS->R α}{Q:α->PS->R β}(h:dk P)(k:∀x,dk (Q x)):dk fun s=>(P s).bind Q:=fun s y t e=>by
 have e:(P s).bind Q= .ok y t:=e;cases hp:P s with
 |ok x s'=>
  rw[hp]at e
  have:=h _ _ _ hp;have:=k x _ _ _ e;omega
 |no w=>rw[hp]at e;cases e
theorem dk.map{α β:Type}{P:PS->R α}{f:α->β}(h:dk P):dk fun s=>(P s).map f:=fun s y t e=>by
 have e:(P s).map f= .ok y t:=e;cases hp:P s with
 |ok x s'=>rw[hp]at e;cases e;exact h _ _ _ hp
 |no w=>rw[hp]at e;cases e
theorem dk.ok{α:Type}(x:α):dk fun s=> .ok x s:=fun s y t e=>by cases e;exact bA _
theorem dk.ite{α:Type}{c:PS->Prop}[∀s,Decidable (c s)]{P Q:PS->R α}(h:dk P)(k:dk Q):dk fun s=>if c s then P s else Q s:=fun s y t e=>by
 dsimp only at e;split at e
 ·exact h _ _ _ e
 ·exact k _ _ _ e
theorem dk.loop{α:Type}{c:PS->Bool}{f:α->PS->R α}(h:∀x,dk (f x)):∀n x,dk (cd c f n x):=by
 intro n;induction n with
 |zero=>intro x s y t e;cases e
 |succ n ih=>intro x;exact .ite ((h x).bind ih) (.ok x)
theorem dk.IK{α:Type}{c:PS->Bool}{f:α->PS->R α}(h:∀x,dk (f x))(x:α):dk fun s=>cd c f (s.l.length+1) x s:=fun s=>dk.loop h _ x s
theorem eV(e:Nat)(w:List Nat):dk (aD e w):= .take _ _
theorem nN(e:Nat):dk (gH e):= .take _ _
theorem Ly(e:Nat):dk (r8 e):= .map (.take _ _)
theorem Lw(e:Nat){ix:PS->R η}(h:dk ix):dk (eA e ix):=
 .ite ((eV e _).bind fun _=>h.bind fun _=>(eV e _).map) (.ite (Ly e).map (nN e).map)
theorem SH(e:Nat){at':PS->R η}(h:dk at'):dk (kB e at'):=h.bind fun x=> .IK (fun x=>(eV e _).bind fun _=>h.map) x
theorem aaK(e:Nat){pr:PS->R η}(h:dk pr):dk (wh e pr):=h.bind fun x=> .IK (fun x s y t k=>((eV e s.hd).bind fun _=>h.map) s y t k) x
theorem nL(e k:Nat):dk (au e k):=by
 induction k with
 |zero=>intro s x t h;cases h
 |succ k ih=>exact aaK e (SH e (Lw e ih))
theorem FO(e:Nat){ix:PS->R η}(h:dk ix):dk (gQ e ix):=
 (nN e).bind fun _=> .ite ((eV e _).bind fun _=>h.bind fun _=>(dk.ite ((eV e _).bind fun _=>h.map) (.ok _)).bind fun _=>(eV e _).map) (.ok _)
theorem Lz(e:Nat){ix:PS->R η}(h:dk ix):dk (sn e ix):=(nN e).bind fun _=>(eV e _).bind fun _=>h.bind fun _=>(eV e _).map
end Go.Δ
namespace Go.Δ.Tz
open Go.Δ
variable{u:Nat}
attribute [local simp] exec dT dG eR aH dr ff eH aI fA bQ gX ib iC iL lq AV.cells newVar iH rd wr gL single dd cA eU ef κ cH RV.get cJ fF jU
def pt(u:Nat){α:Type}(Rel:List AV->RS->Prop)(f:FuncId)(args:List AV)(P:PS->R α)(E:α->AV->Prop)(a:RS):Prop:=
 ∀(B:List θ) (p:Nat) (cs:List AV),p<B.length->Rel cs a->∃v x ae b,(∀T,ah (C u) (.fn (.func f) [] []) (.μ p 0::args) {ε:=B.set p (.cells cs),ζ:=T}=some (v,{ε:=B.set p (.cells ae),ζ:=T}))/\Rel ae b/\aF P a x b/\E x v
def OH(l:List Tok):Nat:=match l.getLast? with
 |some t=>t.at_+t.text.length
 |none=>0
structure _root_.Go.Δ.Tok.Ok (t:Tok):Prop where
 str:cV t.text
 ne:t.text≠[]
 gK:0<=t.gK->t.kind<=2/\∀w∈[[40],[41],[91],[93],[123],[125],[44],[59],[58],[61],[43],[45],[42]]++Al,t.text≠w
 zero:t.kind=0->t.gK=t.at_
 pos:t.at_+t.text.length<4000000000
 num:t.kind=2->t.gK<0->t.text.length<=2/\∀b∈t.text,cj b=true
section
variable(s:List Nat)(all:List Tok)(c:ξ)
def cK(item:AV)(cs:List AV)(a:RS):Prop:=
 ∃(k:Nat) (wr:Int),cs=[.str s,.list c (all.map Tok.bu),.n k,.n wr,item]/\k<=all.length/\match a with
  | .r st=>wr= -1/\all.drop k=st.l/\OH (all.take k)=st.last
  | .w w=>wr=(w:Int)
variable{s all c}{item:AV}
theorem ON{l:List Tok}{k:Nat}{t:Tok}{r:List Tok}(h:l.drop k=t::r):k<l.length/\l[k]?=some t/\l.drop (k+1)=r:=by
 have hk:k<l.length:=by
  rcases cX k l.length with h1|h1
  ·exact h1
  ·rw[List.drop_eq_nil_of_le h1]at h;cases h
 rw[mQ hk]at h;injection h with h1 h2
 exact⟨hk,by rw[dN hk,h1],h2⟩
def qN(s:List Nat)(all:List Tok)(k:Nat):Tok:=match all[k]? with
 |some t=>t
 |none=>⟨s.length,0,[],-1⟩
theorem f291(B:List θ)(p:Nat)(hp:p<B.length)(k:Nat)(wr:Int)(T:List Nat)(hl:all.length<1000000000):
  kf u 291 [.μ p 0] {ε:=B.set p (.cells [.str s,.list c (all.map Tok.bu),.n k,.n wr,item]),ζ:=T}=some ((qN s all k).bu,{ε:=B.set p (.cells [.str s,.list c (all.map Tok.bu),.n k,.n wr,item]),ζ:=T}):=by
 refine eN (g:=G7) rfl rfl rfl ?_;have hg:∀cs,(B.set p (θ.cells cs))[p]?=some (.cells cs):=fun cs=>by simp[hp]
 simp only[aA,aP,exp,mS,hp,if_true,G7,RF];unfold qN;cases hk:all[k]? with
 |some t=>
  have χ:=IQ hk
  have eO:(k:Int)<all.length:=by omega
  have xi:all[k]=t:=by rw[dN χ]at hk;simpa using hk
  simp[bL,hg,χ,eO,xi,Tok.bu];rfl
 |none=>
  have du:=List.getElem?_eq_none_iff.1 hk
  have eO:¬k<all.length:=by omega
  simp[bL,hg,eO,dp,Tok.bu];rfl
theorem aao{C:iK}{f:FuncId}{fst args cap:List AV}{m:Mem}:ah C (.fn (.func f) fst cap) args m=ah C (.fn (.func f) [] []) (fst++args++cap) m:=by
 apply Option.ext;intro r;rw[oA,oA];have:∀k,cv C k (.fn (.func f) fst cap) args m=cv C k (.fn (.func f) [] []) (fst++args++cap) m:=fun k=>by
  cases k with
  |zero=>rfl
  |succ k=>simp only[cv,body,bG,de]
 simp only[this]
theorem V6{l:List Tok}{k:Nat}{t:Tok}(h:l[k]?=some t):OH (l.take (k+1))=t.at_+t.text.length:=by rw[List.take_add_one,h];simp[OH]
def Tx(all:List Tok)(f:Tok->Bool)(x:List Nat):Prop:=x=[]\/∃t∈all,x=t.text/\f t=true/\t.gK<0
theorem Tx.str{f:Tok->Bool}{x:List Nat}(ai:∀t∈all,t.Ok)(h:Tx all f x):cV x:=by
 rcases h with rfl|⟨t,ht,rfl,_⟩
 ·exact fun b hb=>by cases hb
 ·exact(ai t ht).str
theorem f265{fv:AV}{f:Tok->Bool}{B:List θ}{p:Nat}{cs:List AV}{a:RS}(hp:p<B.length)(hl:all.length<1000000000)(ai:∀t∈all,t.Ok)(hx:exp B.length false fv=fv)
  (hf:∀t∈all,∀T,ah (C u) fv [t.bu] {ε:=B.set p (.cells cs),ζ:=T}=some (.bool (f t),{ε:=B.set p (.cells cs),ζ:=T})) (h:cK s all c item cs a):
  ∃x ae b,(∀T,kf u 265 [.μ p 0,fv] {ε:=B.set p (.cells cs),ζ:=T}=some (.str x,{ε:=B.set p (.cells ae),ζ:=T}))/\cK s all c item ae b/\aF (iJ s.length f) a x b/\Tx all f x:=by
 obtain⟨k,wr,rfl,hk,h⟩:=h;have hg:∀cs,(B.set p (θ.cells cs))[p]?=some (.cells cs):=fun cs=>by simp[hp]
 have lR:∀T,ah (C u) (.fn (.func 291) [.μ p 0] []) [] {ε:=B.set p (.cells [.str s,.list c (all.map Tok.bu),.n k,.n wr,item]),ζ:=T}=_:=fun T=>(aao (C:=C u)).trans (f291 (item:=item) (s:=s) (c:=c) B p hp k wr T hl);have go:∀(x:List Nat) (k':Nat) (P3:Int),(κ (C u).gl (ah (C u)) Kx {env:=[.μ p 0,fv],loc:=[],mem:= {ε:=B.set p (.cells [.str s,.list c (all.map Tok.bu),.n k,.n wr,item]),ζ:=[]}} fun r=>(∀i,r.1≠ .exit i)/\r.2.mem= {ε:=B.set p (.cells [.str s,.list c (all.map Tok.bu),.n k',.n P3,item]),ζ:=[]}/\aI r.2.env 4= .str x)→
   ∀T,kf u 265 [.μ p 0,fv] {ε:=B.set p (.cells [.str s,.list c (all.map Tok.bu),.n k,.n wr,item]),ζ:=T}=some (.str x,{ε:=B.set p (.cells [.str s,.list c (all.map Tok.bu),.n k',.n P3,item]),ζ:=T}):=by
  intro x k' P3 hr T;refine kz (g:=GY) rfl rfl rfl (by simp) ?_;have eJ:([]++[AV.μ p 0,fv]++[]).map (exp (B.set p (θ.cells [.str s,.list c (all.map Tok.bu),.n k,.n wr,item])).length false)=[AV.μ p 0,fv]:=by simp[exp,hp,hx]
  rw[eJ];exact hr.mono fun r ⟨h1,h2,h3⟩=>⟨h1,⟨[],by rw[h2,de]⟩,[.str x],by simp[GY,h3],rfl⟩
 unfold Kx at go;have Dz:Tx all f []:= .inl rfl;have A8:qN s all k=match a with
   | .r ⟨_,[]⟩=>⟨s.length,0,[],-1⟩
   | .r ⟨_,t::_⟩=>t
   | .w _=>qN s all k:=by
  cases a with
  |w w=>rfl
  |r st=>
   obtain⟨la,l⟩:=st
   cases l with
   |nil=>
    have:all[k]?=none:=hU (by have:=congrArg ki h.2.1;simp at this;omega)
    simp[qN,this]
   |cons t l=>simp[qN,(ON h.2.1).2.1]
 cases a with
 |w w=>
  have hw:0<=wr:=by rw[h];omega
  refine⟨[],_,.w w,go [] k wr ?_,⟨k,wr,rfl,hk,h⟩,rfl,Dz⟩;simp[bL,lR,hg,Tok.bu,hw]
 |r st=>
  obtain⟨rfl,h1,h2⟩:=h
  obtain⟨la,l⟩:=st;dsimp only at h1 h2;cases l with
  |nil=>
   simp only at A8
   rw[A8]at lR;refine⟨[],_,.w s.length,go [] k s.length ?_,⟨k,s.length,rfl,hk,rfl⟩,rfl,Dz⟩;simp[bL,lR,hg,Tok.bu,Mem.put,Mem.ν,ν,bo,lo]
  |cons t l=>
   simp only at A8
   rw[A8]at lR;obtain⟨χ,xi,yP⟩:=ON h1;have Γ:t∈all:=List.mem_of_getElem? xi;have hf:=hf t Γ;have Vi:=ai t Γ;simp only[Tok.bu]at hf;by_cases hz:t.kind=0
   ·have rU:((t.kind:Int)==0)=true:=beq_iff_eq.2 (by omega);refine⟨[],_,.w t.at_,go [] k t.at_ ?_,⟨k,t.at_,rfl,hk,rfl⟩,by simp[aF,iJ,hz],Dz⟩;simp[bL,lR,hg,Tok.bu,Mem.put,Mem.ν,ν,bo,lo,rU]
   have rU:((t.kind:Int)==0)=false:=beq_eq_false_iff_ne.2 (by omega);cases xd:f t with
   |false=>
    rw[xd]at hf
    refine⟨[],_,.w t.at_,go [] k t.at_ ?_,⟨k,t.at_,rfl,hk,rfl⟩,by simp[aF,iJ,xd],Dz⟩;simp[bL,lR,hg,Tok.bu,Mem.put,Mem.ν,ν,bo,lo,rU,hf]
   |true=>
    rw[xd]at hf
    by_cases hw:0<=t.gK
    ·refine⟨[],_,.w t.gK.toNat,go [] k t.gK ?_,⟨k,t.gK,rfl,hk,by omega⟩,by simp[aF,iJ,xd,hw,hz],Dz⟩;simp[bL,lR,hg,Tok.bu,Mem.put,Mem.ν,ν,bo,lo,rU,hf,hw]
    ·have gg:bC .i64 ((k:Int)+1)=(k:Int)+1:=wrap_i64 (by omega) (by omega);refine⟨t.text,_,.r ⟨t.at_+t.text.length,l⟩,go t.text (k+1) (-1) ?_,⟨k+1,-1,rfl,by omega,rfl,yP,V6 xi⟩,by simp[aF,iJ,xd,hw,hz],.inr ⟨t,Γ,rfl,xd,by omega⟩⟩;simp[bL,lR,hg,Tok.bu,Mem.put,Mem.ν,ν,bo,lo,rU,hf,hw,gg]
theorem f266{B:List θ}{i:Nat}{w:List Nat}(h:B[i]?=some (.cells [.str w]))(t:Tok)(T:List Nat):ah (C u) (.fn (.func 266) [] [.μ i 0]) [t.bu] {ε:=B,ζ:=T}=some (.bool (t.text==w),{ε:=B,ζ:=T}):=by
 refine sD (g:=GZ) rfl rfl rfl ?_;have hi:=IQ h;have eJ:([]++[t.bu]++[AV.μ i 0]).map (exp B.length false)=[t.bu,.μ i 0]:=by simp[Tok.bu,exp,bn,hi]
 dsimp only;rw[eJ];clear hi;by_cases hw:t.text=w<;>simp[GZ,Rx,Tok.bu,bL,h,hw]
def Eu{α:Type}:α->AV->Prop:=fun _ v=>v= .aU []
theorem f226(w:List Nat)(hl:all.length<1000000000)(ai:∀t∈all,t.Ok)(a:RS):pt u (cK s all c item) 226 [.str w] (aD s.length w) Eu a:=by
 intro B p cs hp h;have e0:∀cs,(B++[θ.cells [.str w]]).set p (.cells cs)=B.set p (.cells cs)++[.cells [.str w]]:=fun cs=>mT _ _ hp;obtain⟨x,ae,b,h1,h2,h3,h4⟩:=f265 (u:=u) (fv:= .fn (.func 266) [] [.μ B.length 0]) (f:=fun t=>t.text==w) (B:=B++[.cells [.str w]]) (p:=p) (cs:=cs) (by simp;omega) hl ai
  (by simp[exp,bn,Fn.below]) (fun t _ T=>f266 (by rw[e0];simp) t T) h
 refine⟨.aU [],x,ae,b,fun T=>?_,h2,h3,rfl⟩;simp only[e0]at h1;refine kz (g:=GJ) rfl rfl rfl (by simp) ?_;simp[exp,hp,GJ,c226,Mem.push,Mem.ν,ν,h1];rfl
theorem OO{k:Nat}{st:PS}(h:all.drop k=st.l):(qN s all k).text=st.hd/\(qN s all k).kind=st.kd/\(qN s all k).at_=st.at_ s.length:=by
 obtain⟨la,l⟩:=st;cases l with
 |nil=>
  have:all[k]?=none:=hU (by have:=congrArg ki h;simp at this;omega)
  simp[qN,this,PS.hd,PS.kd,PS.at_]
 |cons t l=>simp[qN,(ON h).2.1,PS.hd,PS.kd,PS.at_]
theorem f268(ws:List (List Nat))(DP:ws.length<1000000000)(hl:all.length<1000000000){B:List θ}{p:Nat}{cs:List AV}{a:RS}(hp:p<B.length)(h:cK s all c item cs a)(T:List Nat):
  kf u 268 [.μ p 0,.list .full (ws.map AV.str)] {ε:=B.set p (.cells cs),ζ:=T}=some (.bool (ws.any fun w=>a.aZ w),{ε:=B.set p (.cells cs),ζ:=T}):=by
 obtain⟨k,wr,rfl,hk,h⟩:=h;have hg:∀cs,(B.set p (θ.cells cs))[p]?=some (.cells cs):=fun cs=>by simp[hp]
 have lR:=fun T=>f291 (u:=u) (item:=item) (s:=s) (c:=c) B p hp k wr T hl;have zF:=fun t m=>f65 (u:=u) .any (.inr rfl) ws t (by omega) m;refine eN (g:=CQ) rfl rfl rfl ?_;have eJ:[AV.μ p 0,.list .full (ws.map AV.str)].map (exp (B.set p (θ.cells [.str s,.list c (all.map Tok.bu),.n k,.n wr,item])).length false)=[AV.μ p 0,aX .any ws]:=by simp[exp,fQ,hp,aX,ξ.exp,Function.comp]
 dsimp only at eJ⊢;rw[eJ];cases a with
 |w w=>
  have hw:¬wr<0:=by omega
  simp[CQ,Ky,hg,hw,RS.aZ,RS.yr]
 |r st=>
  obtain⟨rfl,h1,h2⟩:=h
  have e1:=(OO (s:=s) h1).1;simp only[Tok.bu,e1]at lR;have e2:(ws.any fun w=>(RS.r st).aZ w)=ws.contains st.hd:=by simp only[RS.aZ,RS.yr,PS.aZ,List.any_beq]
  simp[CQ,Ky,hg,lR,zF,e2]
theorem f267(t:Tok)(m:Mem):kf u 267 [t.bu] m=some (.bool (t.kind==1&& !vl t.text),m):=by
 have g0:(C u).gl 0= .ref [aX .any fq]:=rfl;have g1:(C u).gl 1= .ref [aX .any uz]:=rfl;have zF:=fun ws h t m=>f65 (u:=u) .any (.inr rfl) ws h t m;have hw:vl t.text=(uz.contains t.text||fq.contains t.text):=by simp[vl,Al,List.contains_eq_any_beq]
 refine sD (g:=AN) rfl rfl rfl ?_;have eJ:([]++[t.bu]++[]).map (exp m.ε.length false)=[t.bu]:=by simp[Tok.bu,exp,bn]
 rw[eJ];have qg:=fun m=>zF fq t.text (by decide) m;have qk:=fun m=>zF uz t.text (by decide) m;by_cases hk:t.kind=1
 ·have dh:((t.kind:Int)==1)=true:=beq_iff_eq.2 (by omega);rw[hw,hk];cases hg:fq.contains t.text with
  |true=>rw[hg]at qg;simp[AN,Fp,Tok.bu,bL,dh,g0,g1,qg]
  |false=>
   rw[hg]at qg
   simp[AN,Fp,Tok.bu,bL,dh,g0,g1,qg,qk]
 ·have dh:((t.kind:Int)==1)=false:=beq_eq_false_iff_ne.2 (by omega);have gE:(t.kind==1)=false:=beq_eq_false_iff_ne.2 hk;simp[AN,Fp,Tok.bu,bL,dh,gE]
def Es:List Nat->AV->Prop:=fun x v=>v= .str x/\cV x
theorem f227(hl:all.length<1000000000)(ai:∀t∈all,t.Ok)(a:RS):pt u (cK s all c item) 227 [] (gH s.length) Es a:=by intro B p cs hp h;obtain⟨x,ae,b,h1,h2,h3,h4⟩:=f265 (u:=u) (fv:= .fn (.func 267) [] []) (f:=fun t=>t.kind==1&& !vl t.text) (B:=B) (p:=p) (cs:=cs) hp hl ai (by simp[exp,bn,Fn.below]) (fun t _ T=>f267 t _) h;refine⟨.str x,x,ae,b,fun T=>?_,h2,h3,rfl,h4.str ai⟩;refine kz (g:=GK) rfl rfl rfl (by simp) ?_;simp[exp,hp,GK,c227,h1];rfl
theorem f270(t:Tok)(m:Mem):kf u 270 [t.bu] m=some (.bool (t.kind==2),m):=by
 refine sD (g:=CR) rfl rfl rfl ?_;have eJ:([]++[t.bu]++[]).map (exp m.ε.length false)=[t.bu]:=by simp[Tok.bu,exp,bn]
 rw[eJ];by_cases hk:t.kind=2
 ·simp[CR,Kz,Tok.bu,bL,hk]
 ·have dh:((t.kind:Int)==2)=false:=beq_eq_false_iff_ne.2 (by omega);have gE:(t.kind==2)=false:=beq_eq_false_iff_ne.2 hk;simp[CR,Kz,Tok.bu,bL,dh,gE]
def En:Nat->AV->Prop:=fun x v=>v= .n x/\x<100
theorem aga{t:Tok}(h:t.Ok)(hk:t.kind=2)(hw:t.gK<0):zu 0 t.text=some (numOf t.text)/\numOf t.text<100/\∃b r,t.text=b::r/\r.length<=17/\cj b=true:=by
 obtain⟨h1,h2⟩:=h.num hk hw;have h3:=h.ne;generalize t.text=x at*
 match x,h1,h2,h3 with
 |[a],_,h2,_=>
  have:=h2 a (by simp)
  have hd:=FL this;exact⟨by simp[zu,numOf,hd],by simp[numOf];omega,a,[],rfl,by simp,this⟩
 |[a,b],_,h2,_=>
  have h4:=h2 a (by simp)
  have hd:=FL h4;have rI:=FL (h2 b (by simp));exact⟨by simp[zu,numOf,hd,rI];omega,by simp[numOf];omega,a,[b],rfl,by simp,h4⟩
theorem f230(hl:all.length<1000000000)(ai:∀t∈all,t.Ok)(a:RS):pt u (cK s all c item) 230 [] (r8 s.length) En a:=by
 intro B p cs hp h;obtain⟨x,ae,b,h1,h2,h3,h4⟩:=f265 (u:=u) (fv:= .fn (.func 270) [] []) (f:=fun t=>t.kind==2) (B:=B) (p:=p) (cs:=cs) hp hl ai (by simp[exp,bn,Fn.below]) (fun t _ T=>f270 t _) h;have hx:∃e,(∀m,kf u 269 [.str x] m=some (.aU [.n (numOf x),e],m))/\numOf x<100:=by
  rcases h4 with rfl|⟨t,ht,rfl,hf,hw⟩
  ·exact⟨_,fun m=>Bx (p:=uJ 350) (by rfl) (by simp[exp,uJ,numOf];rfl),by decide⟩
  ·obtain⟨k1,k2,b,r,k3,k4,k5⟩:=aga (ai t ht) (by simpa using hf) hw;exact⟨.gx,fun m=>Bx (p:=uJ 350) (by rfl) (by rw[k3]at k1⊢;simp[exp,uJ,k1,k4,k5]),k2⟩
 obtain⟨e,hx,Bg⟩:=hx;refine⟨.n (numOf x),numOf x,ae,b,fun T=>?_,h2,h3.map numOf,rfl,Bg⟩;refine kz (g:=GL) rfl rfl rfl (by simp) ?_;simp[exp,hp,GL,Rk,h1,hx]
end
end Go.Δ.Tz
namespace Go.Δ
open Tz
theorem ajZ(k:Nat):∀n (l:List Nat) t,t∈nw k n l->∃m j b r,t=fW m (b::r)/\l.drop j=b::r/\m=n+j:=by
 induction k with
 |zero=>intro n l t h;cases h
 |succ k ih=>
  intro n l t h
  simp only[nw]at h;split at h
  ·cases h
  ·rename_i hl;have τ:∃b r,l.drop (bZ false l)=b::r:=by
    cases hr:l.drop (bZ false l)with
    |nil=>have:=congrArg ki hr;simp at this;omega
    |cons b r=>exact⟨b,r,rfl⟩
   obtain⟨b,r,hr⟩:=τ;rw[hr]at h;split at h
   ·rw[fK.1 h];exact⟨_,_,b,r,rfl,hr,rfl⟩
   ·rcases cw.1 h with rfl|h
    ·exact⟨_,_,b,r,rfl,hr,rfl⟩
    ·obtain⟨m,j,b',r',h1,h2,h3⟩:=ih _ _ _ h;rw[<-hr]at h2 h3;rw[ov,ov]at h2;exact⟨m,_,b',r',h1,h2,by omega⟩
def Ke:List (List Nat):=[[40],[41],[91],[93],[123],[125],[44],[59],[58],[61],[43],[45],[42]]++Al
theorem YN:∀w∈Ke,w.length<=8:=by decide
theorem YM:∀w∈Ke,∀b∈w.head?,cj b=false:=by decide
theorem YO:∀w∈Ke,∀b∈w.head?,isLet b=true\/b∈o8:=by decide
theorem aiU(f:Nat->Bool)(l:List Nat):∀b∈l.take (runN f l),f b=true:=by
 induction l with
 |nil=>simp[runN]
 |cons a l ih=>
  simp only[runN]
  by_cases h:f a=true
  ·rw[if_pos h,sv];intro b hb;rcases cw.1 hb with rfl|hb
   ·exact h
   ·exact ih b hb
  ·rw[if_neg h];simp
theorem ajX(m b:Nat)(r:List Nat)(hs:cV (b::r))(hm:m+(b::r).length<4000000000):(fW m (b::r)).Ok:=by
 have hlen:=X1 m (b::r);have jN:=EO m b r;have ij:(fW m (b::r)).at_=m:=by simp only[fW];(repeat' split)<;>rfl
 have di:∀k,cV ((b::r).take k):=fun k x hx=>hs x (pn hx);have τ:(fW m (b::r)).text≠[]:=fun h=>by rw[h]at jN;cases jN
 have qE:cV (fW m (b::r)).text:=by
  simp only[fW];split
  ·exact di _
  ·split
   ·exact di _
   ·split<;>exact fun x hx=>by rw[fK.1 hx];exact hs b (by simp)
 have H6:(fW m (b::r)).at_+(fW m (b::r)).text.length<4000000000:=by rw[ij];omega
 refine⟨qE,τ,?_,?_,H6,?_⟩
 ·simp only[fW];by_cases h1:isLet b=true
  ·rw[if_pos h1];intro hw;refine⟨by simp,fun w lz he=>?_⟩;have h8:=YN w lz;rw[<-he]at h8;have:=zK isLet (b::r);simp only[kE]at h8;by_cases h:8<runN isLet (b::r)
   ·omega
   ·simp[h]at hw
  ·rw[if_neg h1];by_cases h2:cj b=true
   ·rw[if_pos h2];intro hw;refine⟨by simp,fun w lz he=>?_⟩;have hr:0<runN cj (b::r):=by simp[runN,h2]
    obtain⟨k,hk⟩:∃k,runN cj (b::r)=k+1:=⟨_,(Nat.sub_add_cancel hr).symm⟩;dsimp only at he;rw[hk,sv]at he;have:=YM w lz b (by rw[<-he];rfl);rw[h2]at this;cases this
   ·rw[if_neg h2];by_cases h3:b∈o8
    ·rw[if_pos h3];intro hw;simp at hw
    ·rw[if_neg h3];intro _;refine⟨by simp,fun w lz he=>?_⟩;rcases YO w lz b (by rw[<-he];rfl)with h|h
     ·exact h1 h
     ·exact h3 h
 ·simp only[fW];split
  ·intro h;cases h
  ·split
   ·intro h;cases h
   ·split
    ·rename_i h3;intro h;dsimp only at h;rw[h]at h3;exact absurd h3 (by decide)
    ·intro _;rfl
 ·simp only[fW];split
  ·intro h;cases h
  ·split
   ·rename_i h2;intro _ hw;refine⟨?_,aiU cj (b::r)⟩;have:=zK cj (b::r);simp only[kE];by_cases ha:1<runN cj (b::r)/\b=48
    ·have hw:(if 1<runN cj (b::r)/\b=48 then(m:Int)+1 else if 2<runN cj (b::r)then(m:Int)+2 else-1)<0:=hw;rw[if_pos ha]at hw;omega
    ·by_cases h:2<runN cj (b::r)
     ·have hw:(if 1<runN cj (b::r)/\b=48 then(m:Int)+1 else if 2<runN cj (b::r)then(m:Int)+2 else-1)<0:=hw;rw[if_neg ha,if_pos h]at hw;omega
     ·omega
   ·split
    ·rename_i h3;intro h;dsimp only at h;rw[h]at h3;exact absurd h3 (by decide)
    ·intro h;cases h
theorem aj6{s:List Nat}(hs:cV s)(hl:s.length<4000000000):∀t∈dM s,t.Ok:=by intro t ht;obtain⟨m,j,b,r,rfl,h2,h3⟩:=ajZ _ _ _ _ ht;have hlen:=congrArg ki h2;simp only[kZ]at hlen;refine ajX m b r (fun x hx=>hs x (tM (by rw[h2];exact hx))) ?_;simp only[cE]at*;omega
end Go.Δ
namespace Go.Δ.Tz
open Go.Δ
variable{u:Nat}
attribute [local simp] exec dT dG eR aH dr ff eH aI fA bQ gX ib iC iL lq AV.cells newVar iH rd wr gL single dd cA eU ef κ cH RV.get cJ fF jU
theorem zz:cV []:=fun b hb=>by cases hb
theorem EE(w:List Nat):shaped false 1 (.str w)=true:=rfl
theorem D_(m:Mem)(w:List Nat):m.ν (.str w)= .str w:=rfl
theorem LP(x:η):x.four.take 4=x.four:=fw (by rw[x.fR];omega)
theorem PL(x:η):shaped true 4 (.agg x.four)=true:=by simp[shaped,x.fR]
theorem O8(m:Mem)(x:η):m.ν (.agg x.four)= .agg x.four:=by rw[<-η.iM];exact η.tm x
theorem η.fx(x:η):x.Ok->Fx x.av:=by
 refine η.kR (Q:=fun x=>x.Ok->Fx x.av) (fun k n s c l ih h=>?_) x;simp only[η.Ok]at h;have hl:bS (η.ψ l) (η.ψ l):=by rw[η.eM];exact bS.of η.av l fun y hy=>ih y hy (η.jE h.2 y hy)
 have:=Dv.list c hl;rw[ga h.1]at this;exact .agg (.cons (.int _ _) (.cons (.int _ _) (.cons (.str _) (.cons this .nil))))
theorem oD{x:η}(h:x.gz):bS x.four x.four:=by have:=η.fx x h.1;rw[η.iM]at this;exact⟨by simpa only[pf]using this.1,by simpa only[eC,AV.agg.injEq]using this.2⟩
theorem bS.ti{l ws:List AV}(h:bS l ws)(m:Mem):m.ν (.agg l)= .agg l:=(Dv.agg h).ν
attribute [local simp] EE D_ LP PL O8 η.fR
theorem oW{f:FuncId}{g:AF}{args:List AV}{B:List θ}{p:Nat}{cs ae:List AV}{v:AV}(h1:(C u).iX f=none)(h2:(C u).fs f=some g)(h3:(C u).bm f=false)(hp:p<B.length)(hx:args.map (exp B.length false)=args)
  (hr:κ (C u).gl (ah (C u)) g.code {env:= .μ p 0::args,loc:=[],mem:= {ε:=B.set p (.cells cs),ζ:=[]}} fun r=>(∀i,r.1≠ .exit i)/\(∃bs,r.2.mem=(kU B p ae bs []))/\∃l,cH r.2 g.results=some l/\aK r.2.mem.ε B.length 8 (cJ l)=v) (T:List Nat):
  ah (C u) (.fn (.func f) [] []) (.μ p 0::args) {ε:=B.set p (.cells cs),ζ:=T}=some (v,{ε:=B.set p (.cells ae),ζ:=T}):=by
 refine kz h1 h2 h3 (by simp) ?_;have eJ:([]++(AV.μ p 0::args)++[]).map (exp (B.set p (θ.cells cs)).length false)= .μ p 0::args:=by simp only[bG,de,aA,mS,hx,exp,hp,if_true]
 dsimp only;rw[eJ,mS];exact hr
def Ei:η->AV->Prop:=fun x v=>v= .agg x.four/\x.gz
theorem _root_.Go.Δ.η.gz.LU{x:η}(h:x.gz)(bs:List θ)(n:Nat):aK bs n 8 (.agg x.four)= .agg x.four:=by rw[<-η.iM];exact η.yC bs n 8 x h.1
theorem Qs(m:Mem){X:List AV}(h:X.length=4)(hn:ν (.agg X)= .agg X):gA m true 4 56 27 (.list .nil []) (.list .full [.agg X])=some (.list (.own m.ε.length) [.agg X],m.push (.front 1 4 27)):=by simp[gA,shaped,h,Mem.ν,hn]
theorem Qt(D:List θ)(T:List Nat){X Y:List AV}(h:X.length=4)(h':Y.length=4)(hn:ν (.agg Y)= .agg Y):
  gA {ε:=D++[.front 1 4 27],ζ:=T} true 4 56 27 (.list (.own D.length) [.agg X]) (.list .full [.agg Y])=some (.list (.own D.length) [.agg X,.agg Y],{ε:=D++[.front 2 4 27],ζ:=T}):=by
 simp[gA,shaped,h,h',Mem.ν,hn,Mem.put]
section
variable{s:List Nat}{all:List Tok}{c:ξ}{item:AV}(hl:all.length<1000000000)(ai:∀t∈all,t.Ok)
include hl ai
theorem Wg{B:List θ}{p:Nat}{cs:List AV}{a:RS}(hp:p<B.length)(h:cK s all c item cs a):
  ∃tk:Tok,(∀T,kf u 291 [.μ p 0] {ε:=B.set p (.cells cs),ζ:=T}=some (tk.bu,{ε:=B.set p (.cells cs),ζ:=T}))/\∀st,a= .r st->tk.text=st.hd/\tk.kind=st.kd/\tk.at_=st.at_ s.length:=by
 obtain⟨k,wr,rfl,hk,h⟩:=h;refine⟨qN s all k,fun T=>f291 B p hp k wr T hl,fun st ha=>?_⟩;subst ha;exact OO h.2.1
theorem f315{k:Nat}(ih:∀a:RS,a.sz<k->pt u (cK s all c item) 296 [] (au s.length k) Ei a)(a:RS)(ha:a.sz<k+1):pt u (cK s all c item) 315 [] (eA s.length (au s.length k)) Ei a:=by
 intro B p cs hp h;obtain⟨tk,lR,qz⟩:=Wg (u:=u) hl ai hp h;have jF:=fun T=>f268 (u:=u) [[40]] (by decide) hl hp h T;simp only[aA,aP,als,alu,alv]at jF;simp only[Tok.bu]at lR;cases hb:a.aZ [40]with
 |true=>
  rw[hb]at jF
  have jN:=tT hb (by simp);obtain⟨_,x1,cN,a1,k1,r1,g1,rfl⟩:=f226 (u:=u) (item:=item) [40] hl ai a B p cs hp h;have ur:=g1.take jN;obtain⟨_,x,cG,a2,k2,r2,g2,rfl,hx⟩:=ih a1 (by omega) B p cN hp r1;obtain⟨_,x3,c7,a3,k3,r3,g3,rfl⟩:=f226 (u:=u) (item:=item) [41] hl ai a2 B p cG hp r2;refine⟨.agg x.four,x,c7,a3,oW (g:=wR) rfl rfl rfl hp rfl ?_,r3,?_,rfl,hx⟩
  ·simp[wR,Fu,bL,lR,jF,k1,k2,k3];exact hx.LU _ _
  ·refine aF.as (P:=fun t=>(aD s.length [40] t).bind fun _ t=>(au s.length k t).bind fun x t=>(aD s.length [41] t).map fun _=>x) (g1.bind (g2.bind (g3.map fun _=>x))) fun t ht=>?_;subst ht;exact if_pos hb
 |false=>
  rw[hb]at jF
  have gG:∀st,a= .r st->st.aZ [40]=false:=fun st hs=>by subst hs;exact hb
  have e0:cV []:=fun b hb=>by cases hb
  by_cases hk:tk.kind=2
  ·obtain⟨_,n,cN,a1,k1,r1,g1,rfl,hn⟩:=f230 (u:=u) (item:=item) hl ai a B p cs hp h;have hx:(η.mk 1 n [] .nil []).gz:=⟨⟨.inl rfl,trivial⟩,e0,trivial⟩;refine⟨.agg (η.mk 1 n [] .nil []).four,_,cN,a1,oW (g:=wR) rfl rfl rfl hp rfl ?_,r1,?_,rfl,hx⟩
   ·have:=hx.LU (B.set p (.cells cN)) B.length;simp only[η.four,η.ψ]at this⊢;have dh:((tk.kind:Int)==2)=true:=beq_iff_eq.2 (by omega);simp[wR,Fu,bL,lR,jF,k1,dh,dp,this]
   ·refine aF.as (P:=fun t=>(r8 s.length t).map fun n:Nat=>η.mk 1 (n:Int) [] .nil []) (g1.map _) fun t ht=>?_;simp[eA,gG t ht,<-(qz t ht).2.1,hk]
  ·obtain⟨_,x,cN,a1,k1,r1,g1,rfl,hn⟩:=f227 (u:=u) (item:=item) hl ai a B p cs hp h;have hx:(η.mk 2 0 x .nil []).gz:=⟨⟨.inl rfl,trivial⟩,hn,trivial⟩;refine⟨.agg (η.mk 2 0 x .nil []).four,_,cN,a1,oW (g:=wR) rfl rfl rfl hp rfl ?_,r1,?_,rfl,hx⟩
   ·have:=hx.LU (B.set p (.cells cN)) B.length;simp only[η.four,η.ψ]at this⊢;have dh:((tk.kind:Int)==2)=false:=beq_eq_false_iff_ne.2 (by omega);simp[wR,Fu,bL,lR,jF,k1,dh,dp,this]
   ·refine aF.as (P:=fun t=>(gH s.length t).map fun n=>η.mk 2 0 n .nil []) (g1.map _) fun t ht=>?_;simp[eA,gG t ht,<-(qz t ht).2.1,hk]
theorem f308{k:Nat}(ih:∀a:RS,a.sz<k->pt u (cK s all c item) 296 [] (au s.length k) Ei a)(a:RS)(ha:a.sz<k+1):pt u (cK s all c item) 308 [] (kB s.length (eA s.length (au s.length k))) Ei a:=by
 intro B p cs hp h;have Et:=fun a ha=>f315 (u:=u) hl ai ih a ha;have qu:=Lw s.length (nL s.length k);generalize hA:eA s.length (au s.length k)=A at*;obtain⟨_,x1,cN,a1,k1,r1,g1,rfl,qG⟩:=Et a ha B p cs hp h;have ur:=g1.sz qu;let F:η->PS->R η:=fun x t=>(aD s.length [42] t).bind fun _ t=>(A t).map fun y=> .mk 5 0 [] .any [x,y];let cc:PS->Bool:=fun t=>t.aZ [42];suffices hm:∃x ae b,(∀T,kf u 308 [.μ p 0] {ε:=B.set p (.cells cs),ζ:=T}=some (.agg x.four,{ε:=B.set p (.cells ae),ζ:=T}))/\cK s all c item ae b/\aF (cd cc F (a1.sz+1) x1) a1 x b/\x.gz by obtain⟨x,ae,b,m1,m2,m3,m4⟩:=hm;exact⟨_,x,ae,b,m1,m2,g1.bind (Q:=fun x t=>cd cc F (t.l.length+1) x t) m3.fuel,rfl,m4⟩
 have dY:κ (C u).gl (ah (C u)) RL {env:=[.μ p 0],loc:=[],mem:= {ε:=B.set p (.cells cs),ζ:=[]}} fun r=>(∀i,r.1≠ .exit i)/\∃L x ae b,r.2.mem= {ε:=B.set p (.cells ae),ζ:=[]}/\aI r.2.env 2= .aj 2 0 0/\bQ r.2.loc 2=some (0,.cells L)/\bS L x.four/\cK s all c item ae b/\aF (cd cc F (a1.sz+1) x1) a1 x b/\x.gz:=by
  refine Θ (fun st=>st.e 0= .μ p 0/\st.e 2= .aj 2 0 0/\(∃z,st.q 2=some (0,.cells z)/\z.length=4)/\st.q 3=none/\st.mem= {ε:=B.set p (.cells cs),ζ:=[]}) (by simp[bL]) fun s1 ⟨h1,h2,⟨z,h3,hz⟩,h4,h5⟩=>?_;let I:Nat->St->Prop:=fun i st=>st.e 0= .μ p 0/\st.e 2= .aj 2 0 0/\(∃z,st.q 2=some (0,.cells z)/\z.length=4)/\st.e 3= .aj 3 0 0/\∃L x ae b,st.q 3=some (0,.cells L)/\st.mem= {ε:=B.set p (.cells ae),ζ:=[]}/\bS L x.four/\cK s all c item ae b/\x.gz/\b.sz+i<=a1.sz∧
   ∀y b',aF (cd cc F (a1.sz+1-i) x) b y b'->aF (cd cc F (a1.sz+1) x1) a1 y b'
  refine Θ (I 0) (by
   simp[bL,h1,h2,h3,hz,h4,h5,k1]
   exact⟨by simp[h1],by simp[h2],⟨z,by simp[h3],hz⟩,by simp,x1.four,x1,cN,a1,by simp,rfl,oD qG,r1,qG,bA _,fun _ _ h=>h⟩) fun s1 hI=>?_
  refine bP (fun st=>st.e 2= .aj 2 0 0/\(∃z,st.q 2=some (0,.cells z)/\z.length=4)/\st.e 3= .aj 3 0 0/\∃L x ae b,st.q 3=some (0,.cells L)/\st.mem= {ε:=B.set p (.cells ae),ζ:=[]}/\bS L x.four/\cK s all c item ae b/\x.gz/\aF (cd cc F (a1.sz+1) x1) a1 x b) ?_ fun s2 ⟨h2,⟨z,h3,hz⟩,h4,L,x,ae,b,h5,h6,hL,h7,h8,h9⟩=>?_
  ·refine κ.block (κ.kD (I:=I) a1.sz hI fun i st hi Ω=>?_);obtain⟨h1,h2,⟨z,h3,hz⟩,h4,L,x,ae,b,h5,h6,hL,h7,h8,h9,aC⟩:=Ω;have jF:=fun T=>f268 (u:=u) [[42]] (by decide) hl hp h7 T;simp only[aA,aP,als,alu,alv]at jF;unfold V0;have lv:a1.sz+1-i=(a1.sz-i)+1:=by omega
   rw[lv]at aC;cases hb:b.aZ [42]with
   |false=>
    rw[hb]at jF
    refine κ.done (.exit 0) (fun st=>st.e 2= .aj 2 0 0/\st.q 2=some (0,.cells z)/\st.e 3= .aj 3 0 0/\st.q 3=some (0,.cells L)/\st.mem= {ε:=B.set p (.cells ae),ζ:=[]}) (by simp[h1,h2,h3,h4,h5,h6,jF]) fun s' ⟨m1,m2,m3,m4,m5⟩=> .inr ⟨by simp,.inl ⟨rfl,.inl ⟨rfl,m1,⟨z,m2,hz⟩,m3,L,x,ae,b,m4,m5,hL,h7,h8,aC x b (aF.D5 hb)⟩⟩⟩
   |true=>
    rw[hb]at jF
    have jN:=tT hb (by simp);obtain⟨_,w,cG,b2,k2,r2,g2,rfl⟩:=f226 (u:=u) (item:=item) [42] hl ai b B p ae hp h7;have ng:=g2.take jN;obtain⟨_,y,c7,b3,k3,r3,g3,rfl,hy⟩:=Et b2 (by omega) B p cG hp r2;have DH:=g3.sz qu;have hx:(η.mk 5 0 [] .any [x,y]).gz:=⟨⟨.inr rfl,h8.1,hy.1,trivial⟩,zz,h8.2,hy.2,trivial⟩;have mC:L.length=4:=by rw[hL.len,x.fR]
    have lI:L.take 4=L:=fw (by omega);have ej:shaped true 4 (.agg L)=true:=by simp[shaped,mC]
    have Mp:bS [.n 5,.n 0,.str [],.list .full [.agg L,.agg y.four]] (η.mk 5 0 [] .any [x,y]).four:=by simp only[η.four,η.ψ,η.iM];exact .cons (.int _ _) (.cons (.int _ _) (.cons (.str _) (.cons (.list .full (.cons (.agg hL) (.cons (.agg (oD hy)) .nil))) .nil)))
    refine κ.done .normal (fun st=>st.e 0= .μ p 0/\st.e 2= .aj 2 0 0/\st.q 2=some (0,.cells z)/\st.e 3= .aj 3 0 0/\st.q 3=some (0,.cells [.n 5,.n 0,.str [],.list .full [.agg L,.agg y.four]])/\st.mem= {ε:=B.set p (.cells c7),ζ:=[]}) (by simp[h1,h2,h3,h4,h5,h6,jF,k2,k3,dp,cZ,c8,eZ,mC,lI,ej,bS.ti hL]) fun s' ⟨m1,m2,m3,m4,m5,m6⟩=> .inl ⟨rfl,by omega,m1,m2,⟨z,m3,hz⟩,m4,_,_,c7,b3,m5,m6,Mp,r3,hx,by omega,fun y' b' hg=>aC y' b' (aF.D6 hb (g2.bind (g3.map _)) (by rw[show a1.sz+1-(i+1)=a1.sz-i by omega]at hg;exact hg))⟩
  ·have mC:L.length=4:=by rw[hL.len,x.fR]
   have lI:L.take 4=L:=fw (by omega);refine κ.done .ret (fun st=>st.e 2= .aj 2 0 0/\st.q 2=some (0,.cells L)/\st.mem= {ε:=B.set p (.cells ae),ζ:=[]}) (by simp[h2,h3,h4,h5,h6,hz,mC,lI]) fun s' ⟨m1,m2,m3⟩=>⟨by simp,L,x,ae,b,m3,m1,m2,hL,h7,h9,h8⟩
 obtain⟨r,e1,e2,L,x,ae,b,e3,e4,e5,hL,e6,e7,e8⟩:=dY;have mC:L.length=4:=by rw[hL.len,x.fR]
 have lI:L.take 4=L:=fw (by omega);exact⟨x,ae,b,oW (g:=Hb) rfl rfl rfl hp rfl ⟨r,e1,e2,⟨[],by simp[e3]⟩,[.agg L],by simp[Hb,e4,e5,mC,lI],(Dv.agg hL).aK _ _ _⟩,e6,e7,e8⟩
theorem f296{k:Nat}(ih:∀a:RS,a.sz<k->pt u (cK s all c item) 296 [] (au s.length k) Ei a)(a:RS)(ha:a.sz<k+1):pt u (cK s all c item) 296 [] (au s.length (k+1)) Ei a:=by
 intro B p cs hp h;have Et:=fun a ha=>f308 (u:=u) hl ai ih a ha;have qu:=SH s.length (Lw s.length (nL s.length k));show∃v x ae b,_/\_/\aF (wh s.length (kB s.length (eA s.length (au s.length k)))) a x b/\_;generalize hA:kB s.length (eA s.length (au s.length k))=A at*;obtain⟨_,x1,cN,a1,k1,r1,g1,rfl,qG⟩:=Et a ha B p cs hp h;have ur:=g1.sz qu;let F:η->PS->R η:=fun x t=>(aD s.length t.hd t).bind fun w t=>(A t).map fun y=> .mk (if w=[45]then 4 else 3) 0 [] .any [x,y];let cc:PS->Bool:=fun t=>t.aZ [43]||t.aZ [45];suffices hm:∃x ae b,(∀T,kf u 296 [.μ p 0] {ε:=B.set p (.cells cs),ζ:=T}=some (.agg x.four,{ε:=B.set p (.cells ae),ζ:=T}))/\cK s all c item ae b/\aF (cd cc F (a1.sz+1) x1) a1 x b/\x.gz by obtain⟨x,ae,b,m1,m2,m3,m4⟩:=hm;exact⟨_,x,ae,b,m1,m2,g1.bind (Q:=fun x t=>cd cc F (t.l.length+1) x t) m3.fuel,rfl,m4⟩
 have dY:κ (C u).gl (ah (C u)) RH {env:=[.μ p 0],loc:=[],mem:= {ε:=B.set p (.cells cs),ζ:=[]}} fun r=>(∀i,r.1≠ .exit i)/\∃L x ae b,r.2.mem= {ε:=B.set p (.cells ae),ζ:=[]}/\aI r.2.env 2= .aj 2 0 0/\bQ r.2.loc 2=some (0,.cells L)/\bS L x.four/\cK s all c item ae b/\aF (cd cc F (a1.sz+1) x1) a1 x b/\x.gz:=by
  refine Θ (fun st=>st.e 0= .μ p 0/\st.e 2= .aj 2 0 0/\(∃z,st.q 2=some (0,.cells z)/\z.length=4)/\st.q 3=none/\st.mem= {ε:=B.set p (.cells cs),ζ:=[]}) (by simp[bL]) fun s1 ⟨h1,h2,⟨z,h3,hz⟩,h4,h5⟩=>?_;let I:Nat->St->Prop:=fun i st=>st.e 0= .μ p 0/\st.e 2= .aj 2 0 0/\(∃z,st.q 2=some (0,.cells z)/\z.length=4)/\st.e 3= .aj 3 0 0/\∃L x ae b,st.q 3=some (0,.cells L)/\st.mem= {ε:=B.set p (.cells ae),ζ:=[]}/\bS L x.four/\cK s all c item ae b/\x.gz/\b.sz+i<=a1.sz∧
   ∀y b',aF (cd cc F (a1.sz+1-i) x) b y b'->aF (cd cc F (a1.sz+1) x1) a1 y b'
  refine Θ (I 0) (by
   simp[bL,h1,h2,h3,hz,h4,h5,k1]
   exact⟨by simp[h1],by simp[h2],⟨z,by simp[h3],hz⟩,by simp,x1.four,x1,cN,a1,by simp,rfl,oD qG,r1,qG,bA _,fun _ _ h=>h⟩) fun s1 hI=>?_
  refine bP (fun st=>st.e 2= .aj 2 0 0/\(∃z,st.q 2=some (0,.cells z)/\z.length=4)/\st.e 3= .aj 3 0 0/\∃L x ae b,st.q 3=some (0,.cells L)/\st.mem= {ε:=B.set p (.cells ae),ζ:=[]}/\bS L x.four/\cK s all c item ae b/\x.gz/\aF (cd cc F (a1.sz+1) x1) a1 x b) ?_ fun s2 ⟨h2,⟨z,h3,hz⟩,h4,L,x,ae,b,h5,h6,hL,h7,h8,h9⟩=>?_
  ·refine κ.block (κ.kD (I:=I) a1.sz hI fun i st hi Ω=>?_);obtain⟨h1,h2,⟨z,h3,hz⟩,h4,L,x,ae,b,h5,h6,hL,h7,h8,h9,aC⟩:=Ω;have jF:=fun T=>f268 (u:=u) [[43],[45]] (by decide) hl hp h7 T;have sk:=fun T=>f268 (u:=u) [[45]] (by decide) hl hp h7 T;simp only[aA,aP,als,alu,alv]at jF sk;unfold VY;have lv:a1.sz+1-i=(a1.sz-i)+1:=by omega
   rw[lv]at aC;have eD:b.yr cc=(b.aZ [43]||b.aZ [45]):=by cases b<;>rfl
   cases hb:(b.aZ [43]||b.aZ [45])with
   |false=>
    rw[hb]at jF
    refine κ.done (.exit 0) (fun st=>st.e 2= .aj 2 0 0/\st.q 2=some (0,.cells z)/\st.e 3= .aj 3 0 0/\st.q 3=some (0,.cells L)/\st.mem= {ε:=B.set p (.cells ae),ζ:=[]}) (by simp[h1,h2,h3,h4,h5,h6,jF]) fun s' ⟨m1,m2,m3,m4,m5⟩=> .inr ⟨by simp,.inl ⟨rfl,.inl ⟨rfl,m1,⟨z,m2,hz⟩,m3,L,x,ae,b,m4,m5,hL,h7,h8,aC x b (aF.D5 (eD.trans hb))⟩⟩⟩
   |true=>
    rw[hb]at jF
    have jN:0<b.sz:=by
     rcases Bool.or_eq_true_iff.1 hb with h|h
     ·exact tT h (by simp)
     ·exact tT h (by simp)
    obtain⟨tk,lR,qz⟩:=Wg (u:=u) hl ai hp h7;simp only[Tok.bu]at lR;have Di:tk.text=b.hd:=by
     cases b with
     |w w=>cases hb
     |r st=>exact(qz st rfl).1
    obtain⟨_,w,cG,b2,k2,r2,g2,rfl⟩:=f226 (u:=u) (item:=item) tk.text hl ai b B p ae hp h7;have ng:=g2.take jN;obtain⟨_,y,c7,b3,k3,r3,g3,rfl,hy⟩:=Et b2 (by omega) B p cG hp r2;have DH:=g3.sz qu;have mC:L.length=4:=by rw[hL.len,x.fR]
    have lI:L.take 4=L:=fw (by omega);have ej:shaped true 4 (.agg L)=true:=by simp[shaped,mC]
    have oH:b.aZ [45]=decide (b.hd=[45]):=by
     cases b with
     |w w=>cases hb
     |r st=>by_cases h:st.hd=[45]<;>simp[RS.aZ,RS.yr,PS.aZ,RS.hd,h]
    have step:∀K:Int,K=(if b.hd=[45]then 4 else 3)->aF (F x) b (.mk K 0 [] .any [x,y]) b3:=fun K hK=>by subst hK;rw[Di]at g2;exact aF.as (P:=fun t=>(aD s.length b.hd t).bind fun w t=>(A t).map fun y=>η.mk (if w=[45]then 4 else 3) 0 [] .any [x,y]) (aF.word (Q:=fun w t=>(A t).map fun y=>η.mk (if w=[45]then 4 else 3) 0 [] .any [x,y]) g2 (g3.map _)) fun t ht=>by subst ht;rfl
    have go:∀K:Int,K=(if b.hd=[45]then 4 else 3)->∀s':St,s'.e 0= .μ p 0/\s'.e 2= .aj 2 0 0/\s'.q 2=some (0,.cells z)/\s'.e 3= .aj 3 0 0/\s'.q 3=some (0,.cells [.n K,.n 0,.str [],.list .full [.agg L,.agg y.four]])/\s'.mem= {ε:=B.set p (.cells c7),ζ:=[]}->i<a1.sz/\I (i+1) s':=fun K hK s' ⟨m1,m2,m3,m4,m5,m6⟩=>by
     have hx:(η.mk K 0 [] .any [x,y]).gz:=⟨⟨.inr rfl,h8.1,hy.1,trivial⟩,zz,h8.2,hy.2,trivial⟩;have Mp:bS [.n K,.n 0,.str [],.list .full [.agg L,.agg y.four]] (η.mk K 0 [] .any [x,y]).four:=by simp only[η.four,η.ψ,η.iM];exact .cons (.int _ _) (.cons (.int _ _) (.cons (.str _) (.cons (.list .full (.cons (.agg hL) (.cons (.agg (oD hy)) .nil))) .nil)))
     exact⟨by omega,m1,m2,⟨z,m3,hz⟩,m4,_,_,c7,b3,m5,m6,Mp,r3,hx,by omega,fun y' b' hg=>aC y' b' (aF.D6 (eD.trans hb) (step K hK) (by rw[show a1.sz+1-(i+1)=a1.sz-i by omega]at hg;exact hg))⟩
    rw[oH]at sk;by_cases hm:b.hd=[45]
    ·rw[decide_eq_true hm]at sk;refine κ.done .normal (fun st=>st.e 0= .μ p 0/\st.e 2= .aj 2 0 0/\st.q 2=some (0,.cells z)/\st.e 3= .aj 3 0 0/\st.q 3=some (0,.cells [.n 4,.n 0,.str [],.list .full [.agg L,.agg y.four]])/\st.mem= {ε:=B.set p (.cells c7),ζ:=[]}) (by simp[h1,h2,h3,h4,h5,h6,jF,sk,lR,k2,k3,dp,cZ,c8,eZ,mC,lI,ej,bS.ti hL]) fun s' h=> .inl ⟨rfl,go 4 (by rw[if_pos hm]) s' h⟩
    ·rw[decide_eq_false hm]at sk;refine κ.done .normal (fun st=>st.e 0= .μ p 0/\st.e 2= .aj 2 0 0/\st.q 2=some (0,.cells z)/\st.e 3= .aj 3 0 0/\st.q 3=some (0,.cells [.n 3,.n 0,.str [],.list .full [.agg L,.agg y.four]])/\st.mem= {ε:=B.set p (.cells c7),ζ:=[]}) (by simp[h1,h2,h3,h4,h5,h6,jF,sk,lR,k2,k3,dp,cZ,c8,eZ,mC,lI,ej,bS.ti hL]) fun s' h=> .inl ⟨rfl,go 3 (by rw[if_neg hm]) s' h⟩
  ·have mC:L.length=4:=by rw[hL.len,x.fR]
   have lI:L.take 4=L:=fw (by omega);refine κ.done .ret (fun st=>st.e 2= .aj 2 0 0/\st.q 2=some (0,.cells L)/\st.mem= {ε:=B.set p (.cells ae),ζ:=[]}) (by simp[h2,h3,h4,h5,h6,hz,mC,lI]) fun s' ⟨m1,m2,m3⟩=>⟨by simp,L,x,ae,b,m3,m1,m2,hL,h7,h9,h8⟩
 obtain⟨r,e1,e2,L,x,ae,b,e3,e4,e5,hL,e6,e7,e8⟩:=dY;have mC:L.length=4:=by rw[hL.len,x.fR]
 have lI:L.take 4=L:=fw (by omega);exact⟨x,ae,b,oW (g:=G_) rfl rfl rfl hp rfl ⟨r,e1,e2,⟨[],by simp[e3]⟩,[.agg L],by simp[G_,e4,e5,mC,lI],(Dv.agg hL).aK _ _ _⟩,e6,e7,e8⟩
theorem Bi:∀(k:Nat) (a:RS),a.sz<k->pt u (cK s all c item) 296 [] (au s.length k) Ei a
 |0,_,h=>by omega
 |k+1,a,h=>f296 hl ai (fun a h=>Bi k a h) a h
theorem f295{k:Nat}(a:RS)(ha:a.sz<k):pt u (cK s all c item) 295 [] (sn s.length (au s.length k)) (fun x v=>v= .aU [.str x.1,.agg x.2.four]/\cV x.1/\x.2.gz) a:=by intro B p cs hp h;obtain⟨_,n,cN,a1,k1,r1,g1,rfl,hn⟩:=f227 (u:=u) (item:=item) hl ai a B p cs hp h;have s1:=g1.sz (nN _);obtain⟨_,w1,cG,a2,k2,r2,g2,rfl⟩:=f226 (u:=u) (item:=item) [91] hl ai a1 B p cN hp r1;have s2:=g2.sz (eV _ _);obtain⟨_,x,c7,a3,k3,r3,g3,rfl,hx⟩:=Bi (u:=u) (item:=item) hl ai k a2 (by omega) B p cG hp r2;obtain⟨_,w2,iP,a4,k4,r4,g4,rfl⟩:=f226 (u:=u) (item:=item) [93] hl ai a3 B p c7 hp r3;refine⟨_,(n,x),iP,a4,oW (g:=G9) rfl rfl rfl hp rfl ?_,r4,g1.bind (Q:=fun n s'=>(aD s.length [91] s').bind fun _ s'=>(au s.length k s').bind fun x s'=>(aD s.length [93] s').map fun _=>(n,x)) (g2.bind (Q:=fun _ s'=>(au s.length k s').bind fun x s'=>(aD s.length [93] s').map fun _=>(n,x)) (g3.bind (Q:=fun x s'=>(aD s.length [93] s').map fun _=>(n,x)) (g4.map fun _=>(n,x)))),rfl,hn,hx⟩;simp[G9,RG,bL,k1,k2,k3,k4];exact(Dv.aU (.cons (.str n) (.cons (.agg (oD hx)) .nil))).aK _ _ _
def Ep:ρ->AV->Prop:=fun x v=>v=x.av/\x.Ok
theorem f309{k:Nat}(a:RS)(ha:a.sz<k):pt u (cK s all c item) 309 [] (gQ s.length (au s.length k)) Ep a:=by
 intro B p cs hp h;obtain⟨_,n,cN,a1,k1,r1,g1,rfl,hn⟩:=f227 (u:=u) (item:=item) hl ai a B p cs hp h;have s1:=g1.sz (nN _);have jF:=fun T=>f268 (u:=u) [[91]] (by decide) hl hp r1 T;simp only[aA,aP,als,alu,alv]at jF;cases hb:a1.aZ [91]with
 |false=>
  rw[hb]at jF
  have gG:∀st,a1= .r st->st.aZ [91]=false:=fun st hs=>by subst hs;exact hb
  refine⟨_,⟨n,.nil,[]⟩,cN,a1,oW (g:=wQ) rfl rfl rfl hp rfl ?_,r1,g1.bind (aF.as (aF.pure _ _) fun st hs=>by simp[gG st hs]),rfl,hn,.inl rfl,by simp⟩;simp[wQ,Ft,bL,k1,jF,dp];rfl
 |true=>
  rw[hb]at jF
  obtain⟨_,w1,cG,a2,k2,r2,g2,rfl⟩:=f226 (u:=u) (item:=item) [91] hl ai a1 B p cN hp r1;have s2:=g2.sz (eV _ _);obtain⟨_,x,c7,a3,k3,r3,g3,rfl,hx⟩:=Bi (u:=u) (item:=item) hl ai k a2 (by omega) B p cG hp r2;have s3:=g3.sz (nL _ _);have e0:∀i cs,(B++[θ.front i 4 27]).set p (.cells cs)=B.set p (.cells cs)++[.front i 4 27]:=fun i cs=>mT _ _ hp;have sW:∀i,p<(B++[θ.front i 4 27]).length:=fun i=>by simp;omega
  have sk:=fun T=>f268 (u:=u) (B:=B++[.front 1 4 27]) [[58]] (by decide) hl (sW 1) r3 T;simp only[aA,aP,als,alu,alv,e0]at sk;have w9:=fun T=>Qs {ε:=B.set p (.cells c7),ζ:=T} x.fR (Dv.agg (oD hx)).ν;simp only[mS,Mem.push]at w9;cases dy:a3.aZ [58]with
  |false=>
   rw[dy]at sk
   have gG:∀st,a3= .r st->st.aZ [58]=false:=fun st hs=>by subst hs;exact dy
   obtain⟨_,w2,iP,a4,k4,r4,g4,rfl⟩:=f226 (u:=u) (item:=item) [93] hl ai a3 (B++[.front 1 4 27]) p c7 (sW 1) r3;simp only[e0]at k4;have dQ:(⟨n,.any,[x]⟩:ρ).Ok:=⟨hn,.inr rfl,by simpa using hx⟩;refine⟨_,⟨n,.any,[x]⟩,iP,a4,oW (g:=wQ) rfl rfl rfl hp rfl ?_,r4,?_,rfl,dQ⟩
   ·simp[wQ,Ft,bL,k1,k2,k3,k4,jF,sk,dp,w9,cZ,c8,eZ];exact(Dv.agg (.cons (.str n) (.cons (.list _ (.cons (.agg (oD hx)) .nil)) .nil))).aK _ _ _|>.trans (by simp[ρ.av,η.iM,ξ.exp])
   ·refine g1.bind (aF.as (P:=fun t=>(aD s.length [91] t).bind fun _ t=>(au s.length k t).bind fun x t=>(if t.aZ [58]then(aD s.length [58] t).bind fun _ t=>(au s.length k t).map fun y=>[x,y]else .ok [x] t).bind fun l t=>(aD s.length [93] t).map fun _=>⟨n,.any,l⟩) ?_ fun st hs=>by subst hs;exact if_pos hb);exact g2.bind (g3.bind (aF.bind (aF.as (aF.pure [x] a3) fun st hs=>by simp[gG st hs]) (g4.map fun _=>_)))
  |true=>
   rw[dy]at sk
   obtain⟨_,w2,iP,a4,k4,r4,g4,rfl⟩:=f226 (u:=u) (item:=item) [58] hl ai a3 (B++[.front 1 4 27]) p c7 (sW 1) r3;have s4:=g4.sz (eV _ _);obtain⟨_,y,u_,a5,k5,r5,g5,rfl,hy⟩:=Bi (u:=u) (item:=item) hl ai k a4 (by omega) (B++[.front 1 4 27]) p iP (sW 1) r4;obtain⟨_,w3,Cw,a6,k6,r6,g6,rfl⟩:=f226 (u:=u) (item:=item) [93] hl ai a5 (B++[.front 2 4 27]) p u_ (sW 2) r5;simp only[e0]at k4 k5 k6;have vk:=fun T=>Qt (B.set p (.cells u_)) T x.fR y.fR (Dv.agg (oD hy)).ν;simp only[mS]at vk;have dQ:(⟨n,.any,[x,y]⟩:ρ).Ok:=⟨hn,.inr rfl,by simpa using⟨hx,hy⟩⟩;refine⟨_,⟨n,.any,[x,y]⟩,Cw,a6,oW (g:=wQ) rfl rfl rfl hp rfl ?_,r6,?_,rfl,dQ⟩
   ·simp[wQ,Ft,bL,k1,k2,k3,k4,k5,k6,jF,sk,dp,w9,vk,cZ,c8,eZ];exact(Dv.agg (.cons (.str n) (.cons (.list _ (.cons (.agg (oD hx)) (.cons (.agg (oD hy)) .nil))) .nil))).aK _ _ _|>.trans (by simp[ρ.av,η.iM,ξ.exp])
   ·refine g1.bind (aF.as (P:=fun t=>(aD s.length [91] t).bind fun _ t=>(au s.length k t).bind fun x t=>(if t.aZ [58]then(aD s.length [58] t).bind fun _ t=>(au s.length k t).map fun y=>[x,y]else .ok [x] t).bind fun l t=>(aD s.length [93] t).map fun _=>⟨n,.any,l⟩) ?_ fun st hs=>by subst hs;exact if_pos hb);exact g2.bind (g3.bind (aF.bind (aF.as (P:=fun t=>(aD s.length [58] t).bind fun _ t=>(au s.length k t).map fun y=>[x,y]) (g4.bind (g5.map fun y=>[x,y])) fun st hs=>by subst hs;exact if_pos dy) (g6.map fun _=>_)))
end
end Go.Δ.Tz
