import Derived.Test.YtiigojkfojnedaaGreatDoorSVa
set_option linter.all false
set_option maxRecDepth 100000
set_option maxHeartbeats 8000000
open List renaming length_cons->cD,length_take->lD,length->lC,length_drop->k_,drop_eq_getElem_cons->nk,drop_drop->oL,nil_append->bE,append_nil->dF,map_cons->az,map_nil->aJ,getElem_mem->c_,take_length->pH,getElem?_eq_none->h_,filter_eq_nil_iff->alL,replicate->Cu,mem_append->dT,eq_of_mem_replicate->alM,mem_of_mem_take->qt,mem_of_mem_drop->tW,take_of_length_le->fo,getElem?_append_left->ek,getElem?_append_right->tV,all_map->nj,append_assoc->bO,length_map->cg,mem_cons->cy,getElem?_cons_zero->Cr,length_append->cI,map_map->cT,map_congr_left->de,eq_nil_of_length_eq_zero->np,getElem?_eq_getElem->dn,length_set->nq,set_append_left->nr,mem_singleton->fU,take_succ_cons->sL,any_cons->alN,any_nil->alO
open Nat renaming lt_or_ge->da,zero_le->tY,le_refl->bS
open Go.IntKind renaming wrap->bC
open Bool renaming and_eq_true->ej,and_self->wD,false_eq_true->jV,or_false->alP
open Option renaming bind_some->yr
namespace Go.Θ
def bY:Bool->List Nat->Nat
 |_,[]=>0
 |false,b::l=>if b=32\/b=10 then bY false l+1 else if b=35 then bY true l+1 else 0
 |true,b::l=>if b=10 then bY false l+1 else bY true l+1
def isLet(b:Nat):Bool:=decide (97<=b)&&decide (b<=122)
def qn:List Nat:=[40,41,91,93,123,125,44,59,58,61,43,45,42]
def runN(f:Nat->Bool):List Nat->Nat
 |[]=>0
 |b::l=>if f b then runN f l+1 else 0
structure Tok where
 at_:Nat
 kind:Nat
 text:List Nat
 c8:Int
def gz(n:Nat):List Nat->Tok
 |[]=>⟨n,0,[],-1⟩
 |b::l=>
  if isLet b then⟨n,1,(b::l).take (runN isLet (b::l)),if 8<runN isLet (b::l)then n+8 else-1⟩
  else if ca b then⟨n,2,(b::l).take (runN ca (b::l)),if 1<runN ca (b::l)/\b=48 then n+1 else if 2<runN ca (b::l)then n+2 else-1⟩
  else if b∈qn then⟨n,b,[b],-1⟩
  else⟨n,0,[b],n⟩
def Tok.cut(t:Tok):List Nat:=
 if t.c8<0 then t.text else if t.kind=1 then t.text.take 8 else if t.kind=2 then(if t.text.head?=some 48 then[48]else t.text.take 2)else[]
theorem Wf(c:Bool)(l:List Nat):bY c l<=l.length:=by
 induction l generalizing c with
 |nil=>cases c<;>simp[bY]
 |cons b l ih=>
  have h1:=ih false
  have h2:=ih true;cases c<;>simp only[bY,cD]<;>(repeat' split)<;>omega
theorem afL(l:List Nat):∀k,(∀e,jD 10 l k=some e->k<=e/\e-k<=l.length/\bY true l=(e-k)+bY false (l.drop (e-k)))/\(jD 10 l k=none->bY true l=l.length):=by
 induction l with
 |nil=>intro k;simp[jD,bY]
 |cons b l ih=>
  intro k
  by_cases h:b=10
  ·subst h;simp[jD,bY]
  ·obtain⟨h1,h2⟩:=ih (k+1);refine⟨fun e he=>?_,fun he=>?_⟩
   ·simp only[jD,h,if_false]at he;obtain⟨q1,q2,q3⟩:=h1 e he;have e1:e-k=(e-(k+1))+1:=by omega
    refine⟨by omega,by simp only[cD];omega,?_⟩;rw[e1,List.drop_succ_cons];simp only[bY,h,if_false,q3];omega
   ·simp only[jD,h,if_false]at he;simp only[bY,h,if_false,h2 he,cD]
theorem zZ(f:Nat->Bool)(l:List Nat):runN f l<=l.length:=by
 induction l with
 |nil=>simp[runN]
 |cons b l ih=>simp only[runN,cD];split<;>omega
theorem Fb(n b:Nat)(l:List Nat):0<(gz n (b::l)).text.length:=by
 simp only[gz];have e1:isLet b=true->0<runN isLet (b::l):=fun h=>by simp[runN,h]
 have e2:ca b=true->0<runN ca (b::l):=fun h=>by simp[runN,h]
 split
 ·rename_i h;have:=e1 h;have:=zZ isLet (b::l);simp only[lD];omega
 ·split
  ·rename_i h;have:=e2 h;have:=zZ ca (b::l);simp only[lD];omega
  ·split<;>simp
theorem Yg(n:Nat)(l:List Nat):(gz n l).text.length<=l.length:=by
 cases l with
 |nil=>simp[gz]
 |cons b l=>
  simp only[gz]
  split
  ·simp only[lD];omega
  ·split
   ·simp only[lD];omega
   ·split<;>simp
def oG:Nat->Nat->List Nat->List Tok
 |0,_,_=>[]
 |k+1,n,l=>
  if l.length<=bY false l then[]else
   let m:=n+bY false l;let r:=l.drop (bY false l);let t:=gz m r
   if t.kind=0 then[t]else t::oG k (m+t.text.length) (r.drop t.text.length)
def cj(s:List Nat):List Tok:=oG (s.length+1) 0 s
def sW:List Tok->Option Int
 |[]=>none
 |t::l=>if 0<=t.c8 then some t.c8 else sW l
theorem akm(k j n:Nat)(l:List Nat)(h:l.length<k)(hj:l.length<j):oG k n l=oG j n l:=by
 induction k generalizing j n l with
 |zero=>omega
 |succ k ih=>
  cases j with
  |zero=>omega
  |succ j=>
   simp only[oG]
   split
   ·rfl
   ·rename_i hl;split
    ·rfl
    ·congr 1;have hl:=Nat.not_le.1 hl;cases hr:l.drop (bY false l)with
     |nil=>have:=congrArg lC hr;simp at this;omega
     |cons b r=>
      have e:(b::r).length=l.length-bY false l:=by rw[<-hr];simp
      have hp:=Fb (n+bY false l) b r;simp only[cD]at e;refine ih j _ _ ?_ ?_<;>simp only[k_,cD]<;>omega
end Go.Θ
namespace Go.Θ.Tz
open Go.Θ
variable{u:Nat}
attribute [local simp] exec dY dP eX aI dw fA eN aK fL bQ iu iE iM jd AV.cells newVar iX rd wr gT single dk cE e_ ew κ cK RV.get cL fT kz
theorem IY{s:List Nat}{p:Nat}(h:p<s.length):bY false (s.drop p)=if s[p]=32\/s[p]=10 then bY false (s.drop (p+1))+1 else if s[p]=35 then bY true (s.drop (p+1))+1 else 0:=by rw[nk h];rfl
theorem afK{s:List Nat}{p:Nat}(h:p<s.length)(Mq:s[p]=35)(h2:(s.length:Int)<4000000000):
  (∀e,jD 10 (s.drop p) 0=some e->0<e/\p+e<=s.length/\p+bY false (s.drop p)=(p+e)+bY false (s.drop (p+e)))/\(jD 10 (s.drop p) 0=none->p+bY false (s.drop p)=s.length):=by
 have hc:¬(s[p]=32\/s[p]=10):=by omega
 have hx:bY false (s.drop p)=bY true (s.drop (p+1))+1:=by rw[IY h,if_neg hc,if_pos Mq]
 have hd:s.drop p=s[p]::s.drop (p+1):=nk h;have φ:¬s[p]=10:=by omega
 obtain⟨k1,k2⟩:=afL (s.drop (p+1)) 1;have hi:jD 10 (s.drop p) 0=jD 10 (s.drop (p+1)) 1:=by rw[hd];simp only[jD,φ,if_false]
 refine⟨fun e he=>?_,fun he=>?_⟩
 ·rw[hi]at he;obtain⟨q1,q2,q3⟩:=k1 e he;simp only[k_]at q2;rw[oL]at q3;have e1:p+1+(e-1)=p+e:=by omega
  rw[e1]at q3;exact⟨by omega,by omega,by omega⟩
 ·rw[hi]at he;have q:=k2 he;simp only[k_]at q;omega
theorem adn(b:Nat):(match jD b [32,10,35] 0 with
  |some i=>(i:Int)
  |none=> -1)=if b=32 then 0 else if b=10 then 1 else if b=35 then 2 else-1:=by
 simp only[jD];by_cases h1:b=32
 ·subst h1;rfl
 by_cases h2:b=10
 ·subst h2;rfl
 by_cases h3:b=35
 ·subst h3;rfl
 have kA:=Ne.symm h1;have l9:=Ne.symm h2;have fw:=Ne.symm h3;simp[h1,h2,h3,kA,l9,fw]
theorem BV{C:iL}{f:FuncId}{p:Prim}{fst args cap:List AV}{m:Mem}{r:AV×Mem}(hp:C.gQ f=some p)(h:p ((fst++args++cap).map (exp m.ε.length (C.bf f))) m=some r):ab C (.fn (.func f) fst cap) args m=some r:=by apply sS;simp only[body,hp,h]
theorem f238(s:List Nat)(c:Nat)(h:c<256)(m:Mem):kf u 238 [.str s,.int .u8 c] m=some (.n (match jD c s 0 with
  |some i=>(i:Int)
  |none=> -1),m):=by
 refine BV (p:=xT) (by rfl) ?_;have h1:(0:Int)<=c/\(c:Int)<256:=by omega
 simp only[bE,dF,az,aJ,exp,xT,h1,and_self,if_true,Int.toNat_natCast];cases jD c s 0<;>rfl
theorem packed{gl:Nat->AV}{c:cx}{a:AC}{s:St}{I:St->Prop}(M:St->Prop)(h:∃s',exec gl c dN a s=some (.normal,s')/\M s')(k:∀s',M s'->I s'):∃s',exec gl c dN a s=some (.normal,s')/\I s':=
 h.imp fun s' h=>⟨h.1,k s' h.2⟩
theorem f202(s:List Nat)(hs:du s)(n:Nat)(hn:n<=s.length)(hl:s.length<4000000000)(m:Mem):
  kf u 202 [.str s,.n n] m=some (.n ((n+bY false (s.drop n):Nat):Int),m):=by
 refine dI (g:=GY) rfl rfl rfl ?_;simp only[az,aJ,exp,GY,Rj];generalize htg:n+bY false (s.drop n)=JP;let K:St->Prop:=fun st=>st.e 0= .str s/\st.mem= {ε:=m.ε,η:=[]};let I:Nat->St->Prop:=fun i st=>K st/\∃p:Nat,st.e 1= .n p/\i<=p/\p<=s.length/\p+bY false (s.drop p)=JP;refine Δ (I 0) ?_ fun s1 hI=>?_
 ·simp[I,K];exact⟨n,rfl,hn,htg⟩
 refine bJ (fun st=>K st/\st.e 1= .n JP) ?_ fun s2 ⟨⟨h1,h2⟩,h3⟩=>?_
 ·refine κ.block (κ.loop (I:=I) s.length hI fun i st hi Ω=>?_);obtain⟨⟨q1,q2⟩,p,q3,q4,q5,q6⟩:=Ω;have e:=fun(b:Nat) (hb:b<256)=>f238 (u:=u) [32,10,35] b hb;have pP:∀m,kf u 238 [.str (s.drop p),.int .u8 10] m=some (.n (match jD 10 (s.drop p) 0 with
    |some i=>(i:Int)
    |none=> -1),m):=f238 (u:=u) (s.drop p) 10 (by omega)
  have YQ:∀m,kf u 238 [.str [32,10,35],.int .u8 32] m=some (.n 0,m):=f238 (u:=u) [32,10,35] 32 (by omega);have YP:∀m,kf u 238 [.str [32,10,35],.int .u8 10] m=some (.n 1,m):=f238 (u:=u) [32,10,35] 10 (by omega);have Ql:∀m,kf u 238 [.str [32,10,35],.int .u8 35] m=some (.n 2,m):=f238 (u:=u) [32,10,35] 35 (by omega);rcases da p s.length with ψ|dD
  ·have hb:s[p]<256:=hs _ (c_ ψ);have eQ:(p:Int)<s.length:=by omega
   have e:=e s[p] hb;simp only[adn]at e;have hw:bC .i64 ((p:Int)+1)=(p:Int)+1:=wrap_i64 (by omega) (by omega);have kk:=fun Mq=>afK ψ Mq (by omega);by_cases c1:s[p]=32
   ·left;have hx:=IY ψ;simp only[c1,true_or,if_true]at hx;refine⟨by omega,?_⟩;refine packed (fun st=>K st/\st.e 1= .n ((p+1:Nat):Int)) ?_ fun s' h=>⟨h.1,p+1,h.2,by omega,by omega,by omega⟩;simp[K,zE,q1,q2,q3,ψ,c1,YQ,hw]
   by_cases c2:s[p]=10
   ·left;have hx:=IY ψ;simp only[c2,or_true,if_true]at hx;refine⟨by omega,?_⟩;refine packed (fun st=>K st/\st.e 1= .n ((p+1:Nat):Int)) ?_ fun s' h=>⟨h.1,p+1,h.2,by omega,by omega,by omega⟩;simp[K,zE,q1,q2,q3,ψ,c2,YP,hw]
   by_cases c3:s[p]=35
   ·left;obtain⟨k1,k2⟩:=kk c3;refine⟨by omega,?_⟩;have lQ:¬(s.length:Int)<p:=by omega
    cases aw:jD 10 (s.drop p) 0 with
    |none=>
     have k2:=k2 aw
     rw[aw]at pP;refine packed (fun st=>K st/\st.e 1= .n ((s.length:Nat):Int)) ?_ fun s' h=>⟨h.1,s.length,h.2,by omega,by omega,by simp[bY];omega⟩;simp[K,zE,q1,q2,q3,ψ,c3,Ql,pP,bound,q5,pH]
    |some x=>
     obtain⟨k1,k3,k4⟩:=k1 x aw
     rw[aw]at pP;have mf:bC .i64 ((p:Int)+x)=(p:Int)+x:=wrap_i64 (by omega) (by omega);refine packed (fun st=>K st/\st.e 1= .n ((p+x:Nat):Int)) ?_ fun s' h=>⟨h.1,p+x,h.2,by omega,by omega,by omega⟩;simp[K,zE,q1,q2,q3,ψ,c3,Ql,pP,mf,bound,q5,pH]
   ·right;have hx:=IY ψ;simp only[c1,c2,c3,or_self,if_false]at hx;simp only[c1,c2,c3,if_false]at e;have:JP=p:=by omega
    subst this;simp[zE,K,q1,q2,q3,ψ,e]
  ·right;have:p=s.length:=by omega
   subst this;have hz:bY false (s.drop s.length)=0:=by simp[bY]
   have:JP=s.length:=by omega
   subst this;simp[zE,K,q1,q2,q3]
 ·simp[h1,h2,h3]
theorem κ.kp{gl:Nat->AV}{c:cx}{a:AC}{I:Nat->St->Prop}{Q:Ex×St->Prop}(n:Nat){s:St}(h0:I 0 s)
  (step:∀i s,i<=n->I i s->κ gl c a s fun r=>(r.1= .normal/\i<n/\I (i+1) r.2)\/(r.1≠ .normal/\Q r)):κ gl c (.loop a) s Q:=by
 refine κ.loop n h0 fun i s hi hs=>?_;obtain⟨⟨e,s'⟩,h1,h2⟩:=step i s hi hs;rcases h2 with⟨rfl,h2,h3⟩|⟨h2,h3⟩
 ·exact .inl ⟨h2,s',h1,h3⟩
 ·exact .inr ⟨_,h1,h2,h3⟩
theorem κ.done{gl:Nat->AV}{c:cx}{a:AC}{s:St}{Q:Ex×St->Prop}(ex:Ex)(M:St->Prop)(h:∃s',exec gl c dN a s=some (ex,s')/\M s')(k:∀s',M s'->Q (ex,s')):κ gl c a s Q:=by obtain⟨s',h1,h2⟩:=h;exact⟨_,h1,k s' h2⟩
attribute [local simp] lG
theorem PE{f:Nat->Bool}{s:List Nat}{p:Nat}(h:p<s.length):runN f (s.drop p)=if f s[p]then runN f (s.drop (p+1))+1 else 0:=by rw[nk h];rfl
theorem ajj{f:Nat->Bool}{s:List Nat}:runN f (s.drop s.length)=0:=by simp[runN]
theorem Yc{s:List Nat}{a i:Nat}(h:a<=i):(s.take i).drop a=(s.drop a).take (i-a):=by rw[List.drop_take]
theorem aki{s:List Nat}{p:Nat}(h:p<s.length):gz p (s.drop p)=
  if isLet s[p]then⟨p,1,(s.drop p).take (runN isLet (s.drop p)),if 8<runN isLet (s.drop p)then p+8 else-1⟩
  else if ca s[p]then⟨p,2,(s.drop p).take (runN ca (s.drop p)),if 1<runN ca (s.drop p)/\s[p]=48 then p+1 else if 2<runN ca (s.drop p)then p+2 else-1⟩
  else if s[p]∈qn then⟨p,s[p],[s[p]],-1⟩
  else⟨p,0,[s[p]],p⟩:=by
 rw[nk h];rfl
end Go.Θ.Tz
namespace Go.Θ
mutual
def pf:AV->Bool
 | .int _ _=>true
 | .bool _=>true
 | .str _=>true
 | .list _ l=>kW l
 | .agg l=>kW l
 | .aQ l=>kW l
 |_=>false
def kW:List AV->Bool
 |[]=>true
 |v::l=>pf v&&kW l
end
mutual
def eB:AV->AV
 | .list c l=> .list (c.exp 0 false) (jJ l)
 | .agg l=> .agg (jJ l)
 | .aQ l=> .aQ (jJ l)
 |v=>v
def jJ:List AV->List AV
 |[]=>[]
 |v::l=>eB v::jJ l
end
theorem vi(c:ρ)(n:Nat)(k:Bool)(m:Nat):(c.exp n k).exp m false=c.exp 0 false:=by
 cases c with
 |own t=>by_cases h:(k&&decide (t<n))=true<;>simp[ρ.exp,h]
 |full=>cases k<;>rfl
 |_=>rfl
mutual
theorem BS(n:Nat)(k:Bool):∀v,pf v=true->pf (exp n k v)=true/\eB (exp n k v)=eB v/\ν v=v/\exp n false v=eB v
 | .int _ _,_=>⟨rfl,rfl,rfl,rfl⟩
 | .bool _,_=>⟨rfl,rfl,rfl,rfl⟩
 | .str _,_=>⟨rfl,rfl,rfl,rfl⟩
 | .list c l,h=>by obtain⟨h1,h2,h3,h4⟩:=zT n k l (by simpa only[pf]using h);have:=vi c 0 false n;refine⟨by simpa only[exp,pf]using h1,by simp only[exp,eB,h2,vi],by simp only[ν,h3],?_⟩;simp only[exp,eB,h4];congr 1
 | .agg l,h=>by obtain⟨h1,h2,h3,h4⟩:=zT n k l (by simpa only[pf]using h);exact⟨by simpa only[exp,pf]using h1,by simp only[exp,eB,h2],by simp only[ν,h3],by simp only[exp,eB,h4]⟩
 | .aQ l,h=>by obtain⟨h1,h2,h3,h4⟩:=zT n k l (by simpa only[pf]using h);exact⟨by simpa only[exp,pf]using h1,by simp only[exp,eB,h2],by simp only[ν,h3],by simp only[exp,eB,h4]⟩
 | .undef,h| .cY,h| .iW,h| .fX,h| .gy,h| .gZ,h=>by simp[pf]at h
 | .aj _ _ _,h| .μ _ _,h| .ref _,h| .sl _ _ _ _ _,h| .fn _ _ _,h| .iface _ _,h| .map _,h=>by simp[pf]at h
theorem zT(n:Nat)(k:Bool):∀l,kW l=true->kW (aX n k l)=true/\jJ (aX n k l)=jJ l/\cw l=l/\aX n false l=jJ l
 |[],_=>⟨rfl,rfl,rfl,rfl⟩
 |v::l,h=>by simp only[kW,ej]at h;obtain⟨h1,h2,h3,h4⟩:=BS n k v h.1;obtain⟨k1,k2,k3,k4⟩:=zT n k l h.2;exact⟨by simp only[aX,kW,h1,k1];rfl,by simp only[aX,jJ,h2,k2],by simp only[cw,h3,k3],by simp only[aX,jJ,h4,k4]⟩
end
mutual
theorem W7(n:Nat)(hp:Nat->Nat->AV)(hs:Nat->Nat->Nat->Nat->AV):∀v,pf v=true->fK n hp hs v=eB v
 | .int _ _,_=>rfl
 | .bool _,_=>rfl
 | .str _,_=>rfl
 | .list c l,h=>by simp only[fK,eB,Jl n hp hs l (by simpa only[pf]using h)];congr 1
 | .agg l,h=>by simp only[fK,eB,Jl n hp hs l (by simpa only[pf]using h)]
 | .aQ l,h=>by simp only[fK,eB,Jl n hp hs l (by simpa only[pf]using h)]
 | .undef,h| .cY,h| .iW,h| .fX,h| .gy,h| .gZ,h=>by simp[pf]at h
 | .aj _ _ _,h| .μ _ _,h| .ref _,h| .sl _ _ _ _ _,h| .fn _ _ _,h| .iface _ _,h| .map _,h=>by simp[pf]at h
theorem Jl(n:Nat)(hp:Nat->Nat->AV)(hs:Nat->Nat->Nat->Nat->AV):∀l,kW l=true->oT n hp hs l=jJ l
 |[],_=>rfl
 |v::l,h=>by simp only[kW,ej]at h;simp only[oT,jJ,W7 n hp hs v h.1,Jl n hp hs l h.2]
end
theorem ah0(bs:List θ)(n k:Nat){v:AV}(h:pf v=true):aO bs n k v=eB v:=by
 cases k with
 |zero=>exact(BS n false v h).2.2.2
 |succ k=>exact W7 n _ _ v h
theorem AR(l:List AV):jJ l=l.map eB:=by
 induction l with
 |nil=>rfl
 |cons a l ih=>simp[jJ,ih]
theorem Pf(l:List AV):kW l=l.all pf:=by
 induction l with
 |nil=>rfl
 |cons a l ih=>simp[kW,ih]
def Dv(v w:AV):Prop:=pf v=true/\eB v=w
theorem Dv.ν{v w:AV}(h:Dv v w):ν v=v:=(BS 0 false v h.1).2.2.1
theorem Dv.aO{v w:AV}(h:Dv v w)(bs:List θ)(n k:Nat):Θ.aO bs n k v=w:=by rw[ah0 bs n k h.1,h.2]
theorem Dv.str(s:List Nat):Dv (.str s) (.str s):=⟨rfl,rfl⟩
theorem Dv.int(k:IntKind)(n:Int):Dv (.int k n) (.int k n):=⟨rfl,rfl⟩
def Fx(v:AV):Prop:=Dv v v
theorem Fx.qE{v:AV}(h:Fx v)(n:Nat):Θ.exp n false v=v:=by rw[(BS n false v h.1).2.2.2,h.2]
def bN(l ws:List AV):Prop:=kW l=true/\jJ l=ws
theorem bN.nil:bN [] []:=⟨rfl,rfl⟩
theorem bN.cons{v w:AV}{l ws:List AV}(h:Dv v w)(k:bN l ws):bN (v::l) (w::ws):=⟨by simp only[kW,h.1,k.1];rfl,by simp only[jJ,h.2,k.2]⟩
theorem bN.append{l ws l' P7:List AV}(h:bN l ws)(k:bN l' P7):bN (l++l') (ws++P7):=by obtain⟨h1,rfl⟩:=h;obtain⟨k1,rfl⟩:=k;rw[Pf]at h1 k1;exact⟨by rw[Pf,List.all_append,h1,k1];rfl,by simp only[AR,List.map_append]⟩
theorem bN.len{l ws:List AV}(h:bN l ws):l.length=ws.length:=by rw[<-h.2,AR];simp
theorem Dv.list{l ws:List AV}(c:ρ)(h:bN l ws):Dv (.list c l) (.list (c.exp 0 false) ws):=⟨by simpa only[pf]using h.1,by simp only[eB,h.2]⟩
theorem Dv.agg{l ws:List AV}(h:bN l ws):Dv (.agg l) (.agg ws):=⟨by simpa only[pf]using h.1,by simp only[eB,h.2]⟩
theorem Dv.aQ{l ws:List AV}(h:bN l ws):Dv (.aQ l) (.aQ ws):=⟨by simpa only[pf]using h.1,by simp only[eB,h.2]⟩
theorem bN.of{α:Type}(f:α->AV)(l:List α)(h:∀x∈l,Fx (f x)):bN (l.map f) (l.map f):=by
 induction l with
 |nil=>exact .nil
 |cons a l ih=>exact .cons (h a (by simp)) (ih fun x hx=>h x (by simp[hx]))
mutual
theorem SA(n:Nat):∀v,pf v=true->lo n (eB v)=true
 | .int _ _,_=>rfl
 | .bool _,_=>rfl
 | .str _,_=>rfl
 | .list c l,h=>by
  have hc:(c.exp 0 false).lo n=true:=by cases c<;>rfl
  simp only[eB,lo,hc,CW n l (by simpa only[pf]using h),wD]
 | .agg l,h=>by simp only[eB,lo,CW n l (by simpa only[pf]using h)]
 | .aQ l,h=>by simp only[eB,lo,CW n l (by simpa only[pf]using h)]
 | .undef,h| .cY,h| .iW,h| .fX,h| .gy,h| .gZ,h=>by simp[pf]at h
 | .aj _ _ _,h| .μ _ _,h| .ref _,h| .sl _ _ _ _ _,h| .fn _ _ _,h| .iface _ _,h| .map _,h=>by simp[pf]at h
theorem CW(n:Nat):∀l,kW l=true->ba n (jJ l)=true
 |[],_=>rfl
 |v::l,h=>by simp only[kW,ej]at h;simp only[jJ,ba,SA n v h.1,CW n l h.2,wD]
end
theorem bN.ba{l ws:List AV}(h:bN l ws)(n:Nat):Θ.ba n ws=true:=by rw[<-h.2];exact CW n l h.1
theorem Dv.lo{v w:AV}(h:Dv v w)(n:Nat):Θ.lo n w=true:=by rw[<-h.2];exact SA n v h.1
theorem ajW(n:Nat)(T:List Nat):∀bs:List θ,(∀i∈T,bs.length<=i)->lV n T bs=bs:=by
 induction T with
 |nil=>intro bs _;rfl
 |cons i T ih=>
  intro bs h
  simp only[lV,h_ (h i (by simp))];exact ih bs fun j hj=>h j (by simp[hj])
theorem QG(m:Mem)(bs:List θ)(T:List Nat)(h:∀i∈T,m.ε.length<=i):m.back {ε:=m.ε++bs,η:=T}=m:=by
 have h1:(m.ε++bs).take m.ε.length=m.ε:=by simp
 have h2:(T.filter fun i=>match m.ε[i]? with
   |some b=>!b.clean i
   |none=>false)=[]:=by
  rw[alL];intro i hi;simp[h_ (h i hi)]
 cases m;simp only[Mem.back]at*;rw[h1,ajW _ _ _ h];simp only[Mem.mk.injEq,true_and];exact List.append_right_eq_self.2 h2
theorem K_{C:iL}{f:FuncId}{g:AF}{args:List AV}{m:Mem}{v:AV}(hp:C.gQ f=none)(hf:C.fs f=some g)(hk:C.bf f=false)
  (hx:κ C.gl (ab C) g.code {env:=args.map (exp m.ε.length false),loc:=[],mem:= {ε:=m.ε,η:=[]}} fun r=>
   (∀i,r.1≠ .exit i)/\(∃bs,r.2.mem.ε=m.ε++bs)/\(∀i∈r.2.mem.η,m.ε.length<=i)/\∃l,cK r.2 g.results=some l/\aO r.2.mem.ε m.ε.length 8 (cL l)=v):ab C (.fn (.func f) [] []) args m=some (v,m):=by
 obtain⟨⟨ex,s'⟩,h1,h2,⟨bs,h3⟩,h6,l,h4,h5⟩:=hx;rw[KZ hp hf hk h1 h2 h4];dsimp only at h3 h5 h6;have:s'.mem= {ε:=m.ε++bs,η:=s'.mem.η}:=by rw[<-h3]
 rw[h5,this,QG m bs _ h6]
end Go.Θ
namespace Go.Θ.Tz
open Go.Θ
variable{u:Nat}
attribute [local simp] exec dY dP eX aI dw fA eN aK fL bQ iu iE iM jd lG AV.cells newVar iX rd wr gT single dk cE e_ ew κ cK RV.get cL fT kz
def Am:List AV:=Cu 256 (.bool false)
def Ou:List KK:=Cu 256 .bool
noncomputable def Rw(z:List AV):AC:=(.seq (.ops [⟨(some 2),.alloc false z,none⟩]) (.seq (.ops [⟨(some 3),.alloc false z,none⟩]) (.seq (.seq (.ops [⟨(some 5),.mv (.t 0),none⟩,⟨(some 6),.tN (.t 5),none⟩]) (.block 0 (.loop OB))) (.seq (.ops [⟨(some 14),.ld true 256 (.t 3),none⟩,⟨none,.st 256 (.t 2) (.t 14),none⟩]) .ret))))
def Ru(ks:List KK):AC:=(.seq (.ops [⟨(some 2),.box false 256 (.t 0),none⟩,⟨(some 4),.mv (.c (.bool false)),none⟩]) (.seq (.draw [⟨(some 5),.ld true 256 (.t 2),none⟩,⟨(some 6),.mv (.t 1),none⟩,⟨(some 7),.conv (.int .i32) (.t 6),none⟩,⟨(some 8),.conv .char (.t 7),none⟩,⟨(some 9),.call (.c (.fn (.func 243) [] [])) [(.t 8)],none⟩,⟨(some 10),.eqs false ks (.t 5) (.t 9),none⟩,⟨(some 4),.mv (.t 10),none⟩] [(0,4)] []) .ret))
theorem Z3:Rv=Rw Am:=rfl
theorem Z2:Rt=Ru Ou:=rfl
def oF(f:Nat->Bool):List AV:=(List.range 256).map fun b=> .bool (f b)
theorem JL(f:Nat->Bool){b:Nat}(h:b<256):((oF f).drop b).take 1=[.bool (f b)]:=by
 have hl:b<(oF f).length:=by simpa[oF]using h
 rw[nk hl];simp[oF]
theorem Ya(f:Nat->Bool):(oF f).length=256:=by simp[oF]
def Iy(b:Nat):Bool:=decide (b∈qn)
def mr(b:Nat):List AV:=dk Am b [.bool true]
theorem akU:Am.length=256:=by simp[Am]
theorem WR{b:Nat}(h:b<256):(mr b).length=256:=by simp[mr,Am];omega
theorem Tj{b:Nat}(h:b<256):Fx (.agg (mr b)):=by
 have h1:∀v∈mr b,∃x,v= .bool x:=by
  intro v hv;simp only[mr,Am,dk,dT]at hv;rcases hv with(hv|hv)|hv
  ·exact⟨_,alM (qt hv)⟩
  ·exact⟨_,by simpa using hv⟩
  ·exact⟨_,alM (tW hv)⟩
 have h2:=bN.of id (mr b) fun v hv=>by obtain⟨x,rfl⟩:=h1 v hv;exact⟨rfl,rfl⟩
 rw[List.map_id]at h2;exact .agg h2
theorem f243(b:Nat)(h:b<128)(m:Mem):kf u 243 [.str [b]] m=some (.agg (mr b),m):=by
 refine dI (g:=Hc) rfl rfl rfl ?_;simp only[az,aJ,exp,Hc,Z3,Rw];have hz:=akU;generalize Oi:Am=z at*;let K:St->Prop:=fun st=>st.e 0= .str [b]/\st.e 2= .aj 2 0 0/\st.q 2=some (0,.cells z)/\st.e 3= .aj 3 0 0/\st.mem= {ε:=m.ε,η:=[]};refine Δ (fun st=>st.e 0= .str [b]/\st.e 2= .aj 2 0 0/\st.q 2=some (0,.cells z)/\st.q 3=none/\st.mem= {ε:=m.ε,η:=[]}) (by simp[bz]) fun s1 ⟨h0,h1,h2,h3,h4⟩=>?_;refine Δ (fun st=>K st/\st.q 3=some (0,.cells z)) (by simp[K,h0,h1,h2,h3,h4,bz]) fun s1 ⟨⟨h0,h1,h2,h3,h4⟩,h5⟩=>?_;refine bJ (fun st=>K st/\st.q 3=some (0,.cells (mr b))) ?_ fun s2 ⟨⟨h0,h1,h2,h3,h4⟩,h5⟩=>?_
 ·let I:Nat->St->Prop:=fun i st=>K st/\st.q 3=some (0,.cells (if i=0 then z else mr b))/\∃v,st.e 6= .aj 6 v 0/\st.q 6=some (v,.iter [b] i);refine Δ (I 0) (by simp[I,K,h0,h1,h2,h3,h4,h5]) fun s2 hI=>?_;refine κ.block (κ.kp (I:=I) 1 hI fun i st hi Ω=>?_);obtain⟨⟨h0,h1,h2,h3,h4⟩,h5,v,h6,h7⟩:=Ω;unfold OB;rcases da i 1 with ψ|dD
  ·have:i=0:=by omega
   subst this;have hd:=Sx (s:=[b]) (i:=0) (by simp) (by simpa using h);simp only[az,aJ,List.getElem_cons_zero]at hd;have hb:(b:Int)<256:=by omega
   have dz:b<256:=by omega
   have s9:b+1<=256:=by omega
   refine κ.done .normal (fun st=>I 1 st) (by simp[I,K,h0,h1,h2,h3,h4,h5,h6,h7,hd,hb,dz,s9,hz,mr,Oi]) fun s' h=> .inl ⟨rfl,by omega,h⟩
  ·have:i=1:=by omega
   subst this;refine κ.done (.exit 0) (fun st=>K st/\st.q 3=some (0,.cells (mr b))) (by simp[K,h0,h1,h2,h3,h4,h5,h6,h7]) fun s' h=> .inr ⟨by simp,.inl ⟨rfl,.inl ⟨rfl,h⟩⟩⟩
 ·have Vd:(mr b).length=256:=WR (by omega);have ht:(mr b).take 256=mr b:=fo (by omega);simp[h0,h1,h2,h3,h4,h5,Vd,hz,ht];exact(Tj (show b<256 by omega)).aO _ _ _
theorem f242(T:List AV)(hT:T.length=256)(r:Bool)(hr:jL Ou T (mr 48)=some r)(m:Mem)(hx:aX m.ε.length false T=T):kf u 242 [.agg T,.int .u8 48] m=some (.bool r,m):=by
 have q:=fun m=>f243 (u:=u) 48 (by omega) m;refine dI (g:=Hb) rfl rfl rfl ?_;simp only[az,aJ,exp,hx,Hb,Z2,Ru];have hw:bC .i32 48=48:=by decide
 have he:(Utf8.encode 48).data.toList.map UInt8.toNat=[48]:=by rfl
 have ht:T.take 256=T:=fo (by omega);simp[bz,hT,q,hr,hw,he,ht,cN,cQ,eK]
theorem agK:∀i,i<10->jL Ou (mr (48+i)) (mr 48)=some (decide (i=0)):=by decide
def nM(B:List θ)(s:List Nat)(p q:Nat):List θ:=B++[.cells [.str s],.cells [.n p],.cells [.n q]]
section
variable(B:List θ)(s:List Nat)(p q:Nat)
theorem ago:(nM B s p q).length=B.length+3:=by simp[nM]
theorem xP:(nM B s p q)[B.length]?=some (.cells [.str s]):=by simp[nM]
theorem sv:(nM B s p q)[B.length+1]?=some (.cells [.n p]):=by simp[nM]
theorem EE:(nM B s p q)[B.length+2]?=some (.cells [.n q]):=by simp[nM]
theorem agp(r:Nat):(nM B s p q).set (B.length+2) (.cells [.n r])=nM B s p r:=by simp[nM]
end
theorem f239(f:Nat->Bool)(B:List θ)(s:List Nat)(hs:du s)(p q:Nat)(hpq:p<=q)(hq:q<=s.length)(hl:s.length<4000000000)(T:List Nat):
  ab (C u) (.fn (.func 239) [] [.μ (B.length+2) 0,.μ B.length 0,.μ (B.length+1) 0]) [.agg (oF f)] {ε:=nM B s p q,η:=T}=some (.n ((q+runN f (s.drop q)-p:Nat):Int),{ε:=nM B s p (q+runN f (s.drop q)),η:=T}):=by
 have hle:=zZ f (s.drop q);simp only[k_]at hle;generalize hr:q+runN f (s.drop q)=r at*;have hT:=Ya f;refine VI (m':= {ε:=nM B s p r,η:=T}) (g:=Ha) rfl rfl rfl ?_ rfl;have DG:∀n,aX n true (oF f)=oF f:=fun n=>by rw[fe];simp[oF,exp]
 have eL:([AV.agg (oF f)]++[AV.μ (B.length+2) 0,.μ B.length 0,.μ (B.length+1) 0]).map (exp (nM B s p q).length true)=[AV.agg (oF f),.μ (B.length+2) 0,.μ B.length 0,.μ (B.length+1) 0]:=by simp[DG,exp,ago]
 rw[eL];simp only[Ha,Rr];let K:Nat->St->Prop:=fun q st=>st.e 1= .μ (B.length+2) 0/\st.e 2= .μ B.length 0/\st.e 3= .μ (B.length+1) 0/\st.e 4= .aj 4 0 0/\st.q 4=some (0,.cells (oF f))/\st.mem= {ε:=nM B s p q,η:=[]};refine Δ (K q) (by simp[K,bz,hT]) fun s1 hK=>?_;refine bJ (K r) ?_ fun s2 ⟨h1,h2,h3,h4,h5,h6⟩=>?_
 ·let I:Nat->St->Prop:=fun i st=>∃x:Nat,K x st/\q+i=x/\x<=s.length/\x+runN f (s.drop x)=r;have h0:I 0 s1:=⟨q,hK,rfl,hq,hr⟩;refine κ.block (κ.kp (I:=I) s.length h0 fun i st hi Ω=>?_);obtain⟨x,⟨h1,h2,h3,h4,h5,h6⟩,hx,Vw,Ix⟩:=Ω;unfold V5;rcases da x s.length with ψ|dD
  ·have hb:s[x]<256:=hs _ (c_ ψ);have dz:(s[x]:Int)<256:=by omega
   have s9:s[x]+1<=256:=by omega
   have hg:=JL f hb;have hw:bC .i64 ((x:Int)+1)=((x+1:Nat):Int):=by rw[wrap_i64 (by omega) (by omega)];omega
   rw[PE ψ]at Ix;cases hc:f s[x]with
   |false=>
    rw[hc]at hg
    simp only[hc,jV,if_false]at Ix;have:x=r:=by omega
    subst this;refine κ.done (.exit 0) (fun st=>K x st) (by simp[K,h1,h2,h3,h4,h5,h6,xP,sv,EE,ψ,hb,dz,s9,hT,hg]) fun s' h=> .inr ⟨by simp,.inl ⟨rfl,.inl ⟨rfl,h⟩⟩⟩
   |true=>
    rw[hc]at hg
    simp only[hc,if_true]at Ix;have kR:(nM B s p x).set (B.length+2) (.cells [.n ((x:Int)+1)])=nM B s p (x+1):=agp B s p x (x+1);refine κ.done .normal (fun st=>K (x+1) st) (by simp[K,h1,h2,h3,h4,h5,h6,xP,sv,EE,ψ,hb,dz,s9,hT,hg,hw,Mem.put,Mem.ν,ν,ba,lo,kR]) fun s' h=> .inl ⟨rfl,by omega,x+1,h,by omega,by omega,by omega⟩
  ·have:x=s.length:=by omega
   subst this;rw[ajj]at Ix;have:s.length=r:=by omega
   rw[this]at h6;refine κ.done (.exit 0) (fun st=>K r st) (by simp[K,h1,h2,h3,h4,h5,h6,xP,sv,EE,this]) fun s' h=> .inr ⟨by simp,.inl ⟨rfl,.inl ⟨rfl,h⟩⟩⟩
 ·have hw:bC .i64 ((r:Int)-p)=((r-p:Nat):Int):=by rw[wrap_i64 (by omega) (by omega)];omega
  simp[h1,h2,h3,h4,h5,h6,sv,EE,hw,exp]
def _root_.Go.Θ.Tok.bn(t:Tok):AV:= .agg [.n t.at_,.n t.kind,.str t.text,.n t.c8]
theorem F6{b:Nat}(h:ca b=true):48<=b/\b<=57:=by simpa[ca]using h
theorem f203(s:List Nat)(hs:du s)(p:Nat)(hp:p<s.length)(hl:s.length<4000000000)(m:Mem):
  kf u 203 [.str s,.n p] m=some ((gz p (s.drop p)).bn,m):=by
 refine dI (g:=GZ) rfl rfl rfl ?_;have oZ:=aki hp;have hb:s[p]<256:=hs _ (c_ hp);simp only[az,aJ,exp,GZ,c203];have Pt:∀m,kf u 240 [] m=some (.agg (oF isLet),m):=fun m=>BV (p:=uR E_) (by rfl) (by rfl);have EV:∀m,kf u 241 [] m=some (.agg (oF ca),m):=fun m=>BV (p:=uR E') (by rfl) (by rfl);have Xx:∀m,kf u 244 [] m=some (.agg (oF Iy),m):=fun m=>BV (p:=uR Fa) (by rfl) (by rfl);have sE:=fun f T=>f239 (u:=u) f m.ε s hs p (p+1) (by omega) (by omega) hl T;have hw:bC .i64 ((p:Int)+1)=((p+1:Nat):Int):=by rw[wrap_i64 (by omega) (by omega)];omega
 let K:Nat->St->Prop:=fun q st=>st.e 2= .μ m.ε.length 0/\st.e 3= .μ (m.ε.length+1) 0/\st.e 4= .aj 4 0 0/\st.q 4=some (0,.cells [.n 0,.n 0,.str [],.n 0])/\st.e 5= .aj 5 0 0/\st.e 6= .μ (m.ε.length+2) 0/\st.mem= {ε:=nM m.ε s p q,η:=[]};let T:Int->List Nat->Int->St->Prop:=fun k t w st=>st.q 5=some (0,.cells [.n p,.n k,.str t,.n w]);refine Δ (fun st=>st.e 2= .μ m.ε.length 0/\st.e 3= .μ (m.ε.length+1) 0/\st.e 4= .aj 4 0 0/\st.q 4=some (0,.cells [.n 0,.n 0,.str [],.n 0])/\st.q 5=none/\st.mem= {ε:=m.ε++[.cells [.str s],.cells [.n p]],η:=[]}) (by simp[bz,Mem.push,Mem.ν,ν]) fun s1 ⟨h1,h2,h3,h4,h5,h6⟩=>?_;refine Δ (fun st=>K (p+1) st/\T 0 [] (-1) st) (by simp[K,T,h1,h2,h3,h4,h5,h6,bz,dd,hw,Mem.push,Mem.put,Mem.ν,ν,ba,lo,cN,nY,cQ,eK,AV.gK,AV.beq,nM]) fun s1 ⟨⟨h1,h2,h3,h4,h5,h6,h7⟩,h8⟩=>?_;have UU:=zZ isLet (s.drop p);have Ny:=zZ ca (s.drop p);simp only[k_]at UU Ny;have dz:(s[p]:Int)<256:=by omega
 have s9:s[p]+1<=256:=by omega
 have g1:=JL isLet hb;have g2:=JL ca hb;have g3:=JL Iy hb;have hT:=fun f=>Ya f;generalize qW:gz p (s.drop p)=tk at oZ;refine Δ (fun st=>K (p+1) st/\T 0 [] (-1) st/\st.e 7= .fn (.func 239) [] [.μ (m.ε.length+2) 0,.μ m.ε.length 0,.μ (m.ε.length+1) 0]) (by simp[K,T,h1,h2,h3,h4,h5,h6,h7,h8]) fun s1 ⟨⟨h1,h2,h3,h4,h5,h6,h7⟩,h8,h9⟩=>?_;have BA:isLet s[p]=true->p+1+runN isLet (s.drop (p+1))=p+runN isLet (s.drop p):=fun h=>by rw[PE hp,h];simp;omega
 have D1:ca s[p]=true->p+1+runN ca (s.drop (p+1))=p+runN ca (s.drop p):=fun h=>by rw[PE hp,h];simp;omega
 have dh:∀n:Nat,p+n-p=n:=fun n=>by omega
 refine bJ (fun st=>K (p+tk.text.length) st/\T tk.kind [] tk.c8 st/\tk.at_=p/\tk.text=(s.drop p).take tk.text.length/\p+tk.text.length<=s.length) ?_ fun s2 ⟨⟨h1,h2,h3,h4,h5,h6,h7⟩,h8,h9,aw,bP⟩=>?_
 ·refine Δ (fun st=>(K (p+1) st/\T 0 [] (-1) st)/\st.e 7= .fn (.func 239) [] [.μ (m.ε.length+2) 0,.μ m.ε.length 0,.μ (m.ε.length+1) 0]/\st.e 8= .int .u8 s[p]) (by simp[K,T,h1,h2,h3,h4,h5,h6,h7,h8,h9,xP,sv,hp]) fun s1 ⟨⟨⟨h1,h2,h3,h4,h5,h6,h7⟩,h8⟩,h9,aw⟩=>?_;simp only[T]at h8;refine κ.block ?_;refine Δ (fun st=>((K (p+1) st/\T 0 [] (-1) st)/\st.e 7= .fn (.func 239) [] [.μ (m.ε.length+2) 0,.μ m.ε.length 0,.μ (m.ε.length+1) 0]/\st.e 8= .int .u8 s[p])/\st.e 21= .bool (isLet s[p])) (by simp[K,T,h1,h2,h3,h4,h5,h6,h7,h8,h9,aw,Pt,dz,s9,hT,g1]) fun s1 ⟨⟨⟨⟨h1,h2,h3,h4,h5,h6,h7⟩,h8⟩,h9,aw⟩,bP⟩=>?_;simp only[T]at h8;cases c1:isLet s[p]with
  |true=>
   have BA:=BA c1
   rw[c1]at oZ;simp only[if_true]at oZ;refine κ.yes (by simp[bP,c1]) ?_;have sE:=sE isLet [];rw[BA,dh]at sE;generalize hr:runN isLet (s.drop p)=r at*;have hlen:((s.drop p).take r).length=r:=by simp;omega
   have mf:bC .i64 ((p:Int)+8)=(p:Int)+8:=wrap_i64 (by omega) (by omega);subst oZ;by_cases TX:8<r
   ·have Mt:(8:Int)<r:=by omega
    refine κ.done .normal (fun st=>K (p+r) st/\T 1 [] ((p:Int)+8) st) (by simp[K,T,h1,h2,h3,h4,h5,h6,h7,h8,h9,aw,Pt,sE,Mt,sv,mf]) fun s' h=> .inr ⟨by simp,.inl ⟨rfl,?_⟩⟩;simp only[TX,if_true,hlen];exact⟨h.1,h.2,trivial,trivial,by omega⟩
   ·have Mt:¬(8:Int)<r:=by omega
    refine κ.done .normal (fun st=>K (p+r) st/\T 1 [] (-1) st) (by simp[K,T,h1,h2,h3,h4,h5,h6,h7,h8,h9,aw,Pt,sE,Mt,sv,mf]) fun s' h=> .inr ⟨by simp,.inl ⟨rfl,?_⟩⟩;simp only[TX,if_false,hlen];exact⟨h.1,h.2,trivial,trivial,by omega⟩
  |false=>
   refine κ.no (by simp[bP,c1]) ?_
   rw[c1]at oZ;simp only[jV,if_false]at oZ;refine Δ (fun st=>((K (p+1) st/\T 0 [] (-1) st)/\st.e 7= .fn (.func 239) [] [.μ (m.ε.length+2) 0,.μ m.ε.length 0,.μ (m.ε.length+1) 0]/\st.e 8= .int .u8 s[p])/\st.e 34= .bool (ca s[p])) (by simp[K,T,h1,h2,h3,h4,h5,h6,h7,h8,h9,aw,EV,dz,s9,hT,g2]) fun s1 ⟨⟨⟨⟨h1,h2,h3,h4,h5,h6,h7⟩,h8⟩,h9,aw⟩,bP⟩=>?_;simp only[T]at h8;cases c2:ca s[p]with
   |true=>
    have D1:=D1 c2
    rw[c2]at oZ;simp only[if_true]at oZ;refine κ.yes (by simp[bP,c2]) ?_;have sE:=sE ca [];rw[D1,dh]at sE;generalize hr:runN ca (s.drop p)=r at*;have hlen:((s.drop p).take r).length=r:=by simp;omega
    have hd:=F6 c2;have Pv:=fun m=>f243 (u:=u) s[p] (by omega) m;have Pu:∀m,kf u 242 [.agg (mr s[p]),.int .u8 48] m=some (.bool (decide (s[p]=48)),m):=fun m=>by
     refine f242 (u:=u) (mr s[p]) (WR hb) _ ?_ m ?_
     ·have:=agK (s[p]-48) (by omega);rw[show 48+(s[p]-48)=s[p] by omega]at this;rw[this];congr 1;simp only[decide_eq_decide];omega
     ·have:=(Tj hb).qE m.ε.length;simpa only[exp,AV.agg.injEq]using this
    have sd:(s.take (p+1)).drop p=[s[p]]:=by rw[Yc (by omega),show p+1-p=1 by omega,nk hp];rfl
    have sg:bC .i64 ((p:Int)+1)=(p:Int)+1:=wrap_i64 (by omega) (by omega);have mf:bC .i64 ((p:Int)+2)=(p:Int)+2:=wrap_i64 (by omega) (by omega);have dy:(p:Int)<=(p:Int)+1:=by omega
    have yR:(0:Int)<=(p:Int)+1:=by omega
    have Dr:(p:Int)+1<=s.length:=by omega
    subst oZ;have fin:∀st w,K (p+r) st/\T 2 [] w st->w=(if 1<r/\s[p]=48 then(p:Int)+1 else if 2<r then(p:Int)+2 else-1)->K (p+((s.drop p).take r).length) st/\T 2 [] (if 1<r/\s[p]=48 then(p:Int)+1 else if 2<r then(p:Int)+2 else-1) st/\p=p/\(s.drop p).take r=(s.drop p).take ((s.drop p).take r).length/\p+((s.drop p).take r).length<=s.length:=by intro st w h hw;rw[hlen,<-hw];exact⟨h.1,h.2,rfl,rfl,by omega⟩
    by_cases ha:1<r
    ·have Dn:(1:Int)<r:=by omega
     by_cases hz:s[p]=48
     ·refine κ.done .normal (fun st=>K (p+r) st/\T 2 [] ((p:Int)+1) st) (by simp[K,T,h1,h2,h3,h4,h5,h6,h7,h8,h9,aw,EV,sE,Pu,Pv,Dn,decide_eq_true hz,xP,sv,sg,bound,sd,dy,yR,Dr]) fun s' h=> .inr ⟨by simp,.inl ⟨rfl,fin _ _ h (by simp[ha,hz])⟩⟩
     ·by_cases hy:2<r
      ·have mh:(2:Int)<r:=by omega
       refine κ.done .normal (fun st=>K (p+r) st/\T 2 [] ((p:Int)+2) st) (by simp[K,T,h1,h2,h3,h4,h5,h6,h7,h8,h9,aw,EV,sE,Pu,Pv,Dn,mh,hz,xP,sv,sg,mf,bound,sd,dy,yR,Dr]) fun s' h=> .inr ⟨by simp,.inl ⟨rfl,fin _ _ h (by simp[hy,hz])⟩⟩
      ·have mh:¬(2:Int)<r:=by omega
       refine κ.done .normal (fun st=>K (p+r) st/\T 2 [] (-1) st) (by simp[K,T,h1,h2,h3,h4,h5,h6,h7,h8,h9,aw,EV,sE,Pu,Pv,Dn,mh,hz,xP,sv,sg,mf,bound,sd,dy,yR,Dr]) fun s' h=> .inr ⟨by simp,.inl ⟨rfl,fin _ _ h (by simp[hy,hz])⟩⟩
    ·have Dn:¬(1:Int)<r:=by omega
     have mh:¬(2:Int)<r:=by omega
     have hy:¬2<r:=by omega
     refine κ.done .normal (fun st=>K (p+r) st/\T 2 [] (-1) st) (by simp[K,T,h1,h2,h3,h4,h5,h6,h7,h8,h9,aw,EV,sE,Dn,mh]) fun s' h=> .inr ⟨by simp,.inl ⟨rfl,fin _ _ h (by simp[ha,hy])⟩⟩
   |false=>
    refine κ.no (by simp[bP,c2]) ?_
    rw[c2]at oZ;simp only[jV,if_false]at oZ;have qI:(s.drop p).take 1=[s[p]]:=by rw[nk hp];rfl
    have sg:bC .i64 (s[p]:Int)=(s[p]:Int):=wrap_i64 (by omega) (by omega);by_cases c3:s[p]∈qn
    ·rw[if_pos c3]at oZ;have Mc:Iy s[p]=true:=decide_eq_true c3;rw[Mc]at g3;subst oZ;refine κ.done .normal (fun st=>K (p+1) st/\T s[p] [] (-1) st) (by simp[K,T,h1,h2,h3,h4,h5,h6,h7,h8,h9,aw,Xx,dz,s9,hT,g3,sg]) fun s' h=> .inr ⟨by simp,.inl ⟨rfl,h.1,h.2,rfl,qI.symm,hp⟩⟩
    ·rw[if_neg c3]at oZ;have Mc:Iy s[p]=false:=decide_eq_false c3;rw[Mc]at g3;subst oZ;refine κ.done .normal (fun st=>K (p+1) st/\T 0 [] p st) (by simp[K,T,h1,h2,h3,h4,h5,h6,h7,h8,h9,aw,Xx,dz,s9,hT,g3,sv]) fun s' h=> .inr ⟨by simp,.inl ⟨rfl,h.1,h.2,rfl,qI.symm,hp⟩⟩
 ·simp only[T]at h8;have dy:(p:Int)<=(p:Int)+tk.text.length:=by omega
  have yR:(0:Int)<=(p:Int)+tk.text.length:=by omega
  have Dr:(p:Int)+tk.text.length<=s.length:=by omega
  have sd:(s.take (p+tk.text.length)).drop p=tk.text:=by rw[Yc (by omega),show p+tk.text.length-p=tk.text.length by omega];exact aw.symm
  have e1:((p:Int)+tk.text.length).toNat=p+tk.text.length:=by omega
  simp[h1,h2,h3,h4,h5,h6,h7,h8,xP,sv,EE,bound,dy,yR,Dr,e1,sd];refine⟨⟨_,rfl⟩,?_⟩;rw[Tok.bn,h9];rfl
def rest(s:List Nat)(n:Nat):List Tok:=oG (s.length+1) n (s.drop n)
theorem ai9(s:List Nat)(n:Nat)(hn:n<=s.length):rest s n=if n+bY false (s.drop n)<s.length then
  (if(gz (n+bY false (s.drop n)) (s.drop (n+bY false (s.drop n)))).kind=0 then[gz (n+bY false (s.drop n)) (s.drop (n+bY false (s.drop n)))]
   else gz (n+bY false (s.drop n)) (s.drop (n+bY false (s.drop n)))::rest s (n+bY false (s.drop n)+(gz (n+bY false (s.drop n)) (s.drop (n+bY false (s.drop n)))).text.length))else[]:=by
 have hle:=Wf false (s.drop n);simp only[k_]at hle
 conv=>lhs;rw[rest,oG]
 simp only[k_,oL];by_cases h:n+bY false (s.drop n)<s.length
 ·have h1:¬s.length-n<=bY false (s.drop n):=by omega
  rw[if_neg h1,if_pos h];split
  ·rfl
  ·congr 1;cases hr:s.drop (n+bY false (s.drop n))with
   |nil=>have:=congrArg lC hr;simp at this;omega
   |cons b r=>
    have hp:=Fb (n+bY false (s.drop n)) b r
    rw[<-hr]at hp;rw[<-hr];refine akm _ _ _ _ ?_ ?_<;>simp only[k_]<;>omega
 ·have h1:s.length-n<=bY false (s.drop n):=by omega
  rw[if_pos h1,if_neg h]
def ny{σ:Type}(f:σ->Tok->σ×Bool):List Tok->σ->σ
 |[],x=>x
 |t::l,x=>if(f x t).2 then ny f l (f x t).1 else(f x t).1
theorem f201{σ:Type}{I D:σ->List θ->Prop}{f:σ->Tok->σ×Bool}{N l:Nat}(s:List Nat)(hs:du s)(hl:s.length<4000000000)
  (hI:∀x bs,I x bs->l<bs.length)
  {cnt:σ->Nat} (jm:∀x t,cnt (f x t).1<=cnt x+1)
  (hy:∀x bs T t,I x bs->cnt x<s.length->∃kx T',ab (C u) (.fn (.yield l) [] []) [t.bn] {ε:=bs,η:=T}=some (.bool (f x t).2,{ε:=kx,η:=T'})/\(if(f x t).2 then I (f x t).1 kx else D (f x t).1 kx)/\∀i∈T',i∈T\/N<=i)
  (x:σ) (bs:List θ) (T:List Nat) (hx:I x bs) (Bn:cnt x=0):
  ∃kx T',ab (C u) (.fn (.func 201) [] [.ref [.str s]]) [.fn (.yield l) [] []] {ε:=bs,η:=T}=some (.aQ [],{ε:=kx,η:=T'})/\(I (ny f (cj s) x) kx\/D (ny f (cj s) x) kx)/\∀i∈T',i∈T\/N<=i:=by
 generalize hG:ny f (cj s) x=G;have dZ:κ (C u).gl (ab (C u)) Db.code {env:=([AV.fn (.yield l) [] []]++[AV.ref [.str s]]).map (exp bs.length true),loc:=[],mem:= {ε:=bs,η:=[]}} fun r=>
   (∀i,r.1≠ .exit i)/\(I G r.2.mem.ε\/D G r.2.mem.ε)/\∀i∈r.2.mem.η,N<=i:=by
  have qP:=hI _ _ hx;have eL:([AV.fn (.yield l) [] []]++[AV.ref [.str s]]).map (exp bs.length true)=[AV.fn (.yield l) [] [],AV.ref [.str s]]:=by simp[exp,aX,Fn.below,qP]
  rw[eL];simp only[Db,c201];have EU:=fun n hn m=>f202 (u:=u) s hs n hn hl m;have Ju:=fun p hp m=>f203 (u:=u) s hs p hp hl m;let K:St->Prop:=fun st=>st.e 0= .fn (.yield l) [] []/\st.e 1= .ref [.str s]/\∀i∈st.mem.η,N<=i;let J:Nat->St->Prop:=fun i st=>K st/\∃n y,I y st.mem.ε/\n<=s.length/\(i<=n+bY false (s.drop n)/\cnt y<=n+bY false (s.drop n))/\ny f (rest s n) y=G/\st.e 3= .n ((n+bY false (s.drop n):Nat):Int);have q0:∀m,kf u 202 [.str s,.n 0] m=some (.n (bY false s:Nat),m):=fun m=>by have:=EU 0 (tY _) m;rw[List.drop_zero,Nat.zero_add]at this;exact this
  refine Δ (J 0) (by
   simp[J,K,q0]
   exact⟨0,x,hx,tY _,by omega,hG,by simp⟩) fun s1 hJ=>?_
  refine κ.block (κ.kp (I:=J) s.length hJ fun i st hi Ω=>?_);obtain⟨⟨h1,h2,h3⟩,n,y,h4,h5,⟨h6,h66⟩,h7,h8⟩:=Ω;rw[ai9 s n h5]at h7;have hle:=Wf false (s.drop n);simp only[k_]at hle;generalize hp:n+bY false (s.drop n)=p at*;generalize rS:st.mem.ε=bb at h4;generalize mV:st.mem.η=tt at h3;have hm:st.mem= {ε:=bb,η:=tt}:=by rw[<-rS,<-mV]
  unfold V2;rcases da p s.length with ψ|dD
  ·rw[if_pos ψ]at h7;have Ju:=Ju p ψ;have eQ:(p:Int)<s.length:=by omega
   have hlen:=Yg p (s.drop p);have jQ:0<(gz p (s.drop p)).text.length:=by rw[nk ψ];exact Fb _ _ _
   simp only[k_]at hlen;generalize gz p (s.drop p)=tk at*;obtain⟨CD,T',e,sZ,hT'⟩:=hy y bb tt tk h4 (by omega);have jm:=jm y tk;obtain⟨a,k,tx,w⟩:=tk;simp only[Tok.bn]at e Ju;dsimp only at h7 hlen jQ sZ e jm;have MF:∀i∈T',N<=i:=fun i hi=>(hT' i hi).elim (h3 i) id;refine Δ (fun st=>st.e 0= .fn (.yield l) [] []/\st.e 1= .ref [.str s]/\st.e 3= .n p/\st.mem= {ε:=bb,η:=tt}) (by simp[h1,h2,h8,hm,eQ]) fun s1 ⟨h1,h2,h3,h8⟩=>?_;refine κ.block ?_;refine Δ (fun st=>st.e 0= .fn (.yield l) [] []/\st.e 1= .ref [.str s]/\st.e 3= .n p/\st.mem= {ε:=bb,η:=tt}/\st.e 4= .aj 4 (bz (bQ s1.loc) 4) 0/\st.q 4=some (bz (bQ s1.loc) 4,.cells [.n a,.n k,.str tx,.n w])) (by simp[h1,h2,h3,h8,Ju]) fun s2 ⟨h1,h2,h3,h8,h9,aw⟩=>?_;generalize bz (bQ s1.loc) 4=vv at*;refine bJ (fun st=>st.e 0= .fn (.yield l) [] []/\st.e 1= .ref [.str s]/\st.e 3= .n p/\st.mem= {ε:=CD,η:=T'}/\st.e 4= .aj 4 vv 0/\st.q 4=some (vv,.cells [.n a,.n k,.str tx,.n w])/\k≠0/\(f y ⟨a,k,tx,w⟩).2=true) ?_ fun s3 ⟨h1,h2,h3,h8,h9,aw,bP,bZ⟩=>?_
   ·cases hc:(f y ⟨a,k,tx,w⟩).2 with
    |false=>
     rw[hc]at e
     refine κ.done .ret (fun st=>st.mem= {ε:=CD,η:=T'}) (by simp[h1,h2,h3,h8,h9,aw,e]) fun s' h=> .inr ⟨by simp,.inr ⟨by simp,.inr ⟨by simp,.inr ⟨by simp,by simp,?_⟩⟩⟩⟩;rw[h];refine⟨?_,MF⟩;have:(f y ⟨a,k,tx,w⟩).1=G:=by split at h7<;>simpa[ny,hc]using h7
     rw[hc]at sZ;rw[<-this];exact .inr sZ
    |true=>
     rw[hc]at e
     by_cases hk:k=0
     ·have df:((k:Int)==0)=true:=beq_iff_eq.2 (by omega);refine κ.done .ret (fun st=>st.mem= {ε:=CD,η:=T'}) (by simp[h1,h2,h3,h8,h9,aw,e,df]) fun s' h=> .inr ⟨by simp,.inr ⟨by simp,.inr ⟨by simp,.inr ⟨by simp,by simp,?_⟩⟩⟩⟩;simp only[hk,if_true,ny]at h7;rw[h];refine⟨?_,MF⟩;have:(f y ⟨a,k,tx,w⟩).1=G:=by simpa[hk,hc]using h7
      rw[hc,if_pos rfl]at sZ;rw[<-this];exact .inl sZ
     ·have df:((k:Int)==0)=false:=beq_eq_false_iff_ne.2 (by omega);refine κ.done .normal (fun st=>st.e 0= .fn (.yield l) [] []/\st.e 1= .ref [.str s]/\st.e 3= .n p/\st.mem= {ε:=CD,η:=T'}/\st.e 4= .aj 4 vv 0/\st.q 4=some (vv,.cells [.n a,.n k,.str tx,.n w])) (by simp[h1,h2,h3,h8,h9,aw,e,df,hk]) fun s' h=> .inl ⟨rfl,?_⟩;exact⟨h.1,h.2.1,h.2.2.1,h.2.2.2.1,h.2.2.2.2.1,h.2.2.2.2.2,hk,rfl⟩
   ·have hw:bC .i64 ((p:Int)+tx.length)=(p:Int)+tx.length:=wrap_i64 (by omega) (by omega);have EU:=EU (p+tx.length) (by omega);simp only[Int.natCast_add]at EU;rw[if_neg bP]at h7;refine κ.done .normal (fun st=>st.e 0= .fn (.yield l) [] []/\st.e 1= .ref [.str s]/\st.e 3= .n ((p+tx.length+bY false (s.drop (p+tx.length)):Nat):Int)/\st.mem= {ε:=CD,η:=T'}) (by simp[h1,h2,h3,h8,h9,aw,hw,EU]) fun s' ⟨h1,h2,h3,h8⟩=> .inr ⟨by simp,?_⟩;refine .inl ⟨rfl,by omega,⟨h1,h2,by rw[h8];exact MF⟩,p+tx.length,_,by rw[bZ,if_pos rfl]at sZ;rw[h8];exact sZ,by omega,by omega,?_,h3⟩;simpa[ny,bZ]using h7
  ·rw[if_neg (by omega)]at h7;have za:¬(p:Int)<s.length:=by omega
   refine κ.done (.exit 0) (fun st=>st.mem= {ε:=bb,η:=tt}) (by simp[h1,h2,h8,hm,za]) fun s' h=> .inr ⟨by simp,?_⟩;refine .inl ⟨rfl,by simp,?_⟩;rw[h];refine⟨?_,h3⟩;simp only[ny]at h7;rw[<-h7];exact .inl h4
 obtain⟨⟨ex,s'⟩,h1,h2,h3,h4⟩:=dZ;refine⟨s'.mem.ε,T++s'.mem.η,?_,h3,fun i hi=>(dT.1 hi).imp id (h4 i)⟩;have:=sP (C:=C u) (f:=201) (g:=Db) (args:=[.fn (.yield l) [] []]) (cap:=[.ref [.str s]]) (m:= {ε:=bs,η:=T}) (l:=[]) rfl rfl rfl h1 h2 (by rfl);exact this
theorem f130(s:List Nat)(m:Mem):kf u 130 [.str s] m=some (.fn (.func 201) [] [.ref [.str s]],m):=by refine dI (g:=Gz) rfl rfl rfl ?_;simp[Gz,c130,exp,Mem.push,Mem.ν,ν,aO,fK,oT,Fn.below]
theorem EC{α:Type}{l:List α}{i:Nat}{x:α}(h:l[i]?=some x):i<l.length:=by
 rcases da i l.length with hl|hl
 ·exact hl
 ·rw[h_ hl]at h;cases h
theorem Row.push{n:Nat}{bs:List θ}{sz:Nat}{e:TypeId}{c:ρ}{len:Nat}(h:Row n bs sz e c len)(x:List θ):Row n (bs++x) sz e c len:=by
 rcases h with h|⟨t,h1,h2,h3⟩
 ·exact .inl h
 ·refine .inr ⟨t,h1,h2,?_⟩;rw[ek (EC h3)];exact h3
theorem Row.swap{n:Nat}{P P' x:List θ}{sz:Nat}{e:TypeId}{c:ρ}{len:Nat}(h:Row n (P++x) sz e c len)(h1:P.length=P'.length)(h2:P.length<=n):Row n (P'++x) sz e c len:=by
 rcases h with h|⟨t,k1,k2,k3⟩
 ·exact .inl h
 ·refine .inr ⟨t,k1,k2,?_⟩;rw[tV (by omega)]at k3⊢;rw[<-h1];exact k3
theorem YC{C:iL}{l:Nat}{args:List AV}{mem:Mem}{env:List AV}{ps:List Nat}{fQ bd:AC}{nP:LS}{M:St->Prop}{Q:AV->Mem->Prop}(hm:mem.ε[l]?=some (.loop env ps fQ bd nP))(hl:ps.length=args.length)
  (h1:κ C.gl (ab C) fQ {env:=uX env ps (args.map (exp mem.ε.length false)),loc:=[],mem:=mem} fun r=>r.1= .normal/\r.2.mem.ls l=some .ready/\M r.2)
  (h2:∀s,M s->κ C.gl (ab C) bd {s with mem:=s.mem.i_ l .busy} fun r=>r.2.mem.ls l=some .busy/\match r.1 with
   | .normal=>Q (.bool true) (r.2.mem.i_ l .ready)
   | .ret=>Q (.bool false) (r.2.mem.i_ l (.done none))
   | .exit i=>Q (.bool false) (r.2.mem.i_ l (.done (some i)))):∃v m',ab C (.fn (.yield l) [] []) args mem=some (v,m')/\Q v m':=by
 obtain⟨⟨e1,s1⟩,k1,rfl,k3,k4⟩:=h1;obtain⟨⟨e2,s2⟩,k5,k6,k7⟩:=h2 s1 k4;dsimp only at k3 k6 k7;cases e2 with
 |normal=>exact⟨_,_,by apply sS;simp only[body,round,hm,hl,if_true,k1,k3,k5,k6],k7⟩
 |ret=>exact⟨_,_,by apply sS;simp only[body,round,hm,hl,if_true,k1,k3,k5,k6],k7⟩
 |exit i=>exact⟨_,_,by apply sS;simp only[body,round,hm,hl,if_true,k1,k3,k5,k6],k7⟩
theorem Di(l:List AV)(i:Nat):aK (l.map ν) i=ν (aK l i):=by
 induction l generalizing i with
 |nil=>simp[aK,ν]
 |cons a l ih=>cases i with
  |zero=>rfl
  |succ i=>simp only[az,aK,ih]
def tZ:AC:= .ops [⟨(some 5),.alloc true [(.n 0),(.n 0),(.str []),(.n 0)],none⟩,⟨none,.st 4 (.t 5) (.t 7),none⟩]
def ua:AC:= .block 1 (.ops [⟨(some 8),.ld false 1 (.t 2),none⟩,⟨(some 9),.ld true 4 (.t 5),none⟩,⟨(some 10),.yB true 4 [(.t 9)],none⟩,⟨(some 11),.app true 4 40 194 (.t 8) (.t 10),none⟩,⟨none,.st 1 (.t 2) (.t 11),none⟩])
def aM(B:List θ)(env:List AV)(c:ρ)(l:List Tok)(st:LS):List θ:=B++[.cells [.list c (l.map Tok.bn)],.loop env [7] tZ ua st]
theorem vd(B:List θ)(env:List AV)(c:ρ)(l:List Tok)(st:LS):(aM B env c l st).length=B.length+2:=by simp[aM]
theorem Tok.S8(n:Nat)(k:Bool)(t:Tok):exp n k t.bn=t.bn:=by simp[Tok.bn,exp,aX]
theorem Tok.Tl(t:Tok):Fx t.bn:=⟨rfl,rfl⟩
theorem ahZ(l:List Tok):(l.map Tok.bn).all (shaped true 4)=true:=by simp[nj,Tok.bn,shaped,Function.comp]
theorem akS(B:List θ)(env:List AV)(h2:aK env 2= .μ B.length 0)(c:ρ)(l:List Tok)(ext:List θ)(hr:Row (B.length+2) (aM B env c l .ready++ext) 4 194 c l.length)(hl:l.length<1000000000)(t:Tok)(T:List Nat):
  ∃c' ext' T',ab (C u) (.fn (.yield (B.length+1)) [] []) [t.bn] {ε:=aM B env c l .ready++ext,η:=T}=some (.bool true,{ε:=aM B env c' (l++[t]) .ready++ext',η:=T'})∧
   Row (B.length+2) (aM B env c' (l++[t]) .ready++ext') 4 194 c' (l.length+1)/\∀i∈T',i∈T\/B.length<=i:=by
 have hy:=YC (C:=C u) (l:=B.length+1) (args:=[t.bn]) (mem:= {ε:=aM B env c l .ready++ext,η:=T}) (env:=env) (ps:=[7]) (fQ:=tZ) (bd:=ua) (nP:= .ready)
  (M:=fun s=>s.e 2= .μ B.length 0/\s.e 5= .μ (B.length+2+ext.length) 0/\s.mem= {ε:=aM B env c l .ready++(ext++[.cells [.n t.at_,.n t.kind,.str t.text,.n t.c8]]),η:=T})
  (Q:=fun v m=>v= .bool true/\∃c' ext' T',m= {ε:=aM B env c' (l++[t]) .ready++ext',η:=T'}/\Row (B.length+2) (aM B env c' (l++[t]) .ready++ext') 4 194 c' (l.length+1)/\∀i∈T',i∈T\/B.length<=i)
  (by simp[aM]) rfl (by
   have hg:(aM B env c l .ready++ext)[B.length+1]?=some (.loop env [7] tZ ua .ready):=by simp[aM]
   have hX:(aM B env c l .ready++ext).length=B.length+2+ext.length:=by simp[vd]
   rw[<-bO];generalize aM B env c l .ready++ext=X at*;have g1:∀z,(X++[z])[B.length+2+ext.length]?=some z:=fun z=>by rw[<-hX];simp
   have g2:∀z w,(X++[z]).set (B.length+2+ext.length) w=X++[w]:=fun z w=>by rw[<-hX];simp
   have g3:∀z,(X++[z])[B.length+1]?=some (.loop env [7] tZ ua .ready):=fun z=>by rw[ek (EC hg)];exact hg
   simp[tZ,uX,Tok.bn,exp,aX,h2,hX,Mem.push,g1,g2,g3,Mem.put,Mem.ν,ν,ba,lo,Mem.ls]) ?_
 ·obtain⟨v,m',e,rfl,c',ext',T',rfl,k1,k2⟩:=hy;exact⟨c',ext',T',e,k1,k2⟩
 ·intro s ⟨k1,k2,k3⟩;have kR:Mem.i_ {ε:=aM B env c l .ready++(ext++[.cells [.n t.at_,.n t.kind,.str t.text,.n t.c8]]),η:=T} (B.length+1) .busy= {ε:=aM B env c l .busy++(ext++[.cells [.n t.at_,.n t.kind,.str t.text,.n t.c8]]),η:=T}:=by simp[Mem.i_,aM]
  have iT:Row (aM B env c l .busy).length (aM B env c l .busy++(ext++[.cells [.n t.at_,.n t.kind,.str t.text,.n t.c8]])) 4 194 c (l.map Tok.bn).length:=by rw[vd,<-bO,cg];exact Row.push (Row.swap hr (by simp[vd]) (by simp[vd])) _
  obtain⟨c',ext',dB,gH,-⟩:=uW (bytes:=40) iT (ahZ l) (show shaped true 4 t.bn=true by rfl) (show ν t.bn=t.bn by rfl) (by omega) (by simp;omega) (by simp;omega);rw[vd,cg]at gH;simp only[k3,kR];have g1:∀x,(aM B env c l .busy++x)[B.length]?=some (.cells [.list c (l.map Tok.bn)]):=fun x=>by simp[aM]
  have g2:(aM B env c l .busy++(ext++[.cells [.n t.at_,.n t.kind,.str t.text,.n t.c8]]))[B.length+2+ext.length]?=some (.cells [.n t.at_,.n t.kind,.str t.text,.n t.c8]):=by
   have:B.length+2+ext.length=(aM B env c l .busy++ext).length:=by simp[vd]
   rw[this,<-bO];simp
  have g3:∀x,(aM B env c l .busy++x).set B.length (.cells [.list c' (l.map Tok.bn++[t.bn])])=aM B env c' (l++[t]) .busy++x:=fun x=>by simp[aM]
  have g4:∀x st,Mem.i_ {ε:=aM B env c' (l++[t]) .busy++x,η:=st} (B.length+1) .ready= {ε:=aM B env c' (l++[t]) .ready++x,η:=st}:=fun x st=>by simp[Mem.i_,aM]
  have g5:∀x st,Mem.ls {ε:=aM B env c' (l++[t]) .busy++x,η:=st} (B.length+1)=some .busy:=fun x st=>by simp[Mem.ls,aM]
  have g6:cw (l.map Tok.bn++[t.bn])=l.map Tok.bn++[t.bn]:=by simp[fH,Function.comp,Tok.bn,ν,cw]
  have dX:shaped true 4 (.agg [.n t.at_,.n t.kind,.str t.text,.n t.c8])=true:=rfl;simp only[Tok.bn]at dB g3 g6;refine κ.done .normal (fun s=>∃T',s.mem= {ε:=aM B env c' (l++[t]) .busy++ext',η:=T'}/\∀i∈T',i∈T\/B.length<=i) (by
   simp[ua,k1,k2,g1,g2,dX,Mem.ν,ν,cw,Tok.bn,dB,Mem.put]
   simp only[g6,g3];refine⟨_,⟨trivial,rfl⟩,fun i hi=>?_⟩;split at hi
   ·exact .inl hi
   ·exact(cy.1 hi).elim (fun h=> .inr (by omega)) .inl) fun s' h=>?_
  obtain⟨T',h1,h2⟩:=h;refine⟨by rw[h1];exact g5 _ _,by trivial,c',ext',T',by rw[h1,g4],Row.swap gH (by simp[vd]) (by simp[vd]),h2⟩
theorem abT{σ:Type}(g:σ->Tok->σ)(l:List Tok)(x:σ):ny (fun x t=>(g x t,true)) l x=l.foldl g x:=by
 induction l generalizing x with
 |nil=>rfl
 |cons a l ih=>simp[ny,ih]
theorem abv(l x:List Tok):l.foldl (fun l t=>l++[t]) x=x++l:=by
 induction l generalizing x with
 |nil=>simp
 |cons a l ih=>simp[ih]
theorem Yl(s:List Nat):(cj s).length<=s.length:=by
 have:∀k n (l:List Nat),(oG k n l).length<=l.length:=by
  intro k;induction k with
  |zero=>intro n l;simp[oG]
  |succ k ih=>
   intro n l
   simp only[oG];split
   ·simp
   ·rename_i h;split
    ·simp;omega
    ·have:=ih (n+bY false l+(gz (n+bY false l) (l.drop (bY false l))).text.length) ((l.drop (bY false l)).drop (gz (n+bY false l) (l.drop (bY false l))).text.length);cases hr:l.drop (bY false l)with
     |nil=>have:=congrArg lC hr;simp at this;omega
     |cons b r=>
      have hp:=Fb (n+bY false l) b r
      rw[hr]at this;simp only[cD,k_]at this⊢;have:=congrArg lC hr;simp at this;omega
 exact this _ _ _
theorem abe(c:ρ)(n:Nat):(c.exp n true).exp n true=c.exp n true:=by
 cases c with
 |own t=>by_cases h:t<n<;>simp[ρ.exp,h]
 |_=>rfl
theorem ajY(X:List θ)(L:List AV)(hL:aX (X.length+1) true L=L)(T:List Nat):∀c,(∀i∈T,X.length<=i)→
  lV (X.length+1) T (X++[.cells [.list c L]])=X++[.cells [.list (if X.length∈T then c.exp (X.length+1) true else c) L]]:=by
 induction T with
 |nil=>intro c _;simp[lV]
 |cons i T ih=>
  intro c h
  simp only[lV];by_cases hi:i=X.length
  ·subst hi;simp only[tV (bS _),Nat.sub_self,Cr,θ.B9,az,aJ,exp,hL,List.set_append_right _ _ (bS _),List.set_cons_zero];rw[ih _ fun j hj=>h j (by simp[hj])];by_cases hm:X.length∈T<;>simp[hm,abe]
  ·have h1:(X++[θ.cells [.list c L]])[i]?=none:=h_ (by have:=h i (by simp);simp;omega);rw[h1];rw[ih _ fun j hj=>h j (by simp[hj])];simp[Ne.symm hi]
theorem Ky(X:List θ)(L:List AV)(hL:aX (X.length+1) true L=L)(jN:ba X.length L=true)(T:List Nat)(c:ρ)(hT:∀i∈T,X.length<=i)(bs Y:List θ)(h1:Y.length=X.length+1):
  ∃c2,Mem.back {ε:=Y,η:=[]} {ε:=X++[.cells [.list c L]]++bs,η:=T}= {ε:=X++[.cells [.list c2 L]],η:=[]}/\c2.exp 0 false=c.exp 0 false:=by
 refine⟨if X.length∈T then c.exp (X.length+1) true else c,?_,by split<;>simp[vi]⟩;have h2:(X++[θ.cells [.list c L]]++bs).take (X.length+1)=X++[θ.cells [.list c L]]:=by rw[List.take_append_of_le_length (by simp)];exact fo (by simp)
 simp only[Mem.back,h1,h2,ajY X L hL T c hT,bE,Mem.mk.injEq,true_and];rw[alL];intro i hi;by_cases he:i=X.length
 ·subst he;simp only[tV (bS _),Nat.sub_self,Cr,hi,if_true,θ.clean,ba,lo,jN];cases c with
  |own t=>
   by_cases ht:t<X.length+1
   ·simp[ρ.exp,ht,ρ.lo];omega
   ·simp[ρ.exp,ht,ρ.lo]
  |_=>simp[ρ.exp,ρ.lo]
 ·have h1:∀w:θ,(X++[w])[i]?=none:=fun w=>h_ (by have:=hT i hi;simp;omega);simp[h1]
theorem f225(s:List Nat)(hs:du s)(hl:s.length<1000000000)(m:Mem):kf u 225 [.list .nil [],.fn (.func 201) [] [.ref [.str s]]] m=some (.list (if cj s=[]then .nil else .any) ((cj s).map Tok.bn),m):=by
 have Xw:=fun(env:List AV) (h2:aK env 2= .μ m.ε.length 0)=>f201 (u:=u) (σ:=List Tok) (I:=fun l bs=>∃c ext,bs=aM m.ε env c l .ready++ext/\Row (m.ε.length+2) bs 4 194 c l.length/\(l=[]->c= .nil)) (D:=fun _ _=>False) (f:=fun l t=>(l++[t],true)) (N:=m.ε.length) (l:=m.ε.length+1)
  s hs (by omega) (fun l bs ⟨c,ext,h,_⟩=>by rw[h,cI,vd];omega) (cnt:=lC) (fun l t=>by simp)
  (fun l bs T t ⟨c,ext,h,hr,hn⟩ hc=>by
   subst h
   obtain⟨c',ext',T',k1,k2,k3⟩:=akS (u:=u) m.ε env h2 c l ext hr (by omega) t T;exact⟨_,T',k1,by rw[if_pos rfl];exact⟨c',ext',rfl,by simpa using k2,fun h=>by simp at h⟩,k3⟩) [] (aM m.ε env .nil [] .ready) [] ⟨.nil,[],by simp,Row.nil,fun _=>rfl⟩ rfl
 rw[abT,abv,bE]at Xw;refine dI (g:=G6) rfl rfl rfl ?_;have eL:[AV.list .nil [],AV.fn (.func 201) [] [.ref [.str s]]].map (exp m.ε.length false)=[AV.list .nil [],AV.fn (.func 201) [] [.ref [.str s]]]:=by simp[exp,aX,Fn.below,ρ.exp]
 rw[eL];simp only[G6,Ro];refine Δ (fun st=>st.e 1= .fn (.func 201) [] [.ref [.str s]]/\st.e 2= .μ m.ε.length 0/\st.mem= {ε:=m.ε++[.cells [.list .nil []]],η:=[]}) (by simp[Mem.push,Mem.ν,ν,cw]) fun s1 ⟨h1,h2,h3⟩=>?_;have qM:∀n k,aX n k ((cj s).map Tok.bn)=(cj s).map Tok.bn:=fun n k=>by rw[fe,cT];exact de fun t _=>Tok.S8 n k t
 refine bJ (fun st=>st.e 2= .μ m.ε.length 0/\∃c,st.mem= {ε:=m.ε++[.cells [.list c ((cj s).map Tok.bn)]],η:=[]}/\c.exp 0 false=if cj s=[]then .nil else .any) ?_ fun s2 ⟨h1,c,h2,h3⟩=>?_
 ·refine Δ (fun st=>st.e 6= .fn (.func 201) [] [.ref [.str s]]/\st.e 2= .μ m.ε.length 0/\st.mem= {ε:=m.ε++[.cells [.list .nil []]],η:=[]}) (by simp[h1,h2,h3]) fun s1 ⟨h1,h2,h3⟩=>?_;refine κ.block ?_;obtain⟨kx,T',e,⟨c,ext,rfl,hr,hn⟩|⟨⟨⟩⟩,hT⟩:=Xw (s1.env.map ν) (by rw[Di];exact congrArg ν h2);have er:∀M:Mem,M.ν=ν:=fun _=>rfl;have e0:aM m.ε (s1.env.map ν) .nil [] .ready=m.ε++[.cells [.list .nil []]]++[.loop (s1.env.map ν) [7] tZ ua .ready]:=by simp[aM]
  rw[e0]at e;have vG:(m.ε++[θ.cells [.list .nil []]]).length=m.ε.length+1:=by simp
  have ze:(aM m.ε (s1.env.map ν) c (cj s) .ready++ext)[m.ε.length+1]?=some (.loop (s1.env.map ν) [7] tZ ua .ready):=by simp[aM]
  obtain⟨c2,hb,Dw⟩:=Ky m.ε ((cj s).map Tok.bn) (qM _ _) (by simp[mn,nj,Function.comp,Tok.bn,lo,ba]) T' c (fun i hi=>(hT i hi).elim (fun h=>by cases h) id) (.loop (s1.env.map ν) [7] tZ ua .ready::ext) (m.ε++[.cells [.list .nil []]]) (by simp);have e1:aM m.ε (s1.env.map ν) c (cj s) .ready++ext=m.ε++[.cells [.list c ((cj s).map Tok.bn)]]++(.loop (s1.env.map ν) [7] tZ ua .ready::ext):=by simp[aM]
  rw[<-e1]at hb;refine⟨(.normal,{s1 with mem:= {ε:=m.ε++[.cells [.list c2 ((cj s).map Tok.bn)]],η:=[]}}),?_,?_⟩
  ·simp only[Int.ofNat_eq_natCast,Int.cast_ofNat_Int,exec,dw,h1,AV.zA,yr,h3,vG,er];rw[<-tZ,<-ua,e];simp only[ze,hb]
  ·refine .inr ⟨by simp,.inl ⟨rfl,h2,c2,rfl,?_⟩⟩;rw[Dw];by_cases h0:cj s=[]
   ·rw[hn h0,if_pos h0];rfl
   ·rw[if_neg h0];rcases hr with⟨_,hc⟩|⟨t,rfl,_,_⟩
    ·exact absurd (np hc) h0
    ·rfl
 ·simp[h1,h2];have:=(Dv.list c (bN.of Tok.bn (cj s) fun t _=>Tok.Tl t)).aO (m.ε++[.cells [.list c ((cj s).map Tok.bn)]]) m.ε.length 8;rw[h3]at this;exact this
theorem f187(s:List Nat)(hs:du s)(hl:s.length<1000000000)(m:Mem):kf u 187 [.fn (.func 201) [] [.ref [.str s]]] m=some (.list (if cj s=[]then .nil else .any) ((cj s).map Tok.bn),m):=by have q:=fun m=>f225 (u:=u) s hs hl m;refine dI (g:=GQ) rfl rfl rfl ?_;simp[GQ,Rd,exp,aX,Fn.below,q];have h:=(Dv.list (if cj s=[]then .nil else .any) (bN.of Tok.bn (cj s) fun t _=>Tok.Tl t)).aO m.ε m.ε.length 8;rw[fR (by split<;>simp[bp])]at h;exact h
def _root_.Go.Θ.Tok.ef(t:Tok):AV:= .agg [.n t.at_,.n t.kind,.str t.text]
theorem Tok.abG(t:Tok):Fx t.ef:=⟨rfl,rfl⟩
def rE:AC:= .ops [⟨(some 6),.alloc true [(.n 0),(.n 0),(.str []),(.n 0)],none⟩,⟨none,.st 4 (.t 6) (.t 12),none⟩]
def qz:AC:= .block 1 (.seq (.seq (.ops [⟨(some 13),.fa 3 (.t 6),none⟩,⟨(some 14),.ld false 1 (.t 13),none⟩,⟨(some 15),.bin .geq (.t 14) (.c (.n 0)),none⟩]) (.cond (.t 15) (.seq (.draw [⟨(some 16),.fa 3 (.t 6),none⟩,⟨(some 17),.ld false 1 (.t 16),none⟩,⟨none,.st 1 (.t 2) (.c (.list .nil [])),none⟩,⟨none,.st 1 (.t 3) (.t 17),none⟩,⟨none,.st 1 (.t 4) (.c (.n 4)),none⟩] [(1,2)] []) .ret) .skip)) (.ops [⟨(some 18),.ld false 1 (.t 5),none⟩,⟨(some 19),.fa 0 (.t 6),none⟩,⟨(some 20),.ld true 3 (.t 19),none⟩,⟨(some 21),.yB true 3 [(.t 20)],none⟩,⟨(some 22),.app true 3 32 93 (.t 18) (.t 21),none⟩,⟨none,.st 1 (.t 5) (.t 22),none⟩]))
def tM(B:List θ)(w e:Int)(env:List AV)(c:ρ)(l:List Tok)(st:LS):List θ:=B++[.cells [.list .nil []],.cells [.n w],.cells [.n e],.cells [.list c (l.map Tok.ef)],.loop env [12] rE qz st]
theorem wo(B:List θ)(w e:Int)(env:List AV)(c:ρ)(l:List Tok)(st:LS):(tM B w e env c l st).length=B.length+5:=by simp[tM]
theorem afI(l:List Tok):(l.map Tok.ef).all (shaped true 3)=true:=by simp[nj,Tok.ef,shaped,Function.comp]
theorem y55(B:List θ)(env:List AV)(e2:aK env 2= .μ B.length 0)(e3:aK env 3= .μ (B.length+1) 0)(e4:aK env 4= .μ (B.length+2) 0)(e5:aK env 5= .μ (B.length+3) 0)(c:ρ)(l:List Tok)(ext:List θ)
  (hr:Row (B.length+5) (tM B 0 0 env c l .ready++ext) 3 93 c l.length) (hl:l.length<1000000000) (t:Tok) (T:List Nat):
  ∃c' ext' T',ab (C u) (.fn (.yield (B.length+4)) [] []) [t.bn] {ε:=tM B 0 0 env c l .ready++ext,η:=T}=
   some (.bool (decide (t.c8<0)),{ε:=(if t.c8<0 then tM B 0 0 env c' (l++[t]) .ready else tM B t.c8 4 env c' l (.done none))++ext',η:=T'})∧
   (t.c8<0->Row (B.length+5) (tM B 0 0 env c' (l++[t]) .ready++ext') 3 93 c' (l.length+1))/\∀i∈T',i∈T\/B.length+3<=i:=by
 have hy:=YC (C:=C u) (l:=B.length+4) (args:=[t.bn]) (mem:= {ε:=tM B 0 0 env c l .ready++ext,η:=T}) (env:=env) (ps:=[12]) (fQ:=rE) (bd:=qz) (nP:= .ready)
  (M:=fun s=>s.e 2= .μ B.length 0/\s.e 3= .μ (B.length+1) 0/\s.e 4= .μ (B.length+2) 0/\s.e 5= .μ (B.length+3) 0/\s.e 6= .μ (B.length+5+ext.length) 0/\s.mem= {ε:=tM B 0 0 env c l .ready++(ext++[.cells [.n t.at_,.n t.kind,.str t.text,.n t.c8]]),η:=T})
  (Q:=fun v m=>v= .bool (decide (t.c8<0))/\∃c' ext' T',m= {ε:=(if t.c8<0 then tM B 0 0 env c' (l++[t]) .ready else tM B t.c8 4 env c' l (.done none))++ext',η:=T'}/\(t.c8<0->Row (B.length+5) (tM B 0 0 env c' (l++[t]) .ready++ext') 3 93 c' (l.length+1))/\∀i∈T',i∈T\/B.length+3<=i)
  (by simp[tM]) rfl (by
   have hg:(tM B 0 0 env c l .ready++ext)[B.length+4]?=some (.loop env [12] rE qz .ready):=by simp[tM]
   have hX:(tM B 0 0 env c l .ready++ext).length=B.length+5+ext.length:=by simp[wo]
   rw[<-bO];generalize tM B 0 0 env c l .ready++ext=X at*;have g1:∀z,(X++[z])[B.length+5+ext.length]?=some z:=fun z=>by rw[<-hX];simp
   have g2:∀z w,(X++[z]).set (B.length+5+ext.length) w=X++[w]:=fun z w=>by rw[<-hX];simp
   have g3:∀z,(X++[z])[B.length+4]?=some (.loop env [12] rE qz .ready):=fun z=>by rw[ek (EC hg)];exact hg
   simp[rE,uX,Tok.bn,exp,aX,e2,e3,e4,e5,hX,Mem.push,g1,g2,g3,Mem.put,Mem.ν,ν,ba,lo,Mem.ls]) ?_
 ·obtain⟨v,m',e,rfl,c',ext',T',rfl,k1,k2⟩:=hy;exact⟨c',ext',T',e,k1,k2⟩
 ·intro s ⟨k2,k3,k4,k5,k6,k7⟩;have kR:Mem.i_ {ε:=tM B 0 0 env c l .ready++(ext++[.cells [.n t.at_,.n t.kind,.str t.text,.n t.c8]]),η:=T} (B.length+4) .busy= {ε:=tM B 0 0 env c l .busy++(ext++[.cells [.n t.at_,.n t.kind,.str t.text,.n t.c8]]),η:=T}:=by simp[Mem.i_,tM]
  have iT:Row (tM B 0 0 env c l .busy).length (tM B 0 0 env c l .busy++(ext++[.cells [.n t.at_,.n t.kind,.str t.text,.n t.c8]])) 3 93 c (l.map Tok.ef).length:=by rw[wo,<-bO,cg];exact Row.push (Row.swap hr (by simp[wo]) (by simp[wo])) _
  obtain⟨c',ext',dB,gH,-⟩:=uW (bytes:=32) iT (afI l) (show shaped true 3 t.ef=true by rfl) (show ν t.ef=t.ef by rfl) (by omega) (by simp;omega) (by simp;omega);rw[wo,cg]at gH;simp only[k7,kR];have g1:∀x,(tM B 0 0 env c l .busy++x)[B.length+3]?=some (.cells [.list c (l.map Tok.ef)]):=fun x=>by simp[tM]
  have g2:(tM B 0 0 env c l .busy++(ext++[.cells [.n t.at_,.n t.kind,.str t.text,.n t.c8]]))[B.length+5+ext.length]?=some (.cells [.n t.at_,.n t.kind,.str t.text,.n t.c8]):=by
   have:B.length+5+ext.length=(tM B 0 0 env c l .busy++ext).length:=by simp[wo]
   rw[this,<-bO];simp
  by_cases hw:t.c8<0
  ·have lS:¬0<=t.c8:=by omega
   have g3:∀x,(tM B 0 0 env c l .busy++x).set (B.length+3) (.cells [.list c' (l.map Tok.ef++[t.ef])])=tM B 0 0 env c' (l++[t]) .busy++x:=fun x=>by simp[tM]
   have g4:∀x st,Mem.i_ {ε:=tM B 0 0 env c' (l++[t]) .busy++x,η:=st} (B.length+4) .ready= {ε:=tM B 0 0 env c' (l++[t]) .ready++x,η:=st}:=fun x st=>by simp[Mem.i_,tM]
   have g5:∀x st,Mem.ls {ε:=tM B 0 0 env c' (l++[t]) .busy++x,η:=st} (B.length+4)=some .busy:=fun x st=>by simp[Mem.ls,tM]
   have g6:cw (l.map Tok.ef++[t.ef])=l.map Tok.ef++[t.ef]:=by simp[fH,Function.comp,Tok.ef,ν,cw]
   have dX:shaped true 3 (.agg [.n t.at_,.n t.kind,.str t.text])=true:=rfl;simp only[Tok.ef]at dB g3 g6;refine κ.done .normal (fun s=>∃T',s.mem= {ε:=tM B 0 0 env c' (l++[t]) .busy++ext',η:=T'}/\∀i∈T',i∈T\/B.length+3<=i) (by
    simp[qz,k2,k3,k4,k5,k6,g1,g2,dX,lS,Mem.ν,ν,cw,Tok.ef,dB,Mem.put]
    simp only[g6,g3];refine⟨_,⟨trivial,rfl⟩,fun i hi=>?_⟩;split at hi
    ·exact .inl hi
    ·exact(cy.1 hi).elim (fun h=> .inr (by omega)) .inl) fun s' h=>?_
   obtain⟨T',h1,h2⟩:=h;refine⟨by rw[h1];exact g5 _ _,by simp[hw],c',ext',T',by rw[h1,g4,if_pos hw],fun _=>Row.swap gH (by simp[wo]) (by simp[wo]),h2⟩
  ·have lS:0<=t.c8:=by omega
   have a0:∀x,(tM B 0 0 env c l .busy++x)[B.length]?=some (.cells [.list .nil []]):=fun x=>by simp[tM]
   have a1:∀x,(tM B 0 0 env c l .busy++x)[B.length+1]?=some (.cells [.n 0]):=fun x=>by simp[tM]
   have a2:∀w x,(tM B w 0 env c l .busy++x)[B.length+2]?=some (.cells [.n 0]):=fun w x=>by simp[tM]
   have b0:∀x,(tM B 0 0 env c l .busy++x).set B.length (.cells [.list .nil []])=tM B 0 0 env c l .busy++x:=fun x=>by simp[tM]
   have b1:∀w x,(tM B 0 0 env c l .busy++x).set (B.length+1) (.cells [.n w])=tM B w 0 env c l .busy++x:=fun w x=>by simp[tM]
   have b2:∀w e x,(tM B w 0 env c l .busy++x).set (B.length+2) (.cells [.n e])=tM B w e env c l .busy++x:=fun w e x=>by simp[tM]
   have g4:∀x st,Mem.i_ {ε:=tM B t.c8 4 env c l .busy++x,η:=st} (B.length+4) (.done none)= {ε:=tM B t.c8 4 env c l (.done none)++x,η:=st}:=fun x st=>by simp[Mem.i_,tM]
   have g5:∀x st,Mem.ls {ε:=tM B t.c8 4 env c l .busy++x,η:=st} (B.length+4)=some .busy:=fun x st=>by simp[Mem.ls,tM]
   refine κ.done .ret (fun s=>s.mem= {ε:=tM B t.c8 4 env c l .busy++(ext++[.cells [.n t.at_,.n t.kind,.str t.text,.n t.c8]]),η:=T}) (by simp[qz,k2,k3,k4,k5,k6,a0,a1,a2,b0,b1,b2,g2,lS,Mem.ν,ν,cw,Mem.put,ba,lo,ρ.lo,cN,cQ,eK,AV.gK,AV.beq]) fun s' h=>?_;exact⟨by rw[h];exact g5 _ _,by simp[hw],c,_,T,by rw[h,g4,if_neg hw],fun h=>absurd h hw,fun i hi=> .inl hi⟩
def Fc(s:List Nat)(av:Tok->AV):AV:=
 if 65536<s.length then .aQ [.list .nil [],.n 0,.n 11]else match sW (cj s)with
  |some w=> .aQ [.list .nil [],.int .i64 w,.int .i64 4]
  |none=> .aQ [.list (if cj s=[]then .nil else .any) ((cj s).map av),.int .i64 0,.int .i64 0]
def wh(x:List Tok×Option Int)(t:Tok):(List Tok×Option Int)×Bool:=if t.c8<0 then((x.1++[t],none),true)else((x.1,some t.c8),false)
theorem goW(l:List Tok):∀x,ny wh l (x,none)=match sW l with
  |some w=>((ny wh l (x,none)).1,some w)
  |none=>(x++l,none):=by
 induction l with
 |nil=>intro x;simp[ny,sW]
 |cons t l ih=>
  intro x
  by_cases h:t.c8<0
  ·have h':¬0<=t.c8:=by omega
   simp only[ny,wh,sW,h,h',if_true,if_false];rw[ih];cases sW l<;>simp
  ·have h':0<=t.c8:=by omega
   simp[ny,wh,sW,h,h']
theorem f55(s:List Nat)(hs:du s)(hl:s.length<1000000000)(m:Mem):kf u 55 [.str s] m=some (Fc s Tok.ef,m):=by
 refine K_ (g:=HD) rfl rfl rfl ?_;have er:∀M:Mem,M.ν=ν:=fun _=>rfl;simp only[az,aJ,exp,HD,RW];let K:St->Prop:=fun st=>st.e 0= .str s/\st.e 2= .μ m.ε.length 0/\st.e 3= .μ (m.ε.length+1) 0/\st.e 4= .μ (m.ε.length+2) 0;let X:Int->Int->List θ:=fun w e=>m.ε++[.cells [.list .nil []],.cells [.n w],.cells [.n e]];have hX:∀w e,(X w e).length=m.ε.length+3:=fun w e=>by simp[X]
 refine Δ (fun st=>K st/\st.mem= {ε:=X 0 0,η:=[]}) (by simp[K,X,Mem.push,Mem.ν,ν,cw]) fun s1 ⟨⟨h1,h2,h3,h4⟩,h5⟩=>?_;by_cases vK:65536<s.length
 ·have zd:(65536:Int)<s.length:=by omega
  have a0:(X 0 0)[m.ε.length]?=some (.cells [.list .nil []]):=by simp[X]
  have a1:(X 0 0)[m.ε.length+1]?=some (.cells [.n 0]):=by simp[X]
  have a2:(X 0 0)[m.ε.length+2]?=some (.cells [.n 0]):=by simp[X]
  have b0:(X 0 0).set m.ε.length (.cells [.list .nil []])=X 0 0:=by simp[X]
  have b1:(X 0 0).set (m.ε.length+1) (.cells [.n 0])=X 0 0:=by simp[X]
  have b2:(X 0 0).set (m.ε.length+2) (.cells [.n 11])=X 0 11:=by simp[X]
  have c0:(X 0 11)[m.ε.length]?=some (.cells [.list .nil []]):=by simp[X]
  have c1:(X 0 11)[m.ε.length+1]?=some (.cells [.n 0]):=by simp[X]
  have c2:(X 0 11)[m.ε.length+2]?=some (.cells [.n 11]):=by simp[X]
  simp[h1,h2,h3,h4,h5,zd,a0,a1,a2,b0,b1,b2,c0,c1,c2,Mem.put,Mem.ν,ν,cw,ba,lo,ρ.lo,Fc,vK];exact⟨⟨_,rfl⟩,rfl⟩
 have zd:¬(65536:Int)<s.length:=by omega
 refine Δ (fun st=>K st/\st.mem= {ε:=X 0 0,η:=[]}) (by simp[K,h1,h2,h3,h4,h5,zd]) fun s1 ⟨⟨h1,h2,h3,h4⟩,h5⟩=>?_;refine Δ (fun st=>K st/\st.e 5= .μ (m.ε.length+3) 0/\st.mem= {ε:=X 0 0++[.cells [.list .nil []]],η:=[]}) (by simp[K,h1,h2,h3,h4,h5,hX,Mem.push,Mem.ν,ν,cw]) fun s1 ⟨⟨h1,h2,h3,h4⟩,h6,h5⟩=>?_;have qM:∀n k,aX n k ((cj s).map Tok.ef)=(cj s).map Tok.ef:=fun n k=>by rw[fe,cT];exact de fun t _=>by simp[Tok.ef,exp,aX]
 refine bJ (fun st=>K st/\st.e 5= .μ (m.ε.length+3) 0/\sW (cj s)=none/\∃c,st.mem= {ε:=X 0 0++[.cells [.list c ((cj s).map Tok.ef)]],η:=[]}/\c.exp 0 false=if cj s=[]then .nil else .any) ?_ fun s2 ⟨⟨h1,h2,h3,h4⟩,h6,h7,c,h8,h9⟩=>?_
 ·have Pr:=fun m=>f130 (u:=u) s m;refine Δ (fun st=>(K st/\st.e 5= .μ (m.ε.length+3) 0/\st.mem= {ε:=X 0 0++[.cells [.list .nil []]],η:=[]})/\st.e 11= .fn (.func 201) [] [.ref [.str s]]) (by simp[K,h1,h2,h3,h4,h5,h6,Pr]) fun s1 ⟨⟨⟨h1,h2,h3,h4⟩,h6,h5⟩,h7⟩=>?_;refine κ.block ?_;have e2:aK (s1.env.map ν) 2= .μ m.ε.length 0:=by rw[Di];exact congrArg ν h2
  have e3:aK (s1.env.map ν) 3= .μ (m.ε.length+1) 0:=by rw[Di];exact congrArg ν h3
  have e4:aK (s1.env.map ν) 4= .μ (m.ε.length+2) 0:=by rw[Di];exact congrArg ν h4
  have e5:aK (s1.env.map ν) 5= .μ (m.ε.length+3) 0:=by rw[Di];exact congrArg ν h6
  generalize H4:s1.env.map ν=env at*;obtain⟨kx,T',e,Bi,hT⟩:=f201 (u:=u) (σ:=List Tok×Option Int) (I:=fun x bs=>x.2=none/\∃c ext,bs=tM m.ε 0 0 env c x.1 .ready++ext/\Row (m.ε.length+5) bs 3 93 c x.1.length/\(x.1=[]->c= .nil))
   (D:=fun x bs=>∃w,x.2=some w/\∃c ext,bs=tM m.ε w 4 env c x.1 (.done none)++ext) (f:=wh) (N:=m.ε.length+3) (l:=m.ε.length+4)
   s hs (by omega) (fun x bs ⟨_,c,ext,h,_⟩=>by rw[h,cI,wo];omega) (cnt:=fun x=>x.1.length) (fun x t=>by simp only[wh];split<;>simp)
   (fun x bs T t ⟨hx,c,ext,h,hr,hn⟩ hc=>by
    subst h
    obtain⟨c',ext',T',k1,k2,k3⟩:=y55 (u:=u) m.ε env e2 e3 e4 e5 c x.1 ext hr (by omega) t T;by_cases hw:t.c8<0
    ·have e:wh x t=((x.1++[t],none),true):=if_pos hw;rw[if_pos hw,decide_eq_true hw]at k1;rw[e];exact⟨_,T',k1,⟨rfl,c',ext',rfl,by simpa using k2 hw,fun h=>by simp at h⟩,k3⟩
    ·have e:wh x t=((x.1,some t.c8),false):=if_neg hw;rw[if_neg hw,decide_eq_false hw]at k1;rw[e];exact⟨_,T',k1,⟨_,rfl,c',ext',rfl⟩,k3⟩) ([],none) (tM m.ε 0 0 env .nil [] .ready) [] ⟨rfl,.nil,[],by simp,Row.nil,fun _=>rfl⟩ rfl
  rw[goW]at Bi;have e0:tM m.ε 0 0 env .nil [] .ready=X 0 0++[.cells [.list .nil []]]++[.loop env [12] rE qz .ready]:=by simp[tM,X]
  rw[e0]at e;have vG:(X 0 0++[θ.cells [.list .nil []]]).length=m.ε.length+4:=by simp[hX]
  have e6:∀w e c l st ext,tM m.ε w e env c l st++ext=X w e++[.cells [.list c (l.map Tok.ef)]]++(.loop env [12] rE qz st::ext):=fun w e c l st ext=>by simp[tM,X]
  have ze:∀w e c l st ext,(tM m.ε w e env c l st++ext)[m.ε.length+4]?=some (.loop env [12] rE qz st):=fun w e c l st ext=>by simp[tM]
  cases hw:sW (cj s)with
  |none=>
   rw[hw]at Bi
   simp only[bE]at Bi;obtain⟨-,c,ext,rfl,hr,hn⟩|⟨w,h,_⟩:=Bi
   ·obtain⟨c2,hb,Dw⟩:=Ky (X 0 0) ((cj s).map Tok.ef) (qM _ _) (by simp[mn,nj,Function.comp,Tok.ef,lo,ba]) T' c (fun i hi=>by rw[hX];exact(hT i hi).elim (fun h=>by cases h) id) (.loop env [12] rE qz .ready::ext) (X 0 0++[.cells [.list .nil []]]) (by simp);rw[<-e6]at hb;refine⟨(.normal,{s1 with mem:= {ε:=X 0 0++[.cells [.list c2 ((cj s).map Tok.ef)]],η:=[]}}),?_,?_⟩
    ·simp only[Int.ofNat_eq_natCast,Int.cast_ofNat_Int,exec,dw,h7,AV.zA,yr,h5,vG,er,H4];rw[<-rE,<-qz,e];simp only[ze,hb]
    ·refine .inr ⟨by simp,.inl ⟨rfl,⟨h1,h2,h3,h4⟩,h6,rfl,c2,rfl,?_⟩⟩;rw[Dw];by_cases h0:cj s=[]
     ·rw[hn h0,if_pos h0];rfl
     ·rw[if_neg h0];rcases hr with⟨_,hc⟩|⟨t,rfl,_,_⟩
      ·exact absurd (np hc) h0
      ·rfl
   ·cases h
  |some w=>
   rw[hw]at Bi
   obtain⟨h,_⟩|⟨w',h,c,ext,rfl⟩:=Bi
   ·cases h
   ·cases h;generalize(ny wh (cj s) ([],none)).1=l at*;have qM:∀n k,aX n k (l.map Tok.ef)=l.map Tok.ef:=fun n k=>by rw[fe,cT];exact de fun t _=>by simp[Tok.ef,exp,aX]
    obtain⟨c2,hb,Dw⟩:=Ky (X w 4) (l.map Tok.ef) (qM _ _) (by simp[mn,nj,Function.comp,Tok.ef,lo,ba]) T' c (fun i hi=>by rw[hX];exact(hT i hi).elim (fun h=>by cases h) id) (.loop env [12] rE qz (.done none)::ext) (X 0 0++[.cells [.list .nil []]]) (by simp[hX]);rw[<-e6]at hb;refine⟨(.ret,{s1 with mem:= {ε:=X w 4++[.cells [.list c2 (l.map Tok.ef)]],η:=[]}}),?_,?_⟩
    ·simp only[Int.ofNat_eq_natCast,Int.cast_ofNat_Int,exec,dw,h7,AV.zA,yr,h5,vG,er,H4];rw[<-rE,<-qz,e];simp only[ze,hb]
    ·refine .inr ⟨by simp,.inr ⟨by simp,by simp,⟨_,by simp only[X,bO];rfl⟩,by simp,?_⟩⟩;have c0:∀x,(X w 4++x)[m.ε.length]?=some (.cells [.list .nil []]):=by simp[X]
     have c1:∀x,(X w 4++x)[m.ε.length+1]?=some (.cells [.n w]):=by simp[X]
     have c3:∀x,(X w 4++x)[m.ε.length+2]?=some (.cells [.n 4]):=by simp[X]
     simp[h2,h3,h4,c0,c1,c3,Fc,vK,hw];rfl
 ·have g3:∀c l,(X 0 0++[θ.cells [.list c l]])[m.ε.length+3]?=some (.cells [.list c l]):=fun c l=>by simp[X]
  have g0:∀x,(X 0 0++x)[m.ε.length]?=some (.cells [.list .nil []]):=fun x=>by simp[X]
  have g1:∀x,(X 0 0++x)[m.ε.length+1]?=some (.cells [.n 0]):=fun x=>by simp[X]
  have g2:∀x,(X 0 0++x)[m.ε.length+2]?=some (.cells [.n 0]):=fun x=>by simp[X]
  let Z:List θ:=m.ε++[.cells [.list c ((cj s).map Tok.ef)],.cells [.n 0],.cells [.n 0],.cells [.list c ((cj s).map Tok.ef)]];have b0:(X 0 0++[θ.cells [.list c ((cj s).map Tok.ef)]]).set m.ε.length (.cells [.list c ((cj s).map Tok.ef)])=Z:=by simp[X,Z]
  have a0:Z[m.ε.length]?=some (.cells [.list c ((cj s).map Tok.ef)]):=by simp[Z]
  have a1:Z[m.ε.length+1]?=some (.cells [.n 0]):=by simp[Z]
  have a2:Z[m.ε.length+2]?=some (.cells [.n 0]):=by simp[Z]
  have b1:Z.set (m.ε.length+1) (.cells [.n 0])=Z:=by simp[Z]
  have b2:Z.set (m.ε.length+2) (.cells [.n 0])=Z:=by simp[Z]
  have hn:cw ((cj s).map Tok.ef)=(cj s).map Tok.ef:=by simp[fH,Function.comp,Tok.ef,ν,cw]
  simp[h1,h2,h3,h4,h6,h8,g0,g1,g2,g3,hn,b0,a0,a1,a2,b1,b2,Mem.put,Mem.ν,ν,ba,lo];have hd:Dv (.aQ [.list c ((cj s).map Tok.ef),.n 0,.n 0]) (.aQ [.list (c.exp 0 false) ((cj s).map Tok.ef),.n 0,.n 0]):= .aQ (.cons (.list c (bN.of Tok.ef _ fun t _=>Tok.abG t)) (.cons (.int _ _) (.cons (.int _ _) .nil)));refine⟨⟨_,rfl⟩,?_⟩;rw[hd.aO,Fc,if_neg vK,h7,h9]
end Go.Θ.Tz
namespace Go.Θ
open Tz (vt)
structure PS where
 last:Nat
 l:List Tok
inductive R (α:Type)
 |ok (x:α) (s:PS)
 |no (w:Nat)
inductive RS
 |r (s:PS)
 |w (w:Nat)
def R.bind{α β:Type}:R α->(α->PS->R β)->R β
 | .ok x s,f=>f x s
 | .no w,_=> .no w
def R.map{α β:Type}(f:α->β):R α->R β
 | .ok x s=> .ok (f x) s
 | .no w=> .no w
theorem R.bind_map{α β γ:Type}(a:R α)(Q:α->PS->R β)(f:β->γ):(a.bind Q).map f=a.bind fun x s=>(Q x s).map f:=by cases a<;>rfl
def aF{α:Type}(P:PS->R α)(a:RS)(x:α)(b:RS):Prop:=
 match a with
 | .w w=>b= .w w
 | .r s=>match P s with
  | .ok y t=>x=y/\b= .r t
  | .no w=>b= .w w
def PS.hd(s:PS):List Nat:=match s.l with
 |[]=>[]
 |t::_=>t.text
def PS.kd(s:PS):Nat:=match s.l with
 |[]=>0
 |t::_=>t.kind
def PS.a_(s:PS)(w:List Nat):Bool:=s.hd==w
def PS.at_(e:Nat)(s:PS):Nat:=match s.l with
 |[]=>e
 |t::_=>t.at_
def ko(e:Nat)(f:Tok->Bool)(s:PS):R (List Nat):=match s.l with
 |[]=> .no e
 |t::l=>if t.kind=0\/f t=false then .no t.at_ else if 0<=t.c8 then .no t.c8.toNat else .ok t.text ⟨t.at_+t.text.length,l⟩
def aE(e:Nat)(w:List Nat):PS->R (List Nat):=ko e fun t=>t.text==w
def gY(e:Nat):PS->R (List Nat):=ko e fun t=>t.kind==1&& !vt t.text
def numOf(s:List Nat):Nat:=s.foldl (fun n b=>10*n+(b-48)) 0
def uJ(e:Nat)(s:PS):R Nat:=(ko e (fun t=>t.kind==2) s).map numOf
def cR{α:Type}(c:PS->Bool)(f:α->PS->R α):Nat->α->PS->R α
 |0,_,_=> .no 0
 |n+1,x,s=>if c s then(f x s).bind (cR c f n)else .ok x s
def z0:ζ:= .mk 0 0 [] .nil []
def fC(e:Nat)(ix:PS->R ζ)(s:PS):R ζ:=
 if s.a_ [40]then(aE e [40] s).bind fun _ s=>(ix s).bind fun x s=>(aE e [41] s).map fun _=>x
 else if s.kd=2 then(uJ e s).map fun n:Nat=> .mk 1 (n:Int) [] .nil []
 else(gY e s).map fun n=> .mk 2 0 n .nil []
def lx(e:Nat)(at':PS->R ζ)(s:PS):R ζ:=
 (at' s).bind fun x s=>cR (fun s=>s.a_ [42]) (fun x s=>(aE e [42] s).bind fun _ s=>(at' s).map fun y=> .mk 5 0 [] .any [x,y]) (s.l.length+1) x s
def wm(e:Nat)(pr:PS->R ζ)(s:PS):R ζ:=
 (pr s).bind fun x s=>cR (fun s=>s.a_ [43]||s.a_ [45]) (fun x s=>(aE e s.hd s).bind fun w s=>(pr s).map fun y=> .mk (if w=[45]then 4 else 3) 0 [] .any [x,y]) (s.l.length+1) x s
def aC(e:Nat):Nat->PS->R ζ
 |0=>fun _=> .no 0
 |k+1=>wm e (lx e (fC e (aC e k)))
def kg(e:Nat)(ix:PS->R ζ)(s:PS):R ξ:=
 (gY e s).bind fun n s=>
  if s.a_ [91]then(aE e [91] s).bind fun _ s=>(ix s).bind fun x s=>(if s.a_ [58]then(aE e [58] s).bind fun _ s=>(ix s).map fun y=>[x,y]else .ok [x] s).bind fun l s=>(aE e [93] s).map fun _=>⟨n,.any,l⟩
  else .ok ⟨n,.nil,[]⟩ s
def uY(e:Nat)(ix:PS->R ζ)(s:PS):R (List Nat×ζ):=
 (gY e s).bind fun n s=>(aE e [91] s).bind fun _ s=>(ix s).bind fun x s=>(aE e [93] s).map fun _=>(n,x)
inductive Sp
 |mk (from_ to:Nat) (ins:List (List Sp))
def Φ{α:Type}:List α->ρ
 |[]=> .nil
 |_=> .any
def pj{α:Type}(e:Nat)(item:PS->R α)(s:PS):R (List α):=
 if s.a_ [41]then(aE e [41] s).map fun _=>[]
 else(item s).bind fun x s=>(cR (fun s=>s.a_ [44]) (fun l s=>(aE e [44] s).bind fun _ s=>(item s).map fun y=>l++[y]) (s.l.length+1) [x] s).bind fun l s=>(aE e [41] s).map fun _=>l
def jh(s:List Nat):Nat:=match fu.findIdx? fun x=>x==s with
 |none=>0
 |some i=>i+1
def pq(e:Nat)(pl:PS->R ξ):Nat->List ξ->PS->R (List ξ)
 |0,l,s=> .ok l s
 |n+1,l,s=>(aE e [44] s).bind fun _ s=>(pl s).bind fun p s=>pq e pl n (l++[p]) s
def lT(e:Nat)(ix:PS->R ζ)(s:PS):R δ:=
 let w:=s.hd
 let pl:=kg e ix
 if 0<jh w then(aE e w s).bind fun _ s=>(pl s).bind fun p s=>(pq e pl (gb (jh w)-1) [p] s).map fun l=> .mk 1 (jh w) [] .any l z0 z0 .nil [] .nil []
 else if w=[116,97,107,101]then(aE e w s).bind fun _ s=>(uY e ix s).map fun x=> .mk 2 0 x.1 .nil [] x.2 z0 .nil [] .nil []
 else if w=[100,114,111,112]then(aE e w s).bind fun _ s=>(gY e s).map fun n=> .mk 3 0 n .nil [] z0 z0 .nil [] .nil []
 else if w=[109,101,97,115,117,114,101]then(aE e w s).bind fun _ s=>(pl s).bind fun p s=>(aE e [58] s).bind fun _ s=>(gY e s).map fun n=> .mk 5 0 n .any [p] z0 z0 .nil [] .nil []
 else if w=[114,101,115,101,116]then(aE e w s).bind fun _ s=>(pl s).map fun p=> .mk 6 0 [] .any [p] z0 z0 .nil [] .nil []
 else(gY e s).bind fun n s=>(aE e [40] s).bind fun _ s=>(pj e pl s).map fun l=> .mk 9 0 n (Φ l) l z0 z0 .nil [] .nil []
def Ae(e:Nat)(ix:PS->R ζ)(s:PS):R δ:=(lT e ix s).bind fun x s=>(aE e [59] s).map fun _=>x
def iK(e:Nat)(ix:PS->R ζ)(blk:PS->R (List δ×List Sp))(s:PS):R (δ×List (List Sp)):=
 let w:=s.hd
 if w=[98,111,114,114,111,119]then(aE e w s).bind fun _ s=>(uY e ix s).bind fun x s=>(blk s).map fun b=>(.mk 4 0 x.1 .nil [] x.2 z0 (Φ b.1) b.1 .nil [],[b.2])
 else if w=[105,102]then(aE e w s).bind fun _ s=>(gY e s).bind fun n s=>(blk s).bind fun b s=>
  if s.a_ [101,108,115,101]then(aE e [101,108,115,101] s).bind fun _ s=>(blk s).map fun d=>(.mk 7 0 n .nil [] z0 z0 (Φ b.1) b.1 (Φ d.1) d.1,[b.2,d.2])
  else .ok (.mk 7 0 n .nil [] z0 z0 (Φ b.1) b.1 .nil [],[b.2]) s
 else if w=[102,111,114]then(aE e w s).bind fun _ s=>(gY e s).bind fun n s=>(aE e [61] s).bind fun _ s=>(ix s).bind fun x s=>(aE e [58] s).bind fun _ s=>(ix s).bind fun y s=>(blk s).map fun b=>(.mk 8 0 n .nil [] x y (Φ b.1) b.1 .nil [],[b.2])
 else if w=[117,110,100,111]then(aE e w s).bind fun _ s=>(blk s).map fun b=>(.mk 10 0 [] .nil [] z0 z0 (Φ b.1) b.1 .nil [],[b.2])
 else if w=[119,105,116,104,105,110]then(aE e w s).bind fun _ s=>(blk s).bind fun b s=>(aE e [97,112,112,108,121] s).bind fun _ s=>(blk s).map fun d=>(.mk 11 0 [] .nil [] z0 z0 (Φ b.1) b.1 (Φ d.1) d.1,[b.2,d.2])
 else(Ae e ix s).map fun x=>(x,[])
def uZ(e:Nat)(st:PS->R (δ×List (List Sp)))(s:PS):R (δ×Sp):=(st s).bind fun x t=> .ok (x.1,.mk (s.at_ e) t.last x.2) t
def zF(e:Nat)(st:PS->R (δ×List (List Sp)))(s:PS):R (List δ×List Sp):=
 (aE e [123] s).bind fun _ s=>(cR (fun s=>!s.a_ [125]) (fun l s=>(uZ e st s).map fun x=>(l.1++[x.1],l.2++[x.2])) (s.l.length+1) ([],[]) s).bind fun l s=>(aE e [125] s).map fun _=>l
def eA(e:Nat)(ix:PS->R ζ):Nat->PS->R (List δ×List Sp)
 |0=>fun _=> .no 0
 |k+1=>zF e (iK e ix (eA e ix k))
def zS(e:Nat)(s:PS):R ak:=(gY e s).bind fun n s=>(aE e [91] s).bind fun _ s=>(uJ e s).bind fun k s=>(aE e [93] s).map fun _=>⟨n,k⟩
def zU(e:Nat)(blk:PS->R (List δ×List Sp))(s:PS):R (τ×List Sp):=
 (aE e [112,114,111,99] s).bind fun _ s=>(gY e s).bind fun n s=>(aE e [40] s).bind fun _ s=>(pj e (zS e) s).bind fun ps s=>(blk s).map fun b=>(⟨n,Φ ps,ps,Φ b.1,b.1⟩,b.2)
def BW(e:Nat)(ts:List Tok):R (List τ×List (List Sp)):=
 cR (fun s=>!s.l.isEmpty) (fun l s=>(zU e (eA e (aC e (ts.length+1)) (ts.length+1)) s).map fun x=>(l.1++[x.1],l.2++[x.2])) (ts.length+1) ([],[]) ⟨0,ts⟩
theorem aF.bind{α β:Type}{P:PS->R α}{Q:α->PS->R β}{a b c:RS}{x:α}{y:β}(h:aF P a x b)(k:aF (Q x) b y c):aF (fun s=>(P s).bind Q) a y c:=by
 cases a with
 |w w=>
  simp only[aF]at h
  subst h;exact k
 |r s=>
  simp only[aF]at h⊢
  cases hp:P s with
  |ok z t=>
   rw[hp]at h
   obtain⟨rfl,rfl⟩:=h;exact k
  |no w=>
   rw[hp]at h
   subst h;exact k
theorem aF.map{α β:Type}{P:PS->R α}{a b:RS}{x:α}(f:α->β)(h:aF P a x b):aF (fun s=>(P s).map f) a (f x) b:=by
 cases a with
 |w w=>exact h
 |r s=>
  simp only[aF]at h⊢
  cases hp:P s with
  |ok z t=>
   rw[hp]at h
   obtain⟨rfl,rfl⟩:=h;exact⟨rfl,rfl⟩
  |no w=>rw[hp]at h;exact h
theorem aF.pure{α:Type}(x:α)(a:RS):aF (fun s=> .ok x s) a x a:=by
 cases a with
 |w w=>rfl
 |r s=>exact⟨rfl,rfl⟩
def RS.sz(a:RS):Nat:=match a with
 | .r s=>s.l.length
 | .w _=>0
def RS.yF(c:PS->Bool)(a:RS):Bool:=match a with
 | .r s=>c s
 | .w _=>false
def RS.a_(a:RS)(w:List Nat):Bool:=a.yF fun s=>s.a_ w
theorem ub{a:RS}{w:List Nat}(h:a.a_ w=true)(hw:w≠[]):0<a.sz:=by
 cases a with
 |w w=>cases h
 |r st=>
  obtain⟨la,l⟩:=st
  cases l with
  |nil=>exact absurd (beq_iff_eq.1 (show(PS.hd ⟨la,[]⟩==w)=true from h)).symm hw
  |cons t l=>simp[RS.sz]
theorem aF.Ez{α:Type}{c:PS->Bool}{f:α->PS->R α}{n:Nat}{x:α}{a:RS}(h:a.yF c=false):aF (cR c f (n+1) x) a x a:=by
 cases a with
 |w w=>rfl
 |r s=>
  have h:c s=false:=h
  simp[aF,cR,h]
theorem aF.EB{α:Type}{c:PS->Bool}{f:α->PS->R α}{n:Nat}{x x' y:α}{a a' b:RS}(hc:a.yF c=true)(h:aF (f x) a x' a')(k:aF (cR c f n x') a' y b):aF (cR c f (n+1) x) a y b:=by
 cases a with
 |w w=>cases hc
 |r s=>
  have hc:c s=true:=hc
  have e:∀s',c s'=true->cR c f (n+1) x s'=(f x s').bind (cR c f n):=fun s' h=>by simp[cR,h]
  have:=aF.bind (P:=f x) (Q:=cR c f n) h k;simpa only[aF,e s hc]using this
theorem aF.fuel{α:Type}{c:PS->Bool}{f:α->PS->R α}{x y:α}{a b:RS}(h:aF (cR c f (a.sz+1) x) a y b):aF (fun s=>cR c f (s.l.length+1) x s) a y b:=by
 cases a with
 |w w=>exact h
 |r s=>exact h
theorem aF.as{α:Type}{P Q:PS->R α}{a b:RS}{x:α}(h:aF P a x b)(k:∀s,a= .r s->Q s=P s):aF Q a x b:=by
 cases a with
 |w w=>exact h
 |r s=>simp only[aF]at h⊢;rw[k s rfl];exact h
def dm{α:Type}(P:PS->R α):Prop:=∀s x t,P s= .ok x t->t.l.length<=s.l.length
theorem aF.sz{α:Type}{P:PS->R α}{a b:RS}{x:α}(h:aF P a x b)(k:dm P):b.sz<=a.sz:=by
 cases a with
 |w w=>simp only[aF]at h;subst h;simp[RS.sz]
 |r s=>
  simp only[aF]at h
  cases hp:P s with
  |ok y t=>rw[hp]at h;obtain⟨_,rfl⟩:=h;exact k _ _ _ hp
  |no w=>rw[hp]at h;subst h;simp[RS.sz]
theorem JN{e:Nat}{f:Tok->Bool}{s:PS}{x:List Nat}{t:PS}(h:ko e f s= .ok x t):t.l.length+1=s.l.length:=by
 obtain⟨la,l⟩:=s;cases l with
 |nil=>cases h
 |cons a l=>
  simp only[ko]at h
  split at h
  ·cases h
  ·split at h
   ·cases h
   ·cases h;rfl
def RS.hd(a:RS):List Nat:=match a with
 | .r s=>s.hd
 | .w _=>[]
theorem akg{e:Nat}{f:Tok->Bool}{s:PS}{x:List Nat}{t:PS}(h:ko e f s= .ok x t):x=s.hd:=by
 obtain⟨la,l⟩:=s;cases l with
 |nil=>cases h
 |cons a l=>
  simp only[ko]at h
  split at h
  ·cases h
  ·split at h
   ·cases h
   ·cases h;rfl
theorem aF.word{β:Type}{e:Nat}{f:Tok->Bool}{Q:List Nat->PS->R β}{a b c:RS}{x:List Nat}{y:β}(h:aF (ko e f) a x b)(k:aF (Q a.hd) b y c):aF (fun s=>(ko e f s).bind Q) a y c:=by
 cases a with
 |w w=>simp only[aF]at h;subst h;exact k
 |r s=>
  simp only[aF]at h⊢
  cases hp:ko e f s with
  |ok z t=>
   rw[hp]at h
   obtain⟨rfl,rfl⟩:=h;rw[akg hp];exact k
  |no w=>rw[hp]at h;subst h;exact k
theorem aF.take{e:Nat}{f:Tok->Bool}{a b:RS}{x:List Nat}(h:aF (ko e f) a x b)(ha:0<a.sz):b.sz<a.sz:=by
 cases a with
 |w w=>simp[RS.sz]at ha
 |r s=>
  simp only[aF]at h
  cases hp:ko e f s with
  |ok y t=>rw[hp]at h;obtain⟨_,rfl⟩:=h;have:=JN hp;simp only[RS.sz];omega
  |no w=>rw[hp]at h;subst h;exact ha
theorem dm.take(e:Nat)(f:Tok->Bool):dm (ko e f):=fun _ _ _ h=>by have:=JN h;omega
theorem dm.bind{α β:Type}{P:PS->R α}{Q:α->PS->R β}(h:dm P)(k:∀x,dm (Q x)):dm fun s=>(P s).bind Q:=fun s y t e=>by
 have e:(P s).bind Q= .ok y t:=e;cases hp:P s with
 |ok x s'=>
  rw[hp]at e
  have:=h _ _ _ hp;have:=k x _ _ _ e;omega
 |no w=>rw[hp]at e;cases e
theorem dm.map{α β:Type}{P:PS->R α}{f:α->β}(h:dm P):dm fun s=>(P s).map f:=fun s y t e=>by
 have e:(P s).map f= .ok y t:=e;cases hp:P s with
 |ok x s'=>rw[hp]at e;cases e;exact h _ _ _ hp
 |no w=>rw[hp]at e;cases e
theorem dm.ok{α:Type}(x:α):dm fun s=> .ok x s:=fun s y t e=>by cases e;exact bS _
theorem dm.ite{α:Type}{c:PS->Prop}[∀s,Decidable (c s)]{P Q:PS->R α}(h:dm P)(k:dm Q):dm fun s=>if c s then P s else Q s:=fun s y t e=>by
 dsimp only at e;split at e
 ·exact h _ _ _ e
 ·exact k _ _ _ e
theorem dm.loop{α:Type}{c:PS->Bool}{f:α->PS->R α}(h:∀x,dm (f x)):∀n x,dm (cR c f n x):=by
 intro n;induction n with
 |zero=>intro x s y t e;cases e
 |succ n ih=>intro x;exact .ite ((h x).bind ih) (.ok x)
theorem dm.I4{α:Type}{c:PS->Bool}{f:α->PS->R α}(h:∀x,dm (f x))(x:α):dm fun s=>cR c f (s.l.length+1) x s:=fun s=>dm.loop h _ x s
theorem eV(e:Nat)(w:List Nat):dm (aE e w):= .take _ _
theorem oa(e:Nat):dm (gY e):= .take _ _
theorem LL(e:Nat):dm (uJ e):= .map (.take _ _)
theorem LJ(e:Nat){ix:PS->R ζ}(h:dm ix):dm (fC e ix):=
 .ite ((eV e _).bind fun _=>h.bind fun _=>(eV e _).map) (.ite (LL e).map (oa e).map)
theorem SQ(e:Nat){at':PS->R ζ}(h:dm at'):dm (lx e at'):=h.bind fun x=> .I4 (fun x=>(eV e _).bind fun _=>h.map) x
theorem aa4(e:Nat){pr:PS->R ζ}(h:dm pr):dm (wm e pr):=h.bind fun x=> .I4 (fun x s y t k=>((eV e s.hd).bind fun _=>h.map) s y t k) x
theorem n_(e k:Nat):dm (aC e k):=by
 induction k with
 |zero=>intro s x t h;cases h
 |succ k ih=>exact aa4 e (SQ e (LJ e ih))
theorem F9(e:Nat){ix:PS->R ζ}(h:dm ix):dm (kg e ix):=
 (oa e).bind fun _=> .ite ((eV e _).bind fun _=>h.bind fun _=>(dm.ite ((eV e _).bind fun _=>h.map) (.ok _)).bind fun _=>(eV e _).map) (.ok _)
theorem LM(e:Nat){ix:PS->R ζ}(h:dm ix):dm (uY e ix):=(oa e).bind fun _=>(eV e _).bind fun _=>h.bind fun _=>(eV e _).map
end Go.Θ
namespace Go.Θ.Tz
open Go.Θ
variable{u:Nat}
attribute [local simp] exec dY dP eX aI dw fA eN aK fL bQ iu iE iM jd lG AV.cells newVar iX rd wr gT single dk cE e_ ew κ cK RV.get cL fT kz
def pK(u:Nat){α:Type}(Rel:List AV->RS->Prop)(f:FuncId)(args:List AV)(P:PS->R α)(E:α->AV->Prop)(a:RS):Prop:=
 ∀(B:List θ) (p:Nat) (cs:List AV),p<B.length->Rel cs a->∃v x ah b,(∀T,ab (C u) (.fn (.func f) [] []) (.μ p 0::args) {ε:=B.set p (.cells cs),η:=T}=some (v,{ε:=B.set p (.cells ah),η:=T}))/\Rel ah b/\aF P a x b/\E x v
def OI(l:List Tok):Nat:=match l.getLast? with
 |some t=>t.at_+t.text.length
 |none=>0
structure _root_.Go.Θ.Tok.Ok (t:Tok):Prop where
 str:du t.text
 ne:t.text≠[]
 c8:0<=t.c8->t.kind<=2/\∀w∈[[40],[41],[91],[93],[123],[125],[44],[59],[58],[61],[43],[45],[42]]++AE,t.text≠w
 zero:t.kind=0->t.c8=t.at_
 pos:t.at_+t.text.length<4000000000
 num:t.kind=2->t.c8<0->t.text.length<=2/\∀b∈t.text,ca b=true
section
variable(s:List Nat)(all:List Tok)(c:ρ)
def cM(item:AV)(cs:List AV)(a:RS):Prop:=
 ∃(k:Nat) (wr:Int),cs=[.str s,.list c (all.map Tok.bn),.n k,.n wr,item]/\k<=all.length/\match a with
  | .r st=>wr= -1/\all.drop k=st.l/\OI (all.take k)=st.last
  | .w w=>wr=(w:Int)
variable{s all c}{item:AV}
theorem OO{l:List Tok}{k:Nat}{t:Tok}{r:List Tok}(h:l.drop k=t::r):k<l.length/\l[k]?=some t/\l.drop (k+1)=r:=by
 have hk:k<l.length:=by
  rcases da k l.length with h1|h1
  ·exact h1
  ·rw[List.drop_eq_nil_of_le h1]at h;cases h
 rw[nk hk]at h;injection h with h1 h2
 exact⟨hk,by rw[dn hk,h1],h2⟩
def rb(s:List Nat)(all:List Tok)(k:Nat):Tok:=match all[k]? with
 |some t=>t
 |none=>⟨s.length,0,[],-1⟩
theorem f291(B:List θ)(p:Nat)(hp:p<B.length)(k:Nat)(wr:Int)(T:List Nat)(hl:all.length<1000000000):
  kf u 291 [.μ p 0] {ε:=B.set p (.cells [.str s,.list c (all.map Tok.bn),.n k,.n wr,item]),η:=T}=some ((rb s all k).bn,{ε:=B.set p (.cells [.str s,.list c (all.map Tok.bn),.n k,.n wr,item]),η:=T}):=by
 refine dI (g:=Hr) rfl rfl rfl ?_;have hg:∀cs,(B.set p (θ.cells cs))[p]?=some (.cells cs):=fun cs=>by simp[hp]
 simp only[az,aJ,exp,nq,hp,if_true,Hr,RL];unfold rb;cases hk:all[k]? with
 |some t=>
  have ψ:=EC hk
  have eQ:(k:Int)<all.length:=by omega
  have xq:all[k]=t:=by rw[dn ψ]at hk;simpa using hk
  simp[bz,hg,ψ,eQ,xq,Tok.bn];rfl
 |none=>
  have dD:=List.getElem?_eq_none_iff.1 hk
  have eQ:¬k<all.length:=by omega
  simp[bz,hg,eQ,dd,Tok.bn];rfl
theorem aaI{C:iL}{f:FuncId}{fst args cap:List AV}{m:Mem}:ab C (.fn (.func f) fst cap) args m=ab C (.fn (.func f) [] []) (fst++args++cap) m:=by
 apply Option.ext;intro r;rw[oO,oO];have:∀k,cv C k (.fn (.func f) fst cap) args m=cv C k (.fn (.func f) [] []) (fst++args++cap) m:=fun k=>by
  cases k with
  |zero=>rfl
  |succ k=>simp only[cv,body,bE,dF]
 simp only[this]
theorem We{l:List Tok}{k:Nat}{t:Tok}(h:l[k]?=some t):OI (l.take (k+1))=t.at_+t.text.length:=by rw[List.take_add_one,h];simp[OI]
def Tx(all:List Tok)(f:Tok->Bool)(x:List Nat):Prop:=x=[]\/∃t∈all,x=t.text/\f t=true/\t.c8<0
theorem Tx.str{f:Tok->Bool}{x:List Nat}(ai:∀t∈all,t.Ok)(h:Tx all f x):du x:=by
 rcases h with rfl|⟨t,ht,rfl,_⟩
 ·exact fun b hb=>by cases hb
 ·exact(ai t ht).str
theorem f265{fv:AV}{f:Tok->Bool}{B:List θ}{p:Nat}{cs:List AV}{a:RS}(hp:p<B.length)(hl:all.length<1000000000)(ai:∀t∈all,t.Ok)(hx:exp B.length false fv=fv)
  (hf:∀t∈all,∀T,ab (C u) fv [t.bn] {ε:=B.set p (.cells cs),η:=T}=some (.bool (f t),{ε:=B.set p (.cells cs),η:=T})) (h:cM s all c item cs a):
  ∃x ah b,(∀T,kf u 265 [.μ p 0,fv] {ε:=B.set p (.cells cs),η:=T}=some (.str x,{ε:=B.set p (.cells ah),η:=T}))/\cM s all c item ah b/\aF (ko s.length f) a x b/\Tx all f x:=by
 obtain⟨k,wr,rfl,hk,h⟩:=h;have hg:∀cs,(B.set p (θ.cells cs))[p]?=some (.cells cs):=fun cs=>by simp[hp]
 have lU:∀T,ab (C u) (.fn (.func 291) [.μ p 0] []) [] {ε:=B.set p (.cells [.str s,.list c (all.map Tok.bn),.n k,.n wr,item]),η:=T}=_:=fun T=>(aaI (C:=C u)).trans (f291 (item:=item) (s:=s) (c:=c) B p hp k wr T hl);have go:∀(x:List Nat) (k':Nat) (P4:Int),(κ (C u).gl (ab (C u)) KN {env:=[.μ p 0,fv],loc:=[],mem:= {ε:=B.set p (.cells [.str s,.list c (all.map Tok.bn),.n k,.n wr,item]),η:=[]}} fun r=>(∀i,r.1≠ .exit i)/\r.2.mem= {ε:=B.set p (.cells [.str s,.list c (all.map Tok.bn),.n k',.n P4,item]),η:=[]}/\aK r.2.env 4= .str x)→
   ∀T,kf u 265 [.μ p 0,fv] {ε:=B.set p (.cells [.str s,.list c (all.map Tok.bn),.n k,.n wr,item]),η:=T}=some (.str x,{ε:=B.set p (.cells [.str s,.list c (all.map Tok.bn),.n k',.n P4,item]),η:=T}):=by
  intro x k' P4 hr T;refine kF (g:=Hi) rfl rfl rfl (by simp) ?_;have eL:([]++[AV.μ p 0,fv]++[]).map (exp (B.set p (θ.cells [.str s,.list c (all.map Tok.bn),.n k,.n wr,item])).length false)=[AV.μ p 0,fv]:=by simp[exp,hp,hx]
  rw[eL];exact hr.mono fun r ⟨h1,h2,h3⟩=>⟨h1,⟨[],by rw[h2,dF]⟩,[.str x],by simp[Hi,h3],rfl⟩
 unfold KN at go;have DV:Tx all f []:= .inl rfl;have Ig:rb s all k=match a with
   | .r ⟨_,[]⟩=>⟨s.length,0,[],-1⟩
   | .r ⟨_,t::_⟩=>t
   | .w _=>rb s all k:=by
  cases a with
  |w w=>rfl
  |r st=>
   obtain⟨la,l⟩:=st
   cases l with
   |nil=>
    have:all[k]?=none:=h_ (by have:=congrArg lC h.2.1;simp at this;omega)
    simp[rb,this]
   |cons t l=>simp[rb,(OO h.2.1).2.1]
 cases a with
 |w w=>
  have hw:0<=wr:=by rw[h];omega
  refine⟨[],_,.w w,go [] k wr ?_,⟨k,wr,rfl,hk,h⟩,rfl,DV⟩;simp[bz,lU,hg,Tok.bn,hw]
 |r st=>
  obtain⟨rfl,h1,h2⟩:=h
  obtain⟨la,l⟩:=st;dsimp only at h1 h2;cases l with
  |nil=>
   simp only at Ig
   rw[Ig]at lU;refine⟨[],_,.w s.length,go [] k s.length ?_,⟨k,s.length,rfl,hk,rfl⟩,rfl,DV⟩;simp[bz,lU,hg,Tok.bn,Mem.put,Mem.ν,ν,ba,lo]
  |cons t l=>
   simp only at Ig
   rw[Ig]at lU;obtain⟨ψ,xq,yY⟩:=OO h1;have Γ:t∈all:=List.mem_of_getElem? xq;have hf:=hf t Γ;have Vq:=ai t Γ;simp only[Tok.bn]at hf;by_cases hz:t.kind=0
   ·have sn:((t.kind:Int)==0)=true:=beq_iff_eq.2 (by omega);refine⟨[],_,.w t.at_,go [] k t.at_ ?_,⟨k,t.at_,rfl,hk,rfl⟩,by simp[aF,ko,hz],DV⟩;simp[bz,lU,hg,Tok.bn,Mem.put,Mem.ν,ν,ba,lo,sn]
   have sn:((t.kind:Int)==0)=false:=beq_eq_false_iff_ne.2 (by omega);cases xm:f t with
   |false=>
    rw[xm]at hf
    refine⟨[],_,.w t.at_,go [] k t.at_ ?_,⟨k,t.at_,rfl,hk,rfl⟩,by simp[aF,ko,xm],DV⟩;simp[bz,lU,hg,Tok.bn,Mem.put,Mem.ν,ν,ba,lo,sn,hf]
   |true=>
    rw[xm]at hf
    by_cases hw:0<=t.c8
    ·refine⟨[],_,.w t.c8.toNat,go [] k t.c8 ?_,⟨k,t.c8,rfl,hk,by omega⟩,by simp[aF,ko,xm,hw,hz],DV⟩;simp[bz,lU,hg,Tok.bn,Mem.put,Mem.ν,ν,ba,lo,sn,hf,hw]
    ·have gh:bC .i64 ((k:Int)+1)=(k:Int)+1:=wrap_i64 (by omega) (by omega);refine⟨t.text,_,.r ⟨t.at_+t.text.length,l⟩,go t.text (k+1) (-1) ?_,⟨k+1,-1,rfl,by omega,rfl,yY,We xq⟩,by simp[aF,ko,xm,hw,hz],.inr ⟨t,Γ,rfl,xm,by omega⟩⟩;simp[bz,lU,hg,Tok.bn,Mem.put,Mem.ν,ν,ba,lo,sn,hf,hw,gh]
theorem f266{B:List θ}{i:Nat}{w:List Nat}(h:B[i]?=some (.cells [.str w]))(t:Tok)(T:List Nat):ab (C u) (.fn (.func 266) [] [.μ i 0]) [t.bn] {ε:=B,η:=T}=some (.bool (t.text==w),{ε:=B,η:=T}):=by
 refine sQ (g:=Hj) rfl rfl rfl ?_;have hi:=EC h;have eL:([]++[t.bn]++[AV.μ i 0]).map (exp B.length false)=[t.bn,.μ i 0]:=by simp[Tok.bn,exp,aX,hi]
 dsimp only;rw[eL];clear hi;by_cases hw:t.text=w<;>simp[Hj,RC,Tok.bn,bz,h,hw]
def Eu{α:Type}:α->AV->Prop:=fun _ v=>v= .aQ []
theorem f226(w:List Nat)(hl:all.length<1000000000)(ai:∀t∈all,t.Ok)(a:RS):pK u (cM s all c item) 226 [.str w] (aE s.length w) Eu a:=by
 intro B p cs hp h;have e0:∀cs,(B++[θ.cells [.str w]]).set p (.cells cs)=B.set p (.cells cs)++[.cells [.str w]]:=fun cs=>nr _ _ hp;obtain⟨x,ah,b,h1,h2,h3,h4⟩:=f265 (u:=u) (fv:= .fn (.func 266) [] [.μ B.length 0]) (f:=fun t=>t.text==w) (B:=B++[.cells [.str w]]) (p:=p) (cs:=cs) (by simp;omega) hl ai
  (by simp[exp,aX,Fn.below]) (fun t _ T=>f266 (by rw[e0];simp) t T) h
 refine⟨.aQ [],x,ah,b,fun T=>?_,h2,h3,rfl⟩;simp only[e0]at h1;refine kF (g:=G7) rfl rfl rfl (by simp) ?_;simp[exp,hp,G7,c226,Mem.push,Mem.ν,ν,h1];rfl
theorem OP{k:Nat}{st:PS}(h:all.drop k=st.l):(rb s all k).text=st.hd/\(rb s all k).kind=st.kd/\(rb s all k).at_=st.at_ s.length:=by
 obtain⟨la,l⟩:=st;cases l with
 |nil=>
  have:all[k]?=none:=h_ (by have:=congrArg lC h;simp at this;omega)
  simp[rb,this,PS.hd,PS.kd,PS.at_]
 |cons t l=>simp[rb,(OO h).2.1,PS.hd,PS.kd,PS.at_]
theorem f268(ws:List (List Nat))(Ec:ws.length<1000000000)(hl:all.length<1000000000){B:List θ}{p:Nat}{cs:List AV}{a:RS}(hp:p<B.length)(h:cM s all c item cs a)(T:List Nat):
  kf u 268 [.μ p 0,.list .full (ws.map AV.str)] {ε:=B.set p (.cells cs),η:=T}=some (.bool (ws.any fun w=>a.a_ w),{ε:=B.set p (.cells cs),η:=T}):=by
 obtain⟨k,wr,rfl,hk,h⟩:=h;have hg:∀cs,(B.set p (θ.cells cs))[p]?=some (.cells cs):=fun cs=>by simp[hp]
 have lU:=fun T=>f291 (u:=u) (item:=item) (s:=s) (c:=c) B p hp k wr T hl;have zV:=fun t m=>f65 (u:=u) .any (.inr rfl) ws t (by omega) m;refine dI (g:=Dc) rfl rfl rfl ?_;have eL:[AV.μ p 0,.list .full (ws.map AV.str)].map (exp (B.set p (θ.cells [.str s,.list c (all.map Tok.bn),.n k,.n wr,item])).length false)=[AV.μ p 0,aZ .any ws]:=by simp[exp,fe,hp,aZ,ρ.exp,Function.comp]
 dsimp only at eL⊢;rw[eL];cases a with
 |w w=>
  have hw:¬wr<0:=by omega
  simp[Dc,KO,hg,hw,RS.a_,RS.yF]
 |r st=>
  obtain⟨rfl,h1,h2⟩:=h
  have e1:=(OP (s:=s) h1).1;simp only[Tok.bn,e1]at lU;have e2:(ws.any fun w=>(RS.r st).a_ w)=ws.contains st.hd:=by simp only[RS.a_,RS.yF,PS.a_,List.any_beq]
  simp[Dc,KO,hg,lU,zV,e2]
theorem f267(t:Tok)(m:Mem):kf u 267 [t.bn] m=some (.bool (t.kind==1&& !vt t.text),m):=by
 have g0:(C u).gl 0= .ref [aZ .any fu]:=rfl;have g1:(C u).gl 1= .ref [aZ .any uF]:=rfl;have zV:=fun ws h t m=>f65 (u:=u) .any (.inr rfl) ws h t m;have hw:vt t.text=(uF.contains t.text||fu.contains t.text):=by simp[vt,AE,List.contains_eq_any_beq]
 refine sQ (g:=Bc) rfl rfl rfl ?_;have eL:([]++[t.bn]++[]).map (exp m.ε.length false)=[t.bn]:=by simp[Tok.bn,exp,aX]
 rw[eL];have qg:=fun m=>zV fu t.text (by decide) m;have qk:=fun m=>zV uF t.text (by decide) m;by_cases hk:t.kind=1
 ·have df:((t.kind:Int)==1)=true:=beq_iff_eq.2 (by omega);rw[hw,hk];cases hg:fu.contains t.text with
  |true=>rw[hg]at qg;simp[Bc,FK,Tok.bn,bz,df,g0,g1,qg]
  |false=>
   rw[hg]at qg
   simp[Bc,FK,Tok.bn,bz,df,g0,g1,qg,qk]
 ·have df:((t.kind:Int)==1)=false:=beq_eq_false_iff_ne.2 (by omega);have gE:(t.kind==1)=false:=beq_eq_false_iff_ne.2 hk;simp[Bc,FK,Tok.bn,bz,df,gE]
def Es:List Nat->AV->Prop:=fun x v=>v= .str x/\du x
theorem f227(hl:all.length<1000000000)(ai:∀t∈all,t.Ok)(a:RS):pK u (cM s all c item) 227 [] (gY s.length) Es a:=by intro B p cs hp h;obtain⟨x,ah,b,h1,h2,h3,h4⟩:=f265 (u:=u) (fv:= .fn (.func 267) [] []) (f:=fun t=>t.kind==1&& !vt t.text) (B:=B) (p:=p) (cs:=cs) hp hl ai (by simp[exp,aX,Fn.below]) (fun t _ T=>f267 t _) h;refine⟨.str x,x,ah,b,fun T=>?_,h2,h3,rfl,h4.str ai⟩;refine kF (g:=G8) rfl rfl rfl (by simp) ?_;simp[exp,hp,G8,c227,h1];rfl
theorem f270(t:Tok)(m:Mem):kf u 270 [t.bn] m=some (.bool (t.kind==2),m):=by
 refine sQ (g:=Dd) rfl rfl rfl ?_;have eL:([]++[t.bn]++[]).map (exp m.ε.length false)=[t.bn]:=by simp[Tok.bn,exp,aX]
 rw[eL];by_cases hk:t.kind=2
 ·simp[Dd,KP,Tok.bn,bz,hk]
 ·have df:((t.kind:Int)==2)=false:=beq_eq_false_iff_ne.2 (by omega);have gE:(t.kind==2)=false:=beq_eq_false_iff_ne.2 hk;simp[Dd,KP,Tok.bn,bz,df,gE]
def En:Nat->AV->Prop:=fun x v=>v= .n x/\x<100
theorem agz{t:Tok}(h:t.Ok)(hk:t.kind=2)(hw:t.c8<0):zK 0 t.text=some (numOf t.text)/\numOf t.text<100/\∃b r,t.text=b::r/\r.length<=17/\ca b=true:=by
 obtain⟨h1,h2⟩:=h.num hk hw;have h3:=h.ne;generalize t.text=x at*
 match x,h1,h2,h3 with
 |[a],_,h2,_=>
  have:=h2 a (by simp)
  have hd:=F6 this;exact⟨by simp[zK,numOf,hd],by simp[numOf];omega,a,[],rfl,by simp,this⟩
 |[a,b],_,h2,_=>
  have h4:=h2 a (by simp)
  have hd:=F6 h4;have rV:=F6 (h2 b (by simp));exact⟨by simp[zK,numOf,hd,rV];omega,by simp[numOf];omega,a,[b],rfl,by simp,h4⟩
theorem f230(hl:all.length<1000000000)(ai:∀t∈all,t.Ok)(a:RS):pK u (cM s all c item) 230 [] (uJ s.length) En a:=by
 intro B p cs hp h;obtain⟨x,ah,b,h1,h2,h3,h4⟩:=f265 (u:=u) (fv:= .fn (.func 270) [] []) (f:=fun t=>t.kind==2) (B:=B) (p:=p) (cs:=cs) hp hl ai (by simp[exp,aX,Fn.below]) (fun t _ T=>f270 t _) h;have hx:∃e,(∀m,kf u 269 [.str x] m=some (.aQ [.n (numOf x),e],m))/\numOf x<100:=by
  rcases h4 with rfl|⟨t,ht,rfl,hf,hw⟩
  ·exact⟨_,fun m=>BV (p:=uQ 350) (by rfl) (by simp[exp,uQ,numOf];rfl),by decide⟩
  ·obtain⟨k1,k2,b,r,k3,k4,k5⟩:=agz (ai t ht) (by simpa using hf) hw;exact⟨.gy,fun m=>BV (p:=uQ 350) (by rfl) (by rw[k3]at k1⊢;simp[exp,uQ,k1,k4,k5]),k2⟩
 obtain⟨e,hx,BF⟩:=hx;refine⟨.n (numOf x),numOf x,ah,b,fun T=>?_,h2,h3.map numOf,rfl,BF⟩;refine kF (g:=G9) rfl rfl rfl (by simp) ?_;simp[exp,hp,G9,Rp,h1,hx]
end
end Go.Θ.Tz
namespace Go.Θ
open Tz
theorem akl(k:Nat):∀n (l:List Nat) t,t∈oG k n l->∃m j b r,t=gz m (b::r)/\l.drop j=b::r/\m=n+j:=by
 induction k with
 |zero=>intro n l t h;cases h
 |succ k ih=>
  intro n l t h
  simp only[oG]at h;split at h
  ·cases h
  ·rename_i hl;have φ:∃b r,l.drop (bY false l)=b::r:=by
    cases hr:l.drop (bY false l)with
    |nil=>have:=congrArg lC hr;simp at this;omega
    |cons b r=>exact⟨b,r,rfl⟩
   obtain⟨b,r,hr⟩:=φ;rw[hr]at h;split at h
   ·rw[fU.1 h];exact⟨_,_,b,r,rfl,hr,rfl⟩
   ·rcases cy.1 h with rfl|h
    ·exact⟨_,_,b,r,rfl,hr,rfl⟩
    ·obtain⟨m,j,b',r',h1,h2,h3⟩:=ih _ _ _ h;rw[<-hr]at h2 h3;rw[oL,oL]at h2;exact⟨m,_,b',r',h1,h2,by omega⟩
def Kp:List (List Nat):=[[40],[41],[91],[93],[123],[125],[44],[59],[58],[61],[43],[45],[42]]++AE
theorem Y5:∀w∈Kp,w.length<=8:=by decide
theorem Y4:∀w∈Kp,∀b∈w.head?,ca b=false:=by decide
theorem Y6:∀w∈Kp,∀b∈w.head?,isLet b=true\/b∈qn:=by decide
theorem ajh(f:Nat->Bool)(l:List Nat):∀b∈l.take (runN f l),f b=true:=by
 induction l with
 |nil=>simp[runN]
 |cons a l ih=>
  simp only[runN]
  by_cases h:f a=true
  ·rw[if_pos h,sL];intro b hb;rcases cy.1 hb with rfl|hb
   ·exact h
   ·exact ih b hb
  ·rw[if_neg h];simp
theorem akj(m b:Nat)(r:List Nat)(hs:du (b::r))(hm:m+(b::r).length<4000000000):(gz m (b::r)).Ok:=by
 have hlen:=Yg m (b::r);have jQ:=Fb m b r;have jz:(gz m (b::r)).at_=m:=by simp only[gz];(repeat' split)<;>rfl
 have dh:∀k,du ((b::r).take k):=fun k x hx=>hs x (qt hx);have φ:(gz m (b::r)).text≠[]:=fun h=>by rw[h]at jQ;cases jQ
 have qV:du (gz m (b::r)).text:=by
  simp only[gz];split
  ·exact dh _
  ·split
   ·exact dh _
   ·split<;>exact fun x hx=>by rw[fU.1 hx];exact hs b (by simp)
 have xx:(gz m (b::r)).at_+(gz m (b::r)).text.length<4000000000:=by rw[jz];omega
 refine⟨qV,φ,?_,?_,xx,?_⟩
 ·simp only[gz];by_cases h1:isLet b=true
  ·rw[if_pos h1];intro hw;refine⟨by simp,fun w mg he=>?_⟩;have h8:=Y5 w mg;rw[<-he]at h8;have:=zZ isLet (b::r);simp only[lD]at h8;by_cases h:8<runN isLet (b::r)
   ·omega
   ·simp[h]at hw
  ·rw[if_neg h1];by_cases h2:ca b=true
   ·rw[if_pos h2];intro hw;refine⟨by simp,fun w mg he=>?_⟩;have hr:0<runN ca (b::r):=by simp[runN,h2]
    obtain⟨k,hk⟩:∃k,runN ca (b::r)=k+1:=⟨_,(Nat.sub_add_cancel hr).symm⟩;dsimp only at he;rw[hk,sL]at he;have:=Y4 w mg b (by rw[<-he];rfl);rw[h2]at this;cases this
   ·rw[if_neg h2];by_cases h3:b∈qn
    ·rw[if_pos h3];intro hw;simp at hw
    ·rw[if_neg h3];intro _;refine⟨by simp,fun w mg he=>?_⟩;rcases Y6 w mg b (by rw[<-he];rfl)with h|h
     ·exact h1 h
     ·exact h3 h
 ·simp only[gz];split
  ·intro h;cases h
  ·split
   ·intro h;cases h
   ·split
    ·rename_i h3;intro h;dsimp only at h;rw[h]at h3;exact absurd h3 (by decide)
    ·intro _;rfl
 ·simp only[gz];split
  ·intro h;cases h
  ·split
   ·rename_i h2;intro _ hw;refine⟨?_,ajh ca (b::r)⟩;have:=zZ ca (b::r);simp only[lD];by_cases ha:1<runN ca (b::r)/\b=48
    ·have hw:(if 1<runN ca (b::r)/\b=48 then(m:Int)+1 else if 2<runN ca (b::r)then(m:Int)+2 else-1)<0:=hw;rw[if_pos ha]at hw;omega
    ·by_cases h:2<runN ca (b::r)
     ·have hw:(if 1<runN ca (b::r)/\b=48 then(m:Int)+1 else if 2<runN ca (b::r)then(m:Int)+2 else-1)<0:=hw;rw[if_neg ha,if_pos h]at hw;omega
     ·omega
   ·split
    ·rename_i h3;intro h;dsimp only at h;rw[h]at h3;exact absurd h3 (by decide)
    ·intro h;cases h
theorem akp{s:List Nat}(hs:du s)(hl:s.length<4000000000):∀t∈cj s,t.Ok:=by intro t ht;obtain⟨m,j,b,r,rfl,h2,h3⟩:=akl _ _ _ _ ht;have hlen:=congrArg lC h2;simp only[k_]at hlen;refine akj m b r (fun x hx=>hs x (tW (by rw[h2];exact hx))) ?_;simp only[cD]at*;omega
end Go.Θ
namespace Go.Θ.Tz
open Go.Θ
variable{u:Nat}
attribute [local simp] exec dY dP eX aI dw fA eN aK fL bQ iu iE iM jd lG AV.cells newVar iX rd wr gT single dk cE e_ ew κ cK RV.get cL fT kz
theorem zP:du []:=fun b hb=>by cases hb
theorem E5(w:List Nat):shaped false 1 (.str w)=true:=rfl
theorem EG(m:Mem)(w:List Nat):m.ν (.str w)= .str w:=rfl
theorem L5(x:ζ):x.four.take 4=x.four:=fo (by rw[x.ft];omega)
theorem PO(x:ζ):shaped true 4 (.agg x.four)=true:=by simp[shaped,x.ft]
theorem O8(m:Mem)(x:ζ):m.ν (.agg x.four)= .agg x.four:=by rw[<-ζ.fD];exact ζ.tF x
theorem ζ.fx(x:ζ):x.Ok->Fx x.av:=by
 refine ζ.jR (Q:=fun x=>x.Ok->Fx x.av) (fun k n s c l ih h=>?_) x;simp only[ζ.Ok]at h;have hl:bN (ζ.χ l) (ζ.χ l):=by rw[ζ.eo];exact bN.of ζ.av l fun y hy=>ih y hy (ζ.iB h.2 y hy)
 have:=Dv.list c hl;rw[fR h.1]at this;exact .agg (.cons (.int _ _) (.cons (.int _ _) (.cons (.str _) (.cons this .nil))))
theorem oR{x:ζ}(h:x.gA):bN x.four x.four:=by have:=ζ.fx x h.1;rw[ζ.fD]at this;exact⟨by simpa only[pf]using this.1,by simpa only[eB,AV.agg.injEq]using this.2⟩
theorem bN.tE{l ws:List AV}(h:bN l ws)(m:Mem):m.ν (.agg l)= .agg l:=(Dv.agg h).ν
attribute [local simp] E5 EG L5 PO O8 ζ.ft
theorem po{f:FuncId}{g:AF}{args:List AV}{B:List θ}{p:Nat}{cs ah:List AV}{v:AV}(h1:(C u).gQ f=none)(h2:(C u).fs f=some g)(h3:(C u).bf f=false)(hp:p<B.length)(hx:args.map (exp B.length false)=args)
  (hr:κ (C u).gl (ab (C u)) g.code {env:= .μ p 0::args,loc:=[],mem:= {ε:=B.set p (.cells cs),η:=[]}} fun r=>(∀i,r.1≠ .exit i)/\(∃bs,r.2.mem=(kV B p ah bs []))/\∃l,cK r.2 g.results=some l/\aO r.2.mem.ε B.length 8 (cL l)=v) (T:List Nat):
  ab (C u) (.fn (.func f) [] []) (.μ p 0::args) {ε:=B.set p (.cells cs),η:=T}=some (v,{ε:=B.set p (.cells ah),η:=T}):=by
 refine kF h1 h2 h3 (by simp) ?_;have eL:([]++(AV.μ p 0::args)++[]).map (exp (B.set p (θ.cells cs)).length false)= .μ p 0::args:=by simp only[bE,dF,az,nq,hx,exp,hp,if_true]
 dsimp only;rw[eL,nq];exact hr
def Ei:ζ->AV->Prop:=fun x v=>v= .agg x.four/\x.gA
theorem _root_.Go.Θ.ζ.gA.L6{x:ζ}(h:x.gA)(bs:List θ)(n:Nat):aO bs n 8 (.agg x.four)= .agg x.four:=by rw[<-ζ.fD];exact ζ.yN bs n 8 x h.1
theorem Qv(m:Mem){X:List AV}(h:X.length=4)(hn:ν (.agg X)= .agg X):gC m true 4 56 27 (.list .nil []) (.list .full [.agg X])=some (.list (.own m.ε.length) [.agg X],m.push (.front 1 4 27)):=by simp[gC,shaped,h,Mem.ν,hn]
theorem Qw(D:List θ)(T:List Nat){X Y:List AV}(h:X.length=4)(h':Y.length=4)(hn:ν (.agg Y)= .agg Y):
  gC {ε:=D++[.front 1 4 27],η:=T} true 4 56 27 (.list (.own D.length) [.agg X]) (.list .full [.agg Y])=some (.list (.own D.length) [.agg X,.agg Y],{ε:=D++[.front 2 4 27],η:=T}):=by
 simp[gC,shaped,h,h',Mem.ν,hn,Mem.put]
section
variable{s:List Nat}{all:List Tok}{c:ρ}{item:AV}(hl:all.length<1000000000)(ai:∀t∈all,t.Ok)
include hl ai
theorem Wq{B:List θ}{p:Nat}{cs:List AV}{a:RS}(hp:p<B.length)(h:cM s all c item cs a):
  ∃tk:Tok,(∀T,kf u 291 [.μ p 0] {ε:=B.set p (.cells cs),η:=T}=some (tk.bn,{ε:=B.set p (.cells cs),η:=T}))/\∀st,a= .r st->tk.text=st.hd/\tk.kind=st.kd/\tk.at_=st.at_ s.length:=by
 obtain⟨k,wr,rfl,hk,h⟩:=h;refine⟨rb s all k,fun T=>f291 B p hp k wr T hl,fun st ha=>?_⟩;subst ha;exact OP h.2.1
theorem f315{k:Nat}(ih:∀a:RS,a.sz<k->pK u (cM s all c item) 296 [] (aC s.length k) Ei a)(a:RS)(ha:a.sz<k+1):pK u (cM s all c item) 315 [] (fC s.length (aC s.length k)) Ei a:=by
 intro B p cs hp h;obtain⟨tk,lU,qQ⟩:=Wq (u:=u) hl ai hp h;have jG:=fun T=>f268 (u:=u) [[40]] (by decide) hl hp h T;simp only[az,aJ,alN,alO,alP]at jG;simp only[Tok.bn]at lU;cases hb:a.a_ [40]with
 |true=>
  rw[hb]at jG
  have jQ:=ub hb (by simp);obtain⟨_,x1,cU,a1,k1,r1,g1,rfl⟩:=f226 (u:=u) (item:=item) [40] hl ai a B p cs hp h;have uA:=g1.take jQ;obtain⟨_,x,cF,a2,k2,r2,g2,rfl,hx⟩:=ih a1 (by omega) B p cU hp r1;obtain⟨_,x3,db,a3,k3,r3,g3,rfl⟩:=f226 (u:=u) (item:=item) [41] hl ai a2 B p cF hp r2;refine⟨.agg x.four,x,db,a3,po (g:=w7) rfl rfl rfl hp rfl ?_,r3,?_,rfl,hx⟩
  ·simp[w7,FO,bz,lU,jG,k1,k2,k3];exact hx.L6 _ _
  ·refine aF.as (P:=fun t=>(aE s.length [40] t).bind fun _ t=>(aC s.length k t).bind fun x t=>(aE s.length [41] t).map fun _=>x) (g1.bind (g2.bind (g3.map fun _=>x))) fun t ht=>?_;subst ht;exact if_pos hb
 |false=>
  rw[hb]at jG
  have gG:∀st,a= .r st->st.a_ [40]=false:=fun st hs=>by subst hs;exact hb
  have e0:du []:=fun b hb=>by cases hb
  by_cases hk:tk.kind=2
  ·obtain⟨_,n,cU,a1,k1,r1,g1,rfl,hn⟩:=f230 (u:=u) (item:=item) hl ai a B p cs hp h;have hx:(ζ.mk 1 n [] .nil []).gA:=⟨⟨.inl rfl,trivial⟩,e0,trivial⟩;refine⟨.agg (ζ.mk 1 n [] .nil []).four,_,cU,a1,po (g:=w7) rfl rfl rfl hp rfl ?_,r1,?_,rfl,hx⟩
   ·have:=hx.L6 (B.set p (.cells cU)) B.length;simp only[ζ.four,ζ.χ]at this⊢;have df:((tk.kind:Int)==2)=true:=beq_iff_eq.2 (by omega);simp[w7,FO,bz,lU,jG,k1,df,dd,this]
   ·refine aF.as (P:=fun t=>(uJ s.length t).map fun n:Nat=>ζ.mk 1 (n:Int) [] .nil []) (g1.map _) fun t ht=>?_;simp[fC,gG t ht,<-(qQ t ht).2.1,hk]
  ·obtain⟨_,x,cU,a1,k1,r1,g1,rfl,hn⟩:=f227 (u:=u) (item:=item) hl ai a B p cs hp h;have hx:(ζ.mk 2 0 x .nil []).gA:=⟨⟨.inl rfl,trivial⟩,hn,trivial⟩;refine⟨.agg (ζ.mk 2 0 x .nil []).four,_,cU,a1,po (g:=w7) rfl rfl rfl hp rfl ?_,r1,?_,rfl,hx⟩
   ·have:=hx.L6 (B.set p (.cells cU)) B.length;simp only[ζ.four,ζ.χ]at this⊢;have df:((tk.kind:Int)==2)=false:=beq_eq_false_iff_ne.2 (by omega);simp[w7,FO,bz,lU,jG,k1,df,dd,this]
   ·refine aF.as (P:=fun t=>(gY s.length t).map fun n=>ζ.mk 2 0 n .nil []) (g1.map _) fun t ht=>?_;simp[fC,gG t ht,<-(qQ t ht).2.1,hk]
theorem f308{k:Nat}(ih:∀a:RS,a.sz<k->pK u (cM s all c item) 296 [] (aC s.length k) Ei a)(a:RS)(ha:a.sz<k+1):pK u (cM s all c item) 308 [] (lx s.length (fC s.length (aC s.length k))) Ei a:=by
 intro B p cs hp h;have EW:=fun a ha=>f315 (u:=u) hl ai ih a ha;have qL:=LJ s.length (n_ s.length k);generalize hA:fC s.length (aC s.length k)=A at*;obtain⟨_,x1,cU,a1,k1,r1,g1,rfl,qX⟩:=EW a ha B p cs hp h;have uA:=g1.sz qL;let F:ζ->PS->R ζ:=fun x t=>(aE s.length [42] t).bind fun _ t=>(A t).map fun y=> .mk 5 0 [] .any [x,y];let cc:PS->Bool:=fun t=>t.a_ [42];suffices hm:∃x ah b,(∀T,kf u 308 [.μ p 0] {ε:=B.set p (.cells cs),η:=T}=some (.agg x.four,{ε:=B.set p (.cells ah),η:=T}))/\cM s all c item ah b/\aF (cR cc F (a1.sz+1) x1) a1 x b/\x.gA by obtain⟨x,ah,b,m1,m2,m3,m4⟩:=hm;exact⟨_,x,ah,b,m1,m2,g1.bind (Q:=fun x t=>cR cc F (t.l.length+1) x t) m3.fuel,rfl,m4⟩
 have dZ:κ (C u).gl (ab (C u)) RQ {env:=[.μ p 0],loc:=[],mem:= {ε:=B.set p (.cells cs),η:=[]}} fun r=>(∀i,r.1≠ .exit i)/\∃L x ah b,r.2.mem= {ε:=B.set p (.cells ah),η:=[]}/\aK r.2.env 2= .aj 2 0 0/\bQ r.2.loc 2=some (0,.cells L)/\bN L x.four/\cM s all c item ah b/\aF (cR cc F (a1.sz+1) x1) a1 x b/\x.gA:=by
  refine Δ (fun st=>st.e 0= .μ p 0/\st.e 2= .aj 2 0 0/\(∃z,st.q 2=some (0,.cells z)/\z.length=4)/\st.q 3=none/\st.mem= {ε:=B.set p (.cells cs),η:=[]}) (by simp[bz]) fun s1 ⟨h1,h2,⟨z,h3,hz⟩,h4,h5⟩=>?_;let I:Nat->St->Prop:=fun i st=>st.e 0= .μ p 0/\st.e 2= .aj 2 0 0/\(∃z,st.q 2=some (0,.cells z)/\z.length=4)/\st.e 3= .aj 3 0 0/\∃L x ah b,st.q 3=some (0,.cells L)/\st.mem= {ε:=B.set p (.cells ah),η:=[]}/\bN L x.four/\cM s all c item ah b/\x.gA/\b.sz+i<=a1.sz∧
   ∀y b',aF (cR cc F (a1.sz+1-i) x) b y b'->aF (cR cc F (a1.sz+1) x1) a1 y b'
  refine Δ (I 0) (by
   simp[bz,h1,h2,h3,hz,h4,h5,k1]
   exact⟨by simp[h1],by simp[h2],⟨z,by simp[h3],hz⟩,by simp,x1.four,x1,cU,a1,by simp,rfl,oR qX,r1,qX,bS _,fun _ _ h=>h⟩) fun s1 hI=>?_
  refine bJ (fun st=>st.e 2= .aj 2 0 0/\(∃z,st.q 2=some (0,.cells z)/\z.length=4)/\st.e 3= .aj 3 0 0/\∃L x ah b,st.q 3=some (0,.cells L)/\st.mem= {ε:=B.set p (.cells ah),η:=[]}/\bN L x.four/\cM s all c item ah b/\x.gA/\aF (cR cc F (a1.sz+1) x1) a1 x b) ?_ fun s2 ⟨h2,⟨z,h3,hz⟩,h4,L,x,ah,b,h5,h6,hL,h7,h8,h9⟩=>?_
  ·refine κ.block (κ.kp (I:=I) a1.sz hI fun i st hi Ω=>?_);obtain⟨h1,h2,⟨z,h3,hz⟩,h4,L,x,ah,b,h5,h6,hL,h7,h8,h9,aw⟩:=Ω;have jG:=fun T=>f268 (u:=u) [[42]] (by decide) hl hp h7 T;simp only[az,aJ,alN,alO,alP]at jG;unfold V9;have lr:a1.sz+1-i=(a1.sz-i)+1:=by omega
   rw[lr]at aw;cases hb:b.a_ [42]with
   |false=>
    rw[hb]at jG
    refine κ.done (.exit 0) (fun st=>st.e 2= .aj 2 0 0/\st.q 2=some (0,.cells z)/\st.e 3= .aj 3 0 0/\st.q 3=some (0,.cells L)/\st.mem= {ε:=B.set p (.cells ah),η:=[]}) (by simp[h1,h2,h3,h4,h5,h6,jG]) fun s' ⟨m1,m2,m3,m4,m5⟩=> .inr ⟨by simp,.inl ⟨rfl,.inl ⟨rfl,m1,⟨z,m2,hz⟩,m3,L,x,ah,b,m4,m5,hL,h7,h8,aw x b (aF.Ez hb)⟩⟩⟩
   |true=>
    rw[hb]at jG
    have jQ:=ub hb (by simp);obtain⟨_,w,cF,b2,k2,r2,g2,rfl⟩:=f226 (u:=u) (item:=item) [42] hl ai b B p ah hp h7;have nG:=g2.take jQ;obtain⟨_,y,db,b3,k3,r3,g3,rfl,hy⟩:=EW b2 (by omega) B p cF hp r2;have D4:=g3.sz qL;have hx:(ζ.mk 5 0 [] .any [x,y]).gA:=⟨⟨.inr rfl,h8.1,hy.1,trivial⟩,zP,h8.2,hy.2,trivial⟩;have mQ:L.length=4:=by rw[hL.len,x.ft]
    have lL:L.take 4=L:=fo (by omega);have dX:shaped true 4 (.agg L)=true:=by simp[shaped,mQ]
    have MA:bN [.n 5,.n 0,.str [],.list .full [.agg L,.agg y.four]] (ζ.mk 5 0 [] .any [x,y]).four:=by simp only[ζ.four,ζ.χ,ζ.fD];exact .cons (.int _ _) (.cons (.int _ _) (.cons (.str _) (.cons (.list .full (.cons (.agg hL) (.cons (.agg (oR hy)) .nil))) .nil)))
    refine κ.done .normal (fun st=>st.e 0= .μ p 0/\st.e 2= .aj 2 0 0/\st.q 2=some (0,.cells z)/\st.e 3= .aj 3 0 0/\st.q 3=some (0,.cells [.n 5,.n 0,.str [],.list .full [.agg L,.agg y.four]])/\st.mem= {ε:=B.set p (.cells db),η:=[]}) (by simp[h1,h2,h3,h4,h5,h6,jG,k2,k3,dd,cN,cQ,eK,mQ,lL,dX,bN.tE hL]) fun s' ⟨m1,m2,m3,m4,m5,m6⟩=> .inl ⟨rfl,by omega,m1,m2,⟨z,m3,hz⟩,m4,_,_,db,b3,m5,m6,MA,r3,hx,by omega,fun y' b' hg=>aw y' b' (aF.EB hb (g2.bind (g3.map _)) (by rw[show a1.sz+1-(i+1)=a1.sz-i by omega]at hg;exact hg))⟩
  ·have mQ:L.length=4:=by rw[hL.len,x.ft]
   have lL:L.take 4=L:=fo (by omega);refine κ.done .ret (fun st=>st.e 2= .aj 2 0 0/\st.q 2=some (0,.cells L)/\st.mem= {ε:=B.set p (.cells ah),η:=[]}) (by simp[h2,h3,h4,h5,h6,hz,mQ,lL]) fun s' ⟨m1,m2,m3⟩=>⟨by simp,L,x,ah,b,m3,m1,m2,hL,h7,h9,h8⟩
 obtain⟨r,e1,e2,L,x,ah,b,e3,e4,e5,hL,e6,e7,e8⟩:=dZ;have mQ:L.length=4:=by rw[hL.len,x.ft]
 have lL:L.take 4=L:=fo (by omega);exact⟨x,ah,b,po (g:=Hx) rfl rfl rfl hp rfl ⟨r,e1,e2,⟨[],by simp[e3]⟩,[.agg L],by simp[Hx,e4,e5,mQ,lL],(Dv.agg hL).aO _ _ _⟩,e6,e7,e8⟩
theorem f296{k:Nat}(ih:∀a:RS,a.sz<k->pK u (cM s all c item) 296 [] (aC s.length k) Ei a)(a:RS)(ha:a.sz<k+1):pK u (cM s all c item) 296 [] (aC s.length (k+1)) Ei a:=by
 intro B p cs hp h;have EW:=fun a ha=>f308 (u:=u) hl ai ih a ha;have qL:=SQ s.length (LJ s.length (n_ s.length k));show∃v x ah b,_/\_/\aF (wm s.length (lx s.length (fC s.length (aC s.length k)))) a x b/\_;generalize hA:lx s.length (fC s.length (aC s.length k))=A at*;obtain⟨_,x1,cU,a1,k1,r1,g1,rfl,qX⟩:=EW a ha B p cs hp h;have uA:=g1.sz qL;let F:ζ->PS->R ζ:=fun x t=>(aE s.length t.hd t).bind fun w t=>(A t).map fun y=> .mk (if w=[45]then 4 else 3) 0 [] .any [x,y];let cc:PS->Bool:=fun t=>t.a_ [43]||t.a_ [45];suffices hm:∃x ah b,(∀T,kf u 296 [.μ p 0] {ε:=B.set p (.cells cs),η:=T}=some (.agg x.four,{ε:=B.set p (.cells ah),η:=T}))/\cM s all c item ah b/\aF (cR cc F (a1.sz+1) x1) a1 x b/\x.gA by obtain⟨x,ah,b,m1,m2,m3,m4⟩:=hm;exact⟨_,x,ah,b,m1,m2,g1.bind (Q:=fun x t=>cR cc F (t.l.length+1) x t) m3.fuel,rfl,m4⟩
 have dZ:κ (C u).gl (ab (C u)) RN {env:=[.μ p 0],loc:=[],mem:= {ε:=B.set p (.cells cs),η:=[]}} fun r=>(∀i,r.1≠ .exit i)/\∃L x ah b,r.2.mem= {ε:=B.set p (.cells ah),η:=[]}/\aK r.2.env 2= .aj 2 0 0/\bQ r.2.loc 2=some (0,.cells L)/\bN L x.four/\cM s all c item ah b/\aF (cR cc F (a1.sz+1) x1) a1 x b/\x.gA:=by
  refine Δ (fun st=>st.e 0= .μ p 0/\st.e 2= .aj 2 0 0/\(∃z,st.q 2=some (0,.cells z)/\z.length=4)/\st.q 3=none/\st.mem= {ε:=B.set p (.cells cs),η:=[]}) (by simp[bz]) fun s1 ⟨h1,h2,⟨z,h3,hz⟩,h4,h5⟩=>?_;let I:Nat->St->Prop:=fun i st=>st.e 0= .μ p 0/\st.e 2= .aj 2 0 0/\(∃z,st.q 2=some (0,.cells z)/\z.length=4)/\st.e 3= .aj 3 0 0/\∃L x ah b,st.q 3=some (0,.cells L)/\st.mem= {ε:=B.set p (.cells ah),η:=[]}/\bN L x.four/\cM s all c item ah b/\x.gA/\b.sz+i<=a1.sz∧
   ∀y b',aF (cR cc F (a1.sz+1-i) x) b y b'->aF (cR cc F (a1.sz+1) x1) a1 y b'
  refine Δ (I 0) (by
   simp[bz,h1,h2,h3,hz,h4,h5,k1]
   exact⟨by simp[h1],by simp[h2],⟨z,by simp[h3],hz⟩,by simp,x1.four,x1,cU,a1,by simp,rfl,oR qX,r1,qX,bS _,fun _ _ h=>h⟩) fun s1 hI=>?_
  refine bJ (fun st=>st.e 2= .aj 2 0 0/\(∃z,st.q 2=some (0,.cells z)/\z.length=4)/\st.e 3= .aj 3 0 0/\∃L x ah b,st.q 3=some (0,.cells L)/\st.mem= {ε:=B.set p (.cells ah),η:=[]}/\bN L x.four/\cM s all c item ah b/\x.gA/\aF (cR cc F (a1.sz+1) x1) a1 x b) ?_ fun s2 ⟨h2,⟨z,h3,hz⟩,h4,L,x,ah,b,h5,h6,hL,h7,h8,h9⟩=>?_
  ·refine κ.block (κ.kp (I:=I) a1.sz hI fun i st hi Ω=>?_);obtain⟨h1,h2,⟨z,h3,hz⟩,h4,L,x,ah,b,h5,h6,hL,h7,h8,h9,aw⟩:=Ω;have jG:=fun T=>f268 (u:=u) [[43],[45]] (by decide) hl hp h7 T;have sF:=fun T=>f268 (u:=u) [[45]] (by decide) hl hp h7 T;simp only[az,aJ,alN,alO,alP]at jG sF;unfold V7;have lr:a1.sz+1-i=(a1.sz-i)+1:=by omega
   rw[lr]at aw;have eG:b.yF cc=(b.a_ [43]||b.a_ [45]):=by cases b<;>rfl
   cases hb:(b.a_ [43]||b.a_ [45])with
   |false=>
    rw[hb]at jG
    refine κ.done (.exit 0) (fun st=>st.e 2= .aj 2 0 0/\st.q 2=some (0,.cells z)/\st.e 3= .aj 3 0 0/\st.q 3=some (0,.cells L)/\st.mem= {ε:=B.set p (.cells ah),η:=[]}) (by simp[h1,h2,h3,h4,h5,h6,jG]) fun s' ⟨m1,m2,m3,m4,m5⟩=> .inr ⟨by simp,.inl ⟨rfl,.inl ⟨rfl,m1,⟨z,m2,hz⟩,m3,L,x,ah,b,m4,m5,hL,h7,h8,aw x b (aF.Ez (eG.trans hb))⟩⟩⟩
   |true=>
    rw[hb]at jG
    have jQ:0<b.sz:=by
     rcases Bool.or_eq_true_iff.1 hb with h|h
     ·exact ub h (by simp)
     ·exact ub h (by simp)
    obtain⟨tk,lU,qQ⟩:=Wq (u:=u) hl ai hp h7;simp only[Tok.bn]at lU;have DI:tk.text=b.hd:=by
     cases b with
     |w w=>cases hb
     |r st=>exact(qQ st rfl).1
    obtain⟨_,w,cF,b2,k2,r2,g2,rfl⟩:=f226 (u:=u) (item:=item) tk.text hl ai b B p ah hp h7;have nG:=g2.take jQ;obtain⟨_,y,db,b3,k3,r3,g3,rfl,hy⟩:=EW b2 (by omega) B p cF hp r2;have D4:=g3.sz qL;have mQ:L.length=4:=by rw[hL.len,x.ft]
    have lL:L.take 4=L:=fo (by omega);have dX:shaped true 4 (.agg L)=true:=by simp[shaped,mQ]
    have oV:b.a_ [45]=decide (b.hd=[45]):=by
     cases b with
     |w w=>cases hb
     |r st=>by_cases h:st.hd=[45]<;>simp[RS.a_,RS.yF,PS.a_,RS.hd,h]
    have step:∀K:Int,K=(if b.hd=[45]then 4 else 3)->aF (F x) b (.mk K 0 [] .any [x,y]) b3:=fun K hK=>by subst hK;rw[DI]at g2;exact aF.as (P:=fun t=>(aE s.length b.hd t).bind fun w t=>(A t).map fun y=>ζ.mk (if w=[45]then 4 else 3) 0 [] .any [x,y]) (aF.word (Q:=fun w t=>(A t).map fun y=>ζ.mk (if w=[45]then 4 else 3) 0 [] .any [x,y]) g2 (g3.map _)) fun t ht=>by subst ht;rfl
    have go:∀K:Int,K=(if b.hd=[45]then 4 else 3)->∀s':St,s'.e 0= .μ p 0/\s'.e 2= .aj 2 0 0/\s'.q 2=some (0,.cells z)/\s'.e 3= .aj 3 0 0/\s'.q 3=some (0,.cells [.n K,.n 0,.str [],.list .full [.agg L,.agg y.four]])/\s'.mem= {ε:=B.set p (.cells db),η:=[]}->i<a1.sz/\I (i+1) s':=fun K hK s' ⟨m1,m2,m3,m4,m5,m6⟩=>by
     have hx:(ζ.mk K 0 [] .any [x,y]).gA:=⟨⟨.inr rfl,h8.1,hy.1,trivial⟩,zP,h8.2,hy.2,trivial⟩;have MA:bN [.n K,.n 0,.str [],.list .full [.agg L,.agg y.four]] (ζ.mk K 0 [] .any [x,y]).four:=by simp only[ζ.four,ζ.χ,ζ.fD];exact .cons (.int _ _) (.cons (.int _ _) (.cons (.str _) (.cons (.list .full (.cons (.agg hL) (.cons (.agg (oR hy)) .nil))) .nil)))
     exact⟨by omega,m1,m2,⟨z,m3,hz⟩,m4,_,_,db,b3,m5,m6,MA,r3,hx,by omega,fun y' b' hg=>aw y' b' (aF.EB (eG.trans hb) (step K hK) (by rw[show a1.sz+1-(i+1)=a1.sz-i by omega]at hg;exact hg))⟩
    rw[oV]at sF;by_cases hm:b.hd=[45]
    ·rw[decide_eq_true hm]at sF;refine κ.done .normal (fun st=>st.e 0= .μ p 0/\st.e 2= .aj 2 0 0/\st.q 2=some (0,.cells z)/\st.e 3= .aj 3 0 0/\st.q 3=some (0,.cells [.n 4,.n 0,.str [],.list .full [.agg L,.agg y.four]])/\st.mem= {ε:=B.set p (.cells db),η:=[]}) (by simp[h1,h2,h3,h4,h5,h6,jG,sF,lU,k2,k3,dd,cN,cQ,eK,mQ,lL,dX,bN.tE hL]) fun s' h=> .inl ⟨rfl,go 4 (by rw[if_pos hm]) s' h⟩
    ·rw[decide_eq_false hm]at sF;refine κ.done .normal (fun st=>st.e 0= .μ p 0/\st.e 2= .aj 2 0 0/\st.q 2=some (0,.cells z)/\st.e 3= .aj 3 0 0/\st.q 3=some (0,.cells [.n 3,.n 0,.str [],.list .full [.agg L,.agg y.four]])/\st.mem= {ε:=B.set p (.cells db),η:=[]}) (by simp[h1,h2,h3,h4,h5,h6,jG,sF,lU,k2,k3,dd,cN,cQ,eK,mQ,lL,dX,bN.tE hL]) fun s' h=> .inl ⟨rfl,go 3 (by rw[if_neg hm]) s' h⟩
  ·have mQ:L.length=4:=by rw[hL.len,x.ft]
   have lL:L.take 4=L:=fo (by omega);refine κ.done .ret (fun st=>st.e 2= .aj 2 0 0/\st.q 2=some (0,.cells L)/\st.mem= {ε:=B.set p (.cells ah),η:=[]}) (by simp[h2,h3,h4,h5,h6,hz,mQ,lL]) fun s' ⟨m1,m2,m3⟩=>⟨by simp,L,x,ah,b,m3,m1,m2,hL,h7,h9,h8⟩
 obtain⟨r,e1,e2,L,x,ah,b,e3,e4,e5,hL,e6,e7,e8⟩:=dZ;have mQ:L.length=4:=by rw[hL.len,x.ft]
 have lL:L.take 4=L:=fo (by omega);exact⟨x,ah,b,po (g:=Hu) rfl rfl rfl hp rfl ⟨r,e1,e2,⟨[],by simp[e3]⟩,[.agg L],by simp[Hu,e4,e5,mQ,lL],(Dv.agg hL).aO _ _ _⟩,e6,e7,e8⟩
theorem BH:∀(k:Nat) (a:RS),a.sz<k->pK u (cM s all c item) 296 [] (aC s.length k) Ei a
 |0,_,h=>by omega
 |k+1,a,h=>f296 hl ai (fun a h=>BH k a h) a h
theorem f295{k:Nat}(a:RS)(ha:a.sz<k):pK u (cM s all c item) 295 [] (uY s.length (aC s.length k)) (fun x v=>v= .aQ [.str x.1,.agg x.2.four]/\du x.1/\x.2.gA) a:=by intro B p cs hp h;obtain⟨_,n,cU,a1,k1,r1,g1,rfl,hn⟩:=f227 (u:=u) (item:=item) hl ai a B p cs hp h;have s1:=g1.sz (oa _);obtain⟨_,w1,cF,a2,k2,r2,g2,rfl⟩:=f226 (u:=u) (item:=item) [91] hl ai a1 B p cU hp r1;have s2:=g2.sz (eV _ _);obtain⟨_,x,db,a3,k3,r3,g3,rfl,hx⟩:=BH (u:=u) (item:=item) hl ai k a2 (by omega) B p cF hp r2;obtain⟨_,w2,iQ,a4,k4,r4,g4,rfl⟩:=f226 (u:=u) (item:=item) [93] hl ai a3 B p db hp r3;refine⟨_,(n,x),iQ,a4,po (g:=Ht) rfl rfl rfl hp rfl ?_,r4,g1.bind (Q:=fun n s'=>(aE s.length [91] s').bind fun _ s'=>(aC s.length k s').bind fun x s'=>(aE s.length [93] s').map fun _=>(n,x)) (g2.bind (Q:=fun _ s'=>(aC s.length k s').bind fun x s'=>(aE s.length [93] s').map fun _=>(n,x)) (g3.bind (Q:=fun x s'=>(aE s.length [93] s').map fun _=>(n,x)) (g4.map fun _=>(n,x)))),rfl,hn,hx⟩;simp[Ht,RM,bz,k1,k2,k3,k4];exact(Dv.aQ (.cons (.str n) (.cons (.agg (oR hx)) .nil))).aO _ _ _
def Ep:ξ->AV->Prop:=fun x v=>v=x.av/\x.Ok
theorem f309{k:Nat}(a:RS)(ha:a.sz<k):pK u (cM s all c item) 309 [] (kg s.length (aC s.length k)) Ep a:=by
 intro B p cs hp h;obtain⟨_,n,cU,a1,k1,r1,g1,rfl,hn⟩:=f227 (u:=u) (item:=item) hl ai a B p cs hp h;have s1:=g1.sz (oa _);have jG:=fun T=>f268 (u:=u) [[91]] (by decide) hl hp r1 T;simp only[az,aJ,alN,alO,alP]at jG;cases hb:a1.a_ [91]with
 |false=>
  rw[hb]at jG
  have gG:∀st,a1= .r st->st.a_ [91]=false:=fun st hs=>by subst hs;exact hb
  refine⟨_,⟨n,.nil,[]⟩,cU,a1,po (g:=wZ) rfl rfl rfl hp rfl ?_,r1,g1.bind (aF.as (aF.pure _ _) fun st hs=>by simp[gG st hs]),rfl,hn,.inl rfl,by simp⟩;simp[wZ,FN,bz,k1,jG,dd];rfl
 |true=>
  rw[hb]at jG
  obtain⟨_,w1,cF,a2,k2,r2,g2,rfl⟩:=f226 (u:=u) (item:=item) [91] hl ai a1 B p cU hp r1;have s2:=g2.sz (eV _ _);obtain⟨_,x,db,a3,k3,r3,g3,rfl,hx⟩:=BH (u:=u) (item:=item) hl ai k a2 (by omega) B p cF hp r2;have s3:=g3.sz (n_ _ _);have e0:∀i cs,(B++[θ.front i 4 27]).set p (.cells cs)=B.set p (.cells cs)++[.front i 4 27]:=fun i cs=>nr _ _ hp;have qS:∀i,p<(B++[θ.front i 4 27]).length:=fun i=>by simp;omega
  have sF:=fun T=>f268 (u:=u) (B:=B++[.front 1 4 27]) [[58]] (by decide) hl (qS 1) r3 T;simp only[az,aJ,alN,alO,alP,e0]at sF;have xg:=fun T=>Qv {ε:=B.set p (.cells db),η:=T} x.ft (Dv.agg (oR hx)).ν;simp only[nq,Mem.push]at xg;cases dz:a3.a_ [58]with
  |false=>
   rw[dz]at sF
   have gG:∀st,a3= .r st->st.a_ [58]=false:=fun st hs=>by subst hs;exact dz
   obtain⟨_,w2,iQ,a4,k4,r4,g4,rfl⟩:=f226 (u:=u) (item:=item) [93] hl ai a3 (B++[.front 1 4 27]) p db (qS 1) r3;simp only[e0]at k4;have dH:(⟨n,.any,[x]⟩:ξ).Ok:=⟨hn,.inr rfl,by simpa using hx⟩;refine⟨_,⟨n,.any,[x]⟩,iQ,a4,po (g:=wZ) rfl rfl rfl hp rfl ?_,r4,?_,rfl,dH⟩
   ·simp[wZ,FN,bz,k1,k2,k3,k4,jG,sF,dd,xg,cN,cQ,eK];exact(Dv.agg (.cons (.str n) (.cons (.list _ (.cons (.agg (oR hx)) .nil)) .nil))).aO _ _ _|>.trans (by simp[ξ.av,ζ.fD,ρ.exp])
   ·refine g1.bind (aF.as (P:=fun t=>(aE s.length [91] t).bind fun _ t=>(aC s.length k t).bind fun x t=>(if t.a_ [58]then(aE s.length [58] t).bind fun _ t=>(aC s.length k t).map fun y=>[x,y]else .ok [x] t).bind fun l t=>(aE s.length [93] t).map fun _=>⟨n,.any,l⟩) ?_ fun st hs=>by subst hs;exact if_pos hb);exact g2.bind (g3.bind (aF.bind (aF.as (aF.pure [x] a3) fun st hs=>by simp[gG st hs]) (g4.map fun _=>_)))
  |true=>
   rw[dz]at sF
   obtain⟨_,w2,iQ,a4,k4,r4,g4,rfl⟩:=f226 (u:=u) (item:=item) [58] hl ai a3 (B++[.front 1 4 27]) p db (qS 1) r3;have s4:=g4.sz (eV _ _);obtain⟨_,y,vg,a5,k5,r5,g5,rfl,hy⟩:=BH (u:=u) (item:=item) hl ai k a4 (by omega) (B++[.front 1 4 27]) p iQ (qS 1) r4;obtain⟨_,w3,CU,a6,k6,r6,g6,rfl⟩:=f226 (u:=u) (item:=item) [93] hl ai a5 (B++[.front 2 4 27]) p vg (qS 2) r5;simp only[e0]at k4 k5 k6;have vr:=fun T=>Qw (B.set p (.cells vg)) T x.ft y.ft (Dv.agg (oR hy)).ν;simp only[nq]at vr;have dH:(⟨n,.any,[x,y]⟩:ξ).Ok:=⟨hn,.inr rfl,by simpa using⟨hx,hy⟩⟩;refine⟨_,⟨n,.any,[x,y]⟩,CU,a6,po (g:=wZ) rfl rfl rfl hp rfl ?_,r6,?_,rfl,dH⟩
   ·simp[wZ,FN,bz,k1,k2,k3,k4,k5,k6,jG,sF,dd,xg,vr,cN,cQ,eK];exact(Dv.agg (.cons (.str n) (.cons (.list _ (.cons (.agg (oR hx)) (.cons (.agg (oR hy)) .nil))) .nil))).aO _ _ _|>.trans (by simp[ξ.av,ζ.fD,ρ.exp])
   ·refine g1.bind (aF.as (P:=fun t=>(aE s.length [91] t).bind fun _ t=>(aC s.length k t).bind fun x t=>(if t.a_ [58]then(aE s.length [58] t).bind fun _ t=>(aC s.length k t).map fun y=>[x,y]else .ok [x] t).bind fun l t=>(aE s.length [93] t).map fun _=>⟨n,.any,l⟩) ?_ fun st hs=>by subst hs;exact if_pos hb);exact g2.bind (g3.bind (aF.bind (aF.as (P:=fun t=>(aE s.length [58] t).bind fun _ t=>(aC s.length k t).map fun y=>[x,y]) (g4.bind (g5.map fun y=>[x,y])) fun st hs=>by subst hs;exact if_pos dz) (g6.map fun _=>_)))
end
end Go.Θ.Tz
