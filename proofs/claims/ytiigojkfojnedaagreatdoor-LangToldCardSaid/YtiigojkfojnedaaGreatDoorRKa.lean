import Derived.Test.YtiigojkfojnedaaGreatDoorRVa
set_option linter.all false
set_option maxRecDepth 100000
set_option maxHeartbeats 8000000
open List renaming length_cons->cN,length_take->lM,length->lK,length_drop->lL,drop_eq_getElem_cons->oc,drop_drop->o9,nil_append->bB,append_nil->dM,map_cons->ax,map_nil->aI,getElem_mem->db,take_length->pa,getElem?_eq_none->gW,filter_eq_nil_iff->akB,replicate->sn,mem_append->dQ,eq_of_mem_replicate->akC,mem_of_mem_take->qV,mem_of_mem_drop->tE,take_of_length_le->fe,getElem?_append_left->d_,getElem?_append_right->uM,all_map->o8,append_assoc->bQ,length_map->cz,mem_cons->cB,getElem?_cons_zero->BW,getElem?_eq_getElem->dp,length_set->mN,set_append_left->ns,mem_singleton->fY,take_succ_cons->tF,any_cons->akD,any_nil->akE
open Nat renaming lt_or_ge->di,zero_le->vY,le_refl->b_
open Go.IntKind renaming wrap->bN
open Bool renaming and_eq_true->dy,and_self->vT,false_eq_true->jO,or_false->akF
namespace Go.Δ
def bZ:Bool->List Nat->Nat
 |_,[]=>0
 |false,b::l=>if b=32\/b=10 then bZ false l+1 else if b=35 then bZ true l+1 else 0
 |true,b::l=>if b=10 then bZ false l+1 else bZ true l+1
def isLet(b:Nat):Bool:=decide (97<=b)&&decide (b<=122)
def pV:List Nat:=[40,41,91,93,123,125,44,59,58,61,43,45,42]
def runN(f:Nat->Bool):List Nat->Nat
 |[]=>0
 |b::l=>if f b then runN f l+1 else 0
structure Tok where
 at_:Nat
 kind:Nat
 text:List Nat
 gV:Int
def gr(n:Nat):List Nat->Tok
 |[]=>⟨n,0,[],-1⟩
 |b::l=>
  if isLet b then⟨n,1,(b::l).take (runN isLet (b::l)),if 8<runN isLet (b::l)then n+8 else-1⟩
  else if dn b then⟨n,2,(b::l).take (runN dn (b::l)),if 1<runN dn (b::l)/\b=48 then n+1 else if 2<runN dn (b::l)then n+2 else-1⟩
  else if b∈pV then⟨n,b,[b],-1⟩
  else⟨n,0,[b],n⟩
def Tok.cut(t:Tok):List Nat:=
 if t.gV<0 then t.text else if t.kind=1 then t.text.take 8 else if t.kind=2 then(if t.text.head?=some 48 then[48]else t.text.take 2)else[]
theorem Vj(c:Bool)(l:List Nat):bZ c l<=l.length:=by
 induction l generalizing c with
 |nil=>cases c<;>simp[bZ]
 |cons b l ih=>
  have h1:=ih false
  have h2:=ih true;cases c<;>simp only[bZ,cN]<;>(repeat' split)<;>omega
theorem aeF(l:List Nat):∀k,(∀e,jx 10 l k=some e->k<=e/\e-k<=l.length/\bZ true l=(e-k)+bZ false (l.drop (e-k)))/\(jx 10 l k=none->bZ true l=l.length):=by
 induction l with
 |nil=>intro k;simp[jx,bZ]
 |cons b l ih=>
  intro k
  by_cases h:b=10
  ·subst h;simp[jx,bZ]
  ·obtain⟨h1,h2⟩:=ih (k+1);refine⟨fun e he=>?_,fun he=>?_⟩
   ·simp only[jx,h,if_false]at he;obtain⟨q1,q2,q3⟩:=h1 e he;have e1:e-k=(e-(k+1))+1:=by omega
    refine⟨by omega,by simp only[cN];omega,?_⟩;rw[e1,List.drop_succ_cons];simp only[bZ,h,if_false,q3];omega
   ·simp only[jx,h,if_false]at he;simp only[bZ,h,if_false,h2 he,cN]
theorem zy(f:Nat->Bool)(l:List Nat):runN f l<=l.length:=by
 induction l with
 |nil=>simp[runN]
 |cons b l ih=>simp only[runN,cN];split<;>omega
theorem EH(n b:Nat)(l:List Nat):0<(gr n (b::l)).text.length:=by
 simp only[gr];have e1:isLet b=true->0<runN isLet (b::l):=fun h=>by simp[runN,h]
 have e2:dn b=true->0<runN dn (b::l):=fun h=>by simp[runN,h]
 split
 ·rename_i h;have:=e1 h;have:=zy isLet (b::l);simp only[lM];omega
 ·split
  ·rename_i h;have:=e2 h;have:=zy dn (b::l);simp only[lM];omega
  ·split<;>simp
theorem Xg(n:Nat)(l:List Nat):(gr n l).text.length<=l.length:=by
 cases l with
 |nil=>simp[gr]
 |cons b l=>
  simp only[gr]
  split
  ·simp only[lM];omega
  ·split
   ·simp only[lM];omega
   ·split<;>simp
def oZ:Nat->Nat->List Nat->List Tok
 |0,_,_=>[]
 |k+1,n,l=>
  if l.length<=bZ false l then[]else
   let m:=n+bZ false l;let r:=l.drop (bZ false l);let t:=gr m r
   if t.kind=0 then[t]else t::oZ k (m+t.text.length) (r.drop t.text.length)
def dK(s:List Nat):List Tok:=oZ (s.length+1) 0 s
theorem ajf(k j n:Nat)(l:List Nat)(h:l.length<k)(hj:l.length<j):oZ k n l=oZ j n l:=by
 induction k generalizing j n l with
 |zero=>omega
 |succ k ih=>
  cases j with
  |zero=>omega
  |succ j=>
   simp only[oZ]
   split
   ·rfl
   ·rename_i hl;split
    ·rfl
    ·congr 1;have hl:=Nat.not_le.1 hl;cases hr:l.drop (bZ false l)with
     |nil=>have:=congrArg lK hr;simp at this;omega
     |cons b r=>
      have e:(b::r).length=l.length-bZ false l:=by rw[<-hr];simp
      have hp:=EH (n+bZ false l) b r;simp only[cN]at e;refine ih j _ _ ?_ ?_<;>simp only[lL,cN]<;>omega
end Go.Δ
namespace Go.Δ.Tz
open Go.Δ
variable{u:Nat}
attribute [local simp] exec ef dR e_ aJ dF fE eR br fM bR iL iS jm jE AV.cells newVar jA rd wr iu single dk cD ff eF μ cF RV.get cK fV kT
theorem Ie{s:List Nat}{p:Nat}(h:p<s.length):bZ false (s.drop p)=if s[p]=32\/s[p]=10 then bZ false (s.drop (p+1))+1 else if s[p]=35 then bZ true (s.drop (p+1))+1 else 0:=by rw[oc h];rfl
theorem aeE{s:List Nat}{p:Nat}(h:p<s.length)(Lu:s[p]=35)(h2:(s.length:Int)<4000000000):
  (∀e,jx 10 (s.drop p) 0=some e->0<e/\p+e<=s.length/\p+bZ false (s.drop p)=(p+e)+bZ false (s.drop (p+e)))/\(jx 10 (s.drop p) 0=none->p+bZ false (s.drop p)=s.length):=by
 have hc:¬(s[p]=32\/s[p]=10):=by omega
 have hx:bZ false (s.drop p)=bZ true (s.drop (p+1))+1:=by rw[Ie h,if_neg hc,if_pos Lu]
 have hd:s.drop p=s[p]::s.drop (p+1):=oc h;have φ:¬s[p]=10:=by omega
 obtain⟨k1,k2⟩:=aeF (s.drop (p+1)) 1;have hi:jx 10 (s.drop p) 0=jx 10 (s.drop (p+1)) 1:=by rw[hd];simp only[jx,φ,if_false]
 refine⟨fun e he=>?_,fun he=>?_⟩
 ·rw[hi]at he;obtain⟨q1,q2,q3⟩:=k1 e he;simp only[lL]at q2;rw[o9]at q3;have e1:p+1+(e-1)=p+e:=by omega
  rw[e1]at q3;exact⟨by omega,by omega,by omega⟩
 ·rw[hi]at he;have q:=k2 he;simp only[lL]at q;omega
theorem acb(b:Nat):(match jx b [32,10,35] 0 with
  |some i=>(i:Int)
  |none=> -1)=if b=32 then 0 else if b=10 then 1 else if b=35 then 2 else-1:=by
 simp only[jx];by_cases h1:b=32
 ·subst h1;rfl
 by_cases h2:b=10
 ·subst h2;rfl
 by_cases h3:b=35
 ·subst h3;rfl
 have nF:=Ne.symm h1;have tR:=Ne.symm h2;have fN:=Ne.symm h3;simp[h1,h2,h3,nF,tR,fN]
theorem Bt{C:iF}{f:FuncId}{p:Prim}{fst args cap:List AV}{m:Mem}{r:AV×Mem}(hp:C.gM f=some p)(h:p ((fst++args++cap).map (exp m.ε.length (C.ba f))) m=some r):ab C (.fn (.func f) fst cap) args m=some r:=by apply sy;simp only[body,hp,h]
theorem f238(s:List Nat)(c:Nat)(h:c<256)(m:Mem):kf u 238 [.str s,.int .u8 c] m=some (.n (match jx c s 0 with
  |some i=>(i:Int)
  |none=> -1),m):=by
 refine Bt (p:=xn) (by rfl) ?_;have h1:(0:Int)<=c/\(c:Int)<256:=by omega
 simp only[bB,dM,ax,aI,exp,xn,h1,and_self,if_true,Int.toNat_natCast];cases jx c s 0<;>rfl
theorem packed{gl:Nat->AV}{c:cg}{a:AC}{s:St}{I:St->Prop}(M:St->Prop)(h:∃s',exec gl c dP a s=some (.normal,s')/\M s')(k:∀s',M s'->I s'):∃s',exec gl c dP a s=some (.normal,s')/\I s':=
 h.imp fun s' h=>⟨h.1,k s' h.2⟩
theorem f202(s:List Nat)(hs:dB s)(n:Nat)(hn:n<=s.length)(hl:s.length<4000000000)(m:Mem):
  kf u 202 [.str s,.n n] m=some (.n ((n+bZ false (s.drop n):Nat):Int),m):=by
 refine dt (g:=Gn) rfl rfl rfl ?_;simp only[ax,aI,exp,Gn,Qr];generalize htg:n+bZ false (s.drop n)=Jd;let K:St->Prop:=fun st=>st.e 0= .str s/\st.mem= {ε:=m.ε,η:=[]};let I:Nat->St->Prop:=fun i st=>K st/\∃p:Nat,st.e 1= .n p/\i<=p/\p<=s.length/\p+bZ false (s.drop p)=Jd;refine Ψ (I 0) ?_ fun s1 hI=>?_
 ·simp[I,K];exact⟨n,rfl,hn,htg⟩
 refine bS (fun st=>K st/\st.e 1= .n Jd) ?_ fun s2 ⟨⟨h1,h2⟩,h3⟩=>?_
 ·refine μ.block (μ.loop (I:=I) s.length hI fun i st hi Ω=>?_);obtain⟨⟨q1,q2⟩,p,q3,q4,q5,q6⟩:=Ω;have e:=fun(b:Nat) (hb:b<256)=>f238 (u:=u) [32,10,35] b hb;have pt:∀m,kf u 238 [.str (s.drop p),.int .u8 10] m=some (.n (match jx 10 (s.drop p) 0 with
    |some i=>(i:Int)
    |none=> -1),m):=f238 (u:=u) (s.drop p) 10 (by omega)
  have XH:∀m,kf u 238 [.str [32,10,35],.int .u8 32] m=some (.n 0,m):=f238 (u:=u) [32,10,35] 32 (by omega);have XG:∀m,kf u 238 [.str [32,10,35],.int .u8 10] m=some (.n 1,m):=f238 (u:=u) [32,10,35] 10 (by omega);have Pt:∀m,kf u 238 [.str [32,10,35],.int .u8 35] m=some (.n 2,m):=f238 (u:=u) [32,10,35] 35 (by omega);rcases di p s.length with ψ|eH
  ·have hb:s[p]<256:=hs _ (db ψ);have eZ:(p:Int)<s.length:=by omega
   have e:=e s[p] hb;simp only[acb]at e;have hw:bN .i64 ((p:Int)+1)=(p:Int)+1:=wrap_i64 (by omega) (by omega);have kk:=fun Lu=>aeE ψ Lu (by omega);by_cases c1:s[p]=32
   ·left;have hx:=Ie ψ;simp only[c1,true_or,if_true]at hx;refine⟨by omega,?_⟩;refine packed (fun st=>K st/\st.e 1= .n ((p+1:Nat):Int)) ?_ fun s' h=>⟨h.1,p+1,h.2,by omega,by omega,by omega⟩;simp[K,zb,q1,q2,q3,ψ,c1,XH,hw]
   by_cases c2:s[p]=10
   ·left;have hx:=Ie ψ;simp only[c2,or_true,if_true]at hx;refine⟨by omega,?_⟩;refine packed (fun st=>K st/\st.e 1= .n ((p+1:Nat):Int)) ?_ fun s' h=>⟨h.1,p+1,h.2,by omega,by omega,by omega⟩;simp[K,zb,q1,q2,q3,ψ,c2,XG,hw]
   by_cases c3:s[p]=35
   ·left;obtain⟨k1,k2⟩:=kk c3;refine⟨by omega,?_⟩;have lA:¬(s.length:Int)<p:=by omega
    cases aE:jx 10 (s.drop p) 0 with
    |none=>
     have k2:=k2 aE
     rw[aE]at pt;refine packed (fun st=>K st/\st.e 1= .n ((s.length:Nat):Int)) ?_ fun s' h=>⟨h.1,s.length,h.2,by omega,by omega,by simp[bZ];omega⟩;simp[K,zb,q1,q2,q3,ψ,c3,Pt,pt,bound,q5,pa]
    |some x=>
     obtain⟨k1,k3,k4⟩:=k1 x aE
     rw[aE]at pt;have qy:bN .i64 ((p:Int)+x)=(p:Int)+x:=wrap_i64 (by omega) (by omega);refine packed (fun st=>K st/\st.e 1= .n ((p+x:Nat):Int)) ?_ fun s' h=>⟨h.1,p+x,h.2,by omega,by omega,by omega⟩;simp[K,zb,q1,q2,q3,ψ,c3,Pt,pt,qy,bound,q5,pa]
   ·right;have hx:=Ie ψ;simp only[c1,c2,c3,or_self,if_false]at hx;simp only[c1,c2,c3,if_false]at e;have:Jd=p:=by omega
    subst this;simp[zb,K,q1,q2,q3,ψ,e]
  ·right;have:p=s.length:=by omega
   subst this;have hz:bZ false (s.drop s.length)=0:=by simp[bZ]
   have:Jd=s.length:=by omega
   subst this;simp[zb,K,q1,q2,q3]
 ·simp[h1,h2,h3]
theorem μ.lH{gl:Nat->AV}{c:cg}{a:AC}{I:Nat->St->Prop}{Q:Ex×St->Prop}(n:Nat){s:St}(h0:I 0 s)
  (step:∀i s,i<=n->I i s->μ gl c a s fun r=>(r.1= .normal/\i<n/\I (i+1) r.2)\/(r.1≠ .normal/\Q r)):μ gl c (.loop a) s Q:=by
 refine μ.loop n h0 fun i s hi hs=>?_;obtain⟨⟨e,s'⟩,h1,h2⟩:=step i s hi hs;rcases h2 with⟨rfl,h2,h3⟩|⟨h2,h3⟩
 ·exact .inl ⟨h2,s',h1,h3⟩
 ·exact .inr ⟨_,h1,h2,h3⟩
theorem μ.done{gl:Nat->AV}{c:cg}{a:AC}{s:St}{Q:Ex×St->Prop}(ex:Ex)(M:St->Prop)(h:∃s',exec gl c dP a s=some (ex,s')/\M s')(k:∀s',M s'->Q (ex,s')):μ gl c a s Q:=by obtain⟨s',h1,h2⟩:=h;exact⟨_,h1,k s' h2⟩
attribute [local simp] mo
theorem OQ{f:Nat->Bool}{s:List Nat}{p:Nat}(h:p<s.length):runN f (s.drop p)=if f s[p]then runN f (s.drop (p+1))+1 else 0:=by rw[oc h];rfl
theorem ah_{f:Nat->Bool}{s:List Nat}:runN f (s.drop s.length)=0:=by simp[runN]
theorem Xc{s:List Nat}{a i:Nat}(h:a<=i):(s.take i).drop a=(s.drop a).take (i-a):=by rw[List.drop_take]
theorem ajb{s:List Nat}{p:Nat}(h:p<s.length):gr p (s.drop p)=
  if isLet s[p]then⟨p,1,(s.drop p).take (runN isLet (s.drop p)),if 8<runN isLet (s.drop p)then p+8 else-1⟩
  else if dn s[p]then⟨p,2,(s.drop p).take (runN dn (s.drop p)),if 1<runN dn (s.drop p)/\s[p]=48 then p+1 else if 2<runN dn (s.drop p)then p+2 else-1⟩
  else if s[p]∈pV then⟨p,s[p],[s[p]],-1⟩
  else⟨p,0,[s[p]],p⟩:=by
 rw[oc h];rfl
end Go.Δ.Tz
namespace Go.Δ
mutual
def pf:AV->Bool
 | .int _ _=>true
 | .bool _=>true
 | .str _=>true
 | .list _ l=>kL l
 | .agg l=>kL l
 | .aU l=>kL l
 |_=>false
def kL:List AV->Bool
 |[]=>true
 |v::l=>pf v&&kL l
end
mutual
def ej:AV->AV
 | .list c l=> .list (c.exp 0 false) (jF l)
 | .agg l=> .agg (jF l)
 | .aU l=> .aU (jF l)
 |v=>v
def jF:List AV->List AV
 |[]=>[]
 |v::l=>ej v::jF l
end
theorem uZ(c:τ)(n:Nat)(k:Bool)(m:Nat):(c.exp n k).exp m false=c.exp 0 false:=by
 cases c with
 |own t=>by_cases h:(k&&decide (t<n))=true<;>simp[τ.exp,h]
 |full=>cases k<;>rfl
 |_=>rfl
mutual
theorem Bq(n:Nat)(k:Bool):∀v,pf v=true->pf (exp n k v)=true/\ej (exp n k v)=ej v/\ν v=v/\exp n false v=ej v
 | .int _ _,_=>⟨rfl,rfl,rfl,rfl⟩
 | .bool _,_=>⟨rfl,rfl,rfl,rfl⟩
 | .str _,_=>⟨rfl,rfl,rfl,rfl⟩
 | .list c l,h=>by obtain⟨h1,h2,h3,h4⟩:=zr n k l (by simpa only[pf]using h);have:=uZ c 0 false n;refine⟨by simpa only[exp,pf]using h1,by simp only[exp,ej,h2,uZ],by simp only[ν,h3],?_⟩;simp only[exp,ej,h4];congr 1
 | .agg l,h=>by obtain⟨h1,h2,h3,h4⟩:=zr n k l (by simpa only[pf]using h);exact⟨by simpa only[exp,pf]using h1,by simp only[exp,ej,h2],by simp only[ν,h3],by simp only[exp,ej,h4]⟩
 | .aU l,h=>by obtain⟨h1,h2,h3,h4⟩:=zr n k l (by simpa only[pf]using h);exact⟨by simpa only[exp,pf]using h1,by simp only[exp,ej,h2],by simp only[ν,h3],by simp only[exp,ej,h4]⟩
 | .undef,h| .cR,h| .ig,h| .eQ,h| .gq,h| .fQ,h=>by simp[pf]at h
 | .ak _ _ _,h| .κ _ _,h| .ref _,h| .sl _ _ _ _ _,h| .fn _ _ _,h| .iface _ _,h| .map _,h=>by simp[pf]at h
theorem zr(n:Nat)(k:Bool):∀l,kL l=true->kL (aX n k l)=true/\jF (aX n k l)=jF l/\cG l=l/\aX n false l=jF l
 |[],_=>⟨rfl,rfl,rfl,rfl⟩
 |v::l,h=>by simp only[kL,dy]at h;obtain⟨h1,h2,h3,h4⟩:=Bq n k v h.1;obtain⟨k1,k2,k3,k4⟩:=zr n k l h.2;exact⟨by simp only[aX,kL,h1,k1];rfl,by simp only[aX,jF,h2,k2],by simp only[cG,h3,k3],by simp only[aX,jF,h4,k4]⟩
end
mutual
theorem V6(n:Nat)(hp:Nat->Nat->AV)(hs:Nat->Nat->Nat->Nat->AV):∀v,pf v=true->fC n hp hs v=ej v
 | .int _ _,_=>rfl
 | .bool _,_=>rfl
 | .str _,_=>rfl
 | .list c l,h=>by simp only[fC,ej,II n hp hs l (by simpa only[pf]using h)];congr 1
 | .agg l,h=>by simp only[fC,ej,II n hp hs l (by simpa only[pf]using h)]
 | .aU l,h=>by simp only[fC,ej,II n hp hs l (by simpa only[pf]using h)]
 | .undef,h| .cR,h| .ig,h| .eQ,h| .gq,h| .fQ,h=>by simp[pf]at h
 | .ak _ _ _,h| .κ _ _,h| .ref _,h| .sl _ _ _ _ _,h| .fn _ _ _,h| .iface _ _,h| .map _,h=>by simp[pf]at h
theorem II(n:Nat)(hp:Nat->Nat->AV)(hs:Nat->Nat->Nat->Nat->AV):∀l,kL l=true->oC n hp hs l=jF l
 |[],_=>rfl
 |v::l,h=>by simp only[kL,dy]at h;simp only[oC,jF,V6 n hp hs v h.1,II n hp hs l h.2]
end
theorem agP(bs:List θ)(n k:Nat){v:AV}(h:pf v=true):aQ bs n k v=ej v:=by
 cases k with
 |zero=>exact(Bq n false v h).2.2.2
 |succ k=>exact V6 n _ _ v h
theorem Al(l:List AV):jF l=l.map ej:=by
 induction l with
 |nil=>rfl
 |cons a l ih=>simp[jF,ih]
theorem Ou(l:List AV):kL l=l.all pf:=by
 induction l with
 |nil=>rfl
 |cons a l ih=>simp[kL,ih]
def Dv(v w:AV):Prop:=pf v=true/\ej v=w
theorem Dv.ν{v w:AV}(h:Dv v w):ν v=v:=(Bq 0 false v h.1).2.2.1
theorem Dv.aQ{v w:AV}(h:Dv v w)(bs:List θ)(n k:Nat):Δ.aQ bs n k v=w:=by rw[agP bs n k h.1,h.2]
theorem Dv.str(s:List Nat):Dv (.str s) (.str s):=⟨rfl,rfl⟩
theorem Dv.int(k:IntKind)(n:Int):Dv (.int k n) (.int k n):=⟨rfl,rfl⟩
def Fx(v:AV):Prop:=Dv v v
theorem Fx.lS{v:AV}(h:Fx v)(n:Nat):Δ.exp n false v=v:=by rw[(Bq n false v h.1).2.2.2,h.2]
def bL(l ws:List AV):Prop:=kL l=true/\jF l=ws
theorem bL.nil:bL [] []:=⟨rfl,rfl⟩
theorem bL.cons{v w:AV}{l ws:List AV}(h:Dv v w)(k:bL l ws):bL (v::l) (w::ws):=⟨by simp only[kL,h.1,k.1];rfl,by simp only[jF,h.2,k.2]⟩
theorem bL.append{l ws l' Pe:List AV}(h:bL l ws)(k:bL l' Pe):bL (l++l') (ws++Pe):=by obtain⟨h1,rfl⟩:=h;obtain⟨k1,rfl⟩:=k;rw[Ou]at h1 k1;exact⟨by rw[Ou,List.all_append,h1,k1];rfl,by simp only[Al,List.map_append]⟩
theorem bL.len{l ws:List AV}(h:bL l ws):l.length=ws.length:=by rw[<-h.2,Al];simp
theorem Dv.list{l ws:List AV}(c:τ)(h:bL l ws):Dv (.list c l) (.list (c.exp 0 false) ws):=⟨by simpa only[pf]using h.1,by simp only[ej,h.2]⟩
theorem Dv.agg{l ws:List AV}(h:bL l ws):Dv (.agg l) (.agg ws):=⟨by simpa only[pf]using h.1,by simp only[ej,h.2]⟩
theorem Dv.aU{l ws:List AV}(h:bL l ws):Dv (.aU l) (.aU ws):=⟨by simpa only[pf]using h.1,by simp only[ej,h.2]⟩
theorem bL.of{α:Type}(f:α->AV)(l:List α)(h:∀x∈l,Fx (f x)):bL (l.map f) (l.map f):=by
 induction l with
 |nil=>exact .nil
 |cons a l ih=>exact .cons (h a (by simp)) (ih fun x hx=>h x (by simp[hx]))
mutual
theorem Rv(n:Nat):∀v,pf v=true->lo n (ej v)=true
 | .int _ _,_=>rfl
 | .bool _,_=>rfl
 | .str _,_=>rfl
 | .list c l,h=>by
  have hc:(c.exp 0 false).lo n=true:=by cases c<;>rfl
  simp only[ej,lo,hc,Cx n l (by simpa only[pf]using h),vT]
 | .agg l,h=>by simp only[ej,lo,Cx n l (by simpa only[pf]using h)]
 | .aU l,h=>by simp only[ej,lo,Cx n l (by simpa only[pf]using h)]
 | .undef,h| .cR,h| .ig,h| .eQ,h| .gq,h| .fQ,h=>by simp[pf]at h
 | .ak _ _ _,h| .κ _ _,h| .ref _,h| .sl _ _ _ _ _,h| .fn _ _ _,h| .iface _ _,h| .map _,h=>by simp[pf]at h
theorem Cx(n:Nat):∀l,kL l=true->bn n (jF l)=true
 |[],_=>rfl
 |v::l,h=>by simp only[kL,dy]at h;simp only[jF,bn,Rv n v h.1,Cx n l h.2,vT]
end
theorem bL.bn{l ws:List AV}(h:bL l ws)(n:Nat):Δ.bn n ws=true:=by rw[<-h.2];exact Cx n l h.1
theorem Dv.lo{v w:AV}(h:Dv v w)(n:Nat):Δ.lo n w=true:=by rw[<-h.2];exact Rv n v h.1
theorem aiN(n:Nat)(T:List Nat):∀bs:List θ,(∀i∈T,bs.length<=i)->lF n T bs=bs:=by
 induction T with
 |nil=>intro bs _;rfl
 |cons i T ih=>
  intro bs h
  simp only[lF,gW (h i (by simp))];exact ih bs fun j hj=>h j (by simp[hj])
theorem PO(m:Mem)(bs:List θ)(T:List Nat)(h:∀i∈T,m.ε.length<=i):m.back {ε:=m.ε++bs,η:=T}=m:=by
 have h1:(m.ε++bs).take m.ε.length=m.ε:=by simp
 have h2:(T.filter fun i=>match m.ε[i]? with
   |some b=>!b.clean i
   |none=>false)=[]:=by
  rw[akB];intro i hi;simp[gW (h i hi)]
 cases m;simp only[Mem.back]at*;rw[h1,aiN _ _ _ h];simp only[Mem.mk.injEq,true_and];exact List.append_right_eq_self.2 h2
theorem Y5{C:iF}{f:FuncId}{g:AF}{args:List AV}{m:Mem}{v:AV}(hp:C.gM f=none)(hf:C.fs f=some g)(hk:C.ba f=false)
  (hx:μ C.gl (ab C) g.code {env:=args.map (exp m.ε.length false),loc:=[],mem:= {ε:=m.ε,η:=[]}} fun r=>
   (∀i,r.1≠ .exit i)/\(∃bs,r.2.mem.ε=m.ε++bs)/\(∀i∈r.2.mem.η,m.ε.length<=i)/\∃l,cF r.2 g.results=some l/\aQ r.2.mem.ε m.ε.length 8 (cK l)=v):ab C (.fn (.func f) [] []) args m=some (v,m):=by
 obtain⟨⟨ex,s'⟩,h1,h2,⟨bs,h3⟩,h6,l,h4,h5⟩:=hx;rw[Kb hp hf hk h1 h2 h4];dsimp only at h3 h5 h6;have:s'.mem= {ε:=m.ε++bs,η:=s'.mem.η}:=by rw[<-h3]
 rw[h5,this,PO m bs _ h6]
end Go.Δ
namespace Go.Δ.Tz
open Go.Δ
variable{u:Nat}
attribute [local simp] exec ef dR e_ aJ dF fE eR br fM bR iL iS jm jE mo AV.cells newVar jA rd wr iu single dk cD ff eF μ cF RV.get cK fV kT
def zN:List AV:=sn 256 (.bool false)
def Nt:List KK:=sn 256 .bool
def QD(z:List AV):AC:=(.seq (.ops [⟨(some 2),.alloc false z,none⟩]) (.seq (.ops [⟨(some 3),.alloc false z,none⟩]) (.seq (.seq (.ops [⟨(some 5),.mv (.t 0),none⟩,⟨(some 6),.qQ (.t 5),none⟩]) (.block 0 (.loop NC))) (.seq (.ops [⟨(some 14),.ld true 256 (.t 3),none⟩,⟨none,.st 256 (.t 2) (.t 14),none⟩]) .ret))))
def QB(ks:List KK):AC:=(.seq (.ops [⟨(some 2),.box false 256 (.t 0),none⟩,⟨(some 4),.mv (.c (.bool false)),none⟩]) (.seq (.draw [⟨(some 5),.ld true 256 (.t 2),none⟩,⟨(some 6),.mv (.t 1),none⟩,⟨(some 7),.conv (.int .i32) (.t 6),none⟩,⟨(some 8),.conv .char (.t 7),none⟩,⟨(some 9),.call (.c (.fn (.func 243) [] [])) [(.t 8)],none⟩,⟨(some 10),.eqs false ks (.t 5) (.t 9),none⟩,⟨(some 4),.mv (.t 10),none⟩] [(0,4)] []) .ret))
theorem YU:QC=QD zN:=rfl
theorem YT:QA=QB Nt:=rfl
def nZ(f:Nat->Bool):List AV:=(List.range 256).map fun b=> .bool (f b)
theorem I_(f:Nat->Bool){b:Nat}(h:b<256):((nZ f).drop b).take 1=[.bool (f b)]:=by
 have hl:b<(nZ f).length:=by simpa[nZ]using h
 rw[oc hl];simp[nZ]
theorem Xa(f:Nat->Bool):(nZ f).length=256:=by simp[nZ]
def HT(b:Nat):Bool:=decide (b∈pV)
def l7(b:Nat):List AV:=dk zN b [.bool true]
theorem ajN:zN.length=256:=by simp[zN]
theorem VO{b:Nat}(h:b<256):(l7 b).length=256:=by simp[l7,zN];omega
theorem Sf{b:Nat}(h:b<256):Fx (.agg (l7 b)):=by
 have h1:∀v∈l7 b,∃x,v= .bool x:=by
  intro v hv;simp only[l7,zN,dk,dQ]at hv;rcases hv with(hv|hv)|hv
  ·exact⟨_,akC (qV hv)⟩
  ·exact⟨_,by simpa using hv⟩
  ·exact⟨_,akC (tE hv)⟩
 have h2:=bL.of id (l7 b) fun v hv=>by obtain⟨x,rfl⟩:=h1 v hv;exact⟨rfl,rfl⟩
 rw[List.map_id]at h2;exact .agg h2
theorem f243(b:Nat)(h:b<128)(m:Mem):kf u 243 [.str [b]] m=some (.agg (l7 b),m):=by
 refine dt (g:=GG) rfl rfl rfl ?_;simp only[ax,aI,exp,GG,YU,QD];have hz:=ajN;generalize Nn:zN=z at*;let K:St->Prop:=fun st=>st.e 0= .str [b]/\st.e 2= .ak 2 0 0/\st.q 2=some (0,.cells z)/\st.e 3= .ak 3 0 0/\st.mem= {ε:=m.ε,η:=[]};refine Ψ (fun st=>st.e 0= .str [b]/\st.e 2= .ak 2 0 0/\st.q 2=some (0,.cells z)/\st.q 3=none/\st.mem= {ε:=m.ε,η:=[]}) (by simp[bJ]) fun s1 ⟨h0,h1,h2,h3,h4⟩=>?_;refine Ψ (fun st=>K st/\st.q 3=some (0,.cells z)) (by simp[K,h0,h1,h2,h3,h4,bJ]) fun s1 ⟨⟨h0,h1,h2,h3,h4⟩,h5⟩=>?_;refine bS (fun st=>K st/\st.q 3=some (0,.cells (l7 b))) ?_ fun s2 ⟨⟨h0,h1,h2,h3,h4⟩,h5⟩=>?_
 ·let I:Nat->St->Prop:=fun i st=>K st/\st.q 3=some (0,.cells (if i=0 then z else l7 b))/\∃v,st.e 6= .ak 6 v 0/\st.q 6=some (v,.iter [b] i);refine Ψ (I 0) (by simp[I,K,h0,h1,h2,h3,h4,h5]) fun s2 hI=>?_;refine μ.block (μ.lH (I:=I) 1 hI fun i st hi Ω=>?_);obtain⟨⟨h0,h1,h2,h3,h4⟩,h5,v,h6,h7⟩:=Ω;unfold NC;rcases di i 1 with ψ|eH
  ·have:i=0:=by omega
   subst this;have hd:=Rr (s:=[b]) (i:=0) (by simp) (by simpa using h);simp only[ax,aI,List.getElem_cons_zero]at hd;have hb:(b:Int)<256:=by omega
   have dA:b<256:=by omega
   have sK:b+1<=256:=by omega
   refine μ.done .normal (fun st=>I 1 st) (by simp[I,K,h0,h1,h2,h3,h4,h5,h6,h7,hd,hb,dA,sK,hz,l7,Nn]) fun s' h=> .inl ⟨rfl,by omega,h⟩
  ·have:i=1:=by omega
   subst this;refine μ.done (.exit 0) (fun st=>K st/\st.q 3=some (0,.cells (l7 b))) (by simp[K,h0,h1,h2,h3,h4,h5,h6,h7]) fun s' h=> .inr ⟨by simp,.inl ⟨rfl,.inl ⟨rfl,h⟩⟩⟩
 ·have Up:(l7 b).length=256:=VO (by omega);have ht:(l7 b).take 256=l7 b:=fe (by omega);simp[h0,h1,h2,h3,h4,h5,Up,hz,ht];exact(Sf (show b<256 by omega)).aQ _ _ _
theorem f242(T:List AV)(hT:T.length=256)(r:Bool)(hr:jH Nt T (l7 48)=some r)(m:Mem)(hx:aX m.ε.length false T=T):kf u 242 [.agg T,.int .u8 48] m=some (.bool r,m):=by
 have q:=fun m=>f243 (u:=u) 48 (by omega) m;refine dt (g:=GF) rfl rfl rfl ?_;simp only[ax,aI,exp,hx,GF,YT,QB];have hw:bN .i32 48=48:=by decide
 have he:(Utf8.encode 48).data.toList.map UInt8.toNat=[48]:=by rfl
 have ht:T.take 256=T:=fe (by omega);simp[bJ,hT,q,hr,hw,he,ht,c7,de,fL]
theorem afC:∀i,i<10->jH Nt (l7 (48+i)) (l7 48)=some (decide (i=0)):=by decide
def nM(B:List θ)(s:List Nat)(p q:Nat):List θ:=B++[.cells [.str s],.cells [.n p],.cells [.n q]]
section
variable(B:List θ)(s:List Nat)(p q:Nat)
theorem afg:(nM B s p q).length=B.length+3:=by simp[nM]
theorem xh:(nM B s p q)[B.length]?=some (.cells [.str s]):=by simp[nM]
theorem rU:(nM B s p q)[B.length+1]?=some (.cells [.n p]):=by simp[nM]
theorem D6:(nM B s p q)[B.length+2]?=some (.cells [.n q]):=by simp[nM]
theorem afh(r:Nat):(nM B s p q).set (B.length+2) (.cells [.n r])=nM B s p r:=by simp[nM]
end
theorem f239(f:Nat->Bool)(B:List θ)(s:List Nat)(hs:dB s)(p q:Nat)(hpq:p<=q)(hq:q<=s.length)(hl:s.length<4000000000)(T:List Nat):
  ab (C u) (.fn (.func 239) [] [.κ (B.length+2) 0,.κ B.length 0,.κ (B.length+1) 0]) [.agg (nZ f)] {ε:=nM B s p q,η:=T}=some (.n ((q+runN f (s.drop q)-p:Nat):Int),{ε:=nM B s p (q+runN f (s.drop q)),η:=T}):=by
 have hle:=zy f (s.drop q);simp only[lL]at hle;generalize hr:q+runN f (s.drop q)=r at*;have hT:=Xa f;refine UT (m':= {ε:=nM B s p r,η:=T}) (g:=GD) rfl rfl rfl ?_ rfl;have Da:∀n,aX n true (nZ f)=nZ f:=fun n=>by rw[ft];simp[nZ,exp]
 have eG:([AV.agg (nZ f)]++[AV.κ (B.length+2) 0,.κ B.length 0,.κ (B.length+1) 0]).map (exp (nM B s p q).length true)=[AV.agg (nZ f),.κ (B.length+2) 0,.κ B.length 0,.κ (B.length+1) 0]:=by simp[Da,exp,afg]
 rw[eG];simp only[GD,Qz];let K:Nat->St->Prop:=fun q st=>st.e 1= .κ (B.length+2) 0/\st.e 2= .κ B.length 0/\st.e 3= .κ (B.length+1) 0/\st.e 4= .ak 4 0 0/\st.q 4=some (0,.cells (nZ f))/\st.mem= {ε:=nM B s p q,η:=[]};refine Ψ (K q) (by simp[K,bJ,hT]) fun s1 hK=>?_;refine bS (K r) ?_ fun s2 ⟨h1,h2,h3,h4,h5,h6⟩=>?_
 ·let I:Nat->St->Prop:=fun i st=>∃x:Nat,K x st/\q+i=x/\x<=s.length/\x+runN f (s.drop x)=r;have h0:I 0 s1:=⟨q,hK,rfl,hq,hr⟩;refine μ.block (μ.lH (I:=I) s.length h0 fun i st hi Ω=>?_);obtain⟨x,⟨h1,h2,h3,h4,h5,h6⟩,hx,UI,HS⟩:=Ω;unfold Vc;rcases di x s.length with ψ|eH
  ·have hb:s[x]<256:=hs _ (db ψ);have dA:(s[x]:Int)<256:=by omega
   have sK:s[x]+1<=256:=by omega
   have hg:=I_ f hb;have hw:bN .i64 ((x:Int)+1)=((x+1:Nat):Int):=by rw[wrap_i64 (by omega) (by omega)];omega
   rw[OQ ψ]at HS;cases hc:f s[x]with
   |false=>
    rw[hc]at hg
    simp only[hc,jO,if_false]at HS;have:x=r:=by omega
    subst this;refine μ.done (.exit 0) (fun st=>K x st) (by simp[K,h1,h2,h3,h4,h5,h6,xh,rU,D6,ψ,hb,dA,sK,hT,hg]) fun s' h=> .inr ⟨by simp,.inl ⟨rfl,.inl ⟨rfl,h⟩⟩⟩
   |true=>
    rw[hc]at hg
    simp only[hc,if_true]at HS;have lB:(nM B s p x).set (B.length+2) (.cells [.n ((x:Int)+1)])=nM B s p (x+1):=afh B s p x (x+1);refine μ.done .normal (fun st=>K (x+1) st) (by simp[K,h1,h2,h3,h4,h5,h6,xh,rU,D6,ψ,hb,dA,sK,hT,hg,hw,Mem.put,Mem.ν,ν,bn,lo,lB]) fun s' h=> .inl ⟨rfl,by omega,x+1,h,by omega,by omega,by omega⟩
  ·have:x=s.length:=by omega
   subst this;rw[ah_]at HS;have:s.length=r:=by omega
   rw[this]at h6;refine μ.done (.exit 0) (fun st=>K r st) (by simp[K,h1,h2,h3,h4,h5,h6,xh,rU,D6,this]) fun s' h=> .inr ⟨by simp,.inl ⟨rfl,.inl ⟨rfl,h⟩⟩⟩
 ·have hw:bN .i64 ((r:Int)-p)=((r-p:Nat):Int):=by rw[wrap_i64 (by omega) (by omega)];omega
  simp[h1,h2,h3,h4,h5,h6,rU,D6,hw,exp]
def _root_.Go.Δ.Tok.bp(t:Tok):AV:= .agg [.n t.at_,.n t.kind,.str t.text,.n t.gV]
theorem Fw{b:Nat}(h:dn b=true):48<=b/\b<=57:=by simpa[dn]using h
theorem f203(s:List Nat)(hs:dB s)(p:Nat)(hp:p<s.length)(hl:s.length<4000000000)(m:Mem):
  kf u 203 [.str s,.n p] m=some ((gr p (s.drop p)).bp,m):=by
 refine dt (g:=Gp) rfl rfl rfl ?_;have oJ:=ajb hp;have hb:s[p]<256:=hs _ (db hp);simp only[ax,aI,exp,Gp,c203];have OE:∀m,kf u 240 [] m=some (.agg (nZ isLet),m):=fun m=>Bt (p:=uy EE) (by rfl) (by rfl);have Ek:∀m,kf u 241 [] m=some (.agg (nZ dn),m):=fun m=>Bt (p:=uy EF) (by rfl) (by rfl);have Wu:∀m,kf u 244 [] m=some (.agg (nZ HT),m):=fun m=>Bt (p:=uy EG) (by rfl) (by rfl);have r8:=fun f T=>f239 (u:=u) f m.ε s hs p (p+1) (by omega) (by omega) hl T;have hw:bN .i64 ((p:Int)+1)=((p+1:Nat):Int):=by rw[wrap_i64 (by omega) (by omega)];omega
 let K:Nat->St->Prop:=fun q st=>st.e 2= .κ m.ε.length 0/\st.e 3= .κ (m.ε.length+1) 0/\st.e 4= .ak 4 0 0/\st.q 4=some (0,.cells [.n 0,.n 0,.str [],.n 0])/\st.e 5= .ak 5 0 0/\st.e 6= .κ (m.ε.length+2) 0/\st.mem= {ε:=nM m.ε s p q,η:=[]};let T:Int->List Nat->Int->St->Prop:=fun k t w st=>st.q 5=some (0,.cells [.n p,.n k,.str t,.n w]);refine Ψ (fun st=>st.e 2= .κ m.ε.length 0/\st.e 3= .κ (m.ε.length+1) 0/\st.e 4= .ak 4 0 0/\st.q 4=some (0,.cells [.n 0,.n 0,.str [],.n 0])/\st.q 5=none/\st.mem= {ε:=m.ε++[.cells [.str s],.cells [.n p]],η:=[]}) (by simp[bJ,Mem.push,Mem.ν,ν]) fun s1 ⟨h1,h2,h3,h4,h5,h6⟩=>?_;refine Ψ (fun st=>K (p+1) st/\T 0 [] (-1) st) (by simp[K,T,h1,h2,h3,h4,h5,h6,bJ,dG,hw,Mem.push,Mem.put,Mem.ν,ν,bn,lo,c7,uV,de,fL,AV.gO,AV.beq,nM]) fun s1 ⟨⟨h1,h2,h3,h4,h5,h6,h7⟩,h8⟩=>?_;have TW:=zy isLet (s.drop p);have My:=zy dn (s.drop p);simp only[lL]at TW My;have dA:(s[p]:Int)<256:=by omega
 have sK:s[p]+1<=256:=by omega
 have g1:=I_ isLet hb;have g2:=I_ dn hb;have g3:=I_ HT hb;have hT:=fun f=>Xa f;generalize qx:gr p (s.drop p)=tk at oJ;refine Ψ (fun st=>K (p+1) st/\T 0 [] (-1) st/\st.e 7= .fn (.func 239) [] [.κ (m.ε.length+2) 0,.κ m.ε.length 0,.κ (m.ε.length+1) 0]) (by simp[K,T,h1,h2,h3,h4,h5,h6,h7,h8]) fun s1 ⟨⟨h1,h2,h3,h4,h5,h6,h7⟩,h8,h9⟩=>?_;have A7:isLet s[p]=true->p+1+runN isLet (s.drop (p+1))=p+runN isLet (s.drop p):=fun h=>by rw[OQ hp,h];simp;omega
 have Dz:dn s[p]=true->p+1+runN dn (s.drop (p+1))=p+runN dn (s.drop p):=fun h=>by rw[OQ hp,h];simp;omega
 have c_:∀n:Nat,p+n-p=n:=fun n=>by omega
 refine bS (fun st=>K (p+tk.text.length) st/\T tk.kind [] tk.gV st/\tk.at_=p/\tk.text=(s.drop p).take tk.text.length/\p+tk.text.length<=s.length) ?_ fun s2 ⟨⟨h1,h2,h3,h4,h5,h6,h7⟩,h8,h9,aE,cH⟩=>?_
 ·refine Ψ (fun st=>(K (p+1) st/\T 0 [] (-1) st)/\st.e 7= .fn (.func 239) [] [.κ (m.ε.length+2) 0,.κ m.ε.length 0,.κ (m.ε.length+1) 0]/\st.e 8= .int .u8 s[p]) (by simp[K,T,h1,h2,h3,h4,h5,h6,h7,h8,h9,xh,rU,hp]) fun s1 ⟨⟨⟨h1,h2,h3,h4,h5,h6,h7⟩,h8⟩,h9,aE⟩=>?_;simp only[T]at h8;refine μ.block ?_;refine Ψ (fun st=>((K (p+1) st/\T 0 [] (-1) st)/\st.e 7= .fn (.func 239) [] [.κ (m.ε.length+2) 0,.κ m.ε.length 0,.κ (m.ε.length+1) 0]/\st.e 8= .int .u8 s[p])/\st.e 21= .bool (isLet s[p])) (by simp[K,T,h1,h2,h3,h4,h5,h6,h7,h8,h9,aE,OE,dA,sK,hT,g1]) fun s1 ⟨⟨⟨⟨h1,h2,h3,h4,h5,h6,h7⟩,h8⟩,h9,aE⟩,cH⟩=>?_;simp only[T]at h8;cases c1:isLet s[p]with
  |true=>
   have A7:=A7 c1
   rw[c1]at oJ;simp only[if_true]at oJ;refine μ.yes (by simp[cH,c1]) ?_;have r8:=r8 isLet [];rw[A7,c_]at r8;generalize hr:runN isLet (s.drop p)=r at*;have hlen:((s.drop p).take r).length=r:=by simp;omega
   have qy:bN .i64 ((p:Int)+8)=(p:Int)+8:=wrap_i64 (by omega) (by omega);subst oJ;by_cases S7:8<r
   ·have Lx:(8:Int)<r:=by omega
    refine μ.done .normal (fun st=>K (p+r) st/\T 1 [] ((p:Int)+8) st) (by simp[K,T,h1,h2,h3,h4,h5,h6,h7,h8,h9,aE,OE,r8,Lx,rU,qy]) fun s' h=> .inr ⟨by simp,.inl ⟨rfl,?_⟩⟩;simp only[S7,if_true,hlen];exact⟨h.1,h.2,trivial,trivial,by omega⟩
   ·have Lx:¬(8:Int)<r:=by omega
    refine μ.done .normal (fun st=>K (p+r) st/\T 1 [] (-1) st) (by simp[K,T,h1,h2,h3,h4,h5,h6,h7,h8,h9,aE,OE,r8,Lx,rU,qy]) fun s' h=> .inr ⟨by simp,.inl ⟨rfl,?_⟩⟩;simp only[S7,if_false,hlen];exact⟨h.1,h.2,trivial,trivial,by omega⟩
  |false=>
   refine μ.no (by simp[cH,c1]) ?_
   rw[c1]at oJ;simp only[jO,if_false]at oJ;refine Ψ (fun st=>((K (p+1) st/\T 0 [] (-1) st)/\st.e 7= .fn (.func 239) [] [.κ (m.ε.length+2) 0,.κ m.ε.length 0,.κ (m.ε.length+1) 0]/\st.e 8= .int .u8 s[p])/\st.e 34= .bool (dn s[p])) (by simp[K,T,h1,h2,h3,h4,h5,h6,h7,h8,h9,aE,Ek,dA,sK,hT,g2]) fun s1 ⟨⟨⟨⟨h1,h2,h3,h4,h5,h6,h7⟩,h8⟩,h9,aE⟩,cH⟩=>?_;simp only[T]at h8;cases c2:dn s[p]with
   |true=>
    have Dz:=Dz c2
    rw[c2]at oJ;simp only[if_true]at oJ;refine μ.yes (by simp[cH,c2]) ?_;have r8:=r8 dn [];rw[Dz,c_]at r8;generalize hr:runN dn (s.drop p)=r at*;have hlen:((s.drop p).take r).length=r:=by simp;omega
    have hd:=Fw c2;have OG:=fun m=>f243 (u:=u) s[p] (by omega) m;have OF:∀m,kf u 242 [.agg (l7 s[p]),.int .u8 48] m=some (.bool (decide (s[p]=48)),m):=fun m=>by
     refine f242 (u:=u) (l7 s[p]) (VO hb) _ ?_ m ?_
     ·have:=afC (s[p]-48) (by omega);rw[show 48+(s[p]-48)=s[p] by omega]at this;rw[this];congr 1;simp only[decide_eq_decide];omega
     ·have:=(Sf hb).lS m.ε.length;simpa only[exp,AV.agg.injEq]using this
    have rK:(s.take (p+1)).drop p=[s[p]]:=by rw[Xc (by omega),show p+1-p=1 by omega,oc hp];rfl
    have rL:bN .i64 ((p:Int)+1)=(p:Int)+1:=wrap_i64 (by omega) (by omega);have qy:bN .i64 ((p:Int)+2)=(p:Int)+2:=wrap_i64 (by omega) (by omega);have dr:(p:Int)<=(p:Int)+1:=by omega
    have yn:(0:Int)<=(p:Int)+1:=by omega
    have CY:(p:Int)+1<=s.length:=by omega
    subst oJ;have fin:∀st w,K (p+r) st/\T 2 [] w st->w=(if 1<r/\s[p]=48 then(p:Int)+1 else if 2<r then(p:Int)+2 else-1)->K (p+((s.drop p).take r).length) st/\T 2 [] (if 1<r/\s[p]=48 then(p:Int)+1 else if 2<r then(p:Int)+2 else-1) st/\p=p/\(s.drop p).take r=(s.drop p).take ((s.drop p).take r).length/\p+((s.drop p).take r).length<=s.length:=by intro st w h hw;rw[hlen,<-hw];exact⟨h.1,h.2,rfl,rfl,by omega⟩
    by_cases ha:1<r
    ·have CV:(1:Int)<r:=by omega
     by_cases hz:s[p]=48
     ·refine μ.done .normal (fun st=>K (p+r) st/\T 2 [] ((p:Int)+1) st) (by simp[K,T,h1,h2,h3,h4,h5,h6,h7,h8,h9,aE,Ek,r8,OF,OG,CV,decide_eq_true hz,xh,rU,rL,bound,rK,dr,yn,CY]) fun s' h=> .inr ⟨by simp,.inl ⟨rfl,fin _ _ h (by simp[ha,hz])⟩⟩
     ·by_cases hy:2<r
      ·have lV:(2:Int)<r:=by omega
       refine μ.done .normal (fun st=>K (p+r) st/\T 2 [] ((p:Int)+2) st) (by simp[K,T,h1,h2,h3,h4,h5,h6,h7,h8,h9,aE,Ek,r8,OF,OG,CV,lV,hz,xh,rU,rL,qy,bound,rK,dr,yn,CY]) fun s' h=> .inr ⟨by simp,.inl ⟨rfl,fin _ _ h (by simp[hy,hz])⟩⟩
      ·have lV:¬(2:Int)<r:=by omega
       refine μ.done .normal (fun st=>K (p+r) st/\T 2 [] (-1) st) (by simp[K,T,h1,h2,h3,h4,h5,h6,h7,h8,h9,aE,Ek,r8,OF,OG,CV,lV,hz,xh,rU,rL,qy,bound,rK,dr,yn,CY]) fun s' h=> .inr ⟨by simp,.inl ⟨rfl,fin _ _ h (by simp[hy,hz])⟩⟩
    ·have CV:¬(1:Int)<r:=by omega
     have lV:¬(2:Int)<r:=by omega
     have hy:¬2<r:=by omega
     refine μ.done .normal (fun st=>K (p+r) st/\T 2 [] (-1) st) (by simp[K,T,h1,h2,h3,h4,h5,h6,h7,h8,h9,aE,Ek,r8,CV,lV]) fun s' h=> .inr ⟨by simp,.inl ⟨rfl,fin _ _ h (by simp[ha,hy])⟩⟩
   |false=>
    refine μ.no (by simp[cH,c2]) ?_
    rw[c2]at oJ;simp only[jO,if_false]at oJ;have rB:(s.drop p).take 1=[s[p]]:=by rw[oc hp];rfl
    have rL:bN .i64 (s[p]:Int)=(s[p]:Int):=wrap_i64 (by omega) (by omega);by_cases c3:s[p]∈pV
    ·rw[if_pos c3]at oJ;have Lk:HT s[p]=true:=decide_eq_true c3;rw[Lk]at g3;subst oJ;refine μ.done .normal (fun st=>K (p+1) st/\T s[p] [] (-1) st) (by simp[K,T,h1,h2,h3,h4,h5,h6,h7,h8,h9,aE,Wu,dA,sK,hT,g3,rL]) fun s' h=> .inr ⟨by simp,.inl ⟨rfl,h.1,h.2,rfl,rB.symm,hp⟩⟩
    ·rw[if_neg c3]at oJ;have Lk:HT s[p]=false:=decide_eq_false c3;rw[Lk]at g3;subst oJ;refine μ.done .normal (fun st=>K (p+1) st/\T 0 [] p st) (by simp[K,T,h1,h2,h3,h4,h5,h6,h7,h8,h9,aE,Wu,dA,sK,hT,g3,rU]) fun s' h=> .inr ⟨by simp,.inl ⟨rfl,h.1,h.2,rfl,rB.symm,hp⟩⟩
 ·simp only[T]at h8;have dr:(p:Int)<=(p:Int)+tk.text.length:=by omega
  have yn:(0:Int)<=(p:Int)+tk.text.length:=by omega
  have CY:(p:Int)+tk.text.length<=s.length:=by omega
  have rK:(s.take (p+tk.text.length)).drop p=tk.text:=by rw[Xc (by omega),show p+tk.text.length-p=tk.text.length by omega];exact aE.symm
  have e1:((p:Int)+tk.text.length).toNat=p+tk.text.length:=by omega
  simp[h1,h2,h3,h4,h5,h6,h7,h8,xh,rU,D6,bound,dr,yn,CY,e1,rK];refine⟨⟨_,rfl⟩,?_⟩;rw[Tok.bp,h9];rfl
def rest(s:List Nat)(n:Nat):List Tok:=oZ (s.length+1) n (s.drop n)
theorem ahZ(s:List Nat)(n:Nat)(hn:n<=s.length):rest s n=if n+bZ false (s.drop n)<s.length then
  (if(gr (n+bZ false (s.drop n)) (s.drop (n+bZ false (s.drop n)))).kind=0 then[gr (n+bZ false (s.drop n)) (s.drop (n+bZ false (s.drop n)))]
   else gr (n+bZ false (s.drop n)) (s.drop (n+bZ false (s.drop n)))::rest s (n+bZ false (s.drop n)+(gr (n+bZ false (s.drop n)) (s.drop (n+bZ false (s.drop n)))).text.length))else[]:=by
 have hle:=Vj false (s.drop n);simp only[lL]at hle
 conv=>lhs;rw[rest,oZ]
 simp only[lL,o9];by_cases h:n+bZ false (s.drop n)<s.length
 ·have h1:¬s.length-n<=bZ false (s.drop n):=by omega
  rw[if_neg h1,if_pos h];split
  ·rfl
  ·congr 1;cases hr:s.drop (n+bZ false (s.drop n))with
   |nil=>have:=congrArg lK hr;simp at this;omega
   |cons b r=>
    have hp:=EH (n+bZ false (s.drop n)) b r
    rw[<-hr]at hp;rw[<-hr];refine ajf _ _ _ _ ?_ ?_<;>simp only[lL]<;>omega
 ·have h1:s.length-n<=bZ false (s.drop n):=by omega
  rw[if_pos h1,if_neg h]
def sG{σ:Type}(f:σ->Tok->σ×Bool):List Tok->σ->σ
 |[],x=>x
 |t::l,x=>if(f x t).2 then sG f l (f x t).1 else(f x t).1
theorem f201{σ:Type}{I D:σ->List θ->Prop}{f:σ->Tok->σ×Bool}{N l:Nat}(s:List Nat)(hs:dB s)(hl:s.length<4000000000)
  (hI:∀x bs,I x bs->l<bs.length)
  {cnt:σ->Nat} (iZ:∀x t,cnt (f x t).1<=cnt x+1)
  (hy:∀x bs T t,I x bs->cnt x<s.length->∃lP T',ab (C u) (.fn (.yield l) [] []) [t.bp] {ε:=bs,η:=T}=some (.bool (f x t).2,{ε:=lP,η:=T'})/\(if(f x t).2 then I (f x t).1 lP else D (f x t).1 lP)/\∀i∈T',i∈T\/N<=i)
  (x:σ) (bs:List θ) (T:List Nat) (hx:I x bs) (AP:cnt x=0):
  ∃lP T',ab (C u) (.fn (.func 201) [] [.ref [.str s]]) [.fn (.yield l) [] []] {ε:=bs,η:=T}=some (.aU [],{ε:=lP,η:=T'})/\(I (sG f (dK s) x) lP\/D (sG f (dK s) x) lP)/\∀i∈T',i∈T\/N<=i:=by
 generalize hG:sG f (dK s) x=G;have dT:μ (C u).gl (ab (C u)) CL.code {env:=([AV.fn (.yield l) [] []]++[AV.ref [.str s]]).map (exp bs.length true),loc:=[],mem:= {ε:=bs,η:=[]}} fun r=>
   (∀i,r.1≠ .exit i)/\(I G r.2.mem.ε\/D G r.2.mem.ε)/\∀i∈r.2.mem.η,N<=i:=by
  have qn:=hI _ _ hx;have eG:([AV.fn (.yield l) [] []]++[AV.ref [.str s]]).map (exp bs.length true)=[AV.fn (.yield l) [] [],AV.ref [.str s]]:=by simp[exp,aX,Fn.below,qn]
  rw[eG];simp only[CL,c201];have Ej:=fun n hn m=>f202 (u:=u) s hs n hn hl m;have IV:=fun p hp m=>f203 (u:=u) s hs p hp hl m;let K:St->Prop:=fun st=>st.e 0= .fn (.yield l) [] []/\st.e 1= .ref [.str s]/\∀i∈st.mem.η,N<=i;let J:Nat->St->Prop:=fun i st=>K st/\∃n y,I y st.mem.ε/\n<=s.length/\(i<=n+bZ false (s.drop n)/\cnt y<=n+bZ false (s.drop n))/\sG f (rest s n) y=G/\st.e 3= .n ((n+bZ false (s.drop n):Nat):Int);have q0:∀m,kf u 202 [.str s,.n 0] m=some (.n (bZ false s:Nat),m):=fun m=>by have:=Ej 0 (vY _) m;rw[List.drop_zero,Nat.zero_add]at this;exact this
  refine Ψ (J 0) (by
   simp[J,K,q0]
   exact⟨0,x,hx,vY _,by omega,hG,by simp⟩) fun s1 hJ=>?_
  refine μ.block (μ.lH (I:=J) s.length hJ fun i st hi Ω=>?_);obtain⟨⟨h1,h2,h3⟩,n,y,h4,h5,⟨h6,h66⟩,h7,h8⟩:=Ω;rw[ahZ s n h5]at h7;have hle:=Vj false (s.drop n);simp only[lL]at hle;generalize hp:n+bZ false (s.drop n)=p at*;generalize ry:st.mem.ε=bb at h4;generalize mD:st.mem.η=tt at h3;have hm:st.mem= {ε:=bb,η:=tt}:=by rw[<-ry,<-mD]
  unfold U';rcases di p s.length with ψ|eH
  ·rw[if_pos ψ]at h7;have IV:=IV p ψ;have eZ:(p:Int)<s.length:=by omega
   have hlen:=Xg p (s.drop p);have jL:0<(gr p (s.drop p)).text.length:=by rw[oc ψ];exact EH _ _ _
   simp only[lL]at hlen;generalize gr p (s.drop p)=tk at*;obtain⟨Ce,T',e,sH,hT'⟩:=hy y bb tt tk h4 (by omega);have iZ:=iZ y tk;obtain⟨a,k,tx,w⟩:=tk;simp only[Tok.bp]at e IV;dsimp only at h7 hlen jL sH e iZ;have LM:∀i∈T',N<=i:=fun i hi=>(hT' i hi).elim (h3 i) id;refine Ψ (fun st=>st.e 0= .fn (.yield l) [] []/\st.e 1= .ref [.str s]/\st.e 3= .n p/\st.mem= {ε:=bb,η:=tt}) (by simp[h1,h2,h8,hm,eZ]) fun s1 ⟨h1,h2,h3,h8⟩=>?_;refine μ.block ?_;refine Ψ (fun st=>st.e 0= .fn (.yield l) [] []/\st.e 1= .ref [.str s]/\st.e 3= .n p/\st.mem= {ε:=bb,η:=tt}/\st.e 4= .ak 4 (bJ (bR s1.loc) 4) 0/\st.q 4=some (bJ (bR s1.loc) 4,.cells [.n a,.n k,.str tx,.n w])) (by simp[h1,h2,h3,h8,IV]) fun s2 ⟨h1,h2,h3,h8,h9,aE⟩=>?_;generalize bJ (bR s1.loc) 4=vv at*;refine bS (fun st=>st.e 0= .fn (.yield l) [] []/\st.e 1= .ref [.str s]/\st.e 3= .n p/\st.mem= {ε:=Ce,η:=T'}/\st.e 4= .ak 4 vv 0/\st.q 4=some (vv,.cells [.n a,.n k,.str tx,.n w])/\k≠0/\(f y ⟨a,k,tx,w⟩).2=true) ?_ fun s3 ⟨h1,h2,h3,h8,h9,aE,cH,dq⟩=>?_
   ·cases hc:(f y ⟨a,k,tx,w⟩).2 with
    |false=>
     rw[hc]at e
     refine μ.done .ret (fun st=>st.mem= {ε:=Ce,η:=T'}) (by simp[h1,h2,h3,h8,h9,aE,e]) fun s' h=> .inr ⟨by simp,.inr ⟨by simp,.inr ⟨by simp,.inr ⟨by simp,by simp,?_⟩⟩⟩⟩;rw[h];refine⟨?_,LM⟩;have:(f y ⟨a,k,tx,w⟩).1=G:=by split at h7<;>simpa[sG,hc]using h7
     rw[hc]at sH;rw[<-this];exact .inr sH
    |true=>
     rw[hc]at e
     by_cases hk:k=0
     ·have c8:((k:Int)==0)=true:=beq_iff_eq.2 (by omega);refine μ.done .ret (fun st=>st.mem= {ε:=Ce,η:=T'}) (by simp[h1,h2,h3,h8,h9,aE,e,c8]) fun s' h=> .inr ⟨by simp,.inr ⟨by simp,.inr ⟨by simp,.inr ⟨by simp,by simp,?_⟩⟩⟩⟩;simp only[hk,if_true,sG]at h7;rw[h];refine⟨?_,LM⟩;have:(f y ⟨a,k,tx,w⟩).1=G:=by simpa[hk,hc]using h7
      rw[hc,if_pos rfl]at sH;rw[<-this];exact .inl sH
     ·have c8:((k:Int)==0)=false:=beq_eq_false_iff_ne.2 (by omega);refine μ.done .normal (fun st=>st.e 0= .fn (.yield l) [] []/\st.e 1= .ref [.str s]/\st.e 3= .n p/\st.mem= {ε:=Ce,η:=T'}/\st.e 4= .ak 4 vv 0/\st.q 4=some (vv,.cells [.n a,.n k,.str tx,.n w])) (by simp[h1,h2,h3,h8,h9,aE,e,c8,hk]) fun s' h=> .inl ⟨rfl,?_⟩;exact⟨h.1,h.2.1,h.2.2.1,h.2.2.2.1,h.2.2.2.2.1,h.2.2.2.2.2,hk,rfl⟩
   ·have hw:bN .i64 ((p:Int)+tx.length)=(p:Int)+tx.length:=wrap_i64 (by omega) (by omega);have Ej:=Ej (p+tx.length) (by omega);simp only[Int.natCast_add]at Ej;rw[if_neg cH]at h7;refine μ.done .normal (fun st=>st.e 0= .fn (.yield l) [] []/\st.e 1= .ref [.str s]/\st.e 3= .n ((p+tx.length+bZ false (s.drop (p+tx.length)):Nat):Int)/\st.mem= {ε:=Ce,η:=T'}) (by simp[h1,h2,h3,h8,h9,aE,hw,Ej]) fun s' ⟨h1,h2,h3,h8⟩=> .inr ⟨by simp,?_⟩;refine .inl ⟨rfl,by omega,⟨h1,h2,by rw[h8];exact LM⟩,p+tx.length,_,by rw[dq,if_pos rfl]at sH;rw[h8];exact sH,by omega,by omega,?_,h3⟩;simpa[sG,dq]using h7
  ·rw[if_neg (by omega)]at h7;have Db:¬(p:Int)<s.length:=by omega
   refine μ.done (.exit 0) (fun st=>st.mem= {ε:=bb,η:=tt}) (by simp[h1,h2,h8,hm,Db]) fun s' h=> .inr ⟨by simp,?_⟩;refine .inl ⟨rfl,by simp,?_⟩;rw[h];refine⟨?_,h3⟩;simp only[sG]at h7;rw[<-h7];exact .inl h4
 obtain⟨⟨ex,s'⟩,h1,h2,h3,h4⟩:=dT;refine⟨s'.mem.ε,T++s'.mem.η,?_,h3,fun i hi=>(dQ.1 hi).imp id (h4 i)⟩;have:=sv (C:=C u) (f:=201) (g:=CL) (args:=[.fn (.yield l) [] []]) (cap:=[.ref [.str s]]) (m:= {ε:=bs,η:=T}) (l:=[]) rfl rfl rfl h1 h2 (by rfl);exact this
theorem f130(s:List Nat)(m:Mem):kf u 130 [.str s] m=some (.fn (.func 201) [] [.ref [.str s]],m):=by refine dt (g:=F1) rfl rfl rfl ?_;simp[F1,c130,exp,Mem.push,Mem.ν,ν,aQ,fC,oC,Fn.below]
theorem Iq{α:Type}{l:List α}{i:Nat}{x:α}(h:l[i]?=some x):i<l.length:=by
 rcases di i l.length with hl|hl
 ·exact hl
 ·rw[gW hl]at h;cases h
theorem Row.push{n:Nat}{bs:List θ}{sz:Nat}{e:TypeId}{c:τ}{len:Nat}(h:Row n bs sz e c len)(x:List θ):Row n (bs++x) sz e c len:=by
 rcases h with h|⟨t,h1,h2,h3⟩
 ·exact .inl h
 ·refine .inr ⟨t,h1,h2,?_⟩;rw[d_ (Iq h3)];exact h3
theorem Row.swap{n:Nat}{P P' x:List θ}{sz:Nat}{e:TypeId}{c:τ}{len:Nat}(h:Row n (P++x) sz e c len)(h1:P.length=P'.length)(h2:P.length<=n):Row n (P'++x) sz e c len:=by
 rcases h with h|⟨t,k1,k2,k3⟩
 ·exact .inl h
 ·refine .inr ⟨t,k1,k2,?_⟩;rw[uM (by omega)]at k3⊢;rw[<-h1];exact k3
theorem ajM{C:iF}{l:Nat}{args:List AV}{mem:Mem}{env:List AV}{ps:List Nat}{fK bd:AC}{nY:LS}{M:St->Prop}{Q:AV->Mem->Prop}(hm:mem.ε[l]?=some (.loop env ps fK bd nY))(hl:ps.length=args.length)
  (h1:μ C.gl (ab C) fK {env:=vJ env ps (args.map (exp mem.ε.length false)),loc:=[],mem:=mem} fun r=>r.1= .normal/\r.2.mem.ls l=some .ready/\M r.2)
  (h2:∀s,M s->μ C.gl (ab C) bd {s with mem:=s.mem.kM l .busy} fun r=>r.2.mem.ls l=some .busy/\match r.1 with
   | .normal=>Q (.bool true) (r.2.mem.kM l .ready)
   | .ret=>Q (.bool false) (r.2.mem.kM l (.done none))
   | .exit i=>Q (.bool false) (r.2.mem.kM l (.done (some i)))):∃v m',ab C (.fn (.yield l) [] []) args mem=some (v,m')/\Q v m':=by
 obtain⟨⟨e1,s1⟩,k1,rfl,k3,k4⟩:=h1;obtain⟨⟨e2,s2⟩,k5,k6,k7⟩:=h2 s1 k4;dsimp only at k3 k6 k7;cases e2 with
 |normal=>exact⟨_,_,by apply sy;simp only[body,round,hm,hl,if_true,k1,k3,k5,k6],k7⟩
 |ret=>exact⟨_,_,by apply sy;simp only[body,round,hm,hl,if_true,k1,k3,k5,k6],k7⟩
 |exit i=>exact⟨_,_,by apply sy;simp only[body,round,hm,hl,if_true,k1,k3,k5,k6],k7⟩
theorem aaK(l:List AV)(i:Nat):br (l.map ν) i=ν (br l i):=by
 induction l generalizing i with
 |nil=>simp[br,ν]
 |cons a l ih=>cases i with
  |zero=>rfl
  |succ i=>simp only[ax,br,ih]
def tH:AC:= .ops [⟨(some 5),.alloc true [(.n 0),(.n 0),(.str []),(.n 0)],none⟩,⟨none,.st 4 (.t 5) (.t 7),none⟩]
def tJ:AC:= .block 1 (.ops [⟨(some 8),.ld false 1 (.t 2),none⟩,⟨(some 9),.ld true 4 (.t 5),none⟩,⟨(some 10),.ca true 4 [(.t 9)],none⟩,⟨(some 11),.app true 4 40 194 (.t 8) (.t 10),none⟩,⟨none,.st 1 (.t 2) (.t 11),none⟩])
def aM(B:List θ)(env:List AV)(c:τ)(l:List Tok)(st:LS):List θ:=B++[.cells [.list c (l.map Tok.bp)],.loop env [7] tH tJ st]
theorem uR(B:List θ)(env:List AV)(c:τ)(l:List Tok)(st:LS):(aM B env c l st).length=B.length+2:=by simp[aM]
theorem Tok.RT(n:Nat)(k:Bool)(t:Tok):exp n k t.bp=t.bp:=by simp[Tok.bp,exp,aX]
theorem Tok.Si(t:Tok):Fx t.bp:=⟨rfl,rfl⟩
theorem agO(l:List Tok):(l.map Tok.bp).all (shaped true 4)=true:=by simp[o8,Tok.bp,shaped,Function.comp]
theorem ajK(B:List θ)(env:List AV)(h2:br env 2= .κ B.length 0)(c:τ)(l:List Tok)(ext:List θ)(hr:Row (B.length+2) (aM B env c l .ready++ext) 4 194 c l.length)(hl:l.length<1000000000)(t:Tok)(T:List Nat):
  ∃c' ext' T',ab (C u) (.fn (.yield (B.length+1)) [] []) [t.bp] {ε:=aM B env c l .ready++ext,η:=T}=some (.bool true,{ε:=aM B env c' (l++[t]) .ready++ext',η:=T'})∧
   Row (B.length+2) (aM B env c' (l++[t]) .ready++ext') 4 194 c' (l.length+1)/\∀i∈T',i∈T\/B.length<=i:=by
 have hy:=ajM (C:=C u) (l:=B.length+1) (args:=[t.bp]) (mem:= {ε:=aM B env c l .ready++ext,η:=T}) (env:=env) (ps:=[7]) (fK:=tH) (bd:=tJ) (nY:= .ready)
  (M:=fun s=>s.e 2= .κ B.length 0/\s.e 5= .κ (B.length+2+ext.length) 0/\s.mem= {ε:=aM B env c l .ready++(ext++[.cells [.n t.at_,.n t.kind,.str t.text,.n t.gV]]),η:=T})
  (Q:=fun v m=>v= .bool true/\∃c' ext' T',m= {ε:=aM B env c' (l++[t]) .ready++ext',η:=T'}/\Row (B.length+2) (aM B env c' (l++[t]) .ready++ext') 4 194 c' (l.length+1)/\∀i∈T',i∈T\/B.length<=i)
  (by simp[aM]) rfl (by
   have hg:(aM B env c l .ready++ext)[B.length+1]?=some (.loop env [7] tH tJ .ready):=by simp[aM]
   have hX:(aM B env c l .ready++ext).length=B.length+2+ext.length:=by simp[uR]
   rw[<-bQ];generalize aM B env c l .ready++ext=X at*;have g1:∀z,(X++[z])[B.length+2+ext.length]?=some z:=fun z=>by rw[<-hX];simp
   have g2:∀z w,(X++[z]).set (B.length+2+ext.length) w=X++[w]:=fun z w=>by rw[<-hX];simp
   have g3:∀z,(X++[z])[B.length+1]?=some (.loop env [7] tH tJ .ready):=fun z=>by rw[d_ (Iq hg)];exact hg
   simp[tH,vJ,Tok.bp,exp,aX,h2,hX,Mem.push,g1,g2,g3,Mem.put,Mem.ν,ν,bn,lo,Mem.ls]) ?_
 ·obtain⟨v,m',e,rfl,c',ext',T',rfl,k1,k2⟩:=hy;exact⟨c',ext',T',e,k1,k2⟩
 ·intro s ⟨k1,k2,k3⟩;have lB:Mem.kM {ε:=aM B env c l .ready++(ext++[.cells [.n t.at_,.n t.kind,.str t.text,.n t.gV]]),η:=T} (B.length+1) .busy= {ε:=aM B env c l .busy++(ext++[.cells [.n t.at_,.n t.kind,.str t.text,.n t.gV]]),η:=T}:=by simp[Mem.kM,aM]
  have jv:Row (aM B env c l .busy).length (aM B env c l .busy++(ext++[.cells [.n t.at_,.n t.kind,.str t.text,.n t.gV]])) 4 194 c (l.map Tok.bp).length:=by rw[uR,<-bQ,cz];exact Row.push (Row.swap hr (by simp[uR]) (by simp[uR])) _
  obtain⟨c',ext',eu,hH,-⟩:=vI (bytes:=40) jv (agO l) (show shaped true 4 t.bp=true by rfl) (show ν t.bp=t.bp by rfl) (by omega) (by simp;omega) (by simp;omega);rw[uR,cz]at hH;simp only[k3,lB];have g1:∀x,(aM B env c l .busy++x)[B.length]?=some (.cells [.list c (l.map Tok.bp)]):=fun x=>by simp[aM]
  have g2:(aM B env c l .busy++(ext++[.cells [.n t.at_,.n t.kind,.str t.text,.n t.gV]]))[B.length+2+ext.length]?=some (.cells [.n t.at_,.n t.kind,.str t.text,.n t.gV]):=by
   have:B.length+2+ext.length=(aM B env c l .busy++ext).length:=by simp[uR]
   rw[this,<-bQ];simp
  have g3:∀x,(aM B env c l .busy++x).set B.length (.cells [.list c' (l.map Tok.bp++[t.bp])])=aM B env c' (l++[t]) .busy++x:=fun x=>by simp[aM]
  have g4:∀x st,Mem.kM {ε:=aM B env c' (l++[t]) .busy++x,η:=st} (B.length+1) .ready= {ε:=aM B env c' (l++[t]) .ready++x,η:=st}:=fun x st=>by simp[Mem.kM,aM]
  have g5:∀x st,Mem.ls {ε:=aM B env c' (l++[t]) .busy++x,η:=st} (B.length+1)=some .busy:=fun x st=>by simp[Mem.ls,aM]
  have g6:cG (l.map Tok.bp++[t.bp])=l.map Tok.bp++[t.bp]:=by simp[fH,Function.comp,Tok.bp,ν,cG]
  have dX:shaped true 4 (.agg [.n t.at_,.n t.kind,.str t.text,.n t.gV])=true:=rfl;simp only[Tok.bp]at eu g3 g6;refine μ.done .normal (fun s=>∃T',s.mem= {ε:=aM B env c' (l++[t]) .busy++ext',η:=T'}/\∀i∈T',i∈T\/B.length<=i) (by
   simp[tJ,k1,k2,g1,g2,dX,Mem.ν,ν,cG,Tok.bp,eu,Mem.put]
   simp only[g6,g3];refine⟨_,⟨trivial,rfl⟩,fun i hi=>?_⟩;split at hi
   ·exact .inl hi
   ·exact(cB.1 hi).elim (fun h=> .inr (by omega)) .inl) fun s' h=>?_
  obtain⟨T',h1,h2⟩:=h;refine⟨by rw[h1];exact g5 _ _,by trivial,c',ext',T',by rw[h1,g4],Row.swap hH (by simp[uR]) (by simp[uR]),h2⟩
theorem aaQ{σ:Type}(g:σ->Tok->σ)(l:List Tok)(x:σ):sG (fun x t=>(g x t,true)) l x=l.foldl g x:=by
 induction l generalizing x with
 |nil=>rfl
 |cons a l ih=>simp[sG,ih]
theorem aat(l x:List Tok):l.foldl (fun l t=>l++[t]) x=x++l:=by
 induction l generalizing x with
 |nil=>simp
 |cons a l ih=>simp[ih]
theorem Xi(s:List Nat):(dK s).length<=s.length:=by
 have:∀k n (l:List Nat),(oZ k n l).length<=l.length:=by
  intro k;induction k with
  |zero=>intro n l;simp[oZ]
  |succ k ih=>
   intro n l
   simp only[oZ];split
   ·simp
   ·rename_i h;split
    ·simp;omega
    ·have:=ih (n+bZ false l+(gr (n+bZ false l) (l.drop (bZ false l))).text.length) ((l.drop (bZ false l)).drop (gr (n+bZ false l) (l.drop (bZ false l))).text.length);cases hr:l.drop (bZ false l)with
     |nil=>have:=congrArg lK hr;simp at this;omega
     |cons b r=>
      have hp:=EH (n+bZ false l) b r
      rw[hr]at this;simp only[cN,lL]at this⊢;have:=congrArg lK hr;simp at this;omega
 exact this _ _ _
theorem aad(c:τ)(n:Nat):(c.exp n true).exp n true=c.exp n true:=by
 cases c with
 |own t=>by_cases h:t<n<;>simp[τ.exp,h]
 |_=>rfl
theorem aiP(X:List θ)(L:List AV)(hL:aX (X.length+1) true L=L)(T:List Nat):∀c,(∀i∈T,X.length<=i)→
  lF (X.length+1) T (X++[.cells [.list c L]])=X++[.cells [.list (if X.length∈T then c.exp (X.length+1) true else c) L]]:=by
 induction T with
 |nil=>intro c _;simp[lF]
 |cons i T ih=>
  intro c h
  simp only[lF];by_cases hi:i=X.length
  ·subst hi;simp only[uM (b_ _),Nat.sub_self,BW,θ.Bz,ax,aI,exp,hL,List.set_append_right _ _ (b_ _),List.set_cons_zero];rw[ih _ fun j hj=>h j (by simp[hj])];by_cases hm:X.length∈T<;>simp[hm,aad]
  ·have h1:(X++[θ.cells [.list c L]])[i]?=none:=gW (by have:=h i (by simp);simp;omega);rw[h1];rw[ih _ fun j hj=>h j (by simp[hj])];simp[Ne.symm hi]
theorem Yg(X:List θ)(L:List AV)(hL:aX (X.length+1) true L=L)(jJ:bn X.length L=true)(T:List Nat)(c:τ)(hT:∀i∈T,X.length<=i)(bs Y:List θ)(h1:Y.length=X.length+1):
  ∃c2,Mem.back {ε:=Y,η:=[]} {ε:=X++[.cells [.list c L]]++bs,η:=T}= {ε:=X++[.cells [.list c2 L]],η:=[]}/\c2.exp 0 false=c.exp 0 false:=by
 refine⟨if X.length∈T then c.exp (X.length+1) true else c,?_,by split<;>simp[uZ]⟩;have h2:(X++[θ.cells [.list c L]]++bs).take (X.length+1)=X++[θ.cells [.list c L]]:=by rw[List.take_append_of_le_length (by simp)];exact fe (by simp)
 simp only[Mem.back,h1,h2,aiP X L hL T c hT,bB,Mem.mk.injEq,true_and];rw[akB];intro i hi;by_cases he:i=X.length
 ·subst he;simp only[uM (b_ _),Nat.sub_self,BW,hi,if_true,θ.clean,bn,lo,jJ];cases c with
  |own t=>
   by_cases ht:t<X.length+1
   ·simp[τ.exp,ht,τ.lo];omega
   ·simp[τ.exp,ht,τ.lo]
  |_=>simp[τ.exp,τ.lo]
 ·have h1:∀w:θ,(X++[w])[i]?=none:=fun w=>gW (by have:=hT i hi;simp;omega);simp[h1]
theorem f225(s:List Nat)(hs:dB s)(hl:s.length<1000000000)(m:Mem):kf u 225 [.list .nil [],.fn (.func 201) [] [.ref [.str s]]] m=some (.list (if dK s=[]then .nil else .any) ((dK s).map Tok.bp),m):=by
 have Ws:=fun(env:List AV) (h2:br env 2= .κ m.ε.length 0)=>f201 (u:=u) (σ:=List Tok) (I:=fun l bs=>∃c ext,bs=aM m.ε env c l .ready++ext/\Row (m.ε.length+2) bs 4 194 c l.length/\(l=[]->c= .nil)) (D:=fun _ _=>False) (f:=fun l t=>(l++[t],true)) (N:=m.ε.length) (l:=m.ε.length+1)
  s hs (by omega) (fun l bs ⟨c,ext,h,_⟩=>by rw[h,List.length_append,uR];omega) (cnt:=lK) (fun l t=>by simp)
  (fun l bs T t ⟨c,ext,h,hr,hn⟩ hc=>by
   subst h
   obtain⟨c',ext',T',k1,k2,k3⟩:=ajK (u:=u) m.ε env h2 c l ext hr (by omega) t T;exact⟨_,T',k1,by rw[if_pos rfl];exact⟨c',ext',rfl,by simpa using k2,fun h=>by simp at h⟩,k3⟩) [] (aM m.ε env .nil [] .ready) [] ⟨.nil,[],by simp,Row.nil,fun _=>rfl⟩ rfl
 rw[aaQ,aat,bB]at Ws;refine dt (g:=Gx) rfl rfl rfl ?_;have eG:[AV.list .nil [],AV.fn (.func 201) [] [.ref [.str s]]].map (exp m.ε.length false)=[AV.list .nil [],AV.fn (.func 201) [] [.ref [.str s]]]:=by simp[exp,aX,Fn.below,τ.exp]
 rw[eG];simp only[Gx,Qw];refine Ψ (fun st=>st.e 1= .fn (.func 201) [] [.ref [.str s]]/\st.e 2= .κ m.ε.length 0/\st.mem= {ε:=m.ε++[.cells [.list .nil []]],η:=[]}) (by simp[Mem.push,Mem.ν,ν,cG]) fun s1 ⟨h1,h2,h3⟩=>?_;have ve:∀n k,aX n k ((dK s).map Tok.bp)=(dK s).map Tok.bp:=fun n k=>by rw[ft,List.map_map];exact List.map_congr_left fun t _=>Tok.RT n k t
 refine bS (fun st=>st.e 2= .κ m.ε.length 0/\∃c,st.mem= {ε:=m.ε++[.cells [.list c ((dK s).map Tok.bp)]],η:=[]}/\c.exp 0 false=if dK s=[]then .nil else .any) ?_ fun s2 ⟨h1,c,h2,h3⟩=>?_
 ·refine Ψ (fun st=>st.e 6= .fn (.func 201) [] [.ref [.str s]]/\st.e 2= .κ m.ε.length 0/\st.mem= {ε:=m.ε++[.cells [.list .nil []]],η:=[]}) (by simp[h1,h2,h3]) fun s1 ⟨h1,h2,h3⟩=>?_;refine μ.block ?_;obtain⟨lP,T',e,⟨c,ext,rfl,hr,hn⟩|⟨⟨⟩⟩,hT⟩:=Ws (s1.env.map ν) (by rw[aaK];exact congrArg ν h2);have eI:∀M:Mem,M.ν=ν:=fun _=>rfl;have e0:aM m.ε (s1.env.map ν) .nil [] .ready=m.ε++[.cells [.list .nil []]]++[.loop (s1.env.map ν) [7] tH tJ .ready]:=by simp[aM]
  rw[e0]at e;have HB:(m.ε++[θ.cells [.list .nil []]]).length=m.ε.length+1:=by simp
  have HG:(aM m.ε (s1.env.map ν) c (dK s) .ready++ext)[m.ε.length+1]?=some (.loop (s1.env.map ν) [7] tH tJ .ready):=by simp[aM]
  obtain⟨c2,hb,hc2⟩:=Yg m.ε ((dK s).map Tok.bp) (ve _ _) (by simp[m_,o8,Function.comp,Tok.bp,lo,bn]) T' c (fun i hi=>(hT i hi).elim (fun h=>by cases h) id) (.loop (s1.env.map ν) [7] tH tJ .ready::ext) (m.ε++[.cells [.list .nil []]]) (by simp);have e1:aM m.ε (s1.env.map ν) c (dK s) .ready++ext=m.ε++[.cells [.list c ((dK s).map Tok.bp)]]++(.loop (s1.env.map ν) [7] tH tJ .ready::ext):=by simp[aM]
  rw[<-e1]at hb;refine⟨(.normal,{s1 with mem:= {ε:=m.ε++[.cells [.list c2 ((dK s).map Tok.bp)]],η:=[]}}),?_,?_⟩
  ·simp only[exec,dF,h1,AV.DS,Option.bind_some,h3,HB,eI];rw[<-tH,<-tJ,e];simp only[HG,hb]
  ·refine .inr ⟨by simp,.inl ⟨rfl,h2,c2,rfl,?_⟩⟩;rw[hc2];by_cases h0:dK s=[]
   ·rw[hn h0,if_pos h0];rfl
   ·rw[if_neg h0];rcases hr with⟨_,hc⟩|⟨t,rfl,_,_⟩
    ·exact absurd (List.eq_nil_of_length_eq_zero hc) h0
    ·rfl
 ·simp[h1,h2];have:=(Dv.list c (bL.of Tok.bp (dK s) fun t _=>Tok.Si t)).aQ (m.ε++[.cells [.list c ((dK s).map Tok.bp)]]) m.ε.length 8;rw[h3]at this;exact this
theorem f187(s:List Nat)(hs:dB s)(hl:s.length<1000000000)(m:Mem):kf u 187 [.fn (.func 201) [] [.ref [.str s]]] m=some (.list (if dK s=[]then .nil else .any) ((dK s).map Tok.bp),m):=by have q:=fun m=>f225 (u:=u) s hs hl m;refine dt (g:=Gg) rfl rfl rfl ?_;simp[Gg,Ql,exp,aX,Fn.below,q];have h:=(Dv.list (if dK s=[]then .nil else .any) (bL.of Tok.bp (dK s) fun t _=>Tok.Si t)).aQ m.ε m.ε.length 8;rw[fq (by split<;>simp[bm])]at h;exact h
end Go.Δ.Tz
namespace Go.Δ
open Tz (u9)
structure PS where
 last:Nat
 l:List Tok
inductive R (α:Type)
 |ok (x:α) (s:PS)
 |no (w:Nat)
inductive RS
 |r (s:PS)
 |w (w:Nat)
def R.bind{α β:Type}:R α->(α->PS->R β)->R β
 | .ok x s,f=>f x s
 | .no w,_=> .no w
def R.map{α β:Type}(f:α->β):R α->R β
 | .ok x s=> .ok (f x) s
 | .no w=> .no w
theorem R.bind_map{α β γ:Type}(a:R α)(Q:α->PS->R β)(f:β->γ):(a.bind Q).map f=a.bind fun x s=>(Q x s).map f:=by cases a<;>rfl
def aH{α:Type}(P:PS->R α)(a:RS)(x:α)(b:RS):Prop:=
 match a with
 | .w w=>b= .w w
 | .r s=>match P s with
  | .ok y t=>x=y/\b= .r t
  | .no w=>b= .w w
def PS.hd(s:PS):List Nat:=match s.l with
 |[]=>[]
 |t::_=>t.text
def PS.kd(s:PS):Nat:=match s.l with
 |[]=>0
 |t::_=>t.kind
def PS.aV(s:PS)(w:List Nat):Bool:=s.hd==w
def PS.at_(e:Nat)(s:PS):Nat:=match s.l with
 |[]=>e
 |t::_=>t.at_
def ke(e:Nat)(f:Tok->Bool)(s:PS):R (List Nat):=match s.l with
 |[]=> .no e
 |t::l=>if t.kind=0\/f t=false then .no t.at_ else if 0<=t.gV then .no t.gV.toNat else .ok t.text ⟨t.at_+t.text.length,l⟩
def aF(e:Nat)(w:List Nat):PS->R (List Nat):=ke e fun t=>t.text==w
def gS(e:Nat):PS->R (List Nat):=ke e fun t=>t.kind==1&& !u9 t.text
def numOf(s:List Nat):Nat:=s.foldl (fun n b=>10*n+(b-48)) 0
def uk(e:Nat)(s:PS):R Nat:=(ke e (fun t=>t.kind==2) s).map numOf
def cJ{α:Type}(c:PS->Bool)(f:α->PS->R α):Nat->α->PS->R α
 |0,_,_=> .no 0
 |n+1,x,s=>if c s then(f x s).bind (cJ c f n)else .ok x s
def z0:ζ:= .mk 0 0 [] .nil []
def fj(e:Nat)(ix:PS->R ζ)(s:PS):R ζ:=
 if s.aV [40]then(aF e [40] s).bind fun _ s=>(ix s).bind fun x s=>(aF e [41] s).map fun _=>x
 else if s.kd=2 then(uk e s).map fun n:Nat=> .mk 1 (n:Int) [] .nil []
 else(gS e s).map fun n=> .mk 2 0 n .nil []
def kY(e:Nat)(at':PS->R ζ)(s:PS):R ζ:=
 (at' s).bind fun x s=>cJ (fun s=>s.aV [42]) (fun x s=>(aF e [42] s).bind fun _ s=>(at' s).map fun y=> .mk 5 0 [] .any [x,y]) (s.l.length+1) x s
def vN(e:Nat)(pr:PS->R ζ)(s:PS):R ζ:=
 (pr s).bind fun x s=>cJ (fun s=>s.aV [43]||s.aV [45]) (fun x s=>(aF e s.hd s).bind fun w s=>(pr s).map fun y=> .mk (if w=[45]then 4 else 3) 0 [] .any [x,y]) (s.l.length+1) x s
def aB(e:Nat):Nat->PS->R ζ
 |0=>fun _=> .no 0
 |k+1=>vN e (kY e (fj e (aB e k)))
def jZ(e:Nat)(ix:PS->R ζ)(s:PS):R ρ:=
 (gS e s).bind fun n s=>
  if s.aV [91]then(aF e [91] s).bind fun _ s=>(ix s).bind fun x s=>(if s.aV [58]then(aF e [58] s).bind fun _ s=>(ix s).map fun y=>[x,y]else .ok [x] s).bind fun l s=>(aF e [93] s).map fun _=>⟨n,.any,l⟩
  else .ok ⟨n,.nil,[]⟩ s
def uD(e:Nat)(ix:PS->R ζ)(s:PS):R (List Nat×ζ):=
 (gS e s).bind fun n s=>(aF e [91] s).bind fun _ s=>(ix s).bind fun x s=>(aF e [93] s).map fun _=>(n,x)
inductive Sp
 |mk (from_ to:Nat) (ins:List (List Sp))
def Ξ{α:Type}:List α->τ
 |[]=> .nil
 |_=> .any
def oS{α:Type}(e:Nat)(item:PS->R α)(s:PS):R (List α):=
 if s.aV [41]then(aF e [41] s).map fun _=>[]
 else(item s).bind fun x s=>(cJ (fun s=>s.aV [44]) (fun l s=>(aF e [44] s).bind fun _ s=>(item s).map fun y=>l++[y]) (s.l.length+1) [x] s).bind fun l s=>(aF e [41] s).map fun _=>l
def iX(s:List Nat):Nat:=match fu.findIdx? fun x=>x==s with
 |none=>0
 |some i=>i+1
def oU(e:Nat)(pl:PS->R ρ):Nat->List ρ->PS->R (List ρ)
 |0,l,s=> .ok l s
 |n+1,l,s=>(aF e [44] s).bind fun _ s=>(pl s).bind fun p s=>oU e pl n (l++[p]) s
def lD(e:Nat)(ix:PS->R ζ)(s:PS):R δ:=
 let w:=s.hd
 let pl:=jZ e ix
 if 0<iX w then(aF e w s).bind fun _ s=>(pl s).bind fun p s=>(oU e pl (ga (iX w)-1) [p] s).map fun l=> .mk 1 (iX w) [] .any l z0 z0 .nil [] .nil []
 else if w=[116,97,107,101]then(aF e w s).bind fun _ s=>(uD e ix s).map fun x=> .mk 2 0 x.1 .nil [] x.2 z0 .nil [] .nil []
 else if w=[100,114,111,112]then(aF e w s).bind fun _ s=>(gS e s).map fun n=> .mk 3 0 n .nil [] z0 z0 .nil [] .nil []
 else if w=[109,101,97,115,117,114,101]then(aF e w s).bind fun _ s=>(pl s).bind fun p s=>(aF e [58] s).bind fun _ s=>(gS e s).map fun n=> .mk 5 0 n .any [p] z0 z0 .nil [] .nil []
 else if w=[114,101,115,101,116]then(aF e w s).bind fun _ s=>(pl s).map fun p=> .mk 6 0 [] .any [p] z0 z0 .nil [] .nil []
 else(gS e s).bind fun n s=>(aF e [40] s).bind fun _ s=>(oS e pl s).map fun l=> .mk 9 0 n (Ξ l) l z0 z0 .nil [] .nil []
def zF(e:Nat)(ix:PS->R ζ)(s:PS):R δ:=(lD e ix s).bind fun x s=>(aF e [59] s).map fun _=>x
def iE(e:Nat)(ix:PS->R ζ)(blk:PS->R (List δ×List Sp))(s:PS):R (δ×List (List Sp)):=
 let w:=s.hd
 if w=[98,111,114,114,111,119]then(aF e w s).bind fun _ s=>(uD e ix s).bind fun x s=>(blk s).map fun b=>(.mk 4 0 x.1 .nil [] x.2 z0 (Ξ b.1) b.1 .nil [],[b.2])
 else if w=[105,102]then(aF e w s).bind fun _ s=>(gS e s).bind fun n s=>(blk s).bind fun b s=>
  if s.aV [101,108,115,101]then(aF e [101,108,115,101] s).bind fun _ s=>(blk s).map fun d=>(.mk 7 0 n .nil [] z0 z0 (Ξ b.1) b.1 (Ξ d.1) d.1,[b.2,d.2])
  else .ok (.mk 7 0 n .nil [] z0 z0 (Ξ b.1) b.1 .nil [],[b.2]) s
 else if w=[102,111,114]then(aF e w s).bind fun _ s=>(gS e s).bind fun n s=>(aF e [61] s).bind fun _ s=>(ix s).bind fun x s=>(aF e [58] s).bind fun _ s=>(ix s).bind fun y s=>(blk s).map fun b=>(.mk 8 0 n .nil [] x y (Ξ b.1) b.1 .nil [],[b.2])
 else if w=[117,110,100,111]then(aF e w s).bind fun _ s=>(blk s).map fun b=>(.mk 10 0 [] .nil [] z0 z0 (Ξ b.1) b.1 .nil [],[b.2])
 else if w=[119,105,116,104,105,110]then(aF e w s).bind fun _ s=>(blk s).bind fun b s=>(aF e [97,112,112,108,121] s).bind fun _ s=>(blk s).map fun d=>(.mk 11 0 [] .nil [] z0 z0 (Ξ b.1) b.1 (Ξ d.1) d.1,[b.2,d.2])
 else(zF e ix s).map fun x=>(x,[])
def uE(e:Nat)(st:PS->R (δ×List (List Sp)))(s:PS):R (δ×Sp):=(st s).bind fun x t=> .ok (x.1,.mk (s.at_ e) t.last x.2) t
def zc(e:Nat)(st:PS->R (δ×List (List Sp)))(s:PS):R (List δ×List Sp):=
 (aF e [123] s).bind fun _ s=>(cJ (fun s=>!s.aV [125]) (fun l s=>(uE e st s).map fun x=>(l.1++[x.1],l.2++[x.2])) (s.l.length+1) ([],[]) s).bind fun l s=>(aF e [125] s).map fun _=>l
def eh(e:Nat)(ix:PS->R ζ):Nat->PS->R (List δ×List Sp)
 |0=>fun _=> .no 0
 |k+1=>zc e (iE e ix (eh e ix k))
def zq(e:Nat)(s:PS):R ai:=(gS e s).bind fun n s=>(aF e [91] s).bind fun _ s=>(uk e s).bind fun k s=>(aF e [93] s).map fun _=>⟨n,k⟩
def zs(e:Nat)(blk:PS->R (List δ×List Sp))(s:PS):R (ξ×List Sp):=
 (aF e [112,114,111,99] s).bind fun _ s=>(gS e s).bind fun n s=>(aF e [40] s).bind fun _ s=>(oS e (zq e) s).bind fun ps s=>(blk s).map fun b=>(⟨n,Ξ ps,ps,Ξ b.1,b.1⟩,b.2)
def Bu(e:Nat)(ts:List Tok):R (List ξ×List (List Sp)):=
 cJ (fun s=>!s.l.isEmpty) (fun l s=>(zs e (eh e (aB e (ts.length+1)) (ts.length+1)) s).map fun x=>(l.1++[x.1],l.2++[x.2])) (ts.length+1) ([],[]) ⟨0,ts⟩
theorem aH.bind{α β:Type}{P:PS->R α}{Q:α->PS->R β}{a b c:RS}{x:α}{y:β}(h:aH P a x b)(k:aH (Q x) b y c):aH (fun s=>(P s).bind Q) a y c:=by
 cases a with
 |w w=>
  simp only[aH]at h
  subst h;exact k
 |r s=>
  simp only[aH]at h⊢
  cases hp:P s with
  |ok z t=>
   rw[hp]at h
   obtain⟨rfl,rfl⟩:=h;exact k
  |no w=>
   rw[hp]at h
   subst h;exact k
theorem aH.map{α β:Type}{P:PS->R α}{a b:RS}{x:α}(f:α->β)(h:aH P a x b):aH (fun s=>(P s).map f) a (f x) b:=by
 cases a with
 |w w=>exact h
 |r s=>
  simp only[aH]at h⊢
  cases hp:P s with
  |ok z t=>
   rw[hp]at h
   obtain⟨rfl,rfl⟩:=h;exact⟨rfl,rfl⟩
  |no w=>rw[hp]at h;exact h
theorem aH.pure{α:Type}(x:α)(a:RS):aH (fun s=> .ok x s) a x a:=by
 cases a with
 |w w=>rfl
 |r s=>exact⟨rfl,rfl⟩
def RS.sz(a:RS):Nat:=match a with
 | .r s=>s.l.length
 | .w _=>0
def RS.xW(c:PS->Bool)(a:RS):Bool:=match a with
 | .r s=>c s
 | .w _=>false
def RS.aV(a:RS)(w:List Nat):Bool:=a.xW fun s=>s.aV w
theorem tK{a:RS}{w:List Nat}(h:a.aV w=true)(hw:w≠[]):0<a.sz:=by
 cases a with
 |w w=>cases h
 |r st=>
  obtain⟨la,l⟩:=st
  cases l with
  |nil=>exact absurd (beq_iff_eq.1 (show(PS.hd ⟨la,[]⟩==w)=true from h)).symm hw
  |cons t l=>simp[RS.sz]
theorem aH.D3{α:Type}{c:PS->Bool}{f:α->PS->R α}{n:Nat}{x:α}{a:RS}(h:a.xW c=false):aH (cJ c f (n+1) x) a x a:=by
 cases a with
 |w w=>rfl
 |r s=>
  have h:c s=false:=h
  simp[aH,cJ,h]
theorem aH.D5{α:Type}{c:PS->Bool}{f:α->PS->R α}{n:Nat}{x x' y:α}{a a' b:RS}(hc:a.xW c=true)(h:aH (f x) a x' a')(k:aH (cJ c f n x') a' y b):aH (cJ c f (n+1) x) a y b:=by
 cases a with
 |w w=>cases hc
 |r s=>
  have hc:c s=true:=hc
  have e:∀s',c s'=true->cJ c f (n+1) x s'=(f x s').bind (cJ c f n):=fun s' h=>by simp[cJ,h]
  have:=aH.bind (P:=f x) (Q:=cJ c f n) h k;simpa only[aH,e s hc]using this
theorem aH.fuel{α:Type}{c:PS->Bool}{f:α->PS->R α}{x y:α}{a b:RS}(h:aH (cJ c f (a.sz+1) x) a y b):aH (fun s=>cJ c f (s.l.length+1) x s) a y b:=by
 cases a with
 |w w=>exact h
 |r s=>exact h
theorem aH.as{α:Type}{P Q:PS->R α}{a b:RS}{x:α}(h:aH P a x b)(k:∀s,a= .r s->Q s=P s):aH Q a x b:=by
 cases a with
 |w w=>exact h
 |r s=>simp only[aH]at h⊢;rw[k s rfl];exact h
def da{α:Type}(P:PS->R α):Prop:=∀s x t,P s= .ok x t->t.l.length<=s.l.length
theorem aH.sz{α:Type}{P:PS->R α}{a b:RS}{x:α}(h:aH P a x b)(k:da P):b.sz<=a.sz:=by
 cases a with
 |w w=>simp only[aH]at h;subst h;simp[RS.sz]
 |r s=>
  simp only[aH]at h
  cases hp:P s with
  |ok y t=>rw[hp]at h;obtain⟨_,rfl⟩:=h;exact k _ _ _ hp
  |no w=>rw[hp]at h;subst h;simp[RS.sz]
theorem Jb{e:Nat}{f:Tok->Bool}{s:PS}{x:List Nat}{t:PS}(h:ke e f s= .ok x t):t.l.length+1=s.l.length:=by
 obtain⟨la,l⟩:=s;cases l with
 |nil=>cases h
 |cons a l=>
  simp only[ke]at h
  split at h
  ·cases h
  ·split at h
   ·cases h
   ·cases h;rfl
def RS.hd(a:RS):List Nat:=match a with
 | .r s=>s.hd
 | .w _=>[]
theorem ai9{e:Nat}{f:Tok->Bool}{s:PS}{x:List Nat}{t:PS}(h:ke e f s= .ok x t):x=s.hd:=by
 obtain⟨la,l⟩:=s;cases l with
 |nil=>cases h
 |cons a l=>
  simp only[ke]at h
  split at h
  ·cases h
  ·split at h
   ·cases h
   ·cases h;rfl
theorem aH.word{β:Type}{e:Nat}{f:Tok->Bool}{Q:List Nat->PS->R β}{a b c:RS}{x:List Nat}{y:β}(h:aH (ke e f) a x b)(k:aH (Q a.hd) b y c):aH (fun s=>(ke e f s).bind Q) a y c:=by
 cases a with
 |w w=>simp only[aH]at h;subst h;exact k
 |r s=>
  simp only[aH]at h⊢
  cases hp:ke e f s with
  |ok z t=>
   rw[hp]at h
   obtain⟨rfl,rfl⟩:=h;rw[ai9 hp];exact k
  |no w=>rw[hp]at h;subst h;exact k
theorem aH.take{e:Nat}{f:Tok->Bool}{a b:RS}{x:List Nat}(h:aH (ke e f) a x b)(ha:0<a.sz):b.sz<a.sz:=by
 cases a with
 |w w=>simp[RS.sz]at ha
 |r s=>
  simp only[aH]at h
  cases hp:ke e f s with
  |ok y t=>rw[hp]at h;obtain⟨_,rfl⟩:=h;have:=Jb hp;simp only[RS.sz];omega
  |no w=>rw[hp]at h;subst h;exact ha
theorem da.take(e:Nat)(f:Tok->Bool):da (ke e f):=fun _ _ _ h=>by have:=Jb h;omega
theorem da.bind{α β:Type}{P:PS->R α}{Q:α->PS->R β}(h:da P)(k:∀x,da (Q x)):da fun s=>(P s).bind Q:=fun s y t e=>by
 have e:(P s).bind Q= .ok y t:=e;cases hp:P s with
 |ok x s'=>
  rw[hp]at e
  have:=h _ _ _ hp;have:=k x _ _ _ e;omega
 |no w=>rw[hp]at e;cases e
theorem da.map{α β:Type}{P:PS->R α}{f:α->β}(h:da P):da fun s=>(P s).map f:=fun s y t e=>by
 have e:(P s).map f= .ok y t:=e;cases hp:P s with
 |ok x s'=>rw[hp]at e;cases e;exact h _ _ _ hp
 |no w=>rw[hp]at e;cases e
theorem da.ok{α:Type}(x:α):da fun s=> .ok x s:=fun s y t e=>by cases e;exact b_ _
theorem da.ite{α:Type}{c:PS->Prop}[∀s,Decidable (c s)]{P Q:PS->R α}(h:da P)(k:da Q):da fun s=>if c s then P s else Q s:=fun s y t e=>by
 dsimp only at e;split at e
 ·exact h _ _ _ e
 ·exact k _ _ _ e
theorem da.loop{α:Type}{c:PS->Bool}{f:α->PS->R α}(h:∀x,da (f x)):∀n x,da (cJ c f n x):=by
 intro n;induction n with
 |zero=>intro x s y t e;cases e
 |succ n ih=>intro x;exact .ite ((h x).bind ih) (.ok x)
theorem da.Ik{α:Type}{c:PS->Bool}{f:α->PS->R α}(h:∀x,da (f x))(x:α):da fun s=>cJ c f (s.l.length+1) x s:=fun s=>da.loop h _ x s
theorem eP(e:Nat)(w:List Nat):da (aF e w):= .take _ _
theorem nC(e:Nat):da (gS e):= .take _ _
theorem KQ(e:Nat):da (uk e):= .map (.take _ _)
theorem KO(e:Nat){ix:PS->R ζ}(h:da ix):da (fj e ix):=
 .ite ((eP e _).bind fun _=>h.bind fun _=>(eP e _).map) (.ite (KQ e).map (nC e).map)
theorem RH(e:Nat){at':PS->R ζ}(h:da at'):da (kY e at'):=h.bind fun x=> .Ik (fun x=>(eP e _).bind fun _=>h.map) x
theorem Z5(e:Nat){pr:PS->R ζ}(h:da pr):da (vN e pr):=h.bind fun x=> .Ik (fun x s y t k=>((eP e s.hd).bind fun _=>h.map) s y t k) x
theorem nB(e k:Nat):da (aB e k):=by
 induction k with
 |zero=>intro s x t h;cases h
 |succ k ih=>exact Z5 e (RH e (KO e ih))
theorem FA(e:Nat){ix:PS->R ζ}(h:da ix):da (jZ e ix):=
 (nC e).bind fun _=> .ite ((eP e _).bind fun _=>h.bind fun _=>(da.ite ((eP e _).bind fun _=>h.map) (.ok _)).bind fun _=>(eP e _).map) (.ok _)
theorem KR(e:Nat){ix:PS->R ζ}(h:da ix):da (uD e ix):=(nC e).bind fun _=>(eP e _).bind fun _=>h.bind fun _=>(eP e _).map
end Go.Δ
namespace Go.Δ.Tz
open Go.Δ
variable{u:Nat}
attribute [local simp] exec ef dR e_ aJ dF fE eR br fM bR iL iS jm jE mo AV.cells newVar jA rd wr iu single dk cD ff eF μ cF RV.get cK fV kT
def pj(u:Nat){α:Type}(Rel:List AV->RS->Prop)(f:FuncId)(args:List AV)(P:PS->R α)(E:α->AV->Prop)(a:RS):Prop:=
 ∀(B:List θ) (p:Nat) (cs:List AV),p<B.length->Rel cs a->∃v x ah b,(∀T,ab (C u) (.fn (.func f) [] []) (.κ p 0::args) {ε:=B.set p (.cells cs),η:=T}=some (v,{ε:=B.set p (.cells ah),η:=T}))/\Rel ah b/\aH P a x b/\E x v
def NL(l:List Tok):Nat:=match l.getLast? with
 |some t=>t.at_+t.text.length
 |none=>0
structure _root_.Go.Δ.Tok.Ok (t:Tok):Prop where
 str:dB t.text
 ne:t.text≠[]
 gV:0<=t.gV->t.kind<=2/\∀w∈[[40],[41],[91],[93],[123],[125],[44],[59],[58],[61],[43],[45],[42]]++z7,t.text≠w
 zero:t.kind=0->t.gV=t.at_
 pos:t.at_+t.text.length<4000000000
 num:t.kind=2->t.gV<0->t.text.length<=2/\∀b∈t.text,dn b=true
section
variable(s:List Nat)(all:List Tok)(c:τ)
def cE(item:AV)(cs:List AV)(a:RS):Prop:=
 ∃(k:Nat) (wr:Int),cs=[.str s,.list c (all.map Tok.bp),.n k,.n wr,item]/\k<=all.length/\match a with
  | .r st=>wr= -1/\all.drop k=st.l/\NL (all.take k)=st.last
  | .w w=>wr=(w:Int)
variable{s all c}{item:AV}
theorem NR{l:List Tok}{k:Nat}{t:Tok}{r:List Tok}(h:l.drop k=t::r):k<l.length/\l[k]?=some t/\l.drop (k+1)=r:=by
 have hk:k<l.length:=by
  rcases di k l.length with h1|h1
  ·exact h1
  ·rw[List.drop_eq_nil_of_le h1]at h;cases h
 rw[oc hk]at h;injection h with h1 h2
 exact⟨hk,by rw[dp hk,h1],h2⟩
def qF(s:List Nat)(all:List Tok)(k:Nat):Tok:=match all[k]? with
 |some t=>t
 |none=>⟨s.length,0,[],-1⟩
theorem f291(B:List θ)(p:Nat)(hp:p<B.length)(k:Nat)(wr:Int)(T:List Nat)(hl:all.length<1000000000):
  kf u 291 [.κ p 0] {ε:=B.set p (.cells [.str s,.list c (all.map Tok.bp),.n k,.n wr,item]),η:=T}=some ((qF s all k).bp,{ε:=B.set p (.cells [.str s,.list c (all.map Tok.bp),.n k,.n wr,item]),η:=T}):=by
 refine dt (g:=GX) rfl rfl rfl ?_;have hg:∀cs,(B.set p (θ.cells cs))[p]?=some (.cells cs):=fun cs=>by simp[hp]
 simp only[ax,aI,exp,mN,hp,if_true,GX,QR];unfold qF;cases hk:all[k]? with
 |some t=>
  have ψ:=Iq hk
  have eZ:(k:Int)<all.length:=by omega
  have wP:all[k]=t:=by rw[dp ψ]at hk;simpa using hk
  simp[bJ,hg,ψ,eZ,wP,Tok.bp];rfl
 |none=>
  have eH:=List.getElem?_eq_none_iff.1 hk
  have eZ:¬k<all.length:=by omega
  simp[bJ,hg,eZ,dG,Tok.bp];rfl
theorem ZH{C:iF}{f:FuncId}{fst args cap:List AV}{m:Mem}:ab C (.fn (.func f) fst cap) args m=ab C (.fn (.func f) [] []) (fst++args++cap) m:=by
 apply Option.ext;intro r;rw[ot,ot];have:∀k,cv C k (.fn (.func f) fst cap) args m=cv C k (.fn (.func f) [] []) (fst++args++cap) m:=fun k=>by
  cases k with
  |zero=>rfl
  |succ k=>simp only[cv,body,bB,dM]
 simp only[this]
theorem Vi{l:List Tok}{k:Nat}{t:Tok}(h:l[k]?=some t):NL (l.take (k+1))=t.at_+t.text.length:=by rw[List.take_add_one,h];simp[NL]
def Tx(all:List Tok)(f:Tok->Bool)(x:List Nat):Prop:=x=[]\/∃t∈all,x=t.text/\f t=true/\t.gV<0
theorem Tx.str{f:Tok->Bool}{x:List Nat}(aj:∀t∈all,t.Ok)(h:Tx all f x):dB x:=by
 rcases h with rfl|⟨t,ht,rfl,_⟩
 ·exact fun b hb=>by cases hb
 ·exact(aj t ht).str
theorem f265{fv:AV}{f:Tok->Bool}{B:List θ}{p:Nat}{cs:List AV}{a:RS}(hp:p<B.length)(hl:all.length<1000000000)(aj:∀t∈all,t.Ok)(hx:exp B.length false fv=fv)
  (hf:∀t∈all,∀T,ab (C u) fv [t.bp] {ε:=B.set p (.cells cs),η:=T}=some (.bool (f t),{ε:=B.set p (.cells cs),η:=T})) (h:cE s all c item cs a):
  ∃x ah b,(∀T,kf u 265 [.κ p 0,fv] {ε:=B.set p (.cells cs),η:=T}=some (.str x,{ε:=B.set p (.cells ah),η:=T}))/\cE s all c item ah b/\aH (ke s.length f) a x b/\Tx all f x:=by
 obtain⟨k,wr,rfl,hk,h⟩:=h;have hg:∀cs,(B.set p (θ.cells cs))[p]?=some (.cells cs):=fun cs=>by simp[hp]
 have lE:∀T,ab (C u) (.fn (.func 291) [.κ p 0] []) [] {ε:=B.set p (.cells [.str s,.list c (all.map Tok.bp),.n k,.n wr,item]),η:=T}=_:=fun T=>(ZH (C:=C u)).trans (f291 (item:=item) (s:=s) (c:=c) B p hp k wr T hl);have go:∀(x:List Nat) (k':Nat) (Pb:Int),(μ (C u).gl (ab (C u)) J0 {env:=[.κ p 0,fv],loc:=[],mem:= {ε:=B.set p (.cells [.str s,.list c (all.map Tok.bp),.n k,.n wr,item]),η:=[]}} fun r=>(∀i,r.1≠ .exit i)/\r.2.mem= {ε:=B.set p (.cells [.str s,.list c (all.map Tok.bp),.n k',.n Pb,item]),η:=[]}/\br r.2.env 4= .str x)→
   ∀T,kf u 265 [.κ p 0,fv] {ε:=B.set p (.cells [.str s,.list c (all.map Tok.bp),.n k,.n wr,item]),η:=T}=some (.str x,{ε:=B.set p (.cells [.str s,.list c (all.map Tok.bp),.n k',.n Pb,item]),η:=T}):=by
  intro x k' Pb hr T;refine ku (g:=GM) rfl rfl rfl (by simp) ?_;have eG:([]++[AV.κ p 0,fv]++[]).map (exp (B.set p (θ.cells [.str s,.list c (all.map Tok.bp),.n k,.n wr,item])).length false)=[AV.κ p 0,fv]:=by simp[exp,hp,hx]
  rw[eG];exact hr.mono fun r ⟨h1,h2,h3⟩=>⟨h1,⟨[],by rw[h2,dM]⟩,[.str x],by simp[GM,h3],rfl⟩
 unfold J0 at go;have Ds:Tx all f []:= .inl rfl;have HE:qF s all k=match a with
   | .r ⟨_,[]⟩=>⟨s.length,0,[],-1⟩
   | .r ⟨_,t::_⟩=>t
   | .w _=>qF s all k:=by
  cases a with
  |w w=>rfl
  |r st=>
   obtain⟨la,l⟩:=st
   cases l with
   |nil=>
    have:all[k]?=none:=gW (by have:=congrArg lK h.2.1;simp at this;omega)
    simp[qF,this]
   |cons t l=>simp[qF,(NR h.2.1).2.1]
 cases a with
 |w w=>
  have hw:0<=wr:=by rw[h];omega
  refine⟨[],_,.w w,go [] k wr ?_,⟨k,wr,rfl,hk,h⟩,rfl,Ds⟩;simp[bJ,lE,hg,Tok.bp,hw]
 |r st=>
  obtain⟨rfl,h1,h2⟩:=h
  obtain⟨la,l⟩:=st;dsimp only at h1 h2;cases l with
  |nil=>
   simp only at HE
   rw[HE]at lE;refine⟨[],_,.w s.length,go [] k s.length ?_,⟨k,s.length,rfl,hk,rfl⟩,rfl,Ds⟩;simp[bJ,lE,hg,Tok.bp,Mem.put,Mem.ν,ν,bn,lo]
  |cons t l=>
   simp only at HE
   rw[HE]at lE;obtain⟨ψ,wP,yy⟩:=NR h1;have Γ:t∈all:=List.mem_of_getElem? wP;have hf:=hf t Γ;have UD:=aj t Γ;simp only[Tok.bp]at hf;by_cases hz:t.kind=0
   ·have rO:((t.kind:Int)==0)=true:=beq_iff_eq.2 (by omega);refine⟨[],_,.w t.at_,go [] k t.at_ ?_,⟨k,t.at_,rfl,hk,rfl⟩,by simp[aH,ke,hz],Ds⟩;simp[bJ,lE,hg,Tok.bp,Mem.put,Mem.ν,ν,bn,lo,rO]
   have rO:((t.kind:Int)==0)=false:=beq_eq_false_iff_ne.2 (by omega);cases wK:f t with
   |false=>
    rw[wK]at hf
    refine⟨[],_,.w t.at_,go [] k t.at_ ?_,⟨k,t.at_,rfl,hk,rfl⟩,by simp[aH,ke,wK],Ds⟩;simp[bJ,lE,hg,Tok.bp,Mem.put,Mem.ν,ν,bn,lo,rO,hf]
   |true=>
    rw[wK]at hf
    by_cases hw:0<=t.gV
    ·refine⟨[],_,.w t.gV.toNat,go [] k t.gV ?_,⟨k,t.gV,rfl,hk,by omega⟩,by simp[aH,ke,wK,hw,hz],Ds⟩;simp[bJ,lE,hg,Tok.bp,Mem.put,Mem.ν,ν,bn,lo,rO,hf,hw]
    ·have fW:bN .i64 ((k:Int)+1)=(k:Int)+1:=wrap_i64 (by omega) (by omega);refine⟨t.text,_,.r ⟨t.at_+t.text.length,l⟩,go t.text (k+1) (-1) ?_,⟨k+1,-1,rfl,by omega,rfl,yy,Vi wP⟩,by simp[aH,ke,wK,hw,hz],.inr ⟨t,Γ,rfl,wK,by omega⟩⟩;simp[bJ,lE,hg,Tok.bp,Mem.put,Mem.ν,ν,bn,lo,rO,hf,hw,fW]
theorem f266{B:List θ}{i:Nat}{w:List Nat}(h:B[i]?=some (.cells [.str w]))(t:Tok)(T:List Nat):ab (C u) (.fn (.func 266) [] [.κ i 0]) [t.bp] {ε:=B,η:=T}=some (.bool (t.text==w),{ε:=B,η:=T}):=by
 refine sw (g:=GN) rfl rfl rfl ?_;have hi:=Iq h;have eG:([]++[t.bp]++[AV.κ i 0]).map (exp B.length false)=[t.bp,.κ i 0]:=by simp[Tok.bp,exp,aX,hi]
 dsimp only;rw[eG];clear hi;by_cases hw:t.text=w<;>simp[GN,QJ,Tok.bp,bJ,h,hw]
def Eu{α:Type}:α->AV->Prop:=fun _ v=>v= .aU []
theorem f226(w:List Nat)(hl:all.length<1000000000)(aj:∀t∈all,t.Ok)(a:RS):pj u (cE s all c item) 226 [.str w] (aF s.length w) Eu a:=by
 intro B p cs hp h;have e0:∀cs,(B++[θ.cells [.str w]]).set p (.cells cs)=B.set p (.cells cs)++[.cells [.str w]]:=fun cs=>ns _ _ hp;obtain⟨x,ah,b,h1,h2,h3,h4⟩:=f265 (u:=u) (fv:= .fn (.func 266) [] [.κ B.length 0]) (f:=fun t=>t.text==w) (B:=B++[.cells [.str w]]) (p:=p) (cs:=cs) (by simp;omega) hl aj
  (by simp[exp,aX,Fn.below]) (fun t _ T=>f266 (by rw[e0];simp) t T) h
 refine⟨.aU [],x,ah,b,fun T=>?_,h2,h3,rfl⟩;simp only[e0]at h1;refine ku (g:=Gy) rfl rfl rfl (by simp) ?_;simp[exp,hp,Gy,c226,Mem.push,Mem.ν,ν,h1];rfl
theorem NS{k:Nat}{st:PS}(h:all.drop k=st.l):(qF s all k).text=st.hd/\(qF s all k).kind=st.kd/\(qF s all k).at_=st.at_ s.length:=by
 obtain⟨la,l⟩:=st;cases l with
 |nil=>
  have:all[k]?=none:=gW (by have:=congrArg lK h;simp at this;omega)
  simp[qF,this,PS.hd,PS.kd,PS.at_]
 |cons t l=>simp[qF,(NR h).2.1,PS.hd,PS.kd,PS.at_]
theorem f268(ws:List (List Nat))(DK:ws.length<1000000000)(hl:all.length<1000000000){B:List θ}{p:Nat}{cs:List AV}{a:RS}(hp:p<B.length)(h:cE s all c item cs a)(T:List Nat):
  kf u 268 [.κ p 0,.list .full (ws.map AV.str)] {ε:=B.set p (.cells cs),η:=T}=some (.bool (ws.any fun w=>a.aV w),{ε:=B.set p (.cells cs),η:=T}):=by
 obtain⟨k,wr,rfl,hk,h⟩:=h;have hg:∀cs,(B.set p (θ.cells cs))[p]?=some (.cells cs):=fun cs=>by simp[hp]
 have lE:=fun T=>f291 (u:=u) (item:=item) (s:=s) (c:=c) B p hp k wr T hl;have zt:=fun t m=>f65 (u:=u) .any (.inr rfl) ws t (by omega) m;refine dt (g:=CM) rfl rfl rfl ?_;have eG:[AV.κ p 0,.list .full (ws.map AV.str)].map (exp (B.set p (θ.cells [.str s,.list c (all.map Tok.bp),.n k,.n wr,item])).length false)=[AV.κ p 0,bw .any ws]:=by simp[exp,ft,hp,bw,τ.exp,Function.comp]
 dsimp only at eG⊢;rw[eG];cases a with
 |w w=>
  have hw:¬wr<0:=by omega
  simp[CM,J1,hg,hw,RS.aV,RS.xW]
 |r st=>
  obtain⟨rfl,h1,h2⟩:=h
  have e1:=(NS (s:=s) h1).1;simp only[Tok.bp,e1]at lE;have e2:(ws.any fun w=>(RS.r st).aV w)=ws.contains st.hd:=by simp only[RS.aV,RS.xW,PS.aV,List.any_beq]
  simp[CM,J1,hg,lE,zt,e2]
theorem f267(t:Tok)(m:Mem):kf u 267 [t.bp] m=some (.bool (t.kind==1&& !u9 t.text),m):=by
 have g0:(C u).gl 0= .ref [bw .any fu]:=rfl;have g1:(C u).gl 1= .ref [bw .any uh]:=rfl;have zt:=fun ws h t m=>f65 (u:=u) .any (.inr rfl) ws h t m;have hw:u9 t.text=(uh.contains t.text||fu.contains t.text):=by simp[u9,z7,List.contains_eq_any_beq]
 refine sw (g:=AG) rfl rfl rfl ?_;have eG:([]++[t.bp]++[]).map (exp m.ε.length false)=[t.bp]:=by simp[Tok.bp,exp,aX]
 rw[eG];have qg:=fun m=>zt fu t.text (by decide) m;have qk:=fun m=>zt uh t.text (by decide) m;by_cases hk:t.kind=1
 ·have c8:((t.kind:Int)==1)=true:=beq_iff_eq.2 (by omega);rw[hw,hk];cases hg:fu.contains t.text with
  |true=>rw[hg]at qg;simp[AG,E',Tok.bp,bJ,c8,g0,g1,qg]
  |false=>
   rw[hg]at qg
   simp[AG,E',Tok.bp,bJ,c8,g0,g1,qg,qk]
 ·have c8:((t.kind:Int)==1)=false:=beq_eq_false_iff_ne.2 (by omega);have gy:(t.kind==1)=false:=beq_eq_false_iff_ne.2 hk;simp[AG,E',Tok.bp,bJ,c8,gy]
def Es:List Nat->AV->Prop:=fun x v=>v= .str x/\dB x
theorem f227(hl:all.length<1000000000)(aj:∀t∈all,t.Ok)(a:RS):pj u (cE s all c item) 227 [] (gS s.length) Es a:=by intro B p cs hp h;obtain⟨x,ah,b,h1,h2,h3,h4⟩:=f265 (u:=u) (fv:= .fn (.func 267) [] []) (f:=fun t=>t.kind==1&& !u9 t.text) (B:=B) (p:=p) (cs:=cs) hp hl aj (by simp[exp,aX,Fn.below]) (fun t _ T=>f267 t _) h;refine⟨.str x,x,ah,b,fun T=>?_,h2,h3,rfl,h4.str aj⟩;refine ku (g:=Gz) rfl rfl rfl (by simp) ?_;simp[exp,hp,Gz,c227,h1];rfl
theorem f270(t:Tok)(m:Mem):kf u 270 [t.bp] m=some (.bool (t.kind==2),m):=by
 refine sw (g:=CN) rfl rfl rfl ?_;have eG:([]++[t.bp]++[]).map (exp m.ε.length false)=[t.bp]:=by simp[Tok.bp,exp,aX]
 rw[eG];by_cases hk:t.kind=2
 ·simp[CN,J4,Tok.bp,bJ,hk]
 ·have c8:((t.kind:Int)==2)=false:=beq_eq_false_iff_ne.2 (by omega);have gy:(t.kind==2)=false:=beq_eq_false_iff_ne.2 hk;simp[CN,J4,Tok.bp,bJ,c8,gy]
def En:Nat->AV->Prop:=fun x v=>v= .n x/\x<100
theorem afr{t:Tok}(h:t.Ok)(hk:t.kind=2)(hw:t.gV<0):zi 0 t.text=some (numOf t.text)/\numOf t.text<100/\∃b r,t.text=b::r/\r.length<=17/\dn b=true:=by
 obtain⟨h1,h2⟩:=h.num hk hw;have h3:=h.ne;generalize t.text=x at*
 match x,h1,h2,h3 with
 |[a],_,h2,_=>
  have:=h2 a (by simp)
  have hd:=Fw this;exact⟨by simp[zi,numOf,hd],by simp[numOf];omega,a,[],rfl,by simp,this⟩
 |[a,b],_,h2,_=>
  have h4:=h2 a (by simp)
  have hd:=Fw h4;have sL:=Fw (h2 b (by simp));exact⟨by simp[zi,numOf,hd,sL];omega,by simp[numOf];omega,a,[b],rfl,by simp,h4⟩
theorem f230(hl:all.length<1000000000)(aj:∀t∈all,t.Ok)(a:RS):pj u (cE s all c item) 230 [] (uk s.length) En a:=by
 intro B p cs hp h;obtain⟨x,ah,b,h1,h2,h3,h4⟩:=f265 (u:=u) (fv:= .fn (.func 270) [] []) (f:=fun t=>t.kind==2) (B:=B) (p:=p) (cs:=cs) hp hl aj (by simp[exp,aX,Fn.below]) (fun t _ T=>f270 t _) h;have hx:∃e,(∀m,kf u 269 [.str x] m=some (.aU [.n (numOf x),e],m))/\numOf x<100:=by
  rcases h4 with rfl|⟨t,ht,rfl,hf,hw⟩
  ·exact⟨_,fun m=>Bt (p:=ux 350) (by rfl) (by simp[exp,ux,numOf];rfl),by decide⟩
  ·obtain⟨k1,k2,b,r,k3,k4,k5⟩:=afr (aj t ht) (by simpa using hf) hw;exact⟨.gq,fun m=>Bt (p:=ux 350) (by rfl) (by rw[k3]at k1⊢;simp[exp,ux,k1,k4,k5]),k2⟩
 obtain⟨e,hx,Ba⟩:=hx;refine⟨.n (numOf x),numOf x,ah,b,fun T=>?_,h2,h3.map numOf,rfl,Ba⟩;refine ku (g:=GA) rfl rfl rfl (by simp) ?_;simp[exp,hp,GA,Qx,h1,hx]
end
end Go.Δ.Tz
namespace Go.Δ
open Tz
theorem aje(k:Nat):∀n (l:List Nat) t,t∈oZ k n l->∃m j b r,t=gr m (b::r)/\l.drop j=b::r/\m=n+j:=by
 induction k with
 |zero=>intro n l t h;cases h
 |succ k ih=>
  intro n l t h
  simp only[oZ]at h;split at h
  ·cases h
  ·rename_i hl;have φ:∃b r,l.drop (bZ false l)=b::r:=by
    cases hr:l.drop (bZ false l)with
    |nil=>have:=congrArg lK hr;simp at this;omega
    |cons b r=>exact⟨b,r,rfl⟩
   obtain⟨b,r,hr⟩:=φ;rw[hr]at h;split at h
   ·rw[fY.1 h];exact⟨_,_,b,r,rfl,hr,rfl⟩
   ·rcases cB.1 h with rfl|h
    ·exact⟨_,_,b,r,rfl,hr,rfl⟩
    ·obtain⟨m,j,b',r',h1,h2,h3⟩:=ih _ _ _ h;rw[<-hr]at h2 h3;rw[o9,o9]at h2;exact⟨m,_,b',r',h1,h2,by omega⟩
def JH:List (List Nat):=[[40],[41],[91],[93],[123],[125],[44],[59],[58],[61],[43],[45],[42]]++z7
theorem XV:∀w∈JH,w.length<=8:=by decide
theorem XU:∀w∈JH,∀b∈w.head?,dn b=false:=by decide
theorem XW:∀w∈JH,∀b∈w.head?,isLet b=true\/b∈pV:=by decide
theorem ah9(f:Nat->Bool)(l:List Nat):∀b∈l.take (runN f l),f b=true:=by
 induction l with
 |nil=>simp[runN]
 |cons a l ih=>
  simp only[runN]
  by_cases h:f a=true
  ·rw[if_pos h,tF];intro b hb;rcases cB.1 hb with rfl|hb
   ·exact h
   ·exact ih b hb
  ·rw[if_neg h];simp
theorem ajc(m b:Nat)(r:List Nat)(hs:dB (b::r))(hm:m+(b::r).length<4000000000):(gr m (b::r)).Ok:=by
 have hlen:=Xg m (b::r);have jL:=EH m b r;have jr:(gr m (b::r)).at_=m:=by simp only[gr];(repeat' split)<;>rfl
 have c_:∀k,dB ((b::r).take k):=fun k x hx=>hs x (qV hx);have φ:(gr m (b::r)).text≠[]:=fun h=>by rw[h]at jL;cases jL
 have qv:dB (gr m (b::r)).text:=by
  simp only[gr];split
  ·exact c_ _
  ·split
   ·exact c_ _
   ·split<;>exact fun x hx=>by rw[fY.1 hx];exact hs b (by simp)
 have wT:(gr m (b::r)).at_+(gr m (b::r)).text.length<4000000000:=by rw[jr];omega
 refine⟨qv,φ,?_,?_,wT,?_⟩
 ·simp only[gr];by_cases h1:isLet b=true
  ·rw[if_pos h1];intro hw;refine⟨by simp,fun w nT he=>?_⟩;have h8:=XV w nT;rw[<-he]at h8;have:=zy isLet (b::r);simp only[lM]at h8;by_cases h:8<runN isLet (b::r)
   ·omega
   ·simp[h]at hw
  ·rw[if_neg h1];by_cases h2:dn b=true
   ·rw[if_pos h2];intro hw;refine⟨by simp,fun w nT he=>?_⟩;have hr:0<runN dn (b::r):=by simp[runN,h2]
    obtain⟨k,hk⟩:∃k,runN dn (b::r)=k+1:=⟨_,(Nat.sub_add_cancel hr).symm⟩;dsimp only at he;rw[hk,tF]at he;have:=XU w nT b (by rw[<-he];rfl);rw[h2]at this;cases this
   ·rw[if_neg h2];by_cases h3:b∈pV
    ·rw[if_pos h3];intro hw;simp at hw
    ·rw[if_neg h3];intro _;refine⟨by simp,fun w nT he=>?_⟩;rcases XW w nT b (by rw[<-he];rfl)with h|h
     ·exact h1 h
     ·exact h3 h
 ·simp only[gr];split
  ·intro h;cases h
  ·split
   ·intro h;cases h
   ·split
    ·rename_i h3;intro h;dsimp only at h;rw[h]at h3;exact absurd h3 (by decide)
    ·intro _;rfl
 ·simp only[gr];split
  ·intro h;cases h
  ·split
   ·rename_i h2;intro _ hw;refine⟨?_,ah9 dn (b::r)⟩;have:=zy dn (b::r);simp only[lM];by_cases ha:1<runN dn (b::r)/\b=48
    ·have hw:(if 1<runN dn (b::r)/\b=48 then(m:Int)+1 else if 2<runN dn (b::r)then(m:Int)+2 else-1)<0:=hw;rw[if_pos ha]at hw;omega
    ·by_cases h:2<runN dn (b::r)
     ·have hw:(if 1<runN dn (b::r)/\b=48 then(m:Int)+1 else if 2<runN dn (b::r)then(m:Int)+2 else-1)<0:=hw;rw[if_neg ha,if_pos h]at hw;omega
     ·omega
   ·split
    ·rename_i h3;intro h;dsimp only at h;rw[h]at h3;exact absurd h3 (by decide)
    ·intro h;cases h
theorem aji{s:List Nat}(hs:dB s)(hl:s.length<4000000000):∀t∈dK s,t.Ok:=by intro t ht;obtain⟨m,j,b,r,rfl,h2,h3⟩:=aje _ _ _ _ ht;have hlen:=congrArg lK h2;simp only[lL]at hlen;refine ajc m b r (fun x hx=>hs x (tE (by rw[h2];exact hx))) ?_;simp only[cN]at*;omega
end Go.Δ
namespace Go.Δ.Tz
open Go.Δ
variable{u:Nat}
attribute [local simp] exec ef dR e_ aJ dF fE eR br fM bR iL iS jm jE mo AV.cells newVar jA rd wr iu single dk cD ff eF μ cF RV.get cK fV kT
theorem zn:dB []:=fun b hb=>by cases hb
theorem EA(w:List Nat):shaped false 1 (.str w)=true:=rfl
theorem D8(m:Mem)(w:List Nat):m.ν (.str w)= .str w:=rfl
theorem Lb(x:ζ):x.four.take 4=x.four:=fe (by rw[x.eY];omega)
theorem O0(x:ζ):shaped true 4 (.agg x.four)=true:=by simp[shaped,x.eY]
theorem Oh(m:Mem)(x:ζ):m.ν (.agg x.four)= .agg x.four:=by rw[<-ζ.fm];exact ζ.tc x
theorem ζ.fx(x:ζ):x.Ok->Fx x.av:=by
 refine ζ.jd (Q:=fun x=>x.Ok->Fx x.av) (fun k n s c l ih h=>?_) x;simp only[ζ.Ok]at h;have hl:bL (ζ.χ l) (ζ.χ l):=by rw[ζ.dW];exact bL.of ζ.av l fun y hy=>ih y hy (ζ.gK h.2 y hy)
 have:=Dv.list c hl;rw[fq h.1]at this;exact .agg (.cons (.int _ _) (.cons (.int _ _) (.cons (.str _) (.cons this .nil))))
theorem oA{x:ζ}(h:x.gu):bL x.four x.four:=by have:=ζ.fx x h.1;rw[ζ.fm]at this;exact⟨by simpa only[pf]using this.1,by simpa only[ej,AV.agg.injEq]using this.2⟩
theorem bL.s_{l ws:List AV}(h:bL l ws)(m:Mem):m.ν (.agg l)= .agg l:=(Dv.agg h).ν
attribute [local simp] EA D8 Lb O0 Oh ζ.eY
theorem oT{f:FuncId}{g:AF}{args:List AV}{B:List θ}{p:Nat}{cs ah:List AV}{v:AV}(h1:(C u).gM f=none)(h2:(C u).fs f=some g)(h3:(C u).ba f=false)(hp:p<B.length)(hx:args.map (exp B.length false)=args)
  (hr:μ (C u).gl (ab (C u)) g.code {env:= .κ p 0::args,loc:=[],mem:= {ε:=B.set p (.cells cs),η:=[]}} fun r=>(∀i,r.1≠ .exit i)/\(∃bs,r.2.mem=(kK B p ah bs []))/\∃l,cF r.2 g.results=some l/\aQ r.2.mem.ε B.length 8 (cK l)=v) (T:List Nat):
  ab (C u) (.fn (.func f) [] []) (.κ p 0::args) {ε:=B.set p (.cells cs),η:=T}=some (v,{ε:=B.set p (.cells ah),η:=T}):=by
 refine ku h1 h2 h3 (by simp) ?_;have eG:([]++(AV.κ p 0::args)++[]).map (exp (B.set p (θ.cells cs)).length false)= .κ p 0::args:=by simp only[bB,dM,ax,mN,hx,exp,hp,if_true]
 dsimp only;rw[eG,mN];exact hr
def Ei:ζ->AV->Prop:=fun x v=>v= .agg x.four/\x.gu
theorem _root_.Go.Δ.ζ.gu.Lc{x:ζ}(h:x.gu)(bs:List θ)(n:Nat):aQ bs n 8 (.agg x.four)= .agg x.four:=by rw[<-ζ.fm];exact ζ.yf bs n 8 x h.1
theorem PD(m:Mem){X:List AV}(h:X.length=4)(hn:ν (.agg X)= .agg X):iq m true 4 56 27 (.list .nil []) (.list .full [.agg X])=some (.list (.own m.ε.length) [.agg X],m.push (.front 1 4 27)):=by simp[iq,shaped,h,Mem.ν,hn]
theorem PE(D:List θ)(T:List Nat){X Y:List AV}(h:X.length=4)(h':Y.length=4)(hn:ν (.agg Y)= .agg Y):
  iq {ε:=D++[.front 1 4 27],η:=T} true 4 56 27 (.list (.own D.length) [.agg X]) (.list .full [.agg Y])=some (.list (.own D.length) [.agg X,.agg Y],{ε:=D++[.front 2 4 27],η:=T}):=by
 simp[iq,shaped,h,h',Mem.ν,hn,Mem.put]
section
variable{s:List Nat}{all:List Tok}{c:τ}{item:AV}(hl:all.length<1000000000)(aj:∀t∈all,t.Ok)
include hl aj
theorem Vt{B:List θ}{p:Nat}{cs:List AV}{a:RS}(hp:p<B.length)(h:cE s all c item cs a):
  ∃tk:Tok,(∀T,kf u 291 [.κ p 0] {ε:=B.set p (.cells cs),η:=T}=some (tk.bp,{ε:=B.set p (.cells cs),η:=T}))/\∀st,a= .r st->tk.text=st.hd/\tk.kind=st.kd/\tk.at_=st.at_ s.length:=by
 obtain⟨k,wr,rfl,hk,h⟩:=h;refine⟨qF s all k,fun T=>f291 B p hp k wr T hl,fun st ha=>?_⟩;subst ha;exact NS h.2.1
theorem f315{k:Nat}(ih:∀a:RS,a.sz<k->pj u (cE s all c item) 296 [] (aB s.length k) Ei a)(a:RS)(ha:a.sz<k+1):pj u (cE s all c item) 315 [] (fj s.length (aB s.length k)) Ei a:=by
 intro B p cs hp h;obtain⟨tk,lE,qo⟩:=Vt (u:=u) hl aj hp h;have jB:=fun T=>f268 (u:=u) [[40]] (by decide) hl hp h T;simp only[ax,aI,akD,akE,akF]at jB;simp only[Tok.bp]at lE;cases hb:a.aV [40]with
 |true=>
  rw[hb]at jB
  have jL:=tK hb (by simp);obtain⟨_,x1,cL,a1,k1,r1,g1,rfl⟩:=f226 (u:=u) (item:=item) [40] hl aj a B p cs hp h;have uc:=g1.take jL;obtain⟨_,x,cA,a2,k2,r2,g2,rfl,hx⟩:=ih a1 (by omega) B p cL hp r1;obtain⟨_,x3,cV,a3,k3,r3,g3,rfl⟩:=f226 (u:=u) (item:=item) [41] hl aj a2 B p cA hp r2;refine⟨.agg x.four,x,cV,a3,oT (g:=wu) rfl rfl rfl hp rfl ?_,r3,?_,rfl,hx⟩
  ·simp[wu,Fe,bJ,lE,jB,k1,k2,k3];exact hx.Lc _ _
  ·refine aH.as (P:=fun t=>(aF s.length [40] t).bind fun _ t=>(aB s.length k t).bind fun x t=>(aF s.length [41] t).map fun _=>x) (g1.bind (g2.bind (g3.map fun _=>x))) fun t ht=>?_;subst ht;exact if_pos hb
 |false=>
  rw[hb]at jB
  have gz:∀st,a= .r st->st.aV [40]=false:=fun st hs=>by subst hs;exact hb
  have e0:dB []:=fun b hb=>by cases hb
  by_cases hk:tk.kind=2
  ·obtain⟨_,n,cL,a1,k1,r1,g1,rfl,hn⟩:=f230 (u:=u) (item:=item) hl aj a B p cs hp h;have hx:(ζ.mk 1 n [] .nil []).gu:=⟨⟨.inl rfl,trivial⟩,e0,trivial⟩;refine⟨.agg (ζ.mk 1 n [] .nil []).four,_,cL,a1,oT (g:=wu) rfl rfl rfl hp rfl ?_,r1,?_,rfl,hx⟩
   ·have:=hx.Lc (B.set p (.cells cL)) B.length;simp only[ζ.four,ζ.χ]at this⊢;have c8:((tk.kind:Int)==2)=true:=beq_iff_eq.2 (by omega);simp[wu,Fe,bJ,lE,jB,k1,c8,dG,this]
   ·refine aH.as (P:=fun t=>(uk s.length t).map fun n:Nat=>ζ.mk 1 (n:Int) [] .nil []) (g1.map _) fun t ht=>?_;simp[fj,gz t ht,<-(qo t ht).2.1,hk]
  ·obtain⟨_,x,cL,a1,k1,r1,g1,rfl,hn⟩:=f227 (u:=u) (item:=item) hl aj a B p cs hp h;have hx:(ζ.mk 2 0 x .nil []).gu:=⟨⟨.inl rfl,trivial⟩,hn,trivial⟩;refine⟨.agg (ζ.mk 2 0 x .nil []).four,_,cL,a1,oT (g:=wu) rfl rfl rfl hp rfl ?_,r1,?_,rfl,hx⟩
   ·have:=hx.Lc (B.set p (.cells cL)) B.length;simp only[ζ.four,ζ.χ]at this⊢;have c8:((tk.kind:Int)==2)=false:=beq_eq_false_iff_ne.2 (by omega);simp[wu,Fe,bJ,lE,jB,k1,c8,dG,this]
   ·refine aH.as (P:=fun t=>(gS s.length t).map fun n=>ζ.mk 2 0 n .nil []) (g1.map _) fun t ht=>?_;simp[fj,gz t ht,<-(qo t ht).2.1,hk]
theorem f308{k:Nat}(ih:∀a:RS,a.sz<k->pj u (cE s all c item) 296 [] (aB s.length k) Ei a)(a:RS)(ha:a.sz<k+1):pj u (cE s all c item) 308 [] (kY s.length (fj s.length (aB s.length k))) Ei a:=by
 intro B p cs hp h;have El:=fun a ha=>f315 (u:=u) hl aj ih a ha;have qj:=KO s.length (nB s.length k);generalize hA:fj s.length (aB s.length k)=A at*;obtain⟨_,x1,cL,a1,k1,r1,g1,rfl,qz⟩:=El a ha B p cs hp h;have uc:=g1.sz qj;let F:ζ->PS->R ζ:=fun x t=>(aF s.length [42] t).bind fun _ t=>(A t).map fun y=> .mk 5 0 [] .any [x,y];let cc:PS->Bool:=fun t=>t.aV [42];suffices hm:∃x ah b,(∀T,kf u 308 [.κ p 0] {ε:=B.set p (.cells cs),η:=T}=some (.agg x.four,{ε:=B.set p (.cells ah),η:=T}))/\cE s all c item ah b/\aH (cJ cc F (a1.sz+1) x1) a1 x b/\x.gu by obtain⟨x,ah,b,m1,m2,m3,m4⟩:=hm;exact⟨_,x,ah,b,m1,m2,g1.bind (Q:=fun x t=>cJ cc F (t.l.length+1) x t) m3.fuel,rfl,m4⟩
 have dT:μ (C u).gl (ab (C u)) QW {env:=[.κ p 0],loc:=[],mem:= {ε:=B.set p (.cells cs),η:=[]}} fun r=>(∀i,r.1≠ .exit i)/\∃L x ah b,r.2.mem= {ε:=B.set p (.cells ah),η:=[]}/\br r.2.env 2= .ak 2 0 0/\bR r.2.loc 2=some (0,.cells L)/\bL L x.four/\cE s all c item ah b/\aH (cJ cc F (a1.sz+1) x1) a1 x b/\x.gu:=by
  refine Ψ (fun st=>st.e 0= .κ p 0/\st.e 2= .ak 2 0 0/\(∃z,st.q 2=some (0,.cells z)/\z.length=4)/\st.q 3=none/\st.mem= {ε:=B.set p (.cells cs),η:=[]}) (by simp[bJ]) fun s1 ⟨h1,h2,⟨z,h3,hz⟩,h4,h5⟩=>?_;let I:Nat->St->Prop:=fun i st=>st.e 0= .κ p 0/\st.e 2= .ak 2 0 0/\(∃z,st.q 2=some (0,.cells z)/\z.length=4)/\st.e 3= .ak 3 0 0/\∃L x ah b,st.q 3=some (0,.cells L)/\st.mem= {ε:=B.set p (.cells ah),η:=[]}/\bL L x.four/\cE s all c item ah b/\x.gu/\b.sz+i<=a1.sz∧
   ∀y b',aH (cJ cc F (a1.sz+1-i) x) b y b'->aH (cJ cc F (a1.sz+1) x1) a1 y b'
  refine Ψ (I 0) (by
   simp[bJ,h1,h2,h3,hz,h4,h5,k1]
   exact⟨by simp[h1],by simp[h2],⟨z,by simp[h3],hz⟩,by simp,x1.four,x1,cL,a1,by simp,rfl,oA qz,r1,qz,b_ _,fun _ _ h=>h⟩) fun s1 hI=>?_
  refine bS (fun st=>st.e 2= .ak 2 0 0/\(∃z,st.q 2=some (0,.cells z)/\z.length=4)/\st.e 3= .ak 3 0 0/\∃L x ah b,st.q 3=some (0,.cells L)/\st.mem= {ε:=B.set p (.cells ah),η:=[]}/\bL L x.four/\cE s all c item ah b/\x.gu/\aH (cJ cc F (a1.sz+1) x1) a1 x b) ?_ fun s2 ⟨h2,⟨z,h3,hz⟩,h4,L,x,ah,b,h5,h6,hL,h7,h8,h9⟩=>?_
  ·refine μ.block (μ.lH (I:=I) a1.sz hI fun i st hi Ω=>?_);obtain⟨h1,h2,⟨z,h3,hz⟩,h4,L,x,ah,b,h5,h6,hL,h7,h8,h9,aE⟩:=Ω;have jB:=fun T=>f268 (u:=u) [[42]] (by decide) hl hp h7 T;simp only[ax,aI,akD,akE,akF]at jB;unfold Vg;have kV:a1.sz+1-i=(a1.sz-i)+1:=by omega
   rw[kV]at aE;cases hb:b.aV [42]with
   |false=>
    rw[hb]at jB
    refine μ.done (.exit 0) (fun st=>st.e 2= .ak 2 0 0/\st.q 2=some (0,.cells z)/\st.e 3= .ak 3 0 0/\st.q 3=some (0,.cells L)/\st.mem= {ε:=B.set p (.cells ah),η:=[]}) (by simp[h1,h2,h3,h4,h5,h6,jB]) fun s' ⟨m1,m2,m3,m4,m5⟩=> .inr ⟨by simp,.inl ⟨rfl,.inl ⟨rfl,m1,⟨z,m2,hz⟩,m3,L,x,ah,b,m4,m5,hL,h7,h8,aE x b (aH.D3 hb)⟩⟩⟩
   |true=>
    rw[hb]at jB
    have jL:=tK hb (by simp);obtain⟨_,w,cA,b2,k2,r2,g2,rfl⟩:=f226 (u:=u) (item:=item) [42] hl aj b B p ah hp h7;have nR:=g2.take jL;obtain⟨_,y,cV,b3,k3,r3,g3,rfl,hy⟩:=El b2 (by omega) B p cA hp r2;have DC:=g3.sz qj;have hx:(ζ.mk 5 0 [] .any [x,y]).gu:=⟨⟨.inr rfl,h8.1,hy.1,trivial⟩,zn,h8.2,hy.2,trivial⟩;have mw:L.length=4:=by rw[hL.len,x.eY]
    have lu:L.take 4=L:=fe (by omega);have dX:shaped true 4 (.agg L)=true:=by simp[shaped,mw]
    have LH:bL [.n 5,.n 0,.str [],.list .full [.agg L,.agg y.four]] (ζ.mk 5 0 [] .any [x,y]).four:=by simp only[ζ.four,ζ.χ,ζ.fm];exact .cons (.int _ _) (.cons (.int _ _) (.cons (.str _) (.cons (.list .full (.cons (.agg hL) (.cons (.agg (oA hy)) .nil))) .nil)))
    refine μ.done .normal (fun st=>st.e 0= .κ p 0/\st.e 2= .ak 2 0 0/\st.q 2=some (0,.cells z)/\st.e 3= .ak 3 0 0/\st.q 3=some (0,.cells [.n 5,.n 0,.str [],.list .full [.agg L,.agg y.four]])/\st.mem= {ε:=B.set p (.cells cV),η:=[]}) (by simp[h1,h2,h3,h4,h5,h6,jB,k2,k3,dG,c7,de,fL,mw,lu,dX,bL.s_ hL]) fun s' ⟨m1,m2,m3,m4,m5,m6⟩=> .inl ⟨rfl,by omega,m1,m2,⟨z,m3,hz⟩,m4,_,_,cV,b3,m5,m6,LH,r3,hx,by omega,fun y' b' hg=>aE y' b' (aH.D5 hb (g2.bind (g3.map _)) (by rw[show a1.sz+1-(i+1)=a1.sz-i by omega]at hg;exact hg))⟩
  ·have mw:L.length=4:=by rw[hL.len,x.eY]
   have lu:L.take 4=L:=fe (by omega);refine μ.done .ret (fun st=>st.e 2= .ak 2 0 0/\st.q 2=some (0,.cells L)/\st.mem= {ε:=B.set p (.cells ah),η:=[]}) (by simp[h2,h3,h4,h5,h6,hz,mw,lu]) fun s' ⟨m1,m2,m3⟩=>⟨by simp,L,x,ah,b,m3,m1,m2,hL,h7,h9,h8⟩
 obtain⟨r,e1,e2,L,x,ah,b,e3,e4,e5,hL,e6,e7,e8⟩:=dT;have mw:L.length=4:=by rw[hL.len,x.eY]
 have lu:L.take 4=L:=fe (by omega);exact⟨x,ah,b,oT (g:=G3) rfl rfl rfl hp rfl ⟨r,e1,e2,⟨[],by simp[e3]⟩,[.agg L],by simp[G3,e4,e5,mw,lu],(Dv.agg hL).aQ _ _ _⟩,e6,e7,e8⟩
theorem f296{k:Nat}(ih:∀a:RS,a.sz<k->pj u (cE s all c item) 296 [] (aB s.length k) Ei a)(a:RS)(ha:a.sz<k+1):pj u (cE s all c item) 296 [] (aB s.length (k+1)) Ei a:=by
 intro B p cs hp h;have El:=fun a ha=>f308 (u:=u) hl aj ih a ha;have qj:=RH s.length (KO s.length (nB s.length k));show∃v x ah b,_/\_/\aH (vN s.length (kY s.length (fj s.length (aB s.length k)))) a x b/\_;generalize hA:kY s.length (fj s.length (aB s.length k))=A at*;obtain⟨_,x1,cL,a1,k1,r1,g1,rfl,qz⟩:=El a ha B p cs hp h;have uc:=g1.sz qj;let F:ζ->PS->R ζ:=fun x t=>(aF s.length t.hd t).bind fun w t=>(A t).map fun y=> .mk (if w=[45]then 4 else 3) 0 [] .any [x,y];let cc:PS->Bool:=fun t=>t.aV [43]||t.aV [45];suffices hm:∃x ah b,(∀T,kf u 296 [.κ p 0] {ε:=B.set p (.cells cs),η:=T}=some (.agg x.four,{ε:=B.set p (.cells ah),η:=T}))/\cE s all c item ah b/\aH (cJ cc F (a1.sz+1) x1) a1 x b/\x.gu by obtain⟨x,ah,b,m1,m2,m3,m4⟩:=hm;exact⟨_,x,ah,b,m1,m2,g1.bind (Q:=fun x t=>cJ cc F (t.l.length+1) x t) m3.fuel,rfl,m4⟩
 have dT:μ (C u).gl (ab (C u)) QT {env:=[.κ p 0],loc:=[],mem:= {ε:=B.set p (.cells cs),η:=[]}} fun r=>(∀i,r.1≠ .exit i)/\∃L x ah b,r.2.mem= {ε:=B.set p (.cells ah),η:=[]}/\br r.2.env 2= .ak 2 0 0/\bR r.2.loc 2=some (0,.cells L)/\bL L x.four/\cE s all c item ah b/\aH (cJ cc F (a1.sz+1) x1) a1 x b/\x.gu:=by
  refine Ψ (fun st=>st.e 0= .κ p 0/\st.e 2= .ak 2 0 0/\(∃z,st.q 2=some (0,.cells z)/\z.length=4)/\st.q 3=none/\st.mem= {ε:=B.set p (.cells cs),η:=[]}) (by simp[bJ]) fun s1 ⟨h1,h2,⟨z,h3,hz⟩,h4,h5⟩=>?_;let I:Nat->St->Prop:=fun i st=>st.e 0= .κ p 0/\st.e 2= .ak 2 0 0/\(∃z,st.q 2=some (0,.cells z)/\z.length=4)/\st.e 3= .ak 3 0 0/\∃L x ah b,st.q 3=some (0,.cells L)/\st.mem= {ε:=B.set p (.cells ah),η:=[]}/\bL L x.four/\cE s all c item ah b/\x.gu/\b.sz+i<=a1.sz∧
   ∀y b',aH (cJ cc F (a1.sz+1-i) x) b y b'->aH (cJ cc F (a1.sz+1) x1) a1 y b'
  refine Ψ (I 0) (by
   simp[bJ,h1,h2,h3,hz,h4,h5,k1]
   exact⟨by simp[h1],by simp[h2],⟨z,by simp[h3],hz⟩,by simp,x1.four,x1,cL,a1,by simp,rfl,oA qz,r1,qz,b_ _,fun _ _ h=>h⟩) fun s1 hI=>?_
  refine bS (fun st=>st.e 2= .ak 2 0 0/\(∃z,st.q 2=some (0,.cells z)/\z.length=4)/\st.e 3= .ak 3 0 0/\∃L x ah b,st.q 3=some (0,.cells L)/\st.mem= {ε:=B.set p (.cells ah),η:=[]}/\bL L x.four/\cE s all c item ah b/\x.gu/\aH (cJ cc F (a1.sz+1) x1) a1 x b) ?_ fun s2 ⟨h2,⟨z,h3,hz⟩,h4,L,x,ah,b,h5,h6,hL,h7,h8,h9⟩=>?_
  ·refine μ.block (μ.lH (I:=I) a1.sz hI fun i st hi Ω=>?_);obtain⟨h1,h2,⟨z,h3,hz⟩,h4,L,x,ah,b,h5,h6,hL,h7,h8,h9,aE⟩:=Ω;have jB:=fun T=>f268 (u:=u) [[43],[45]] (by decide) hl hp h7 T;have r9:=fun T=>f268 (u:=u) [[45]] (by decide) hl hp h7 T;simp only[ax,aI,akD,akE,akF]at jB r9;unfold Ve;have kV:a1.sz+1-i=(a1.sz-i)+1:=by omega
   rw[kV]at aE;have ew:b.xW cc=(b.aV [43]||b.aV [45]):=by cases b<;>rfl
   cases hb:(b.aV [43]||b.aV [45])with
   |false=>
    rw[hb]at jB
    refine μ.done (.exit 0) (fun st=>st.e 2= .ak 2 0 0/\st.q 2=some (0,.cells z)/\st.e 3= .ak 3 0 0/\st.q 3=some (0,.cells L)/\st.mem= {ε:=B.set p (.cells ah),η:=[]}) (by simp[h1,h2,h3,h4,h5,h6,jB]) fun s' ⟨m1,m2,m3,m4,m5⟩=> .inr ⟨by simp,.inl ⟨rfl,.inl ⟨rfl,m1,⟨z,m2,hz⟩,m3,L,x,ah,b,m4,m5,hL,h7,h8,aE x b (aH.D3 (ew.trans hb))⟩⟩⟩
   |true=>
    rw[hb]at jB
    have jL:0<b.sz:=by
     rcases Bool.or_eq_true_iff.1 hb with h|h
     ·exact tK h (by simp)
     ·exact tK h (by simp)
    obtain⟨tk,lE,qo⟩:=Vt (u:=u) hl aj hp h7;simp only[Tok.bp]at lE;have Dd:tk.text=b.hd:=by
     cases b with
     |w w=>cases hb
     |r st=>exact(qo st rfl).1
    obtain⟨_,w,cA,b2,k2,r2,g2,rfl⟩:=f226 (u:=u) (item:=item) tk.text hl aj b B p ah hp h7;have nR:=g2.take jL;obtain⟨_,y,cV,b3,k3,r3,g3,rfl,hy⟩:=El b2 (by omega) B p cA hp r2;have DC:=g3.sz qj;have mw:L.length=4:=by rw[hL.len,x.eY]
    have lu:L.take 4=L:=fe (by omega);have dX:shaped true 4 (.agg L)=true:=by simp[shaped,mw]
    have oF:b.aV [45]=decide (b.hd=[45]):=by
     cases b with
     |w w=>cases hb
     |r st=>by_cases h:st.hd=[45]<;>simp[RS.aV,RS.xW,PS.aV,RS.hd,h]
    have step:∀K:Int,K=(if b.hd=[45]then 4 else 3)->aH (F x) b (.mk K 0 [] .any [x,y]) b3:=fun K hK=>by subst hK;rw[Dd]at g2;exact aH.as (P:=fun t=>(aF s.length b.hd t).bind fun w t=>(A t).map fun y=>ζ.mk (if w=[45]then 4 else 3) 0 [] .any [x,y]) (aH.word (Q:=fun w t=>(A t).map fun y=>ζ.mk (if w=[45]then 4 else 3) 0 [] .any [x,y]) g2 (g3.map _)) fun t ht=>by subst ht;rfl
    have go:∀K:Int,K=(if b.hd=[45]then 4 else 3)->∀s':St,s'.e 0= .κ p 0/\s'.e 2= .ak 2 0 0/\s'.q 2=some (0,.cells z)/\s'.e 3= .ak 3 0 0/\s'.q 3=some (0,.cells [.n K,.n 0,.str [],.list .full [.agg L,.agg y.four]])/\s'.mem= {ε:=B.set p (.cells cV),η:=[]}->i<a1.sz/\I (i+1) s':=fun K hK s' ⟨m1,m2,m3,m4,m5,m6⟩=>by
     have hx:(ζ.mk K 0 [] .any [x,y]).gu:=⟨⟨.inr rfl,h8.1,hy.1,trivial⟩,zn,h8.2,hy.2,trivial⟩;have LH:bL [.n K,.n 0,.str [],.list .full [.agg L,.agg y.four]] (ζ.mk K 0 [] .any [x,y]).four:=by simp only[ζ.four,ζ.χ,ζ.fm];exact .cons (.int _ _) (.cons (.int _ _) (.cons (.str _) (.cons (.list .full (.cons (.agg hL) (.cons (.agg (oA hy)) .nil))) .nil)))
     exact⟨by omega,m1,m2,⟨z,m3,hz⟩,m4,_,_,cV,b3,m5,m6,LH,r3,hx,by omega,fun y' b' hg=>aE y' b' (aH.D5 (ew.trans hb) (step K hK) (by rw[show a1.sz+1-(i+1)=a1.sz-i by omega]at hg;exact hg))⟩
    rw[oF]at r9;by_cases hm:b.hd=[45]
    ·rw[decide_eq_true hm]at r9;refine μ.done .normal (fun st=>st.e 0= .κ p 0/\st.e 2= .ak 2 0 0/\st.q 2=some (0,.cells z)/\st.e 3= .ak 3 0 0/\st.q 3=some (0,.cells [.n 4,.n 0,.str [],.list .full [.agg L,.agg y.four]])/\st.mem= {ε:=B.set p (.cells cV),η:=[]}) (by simp[h1,h2,h3,h4,h5,h6,jB,r9,lE,k2,k3,dG,c7,de,fL,mw,lu,dX,bL.s_ hL]) fun s' h=> .inl ⟨rfl,go 4 (by rw[if_pos hm]) s' h⟩
    ·rw[decide_eq_false hm]at r9;refine μ.done .normal (fun st=>st.e 0= .κ p 0/\st.e 2= .ak 2 0 0/\st.q 2=some (0,.cells z)/\st.e 3= .ak 3 0 0/\st.q 3=some (0,.cells [.n 3,.n 0,.str [],.list .full [.agg L,.agg y.four]])/\st.mem= {ε:=B.set p (.cells cV),η:=[]}) (by simp[h1,h2,h3,h4,h5,h6,jB,r9,lE,k2,k3,dG,c7,de,fL,mw,lu,dX,bL.s_ hL]) fun s' h=> .inl ⟨rfl,go 3 (by rw[if_neg hm]) s' h⟩
  ·have mw:L.length=4:=by rw[hL.len,x.eY]
   have lu:L.take 4=L:=fe (by omega);refine μ.done .ret (fun st=>st.e 2= .ak 2 0 0/\st.q 2=some (0,.cells L)/\st.mem= {ε:=B.set p (.cells ah),η:=[]}) (by simp[h2,h3,h4,h5,h6,hz,mw,lu]) fun s' ⟨m1,m2,m3⟩=>⟨by simp,L,x,ah,b,m3,m1,m2,hL,h7,h9,h8⟩
 obtain⟨r,e1,e2,L,x,ah,b,e3,e4,e5,hL,e6,e7,e8⟩:=dT;have mw:L.length=4:=by rw[hL.len,x.eY]
 have lu:L.take 4=L:=fe (by omega);exact⟨x,ah,b,oT (g:=G0) rfl rfl rfl hp rfl ⟨r,e1,e2,⟨[],by simp[e3]⟩,[.agg L],by simp[G0,e4,e5,mw,lu],(Dv.agg hL).aQ _ _ _⟩,e6,e7,e8⟩
theorem Bc:∀(k:Nat) (a:RS),a.sz<k->pj u (cE s all c item) 296 [] (aB s.length k) Ei a
 |0,_,h=>by omega
 |k+1,a,h=>f296 hl aj (fun a h=>Bc k a h) a h
theorem f295{k:Nat}(a:RS)(ha:a.sz<k):pj u (cE s all c item) 295 [] (uD s.length (aB s.length k)) (fun x v=>v= .aU [.str x.1,.agg x.2.four]/\dB x.1/\x.2.gu) a:=by intro B p cs hp h;obtain⟨_,n,cL,a1,k1,r1,g1,rfl,hn⟩:=f227 (u:=u) (item:=item) hl aj a B p cs hp h;have s1:=g1.sz (nC _);obtain⟨_,w1,cA,a2,k2,r2,g2,rfl⟩:=f226 (u:=u) (item:=item) [91] hl aj a1 B p cL hp r1;have s2:=g2.sz (eP _ _);obtain⟨_,x,cV,a3,k3,r3,g3,rfl,hx⟩:=Bc (u:=u) (item:=item) hl aj k a2 (by omega) B p cA hp r2;obtain⟨_,w2,iI,a4,k4,r4,g4,rfl⟩:=f226 (u:=u) (item:=item) [93] hl aj a3 B p cV hp r3;refine⟨_,(n,x),iI,a4,oT (g:=GZ) rfl rfl rfl hp rfl ?_,r4,g1.bind (Q:=fun n s'=>(aF s.length [91] s').bind fun _ s'=>(aB s.length k s').bind fun x s'=>(aF s.length [93] s').map fun _=>(n,x)) (g2.bind (Q:=fun _ s'=>(aB s.length k s').bind fun x s'=>(aF s.length [93] s').map fun _=>(n,x)) (g3.bind (Q:=fun x s'=>(aF s.length [93] s').map fun _=>(n,x)) (g4.map fun _=>(n,x)))),rfl,hn,hx⟩;simp[GZ,QS,bJ,k1,k2,k3,k4];exact(Dv.aU (.cons (.str n) (.cons (.agg (oA hx)) .nil))).aQ _ _ _
def Ep:ρ->AV->Prop:=fun x v=>v=x.av/\x.Ok
theorem f309{k:Nat}(a:RS)(ha:a.sz<k):pj u (cE s all c item) 309 [] (jZ s.length (aB s.length k)) Ep a:=by
 intro B p cs hp h;obtain⟨_,n,cL,a1,k1,r1,g1,rfl,hn⟩:=f227 (u:=u) (item:=item) hl aj a B p cs hp h;have s1:=g1.sz (nC _);have jB:=fun T=>f268 (u:=u) [[91]] (by decide) hl hp r1 T;simp only[ax,aI,akD,akE,akF]at jB;cases hb:a1.aV [91]with
 |false=>
  rw[hb]at jB
  have gz:∀st,a1= .r st->st.aV [91]=false:=fun st hs=>by subst hs;exact hb
  refine⟨_,⟨n,.nil,[]⟩,cL,a1,oT (g:=wq) rfl rfl rfl hp rfl ?_,r1,g1.bind (aH.as (aH.pure _ _) fun st hs=>by simp[gz st hs]),rfl,hn,.inl rfl,by simp⟩;simp[wq,Fc,bJ,k1,jB,dG];rfl
 |true=>
  rw[hb]at jB
  obtain⟨_,w1,cA,a2,k2,r2,g2,rfl⟩:=f226 (u:=u) (item:=item) [91] hl aj a1 B p cL hp r1;have s2:=g2.sz (eP _ _);obtain⟨_,x,cV,a3,k3,r3,g3,rfl,hx⟩:=Bc (u:=u) (item:=item) hl aj k a2 (by omega) B p cA hp r2;have s3:=g3.sz (nB _ _);have e0:∀i cs,(B++[θ.front i 4 27]).set p (.cells cs)=B.set p (.cells cs)++[.front i 4 27]:=fun i cs=>ns _ _ hp;have qs:∀i,p<(B++[θ.front i 4 27]).length:=fun i=>by simp;omega
  have r9:=fun T=>f268 (u:=u) (B:=B++[.front 1 4 27]) [[58]] (by decide) hl (qs 1) r3 T;simp only[ax,aI,akD,akE,akF,e0]at r9;have wG:=fun T=>PD {ε:=B.set p (.cells cV),η:=T} x.eY (Dv.agg (oA hx)).ν;simp only[mN,Mem.push]at wG;cases dA:a3.aV [58]with
  |false=>
   rw[dA]at r9
   have gz:∀st,a3= .r st->st.aV [58]=false:=fun st hs=>by subst hs;exact dA
   obtain⟨_,w2,iI,a4,k4,r4,g4,rfl⟩:=f226 (u:=u) (item:=item) [93] hl aj a3 (B++[.front 1 4 27]) p cV (qs 1) r3;simp only[e0]at k4;have dS:(⟨n,.any,[x]⟩:ρ).Ok:=⟨hn,.inr rfl,by simpa using hx⟩;refine⟨_,⟨n,.any,[x]⟩,iI,a4,oT (g:=wq) rfl rfl rfl hp rfl ?_,r4,?_,rfl,dS⟩
   ·simp[wq,Fc,bJ,k1,k2,k3,k4,jB,r9,dG,wG,c7,de,fL];exact(Dv.agg (.cons (.str n) (.cons (.list _ (.cons (.agg (oA hx)) .nil)) .nil))).aQ _ _ _|>.trans (by simp[ρ.av,ζ.fm,τ.exp])
   ·refine g1.bind (aH.as (P:=fun t=>(aF s.length [91] t).bind fun _ t=>(aB s.length k t).bind fun x t=>(if t.aV [58]then(aF s.length [58] t).bind fun _ t=>(aB s.length k t).map fun y=>[x,y]else .ok [x] t).bind fun l t=>(aF s.length [93] t).map fun _=>⟨n,.any,l⟩) ?_ fun st hs=>by subst hs;exact if_pos hb);exact g2.bind (g3.bind (aH.bind (aH.as (aH.pure [x] a3) fun st hs=>by simp[gz st hs]) (g4.map fun _=>_)))
  |true=>
   rw[dA]at r9
   obtain⟨_,w2,iI,a4,k4,r4,g4,rfl⟩:=f226 (u:=u) (item:=item) [58] hl aj a3 (B++[.front 1 4 27]) p cV (qs 1) r3;have s4:=g4.sz (eP _ _);obtain⟨_,y,uW,a5,k5,r5,g5,rfl,hy⟩:=Bc (u:=u) (item:=item) hl aj k a4 (by omega) (B++[.front 1 4 27]) p iI (qs 1) r4;obtain⟨_,w3,Cu,a6,k6,r6,g6,rfl⟩:=f226 (u:=u) (item:=item) [93] hl aj a5 (B++[.front 2 4 27]) p uW (qs 2) r5;simp only[e0]at k4 k5 k6;have u7:=fun T=>PE (B.set p (.cells uW)) T x.eY y.eY (Dv.agg (oA hy)).ν;simp only[mN]at u7;have dS:(⟨n,.any,[x,y]⟩:ρ).Ok:=⟨hn,.inr rfl,by simpa using⟨hx,hy⟩⟩;refine⟨_,⟨n,.any,[x,y]⟩,Cu,a6,oT (g:=wq) rfl rfl rfl hp rfl ?_,r6,?_,rfl,dS⟩
   ·simp[wq,Fc,bJ,k1,k2,k3,k4,k5,k6,jB,r9,dG,wG,u7,c7,de,fL];exact(Dv.agg (.cons (.str n) (.cons (.list _ (.cons (.agg (oA hx)) (.cons (.agg (oA hy)) .nil))) .nil))).aQ _ _ _|>.trans (by simp[ρ.av,ζ.fm,τ.exp])
   ·refine g1.bind (aH.as (P:=fun t=>(aF s.length [91] t).bind fun _ t=>(aB s.length k t).bind fun x t=>(if t.aV [58]then(aF s.length [58] t).bind fun _ t=>(aB s.length k t).map fun y=>[x,y]else .ok [x] t).bind fun l t=>(aF s.length [93] t).map fun _=>⟨n,.any,l⟩) ?_ fun st hs=>by subst hs;exact if_pos hb);exact g2.bind (g3.bind (aH.bind (aH.as (P:=fun t=>(aF s.length [58] t).bind fun _ t=>(aB s.length k t).map fun y=>[x,y]) (g4.bind (g5.map fun y=>[x,y])) fun st hs=>by subst hs;exact if_pos dA) (g6.map fun _=>_)))
end
end Go.Δ.Tz
