import Derived.Test.YtiigojkfojnedaaGreatDoorTHm
set_option linter.all false
set_option maxRecDepth 100000
set_option maxHeartbeats 8000000
open List renaming eq_nil_of_length_eq_zero->nB,cons_append->cy,append_assoc->bH,length_append->cD,length_cons->cE,length_map->cF,map_map->dc,map_congr_left->dD,map_cons->aA,map_nil->aP,findIdx?_eq_some_iff_getElem->tK,findIdx?_eq_none_iff->wv,contains_iff_mem->xW,getElem_mem->df,nil_append->bG,getElem_cons_succ->qY,append_nil->de,length_nil->eI,take_succ_eq_append_getElem->uY,map_append->jT,length_take->kE,take_length->po,length_pos_iff->mR,getElem?_eq_getElem->dN
open Go.IntKind renaming wrap->bC
open Bool renaming false_and->alp,true_and->tG
open Nat renaming le_refl->bA
namespace Go.Δ.Tz
open Go.Δ
variable{u:Nat}
attribute [local simp] exec dT dG eR aH dr ff eH aI fA bQ gX ib iC iL AV.cells newVar iH rd wr gL single dd eU ef κ cH RV.get cJ fF jU qn
theorem ew{a b:List Nat}(h:a.length+b.length<1000000000000):cA .add a b=some (.str (a++b)):=by simp only[cA];rw[if_neg];show¬((a.length+b.length:Nat):Int)>9223372036854775807;omega
theorem XJ{k n:Int}{s:List Nat}{c:ξ}{l:List η}(h:(η.mk k n s c l).mu):(k=1/\0<=n/\n<100/\l=[])\/(k=2/\l=[])\/((k=3\/k=4\/k=5)/\∃a b,l=[a,b]):=by
 simp only[η.mu]at h;obtain⟨h1,-,-⟩:=h;unfold kW at h1;by_cases c1:k<1\/5<k\/(k=1/\(n<0\/99<n))
 ·rw[if_pos c1]at h1;cases h1
 rw[if_neg c1]at h1;by_cases c2:(3<=k/\l.length≠2)\/(k<3/\l.length≠0)
 ·rw[if_pos c2]at h1;cases h1
 have hk:k=1\/k=2\/3<=k:=by omega
 rcases hk with hk|hk|hk
 ·exact .inl ⟨hk,by omega,by omega,nB (by omega)⟩
 ·exact .inr (.inl ⟨hk,nB (by omega)⟩)
 ·have h2:l.length=2:=by omega
  match l,h2 with
  |[a,b],_=>exact .inr (.inr ⟨by omega,a,b,rfl⟩)
theorem Pd(s:List Nat):paren false s=s:=rfl
theorem afD(l:List δ)(x:δ)(b:List Nat):dj (l++[x]) b=dj l b++jm x b:=by
 induction l with
 |nil=>simp[dj]
 |cons a l ih=>simp only[cy,dj,ih,bH]
theorem aav{l:List δ}{x:δ}(h:x∈l):x.deep<=δ.dx l:=by
 induction l with
 |nil=>cases h
 |cons a l ih=>
  simp only[δ.dx]
  rcases List.mem_cons.1 h with rfl|h
  ·omega
  ·have:=ih h;omega
theorem afE(l:List δ)(b:List Nat)(h:δ.Rs l)(hb:b.length+2*δ.dx l<=100)(hc:δ.bO l<=1000):(dj l b).length<=1500000:=by have h1:=Wc 100 l b h hb;have h2:δ.bO l*(3*100+1200)<=1000*(3*100+1200):=Nat.mul_le_mul_right _ hc;omega
theorem abY{x:δ}(h:x.R):AZ x.kind x.gate x.name x.pl x.size x.to/\(aS x.kind=true->δ.Rs x.body)/\(bh x.kind=true->δ.Rs x.els):=by cases x;exact h
theorem afy(x:δ)(b:List Nat):jm x b=b++cg x.kind x.gate x.name x.pl x.size x.to++
   (if aS x.kind=false then[59,10]
    else[32,123,10]++dj x.body (b++fD)++
    (if bh x.kind=true/\¬(x.kind=7/\x.els.length=0)then b++[125,32]++mU x.kind++[32,123,10]++dj x.els (b++fD)else[])++b++[125,10]):=by cases x;rfl
theorem aau(x:δ):x.deep=1+max (if aS x.kind then δ.dx x.body else 0) (if bh x.kind then δ.dx x.els else 0):=by cases x;rfl
def akw(x:δ):Prop:=x.size.Ok/\x.to.Ok/\br x.cp/\∀p∈x.pl,p.Ok
theorem akv{x:δ}(hx:x.Ok):akw x:=by obtain⟨k,g,nm,cp,pl,size,to,cb,body,ce,els⟩:=x;simp only[δ.Ok]at hx;exact⟨hx.2.2.2.1.1,hx.2.2.2.2.1.1,hx.2.1,hx.2.2.1⟩
theorem ahS(l:List φ)(x:φ):fI (l++[x])=fI l++x.text:=by
 induction l with
 |nil=>simp[fI]
 |cons a l ih=>simp only[cy,fI,ih,bH]
theorem ahT(l:List φ)(h:∀x∈l,B_ x):(fI l).length<=l.length*200000:=by
 induction l with
 |nil=>simp[fI]
 |cons a l ih=>
  have h1:=φ.so (h a (by simp))
  have h2:=ih fun x hx=>h x (by simp[hx]);simp only[fI,cD,cE];omega
theorem aht(l:List ay)(h:∀p∈l,p.name.length<=8/\1<=p.size/\p.size<=12)(h4:l.length<=4):(lG (l.map ay.text)).length<=56:=by
 have h3:=Cu (l.map ay.text) 12 (fun t ht=>by
  obtain⟨p,hp,rfl⟩:=List.mem_map.1 ht
  have:=(h p hp).1;have:=va p.size.toNat;simp[ay.text];omega)
 rw[cF]at h3;omega
theorem f223(c:ξ)(ks:List Int)(v:Int)(hl:ks.length<1000000000000)(m:Mem):kf u 223 [.list c (ks.map (AV.n)),.n v] m=some (.n (match ks.findIdx? (·==v)with
  |some i=>(i:Int)
  |none=> -1),m):=by
 refine eN (g:=GH) rfl rfl rfl ?_;have he:bn m.ε.length false (ks.map (AV.n))=ks.map (AV.n):=by rw[fQ,dc];exact dD fun _ _=>rfl
 simp only[aA,aP,exp,he,GH,Ri];generalize c.exp m.ε.length false=c';let K:St->Prop:=fun st=>st.e 0= .list c' (ks.map (AV.n))/\st.e 1= .n v/\st.mem= {ε:=m.ε,ζ:=[]};refine Θ (K) (by simp[K]) fun s1 ⟨h1,h2,h3⟩=>?_;refine bP (fun st=>K st/\ks.findIdx? (·==v)=none) ?_ fun s2 ⟨⟨h1,h2,h3⟩,h4⟩=>by simp[h3,h4]
 let I:Nat->St->Prop:=fun i st=>K st/\st.e 7= .n ks.length/\st.e 8= .n i/\∀j (hj:j<ks.length),j<i->ks[j]≠v;refine Θ (I 0) (by simp[I,K,h1,h2,h3]) fun s4 hI=>?_;refine κ.block (κ.loop (I:=I) ks.length hI fun i st hi Ω=>?_);obtain⟨⟨h1,h2,h3⟩,q1,q2,q4⟩:=Ω;rcases Nat.lt_or_ge i ks.length with χ|du
 ·have hw:bC .i64 ((i:Int)+1)=(i:Int)+1:=wrap_i64 (by omega) (by omega);by_cases hz:ks[i]=v
  ·right;have hf:ks.findIdx? (·==v)=some i:=by rw[tK];exact⟨χ,by simpa using hz,fun j hj=>by simpa using q4 j (by omega) hj⟩
   rw[hf];have rU:v=ks[i]:=hz.symm;simp[K,IA,h1,h2,h3,q1,q2,χ,hz]
  ·left;refine⟨χ,?_⟩;have rU:(v==ks[i])=false:=by simpa using fun h=>hz h.symm
   have q5:=Ch (P:=fun j=>∀hj:j<ks.length,ks[j]≠v) (n:=ks.length) (fun j a b c=>q4 j c b) (fun _=>hz);simp[I,K,IA,h1,h2,h3,q1,q2,χ,rU,hw];exact fun j hj oO=>q5 j hj oO hj
 ·right;have:i=ks.length:=by omega
  subst this;have hf:ks.findIdx? (·==v)=none:=by rw[wv];intro x hx;obtain⟨j,hj,rfl⟩:=List.getElem_of_mem hx;simpa using q4 j hj hj
  simp[K,IA,h1,h2,h3,q1,q2,hf]
theorem f180(c:ξ)(ks:List Int)(v:Int)(hl:ks.length<1000000000000)(m:Mem):kf u 180 [.list c (ks.map (AV.n)),.n v] m=some (.bool (ks.contains v),m):=by
 have e:=fun c=>f223 (u:=u) c ks v hl;refine eN (g:=Gq) rfl rfl rfl ?_;have he:bn m.ε.length false (ks.map (AV.n))=ks.map (AV.n):=by rw[fQ,dc];exact dD fun _ _=>rfl
 simp only[aA,aP,exp,he,Gq,Q4];cases hf:ks.findIdx? (·==v)with
 |none=>
  have hc:ks.contains v=false:=by
   rw[wv]at hf;cases h:ks.contains v with
   |false=>rfl
   |true=>
    rw[xW]at h
    have:=hf v h;simp at this
  rw[hf]at e;rw[hc];simp[e]
 |some i=>
  have hc:ks.contains v=true:=by
   rw[tK]at hf;obtain⟨h1,h2,_⟩:=hf;rw[xW];have:ks[i]=v:=by simpa using h2
   rw[<-this];exact df h1
  rw[hf]at e;rw[hc];have:(0:Int)<=(i:Int):=by omega
  simp[e,this]
theorem f179{id:Nat}{k n:Int}{s:List Nat}{c:ξ}{l:List η}(m:Mem)(hid:m.ε[id]?=some (.cells [.n k,.n n,.str s,.list c (η.ψ l)]))(i:Nat)(iv:Int)(Nb:iv=(i:Int))(hi:i<l.length)
  (e:∀m,kf u 114 [l[i].av] m=some (.str l[i].text,m)) (hlen:l[i].text.length<1000000000) (cc:ξ) (ks:List Int) (A7:ks.length<10):
  ah (C u) (.fn (.func 179) [] [.μ id 0]) [.n iv,.list cc (ks.map (AV.n))] m=some (.str (paren (ks.contains l[i].kind) l[i].text),m):=by
 subst Nb;have χ:=sJ hid;have Sy:=fun c v=>f180 (u:=u) c ks v (by omega);refine sD (g:=Gp) rfl rfl rfl ?_;have he:bn m.ε.length false (ks.map (AV.n))=ks.map (AV.n):=by rw[fQ,dc];exact dD fun _ _=>rfl
 simp only[bG,cy,aA,aP,exp,he,χ,if_true,Gp,Q3];have hg:=Fg l i hi;generalize l[i]=y at*;generalize y.text=t at*;obtain⟨k',n',s',c2,l'⟩:=y;simp only[η.av]at hg e;simp only[η.kind];cases hb:ks.contains k' with
 |true=>
  have a1:cA .add [40] t=some (.str ([40]++t)):=ew (by simp;omega)
  have a2:cA .add ([40]++t) [41]=some (.str ([40]++t++[41])):=ew (by simp;omega);simp only[cy,bG]at a1 a2;have e':=fun c=>Sy c k';rw[hb]at e';simp[hid,ri,hi,hg,e,e',a1,a2,paren]
 |false=>
  have e':=fun c=>Sy c k'
  rw[hb]at e';simp[hid,ri,hi,hg,e,e',paren]
theorem f109(n:Int)(h0:0<=n)(h1:n<100)(m:Mem):kf u 109 [.n n] m=some (.str (fp n.toNat),m):=by refine Cn (p:=xM) (by rfl) ?_;simp[exp,xM,h0,h1]
theorem ajP(k:Int):([3,4]:List Int).contains k=fU k:=by
 by_cases h3:k=3
 ·subst h3;rfl
 ·by_cases h4:k=4
  ·subst h4;rfl
  ·simp[fU,h3,h4]
theorem agI{k:Int}(h:1<=k/\k<=5):([3,4,5]:List Int).contains k=decide (3<=k):=by
 have:k=1\/k=2\/k=3\/k=4\/k=5:=by omega
 rcases this with rfl|rfl|rfl|rfl|rfl<;>rfl
theorem f114(x:η):x.Ok->x.mu->x.cnt<1000000->∀(m:Mem),kf u 114 [x.av] m=some (.str x.text,m):=by
 refine η.kR (Q:=fun x=>x.Ok->x.mu->x.cnt<1000000->∀(m:Mem),kf u 114 [x.av] m=some (.str x.text,m)) (fun k n s c l ih ai ej oI m=>?_) x;have hlen:=η.so _ ej;have eK:∀M:Mem,M.ν=ν:=fun _=>rfl;have Bb:cL (η.ψ l)=η.ψ l:=by rw[fM,η.eM,dc];exact dD fun y _=>η.tm y
 refine eN (g:=F_) rfl rfl rfl ?_;simp only[aA,aP,η.jJ _ _ _ ai,F_,QS];have hid:(m.ε++[θ.cells [.n k,.n n,.str s,.list c (η.ψ l)]])[m.ε.length]?=some (.cells [.n k,.n n,.str s,.list c (η.ψ l)]):=by simp
 have Lp:=fun i iv Nb hi e hl cc ks A7=>f179 (u:=u) (id:=m.ε.length) {ε:=m.ε++[.cells [.n k,.n n,.str s,.list c (η.ψ l)]],ζ:=[]} hid i iv Nb hi e hl cc ks A7;rcases XJ ej with⟨rfl,pR,nf,rfl⟩|⟨rfl,rfl⟩|⟨hk,a,b,rfl⟩
 ·have e:=fun m=>f109 (u:=u) n pR nf m;simp[η.av,η.text,xC,Mem.push,eK,ν,cL,Bb,e,η.ψ]
 ·simp[η.av,η.text,xC,Mem.push,eK,ν,cL,Bb,η.ψ]
 ·have hca:a.cnt<1000000:=by simp only[η.cnt,η.bO]at oI;omega
  have rG:b.cnt<1000000:=by simp only[η.cnt,η.bO]at oI;omega
  have dK:=ih a (by simp) ai.2.1 ej.2.2.1 hca;have gu:=ih b (by simp) ai.2.2.1 ej.2.2.2.1 rG;have la':=η.so _ ej.2.2.1;have lb':=η.so _ ej.2.2.2.1;have e0:=fun cc ks A7=>Lp 0 0 rfl (by simp) dK (by simp;omega) cc ks A7;have e1:=fun cc ks A7=>Lp 1 1 rfl (by simp) gu (by simp;omega) cc ks A7;have Ll:=e0 .nil [] (by simp);have Lm:=fun cc=>e0 cc [3,4] (by simp);have Lr:=fun cc=>e1 cc [3,4] (by simp);have Lq:=fun cc=>e1 cc [3,4,5] (by simp);have xh:1<=b.kind/\b.kind<=5:=by have:=ej.2.2.2.1;obtain⟨kb,nb,sb,cb,lb⟩:=b;rcases XJ this with⟨rfl,_⟩|⟨rfl,_⟩|⟨h,_⟩<;>simp only[η.kind]<;>omega
  simp only[List.getElem_cons_zero,qY,ajP,agI xh,aA,aP,List.contains_nil,Pd]at Ll Lm Lr Lq;have p1:∀q:Bool,(paren q a.text).length<=a.text.length+2:=fun q=>I6 q a.text;have p2:∀q:Bool,(paren q b.text).length<=b.text.length+2:=fun q=>I6 q b.text;simp only[η.text,η.texts,xC,aA,aP]at hlen⊢;generalize a.text=ta at*;generalize b.text=tb at*;generalize a.kind=ka at*;generalize b.kind=kb at*;have p1':=p1 (fU ka);have p2':=p2 (fU kb);have ak6:=p2 (decide (3<=kb));simp only[η.av];generalize η.ψ [a,b]=L at*;rcases hk with rfl|rfl|rfl
  ·simp only[show¬(3:Int)=1 by decide,show¬(3:Int)=2 by decide,show¬(3:Int)=5 by decide,if_false,decide_false,alp,Pd,xJ,if_true];generalize paren (fU kb) tb=xT at*;have a1:cA .add ta [32,43,32]=some (.str (ta++[32,43,32])):=ew (by simp;omega);have a2:cA .add (ta++[32,43,32]) xT=some (.str (ta++[32,43,32]++xT)):=ew (by simp;omega);clear Lp e0 e1 Lm Lq;simp[Mem.push,eK,ν,cL,Bb,Ll,Lr,a1,a2,shaped,AV.one]
  ·simp only[show¬(4:Int)=1 by decide,show¬(4:Int)=2 by decide,show¬(4:Int)=5 by decide,show¬(4:Int)=3 by decide,if_false,decide_false,alp,Pd,xJ,if_true];generalize paren (fU kb) tb=xT at*;have a1:cA .add ta [32,45,32]=some (.str (ta++[32,45,32])):=ew (by simp;omega);have a2:cA .add (ta++[32,45,32]) xT=some (.str (ta++[32,45,32]++xT)):=ew (by simp;omega);simp[Mem.push,eK,ν,cL,Bb,Ll,Lr,a1,a2,shaped,AV.one]
  ·simp only[show¬(5:Int)=1 by decide,show¬(5:Int)=2 by decide,show¬(5:Int)=4 by decide,show¬(5:Int)=3 by decide,if_false,decide_true,tG,xJ,if_true];generalize paren (fU ka) ta=JD at*;generalize paren (decide (3<=kb)) tb=xT at*;have a1:cA .add JD [32,42,32]=some (.str (JD++[32,42,32])):=ew (by simp;omega);have a2:cA .add (JD++[32,42,32]) xT=some (.str (JD++[32,42,32]++xT)):=ew (by simp;omega);simp[Mem.push,eK,ν,cL,Bb,Lm,Lq,a1,a2,shaped,AV.one]
theorem FY(x:η)(ai:x.Ok)(h:vR x)(m:Mem):kf u 114 [.agg x.four] m=some (.str x.text,m):=by have:=f114 (u:=u) x ai h.1 (by have:=h.2;omega) m;rwa[η.iM]at this
theorem ajK(l:List (List Nat)):BK (l.map AV.str)=some l:=by
 induction l with
 |nil=>rfl
 |cons a l ih=>simp[BK,ih]
theorem Vy(l:List (List Nat)):l9 [44,32] l=lG l:=by
 induction l with
 |nil=>rfl
 |cons a l ih=>
  cases l with
  |nil=>rfl
  |cons b l=>simp only[l9,lG,ih]
theorem f174(c:ξ)(l:List (List Nat))(sep:List Nat)(h1:(l9 sep l).length<=1000000)(h2:l.length<=1000000)(m:Mem):kf u 174 [.list c (l.map AV.str),.str sep] m=some (.str (l9 sep l),m):=by
 refine Cn (p:=xN) (by rfl) ?_;have he:∀k,bn m.ε.length k (l.map AV.str)=l.map AV.str:=fun k=>by rw[fQ,dc];exact dD fun _ _=>rfl
 simp only[bG,de,aA,aP,exp,he];cases l with
 |nil=>rfl
 |cons a l=>
  have kr:(l9 sep (a::l)).length<=140737488355328:=by omega
  have lX:(a::l).length<=140737488355328:=by omega
  have hs:=ajK (a::l);simp only[aA]at hs⊢;simp only[xN,hs,kr,lX,and_self,if_true]
theorem f110(c:ξ)(l:List (List Nat))(h1:(lG l).length<=1000000)(h2:l.length<=1000000)(m:Mem):kf u 110 [.list c (l.map AV.str)] m=some (.str (lG l),m):=by
 have e:=fun c m=>f174 (u:=u) c l [44,32] (by rw[Vy];exact h1) h2 m;rw[Vy]at e;refine eN (g:=F7) rfl rfl rfl ?_;have he:∀k,bn m.ε.length k (l.map AV.str)=l.map AV.str:=fun k=>by rw[fQ,dc];exact dD fun _ _=>rfl
 simp only[aA,aP,exp,he,F7,QP];simp[e]
theorem PV(n:Nat)(l:List (List Nat)):EZ false n 1 (l.map AV.str) (l.map AV.str):=EZ.of _ _ fun x _=>⟨Lv.str n x,rfl⟩
theorem PT{B ext:List θ}{c:ξ}{l:List AV}{v:List Nat}{len:Nat}(h:ox B.length (B++ext) 1 9 c len)(hlen:l.length=len)(hl:l.all (shaped false 1)=true)(hb:len<=1000000):
  ∃c' ext',(∀T,gA {ε:=B++ext,ζ:=T} false 1 16 9 (.list c l) (.list .full [.str v])=some (.list c' (l++[.str v]),{ε:=B++ext',ζ:=T}))/\ox B.length (B++ext') 1 9 c' (len+1)∧
   ∀c2 k2,ox B.length (B++ext) 1 9 c2 k2->(c2= .nil\/c2≠c)->ox B.length (B++ext') 1 9 c2 k2/\(c'= .nil\/c'≠c2):=by
 subst hlen;have hv:shaped false 1 (.str v)=true:=rfl;rcases h.r with⟨hc,h0⟩|⟨t,rfl,h1,h2⟩
 ·have mD:=h.n h0;subst mD;have:l=[]:=nB h0;subst this;refine⟨.own (B.length+ext.length),ext++[.front 1 1 9],fun T=>?_,⟨.inr ⟨_,rfl,by omega,?_⟩,by simp⟩,fun c2 k2 hr _=>?_⟩
  ·simp[gA,hv,Mem.push,Mem.ν,ν]
  ·rw[<-bH];have:B.length+ext.length=(B++ext).length:=by simp
   rw[this];simp
  ·rcases hr.r with⟨h1,h3⟩|⟨t,rfl,h1,h2⟩
   ·have:=hr.n h3;subst this;exact⟨⟨.inl ⟨.inl rfl,h3⟩,fun _=>rfl⟩,.inr (by simp)⟩
   ·have ht:t<(B++ext).length:=sJ h2;refine⟨⟨.inr ⟨t,rfl,h1,?_⟩,hr.n⟩,.inr ?_⟩
    ·rw[<-bH,List.getElem?_append_left ht];exact h2
    ·simp at ht;simp;omega
 ·have ht:t<(B++ext).length:=sJ h2;have lO:(B++ext).set t (.front (l.length+1) 1 9)=B++ext.set (t-B.length) (.front (l.length+1) 1 9):=by rw[List.set_append,if_neg (by omega)]
  have dt:(l.length+1)*16<=140737488355328:=by omega
  have dy:l.length+1<=140737488355328:=by omega
  refine⟨.own t,ext.set (t-B.length) (.front (l.length+1) 1 9),fun T=>?_,⟨.inr ⟨t,rfl,h1,?_⟩,by simp⟩,fun c2 k2 hr τ=>?_⟩
  ·simp only[gA];simp only[List.all_cons,hv,List.all_nil,Bool.and_self,hl,show 0<1 by decide,decide_true,cE,eI,Nat.zero_add,dt,dy,h2,tG,if_true,and_self,aA,aP,Mem.ν,ν,Mem.put,lO]
  ·rw[<-lO,List.getElem?_set_self ht]
  ·rcases hr.r with⟨h3,h4⟩|⟨t',rfl,h3,h4⟩
   ·have:=hr.n h4;subst this;exact⟨⟨.inl ⟨.inl rfl,h4⟩,fun _=>rfl⟩,.inr (by simp)⟩
   ·have mH:t≠t':=by
     rintro rfl
     rcases τ with h|h
     ·cases h
     ·exact h rfl
    refine⟨⟨.inr ⟨t',rfl,h3,?_⟩,hr.n⟩,.inr (by simpa using mH)⟩;rw[<-lO,List.getElem?_set_ne mH];exact h4
theorem f172(c:ξ)(hc:br c)(pl:List ρ)(dQ:∀p∈pl,p.Ok)(h:Eg pl)(m:Mem):kf u 172 [.list c (pl.map ρ.av)] m=some (.str (nq pl),m):=by
 refine eN (g:=Gk) rfl rfl rfl ?_;simp only[aA,aP,WW hc dQ,Gk,QY];have h4:=h.1;have eK:∀M:Mem,M.ν=ν:=fun _=>rfl;let n:=m.ε.length;let MM:List θ->St->Prop:=fun ext st=>st.mem= {ε:=m.ε++ext,ζ:=[]};refine Θ (fun st=>st.e 0= .list c (pl.map ρ.av)/\MM [] st) (by simp[MM]) fun s1 ⟨h1,h2⟩=>?_;simp only[MM]at h2;refine Θ (fun st=>st.e 0= .list c (pl.map ρ.av)/\MM [] st/\st.e 3= .list .nil []) (by simp[MM,h1,h2]) fun s1 ⟨h1,h2,h3⟩=>?_;simp only[MM]at h2;refine bP (fun st=>∃ext cp,MM ext st/\st.e 3= .list cp ((pl.map ρ.text).map AV.str)) ?_ fun s2 ⟨ext,cp,h2,h3⟩=>?_
 ·let J:Nat->St->Prop:=fun i st=>st.e 10= .list c (pl.map ρ.av)/\st.e 11= .n pl.length/\st.e 12= .n i;let I:Nat->St->Prop:=fun i st=>J i st/\∃ext cp,MM ext st/\st.e 3= .list cp (((pl.take i).map ρ.text).map AV.str)/\ox n (m.ε++ext) 1 9 cp i;refine Θ (fun st=>J 0 st/\MM [] st/\st.e 3= .list .nil []) (by simp[J,MM,h1,h2,h3]) fun s4 ⟨a1,a2,a3⟩=>?_;refine κ.block (κ.upto (I:=I) pl.length ⟨a1,[],.nil,a2,a3,ox.nil⟩ (fun i st χ Ω=>?_) (fun st Ω=>?_))
  ·obtain⟨⟨q1,q2,q3⟩,ext,cp,h2,h3,r⟩:=Ω;simp only[MM]at h2;have kP:bC .i64 ((i:Int)+1)=(i:Int)+1:=wrap_i64 (by omega) (by omega);have hm:pl[i]∈pl:=df χ;have H6:=dQ _ hm;obtain⟨zb,lN,gO⟩:=h.2 _ hm;have lP:((pl.take (i+1)).map ρ.text).map AV.str=((pl.take i).map ρ.text).map AV.str++[.str pl[i].text]:=by rw[uY χ,jT,jT];rfl
   have mC:(((pl.take i).map ρ.text).map AV.str).length=i:=by rw[cF,cF,kE];omega
   have hs:=(PV n ((pl.take i).map ρ.text)).s;generalize((pl.take i).map ρ.text).map AV.str=L at*;have zg:pl[i].text=if pl[i].ix=[]then pl[i].name else pl[i].name++([91]++l9 [32,58,32] (pl[i].ix.map η.text)++[93]):=by
    generalize pl[i]=p at lN⊢;obtain⟨nm,cc,ix⟩:=p;simp only at lN⊢
    match ix,lN with
    |[],_=>rfl
    |[a],_=>simp[ρ.text,l9]
    |[a,b],_=>simp[ρ.text,l9]
    |_::_::_::_,h=>simp at h
   have qy:(l9 [32,58,32] (pl[i].ix.map η.text)).length<=300:=by
    generalize pl[i]=p at lN gO⊢;obtain⟨nm,cc,ix⟩:=p;simp only at lN gO⊢
    match ix,lN,gO with
    |[],_,_=>simp[l9]
    |[a],_,gO=>have:=rW (gO a (by simp));simp[l9];omega
    |[a,b],_,gO=>have:=rW (gO a (by simp));have:=rW (gO b (by simp));simp[l9];omega
    |_::_::_::_,h,_=>simp at h
   have Sx:=fun c m=>f174 (u:=u) c (pl[i].ix.map η.text) [32,58,32] (by omega) (by rw[cF];omega) m;refine Θ (fun st=>J i st/\MM ext st/\st.e 3= .list cp L/\st.e 13= .bool true) (by simp[J,MM,h2,h3,q1,q2,q3,χ]) fun s5 ⟨⟨q1,q2,q3⟩,h2,h3,q4⟩=>?_;simp only[MM]at h2;refine Θ (fun st=>J i st/\MM ext st/\st.e 3= .list cp L) (by simp[J,MM,h2,h3,q1,q2,q3,q4]) fun s5 ⟨⟨q1,q2,q3⟩,h2,h3⟩=>?_;simp only[MM]at h2;refine bP (fun st=>J i st/\∃sH sE,MM sH st/\st.e 3= .list sE (L++[.str pl[i].text])/\ox n (m.ε++sH) 1 9 sE (i+1)) ?_ fun s6 ⟨⟨q1,q2,q3⟩,sH,sE,h2,h3,r2⟩=>by simp only[MM]at h2;exact κ.fin (M:=fun st=>J (i+1) st/\MM sH st/\st.e 3= .list sE (L++[.str pl[i].text])) .normal (by simp[J,MM,h2,h3,q1,q2,q3,kP]) fun s' ⟨d1,d2,d3⟩=> .inl ⟨rfl,d1,sH,sE,d2,by rw[lP];exact d3,r2⟩
   refine κ.block ?_;let J2:St->Prop:=fun st=>J i st/\st.e 3= .list cp L/\∃v,st.e 5= .aj 5 v 0/\st.q 5=some (v,.cells [.str pl[i].name,.list pl[i].c (η.ψ pl[i].ix)]);refine Θ (fun st=>J2 st/\MM ext st) (by simp[J2,J,MM,h2,h3,q1,q2,q3,χ,ρ.av,η.eM]) fun s5 ⟨⟨⟨q1,q2,q3⟩,h3,v,q4,q5⟩,h2⟩=>?_;simp only[MM]at h2;refine Θ (fun st=>J2 st/\MM ext st/\st.e 6= .list .nil []) (by simp[J2,J,MM,h2,h3,q1,q2,q3,q4,q5]) fun s5 ⟨⟨⟨q1,q2,q3⟩,h3,v,q4,q5⟩,h2,q6⟩=>?_;simp only[MM]at h2;refine bP (fun st=>J2 st/\∃x2 cq,MM x2 st/\st.e 6= .list cq ((pl[i].ix.map η.text).map AV.str)/\ox n (m.ε++x2) 1 9 cp i) ?_ fun s6 ⟨⟨⟨q1,q2,q3⟩,h3,v,q4,q5⟩,x2,cq,h2,q6,r⟩=>?_
   ·let JX:St->Prop:=fun st=>J2 st/\st.e 17= .list pl[i].c (η.ψ pl[i].ix)/\st.e 18= .n pl[i].ix.length;let I2:Nat->St->Prop:=fun q st=>JX st/\st.e 19= .n q/\∃x2 cq,MM x2 st/\st.e 6= .list cq (((pl[i].ix.take q).map η.text).map AV.str)/\ox n (m.ε++x2) 1 9 cq q/\ox n (m.ε++x2) 1 9 cp i/\(cq= .nil\/cq≠cp);refine Θ (fun st=>JX st/\st.e 19= .n 0/\MM ext st/\st.e 6= .list .nil []) (by simp[JX,J2,J,MM,h2,h3,q1,q2,q3,q4,q5,q6,ri]) fun s6 ⟨a1,a2,a3,a4⟩=>?_;refine κ.block (κ.upto (I:=I2) pl[i].ix.length ⟨a1,a2,ext,.nil,a3,a4,ox.nil,r,.inl rfl⟩ (fun q st eW Ω=>?_) (fun st Ω=>?_))
    ·obtain⟨⟨⟨⟨q1,q2,q3⟩,h3,v,q4,q5⟩,z1,z2⟩,z3,x2,cq,h2,z4,r4,r,τ⟩:=Ω;simp only[MM]at h2;have DO:bC .i64 ((q:Int)+1)=(q:Int)+1:=wrap_i64 (by omega) (by omega);have Vo:pl[i].ix[q]∈pl[i].ix:=df eW;have aaE:=fun m=>FY (u:=u) pl[i].ix[q] (H6.2.2 _ Vo).1 (gO _ Vo) m;have Vn:=Fg pl[i].ix q eW;have ng:((pl[i].ix.take (q+1)).map η.text).map AV.str=((pl[i].ix.take q).map η.text).map AV.str++[.str (pl[i].ix[q]).text]:=by rw[uY eW,jT,jT];rfl
     have Mq:(((pl[i].ix.take q).map η.text).map AV.str).length=q:=by rw[cF,cF,kE];omega
     have NQ:=(PV n ((pl[i].ix.take q).map η.text)).s;generalize((pl[i].ix.take q).map η.text).map AV.str=LQ at*;obtain⟨Se,x3,b1,b2,b3⟩:=PT (v:=(pl[i].ix[q]).text) r4 Mq NQ (by omega);obtain⟨b4,b5⟩:=b3 cp i r (by
      rcases τ with h|h
      ·rcases r.r with⟨h5|h5,h6⟩|⟨t,h5,_⟩
       ·exact .inl h5
       ·exact .inl (r.n h6)
       ·exact .inr (by rw[h5,h];simp)
      ·exact .inr (Ne.symm h))
     have Hp:=η.fR pl[i].ix[q];have qF:(pl[i].ix[q]).four.take 4=(pl[i].ix[q]).four:=List.take_of_length_le (by omega);rw[η.iM]at Vn;refine κ.fin (M:=fun st=>JX st/\st.e 19= .n ((q:Int)+1)/\MM x3 st/\st.e 6= .list Se (LQ++[.str (pl[i].ix[q]).text])) .normal (by simp[Ot,JX,J2,J,MM,h2,h3,q1,q2,q3,q4,q5,z1,z2,z3,z4,eW,ri,Vn,Hp,qF,aaE,shaped,AV.one,eK,ν,b1,DO]) fun s' ⟨d1,d2,d3,d4⟩=> .inl ⟨rfl,d1,d2,x3,Se,d3,by rw[ng];exact d4,b2,b4,b5⟩
    ·obtain⟨⟨⟨⟨q1,q2,q3⟩,h3,v,q4,q5⟩,z1,z2⟩,z3,x2,cq,h2,z4,r4,r,τ⟩:=Ω;simp only[MM]at h2;rw[po]at z4;refine κ.fin (M:=fun st=>J2 st/\MM x2 st/\st.e 6= .list cq ((pl[i].ix.map η.text).map AV.str)) (.exit 2) (by simp[Ot,J2,J,MM,h2,h3,q1,q2,q3,q4,q5,z1,z2,z3,z4]) fun s' ⟨d1,d2,d3⟩=>?_;exact⟨by simp,.inl ⟨rfl,.inl ⟨rfl,d1,x2,cq,d2,d3,r⟩⟩⟩
   ·simp only[MM]at h2;obtain⟨dX,x3,b1,b2,-⟩:=PT (v:=pl[i].text) r mC hs (by omega);refine κ.fin (M:=fun st=>J i st/\MM x3 st/\st.e 3= .list dX (L++[.str pl[i].text])) .normal (by
     by_cases h0:pl[i].ix=[]
     ·rw[if_pos h0]at zg;rw[zg]at b1;rw[zg];simp only[h0,aP]at q6;simp[J,MM,h2,h3,q1,q2,q3,q4,q5,q6,shaped,AV.one,eK,ν,b1]
     ·rw[if_neg h0]at zg;have xk:(0:Int)<(pl[i].ix.length:Int):=by have:=mR.2 h0;omega
      have acg:0<pl[i].ix.length:=mR.2 h0;have yU:(pl[i].ix.map η.text).map AV.str=pl[i].ix.map (AV.str∘η.text):=by rw[dc]
      rw[yU]at q6 Sx;generalize l9 [32,58,32] (pl[i].ix.map η.text)=tj at*;have a1:cA .add [91] tj=some (.str ([91]++tj)):=ew (by simp;omega);have a2:cA .add ([91]++tj) [93]=some (.str ([91]++tj++[93])):=ew (by simp;omega);have a3:cA .add pl[i].name ([91]++tj++[93])=some (.str (pl[i].name++([91]++tj++[93]))):=ew (by simp;omega);simp only[cy,bG]at a1 a2 a3 zg;rw[zg]at b1;rw[zg];simp[J,MM,h2,h3,q1,q2,q3,q4,q5,q6,xk,acg,Sx,a1,a2,a3,shaped,AV.one,eK,ν,b1]) fun s' ⟨d1,d2,d3⟩=>?_
    simp;exact⟨d1,x3,d2,dX,d3,b2⟩
  ·obtain⟨⟨q1,q2,q3⟩,ext,cp,h2,h3,r⟩:=Ω;simp only[MM]at h2;rw[po]at h3;refine κ.fin (M:=fun st=>MM ext st/\st.e 3= .list cp ((pl.map ρ.text).map AV.str)) (.exit 0) (by simp[VK,MM,h2,h3,q1,q2,q3]) fun s' ⟨d1,d2⟩=>?_;exact⟨by simp,.inl ⟨rfl,.inl ⟨rfl,ext,cp,d1,d2⟩⟩⟩
 ·simp only[MM]at h2;have hl:=v8 h;have e:=fun c m=>f110 (u:=u) c (pl.map ρ.text) (by have:(lG (pl.map ρ.text)).length<=1008:=hl;omega) (by rw[cF];omega) m;simp only[nq,dc]at e⊢;rw[dc]at h3;simp[h2,h3,e,qn]
theorem f171{id:Nat}(x:δ)(m:Mem)(hid:m.ε[id]?=some (.cells x.cells))(ai:x.size.Ok)(hs:vR x.size)(hn:x.name.length<=8):
  ah (C u) (.fn (.func 171) [] [.μ id 0]) [] m=some (.str (x.name++[91]++x.size.text++[93]),m):=by
 have χ:=sJ hid;refine sD (g:=Gj) rfl rfl rfl ?_;simp only[bG,cy,aA,aP,exp,χ,if_true,Gj,c171];have e:=fun m=>FY (u:=u) x.size ai hs m;have hl:=rW hs;have k2:=oz x;have k4:=qi x;have kl:=δ.mw x;generalize x.size.text=t at*;have a1:cA .add x.name [91]=some (.str (x.name++[91])):=ew (by simp;omega);have a2:cA .add (x.name++[91]) t=some (.str (x.name++[91]++t)):=ew (by simp;omega);have a3:cA .add (x.name++[91]++t) [93]=some (.str (x.name++[91]++t++[93])):=ew (by simp;omega);simp only[bH,cy,bG]at a1 a2 a3;simp[hid,k2,k4,kl,e,cZ,c8,eZ,AV.gS,AV.beq,a1,a2,a3]
theorem abm{g:Int}(h:1<=g/\g<=12):∃w,(fq.map AV.str)[(g-1).toNat]?=some (.str w)/\fq.getD (g-1).toNat []=w/\w.length<=4:=by
 obtain⟨k,hk⟩:∃k:Nat,(g-1).toNat=k:=⟨_,rfl⟩;rw[hk];have dh:k<12:=by omega
 match k,dh with
 |0,_|1,_|2,_|3,_|4,_|5,_|6,_|7,_|8,_|9,_|10,_|11,_=>exact⟨_,rfl,rfl,by decide⟩
section
variable{B:List θ}{x:δ}{s1:St}
variable(h1:s1.e 1= .μ B.length 0)(h2:s1.e 3= .fn (.func 171) [] [.μ B.length 0])(h3:s1.mem= {ε:=B++[.cells x.cells],ζ:=[]})(hb:(B++[.cells x.cells])[B.length]?=some (.cells x.cells))
 (oB:vR x.size->x.name.length<=8->∀T,ah (C u) (.fn (.func 171) [] [.μ B.length 0]) [] {ε:=B++[.cells x.cells],ζ:=T}=some (.str (x.name++[91]++x.size.text++[93]),{ε:=B++[.cells x.cells],ζ:=T}))
 (mX:Eg x.pl->∀m,kf u 172 [.list x.cp (x.pl.map ρ.av)] m=some (.str (nq x.pl),m))
 (es:vR x.size->∀m,kf u 114 [.agg x.size.four] m=some (.str x.size.text,m))
 (et:vR x.to->∀m,kf u 114 [.agg x.to.four] m=some (.str x.to.text,m))
 (hR:AZ x.kind x.gate x.name x.pl x.size x.to)
 (k0:x.cells.take 1=[.n x.kind]) (k1:x.cells.tail.take 1=[.n x.gate]) (k2:(x.cells.drop 2).take 1=[.str x.name]) (k3:(x.cells.drop 3).take 1=[.list x.cp (x.pl.map ρ.av)]) (k4:(x.cells.drop 4).take 4=x.size.four) (k8:(x.cells.drop 8).take 4=x.to.four) (kl:x.cells.length=14)
include h1 h2 h3 hb oB mX es et hR k0 k1 k2 k3 k4 k8 kl
theorem ai1(hk:x.kind=1):κ (C u).gl (ah (C u)) c107.snd.snd s1 (End jd B (.str (cg x.kind x.gate x.name x.pl x.size x.to))):=by
 obtain⟨oP,hg,hn,hp,hz,ht⟩:=hR;obtain⟨v,hv⟩:∃v,v=cg x.kind x.gate x.name x.pl x.size x.to:=⟨_,rfl⟩;rw[<-hv];simp only[cg]at hv;rw[hk]at k0;have e1:=mX (hp (by omega));have l1:=v8 (hp (by omega));obtain⟨gw,w1,w2,w3⟩:=abm (hg hk);have HJ:=hg hk;have DP:bC .i64 (x.gate-1)=x.gate-1:=wrap_i64 (by omega) (by omega);have Ur:0<=x.gate-1/\x.gate-1<12:=by omega
 have eE:(fq.map AV.str).length=12:=rfl;have hgc:(C u).gl 0= .ref [.list .any (fq.map AV.str)]:=AR;rw[w2]at hv;generalize fq.map AV.str=GW at*;generalize nq x.pl=tp at*;have a1:cA .add (gw) ([32])=some (.str (gw++([32]))):=ew (by simp;omega);have a2:cA .add (gw++([32])) (tp)=some (.str (gw++([32])++(tp))):=ew (by simp;omega);simp only[bH,cy,bG]at a1 a2;have hi:(x.gate-1).toNat<GW.length:=by rw[eE];omega
 have w1':GW[(x.gate-1).toNat]= .str gw:=by rw[dN hi]at w1;simpa using w1
 have Vi:(x.gate-1).toNat=x.gate.toNat-1:=by omega
 have vH:1<=x.gate:=HJ.1;have zd:x.gate-1<12:=by omega
 have jg:x.gate.toNat-1<GW.length:=by omega
 have w12:GW[x.gate.toNat-1]= .str gw:=by rw[Vi,dN jg]at w1;simpa using w1
 have MZ:x.gate.toNat-1<12:=by omega
 simp[hk]at hv;subst hv;simp[c107,AC.snd,End,jd,h1,h2,h3,hb,kl,k0,cZ,c8,eZ,AV.gS,AV.beq,AV.kH,k1,k3,e1,hgc,eE,DP,vH,zd,MZ,w12,a1,a2]
theorem ai4(hk:x.kind=2):κ (C u).gl (ah (C u)) c107.snd.snd s1 (End jd B (.str (cg x.kind x.gate x.name x.pl x.size x.to))):=by obtain⟨oP,hg,hn,hp,hz,ht⟩:=hR;obtain⟨v,hv⟩:∃v,v=cg x.kind x.gate x.name x.pl x.size x.to:=⟨_,rfl⟩;rw[<-hv];simp only[cg]at hv;rw[hk]at k0;have e1:=oB (hz (by omega)) (hn (by omega));have l1:=rW (hz (by omega));have l2:=hn (by omega);generalize x.size.text=ts at*;have a1:cA .add ([116,97,107,101,32]) (x.name++[91]++ts++[93])=some (.str ([116,97,107,101,32]++(x.name++[91]++ts++[93]))):=ew (by simp;omega);simp only[bH,cy,bG]at a1;simp only[bH,cy,bG]at e1;simp[hk]at hv;subst hv;simp[c107,AC.snd,End,jd,h1,h2,h3,hb,kl,k0,cZ,c8,eZ,AV.gS,AV.beq,AV.kH,e1,a1]
theorem ai6(hk:x.kind=4):κ (C u).gl (ah (C u)) c107.snd.snd s1 (End jd B (.str (cg x.kind x.gate x.name x.pl x.size x.to))):=by obtain⟨oP,hg,hn,hp,hz,ht⟩:=hR;obtain⟨v,hv⟩:∃v,v=cg x.kind x.gate x.name x.pl x.size x.to:=⟨_,rfl⟩;rw[<-hv];simp only[cg]at hv;rw[hk]at k0;have e1:=oB (hz (by omega)) (hn (by omega));have l1:=rW (hz (by omega));have l2:=hn (by omega);generalize x.size.text=ts at*;have a1:cA .add ([98,111,114,114,111,119,32]) (x.name++[91]++ts++[93])=some (.str ([98,111,114,114,111,119,32]++(x.name++[91]++ts++[93]))):=ew (by simp;omega);simp only[bH,cy,bG]at a1;simp only[bH,cy,bG]at e1;simp[hk]at hv;subst hv;simp[c107,AC.snd,End,jd,h1,h2,h3,hb,kl,k0,cZ,c8,eZ,AV.gS,AV.beq,AV.kH,e1,a1]
theorem ai5(hk:x.kind=3):κ (C u).gl (ah (C u)) c107.snd.snd s1 (End jd B (.str (cg x.kind x.gate x.name x.pl x.size x.to))):=by obtain⟨oP,hg,hn,hp,hz,ht⟩:=hR;obtain⟨v,hv⟩:∃v,v=cg x.kind x.gate x.name x.pl x.size x.to:=⟨_,rfl⟩;rw[<-hv];simp only[cg]at hv;rw[hk]at k0;have l2:=hn (by omega);have a1:cA .add ([100,114,111,112,32]) (x.name)=some (.str ([100,114,111,112,32]++(x.name))):=ew (by simp;omega);simp only[bH,cy,bG]at a1;simp[hk]at hv;subst hv;simp[c107,AC.snd,End,jd,h1,h2,h3,hb,kl,k0,cZ,c8,eZ,AV.gS,AV.beq,AV.kH,k2,a1]
theorem ai7(hk:x.kind=5):κ (C u).gl (ah (C u)) c107.snd.snd s1 (End jd B (.str (cg x.kind x.gate x.name x.pl x.size x.to))):=by obtain⟨oP,hg,hn,hp,hz,ht⟩:=hR;obtain⟨v,hv⟩:∃v,v=cg x.kind x.gate x.name x.pl x.size x.to:=⟨_,rfl⟩;rw[<-hv];simp only[cg]at hv;rw[hk]at k0;have l2:=hn (by omega);have e1:=mX (hp (by omega));have l1:=v8 (hp (by omega));generalize nq x.pl=tp at*;have a1:cA .add ([109,101,97,115,117,114,101,32]) (tp)=some (.str ([109,101,97,115,117,114,101,32]++(tp))):=ew (by simp;omega);have a2:cA .add ([109,101,97,115,117,114,101,32]++(tp)) ([32,58,32])=some (.str ([109,101,97,115,117,114,101,32]++(tp)++([32,58,32]))):=ew (by simp;omega);have a3:cA .add ([109,101,97,115,117,114,101,32]++(tp)++([32,58,32])) (x.name)=some (.str ([109,101,97,115,117,114,101,32]++(tp)++([32,58,32])++(x.name))):=ew (by simp;omega);simp only[bH,cy,bG]at a1 a2 a3;simp[hk]at hv;subst hv;simp[c107,AC.snd,End,jd,h1,h2,h3,hb,kl,k0,cZ,c8,eZ,AV.gS,AV.beq,AV.kH,k2,k3,e1,a1,a2,a3]
theorem ai8(hk:x.kind=6):κ (C u).gl (ah (C u)) c107.snd.snd s1 (End jd B (.str (cg x.kind x.gate x.name x.pl x.size x.to))):=by obtain⟨oP,hg,hn,hp,hz,ht⟩:=hR;obtain⟨v,hv⟩:∃v,v=cg x.kind x.gate x.name x.pl x.size x.to:=⟨_,rfl⟩;rw[<-hv];simp only[cg]at hv;rw[hk]at k0;have e1:=mX (hp (by omega));have l1:=v8 (hp (by omega));generalize nq x.pl=tp at*;have a1:cA .add ([114,101,115,101,116,32]) (tp)=some (.str ([114,101,115,101,116,32]++(tp))):=ew (by simp;omega);simp only[bH,cy,bG]at a1;simp[hk]at hv;subst hv;simp[c107,AC.snd,End,jd,h1,h2,h3,hb,kl,k0,cZ,c8,eZ,AV.gS,AV.beq,AV.kH,k3,e1,a1]
theorem ai9(hk:x.kind=7):κ (C u).gl (ah (C u)) c107.snd.snd s1 (End jd B (.str (cg x.kind x.gate x.name x.pl x.size x.to))):=by obtain⟨oP,hg,hn,hp,hz,ht⟩:=hR;obtain⟨v,hv⟩:∃v,v=cg x.kind x.gate x.name x.pl x.size x.to:=⟨_,rfl⟩;rw[<-hv];simp only[cg]at hv;rw[hk]at k0;have l2:=hn (by omega);have a1:cA .add ([105,102,32]) (x.name)=some (.str ([105,102,32]++(x.name))):=ew (by simp;omega);simp only[bH,cy,bG]at a1;simp[hk]at hv;subst hv;simp[c107,AC.snd,End,jd,h1,h2,h3,hb,kl,k0,cZ,c8,eZ,AV.gS,AV.beq,AV.kH,k2,a1]
theorem ai_(hk:x.kind=8):κ (C u).gl (ah (C u)) c107.snd.snd s1 (End jd B (.str (cg x.kind x.gate x.name x.pl x.size x.to))):=by obtain⟨oP,hg,hn,hp,hz,ht⟩:=hR;obtain⟨v,hv⟩:∃v,v=cg x.kind x.gate x.name x.pl x.size x.to:=⟨_,rfl⟩;rw[<-hv];simp only[cg]at hv;rw[hk]at k0;have l2:=hn (by omega);have e1:=es (hz (by omega));have l1:=rW (hz (by omega));have e2:=et (ht (by omega));have l3:=rW (ht (by omega));generalize x.size.text=ts at*;generalize x.to.text=tt at*;have a1:cA .add ([102,111,114,32]) (x.name)=some (.str ([102,111,114,32]++(x.name))):=ew (by simp;omega);have a2:cA .add ([102,111,114,32]++(x.name)) ([32,61,32])=some (.str ([102,111,114,32]++(x.name)++([32,61,32]))):=ew (by simp;omega);have a3:cA .add ([102,111,114,32]++(x.name)++([32,61,32])) (ts)=some (.str ([102,111,114,32]++(x.name)++([32,61,32])++(ts))):=ew (by simp;omega);have a4:cA .add ([102,111,114,32]++(x.name)++([32,61,32])++(ts)) ([32,58,32])=some (.str ([102,111,114,32]++(x.name)++([32,61,32])++(ts)++([32,58,32]))):=ew (by simp;omega);have a5:cA .add ([102,111,114,32]++(x.name)++([32,61,32])++(ts)++([32,58,32])) (tt)=some (.str ([102,111,114,32]++(x.name)++([32,61,32])++(ts)++([32,58,32])++(tt))):=ew (by simp;omega);simp only[bH,cy,bG]at a1 a2 a3 a4 a5;simp[hk]at hv;subst hv;simp[c107,AC.snd,End,jd,h1,h2,h3,hb,kl,k0,cZ,c8,eZ,AV.gS,AV.beq,AV.kH,k2,k4,k8,e1,e2,a1,a2,a3,a4,a5]
theorem ai'(hk:x.kind=9):κ (C u).gl (ah (C u)) c107.snd.snd s1 (End jd B (.str (cg x.kind x.gate x.name x.pl x.size x.to))):=by obtain⟨oP,hg,hn,hp,hz,ht⟩:=hR;obtain⟨v,hv⟩:∃v,v=cg x.kind x.gate x.name x.pl x.size x.to:=⟨_,rfl⟩;rw[<-hv];simp only[cg]at hv;rw[hk]at k0;have l2:=hn (by omega);have e1:=mX (hp (by omega));have l1:=v8 (hp (by omega));generalize nq x.pl=tp at*;have a1:cA .add (x.name) ([40])=some (.str (x.name++([40]))):=ew (by simp;omega);have a2:cA .add (x.name++([40])) (tp)=some (.str (x.name++([40])++(tp))):=ew (by simp;omega);have a3:cA .add (x.name++([40])++(tp)) ([41])=some (.str (x.name++([40])++(tp)++([41]))):=ew (by simp;omega);simp only[bH,cy,bG]at a1 a2 a3;simp[hk]at hv;subst hv;simp[c107,AC.snd,End,jd,h1,h2,h3,hb,kl,k0,cZ,c8,eZ,AV.gS,AV.beq,AV.kH,k2,k3,e1,a1,a2,a3]
theorem ai2(hk:x.kind=10):κ (C u).gl (ah (C u)) c107.snd.snd s1 (End jd B (.str (cg x.kind x.gate x.name x.pl x.size x.to))):=by obtain⟨oP,hg,hn,hp,hz,ht⟩:=hR;obtain⟨v,hv⟩:∃v,v=cg x.kind x.gate x.name x.pl x.size x.to:=⟨_,rfl⟩;rw[<-hv];simp only[cg]at hv;rw[hk]at k0;simp[hk]at hv;subst hv;simp[c107,AC.snd,End,jd,h1,h2,h3,hb,kl,k0,cZ,c8,eZ,AV.gS,AV.beq,AV.kH]
theorem ai3(hk:x.kind=11):κ (C u).gl (ah (C u)) c107.snd.snd s1 (End jd B (.str (cg x.kind x.gate x.name x.pl x.size x.to))):=by obtain⟨oP,hg,hn,hp,hz,ht⟩:=hR;obtain⟨v,hv⟩:∃v,v=cg x.kind x.gate x.name x.pl x.size x.to:=⟨_,rfl⟩;rw[<-hv];simp only[cg]at hv;rw[hk]at k0;simp[hk]at hv;subst hv;simp[c107,AC.snd,End,jd,h1,h2,h3,hb,kl,k0,cZ,c8,eZ,AV.gS,AV.beq,AV.kH]
end
theorem f107(x:δ)(hx:x.Ok)(hR:AZ x.kind x.gate x.name x.pl x.size x.to)(m:Mem):kf u 107 [x.av] m=some (.str (cg x.kind x.gate x.name x.pl x.size x.to),m):=by
 have eK:∀M:Mem,M.ν=ν:=fun _=>rfl;obtain⟨o1,o2,o3,o4⟩:=akv hx;have kl:=δ.mw x;have yZ:x.cells.map ν=x.cells:=by rw[<-fM,δ.zx]
 refine eN (g:=jd) rfl rfl rfl ?_;simp only[aA,aP,δ.jJ _ _ _ hx,jd,c107];refine Θ (fun st=>st.e 1= .μ m.ε.length 0/\st.mem= {ε:=m.ε++[.cells x.cells],ζ:=[]}) (by simp[δ.av,kl,Mem.push,eK,yZ]) fun s1 ⟨h1,h3⟩=>?_;refine Θ (fun st=>st.e 1= .μ m.ε.length 0/\st.e 3= .fn (.func 171) [] [.μ m.ε.length 0]/\st.mem= {ε:=m.ε++[.cells x.cells],ζ:=[]}) (by simp[h1,h3]) fun s1 ⟨h1,h2,h3⟩=>?_;show κ (C u).gl (ah (C u)) c107.snd.snd s1 (End jd m.ε (.str (cg x.kind x.gate x.name x.pl x.size x.to)));have hb:(m.ε++[θ.cells x.cells])[m.ε.length]?=some (.cells x.cells):=by simp
 have oB:=fun hs hn T=>f171 (u:=u) (id:=m.ε.length) x {ε:=m.ε++[.cells x.cells],ζ:=T} hb o1 hs hn;have mX:=fun h m=>f172 (u:=u) x.cp o3 x.pl o4 h m;have es:=fun h m=>FY (u:=u) x.size o1 h m;have et:=fun h m=>FY (u:=u) x.to o2 h m;have oP:=hR.1;have fb:x.kind=1\/x.kind=2\/x.kind=3\/x.kind=4\/x.kind=5\/x.kind=6\/x.kind=7\/x.kind=8\/x.kind=9\/x.kind=10\/x.kind=11:=by omega
 rcases fb with hk|hk|hk|hk|hk|hk|hk|hk|hk|hk|hk
 ·exact ai1 h1 h2 h3 hb oB mX es et hR (cell0 x) (rk x) (oz x) (rm x) (qi x) (rn x) kl hk
 ·exact ai4 h1 h2 h3 hb oB mX es et hR (cell0 x) (rk x) (oz x) (rm x) (qi x) (rn x) kl hk
 ·exact ai5 h1 h2 h3 hb oB mX es et hR (cell0 x) (rk x) (oz x) (rm x) (qi x) (rn x) kl hk
 ·exact ai6 h1 h2 h3 hb oB mX es et hR (cell0 x) (rk x) (oz x) (rm x) (qi x) (rn x) kl hk
 ·exact ai7 h1 h2 h3 hb oB mX es et hR (cell0 x) (rk x) (oz x) (rm x) (qi x) (rn x) kl hk
 ·exact ai8 h1 h2 h3 hb oB mX es et hR (cell0 x) (rk x) (oz x) (rm x) (qi x) (rn x) kl hk
 ·exact ai9 h1 h2 h3 hb oB mX es et hR (cell0 x) (rk x) (oz x) (rm x) (qi x) (rn x) kl hk
 ·exact ai_ h1 h2 h3 hb oB mX es et hR (cell0 x) (rk x) (oz x) (rm x) (qi x) (rn x) kl hk
 ·exact ai' h1 h2 h3 hb oB mX es et hR (cell0 x) (rk x) (oz x) (rm x) (qi x) (rn x) kl hk
 ·exact ai2 h1 h2 h3 hb oB mX es et hR (cell0 x) (rk x) (oz x) (rm x) (qi x) (rn x) kl hk
 ·exact ai3 h1 h2 h3 hb oB mX es et hR (cell0 x) (rk x) (oz x) (rm x) (qi x) (rn x) kl hk
def pM(B:List θ)(s:List Nat):List θ:=B++[.nH 150 5 s,.cells [.fn (.func 105) [] [.μ B.length 0,.μ (B.length+1) 0]]]
theorem Ee(B:List θ)(s:List Nat):(pM B s).length=B.length+2:=by simp[pM]
theorem WN(B:List θ)(s:List Nat)(ext:List θ):(pM B s++ext)[B.length]?=some (.nH 150 5 s):=by simp[pM]
theorem Pb(B:List θ)(s:List Nat)(ext:List θ):(pM B s++ext)[B.length+1]?=some (.cells [.fn (.func 105) [] [.μ B.length 0,.μ (B.length+1) 0]]):=by simp[pM]
theorem pMs(B:List θ)(s:List Nat)(ext:List θ)(t:List Nat):(pM B s++ext).set B.length (.nH 150 5 t)=pM B t++ext:=by simp[pM]
theorem f106(B:List θ)(s t:List Nat)(ext:List θ)(T:List Nat)(h:s.length+t.length<=1000000000):
  kf u 106 [.μ B.length 0,.str t] {ε:=pM B s++ext,ζ:=T}=some (.aU [.n t.length,.gx],{ε:=pM B (s++t)++ext,ζ:=T}):=by
 refine Cn (p:=xP 150 5) (by rfl) ?_;have hl:B.length<(pM B s++ext).length:=by simp[Ee];omega
 have h2:s.length+t.length<=140737488355328:=by omega
 have he:∀k,([]++[AV.μ B.length 0,.str t]++[]).map (exp (pM B s++ext).length k)=[.μ B.length 0,.str t]:=fun k=>by simp only[bG,de,aA,aP,exp,hl,if_true]
 rw[he];simp only[xP,WN,h2,and_self,if_true,Mem.put,pMs]
def jt(k:Int):List Nat:=if k=7 then[101,108,115,101]else if k=11 then[97,112,112,108,121]else[]
theorem Zu(k:Int):(jt k).length<=5:=by unfold jt;split<;>(try split)<;>simp
theorem Fk{y:δ}(h:0<y.blocks.length):aS y.kind=true/\y.blocks[0]?=some (y.cb,y.body):=by
 unfold δ.blocks at h⊢;by_cases he:bh y.kind=true
 ·have hb:aS y.kind=true:=by simp only[aS,bh,decide_eq_true_eq]at he⊢;omega
  simp[he,hb]
 ·by_cases hb:aS y.kind=true
  ·simp[he,hb]
  ·simp[he,hb]at h
theorem Zk{y:δ}(h:1<y.blocks.length):bh y.kind=true/\y.blocks[1]?=some (y.ce,y.els):=by
 unfold δ.blocks at h⊢;by_cases he:bh y.kind=true
 ·simp[he]
 ·by_cases hb:aS y.kind=true
  ·simp[he,hb]at h
  ·simp[he,hb]at h
def iV(y:δ)(b:List Nat)(j:Nat):List Nat:=
 (if 0<j then[32,123,10]++dj y.body (b++fD)else[])++(if 1<j/\¬(y.kind=7/\y.els.length=0)then b++[125,32]++jt y.kind++[32,123,10]++dj y.els (b++fD)else[])
theorem afz(y:δ)(b:List Nat):jm y b=b++cg y.kind y.gate y.name y.pl y.size y.to++(iV y b y.blocks.length++(if 0<y.blocks.length then b++[125,10]else[59,10])):=by
 rw[afy];unfold iV δ.blocks;by_cases he:bh y.kind=true
 ·have hb:aS y.kind=true:=by simp only[aS,bh,decide_eq_true_eq]at he⊢;omega
  have hk:y.kind=7\/y.kind=11:=by simpa only[bh,decide_eq_true_eq]using he
  have C7:jt y.kind=mU y.kind:=by rcases hk with h|h<;>simp[jt,mU,h]
  simp[he,hb,C7]
 ·by_cases hb:aS y.kind=true
  ·simp[he,hb]
  ·simp[he,hb]
theorem ahy(y:δ)(b:List Nat){j j':Nat}(h:j<=j'):(iV y b j).length<=(iV y b j').length:=by
 unfold iV;simp only[cD];have h1:(if 0<j then[32,123,10]++dj y.body (b++fD)else[]).length<=(if 0<j' then[32,123,10]++dj y.body (b++fD)else[]).length:=by
  by_cases h0:0<j
  ·rw[if_pos h0,if_pos (by omega)];exact bA _
  ·rw[if_neg h0];simp
 have h2:(if 1<j/\¬(y.kind=7/\y.els.length=0)then b++[125,32]++jt y.kind++[32,123,10]++dj y.els (b++fD)else[]).length<=(if 1<j'/\¬(y.kind=7/\y.els.length=0)then b++[125,32]++jt y.kind++[32,123,10]++dj y.els (b++fD)else[]).length:=by
  by_cases h0:1<j/\¬(y.kind=7/\y.els.length=0)
  ·rw[if_pos h0,if_pos ⟨by omega,h0.2⟩];exact bA _
  ·rw[if_neg h0];simp
 omega
theorem afB(l:List δ)(b:List Nat)(i:Nat)(h:i<l.length):(dj (l.take i) b).length+(jm l[i] b).length<=(dj l b).length:=by
 induction l generalizing i with
 |nil=>simp at h
 |cons a l ih=>
  cases i with
  |zero=>simp[dj]
  |succ i=>
   have:=ih i (by simpa using h)
   simp only[List.take_succ_cons,dj,cD,qY];omega
theorem f105(B:List θ)(l:List δ):∀(c:ξ),br c->δ.da l->δ.Rs l->∀b:List Nat,b.length+2*δ.dx l<=100->δ.bX l<1000000000->∀(s:List Nat),s.length+(dj l b).length<=1000000000->∀(ext:List θ) (T:List Nat),
  ah (C u) (.fn (.func 105) [] [.μ B.length 0,.μ (B.length+1) 0]) [.list c (δ.ψ l),.str b] {ε:=pM B s++ext,ζ:=T}=some (.aU [],{ε:=pM B (s++dj l b)++ext,ζ:=T}):=by
 refine δ.lists (P:=fun l=>∀(c:ξ),br c->δ.da l->δ.Rs l->∀b:List Nat,b.length+2*δ.dx l<=100->δ.bX l<1000000000->∀(s:List Nat),s.length+(dj l b).length<=1000000000->∀(ext:List θ) (T:List Nat),
  ah (C u) (.fn (.func 105) [] [.μ B.length 0,.μ (B.length+1) 0]) [.list c (δ.ψ l),.str b] {ε:=pM B s++ext,ζ:=T}=some (.aU [],{ε:=pM B (s++dj l b)++ext,ζ:=T})) (fun l ih c hc ai hR b hb hw s hs ext T=>?_) l
 refine kz (g:=F5) rfl rfl rfl (by simp[Ee]) ?_;have acn:B.length<(pM B s++ext).length:=by simp[Ee];omega
 have aco:B.length+1<(pM B s++ext).length:=by simp[Ee];omega
 simp only[bG,cy,aA,aP,ru hc ai];simp only[exp,acn,aco,if_true,F5,c105];have vC:=δ.ET l;have eK:∀M:Mem,M.ν=ν:=fun _=>rfl;let K:St->Prop:=fun st=>st.e 1= .str b/\st.e 2= .μ B.length 0/\st.e 3= .μ (B.length+1) 0;let J:Nat->St->Prop:=fun i st=>K st/\st.e 11= .list c (δ.ψ l)/\st.e 12= .n l.length/\st.e 13= .n i;let PM:List Nat->List θ->St->Prop:=fun s x st=>st.mem= {ε:=pM B s++x,ζ:=[]};let I:Nat->St->Prop:=fun i st=>J i st/\∃x,PM (s++dj (l.take i) b) (ext++x) st;refine Θ (fun st=>J 0 st/\PM s ext st) (by simp[J,K,PM,uP]) fun s4 ⟨a1,a2⟩=>?_;refine κ.block (κ.upto (I:=I) l.length ⟨a1,[],by simpa[dj]using a2⟩ (fun i st χ Ω=>?_) (fun st Ω=>?_))
 ·obtain⟨⟨⟨h1,h2,h3⟩,q1,q2,q3⟩,x,h4⟩:=Ω;simp only[PM]at h4;have kP:bC .i64 ((i:Int)+1)=(i:Int)+1:=wrap_i64 (by omega) (by omega);have hg:=Jt l i χ;have hm:l[i]∈l:=df χ;have rO:=δ.jE ai _ hm;have hRi:=δ.aiT hR _ hm;obtain⟨qI,oV⟩:=ih _ hm;have lz:=δ.uU hm;have dq:=δ.O_ rO;have za:=δ.KO rO;have du:=δ.JM l[i];have hdm:=aav hm;have hle:=afB l b i χ;have lP:s++dj (l.take (i+1)) b=(s++dj (l.take i) b)++jm l[i] b:=by rw[uY χ,afD,bH]
  have hSl:(s++dj (l.take i) b).length+(jm l[i] b).length<=1000000000:=by simp;omega
  generalize s++dj (l.take i) b=S at*;generalize l[i]=y at*;have HY:=afz y b;obtain⟨Uu,hRb,hRe⟩:=abY hRi;have hhl:=Uo Uu;have Sv:=fun m=>f107 (u:=u) y rO Uu m;have rq:=fun m=>f108 (u:=u) y rO m;have HG:=aau y;have k0:=cell0 y;have kt:=R_ y;have kl:=δ.mw y;have ep:b.length<=100:=by omega
  have hbw:=Zu y.kind;generalize cg y.kind y.gate y.name y.pl y.size y.to=hd at*;simp only[δ.av,iN]at hg Sv rq;have Mo:(jm y b).length=b.length+hd.length+((iV y b y.blocks.length).length+(if 0<y.blocks.length then b.length+2 else 2)):=by rw[HY];simp only[cD];split<;>simp
  let J2:St->Prop:=fun st=>J i st/\∃v,st.e 7= .aj 7 v 0/\st.q 7=some (v,.cells y.cells);refine Θ (fun st=>J i st/\PM S (ext++x) st/\st.e 14= .bool true) (by simp[J,K,PM,h1,h2,h3,h4,q1,q2,q3,χ]) fun s5 ⟨⟨⟨h1,h2,h3⟩,q1,q2,q3⟩,h4,q4⟩=>?_;simp only[PM]at h4;refine Θ (fun st=>J i st/\PM S (ext++x) st) (by simp[J,K,PM,h1,h2,h3,h4,q1,q2,q3,q4]) fun s5 ⟨⟨⟨h1,h2,h3⟩,q1,q2,q3⟩,h4⟩=>?_;simp only[PM]at h4;refine bP (fun st=>J i st/\∃x2,PM (S++jm y b) (ext++x2) st) ?_ fun s6 ⟨⟨⟨h1,h2,h3⟩,q1,q2,q3⟩,x2,h4⟩=>by simp only[PM]at h4;exact κ.fin (M:=fun st=>J (i+1) st/\PM (S++jm y b) (ext++x2) st) .normal (by simp[J,K,PM,h1,h2,h3,h4,q1,q2,q3,kP]) fun s' ⟨d1,d2⟩=> .inl ⟨rfl,d1,x2,by rw[lP];exact d2⟩
  refine κ.block ?_;refine Θ (fun st=>J2 st/\PM S (ext++x) st) (by simp[J2,J,K,PM,h1,h2,h3,h4,q1,q2,q3,χ,hg,kl,kt,uP]) fun s5 ⟨⟨⟨⟨h1,h2,h3⟩,q1,q2,q3⟩,v,q4,q5⟩,h4⟩=>?_;simp only[PM]at h4;have a1:cA .add b hd=some (.str (b++hd)):=ew (by omega);have w1:=f106 (u:=u) B S (b++hd) (ext++x) [] (by simp;omega);refine Θ (fun st=>J2 st/\PM (S++(b++hd)) (ext++x) st) (by simp[J2,J,K,PM,h1,h2,h3,h4,q1,q2,q3,q4,q5,kl,kt,Sv,a1,w1]) fun s5 ⟨⟨⟨⟨h1,h2,h3⟩,q1,q2,q3⟩,v,q4,q5⟩,h4⟩=>?_;simp only[PM]at h4;let x2:List θ:=x++[.map [(.n 7,.str [101,108,115,101]),(.n 11,.str [97,112,112,108,121])]];refine Θ (fun st=>J2 st/\PM (S++(b++hd)) (ext++x2) st/\st.e 8= .str (jt y.kind)) (by
   have Bg:pM B (S++(b++hd))++(ext++x2)=(pM B (S++(b++hd))++(ext++x))++[.map [(.n 7,.str [101,108,115,101]),(.n 11,.str [97,112,112,108,121])]]:=by simp[x2]
   simp only[PM];rw[Bg];generalize pM B (S++(b++hd))++(ext++x)=BB at*;by_cases k7:y.kind=7
   ·rw[k7]at k0;simp[J2,J,K,h1,h2,h3,h4,q1,q2,q3,q4,q5,kl,k0,k7,Mem.push,Mem.put,isKey,plain,uC,jO,jD,jt,PI]
   ·by_cases DY:y.kind=11
    ·rw[DY]at k0;simp[J2,J,K,h1,h2,h3,h4,q1,q2,q3,q4,q5,kl,k0,DY,Mem.push,Mem.put,isKey,plain,uC,jO,jD,jt,PI]
    ·simp[J2,J,K,h1,h2,h3,h4,q1,q2,q3,q4,q5,kl,k0,k7,DY,Mem.push,Mem.put,isKey,plain,uC,jO,jD,jt,PI]) fun s5 ⟨⟨⟨⟨h1,h2,h3⟩,q1,q2,q3⟩,v,q4,q5⟩,h4,q6⟩=>?_
  simp only[PM]at h4;generalize TQ:S++(b++hd)=S2 at*;have akF:S2.length=S.length+b.length+hd.length:=by rw[<-TQ];simp;omega
  refine bP (fun st=>J2 st/\∃x3,PM (S2++iV y b y.blocks.length) (ext++x3) st) ?_ fun s5 ⟨⟨⟨⟨h1,h2,h3⟩,q1,q2,q3⟩,v,q4,q5⟩,x3,h4⟩=>?_
  ·let JB:St->Prop:=fun st=>J2 st/\st.e 8= .str (jt y.kind)/\st.e 28=iN y/\st.e 29= .n y.blocks.length;let I2:Nat->St->Prop:=fun j st=>JB st/\st.e 30= .n j/\∃x3,PM (S2++iV y b j) (ext++x3) st;refine Θ (fun st=>JB st/\st.e 30= .n 0/\PM S2 (ext++x2) st) (by simp[JB,J2,J,K,PM,h1,h2,h3,h4,q1,q2,q3,q4,q5,q6,kl,kt,rq,iN]) fun s6 ⟨a1,a2,a3⟩=>?_;refine κ.block (κ.upto (I:=I2) y.blocks.length ⟨a1,a2,x2,by simpa[iV]using a3⟩ (fun j st eW Ω=>?_) (fun st Ω=>?_))
   ·obtain⟨⟨⟨⟨⟨h1,h2,h3⟩,q1,q2,q3⟩,v,q4,q5⟩,q6,z1,z2⟩,z3,x3,h4⟩:=Ω;simp only[PM]at h4;have dQ:=ahy y b (show j+1<=y.blocks.length by omega);have abD:=hSl;rw[Mo]at abD;have pS:2<=(if 0<y.blocks.length then b.length+2 else 2):=by split<;>omega
    have dy:y.blocks.length<=2:=by unfold δ.blocks;split<;>(try split)<;>simp
    have rS:bC .i64 ((j:Int)+1)=(j:Int)+1:=wrap_i64 (by omega) (by omega);simp only[iN,fy]at z1;have hj:j=0\/j=1:=by omega
    rcases hj with rfl|rfl
    ·obtain⟨Uv,gM⟩:=Fk eW;have ku:y.blocks[0]=(y.cb,y.body):=by rw[dN eW]at gM;simpa using gM
     rw[Uv]at HG;simp only[if_true]at HG;have zb:iV y b (0+1)=[32,123,10]++dj y.body (b++[32,32]):=by simp[iV,fD]
     have oT:iV y b 0=[]:=by simp[iV]
     rw[zb]at dQ;rw[oT,de]at h4;simp only[cD,cE,eI]at dQ;have a1:cA .add b [32,32]=some (.str (b++[32,32])):=ew (by simp;omega);have w2:=f106 (u:=u) B S2 [32,123,10] (ext++x3) [] (by simp;omega);have w3:=qI y.cb za.1 dq.1 (hRb Uv) (b++[32,32]) (by simp;omega) (by omega) (S2++[32,123,10]) (by simp;omega) (ext++x3) [];have p1:=Pb B (S2++[32,123,10]) (ext++x3);refine κ.fin (M:=fun st=>JB st/\st.e 30= .n 1/\PM (S2++[32,123,10]++dj y.body (b++[32,32])) (ext++x3) st) .normal (by
      have oa:bC .i64 1=1:=by decide
      simp only[PM];generalize S2++[32,123,10]++dj y.body (b++[32,32])=S4 at*;generalize S2++[32,123,10]=S3 at*;simp[Bm,JB,J2,J,K,h1,h2,h3,h4,q1,q2,q3,q4,q5,q6,z1,z2,z3,eW,ku,w2,p1,a1,w3,iN,fy,oa]) fun s' ⟨d1,d2,d3⟩=> .inl ⟨rfl,d1,d2,x3,?_⟩
     rw[zb,<-bH];exact d3
    ·obtain⟨Uw,dt⟩:=Zk eW;have ku:y.blocks[1]=(y.ce,y.els):=by rw[dN eW]at dt;simpa using dt
     rw[Uw]at HG;simp only[if_true]at HG;have oa:bC .i64 2=2:=by decide
     have Nq:(1:Int)<(y.blocks.length:Int):=by omega
     by_cases C8:y.kind=7/\y.els.length=0
     ·have lN:iV y b (1+1)=iV y b 1:=by simp only[iV,C8];simp
      have hen:y.els=[]:=nB C8.2;rw[C8.1]at k0;refine κ.fin (M:=fun st=>JB st/\st.e 30= .n 2/\PM (S2++iV y b 1) (ext++x3) st) .normal (by
       simp only[PM]
       generalize S2++iV y b 1=S3 at*;simp[Bm,JB,J2,J,K,h1,h2,h3,h4,q1,q2,q3,q4,q5,q6,z1,z2,z3,eW,Nq,ku,kl,k0,hen,δ.ψ,iN,fy,oa]) fun s' ⟨d1,d2,d3⟩=> .inl ⟨rfl,d1,d2,x3,?_⟩
      rw[lN];exact d3
     ·have lN:iV y b (1+1)=iV y b 1++(b++[125,32]++jt y.kind)++[32,123,10]++dj y.els (b++[32,32]):=by simp only[iV,show 0<1+1 by decide,show 1<1+1 by decide,show 0<1 by decide,show¬1<1 by decide,if_true,C8,not_false_eq_true,and_self,fD,false_and,if_false,de];simp
      rw[lN]at dQ;simp only[cD,cE,eI]at dQ;generalize Hx:S2++iV y b 1=S3 at*;have abC:S3.length=S2.length+(iV y b 1).length:=by rw[<-Hx];simp
      have a1:cA .add b [32,32]=some (.str (b++[32,32])):=ew (by simp;omega);have a2:cA .add b [125,32]=some (.str (b++[125,32])):=ew (by simp;omega);have a3:cA .add (b++[125,32]) (jt y.kind)=some (.str (b++[125,32]++jt y.kind)):=ew (by simp;omega);have w2:=f106 (u:=u) B S3 (b++[125,32]++jt y.kind) (ext++x3) [] (by simp;omega);have w3:=f106 (u:=u) B (S3++(b++[125,32]++jt y.kind)) [32,123,10] (ext++x3) [] (by simp;omega);have w4:=oV y.ce za.2 dq.2 (hRe Uw) (b++[32,32]) (by simp;omega) (by omega) (S3++(b++[125,32]++jt y.kind)++[32,123,10]) (by simp;omega) (ext++x3) [];have p1:=Pb B (S3++(b++[125,32]++jt y.kind)++[32,123,10]) (ext++x3);have τ:y.kind=7->((y.els.length:Int)==0)=false:=fun h=>by have:¬y.els.length=0:=fun h2=>C8 ⟨h,h2⟩;simp;intro h3;rw[h3]at this;exact this rfl
      refine κ.fin (M:=fun st=>JB st/\st.e 30= .n 2/\PM (S3++(b++[125,32]++jt y.kind)++[32,123,10]++dj y.els (b++[32,32])) (ext++x3) st) .normal (by
       simp only[PM]
       generalize S3++(b++[125,32]++jt y.kind)++[32,123,10]++dj y.els (b++[32,32])=S6 at*;generalize S3++(b++[125,32]++jt y.kind)++[32,123,10]=S5 at*;generalize S3++(b++[125,32]++jt y.kind)=S4 at*;generalize b++[125,32]++jt y.kind=tb at*;by_cases k7:y.kind=7
       ·have H2:=τ k7;rw[k7]at k0 q6 a3;simp[Bm,JB,J2,J,K,h1,h2,h3,h4,q1,q2,q3,q4,q5,q6,z1,z2,z3,eW,Nq,ku,kl,k0,k7,uP,H2,w2,w3,p1,a1,a2,a3,w4,iN,fy,oa]
       ·simp[Bm,JB,J2,J,K,h1,h2,h3,h4,q1,q2,q3,q4,q5,q6,z1,z2,z3,eW,Nq,ku,kl,k0,gi k7,w2,w3,p1,a1,a2,a3,w4,iN,fy,oa]) fun s' ⟨d1,d2,d3⟩=> .inl ⟨rfl,d1,d2,x3,?_⟩
      have:S2++(iV y b 1++(b++[125,32]++jt y.kind)++[32,123,10]++dj y.els (b++[32,32]))=S3++(b++[125,32]++jt y.kind)++[32,123,10]++dj y.els (b++[32,32]):=by rw[<-Hx];simp
      rw[lN,this];exact d3
   ·obtain⟨⟨⟨⟨⟨h1,h2,h3⟩,q1,q2,q3⟩,v,q4,q5⟩,q6,z1,z2⟩,z3,x3,h4⟩:=Ω;simp only[PM]at h4;refine κ.fin (M:=fun st=>J2 st/\PM (S2++iV y b y.blocks.length) (ext++x3) st) (.exit 2) (by simp[Bm,J2,J,K,PM,h1,h2,h3,h4,q1,q2,q3,q4,q5,q6,z1,z2,z3]) fun s' ⟨d1,d2⟩=>?_;exact⟨by simp,.inl ⟨rfl,.inl ⟨rfl,d1,x3,d2⟩⟩⟩
  ·simp only[PM]at h4;have hLL:S++jm y b=S2++iV y b y.blocks.length++(if 0<y.blocks.length then b++[125,10]else[59,10]):=by rw[HY,<-TQ];simp
   rw[hLL];generalize Hx:S2++iV y b y.blocks.length=S3 at*;have abC:S3.length=S2.length+(iV y b y.blocks.length).length:=by rw[<-Hx];simp
   by_cases h0:0<y.blocks.length
   ·rw[if_pos h0]at Mo⊢;have wX:(0:Int)<(y.blocks.length:Int):=by omega
    have a1:cA .add b [125,10]=some (.str (b++[125,10])):=ew (by simp;omega);have w2:=f106 (u:=u) B S3 (b++[125,10]) (ext++x3) [] (by simp;omega);refine κ.fin (M:=fun st=>J i st/\PM (S3++(b++[125,10])) (ext++x3) st) .normal (by simp[J,K,PM,h1,h2,h3,h4,q1,q2,q3,q4,q5,kl,kt,rq,h0,wX,a1,w2]) fun s' ⟨d1,d2⟩=>?_;simp;exact⟨d1,x3,d2⟩
   ·rw[if_neg h0]at Mo⊢;have wX:¬(0:Int)<(y.blocks.length:Int):=by omega
    have w2:=f106 (u:=u) B S3 [59,10] (ext++x3) [] (by simp;omega);refine κ.fin (M:=fun st=>J i st/\PM (S3++[59,10]) (ext++x3) st) .normal (by simp[J,K,PM,h1,h2,h3,h4,q1,q2,q3,q4,q5,kl,kt,rq,h0,wX,w2]) fun s' ⟨d1,d2⟩=>?_;simp;exact⟨d1,x3,d2⟩
 ·obtain⟨⟨⟨h1,h2,h3⟩,q1,q2,q3⟩,x,h4⟩:=Ω;simp only[PM]at h4;rw[po]at h4;simp[VC,h1,h2,h3,h4,q1,q2,q3,S9]
theorem f111(B:List θ)(s:List Nat)(ext:List θ)(T:List Nat):
  kf u 111 [.μ B.length 0] {ε:=pM B s++ext,ζ:=T}=some (.str s,{ε:=B++([.dead,.cells [.fn (.func 105) [] [.μ B.length 0,.μ (B.length+1) 0]]]++ext),ζ:=T}):=by
 refine Cn (p:=xO 150 5) (by rfl) ?_;have hl:B.length<(pM B s++ext).length:=by simp[Ee];omega
 have he:∀k,([]++[AV.μ B.length 0]++[]).map (exp (pM B s++ext).length k)=[.μ B.length 0]:=fun k=>by simp only[bG,de,aA,aP,exp,hl,if_true]
 rw[he];simp only[xO,WN,and_self,if_true,Mem.put];simp[pM]
def Jd(ps:List φ):List Nat:=if mW ps=0 then fI ps else[]
theorem f25(dH:ξ)(mZ:br dH)(ps:List φ)(cT:∀x∈ps,x.Ok)(cM:jq ps<1000000000)(m:Mem):
  kf u 25 [tq dH ps] m=some (.aU [.str (Jd ps),.n (mW ps)],m):=by
 have FN:=fun m=>f43 (u:=u) dH mZ ps cT (by omega) m;refine eN (g:=GX) rfl rfl rfl ?_;simp only[aA,aP,SQ mZ cT];simp only[GX,Rw,tq]at FN⊢;have hz:∀bs n (a:List Nat) (i:Int),aK bs n 8 (.aU [.str a,.n i])= .aU [.str a,.n i]:=fun _ _ _ _=>rfl;have eK:∀M:Mem,M.ν=ν:=fun _=>rfl;let K:St->Prop:=fun st=>st.e 1= .aj 1 0 0/\st.q 1=some (0,.cells [.list dH (ps.map φ.av)]);refine Θ (fun st=>K st/\st.mem= {ε:=m.ε,ζ:=[]}) (by simp[K,bL]) fun s1 ⟨⟨h1,h2⟩,h3⟩=>?_;unfold Jd;by_cases hc:mW ps=0
 case neg=>
  rw[if_neg hc]
  refine bP (fun _=>False) ?_ fun _ h=>h.elim;simp[h1,h2,h3,FN,bne_true hc,hz]
 rw[if_pos hc];obtain⟨akV,hR⟩:=Z5 hc;rw[hc]at FN⊢;refine Θ (fun st=>K st/\st.mem= {ε:=m.ε,ζ:=[]}) (by simp[K,h1,h2,h3,FN]) fun s1 ⟨⟨h1,h2⟩,h3⟩=>?_;refine Θ (fun st=>K st/\st.e 5= .μ m.ε.length 0/\st.mem= {ε:=m.ε++[.nH 150 5 []],ζ:=[]}) (by simp[K,h1,h2,h3,Mem.push]) fun s1 ⟨⟨h1,h2⟩,h4,h3⟩=>?_;refine Θ (fun st=>K st/\st.e 5= .μ m.ε.length 0/\st.e 6= .μ (m.ε.length+1) 0/\st.mem= {ε:=m.ε++[.nH 150 5 [],.cells [.fV]],ζ:=[]}) (by simp[K,h1,h2,h3,h4,Mem.push,eK,ν]) fun s1 ⟨⟨h1,h2⟩,h4,h5,h3⟩=>?_;let PM:List Nat->List θ->St->Prop:=fun s x st=>st.mem= {ε:=pM m.ε s++x,ζ:=[]};let K2:St->Prop:=fun st=>K st/\st.e 5= .μ m.ε.length 0/\st.e 6= .μ (m.ε.length+1) 0;refine Θ (fun st=>K2 st/\PM [] [] st) (by simp[K2,K,PM,pM,h1,h2,h3,h4,h5,Mem.put,eK,ν,cL,bo,lo,Fn.below]) fun s1 ⟨⟨⟨h1,h2⟩,h4,h5⟩,h3⟩=>?_;simp only[PM]at h3;refine bP (fun st=>K2 st/\∃x,PM (fI ps) x st) ?_ fun s1 ⟨⟨⟨h1,h2⟩,h4,h5⟩,x,h3⟩=>?_
 ·let J:Nat->St->Prop:=fun i st=>K2 st/\st.e 19= .list dH (ps.map φ.av)/\st.e 20= .n ps.length/\st.e 21= .n i;let I:Nat->St->Prop:=fun i st=>J i st/\∃x,PM (fI (ps.take i)) x st;refine Θ (fun st=>J 0 st/\PM [] [] st) (by simp[J,K2,K,PM,h1,h2,h3,h4,h5]) fun s4 ⟨a1,a2⟩=>?_;refine κ.block (κ.upto (I:=I) ps.length ⟨a1,[],a2⟩ (fun i st χ Ω=>?_) (fun st Ω=>?_))
  ·obtain⟨⟨⟨⟨h1,h2⟩,h4,h5⟩,q1,q2,q3⟩,x,h3⟩:=Ω;simp only[PM]at h3;have kP:bC .i64 ((i:Int)+1)=(i:Int)+1:=wrap_i64 (by omega) (by omega);have hm:ps[i]∈ps:=df χ;have ai:=cT _ hm;have hr:=hR _ hm;have lz:=φ.uU hm;simp only[φ.wt]at lz;have akG:(fI (ps.take i)).length<=2400000:=by have:=ahT (ps.take i) fun x hx=>hR x (List.mem_of_mem_take hx);rw[kE]at this;omega
   have lP:fI (ps.take (i+1))=fI (ps.take i)++ps[i].text:=by rw[uY χ,ahS]
   have vC:=afE ps[i].body [32,32] hr.body (by have:=hr.dx;simp;omega) (by have:=hr.bO;omega);have jW:=hr.name;have H4:=hr.aq;have U3:=hr.par;have ND:=aht _ U3 H4;simp only[φ.text,fD]at lP;generalize fI (ps.take i)=S at*;let P:List AV:=[.str ps[i].name,.list ps[i].cp (ps[i].aq.map ay.av),.list ps[i].cb (δ.ψ ps[i].body)];let J2:St->Prop:=fun st=>J i st/\∃v,st.e 8= .aj 8 v 0/\st.q 8=some (v,.cells P);refine Θ (fun st=>J i st/\PM S x st/\st.e 22= .bool true) (by simp[J,K2,K,PM,h1,h2,h3,h4,h5,q1,q2,q3,χ]) fun s5 ⟨⟨⟨⟨h1,h2⟩,h4,h5⟩,q1,q2,q3⟩,h3,q4⟩=>?_;simp only[PM]at h3;refine Θ (fun st=>J i st/\PM S x st) (by simp[J,K2,K,PM,h1,h2,h3,h4,h5,q1,q2,q3,q4]) fun s5 ⟨⟨⟨⟨h1,h2⟩,h4,h5⟩,q1,q2,q3⟩,h3⟩=>?_;simp only[PM]at h3;refine bP (fun st=>J i st/\∃x2,PM (fI (ps.take (i+1))) x2 st) ?_ fun s6 ⟨⟨⟨⟨h1,h2⟩,h4,h5⟩,q1,q2,q3⟩,x2,h3⟩=>by simp only[PM]at h3;exact κ.fin (M:=fun st=>J (i+1) st/\PM (fI (ps.take (i+1))) x2 st) .normal (by simp[J,K2,K,PM,h1,h2,h3,h4,h5,q1,q2,q3,kP]) fun s' ⟨d1,d2⟩=> .inl ⟨rfl,d1,x2,d2⟩
   refine κ.block ?_;refine Θ (fun st=>J2 st/\PM S x st) (by simp[J2,J,K2,K,PM,P,h1,h2,h3,h4,h5,q1,q2,q3,χ,φ.av]) fun s5 ⟨⟨⟨⟨⟨h1,h2⟩,h4,h5⟩,q1,q2,q3⟩,v,q4,q5⟩,h3⟩=>?_;simp only[PM]at h3;simp only[P]at q5;refine Θ (fun st=>J2 st/\PM S x st/\st.e 9= .list .nil []) (by simp[J2,J,K2,K,PM,P,h1,h2,h3,h4,h5,q1,q2,q3,q4,q5]) fun s5 ⟨⟨⟨⟨⟨h1,h2⟩,h4,h5⟩,q1,q2,q3⟩,v,q4,q5⟩,h3,q6⟩=>?_;simp only[PM]at h3;simp only[P]at q5;refine bP (fun st=>J2 st/\∃x2 cp,PM S x2 st/\st.e 9= .list cp ((ps[i].aq.map ay.text).map AV.str)) ?_ fun s6 ⟨⟨⟨⟨⟨h1,h2⟩,h4,h5⟩,q1,q2,q3⟩,v,q4,q5⟩,x2,cp,h3,q6⟩=>?_
   ·let JX:St->Prop:=fun st=>J2 st/\st.e 26= .list ps[i].cp (ps[i].aq.map ay.av)/\st.e 27= .n ps[i].aq.length;let I2:Nat->St->Prop:=fun k st=>JX st/\st.e 28= .n k/\∃x2 cp,PM S x2 st/\st.e 9= .list cp (((ps[i].aq.take k).map ay.text).map AV.str)/\ox (pM m.ε S).length (pM m.ε S++x2) 1 9 cp k;refine Θ (fun st=>JX st/\st.e 28= .n 0/\PM S x st/\st.e 9= .list .nil []) (by simp[JX,J2,J,K2,K,PM,P,h1,h2,h3,h4,h5,q1,q2,q3,q4,q5,q6]) fun s6 ⟨a1,a2,a3,a4⟩=>?_;refine κ.block (κ.upto (I:=I2) ps[i].aq.length ⟨a1,a2,x,.nil,a3,a4,ox.nil⟩ (fun k st eW Ω=>?_) (fun st Ω=>?_))
    ·obtain⟨⟨⟨⟨⟨⟨h1,h2⟩,h4,h5⟩,q1,q2,q3⟩,v,q4,q5⟩,z1,z2⟩,z3,x2,cp,h3,z4,r⟩:=Ω;simp only[PM]at h3;simp only[P]at q5;have NX:bC .i64 ((k:Int)+1)=(k:Int)+1:=wrap_i64 (by omega) (by omega);have H5:ps[i].aq[k]∈ps[i].aq:=df eW;obtain⟨n1,n2,n3⟩:=U3 _ H5;have aaC:=fun m=>f109 (u:=u) ps[i].aq[k].size (by omega) (by omega) m;have hd:=va ps[i].aq[k].size.toNat;have ng:((ps[i].aq.take (k+1)).map ay.text).map AV.str=((ps[i].aq.take k).map ay.text).map AV.str++[.str (ps[i].aq[k]).text]:=by rw[uY eW,jT,jT];rfl
     have Mq:(((ps[i].aq.take k).map ay.text).map AV.str).length=k:=by rw[cF,cF,kE];omega
     have NQ:=(PV 0 ((ps[i].aq.take k).map ay.text)).s;generalize((ps[i].aq.take k).map ay.text).map AV.str=LQ at*;obtain⟨dX,x3,b1,b2,-⟩:=PT (v:=(ps[i].aq[k]).text) r Mq NQ (by omega);simp only[ay.text]at b1 ng;generalize fp ps[i].aq[k].size.toNat=td at*;have a1:cA .add ps[i].aq[k].name [91]=some (.str (ps[i].aq[k].name++[91])):=ew (by simp;omega);have a2:cA .add (ps[i].aq[k].name++[91]) td=some (.str (ps[i].aq[k].name++[91]++td)):=ew (by simp;omega);have a3:cA .add (ps[i].aq[k].name++[91]++td) [93]=some (.str (ps[i].aq[k].name++[91]++td++[93])):=ew (by simp;omega);simp only[bH,cy,bG]at a1 a2 a3 b1 ng;refine κ.fin (M:=fun st=>JX st/\st.e 28= .n ((k:Int)+1)/\PM S x3 st/\st.e 9= .list dX (LQ++[.str (ps[i].aq[k].name++91::(td++[93]))])) .normal (by simp[Ox,JX,J2,J,K2,K,PM,P,h1,h2,h3,h4,h5,q1,q2,q3,q4,q5,z1,z2,z3,z4,eW,ay.av,aaC,a1,a2,a3,cZ,c8,shaped,AV.one,eK,ν,b1,NX]) fun s' ⟨d1,d2,d3,d4⟩=> .inl ⟨rfl,d1,d2,x3,dX,d3,by rw[ng];exact d4,b2⟩
    ·obtain⟨⟨⟨⟨⟨⟨h1,h2⟩,h4,h5⟩,q1,q2,q3⟩,v,q4,q5⟩,z1,z2⟩,z3,x2,cp,h3,z4,r⟩:=Ω;simp only[PM]at h3;simp only[P]at q5;rw[po]at z4;refine κ.fin (M:=fun st=>J2 st/\PM S x2 st/\st.e 9= .list cp ((ps[i].aq.map ay.text).map AV.str)) (.exit 2) (by simp[Ox,J2,J,K2,K,PM,P,h1,h2,h3,h4,h5,q1,q2,q3,q4,q5,z1,z2,z3,z4]) fun s' ⟨d1,d2,d3⟩=>?_;exact⟨by simp,.inl ⟨rfl,.inl ⟨rfl,d1,x2,cp,d2,d3⟩⟩⟩
   ·simp only[PM]at h3;simp only[P]at q5;have Sw:=fun c m=>f110 (u:=u) c (ps[i].aq.map ay.text) (by omega) (by rw[cF];omega) m;rw[dc]at q6 Sw;generalize lG (ps[i].aq.map ay.text)=tp at*;have a1:cA .add [112,114,111,99,32] ps[i].name=some (.str ([112,114,111,99,32]++ps[i].name)):=ew (by simp;omega);have a2:cA .add ([112,114,111,99,32]++ps[i].name) [40]=some (.str ([112,114,111,99,32]++ps[i].name++[40])):=ew (by simp;omega);have a3:cA .add ([112,114,111,99,32]++ps[i].name++[40]) tp=some (.str ([112,114,111,99,32]++ps[i].name++[40]++tp)):=ew (by simp;omega);have a4:cA .add ([112,114,111,99,32]++ps[i].name++[40]++tp) [41,32,123,10]=some (.str ([112,114,111,99,32]++ps[i].name++[40]++tp++[41,32,123,10])):=ew (by simp;omega);have w1:=f106 (u:=u) m.ε S ([112,114,111,99,32]++ps[i].name++[40]++tp++[41,32,123,10]) x2 [] (by simp;omega);have w2:=f105 (u:=u) m.ε ps[i].body ps[i].cb ai.2.2.2.1 ai.2.2.2.2.1 hr.body [32,32] (by have:=hr.dx;simp;omega) (by omega) (S++([112,114,111,99,32]++ps[i].name++[40]++tp++[41,32,123,10])) (by simp;omega) x2 [];have p1:=Pb m.ε (S++([112,114,111,99,32]++ps[i].name++[40]++tp++[41,32,123,10])) x2;have w3:=f106 (u:=u) m.ε (S++([112,114,111,99,32]++ps[i].name++[40]++tp++[41,32,123,10])++dj ps[i].body [32,32]) [125,10] x2 [] (by simp;omega);have ue:fI (ps.take (i+1))=S++([112,114,111,99,32]++ps[i].name++[40]++tp++[41,32,123,10])++dj ps[i].body [32,32]++[125,10]:=by rw[lP];simp
    rw[ue];refine κ.fin (M:=fun st=>J i st/\PM (S++([112,114,111,99,32]++ps[i].name++[40]++tp++[41,32,123,10])++dj ps[i].body [32,32]++[125,10]) x2 st) .normal (by
     simp only[PM]
     generalize S++([112,114,111,99,32]++ps[i].name++[40]++tp++[41,32,123,10])++dj ps[i].body [32,32]++[125,10]=S5 at*;generalize S++([112,114,111,99,32]++ps[i].name++[40]++tp++[41,32,123,10])++dj ps[i].body [32,32]=S4 at*;generalize S++([112,114,111,99,32]++ps[i].name++[40]++tp++[41,32,123,10])=S3 at*;simp only[bH,cy,bG]at a1 a2 a3 a4 w1;simp[J,K2,K,h1,h2,h3,h4,h5,q1,q2,q3,q4,q5,q6,Sw,a1,a2,a3,a4,w1,w2,w3,p1,cZ,c8]) fun s' ⟨d1,d2⟩=>?_
    simp;exact⟨d1,x2,by simpa using d2⟩
  ·obtain⟨⟨⟨⟨h1,h2⟩,h4,h5⟩,q1,q2,q3⟩,x,h3⟩:=Ω;simp only[PM]at h3;rw[po]at h3;refine κ.fin (M:=fun st=>K2 st/\PM (fI ps) x st) (.exit 0) (by simp[VX,K2,K,PM,h1,h2,h3,h4,h5,q1,q2,q3]) fun s' ⟨d1,d2⟩=>?_;exact⟨by simp,.inl ⟨rfl,.inl ⟨rfl,d1,x,d2⟩⟩⟩
 ·simp only[PM]at h3;have aaD:=f111 (u:=u) m.ε (fI ps) x [];simp[h1,h2,h3,h4,h5,aaD,hz]
end Go.Δ.Tz
