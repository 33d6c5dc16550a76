import Derived.Test.YtiigojkfojnedaaGreatDoorRHm
set_option linter.all false
set_option maxRecDepth 100000
set_option maxHeartbeats 8000000
open List renaming eq_nil_of_length_eq_zero->nq,cons_append->cy,append_assoc->bQ,length_append->cX,length_cons->cN,length_map->cz,map_map->cT,map_congr_left->dh,map_cons->ax,map_nil->aI,findIdx?_eq_some_iff_getElem->tD,findIdx?_eq_none_iff->vV,contains_iff_mem->xC,getElem_mem->db,nil_append->bB,getElem_cons_succ->pX,append_nil->dM,length_nil->eT,take_succ_eq_append_getElem->xJ,map_append->kQ,length_take->lM,take_length->pa,length_pos_iff->pY,getElem?_eq_getElem->dp
open Go.IntKind renaming wrap->bN
open Bool renaming false_and->akA,true_and->sg
open Nat renaming le_refl->b_
namespace Go.Δ.Tz
open Go.Δ
variable{u:Nat}
attribute [local simp] exec ef dR e_ aJ dF fE eR br fM bR iL iS jm jE AV.cells newVar jA rd wr iu single dk ff eF μ cF RV.get cK fV kT tQ
theorem er{a b:List Nat}(h:a.length+b.length<1000000000000):cD .add a b=some (.str (a++b)):=by simp only[cD];rw[if_neg];show¬((a.length+b.length:Nat):Int)>9223372036854775807;omega
theorem WZ{k n:Int}{s:List Nat}{c:τ}{l:List ζ}(h:(ζ.mk k n s c l).mn):(k=1/\0<=n/\n<100/\l=[])\/(k=2/\l=[])\/((k=3\/k=4\/k=5)/\∃a b,l=[a,b]):=by
 simp only[ζ.mn]at h;obtain⟨h1,-,-⟩:=h;unfold kN at h1;by_cases c1:k<1\/5<k\/(k=1/\(n<0\/99<n))
 ·rw[if_pos c1]at h1;cases h1
 rw[if_neg c1]at h1;by_cases c2:(3<=k/\l.length≠2)\/(k<3/\l.length≠0)
 ·rw[if_pos c2]at h1;cases h1
 have hk:k=1\/k=2\/3<=k:=by omega
 rcases hk with hk|hk|hk
 ·exact .inl ⟨hk,by omega,by omega,nq (by omega)⟩
 ·exact .inr (.inl ⟨hk,nq (by omega)⟩)
 ·have h2:l.length=2:=by omega
  match l,h2 with
  |[a,b],_=>exact .inr (.inr ⟨by omega,a,b,rfl⟩)
theorem Oq(s:List Nat):paren false s=s:=rfl
theorem aeV(l:List δ)(x:δ)(b:List Nat):cW (l++[x]) b=cW l b++gn x b:=by
 induction l with
 |nil=>simp[cW]
 |cons a l ih=>simp only[cy,cW,ih,bQ]
theorem ZP{l:List δ}{x:δ}(h:x∈l):x.deep<=δ.du l:=by
 induction l with
 |nil=>cases h
 |cons a l ih=>
  simp only[δ.du]
  rcases List.mem_cons.1 h with rfl|h
  ·omega
  ·have:=ih h;omega
theorem aeW(l:List δ)(b:List Nat)(h:δ.Rs l)(hb:b.length+2*δ.du l<=100)(hc:δ.bK l<=1000):(cW l b).length<=1500000:=by have h1:=Vp 100 l b h hb;have h2:δ.bK l*(3*100+1200)<=1000*(3*100+1200):=Nat.mul_le_mul_right _ hc;omega
theorem abb{x:δ}(h:x.R):AQ x.kind x.gate x.name x.pl x.size x.to/\(bf x.kind=true->δ.Rs x.body)/\(bz x.kind=true->δ.Rs x.els):=by cases x;exact h
theorem aeQ(x:δ)(b:List Nat):gn x b=b++bY x.kind x.gate x.name x.pl x.size x.to++
   (if bf x.kind=false then[59,10]
    else[32,123,10]++cW x.body (b++fo)++
    (if bz x.kind=true/\¬(x.kind=7/\x.els.length=0)then b++[125,32]++om x.kind++[32,123,10]++cW x.els (b++fo)else[])++b++[125,10]):=by cases x;rfl
theorem ZO(x:δ):x.deep=1+max (if bf x.kind then δ.du x.body else 0) (if bz x.kind then δ.du x.els else 0):=by cases x;rfl
def ajJ(x:δ):Prop:=x.size.Ok/\x.to.Ok/\bm x.cp/\∀p∈x.pl,p.Ok
theorem ajI{x:δ}(hx:x.Ok):ajJ x:=by obtain⟨k,g,nm,cp,pl,size,to,cb,body,ce,els⟩:=x;simp only[δ.Ok]at hx;exact⟨hx.2.2.2.1.1,hx.2.2.2.2.1.1,hx.2.1,hx.2.2.1⟩
theorem ag7(l:List ξ)(x:ξ):cM (l++[x])=cM l++x.text:=by
 induction l with
 |nil=>simp[cM]
 |cons a l ih=>simp only[cy,cM,ih,bQ]
theorem ag8(l:List ξ)(h:∀x∈l,B8 x):(cM l).length<=l.length*200000:=by
 induction l with
 |nil=>simp[cM]
 |cons a l ih=>
  have h1:=ξ.r_ (h a (by simp))
  have h2:=ih fun x hx=>h x (by simp[hx]);simp only[cM,cX,cN];omega
theorem agH(l:List ai)(h:∀p∈l,p.name.length<=8/\1<=p.size/\p.size<=12)(h4:l.length<=4):(lq (l.map ai.text)).length<=56:=by
 have h3:=Cs (l.map ai.text) 12 (fun t ht=>by
  obtain⟨p,hp,rfl⟩:=List.mem_map.1 ht
  have:=(h p hp).1;have:=Cv p.size.toNat;simp[ai.text];omega)
 rw[cz]at h3;omega
theorem f223(c:τ)(ks:List Int)(v:Int)(hl:ks.length<1000000000000)(m:Mem):kf u 223 [.list c (ks.map (AV.n)),.n v] m=some (.n (match ks.findIdx? (·==v)with
  |some i=>(i:Int)
  |none=> -1),m):=by
 refine dt (g:=Gw) rfl rfl rfl ?_;have he:aX m.ε.length false (ks.map (AV.n))=ks.map (AV.n):=by rw[ft,cT];exact dh fun _ _=>rfl
 simp only[ax,aI,exp,he,Gw,Qv];generalize c.exp m.ε.length false=c';let K:St->Prop:=fun st=>st.e 0= .list c' (ks.map (AV.n))/\st.e 1= .n v/\st.mem= {ε:=m.ε,η:=[]};refine Ψ (K) (by simp[K]) fun s1 ⟨h1,h2,h3⟩=>?_;refine bS (fun st=>K st/\ks.findIdx? (·==v)=none) ?_ fun s2 ⟨⟨h1,h2,h3⟩,h4⟩=>by simp[h3,h4]
 let I:Nat->St->Prop:=fun i st=>K st/\st.e 7= .n ks.length/\st.e 8= .n i/\∀j (hj:j<ks.length),j<i->ks[j]≠v;refine Ψ (I 0) (by simp[I,K,h1,h2,h3]) fun s4 hI=>?_;refine μ.block (μ.loop (I:=I) ks.length hI fun i st hi Ω=>?_);obtain⟨⟨h1,h2,h3⟩,q1,q2,q4⟩:=Ω;rcases Nat.lt_or_ge i ks.length with ψ|eH
 ·have hw:bN .i64 ((i:Int)+1)=(i:Int)+1:=wrap_i64 (by omega) (by omega);by_cases hz:ks[i]=v
  ·right;have hf:ks.findIdx? (·==v)=some i:=by rw[tD];exact⟨ψ,by simpa using hz,fun j hj=>by simpa using q4 j (by omega) hj⟩
   rw[hf];have rO:v=ks[i]:=hz.symm;simp[K,H',h1,h2,h3,q1,q2,ψ,hz]
  ·left;refine⟨ψ,?_⟩;have rO:(v==ks[i])=false:=by simpa using fun h=>hz h.symm
   have q5:=Cf (P:=fun j=>∀hj:j<ks.length,ks[j]≠v) (n:=ks.length) (fun j a b c=>q4 j c b) (fun _=>hz);simp[I,K,H',h1,h2,h3,q1,q2,ψ,rO,hw];exact fun j hj lU=>q5 j hj lU hj
 ·right;have:i=ks.length:=by omega
  subst this;have hf:ks.findIdx? (·==v)=none:=by rw[vV];intro x hx;obtain⟨j,hj,rfl⟩:=List.getElem_of_mem hx;simpa using q4 j hj hj
  simp[K,H',h1,h2,h3,q1,q2,hf]
theorem f180(c:τ)(ks:List Int)(v:Int)(hl:ks.length<1000000000000)(m:Mem):kf u 180 [.list c (ks.map (AV.n)),.n v] m=some (.bool (ks.contains v),m):=by
 have e:=fun c=>f223 (u:=u) c ks v hl;refine dt (g:=Gd) rfl rfl rfl ?_;have he:aX m.ε.length false (ks.map (AV.n))=ks.map (AV.n):=by rw[ft,cT];exact dh fun _ _=>rfl
 simp only[ax,aI,exp,he,Gd,Qj];cases hf:ks.findIdx? (·==v)with
 |none=>
  have hc:ks.contains v=false:=by
   rw[vV]at hf;cases h:ks.contains v with
   |false=>rfl
   |true=>
    rw[xC]at h
    have:=hf v h;simp at this
  rw[hf]at e;rw[hc];simp[e]
 |some i=>
  have hc:ks.contains v=true:=by
   rw[tD]at hf;obtain⟨h1,h2,_⟩:=hf;rw[xC];have:ks[i]=v:=by simpa using h2
   rw[<-this];exact db h1
  rw[hf]at e;rw[hc];have:(0:Int)<=(i:Int):=by omega
  simp[e,this]
theorem f179{id:Nat}{k n:Int}{s:List Nat}{c:τ}{l:List ζ}(m:Mem)(hid:m.ε[id]?=some (.cells [.n k,.n n,.str s,.list c (ζ.χ l)]))(i:Nat)(iv:Int)(Mm:iv=(i:Int))(hi:i<l.length)
  (e:∀m,kf u 114 [l[i].av] m=some (.str l[i].text,m)) (hlen:l[i].text.length<1000000000) (cc:τ) (ks:List Int) (AX:ks.length<10):
  ab (C u) (.fn (.func 179) [] [.κ id 0]) [.n iv,.list cc (ks.map (AV.n))] m=some (.str (paren (ks.contains l[i].kind) l[i].text),m):=by
 subst Mm;have ψ:=sF hid;have Rz:=fun c v=>f180 (u:=u) c ks v (by omega);refine sw (g:=Gc) rfl rfl rfl ?_;have he:aX m.ε.length false (ks.map (AV.n))=ks.map (AV.n):=by rw[ft,cT];exact dh fun _ _=>rfl
 simp only[bB,cy,ax,aI,exp,he,ψ,if_true,Gc,Qi];have hg:=E6 l i hi;generalize l[i]=y at*;generalize y.text=t at*;obtain⟨k',n',s',c2,l'⟩:=y;simp only[ζ.av]at hg e;simp only[ζ.kind];cases hb:ks.contains k' with
 |true=>
  have a1:cD .add [40] t=some (.str ([40]++t)):=er (by simp;omega)
  have a2:cD .add ([40]++t) [41]=some (.str ([40]++t++[41])):=er (by simp;omega);simp only[cy,bB]at a1 a2;have e':=fun c=>Rz c k';rw[hb]at e';simp[hid,rb,hi,hg,e,e',a1,a2,paren]
 |false=>
  have e':=fun c=>Rz c k'
  rw[hb]at e';simp[hid,rb,hi,hg,e,e',paren]
theorem f109(n:Int)(h0:0<=n)(h1:n<100)(m:Mem):kf u 109 [.n n] m=some (.str (gi n.toNat),m):=by refine Cl (p:=xo) (by rfl) ?_;simp[exp,xo,h0,h1]
theorem ai6(k:Int):([3,4]:List Int).contains k=gJ k:=by
 by_cases h3:k=3
 ·subst h3;rfl
 ·by_cases h4:k=4
  ·subst h4;rfl
  ·simp[gJ,h3,h4]
theorem afY{k:Int}(h:1<=k/\k<=5):([3,4,5]:List Int).contains k=decide (3<=k):=by
 have:k=1\/k=2\/k=3\/k=4\/k=5:=by omega
 rcases this with rfl|rfl|rfl|rfl|rfl<;>rfl
theorem f114(x:ζ):x.Ok->x.mn->x.cnt<1000000->∀(m:Mem),kf u 114 [x.av] m=some (.str x.text,m):=by
 refine ζ.jd (Q:=fun x=>x.Ok->x.mn->x.cnt<1000000->∀(m:Mem),kf u 114 [x.av] m=some (.str x.text,m)) (fun k n s c l ih aj dX oG m=>?_) x;have hlen:=ζ.r_ _ dX;have eI:∀M:Mem,M.ν=ν:=fun _=>rfl;have A6:cG (ζ.χ l)=ζ.χ l:=by rw[fH,ζ.dW,cT];exact dh fun y _=>ζ.tc y
 refine dt (g:=FV) rfl rfl rfl ?_;simp only[ax,aI,ζ.jI _ _ _ aj,FV,P9];have hid:(m.ε++[θ.cells [.n k,.n n,.str s,.list c (ζ.χ l)]])[m.ε.length]?=some (.cells [.n k,.n n,.str s,.list c (ζ.χ l)]):=by simp
 have KG:=fun i iv Mm hi e hl cc ks AX=>f179 (u:=u) (id:=m.ε.length) {ε:=m.ε++[.cells [.n k,.n n,.str s,.list c (ζ.χ l)]],η:=[]} hid i iv Mm hi e hl cc ks AX;rcases WZ dX with⟨rfl,pJ,mX,rfl⟩|⟨rfl,rfl⟩|⟨hk,a,b,rfl⟩
 ·have e:=fun m=>f109 (u:=u) n pJ mX m;simp[ζ.av,ζ.text,w_,Mem.push,eI,ν,cG,A6,e,ζ.χ]
 ·simp[ζ.av,ζ.text,w_,Mem.push,eI,ν,cG,A6,ζ.χ]
 ·have hca:a.cnt<1000000:=by simp only[ζ.cnt,ζ.bK]at oG;omega
  have rz:b.cnt<1000000:=by simp only[ζ.cnt,ζ.bK]at oG;omega
  have dJ:=ih a (by simp) aj.2.1 dX.2.2.1 hca;have gm:=ih b (by simp) aj.2.2.1 dX.2.2.2.1 rz;have la':=ζ.r_ _ dX.2.2.1;have lb':=ζ.r_ _ dX.2.2.2.1;have e0:=fun cc ks AX=>KG 0 0 rfl (by simp) dJ (by simp;omega) cc ks AX;have e1:=fun cc ks AX=>KG 1 1 rfl (by simp) gm (by simp;omega) cc ks AX;have KB:=e0 .nil [] (by simp);have KD:=fun cc=>e0 cc [3,4] (by simp);have KI:=fun cc=>e1 cc [3,4] (by simp);have KH:=fun cc=>e1 cc [3,4,5] (by simp);have wN:1<=b.kind/\b.kind<=5:=by have:=dX.2.2.2.1;obtain⟨kb,nb,sb,cb,lb⟩:=b;rcases WZ this with⟨rfl,_⟩|⟨rfl,_⟩|⟨h,_⟩<;>simp only[ζ.kind]<;>omega
  simp only[List.getElem_cons_zero,pX,ai6,afY wN,ax,aI,List.contains_nil,Oq]at KB KD KI KH;have p1:∀q:Bool,(paren q a.text).length<=a.text.length+2:=fun q=>IG q a.text;have p2:∀q:Bool,(paren q b.text).length<=b.text.length+2:=fun q=>IG q b.text;simp only[ζ.text,ζ.texts,w_,ax,aI]at hlen⊢;generalize a.text=ta at*;generalize b.text=tb at*;generalize a.kind=ka at*;generalize b.kind=kb at*;have p1':=p1 (gJ ka);have p2':=p2 (gJ kb);have akf:=p2 (decide (3<=kb));simp only[ζ.av];generalize ζ.χ [a,b]=L at*;rcases hk with rfl|rfl|rfl
  ·simp only[show¬(3:Int)=1 by decide,show¬(3:Int)=2 by decide,show¬(3:Int)=5 by decide,if_false,decide_false,akA,Oq,xl,if_true];generalize paren (gJ kb) tb=xz at*;have a1:cD .add ta [32,43,32]=some (.str (ta++[32,43,32])):=er (by simp;omega);have a2:cD .add (ta++[32,43,32]) xz=some (.str (ta++[32,43,32]++xz)):=er (by simp;omega);clear KG e0 e1 KD KH;simp[Mem.push,eI,ν,cG,A6,KB,KI,a1,a2,shaped,AV.one]
  ·simp only[show¬(4:Int)=1 by decide,show¬(4:Int)=2 by decide,show¬(4:Int)=5 by decide,show¬(4:Int)=3 by decide,if_false,decide_false,akA,Oq,xl,if_true];generalize paren (gJ kb) tb=xz at*;have a1:cD .add ta [32,45,32]=some (.str (ta++[32,45,32])):=er (by simp;omega);have a2:cD .add (ta++[32,45,32]) xz=some (.str (ta++[32,45,32]++xz)):=er (by simp;omega);simp[Mem.push,eI,ν,cG,A6,KB,KI,a1,a2,shaped,AV.one]
  ·simp only[show¬(5:Int)=1 by decide,show¬(5:Int)=2 by decide,show¬(5:Int)=4 by decide,show¬(5:Int)=3 by decide,if_false,decide_true,sg,xl,if_true];generalize paren (gJ ka) ta=Jc at*;generalize paren (decide (3<=kb)) tb=xz at*;have a1:cD .add Jc [32,42,32]=some (.str (Jc++[32,42,32])):=er (by simp;omega);have a2:cD .add (Jc++[32,42,32]) xz=some (.str (Jc++[32,42,32]++xz)):=er (by simp;omega);simp[Mem.push,eI,ν,cG,A6,KD,KH,a1,a2,shaped,AV.one]
theorem FH(x:ζ)(aj:x.Ok)(h:vu x)(m:Mem):kf u 114 [.agg x.four] m=some (.str x.text,m):=by have:=f114 (u:=u) x aj h.1 (by have:=h.2;omega) m;rwa[ζ.fm]at this
theorem ai1(l:List (List Nat)):BG (l.map AV.str)=some l:=by
 induction l with
 |nil=>rfl
 |cons a l ih=>simp[BG,ih]
theorem US(l:List (List Nat)):lX [44,32] l=lq l:=by
 induction l with
 |nil=>rfl
 |cons a l ih=>
  cases l with
  |nil=>rfl
  |cons b l=>simp only[lX,lq,ih]
theorem f174(c:τ)(l:List (List Nat))(sep:List Nat)(h1:(lX sep l).length<=1000000)(h2:l.length<=1000000)(m:Mem):kf u 174 [.list c (l.map AV.str),.str sep] m=some (.str (lX sep l),m):=by
 refine Cl (p:=xp) (by rfl) ?_;have he:∀k,aX m.ε.length k (l.map AV.str)=l.map AV.str:=fun k=>by rw[ft,cT];exact dh fun _ _=>rfl
 simp only[bB,dM,ax,aI,exp,he];cases l with
 |nil=>rfl
 |cons a l=>
  have nF:(lX sep (a::l)).length<=140737488355328:=by omega
  have tR:(a::l).length<=140737488355328:=by omega
  have hs:=ai1 (a::l);simp only[ax]at hs⊢;simp only[xp,hs,nF,tR,and_self,if_true]
theorem f110(c:τ)(l:List (List Nat))(h1:(lq l).length<=1000000)(h2:l.length<=1000000)(m:Mem):kf u 110 [.list c (l.map AV.str)] m=some (.str (lq l),m):=by
 have e:=fun c m=>f174 (u:=u) c l [44,32] (by rw[US];exact h1) h2 m;rw[US]at e;refine dt (g:=FQ) rfl rfl rfl ?_;have he:∀k,aX m.ε.length k (l.map AV.str)=l.map AV.str:=fun k=>by rw[ft,cT];exact dh fun _ _=>rfl
 simp only[ax,aI,exp,he,FQ,P6];simp[e]
theorem O7(n:Nat)(l:List (List Nat)):EP false n 1 (l.map AV.str) (l.map AV.str):=EP.of _ _ fun x _=>⟨Lv.str n x,rfl⟩
theorem O5{B ext:List θ}{c:τ}{l:List AV}{v:List Nat}{len:Nat}(h:oe B.length (B++ext) 1 9 c len)(hlen:l.length=len)(hl:l.all (shaped false 1)=true)(hb:len<=1000000):
  ∃c' ext',(∀T,iq {ε:=B++ext,η:=T} false 1 16 9 (.list c l) (.list .full [.str v])=some (.list c' (l++[.str v]),{ε:=B++ext',η:=T}))/\oe B.length (B++ext') 1 9 c' (len+1)∧
   ∀c2 k2,oe B.length (B++ext) 1 9 c2 k2->(c2= .nil\/c2≠c)->oe B.length (B++ext') 1 9 c2 k2/\(c'= .nil\/c'≠c2):=by
 subst hlen;have hv:shaped false 1 (.str v)=true:=rfl;rcases h.r with⟨hc,h0⟩|⟨t,rfl,h1,h2⟩
 ·have my:=h.n h0;subst my;have:l=[]:=nq h0;subst this;refine⟨.own (B.length+ext.length),ext++[.front 1 1 9],fun T=>?_,⟨.inr ⟨_,rfl,by omega,?_⟩,by simp⟩,fun c2 k2 hr _=>?_⟩
  ·simp[iq,hv,Mem.push,Mem.ν,ν]
  ·rw[<-bQ];have:B.length+ext.length=(B++ext).length:=by simp
   rw[this];simp
  ·rcases hr.r with⟨h1,h3⟩|⟨t,rfl,h1,h2⟩
   ·have:=hr.n h3;subst this;exact⟨⟨.inl ⟨.inl rfl,h3⟩,fun _=>rfl⟩,.inr (by simp)⟩
   ·have ht:t<(B++ext).length:=sF h2;refine⟨⟨.inr ⟨t,rfl,h1,?_⟩,hr.n⟩,.inr ?_⟩
    ·rw[<-bQ,List.getElem?_append_left ht];exact h2
    ·simp at ht;simp;omega
 ·have ht:t<(B++ext).length:=sF h2;have lB:(B++ext).set t (.front (l.length+1) 1 9)=B++ext.set (t-B.length) (.front (l.length+1) 1 9):=by rw[List.set_append,if_neg (by omega)]
  have dr:(l.length+1)*16<=140737488355328:=by omega
  have dA:l.length+1<=140737488355328:=by omega
  refine⟨.own t,ext.set (t-B.length) (.front (l.length+1) 1 9),fun T=>?_,⟨.inr ⟨t,rfl,h1,?_⟩,by simp⟩,fun c2 k2 hr φ=>?_⟩
  ·simp only[iq];simp only[List.all_cons,hv,List.all_nil,Bool.and_self,hl,show 0<1 by decide,decide_true,cN,eT,Nat.zero_add,dr,dA,h2,sg,if_true,and_self,ax,aI,Mem.ν,ν,Mem.put,lB]
  ·rw[<-lB,List.getElem?_set_self ht]
  ·rcases hr.r with⟨h3,h4⟩|⟨t',rfl,h3,h4⟩
   ·have:=hr.n h4;subst this;exact⟨⟨.inl ⟨.inl rfl,h4⟩,fun _=>rfl⟩,.inr (by simp)⟩
   ·have mD:t≠t':=by
     rintro rfl
     rcases φ with h|h
     ·cases h
     ·exact h rfl
    refine⟨⟨.inr ⟨t',rfl,h3,?_⟩,hr.n⟩,.inr (by simpa using mD)⟩;rw[<-lB,List.getElem?_set_ne mD];exact h4
theorem f172(c:τ)(hc:bm c)(pl:List ρ)(dS:∀p∈pl,p.Ok)(h:Ec pl)(m:Mem):kf u 172 [.list c (pl.map ρ.av)] m=some (.str (mK pl),m):=by
 refine dt (g:=F_) rfl rfl rfl ?_;simp only[ax,aI,V_ hc dS,F_,Qf];have h4:=h.1;have eI:∀M:Mem,M.ν=ν:=fun _=>rfl;let n:=m.ε.length;let MM:List θ->St->Prop:=fun ext st=>st.mem= {ε:=m.ε++ext,η:=[]};refine Ψ (fun st=>st.e 0= .list c (pl.map ρ.av)/\MM [] st) (by simp[MM]) fun s1 ⟨h1,h2⟩=>?_;simp only[MM]at h2;refine Ψ (fun st=>st.e 0= .list c (pl.map ρ.av)/\MM [] st/\st.e 3= .list .nil []) (by simp[MM,h1,h2]) fun s1 ⟨h1,h2,h3⟩=>?_;simp only[MM]at h2;refine bS (fun st=>∃ext cp,MM ext st/\st.e 3= .list cp ((pl.map ρ.text).map AV.str)) ?_ fun s2 ⟨ext,cp,h2,h3⟩=>?_
 ·let J:Nat->St->Prop:=fun i st=>st.e 10= .list c (pl.map ρ.av)/\st.e 11= .n pl.length/\st.e 12= .n i;let I:Nat->St->Prop:=fun i st=>J i st/\∃ext cp,MM ext st/\st.e 3= .list cp (((pl.take i).map ρ.text).map AV.str)/\oe n (m.ε++ext) 1 9 cp i;refine Ψ (fun st=>J 0 st/\MM [] st/\st.e 3= .list .nil []) (by simp[J,MM,h1,h2,h3]) fun s4 ⟨a1,a2,a3⟩=>?_;refine μ.block (μ.upto (I:=I) pl.length ⟨a1,[],.nil,a2,a3,oe.nil⟩ (fun i st ψ Ω=>?_) (fun st Ω=>?_))
  ·obtain⟨⟨q1,q2,q3⟩,ext,cp,h2,h3,r⟩:=Ω;simp only[MM]at h2;have mE:bN .i64 ((i:Int)+1)=(i:Int)+1:=wrap_i64 (by omega) (by omega);have hm:pl[i]∈pl:=db ψ;have wT:=dS _ hm;obtain⟨yN,lA,gI⟩:=h.2 _ hm;have lC:((pl.take (i+1)).map ρ.text).map AV.str=((pl.take i).map ρ.text).map AV.str++[.str pl[i].text]:=by rw[xJ ψ,kQ,kQ];rfl
   have mw:(((pl.take i).map ρ.text).map AV.str).length=i:=by rw[cz,cz,lM];omega
   have hs:=(O7 n ((pl.take i).map ρ.text)).s;generalize((pl.take i).map ρ.text).map AV.str=L at*;have yR:pl[i].text=if pl[i].ix=[]then pl[i].name else pl[i].name++([91]++lX [32,58,32] (pl[i].ix.map ζ.text)++[93]):=by
    generalize pl[i]=p at lA⊢;obtain⟨nm,cc,ix⟩:=p;simp only at lA⊢
    match ix,lA with
    |[],_=>rfl
    |[a],_=>simp[ρ.text,lX]
    |[a,b],_=>simp[ρ.text,lX]
    |_::_::_::_,h=>simp at h
   have rD:(lX [32,58,32] (pl[i].ix.map ζ.text)).length<=300:=by
    generalize pl[i]=p at lA gI⊢;obtain⟨nm,cc,ix⟩:=p;simp only at lA gI⊢
    match ix,lA,gI with
    |[],_,_=>simp[lX]
    |[a],_,gI=>have:=rR (gI a (by simp));simp[lX];omega
    |[a,b],_,gI=>have:=rR (gI a (by simp));have:=rR (gI b (by simp));simp[lX];omega
    |_::_::_::_,h,_=>simp at h
   have Ry:=fun c m=>f174 (u:=u) c (pl[i].ix.map ζ.text) [32,58,32] (by omega) (by rw[cz];omega) m;refine Ψ (fun st=>J i st/\MM ext st/\st.e 3= .list cp L/\st.e 13= .bool true) (by simp[J,MM,h2,h3,q1,q2,q3,ψ]) fun s5 ⟨⟨q1,q2,q3⟩,h2,h3,q4⟩=>?_;simp only[MM]at h2;refine Ψ (fun st=>J i st/\MM ext st/\st.e 3= .list cp L) (by simp[J,MM,h2,h3,q1,q2,q3,q4]) fun s5 ⟨⟨q1,q2,q3⟩,h2,h3⟩=>?_;simp only[MM]at h2;refine bS (fun st=>J i st/\∃sE sx,MM sE st/\st.e 3= .list sx (L++[.str pl[i].text])/\oe n (m.ε++sE) 1 9 sx (i+1)) ?_ fun s6 ⟨⟨q1,q2,q3⟩,sE,sx,h2,h3,r2⟩=>by simp only[MM]at h2;exact μ.fin (M:=fun st=>J (i+1) st/\MM sE st/\st.e 3= .list sx (L++[.str pl[i].text])) .normal (by simp[J,MM,h2,h3,q1,q2,q3,mE]) fun s' ⟨d1,d2,d3⟩=> .inl ⟨rfl,d1,sE,sx,d2,by rw[lC];exact d3,r2⟩
   refine μ.block ?_;let J2:St->Prop:=fun st=>J i st/\st.e 3= .list cp L/\∃v,st.e 5= .ak 5 v 0/\st.q 5=some (v,.cells [.str pl[i].name,.list pl[i].c (ζ.χ pl[i].ix)]);refine Ψ (fun st=>J2 st/\MM ext st) (by simp[J2,J,MM,h2,h3,q1,q2,q3,ψ,ρ.av,ζ.dW]) fun s5 ⟨⟨⟨q1,q2,q3⟩,h3,v,q4,q5⟩,h2⟩=>?_;simp only[MM]at h2;refine Ψ (fun st=>J2 st/\MM ext st/\st.e 6= .list .nil []) (by simp[J2,J,MM,h2,h3,q1,q2,q3,q4,q5]) fun s5 ⟨⟨⟨q1,q2,q3⟩,h3,v,q4,q5⟩,h2,q6⟩=>?_;simp only[MM]at h2;refine bS (fun st=>J2 st/\∃x2 cq,MM x2 st/\st.e 6= .list cq ((pl[i].ix.map ζ.text).map AV.str)/\oe n (m.ε++x2) 1 9 cp i) ?_ fun s6 ⟨⟨⟨q1,q2,q3⟩,h3,v,q4,q5⟩,x2,cq,h2,q6,r⟩=>?_
   ·let JX:St->Prop:=fun st=>J2 st/\st.e 17= .list pl[i].c (ζ.χ pl[i].ix)/\st.e 18= .n pl[i].ix.length;let I2:Nat->St->Prop:=fun q st=>JX st/\st.e 19= .n q/\∃x2 cq,MM x2 st/\st.e 6= .list cq (((pl[i].ix.take q).map ζ.text).map AV.str)/\oe n (m.ε++x2) 1 9 cq q/\oe n (m.ε++x2) 1 9 cp i/\(cq= .nil\/cq≠cp);refine Ψ (fun st=>JX st/\st.e 19= .n 0/\MM ext st/\st.e 6= .list .nil []) (by simp[JX,J2,J,MM,h2,h3,q1,q2,q3,q4,q5,q6,rb]) fun s6 ⟨a1,a2,a3,a4⟩=>?_;refine μ.block (μ.upto (I:=I2) pl[i].ix.length ⟨a1,a2,ext,.nil,a3,a4,oe.nil,r,.inl rfl⟩ (fun q st fG Ω=>?_) (fun st Ω=>?_))
    ·obtain⟨⟨⟨⟨q1,q2,q3⟩,h3,v,q4,q5⟩,z1,z2⟩,z3,x2,cq,h2,z4,r4,r,φ⟩:=Ω;simp only[MM]at h2;have hwq:bN .i64 ((q:Int)+1)=(q:Int)+1:=wrap_i64 (by omega) (by omega);have UH:pl[i].ix[q]∈pl[i].ix:=db fG;have ZZ:=fun m=>FH (u:=u) pl[i].ix[q] (wT.2.2 _ UH).1 (gI _ UH) m;have UG:=E6 pl[i].ix q fG;have nR:((pl[i].ix.take (q+1)).map ζ.text).map AV.str=((pl[i].ix.take q).map ζ.text).map AV.str++[.str (pl[i].ix[q]).text]:=by rw[xJ fG,kQ,kQ];rfl
     have LI:(((pl[i].ix.take q).map ζ.text).map AV.str).length=q:=by rw[cz,cz,lM];omega
     have M7:=(O7 n ((pl[i].ix.take q).map ζ.text)).s;generalize((pl[i].ix.take q).map ζ.text).map AV.str=LQ at*;obtain⟨Rk,x3,b1,b2,b3⟩:=O5 (v:=(pl[i].ix[q]).text) r4 LI M7 (by omega);obtain⟨b4,b5⟩:=b3 cp i r (by
      rcases φ with h|h
      ·rcases r.r with⟨h5|h5,h6⟩|⟨t,h5,_⟩
       ·exact .inl h5
       ·exact .inl (r.n h6)
       ·exact .inr (by rw[h5,h];simp)
      ·exact .inr (Ne.symm h))
     have Hd:=ζ.eY pl[i].ix[q];have qx:(pl[i].ix[q]).four.take 4=(pl[i].ix[q]).four:=List.take_of_length_le (by omega);rw[ζ.fm]at UG;refine μ.fin (M:=fun st=>JX st/\st.e 19= .n ((q:Int)+1)/\MM x3 st/\st.e 6= .list Rk (LQ++[.str (pl[i].ix[q]).text])) .normal (by simp[Nz,JX,J2,J,MM,h2,h3,q1,q2,q3,q4,q5,z1,z2,z3,z4,fG,rb,UG,Hd,qx,ZZ,shaped,AV.one,eI,ν,b1,hwq]) fun s' ⟨d1,d2,d3,d4⟩=> .inl ⟨rfl,d1,d2,x3,Rk,d3,by rw[nR];exact d4,b2,b4,b5⟩
    ·obtain⟨⟨⟨⟨q1,q2,q3⟩,h3,v,q4,q5⟩,z1,z2⟩,z3,x2,cq,h2,z4,r4,r,φ⟩:=Ω;simp only[MM]at h2;rw[pa]at z4;refine μ.fin (M:=fun st=>J2 st/\MM x2 st/\st.e 6= .list cq ((pl[i].ix.map ζ.text).map AV.str)) (.exit 2) (by simp[Nz,J2,J,MM,h2,h3,q1,q2,q3,q4,q5,z1,z2,z3,z4]) fun s' ⟨d1,d2,d3⟩=>?_;exact⟨by simp,.inl ⟨rfl,.inl ⟨rfl,d1,x2,cq,d2,d3,r⟩⟩⟩
   ·simp only[MM]at h2;obtain⟨dD,x3,b1,b2,-⟩:=O5 (v:=pl[i].text) r mw hs (by omega);refine μ.fin (M:=fun st=>J i st/\MM x3 st/\st.e 3= .list dD (L++[.str pl[i].text])) .normal (by
     by_cases h0:pl[i].ix=[]
     ·rw[if_pos h0]at yR;rw[yR]at b1;rw[yR];simp only[h0,aI]at q6;simp[J,MM,h2,h3,q1,q2,q3,q4,q5,q6,shaped,AV.one,eI,ν,b1]
     ·rw[if_neg h0]at yR;have wQ:(0:Int)<(pl[i].ix.length:Int):=by have:=pY.2 h0;omega
      have abv:0<pl[i].ix.length:=pY.2 h0;have yD:(pl[i].ix.map ζ.text).map AV.str=pl[i].ix.map (AV.str∘ζ.text):=by rw[cT]
      rw[yD]at q6 Ry;generalize lX [32,58,32] (pl[i].ix.map ζ.text)=tj at*;have a1:cD .add [91] tj=some (.str ([91]++tj)):=er (by simp;omega);have a2:cD .add ([91]++tj) [93]=some (.str ([91]++tj++[93])):=er (by simp;omega);have a3:cD .add pl[i].name ([91]++tj++[93])=some (.str (pl[i].name++([91]++tj++[93]))):=er (by simp;omega);simp only[cy,bB]at a1 a2 a3 yR;rw[yR]at b1;rw[yR];simp[J,MM,h2,h3,q1,q2,q3,q4,q5,q6,wQ,abv,Ry,a1,a2,a3,shaped,AV.one,eI,ν,b1]) fun s' ⟨d1,d2,d3⟩=>?_
    simp;exact⟨d1,x3,d2,dD,d3,b2⟩
  ·obtain⟨⟨q1,q2,q3⟩,ext,cp,h2,h3,r⟩:=Ω;simp only[MM]at h2;rw[pa]at h3;refine μ.fin (M:=fun st=>MM ext st/\st.e 3= .list cp ((pl.map ρ.text).map AV.str)) (.exit 0) (by simp[U5,MM,h2,h3,q1,q2,q3]) fun s' ⟨d1,d2⟩=>?_;exact⟨by simp,.inl ⟨rfl,.inl ⟨rfl,ext,cp,d1,d2⟩⟩⟩
 ·simp only[MM]at h2;have hl:=vG h;have e:=fun c m=>f110 (u:=u) c (pl.map ρ.text) (by have:(lq (pl.map ρ.text)).length<=1008:=hl;omega) (by rw[cz];omega) m;simp only[mK,cT]at e⊢;rw[cT]at h3;simp[h2,h3,e,tQ]
theorem f171{id:Nat}(x:δ)(m:Mem)(hid:m.ε[id]?=some (.cells x.cells))(aj:x.size.Ok)(hs:vu x.size)(hn:x.name.length<=8):
  ab (C u) (.fn (.func 171) [] [.κ id 0]) [] m=some (.str (x.name++[91]++x.size.text++[93]),m):=by
 have ψ:=sF hid;refine sw (g:=F9) rfl rfl rfl ?_;simp only[bB,cy,ax,aI,exp,ψ,if_true,F9,c171];have e:=fun m=>FH (u:=u) x.size aj hs m;have hl:=rR hs;have k2:=oq x;have k4:=p9 x;have kl:=δ.ll x;generalize x.size.text=t at*;have a1:cD .add x.name [91]=some (.str (x.name++[91])):=er (by simp;omega);have a2:cD .add (x.name++[91]) t=some (.str (x.name++[91]++t)):=er (by simp;omega);have a3:cD .add (x.name++[91]++t) [93]=some (.str (x.name++[91]++t++[93])):=er (by simp;omega);simp only[bQ,cy,bB]at a1 a2 a3;simp[hid,k2,k4,kl,e,c7,de,fL,AV.gO,AV.beq,a1,a2,a3]
theorem aaF{g:Int}(h:1<=g/\g<=12):∃w,(fu.map AV.str)[(g-1).toNat]?=some (.str w)/\fu.getD (g-1).toNat []=w/\w.length<=4:=by
 obtain⟨k,hk⟩:∃k:Nat,(g-1).toNat=k:=⟨_,rfl⟩;rw[hk];have c8:k<12:=by omega
 match k,c8 with
 |0,_|1,_|2,_|3,_|4,_|5,_|6,_|7,_|8,_|9,_|10,_|11,_=>exact⟨_,rfl,rfl,by decide⟩
section
variable{B:List θ}{x:δ}{s1:St}
variable(h1:s1.e 1= .κ B.length 0)(h2:s1.e 3= .fn (.func 171) [] [.κ B.length 0])(h3:s1.mem= {ε:=B++[.cells x.cells],η:=[]})(hb:(B++[.cells x.cells])[B.length]?=some (.cells x.cells))
 (ou:vu x.size->x.name.length<=8->∀T,ab (C u) (.fn (.func 171) [] [.κ B.length 0]) [] {ε:=B++[.cells x.cells],η:=T}=some (.str (x.name++[91]++x.size.text++[93]),{ε:=B++[.cells x.cells],η:=T}))
 (mR:Ec x.pl->∀m,kf u 172 [.list x.cp (x.pl.map ρ.av)] m=some (.str (mK x.pl),m))
 (es:vu x.size->∀m,kf u 114 [.agg x.size.four] m=some (.str x.size.text,m))
 (et:vu x.to->∀m,kf u 114 [.agg x.to.four] m=some (.str x.to.text,m))
 (hR:AQ x.kind x.gate x.name x.pl x.size x.to)
 (k0:x.cells.take 1=[.n x.kind]) (k1:x.cells.tail.take 1=[.n x.gate]) (k2:(x.cells.drop 2).take 1=[.str x.name]) (k3:(x.cells.drop 3).take 1=[.list x.cp (x.pl.map ρ.av)]) (k4:(x.cells.drop 4).take 4=x.size.four) (k8:(x.cells.drop 8).take 4=x.to.four) (kl:x.cells.length=14)
include h1 h2 h3 hb ou mR es et hR k0 k1 k2 k3 k4 k8 kl
theorem aic(hk:x.kind=1):μ (C u).gl (ab (C u)) c107.snd.snd s1 (End iW B (.str (bY x.kind x.gate x.name x.pl x.size x.to))):=by
 obtain⟨oM,hg,hn,hp,hz,ht⟩:=hR;obtain⟨v,hv⟩:∃v,v=bY x.kind x.gate x.name x.pl x.size x.to:=⟨_,rfl⟩;rw[<-hv];simp only[bY]at hv;rw[hk]at k0;have e1:=mR (hp (by omega));have l1:=vG (hp (by omega));obtain⟨gw,w1,w2,w3⟩:=aaF (hg hk);have Ht:=hg hk;have DK:bN .i64 (x.gate-1)=x.gate-1:=wrap_i64 (by omega) (by omega);have TG:0<=x.gate-1/\x.gate-1<12:=by omega
 have eB:(fu.map AV.str).length=12:=rfl;have hgc:(C u).gl 0= .ref [.list .any (fu.map AV.str)]:=AJ;rw[w2]at hv;generalize fu.map AV.str=GW at*;generalize mK x.pl=tp at*;have a1:cD .add (gw) ([32])=some (.str (gw++([32]))):=er (by simp;omega);have a2:cD .add (gw++([32])) (tp)=some (.str (gw++([32])++(tp))):=er (by simp;omega);simp only[bQ,cy,bB]at a1 a2;have hi:(x.gate-1).toNat<GW.length:=by rw[eB];omega
 have w1':GW[(x.gate-1).toNat]= .str gw:=by rw[dp hi]at w1;simpa using w1
 have UD:(x.gate-1).toNat=x.gate.toNat-1:=by omega
 have Dy:1<=x.gate:=Ht.1;have MP:x.gate-1<12:=by omega
 have ja:x.gate.toNat-1<GW.length:=by omega
 have w12:GW[x.gate.toNat-1]= .str gw:=by rw[UD,dp ja]at w1;simpa using w1
 have Mg:x.gate.toNat-1<12:=by omega
 simp[hk]at hv;subst hv;simp[c107,AC.snd,End,iW,h1,h2,h3,hb,kl,k0,c7,de,fL,AV.gO,AV.beq,AV.kC,k1,k3,e1,hgc,eB,DK,Dy,MP,Mg,w12,a1,a2]
theorem aif(hk:x.kind=2):μ (C u).gl (ab (C u)) c107.snd.snd s1 (End iW B (.str (bY x.kind x.gate x.name x.pl x.size x.to))):=by obtain⟨oM,hg,hn,hp,hz,ht⟩:=hR;obtain⟨v,hv⟩:∃v,v=bY x.kind x.gate x.name x.pl x.size x.to:=⟨_,rfl⟩;rw[<-hv];simp only[bY]at hv;rw[hk]at k0;have e1:=ou (hz (by omega)) (hn (by omega));have l1:=rR (hz (by omega));have l2:=hn (by omega);generalize x.size.text=ts at*;have a1:cD .add ([116,97,107,101,32]) (x.name++[91]++ts++[93])=some (.str ([116,97,107,101,32]++(x.name++[91]++ts++[93]))):=er (by simp;omega);simp only[bQ,cy,bB]at a1;simp only[bQ,cy,bB]at e1;simp[hk]at hv;subst hv;simp[c107,AC.snd,End,iW,h1,h2,h3,hb,kl,k0,c7,de,fL,AV.gO,AV.beq,AV.kC,e1,a1]
theorem aii(hk:x.kind=4):μ (C u).gl (ab (C u)) c107.snd.snd s1 (End iW B (.str (bY x.kind x.gate x.name x.pl x.size x.to))):=by obtain⟨oM,hg,hn,hp,hz,ht⟩:=hR;obtain⟨v,hv⟩:∃v,v=bY x.kind x.gate x.name x.pl x.size x.to:=⟨_,rfl⟩;rw[<-hv];simp only[bY]at hv;rw[hk]at k0;have e1:=ou (hz (by omega)) (hn (by omega));have l1:=rR (hz (by omega));have l2:=hn (by omega);generalize x.size.text=ts at*;have a1:cD .add ([98,111,114,114,111,119,32]) (x.name++[91]++ts++[93])=some (.str ([98,111,114,114,111,119,32]++(x.name++[91]++ts++[93]))):=er (by simp;omega);simp only[bQ,cy,bB]at a1;simp only[bQ,cy,bB]at e1;simp[hk]at hv;subst hv;simp[c107,AC.snd,End,iW,h1,h2,h3,hb,kl,k0,c7,de,fL,AV.gO,AV.beq,AV.kC,e1,a1]
theorem aih(hk:x.kind=3):μ (C u).gl (ab (C u)) c107.snd.snd s1 (End iW B (.str (bY x.kind x.gate x.name x.pl x.size x.to))):=by obtain⟨oM,hg,hn,hp,hz,ht⟩:=hR;obtain⟨v,hv⟩:∃v,v=bY x.kind x.gate x.name x.pl x.size x.to:=⟨_,rfl⟩;rw[<-hv];simp only[bY]at hv;rw[hk]at k0;have l2:=hn (by omega);have a1:cD .add ([100,114,111,112,32]) (x.name)=some (.str ([100,114,111,112,32]++(x.name))):=er (by simp;omega);simp only[bQ,cy,bB]at a1;simp[hk]at hv;subst hv;simp[c107,AC.snd,End,iW,h1,h2,h3,hb,kl,k0,c7,de,fL,AV.gO,AV.beq,AV.kC,k2,a1]
theorem aij(hk:x.kind=5):μ (C u).gl (ab (C u)) c107.snd.snd s1 (End iW B (.str (bY x.kind x.gate x.name x.pl x.size x.to))):=by obtain⟨oM,hg,hn,hp,hz,ht⟩:=hR;obtain⟨v,hv⟩:∃v,v=bY x.kind x.gate x.name x.pl x.size x.to:=⟨_,rfl⟩;rw[<-hv];simp only[bY]at hv;rw[hk]at k0;have l2:=hn (by omega);have e1:=mR (hp (by omega));have l1:=vG (hp (by omega));generalize mK x.pl=tp at*;have a1:cD .add ([109,101,97,115,117,114,101,32]) (tp)=some (.str ([109,101,97,115,117,114,101,32]++(tp))):=er (by simp;omega);have a2:cD .add ([109,101,97,115,117,114,101,32]++(tp)) ([32,58,32])=some (.str ([109,101,97,115,117,114,101,32]++(tp)++([32,58,32]))):=er (by simp;omega);have a3:cD .add ([109,101,97,115,117,114,101,32]++(tp)++([32,58,32])) (x.name)=some (.str ([109,101,97,115,117,114,101,32]++(tp)++([32,58,32])++(x.name))):=er (by simp;omega);simp only[bQ,cy,bB]at a1 a2 a3;simp[hk]at hv;subst hv;simp[c107,AC.snd,End,iW,h1,h2,h3,hb,kl,k0,c7,de,fL,AV.gO,AV.beq,AV.kC,k2,k3,e1,a1,a2,a3]
theorem aik(hk:x.kind=6):μ (C u).gl (ab (C u)) c107.snd.snd s1 (End iW B (.str (bY x.kind x.gate x.name x.pl x.size x.to))):=by obtain⟨oM,hg,hn,hp,hz,ht⟩:=hR;obtain⟨v,hv⟩:∃v,v=bY x.kind x.gate x.name x.pl x.size x.to:=⟨_,rfl⟩;rw[<-hv];simp only[bY]at hv;rw[hk]at k0;have e1:=mR (hp (by omega));have l1:=vG (hp (by omega));generalize mK x.pl=tp at*;have a1:cD .add ([114,101,115,101,116,32]) (tp)=some (.str ([114,101,115,101,116,32]++(tp))):=er (by simp;omega);simp only[bQ,cy,bB]at a1;simp[hk]at hv;subst hv;simp[c107,AC.snd,End,iW,h1,h2,h3,hb,kl,k0,c7,de,fL,AV.gO,AV.beq,AV.kC,k3,e1,a1]
theorem ail(hk:x.kind=7):μ (C u).gl (ab (C u)) c107.snd.snd s1 (End iW B (.str (bY x.kind x.gate x.name x.pl x.size x.to))):=by obtain⟨oM,hg,hn,hp,hz,ht⟩:=hR;obtain⟨v,hv⟩:∃v,v=bY x.kind x.gate x.name x.pl x.size x.to:=⟨_,rfl⟩;rw[<-hv];simp only[bY]at hv;rw[hk]at k0;have l2:=hn (by omega);have a1:cD .add ([105,102,32]) (x.name)=some (.str ([105,102,32]++(x.name))):=er (by simp;omega);simp only[bQ,cy,bB]at a1;simp[hk]at hv;subst hv;simp[c107,AC.snd,End,iW,h1,h2,h3,hb,kl,k0,c7,de,fL,AV.gO,AV.beq,AV.kC,k2,a1]
theorem aim(hk:x.kind=8):μ (C u).gl (ab (C u)) c107.snd.snd s1 (End iW B (.str (bY x.kind x.gate x.name x.pl x.size x.to))):=by obtain⟨oM,hg,hn,hp,hz,ht⟩:=hR;obtain⟨v,hv⟩:∃v,v=bY x.kind x.gate x.name x.pl x.size x.to:=⟨_,rfl⟩;rw[<-hv];simp only[bY]at hv;rw[hk]at k0;have l2:=hn (by omega);have e1:=es (hz (by omega));have l1:=rR (hz (by omega));have e2:=et (ht (by omega));have l3:=rR (ht (by omega));generalize x.size.text=ts at*;generalize x.to.text=tt at*;have a1:cD .add ([102,111,114,32]) (x.name)=some (.str ([102,111,114,32]++(x.name))):=er (by simp;omega);have a2:cD .add ([102,111,114,32]++(x.name)) ([32,61,32])=some (.str ([102,111,114,32]++(x.name)++([32,61,32]))):=er (by simp;omega);have a3:cD .add ([102,111,114,32]++(x.name)++([32,61,32])) (ts)=some (.str ([102,111,114,32]++(x.name)++([32,61,32])++(ts))):=er (by simp;omega);have a4:cD .add ([102,111,114,32]++(x.name)++([32,61,32])++(ts)) ([32,58,32])=some (.str ([102,111,114,32]++(x.name)++([32,61,32])++(ts)++([32,58,32]))):=er (by simp;omega);have a5:cD .add ([102,111,114,32]++(x.name)++([32,61,32])++(ts)++([32,58,32])) (tt)=some (.str ([102,111,114,32]++(x.name)++([32,61,32])++(ts)++([32,58,32])++(tt))):=er (by simp;omega);simp only[bQ,cy,bB]at a1 a2 a3 a4 a5;simp[hk]at hv;subst hv;simp[c107,AC.snd,End,iW,h1,h2,h3,hb,kl,k0,c7,de,fL,AV.gO,AV.beq,AV.kC,k2,k4,k8,e1,e2,a1,a2,a3,a4,a5]
theorem ain(hk:x.kind=9):μ (C u).gl (ab (C u)) c107.snd.snd s1 (End iW B (.str (bY x.kind x.gate x.name x.pl x.size x.to))):=by obtain⟨oM,hg,hn,hp,hz,ht⟩:=hR;obtain⟨v,hv⟩:∃v,v=bY x.kind x.gate x.name x.pl x.size x.to:=⟨_,rfl⟩;rw[<-hv];simp only[bY]at hv;rw[hk]at k0;have l2:=hn (by omega);have e1:=mR (hp (by omega));have l1:=vG (hp (by omega));generalize mK x.pl=tp at*;have a1:cD .add (x.name) ([40])=some (.str (x.name++([40]))):=er (by simp;omega);have a2:cD .add (x.name++([40])) (tp)=some (.str (x.name++([40])++(tp))):=er (by simp;omega);have a3:cD .add (x.name++([40])++(tp)) ([41])=some (.str (x.name++([40])++(tp)++([41]))):=er (by simp;omega);simp only[bQ,cy,bB]at a1 a2 a3;simp[hk]at hv;subst hv;simp[c107,AC.snd,End,iW,h1,h2,h3,hb,kl,k0,c7,de,fL,AV.gO,AV.beq,AV.kC,k2,k3,e1,a1,a2,a3]
theorem aid(hk:x.kind=10):μ (C u).gl (ab (C u)) c107.snd.snd s1 (End iW B (.str (bY x.kind x.gate x.name x.pl x.size x.to))):=by obtain⟨oM,hg,hn,hp,hz,ht⟩:=hR;obtain⟨v,hv⟩:∃v,v=bY x.kind x.gate x.name x.pl x.size x.to:=⟨_,rfl⟩;rw[<-hv];simp only[bY]at hv;rw[hk]at k0;simp[hk]at hv;subst hv;simp[c107,AC.snd,End,iW,h1,h2,h3,hb,kl,k0,c7,de,fL,AV.gO,AV.beq,AV.kC]
theorem aie(hk:x.kind=11):μ (C u).gl (ab (C u)) c107.snd.snd s1 (End iW B (.str (bY x.kind x.gate x.name x.pl x.size x.to))):=by obtain⟨oM,hg,hn,hp,hz,ht⟩:=hR;obtain⟨v,hv⟩:∃v,v=bY x.kind x.gate x.name x.pl x.size x.to:=⟨_,rfl⟩;rw[<-hv];simp only[bY]at hv;rw[hk]at k0;simp[hk]at hv;subst hv;simp[c107,AC.snd,End,iW,h1,h2,h3,hb,kl,k0,c7,de,fL,AV.gO,AV.beq,AV.kC]
end
theorem f107(x:δ)(hx:x.Ok)(hR:AQ x.kind x.gate x.name x.pl x.size x.to)(m:Mem):kf u 107 [x.av] m=some (.str (bY x.kind x.gate x.name x.pl x.size x.to),m):=by
 have eI:∀M:Mem,M.ν=ν:=fun _=>rfl;obtain⟨o1,o2,o3,o4⟩:=ajI hx;have kl:=δ.ll x;have yK:x.cells.map ν=x.cells:=by rw[<-fH,δ.zk]
 refine dt (g:=iW) rfl rfl rfl ?_;simp only[ax,aI,δ.jI _ _ _ hx,iW,c107];refine Ψ (fun st=>st.e 1= .κ m.ε.length 0/\st.mem= {ε:=m.ε++[.cells x.cells],η:=[]}) (by simp[δ.av,kl,Mem.push,eI,yK]) fun s1 ⟨h1,h3⟩=>?_;refine Ψ (fun st=>st.e 1= .κ m.ε.length 0/\st.e 3= .fn (.func 171) [] [.κ m.ε.length 0]/\st.mem= {ε:=m.ε++[.cells x.cells],η:=[]}) (by simp[h1,h3]) fun s1 ⟨h1,h2,h3⟩=>?_;show μ (C u).gl (ab (C u)) c107.snd.snd s1 (End iW m.ε (.str (bY x.kind x.gate x.name x.pl x.size x.to)));have hb:(m.ε++[θ.cells x.cells])[m.ε.length]?=some (.cells x.cells):=by simp
 have ou:=fun hs hn T=>f171 (u:=u) (id:=m.ε.length) x {ε:=m.ε++[.cells x.cells],η:=T} hb o1 hs hn;have mR:=fun h m=>f172 (u:=u) x.cp o3 x.pl o4 h m;have es:=fun h m=>FH (u:=u) x.size o1 h m;have et:=fun h m=>FH (u:=u) x.to o2 h m;have oM:=hR.1;have eC:x.kind=1\/x.kind=2\/x.kind=3\/x.kind=4\/x.kind=5\/x.kind=6\/x.kind=7\/x.kind=8\/x.kind=9\/x.kind=10\/x.kind=11:=by omega
 rcases eC with hk|hk|hk|hk|hk|hk|hk|hk|hk|hk|hk
 ·exact aic h1 h2 h3 hb ou mR es et hR (cell0 x) (rh x) (oq x) (ri x) (p9 x) (rj x) kl hk
 ·exact aif h1 h2 h3 hb ou mR es et hR (cell0 x) (rh x) (oq x) (ri x) (p9 x) (rj x) kl hk
 ·exact aih h1 h2 h3 hb ou mR es et hR (cell0 x) (rh x) (oq x) (ri x) (p9 x) (rj x) kl hk
 ·exact aii h1 h2 h3 hb ou mR es et hR (cell0 x) (rh x) (oq x) (ri x) (p9 x) (rj x) kl hk
 ·exact aij h1 h2 h3 hb ou mR es et hR (cell0 x) (rh x) (oq x) (ri x) (p9 x) (rj x) kl hk
 ·exact aik h1 h2 h3 hb ou mR es et hR (cell0 x) (rh x) (oq x) (ri x) (p9 x) (rj x) kl hk
 ·exact ail h1 h2 h3 hb ou mR es et hR (cell0 x) (rh x) (oq x) (ri x) (p9 x) (rj x) kl hk
 ·exact aim h1 h2 h3 hb ou mR es et hR (cell0 x) (rh x) (oq x) (ri x) (p9 x) (rj x) kl hk
 ·exact ain h1 h2 h3 hb ou mR es et hR (cell0 x) (rh x) (oq x) (ri x) (p9 x) (rj x) kl hk
 ·exact aid h1 h2 h3 hb ou mR es et hR (cell0 x) (rh x) (oq x) (ri x) (p9 x) (rj x) kl hk
 ·exact aie h1 h2 h3 hb ou mR es et hR (cell0 x) (rh x) (oq x) (ri x) (p9 x) (rj x) kl hk
def pM(B:List θ)(s:List Nat):List θ:=B++[.ny 150 5 s,.cells [.fn (.func 105) [] [.κ B.length 0,.κ (B.length+1) 0]]]
theorem Ea(B:List θ)(s:List Nat):(pM B s).length=B.length+2:=by simp[pM]
theorem V2(B:List θ)(s:List Nat)(ext:List θ):(pM B s++ext)[B.length]?=some (.ny 150 5 s):=by simp[pM]
theorem On(B:List θ)(s:List Nat)(ext:List θ):(pM B s++ext)[B.length+1]?=some (.cells [.fn (.func 105) [] [.κ B.length 0,.κ (B.length+1) 0]]):=by simp[pM]
theorem pMs(B:List θ)(s:List Nat)(ext:List θ)(t:List Nat):(pM B s++ext).set B.length (.ny 150 5 t)=pM B t++ext:=by simp[pM]
theorem f106(B:List θ)(s t:List Nat)(ext:List θ)(T:List Nat)(h:s.length+t.length<=1000000000):
  kf u 106 [.κ B.length 0,.str t] {ε:=pM B s++ext,η:=T}=some (.aU [.n t.length,.gq],{ε:=pM B (s++t)++ext,η:=T}):=by
 refine Cl (p:=xt 150 5) (by rfl) ?_;have hl:B.length<(pM B s++ext).length:=by simp[Ea];omega
 have h2:s.length+t.length<=140737488355328:=by omega
 have he:∀k,([]++[AV.κ B.length 0,.str t]++[]).map (exp (pM B s++ext).length k)=[.κ B.length 0,.str t]:=fun k=>by simp only[bB,dM,ax,aI,exp,hl,if_true]
 rw[he];simp only[xt,V2,h2,and_self,if_true,Mem.put,pMs]
def jo(k:Int):List Nat:=if k=7 then[101,108,115,101]else if k=11 then[97,112,112,108,121]else[]
theorem YC(k:Int):(jo k).length<=5:=by unfold jo;split<;>(try split)<;>simp
theorem E8{y:δ}(h:0<y.blocks.length):bf y.kind=true/\y.blocks[0]?=some (y.cb,y.body):=by
 unfold δ.blocks at h⊢;by_cases he:bz y.kind=true
 ·have hb:bf y.kind=true:=by simp only[bf,bz,decide_eq_true_eq]at he⊢;omega
  simp[he,hb]
 ·by_cases hb:bf y.kind=true
  ·simp[he,hb]
  ·simp[he,hb]at h
theorem Ys{y:δ}(h:1<y.blocks.length):bz y.kind=true/\y.blocks[1]?=some (y.ce,y.els):=by
 unfold δ.blocks at h⊢;by_cases he:bz y.kind=true
 ·simp[he]
 ·by_cases hb:bf y.kind=true
  ·simp[he,hb]at h
  ·simp[he,hb]at h
def iO(y:δ)(b:List Nat)(j:Nat):List Nat:=
 (if 0<j then[32,123,10]++cW y.body (b++fo)else[])++(if 1<j/\¬(y.kind=7/\y.els.length=0)then b++[125,32]++jo y.kind++[32,123,10]++cW y.els (b++fo)else[])
theorem aeR(y:δ)(b:List Nat):gn y b=b++bY y.kind y.gate y.name y.pl y.size y.to++(iO y b y.blocks.length++(if 0<y.blocks.length then b++[125,10]else[59,10])):=by
 rw[aeQ];unfold iO δ.blocks;by_cases he:bz y.kind=true
 ·have hb:bf y.kind=true:=by simp only[bf,bz,decide_eq_true_eq]at he⊢;omega
  have hk:y.kind=7\/y.kind=11:=by simpa only[bz,decide_eq_true_eq]using he
  have C2:jo y.kind=om y.kind:=by rcases hk with h|h<;>simp[jo,om,h]
  simp[he,hb,C2]
 ·by_cases hb:bf y.kind=true
  ·simp[he,hb]
  ·simp[he,hb]
theorem agM(y:δ)(b:List Nat){j j':Nat}(h:j<=j'):(iO y b j).length<=(iO y b j').length:=by
 unfold iO;simp only[cX];have h1:(if 0<j then[32,123,10]++cW y.body (b++fo)else[]).length<=(if 0<j' then[32,123,10]++cW y.body (b++fo)else[]).length:=by
  by_cases h0:0<j
  ·rw[if_pos h0,if_pos (by omega)];exact b_ _
  ·rw[if_neg h0];simp
 have h2:(if 1<j/\¬(y.kind=7/\y.els.length=0)then b++[125,32]++jo y.kind++[32,123,10]++cW y.els (b++fo)else[]).length<=(if 1<j'/\¬(y.kind=7/\y.els.length=0)then b++[125,32]++jo y.kind++[32,123,10]++cW y.els (b++fo)else[]).length:=by
  by_cases h0:1<j/\¬(y.kind=7/\y.els.length=0)
  ·rw[if_pos h0,if_pos ⟨by omega,h0.2⟩];exact b_ _
  ·rw[if_neg h0];simp
 omega
theorem aeT(l:List δ)(b:List Nat)(i:Nat)(h:i<l.length):(cW (l.take i) b).length+(gn l[i] b).length<=(cW l b).length:=by
 induction l generalizing i with
 |nil=>simp at h
 |cons a l ih=>
  cases i with
  |zero=>simp[cW]
  |succ i=>
   have:=ih i (by simpa using h)
   simp only[List.take_succ_cons,cW,cX,pX];omega
theorem f105(B:List θ)(l:List δ):∀(c:τ),bm c->δ.cm l->δ.Rs l->∀b:List Nat,b.length+2*δ.du l<=100->δ.bC l<1000000000->∀(s:List Nat),s.length+(cW l b).length<=1000000000->∀(ext:List θ) (T:List Nat),
  ab (C u) (.fn (.func 105) [] [.κ B.length 0,.κ (B.length+1) 0]) [.list c (δ.χ l),.str b] {ε:=pM B s++ext,η:=T}=some (.aU [],{ε:=pM B (s++cW l b)++ext,η:=T}):=by
 refine δ.lists (P:=fun l=>∀(c:τ),bm c->δ.cm l->δ.Rs l->∀b:List Nat,b.length+2*δ.du l<=100->δ.bC l<1000000000->∀(s:List Nat),s.length+(cW l b).length<=1000000000->∀(ext:List θ) (T:List Nat),
  ab (C u) (.fn (.func 105) [] [.κ B.length 0,.κ (B.length+1) 0]) [.list c (δ.χ l),.str b] {ε:=pM B s++ext,η:=T}=some (.aU [],{ε:=pM B (s++cW l b)++ext,η:=T})) (fun l ih c hc aj hR b hb hw s hs ext T=>?_) l
 refine ku (g:=FO) rfl rfl rfl (by simp[Ea]) ?_;have abA:B.length<(pM B s++ext).length:=by simp[Ea];omega
 have abB:B.length+1<(pM B s++ext).length:=by simp[Ea];omega
 simp only[bB,cy,ax,aI,rp hc aj];simp only[exp,abA,abB,if_true,FO,c105];have wR:=δ.zM l;have eI:∀M:Mem,M.ν=ν:=fun _=>rfl;let K:St->Prop:=fun st=>st.e 1= .str b/\st.e 2= .κ B.length 0/\st.e 3= .κ (B.length+1) 0;let J:Nat->St->Prop:=fun i st=>K st/\st.e 11= .list c (δ.χ l)/\st.e 12= .n l.length/\st.e 13= .n i;let PM:List Nat->List θ->St->Prop:=fun s x st=>st.mem= {ε:=pM B s++x,η:=[]};let I:Nat->St->Prop:=fun i st=>J i st/\∃x,PM (s++cW (l.take i) b) (ext++x) st;refine Ψ (fun st=>J 0 st/\PM s ext st) (by simp[J,K,PM,uF]) fun s4 ⟨a1,a2⟩=>?_;refine μ.block (μ.upto (I:=I) l.length ⟨a1,[],by simpa[cW]using a2⟩ (fun i st ψ Ω=>?_) (fun st Ω=>?_))
 ·obtain⟨⟨⟨h1,h2,h3⟩,q1,q2,q3⟩,x,h4⟩:=Ω;simp only[PM]at h4;have mE:bN .i64 ((i:Int)+1)=(i:Int)+1:=wrap_i64 (by omega) (by omega);have hg:=I7 l i ψ;have hm:l[i]∈l:=db ψ;have rI:=δ.gK aj _ hm;have hRi:=δ.ah8 hR _ hm;obtain⟨qC,oR⟩:=ih _ hm;have nT:=δ.kP hm;have dm:=δ.Oj rI;have yM:=δ.Kd rI;have eH:=δ.xB l[i];have hdm:=ZP hm;have hle:=aeT l b i ψ;have lC:s++cW (l.take (i+1)) b=(s++cW (l.take i) b)++gn l[i] b:=by rw[xJ ψ,aeV,bQ]
  have hSl:(s++cW (l.take i) b).length+(gn l[i] b).length<=1000000000:=by simp;omega
  generalize s++cW (l.take i) b=S at*;generalize l[i]=y at*;have HG:=aeR y b;obtain⟨TJ,hRb,hRe⟩:=abb hRi;have hhl:=TD TJ;have Rw:=fun m=>f107 (u:=u) y rI TJ m;have rm:=fun m=>f108 (u:=u) y rI m;have Hq:=ZO y;have k0:=cell0 y;have kt:=Rg y;have kl:=δ.ll y;have ek:b.length<=100:=by omega
  have hbw:=YC y.kind;generalize bY y.kind y.gate y.name y.pl y.size y.to=hd at*;simp only[δ.av,iG]at hg Rw rm;have LG:(gn y b).length=b.length+hd.length+((iO y b y.blocks.length).length+(if 0<y.blocks.length then b.length+2 else 2)):=by rw[HG];simp only[cX];split<;>simp
  let J2:St->Prop:=fun st=>J i st/\∃v,st.e 7= .ak 7 v 0/\st.q 7=some (v,.cells y.cells);refine Ψ (fun st=>J i st/\PM S (ext++x) st/\st.e 14= .bool true) (by simp[J,K,PM,h1,h2,h3,h4,q1,q2,q3,ψ]) fun s5 ⟨⟨⟨h1,h2,h3⟩,q1,q2,q3⟩,h4,q4⟩=>?_;simp only[PM]at h4;refine Ψ (fun st=>J i st/\PM S (ext++x) st) (by simp[J,K,PM,h1,h2,h3,h4,q1,q2,q3,q4]) fun s5 ⟨⟨⟨h1,h2,h3⟩,q1,q2,q3⟩,h4⟩=>?_;simp only[PM]at h4;refine bS (fun st=>J i st/\∃x2,PM (S++gn y b) (ext++x2) st) ?_ fun s6 ⟨⟨⟨h1,h2,h3⟩,q1,q2,q3⟩,x2,h4⟩=>by simp only[PM]at h4;exact μ.fin (M:=fun st=>J (i+1) st/\PM (S++gn y b) (ext++x2) st) .normal (by simp[J,K,PM,h1,h2,h3,h4,q1,q2,q3,mE]) fun s' ⟨d1,d2⟩=> .inl ⟨rfl,d1,x2,by rw[lC];exact d2⟩
  refine μ.block ?_;refine Ψ (fun st=>J2 st/\PM S (ext++x) st) (by simp[J2,J,K,PM,h1,h2,h3,h4,q1,q2,q3,ψ,hg,kl,kt,uF]) fun s5 ⟨⟨⟨⟨h1,h2,h3⟩,q1,q2,q3⟩,v,q4,q5⟩,h4⟩=>?_;simp only[PM]at h4;have a1:cD .add b hd=some (.str (b++hd)):=er (by omega);have w1:=f106 (u:=u) B S (b++hd) (ext++x) [] (by simp;omega);refine Ψ (fun st=>J2 st/\PM (S++(b++hd)) (ext++x) st) (by simp[J2,J,K,PM,h1,h2,h3,h4,q1,q2,q3,q4,q5,kl,kt,Rw,a1,w1]) fun s5 ⟨⟨⟨⟨h1,h2,h3⟩,q1,q2,q3⟩,v,q4,q5⟩,h4⟩=>?_;simp only[PM]at h4;let x2:List θ:=x++[.map [(.n 7,.str [101,108,115,101]),(.n 11,.str [97,112,112,108,121])]];refine Ψ (fun st=>J2 st/\PM (S++(b++hd)) (ext++x2) st/\st.e 8= .str (jo y.kind)) (by
   have Ba:pM B (S++(b++hd))++(ext++x2)=(pM B (S++(b++hd))++(ext++x))++[.map [(.n 7,.str [101,108,115,101]),(.n 11,.str [97,112,112,108,121])]]:=by simp[x2]
   simp only[PM];rw[Ba];generalize pM B (S++(b++hd))++(ext++x)=BB at*;by_cases k7:y.kind=7
   ·rw[k7]at k0;simp[J2,J,K,h1,h2,h3,h4,q1,q2,q3,q4,q5,kl,k0,k7,Mem.push,Mem.put,isKey,plain,uj,jM,jz,jo]
   ·by_cases DV:y.kind=11
    ·rw[DV]at k0;simp[J2,J,K,h1,h2,h3,h4,q1,q2,q3,q4,q5,kl,k0,DV,Mem.push,Mem.put,isKey,plain,uj,jM,jz,jo]
    ·simp[J2,J,K,h1,h2,h3,h4,q1,q2,q3,q4,q5,kl,k0,k7,DV,Mem.push,Mem.put,isKey,plain,uj,jM,jz,jo]) fun s5 ⟨⟨⟨⟨h1,h2,h3⟩,q1,q2,q3⟩,v,q4,q5⟩,h4,q6⟩=>?_
  simp only[PM]at h4;generalize Tf:S++(b++hd)=S2 at*;have ajR:S2.length=S.length+b.length+hd.length:=by rw[<-Tf];simp;omega
  refine bS (fun st=>J2 st/\∃x3,PM (S2++iO y b y.blocks.length) (ext++x3) st) ?_ fun s5 ⟨⟨⟨⟨h1,h2,h3⟩,q1,q2,q3⟩,v,q4,q5⟩,x3,h4⟩=>?_
  ·let JB:St->Prop:=fun st=>J2 st/\st.e 8= .str (jo y.kind)/\st.e 28=iG y/\st.e 29= .n y.blocks.length;let I2:Nat->St->Prop:=fun j st=>JB st/\st.e 30= .n j/\∃x3,PM (S2++iO y b j) (ext++x3) st;refine Ψ (fun st=>JB st/\st.e 30= .n 0/\PM S2 (ext++x2) st) (by simp[JB,J2,J,K,PM,h1,h2,h3,h4,q1,q2,q3,q4,q5,q6,kl,kt,rm,iG]) fun s6 ⟨a1,a2,a3⟩=>?_;refine μ.block (μ.upto (I:=I2) y.blocks.length ⟨a1,a2,x2,by simpa[iO]using a3⟩ (fun j st fG Ω=>?_) (fun st Ω=>?_))
   ·obtain⟨⟨⟨⟨⟨h1,h2,h3⟩,q1,q2,q3⟩,v,q4,q5⟩,q6,z1,z2⟩,z3,x3,h4⟩:=Ω;simp only[PM]at h4;have dS:=agM y b (show j+1<=y.blocks.length by omega);have aaU:=hSl;rw[LG]at aaU;have pK:2<=(if 0<y.blocks.length then b.length+2 else 2):=by split<;>omega
    have dA:y.blocks.length<=2:=by unfold δ.blocks;split<;>(try split)<;>simp
    have rM:bN .i64 ((j:Int)+1)=(j:Int)+1:=wrap_i64 (by omega) (by omega);simp only[iG,fp]at z1;have hj:j=0\/j=1:=by omega
    rcases hj with rfl|rfl
    ·obtain⟨TK,gF⟩:=E8 fG;have ko:y.blocks[0]=(y.cb,y.body):=by rw[dp fG]at gF;simpa using gF
     rw[TK]at Hq;simp only[if_true]at Hq;have yN:iO y b (0+1)=[32,123,10]++cW y.body (b++[32,32]):=by simp[iO,fo]
     have oP:iO y b 0=[]:=by simp[iO]
     rw[yN]at dS;rw[oP,dM]at h4;simp only[cX,cN,eT]at dS;have a1:cD .add b [32,32]=some (.str (b++[32,32])):=er (by simp;omega);have w2:=f106 (u:=u) B S2 [32,123,10] (ext++x3) [] (by simp;omega);have w3:=qC y.cb yM.1 dm.1 (hRb TK) (b++[32,32]) (by simp;omega) (by omega) (S2++[32,123,10]) (by simp;omega) (ext++x3) [];have p1:=On B (S2++[32,123,10]) (ext++x3);refine μ.fin (M:=fun st=>JB st/\st.e 30= .n 1/\PM (S2++[32,123,10]++cW y.body (b++[32,32])) (ext++x3) st) .normal (by
      have rL:bN .i64 1=1:=by decide
      simp only[PM];generalize S2++[32,123,10]++cW y.body (b++[32,32])=S4 at*;generalize S2++[32,123,10]=S3 at*;simp[Bh,JB,J2,J,K,h1,h2,h3,h4,q1,q2,q3,q4,q5,q6,z1,z2,z3,fG,ko,w2,p1,a1,w3,iG,fp,rL]) fun s' ⟨d1,d2,d3⟩=> .inl ⟨rfl,d1,d2,x3,?_⟩
     rw[yN,<-bQ];exact d3
    ·obtain⟨TL,dr⟩:=Ys fG;have ko:y.blocks[1]=(y.ce,y.els):=by rw[dp fG]at dr;simpa using dr
     rw[TL]at Hq;simp only[if_true]at Hq;have rL:bN .i64 2=2:=by decide
     have MA:(1:Int)<(y.blocks.length:Int):=by omega
     by_cases C3:y.kind=7/\y.els.length=0
     ·have lA:iO y b (1+1)=iO y b 1:=by simp only[iO,C3];simp
      have hen:y.els=[]:=nq C3.2;rw[C3.1]at k0;refine μ.fin (M:=fun st=>JB st/\st.e 30= .n 2/\PM (S2++iO y b 1) (ext++x3) st) .normal (by
       simp only[PM]
       generalize S2++iO y b 1=S3 at*;simp[Bh,JB,J2,J,K,h1,h2,h3,h4,q1,q2,q3,q4,q5,q6,z1,z2,z3,fG,MA,ko,kl,k0,hen,δ.χ,iG,fp,rL]) fun s' ⟨d1,d2,d3⟩=> .inl ⟨rfl,d1,d2,x3,?_⟩
      rw[lA];exact d3
     ·have lA:iO y b (1+1)=iO y b 1++(b++[125,32]++jo y.kind)++[32,123,10]++cW y.els (b++[32,32]):=by simp only[iO,show 0<1+1 by decide,show 1<1+1 by decide,show 0<1 by decide,show¬1<1 by decide,if_true,C3,not_false_eq_true,and_self,fo,false_and,if_false,dM];simp
      rw[lA]at dS;simp only[cX,cN,eT]at dS;generalize Hj:S2++iO y b 1=S3 at*;have aaT:S3.length=S2.length+(iO y b 1).length:=by rw[<-Hj];simp
      have a1:cD .add b [32,32]=some (.str (b++[32,32])):=er (by simp;omega);have a2:cD .add b [125,32]=some (.str (b++[125,32])):=er (by simp;omega);have a3:cD .add (b++[125,32]) (jo y.kind)=some (.str (b++[125,32]++jo y.kind)):=er (by simp;omega);have w2:=f106 (u:=u) B S3 (b++[125,32]++jo y.kind) (ext++x3) [] (by simp;omega);have w3:=f106 (u:=u) B (S3++(b++[125,32]++jo y.kind)) [32,123,10] (ext++x3) [] (by simp;omega);have w4:=oR y.ce yM.2 dm.2 (hRe TL) (b++[32,32]) (by simp;omega) (by omega) (S3++(b++[125,32]++jo y.kind)++[32,123,10]) (by simp;omega) (ext++x3) [];have p1:=On B (S3++(b++[125,32]++jo y.kind)++[32,123,10]) (ext++x3);have φ:y.kind=7->((y.els.length:Int)==0)=false:=fun h=>by have:¬y.els.length=0:=fun h2=>C3 ⟨h,h2⟩;simp;intro h3;rw[h3]at this;exact this rfl
      refine μ.fin (M:=fun st=>JB st/\st.e 30= .n 2/\PM (S3++(b++[125,32]++jo y.kind)++[32,123,10]++cW y.els (b++[32,32])) (ext++x3) st) .normal (by
       simp only[PM]
       generalize S3++(b++[125,32]++jo y.kind)++[32,123,10]++cW y.els (b++[32,32])=S6 at*;generalize S3++(b++[125,32]++jo y.kind)++[32,123,10]=S5 at*;generalize S3++(b++[125,32]++jo y.kind)=S4 at*;generalize b++[125,32]++jo y.kind=tb at*;by_cases k7:y.kind=7
       ·have HH:=φ k7;rw[k7]at k0 q6 a3;simp[Bh,JB,J2,J,K,h1,h2,h3,h4,q1,q2,q3,q4,q5,q6,z1,z2,z3,fG,MA,ko,kl,k0,k7,uF,HH,w2,w3,p1,a1,a2,a3,w4,iG,fp,rL]
       ·simp[Bh,JB,J2,J,K,h1,h2,h3,h4,q1,q2,q3,q4,q5,q6,z1,z2,z3,fG,MA,ko,kl,k0,eK k7,w2,w3,p1,a1,a2,a3,w4,iG,fp,rL]) fun s' ⟨d1,d2,d3⟩=> .inl ⟨rfl,d1,d2,x3,?_⟩
      have:S2++(iO y b 1++(b++[125,32]++jo y.kind)++[32,123,10]++cW y.els (b++[32,32]))=S3++(b++[125,32]++jo y.kind)++[32,123,10]++cW y.els (b++[32,32]):=by rw[<-Hj];simp
      rw[lA,this];exact d3
   ·obtain⟨⟨⟨⟨⟨h1,h2,h3⟩,q1,q2,q3⟩,v,q4,q5⟩,q6,z1,z2⟩,z3,x3,h4⟩:=Ω;simp only[PM]at h4;refine μ.fin (M:=fun st=>J2 st/\PM (S2++iO y b y.blocks.length) (ext++x3) st) (.exit 2) (by simp[Bh,J2,J,K,PM,h1,h2,h3,h4,q1,q2,q3,q4,q5,q6,z1,z2,z3]) fun s' ⟨d1,d2⟩=>?_;exact⟨by simp,.inl ⟨rfl,.inl ⟨rfl,d1,x3,d2⟩⟩⟩
  ·simp only[PM]at h4;have hLL:S++gn y b=S2++iO y b y.blocks.length++(if 0<y.blocks.length then b++[125,10]else[59,10]):=by rw[HG,<-Tf];simp
   rw[hLL];generalize Hj:S2++iO y b y.blocks.length=S3 at*;have aaT:S3.length=S2.length+(iO y b y.blocks.length).length:=by rw[<-Hj];simp
   by_cases h0:0<y.blocks.length
   ·rw[if_pos h0]at LG⊢;have wD:(0:Int)<(y.blocks.length:Int):=by omega
    have a1:cD .add b [125,10]=some (.str (b++[125,10])):=er (by simp;omega);have w2:=f106 (u:=u) B S3 (b++[125,10]) (ext++x3) [] (by simp;omega);refine μ.fin (M:=fun st=>J i st/\PM (S3++(b++[125,10])) (ext++x3) st) .normal (by simp[J,K,PM,h1,h2,h3,h4,q1,q2,q3,q4,q5,kl,kt,rm,h0,wD,a1,w2]) fun s' ⟨d1,d2⟩=>?_;simp;exact⟨d1,x3,d2⟩
   ·rw[if_neg h0]at LG⊢;have wD:¬(0:Int)<(y.blocks.length:Int):=by omega
    have w2:=f106 (u:=u) B S3 [59,10] (ext++x3) [] (by simp;omega);refine μ.fin (M:=fun st=>J i st/\PM (S3++[59,10]) (ext++x3) st) .normal (by simp[J,K,PM,h1,h2,h3,h4,q1,q2,q3,q4,q5,kl,kt,rm,h0,wD,w2]) fun s' ⟨d1,d2⟩=>?_;simp;exact⟨d1,x3,d2⟩
 ·obtain⟨⟨⟨h1,h2,h3⟩,q1,q2,q3⟩,x,h4⟩:=Ω;simp only[PM]at h4;rw[pa]at h4;simp[UW,h1,h2,h3,h4,q1,q2,q3,Sd]
theorem f111(B:List θ)(s:List Nat)(ext:List θ)(T:List Nat):
  kf u 111 [.κ B.length 0] {ε:=pM B s++ext,η:=T}=some (.str s,{ε:=B++([.dead,.cells [.fn (.func 105) [] [.κ B.length 0,.κ (B.length+1) 0]]]++ext),η:=T}):=by
 refine Cl (p:=xq 150 5) (by rfl) ?_;have hl:B.length<(pM B s++ext).length:=by simp[Ea];omega
 have he:∀k,([]++[AV.κ B.length 0]++[]).map (exp (pM B s++ext).length k)=[.κ B.length 0]:=fun k=>by simp only[bB,dM,ax,aI,exp,hl,if_true]
 rw[he];simp only[xq,V2,and_self,if_true,Mem.put];simp[pM]
def IS(ps:List ξ):List Nat:=if mQ ps=0 then cM ps else[]
theorem f25(dE:τ)(mV:bm dE)(ps:List ξ)(dd:∀x∈ps,x.Ok)(cI:gC ps<1000000000)(m:Mem):
  kf u 25 [ti dE ps] m=some (.aU [.str (IS ps),.n (mQ ps)],m):=by
 have Fz:=fun m=>f43 (u:=u) dE mV ps dd (by omega) m;refine dt (g:=GL) rfl rfl rfl ?_;simp only[ax,aI,RU mV dd];simp only[GL,QI,ti]at Fz⊢;have hz:∀bs n (a:List Nat) (i:Int),aQ bs n 8 (.aU [.str a,.n i])= .aU [.str a,.n i]:=fun _ _ _ _=>rfl;have eI:∀M:Mem,M.ν=ν:=fun _=>rfl;let K:St->Prop:=fun st=>st.e 1= .ak 1 0 0/\st.q 1=some (0,.cells [.list dE (ps.map ξ.av)]);refine Ψ (fun st=>K st/\st.mem= {ε:=m.ε,η:=[]}) (by simp[K,bJ]) fun s1 ⟨⟨h1,h2⟩,h3⟩=>?_;unfold IS;by_cases hc:mQ ps=0
 case neg=>
  rw[if_neg hc]
  refine bS (fun _=>False) ?_ fun _ h=>h.elim;simp[h1,h2,h3,Fz,bne_true hc,hz]
 rw[if_pos hc];obtain⟨aj7,hR⟩:=Zj hc;rw[hc]at Fz⊢;refine Ψ (fun st=>K st/\st.mem= {ε:=m.ε,η:=[]}) (by simp[K,h1,h2,h3,Fz]) fun s1 ⟨⟨h1,h2⟩,h3⟩=>?_;refine Ψ (fun st=>K st/\st.e 5= .κ m.ε.length 0/\st.mem= {ε:=m.ε++[.ny 150 5 []],η:=[]}) (by simp[K,h1,h2,h3,Mem.push]) fun s1 ⟨⟨h1,h2⟩,h4,h3⟩=>?_;refine Ψ (fun st=>K st/\st.e 5= .κ m.ε.length 0/\st.e 6= .κ (m.ε.length+1) 0/\st.mem= {ε:=m.ε++[.ny 150 5 [],.cells [.eQ]],η:=[]}) (by simp[K,h1,h2,h3,h4,Mem.push,eI,ν]) fun s1 ⟨⟨h1,h2⟩,h4,h5,h3⟩=>?_;let PM:List Nat->List θ->St->Prop:=fun s x st=>st.mem= {ε:=pM m.ε s++x,η:=[]};let K2:St->Prop:=fun st=>K st/\st.e 5= .κ m.ε.length 0/\st.e 6= .κ (m.ε.length+1) 0;refine Ψ (fun st=>K2 st/\PM [] [] st) (by simp[K2,K,PM,pM,h1,h2,h3,h4,h5,Mem.put,eI,ν,cG,bn,lo,Fn.below]) fun s1 ⟨⟨⟨h1,h2⟩,h4,h5⟩,h3⟩=>?_;simp only[PM]at h3;refine bS (fun st=>K2 st/\∃x,PM (cM ps) x st) ?_ fun s1 ⟨⟨⟨h1,h2⟩,h4,h5⟩,x,h3⟩=>?_
 ·let J:Nat->St->Prop:=fun i st=>K2 st/\st.e 19= .list dE (ps.map ξ.av)/\st.e 20= .n ps.length/\st.e 21= .n i;let I:Nat->St->Prop:=fun i st=>J i st/\∃x,PM (cM (ps.take i)) x st;refine Ψ (fun st=>J 0 st/\PM [] [] st) (by simp[J,K2,K,PM,h1,h2,h3,h4,h5]) fun s4 ⟨a1,a2⟩=>?_;refine μ.block (μ.upto (I:=I) ps.length ⟨a1,[],a2⟩ (fun i st ψ Ω=>?_) (fun st Ω=>?_))
  ·obtain⟨⟨⟨⟨h1,h2⟩,h4,h5⟩,q1,q2,q3⟩,x,h3⟩:=Ω;simp only[PM]at h3;have mE:bN .i64 ((i:Int)+1)=(i:Int)+1:=wrap_i64 (by omega) (by omega);have hm:ps[i]∈ps:=db ψ;have aj:=dd _ hm;have hr:=hR _ hm;have nT:=ξ.kP hm;simp only[ξ.wt]at nT;have ajS:(cM (ps.take i)).length<=2400000:=by have:=ag8 (ps.take i) fun x hx=>hR x (List.mem_of_mem_take hx);rw[lM]at this;omega
   have lC:cM (ps.take (i+1))=cM (ps.take i)++ps[i].text:=by rw[xJ ψ,ag7]
   have wR:=aeW ps[i].body [32,32] hr.body (by have:=hr.du;simp;omega) (by have:=hr.bK;omega);have jV:=hr.name;have HI:=hr.au;have Uq:=hr.par;have MN:=agH _ Uq HI;simp only[ξ.text,fo]at lC;generalize cM (ps.take i)=S at*;let P:List AV:=[.str ps[i].name,.list ps[i].cp (ps[i].au.map ai.av),.list ps[i].cb (δ.χ ps[i].body)];let J2:St->Prop:=fun st=>J i st/\∃v,st.e 8= .ak 8 v 0/\st.q 8=some (v,.cells P);refine Ψ (fun st=>J i st/\PM S x st/\st.e 22= .bool true) (by simp[J,K2,K,PM,h1,h2,h3,h4,h5,q1,q2,q3,ψ]) fun s5 ⟨⟨⟨⟨h1,h2⟩,h4,h5⟩,q1,q2,q3⟩,h3,q4⟩=>?_;simp only[PM]at h3;refine Ψ (fun st=>J i st/\PM S x st) (by simp[J,K2,K,PM,h1,h2,h3,h4,h5,q1,q2,q3,q4]) fun s5 ⟨⟨⟨⟨h1,h2⟩,h4,h5⟩,q1,q2,q3⟩,h3⟩=>?_;simp only[PM]at h3;refine bS (fun st=>J i st/\∃x2,PM (cM (ps.take (i+1))) x2 st) ?_ fun s6 ⟨⟨⟨⟨h1,h2⟩,h4,h5⟩,q1,q2,q3⟩,x2,h3⟩=>by simp only[PM]at h3;exact μ.fin (M:=fun st=>J (i+1) st/\PM (cM (ps.take (i+1))) x2 st) .normal (by simp[J,K2,K,PM,h1,h2,h3,h4,h5,q1,q2,q3,mE]) fun s' ⟨d1,d2⟩=> .inl ⟨rfl,d1,x2,d2⟩
   refine μ.block ?_;refine Ψ (fun st=>J2 st/\PM S x st) (by simp[J2,J,K2,K,PM,P,h1,h2,h3,h4,h5,q1,q2,q3,ψ,ξ.av]) fun s5 ⟨⟨⟨⟨⟨h1,h2⟩,h4,h5⟩,q1,q2,q3⟩,v,q4,q5⟩,h3⟩=>?_;simp only[PM]at h3;simp only[P]at q5;refine Ψ (fun st=>J2 st/\PM S x st/\st.e 9= .list .nil []) (by simp[J2,J,K2,K,PM,P,h1,h2,h3,h4,h5,q1,q2,q3,q4,q5]) fun s5 ⟨⟨⟨⟨⟨h1,h2⟩,h4,h5⟩,q1,q2,q3⟩,v,q4,q5⟩,h3,q6⟩=>?_;simp only[PM]at h3;simp only[P]at q5;refine bS (fun st=>J2 st/\∃x2 cp,PM S x2 st/\st.e 9= .list cp ((ps[i].au.map ai.text).map AV.str)) ?_ fun s6 ⟨⟨⟨⟨⟨h1,h2⟩,h4,h5⟩,q1,q2,q3⟩,v,q4,q5⟩,x2,cp,h3,q6⟩=>?_
   ·let JX:St->Prop:=fun st=>J2 st/\st.e 26= .list ps[i].cp (ps[i].au.map ai.av)/\st.e 27= .n ps[i].au.length;let I2:Nat->St->Prop:=fun k st=>JX st/\st.e 28= .n k/\∃x2 cp,PM S x2 st/\st.e 9= .list cp (((ps[i].au.take k).map ai.text).map AV.str)/\oe (pM m.ε S).length (pM m.ε S++x2) 1 9 cp k;refine Ψ (fun st=>JX st/\st.e 28= .n 0/\PM S x st/\st.e 9= .list .nil []) (by simp[JX,J2,J,K2,K,PM,P,h1,h2,h3,h4,h5,q1,q2,q3,q4,q5,q6]) fun s6 ⟨a1,a2,a3,a4⟩=>?_;refine μ.block (μ.upto (I:=I2) ps[i].au.length ⟨a1,a2,x,.nil,a3,a4,oe.nil⟩ (fun k st fG Ω=>?_) (fun st Ω=>?_))
    ·obtain⟨⟨⟨⟨⟨⟨h1,h2⟩,h4,h5⟩,q1,q2,q3⟩,v,q4,q5⟩,z1,z2⟩,z3,x2,cp,h3,z4,r⟩:=Ω;simp only[PM]at h3;simp only[P]at q5;have hwk:bN .i64 ((k:Int)+1)=(k:Int)+1:=wrap_i64 (by omega) (by omega);have HJ:ps[i].au[k]∈ps[i].au:=db fG;obtain⟨n1,n2,n3⟩:=Uq _ HJ;have ZX:=fun m=>f109 (u:=u) ps[i].au[k].size (by omega) (by omega) m;have hd:=Cv ps[i].au[k].size.toNat;have nR:((ps[i].au.take (k+1)).map ai.text).map AV.str=((ps[i].au.take k).map ai.text).map AV.str++[.str (ps[i].au[k]).text]:=by rw[xJ fG,kQ,kQ];rfl
     have LI:(((ps[i].au.take k).map ai.text).map AV.str).length=k:=by rw[cz,cz,lM];omega
     have M7:=(O7 0 ((ps[i].au.take k).map ai.text)).s;generalize((ps[i].au.take k).map ai.text).map AV.str=LQ at*;obtain⟨dD,x3,b1,b2,-⟩:=O5 (v:=(ps[i].au[k]).text) r LI M7 (by omega);simp only[ai.text]at b1 nR;generalize gi ps[i].au[k].size.toNat=td at*;have a1:cD .add ps[i].au[k].name [91]=some (.str (ps[i].au[k].name++[91])):=er (by simp;omega);have a2:cD .add (ps[i].au[k].name++[91]) td=some (.str (ps[i].au[k].name++[91]++td)):=er (by simp;omega);have a3:cD .add (ps[i].au[k].name++[91]++td) [93]=some (.str (ps[i].au[k].name++[91]++td++[93])):=er (by simp;omega);simp only[bQ,cy,bB]at a1 a2 a3 b1 nR;refine μ.fin (M:=fun st=>JX st/\st.e 28= .n ((k:Int)+1)/\PM S x3 st/\st.e 9= .list dD (LQ++[.str (ps[i].au[k].name++91::(td++[93]))])) .normal (by simp[ND,JX,J2,J,K2,K,PM,P,h1,h2,h3,h4,h5,q1,q2,q3,q4,q5,z1,z2,z3,z4,fG,ai.av,ZX,a1,a2,a3,c7,de,shaped,AV.one,eI,ν,b1,hwk]) fun s' ⟨d1,d2,d3,d4⟩=> .inl ⟨rfl,d1,d2,x3,dD,d3,by rw[nR];exact d4,b2⟩
    ·obtain⟨⟨⟨⟨⟨⟨h1,h2⟩,h4,h5⟩,q1,q2,q3⟩,v,q4,q5⟩,z1,z2⟩,z3,x2,cp,h3,z4,r⟩:=Ω;simp only[PM]at h3;simp only[P]at q5;rw[pa]at z4;refine μ.fin (M:=fun st=>J2 st/\PM S x2 st/\st.e 9= .list cp ((ps[i].au.map ai.text).map AV.str)) (.exit 2) (by simp[ND,J2,J,K2,K,PM,P,h1,h2,h3,h4,h5,q1,q2,q3,q4,q5,z1,z2,z3,z4]) fun s' ⟨d1,d2,d3⟩=>?_;exact⟨by simp,.inl ⟨rfl,.inl ⟨rfl,d1,x2,cp,d2,d3⟩⟩⟩
   ·simp only[PM]at h3;simp only[P]at q5;have Rx:=fun c m=>f110 (u:=u) c (ps[i].au.map ai.text) (by omega) (by rw[cz];omega) m;rw[cT]at q6 Rx;generalize lq (ps[i].au.map ai.text)=tp at*;have a1:cD .add [112,114,111,99,32] ps[i].name=some (.str ([112,114,111,99,32]++ps[i].name)):=er (by simp;omega);have a2:cD .add ([112,114,111,99,32]++ps[i].name) [40]=some (.str ([112,114,111,99,32]++ps[i].name++[40])):=er (by simp;omega);have a3:cD .add ([112,114,111,99,32]++ps[i].name++[40]) tp=some (.str ([112,114,111,99,32]++ps[i].name++[40]++tp)):=er (by simp;omega);have a4:cD .add ([112,114,111,99,32]++ps[i].name++[40]++tp) [41,32,123,10]=some (.str ([112,114,111,99,32]++ps[i].name++[40]++tp++[41,32,123,10])):=er (by simp;omega);have w1:=f106 (u:=u) m.ε S ([112,114,111,99,32]++ps[i].name++[40]++tp++[41,32,123,10]) x2 [] (by simp;omega);have w2:=f105 (u:=u) m.ε ps[i].body ps[i].cb aj.2.2.2.1 aj.2.2.2.2.1 hr.body [32,32] (by have:=hr.du;simp;omega) (by omega) (S++([112,114,111,99,32]++ps[i].name++[40]++tp++[41,32,123,10])) (by simp;omega) x2 [];have p1:=On m.ε (S++([112,114,111,99,32]++ps[i].name++[40]++tp++[41,32,123,10])) x2;have w3:=f106 (u:=u) m.ε (S++([112,114,111,99,32]++ps[i].name++[40]++tp++[41,32,123,10])++cW ps[i].body [32,32]) [125,10] x2 [] (by simp;omega);have tV:cM (ps.take (i+1))=S++([112,114,111,99,32]++ps[i].name++[40]++tp++[41,32,123,10])++cW ps[i].body [32,32]++[125,10]:=by rw[lC];simp
    rw[tV];refine μ.fin (M:=fun st=>J i st/\PM (S++([112,114,111,99,32]++ps[i].name++[40]++tp++[41,32,123,10])++cW ps[i].body [32,32]++[125,10]) x2 st) .normal (by
     simp only[PM]
     generalize S++([112,114,111,99,32]++ps[i].name++[40]++tp++[41,32,123,10])++cW ps[i].body [32,32]++[125,10]=S5 at*;generalize S++([112,114,111,99,32]++ps[i].name++[40]++tp++[41,32,123,10])++cW ps[i].body [32,32]=S4 at*;generalize S++([112,114,111,99,32]++ps[i].name++[40]++tp++[41,32,123,10])=S3 at*;simp only[bQ,cy,bB]at a1 a2 a3 a4 w1;simp[J,K2,K,h1,h2,h3,h4,h5,q1,q2,q3,q4,q5,q6,Rx,a1,a2,a3,a4,w1,w2,w3,p1,c7,de]) fun s' ⟨d1,d2⟩=>?_
    simp;exact⟨d1,x2,by simpa using d2⟩
  ·obtain⟨⟨⟨⟨h1,h2⟩,h4,h5⟩,q1,q2,q3⟩,x,h3⟩:=Ω;simp only[PM]at h3;rw[pa]at h3;refine μ.fin (M:=fun st=>K2 st/\PM (cM ps) x st) (.exit 0) (by simp[Vd,K2,K,PM,h1,h2,h3,h4,h5,q1,q2,q3]) fun s' ⟨d1,d2⟩=>?_;exact⟨by simp,.inl ⟨rfl,.inl ⟨rfl,d1,x,d2⟩⟩⟩
 ·simp only[PM]at h3;have ZY:=f111 (u:=u) m.ε (cM ps) x [];simp[h1,h2,h3,h4,h5,ZY,hz]
end Go.Δ.Tz
