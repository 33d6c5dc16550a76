import Derived.Test.YtiigojkfojnedaaGreatDoorSHm
set_option linter.all false
set_option maxRecDepth 100000
set_option maxHeartbeats 8000000
open List renaming eq_nil_of_length_eq_zero->np,cons_append->cG,append_assoc->bO,length_append->cI,length_cons->cD,length_map->cg,map_map->cT,map_congr_left->de,map_cons->az,map_nil->aJ,findIdx?_eq_some_iff_getElem->tU,findIdx?_eq_none_iff->wG,contains_iff_mem->yd,getElem_mem->c_,nil_append->bE,getElem_cons_succ->pF,append_nil->dF,length_nil->eO,take_succ_eq_append_getElem->wI,map_append->kr,length_take->lD,take_length->pH,length_pos_iff->qs,getElem?_eq_getElem->dn
open Go.IntKind renaming wrap->bC
open Bool renaming false_and->alK,true_and->rr
open Nat renaming le_refl->bS
namespace Go.Θ.Tz
open Go.Θ
variable{u:Nat}
attribute [local simp] exec dY dP eX aI dw fA eN aK fL bQ iu iE iM jd AV.cells newVar iX rd wr gT single dk e_ ew κ cK RV.get cL fT kz rO
theorem eF{a b:List Nat}(h:a.length+b.length<1000000000000):cE .add a b=some (.str (a++b)):=by simp only[cE];rw[if_neg];show¬((a.length+b.length:Nat):Int)>9223372036854775807;omega
theorem XZ{k n:Int}{s:List Nat}{c:ρ}{l:List ζ}(h:(ζ.mk k n s c l).mG):(k=1/\0<=n/\n<100/\l=[])\/(k=2/\l=[])\/((k=3\/k=4\/k=5)/\∃a b,l=[a,b]):=by
 simp only[ζ.mG]at h;obtain⟨h1,-,-⟩:=h;unfold kX at h1;by_cases c1:k<1\/5<k\/(k=1/\(n<0\/99<n))
 ·rw[if_pos c1]at h1;cases h1
 rw[if_neg c1]at h1;by_cases c2:(3<=k/\l.length≠2)\/(k<3/\l.length≠0)
 ·rw[if_pos c2]at h1;cases h1
 have hk:k=1\/k=2\/3<=k:=by omega
 rcases hk with hk|hk|hk
 ·exact .inl ⟨hk,by omega,by omega,np (by omega)⟩
 ·exact .inr (.inl ⟨hk,np (by omega)⟩)
 ·have h2:l.length=2:=by omega
  match l,h2 with
  |[a,b],_=>exact .inr (.inr ⟨by omega,a,b,rfl⟩)
theorem Pd(s:List Nat):paren false s=s:=rfl
theorem af1(l:List δ)(x:δ)(b:List Nat):dj (l++[x]) b=dj l b++jr x b:=by
 induction l with
 |nil=>simp[dj]
 |cons a l ih=>simp only[cG,dj,ih,bO]
theorem aaP{l:List δ}{x:δ}(h:x∈l):x.deep<=δ.dA l:=by
 induction l with
 |nil=>cases h
 |cons a l ih=>
  simp only[δ.dA]
  rcases List.mem_cons.1 h with rfl|h
  ·omega
  ·have:=ih h;omega
theorem af2(l:List δ)(b:List Nat)(h:δ.Rs l)(hb:b.length+2*δ.dA l<=100)(hc:δ.bL l<=1000):(dj l b).length<=1500000:=by have h1:=Wm 100 l b h hb;have h2:δ.bL l*(3*100+1200)<=1000*(3*100+1200):=Nat.mul_le_mul_right _ hc;omega
theorem ach{x:δ}(h:x.R):Bo x.kind x.gate x.name x.pl x.size x.to/\(aU x.kind=true->δ.Rs x.body)/\(bm x.kind=true->δ.Rs x.els):=by cases x;exact h
theorem afW(x:δ)(b:List Nat):jr x b=b++cm x.kind x.gate x.name x.pl x.size x.to++
   (if aU x.kind=false then[59,10]
    else[32,123,10]++dj x.body (b++fJ)++
    (if bm x.kind=true/\¬(x.kind=7/\x.els.length=0)then b++[125,32]++ns x.kind++[32,123,10]++dj x.els (b++fJ)else[])++b++[125,10]):=by cases x;rfl
theorem aaO(x:δ):x.deep=1+max (if aU x.kind then δ.dA x.body else 0) (if bm x.kind then δ.dA x.els else 0):=by cases x;rfl
def akR(x:δ):Prop:=x.size.Ok/\x.to.Ok/\bp x.cp/\∀p∈x.pl,p.Ok
theorem akQ{x:δ}(hx:x.Ok):akR x:=by obtain⟨k,g,nm,cp,pl,size,to,cb,body,ce,els⟩:=x;simp only[δ.Ok]at hx;exact⟨hx.2.2.2.1.1,hx.2.2.2.2.1.1,hx.2.1,hx.2.2.1⟩
theorem aif(l:List τ)(x:τ):fI (l++[x])=fI l++x.text:=by
 induction l with
 |nil=>simp[fI]
 |cons a l ih=>simp only[cG,fI,ih,bO]
theorem aih(l:List τ)(h:∀x∈l,Cw x):(fI l).length<=l.length*200000:=by
 induction l with
 |nil=>simp[fI]
 |cons a l ih=>
  have h1:=τ.sG (h a (by simp))
  have h2:=ih fun x hx=>h x (by simp[hx]);simp only[fI,cI,cD];omega
theorem ahS(l:List ak)(h:∀p∈l,p.name.length<=8/\1<=p.size/\p.size<=12)(h4:l.length<=4):(lI (l.map ak.text)).length<=56:=by
 have h3:=CS (l.map ak.text) 12 (fun t ht=>by
  obtain⟨p,hp,rfl⟩:=List.mem_map.1 ht
  have:=(h p hp).1;have:=vh p.size.toNat;simp[ak.text];omega)
 rw[cg]at h3;omega
theorem f223(c:ρ)(ks:List Int)(v:Int)(hl:ks.length<1000000000000)(m:Mem):kf u 223 [.list c (ks.map (AV.n)),.n v] m=some (.n (match ks.findIdx? (·==v)with
  |some i=>(i:Int)
  |none=> -1),m):=by
 refine dI (g:=G5) rfl rfl rfl ?_;have he:aX m.ε.length false (ks.map (AV.n))=ks.map (AV.n):=by rw[fe,cT];exact de fun _ _=>rfl
 simp only[az,aJ,exp,he,G5,Rn];generalize c.exp m.ε.length false=c';let K:St->Prop:=fun st=>st.e 0= .list c' (ks.map (AV.n))/\st.e 1= .n v/\st.mem= {ε:=m.ε,η:=[]};refine Δ (K) (by simp[K]) fun s1 ⟨h1,h2,h3⟩=>?_;refine bJ (fun st=>K st/\ks.findIdx? (·==v)=none) ?_ fun s2 ⟨⟨h1,h2,h3⟩,h4⟩=>by simp[h3,h4]
 let I:Nat->St->Prop:=fun i st=>K st/\st.e 7= .n ks.length/\st.e 8= .n i/\∀j (hj:j<ks.length),j<i->ks[j]≠v;refine Δ (I 0) (by simp[I,K,h1,h2,h3]) fun s4 hI=>?_;refine κ.block (κ.loop (I:=I) ks.length hI fun i st hi Ω=>?_);obtain⟨⟨h1,h2,h3⟩,q1,q2,q4⟩:=Ω;rcases Nat.lt_or_ge i ks.length with ψ|dD
 ·have hw:bC .i64 ((i:Int)+1)=(i:Int)+1:=wrap_i64 (by omega) (by omega);by_cases hz:ks[i]=v
  ·right;have hf:ks.findIdx? (·==v)=some i:=by rw[tU];exact⟨ψ,by simpa using hz,fun j hj=>by simpa using q4 j (by omega) hj⟩
   rw[hf];have sn:v=ks[i]:=hz.symm;simp[K,IU,h1,h2,h3,q1,q2,ψ,hz]
  ·left;refine⟨ψ,?_⟩;have sn:(v==ks[i])=false:=by simpa using fun h=>hz h.symm
   have q5:=CE (P:=fun j=>∀hj:j<ks.length,ks[j]≠v) (n:=ks.length) (fun j a b c=>q4 j c b) (fun _=>hz);simp[I,K,IU,h1,h2,h3,q1,q2,ψ,sn,hw];exact fun j hj me=>q5 j hj me hj
 ·right;have:i=ks.length:=by omega
  subst this;have hf:ks.findIdx? (·==v)=none:=by rw[wG];intro x hx;obtain⟨j,hj,rfl⟩:=List.getElem_of_mem hx;simpa using q4 j hj hj
  simp[K,IU,h1,h2,h3,q1,q2,hf]
theorem f180(c:ρ)(ks:List Int)(v:Int)(hl:ks.length<1000000000000)(m:Mem):kf u 180 [.list c (ks.map (AV.n)),.n v] m=some (.bool (ks.contains v),m):=by
 have e:=fun c=>f223 (u:=u) c ks v hl;refine dI (g:=GN) rfl rfl rfl ?_;have he:aX m.ε.length false (ks.map (AV.n))=ks.map (AV.n):=by rw[fe,cT];exact de fun _ _=>rfl
 simp only[az,aJ,exp,he,GN,Q9];cases hf:ks.findIdx? (·==v)with
 |none=>
  have hc:ks.contains v=false:=by
   rw[wG]at hf;cases h:ks.contains v with
   |false=>rfl
   |true=>
    rw[yd]at h
    have:=hf v h;simp at this
  rw[hf]at e;rw[hc];simp[e]
 |some i=>
  have hc:ks.contains v=true:=by
   rw[tU]at hf;obtain⟨h1,h2,_⟩:=hf;rw[yd];have:ks[i]=v:=by simpa using h2
   rw[<-this];exact c_ h1
  rw[hf]at e;rw[hc];have:(0:Int)<=(i:Int):=by omega
  simp[e,this]
theorem f179{id:Nat}{k n:Int}{s:List Nat}{c:ρ}{l:List ζ}(m:Mem)(hid:m.ε[id]?=some (.cells [.n k,.n n,.str s,.list c (ζ.χ l)]))(i:Nat)(iv:Int)(Nj:iv=(i:Int))(hi:i<l.length)
  (e:∀m,kf u 114 [l[i].av] m=some (.str l[i].text,m)) (hlen:l[i].text.length<1000000000) (cc:ρ) (ks:List Int) (Bv:ks.length<10):
  ab (C u) (.fn (.func 179) [] [.μ id 0]) [.n iv,.list cc (ks.map (AV.n))] m=some (.str (paren (ks.contains l[i].kind) l[i].text),m):=by
 subst Nj;have ψ:=sX hid;have SE:=fun c v=>f180 (u:=u) c ks v (by omega);refine sQ (g:=GM) rfl rfl rfl ?_;have he:aX m.ε.length false (ks.map (AV.n))=ks.map (AV.n):=by rw[fe,cT];exact de fun _ _=>rfl
 simp only[bE,cG,az,aJ,exp,he,ψ,if_true,GM,Q8];have hg:=FF l i hi;generalize l[i]=y at*;generalize y.text=t at*;obtain⟨k',n',s',c2,l'⟩:=y;simp only[ζ.av]at hg e;simp only[ζ.kind];cases hb:ks.contains k' with
 |true=>
  have a1:cE .add [40] t=some (.str ([40]++t)):=eF (by simp;omega)
  have a2:cE .add ([40]++t) [41]=some (.str ([40]++t++[41])):=eF (by simp;omega);simp only[cG,bE]at a1 a2;have e':=fun c=>SE c k';rw[hb]at e';simp[hid,rF,hi,hg,e,e',a1,a2,paren]
 |false=>
  have e':=fun c=>SE c k'
  rw[hb]at e';simp[hid,rF,hi,hg,e,e',paren]
theorem f109(n:Int)(h0:0<=n)(h1:n<100)(m:Mem):kf u 109 [.n n] m=some (.str (fq n.toNat),m):=by refine CL (p:=xU) (by rfl) ?_;simp[exp,xU,h0,h1]
theorem akc(k:Int):([3,4]:List Int).contains k=fW k:=by
 by_cases h3:k=3
 ·subst h3;rfl
 ·by_cases h4:k=4
  ·subst h4;rfl
  ·simp[fW,h3,h4]
theorem ag8{k:Int}(h:1<=k/\k<=5):([3,4,5]:List Int).contains k=decide (3<=k):=by
 have:k=1\/k=2\/k=3\/k=4\/k=5:=by omega
 rcases this with rfl|rfl|rfl|rfl|rfl<;>rfl
theorem f114(x:ζ):x.Ok->x.mG->x.cnt<1000000->∀(m:Mem),kf u 114 [x.av] m=some (.str x.text,m):=by
 refine ζ.jR (Q:=fun x=>x.Ok->x.mG->x.cnt<1000000->∀(m:Mem),kf u 114 [x.av] m=some (.str x.text,m)) (fun k n s c l ih ai dX oW m=>?_) x;have hlen:=ζ.sG _ dX;have er:∀M:Mem,M.ν=ν:=fun _=>rfl;have Bz:cw (ζ.χ l)=ζ.χ l:=by rw[fH,ζ.eo,cT];exact de fun y _=>ζ.tF y
 refine dI (g:=Gt) rfl rfl rfl ?_;simp only[az,aJ,ζ.jM _ _ _ ai,Gt,QW];have hid:(m.ε++[θ.cells [.n k,.n n,.str s,.list c (ζ.χ l)]])[m.ε.length]?=some (.cells [.n k,.n n,.str s,.list c (ζ.χ l)]):=by simp
 have LA:=fun i iv Nj hi e hl cc ks Bv=>f179 (u:=u) (id:=m.ε.length) {ε:=m.ε++[.cells [.n k,.n n,.str s,.list c (ζ.χ l)]],η:=[]} hid i iv Nj hi e hl cc ks Bv;rcases XZ dX with⟨rfl,p_,nF,rfl⟩|⟨rfl,rfl⟩|⟨hk,a,b,rfl⟩
 ·have e:=fun m=>f109 (u:=u) n p_ nF m;simp[ζ.av,ζ.text,xK,Mem.push,er,ν,cw,Bz,e,ζ.χ]
 ·simp[ζ.av,ζ.text,xK,Mem.push,er,ν,cw,Bz,ζ.χ]
 ·have hca:a.cnt<1000000:=by simp only[ζ.cnt,ζ.bL]at oW;omega
  have rT:b.cnt<1000000:=by simp only[ζ.cnt,ζ.bL]at oW;omega
  have dM:=ih a (by simp) ai.2.1 dX.2.2.1 hca;have gx:=ih b (by simp) ai.2.2.1 dX.2.2.2.1 rT;have la':=ζ.sG _ dX.2.2.1;have lb':=ζ.sG _ dX.2.2.2.1;have e0:=fun cc ks Bv=>LA 0 0 rfl (by simp) dM (by simp;omega) cc ks Bv;have e1:=fun cc ks Bv=>LA 1 1 rfl (by simp) gx (by simp;omega) cc ks Bv;have Lw:=e0 .nil [] (by simp);have Lx:=fun cc=>e0 cc [3,4] (by simp);have LF:=fun cc=>e1 cc [3,4] (by simp);have LD:=fun cc=>e1 cc [3,4,5] (by simp);have xp:1<=b.kind/\b.kind<=5:=by have:=dX.2.2.2.1;obtain⟨kb,nb,sb,cb,lb⟩:=b;rcases XZ this with⟨rfl,_⟩|⟨rfl,_⟩|⟨h,_⟩<;>simp only[ζ.kind]<;>omega
  simp only[List.getElem_cons_zero,pF,akc,ag8 xp,az,aJ,List.contains_nil,Pd]at Lw Lx LF LD;have p1:∀q:Bool,(paren q a.text).length<=a.text.length+2:=fun q=>Jk q a.text;have p2:∀q:Bool,(paren q b.text).length<=b.text.length+2:=fun q=>Jk q b.text;simp only[ζ.text,ζ.texts,xK,az,aJ]at hlen⊢;generalize a.text=ta at*;generalize b.text=tb at*;generalize a.kind=ka at*;generalize b.kind=kb at*;have p1':=p1 (fW ka);have p2':=p2 (fW kb);have alo:=p2 (decide (3<=kb));simp only[ζ.av];generalize ζ.χ [a,b]=L at*;rcases hk with rfl|rfl|rfl
  ·simp only[show¬(3:Int)=1 by decide,show¬(3:Int)=2 by decide,show¬(3:Int)=5 by decide,if_false,decide_false,alK,Pd,xR,if_true];generalize paren (fW kb) tb=x_ at*;have a1:cE .add ta [32,43,32]=some (.str (ta++[32,43,32])):=eF (by simp;omega);have a2:cE .add (ta++[32,43,32]) x_=some (.str (ta++[32,43,32]++x_)):=eF (by simp;omega);clear LA e0 e1 Lx LD;simp[Mem.push,er,ν,cw,Bz,Lw,LF,a1,a2,shaped,AV.one]
  ·simp only[show¬(4:Int)=1 by decide,show¬(4:Int)=2 by decide,show¬(4:Int)=5 by decide,show¬(4:Int)=3 by decide,if_false,decide_false,alK,Pd,xR,if_true];generalize paren (fW kb) tb=x_ at*;have a1:cE .add ta [32,45,32]=some (.str (ta++[32,45,32])):=eF (by simp;omega);have a2:cE .add (ta++[32,45,32]) x_=some (.str (ta++[32,45,32]++x_)):=eF (by simp;omega);simp[Mem.push,er,ν,cw,Bz,Lw,LF,a1,a2,shaped,AV.one]
  ·simp only[show¬(5:Int)=1 by decide,show¬(5:Int)=2 by decide,show¬(5:Int)=4 by decide,show¬(5:Int)=3 by decide,if_false,decide_true,rr,xR,if_true];generalize paren (fW ka) ta=JO at*;generalize paren (decide (3<=kb)) tb=x_ at*;have a1:cE .add JO [32,42,32]=some (.str (JO++[32,42,32])):=eF (by simp;omega);have a2:cE .add (JO++[32,42,32]) x_=some (.str (JO++[32,42,32]++x_)):=eF (by simp;omega);simp[Mem.push,er,ν,cw,Bz,Lx,LD,a1,a2,shaped,AV.one]
theorem Ge(x:ζ)(ai:x.Ok)(h:vW x)(m:Mem):kf u 114 [.agg x.four] m=some (.str x.text,m):=by have:=f114 (u:=u) x ai h.1 (by have:=h.2;omega) m;rwa[ζ.fD]at this
theorem aj9(l:List (List Nat)):Ce (l.map AV.str)=some l:=by
 induction l with
 |nil=>rfl
 |cons a l ih=>simp[Ce,ih]
theorem VG(l:List (List Nat)):mj [44,32] l=lI l:=by
 induction l with
 |nil=>rfl
 |cons a l ih=>
  cases l with
  |nil=>rfl
  |cons b l=>simp only[mj,lI,ih]
theorem f174(c:ρ)(l:List (List Nat))(sep:List Nat)(h1:(mj sep l).length<=1000000)(h2:l.length<=1000000)(m:Mem):kf u 174 [.list c (l.map AV.str),.str sep] m=some (.str (mj sep l),m):=by
 refine CL (p:=xV) (by rfl) ?_;have he:∀k,aX m.ε.length k (l.map AV.str)=l.map AV.str:=fun k=>by rw[fe,cT];exact de fun _ _=>rfl
 simp only[bE,dF,az,aJ,exp,he];cases l with
 |nil=>rfl
 |cons a l=>
  have kA:(mj sep (a::l)).length<=140737488355328:=by omega
  have l9:(a::l).length<=140737488355328:=by omega
  have hs:=aj9 (a::l);simp only[az]at hs⊢;simp only[xV,hs,kA,l9,and_self,if_true]
theorem f110(c:ρ)(l:List (List Nat))(h1:(lI l).length<=1000000)(h2:l.length<=1000000)(m:Mem):kf u 110 [.list c (l.map AV.str)] m=some (.str (lI l),m):=by
 have e:=fun c m=>f174 (u:=u) c l [44,32] (by rw[VG];exact h1) h2 m;rw[VG]at e;refine dI (g:=Gq) rfl rfl rfl ?_;have he:∀k,aX m.ε.length k (l.map AV.str)=l.map AV.str:=fun k=>by rw[fe,cT];exact de fun _ _=>rfl
 simp only[az,aJ,exp,he,Gq,QT];simp[e]
theorem PY(n:Nat)(l:List (List Nat)):Fm false n 1 (l.map AV.str) (l.map AV.str):=Fm.of _ _ fun x _=>⟨Lv.str n x,rfl⟩
theorem PV{B ext:List θ}{c:ρ}{l:List AV}{v:List Nat}{len:Nat}(h:oM B.length (B++ext) 1 9 c len)(hlen:l.length=len)(hl:l.all (shaped false 1)=true)(hb:len<=1000000):
  ∃c' ext',(∀T,gC {ε:=B++ext,η:=T} false 1 16 9 (.list c l) (.list .full [.str v])=some (.list c' (l++[.str v]),{ε:=B++ext',η:=T}))/\oM B.length (B++ext') 1 9 c' (len+1)∧
   ∀c2 k2,oM B.length (B++ext) 1 9 c2 k2->(c2= .nil\/c2≠c)->oM B.length (B++ext') 1 9 c2 k2/\(c'= .nil\/c'≠c2):=by
 subst hlen;have hv:shaped false 1 (.str v)=true:=rfl;rcases h.r with⟨hc,h0⟩|⟨t,rfl,h1,h2⟩
 ·have mR:=h.n h0;subst mR;have:l=[]:=np h0;subst this;refine⟨.own (B.length+ext.length),ext++[.front 1 1 9],fun T=>?_,⟨.inr ⟨_,rfl,by omega,?_⟩,by simp⟩,fun c2 k2 hr _=>?_⟩
  ·simp[gC,hv,Mem.push,Mem.ν,ν]
  ·rw[<-bO];have:B.length+ext.length=(B++ext).length:=by simp
   rw[this];simp
  ·rcases hr.r with⟨h1,h3⟩|⟨t,rfl,h1,h2⟩
   ·have:=hr.n h3;subst this;exact⟨⟨.inl ⟨.inl rfl,h3⟩,fun _=>rfl⟩,.inr (by simp)⟩
   ·have ht:t<(B++ext).length:=sX h2;refine⟨⟨.inr ⟨t,rfl,h1,?_⟩,hr.n⟩,.inr ?_⟩
    ·rw[<-bO,List.getElem?_append_left ht];exact h2
    ·simp at ht;simp;omega
 ·have ht:t<(B++ext).length:=sX h2;have kR:(B++ext).set t (.front (l.length+1) 1 9)=B++ext.set (t-B.length) (.front (l.length+1) 1 9):=by rw[List.set_append,if_neg (by omega)]
  have dy:(l.length+1)*16<=140737488355328:=by omega
  have dz:l.length+1<=140737488355328:=by omega
  refine⟨.own t,ext.set (t-B.length) (.front (l.length+1) 1 9),fun T=>?_,⟨.inr ⟨t,rfl,h1,?_⟩,by simp⟩,fun c2 k2 hr φ=>?_⟩
  ·simp only[gC];simp only[List.all_cons,hv,List.all_nil,Bool.and_self,hl,show 0<1 by decide,decide_true,cD,eO,Nat.zero_add,dy,dz,h2,rr,if_true,and_self,az,aJ,Mem.ν,ν,Mem.put,kR]
  ·rw[<-kR,List.getElem?_set_self ht]
  ·rcases hr.r with⟨h3,h4⟩|⟨t',rfl,h3,h4⟩
   ·have:=hr.n h4;subst this;exact⟨⟨.inl ⟨.inl rfl,h4⟩,fun _=>rfl⟩,.inr (by simp)⟩
   ·have mV:t≠t':=by
     rintro rfl
     rcases φ with h|h
     ·cases h
     ·exact h rfl
    refine⟨⟨.inr ⟨t',rfl,h3,?_⟩,hr.n⟩,.inr (by simpa using mV)⟩;rw[<-kR,List.getElem?_set_ne mV];exact h4
theorem f172(c:ρ)(hc:bp c)(pl:List ξ)(dH:∀p∈pl,p.Ok)(h:EN pl)(m:Mem):kf u 172 [.list c (pl.map ξ.av)] m=some (.str (nK pl),m):=by
 refine dI (g:=GI) rfl rfl rfl ?_;simp only[az,aJ,Xa hc dH,GI,Q5];have h4:=h.1;have er:∀M:Mem,M.ν=ν:=fun _=>rfl;let n:=m.ε.length;let MM:List θ->St->Prop:=fun ext st=>st.mem= {ε:=m.ε++ext,η:=[]};refine Δ (fun st=>st.e 0= .list c (pl.map ξ.av)/\MM [] st) (by simp[MM]) fun s1 ⟨h1,h2⟩=>?_;simp only[MM]at h2;refine Δ (fun st=>st.e 0= .list c (pl.map ξ.av)/\MM [] st/\st.e 3= .list .nil []) (by simp[MM,h1,h2]) fun s1 ⟨h1,h2,h3⟩=>?_;simp only[MM]at h2;refine bJ (fun st=>∃ext cp,MM ext st/\st.e 3= .list cp ((pl.map ξ.text).map AV.str)) ?_ fun s2 ⟨ext,cp,h2,h3⟩=>?_
 ·let J:Nat->St->Prop:=fun i st=>st.e 10= .list c (pl.map ξ.av)/\st.e 11= .n pl.length/\st.e 12= .n i;let I:Nat->St->Prop:=fun i st=>J i st/\∃ext cp,MM ext st/\st.e 3= .list cp (((pl.take i).map ξ.text).map AV.str)/\oM n (m.ε++ext) 1 9 cp i;refine Δ (fun st=>J 0 st/\MM [] st/\st.e 3= .list .nil []) (by simp[J,MM,h1,h2,h3]) fun s4 ⟨a1,a2,a3⟩=>?_;refine κ.block (κ.upto (I:=I) pl.length ⟨a1,[],.nil,a2,a3,oM.nil⟩ (fun i st ψ Ω=>?_) (fun st Ω=>?_))
  ·obtain⟨⟨q1,q2,q3⟩,ext,cp,h2,h3,r⟩:=Ω;simp only[MM]at h2;have kS:bC .i64 ((i:Int)+1)=(i:Int)+1:=wrap_i64 (by omega) (by omega);have hm:pl[i]∈pl:=c_ ψ;have xx:=dH _ hm;obtain⟨zn,lQ,gO⟩:=h.2 _ hm;have lR:((pl.take (i+1)).map ξ.text).map AV.str=((pl.take i).map ξ.text).map AV.str++[.str pl[i].text]:=by rw[wI ψ,kr,kr];rfl
   have mQ:(((pl.take i).map ξ.text).map AV.str).length=i:=by rw[cg,cg,lD];omega
   have hs:=(PY n ((pl.take i).map ξ.text)).s;generalize((pl.take i).map ξ.text).map AV.str=L at*;have zr:pl[i].text=if pl[i].ix=[]then pl[i].name else pl[i].name++([91]++mj [32,58,32] (pl[i].ix.map ζ.text)++[93]):=by
    generalize pl[i]=p at lQ⊢;obtain⟨nm,cc,ix⟩:=p;simp only at lQ⊢
    match ix,lQ with
    |[],_=>rfl
    |[a],_=>simp[ξ.text,mj]
    |[a,b],_=>simp[ξ.text,mj]
    |_::_::_::_,h=>simp at h
   have rX:(mj [32,58,32] (pl[i].ix.map ζ.text)).length<=300:=by
    generalize pl[i]=p at lQ gO⊢;obtain⟨nm,cc,ix⟩:=p;simp only at lQ gO⊢
    match ix,lQ,gO with
    |[],_,_=>simp[mj]
    |[a],_,gO=>have:=sq (gO a (by simp));simp[mj];omega
    |[a,b],_,gO=>have:=sq (gO a (by simp));have:=sq (gO b (by simp));simp[mj];omega
    |_::_::_::_,h,_=>simp at h
   have SD:=fun c m=>f174 (u:=u) c (pl[i].ix.map ζ.text) [32,58,32] (by omega) (by rw[cg];omega) m;refine Δ (fun st=>J i st/\MM ext st/\st.e 3= .list cp L/\st.e 13= .bool true) (by simp[J,MM,h2,h3,q1,q2,q3,ψ]) fun s5 ⟨⟨q1,q2,q3⟩,h2,h3,q4⟩=>?_;simp only[MM]at h2;refine Δ (fun st=>J i st/\MM ext st/\st.e 3= .list cp L) (by simp[J,MM,h2,h3,q1,q2,q3,q4]) fun s5 ⟨⟨q1,q2,q3⟩,h2,h3⟩=>?_;simp only[MM]at h2;refine bJ (fun st=>J i st/\∃sV sR,MM sV st/\st.e 3= .list sR (L++[.str pl[i].text])/\oM n (m.ε++sV) 1 9 sR (i+1)) ?_ fun s6 ⟨⟨q1,q2,q3⟩,sV,sR,h2,h3,r2⟩=>by simp only[MM]at h2;exact κ.fin (M:=fun st=>J (i+1) st/\MM sV st/\st.e 3= .list sR (L++[.str pl[i].text])) .normal (by simp[J,MM,h2,h3,q1,q2,q3,kS]) fun s' ⟨d1,d2,d3⟩=> .inl ⟨rfl,d1,sV,sR,d2,by rw[lR];exact d3,r2⟩
   refine κ.block ?_;let J2:St->Prop:=fun st=>J i st/\st.e 3= .list cp L/\∃v,st.e 5= .aj 5 v 0/\st.q 5=some (v,.cells [.str pl[i].name,.list pl[i].c (ζ.χ pl[i].ix)]);refine Δ (fun st=>J2 st/\MM ext st) (by simp[J2,J,MM,h2,h3,q1,q2,q3,ψ,ξ.av,ζ.eo]) fun s5 ⟨⟨⟨q1,q2,q3⟩,h3,v,q4,q5⟩,h2⟩=>?_;simp only[MM]at h2;refine Δ (fun st=>J2 st/\MM ext st/\st.e 6= .list .nil []) (by simp[J2,J,MM,h2,h3,q1,q2,q3,q4,q5]) fun s5 ⟨⟨⟨q1,q2,q3⟩,h3,v,q4,q5⟩,h2,q6⟩=>?_;simp only[MM]at h2;refine bJ (fun st=>J2 st/\∃x2 cq,MM x2 st/\st.e 6= .list cq ((pl[i].ix.map ζ.text).map AV.str)/\oM n (m.ε++x2) 1 9 cp i) ?_ fun s6 ⟨⟨⟨q1,q2,q3⟩,h3,v,q4,q5⟩,x2,cq,h2,q6,r⟩=>?_
   ·let JX:St->Prop:=fun st=>J2 st/\st.e 17= .list pl[i].c (ζ.χ pl[i].ix)/\st.e 18= .n pl[i].ix.length;let I2:Nat->St->Prop:=fun q st=>JX st/\st.e 19= .n q/\∃x2 cq,MM x2 st/\st.e 6= .list cq (((pl[i].ix.take q).map ζ.text).map AV.str)/\oM n (m.ε++x2) 1 9 cq q/\oM n (m.ε++x2) 1 9 cp i/\(cq= .nil\/cq≠cp);refine Δ (fun st=>JX st/\st.e 19= .n 0/\MM ext st/\st.e 6= .list .nil []) (by simp[JX,J2,J,MM,h2,h3,q1,q2,q3,q4,q5,q6,rF]) fun s6 ⟨a1,a2,a3,a4⟩=>?_;refine κ.block (κ.upto (I:=I2) pl[i].ix.length ⟨a1,a2,ext,.nil,a3,a4,oM.nil,r,.inl rfl⟩ (fun q st eW Ω=>?_) (fun st Ω=>?_))
    ·obtain⟨⟨⟨⟨q1,q2,q3⟩,h3,v,q4,q5⟩,z1,z2⟩,z3,x2,cq,h2,z4,r4,r,φ⟩:=Ω;simp only[MM]at h2;have Ea:bC .i64 ((q:Int)+1)=(q:Int)+1:=wrap_i64 (by omega) (by omega);have Vv:pl[i].ix[q]∈pl[i].ix:=c_ eW;have aaY:=fun m=>Ge (u:=u) pl[i].ix[q] (xx.2.2 _ Vv).1 (gO _ Vv) m;have Vu:=FF pl[i].ix q eW;have nG:((pl[i].ix.take (q+1)).map ζ.text).map AV.str=((pl[i].ix.take q).map ζ.text).map AV.str++[.str (pl[i].ix[q]).text]:=by rw[wI eW,kr,kr];rfl
     have MB:(((pl[i].ix.take q).map ζ.text).map AV.str).length=q:=by rw[cg,cg,lD];omega
     have NY:=(PY n ((pl[i].ix.take q).map ζ.text)).s;generalize((pl[i].ix.take q).map ζ.text).map AV.str=LQ at*;obtain⟨Sm,x3,b1,b2,b3⟩:=PV (v:=(pl[i].ix[q]).text) r4 MB NY (by omega);obtain⟨b4,b5⟩:=b3 cp i r (by
      rcases φ with h|h
      ·rcases r.r with⟨h5|h5,h6⟩|⟨t,h5,_⟩
       ·exact .inl h5
       ·exact .inl (r.n h6)
       ·exact .inr (by rw[h5,h];simp)
      ·exact .inr (Ne.symm h))
     have HN:=ζ.ft pl[i].ix[q];have qW:(pl[i].ix[q]).four.take 4=(pl[i].ix[q]).four:=List.take_of_length_le (by omega);rw[ζ.fD]at Vu;refine κ.fin (M:=fun st=>JX st/\st.e 19= .n ((q:Int)+1)/\MM x3 st/\st.e 6= .list Sm (LQ++[.str (pl[i].ix[q]).text])) .normal (by simp[Oy,JX,J2,J,MM,h2,h3,q1,q2,q3,q4,q5,z1,z2,z3,z4,eW,rF,Vu,HN,qW,aaY,shaped,AV.one,er,ν,b1,Ea]) fun s' ⟨d1,d2,d3,d4⟩=> .inl ⟨rfl,d1,d2,x3,Sm,d3,by rw[nG];exact d4,b2,b4,b5⟩
    ·obtain⟨⟨⟨⟨q1,q2,q3⟩,h3,v,q4,q5⟩,z1,z2⟩,z3,x2,cq,h2,z4,r4,r,φ⟩:=Ω;simp only[MM]at h2;rw[pH]at z4;refine κ.fin (M:=fun st=>J2 st/\MM x2 st/\st.e 6= .list cq ((pl[i].ix.map ζ.text).map AV.str)) (.exit 2) (by simp[Oy,J2,J,MM,h2,h3,q1,q2,q3,q4,q5,z1,z2,z3,z4]) fun s' ⟨d1,d2,d3⟩=>?_;exact⟨by simp,.inl ⟨rfl,.inl ⟨rfl,d1,x2,cq,d2,d3,r⟩⟩⟩
   ·simp only[MM]at h2;obtain⟨dU,x3,b1,b2,-⟩:=PV (v:=pl[i].text) r mQ hs (by omega);refine κ.fin (M:=fun st=>J i st/\MM x3 st/\st.e 3= .list dU (L++[.str pl[i].text])) .normal (by
     by_cases h0:pl[i].ix=[]
     ·rw[if_pos h0]at zr;rw[zr]at b1;rw[zr];simp only[h0,aJ]at q6;simp[J,MM,h2,h3,q1,q2,q3,q4,q5,q6,shaped,AV.one,er,ν,b1]
     ·rw[if_neg h0]at zr;have xt:(0:Int)<(pl[i].ix.length:Int):=by have:=qs.2 h0;omega
      have acB:0<pl[i].ix.length:=qs.2 h0;have zc:(pl[i].ix.map ζ.text).map AV.str=pl[i].ix.map (AV.str∘ζ.text):=by rw[cT]
      rw[zc]at q6 SD;generalize mj [32,58,32] (pl[i].ix.map ζ.text)=tj at*;have a1:cE .add [91] tj=some (.str ([91]++tj)):=eF (by simp;omega);have a2:cE .add ([91]++tj) [93]=some (.str ([91]++tj++[93])):=eF (by simp;omega);have a3:cE .add pl[i].name ([91]++tj++[93])=some (.str (pl[i].name++([91]++tj++[93]))):=eF (by simp;omega);simp only[cG,bE]at a1 a2 a3 zr;rw[zr]at b1;rw[zr];simp[J,MM,h2,h3,q1,q2,q3,q4,q5,q6,xt,acB,SD,a1,a2,a3,shaped,AV.one,er,ν,b1]) fun s' ⟨d1,d2,d3⟩=>?_
    simp;exact⟨d1,x3,d2,dU,d3,b2⟩
  ·obtain⟨⟨q1,q2,q3⟩,ext,cp,h2,h3,r⟩:=Ω;simp only[MM]at h2;rw[pH]at h3;refine κ.fin (M:=fun st=>MM ext st/\st.e 3= .list cp ((pl.map ξ.text).map AV.str)) (.exit 0) (by simp[VV,MM,h2,h3,q1,q2,q3]) fun s' ⟨d1,d2⟩=>?_;exact⟨by simp,.inl ⟨rfl,.inl ⟨rfl,ext,cp,d1,d2⟩⟩⟩
 ·simp only[MM]at h2;have hl:=wb h;have e:=fun c m=>f110 (u:=u) c (pl.map ξ.text) (by have:(lI (pl.map ξ.text)).length<=1008:=hl;omega) (by rw[cg];omega) m;simp only[nK,cT]at e⊢;rw[cT]at h3;simp[h2,h3,e,rO]
theorem f171{id:Nat}(x:δ)(m:Mem)(hid:m.ε[id]?=some (.cells x.cells))(ai:x.size.Ok)(hs:vW x.size)(hn:x.name.length<=8):
  ab (C u) (.fn (.func 171) [] [.μ id 0]) [] m=some (.str (x.name++[91]++x.size.text++[93]),m):=by
 have ψ:=sX hid;refine sQ (g:=GH) rfl rfl rfl ?_;simp only[bE,cG,az,aJ,exp,ψ,if_true,GH,c171];have e:=fun m=>Ge (u:=u) x.size ai hs m;have hl:=sq hs;have k2:=oN x;have k4:=qA x;have kl:=δ.lH x;generalize x.size.text=t at*;have a1:cE .add x.name [91]=some (.str (x.name++[91])):=eF (by simp;omega);have a2:cE .add (x.name++[91]) t=some (.str (x.name++[91]++t)):=eF (by simp;omega);have a3:cE .add (x.name++[91]++t) [93]=some (.str (x.name++[91]++t++[93])):=eF (by simp;omega);simp only[bO,cG,bE]at a1 a2 a3;simp[hid,k2,k4,kl,e,cN,cQ,eK,AV.gK,AV.beq,a1,a2,a3]
theorem abJ{g:Int}(h:1<=g/\g<=12):∃w,(fu.map AV.str)[(g-1).toNat]?=some (.str w)/\fu.getD (g-1).toNat []=w/\w.length<=4:=by
 obtain⟨k,hk⟩:∃k:Nat,(g-1).toNat=k:=⟨_,rfl⟩;rw[hk];have df:k<12:=by omega
 match k,df with
 |0,_|1,_|2,_|3,_|4,_|5,_|6,_|7,_|8,_|9,_|10,_|11,_=>exact⟨_,rfl,rfl,by decide⟩
section
variable{B:List θ}{x:δ}{s1:St}
variable(h1:s1.e 1= .μ B.length 0)(h2:s1.e 3= .fn (.func 171) [] [.μ B.length 0])(h3:s1.mem= {ε:=B++[.cells x.cells],η:=[]})(hb:(B++[.cells x.cells])[B.length]?=some (.cells x.cells))
 (oP:vW x.size->x.name.length<=8->∀T,ab (C u) (.fn (.func 171) [] [.μ B.length 0]) [] {ε:=B++[.cells x.cells],η:=T}=some (.str (x.name++[91]++x.size.text++[93]),{ε:=B++[.cells x.cells],η:=T}))
 (nx:EN x.pl->∀m,kf u 172 [.list x.cp (x.pl.map ξ.av)] m=some (.str (nK x.pl),m))
 (es:vW x.size->∀m,kf u 114 [.agg x.size.four] m=some (.str x.size.text,m))
 (et:vW x.to->∀m,kf u 114 [.agg x.to.four] m=some (.str x.to.text,m))
 (hR:Bo x.kind x.gate x.name x.pl x.size x.to)
 (k0:x.cells.take 1=[.n x.kind]) (k1:x.cells.tail.take 1=[.n x.gate]) (k2:(x.cells.drop 2).take 1=[.str x.name]) (k3:(x.cells.drop 3).take 1=[.list x.cp (x.pl.map ξ.av)]) (k4:(x.cells.drop 4).take 4=x.size.four) (k8:(x.cells.drop 8).take 4=x.to.four) (kl:x.cells.length=14)
include h1 h2 h3 hb oP nx es et hR k0 k1 k2 k3 k4 k8 kl
theorem ajo(hk:x.kind=1):κ (C u).gl (ab (C u)) c107.snd.snd s1 (End jg B (.str (cm x.kind x.gate x.name x.pl x.size x.to))):=by
 obtain⟨o8,hg,hn,hp,hz,ht⟩:=hR;obtain⟨v,hv⟩:∃v,v=cm x.kind x.gate x.name x.pl x.size x.to:=⟨_,rfl⟩;rw[<-hv];simp only[cm]at hv;rw[hk]at k0;have e1:=nx (hp (by omega));have l1:=wb (hp (by omega));obtain⟨gw,w1,w2,w3⟩:=abJ (hg hk);have H6:=hg hk;have Ec:bC .i64 (x.gate-1)=x.gate-1:=wrap_i64 (by omega) (by omega);have UG:0<=x.gate-1/\x.gate-1<12:=by omega
 have eH:(fu.map AV.str).length=12:=rfl;have hgc:(C u).gl 0= .ref [.list .any (fu.map AV.str)]:=Bf;rw[w2]at hv;generalize fu.map AV.str=GW at*;generalize nK x.pl=tp at*;have a1:cE .add (gw) ([32])=some (.str (gw++([32]))):=eF (by simp;omega);have a2:cE .add (gw++([32])) (tp)=some (.str (gw++([32])++(tp))):=eF (by simp;omega);simp only[bO,cG,bE]at a1 a2;have hi:(x.gate-1).toNat<GW.length:=by rw[eH];omega
 have w1':GW[(x.gate-1).toNat]= .str gw:=by rw[dn hi]at w1;simpa using w1
 have Vq:(x.gate-1).toNat=x.gate.toNat-1:=by omega
 have D0:1<=x.gate:=H6.1;have NP:x.gate-1<12:=by omega
 have jo:x.gate.toNat-1<GW.length:=by omega
 have w12:GW[x.gate.toNat-1]= .str gw:=by rw[Vq,dn jo]at w1;simpa using w1
 have Nc:x.gate.toNat-1<12:=by omega
 simp[hk]at hv;subst hv;simp[c107,AC.snd,End,jg,h1,h2,h3,hb,kl,k0,cN,cQ,eK,AV.gK,AV.beq,AV.kM,k1,k3,e1,hgc,eH,Ec,D0,NP,Nc,w12,a1,a2]
theorem ajr(hk:x.kind=2):κ (C u).gl (ab (C u)) c107.snd.snd s1 (End jg B (.str (cm x.kind x.gate x.name x.pl x.size x.to))):=by obtain⟨o8,hg,hn,hp,hz,ht⟩:=hR;obtain⟨v,hv⟩:∃v,v=cm x.kind x.gate x.name x.pl x.size x.to:=⟨_,rfl⟩;rw[<-hv];simp only[cm]at hv;rw[hk]at k0;have e1:=oP (hz (by omega)) (hn (by omega));have l1:=sq (hz (by omega));have l2:=hn (by omega);generalize x.size.text=ts at*;have a1:cE .add ([116,97,107,101,32]) (x.name++[91]++ts++[93])=some (.str ([116,97,107,101,32]++(x.name++[91]++ts++[93]))):=eF (by simp;omega);simp only[bO,cG,bE]at a1;simp only[bO,cG,bE]at e1;simp[hk]at hv;subst hv;simp[c107,AC.snd,End,jg,h1,h2,h3,hb,kl,k0,cN,cQ,eK,AV.gK,AV.beq,AV.kM,e1,a1]
theorem ajt(hk:x.kind=4):κ (C u).gl (ab (C u)) c107.snd.snd s1 (End jg B (.str (cm x.kind x.gate x.name x.pl x.size x.to))):=by obtain⟨o8,hg,hn,hp,hz,ht⟩:=hR;obtain⟨v,hv⟩:∃v,v=cm x.kind x.gate x.name x.pl x.size x.to:=⟨_,rfl⟩;rw[<-hv];simp only[cm]at hv;rw[hk]at k0;have e1:=oP (hz (by omega)) (hn (by omega));have l1:=sq (hz (by omega));have l2:=hn (by omega);generalize x.size.text=ts at*;have a1:cE .add ([98,111,114,114,111,119,32]) (x.name++[91]++ts++[93])=some (.str ([98,111,114,114,111,119,32]++(x.name++[91]++ts++[93]))):=eF (by simp;omega);simp only[bO,cG,bE]at a1;simp only[bO,cG,bE]at e1;simp[hk]at hv;subst hv;simp[c107,AC.snd,End,jg,h1,h2,h3,hb,kl,k0,cN,cQ,eK,AV.gK,AV.beq,AV.kM,e1,a1]
theorem ajs(hk:x.kind=3):κ (C u).gl (ab (C u)) c107.snd.snd s1 (End jg B (.str (cm x.kind x.gate x.name x.pl x.size x.to))):=by obtain⟨o8,hg,hn,hp,hz,ht⟩:=hR;obtain⟨v,hv⟩:∃v,v=cm x.kind x.gate x.name x.pl x.size x.to:=⟨_,rfl⟩;rw[<-hv];simp only[cm]at hv;rw[hk]at k0;have l2:=hn (by omega);have a1:cE .add ([100,114,111,112,32]) (x.name)=some (.str ([100,114,111,112,32]++(x.name))):=eF (by simp;omega);simp only[bO,cG,bE]at a1;simp[hk]at hv;subst hv;simp[c107,AC.snd,End,jg,h1,h2,h3,hb,kl,k0,cN,cQ,eK,AV.gK,AV.beq,AV.kM,k2,a1]
theorem aju(hk:x.kind=5):κ (C u).gl (ab (C u)) c107.snd.snd s1 (End jg B (.str (cm x.kind x.gate x.name x.pl x.size x.to))):=by obtain⟨o8,hg,hn,hp,hz,ht⟩:=hR;obtain⟨v,hv⟩:∃v,v=cm x.kind x.gate x.name x.pl x.size x.to:=⟨_,rfl⟩;rw[<-hv];simp only[cm]at hv;rw[hk]at k0;have l2:=hn (by omega);have e1:=nx (hp (by omega));have l1:=wb (hp (by omega));generalize nK x.pl=tp at*;have a1:cE .add ([109,101,97,115,117,114,101,32]) (tp)=some (.str ([109,101,97,115,117,114,101,32]++(tp))):=eF (by simp;omega);have a2:cE .add ([109,101,97,115,117,114,101,32]++(tp)) ([32,58,32])=some (.str ([109,101,97,115,117,114,101,32]++(tp)++([32,58,32]))):=eF (by simp;omega);have a3:cE .add ([109,101,97,115,117,114,101,32]++(tp)++([32,58,32])) (x.name)=some (.str ([109,101,97,115,117,114,101,32]++(tp)++([32,58,32])++(x.name))):=eF (by simp;omega);simp only[bO,cG,bE]at a1 a2 a3;simp[hk]at hv;subst hv;simp[c107,AC.snd,End,jg,h1,h2,h3,hb,kl,k0,cN,cQ,eK,AV.gK,AV.beq,AV.kM,k2,k3,e1,a1,a2,a3]
theorem ajv(hk:x.kind=6):κ (C u).gl (ab (C u)) c107.snd.snd s1 (End jg B (.str (cm x.kind x.gate x.name x.pl x.size x.to))):=by obtain⟨o8,hg,hn,hp,hz,ht⟩:=hR;obtain⟨v,hv⟩:∃v,v=cm x.kind x.gate x.name x.pl x.size x.to:=⟨_,rfl⟩;rw[<-hv];simp only[cm]at hv;rw[hk]at k0;have e1:=nx (hp (by omega));have l1:=wb (hp (by omega));generalize nK x.pl=tp at*;have a1:cE .add ([114,101,115,101,116,32]) (tp)=some (.str ([114,101,115,101,116,32]++(tp))):=eF (by simp;omega);simp only[bO,cG,bE]at a1;simp[hk]at hv;subst hv;simp[c107,AC.snd,End,jg,h1,h2,h3,hb,kl,k0,cN,cQ,eK,AV.gK,AV.beq,AV.kM,k3,e1,a1]
theorem ajw(hk:x.kind=7):κ (C u).gl (ab (C u)) c107.snd.snd s1 (End jg B (.str (cm x.kind x.gate x.name x.pl x.size x.to))):=by obtain⟨o8,hg,hn,hp,hz,ht⟩:=hR;obtain⟨v,hv⟩:∃v,v=cm x.kind x.gate x.name x.pl x.size x.to:=⟨_,rfl⟩;rw[<-hv];simp only[cm]at hv;rw[hk]at k0;have l2:=hn (by omega);have a1:cE .add ([105,102,32]) (x.name)=some (.str ([105,102,32]++(x.name))):=eF (by simp;omega);simp only[bO,cG,bE]at a1;simp[hk]at hv;subst hv;simp[c107,AC.snd,End,jg,h1,h2,h3,hb,kl,k0,cN,cQ,eK,AV.gK,AV.beq,AV.kM,k2,a1]
theorem ajx(hk:x.kind=8):κ (C u).gl (ab (C u)) c107.snd.snd s1 (End jg B (.str (cm x.kind x.gate x.name x.pl x.size x.to))):=by obtain⟨o8,hg,hn,hp,hz,ht⟩:=hR;obtain⟨v,hv⟩:∃v,v=cm x.kind x.gate x.name x.pl x.size x.to:=⟨_,rfl⟩;rw[<-hv];simp only[cm]at hv;rw[hk]at k0;have l2:=hn (by omega);have e1:=es (hz (by omega));have l1:=sq (hz (by omega));have e2:=et (ht (by omega));have l3:=sq (ht (by omega));generalize x.size.text=ts at*;generalize x.to.text=tt at*;have a1:cE .add ([102,111,114,32]) (x.name)=some (.str ([102,111,114,32]++(x.name))):=eF (by simp;omega);have a2:cE .add ([102,111,114,32]++(x.name)) ([32,61,32])=some (.str ([102,111,114,32]++(x.name)++([32,61,32]))):=eF (by simp;omega);have a3:cE .add ([102,111,114,32]++(x.name)++([32,61,32])) (ts)=some (.str ([102,111,114,32]++(x.name)++([32,61,32])++(ts))):=eF (by simp;omega);have a4:cE .add ([102,111,114,32]++(x.name)++([32,61,32])++(ts)) ([32,58,32])=some (.str ([102,111,114,32]++(x.name)++([32,61,32])++(ts)++([32,58,32]))):=eF (by simp;omega);have a5:cE .add ([102,111,114,32]++(x.name)++([32,61,32])++(ts)++([32,58,32])) (tt)=some (.str ([102,111,114,32]++(x.name)++([32,61,32])++(ts)++([32,58,32])++(tt))):=eF (by simp;omega);simp only[bO,cG,bE]at a1 a2 a3 a4 a5;simp[hk]at hv;subst hv;simp[c107,AC.snd,End,jg,h1,h2,h3,hb,kl,k0,cN,cQ,eK,AV.gK,AV.beq,AV.kM,k2,k4,k8,e1,e2,a1,a2,a3,a4,a5]
theorem ajy(hk:x.kind=9):κ (C u).gl (ab (C u)) c107.snd.snd s1 (End jg B (.str (cm x.kind x.gate x.name x.pl x.size x.to))):=by obtain⟨o8,hg,hn,hp,hz,ht⟩:=hR;obtain⟨v,hv⟩:∃v,v=cm x.kind x.gate x.name x.pl x.size x.to:=⟨_,rfl⟩;rw[<-hv];simp only[cm]at hv;rw[hk]at k0;have l2:=hn (by omega);have e1:=nx (hp (by omega));have l1:=wb (hp (by omega));generalize nK x.pl=tp at*;have a1:cE .add (x.name) ([40])=some (.str (x.name++([40]))):=eF (by simp;omega);have a2:cE .add (x.name++([40])) (tp)=some (.str (x.name++([40])++(tp))):=eF (by simp;omega);have a3:cE .add (x.name++([40])++(tp)) ([41])=some (.str (x.name++([40])++(tp)++([41]))):=eF (by simp;omega);simp only[bO,cG,bE]at a1 a2 a3;simp[hk]at hv;subst hv;simp[c107,AC.snd,End,jg,h1,h2,h3,hb,kl,k0,cN,cQ,eK,AV.gK,AV.beq,AV.kM,k2,k3,e1,a1,a2,a3]
theorem ajp(hk:x.kind=10):κ (C u).gl (ab (C u)) c107.snd.snd s1 (End jg B (.str (cm x.kind x.gate x.name x.pl x.size x.to))):=by obtain⟨o8,hg,hn,hp,hz,ht⟩:=hR;obtain⟨v,hv⟩:∃v,v=cm x.kind x.gate x.name x.pl x.size x.to:=⟨_,rfl⟩;rw[<-hv];simp only[cm]at hv;rw[hk]at k0;simp[hk]at hv;subst hv;simp[c107,AC.snd,End,jg,h1,h2,h3,hb,kl,k0,cN,cQ,eK,AV.gK,AV.beq,AV.kM]
theorem ajq(hk:x.kind=11):κ (C u).gl (ab (C u)) c107.snd.snd s1 (End jg B (.str (cm x.kind x.gate x.name x.pl x.size x.to))):=by obtain⟨o8,hg,hn,hp,hz,ht⟩:=hR;obtain⟨v,hv⟩:∃v,v=cm x.kind x.gate x.name x.pl x.size x.to:=⟨_,rfl⟩;rw[<-hv];simp only[cm]at hv;rw[hk]at k0;simp[hk]at hv;subst hv;simp[c107,AC.snd,End,jg,h1,h2,h3,hb,kl,k0,cN,cQ,eK,AV.gK,AV.beq,AV.kM]
end
theorem f107(x:δ)(hx:x.Ok)(hR:Bo x.kind x.gate x.name x.pl x.size x.to)(m:Mem):kf u 107 [x.av] m=some (.str (cm x.kind x.gate x.name x.pl x.size x.to),m):=by
 have er:∀M:Mem,M.ν=ν:=fun _=>rfl;obtain⟨o1,o2,o3,o4⟩:=akQ hx;have kl:=δ.lH x;have zk:x.cells.map ν=x.cells:=by rw[<-fH,δ.zN]
 refine dI (g:=jg) rfl rfl rfl ?_;simp only[az,aJ,δ.jM _ _ _ hx,jg,c107];refine Δ (fun st=>st.e 1= .μ m.ε.length 0/\st.mem= {ε:=m.ε++[.cells x.cells],η:=[]}) (by simp[δ.av,kl,Mem.push,er,zk]) fun s1 ⟨h1,h3⟩=>?_;refine Δ (fun st=>st.e 1= .μ m.ε.length 0/\st.e 3= .fn (.func 171) [] [.μ m.ε.length 0]/\st.mem= {ε:=m.ε++[.cells x.cells],η:=[]}) (by simp[h1,h3]) fun s1 ⟨h1,h2,h3⟩=>?_;show κ (C u).gl (ab (C u)) c107.snd.snd s1 (End jg m.ε (.str (cm x.kind x.gate x.name x.pl x.size x.to)));have hb:(m.ε++[θ.cells x.cells])[m.ε.length]?=some (.cells x.cells):=by simp
 have oP:=fun hs hn T=>f171 (u:=u) (id:=m.ε.length) x {ε:=m.ε++[.cells x.cells],η:=T} hb o1 hs hn;have nx:=fun h m=>f172 (u:=u) x.cp o3 x.pl o4 h m;have es:=fun h m=>Ge (u:=u) x.size o1 h m;have et:=fun h m=>Ge (u:=u) x.to o2 h m;have o8:=hR.1;have eI:x.kind=1\/x.kind=2\/x.kind=3\/x.kind=4\/x.kind=5\/x.kind=6\/x.kind=7\/x.kind=8\/x.kind=9\/x.kind=10\/x.kind=11:=by omega
 rcases eI with hk|hk|hk|hk|hk|hk|hk|hk|hk|hk|hk
 ·exact ajo h1 h2 h3 hb oP nx es et hR (cell0 x) (rH x) (oN x) (rI x) (qA x) (rJ x) kl hk
 ·exact ajr h1 h2 h3 hb oP nx es et hR (cell0 x) (rH x) (oN x) (rI x) (qA x) (rJ x) kl hk
 ·exact ajs h1 h2 h3 hb oP nx es et hR (cell0 x) (rH x) (oN x) (rI x) (qA x) (rJ x) kl hk
 ·exact ajt h1 h2 h3 hb oP nx es et hR (cell0 x) (rH x) (oN x) (rI x) (qA x) (rJ x) kl hk
 ·exact aju h1 h2 h3 hb oP nx es et hR (cell0 x) (rH x) (oN x) (rI x) (qA x) (rJ x) kl hk
 ·exact ajv h1 h2 h3 hb oP nx es et hR (cell0 x) (rH x) (oN x) (rI x) (qA x) (rJ x) kl hk
 ·exact ajw h1 h2 h3 hb oP nx es et hR (cell0 x) (rH x) (oN x) (rI x) (qA x) (rJ x) kl hk
 ·exact ajx h1 h2 h3 hb oP nx es et hR (cell0 x) (rH x) (oN x) (rI x) (qA x) (rJ x) kl hk
 ·exact ajy h1 h2 h3 hb oP nx es et hR (cell0 x) (rH x) (oN x) (rI x) (qA x) (rJ x) kl hk
 ·exact ajp h1 h2 h3 hb oP nx es et hR (cell0 x) (rH x) (oN x) (rI x) (qA x) (rJ x) kl hk
 ·exact ajq h1 h2 h3 hb oP nx es et hR (cell0 x) (rH x) (oN x) (rI x) (qA x) (rJ x) kl hk
def pM(B:List θ)(s:List Nat):List θ:=B++[.nX 150 5 s,.cells [.fn (.func 105) [] [.μ B.length 0,.μ (B.length+1) 0]]]
theorem EM(B:List θ)(s:List Nat):(pM B s).length=B.length+2:=by simp[pM]
theorem W3(B:List θ)(s:List Nat)(ext:List θ):(pM B s++ext)[B.length]?=some (.nX 150 5 s):=by simp[pM]
theorem Pb(B:List θ)(s:List Nat)(ext:List θ):(pM B s++ext)[B.length+1]?=some (.cells [.fn (.func 105) [] [.μ B.length 0,.μ (B.length+1) 0]]):=by simp[pM]
theorem pMs(B:List θ)(s:List Nat)(ext:List θ)(t:List Nat):(pM B s++ext).set B.length (.nX 150 5 t)=pM B t++ext:=by simp[pM]
theorem f106(B:List θ)(s t:List Nat)(ext:List θ)(T:List Nat)(h:s.length+t.length<=1000000000):
  kf u 106 [.μ B.length 0,.str t] {ε:=pM B s++ext,η:=T}=some (.aQ [.n t.length,.gy],{ε:=pM B (s++t)++ext,η:=T}):=by
 refine CL (p:=xX 150 5) (by rfl) ?_;have hl:B.length<(pM B s++ext).length:=by simp[EM];omega
 have h2:s.length+t.length<=140737488355328:=by omega
 have he:∀k,([]++[AV.μ B.length 0,.str t]++[]).map (exp (pM B s++ext).length k)=[.μ B.length 0,.str t]:=fun k=>by simp only[bE,dF,az,aJ,exp,hl,if_true]
 rw[he];simp only[xX,W3,h2,and_self,if_true,Mem.put,pMs]
def jv(k:Int):List Nat:=if k=7 then[101,108,115,101]else if k=11 then[97,112,112,108,121]else[]
theorem ZM(k:Int):(jv k).length<=5:=by unfold jv;split<;>(try split)<;>simp
theorem FH{y:δ}(h:0<y.blocks.length):aU y.kind=true/\y.blocks[0]?=some (y.cb,y.body):=by
 unfold δ.blocks at h⊢;by_cases he:bm y.kind=true
 ·have hb:aU y.kind=true:=by simp only[aU,bm,decide_eq_true_eq]at he⊢;omega
  simp[he,hb]
 ·by_cases hb:aU y.kind=true
  ·simp[he,hb]
  ·simp[he,hb]at h
theorem ZC{y:δ}(h:1<y.blocks.length):bm y.kind=true/\y.blocks[1]?=some (y.ce,y.els):=by
 unfold δ.blocks at h⊢;by_cases he:bm y.kind=true
 ·simp[he]
 ·by_cases hb:aU y.kind=true
  ·simp[he,hb]at h
  ·simp[he,hb]at h
def iY(y:δ)(b:List Nat)(j:Nat):List Nat:=
 (if 0<j then[32,123,10]++dj y.body (b++fJ)else[])++(if 1<j/\¬(y.kind=7/\y.els.length=0)then b++[125,32]++jv y.kind++[32,123,10]++dj y.els (b++fJ)else[])
theorem afX(y:δ)(b:List Nat):jr y b=b++cm y.kind y.gate y.name y.pl y.size y.to++(iY y b y.blocks.length++(if 0<y.blocks.length then b++[125,10]else[59,10])):=by
 rw[afW];unfold iY δ.blocks;by_cases he:bm y.kind=true
 ·have hb:aU y.kind=true:=by simp only[aU,bm,decide_eq_true_eq]at he⊢;omega
  have hk:y.kind=7\/y.kind=11:=by simpa only[bm,decide_eq_true_eq]using he
  have Du:jv y.kind=ns y.kind:=by rcases hk with h|h<;>simp[jv,ns,h]
  simp[he,hb,Du]
 ·by_cases hb:aU y.kind=true
  ·simp[he,hb]
  ·simp[he,hb]
theorem ahX(y:δ)(b:List Nat){j j':Nat}(h:j<=j'):(iY y b j).length<=(iY y b j').length:=by
 unfold iY;simp only[cI];have h1:(if 0<j then[32,123,10]++dj y.body (b++fJ)else[]).length<=(if 0<j' then[32,123,10]++dj y.body (b++fJ)else[]).length:=by
  by_cases h0:0<j
  ·rw[if_pos h0,if_pos (by omega)];exact bS _
  ·rw[if_neg h0];simp
 have h2:(if 1<j/\¬(y.kind=7/\y.els.length=0)then b++[125,32]++jv y.kind++[32,123,10]++dj y.els (b++fJ)else[]).length<=(if 1<j'/\¬(y.kind=7/\y.els.length=0)then b++[125,32]++jv y.kind++[32,123,10]++dj y.els (b++fJ)else[]).length:=by
  by_cases h0:1<j/\¬(y.kind=7/\y.els.length=0)
  ·rw[if_pos h0,if_pos ⟨by omega,h0.2⟩];exact bS _
  ·rw[if_neg h0];simp
 omega
theorem afZ(l:List δ)(b:List Nat)(i:Nat)(h:i<l.length):(dj (l.take i) b).length+(jr l[i] b).length<=(dj l b).length:=by
 induction l generalizing i with
 |nil=>simp at h
 |cons a l ih=>
  cases i with
  |zero=>simp[dj]
  |succ i=>
   have:=ih i (by simpa using h)
   simp only[List.take_succ_cons,dj,cI,pF];omega
theorem f105(B:List θ)(l:List δ):∀(c:ρ),bp c->δ.cJ l->δ.Rs l->∀b:List Nat,b.length+2*δ.dA l<=100->δ.bI l<1000000000->∀(s:List Nat),s.length+(dj l b).length<=1000000000->∀(ext:List θ) (T:List Nat),
  ab (C u) (.fn (.func 105) [] [.μ B.length 0,.μ (B.length+1) 0]) [.list c (δ.χ l),.str b] {ε:=pM B s++ext,η:=T}=some (.aQ [],{ε:=pM B (s++dj l b)++ext,η:=T}):=by
 refine δ.lists (P:=fun l=>∀(c:ρ),bp c->δ.cJ l->δ.Rs l->∀b:List Nat,b.length+2*δ.dA l<=100->δ.bI l<1000000000->∀(s:List Nat),s.length+(dj l b).length<=1000000000->∀(ext:List θ) (T:List Nat),
  ab (C u) (.fn (.func 105) [] [.μ B.length 0,.μ (B.length+1) 0]) [.list c (δ.χ l),.str b] {ε:=pM B s++ext,η:=T}=some (.aQ [],{ε:=pM B (s++dj l b)++ext,η:=T})) (fun l ih c hc ai hR b hb hw s hs ext T=>?_) l
 refine kF (g:=Gn) rfl rfl rfl (by simp[EM]) ?_;have acH:B.length<(pM B s++ext).length:=by simp[EM];omega
 have acI:B.length+1<(pM B s++ext).length:=by simp[EM];omega
 simp only[bE,cG,az,aJ,rN hc ai];simp only[exp,acH,acI,if_true,Gn,c105];have vJ:=δ.Al l;have er:∀M:Mem,M.ν=ν:=fun _=>rfl;let K:St->Prop:=fun st=>st.e 1= .str b/\st.e 2= .μ B.length 0/\st.e 3= .μ (B.length+1) 0;let J:Nat->St->Prop:=fun i st=>K st/\st.e 11= .list c (δ.χ l)/\st.e 12= .n l.length/\st.e 13= .n i;let PM:List Nat->List θ->St->Prop:=fun s x st=>st.mem= {ε:=pM B s++x,η:=[]};let I:Nat->St->Prop:=fun i st=>J i st/\∃x,PM (s++dj (l.take i) b) (ext++x) st;refine Δ (fun st=>J 0 st/\PM s ext st) (by simp[J,K,PM,u0]) fun s4 ⟨a1,a2⟩=>?_;refine κ.block (κ.upto (I:=I) l.length ⟨a1,[],by simpa[dj]using a2⟩ (fun i st ψ Ω=>?_) (fun st Ω=>?_))
 ·obtain⟨⟨⟨h1,h2,h3⟩,q1,q2,q3⟩,x,h4⟩:=Ω;simp only[PM]at h4;have kS:bC .i64 ((i:Int)+1)=(i:Int)+1:=wrap_i64 (by omega) (by omega);have hg:=JI l i ψ;have hm:l[i]∈l:=c_ ψ;have r_:=δ.iB ai _ hm;have hRi:=δ.ajg hR _ hm;obtain⟨qZ,pg⟩:=ih _ hm;have mg:=δ.oI hm;have dx:=δ.O_ r_;have zm:=δ.La r_;have dD:=δ.Ck l[i];have hdm:=aaP hm;have hle:=afZ l b i ψ;have lR:s++dj (l.take (i+1)) b=(s++dj (l.take i) b)++jr l[i] b:=by rw[wI ψ,af1,bO]
  have hSl:(s++dj (l.take i) b).length+(jr l[i] b).length<=1000000000:=by simp;omega
  generalize s++dj (l.take i) b=S at*;generalize l[i]=y at*;have ze:=afX y b;obtain⟨UJ,hRb,hRe⟩:=ach hRi;have hhl:=UD UJ;have SB:=fun m=>f107 (u:=u) y r_ UJ m;have rL:=fun m=>f108 (u:=u) y r_ m;have H2:=aaO y;have k0:=cell0 y;have kt:=Sg y;have kl:=δ.lH y;have eC:b.length<=100:=by omega
  have hbw:=ZM y.kind;generalize cm y.kind y.gate y.name y.pl y.size y.to=hd at*;simp only[δ.av,iN]at hg SB rL;have Mz:(jr y b).length=b.length+hd.length+((iY y b y.blocks.length).length+(if 0<y.blocks.length then b.length+2 else 2)):=by rw[ze];simp only[cI];split<;>simp
  let J2:St->Prop:=fun st=>J i st/\∃v,st.e 7= .aj 7 v 0/\st.q 7=some (v,.cells y.cells);refine Δ (fun st=>J i st/\PM S (ext++x) st/\st.e 14= .bool true) (by simp[J,K,PM,h1,h2,h3,h4,q1,q2,q3,ψ]) fun s5 ⟨⟨⟨h1,h2,h3⟩,q1,q2,q3⟩,h4,q4⟩=>?_;simp only[PM]at h4;refine Δ (fun st=>J i st/\PM S (ext++x) st) (by simp[J,K,PM,h1,h2,h3,h4,q1,q2,q3,q4]) fun s5 ⟨⟨⟨h1,h2,h3⟩,q1,q2,q3⟩,h4⟩=>?_;simp only[PM]at h4;refine bJ (fun st=>J i st/\∃x2,PM (S++jr y b) (ext++x2) st) ?_ fun s6 ⟨⟨⟨h1,h2,h3⟩,q1,q2,q3⟩,x2,h4⟩=>by simp only[PM]at h4;exact κ.fin (M:=fun st=>J (i+1) st/\PM (S++jr y b) (ext++x2) st) .normal (by simp[J,K,PM,h1,h2,h3,h4,q1,q2,q3,kS]) fun s' ⟨d1,d2⟩=> .inl ⟨rfl,d1,x2,by rw[lR];exact d2⟩
  refine κ.block ?_;refine Δ (fun st=>J2 st/\PM S (ext++x) st) (by simp[J2,J,K,PM,h1,h2,h3,h4,q1,q2,q3,ψ,hg,kl,kt,u0]) fun s5 ⟨⟨⟨⟨h1,h2,h3⟩,q1,q2,q3⟩,v,q4,q5⟩,h4⟩=>?_;simp only[PM]at h4;have a1:cE .add b hd=some (.str (b++hd)):=eF (by omega);have w1:=f106 (u:=u) B S (b++hd) (ext++x) [] (by simp;omega);refine Δ (fun st=>J2 st/\PM (S++(b++hd)) (ext++x) st) (by simp[J2,J,K,PM,h1,h2,h3,h4,q1,q2,q3,q4,q5,kl,kt,SB,a1,w1]) fun s5 ⟨⟨⟨⟨h1,h2,h3⟩,q1,q2,q3⟩,v,q4,q5⟩,h4⟩=>?_;simp only[PM]at h4;let x2:List θ:=x++[.map [(.n 7,.str [101,108,115,101]),(.n 11,.str [97,112,112,108,121])]];refine Δ (fun st=>J2 st/\PM (S++(b++hd)) (ext++x2) st/\st.e 8= .str (jv y.kind)) (by
   have BF:pM B (S++(b++hd))++(ext++x2)=(pM B (S++(b++hd))++(ext++x))++[.map [(.n 7,.str [101,108,115,101]),(.n 11,.str [97,112,112,108,121])]]:=by simp[x2]
   simp only[PM];rw[BF];generalize pM B (S++(b++hd))++(ext++x)=BB at*;by_cases k7:y.kind=7
   ·rw[k7]at k0;simp[J2,J,K,h1,h2,h3,h4,q1,q2,q3,q4,q5,kl,k0,k7,Mem.push,Mem.put,isKey,plain,uI,jT,jF,jv,PK]
   ·by_cases zC:y.kind=11
    ·rw[zC]at k0;simp[J2,J,K,h1,h2,h3,h4,q1,q2,q3,q4,q5,kl,k0,zC,Mem.push,Mem.put,isKey,plain,uI,jT,jF,jv,PK]
    ·simp[J2,J,K,h1,h2,h3,h4,q1,q2,q3,q4,q5,kl,k0,k7,zC,Mem.push,Mem.put,isKey,plain,uI,jT,jF,jv,PK]) fun s5 ⟨⟨⟨⟨h1,h2,h3⟩,q1,q2,q3⟩,v,q4,q5⟩,h4,q6⟩=>?_
  simp only[PM]at h4;generalize Ug:S++(b++hd)=S2 at*;have akY:S2.length=S.length+b.length+hd.length:=by rw[<-Ug];simp;omega
  refine bJ (fun st=>J2 st/\∃x3,PM (S2++iY y b y.blocks.length) (ext++x3) st) ?_ fun s5 ⟨⟨⟨⟨h1,h2,h3⟩,q1,q2,q3⟩,v,q4,q5⟩,x3,h4⟩=>?_
  ·let JB:St->Prop:=fun st=>J2 st/\st.e 8= .str (jv y.kind)/\st.e 28=iN y/\st.e 29= .n y.blocks.length;let I2:Nat->St->Prop:=fun j st=>JB st/\st.e 30= .n j/\∃x3,PM (S2++iY y b j) (ext++x3) st;refine Δ (fun st=>JB st/\st.e 30= .n 0/\PM S2 (ext++x2) st) (by simp[JB,J2,J,K,PM,h1,h2,h3,h4,q1,q2,q3,q4,q5,q6,kl,kt,rL,iN]) fun s6 ⟨a1,a2,a3⟩=>?_;refine κ.block (κ.upto (I:=I2) y.blocks.length ⟨a1,a2,x2,by simpa[iY]using a3⟩ (fun j st eW Ω=>?_) (fun st Ω=>?_))
   ·obtain⟨⟨⟨⟨⟨h1,h2,h3⟩,q1,q2,q3⟩,v,q4,q5⟩,q6,z1,z2⟩,z3,x3,h4⟩:=Ω;simp only[PM]at h4;have dH:=ahX y b (show j+1<=y.blocks.length by omega);have abY:=hSl;rw[Mz]at abY;have qa:2<=(if 0<y.blocks.length then b.length+2 else 2):=by split<;>omega
    have dz:y.blocks.length<=2:=by unfold δ.blocks;split<;>(try split)<;>simp
    have sh:bC .i64 ((j:Int)+1)=(j:Int)+1:=wrap_i64 (by omega) (by omega);simp only[iN,fE]at z1;have hj:j=0\/j=1:=by omega
    rcases hj with rfl|rfl
    ·obtain⟨UK,gL⟩:=FH eW;have kC:y.blocks[0]=(y.cb,y.body):=by rw[dn eW]at gL;simpa using gL
     rw[UK]at H2;simp only[if_true]at H2;have zn:iY y b (0+1)=[32,123,10]++dj y.body (b++[32,32]):=by simp[iY,fJ]
     have pa:iY y b 0=[]:=by simp[iY]
     rw[zn]at dH;rw[pa,dF]at h4;simp only[cI,cD,eO]at dH;have a1:cE .add b [32,32]=some (.str (b++[32,32])):=eF (by simp;omega);have w2:=f106 (u:=u) B S2 [32,123,10] (ext++x3) [] (by simp;omega);have w3:=qZ y.cb zm.1 dx.1 (hRb UK) (b++[32,32]) (by simp;omega) (by omega) (S2++[32,123,10]) (by simp;omega) (ext++x3) [];have p1:=Pb B (S2++[32,123,10]) (ext++x3);refine κ.fin (M:=fun st=>JB st/\st.e 30= .n 1/\PM (S2++[32,123,10]++dj y.body (b++[32,32])) (ext++x3) st) .normal (by
      have sg:bC .i64 1=1:=by decide
      simp only[PM];generalize S2++[32,123,10]++dj y.body (b++[32,32])=S4 at*;generalize S2++[32,123,10]=S3 at*;simp[BK,JB,J2,J,K,h1,h2,h3,h4,q1,q2,q3,q4,q5,q6,z1,z2,z3,eW,kC,w2,p1,a1,w3,iN,fE,sg]) fun s' ⟨d1,d2,d3⟩=> .inl ⟨rfl,d1,d2,x3,?_⟩
     rw[zn,<-bO];exact d3
    ·obtain⟨UL,dy⟩:=ZC eW;have kC:y.blocks[1]=(y.ce,y.els):=by rw[dn eW]at dy;simpa using dy
     rw[UL]at H2;simp only[if_true]at H2;have sg:bC .i64 2=2:=by decide
     have Nz:(1:Int)<(y.blocks.length:Int):=by omega
     by_cases Dx:y.kind=7/\y.els.length=0
     ·have lQ:iY y b (1+1)=iY y b 1:=by simp only[iY,Dx];simp
      have H4:y.els=[]:=np Dx.2;rw[Dx.1]at k0;refine κ.fin (M:=fun st=>JB st/\st.e 30= .n 2/\PM (S2++iY y b 1) (ext++x3) st) .normal (by
       simp only[PM]
       generalize S2++iY y b 1=S3 at*;simp[BK,JB,J2,J,K,h1,h2,h3,h4,q1,q2,q3,q4,q5,q6,z1,z2,z3,eW,Nz,kC,kl,k0,H4,δ.χ,iN,fE,sg]) fun s' ⟨d1,d2,d3⟩=> .inl ⟨rfl,d1,d2,x3,?_⟩
      rw[lQ];exact d3
     ·have lQ:iY y b (1+1)=iY y b 1++(b++[125,32]++jv y.kind)++[32,123,10]++dj y.els (b++[32,32]):=by simp only[iY,show 0<1+1 by decide,show 1<1+1 by decide,show 0<1 by decide,show¬1<1 by decide,if_true,Dx,not_false_eq_true,and_self,fJ,false_and,if_false,dF];simp
      rw[lQ]at dH;simp only[cI,cD,eO]at dH;generalize HT:S2++iY y b 1=S3 at*;have abX:S3.length=S2.length+(iY y b 1).length:=by rw[<-HT];simp
      have a1:cE .add b [32,32]=some (.str (b++[32,32])):=eF (by simp;omega);have a2:cE .add b [125,32]=some (.str (b++[125,32])):=eF (by simp;omega);have a3:cE .add (b++[125,32]) (jv y.kind)=some (.str (b++[125,32]++jv y.kind)):=eF (by simp;omega);have w2:=f106 (u:=u) B S3 (b++[125,32]++jv y.kind) (ext++x3) [] (by simp;omega);have w3:=f106 (u:=u) B (S3++(b++[125,32]++jv y.kind)) [32,123,10] (ext++x3) [] (by simp;omega);have w4:=pg y.ce zm.2 dx.2 (hRe UL) (b++[32,32]) (by simp;omega) (by omega) (S3++(b++[125,32]++jv y.kind)++[32,123,10]) (by simp;omega) (ext++x3) [];have p1:=Pb B (S3++(b++[125,32]++jv y.kind)++[32,123,10]) (ext++x3);have φ:y.kind=7->((y.els.length:Int)==0)=false:=fun h=>by have:¬y.els.length=0:=fun h2=>Dx ⟨h,h2⟩;simp;intro h3;rw[h3]at this;exact this rfl
      refine κ.fin (M:=fun st=>JB st/\st.e 30= .n 2/\PM (S3++(b++[125,32]++jv y.kind)++[32,123,10]++dj y.els (b++[32,32])) (ext++x3) st) .normal (by
       simp only[PM]
       generalize S3++(b++[125,32]++jv y.kind)++[32,123,10]++dj y.els (b++[32,32])=S6 at*;generalize S3++(b++[125,32]++jv y.kind)++[32,123,10]=S5 at*;generalize S3++(b++[125,32]++jv y.kind)=S4 at*;generalize b++[125,32]++jv y.kind=tb at*;by_cases k7:y.kind=7
       ·have Ij:=φ k7;rw[k7]at k0 q6 a3;simp[BK,JB,J2,J,K,h1,h2,h3,h4,q1,q2,q3,q4,q5,q6,z1,z2,z3,eW,Nz,kC,kl,k0,k7,u0,Ij,w2,w3,p1,a1,a2,a3,w4,iN,fE,sg]
       ·simp[BK,JB,J2,J,K,h1,h2,h3,h4,q1,q2,q3,q4,q5,q6,z1,z2,z3,eW,Nz,kC,kl,k0,ff k7,w2,w3,p1,a1,a2,a3,w4,iN,fE,sg]) fun s' ⟨d1,d2,d3⟩=> .inl ⟨rfl,d1,d2,x3,?_⟩
      have:S2++(iY y b 1++(b++[125,32]++jv y.kind)++[32,123,10]++dj y.els (b++[32,32]))=S3++(b++[125,32]++jv y.kind)++[32,123,10]++dj y.els (b++[32,32]):=by rw[<-HT];simp
      rw[lQ,this];exact d3
   ·obtain⟨⟨⟨⟨⟨h1,h2,h3⟩,q1,q2,q3⟩,v,q4,q5⟩,q6,z1,z2⟩,z3,x3,h4⟩:=Ω;simp only[PM]at h4;refine κ.fin (M:=fun st=>J2 st/\PM (S2++iY y b y.blocks.length) (ext++x3) st) (.exit 2) (by simp[BK,J2,J,K,PM,h1,h2,h3,h4,q1,q2,q3,q4,q5,q6,z1,z2,z3]) fun s' ⟨d1,d2⟩=>?_;exact⟨by simp,.inl ⟨rfl,.inl ⟨rfl,d1,x3,d2⟩⟩⟩
  ·simp only[PM]at h4;have hLL:S++jr y b=S2++iY y b y.blocks.length++(if 0<y.blocks.length then b++[125,10]else[59,10]):=by rw[ze,<-Ug];simp
   rw[hLL];generalize HT:S2++iY y b y.blocks.length=S3 at*;have abX:S3.length=S2.length+(iY y b y.blocks.length).length:=by rw[<-HT];simp
   by_cases h0:0<y.blocks.length
   ·rw[if_pos h0]at Mz⊢;have xb:(0:Int)<(y.blocks.length:Int):=by omega
    have a1:cE .add b [125,10]=some (.str (b++[125,10])):=eF (by simp;omega);have w2:=f106 (u:=u) B S3 (b++[125,10]) (ext++x3) [] (by simp;omega);refine κ.fin (M:=fun st=>J i st/\PM (S3++(b++[125,10])) (ext++x3) st) .normal (by simp[J,K,PM,h1,h2,h3,h4,q1,q2,q3,q4,q5,kl,kt,rL,h0,xb,a1,w2]) fun s' ⟨d1,d2⟩=>?_;simp;exact⟨d1,x3,d2⟩
   ·rw[if_neg h0]at Mz⊢;have xb:¬(0:Int)<(y.blocks.length:Int):=by omega
    have w2:=f106 (u:=u) B S3 [59,10] (ext++x3) [] (by simp;omega);refine κ.fin (M:=fun st=>J i st/\PM (S3++[59,10]) (ext++x3) st) .normal (by simp[J,K,PM,h1,h2,h3,h4,q1,q2,q3,q4,q5,kl,kt,rL,h0,xb,w2]) fun s' ⟨d1,d2⟩=>?_;simp;exact⟨d1,x3,d2⟩
 ·obtain⟨⟨⟨h1,h2,h3⟩,q1,q2,q3⟩,x,h4⟩:=Ω;simp only[PM]at h4;rw[pH]at h4;simp[VL,h1,h2,h3,h4,q1,q2,q3,Th]
theorem f111(B:List θ)(s:List Nat)(ext:List θ)(T:List Nat):
  kf u 111 [.μ B.length 0] {ε:=pM B s++ext,η:=T}=some (.str s,{ε:=B++([.dead,.cells [.fn (.func 105) [] [.μ B.length 0,.μ (B.length+1) 0]]]++ext),η:=T}):=by
 refine CL (p:=xW 150 5) (by rfl) ?_;have hl:B.length<(pM B s++ext).length:=by simp[EM];omega
 have he:∀k,([]++[AV.μ B.length 0]++[]).map (exp (pM B s++ext).length k)=[.μ B.length 0]:=fun k=>by simp only[bE,dF,az,aJ,exp,hl,if_true]
 rw[he];simp only[xW,W3,and_self,if_true,Mem.put];simp[pM]
def Jr(ps:List τ):List Nat:=if nw ps=0 then fI ps else[]
theorem f25(dJ:ρ)(nD:bp dJ)(ps:List τ)(cX:∀x∈ps,x.Ok)(cO:g_ ps<1000000000)(m:Mem):
  kf u 25 [tH dJ ps] m=some (.aQ [.str (Jr ps),.n (nw ps)],m):=by
 have F8:=fun m=>f43 (u:=u) dJ nD ps cX (by omega) m;refine dI (g:=Hh) rfl rfl rfl ?_;simp only[az,aJ,S9 nD cX];simp only[Hh,RB,tH]at F8⊢;have hz:∀bs n (a:List Nat) (i:Int),aO bs n 8 (.aQ [.str a,.n i])= .aQ [.str a,.n i]:=fun _ _ _ _=>rfl;have er:∀M:Mem,M.ν=ν:=fun _=>rfl;let K:St->Prop:=fun st=>st.e 1= .aj 1 0 0/\st.q 1=some (0,.cells [.list dJ (ps.map τ.av)]);refine Δ (fun st=>K st/\st.mem= {ε:=m.ε,η:=[]}) (by simp[K,bz]) fun s1 ⟨⟨h1,h2⟩,h3⟩=>?_;unfold Jr;by_cases hc:nw ps=0
 case neg=>
  rw[if_neg hc]
  refine bJ (fun _=>False) ?_ fun _ h=>h.elim;simp[h1,h2,h3,F8,bne_true hc,hz]
 rw[if_pos hc];obtain⟨alc,hR⟩:=aao hc;rw[hc]at F8⊢;refine Δ (fun st=>K st/\st.mem= {ε:=m.ε,η:=[]}) (by simp[K,h1,h2,h3,F8]) fun s1 ⟨⟨h1,h2⟩,h3⟩=>?_;refine Δ (fun st=>K st/\st.e 5= .μ m.ε.length 0/\st.mem= {ε:=m.ε++[.nX 150 5 []],η:=[]}) (by simp[K,h1,h2,h3,Mem.push]) fun s1 ⟨⟨h1,h2⟩,h4,h3⟩=>?_;refine Δ (fun st=>K st/\st.e 5= .μ m.ε.length 0/\st.e 6= .μ (m.ε.length+1) 0/\st.mem= {ε:=m.ε++[.nX 150 5 [],.cells [.fX]],η:=[]}) (by simp[K,h1,h2,h3,h4,Mem.push,er,ν]) fun s1 ⟨⟨h1,h2⟩,h4,h5,h3⟩=>?_;let PM:List Nat->List θ->St->Prop:=fun s x st=>st.mem= {ε:=pM m.ε s++x,η:=[]};let K2:St->Prop:=fun st=>K st/\st.e 5= .μ m.ε.length 0/\st.e 6= .μ (m.ε.length+1) 0;refine Δ (fun st=>K2 st/\PM [] [] st) (by simp[K2,K,PM,pM,h1,h2,h3,h4,h5,Mem.put,er,ν,cw,ba,lo,Fn.below]) fun s1 ⟨⟨⟨h1,h2⟩,h4,h5⟩,h3⟩=>?_;simp only[PM]at h3;refine bJ (fun st=>K2 st/\∃x,PM (fI ps) x st) ?_ fun s1 ⟨⟨⟨h1,h2⟩,h4,h5⟩,x,h3⟩=>?_
 ·let J:Nat->St->Prop:=fun i st=>K2 st/\st.e 19= .list dJ (ps.map τ.av)/\st.e 20= .n ps.length/\st.e 21= .n i;let I:Nat->St->Prop:=fun i st=>J i st/\∃x,PM (fI (ps.take i)) x st;refine Δ (fun st=>J 0 st/\PM [] [] st) (by simp[J,K2,K,PM,h1,h2,h3,h4,h5]) fun s4 ⟨a1,a2⟩=>?_;refine κ.block (κ.upto (I:=I) ps.length ⟨a1,[],a2⟩ (fun i st ψ Ω=>?_) (fun st Ω=>?_))
  ·obtain⟨⟨⟨⟨h1,h2⟩,h4,h5⟩,q1,q2,q3⟩,x,h3⟩:=Ω;simp only[PM]at h3;have kS:bC .i64 ((i:Int)+1)=(i:Int)+1:=wrap_i64 (by omega) (by omega);have hm:ps[i]∈ps:=c_ ψ;have ai:=cX _ hm;have hr:=hR _ hm;have mg:=τ.oI hm;simp only[τ.wt]at mg;have akZ:(fI (ps.take i)).length<=2400000:=by have:=aih (ps.take i) fun x hx=>hR x (List.mem_of_mem_take hx);rw[lD]at this;omega
   have lR:fI (ps.take (i+1))=fI (ps.take i)++ps[i].text:=by rw[wI ψ,aif]
   have vJ:=af2 ps[i].body [32,32] hr.body (by have:=hr.dA;simp;omega) (by have:=hr.bL;omega);have jY:=hr.name;have Ik:=hr.au;have Ve:=hr.par;have NN:=ahS _ Ve Ik;simp only[τ.text,fJ]at lR;generalize fI (ps.take i)=S at*;let P:List AV:=[.str ps[i].name,.list ps[i].cp (ps[i].au.map ak.av),.list ps[i].cb (δ.χ ps[i].body)];let J2:St->Prop:=fun st=>J i st/\∃v,st.e 8= .aj 8 v 0/\st.q 8=some (v,.cells P);refine Δ (fun st=>J i st/\PM S x st/\st.e 22= .bool true) (by simp[J,K2,K,PM,h1,h2,h3,h4,h5,q1,q2,q3,ψ]) fun s5 ⟨⟨⟨⟨h1,h2⟩,h4,h5⟩,q1,q2,q3⟩,h3,q4⟩=>?_;simp only[PM]at h3;refine Δ (fun st=>J i st/\PM S x st) (by simp[J,K2,K,PM,h1,h2,h3,h4,h5,q1,q2,q3,q4]) fun s5 ⟨⟨⟨⟨h1,h2⟩,h4,h5⟩,q1,q2,q3⟩,h3⟩=>?_;simp only[PM]at h3;refine bJ (fun st=>J i st/\∃x2,PM (fI (ps.take (i+1))) x2 st) ?_ fun s6 ⟨⟨⟨⟨h1,h2⟩,h4,h5⟩,q1,q2,q3⟩,x2,h3⟩=>by simp only[PM]at h3;exact κ.fin (M:=fun st=>J (i+1) st/\PM (fI (ps.take (i+1))) x2 st) .normal (by simp[J,K2,K,PM,h1,h2,h3,h4,h5,q1,q2,q3,kS]) fun s' ⟨d1,d2⟩=> .inl ⟨rfl,d1,x2,d2⟩
   refine κ.block ?_;refine Δ (fun st=>J2 st/\PM S x st) (by simp[J2,J,K2,K,PM,P,h1,h2,h3,h4,h5,q1,q2,q3,ψ,τ.av]) fun s5 ⟨⟨⟨⟨⟨h1,h2⟩,h4,h5⟩,q1,q2,q3⟩,v,q4,q5⟩,h3⟩=>?_;simp only[PM]at h3;simp only[P]at q5;refine Δ (fun st=>J2 st/\PM S x st/\st.e 9= .list .nil []) (by simp[J2,J,K2,K,PM,P,h1,h2,h3,h4,h5,q1,q2,q3,q4,q5]) fun s5 ⟨⟨⟨⟨⟨h1,h2⟩,h4,h5⟩,q1,q2,q3⟩,v,q4,q5⟩,h3,q6⟩=>?_;simp only[PM]at h3;simp only[P]at q5;refine bJ (fun st=>J2 st/\∃x2 cp,PM S x2 st/\st.e 9= .list cp ((ps[i].au.map ak.text).map AV.str)) ?_ fun s6 ⟨⟨⟨⟨⟨h1,h2⟩,h4,h5⟩,q1,q2,q3⟩,v,q4,q5⟩,x2,cp,h3,q6⟩=>?_
   ·let JX:St->Prop:=fun st=>J2 st/\st.e 26= .list ps[i].cp (ps[i].au.map ak.av)/\st.e 27= .n ps[i].au.length;let I2:Nat->St->Prop:=fun k st=>JX st/\st.e 28= .n k/\∃x2 cp,PM S x2 st/\st.e 9= .list cp (((ps[i].au.take k).map ak.text).map AV.str)/\oM (pM m.ε S).length (pM m.ε S++x2) 1 9 cp k;refine Δ (fun st=>JX st/\st.e 28= .n 0/\PM S x st/\st.e 9= .list .nil []) (by simp[JX,J2,J,K2,K,PM,P,h1,h2,h3,h4,h5,q1,q2,q3,q4,q5,q6]) fun s6 ⟨a1,a2,a3,a4⟩=>?_;refine κ.block (κ.upto (I:=I2) ps[i].au.length ⟨a1,a2,x,.nil,a3,a4,oM.nil⟩ (fun k st eW Ω=>?_) (fun st Ω=>?_))
    ·obtain⟨⟨⟨⟨⟨⟨h1,h2⟩,h4,h5⟩,q1,q2,q3⟩,v,q4,q5⟩,z1,z2⟩,z3,x2,cp,h3,z4,r⟩:=Ω;simp only[PM]at h3;simp only[P]at q5;have hwk:bC .i64 ((k:Int)+1)=(k:Int)+1:=wrap_i64 (by omega) (by omega);have Il:ps[i].au[k]∈ps[i].au:=c_ eW;obtain⟨n1,n2,n3⟩:=Ve _ Il;have aaW:=fun m=>f109 (u:=u) ps[i].au[k].size (by omega) (by omega) m;have hd:=vh ps[i].au[k].size.toNat;have nG:((ps[i].au.take (k+1)).map ak.text).map AV.str=((ps[i].au.take k).map ak.text).map AV.str++[.str (ps[i].au[k]).text]:=by rw[wI eW,kr,kr];rfl
     have MB:(((ps[i].au.take k).map ak.text).map AV.str).length=k:=by rw[cg,cg,lD];omega
     have NY:=(PY 0 ((ps[i].au.take k).map ak.text)).s;generalize((ps[i].au.take k).map ak.text).map AV.str=LQ at*;obtain⟨dU,x3,b1,b2,-⟩:=PV (v:=(ps[i].au[k]).text) r MB NY (by omega);simp only[ak.text]at b1 nG;generalize fq ps[i].au[k].size.toNat=td at*;have a1:cE .add ps[i].au[k].name [91]=some (.str (ps[i].au[k].name++[91])):=eF (by simp;omega);have a2:cE .add (ps[i].au[k].name++[91]) td=some (.str (ps[i].au[k].name++[91]++td)):=eF (by simp;omega);have a3:cE .add (ps[i].au[k].name++[91]++td) [93]=some (.str (ps[i].au[k].name++[91]++td++[93])):=eF (by simp;omega);simp only[bO,cG,bE]at a1 a2 a3 b1 nG;refine κ.fin (M:=fun st=>JX st/\st.e 28= .n ((k:Int)+1)/\PM S x3 st/\st.e 9= .list dU (LQ++[.str (ps[i].au[k].name++91::(td++[93]))])) .normal (by simp[OC,JX,J2,J,K2,K,PM,P,h1,h2,h3,h4,h5,q1,q2,q3,q4,q5,z1,z2,z3,z4,eW,ak.av,aaW,a1,a2,a3,cN,cQ,shaped,AV.one,er,ν,b1,hwk]) fun s' ⟨d1,d2,d3,d4⟩=> .inl ⟨rfl,d1,d2,x3,dU,d3,by rw[nG];exact d4,b2⟩
    ·obtain⟨⟨⟨⟨⟨⟨h1,h2⟩,h4,h5⟩,q1,q2,q3⟩,v,q4,q5⟩,z1,z2⟩,z3,x2,cp,h3,z4,r⟩:=Ω;simp only[PM]at h3;simp only[P]at q5;rw[pH]at z4;refine κ.fin (M:=fun st=>J2 st/\PM S x2 st/\st.e 9= .list cp ((ps[i].au.map ak.text).map AV.str)) (.exit 2) (by simp[OC,J2,J,K2,K,PM,P,h1,h2,h3,h4,h5,q1,q2,q3,q4,q5,z1,z2,z3,z4]) fun s' ⟨d1,d2,d3⟩=>?_;exact⟨by simp,.inl ⟨rfl,.inl ⟨rfl,d1,x2,cp,d2,d3⟩⟩⟩
   ·simp only[PM]at h3;simp only[P]at q5;have SC:=fun c m=>f110 (u:=u) c (ps[i].au.map ak.text) (by omega) (by rw[cg];omega) m;rw[cT]at q6 SC;generalize lI (ps[i].au.map ak.text)=tp at*;have a1:cE .add [112,114,111,99,32] ps[i].name=some (.str ([112,114,111,99,32]++ps[i].name)):=eF (by simp;omega);have a2:cE .add ([112,114,111,99,32]++ps[i].name) [40]=some (.str ([112,114,111,99,32]++ps[i].name++[40])):=eF (by simp;omega);have a3:cE .add ([112,114,111,99,32]++ps[i].name++[40]) tp=some (.str ([112,114,111,99,32]++ps[i].name++[40]++tp)):=eF (by simp;omega);have a4:cE .add ([112,114,111,99,32]++ps[i].name++[40]++tp) [41,32,123,10]=some (.str ([112,114,111,99,32]++ps[i].name++[40]++tp++[41,32,123,10])):=eF (by simp;omega);have w1:=f106 (u:=u) m.ε S ([112,114,111,99,32]++ps[i].name++[40]++tp++[41,32,123,10]) x2 [] (by simp;omega);have w2:=f105 (u:=u) m.ε ps[i].body ps[i].cb ai.2.2.2.1 ai.2.2.2.2.1 hr.body [32,32] (by have:=hr.dA;simp;omega) (by omega) (S++([112,114,111,99,32]++ps[i].name++[40]++tp++[41,32,123,10])) (by simp;omega) x2 [];have p1:=Pb m.ε (S++([112,114,111,99,32]++ps[i].name++[40]++tp++[41,32,123,10])) x2;have w3:=f106 (u:=u) m.ε (S++([112,114,111,99,32]++ps[i].name++[40]++tp++[41,32,123,10])++dj ps[i].body [32,32]) [125,10] x2 [] (by simp;omega);have uo:fI (ps.take (i+1))=S++([112,114,111,99,32]++ps[i].name++[40]++tp++[41,32,123,10])++dj ps[i].body [32,32]++[125,10]:=by rw[lR];simp
    rw[uo];refine κ.fin (M:=fun st=>J i st/\PM (S++([112,114,111,99,32]++ps[i].name++[40]++tp++[41,32,123,10])++dj ps[i].body [32,32]++[125,10]) x2 st) .normal (by
     simp only[PM]
     generalize S++([112,114,111,99,32]++ps[i].name++[40]++tp++[41,32,123,10])++dj ps[i].body [32,32]++[125,10]=S5 at*;generalize S++([112,114,111,99,32]++ps[i].name++[40]++tp++[41,32,123,10])++dj ps[i].body [32,32]=S4 at*;generalize S++([112,114,111,99,32]++ps[i].name++[40]++tp++[41,32,123,10])=S3 at*;simp only[bO,cG,bE]at a1 a2 a3 a4 w1;simp[J,K2,K,h1,h2,h3,h4,h5,q1,q2,q3,q4,q5,q6,SC,a1,a2,a3,a4,w1,w2,w3,p1,cN,cQ]) fun s' ⟨d1,d2⟩=>?_
    simp;exact⟨d1,x2,by simpa using d2⟩
  ·obtain⟨⟨⟨⟨h1,h2⟩,h4,h5⟩,q1,q2,q3⟩,x,h3⟩:=Ω;simp only[PM]at h3;rw[pH]at h3;refine κ.fin (M:=fun st=>K2 st/\PM (fI ps) x st) (.exit 0) (by simp[V6,K2,K,PM,h1,h2,h3,h4,h5,q1,q2,q3]) fun s' ⟨d1,d2⟩=>?_;exact⟨by simp,.inl ⟨rfl,.inl ⟨rfl,d1,x,d2⟩⟩⟩
 ·simp only[PM]at h3;have aaX:=f111 (u:=u) m.ε (fI ps) x [];simp[h1,h2,h3,h4,h5,aaX,hz]
end Go.Θ.Tz
