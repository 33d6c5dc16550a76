import Derived.Test.YtiigojkfojnedaaGreatDoorQHq
set_option linter.unusedVariables false
set_option linter.unusedSimpArgs false
set_option linter.unusedSectionVars false
set_option maxRecDepth 100000
set_option maxHeartbeats 8000000
open List renaming eq_nil_of_length_eq_zero->ma,cons_append->eO,append_assoc->cj,length_cons->eZ,length_map->dd,map_map->c6,map_congr_left->dt,map_cons->ay,map_nil->aA,findIdx?_eq_some_iff_getElem->sZ,findIdx?_eq_none_iff->vo,contains_iff_mem->yP,getElem_mem->cL,nil_append->cI,take_succ_eq_append_getElem->wZ,map_append->qn,length_take->mf,take_length->mL,length_pos_iff->AP
open Go.IntKind renaming wrap->a_
open Bool renaming false_and->ahE,true_and->ug
namespace Go.ah.Tz
open Go.ah
variable{u:Nat}
attribute [local simp] exec ed dP eX aC dQ ft eL ζ gg τ fW gy gH gI AV.cells newVar gE rd wr fK single eV ek dF μ aY RV.get aV dB iE vI
theorem d_{a b:List Nat}(h:a.length+b.length<1000000000000):bY .add a b=some (.str (a++b)):=by simp only[bY];rw[if_neg];show¬((a.length+b.length:Nat):Int)>9223372036854775807;omega
theorem TR{k n:Int}{s:List Nat}{c:χ}{l:List η}(h:(η.mk k n s c l).ml):(k=1/\0<=n/\n<100/\l=[])\/(k=2/\l=[])\/((k=3\/k=4\/k=5)/\∃a b,l=[a,b]):=by
 simp only[η.ml]at h;obtain⟨h1,-,-⟩:=h;unfold gr at h1;by_cases c1:k<1\/5<k\/(k=1/\(n<0\/99<n))
 ·rw[if_pos c1]at h1;cases h1
 rw[if_neg c1]at h1;by_cases c2:(3<=k/\l.length≠2)\/(k<3/\l.length≠0)
 ·rw[if_pos c2]at h1;cases h1
 have hk:k=1\/k=2\/3<=k:=by omega
 rcases hk with hk|hk|hk
 ·exact .inl ⟨hk,by omega,by omega,ma (by omega)⟩
 ·exact .inr (.inl ⟨hk,ma (by omega)⟩)
 ·have h2:l.length=2:=by omega
  match l,h2 with
  |[a,b],_=>exact .inr (.inr ⟨by omega,a,b,rfl⟩)
theorem Mi(s:List Nat):paren false s=s:=rfl
theorem ada(l:List δ)(x:δ)(b:List Nat):dN (l++[x]) b=dN l b++q_ x b:=by
 induction l with
 |nil=>simp[dN]
 |cons a l ih=>simp only[eO,dN,ih,cj]
theorem Wy{l:List δ}{x:δ}(h:x∈l):x.deep<=δ.cM l:=by
 induction l with
 |nil=>cases h
 |cons a l ih=>
  simp only[δ.cM]
  rcases List.mem_cons.1 h with rfl|h
  ·omega
  ·have:=ih h;omega
theorem adb(l:List δ)(b:List Nat)(h:δ.Rs l)(hb:b.length+2*δ.cM l<=100)(hc:δ.bj l<=1000):(dN l b).length<=1500000:=by have h1:=Sq 100 l b h hb;have h2:δ.bj l*(3*100+1200)<=1000*(3*100+1200):=Nat.mul_le_mul_right _ hc;omega
theorem YO{x:δ}(h:x.R):zK x.kind x.gate x.name x.pl x.size x.to/\(dh x.kind=true->δ.Rs x.body)/\(de x.kind=true->δ.Rs x.aG):=by cases x;exact h
theorem ac9(x:δ)(b:List Nat):q_ x b=b++dv x.kind x.gate x.name x.pl x.size x.to++
   (if dh x.kind=false then[59,10]
    else[32,123,10]++dN x.body (b++lq)++
    (if de x.kind=true/\¬(x.kind=7/\x.aG.length=0)then b++[125,32]++yY x.kind++[32,123,10]++dN x.aG (b++lq)else[])++b++[125,10]):=by cases x;rfl
theorem Wx(x:δ):x.deep=1+max (if dh x.kind then δ.cM x.body else 0) (if de x.kind then δ.cM x.aG else 0):=by cases x;rfl
def agP(x:δ):Prop:=x.size.Ok/\x.to.Ok/\aJ x.cp/\∀p∈x.pl,p.Ok
theorem agO{x:δ}(hx:x.Ok):agP x:=by obtain⟨k,g,nm,cp,pl,size,to,cb,body,ce,aG⟩:=x;simp only[δ.Ok]at hx;exact⟨hx.2.2.2.1.1,hx.2.2.2.2.1.1,hx.2.1,hx.2.2.1⟩
theorem aeO(l:List Ξ)(x:Ξ):kU (l++[x])=kU l++x.text:=by
 induction l with
 |nil=>simp[kU]
 |cons a l ih=>simp only[eO,kU,ih,cj]
theorem aeP(l:List Ξ)(h:∀x∈l,AW x):(kU l).length<=l.length*200000:=by
 induction l with
 |nil=>simp[kU]
 |cons a l ih=>
  have h1:=Ξ.sU (h a (by simp))
  have h2:=ih fun x hx=>h x (by simp[hx]);simp only[kU,List.length_append,eZ];omega
theorem aeF(l:List aI)(h:∀p∈l,p.name.length<=8/\1<=p.size/\p.size<=12)(h4:l.length<=4):(oH (l.map aI.text)).length<=56:=by
 have h3:=I6 (l.map aI.text) 12 (fun t ht=>by
  obtain⟨p,hp,rfl⟩:=List.mem_map.1 ht
  have:=(h p hp).1;have:=D8 p.size.toNat;simp[aI.text];omega)
 rw[dd]at h3;omega
theorem f223(c:χ)(ks:List Int)(v:Int)(hl:ks.length<1000000000000)(m:Mem):kf u 223 [.list c (ks.map (AV.int .i64)),.int .i64 v] m=some (.int .i64 (match ks.findIdx? (·==v)with
  |some i=>(i:Int)
  |none=> -1),m):=by
 refine bD (g:=Fu) rfl rfl rfl ?_;have he:bn m.ε.length false (ks.map (AV.int .i64))=ks.map (AV.int .i64):=by rw[fo,c6];exact dt fun _ _=>rfl
 simp only[ay,aA,exp,he,Fu,Ou];generalize c.exp m.ε.length false=c';let K:St->Prop:=fun st=>ζ st.env 0= .list c' (ks.map (AV.int .i64))/\ζ st.env 1= .int .i64 v/\st.mem= {ε:=m.ε,θ:=[]};refine ω (K) (by simp[K]) fun s1 ⟨h1,h2,h3⟩=>?_;refine bc (fun st=>K st/\ks.findIdx? (·==v)=none) ?_ fun s2 ⟨⟨h1,h2,h3⟩,h4⟩=>by simp[h3,h4]
 let I:Nat->St->Prop:=fun i st=>K st/\ζ st.env 7= .int .i64 ks.length/\ζ st.env 8= .int .i64 i/\∀j (hj:j<ks.length),j<i->ks[j]≠v;refine ω (I 0) (by simp[I,K,h1,h2,h3]) fun s4 hI=>?_;refine μ.block (μ.loop (I:=I) ks.length hI fun i st hi ψ=>?_);obtain⟨⟨h1,h2,h3⟩,q1,q2,q4⟩:=ψ;rcases Nat.lt_or_ge i ks.length with ρ|cG
 ·have hw:a_ .i64 ((i:Int)+1)=(i:Int)+1:=wrap_i64 (by omega) (by omega);by_cases hz:ks[i]=v
  ·right;have hf:ks.findIdx? (·==v)=some i:=by rw[sZ];exact⟨ρ,by simpa using hz,fun j hj=>by simpa using q4 j (by omega) hj⟩
   rw[hf];have sy:v=ks[i]:=hz.symm;simp[K,Hl,h1,h2,h3,q1,q2,ρ,hz]
  ·left;refine⟨ρ,?_⟩;have sy:(v==ks[i])=false:=by simpa using fun h=>hz h.symm
   have q5:=tu (P:=fun j=>∀hj:j<ks.length,ks[j]≠v) (n:=ks.length) (fun j a b c=>q4 j c b) (fun _=>hz);simp[I,K,Hl,h1,h2,h3,q1,q2,ρ,sy,hw];exact fun j hj jg=>q5 j hj jg hj
 ·right;have:i=ks.length:=by omega
  subst this;have hf:ks.findIdx? (·==v)=none:=by rw[vo];intro x hx;obtain⟨j,hj,rfl⟩:=List.getElem_of_mem hx;simpa using q4 j hj hj
  simp[K,Hl,h1,h2,h3,q1,q2,hf]
theorem f180(c:χ)(ks:List Int)(v:Int)(hl:ks.length<1000000000000)(m:Mem):kf u 180 [.list c (ks.map (AV.int .i64)),.int .i64 v] m=some (.bool (ks.contains v),m):=by
 have e:=fun c=>f223 (u:=u) c ks v hl;refine bD (g:=E9) rfl rfl rfl ?_;have he:bn m.ε.length false (ks.map (AV.int .i64))=ks.map (AV.int .i64):=by rw[fo,c6];exact dt fun _ _=>rfl
 simp only[ay,aA,exp,he,E9,Oa];cases hf:ks.findIdx? (·==v)with
 |none=>
  have hc:ks.contains v=false:=by
   rw[vo]at hf;cases h:ks.contains v with
   |false=>rfl
   |true=>
    rw[yP]at h
    have:=hf v h;simp at this
  rw[hf]at e;rw[hc];simp[e]
 |some i=>
  have hc:ks.contains v=true:=by
   rw[sZ]at hf;obtain⟨h1,h2,_⟩:=hf;rw[yP];have:ks[i]=v:=by simpa using h2
   rw[<-this];exact cL h1
  rw[hf]at e;rw[hc];have:(0:Int)<=(i:Int):=by omega
  simp[e,this]
theorem f179{id:Nat}{k n:Int}{s:List Nat}{c:χ}{l:List η}(m:Mem)(hid:m.ε[id]?=some (.cells [.int .i64 k,.int .i64 n,.str s,.list c (η.Δ l)]))(i:Nat)(iv:Int)(Kx:iv=(i:Int))(hi:i<l.length)
  (e:∀m,kf u 114 [l[i].av] m=some (.str l[i].text,m)) (hlen:l[i].text.length<1000000000) (cc:χ) (ks:List Int) (zR:ks.length<10):
  aU (C u) (.fn (.func 179) [] [.ν id 0]) [.int .i64 iv,.list cc (ks.map (AV.int .i64))] m=some (.str (paren (ks.contains l[i].kind) l[i].text),m):=by
 subst Kx;have ρ:=rT hid;have PD:=fun c v=>f180 (u:=u) c ks v (by omega);refine rN (g:=E8) rfl rfl rfl ?_;have he:bn m.ε.length false (ks.map (AV.int .i64))=ks.map (AV.int .i64):=by rw[fo,c6];exact dt fun _ _=>rfl
 simp only[cI,eO,ay,aA,exp,he,ρ,if_true,E8,N'];have hg:=yU l i hi;generalize l[i]=y at*;generalize y.text=t at*;obtain⟨k',n',s',c2,l'⟩:=y;simp only[η.av]at hg e;simp only[η.kind];cases hb:ks.contains k' with
 |true=>
  have a1:bY .add [40] t=some (.str ([40]++t)):=d_ (by simp;omega)
  have a2:bY .add ([40]++t) [41]=some (.str ([40]++t++[41])):=d_ (by simp;omega);simp only[eO,cI]at a1 a2;have e':=fun c=>PD c k';rw[hb]at e';simp[hid,mm,hi,hg,e,e',a1,a2,paren]
 |false=>
  have e':=fun c=>PD c k'
  rw[hb]at e';simp[hid,mm,hi,hg,e,e',paren]
theorem f109(n:Int)(h0:0<=n)(h1:n<100)(m:Mem):kf u 109 [.int .i64 n] m=some (.str (uu n.toNat),m):=by refine Bd (p:=wK) (by rfl) ?_;simp[exp,wK,h0,h1]
theorem agh(k:Int):([3,4]:List Int).contains k=sD k:=by
 by_cases h3:k=3
 ·subst h3;rfl
 ·by_cases h4:k=4
  ·subst h4;rfl
  ·simp[sD,h3,h4]
theorem ad7{k:Int}(h:1<=k/\k<=5):([3,4,5]:List Int).contains k=decide (3<=k):=by
 have:k=1\/k=2\/k=3\/k=4\/k=5:=by omega
 rcases this with rfl|rfl|rfl|rfl|rfl<;>rfl
theorem f114(x:η):x.Ok->x.ml->x.cnt<1000000->∀(m:Mem),kf u 114 [x.av] m=some (.str x.text,m):=by
 refine η.jY (Q:=fun x=>x.Ok->x.ml->x.cnt<1000000->∀(m:Mem),kf u 114 [x.av] m=some (.str x.text,m)) (fun k n s c l ih ab eu nF m=>?_) x;have hlen:=η.sU _ eu;have eR:∀M:Mem,M.φ=φ:=fun _=>rfl;have Cc:cW (η.Δ l)=η.Δ l:=by rw[fO,η.eo,c6];exact dt fun y _=>η.nO y
 refine bD (g:=EI) rfl rfl rfl ?_;simp only[ay,aA,η.ep _ _ _ ab,EI,NT];have hid:(m.ε++[κ.cells [.int .i64 k,.int .i64 n,.str s,.list c (η.Δ l)]])[m.ε.length]?=some (.cells [.int .i64 k,.int .i64 n,.str s,.list c (η.Δ l)]):=by simp
 have Jk:=fun i iv Kx hi e hl cc ks zR=>f179 (u:=u) (id:=m.ε.length) {ε:=m.ε++[.cells [.int .i64 k,.int .i64 n,.str s,.list c (η.Δ l)]],θ:=[]} hid i iv Kx hi e hl cc ks zR;rcases TR eu with⟨rfl,oT,lA,rfl⟩|⟨rfl,rfl⟩|⟨hk,a,b,rfl⟩
 ·have e:=fun m=>f109 (u:=u) n oT lA m;simp[η.av,η.text,CD,Mem.push,eR,φ,cW,Cc,e,η.Δ]
 ·simp[η.av,η.text,CD,Mem.push,eR,φ,cW,Cc,η.Δ]
 ·have Ys:a.cnt<1000000:=by simp only[η.cnt,η.bj]at nF;omega
  have pz:b.cnt<1000000:=by simp only[η.cnt,η.bj]at nF;omega
  have fV:=ih a (by simp) ab.2.1 eu.2.2.1 Ys;have mF:=ih b (by simp) ab.2.2.1 eu.2.2.2.1 pz;have la':=η.sU _ eu.2.2.1;have lb':=η.sU _ eu.2.2.2.1;have e0:=fun cc ks zR=>Jk 0 0 rfl (by simp) fV (by simp;omega) cc ks zR;have e1:=fun cc ks zR=>Jk 1 1 rfl (by simp) mF (by simp;omega) cc ks zR;have Jg:=e0 .nil [] (by simp);have Jh:=fun cc=>e0 cc [3,4] (by simp);have Jm:=fun cc=>e1 cc [3,4] (by simp);have Jl:=fun cc=>e1 cc [3,4,5] (by simp);have uM:1<=b.kind/\b.kind<=5:=by have:=eu.2.2.2.1;obtain⟨kb,nb,sb,cb,lb⟩:=b;rcases TR this with⟨rfl,_⟩|⟨rfl,_⟩|⟨h,_⟩<;>simp only[η.kind]<;>omega
  simp only[List.getElem_cons_zero,List.getElem_cons_succ,agh,ad7 uM,ay,aA,List.contains_nil,Mi]at Jg Jh Jm Jl;have p1:∀q:Bool,(paren q a.text).length<=a.text.length+2:=fun q=>HI q a.text;have p2:∀q:Bool,(paren q b.text).length<=b.text.length+2:=fun q=>HI q b.text;simp only[η.text,η.texts,CD,ay,aA]at hlen⊢;generalize a.text=ta at*;generalize b.text=tb at*;generalize a.kind=ka at*;generalize b.kind=kb at*;have p1':=p1 (sD ka);have p2':=p2 (sD kb);have ahq:=p2 (decide (3<=kb));simp only[η.av];generalize η.Δ [a,b]=L at*;rcases hk with rfl|rfl|rfl
  ·simp only[show¬(3:Int)=1 by decide,show¬(3:Int)=2 by decide,show¬(3:Int)=5 by decide,if_false,decide_false,ahE,Mi,Ai,if_true];generalize paren (sD kb) tb=wQ at*;have a1:bY .add ta [32,43,32]=some (.str (ta++[32,43,32])):=d_ (by simp;omega);have a2:bY .add (ta++[32,43,32]) wQ=some (.str (ta++[32,43,32]++wQ)):=d_ (by simp;omega);clear Jk e0 e1 Jh Jl;simp[Mem.push,eR,φ,cW,Cc,Jg,Jm,a1,a2,shaped,AV.one]
  ·simp only[show¬(4:Int)=1 by decide,show¬(4:Int)=2 by decide,show¬(4:Int)=5 by decide,show¬(4:Int)=3 by decide,if_false,decide_false,ahE,Mi,Ai,if_true];generalize paren (sD kb) tb=wQ at*;have a1:bY .add ta [32,45,32]=some (.str (ta++[32,45,32])):=d_ (by simp;omega);have a2:bY .add (ta++[32,45,32]) wQ=some (.str (ta++[32,45,32]++wQ)):=d_ (by simp;omega);simp[Mem.push,eR,φ,cW,Cc,Jg,Jm,a1,a2,shaped,AV.one]
  ·simp only[show¬(5:Int)=1 by decide,show¬(5:Int)=2 by decide,show¬(5:Int)=4 by decide,show¬(5:Int)=3 by decide,if_false,decide_true,ug,Ai,if_true];generalize paren (sD ka) ta=H6 at*;generalize paren (decide (3<=kb)) tb=wQ at*;have a1:bY .add H6 [32,42,32]=some (.str (H6++[32,42,32])):=d_ (by simp;omega);have a2:bY .add (H6++[32,42,32]) wQ=some (.str (H6++[32,42,32]++wQ)):=d_ (by simp;omega);simp[Mem.push,eR,φ,cW,Cc,Jh,Jl,a1,a2,shaped,AV.one]
theorem Et(x:η)(ab:x.Ok)(h:uU x)(m:Mem):kf u 114 [.agg x.four] m=some (.str x.text,m):=by have:=f114 (u:=u) x ab h.1 (by have:=h.2;omega) m;rwa[η.jA]at this
theorem agd(l:List (List Nat)):AA (l.map AV.str)=some l:=by
 induction l with
 |nil=>rfl
 |cons a l ih=>simp[AA,ih]
theorem RF(l:List (List Nat)):lZ [44,32] l=oH l:=by
 induction l with
 |nil=>rfl
 |cons a l ih=>
  cases l with
  |nil=>rfl
  |cons b l=>simp only[lZ,oH,ih]
theorem f174(c:χ)(l:List (List Nat))(sep:List Nat)(h1:(lZ sep l).length<=1000000)(h2:l.length<=1000000)(m:Mem):kf u 174 [.list c (l.map AV.str),.str sep] m=some (.str (lZ sep l),m):=by
 refine Bd (p:=wL) (by rfl) ?_;have he:∀k,bn m.ε.length k (l.map AV.str)=l.map AV.str:=fun k=>by rw[fo,c6];exact dt fun _ _=>rfl
 simp only[cI,List.append_nil,ay,aA,exp,he];cases l with
 |nil=>rfl
 |cons a l=>
  have fF:(lZ sep (a::l)).length<=140737488355328:=by omega
  have pv:(a::l).length<=140737488355328:=by omega
  have hs:=agd (a::l);simp only[ay]at hs⊢;simp only[wL,hs,fF,pv,and_self,if_true]
theorem f110(c:χ)(l:List (List Nat))(h1:(oH l).length<=1000000)(h2:l.length<=1000000)(m:Mem):kf u 110 [.list c (l.map AV.str)] m=some (.str (oH l),m):=by
 have e:=fun c m=>f174 (u:=u) c l [44,32] (by rw[RF];exact h1) h2 m;rw[RF]at e;refine bD (g:=EF) rfl rfl rfl ?_;have he:∀k,bn m.ε.length k (l.map AV.str)=l.map AV.str:=fun k=>by rw[fo,c6];exact dt fun _ _=>rfl
 simp only[ay,aA,exp,he,EF,NQ];simp[e]
theorem MS(n:Nat)(l:List (List Nat)):nT false n 1 (l.map AV.str) (l.map AV.str):=nT.of _ _ fun x _=>⟨Lv.str n x,rfl⟩
theorem MQ{B ext:List κ}{c:χ}{l:List AV}{v:List Nat}{len:Nat}(h:mM B.length (B++ext) 1 9 c len)(hlen:l.length=len)(hl:l.all (shaped false 1)=true)(hb:len<=1000000):
  ∃c' ext',(∀T,f_ {ε:=B++ext,θ:=T} false 1 16 9 (.list c l) (.list .full [.str v])=some (.list c' (l++[.str v]),{ε:=B++ext',θ:=T}))/\mM B.length (B++ext') 1 9 c' (len+1)∧
   ∀c2 k2,mM B.length (B++ext) 1 9 c2 k2->(c2= .nil\/c2≠c)->mM B.length (B++ext') 1 9 c2 k2/\(c'= .nil\/c'≠c2):=by
 subst hlen;have hv:shaped false 1 (.str v)=true:=rfl;rcases h.r with⟨hc,h0⟩|⟨t,rfl,h1,h2⟩
 ·have kQ:=h.n h0;subst kQ;have:l=[]:=ma h0;subst this;refine⟨.own (B.length+ext.length),ext++[.front 1 1 9],fun T=>?_,⟨.inr ⟨_,rfl,by omega,?_⟩,by simp⟩,fun c2 k2 hr _=>?_⟩
  ·simp[f_,hv,Mem.push,Mem.φ,φ]
  ·rw[<-cj];have:B.length+ext.length=(B++ext).length:=by simp
   rw[this];simp
  ·rcases hr.r with⟨h1,h3⟩|⟨t,rfl,h1,h2⟩
   ·have:=hr.n h3;subst this;exact⟨⟨.inl ⟨.inl rfl,h3⟩,fun _=>rfl⟩,.inr (by simp)⟩
   ·have ht:t<(B++ext).length:=rT h2;refine⟨⟨.inr ⟨t,rfl,h1,?_⟩,hr.n⟩,.inr ?_⟩
    ·rw[<-cj,List.getElem?_append_left ht];exact h2
    ·simp at ht;simp;omega
 ·have ht:t<(B++ext).length:=rT h2;have ky:(B++ext).set t (.front (l.length+1) 1 9)=B++ext.set (t-B.length) (.front (l.length+1) 1 9):=by rw[List.set_append,if_neg (by omega)]
  have bN:(l.length+1)*16<=140737488355328:=by omega
  have cQ:l.length+1<=140737488355328:=by omega
  refine⟨.own t,ext.set (t-B.length) (.front (l.length+1) 1 9),fun T=>?_,⟨.inr ⟨t,rfl,h1,?_⟩,by simp⟩,fun c2 k2 hr ak=>?_⟩
  ·simp only[f_];simp only[List.all_cons,hv,List.all_nil,Bool.and_self,hl,show 0<1 by decide,decide_true,eZ,List.length_nil,Nat.zero_add,bN,cQ,h2,ug,if_true,and_self,ay,aA,Mem.φ,φ,Mem.put,ky]
  ·rw[<-ky,List.getElem?_set_self ht]
  ·rcases hr.r with⟨h3,h4⟩|⟨t',rfl,h3,h4⟩
   ·have:=hr.n h4;subst this;exact⟨⟨.inl ⟨.inl rfl,h4⟩,fun _=>rfl⟩,.inr (by simp)⟩
   ·have lC:t≠t':=by
     rintro rfl
     rcases ak with h|h
     ·cases h
     ·exact h rfl
    refine⟨⟨.inr ⟨t',rfl,h3,?_⟩,hr.n⟩,.inr (by simpa using lC)⟩;rw[<-ky,List.getElem?_set_ne lC];exact h4
theorem f172(c:χ)(hc:aJ c)(pl:List Γ)(bW:∀p∈pl,p.Ok)(h:C2 pl)(m:Mem):kf u 172 [.list c (pl.map Γ.av)] m=some (.str (p_ pl),m):=by
 refine bD (g:=E4) rfl rfl rfl ?_;simp only[ay,aA,Mm hc bW,E4,N8];have h4:=h.1;have eR:∀M:Mem,M.φ=φ:=fun _=>rfl;let n:=m.ε.length;let MM:List κ->St->Prop:=fun ext st=>st.mem= {ε:=m.ε++ext,θ:=[]};refine ω (fun st=>ζ st.env 0= .list c (pl.map Γ.av)/\MM [] st) (by simp[MM]) fun s1 ⟨h1,h2⟩=>?_;simp only[MM]at h2;refine ω (fun st=>ζ st.env 0= .list c (pl.map Γ.av)/\MM [] st/\ζ st.env 3= .list .nil []) (by simp[MM,h1,h2]) fun s1 ⟨h1,h2,h3⟩=>?_;simp only[MM]at h2;refine bc (fun st=>∃ext cp,MM ext st/\ζ st.env 3= .list cp ((pl.map Γ.text).map AV.str)) ?_ fun s2 ⟨ext,cp,h2,h3⟩=>?_
 ·let J:Nat->St->Prop:=fun i st=>ζ st.env 10= .list c (pl.map Γ.av)/\ζ st.env 11= .int .i64 pl.length/\ζ st.env 12= .int .i64 i;let I:Nat->St->Prop:=fun i st=>J i st/\∃ext cp,MM ext st/\ζ st.env 3= .list cp (((pl.take i).map Γ.text).map AV.str)/\mM n (m.ε++ext) 1 9 cp i;refine ω (fun st=>J 0 st/\MM [] st/\ζ st.env 3= .list .nil []) (by simp[J,MM,h1,h2,h3]) fun s4 ⟨a1,a2,a3⟩=>?_;refine μ.block (μ.upto (I:=I) pl.length ⟨a1,[],.nil,a2,a3,mM.nil⟩ (fun i st ρ ψ=>?_) (fun st ψ=>?_))
  ·obtain⟨⟨q1,q2,q3⟩,ext,cp,h2,h3,r⟩:=ψ;simp only[MM]at h2;have fU:a_ .i64 ((i:Int)+1)=(i:Int)+1:=wrap_i64 (by omega) (by omega);have hm:pl[i]∈pl:=cL ρ;have GZ:=bW _ hm;obtain⟨KU,ig,om⟩:=h.2 _ hm;have kz:((pl.take (i+1)).map Γ.text).map AV.str=((pl.take i).map Γ.text).map AV.str++[.str pl[i].text]:=by rw[wZ ρ,qn,qn];rfl
   have dU:(((pl.take i).map Γ.text).map AV.str).length=i:=by rw[dd,dd,mf];omega
   have hs:=(MS n ((pl.take i).map Γ.text)).s;generalize((pl.take i).map Γ.text).map AV.str=L at*;have x_:pl[i].text=if pl[i].ix=[]then pl[i].name else pl[i].name++([91]++lZ [32,58,32] (pl[i].ix.map η.text)++[93]):=by
    generalize pl[i]=p at ig⊢;obtain⟨nm,cc,ix⟩:=p;simp only at ig⊢
    match ix,ig with
    |[],_=>rfl
    |[a],_=>simp[Γ.text,lZ]
    |[a,b],_=>simp[Γ.text,lZ]
    |_::_::_::_,h=>simp at h
   have Kz:(lZ [32,58,32] (pl[i].ix.map η.text)).length<=300:=by
    generalize pl[i]=p at ig om⊢;obtain⟨nm,cc,ix⟩:=p;simp only at ig om⊢
    match ix,ig,om with
    |[],_,_=>simp[lZ]
    |[a],_,om=>have:=qX (om a (by simp));simp[lZ];omega
    |[a,b],_,om=>have:=qX (om a (by simp));have:=qX (om b (by simp));simp[lZ];omega
    |_::_::_::_,h,_=>simp at h
   have PC:=fun c m=>f174 (u:=u) c (pl[i].ix.map η.text) [32,58,32] (by omega) (by rw[dd];omega) m;refine ω (fun st=>J i st/\MM ext st/\ζ st.env 3= .list cp L/\ζ st.env 13= .bool true) (by simp[J,MM,h2,h3,q1,q2,q3,ρ]) fun s5 ⟨⟨q1,q2,q3⟩,h2,h3,q4⟩=>?_;simp only[MM]at h2;refine ω (fun st=>J i st/\MM ext st/\ζ st.env 3= .list cp L) (by simp[J,MM,h2,h3,q1,q2,q3,q4]) fun s5 ⟨⟨q1,q2,q3⟩,h2,h3⟩=>?_;simp only[MM]at h2;refine bc (fun st=>J i st/\∃lN Bh,MM lN st/\ζ st.env 3= .list Bh (L++[.str pl[i].text])/\mM n (m.ε++lN) 1 9 Bh (i+1)) ?_ fun s6 ⟨⟨q1,q2,q3⟩,lN,Bh,h2,h3,r2⟩=>by simp only[MM]at h2;exact μ.fin (M:=fun st=>J (i+1) st/\MM lN st/\ζ st.env 3= .list Bh (L++[.str pl[i].text])) .normal (by simp[J,MM,h2,h3,q1,q2,q3,fU]) fun s' ⟨d1,d2,d3⟩=> .inl ⟨rfl,d1,lN,Bh,d2,by rw[kz];exact d3,r2⟩
   refine μ.block ?_;let J2:St->Prop:=fun st=>J i st/\ζ st.env 3= .list cp L/\∃v,ζ st.env 5= .ae 5 v 0/\τ st.loc 5=some (v,.cells [.str pl[i].name,.list pl[i].c (η.Δ pl[i].ix)]);refine ω (fun st=>J2 st/\MM ext st) (by simp[J2,J,MM,h2,h3,q1,q2,q3,ρ,Γ.av,η.eo]) fun s5 ⟨⟨⟨q1,q2,q3⟩,h3,v,q4,q5⟩,h2⟩=>?_;simp only[MM]at h2;refine ω (fun st=>J2 st/\MM ext st/\ζ st.env 6= .list .nil []) (by simp[J2,J,MM,h2,h3,q1,q2,q3,q4,q5]) fun s5 ⟨⟨⟨q1,q2,q3⟩,h3,v,q4,q5⟩,h2,q6⟩=>?_;simp only[MM]at h2;refine bc (fun st=>J2 st/\∃x2 cq,MM x2 st/\ζ st.env 6= .list cq ((pl[i].ix.map η.text).map AV.str)/\mM n (m.ε++x2) 1 9 cp i) ?_ fun s6 ⟨⟨⟨q1,q2,q3⟩,h3,v,q4,q5⟩,x2,cq,h2,q6,r⟩=>?_
   ·let JX:St->Prop:=fun st=>J2 st/\ζ st.env 17= .list pl[i].c (η.Δ pl[i].ix)/\ζ st.env 18= .int .i64 pl[i].ix.length;let I2:Nat->St->Prop:=fun q st=>JX st/\ζ st.env 19= .int .i64 q/\∃x2 cq,MM x2 st/\ζ st.env 6= .list cq (((pl[i].ix.take q).map η.text).map AV.str)/\mM n (m.ε++x2) 1 9 cq q/\mM n (m.ε++x2) 1 9 cp i/\(cq= .nil\/cq≠cp);refine ω (fun st=>JX st/\ζ st.env 19= .int .i64 0/\MM ext st/\ζ st.env 6= .list .nil []) (by simp[JX,J2,J,MM,h2,h3,q1,q2,q3,q4,q5,q6,mm]) fun s6 ⟨a1,a2,a3,a4⟩=>?_;refine μ.block (μ.upto (I:=I2) pl[i].ix.length ⟨a1,a2,ext,.nil,a3,a4,mM.nil,r,.inl rfl⟩ (fun q st dk ψ=>?_) (fun st ψ=>?_))
    ·obtain⟨⟨⟨⟨q1,q2,q3⟩,h3,v,q4,q5⟩,z1,z2⟩,z3,x2,cq,h2,z4,r4,r,ak⟩:=ψ;simp only[MM]at h2;have Lk:a_ .i64 ((q:Int)+1)=(q:Int)+1:=wrap_i64 (by omega) (by omega);have Rq:pl[i].ix[q]∈pl[i].ix:=cL dk;have WE:=fun m=>Et (u:=u) pl[i].ix[q] (GZ.2.2 _ Rq).1 (om _ Rq) m;have Rp:=yU pl[i].ix q dk;have lV:((pl[i].ix.take (q+1)).map η.text).map AV.str=((pl[i].ix.take q).map η.text).map AV.str++[.str (pl[i].ix[q]).text]:=by rw[wZ dk,qn,qn];rfl
     have JT:(((pl[i].ix.take q).map η.text).map AV.str).length=q:=by rw[dd,dd,mf];omega
     have La:=(MS n ((pl[i].ix.take q).map η.text)).s;generalize((pl[i].ix.take q).map η.text).map AV.str=LQ at*;obtain⟨Pn,x3,b1,b2,b3⟩:=MQ (v:=(pl[i].ix[q]).text) r4 JT La (by omega);obtain⟨b4,b5⟩:=b3 cp i r (by
      rcases ak with h|h
      ·rcases r.r with⟨h5|h5,h6⟩|⟨t,h5,_⟩
       ·exact .inl h5
       ·exact .inl (r.n h6)
       ·exact .inr (by rw[h5,h];simp)
      ·exact .inr (Ne.symm h))
     have xB:=η.gK pl[i].ix[q];have iX:(pl[i].ix[q]).four.take 4=(pl[i].ix[q]).four:=List.take_of_length_le (by omega);rw[η.jA]at Rp;refine μ.fin (M:=fun st=>JX st/\ζ st.env 19= .int .i64 ((q:Int)+1)/\MM x3 st/\ζ st.env 6= .list Pn (LQ++[.str (pl[i].ix[q]).text])) .normal (by simp[LF,JX,J2,J,MM,h2,h3,q1,q2,q3,q4,q5,z1,z2,z3,z4,dk,mm,Rp,xB,iX,WE,shaped,AV.one,eR,φ,b1,Lk]) fun s' ⟨d1,d2,d3,d4⟩=> .inl ⟨rfl,d1,d2,x3,Pn,d3,by rw[lV];exact d4,b2,b4,b5⟩
    ·obtain⟨⟨⟨⟨q1,q2,q3⟩,h3,v,q4,q5⟩,z1,z2⟩,z3,x2,cq,h2,z4,r4,r,ak⟩:=ψ;simp only[MM]at h2;rw[mL]at z4;refine μ.fin (M:=fun st=>J2 st/\MM x2 st/\ζ st.env 6= .list cq ((pl[i].ix.map η.text).map AV.str)) (.exit 2) (by simp[LF,J2,J,MM,h2,h3,q1,q2,q3,q4,q5,z1,z2,z3,z4]) fun s' ⟨d1,d2,d3⟩=>?_;exact⟨by simp,.inl ⟨rfl,.inl ⟨rfl,d1,x2,cq,d2,d3,r⟩⟩⟩
   ·simp only[MM]at h2;obtain⟨dJ,x3,b1,b2,-⟩:=MQ (v:=pl[i].text) r dU hs (by omega);refine μ.fin (M:=fun st=>J i st/\MM x3 st/\ζ st.env 3= .list dJ (L++[.str pl[i].text])) .normal (by
     by_cases h0:pl[i].ix=[]
     ·rw[if_pos h0]at x_;rw[x_]at b1;rw[x_];simp only[h0,aA]at q6;simp[J,MM,h2,h3,q1,q2,q3,q4,q5,q6,shaped,AV.one,eR,φ,b1]
     ·rw[if_neg h0]at x_;have wb:(0:Int)<(pl[i].ix.length:Int):=by have:=AP.2 h0;omega
      have Zw:0<pl[i].ix.length:=AP.2 h0;have Zo:(pl[i].ix.map η.text).map AV.str=pl[i].ix.map (AV.str∘η.text):=by rw[c6]
      rw[Zo]at q6 PC;generalize lZ [32,58,32] (pl[i].ix.map η.text)=tj at*;have a1:bY .add [91] tj=some (.str ([91]++tj)):=d_ (by simp;omega);have a2:bY .add ([91]++tj) [93]=some (.str ([91]++tj++[93])):=d_ (by simp;omega);have a3:bY .add pl[i].name ([91]++tj++[93])=some (.str (pl[i].name++([91]++tj++[93]))):=d_ (by simp;omega);simp only[eO,cI]at a1 a2 a3 x_;rw[x_]at b1;rw[x_];simp[J,MM,h2,h3,q1,q2,q3,q4,q5,q6,wb,Zw,PC,a1,a2,a3,shaped,AV.one,eR,φ,b1]) fun s' ⟨d1,d2,d3⟩=>?_
    simp;exact⟨d1,x3,d2,dJ,d3,b2⟩
  ·obtain⟨⟨q1,q2,q3⟩,ext,cp,h2,h3,r⟩:=ψ;simp only[MM]at h2;rw[mL]at h3;refine μ.fin (M:=fun st=>MM ext st/\ζ st.env 3= .list cp ((pl.map Γ.text).map AV.str)) (.exit 0) (by simp[RP,MM,h2,h3,q1,q2,q3]) fun s' ⟨d1,d2⟩=>?_;exact⟨by simp,.inl ⟨rfl,.inl ⟨rfl,ext,cp,d1,d2⟩⟩⟩
 ·simp only[MM]at h2;have hl:=u4 h;have e:=fun c m=>f110 (u:=u) c (pl.map Γ.text) (by have:(oH (pl.map Γ.text)).length<=1008:=hl;omega) (by rw[dd];omega) m;simp only[p_,c6]at e⊢;rw[c6]at h3;simp[h2,h3,e,vI]
end Go.ah.Tz
