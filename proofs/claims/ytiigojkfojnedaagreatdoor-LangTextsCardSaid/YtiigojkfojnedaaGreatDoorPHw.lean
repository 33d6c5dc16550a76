import Derived.Test.YtiigojkfojnedaaGreatDoorPHq
set_option linter.unusedVariables false
set_option linter.unusedSimpArgs false
set_option linter.unusedSectionVars false
set_option maxRecDepth 100000
set_option maxHeartbeats 8000000
open List renaming map_cons->ah,map_nil->aw,eq_nil_of_length_eq_zero->lU,cons_append->eK,nil_append->cO,take_of_length_le->dY,append_assoc->cr,getElem_mem->cz,length_take->kD,mem_of_mem_take->oe,take_succ_eq_append_getElem->rO,map_append->pJ,length->mB,length_map->dq,length_nil->fq,take_length->lX,take_succ_cons->pK,mem_cons->dX,length_append->dB,length_cons->dO,length_pos_iff->xa,append_nil->dx,map_map->di,map_congr_left->dz,findIdx?_eq_some_iff_getElem->tf,findIdx?_eq_none_iff->vt,contains_iff_mem->yZ
open Int renaming tmod_eq_emod_of_nonneg->ahF,tdiv_eq_ediv_of_nonneg->ahG
open Go.IntKind renaming wrap->aT
open Nat renaming lt_or_ge->bP
open Bool renaming false_and->ahH,true_and->uk
namespace Go.ab.Tz
open Go.ab
variable{u:Nat}
attribute [local simp] exec eG eu fz aF d_ fQ fe bq gN bT gF gS hU hZ AV.cells newVar hH rd wr gg single fy er dL κ bf RV.get ba dU jy xB
theorem bW{a b:List Nat}(h:a.length+b.length<1000000000000):bF .add a b=some (.str (a++b)):=by simp only[bF];rw[if_neg];show¬((a.length+b.length:Nat):Int)>9223372036854775807;omega
theorem P4:∀r,r<10->List.drop r (48::List.take r ([49,50,51,52,53,54,55,56,57]:List Nat))=[48+r]:=by decide
theorem f101(n:Int)(h0:0<=n)(h1:n<100)(m:Mem):kf u 101 [.n n] m=some (.str (nf n.toNat),m):=by
 obtain⟨N,rfl⟩:∃N:Nat,n=N:=⟨n.toNat,by omega⟩;have hN:N<100:=by omega
 refine bz (g:=EJ) rfl rfl rfl ?_;simp only[ah,aw,exp,EJ,Oa,Int.toNat_natCast];have e1:(N:Int).tmod 10=((N % 10:Nat):Int):=by rw[ahF (by omega)];omega
 have e2:(N:Int).tdiv 10=((N/10:Nat):Int):=by rw[ahG (by omega)];omega
 have e3:((N/10:Nat):Int).tmod 10=((N/10:Nat):Int):=by rw[ahF (by omega)];omega
 have e4:((N/10:Nat):Int).tdiv 10=0:=by rw[ahG (by omega)];omega
 have w1:aT .i64 (((N % 10:Nat):Int)+1)=((N % 10+1:Nat):Int):=by rw[wrap_i64 (by omega) (by omega)];omega
 have w2:aT .i64 (((N/10:Nat):Int)+1)=((N/10+1:Nat):Int):=by rw[wrap_i64 (by omega) (by omega)];omega
 have w3:aT .i64 ((N/10:Nat):Int)=((N/10:Nat):Int):=wrap_i64 (by omega) (by omega);have w4:aT .i64 0=0:=by decide
 have d1:=P4 (N % 10) (by omega);have d2:=P4 (N/10) (by omega);have b1:N % 10+1<=10:=by omega
 have b2:N/10+1<=10:=by omega
 let K:St->Prop:=fun st=>st.mem= {ε:=m.ε,η:=[]};refine χ (fun st=>K st/\st.e 0= .n N) (by simp[K]) fun s1 ⟨h1,h2⟩=>?_;simp only[K]at h1;generalize hq:N/10=q at*;generalize hr:N % 10=r at*;have VU:(0:Int)<=(r:Int)+1/\(r:Int)+1<=10:=by omega
 have b3:(r:Int)<=(r:Int)+1:=by omega
 have b4:(q:Int)<=(q:Int)+1:=by omega
 have VV:(0:Int)<=(q:Int)+1/\(q:Int)+1<=10:=by omega
 refine χ (fun st=>K st/\st.e 0= .n N/\st.e 3= .str [48+r]) (by simp[K,h1,h2,e1,w1,bound,VU,b3,d1]) fun s1 ⟨h1,h2,h3⟩=>?_;simp only[K]at h1;refine aZ (fun st=>K st/\st.e 3= .str (nf N)) ?_ fun s1 ⟨h1,h2⟩=>?_
 ·refine χ (fun st=>K st/\st.e 0= .n q/\st.e 3= .str [48+r]) (by simp[K,h1,h2,h3,e2,w3]) fun s1 ⟨h1,h2,h3⟩=>?_;let I:Nat->St->Prop:=fun i st=>K st/\((i=0/\st.e 0= .n q/\st.e 3= .str [48+r])\/(i=1/\10<=N/\st.e 0= .n 0/\st.e 3= .str (nf N)));refine κ.block (κ.loop (I:=I) 1 ⟨h1,.inl ⟨rfl,h2,h3⟩⟩ fun i st hi τ=>?_);obtain⟨h1,⟨rfl,h2,h3⟩|⟨rfl,h4,h2,h3⟩⟩:=τ
  ·simp only[K]at h1;by_cases ν:N<10
   ·right;have:q=0:=by omega
    subst this;have hd:nf N=[48+r]:=by simp[nf,ν];omega
    simp[K,Hp,h1,h2,h3,hd]
   ·left;refine⟨by omega,?_⟩;have hq0:(0:Int)<(q:Int):=by omega
    have aav:0<q:=by omega
    have hd:nf N=[48+q,48+r]:=by simp[nf,ν,hq,hr]
    have ha:bF .add [48+q] [48+r]=some (.str [48+q,48+r]):=bW (by simp);simp[I,K,Hp,h1,h2,h3,hq0,aav,e3,e4,w2,w4,bound,VV,b4,d2,hd,ha]
    try omega
  ·right;simp only[K]at h1;simp[K,Hp,h1,h2,h3]
 ·simp only[K]at h1;simp[h1,h2]
theorem Nb{k n:Int}{s:List Nat}{c:Γ}{l:List ζ}(h:(ζ.mk k n s c l).kW):(k=1/\0<=n/\n<100/\l=[])\/(k=2/\l=[])\/((k=3\/k=4\/k=5)/\∃a b,l=[a,b]):=by
 simp only[ζ.kW]at h;obtain⟨h1,-,-⟩:=h;unfold gy at h1;by_cases c1:k<1\/5<k\/(k=1/\(n<0\/99<n))
 ·rw[if_pos c1]at h1;cases h1
 rw[if_neg c1]at h1;by_cases c2:(3<=k/\l.length≠2)\/(k<3/\l.length≠0)
 ·rw[if_pos c2]at h1;cases h1
 have hk:k=1\/k=2\/3<=k:=by omega
 rcases hk with hk|hk|hk
 ·exact .inl ⟨hk,by omega,by omega,lU (by omega)⟩
 ·exact .inr (.inl ⟨hk,lU (by omega)⟩)
 ·have h2:l.length=2:=by omega
  match l,h2 with
  |[a,b],_=>exact .inr (.inr ⟨by omega,a,b,rfl⟩)
theorem qy(s:List Nat):paren false s=s:=rfl
theorem f104(x:ζ):x.Ok->x.kW->x.cnt<1000000->∀(b:Bool) (m:Mem),kf u 104 [x.av,.bool b] m=some (.str (paren b x.text),m):=by
 refine ζ.iB (Q:=fun x=>x.Ok->x.kW->x.cnt<1000000->∀(b:Bool) (m:Mem),kf u 104 [x.av,.bool b] m=some (.str (paren b x.text),m)) (fun k n s c l ih Θ dv lI=>?_) x;have hlen:=ζ.oU _ dv;have eI:∀m,kf u 104 [(ζ.mk k n s c l).av,.bool false] m=some (.str (ζ.mk k n s c l).text,m):=by
  intro m;refine bz (g:=zC) rfl rfl rfl ?_;simp only[ah,aw,ζ.dH _ _ _ Θ,exp,zC,I0];rcases Nb dv with⟨rfl,nW,kK,rfl⟩|⟨rfl,rfl⟩|⟨hk,a,b,rfl⟩
  ·have e:=fun m=>f101 (u:=u) n nW kK m;simp[ζ.av,ζ.text,wF,e]
  ·simp[ζ.av,ζ.text,wF]
  ·have eZ:=ih a (by simp) Θ.2.1 dv.2.2.1 (by simp only[ζ.cnt,ζ.aU]at lI;omega);have gZ:=ih b (by simp) Θ.2.2.1 dv.2.2.2.1 (by simp only[ζ.cnt,ζ.aU]at lI;omega);simp only[ζ.text,ζ.texts,wF,ah,aw]at hlen⊢;generalize R1:a.text=ta at*;generalize htb:b.text=tb at*;obtain⟨ka,na,sa,ca,la⟩:=a;obtain⟨kb,nb,sb,cb,lb⟩:=b;simp only[ζ.av,ζ.ψ,ζ.kind]at eZ gZ hlen⊢;simp only[ζ.cnt,ζ.aU]at lI hlen;have p1:∀b:Bool,(paren b ta).length<=ta.length+2:=fun b=>AA b ta;have p2:∀b:Bool,(paren b tb).length<=tb.length+2:=fun b=>AA b tb;have Mc:=ζ.oU _ dv.2.2.1;have lb':=ζ.oU _ dv.2.2.2.1;rw[R1]at Mc;rw[htb]at lb';simp only[ζ.cnt]at Mc lb';rcases hk with rfl|rfl|rfl
   ·have yr:∀m,kf u 104 [.agg [.n ka,.n na,.str sa,.list ca (ζ.ψ la)],.bool false] m=some (.str ta,m):=fun m=>eZ false m;have a1:bF .add ta [32,43,32]=some (.str (ta++[32,43,32])):=bW (by simp;omega);have a2:∀b:Bool,bF .add (ta++[32,43,32]) (paren b tb)=some (.str (ta++[32,43,32]++paren b tb)):=fun b=>bW (by have:=p2 b;simp;omega);by_cases k3:kb=3
    ·subst k3;simp[yr,gZ,b_,mF,cj,dG,AV.fI,lM,oS,a1,a2,qy]
    ·by_cases k4:kb=4
     ·subst k4;simp[yr,gZ,b_,mF,cj,dG,AV.fI,lM,oS,a1,a2,qy]
     ·have a3:=a2 false;simp only[qy]at a3;simp[yr,gZ,a3,b_,mF,cj,dG,AV.fI,lM,oS,a1,a2,qy,k3,k4,dR k3,dR k4]
   ·have yr:∀m,kf u 104 [.agg [.n ka,.n na,.str sa,.list ca (ζ.ψ la)],.bool false] m=some (.str ta,m):=fun m=>eZ false m;have a1:bF .add ta [32,45,32]=some (.str (ta++[32,45,32])):=bW (by simp;omega);have a2:∀b:Bool,bF .add (ta++[32,45,32]) (paren b tb)=some (.str (ta++[32,45,32]++paren b tb)):=fun b=>bW (by have:=p2 b;simp;omega);by_cases k3:kb=3
    ·subst k3;simp[yr,gZ,b_,mF,cj,dG,AV.fI,lM,oS,a1,a2,qy]
    ·by_cases k4:kb=4
     ·subst k4;simp[yr,gZ,b_,mF,cj,dG,AV.fI,lM,oS,a1,a2,qy]
     ·have a3:=a2 false;simp only[qy]at a3;simp[yr,gZ,a3,b_,mF,cj,dG,AV.fI,lM,oS,a1,a2,qy,k3,k4,dR k3,dR k4]
   ·have a1:∀b:Bool,bF .add (paren b ta) [32,42,32]=some (.str (paren b ta++[32,42,32])):=fun b=>bW (by have:=p1 b;simp;omega);have a2:∀b b':Bool,bF .add (paren b ta++[32,42,32]) (paren b' tb)=some (.str (paren b ta++[32,42,32]++paren b' tb)):=fun b b'=>bW (by have:=p1 b;have:=p2 b';simp;omega);by_cases k3:ka=3
    ·subst k3;simp[eZ,gZ,b_,mF,cj,dG,AV.fI,lM,oS,a1,a2]<;>congr
    ·by_cases k4:ka=4
     ·subst k4;simp[eZ,gZ,b_,mF,cj,dG,AV.fI,lM,oS,a1,a2]<;>congr
     ·have a3:=a1 false;have a4:=fun b=>a2 false b;simp only[qy]at a3 a4;simp[eZ,gZ,a3,a4,b_,mF,cj,dG,AV.fI,lM,oS,a1,a2,qy,k3,k4,dR k3,dR k4]<;>congr
 intro b m;cases b with
 |false=>simpa[paren]using eI m
 |true=>
  have RG:=eI {ε:=m.ε,η:=[]}
  refine bz (g:=zC) rfl rfl rfl ?_;simp only[ah,aw,ζ.dH _ _ _ Θ,exp,zC,I0];generalize(ζ.mk k n s c l).text=t at*;have a1:bF .add [40] t=some (.str ([40]++t)):=bW (by simp;omega);have a2:bF .add ([40]++t) [41]=some (.str ([40]++t++[41])):=bW (by simp;omega);simp only[eK,cO]at a1 a2;simp only[ζ.av]at RG⊢;simp[RG,a1,a2,paren]
theorem BN(x:ζ)(Θ:x.Ok)(h:rk x)(m:Mem):kf u 104 [.agg x.four,.bool false] m=some (.str x.text,m):=by have:=f104 (u:=u) x Θ h.1 (by have:=h.2;omega) false m;rwa[ζ.gA]at this
theorem f220(p:φ)(Θ:p.Ok)(h:p.kW)(m:Mem):kf u 220 [p.av] m=some (.str p.text,m):=by
 refine bz (g:=FE) rfl rfl rfl ?_;simp only[ah,aw,φ.dH _ _ _ Θ,FE,OR];obtain⟨nm,c,ix⟩:=p;obtain⟨h1,h2,h3⟩:=h;simp only at h1 h2 h3
 match ix,h2,h3,Θ with
 |[],_,_,_=>simp[φ.av,φ.text]
 |[a],_,h3,Θ=>
  have e:=fun m=>BN (u:=u) a (Θ.2.2 a (by simp)).1 (h3 a (by simp)) m
  have hl:=nD (h3 a (by simp));have h4:=ζ.fK a;have jX:a.four.take 4=a.four:=dY (by omega);simp only[φ.av,φ.text,ah,aw,ζ.gA];generalize a.text=t at*;have a1:bF .add nm [91]=some (.str (nm++[91])):=bW (by simp;omega);have a2:bF .add (nm++[91]) t=some (.str (nm++[91]++t)):=bW (by simp;omega);have a3:bF .add (nm++[91]++t) [93]=some (.str (nm++[91]++t++[93])):=bW (by simp;omega);simp only[cr,eK,cO]at a1 a2 a3;simp[h4,jX,e,b_,cj,a1,a2,a3]
 |[a,b],_,h3,Θ=>
  have ea:=fun m=>BN (u:=u) a (Θ.2.2 a (by simp)).1 (h3 a (by simp)) m
  have eb:=fun m=>BN (u:=u) b (Θ.2.2 b (by simp)).1 (h3 b (by simp)) m;have uP:=nD (h3 a (by simp));have pv:=nD (h3 b (by simp));have h4:=ζ.fK a;have jX:a.four.take 4=a.four:=dY (by omega);have l6:=ζ.fK b;have aaH:b.four.take 4=b.four:=dY (by omega);simp only[φ.av,φ.text,ah,aw,ζ.gA];generalize a.text=t at*;generalize b.text=s at*;have a1:bF .add nm [91]=some (.str (nm++[91])):=bW (by simp;omega);have a2:bF .add (nm++[91]) t=some (.str (nm++[91]++t)):=bW (by simp;omega);have a3:bF .add (nm++[91]++t) [32,58,32]=some (.str (nm++[91]++t++[32,58,32])):=bW (by simp;omega);have a4:bF .add (nm++[91]++t++[32,58,32]) s=some (.str (nm++[91]++t++[32,58,32]++s)):=bW (by simp;omega);have a5:bF .add (nm++[91]++t++[32,58,32]++s) [93]=some (.str (nm++[91]++t++[32,58,32]++s++[93])):=bW (by simp;omega);simp only[cr,eK,cO]at a1 a2 a3 a4 a5;simp[h4,jX,l6,aaH,ea,eb,b_,cj,a1,a2,a3,a4,a5]
 |_::_::_::_,h2,_,_=>simp at h2
theorem PK(l:List (List Nat))(x:List Nat)(h:l≠[]):iJ (l++[x])=iJ l++[44,32]++x:=by
 induction l with
 |nil=>exact absurd rfl h
 |cons a l ih=>
  cases l with
  |nil=>simp[iJ]
  |cons b l=>
   have:=ih (by simp)
   simp only[eK,iJ]at this⊢;rw[this];simp
theorem f168(c:Γ)(hc:aJ c)(pl:List φ)(cm:∀p∈pl,p.Ok)(h:yL pl)(m:Mem):kf u 168 [.list c (pl.map φ.av)] m=some (.str (jr pl),m):=by
 refine bz (g:=E_) rfl rfl rfl ?_;simp only[ah,aw,HX hc cm,E_,c168];have h4:=h.1;let K:St->Prop:=fun st=>st.e 0= .list c (pl.map φ.av)/\st.mem= {ε:=m.ε,η:=[]};refine χ (K) (by simp[K]) fun s1 ⟨h1,h2⟩=>?_;refine χ (fun st=>K st/\st.e 3= .str []) (by simp[K,h1,h2]) fun s1 ⟨⟨h1,h2⟩,h3⟩=>?_;refine aZ (fun st=>K st/\st.e 3= .str (jr pl)) ?_ fun s2 ⟨⟨h1,h2⟩,h3⟩=>by simp[h2,h3]
 let I:Nat->St->Prop:=fun i st=>K st/\st.e 4= .n i/\st.e 3= .str (jr (pl.take i));refine χ (fun st=>K st/\st.e 4= .n 0/\st.e 3= .str []) (by simp[K,h1,h2,h3]) fun s4 ⟨a1,a2,a3⟩=>?_;refine κ.block (κ.loop (I:=I) pl.length ⟨a1,a2,a3⟩ fun i st hi τ=>?_);obtain⟨⟨h1,h2⟩,q1,q2⟩:=τ;rcases bP i pl.length with ν|cD
 ·left;refine⟨ν,?_⟩;have hw:aT .i64 ((i:Int)+1)=(i:Int)+1:=wrap_i64 (by omega) (by omega);have hm:pl[i]∈pl:=cz ν;have e:=fun m=>f220 (u:=u) pl[i] (cm _ hm) (h.2 _ hm) m;have hl:=φ.oU _ (h.2 _ hm);have RR:(jr (pl.take i)).length<=1008:=sR ⟨by rw[kD];omega,fun p hp=>h.2 p (oe hp)⟩;have hs:jr (pl.take (i+1))=if i=0 then pl[i].text else jr (pl.take i)++[44,32]++pl[i].text:=by
   simp only[jr,rO ν,pJ,ah,aw];split
   ·rename_i h0;subst h0;rfl
   ·rename_i h0;rw[PK];intro he;have:=congrArg mB he;rw[dq,kD,fq]at this;omega
  simp only[φ.av]at e;by_cases h0:i=0
  ·subst h0;have ha:bF .add [] pl[0].text=some (.str pl[0].text):=by rw[bW (by simp;omega)];simp
   have ny:jr (pl.take 0)=[]:=rfl;rw[ny]at q2;simp at hs;have nB:aT .i64 1=1:=by decide
   simp[I,K,Ht,h1,h2,q1,q2,ν,φ.av,e,ha,hs,nB]
  ·have z_:(0:Int)<(i:Int):=by omega
   have KF:0<i:=by omega
   rw[if_neg h0]at hs;have a1:bF .add (jr (pl.take i)) [44,32]=some (.str (jr (pl.take i)++[44,32])):=bW (by simp;omega);have a2:bF .add (jr (pl.take i)++[44,32]) pl[i].text=some (.str (jr (pl.take i)++[44,32]++pl[i].text)):=bW (by simp;omega);simp[I,K,Ht,h1,h2,q1,q2,ν,φ.av,e,z_,KF,a1,a2,hs,hw]
 ·right;have:i=pl.length:=by omega
  subst this;rw[lX]at q2;simp[K,Ht,h1,h2,q1,q2]
theorem X'{g:Int}(h:1<=g/\g<=12)(m:Mem):kf u 157 [.n g] m=some (.str (bu.getD (g-1).toNat []),m):=by
 have:=f157 (u:=u) g.toNat (by omega) (by omega) m;have h1:((g.toNat:Nat):Int)=g:=by omega
 have h2:g.toNat-1=(g-1).toNat:=by omega
 rwa[h1,h2]at this
theorem Tc(l:List δ)(x:δ)(b:List Nat):de (l++[x]) b=de l b++oQ x b:=by
 induction l with
 |nil=>simp[de]
 |cons a l ih=>simp only[eK,de,ih,cr]
theorem WS(l:List δ)(i:Nat):δ.aU (l.take i)<=δ.aU l:=by
 induction l generalizing i with
 |nil=>simp
 |cons a l ih=>cases i with
  |zero=>simp[δ.aU]
  |succ i=>have:=ih i;simp only[pK,δ.aU];omega
theorem W_(l:List δ)(i:Nat):δ.cH (l.take i)<=δ.cH l:=by
 induction l generalizing i with
 |nil=>simp
 |cons a l ih=>cases i with
  |zero=>simp[δ.cH]
  |succ i=>have:=ih i;simp only[pK,δ.cH];omega
theorem afG{l:List δ}(h:δ.Rs l)(i:Nat):δ.Rs (l.take i):=by
 induction l generalizing i with
 |nil=>simpa using h
 |cons a l ih=>cases i with
  |zero=>trivial
  |succ i=>exact⟨h.1,ih h.2 i⟩
theorem P2{l:List δ}{x:δ}(h:x∈l):x.deep<=δ.cH l:=by
 induction l with
 |nil=>cases h
 |cons a l ih=>
  simp only[δ.cH]
  rcases dX.1 h with rfl|h
  ·omega
  ·have:=ih h;omega
theorem WQ{l:List δ}{x:δ}(h:x∈l):x.cnt<=δ.aU l:=by
 induction l with
 |nil=>cases h
 |cons a l ih=>
  simp only[δ.aU]
  rcases dX.1 h with rfl|h
  ·omega
  ·have:=ih h;omega
theorem CT(l:List δ)(b:List Nat)(h:δ.Rs l)(hb:b.length+2*δ.cH l<=100)(hc:δ.aU l<=1000):(de l b).length<=1500000:=by have h1:=Td 100 l b h hb;have h2:δ.aU l*(3*100+1200)<=1000*(3*100+1200):=Nat.mul_le_mul_right _ hc;omega
theorem Ri{x:δ}(h:x.R):zT x.kind x.gate x.name x.pl x.size x.to/\(cg x.kind=true->δ.Rs x.body)/\(cB x.kind=true->δ.Rs x.aA):=by cases x;exact h
theorem Tb(x:δ)(b:List Nat):oQ x b=b++da x.kind x.gate x.name x.pl x.size x.to++
   (if cg x.kind=false then[59,10]
    else[32,123,10]++de x.body (b++kE)++
    (if cB x.kind=true/\¬(x.kind=7/\x.aA.length=0)then b++[125,32]++mE x.kind++[32,123,10]++de x.aA (b++kE)else[])++b++[125,10]):=by cases x;rfl
theorem P1(x:δ):x.deep=1+max (if cg x.kind then δ.cH x.body else 0) (if cB x.kind then δ.cH x.aA else 0):=by cases x;rfl
theorem WN(x:δ):x.cnt=1+(if cg x.kind then δ.aU x.body else 0)+(if cB x.kind then δ.aU x.aA else 0):=by cases x;rfl
def U'(x:δ):Prop:=x.size.Ok/\x.to.Ok/\aJ x.cp/\∀p∈x.pl,p.Ok
theorem Nt{x:δ}(hx:x.Ok):U' x:=by obtain⟨k,g,nm,cp,pl,size,to,cb,body,ce,aA⟩:=x;simp only[δ.Ok]at hx;exact⟨hx.2.2.2.1.1,hx.2.2.2.2.1.1,hx.2.1,hx.2.2.1⟩
theorem f102(l:List δ):∀(c:Γ),aJ c->δ.cW l->δ.Rs l->∀b:List Nat,b.length+2*δ.cH l<=100->δ.aU l<=1000->δ.bX l<1000000000->∀m,kf u 102 [.list c (δ.ψ l),.str b] m=some (.str (de l b),m):=by
 refine δ.lists (P:=fun l=>∀(c:Γ),aJ c->δ.cW l->δ.Rs l->∀b:List Nat,b.length+2*δ.cH l<=100->δ.aU l<=1000->δ.bX l<1000000000->∀m,kf u 102 [.list c (δ.ψ l),.str b] m=some (.str (de l b),m)) (fun l ih c hc Θ hR b hb jQ hw m=>?_) l;refine bz (g:=EK) rfl rfl rfl ?_;simp only[ah,aw,np hc Θ];simp only[exp,EK,Ob];have gO:=δ.uh l;let K:St->Prop:=fun st=>st.e 0= .list c (δ.ψ l)/\st.e 1= .str b/\st.mem= {ε:=m.ε,η:=[]};refine χ (K) (by simp[K]) fun s1 ⟨h1,h2,h3⟩=>?_;refine χ (fun st=>K st/\st.e 5= .str []) (by simp[K,h1,h2,h3]) fun s1 ⟨⟨h1,h2,h3⟩,h4⟩=>?_;refine aZ (fun st=>K st/\st.e 5= .str (de l b)) ?_ fun s2 ⟨⟨h1,h2,h3⟩,h4⟩=>by simp[h3,h4]
 let J:Nat->St->Prop:=fun i st=>K st/\st.e 6= .n i;let I:Nat->St->Prop:=fun i st=>J i st/\st.e 5= .str (de (l.take i) b);refine χ (fun st=>J 0 st/\st.e 5= .str []) (by simp[J,K,h1,h2,h3,h4]) fun s4 ⟨a1,a2⟩=>?_;refine κ.block (κ.upto (I:=I) l.length ⟨a1,a2⟩ (fun i st ν τ=>?_) (fun st τ=>?_))
 ·obtain⟨⟨⟨h1,h2,h3⟩,q1⟩,q2⟩:=τ;have ej:aT .i64 ((i:Int)+1)=(i:Int)+1:=wrap_i64 (by omega) (by omega);have hg:=vh l i ν;have hm:l[i]∈l:=cz ν;have gD:=δ.gb Θ _ hm;have Kc:=δ.Uy hR _ hm;obtain⟨kN,gq⟩:=ih _ hm;have kL:=δ.my hm;have fM:=δ.yI gD;have nX:=δ.zj gD;have cD:=δ.vm l[i];have Rh:=P2 hm;have vW:=WQ hm;have iy:de (l.take (i+1)) b=de (l.take i) b++oQ l[i] b:=by rw[rO ν,Tc]
  have RR:(de (l.take i) b).length<=1500000:=CT _ _ (afG hR i) (by have:=W_ l i;omega) (by have:=WS l i;omega);generalize de (l.take i) b=acc at*;generalize l[i]=y at*;have k0:=cell0 y;have kt:=zl y;have kl:=δ.i_ y;simp only[δ.av]at hg;let J2:St->Prop:=fun st=>J i st/\∃v,st.e 7= .Ω 7 v 0/\st.q 7=some (v,.cells y.cells);refine χ (fun st=>J i st/\st.e 5= .str acc) (by simp[J,K,h1,h2,h3,q1,q2,ν,ke]) fun s5 ⟨⟨⟨h1,h2,h3⟩,q1⟩,q2⟩=>?_;refine aZ (fun st=>J i st/\st.e 5= .str (acc++oQ y b)) ?_ fun s6 ⟨⟨⟨h1,h2,h3⟩,q1⟩,q2⟩=>by simp[I,J,K,h1,h2,h3,q1,q2,ej,iy]
  refine κ.block ?_;refine χ (fun st=>J2 st/\st.e 5= .str acc) (by simp[J2,J,K,h1,h2,h3,q1,q2,ν,hg,kl,kt,ke]) fun s5 ⟨⟨⟨⟨h1,h2,h3⟩,q1⟩,v,q3,q4⟩,q2⟩=>?_;have QZ:bF .add acc b=some (.str (acc++b)):=bW (by omega);refine χ (fun st=>J2 st/\st.e 5= .str (acc++b)) (by simp[J2,J,K,h1,h2,h3,q1,q2,q3,q4,QZ]) fun s5 ⟨⟨⟨⟨h1,h2,h3⟩,q1⟩,v,q3,q4⟩,q2⟩=>?_;have Q0:(acc++b).length<=1500100:=by simp;omega
  obtain⟨⟨nr,zY,x9,wo,uT,R3⟩,GL,GM⟩:=Ri Kc;have τ:U' y:=Nt gD;obtain⟨o1,o2,o3,o4⟩:=τ;have po:=P1 y;have uF:=WN y;have eb:cg y.kind=true->∀m,kf u 102 [.list y.cb (δ.ψ y.body),.str (b++[32,32])] m=some (.str (de y.body (b++[32,32])),m):=fun hh m=>by rw[hh]at po uF;simp only[if_true]at po uF;exact kN y.cb nX.1 fM.1 (GL hh) (b++[32,32]) (by simp;omega) (by omega) (by omega) m
  have ee:cB y.kind=true->∀m,kf u 102 [.list y.ce (δ.ψ y.aA),.str (b++[32,32])] m=some (.str (de y.aA (b++[32,32])),m):=fun hh m=>by rw[hh]at po uF;simp only[if_true]at po uF;exact gq y.ce nX.2 fM.2 (GM hh) (b++[32,32]) (by simp;omega) (by omega) (by omega) m
  have lb:cg y.kind=true->(de y.body (b++[32,32])).length<=1500000:=fun hh=>by rw[hh]at po uF;simp only[if_true]at po uF;exact CT _ _ (GL hh) (by simp;omega) (by omega)
  have le:cB y.kind=true->(de y.aA (b++[32,32])).length<=1500000:=fun hh=>by rw[hh]at po uF;simp only[if_true]at po uF;exact CT _ _ (GM hh) (by simp;omega) (by omega)
  have Xj:=fun h m=>X' (u:=u) (g:=y.gate) h m;have Ej:=fun h m=>f168 (u:=u) y.cp o3 y.pl o4 h m;have lp:=fun h:yL y.pl=>sR h;have es:=fun h m=>BN (u:=u) y.size o1 h m;have et:=fun h m=>BN (u:=u) y.to o2 h m;have ls:=fun h:rk y.size=>nD h;have lt:=fun h:rk y.to=>nD h;have g4:=QI (y.gate-1).toNat;have k1:=ot y;have k2:=lY y;have k3:=ou y;have k4:=nO y;have k8:=ov y;have pB:=D9 y;have uZ:=D_ y;have eT:b.length<=100:=by omega
  generalize hv:acc++oQ y b=v;rw[Tb,cr b,<-cr acc]at hv;simp only[kE,da]at hv;generalize acc++b=A at*;generalize de y.body (b++[32,32])=tb at*;generalize de y.aA (b++[32,32])=te at*;generalize y.size.text=ts at*;generalize y.to.text=tt at*;generalize jr y.pl=tp at*;generalize bu.getD (y.gate-1).toNat []=gw at*;clear po uF iy RR QZ kN gq Rh vW ej kL fM cD gO hw jQ hb;have oI:y.kind=1\/y.kind=2\/y.kind=3\/y.kind=4\/y.kind=5\/y.kind=6\/y.kind=7\/y.kind=8\/y.kind=9\/y.kind=10\/y.kind=11:=by omega
  rcases oI with hk|hk|hk|hk|hk|hk|hk|hk|hk|hk|hk
  ·rw[hk]at k0;have e1:=Xj (zY hk);have e2:=Ej (wo (by omega));have l2:=lp (wo (by omega));simp[hk,da,cg,cB,mE]at hv;subst hv;simp(disch:=(first|omega|(simp only[dB,dO,fq];omega))) [J,K,h1,h2,h3,q1,q2,q3,q4,kl,k0,bW,b_,cj,k1,k3,e1,e2]
  ·rw[hk]at k0;have dM:=x9 (by omega);have e1:=es (uT (by omega));have l1:=ls (uT (by omega));simp[hk,da,cg,cB,mE]at hv;subst hv;simp(disch:=(first|omega|(simp only[dB,dO,fq];omega))) [J,K,h1,h2,h3,q1,q2,q3,q4,kl,k0,bW,b_,cj,k2,k4,e1]
  ·rw[hk]at k0;have dM:=x9 (by omega);simp[hk,da,cg,cB,mE]at hv;subst hv;simp(disch:=(first|omega|(simp only[dB,dO,fq];omega))) [J,K,h1,h2,h3,q1,q2,q3,q4,kl,k0,bW,b_,cj,k2]
  ·rw[hk]at k0;have dM:=x9 (by omega);have e1:=es (uT (by omega));have l1:=ls (uT (by omega));have aX:cg y.kind=true:=by simp[cg,hk]
   have e2:=eb aX;have l2:=lb aX;simp[hk,da,cg,cB,mE]at hv;subst hv;simp(disch:=(first|omega|(simp only[dB,dO,fq];omega))) [J,K,h1,h2,h3,q1,q2,q3,q4,kl,k0,bW,b_,cj,k2,k4,pB,e1,e2]
  ·rw[hk]at k0;have dM:=x9 (by omega);have e2:=Ej (wo (by omega));have l2:=lp (wo (by omega));simp[hk,da,cg,cB,mE]at hv;subst hv;simp(disch:=(first|omega|(simp only[dB,dO,fq];omega))) [J,K,h1,h2,h3,q1,q2,q3,q4,kl,k0,bW,b_,cj,k2,k3,e2]
  ·rw[hk]at k0;have e2:=Ej (wo (by omega));have l2:=lp (wo (by omega));simp[hk,da,cg,cB,mE]at hv;subst hv;simp(disch:=(first|omega|(simp only[dB,dO,fq];omega))) [J,K,h1,h2,h3,q1,q2,q3,q4,kl,k0,bW,b_,cj,k3,e2]
  ·rw[hk]at k0;have dM:=x9 (by omega);have aX:cg y.kind=true:=by simp[cg,hk]
   have e2:=eb aX;have l2:=lb aX;have gW:cB y.kind=true:=by simp[cB,hk]
   have e3:=ee gW;have l3:=le gW;by_cases hz:y.aA=[]
   ·simp[hk,da,cg,cB,mE,hz]at hv;subst hv;simp only[hz,δ.ψ]at uZ;simp(disch:=(first|omega|(simp only[dB,dO,fq];omega))) [J,K,h1,h2,h3,q1,q2,q3,q4,kl,k0,bW,b_,cj,k2,pB,uZ,e2]
   ·have rh:(0:Int)<(y.aA.length:Int):=by have:=xa.2 hz;omega
    have aaN:0<y.aA.length:=xa.2 hz;simp[hk,da,cg,cB,mE,hz]at hv;subst hv;simp(disch:=(first|omega|(simp only[dB,dO,fq];omega))) [J,K,h1,h2,h3,q1,q2,q3,q4,kl,k0,bW,b_,cj,k2,pB,uZ,e2,e3,ke,rh,aaN,hz]
  ·rw[hk]at k0;have dM:=x9 (by omega);have e1:=es (uT (by omega));have l1:=ls (uT (by omega));have e3:=et (R3 (by omega));have l3:=lt (R3 (by omega));have aX:cg y.kind=true:=by simp[cg,hk]
   have e2:=eb aX;have l2:=lb aX;simp[hk,da,cg,cB,mE]at hv;subst hv;simp(disch:=(first|omega|(simp only[dB,dO,fq];omega))) [J,K,h1,h2,h3,q1,q2,q3,q4,kl,k0,bW,b_,cj,k2,k4,k8,pB,e1,e2,e3]
  ·rw[hk]at k0;have dM:=x9 (by omega);have e2:=Ej (wo (by omega));have l2:=lp (wo (by omega));simp[hk,da,cg,cB,mE]at hv;subst hv;simp(disch:=(first|omega|(simp only[dB,dO,fq];omega))) [J,K,h1,h2,h3,q1,q2,q3,q4,kl,k0,bW,b_,cj,k2,k3,e2]
  ·rw[hk]at k0;have aX:cg y.kind=true:=by simp[cg,hk]
   have e2:=eb aX;have l2:=lb aX;simp[hk,da,cg,cB,mE]at hv;subst hv;simp(disch:=(first|omega|(simp only[dB,dO,fq];omega))) [J,K,h1,h2,h3,q1,q2,q3,q4,kl,k0,bW,b_,cj,pB,e2]
  ·rw[hk]at k0;have aX:cg y.kind=true:=by simp[cg,hk]
   have e2:=eb aX;have l2:=lb aX;have gW:cB y.kind=true:=by simp[cB,hk]
   have e3:=ee gW;have l3:=le gW;simp[hk,da,cg,cB,mE]at hv;subst hv;simp(disch:=(first|omega|(simp only[dB,dO,fq];omega))) [J,K,h1,h2,h3,q1,q2,q3,q4,kl,k0,bW,b_,cj,pB,uZ,e2,e3]
 ·obtain⟨⟨⟨h1,h2,h3⟩,q1⟩,q2⟩:=τ;rw[lX]at q2;simp[K,Sq,h1,h2,h3,q1,q2,ke]
theorem TV(l:List ω)(x:ω):gu (l++[x])=gu l++x.text:=by
 induction l with
 |nil=>simp[gu]
 |cons a l ih=>simp only[eK,gu,ih,cr]
theorem TW(l:List ω)(h:∀x∈l,y6 x):(gu l).length<=l.length*200000:=by
 induction l with
 |nil=>simp[gu]
 |cons a l ih=>
  have h1:=ω.oU (h a (by simp))
  have h2:=ih fun x hx=>h x (by simp[hx]);simp only[gu,dB,dO];omega
theorem MB(l:List aC)(h:∀p∈l,p.name.length<=8/\1<=p.size/\p.size<=12)(h4:l.length<=4):(iJ (l.map aC.text)).length<=56:=by
 have h3:=Jj (l.map aC.text) 12 (fun t ht=>by
  obtain⟨p,hp,rfl⟩:=List.mem_map.1 ht
  have:=(h p hp).1;have:=Bu p.size.toNat;simp[aC.text];omega)
 rw[dq]at h3;omega
theorem f23(aN:Γ)(cu:aJ aN)(ps:List ω)(bo:∀x∈ps,x.Ok)(dc:kR ps<1000000000)(ZX:ps.length<=12)(hR:∀x∈ps,y6 x)(m:Mem):
  kf u 23 [dA aN ps] m=some (.str (gu ps),m):=by
 refine bz (g:=g23) rfl rfl rfl ?_;simp only[ah,aw,l0 cu bo];simp only[g23,OU,dA];let K:St->Prop:=fun st=>st.e 1= .Ω 1 0 0/\st.q 1=some (0,.cells [.list aN (ps.map ω.av)])/\st.mem= {ε:=m.ε,η:=[]};refine χ (K) (by simp[K,aQ]) fun s1 ⟨h1,h2,h3⟩=>?_;refine χ (fun st=>K st/\st.e 3= .str []) (by simp[K,h1,h2,h3]) fun s1 ⟨⟨h1,h2,h3⟩,h4⟩=>?_;refine aZ (fun st=>K st/\st.e 3= .str (gu ps)) ?_ fun s2 ⟨⟨h1,h2,h3⟩,h4⟩=>by simp[h3,h4]
 let J:Nat->St->Prop:=fun i st=>K st/\st.e 4= .n i;let I:Nat->St->Prop:=fun i st=>J i st/\st.e 3= .str (gu (ps.take i));refine χ (fun st=>J 0 st/\st.e 3= .str []) (by simp[J,K,h1,h2,h3,h4]) fun s4 ⟨a1,a2⟩=>?_;refine κ.block (κ.upto (I:=I) ps.length ⟨a1,a2⟩ (fun i st ν τ=>?_) (fun st τ=>?_))
 ·obtain⟨⟨⟨h1,h2,h3⟩,q1⟩,q2⟩:=τ;have ej:aT .i64 ((i:Int)+1)=(i:Int)+1:=wrap_i64 (by omega) (by omega);have hm:ps[i]∈ps:=cz ν;have Θ:=bo _ hm;have hr:=hR _ hm;have kL:=ω.my hm;simp only[ω.wt]at kL;have Q0:(gu (ps.take i)).length<=2400000:=by have:=TW (ps.take i) fun x hx=>hR x (oe hx);rw[kD]at this;omega
  have iy:gu (ps.take (i+1))=gu (ps.take i)++ps[i].text:=by rw[rO ν,TV]
  have Xd:=fun m=>f102 (u:=u) ps[i].body ps[i].cb Θ.2.2.2.1 Θ.2.2.2.2.1 hr.body [32,32] (by have:=hr.cH;simp;omega) (by have:=hr.aU;omega) (by omega) m;have gO:=CT ps[i].body [32,32] hr.body (by have:=hr.cH;simp;omega) (by have:=hr.aU;omega);have kr:=hr.name;have uQ:=hr.ay;have uR:=hr.par;have Ll:=MB _ uR uQ;simp only[ω.text,kE]at iy;generalize R1:gu (ps.take i)=acc at*;generalize de ps[i].body [32,32]=tb at*;let P:List AV:=[.str ps[i].name,.list ps[i].cp (ps[i].ay.map aC.av),.list ps[i].cb (δ.ψ ps[i].body)];let J2:St->Prop:=fun st=>J i st/\∃v,st.e 5= .Ω 5 v 0/\st.q 5=some (v,.cells P);let A0:List Nat:=acc++[112,114,111,99,32]++ps[i].name++[40];have QQ:A0.length<=2400100:=by simp[A0];omega
  refine χ (fun st=>J i st/\st.e 3= .str acc) (by simp[J,K,h1,h2,h3,q1,q2,ν]) fun s5 ⟨⟨⟨h1,h2,h3⟩,q1⟩,q2⟩=>?_;refine aZ (fun st=>J i st/\st.e 3= .str (gu (ps.take (i+1)))) ?_ fun s6 ⟨⟨⟨h1,h2,h3⟩,q1⟩,q2⟩=>by simp[I,J,K,h1,h2,h3,q1,q2,ej]
  refine κ.block ?_;refine χ (fun st=>J2 st/\st.e 3= .str acc) (by simp[J2,J,K,P,h1,h2,h3,q1,q2,ν,ω.av]) fun s5 ⟨⟨⟨⟨h1,h2,h3⟩,q1⟩,v,q3,q4⟩,q2⟩=>?_;simp only[P]at q4;refine χ (fun st=>J2 st/\st.e 3= .str A0) (by simp(disch:=(first|omega|(simp only[dB,dO,fq];omega))) [J2,J,K,P,A0,h1,h2,h3,q1,q2,q3,q4,bW]) fun s5 ⟨⟨⟨⟨h1,h2,h3⟩,q1⟩,v,q3,q4⟩,q2⟩=>?_;simp only[P]at q4;generalize hA:A0=A at*;refine aZ (fun st=>J2 st/\st.e 3= .str (A++iJ (ps[i].ay.map aC.text))) ?_ fun s5 ⟨⟨⟨⟨h1,h2,h3⟩,q1⟩,v,q3,q4⟩,q2⟩=>?_
  ·let I2:Nat->St->Prop:=fun k st=>J2 st/\st.e 6= .n k/\st.e 3= .str (A++iJ ((ps[i].ay.take k).map aC.text));refine χ (fun st=>J2 st/\st.e 6= .n 0/\st.e 3= .str A) (by simp[J2,J,K,P,h1,h2,h3,q1,q2,q3,q4]) fun s6 ⟨a1,a2,a3⟩=>?_;refine κ.block (κ.loop (I:=I2) ps[i].ay.length ⟨a1,a2,by simpa[iJ]using a3⟩ fun k st hk τ=>?_);obtain⟨⟨⟨⟨h1,h2,h3⟩,q1⟩,v,q3,q4⟩,q5,q2⟩:=τ;simp only[P]at q4;rcases bP k ps[i].ay.length with cY|cD
   ·left;refine⟨cY,?_⟩;have yk:aT .i64 ((k:Int)+1)=(k:Int)+1:=wrap_i64 (by omega) (by omega);have uS:ps[i].ay[k]∈ps[i].ay:=cz cY;obtain⟨n1,n2,n3⟩:=uR _ uS;have P7:=fun m=>f101 (u:=u) ps[i].ay[k].size (by omega) (by omega) m;have hd:=Bu ps[i].ay[k].size.toNat;have vW:(iJ ((ps[i].ay.take k).map aC.text)).length<=56:=MB _ (fun p hp=>uR p (oe hp)) (by rw[kD];omega);have hs:iJ ((ps[i].ay.take (k+1)).map aC.text)=(if k=0 then[]else iJ ((ps[i].ay.take k).map aC.text)++[44,32])++ps[i].ay[k].text:=by
     simp only[rO cY,pJ,ah,aw];split
     ·rename_i h0;subst h0;rfl
     ·rename_i h0;rw[PK];intro he;have:=congrArg mB he;rw[dq,kD,fq]at this;omega
    simp only[aC.text]at hs;generalize nf ps[i].ay[k].size.toNat=td at*;by_cases h0:k=0
    ·subst h0;have vV:iJ ((ps[i].ay.take 0).map aC.text)=[]:=rfl;rw[vV,dx]at q2;simp at hs;have nB:aT .i64 1=1:=by decide
     simp(disch:=(first|omega|(simp only[dB,dO,fq];omega))) [I2,J2,J,K,P,HA,h1,h2,h3,q1,q2,q3,q4,q5,cY,aC.av,P7,bW,b_,cj,dG,AV.fI,hs,nB]
    ·have nr:(0:Int)<(k:Int):=by omega
     have ZQ:0<k:=by omega
     rw[if_neg h0]at hs;generalize iJ ((ps[i].ay.take k).map aC.text)=tk at*;rw[List.map_take]at hs;simp(disch:=(first|omega|(simp only[dB,dO,fq];omega))) [I2,J2,J,K,P,HA,h1,h2,h3,q1,q2,q3,q4,q5,cY,aC.av,P7,bW,b_,cj,dG,AV.fI,hs,nr,ZQ,yk]
   ·right;have:k=ps[i].ay.length:=by omega
    subst this;rw[lX]at q2;simp[J2,J,K,P,HA,h1,h2,h3,q1,q2,q3,q4,q5]
  ·simp only[P]at q4;generalize iJ (ps[i].ay.map aC.text)=tp at*;have qY:gu (ps.take (i+1))=A++tp++[41,32,123,10]++tb++[125,10]:=by rw[iy,<-hA];simp[A0]
   rw[qY];simp(disch:=(first|omega|(simp only[dB,dO,fq];omega))) [J,K,h1,h2,h3,q1,q2,q3,q4,Xd,bW]
 ·obtain⟨⟨⟨h1,h2,h3⟩,q1⟩,q2⟩:=τ;rw[lX]at q2;simp[K,SN,h1,h2,h3,q1,q2]
theorem f223(c:Γ)(ks:List Int)(v:Int)(hl:ks.length<1000000000000)(m:Mem):kf u 223 [.list c (ks.map (AV.n)),.n v] m=some (.n (match ks.findIdx? (·==v)with
  |some i=>(i:Int)
  |none=> -1),m):=by
 refine bz (g:=FF) rfl rfl rfl ?_;have he:bn m.ε.length false (ks.map (AV.n))=ks.map (AV.n):=by rw[fm,di];exact dz fun _ _=>rfl
 simp only[ah,aw,exp,he,FF,OS];generalize c.exp m.ε.length false=c';let K:St->Prop:=fun st=>st.e 0= .list c' (ks.map (AV.n))/\st.e 1= .n v/\st.mem= {ε:=m.ε,η:=[]};refine χ (K) (by simp[K]) fun s1 ⟨h1,h2,h3⟩=>?_;refine aZ (fun st=>K st/\ks.findIdx? (·==v)=none) ?_ fun s2 ⟨⟨h1,h2,h3⟩,h4⟩=>by simp[h3,h4]
 let I:Nat->St->Prop:=fun i st=>K st/\st.e 7= .n ks.length/\st.e 8= .n i/\∀j (hj:j<ks.length),j<i->ks[j]≠v;refine χ (I 0) (by simp[I,K,h1,h2,h3]) fun s4 hI=>?_;refine κ.block (κ.loop (I:=I) ks.length hI fun i st hi τ=>?_);obtain⟨⟨h1,h2,h3⟩,q1,q2,q4⟩:=τ;rcases bP i ks.length with ν|cD
 ·have hw:aT .i64 ((i:Int)+1)=(i:Int)+1:=wrap_i64 (by omega) (by omega);by_cases hz:ks[i]=v
  ·right;have hf:ks.findIdx? (·==v)=some i:=by rw[tf];exact⟨ν,by simpa using hz,fun j hj=>by simpa using q4 j (by omega) hj⟩
   rw[hf];have wz:v=ks[i]:=hz.symm;simp[K,Hy,h1,h2,h3,q1,q2,ν,hz]
  ·left;refine⟨ν,?_⟩;have wz:(v==ks[i])=false:=by simpa using fun h=>hz h.symm
   have q5:=tw (P:=fun j=>∀hj:j<ks.length,ks[j]≠v) (n:=ks.length) (fun j a b c=>q4 j c b) (fun _=>hz);simp[I,K,Hy,h1,h2,h3,q1,q2,ν,wz,hw];exact fun j hj jD=>q5 j hj jD hj
 ·right;have:i=ks.length:=by omega
  subst this;have hf:ks.findIdx? (·==v)=none:=by rw[vt];intro x hx;obtain⟨j,hj,rfl⟩:=List.getElem_of_mem hx;simpa using q4 j hj hj
  simp[K,Hy,h1,h2,h3,q1,q2,hf]
theorem f180(c:Γ)(ks:List Int)(v:Int)(hl:ks.length<1000000000000)(m:Mem):kf u 180 [.list c (ks.map (AV.n)),.n v] m=some (.bool (ks.contains v),m):=by
 have e:=fun c=>f223 (u:=u) c ks v hl;refine bz (g:=Fh) rfl rfl rfl ?_;have he:bn m.ε.length false (ks.map (AV.n))=ks.map (AV.n):=by rw[fm,di];exact dz fun _ _=>rfl
 simp only[ah,aw,exp,he,Fh,OB];cases hf:ks.findIdx? (·==v)with
 |none=>
  have hc:ks.contains v=false:=by
   rw[vt]at hf;cases h:ks.contains v with
   |false=>rfl
   |true=>
    rw[yZ]at h
    have:=hf v h;simp at this
  rw[hf]at e;rw[hc];simp[e]
 |some i=>
  have hc:ks.contains v=true:=by
   rw[tf]at hf;obtain⟨h1,h2,_⟩:=hf;rw[yZ];have:ks[i]=v:=by simpa using h2
   rw[<-this];exact cz h1
  rw[hf]at e;rw[hc];have:(0:Int)<=(i:Int):=by omega
  simp[e,this]
theorem f179{id:Nat}{k n:Int}{s:List Nat}{c:Γ}{l:List ζ}(m:Mem)(hid:m.ε[id]?=some (.cells [.n k,.n n,.str s,.list c (ζ.ψ l)]))(i:Nat)(iv:Int)(KN:iv=(i:Int))(hi:i<l.length)
  (e:∀m,kf u 114 [l[i].av] m=some (.str l[i].text,m)) (hlen:l[i].text.length<1000000000) (cc:Γ) (ks:List Int) (Ad:ks.length<10):
  aS (C u) (.fn (.func 179) [] [.μ id 0]) [.n iv,.list cc (ks.map (AV.n))] m=some (.str (paren (ks.contains l[i].kind) l[i].text),m):=by
 subst KN;have ν:=sk hid;have Qb:=fun c v=>f180 (u:=u) c ks v (by omega);refine rY (g:=Fg) rfl rfl rfl ?_;have he:bn m.ε.length false (ks.map (AV.n))=ks.map (AV.n):=by rw[fm,di];exact dz fun _ _=>rfl
 simp only[cO,eK,ah,aw,exp,he,ν,if_true,Fg,OA];have hg:=tq l i hi;generalize l[i]=y at*;generalize y.text=t at*;obtain⟨k',n',s',c2,l'⟩:=y;simp only[ζ.av]at hg e;simp only[ζ.kind];cases hb:ks.contains k' with
 |true=>
  have a1:bF .add [40] t=some (.str ([40]++t)):=bW (by simp;omega)
  have a2:bF .add ([40]++t) [41]=some (.str ([40]++t++[41])):=bW (by simp;omega);simp only[eK,cO]at a1 a2;have e':=fun c=>Qb c k';rw[hb]at e';simp[hid,iX,hi,hg,e,e',a1,a2,paren]
 |false=>
  have e':=fun c=>Qb c k'
  rw[hb]at e';simp[hid,iX,hi,hg,e,e',paren]
theorem f109(n:Int)(h0:0<=n)(h1:n<100)(m:Mem):kf u 109 [.n n] m=some (.str (nf n.toNat),m):=by refine Bo (p:=wQ) (by rfl) ?_;simp[exp,wQ,h0,h1]
theorem ago(k:Int):([3,4]:List Int).contains k=lM k:=by
 by_cases h3:k=3
 ·subst h3;rfl
 ·by_cases h4:k=4
  ·subst h4;rfl
  ·simp[lM,h3,h4]
theorem ael{k:Int}(h:1<=k/\k<=5):([3,4,5]:List Int).contains k=decide (3<=k):=by
 have:k=1\/k=2\/k=3\/k=4\/k=5:=by omega
 rcases this with rfl|rfl|rfl|rfl|rfl<;>rfl
theorem f114(x:ζ):x.Ok->x.kW->x.cnt<1000000->∀(m:Mem),kf u 114 [x.av] m=some (.str x.text,m):=by
 refine ζ.iB (Q:=fun x=>x.Ok->x.kW->x.cnt<1000000->∀(m:Mem),kf u 114 [x.av] m=some (.str x.text,m)) (fun k n s c l ih Θ dv lI m=>?_) x;have hlen:=ζ.oU _ dv;have dM:∀M:Mem,M.ρ=ρ:=fun _=>rfl;have Co:cL (ζ.ψ l)=ζ.ψ l:=by rw[fC,ζ.dZ,di];exact dz fun y _=>ζ.n_ y
 refine bz (g:=ES) rfl rfl rfl ?_;simp only[ah,aw,ζ.dH _ _ _ Θ,ES,Oh];have hid:(m.ε++[θ.cells [.n k,.n n,.str s,.list c (ζ.ψ l)]])[m.ε.length]?=some (.cells [.n k,.n n,.str s,.list c (ζ.ψ l)]):=by simp
 have Jz:=fun i iv KN hi e hl cc ks Ad=>f179 (u:=u) (id:=m.ε.length) {ε:=m.ε++[.cells [.n k,.n n,.str s,.list c (ζ.ψ l)]],η:=[]} hid i iv KN hi e hl cc ks Ad;rcases Nb dv with⟨rfl,nW,kK,rfl⟩|⟨rfl,rfl⟩|⟨hk,a,b,rfl⟩
 ·have e:=fun m=>f109 (u:=u) n nW kK m;simp[ζ.av,ζ.text,wF,Mem.push,dM,ρ,cL,Co,e,ζ.ψ]
 ·simp[ζ.av,ζ.text,wF,Mem.push,dM,ρ,cL,Co,ζ.ψ]
 ·have YW:a.cnt<1000000:=by simp only[ζ.cnt,ζ.aU]at lI;omega
  have pX:b.cnt<1000000:=by simp only[ζ.cnt,ζ.aU]at lI;omega
  have eZ:=ih a (by simp) Θ.2.1 dv.2.2.1 YW;have gZ:=ih b (by simp) Θ.2.2.1 dv.2.2.2.1 pX;have Mc:=ζ.oU _ dv.2.2.1;have lb':=ζ.oU _ dv.2.2.2.1;have e0:=fun cc ks Ad=>Jz 0 0 rfl (by simp) eZ (by simp;omega) cc ks Ad;have e1:=fun cc ks Ad=>Jz 1 1 rfl (by simp) gZ (by simp;omega) cc ks Ad;have Ju:=e0 .nil [] (by simp);have Jv:=fun cc=>e0 cc [3,4] (by simp);have JC:=fun cc=>e1 cc [3,4] (by simp);have JA:=fun cc=>e1 cc [3,4,5] (by simp);have wg:1<=b.kind/\b.kind<=5:=by have:=dv.2.2.2.1;obtain⟨kb,nb,sb,cb,lb⟩:=b;rcases Nb this with⟨rfl,_⟩|⟨rfl,_⟩|⟨h,_⟩<;>simp only[ζ.kind]<;>omega
  simp only[List.getElem_cons_zero,List.getElem_cons_succ,ago,ael wg,ah,aw,List.contains_nil,qy]at Ju Jv JC JA;have p1:∀q:Bool,(paren q a.text).length<=a.text.length+2:=fun q=>AA q a.text;have p2:∀q:Bool,(paren q b.text).length<=b.text.length+2:=fun q=>AA q b.text;simp only[ζ.text,ζ.texts,wF,ah,aw]at hlen⊢;generalize a.text=ta at*;generalize b.text=tb at*;generalize a.kind=ka at*;generalize b.kind=kb at*;have p1':=p1 (lM ka);have p2':=p2 (lM kb);have ahq:=p2 (decide (3<=kb));simp only[ζ.av];generalize ζ.ψ [a,b]=L at*;rcases hk with rfl|rfl|rfl
  ·simp only[show¬(3:Int)=1 by decide,show¬(3:Int)=2 by decide,show¬(3:Int)=5 by decide,if_false,decide_false,ahH,qy,oS,if_true];generalize paren (lM kb) tb=wV at*;have a1:bF .add ta [32,43,32]=some (.str (ta++[32,43,32])):=bW (by simp;omega);have a2:bF .add (ta++[32,43,32]) wV=some (.str (ta++[32,43,32]++wV)):=bW (by simp;omega);clear Jz e0 e1 Jv JA;simp[Mem.push,dM,ρ,cL,Co,Ju,JC,a1,a2,shaped,AV.one]
  ·simp only[show¬(4:Int)=1 by decide,show¬(4:Int)=2 by decide,show¬(4:Int)=5 by decide,show¬(4:Int)=3 by decide,if_false,decide_false,ahH,qy,oS,if_true];generalize paren (lM kb) tb=wV at*;have a1:bF .add ta [32,45,32]=some (.str (ta++[32,45,32])):=bW (by simp;omega);have a2:bF .add (ta++[32,45,32]) wV=some (.str (ta++[32,45,32]++wV)):=bW (by simp;omega);simp[Mem.push,dM,ρ,cL,Co,Ju,JC,a1,a2,shaped,AV.one]
  ·simp only[show¬(5:Int)=1 by decide,show¬(5:Int)=2 by decide,show¬(5:Int)=4 by decide,show¬(5:Int)=3 by decide,if_false,decide_true,uk,oS,if_true];generalize paren (lM ka) ta=Ij at*;generalize paren (decide (3<=kb)) tb=wV at*;have a1:bF .add Ij [32,42,32]=some (.str (Ij++[32,42,32])):=bW (by simp;omega);have a2:bF .add (Ij++[32,42,32]) wV=some (.str (Ij++[32,42,32]++wV)):=bW (by simp;omega);simp[Mem.push,dM,ρ,cL,Co,Jv,JA,a1,a2,shaped,AV.one]
theorem EC(x:ζ)(Θ:x.Ok)(h:rk x)(m:Mem):kf u 114 [.agg x.four] m=some (.str x.text,m):=by have:=f114 (u:=u) x Θ h.1 (by have:=h.2;omega) m;rwa[ζ.gA]at this
theorem agl(l:List (List Nat)):AQ (l.map AV.str)=some l:=by
 induction l with
 |nil=>rfl
 |cons a l ih=>simp[AQ,ih]
theorem Sm(l:List (List Nat)):mm [44,32] l=iJ l:=by
 induction l with
 |nil=>rfl
 |cons a l ih=>
  cases l with
  |nil=>rfl
  |cons b l=>simp only[mm,iJ,ih]
theorem f174(c:Γ)(l:List (List Nat))(sep:List Nat)(h1:(mm sep l).length<=1000000)(h2:l.length<=1000000)(m:Mem):kf u 174 [.list c (l.map AV.str),.str sep] m=some (.str (mm sep l),m):=by
 refine Bo (p:=wR) (by rfl) ?_;have he:∀k,bn m.ε.length k (l.map AV.str)=l.map AV.str:=fun k=>by rw[fm,di];exact dz fun _ _=>rfl
 simp only[cO,dx,ah,aw,exp,he];cases l with
 |nil=>rfl
 |cons a l=>
  have fL:(mm sep (a::l)).length<=140737488355328:=by omega
  have pW:(a::l).length<=140737488355328:=by omega
  have hs:=agl (a::l);simp only[ah]at hs⊢;simp only[wR,hs,fL,pW,and_self,if_true]
theorem f110(c:Γ)(l:List (List Nat))(h1:(iJ l).length<=1000000)(h2:l.length<=1000000)(m:Mem):kf u 110 [.list c (l.map AV.str)] m=some (.str (iJ l),m):=by
 have e:=fun c m=>f174 (u:=u) c l [44,32] (by rw[Sm];exact h1) h2 m;rw[Sm]at e;refine bz (g:=EO) rfl rfl rfl ?_;have he:∀k,bn m.ε.length k (l.map AV.str)=l.map AV.str:=fun k=>by rw[fm,di];exact dz fun _ _=>rfl
 simp only[ah,aw,exp,he,EO,Oe];simp[e]
theorem Nh(n:Nat)(l:List (List Nat)):om false n 1 (l.map AV.str) (l.map AV.str):=om.of _ _ fun x _=>⟨Lv.str n x,rfl⟩
theorem Nf{B ext:List θ}{c:Γ}{l:List AV}{v:List Nat}{len:Nat}(h:mZ B.length (B++ext) 1 9 c len)(hlen:l.length=len)(hl:l.all (shaped false 1)=true)(hb:len<=1000000):
  ∃c' ext',(∀T,gL {ε:=B++ext,η:=T} false 1 16 9 (.list c l) (.list .full [.str v])=some (.list c' (l++[.str v]),{ε:=B++ext',η:=T}))/\mZ B.length (B++ext') 1 9 c' (len+1)∧
   ∀c2 k2,mZ B.length (B++ext) 1 9 c2 k2->(c2= .nil\/c2≠c)->mZ B.length (B++ext') 1 9 c2 k2/\(c'= .nil\/c'≠c2):=by
 subst hlen;have hv:shaped false 1 (.str v)=true:=rfl;rcases h.r with⟨hc,h0⟩|⟨t,rfl,h1,h2⟩
 ·have jQ:=h.n h0;subst jQ;have:l=[]:=lU h0;subst this;refine⟨.own (B.length+ext.length),ext++[.front 1 1 9],fun T=>?_,⟨.inr ⟨_,rfl,by omega,?_⟩,by simp⟩,fun c2 k2 hr _=>?_⟩
  ·simp[gL,hv,Mem.push,Mem.ρ,ρ]
  ·rw[<-cr];have:B.length+ext.length=(B++ext).length:=by simp
   rw[this];simp
  ·rcases hr.r with⟨h1,h3⟩|⟨t,rfl,h1,h2⟩
   ·have:=hr.n h3;subst this;exact⟨⟨.inl ⟨.inl rfl,h3⟩,fun _=>rfl⟩,.inr (by simp)⟩
   ·have ht:t<(B++ext).length:=sk h2;refine⟨⟨.inr ⟨t,rfl,h1,?_⟩,hr.n⟩,.inr ?_⟩
    ·rw[<-cr,List.getElem?_append_left ht];exact h2
    ·simp at ht;simp;omega
 ·have ht:t<(B++ext).length:=sk h2;have jV:(B++ext).set t (.front (l.length+1) 1 9)=B++ext.set (t-B.length) (.front (l.length+1) 1 9):=by rw[List.set_append,if_neg (by omega)]
  have bR:(l.length+1)*16<=140737488355328:=by omega
  have dt:l.length+1<=140737488355328:=by omega
  refine⟨.own t,ext.set (t-B.length) (.front (l.length+1) 1 9),fun T=>?_,⟨.inr ⟨t,rfl,h1,?_⟩,by simp⟩,fun c2 k2 hr aj=>?_⟩
  ·simp only[gL];simp only[List.all_cons,hv,List.all_nil,Bool.and_self,hl,show 0<1 by decide,decide_true,dO,fq,Nat.zero_add,bR,dt,h2,uk,if_true,and_self,ah,aw,Mem.ρ,ρ,Mem.put,jV]
  ·rw[<-jV,List.getElem?_set_self ht]
  ·rcases hr.r with⟨h3,h4⟩|⟨t',rfl,h3,h4⟩
   ·have:=hr.n h4;subst this;exact⟨⟨.inl ⟨.inl rfl,h4⟩,fun _=>rfl⟩,.inr (by simp)⟩
   ·have lL:t≠t':=by
     rintro rfl
     rcases aj with h|h
     ·cases h
     ·exact h rfl
    refine⟨⟨.inr ⟨t',rfl,h3,?_⟩,hr.n⟩,.inr (by simpa using lL)⟩;rw[<-jV,List.getElem?_set_ne lL];exact h4
theorem f172(c:Γ)(hc:aJ c)(pl:List φ)(cm:∀p∈pl,p.Ok)(h:yL pl)(m:Mem):kf u 172 [.list c (pl.map φ.av)] m=some (.str (jr pl),m):=by
 refine bz (g:=Fb) rfl rfl rfl ?_;simp only[ah,aw,HX hc cm,Fb,Ox];have h4:=h.1;have dM:∀M:Mem,M.ρ=ρ:=fun _=>rfl;let n:=m.ε.length;let MM:List θ->St->Prop:=fun ext st=>st.mem= {ε:=m.ε++ext,η:=[]};refine χ (fun st=>st.e 0= .list c (pl.map φ.av)/\MM [] st) (by simp[MM]) fun s1 ⟨h1,h2⟩=>?_;simp only[MM]at h2;refine χ (fun st=>st.e 0= .list c (pl.map φ.av)/\MM [] st/\st.e 3= .list .nil []) (by simp[MM,h1,h2]) fun s1 ⟨h1,h2,h3⟩=>?_;simp only[MM]at h2;refine aZ (fun st=>∃ext cp,MM ext st/\st.e 3= .list cp ((pl.map φ.text).map AV.str)) ?_ fun s2 ⟨ext,cp,h2,h3⟩=>?_
 ·let J:Nat->St->Prop:=fun i st=>st.e 10= .list c (pl.map φ.av)/\st.e 11= .n pl.length/\st.e 12= .n i;let I:Nat->St->Prop:=fun i st=>J i st/\∃ext cp,MM ext st/\st.e 3= .list cp (((pl.take i).map φ.text).map AV.str)/\mZ n (m.ε++ext) 1 9 cp i;refine χ (fun st=>J 0 st/\MM [] st/\st.e 3= .list .nil []) (by simp[J,MM,h1,h2,h3]) fun s4 ⟨a1,a2,a3⟩=>?_;refine κ.block (κ.upto (I:=I) pl.length ⟨a1,[],.nil,a2,a3,mZ.nil⟩ (fun i st ν τ=>?_) (fun st τ=>?_))
  ·obtain⟨⟨q1,q2,q3⟩,ext,cp,h2,h3,r⟩:=τ;simp only[MM]at h2;have ej:aT .i64 ((i:Int)+1)=(i:Int)+1:=wrap_i64 (by omega) (by omega);have hm:pl[i]∈pl:=cz ν;have G6:=cm _ hm;obtain⟨Lg,iu,oM⟩:=h.2 _ hm;have iy:((pl.take (i+1)).map φ.text).map AV.str=((pl.take i).map φ.text).map AV.str++[.str pl[i].text]:=by rw[rO ν,pJ,pJ];rfl
   have eh:(((pl.take i).map φ.text).map AV.str).length=i:=by rw[dq,dq,kD];omega
   have hs:=(Nh n ((pl.take i).map φ.text)).s;generalize((pl.take i).map φ.text).map AV.str=L at*;have yg:pl[i].text=if pl[i].ix=[]then pl[i].name else pl[i].name++([91]++mm [32,58,32] (pl[i].ix.map ζ.text)++[93]):=by
    generalize pl[i]=p at iu⊢;obtain⟨nm,cc,ix⟩:=p;simp only at iu⊢
    match ix,iu with
    |[],_=>rfl
    |[a],_=>simp[φ.text,mm]
    |[a,b],_=>simp[φ.text,mm]
    |_::_::_::_,h=>simp at h
   have KP:(mm [32,58,32] (pl[i].ix.map ζ.text)).length<=300:=by
    generalize pl[i]=p at iu oM⊢;obtain⟨nm,cc,ix⟩:=p;simp only at iu oM⊢
    match ix,iu,oM with
    |[],_,_=>simp[mm]
    |[a],_,oM=>have:=nD (oM a (by simp));simp[mm];omega
    |[a,b],_,oM=>have:=nD (oM a (by simp));have:=nD (oM b (by simp));simp[mm];omega
    |_::_::_::_,h,_=>simp at h
   have Qa:=fun c m=>f174 (u:=u) c (pl[i].ix.map ζ.text) [32,58,32] (by omega) (by rw[dq];omega) m;refine χ (fun st=>J i st/\MM ext st/\st.e 3= .list cp L/\st.e 13= .bool true) (by simp[J,MM,h2,h3,q1,q2,q3,ν]) fun s5 ⟨⟨q1,q2,q3⟩,h2,h3,q4⟩=>?_;simp only[MM]at h2;refine χ (fun st=>J i st/\MM ext st/\st.e 3= .list cp L) (by simp[J,MM,h2,h3,q1,q2,q3,q4]) fun s5 ⟨⟨q1,q2,q3⟩,h2,h3⟩=>?_;simp only[MM]at h2;refine aZ (fun st=>J i st/\∃l4 Bt,MM l4 st/\st.e 3= .list Bt (L++[.str pl[i].text])/\mZ n (m.ε++l4) 1 9 Bt (i+1)) ?_ fun s6 ⟨⟨q1,q2,q3⟩,l4,Bt,h2,h3,r2⟩=>by simp only[MM]at h2;exact κ.fin (M:=fun st=>J (i+1) st/\MM l4 st/\st.e 3= .list Bt (L++[.str pl[i].text])) .normal (by simp[J,MM,h2,h3,q1,q2,q3,ej]) fun s' ⟨d1,d2,d3⟩=> .inl ⟨rfl,d1,l4,Bt,d2,by rw[iy];exact d3,r2⟩
   refine κ.block ?_;let J2:St->Prop:=fun st=>J i st/\st.e 3= .list cp L/\∃v,st.e 5= .Ω 5 v 0/\st.q 5=some (v,.cells [.str pl[i].name,.list pl[i].c (ζ.ψ pl[i].ix)]);refine χ (fun st=>J2 st/\MM ext st) (by simp[J2,J,MM,h2,h3,q1,q2,q3,ν,φ.av,ζ.dZ]) fun s5 ⟨⟨⟨q1,q2,q3⟩,h3,v,q4,q5⟩,h2⟩=>?_;simp only[MM]at h2;refine χ (fun st=>J2 st/\MM ext st/\st.e 6= .list .nil []) (by simp[J2,J,MM,h2,h3,q1,q2,q3,q4,q5]) fun s5 ⟨⟨⟨q1,q2,q3⟩,h3,v,q4,q5⟩,h2,q6⟩=>?_;simp only[MM]at h2;refine aZ (fun st=>J2 st/\∃x2 cq,MM x2 st/\st.e 6= .list cq ((pl[i].ix.map ζ.text).map AV.str)/\mZ n (m.ε++x2) 1 9 cp i) ?_ fun s6 ⟨⟨⟨q1,q2,q3⟩,h3,v,q4,q5⟩,x2,cq,h2,q6,r⟩=>?_
   ·let JX:St->Prop:=fun st=>J2 st/\st.e 17= .list pl[i].c (ζ.ψ pl[i].ix)/\st.e 18= .n pl[i].ix.length;let I2:Nat->St->Prop:=fun q st=>JX st/\st.e 19= .n q/\∃x2 cq,MM x2 st/\st.e 6= .list cq (((pl[i].ix.take q).map ζ.text).map AV.str)/\mZ n (m.ε++x2) 1 9 cq q/\mZ n (m.ε++x2) 1 9 cp i/\(cq= .nil\/cq≠cp);refine χ (fun st=>JX st/\st.e 19= .n 0/\MM ext st/\st.e 6= .list .nil []) (by simp[JX,J2,J,MM,h2,h3,q1,q2,q3,q4,q5,q6,iX]) fun s6 ⟨a1,a2,a3,a4⟩=>?_;refine κ.block (κ.upto (I:=I2) pl[i].ix.length ⟨a1,a2,ext,.nil,a3,a4,mZ.nil,r,.inl rfl⟩ (fun q st cY τ=>?_) (fun st τ=>?_))
    ·obtain⟨⟨⟨⟨q1,q2,q3⟩,h3,v,q4,q5⟩,z1,z2⟩,z3,x2,cq,h2,z4,r4,r,aj⟩:=τ;simp only[MM]at h2;have LF:aT .i64 ((q:Int)+1)=(q:Int)+1:=wrap_i64 (by omega) (by omega);have R7:pl[i].ix[q]∈pl[i].ix:=cz cY;have Xg:=fun m=>EC (u:=u) pl[i].ix[q] (G6.2.2 _ R7).1 (oM _ R7) m;have R6:=tq pl[i].ix q cY;have mf:((pl[i].ix.take (q+1)).map ζ.text).map AV.str=((pl[i].ix.take q).map ζ.text).map AV.str++[.str (pl[i].ix[q]).text]:=by rw[rO cY,pJ,pJ];rfl
     have Kb:(((pl[i].ix.take q).map ζ.text).map AV.str).length=q:=by rw[dq,dq,kD];omega
     have Ls:=(Nh n ((pl[i].ix.take q).map ζ.text)).s;generalize((pl[i].ix.take q).map ζ.text).map AV.str=LQ at*;obtain⟨PO,x3,b1,b2,b3⟩:=Nf (v:=(pl[i].ix[q]).text) r4 Kb Ls (by omega);obtain⟨b4,b5⟩:=b3 cp i r (by
      rcases aj with h|h
      ·rcases r.r with⟨h5|h5,h6⟩|⟨t,h5,_⟩
       ·exact .inl h5
       ·exact .inl (r.n h6)
       ·exact .inr (by rw[h5,h];simp)
      ·exact .inr (Ne.symm h))
     have xI:=ζ.fK pl[i].ix[q];have jX:(pl[i].ix[q]).four.take 4=(pl[i].ix[q]).four:=dY (by omega);rw[ζ.gA]at R6;refine κ.fin (M:=fun st=>JX st/\st.e 19= .n ((q:Int)+1)/\MM x3 st/\st.e 6= .list PO (LQ++[.str (pl[i].ix[q]).text])) .normal (by simp[L0,JX,J2,J,MM,h2,h3,q1,q2,q3,q4,q5,z1,z2,z3,z4,cY,iX,R6,xI,jX,Xg,shaped,AV.one,dM,ρ,b1,LF]) fun s' ⟨d1,d2,d3,d4⟩=> .inl ⟨rfl,d1,d2,x3,PO,d3,by rw[mf];exact d4,b2,b4,b5⟩
    ·obtain⟨⟨⟨⟨q1,q2,q3⟩,h3,v,q4,q5⟩,z1,z2⟩,z3,x2,cq,h2,z4,r4,r,aj⟩:=τ;simp only[MM]at h2;rw[lX]at z4;refine κ.fin (M:=fun st=>J2 st/\MM x2 st/\st.e 6= .list cq ((pl[i].ix.map ζ.text).map AV.str)) (.exit 2) (by simp[L0,J2,J,MM,h2,h3,q1,q2,q3,q4,q5,z1,z2,z3,z4]) fun s' ⟨d1,d2,d3⟩=>?_;exact⟨by simp,.inl ⟨rfl,.inl ⟨rfl,d1,x2,cq,d2,d3,r⟩⟩⟩
   ·simp only[MM]at h2;obtain⟨dS,x3,b1,b2,-⟩:=Nf (v:=pl[i].text) r eh hs (by omega);refine κ.fin (M:=fun st=>J i st/\MM x3 st/\st.e 3= .list dS (L++[.str pl[i].text])) .normal (by
     by_cases h0:pl[i].ix=[]
     ·rw[if_pos h0]at yg;rw[yg]at b1;rw[yg];simp only[h0,aw]at q6;simp[J,MM,h2,h3,q1,q2,q3,q4,q5,q6,shaped,AV.one,dM,ρ,b1]
     ·rw[if_neg h0]at yg;have wi:(0:Int)<(pl[i].ix.length:Int):=by have:=xa.2 h0;omega
      have ZW:0<pl[i].ix.length:=xa.2 h0;have ZN:(pl[i].ix.map ζ.text).map AV.str=pl[i].ix.map (AV.str∘ζ.text):=by rw[di]
      rw[ZN]at q6 Qa;generalize mm [32,58,32] (pl[i].ix.map ζ.text)=tj at*;have a1:bF .add [91] tj=some (.str ([91]++tj)):=bW (by simp;omega);have a2:bF .add ([91]++tj) [93]=some (.str ([91]++tj++[93])):=bW (by simp;omega);have a3:bF .add pl[i].name ([91]++tj++[93])=some (.str (pl[i].name++([91]++tj++[93]))):=bW (by simp;omega);simp only[eK,cO]at a1 a2 a3 yg;rw[yg]at b1;rw[yg];simp[J,MM,h2,h3,q1,q2,q3,q4,q5,q6,wi,ZW,Qa,a1,a2,a3,shaped,AV.one,dM,ρ,b1]) fun s' ⟨d1,d2,d3⟩=>?_
    simp;exact⟨d1,x3,d2,dS,d3,b2⟩
  ·obtain⟨⟨q1,q2,q3⟩,ext,cp,h2,h3,r⟩:=τ;simp only[MM]at h2;rw[lX]at h3;refine κ.fin (M:=fun st=>MM ext st/\st.e 3= .list cp ((pl.map φ.text).map AV.str)) (.exit 0) (by simp[Sw,MM,h2,h3,q1,q2,q3]) fun s' ⟨d1,d2⟩=>?_;exact⟨by simp,.inl ⟨rfl,.inl ⟨rfl,ext,cp,d1,d2⟩⟩⟩
 ·simp only[MM]at h2;have hl:=sR h;have e:=fun c m=>f110 (u:=u) c (pl.map φ.text) (by have:(iJ (pl.map φ.text)).length<=1008:=hl;omega) (by rw[dq];omega) m;simp only[jr,di]at e⊢;rw[di]at h3;simp[h2,h3,e,xB]
end Go.ab.Tz
