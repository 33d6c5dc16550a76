import Derived.Test.YtiigojkfojnedaaGreatDoorPHa
set_option linter.unusedVariables false
set_option linter.unusedSimpArgs false
set_option maxRecDepth 100000
set_option maxHeartbeats 8000000
open List renaming map_map->di,map_congr_left->dz,getElem_cons_zero->mY,getElem_cons_succ->qG,map_cons->ah,map_nil->aw,append_nil->dx,take_length->lX,findIdx?_eq_some_iff_getElem->tf,findIdx?_eq_none_iff->vt,getElem_of_mem->vw,take_succ_cons->pK,getElem_mem->cz,cons_append->eK,nil_append->cO,all_eq_false->ahA,contains_iff_mem->yZ
open Nat renaming lt_or_ge->bP,add_zero->um
open Go.IntKind renaming wrap->aT
open Bool renaming false_eq_true->hS
namespace Go.ab.Tz
open Go.ab
variable{u:Nat}
attribute [local simp] exec eG eu fz aF d_ fQ fe bq gN bT gF gS hU hZ AV.cells newVar hH rd wr gg single fy bF er dL κ bf RV.get ba dU jy
structure aI where
 name:List Nat
 w:Int
 d:Int
def aI.av(x:aI):AV:= .agg [.str x.name,.n x.w,.n x.d]
def cZ(c:Γ)(l:List aI):AV:= .list c (l.map aI.av)
theorem lF{n:Nat}{k:Bool}{c:Γ}(hc:aJ c)(l:List aI):exp n k (cZ c l)=cZ c l:=by
 have:bn n k (l.map aI.av)=l.map aI.av:=by rw[fm,di];exact dz fun x _=>rfl
 simp only[cZ,exp,fu hc,this]
theorem X5(bs:List θ)(n:Nat)(c:Γ)(l:List aI):ax bs n 8 (cZ c l)=cZ (c.exp n false) l:=by simp only[cZ,ax,cA,pd,di];congr 1
theorem Qr(bs:List θ)(n:Nat)(a:List Nat)(w d:Int):ax bs n 8 (.agg [.str a,.n w,.n d])= .agg [.str a,.n w,.n d]:=rfl
theorem xB(bs:List θ)(n:Nat)(a:List Nat):ax bs n 8 (.str a)= .str a:=rfl
def dP:List aI->List Nat->aI
 |[],_=>⟨[],0,0⟩
 |x::l,s=>if x.name=s then x else dP l s
theorem XO{l:List aI}{s:List Nat}{i:Nat}(hi:i<l.length)(h:∀j (hj:j<l.length),j<i->l[j].name≠s)(he:l[i].name=s):dP l s=l[i]:=by
 induction l generalizing i with
 |nil=>simp at hi
 |cons a l ih=>
  cases i with
  |zero=>simp only[mY]at he⊢;simp[dP,he]
  |succ i=>
   have h0:=h 0 (by simp) (by omega)
   simp only[mY]at h0;simp only[qG]at he⊢;simp only[dP,h0,if_false];exact ih (by simpa using hi) (fun j hj jD=>by have:=h (j+1) (by simp;omega) (by omega);simpa using this) he
theorem XR{l:List aI}{s:List Nat}(h:∀j (hj:j<l.length),l[j].name≠s):dP l s=⟨[],0,0⟩:=by
 induction l with
 |nil=>rfl
 |cons a l ih=>
  have h0:=h 0 (by simp)
  simp only[mY]at h0;simp only[dP,h0,if_false];exact ih fun j hj=>by have:=h (j+1) (by simp;omega);simpa using this
theorem f165(c:Γ)(hc:aJ c)(l:List aI)(s:List Nat)(hl:l.length<1000000000000)(m:Mem):kf u 165 [cZ c l,.str s] m=some ((dP l s).av,m):=by
 refine bz (g:=E7) rfl rfl rfl ?_;simp only[ah,aw,lF hc,exp,E7,Ou];let K:St->Prop:=fun st=>st.e 0=cZ c l/\st.e 1= .str s/\st.e 4= .Ω 4 0 0/\st.q 4=some (0,.cells [.str [],.n 0,.n 0])/\st.mem= {ε:=m.ε,η:=[]};refine χ (K) (by simp[K,aQ]) fun s1 ⟨h1,h2,h3,h4,h5⟩=>?_;refine aZ (fun st=>K st/\dP l s=⟨[],0,0⟩) ?_ fun s2 ⟨⟨h1,h2,h3,h4,h5⟩,h6⟩=>?_
 ·let I:Nat->St->Prop:=fun i st=>K st/\st.e 5= .n i/\∀j (hj:j<l.length),j<i->l[j].name≠s;refine χ (I 0) (by simp[I,K,h1,h2,h3,h4,h5]) fun s4 hI=>?_;refine κ.block (κ.loop (I:=I) l.length hI fun i st hi τ=>?_);obtain⟨⟨h1,h2,h3,h4,h5⟩,q1,q2⟩:=τ;simp only[cZ]at h1;rcases bP i l.length with ν|cD
  ·have hw:aT .i64 ((i:Int)+1)=(i:Int)+1:=wrap_i64 (by omega) (by omega);by_cases he:l[i].name=s
   ·right;have hf:=XO ν q2 he;rw[hf];simp[Hs,h1,h2,h3,h4,h5,q1,ν,he,aI.av,Qr]
   ·left;refine⟨ν,?_⟩;simp[I,K,Hs,h1,h2,h3,h4,h5,q1,ν,he,hw,aI.av,cZ];exact fun j hj jD=>tw (P:=fun j=>∀hj:j<l.length,l[j].name≠s) (n:=l.length) (fun j a b c=>q2 j c b) (fun _=>he) j hj jD hj
  ·right;have:i=l.length:=by omega
   subst this;have hf:=XR fun j hj=>q2 j hj hj;simp[K,Hs,h1,h2,h3,h4,h5,q1,hf,cZ]
 ·simp[h1,h2,h3,h4,h5,h6,cX,aI.av,Qr]
theorem Mw(n:Nat)(x:aI):Lv n x.av x.av:=⟨fun _=>rfl,rfl⟩
theorem Tu(n:Nat)(l:List aI):om true n 3 (l.map aI.av) (l.map aI.av):=om.of _ _ fun x _=>⟨Mw n x,rfl⟩
theorem f166(c:Γ)(hc:aJ c)(l:List aI)(s:List Nat)(w d:Int)(hl:l.length<1000000000000)(m:Mem):
  kf u 166 [cZ c l,.str s,.n w,.n d] m=some (cZ .any (l++[⟨s,w,d⟩]),m):=by
 refine bz (g:=E8) rfl rfl rfl ?_;simp only[ah,aw,lF hc,exp,E8,Ov];have hv:=Tu m.ε.length l;obtain⟨c1,e1,a1,r1⟩:=afE (B:=m.ε) (ext:=[]) (bytes:=32) (e:=235) (c:=c) hv.s hv.n (by decide) (by simp;omega) (by simp;omega);have hx:=Mw m.ε.length ⟨s,w,d⟩;obtain⟨c2,e2,a2,r2,-⟩:=oT (bytes:=32) r1 hv.s (v:=aI.av ⟨s,w,d⟩) rfl hx.n (by decide) (by simp;omega) (by simp;omega);have hz:=((hv.snoc hx rfl).list c2).z;rw[r2.Ey (by omega)]at hz;simp only[dx]at a1;have hr:cZ .any (l++[⟨s,w,d⟩])= .list .any (l.map aI.av++[aI.av ⟨s,w,d⟩]):=by simp[cZ]
 rw[hr,<-hz (m.ε++e2)];simp only[cZ,aI.av]at*;simp[a1,a2,Mem.ρ,ρ,cL,cX,shaped]
theorem f219(c:Γ)(hc:aJ c)(l:List aI)(s:List Nat)(hl:l.length<1000000000000)(m:Mem):
  ∃c',aJ c'/\kf u 219 [cZ c l,.str s] m=some (cZ c' (l.filter fun x=>x.name !=s),m):=by
 have hx:κ (C u).gl (aS (C u)) zF.code {env:=[cZ c l,.str s].map (exp m.ε.length false),loc:=[],mem:= {ε:=m.ε,η:=[]}} fun r=>
   (∀i,r.1≠ .exit i)/\∃c' ext k,bq r.2.env 4=cZ c' (l.filter fun x=>x.name !=s)/\r.2.mem= {ε:=m.ε++ext,η:=[]}/\Row m.ε.length (m.ε++ext) 3 235 c' k:=by
  simp only[ah,aw,lF hc,exp,zF,OP];let K:St->Prop:=fun st=>st.e 0=cZ c l/\st.e 1= .str s;let F:Nat->List aI:=fun i=>(l.take i).filter fun x=>x.name !=s;let J:Nat->St->Prop:=fun i st=>∃c' ext,st.e 5=cZ c' (F i)/\st.mem= {ε:=m.ε++ext,η:=[]}/\Row m.ε.length (m.ε++ext) 3 235 c' (F i).length;refine χ (fun st=>K st/\st.mem= {ε:=m.ε,η:=[]}) (by simp[K]) fun s1 ⟨⟨h1,h2⟩,h3⟩=>?_;refine χ (fun st=>K st/\J 0 st) (by simp[K,J,F,h1,h2,h3];exact⟨.nil,rfl,Row.nil⟩) fun s1 ⟨⟨h1,h2⟩,h3⟩=>?_;refine aZ (J l.length) ?_ fun s2 ⟨c',ext,h1,h2,h3⟩=>?_
  ·let I:Nat->St->Prop:=fun i st=>K st/\J i st/\st.e 6= .n i;refine χ (I 0) (by
    obtain⟨c',ext,q1,q2,q3⟩:=h3
    simp[I,K,J,h1,h2,q1,q2]
    first|exact q3|exact⟨c',rfl,q3⟩) fun s4 hI=>?_
   refine κ.block (κ.loop (I:=I) l.length hI fun i st hi τ=>?_);obtain⟨⟨h1,h2⟩,⟨c',ext,q1,q2,q3⟩,q4⟩:=τ;simp only[cZ]at h1 q1;rcases bP i l.length with ν|cD
   ·left;refine⟨ν,?_⟩;have hw:aT .i64 ((i:Int)+1)=(i:Int)+1:=wrap_i64 (by omega) (by omega);have hF:F (i+1)=if(l[i].name !=s)=true then F i++[l[i]]else F i:=by simp only[F,List.take_succ_eq_append_getElem ν,List.filter_append,List.filter_cons,List.filter_nil];split<;>simp
    have hFl:(F i).length<=i:=by have:=List.length_filter_le (fun x:aI=>x.name !=s) (l.take i);rw[List.length_take]at this;simp only[F];omega
    by_cases he:l[i].name=s
    ·have gW:(l[i].name !=s)=false:=by simpa using he
     simp only[gW,hS,if_false]at hF;simp[I,K,J,Hx,h1,h2,q1,q2,q4,ν,he,hw,aI.av,cZ,hF]
     first|exact q3|exact⟨c',rfl,q3⟩
    ·have gW:(l[i].name !=s)=true:=by simpa using he
     simp only[gW,if_true]at hF;have hv:=Tu m.ε.length (F i);have dQ:=Mw m.ε.length l[i];obtain⟨c2,e2,a2,r2,-⟩:=oT (bytes:=32) (l:=(F i).map aI.av) (by simpa using q3) hv.s (v:=l[i].av) rfl dQ.n (by decide) (by simp;omega) (by simp;omega);simp only[aI.av]at a2;simp[I,K,J,Hx,h1,h2,q1,q2,q4,ν,he,gW,hw,aI.av,cZ,hF,Mem.ρ,ρ,cL,a2,shaped]
     first|simpa using r2|exact⟨c2,rfl,by simpa using r2⟩
   ·right;have:i=l.length:=by omega
    subst this;simp[J,Hx,h1,h2,q1,q2,q4,cZ]
    first|exact q3|exact⟨c',rfl,q3⟩
  ·simp only[F,lX]at h1 h3;simp[h1,h2];exact⟨c',rfl,_,h3⟩
 obtain⟨r,h1,h2,c',ext,k,h3,h4,h5⟩:=hx;refine⟨c'.exp m.ε.length false,?_,bz (g:=zF) rfl rfl rfl ⟨r,h1,h2,⟨ext,h4⟩,[_],by simp[zF];exact h3,X5 _ _ _ _⟩⟩;rcases h5 with⟨rfl|rfl,_⟩|⟨t,rfl,ht,_⟩
 ·exact .inl rfl
 ·exact .inr rfl
 ·right;simp[Γ.exp]
def pG(ps:List ω)(s:List Nat):Int:=match ob ps s with
 |none=> -1
 |some i=>i
theorem f150(c:Γ)(hc:aJ c)(ps:List ω)(bo:∀x∈ps,x.Ok)(s:List Nat)(hl:ps.length<1000000000000)(m:Mem):
  kf u 150 [.agg [.list c (ps.map ω.av)],.str s] m=some (.n (pG ps s),m):=by
 refine bz (g:=E4) rfl rfl rfl ?_;have xQ:∀n k,bn n k (ps.map ω.av)=ps.map ω.av:=fun n k=>by rw[fm,di];exact dz fun x hx=>ω.dH n k x (bo x hx)
 simp only[ah,aw,exp,bn,fu hc,xQ,E4,Ot];let K:St->Prop:=fun st=>st.e 1= .str s/\st.e 2= .Ω 2 0 0/\st.q 2=some (0,.cells [.list c (ps.map ω.av)])/\st.mem= {ε:=m.ε,η:=[]};refine χ (K) (by simp[K,aQ]) fun s1 ⟨h1,h2,h3,h4⟩=>?_;refine aZ (fun st=>K st/\pG ps s= -1) ?_ fun s2 ⟨⟨h1,h2,h3,h4⟩,h5⟩=>?_
 ·let I:Nat->St->Prop:=fun i st=>K st/\st.e 5= .n i/\∀j (hj:j<ps.length),j<i->ps[j].name≠s;refine χ (I 0) (by simp[I,K,h1,h2,h3,h4]) fun s4 hI=>?_;refine κ.block (κ.loop (I:=I) ps.length hI fun i st hi τ=>?_);obtain⟨⟨h1,h2,h3,h4⟩,q1,q2⟩:=τ;rcases bP i ps.length with ν|cD
  ·have hw:aT .i64 ((i:Int)+1)=(i:Int)+1:=wrap_i64 (by omega) (by omega);by_cases he:ps[i].name=s
   ·right;have hf:pG ps s=i:=by
     have:ob ps s=some i:=by rw[ob,tf];exact⟨ν,by simpa using he,fun j hj=>by simpa using q2 j (by omega) hj⟩
     simp[pG,this]
    simp[Hr,h1,h2,h3,h4,q1,ν,he,ω.av,hf]
   ·left;refine⟨ν,?_⟩;simp[I,K,Hr,h1,h2,h3,h4,q1,ν,he,hw,ω.av];exact fun j hj jD=>tw (P:=fun j=>∀hj:j<ps.length,ps[j].name≠s) (n:=ps.length) (fun j a b c=>q2 j c b) (fun _=>he) j hj jD hj
  ·right;have:i=ps.length:=by omega
   subst this;have hf:pG ps s= -1:=by
    have:ob ps s=none:=by rw[ob,vt];intro x hx;obtain⟨j,hj,rfl⟩:=vw hx;simpa using q2 j hj hj
    simp[pG,this]
   simp[K,Hr,h1,h2,h3,h4,q1,hf]
 ·simp[h1,h2,h3,h4,h5]
theorem f149(x:δ)(hx:x.Ok)(m:Mem):kf u 149 [x.av] m=some (.aO [.bool (cg x.kind),.bool (cB x.kind)],m):=by
 refine bz (g:=E3) rfl rfl rfl ?_;simp only[ah,aw,δ.dH _ _ _ hx,E3,Oq];obtain⟨k,g,nm,cp,pl,⟨k1,n1,s1,c1,l1⟩,⟨k2,n2,s2,c2,l2⟩,cb,body,ce,aA⟩:=x;by_cases e4:k=4
 ·subst e4;simp[δ.av,δ.cells,ζ.four,aQ,δ.kind,cg,cB];rfl
 by_cases e8:k=8
 ·subst e8;simp[δ.av,δ.cells,ζ.four,aQ,δ.kind,cg,cB];rfl
 by_cases ng:k=10
 ·subst ng;simp[δ.av,δ.cells,ζ.four,aQ,δ.kind,cg,cB];rfl
 by_cases e7:k=7
 ·subst e7;simp[δ.av,δ.cells,ζ.four,aQ,δ.kind,cg,cB];rfl
 by_cases sc:k=11
 ·subst sc;simp[δ.av,δ.cells,ζ.four,aQ,δ.kind,cg,cB];rfl
 simp[δ.av,δ.cells,ζ.four,aQ,δ.kind,cg,cB,e4,e8,ng,e7,sc,dR];rfl
theorem f257(g:Int)(m:Mem):kf u 257 [.n g] m=some (.n (gT g),m):=by
 refine bz (g:=zG) rfl rfl rfl ?_;by_cases h1:g<=8
 ·simp[zG,DX,exp,gT,h1]
 by_cases h2:g<=11
 ·simp[zG,DX,exp,gT,h1,h2]
 ·simp[zG,DX,exp,gT,h1,h2]
theorem ke(l:List δ):(δ.ψ l).length=l.length:=by rw[δ.dZ];simp
theorem vh(l:List δ)(i:Nat)(h:i<l.length):(δ.ψ l)[i]'(by rw[ke];exact h)=l[i].av:=by simp[δ.dZ]
theorem WR(l:List δ)(i:Nat)(h:i<l.length):δ.aU (l.take (i+1))=δ.aU (l.take i)+l[i].cnt:=by
 induction l generalizing i with
 |nil=>simp at h
 |cons a l ih=>
  cases i with
  |zero=>simp[δ.aU]
  |succ i=>simp only[pK,δ.aU,qG,ih i (by simpa using h)];omega
theorem P3(l:List δ)(i:Nat)(h:i<l.length):δ.cH (l.take (i+1))=max (δ.cH (l.take i)) l[i].deep:=by
 induction l generalizing i with
 |nil=>simp at h
 |cons a l ih=>
  cases i with
  |zero=>simp[δ.cH]
  |succ i=>simp only[pK,δ.cH,qG,ih i (by simpa using h),Nat.max_assoc]
theorem δ.WO(x:δ):x.cnt<=x.wt/\x.deep<=x.wt:=by
 refine δ.iB (Q:=fun x=>x.cnt<=x.wt/\x.deep<=x.wt) (fun k g nm cp pl size to cb body ce aA h1 h2=>?_) x;have go:∀l:List δ,(∀y∈l,y.cnt<=y.wt/\y.deep<=y.wt)->δ.aU l<=δ.bX l/\δ.cH l<=δ.bX l:=by
  intro l hl;induction l with
  |nil=>simp[δ.aU,δ.cH]
  |cons a l ih=>
   have:=ih fun y hy=>hl y (by simp[hy])
   have ha:=hl a (by simp);simp only[δ.aU,δ.cH,δ.bX];omega
 have a1:=go body h1;have a2:=go aA h2;simp only[δ.cnt,δ.deep,δ.wt];split<;>split<;>omega
theorem δ.xq(l:List δ):δ.aU l<=δ.bX l/\δ.cH l<=δ.bX l:=by
 induction l with
 |nil=>simp[δ.aU,δ.cH]
 |cons a l ih=>have:=δ.WO a;simp only[δ.aU,δ.cH,δ.bX];omega
theorem U_(l:List δ)(i:Nat):δ.bX (l.take i)<=δ.bX l:=by
 induction l generalizing i with
 |nil=>simp
 |cons a l ih=>cases i with
  |zero=>simp[δ.bX]
  |succ i=>have:=ih i;simp only[pK,δ.bX];omega
theorem np{n:Nat}{k:Bool}{c:Γ}(hc:aJ c){l:List δ}(h:δ.cW l):exp n k (.list c (δ.ψ l))= .list c (δ.ψ l):=by simp only[exp,fu hc,δ.Ez _ _ _ h]
theorem δ.yI{x:δ}(h:x.Ok):δ.cW x.body/\δ.cW x.aA:=by obtain⟨k,g,nm,cp,pl,size,to,cb,body,ce,aA⟩:=x;simp only[δ.Ok]at h;exact⟨h.2.2.2.2.2.2.1,h.2.2.2.2.2.2.2.2⟩
theorem f148(l:List δ):∀(c:Γ),aJ c->δ.cW l->δ.bX l<1000000000000->∀m,kf u 148 [.list c (δ.ψ l)] m=some (.aO [.n (δ.aU l),.n (δ.cH l)],m):=by
 refine δ.lists (P:=fun l=>∀(c:Γ),aJ c->δ.cW l->δ.bX l<1000000000000->∀m,kf u 148 [.list c (δ.ψ l)] m=some (.aO [.n (δ.aU l),.n (δ.cH l)],m)) (fun l ih c hc Θ hw m=>?_) l;refine bz (g:=E2) rfl rfl rfl ?_;simp only[ah,aw,np hc Θ,E2,c148];have gO:=δ.uh l;let K:St->Prop:=fun st=>st.e 0= .list c (δ.ψ l)/\st.mem= {ε:=m.ε,η:=[]};refine χ (K) (by simp[K]) fun s1 ⟨h1,h2⟩=>?_;refine χ (fun st=>K st/\st.e 4= .n 0/\st.e 5= .n 0) (by simp[K,h1,h2]) fun s1 ⟨⟨h1,h2⟩,h3,h4⟩=>?_;refine aZ (fun st=>K st/\st.e 4= .n (δ.aU l)/\st.e 5= .n (δ.cH l)) ?_ fun s2 ⟨⟨h1,h2⟩,h3,h4⟩=>?_
 ·let I:Nat->St->Prop:=fun i st=>K st/\st.e 6= .n i/\st.e 4= .n (δ.aU (l.take i))/\st.e 5= .n (δ.cH (l.take i));refine χ (I 0) (by simp[I,K,h1,h2,h3,h4,δ.aU,δ.cH]) fun s4 hI=>?_;refine κ.block (κ.loop (I:=I) l.length hI fun i st hi τ=>?_);obtain⟨⟨h1,h2⟩,q1,q2,q3⟩:=τ;rcases bP i l.length with ν|cD
  ·left;refine⟨ν,?_⟩;have ej:aT .i64 ((i:Int)+1)=(i:Int)+1:=wrap_i64 (by omega) (by omega);have hg:=vh l i ν;have t1:=WR l i ν;have t2:=P3 l i ν;have hm:l[i]∈l:=cz ν;have gD:=δ.gb Θ _ hm;obtain⟨kN,gq⟩:=ih _ hm;have tB:=f149 (u:=u) l[i] gD;have ahm:=δ.my hm;have fM:=δ.yI gD;have cD:=δ.vm l[i];have nB:=δ.xq (l.take i);have jE:=U_ l i;have pX:=δ.xq l[i].body;have zR:=δ.xq l[i].aA;generalize l[i]=y at*;obtain⟨k,g,nm,cp,pl,⟨k1,n1,s1,c1,l1⟩,⟨k2,n2,s2,c2,l2⟩,cb,body,ce,aA⟩:=y;simp only[δ.Ok]at gD;simp only[δ.body,δ.aA,δ.kind]at*;have eb:=kN cb gD.2.2.2.2.2.1 fM.1 (by omega);have ee:=gq ce gD.2.2.2.2.2.2.2.1 fM.2 (by omega);simp only[δ.av,δ.cells,ζ.four,eK,cO]at hg tB;simp only[δ.cnt,δ.deep]at t1 t2;have w1:aT .i64 (1+(δ.aU body:Int))=1+(δ.aU body:Int):=wrap_i64 (by omega) (by omega);have w2:aT .i64 ((δ.cH body:Int)+1)=(δ.cH body:Int)+1:=wrap_i64 (by omega) (by omega);have w3:aT .i64 (1+(δ.aU body:Int)+δ.aU aA)=1+(δ.aU body:Int)+δ.aU aA:=wrap_i64 (by omega) (by omega);have w4:aT .i64 ((δ.cH aA:Int)+1)=(δ.cH aA:Int)+1:=wrap_i64 (by omega) (by omega);have w5:∀x:Nat,x<=1+δ.aU body+δ.aU aA->aT .i64 ((δ.aU (l.take i):Int)+(x:Int))=(δ.aU (l.take i):Int)+(x:Int):=fun x hx=>wrap_i64 (by omega) (by omega);have w6:=w5 1 (by omega);have w7:aT .i64 ((δ.aU (l.take i):Int)+(1+(δ.aU body:Int)))=(δ.aU (l.take i):Int)+(1+(δ.aU body:Int)):=by have:=w5 (1+δ.aU body) (by omega);simpa using this
   have w8:aT .i64 ((δ.aU (l.take i):Int)+(1+(δ.aU body:Int)+(δ.aU aA:Int)))=(δ.aU (l.take i):Int)+(1+(δ.aU body:Int)+(δ.aU aA:Int)):=by have:=w5 (1+δ.aU body+δ.aU aA) (by omega);simpa using this
   simp at w6;cases hb:cg k with
   |true=>
    cases he:cB k with
    |true=>
     rw[hb,he]at tB
     simp only[hb,he,if_true]at t1 t2;simp[I,K,CO,h1,h2,q1,q2,q3,ν,hg,tB,eb,ee,w1,w2,w3,w4,w8,ej,ke];rw[t1,t2];refine⟨by omega,?_⟩
     (repeat' split)<;>omega
    |false=>
     rw[hb,he]at tB
     simp only[hb,he,if_true,hS,if_false]at t1 t2;simp[I,K,CO,h1,h2,q1,q2,q3,ν,hg,tB,eb,ee,w1,w2,w7,ej,ke];rw[t1,t2];refine⟨by omega,?_⟩
     (repeat' split)<;>omega
   |false=>
    have he:cB k=false:=by simp only[cg,cB,decide_eq_false_iff_not]at hb⊢;omega
    rw[hb,he]at tB;simp only[hb,he,hS,if_false]at t1 t2;simp[I,K,CO,h1,h2,q1,q2,q3,ν,hg,tB,eb,ee,w6,ej,ke];rw[t1,t2];refine⟨by omega,?_⟩
    (repeat' split)<;>omega
  ·right;have:i=l.length:=by omega
   subst this;simp only[lX]at q2 q3;simp[K,CO,h1,h2,q1,q2,q3,ke]
 ·simp[h1,h2,h3,h4];rfl
theorem N_(s:List Nat)(i:Nat)(hi:i<s.length)(h:s[i]<256):((⟨(s.map UInt8.ofNat).toArray⟩:ByteArray).get! i).toNat=s[i]:=by simp[ByteArray.get!,hi];omega
theorem P0{s:List Nat}{i:Nat}(hi:i<s.length)(h:s[i]<128):Utf8.decode ⟨(s.map UInt8.ofNat).toArray⟩ i=(s[i],1):=by have h0:=N_ s i hi (by omega);simp only[Utf8.decode,um,h0];simp[h]
theorem W8{s:List Nat}{i:Nat}(hi:i<s.length)(h1:s[i]<256)(h:128<=s[i]):128<=(Utf8.decode ⟨(s.map UInt8.ofNat).toArray⟩ i).1:=by
 have h0:=N_ s i hi h1;simp only[Utf8.decode,um,h0];have:¬s[i]<128:=by omega
 simp only[this,if_false]
 (repeat' split)<;>simp_all [Utf8.runeError]<;>omega
theorem f178(s:List Nat)(hs:dJ s)(m:Mem):kf u 178 [.str s] m=some (.bool (lN s),m):=by
 refine bz (g:=Ff) rfl rfl rfl ?_;simp only[ah,aw,exp,Ff,Oz];let K:St->Prop:=fun st=>st.mem= {ε:=m.ε,η:=[]};refine χ (fun st=>K st/\st.e 0= .str s) (by simp[K]) fun s1 ⟨h1,h2⟩=>?_;refine aZ (fun st=>K st/\lN s=true) ?_ fun s2 ⟨h1,h2⟩=>?_
 ·let I:Nat->St->Prop:=fun i st=>K st/\(∃v,st.e 6= .Ω 6 v 0/\st.q 6=some (v,.iter s i))/\∀j (hj:j<s.length),j<i->97<=s[j]/\s[j]<=122;refine χ (I 0) (by simp[I,K,h1,h2]) fun s4 hI=>?_;refine κ.block (κ.loop (I:=I) s.length hI fun i st hi τ=>?_);obtain⟨h1,⟨v,q1,q2⟩,q3⟩:=τ;rcases bP i s.length with ν|cD
  ·have hb:s[i]<256:=hs _ (cz ν);by_cases a0:s[i]<128
   ·have hd:=P0 ν a0;by_cases a1:97<=s[i]/\s[i]<=122
    ·left;refine⟨ν,?_⟩;have a2:¬(s[i]:Int)<97:=by omega
     have a3:¬(122:Int)<s[i]:=by omega
     simp[I,K,Av,h1,q1,q2,ν,hd,a2,a3];exact fun j hj jD=>by
      rcases bP j i with h|h
      ·exact q3 j hj h
      ·have:j=i:=by omega
       subst this;exact a1
    ·right;have hn:lN s=false:=by simp only[lN,ahA];exact⟨s[i],cz ν,by simp;omega⟩
     by_cases a2:(s[i]:Int)<97
     ·simp[Av,K,h1,q1,q2,ν,hd,a2,hn]<;>exact h1
     ·have a3:(122:Int)<s[i]:=by omega
      simp[Av,K,h1,q1,q2,ν,hd,a2,a3,hn]<;>exact h1
   ·right;have hd:=W8 ν hb (by omega);have hn:lN s=false:=by simp only[lN,ahA];exact⟨s[i],cz ν,by simp;omega⟩
    have a2:¬((Utf8.decode ⟨(s.map UInt8.ofNat).toArray⟩ i).1:Int)<97:=by omega
    have a3:(122:Int)<(Utf8.decode ⟨(s.map UInt8.ofNat).toArray⟩ i).1:=by omega
    simp[Av,K,h1,q1,q2,ν,a2,a3,hn]<;>exact h1
  ·right;have:i=s.length:=by omega
   subst this;have hy:lN s=true:=by simp only[lN,List.all_eq_true];intro b hb;obtain⟨j,hj,rfl⟩:=vw hb;have:=q3 j hj hj;simp;omega
   simp[Av,K,h1,q1,q2,hy]<;>exact h1
 ·have fL:s2.mem= {ε:=m.ε,η:=[]}:=h1;simp[h2,fL]
theorem f65(cn:Γ)(jQ:aJ cn)(ss:List (List Nat))(t:List Nat)(hlen:ss.length<1000000000000)(m:Mem):kf u 65 [nH cn ss,.str t] m=some (.bool (ss.contains t),m):=by
 have e:=f85 (u:=u) cn jQ ss t hlen;refine bz (g:=GB) rfl rfl rfl ?_;simp only[ah,aw,Qm jQ,exp,GB,PA];cases hf:ss.findIdx? (fun x=>x==t)with
 |none=>
  have hc:ss.contains t=false:=by
   rw[vt]at hf;cases h:ss.contains t with
   |false=>rfl
   |true=>
    rw[yZ]at h
    have:=hf t h;simp at this
  rw[hc];simp[e,placeOf,hf]
 |some i=>
  have hc:ss.contains t=true:=by
   rw[tf]at hf;obtain⟨h1,h2,_⟩:=hf;rw[yZ];have:ss[i]=t:=by simpa using h2
   rw[<-this];exact cz h1
  have:(0:Int)<=(i:Int):=by omega
  rw[hc];simp[e,placeOf,hf,this]
theorem zK:(C u).gl 0= .ref [nH .any bu]:=by rfl
theorem GG:(C u).gl 1= .ref [nH .any fO]:=by rfl
theorem f113(s:List Nat)(hs:dJ s)(m:Mem):kf u 113 [.str s] m=some (.bool (jZ s),m):=by
 have e1:=f178 (u:=u) s hs;have e2:=f65 (u:=u) .any (.inr rfl) bu s (by decide);have e3:=f65 (u:=u) .any (.inr rfl) fO s (by decide);refine bz (g:=ER) rfl rfl rfl ?_;simp only[ah,aw,exp,ER,Og];unfold jZ;generalize bu.contains s=bg at*;generalize fO.contains s=bk at*;by_cases a1:0<s.length
 ·by_cases a2:s.length<=8
  ·have qK:(0:Int)<(s.length:Int):=by omega
   have vB:(s.length:Int)<=8:=by omega
   cases a3:lN s with
   |false=>simp[e1,e2,e3,zK,GG,a1,a2,qK,vB,a3]
   |true=>cases bg<;>simp[e1,e2,e3,zK,GG,a1,a2,qK,vB,a3]
  ·have qK:(0:Int)<(s.length:Int):=by omega
   have vB:¬(s.length:Int)<=8:=by omega
   simp[e1,e2,e3,zK,GG,a1,a2,qK,vB]
 ·have qK:¬(0:Int)<(s.length:Int):=by omega
  simp[e1,e2,e3,zK,GG,a1,qK]
theorem TQ(may:List Nat->Bool)(no:Int)(l:List ζ):ζ.parts may no l=first (ζ.part may no) l:=by
 induction l with
 |nil=>rfl
 |cons a l ih=>simp only[ζ.parts,first,ih]
theorem Ez{n:Nat}{k:Bool}{c:Γ}(hc:aJ c){l:List ζ}(h:ζ.cW l):exp n k (.list c (ζ.ψ l))= .list c (ζ.ψ l):=by
 have:bn n k (ζ.ψ l)=ζ.ψ l:=by rw[fm,ζ.dZ,di];exact dz fun x hx=>ζ.dH n k x (ζ.gb h x hx)
 simp only[exp,fu hc,this]
theorem agn{l:List ζ}(h:ζ.Strs l):∀x∈l,x.lz:=by
 induction l with
 |nil=>intro x hx;cases hx
 |cons a l ih=>
  intro x hx
  rcases List.mem_cons.1 hx with rfl|hx
  ·exact h.1
  ·exact ih h.2 x hx
def Fix(n:Nat)(fv:AV):Prop:=∀k b,n<=k->exp k b fv=fv
def lu(u:Nat)(B:List θ)(fv:AV)(args:List AV)(r:AV):Prop:=∀ext T,aS (C u) fv args {ε:=B++ext,η:=T}=some (r,{ε:=B++ext,η:=T})
theorem f177{B:List θ}{fv:AV}{F:ζ->Int}(hf:Fix B.length fv)(c:Γ)(hc:aJ c)(l:List ζ)(hl:ζ.cW l)(hlen:l.length<1000000000000)
  (h:∀x∈l,lu u B fv [x.av] (.n (F x))):lu u B (.fn (.func 177) [] []) [.list c (ζ.ψ l),fv] (.n (first F l)):=by
 intro ext T;refine bz (g:=Fe) rfl rfl rfl ?_;simp only[ah,aw,Ez hc hl,hf _ false (show B.length<=(B++ext).length by simp),Fe,Oy];let K:St->Prop:=fun st=>st.e 1=fv/\st.mem= {ε:=B++ext,η:=[]};refine χ (fun st=>K st/\st.e 0= .list c (ζ.ψ l)) (by simp[K]) fun s1 ⟨⟨h1,h2⟩,h3⟩=>?_;refine aZ (fun st=>K st/\first F l=0) ?_ fun s2 ⟨⟨h1,h2⟩,h3⟩=>?_
 ·let I:Nat->St->Prop:=fun i st=>K st/\st.e 8= .list c (ζ.ψ l)/\st.e 9= .n l.length/\st.e 10= .n i/\∀j (hj:j<l.length),j<i->F l[j]=0;refine χ (I 0) (by simp[I,K,h1,h2,h3,iX]) fun s4 hI=>?_;refine κ.block (κ.loop (I:=I) l.length hI fun i st hi τ=>?_);obtain⟨⟨h1,h2⟩,q1,q2,q3,q4⟩:=τ;rcases bP i l.length with ν|cD
  ·have hw:aT .i64 ((i:Int)+1)=(i:Int)+1:=wrap_i64 (by omega) (by omega);have hg:=tq l i ν;have hx:=h _ (cz ν) ext [];by_cases hz:F l[i]=0
   ·left;refine⟨ν,?_⟩;rw[hz]at hx;have q5:=tw (P:=fun j=>∀hj:j<l.length,F l[j]=0) (n:=l.length) (fun j a b c=>q4 j c b) (fun _=>hz);generalize l[i]=y at hg hx;obtain⟨k',n',s',c2,l'⟩:=y;simp only[ζ.av]at hg hx;simp[I,K,Hv,h1,h2,q1,q2,q3,ν,hg,hx,hw,iX];exact fun j hj jD=>q5 j hj jD hj
   ·right;have p_:=zw ν q4 hz;rw[p_];have e1:=bne_true hz;generalize l[i]=y at hg hx hz e1;obtain⟨k',n',s',c2,l'⟩:=y;simp only[ζ.av]at hg hx;simp[K,Hv,h1,h2,q1,q2,q3,ν,hg,hx,e1,iX]
  ·right;have:i=l.length:=by omega
   subst this;have hz:=zu (f:=F) fun j hj=>q4 j hj hj;simp[K,Hv,h1,h2,q1,q2,q3,hz]
 ·simp[h1,h2,h3]
def mR(B:List θ)(mo:AV)(no:Int):List θ:=B++[.cells [mo],.cells [.n no],.cells [.fn (.func 175) [] [.μ B.length 0,.μ (B.length+1) 0,.μ (B.length+2) 0]]]
theorem Sk(B:List θ)(mo:AV)(no:Int):(mR B mo no).length=B.length+3:=by simp[mR]
theorem f175(B:List θ)(mo:AV)(no:Int)(may:List Nat->Bool)(tI:∀s,dJ s->lu u B mo [.str s] (.bool (may s)))(x:ζ):x.Ok->x.lz->x.cnt<1000000000000→
  lu u (mR B mo no) (.fn (.func 175) [] [.μ B.length 0,.μ (B.length+1) 0,.μ (B.length+2) 0]) [x.av] (.n (x.part may no)):=by
 refine ζ.iB (Q:=fun x=>x.Ok->x.lz->x.cnt<1000000000000->lu u (mR B mo no) (.fn (.func 175) [] [.μ B.length 0,.μ (B.length+1) 0,.μ (B.length+2) 0]) [x.av] (.n (x.part may no))) (fun k n s c l ih Θ qo lI=>?_) x;intro ext T;simp only[ζ.lz]at qo;simp only[ζ.cnt]at lI;have gO:=ζ.zo l;have hlen:(mR B mo no++ext).length=B.length+3+ext.length:=by simp[Sk]
 have a0:B.length<B.length+3+ext.length:=by omega
 have a1:B.length+1<B.length+3+ext.length:=by omega
 have a2:B.length+2<B.length+3+ext.length:=by omega
 have d0:(mR B mo no++ext)[B.length]?=some (.cells [mo]):=by simp[mR]
 have d1:(mR B mo no++ext)[B.length+1]?=some (.cells [.n no]):=by simp[mR]
 have d2:(mR B mo no++ext)[B.length+2]?=some (.cells [.fn (.func 175) [] [.μ B.length 0,.μ (B.length+1) 0,.μ (B.length+2) 0]]):=by simp[mR]
 have dv:=fun m=>f176 (u:=u) k n s c l m Θ;have hm:=tI s qo.1 ([.cells [mo],.cells [.n no],.cells [.fn (.func 175) [] [.μ B.length 0,.μ (B.length+1) 0,.μ (B.length+2) 0]]]++ext) [];have lJ:aS (C u) mo [.str s] {ε:=mR B mo no++ext,η:=[]}=some (.bool (may s),{ε:=mR B mo no++ext,η:=[]}):=by simpa[mR]using hm
 have sx:Fix (mR B mo no).length (.fn (.func 175) [] [.μ B.length 0,.μ (B.length+1) 0,.μ (B.length+2) 0]):=by intro kk b hk;rw[Sk]at hk;simp[exp,bn,Fn.below];omega
 have xR:=f177 (u:=u) sx c Θ.1 l Θ.2 (by omega) (fun y hy=>ih y hy (ζ.gb Θ.2 y hy) (agn qo.2 y hy) (by have:=ζ.vG hy;omega)) ext [];rw[<-TQ]at xR;refine rY (g:=Fc) rfl rfl rfl ?_;have dV:([]++[(ζ.mk k n s c l).av]++[AV.μ B.length 0,.μ (B.length+1) 0,.μ (B.length+2) 0]).map (exp (mR B mo no++ext).length false)=[(ζ.mk k n s c l).av,AV.μ B.length 0,.μ (B.length+1) 0,.μ (B.length+2) 0]:=by simp only[cO,eK,ah,aw,ζ.dH _ _ _ Θ,exp,hlen,a0,a1,a2,if_true]
 rw[dV];simp only[Fc,c175,ζ.part];simp only[ζ.av]at dv⊢;generalize mR B mo no++ext=BB at*;by_cases lq:gy k n l.length=0
 ·rw[lq]at dv;by_cases fo:k=2
  ·subst fo;cases nV:may s with
   |true=>
    rw[nV]at lJ
    simp[dv,d0,d1,d2,lJ,xR,lq]
   |false=>
    rw[nV]at lJ
    simp[dv,d0,d1,d2,lJ,xR,lq]
  ·simp[dv,d0,d1,d2,lJ,xR,lq,fo,dR fo]
 ·simp[dv,d0,d1,d2,lJ,xR,lq,bne_true lq]
theorem f112{B:List θ}{F:Fn}{fa fc:List AV}{may:List Nat->Bool}(no:Int)(sx:Fix B.length (.fn F fa fc))(nW:fa.map ρ=fa)(kK:fc.map ρ=fc)(tI:∀s,dJ s->lu u B (.fn F fa fc) [.str s] (.bool (may s)))(x:ζ)(Θ:x.Ok)(qo:x.lz)(lI:x.cnt<1000000000000):
  lu u B (.fn (.func 112) [] []) [x.av,.fn F fa fc,.n no] (.n (x.err may no)):=by
 intro ext T;have bm:=fun m=>f117 (u:=u) x Θ lI m;have aaa:∀s,dJ s->lu u (B++ext) (.fn F fa fc) [.str s] (.bool (may s)):=fun s hs e t=>by have:=tI s hs (ext++e) t;rwa[<-List.append_assoc]at this
 have c_:=f175 (u:=u) (B++ext) (.fn F fa fc) no may aaa x Θ qo lI [] [];refine bz (g:=EP) rfl rfl rfl ?_;simp only[ah,aw,ζ.dH _ _ _ Θ,sx _ false (show B.length<=(B++ext).length by simp)];simp only[exp,EP,Of];generalize B++ext=BB at*;obtain⟨k,n,s,c,l⟩:=x;simp only[ζ.av]at bm c_⊢;by_cases h9:9<(ζ.mk k n s c l).cnt
 ·have xJ:(9:Int)<((ζ.mk k n s c l).cnt:Int):=by omega
  simp[bm,Mem.push,Mem.ρ,ρ,fC,nW,kK,ζ.err,h9,xJ]
 ·have xJ:¬(9:Int)<((ζ.mk k n s c l).cnt:Int):=by omega
  simp only[mR,dx]at c_;simp[bm,Mem.push,Mem.ρ,ρ,fC,cL,nW,kK,ζ.err,h9,xJ,Mem.put,bh,lo,Fn.below,c_]
end Go.ab.Tz
