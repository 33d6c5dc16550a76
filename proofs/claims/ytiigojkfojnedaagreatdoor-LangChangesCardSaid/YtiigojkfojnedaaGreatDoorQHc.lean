import Derived.Test.YtiigojkfojnedaaGreatDoorQHa
set_option linter.unusedVariables false
set_option linter.unusedSimpArgs false
set_option linter.unusedSectionVars false
set_option maxRecDepth 100000
set_option maxHeartbeats 8000000
open List renaming map_map->c6,map_congr_left->dt,getElem_cons_zero->me,getElem_cons_succ->qm,map_cons->ay,map_nil->aA,append_nil->dW,take_length->mL,findIdx?_eq_some_iff_getElem->sZ,findIdx?_eq_none_iff->vo,getElem_of_mem->vr,take_succ_cons->rE,getElem_mem->cL,cons_append->eO,nil_append->cI,all_eq_false->ahz,contains_iff_mem->yP
open Nat renaming lt_or_ge->bP,add_zero->ui
open Go.IntKind renaming wrap->a_
open Bool renaming false_eq_true->gY
namespace Go.ah.Tz
open Go.ah
variable{u:Nat}
attribute [local simp] exec ed dP eX aC dQ ft eL ζ gg τ fW gy gH gI AV.cells newVar gE rd wr fK single eV bY ek dF μ aY RV.get aV dB iE
structure aL where
 name:List Nat
 w:Int
 d:Int
def aL.av(x:aL):AV:= .agg [.str x.name,.int .i64 x.w,.int .i64 x.d]
def cH(c:χ)(l:List aL):AV:= .list c (l.map aL.av)
theorem lv{n:Nat}{k:Bool}{c:χ}(hc:aJ c)(l:List aL):exp n k (cH c l)=cH c l:=by
 have:bn n k (l.map aL.av)=l.map aL.av:=by rw[fo,c6];exact dt fun x _=>rfl
 simp only[cH,exp,fb hc,this]
theorem Xv(bs:List κ)(n:Nat)(c:χ)(l:List aL):ai bs n 8 (cH c l)=cH (c.exp n false) l:=by simp only[cH,ai,bK,nZ,c6];congr 1
theorem PY(bs:List κ)(n:Nat)(a:List Nat)(w d:Int):ai bs n 8 (.agg [.str a,.int .i64 w,.int .i64 d])= .agg [.str a,.int .i64 w,.int .i64 d]:=rfl
theorem vI(bs:List κ)(n:Nat)(a:List Nat):ai bs n 8 (.str a)= .str a:=rfl
def dG:List aL->List Nat->aL
 |[],_=>⟨[],0,0⟩
 |x::l,s=>if x.name=s then x else dG l s
theorem Xc{l:List aL}{s:List Nat}{i:Nat}(hi:i<l.length)(h:∀j (hj:j<l.length),j<i->l[j].name≠s)(he:l[i].name=s):dG l s=l[i]:=by
 induction l generalizing i with
 |nil=>simp at hi
 |cons a l ih=>
  cases i with
  |zero=>simp only[me]at he⊢;simp[dG,he]
  |succ i=>
   have h0:=h 0 (by simp) (by omega)
   simp only[me]at h0;simp only[qm]at he⊢;simp only[dG,h0,if_false];exact ih (by simpa using hi) (fun j hj jg=>by have:=h (j+1) (by simp;omega) (by omega);simpa using this) he
theorem Xf{l:List aL}{s:List Nat}(h:∀j (hj:j<l.length),l[j].name≠s):dG l s=⟨[],0,0⟩:=by
 induction l with
 |nil=>rfl
 |cons a l ih=>
  have h0:=h 0 (by simp)
  simp only[me]at h0;simp only[dG,h0,if_false];exact ih fun j hj=>by have:=h (j+1) (by simp;omega);simpa using this
theorem f165(c:χ)(hc:aJ c)(l:List aL)(s:List Nat)(hl:l.length<1000000000000)(m:Mem):kf u 165 [cH c l,.str s] m=some ((dG l s).av,m):=by
 refine bD (g:=EZ) rfl rfl rfl ?_;simp only[ay,aA,lv hc,exp,EZ,N5];let K:St->Prop:=fun st=>ζ st.env 0=cH c l/\ζ st.env 1= .str s/\ζ st.env 4= .ae 4 0 0/\τ st.loc 4=some (0,.cells [.str [],.int .i64 0,.int .i64 0])/\st.mem= {ε:=m.ε,θ:=[]};refine ω (K) (by simp[K,aR]) fun s1 ⟨h1,h2,h3,h4,h5⟩=>?_;refine bc (fun st=>K st/\dG l s=⟨[],0,0⟩) ?_ fun s2 ⟨⟨h1,h2,h3,h4,h5⟩,h6⟩=>?_
 ·let I:Nat->St->Prop:=fun i st=>K st/\ζ st.env 5= .int .i64 i/\∀j (hj:j<l.length),j<i->l[j].name≠s;refine ω (I 0) (by simp[I,K,h1,h2,h3,h4,h5]) fun s4 hI=>?_;refine μ.block (μ.loop (I:=I) l.length hI fun i st hi ψ=>?_);obtain⟨⟨h1,h2,h3,h4,h5⟩,q1,q2⟩:=ψ;simp only[cH]at h1;rcases bP i l.length with ρ|cG
  ·have hw:a_ .i64 ((i:Int)+1)=(i:Int)+1:=wrap_i64 (by omega) (by omega);by_cases he:l[i].name=s
   ·right;have hf:=Xc ρ q2 he;rw[hf];simp[Hg,h1,h2,h3,h4,h5,q1,ρ,he,aL.av,PY]
   ·left;refine⟨ρ,?_⟩;simp[I,K,Hg,h1,h2,h3,h4,h5,q1,ρ,he,hw,aL.av,cH];exact fun j hj jg=>tu (P:=fun j=>∀hj:j<l.length,l[j].name≠s) (n:=l.length) (fun j a b c=>q2 j c b) (fun _=>he) j hj jg hj
  ·right;have:i=l.length:=by omega
   subst this;have hf:=Xf fun j hj=>q2 j hj hj;simp[K,Hg,h1,h2,h3,h4,h5,q1,hf,cH]
 ·simp[h1,h2,h3,h4,h5,h6,cF,aL.av,PY]
theorem Md(n:Nat)(x:aL):Lv n x.av x.av:=⟨fun _=>rfl,rfl⟩
theorem SJ(n:Nat)(l:List aL):nT true n 3 (l.map aL.av) (l.map aL.av):=nT.of _ _ fun x _=>⟨Md n x,rfl⟩
theorem f166(c:χ)(hc:aJ c)(l:List aL)(s:List Nat)(w d:Int)(hl:l.length<1000000000000)(m:Mem):
  kf u 166 [cH c l,.str s,.int .i64 w,.int .i64 d] m=some (cH .any (l++[⟨s,w,d⟩]),m):=by
 refine bD (g:=E0) rfl rfl rfl ?_;simp only[ay,aA,lv hc,exp,E0,N6];have hv:=SJ m.ε.length l;obtain⟨c1,e1,a1,r1⟩:=aft (B:=m.ε) (ext:=[]) (bytes:=32) (e:=235) (c:=c) hv.s hv.n (by decide) (by simp;omega) (by simp;omega);have hx:=Md m.ε.length ⟨s,w,d⟩;obtain⟨c2,e2,a2,r2,-⟩:=qf (bytes:=32) r1 hv.s (v:=aL.av ⟨s,w,d⟩) rfl hx.n (by decide) (by simp;omega) (by simp;omega);have hz:=((hv.snoc hx rfl).list c2).z;rw[r2.El (by omega)]at hz;simp only[dW]at a1;have hr:cH .any (l++[⟨s,w,d⟩])= .list .any (l.map aL.av++[aL.av ⟨s,w,d⟩]):=by simp[cH]
 rw[hr,<-hz (m.ε++e2)];simp only[cH,aL.av]at*;simp[a1,a2,Mem.φ,φ,cW,cF,shaped]
theorem f219(c:χ)(hc:aJ c)(l:List aL)(s:List Nat)(hl:l.length<1000000000000)(m:Mem):
  ∃c',aJ c'/\kf u 219 [cH c l,.str s] m=some (cH c' (l.filter fun x=>x.name !=s),m):=by
 have hx:μ (C u).gl (aU (C u)) zt.code {env:=[cH c l,.str s].map (exp m.ε.length false),loc:=[],mem:= {ε:=m.ε,θ:=[]}} fun r=>
   (∀i,r.1≠ .exit i)/\∃c' ext k,ζ r.2.env 4=cH c' (l.filter fun x=>x.name !=s)/\r.2.mem= {ε:=m.ε++ext,θ:=[]}/\Row m.ε.length (m.ε++ext) 3 235 c' k:=by
  simp only[ay,aA,lv hc,exp,zt,Oq];let K:St->Prop:=fun st=>ζ st.env 0=cH c l/\ζ st.env 1= .str s;let F:Nat->List aL:=fun i=>(l.take i).filter fun x=>x.name !=s;let J:Nat->St->Prop:=fun i st=>∃c' ext,ζ st.env 5=cH c' (F i)/\st.mem= {ε:=m.ε++ext,θ:=[]}/\Row m.ε.length (m.ε++ext) 3 235 c' (F i).length;refine ω (fun st=>K st/\st.mem= {ε:=m.ε,θ:=[]}) (by simp[K]) fun s1 ⟨⟨h1,h2⟩,h3⟩=>?_;refine ω (fun st=>K st/\J 0 st) (by simp[K,J,F,h1,h2,h3];exact⟨.nil,rfl,Row.nil⟩) fun s1 ⟨⟨h1,h2⟩,h3⟩=>?_;refine bc (J l.length) ?_ fun s2 ⟨c',ext,h1,h2,h3⟩=>?_
  ·let I:Nat->St->Prop:=fun i st=>K st/\J i st/\ζ st.env 6= .int .i64 i;refine ω (I 0) (by
    obtain⟨c',ext,q1,q2,q3⟩:=h3
    simp[I,K,J,h1,h2,q1,q2]
    first|exact q3|exact⟨c',rfl,q3⟩) fun s4 hI=>?_
   refine μ.block (μ.loop (I:=I) l.length hI fun i st hi ψ=>?_);obtain⟨⟨h1,h2⟩,⟨c',ext,q1,q2,q3⟩,q4⟩:=ψ;simp only[cH]at h1 q1;rcases bP i l.length with ρ|cG
   ·left;refine⟨ρ,?_⟩;have hw:a_ .i64 ((i:Int)+1)=(i:Int)+1:=wrap_i64 (by omega) (by omega);have hF:F (i+1)=if(l[i].name !=s)=true then F i++[l[i]]else F i:=by simp only[F,List.take_succ_eq_append_getElem ρ,List.filter_append,List.filter_cons,List.filter_nil];split<;>simp
    have hFl:(F i).length<=i:=by have:=List.length_filter_le (fun x:aL=>x.name !=s) (l.take i);rw[List.length_take]at this;simp only[F];omega
    by_cases he:l[i].name=s
    ·have fT:(l[i].name !=s)=false:=by simpa using he
     simp only[fT,gY,if_false]at hF;simp[I,K,J,Hk,h1,h2,q1,q2,q4,ρ,he,hw,aL.av,cH,hF]
     first|exact q3|exact⟨c',rfl,q3⟩
    ·have fT:(l[i].name !=s)=true:=by simpa using he
     simp only[fT,if_true]at hF;have hv:=SJ m.ε.length (F i);have dI:=Md m.ε.length l[i];obtain⟨c2,e2,a2,r2,-⟩:=qf (bytes:=32) (l:=(F i).map aL.av) (by simpa using q3) hv.s (v:=l[i].av) rfl dI.n (by decide) (by simp;omega) (by simp;omega);simp only[aL.av]at a2;simp[I,K,J,Hk,h1,h2,q1,q2,q4,ρ,he,fT,hw,aL.av,cH,hF,Mem.φ,φ,cW,a2,shaped]
     first|simpa using r2|exact⟨c2,rfl,by simpa using r2⟩
   ·right;have:i=l.length:=by omega
    subst this;simp[J,Hk,h1,h2,q1,q2,q4,cH]
    first|exact q3|exact⟨c',rfl,q3⟩
  ·simp only[F,mL]at h1 h3;simp[h1,h2];exact⟨c',rfl,_,h3⟩
 obtain⟨r,h1,h2,c',ext,k,h3,h4,h5⟩:=hx;refine⟨c'.exp m.ε.length false,?_,bD (g:=zt) rfl rfl rfl ⟨r,h1,h2,⟨ext,h4⟩,[_],by simp[zt];exact h3,Xv _ _ _ _⟩⟩;rcases h5 with⟨rfl|rfl,_⟩|⟨t,rfl,ht,_⟩
 ·exact .inl rfl
 ·exact .inr rfl
 ·right;simp[χ.exp]
def o7(ps:List Ξ)(s:List Nat):Int:=match nQ ps s with
 |none=> -1
 |some i=>i
theorem f150(c:χ)(hc:aJ c)(ps:List Ξ)(bA:∀x∈ps,x.Ok)(s:List Nat)(hl:ps.length<1000000000000)(m:Mem):
  kf u 150 [.agg [.list c (ps.map Ξ.av)],.str s] m=some (.int .i64 (o7 ps s),m):=by
 refine bD (g:=EX) rfl rfl rfl ?_;have Kg:∀n k,bn n k (ps.map Ξ.av)=ps.map Ξ.av:=fun n k=>by rw[fo,c6];exact dt fun x hx=>Ξ.ep n k x (bA x hx)
 simp only[ay,aA,exp,bn,fb hc,Kg,EX,N4];let K:St->Prop:=fun st=>ζ st.env 1= .str s/\ζ st.env 2= .ae 2 0 0/\τ st.loc 2=some (0,.cells [.list c (ps.map Ξ.av)])/\st.mem= {ε:=m.ε,θ:=[]};refine ω (K) (by simp[K,aR]) fun s1 ⟨h1,h2,h3,h4⟩=>?_;refine bc (fun st=>K st/\o7 ps s= -1) ?_ fun s2 ⟨⟨h1,h2,h3,h4⟩,h5⟩=>?_
 ·let I:Nat->St->Prop:=fun i st=>K st/\ζ st.env 5= .int .i64 i/\∀j (hj:j<ps.length),j<i->ps[j].name≠s;refine ω (I 0) (by simp[I,K,h1,h2,h3,h4]) fun s4 hI=>?_;refine μ.block (μ.loop (I:=I) ps.length hI fun i st hi ψ=>?_);obtain⟨⟨h1,h2,h3,h4⟩,q1,q2⟩:=ψ;rcases bP i ps.length with ρ|cG
  ·have hw:a_ .i64 ((i:Int)+1)=(i:Int)+1:=wrap_i64 (by omega) (by omega);by_cases he:ps[i].name=s
   ·right;have hf:o7 ps s=i:=by
     have:nQ ps s=some i:=by rw[nQ,sZ];exact⟨ρ,by simpa using he,fun j hj=>by simpa using q2 j (by omega) hj⟩
     simp[o7,this]
    simp[Hf,h1,h2,h3,h4,q1,ρ,he,Ξ.av,hf]
   ·left;refine⟨ρ,?_⟩;simp[I,K,Hf,h1,h2,h3,h4,q1,ρ,he,hw,Ξ.av];exact fun j hj jg=>tu (P:=fun j=>∀hj:j<ps.length,ps[j].name≠s) (n:=ps.length) (fun j a b c=>q2 j c b) (fun _=>he) j hj jg hj
  ·right;have:i=ps.length:=by omega
   subst this;have hf:o7 ps s= -1:=by
    have:nQ ps s=none:=by rw[nQ,vo];intro x hx;obtain⟨j,hj,rfl⟩:=vr hx;simpa using q2 j hj hj
    simp[o7,this]
   simp[K,Hf,h1,h2,h3,h4,q1,hf]
 ·simp[h1,h2,h3,h4,h5]
theorem f149(x:δ)(hx:x.Ok)(m:Mem):kf u 149 [x.av] m=some (.aP [.bool (dh x.kind),.bool (de x.kind)],m):=by
 refine bD (g:=EW) rfl rfl rfl ?_;simp only[ay,aA,δ.ep _ _ _ hx,EW,N1];obtain⟨k,g,nm,cp,pl,⟨k1,n1,s1,c1,l1⟩,⟨k2,n2,s2,c2,l2⟩,cb,body,ce,aG⟩:=x;by_cases e4:k=4
 ·subst e4;simp[δ.av,δ.cells,η.four,aR,δ.kind,dh,de];rfl
 by_cases e8:k=8
 ·subst e8;simp[δ.av,δ.cells,η.four,aR,δ.kind,dh,de];rfl
 by_cases mO:k=10
 ·subst mO;simp[δ.av,δ.cells,η.four,aR,δ.kind,dh,de];rfl
 by_cases e7:k=7
 ·subst e7;simp[δ.av,δ.cells,η.four,aR,δ.kind,dh,de];rfl
 by_cases rQ:k=11
 ·subst rQ;simp[δ.av,δ.cells,η.four,aR,δ.kind,dh,de];rfl
 simp[δ.av,δ.cells,η.four,aR,δ.kind,dh,de,e4,e8,mO,e7,rQ,eC];rfl
theorem f257(g:Int)(m:Mem):kf u 257 [.int .i64 g] m=some (.int .i64 (gS g),m):=by
 refine bD (g:=zu) rfl rfl rfl ?_;by_cases h1:g<=8
 ·simp[zu,DS,exp,gS,h1]
 by_cases h2:g<=11
 ·simp[zu,DS,exp,gS,h1,h2]
 ·simp[zu,DS,exp,gS,h1,h2]
theorem ng(l:List δ):(δ.Δ l).length=l.length:=by rw[δ.eo];simp
theorem Az(l:List δ)(i:Nat)(h:i<l.length):(δ.Δ l)[i]'(by rw[ng];exact h)=l[i].av:=by simp[δ.eo]
theorem We(l:List δ)(i:Nat)(h:i<l.length):δ.bj (l.take (i+1))=δ.bj (l.take i)+l[i].cnt:=by
 induction l generalizing i with
 |nil=>simp at h
 |cons a l ih=>
  cases i with
  |zero=>simp[δ.bj]
  |succ i=>simp only[rE,δ.bj,qm,ih i (by simpa using h)];omega
theorem Pw(l:List δ)(i:Nat)(h:i<l.length):δ.cM (l.take (i+1))=max (δ.cM (l.take i)) l[i].deep:=by
 induction l generalizing i with
 |nil=>simp at h
 |cons a l ih=>
  cases i with
  |zero=>simp[δ.cM]
  |succ i=>simp only[rE,δ.cM,qm,ih i (by simpa using h),Nat.max_assoc]
theorem δ.Wd(x:δ):x.cnt<=x.wt/\x.deep<=x.wt:=by
 refine δ.jY (Q:=fun x=>x.cnt<=x.wt/\x.deep<=x.wt) (fun k g nm cp pl size to cb body ce aG h1 h2=>?_) x;have go:∀l:List δ,(∀y∈l,y.cnt<=y.wt/\y.deep<=y.wt)->δ.bj l<=δ.bX l/\δ.cM l<=δ.bX l:=by
  intro l hl;induction l with
  |nil=>simp[δ.bj,δ.cM]
  |cons a l ih=>
   have:=ih fun y hy=>hl y (by simp[hy])
   have ha:=hl a (by simp);simp only[δ.bj,δ.cM,δ.bX];omega
 have a1:=go body h1;have a2:=go aG h2;simp only[δ.cnt,δ.deep,δ.wt];split<;>split<;>omega
theorem δ.xm(l:List δ):δ.bj l<=δ.bX l/\δ.cM l<=δ.bX l:=by
 induction l with
 |nil=>simp[δ.bj,δ.cM]
 |cons a l ih=>have:=δ.Wd a;simp only[δ.bj,δ.cM,δ.bX];omega
theorem Ux(l:List δ)(i:Nat):δ.bX (l.take i)<=δ.bX l:=by
 induction l generalizing i with
 |nil=>simp
 |cons a l ih=>cases i with
  |zero=>simp[δ.bX]
  |succ i=>have:=ih i;simp only[rE,δ.bX];omega
theorem oL{n:Nat}{k:Bool}{c:χ}(hc:aJ c){l:List δ}(h:δ.c7 l):exp n k (.list c (δ.Δ l))= .list c (δ.Δ l):=by simp only[exp,fb hc,δ.Em _ _ _ h]
theorem δ.CV{x:δ}(h:x.Ok):δ.c7 x.body/\δ.c7 x.aG:=by obtain⟨k,g,nm,cp,pl,size,to,cb,body,ce,aG⟩:=x;simp only[δ.Ok]at h;exact⟨h.2.2.2.2.2.2.1,h.2.2.2.2.2.2.2.2⟩
theorem f148(l:List δ):∀(c:χ),aJ c->δ.c7 l->δ.bX l<1000000000000->∀m,kf u 148 [.list c (δ.Δ l)] m=some (.aP [.int .i64 (δ.bj l),.int .i64 (δ.cM l)],m):=by
 refine δ.lists (P:=fun l=>∀(c:χ),aJ c->δ.c7 l->δ.bX l<1000000000000->∀m,kf u 148 [.list c (δ.Δ l)] m=some (.aP [.int .i64 (δ.bj l),.int .i64 (δ.cM l)],m)) (fun l ih c hc ab hw m=>?_) l;refine bD (g:=EV) rfl rfl rfl ?_;simp only[ay,aA,oL hc ab,EV,c148];have jU:=δ.wT l;let K:St->Prop:=fun st=>ζ st.env 0= .list c (δ.Δ l)/\st.mem= {ε:=m.ε,θ:=[]};refine ω (K) (by simp[K]) fun s1 ⟨h1,h2⟩=>?_;refine ω (fun st=>K st/\ζ st.env 4= .int .i64 0/\ζ st.env 5= .int .i64 0) (by simp[K,h1,h2]) fun s1 ⟨⟨h1,h2⟩,h3,h4⟩=>?_;refine bc (fun st=>K st/\ζ st.env 4= .int .i64 (δ.bj l)/\ζ st.env 5= .int .i64 (δ.cM l)) ?_ fun s2 ⟨⟨h1,h2⟩,h3,h4⟩=>?_
 ·let I:Nat->St->Prop:=fun i st=>K st/\ζ st.env 6= .int .i64 i/\ζ st.env 4= .int .i64 (δ.bj (l.take i))/\ζ st.env 5= .int .i64 (δ.cM (l.take i));refine ω (I 0) (by simp[I,K,h1,h2,h3,h4,δ.bj,δ.cM]) fun s4 hI=>?_;refine μ.block (μ.loop (I:=I) l.length hI fun i st hi ψ=>?_);obtain⟨⟨h1,h2⟩,q1,q2,q3⟩:=ψ;rcases bP i l.length with ρ|cG
  ·left;refine⟨ρ,?_⟩;have fU:a_ .i64 ((i:Int)+1)=(i:Int)+1:=wrap_i64 (by omega) (by omega);have hg:=Az l i ρ;have t1:=We l i ρ;have t2:=Pw l i ρ;have hm:l[i]∈l:=cL ρ;have jV:=δ.gO ab _ hm;obtain⟨mZ,kT⟩:=ih _ hm;have tz:=f149 (u:=u) l[i] jV;have ahm:=δ.o_ hm;have ib:=δ.CV jV;have cG:=δ.yM l[i];have pU:=δ.xm (l.take i);have ji:=Ux l i;have pz:=δ.xm l[i].body;have GG:=δ.xm l[i].aG;generalize l[i]=y at*;obtain⟨k,g,nm,cp,pl,⟨k1,n1,s1,c1,l1⟩,⟨k2,n2,s2,c2,l2⟩,cb,body,ce,aG⟩:=y;simp only[δ.Ok]at jV;simp only[δ.body,δ.aG,δ.kind]at*;have eb:=mZ cb jV.2.2.2.2.2.1 ib.1 (by omega);have ee:=kT ce jV.2.2.2.2.2.2.2.1 ib.2 (by omega);simp only[δ.av,δ.cells,η.four,eO,cI]at hg tz;simp only[δ.cnt,δ.deep]at t1 t2;have w1:a_ .i64 (1+(δ.bj body:Int))=1+(δ.bj body:Int):=wrap_i64 (by omega) (by omega);have w2:a_ .i64 ((δ.cM body:Int)+1)=(δ.cM body:Int)+1:=wrap_i64 (by omega) (by omega);have w3:a_ .i64 (1+(δ.bj body:Int)+δ.bj aG)=1+(δ.bj body:Int)+δ.bj aG:=wrap_i64 (by omega) (by omega);have w4:a_ .i64 ((δ.cM aG:Int)+1)=(δ.cM aG:Int)+1:=wrap_i64 (by omega) (by omega);have w5:∀x:Nat,x<=1+δ.bj body+δ.bj aG->a_ .i64 ((δ.bj (l.take i):Int)+(x:Int))=(δ.bj (l.take i):Int)+(x:Int):=fun x hx=>wrap_i64 (by omega) (by omega);have w6:=w5 1 (by omega);have w7:a_ .i64 ((δ.bj (l.take i):Int)+(1+(δ.bj body:Int)))=(δ.bj (l.take i):Int)+(1+(δ.bj body:Int)):=by have:=w5 (1+δ.bj body) (by omega);simpa using this
   have w8:a_ .i64 ((δ.bj (l.take i):Int)+(1+(δ.bj body:Int)+(δ.bj aG:Int)))=(δ.bj (l.take i):Int)+(1+(δ.bj body:Int)+(δ.bj aG:Int)):=by have:=w5 (1+δ.bj body+δ.bj aG) (by omega);simpa using this
   simp at w6;cases hb:dh k with
   |true=>
    cases he:de k with
    |true=>
     rw[hb,he]at tz
     simp only[hb,he,if_true]at t1 t2;simp[I,K,CH,h1,h2,q1,q2,q3,ρ,hg,tz,eb,ee,w1,w2,w3,w4,w8,fU,ng];rw[t1,t2];refine⟨by omega,?_⟩
     (repeat' split)<;>omega
    |false=>
     rw[hb,he]at tz
     simp only[hb,he,if_true,gY,if_false]at t1 t2;simp[I,K,CH,h1,h2,q1,q2,q3,ρ,hg,tz,eb,ee,w1,w2,w7,fU,ng];rw[t1,t2];refine⟨by omega,?_⟩
     (repeat' split)<;>omega
   |false=>
    have he:de k=false:=by simp only[dh,de,decide_eq_false_iff_not]at hb⊢;omega
    rw[hb,he]at tz;simp only[hb,he,gY,if_false]at t1 t2;simp[I,K,CH,h1,h2,q1,q2,q3,ρ,hg,tz,eb,ee,w6,fU,ng];rw[t1,t2];refine⟨by omega,?_⟩
    (repeat' split)<;>omega
  ·right;have:i=l.length:=by omega
   subst this;simp only[mL]at q2 q3;simp[K,CH,h1,h2,q1,q2,q3,ng]
 ·simp[h1,h2,h3,h4];rfl
theorem NM(s:List Nat)(i:Nat)(hi:i<s.length)(h:s[i]<256):((⟨(s.map UInt8.ofNat).toArray⟩:ByteArray).get! i).toNat=s[i]:=by simp[ByteArray.get!,hi];omega
theorem Pv{s:List Nat}{i:Nat}(hi:i<s.length)(h:s[i]<128):Utf8.decode ⟨(s.map UInt8.ofNat).toArray⟩ i=(s[i],1):=by have h0:=NM s i hi (by omega);simp only[Utf8.decode,ui,h0];simp[h]
theorem Wv{s:List Nat}{i:Nat}(hi:i<s.length)(h1:s[i]<256)(h:128<=s[i]):128<=(Utf8.decode ⟨(s.map UInt8.ofNat).toArray⟩ i).1:=by
 have h0:=NM s i hi h1;simp only[Utf8.decode,ui,h0];have:¬s[i]<128:=by omega
 simp only[this,if_false]
 (repeat' split)<;>simp_all [Utf8.runeError]<;>omega
theorem f178(s:List Nat)(hs:cX s)(m:Mem):kf u 178 [.str s] m=some (.bool (lD s),m):=by
 refine bD (g:=E7) rfl rfl rfl ?_;simp only[ay,aA,exp,E7,N_];let K:St->Prop:=fun st=>st.mem= {ε:=m.ε,θ:=[]};refine ω (fun st=>K st/\ζ st.env 0= .str s) (by simp[K]) fun s1 ⟨h1,h2⟩=>?_;refine bc (fun st=>K st/\lD s=true) ?_ fun s2 ⟨h1,h2⟩=>?_
 ·let I:Nat->St->Prop:=fun i st=>K st/\(∃v,ζ st.env 6= .ae 6 v 0/\τ st.loc 6=some (v,.iter s i))/\∀j (hj:j<s.length),j<i->97<=s[j]/\s[j]<=122;refine ω (I 0) (by simp[I,K,h1,h2]) fun s4 hI=>?_;refine μ.block (μ.loop (I:=I) s.length hI fun i st hi ψ=>?_);obtain⟨h1,⟨v,q1,q2⟩,q3⟩:=ψ;rcases bP i s.length with ρ|cG
  ·have hb:s[i]<256:=hs _ (cL ρ);by_cases a0:s[i]<128
   ·have hd:=Pv ρ a0;by_cases a1:97<=s[i]/\s[i]<=122
    ·left;refine⟨ρ,?_⟩;have a2:¬(s[i]:Int)<97:=by omega
     have a3:¬(122:Int)<s[i]:=by omega
     simp[I,K,Af,h1,q1,q2,ρ,hd,a2,a3];exact fun j hj jg=>by
      rcases bP j i with h|h
      ·exact q3 j hj h
      ·have:j=i:=by omega
       subst this;exact a1
    ·right;have hn:lD s=false:=by simp only[lD,ahz];exact⟨s[i],cL ρ,by simp;omega⟩
     by_cases a2:(s[i]:Int)<97
     ·simp[Af,K,h1,q1,q2,ρ,hd,a2,hn]<;>exact h1
     ·have a3:(122:Int)<s[i]:=by omega
      simp[Af,K,h1,q1,q2,ρ,hd,a2,a3,hn]<;>exact h1
   ·right;have hd:=Wv ρ hb (by omega);have hn:lD s=false:=by simp only[lD,ahz];exact⟨s[i],cL ρ,by simp;omega⟩
    have a2:¬((Utf8.decode ⟨(s.map UInt8.ofNat).toArray⟩ i).1:Int)<97:=by omega
    have a3:(122:Int)<(Utf8.decode ⟨(s.map UInt8.ofNat).toArray⟩ i).1:=by omega
    simp[Af,K,h1,q1,q2,ρ,a2,a3,hn]<;>exact h1
  ·right;have:i=s.length:=by omega
   subst this;have hy:lD s=true:=by simp only[lD,List.all_eq_true];intro b hb;obtain⟨j,hj,rfl⟩:=vr hb;have:=q3 j hj hj;simp;omega
   simp[Af,K,h1,q1,q2,hy]<;>exact h1
 ·have fF:s2.mem= {ε:=m.ε,θ:=[]}:=h1;simp[h2,fF]
theorem f65(cn:χ)(kQ:aJ cn)(ss:List (List Nat))(t:List Nat)(hlen:ss.length<1000000000000)(m:Mem):kf u 65 [nj cn ss,.str t] m=some (.bool (ss.contains t),m):=by
 have e:=f85 (u:=u) cn kQ ss t hlen;refine bD (g:=Gq) rfl rfl rfl ?_;simp only[ay,aA,PR kQ,exp,Gq,Pa];cases hf:ss.findIdx? (fun x=>x==t)with
 |none=>
  have hc:ss.contains t=false:=by
   rw[vo]at hf;cases h:ss.contains t with
   |false=>rfl
   |true=>
    rw[yP]at h
    have:=hf t h;simp at this
  rw[hc];simp[e,placeOf,hf]
 |some i=>
  have hc:ss.contains t=true:=by
   rw[sZ]at hf;obtain⟨h1,h2,_⟩:=hf;rw[yP];have:ss[i]=t:=by simpa using h2
   rw[<-this];exact cL h1
  have:(0:Int)<=(i:Int):=by omega
  rw[hc];simp[e,placeOf,hf,this]
theorem zB:(C u).gl 0= .ref [nj .any bu]:=by rfl
theorem Gt:(C u).gl 1= .ref [nj .any fH]:=by rfl
theorem f113(s:List Nat)(hs:cX s)(m:Mem):kf u 113 [.str s] m=some (.bool (jM s),m):=by
 have e1:=f178 (u:=u) s hs;have e2:=f65 (u:=u) .any (.inr rfl) bu s (by decide);have e3:=f65 (u:=u) .any (.inr rfl) fH s (by decide);refine bD (g:=EH) rfl rfl rfl ?_;simp only[ay,aA,exp,EH,NS];unfold jM;generalize bu.contains s=bg at*;generalize fH.contains s=bk at*;by_cases a1:0<s.length
 ·by_cases a2:s.length<=8
  ·have qx:(0:Int)<(s.length:Int):=by omega
   have vw:(s.length:Int)<=8:=by omega
   cases a3:lD s with
   |false=>simp[e1,e2,e3,zB,Gt,a1,a2,qx,vw,a3]
   |true=>cases bg<;>simp[e1,e2,e3,zB,Gt,a1,a2,qx,vw,a3]
  ·have qx:(0:Int)<(s.length:Int):=by omega
   have vw:¬(s.length:Int)<=8:=by omega
   simp[e1,e2,e3,zB,Gt,a1,a2,qx,vw]
 ·have qx:¬(0:Int)<(s.length:Int):=by omega
  simp[e1,e2,e3,zB,Gt,a1,qx]
theorem Ta(may:List Nat->Bool)(no:Int)(l:List η):η.parts may no l=first (η.part may no) l:=by
 induction l with
 |nil=>rfl
 |cons a l ih=>simp only[η.parts,first,ih]
theorem Em{n:Nat}{k:Bool}{c:χ}(hc:aJ c){l:List η}(h:η.c7 l):exp n k (.list c (η.Δ l))= .list c (η.Δ l):=by
 have:bn n k (η.Δ l)=η.Δ l:=by rw[fo,η.eo,c6];exact dt fun x hx=>η.ep n k x (η.gO h x hx)
 simp only[exp,fb hc,this]
theorem agf{l:List η}(h:η.Strs l):∀x∈l,x.vu:=by
 induction l with
 |nil=>intro x hx;cases hx
 |cons a l ih=>
  intro x hx
  rcases List.mem_cons.1 hx with rfl|hx
  ·exact h.1
  ·exact ih h.2 x hx
def Fix(n:Nat)(fv:AV):Prop:=∀k b,n<=k->exp k b fv=fv
def kW(u:Nat)(B:List κ)(fv:AV)(args:List AV)(r:AV):Prop:=∀ext T,aU (C u) fv args {ε:=B++ext,θ:=T}=some (r,{ε:=B++ext,θ:=T})
theorem f177{B:List κ}{fv:AV}{F:η->Int}(hf:Fix B.length fv)(c:χ)(hc:aJ c)(l:List η)(hl:η.c7 l)(hlen:l.length<1000000000000)
  (h:∀x∈l,kW u B fv [x.av] (.int .i64 (F x))):kW u B (.fn (.func 177) [] []) [.list c (η.Δ l),fv] (.int .i64 (first F l)):=by
 intro ext T;refine bD (g:=E6) rfl rfl rfl ?_;simp only[ay,aA,Em hc hl,hf _ false (show B.length<=(B++ext).length by simp),E6,N9];let K:St->Prop:=fun st=>ζ st.env 1=fv/\st.mem= {ε:=B++ext,θ:=[]};refine ω (fun st=>K st/\ζ st.env 0= .list c (η.Δ l)) (by simp[K]) fun s1 ⟨⟨h1,h2⟩,h3⟩=>?_;refine bc (fun st=>K st/\first F l=0) ?_ fun s2 ⟨⟨h1,h2⟩,h3⟩=>?_
 ·let I:Nat->St->Prop:=fun i st=>K st/\ζ st.env 8= .list c (η.Δ l)/\ζ st.env 9= .int .i64 l.length/\ζ st.env 10= .int .i64 i/\∀j (hj:j<l.length),j<i->F l[j]=0;refine ω (I 0) (by simp[I,K,h1,h2,h3,mm]) fun s4 hI=>?_;refine μ.block (μ.loop (I:=I) l.length hI fun i st hi ψ=>?_);obtain⟨⟨h1,h2⟩,q1,q2,q3,q4⟩:=ψ;rcases bP i l.length with ρ|cG
  ·have hw:a_ .i64 ((i:Int)+1)=(i:Int)+1:=wrap_i64 (by omega) (by omega);have hg:=yU l i ρ;have hx:=h _ (cL ρ) ext [];by_cases hz:F l[i]=0
   ·left;refine⟨ρ,?_⟩;rw[hz]at hx;have q5:=tu (P:=fun j=>∀hj:j<l.length,F l[j]=0) (n:=l.length) (fun j a b c=>q4 j c b) (fun _=>hz);generalize l[i]=y at hg hx;obtain⟨k',n',s',c2,l'⟩:=y;simp only[η.av]at hg hx;simp[I,K,Hi,h1,h2,q1,q2,q3,ρ,hg,hx,hw,mm];exact fun j hj jg=>q5 j hj jg hj
   ·right;have pD:=zk ρ q4 hz;rw[pD];have e1:=bne_true hz;generalize l[i]=y at hg hx hz e1;obtain⟨k',n',s',c2,l'⟩:=y;simp only[η.av]at hg hx;simp[K,Hi,h1,h2,q1,q2,q3,ρ,hg,hx,e1,mm]
  ·right;have:i=l.length:=by omega
   subst this;have hz:=zj (f:=F) fun j hj=>q4 j hj hj;simp[K,Hi,h1,h2,q1,q2,q3,hz]
 ·simp[h1,h2,h3]
def mG(B:List κ)(l0:AV)(no:Int):List κ:=B++[.cells [l0],.cells [.int .i64 no],.cells [.fn (.func 175) [] [.ν B.length 0,.ν (B.length+1) 0,.ν (B.length+2) 0]]]
theorem RD(B:List κ)(l0:AV)(no:Int):(mG B l0 no).length=B.length+3:=by simp[mG]
theorem f175(B:List κ)(l0:AV)(no:Int)(may:List Nat->Bool)(tI:∀s,cX s->kW u B l0 [.str s] (.bool (may s)))(x:η):x.Ok->x.vu->x.cnt<1000000000000→
  kW u (mG B l0 no) (.fn (.func 175) [] [.ν B.length 0,.ν (B.length+1) 0,.ν (B.length+2) 0]) [x.av] (.int .i64 (x.part may no)):=by
 refine η.jY (Q:=fun x=>x.Ok->x.vu->x.cnt<1000000000000->kW u (mG B l0 no) (.fn (.func 175) [] [.ν B.length 0,.ν (B.length+1) 0,.ν (B.length+2) 0]) [x.av] (.int .i64 (x.part may no))) (fun k n s c l ih ab pR nF=>?_) x;intro ext T;simp only[η.vu]at pR;simp only[η.cnt]at nF;have jU:=η.Bg l;have hlen:(mG B l0 no++ext).length=B.length+3+ext.length:=by simp[RD]
 have a0:B.length<B.length+3+ext.length:=by omega
 have a1:B.length+1<B.length+3+ext.length:=by omega
 have a2:B.length+2<B.length+3+ext.length:=by omega
 have d0:(mG B l0 no++ext)[B.length]?=some (.cells [l0]):=by simp[mG]
 have d1:(mG B l0 no++ext)[B.length+1]?=some (.cells [.int .i64 no]):=by simp[mG]
 have d2:(mG B l0 no++ext)[B.length+2]?=some (.cells [.fn (.func 175) [] [.ν B.length 0,.ν (B.length+1) 0,.ν (B.length+2) 0]]):=by simp[mG]
 have eu:=fun m=>f176 (u:=u) k n s c l m ab;have hm:=tI s pR.1 ([.cells [l0],.cells [.int .i64 no],.cells [.fn (.func 175) [] [.ν B.length 0,.ν (B.length+1) 0,.ν (B.length+2) 0]]]++ext) [];have ly:aU (C u) l0 [.str s] {ε:=mG B l0 no++ext,θ:=[]}=some (.bool (may s),{ε:=mG B l0 no++ext,θ:=[]}):=by simpa[mG]using hm
 have sc:Fix (mG B l0 no).length (.fn (.func 175) [] [.ν B.length 0,.ν (B.length+1) 0,.ν (B.length+2) 0]):=by intro kk b hk;rw[RD]at hk;simp[exp,bn,Fn.below];omega
 have xJ:=f177 (u:=u) sc c ab.1 l ab.2 (by omega) (fun y hy=>ih y hy (η.gO ab.2 y hy) (agf pR.2 y hy) (by have:=η.zb hy;omega)) ext [];rw[<-Ta]at xJ;refine rN (g:=E5) rfl rfl rfl ?_;have dL:([]++[(η.mk k n s c l).av]++[AV.ν B.length 0,.ν (B.length+1) 0,.ν (B.length+2) 0]).map (exp (mG B l0 no++ext).length false)=[(η.mk k n s c l).av,AV.ν B.length 0,.ν (B.length+1) 0,.ν (B.length+2) 0]:=by simp only[cI,eO,ay,aA,η.ep _ _ _ ab,exp,hlen,a0,a1,a2,if_true]
 rw[dL];simp only[E5,c175,η.part];simp only[η.av]at eu⊢;generalize mG B l0 no++ext=BB at*;by_cases kS:gr k n l.length=0
 ·rw[kS]at eu;by_cases eF:k=2
  ·subst eF;cases nH:may s with
   |true=>
    rw[nH]at ly
    simp[eu,d0,d1,d2,ly,xJ,kS]
   |false=>
    rw[nH]at ly
    simp[eu,d0,d1,d2,ly,xJ,kS]
  ·simp[eu,d0,d1,d2,ly,xJ,kS,eF,eC eF]
 ·simp[eu,d0,d1,d2,ly,xJ,kS,bne_true kS]
theorem f112{B:List κ}{F:Fn}{fa fc:List AV}{may:List Nat->Bool}(no:Int)(sc:Fix B.length (.fn F fa fc))(oT:fa.map φ=fa)(lA:fc.map φ=fc)(tI:∀s,cX s->kW u B (.fn F fa fc) [.str s] (.bool (may s)))(x:η)(ab:x.Ok)(pR:x.vu)(nF:x.cnt<1000000000000):
  kW u B (.fn (.func 112) [] []) [x.av,.fn F fa fc,.int .i64 no] (.int .i64 (x.err may no)):=by
 intro ext T;have bh:=fun m=>f117 (u:=u) x ab nF m;have ZM:∀s,cX s->kW u (B++ext) (.fn F fa fc) [.str s] (.bool (may s)):=fun s hs e t=>by have:=tI s hs (ext++e) t;rwa[<-List.append_assoc]at this
 have cK:=f175 (u:=u) (B++ext) (.fn F fa fc) no may ZM x ab pR nF [] [];refine bD (g:=EG) rfl rfl rfl ?_;simp only[ay,aA,η.ep _ _ _ ab,sc _ false (show B.length<=(B++ext).length by simp)];simp only[exp,EG,NR];generalize B++ext=BB at*;obtain⟨k,n,s,c,l⟩:=x;simp only[η.av]at bh cK⊢;by_cases h9:9<(η.mk k n s c l).cnt
 ·have xC:(9:Int)<((η.mk k n s c l).cnt:Int):=by omega
  simp[bh,Mem.push,Mem.φ,φ,fO,oT,lA,η.err,h9,xC]
 ·have xC:¬(9:Int)<((η.mk k n s c l).cnt:Int):=by omega
  simp only[mG,dW]at cK;simp[bh,Mem.push,Mem.φ,φ,fO,cW,oT,lA,η.err,h9,xC,Mem.put,bp,lo,Fn.below,cK]
end Go.ah.Tz
