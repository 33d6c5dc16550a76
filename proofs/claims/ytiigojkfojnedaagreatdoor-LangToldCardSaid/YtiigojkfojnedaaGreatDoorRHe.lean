import Derived.Test.YtiigojkfojnedaaGreatDoorRVa
set_option linter.all false
set_option maxRecDepth 100000
set_option maxHeartbeats 8000000
open List renaming map_map->cT,map_congr_left->dh,map_cons->ax,map_nil->aI,map_append->kQ,getElem_mem->db,take_of_length_le->fe,take_length->pa,nil_append->bB,append_nil->dM,take_succ_eq_append_getElem->xJ,foldl_append->akx,append_assoc->bQ,cons_append->cy,findIdx?_eq_some_iff_getElem->tD,getElem?_eq_getElem->dp,mem_cons->cB,nodup_cons->xH,mem_map->fb,getElem?_eq_none->gW,getElem?_append_left->d_,findIdx?_eq_none_iff->vV
open Go.IntKind renaming wrap->bN
open Nat renaming lt_or_ge->di,zero_add->lN
namespace Go.Δ.Tz
open Go.Δ
variable{u:Nat}
attribute [local simp] exec ef dR e_ aJ dF fE eR br fM bR iL iS jm jE AV.cells newVar jA rd wr iu single dk cD ff eF μ cF RV.get cK fV kT
def _root_.Go.Δ.δ.cb:δ->τ
 | .mk _ _ _ _ _ _ _ c _ _ _=>c
def _root_.Go.Δ.δ.ce:δ->τ
 | .mk _ _ _ _ _ _ _ _ _ c _=>c
def _root_.Go.Δ.δ.blocks(x:δ):List (τ×List δ):=if bz x.kind then[(x.cb,x.body),(x.ce,x.els)]else if bf x.kind then[(x.cb,x.body)]else[]
def fp(p:τ×List δ):AV:= .list p.1 (δ.χ p.2)
def iG(x:δ):AV:= .list (if bf x.kind then .any else .nil) (x.blocks.map fp)
theorem ρ.yf(bs:List θ)(n:Nat)(p:ρ)(h:p.Ok):aQ bs n 8 p.av=p.av:=by
 have:(p.ix.map ζ.av).map (aQ bs n 8)=p.ix.map ζ.av:=by rw[cT];exact dh fun x hx=>ζ.yf bs n 8 x (h.2.2 x hx).1
 simp only[ρ.av,FM,ax,aI,CI,fq h.2.1,this,tQ]
theorem ζ.Sb(bs:List θ)(n:Nat)(x:ζ)(h:x.Ok):x.four.map (aQ bs n 8)=x.four:=by have:=ζ.yf bs n 8 x h;rw[ζ.fm,FM]at this;simpa using this
theorem δ.FN(bs:List θ)(n:Nat)(x:δ):x.Ok->x.cells.map (aQ bs n 8)=x.cells:=by
 refine δ.jd (Q:=fun x=>x.Ok->x.cells.map (aQ bs n 8)=x.cells) (fun kk g nm cp pl size to cb body ce els h1 h2 h=>?_) x;simp only[δ.Ok]at h;obtain⟨-,k1,k2,k3,k4,k5,k6,k7,k8⟩:=h;have e1:(pl.map ρ.av).map (aQ bs n 8)=pl.map ρ.av:=by rw[cT];exact dh fun x hx=>ρ.yf bs n x (k2 x hx)
 have go:∀l:List δ,δ.cm l->(∀y∈l,y.Ok->y.cells.map (aQ bs n 8)=y.cells)->(δ.χ l).map (aQ bs n 8)=δ.χ l:=by intro l hl hy;rw[δ.dW,cT];refine dh fun y hm=>?_;simp only[Function.comp,δ.av,FM,hy y hm (δ.gK hl y hm)]
 simp only[δ.cells,kQ,ax,aI,CI,fq k1,fq k5,fq k7,e1,ζ.Sb _ _ _ k3.1,ζ.Sb _ _ _ k4.1,go body k6 h1,go els k8 h2,fV,tQ]
theorem Lf(bs:List θ)(n:Nat){c:τ}(hc:bm c){l:List δ}(h:δ.cm l):aQ bs n 8 (.list c (δ.χ l))= .list c (δ.χ l):=by
 have:(δ.χ l).map (aQ bs n 8)=δ.χ l:=by rw[δ.dW,cT];exact dh fun y hy=>by simp only[Function.comp,δ.av,FM,δ.FN bs n y (δ.gK h y hy)]
 rw[CI,fq hc,this]
theorem δ.Kd{x:δ}(h:x.Ok):bm x.cb/\bm x.ce:=by obtain⟨k,g,nm,cp,pl,size,to,cb,body,ce,els⟩:=x;simp only[δ.Ok]at h;exact⟨h.2.2.2.2.2.1,h.2.2.2.2.2.2.2.1⟩
theorem f108(x:δ)(hx:x.Ok)(m:Mem):kf u 108 [x.av] m=some (iG x,m):=by
 have dm:=δ.Oj hx;have yM:=δ.Kd hx;refine dt (g:=FP) rfl rfl rfl ?_;simp only[ax,aI,δ.jI _ _ _ hx,FP,P5];obtain⟨k,g,nm,cp,pl,⟨k1,n1,s1,c1,l1⟩,⟨k2,n2,s2,c2,l2⟩,cb,body,ce,els⟩:=x;simp only[δ.body,δ.els,δ.cb,δ.ce]at dm yM;have z1:∀bs n,aQ bs n 8 (.list .full [.list cb (δ.χ body)])= .list .any [.list cb (δ.χ body)]:=fun bs n=>by rw[CI];simp only[ax,aI,Lf bs n yM.1 dm.1];rfl
 have z2:∀bs n,aQ bs n 8 (.list .full [.list cb (δ.χ body),.list ce (δ.χ els)])= .list .any [.list cb (δ.χ body),.list ce (δ.χ els)]:=fun bs n=>by rw[CI];simp only[ax,aI,Lf bs n yM.1 dm.1,Lf bs n yM.2 dm.2];rfl
 have z0:∀bs n,aQ bs n 8 (.list .nil [])= .list .nil []:=fun bs n=>rfl;have n1:cG (δ.χ body)=δ.χ body:=by rw[fH,δ.dW,cT];exact dh fun y _=>by simp only[Function.comp,δ.av,ν,δ.zk]
 have n2:cG (δ.χ els)=δ.χ els:=by rw[fH,δ.dW,cT];exact dh fun y _=>by simp only[Function.comp,δ.av,ν,δ.zk]
 by_cases e4:k=4
 ·subst e4;simp[δ.av,δ.cells,ζ.four,δ.kind,δ.body,δ.els,δ.cb,δ.ce,δ.blocks,iG,fp,bf,bz,shaped,AV.one,Mem.ν,ν,n1,n2,z1,z2,z0]
 by_cases e8:k=8
 ·subst e8;simp[δ.av,δ.cells,ζ.four,δ.kind,δ.body,δ.els,δ.cb,δ.ce,δ.blocks,iG,fp,bf,bz,shaped,AV.one,Mem.ν,ν,n1,n2,z1,z2,z0]
 by_cases pt:k=10
 ·subst pt;simp[δ.av,δ.cells,ζ.four,δ.kind,δ.body,δ.els,δ.cb,δ.ce,δ.blocks,iG,fp,bf,bz,shaped,AV.one,Mem.ν,ν,n1,n2,z1,z2,z0]
 by_cases e7:k=7
 ·subst e7;simp[δ.av,δ.cells,ζ.four,δ.kind,δ.body,δ.els,δ.cb,δ.ce,δ.blocks,iG,fp,bf,bz,shaped,AV.one,Mem.ν,ν,n1,n2,z1,z2,z0]
 by_cases wc:k=11
 ·subst wc;simp[δ.av,δ.cells,ζ.four,δ.kind,δ.body,δ.els,δ.cb,δ.ce,δ.blocks,iG,fp,bf,bz,shaped,AV.one,Mem.ν,ν,n1,n2,z1,z2,z0]
 simp[δ.av,δ.cells,ζ.four,δ.kind,δ.body,δ.els,δ.cb,δ.ce,δ.blocks,iG,fp,bf,bz,e4,e8,pt,e7,wc,eK,z0]
theorem E_{x:δ}{p:τ×List δ}(h:p∈x.blocks):(p=(x.cb,x.body))\/(p=(x.ce,x.els)):=by
 unfold δ.blocks at h;split at h
 ·simpa using h
 ·split at h
  ·exact .inl (by simpa using h)
  ·simp at h
def lR(x d:Nat):Nat:=if x=0 then 0 else x+d-1
def re(l:List (τ×List δ)):Nat:=match l with
 |[]=>0
 |p::l=>max (δ.du p.2) (re l)
theorem ZN(x:δ):x.deep=1+re x.blocks:=by obtain⟨k,g,nm,cp,pl,size,to,cb,body,ce,els⟩:=x;simp only[δ.deep,δ.blocks,δ.kind,δ.body,δ.els,δ.cb,δ.ce];by_cases hb:bf k=true<;>by_cases he:bz k=true<;>simp[re,hb,he];exfalso;simp only[bf,bz,decide_eq_true_eq]at hb he;omega
theorem Yu(l:List (τ×List δ))(i:Nat)(h:i<l.length):re (l.take (i+1))=max (re (l.take i)) (δ.du l[i].2):=by
 induction l generalizing i with
 |nil=>simp at h
 |cons a l ih=>
  cases i with
  |zero=>simp[re]
  |succ i=>simp only[List.take_succ_cons,re,List.getElem_cons_succ,ih i (by simpa using h),Nat.max_assoc]
theorem E9{x:δ}(hx:x.Ok){p:τ×List δ}(h:p∈x.blocks):bm p.1/\δ.cm p.2/\δ.bC p.2+3<=x.wt:=by
 have h1:=δ.Kd hx;have h2:=δ.Oj hx;have h3:=δ.xB x;rcases E_ h with rfl|rfl
 ·exact⟨h1.1,h2.1,by simp only;omega⟩
 ·exact⟨h1.2,h2.2,by simp only;omega⟩
theorem f192(l:List δ):∀(c:τ),bm c->δ.cm l->∀d:Nat,0<d->δ.bC l+d<1000000000000->∀m,kf u 192 [.list c (δ.χ l),.n d] m=some (.n (lR (δ.du l) d:Nat),m):=by
 refine δ.lists (P:=fun l=>∀(c:τ),bm c->δ.cm l->∀d:Nat,0<d->δ.bC l+d<1000000000000->∀m,kf u 192 [.list c (δ.χ l),.n d] m=some (.n (lR (δ.du l) d:Nat),m)) (fun l ih c hc aj d hd hw m=>?_) l;refine dt (g:=Gm) rfl rfl rfl ?_;simp only[ax,aI,rp hc aj];simp only[exp,Gm,Qq];have wR:=δ.zM l;let K:St->Prop:=fun st=>st.e 1= .n d/\st.mem= {ε:=m.ε,η:=[]};refine Ψ (fun st=>K st/\st.e 0= .list c (δ.χ l)) (by simp[K]) fun s1 ⟨⟨h1,h2⟩,h3⟩=>?_;refine Ψ (fun st=>K st/\st.e 0= .list c (δ.χ l)/\st.e 5= .n 0) (by simp[K,h1,h2,h3]) fun s1 ⟨⟨h1,h2⟩,h3,h4⟩=>?_;refine bS (fun st=>K st/\st.e 5= .n (lR (δ.du l) d:Nat)) ?_ fun s2 ⟨⟨h1,h2⟩,h3⟩=>by simp[h2,h3]
 let I:Nat->St->Prop:=fun i st=>K st/\st.e 10= .list c (δ.χ l)/\st.e 11= .n l.length/\st.e 12= .n i/\st.e 5= .n (lR (δ.du (l.take i)) d:Nat);refine Ψ (I 0) (by simp[I,K,h1,h2,h3,h4,uF,δ.du,lR]) fun s4 hI=>?_;refine μ.block (μ.upto (I:=I) l.length hI (fun i st ψ Ω=>?_) (fun st Ω=>?_))
 ·obtain⟨⟨h1,h2⟩,q1,q2,q3,q4⟩:=Ω;have mE:bN .i64 ((i:Int)+1)=(i:Int)+1:=wrap_i64 (by omega) (by omega);have Nb:bN .i64 ((d:Int)+1)=(d:Int)+1:=wrap_i64 (by omega) (by omega);have hg:=I7 l i ψ;have hm:l[i]∈l:=db ψ;have rI:=δ.gK aj _ hm;have nT:=δ.kP hm;have rm:=f108 (u:=u) l[i] rI;have t2:=ZQ l i ψ;have hdb:=ZN l[i];have eA:=δ.ll l[i];have qx:l[i].cells.take 14=l[i].cells:=fe (by omega);have gm:∀p∈l[i].blocks,∀m,kf u 192 [.list p.1 (δ.χ p.2),.n ((d:Int)+1)] m=some (.n (lR (δ.du p.2) (d+1):Nat),m):=by
   intro p hp m;have hf:=E9 rI hp;rcases E_ hp with rfl|rfl
   ·dsimp only at hf;clear Nb mE;simpa using(ih _ hm).1 _ hf.1 hf.2.1 (d+1) (by omega) (by omega) m
   ·dsimp only at hf;clear Nb mE;simpa using(ih _ hm).2 _ hf.1 hf.2.1 (d+1) (by omega) (by omega) m
  generalize l[i]=y at*;simp only[δ.av]at hg rm;have Hl:∀j (hj:j<y.blocks.length),δ.du (y.blocks[j]).2+3<=y.wt:=fun j hj=>by have h5:=(E9 rI (db hj)).2.2;have h6:=(δ.Kp (y.blocks[j]).2).2;omega
  have ek:y.blocks.length<=2:=by unfold δ.blocks;split<;>(try split)<;>simp
  let J:St->Prop:=fun st=>K st/\st.e 10= .list c (δ.χ l)/\st.e 11= .n l.length/\st.e 12= .n i;let d0:=lR (δ.du (l.take i)) d;refine Ψ (fun st=>J st/\st.e 5= .n d0/\st.e 13= .bool true) (by simp[J,d0,K,h1,h2,q1,q2,q3,q4,ψ]) fun s5 ⟨⟨⟨h1,h2⟩,q1,q2,q3⟩,q4,q5⟩=>?_;refine Ψ (fun st=>J st/\st.e 5= .n d0) (by simp[J,K,h1,h2,q1,q2,q3,q4,q5]) fun s5 ⟨⟨⟨h1,h2⟩,q1,q2,q3⟩,q4⟩=>?_;refine bS (fun st=>J st/\st.e 5= .n (lR (δ.du (l.take (i+1))) d:Nat)) ?_ fun s6 ⟨⟨⟨h1,h2⟩,q1,q2,q3⟩,q4⟩=>by simp[I,K,h1,h2,q1,q2,q3,q4,mE]
  refine μ.block ?_;let J2:St->Prop:=fun st=>J st/\∃v,st.e 7= .ak 7 v 0/\st.q 7=some (v,.cells y.cells);refine Ψ (fun st=>J2 st/\st.e 5= .n d0) (by simp[J2,J,K,h1,h2,q1,q2,q3,q4,hg,eA,qx,ψ,uF]) fun s5 ⟨⟨⟨⟨h1,h2⟩,q1,q2,q3⟩,v,q5,q6⟩,q4⟩=>?_;refine Ψ (fun st=>J2 st/\st.e 5= .n (max d0 d:Nat)) (by
   simp[J2,J,K,h1,h2,q1,q2,q3,q4,q5,q6]
   split<;>omega) fun s5 ⟨⟨⟨⟨h1,h2⟩,q1,q2,q3⟩,v,q5,q6⟩,q4⟩=>?_
  let L2:Nat->St->Prop:=fun j st=>J st/\st.e 20=iG y/\st.e 21= .n y.blocks.length/\st.e 22= .n j/\st.e 5= .n (max (max d0 d) (lR (re (y.blocks.take j)) (d+1)):Nat);refine Ψ (L2 0) (by
   simp only[iG]at rm
   simp[L2,J,K,h1,h2,q1,q2,q3,q4,q5,q6,rm,eA,qx,iG,re,lR]) fun s6 hL=>?_
  have tV:max (max d0 d) (lR (re y.blocks) (d+1))=lR (δ.du (l.take (i+1))) d:=by
   rw[t2,hdb];simp only[d0,lR]
   (repeat' split)<;>omega
  refine μ.block (μ.upto (I:=L2) y.blocks.length hL (fun j st fG Ω=>?_) (fun st Ω=>?_))
  ·obtain⟨⟨⟨h1,h2⟩,q1,q2,q3⟩,z1,z2,z3,z4⟩:=Ω;have rM:bN .i64 ((j:Int)+1)=(j:Int)+1:=wrap_i64 (by omega) (by omega);have hb:=gm _ (db fG);have C2:=Yu y.blocks j fG;simp only[iG,fp]at z1;simp[L2,J,K,NA,h1,h2,q1,q2,q3,z1,z2,z3,z4,fG,rM,Nb,hb,iG,fp];have jK:lR (re (y.blocks.take (j+1))) (d+1)=max (lR (re (y.blocks.take j)) (d+1)) (lR (δ.du (y.blocks[j]).2) (d+1)):=by rw[C2];simp only[lR];(repeat' split)<;>omega
   rw[jK];split<;>omega
  ·obtain⟨⟨⟨h1,h2⟩,q1,q2,q3⟩,z1,z2,z3,z4⟩:=Ω;simp only[pa,tV]at z4;simp[J,K,NA,h1,h2,q1,q2,q3,z1,z2,z3,z4]
 ·obtain⟨⟨h1,h2⟩,q1,q2,q3,q4⟩:=Ω;simp only[pa]at q4;simp[K,U8,h1,h2,q1,q2,q3,q4]
def o7(u:Nat){σ:Type}(Bk:σ->List θ)(fv:AV)(x:AV)(f:σ->σ)(r:Bool):Prop:=∀s ext T,ab (C u) fv [x] {ε:=Bk s++ext,η:=T}=some (.bool r,{ε:=Bk (f s)++ext,η:=T})
theorem f283{σ:Type}{Bk:σ->List θ}{N:Nat}(hN:∀s,(Bk s).length=N){fv:AV}{f:δ->σ->σ}(hf:Fix N fv)(c:τ)(hc:bm c)(l:List δ)(hl:δ.cm l)(hlen:l.length<1000000000000)
  (h:∀x∈l,o7 u Bk fv x.av (f x) false):∀s ext T,kf u 283 [.list c (δ.χ l),fv] {ε:=Bk s++ext,η:=T}=some (.n (-1),{ε:=Bk (l.foldl (fun s x=>f x s) s)++ext,η:=T}):=by
 intro s ext T;have e0:(Bk s++ext).length=N+ext.length:=by simp[hN]
 refine ku (g:=GV) rfl rfl rfl (by simp[hN]) ?_;simp only[bB,dM,ax,aI,rp hc hl,hf _ false (show N<=(Bk s++ext).length by omega),GV,QQ];let K:σ->St->Prop:=fun s st=>st.e 1=fv/\st.e 0= .list c (δ.χ l)/\st.mem= {ε:=Bk s++ext,η:=[]};refine Ψ (K s) (by simp[K]) fun s1 ⟨h1,h2,h3⟩=>?_;refine bS (K (l.foldl (fun s x=>f x s) s)) ?_ fun s2 ⟨h1,h2,h3⟩=>?_
 ·let I:Nat->St->Prop:=fun i st=>K ((l.take i).foldl (fun s x=>f x s) s) st/\st.e 7= .n l.length/\st.e 8= .n i;refine Ψ (I 0) (by simp[I,K,h1,h2,h3,uF]) fun s4 hI=>?_;refine μ.block (μ.loop (I:=I) l.length hI fun i st hi Ω=>?_);obtain⟨⟨h1,h2,h3⟩,q1,q2⟩:=Ω;rcases di i l.length with ψ|eH
  ·left;refine⟨ψ,?_⟩;have hw:bN .i64 ((i:Int)+1)=(i:Int)+1:=wrap_i64 (by omega) (by omega);have hg:=I7 l i ψ;have hx:=h _ (db ψ) ((l.take i).foldl (fun s x=>f x s) s) ext [];have ht:(l.take (i+1)).foldl (fun s x=>f x s) s=f l[i] ((l.take i).foldl (fun s x=>f x s) s):=by rw[xJ ψ,akx];rfl
   have eA:=δ.ll l[i];have qx:l[i].cells.take 14=l[i].cells:=fe (by omega);simp only[δ.av]at hg hx;simp[I,K,NG,h1,h2,h3,q1,q2,ψ,hg,hx,hw,uF,eA,qx,ht]
  ·right;have:i=l.length:=by omega
   subst this;simp only[pa]at h3;simp[K,NG,h1,h2,h3,q1,q2]
 ·simp[h1,h2,h3]
theorem f247{σ:Type}{Bk:σ->List θ}{N:Nat}(hN:∀s,(Bk s).length=N){fv:AV}{f:δ->σ->σ}(hf:Fix N fv)(c:τ)(hc:bm c)(l:List δ)(hl:δ.cm l)(hlen:l.length<1000000000000)
  (h:∀x∈l,o7 u Bk fv x.av (f x) false):∀s ext T,kf u 247 [.list c (δ.χ l),fv] {ε:=Bk s++ext,η:=T}=some (.bool false,{ε:=Bk (l.foldl (fun s x=>f x s) s)++ext,η:=T}):=by
 intro s ext T;have e0:(Bk s++ext).length=N+ext.length:=by simp[hN]
 have hx:=f283 (u:=u) hN hf c hc l hl hlen h s ext [];refine ku (g:=GJ) rfl rfl rfl (by simp[hN]) ?_;simp only[bB,dM,ax,aI,rp hc hl,hf _ false (show N<=(Bk s++ext).length by omega),GJ,QG];simp[hx]
theorem f208{σ:Type}{Bk:σ->List θ}{N:Nat}(hN:∀s,(Bk s).length=N){F:Fn}{fa fc:List AV}{f:δ->σ->σ}(hf:Fix N (.fn F fa fc))(pJ:fa.map ν=fa)(mX:fc.map ν=fc)(c:τ)(hc:bm c)(l:List δ)(hl:δ.cm l)(hlen:l.length<1000000000000)
  (h:∀x∈l,o7 u Bk (.fn F fa fc) x.av (f x) true):∀s ext T,kf u 208 [.list c (δ.χ l),(.fn F fa fc)] {ε:=Bk s++ext,η:=T}=some (.bool true,{ε:=Bk (l.foldl (fun s x=>f x s) s)++ext,η:=T}):=by
 intro s ext T;have e0:(Bk s++ext).length=N+ext.length:=by simp[hN]
 let jN:σ->List θ:=fun s=>Bk s++ext++[.cells [.fn F fa fc]];have yk:∀s,(jN s).length=N+ext.length+1:=fun s=>by simp[jN,hN];omega
 have nJ:Fix (N+ext.length+1) (.fn (.func 248) [] [.κ (N+ext.length) 0]):=by intro k b hk;simp[exp,aX,Fn.below];omega
 have LY:∀x∈l,o7 u jN (.fn (.func 248) [] [.κ (N+ext.length) 0]) x.av (f x) false:=by
  intro x hx s ext' T';have hd:(jN s++ext')[N+ext.length]?=some (.cells [.fn F fa fc]):=by
   have:N+ext.length=(Bk s++ext).length:=by simp[hN]
   simp only[jN,bQ,this];simp
  have dY:=h x hx s (ext++[.cells [.fn F fa fc]]++ext') [];have eA:=δ.ll x;refine ku (g:=GK) rfl rfl rfl (by simp[yk]) ?_;have a0:N+ext.length<(jN s++ext').length:=by simp[yk];omega
  simp only[bB,cy,ax,aI,δ.jI _ _ _ (δ.gK hl x hx),exp,a0,if_true,GK,QH];have e1:Bk s++(ext++[.cells [.fn F fa fc]]++ext')=jN s++ext':=by simp[jN]
  have e2:Bk (f x s)++(ext++[.cells [.fn F fa fc]]++ext')=jN (f x s)++ext':=by simp[jN]
  rw[e1,e2]at dY;simp only[δ.av]at dY⊢;have qx:x.cells.take 14=x.cells:=fe (by omega);simp[eA,hd,dY,qx]
 have hx:=f247 (u:=u) yk nJ c hc l hl hlen LY s [] [];simp only[jN,dM,bQ]at hx;refine ku (g:=Gu) rfl rfl rfl (by simp[hN]) ?_;simp only[bB,dM,ax,aI,rp hc hl,hf _ false (show N<=(Bk s++ext).length by omega),Gu,c208];simp[Mem.push,Mem.ν,ν,fH,pJ,mX,hN,hx]
theorem KV{n:Nat}{k:Bool}{cc:τ}(hc:bm cc){l:List (τ×List δ)}(h:∀p∈l,bm p.1/\δ.cm p.2):exp n k (.list cc (l.map fp))= .list cc (l.map fp):=by
 have:aX n k (l.map fp)=l.map fp:=by rw[ft,cT];exact dh fun p hp=>rp (h p hp).1 (h p hp).2
 simp only[exp,fq hc,this]
theorem f282{σ:Type}{Bk:σ->List θ}{N:Nat}(hN:∀s,(Bk s).length=N){fv:AV}{f:τ×List δ->σ->σ}(hf:Fix N fv)(c:τ)(hc:bm c)(l:List (τ×List δ))(hl:∀p∈l,bm p.1/\δ.cm p.2)(hlen:l.length<1000000000000)
  (h:∀x∈l,o7 u Bk fv (fp x) (f x) false):∀s ext T,kf u 282 [.list c (l.map fp),fv] {ε:=Bk s++ext,η:=T}=some (.n (-1),{ε:=Bk (l.foldl (fun s x=>f x s) s)++ext,η:=T}):=by
 intro s ext T;have e0:(Bk s++ext).length=N+ext.length:=by simp[hN]
 refine ku (g:=GU) rfl rfl rfl (by simp[hN]) ?_;simp only[bB,dM,ax,aI,KV hc hl,hf _ false (show N<=(Bk s++ext).length by omega),GU,QP];let K:σ->St->Prop:=fun s st=>st.e 1=fv/\st.e 0= .list c (l.map fp)/\st.mem= {ε:=Bk s++ext,η:=[]};refine Ψ (K s) (by simp[K]) fun s1 ⟨h1,h2,h3⟩=>?_;refine bS (K (l.foldl (fun s x=>f x s) s)) ?_ fun s2 ⟨h1,h2,h3⟩=>by simp[h1,h2,h3]
 let I:Nat->St->Prop:=fun i st=>K ((l.take i).foldl (fun s x=>f x s) s) st/\st.e 7= .n l.length/\st.e 8= .n i;refine Ψ (I 0) (by simp[I,K,h1,h2,h3]) fun s4 hI=>?_;refine μ.block (μ.loop (I:=I) l.length hI fun i st hi Ω=>?_);obtain⟨⟨h1,h2,h3⟩,q1,q2⟩:=Ω;rcases di i l.length with ψ|eH
 ·left;refine⟨ψ,?_⟩;have hw:bN .i64 ((i:Int)+1)=(i:Int)+1:=wrap_i64 (by omega) (by omega);have hx:=h _ (db ψ) ((l.take i).foldl (fun s x=>f x s) s) ext [];have ht:(l.take (i+1)).foldl (fun s x=>f x s) s=f l[i] ((l.take i).foldl (fun s x=>f x s) s):=by rw[xJ ψ,akx];rfl
  simp only[fp]at hx h2;simp[I,K,NF,h1,h2,h3,q1,q2,ψ,hx,hw,ht,fp]
 ·right;have:i=l.length:=by omega
  subst this;simp only[pa]at h3;simp[K,NF,h1,h2,h3,q1,q2]
theorem f245{σ:Type}{Bk:σ->List θ}{N:Nat}(hN:∀s,(Bk s).length=N){fv:AV}{f:τ×List δ->σ->σ}(hf:Fix N fv)(c:τ)(hc:bm c)(l:List (τ×List δ))(hl:∀p∈l,bm p.1/\δ.cm p.2)(hlen:l.length<1000000000000)
  (h:∀x∈l,o7 u Bk fv (fp x) (f x) false):∀s ext T,kf u 245 [.list c (l.map fp),fv] {ε:=Bk s++ext,η:=T}=some (.bool false,{ε:=Bk (l.foldl (fun s x=>f x s) s)++ext,η:=T}):=by
 intro s ext T;have e0:(Bk s++ext).length=N+ext.length:=by simp[hN]
 have hx:=f282 (u:=u) hN hf c hc l hl hlen h s ext [];refine ku (g:=GH) rfl rfl rfl (by simp[hN]) ?_;simp only[bB,dM,ax,aI,KV hc hl,hf _ false (show N<=(Bk s++ext).length by omega),GH,QE];simp[hx]
theorem f206{σ:Type}{Bk:σ->List θ}{N:Nat}(hN:∀s,(Bk s).length=N){F:Fn}{fa fc:List AV}{f:τ×List δ->σ->σ}(hf:Fix N (.fn F fa fc))(pJ:fa.map ν=fa)(mX:fc.map ν=fc)(c:τ)(hc:bm c)(l:List (τ×List δ))(hl:∀p∈l,bm p.1/\δ.cm p.2)(hlen:l.length<1000000000000)
  (h:∀x∈l,o7 u Bk (.fn F fa fc) (fp x) (f x) true):∀s ext T,kf u 206 [.list c (l.map fp),(.fn F fa fc)] {ε:=Bk s++ext,η:=T}=some (.bool true,{ε:=Bk (l.foldl (fun s x=>f x s) s)++ext,η:=T}):=by
 intro s ext T;have e0:(Bk s++ext).length=N+ext.length:=by simp[hN]
 let jN:σ->List θ:=fun s=>Bk s++ext++[.cells [.fn F fa fc]];have yk:∀s,(jN s).length=N+ext.length+1:=fun s=>by simp[jN,hN];omega
 have nJ:Fix (N+ext.length+1) (.fn (.func 246) [] [.κ (N+ext.length) 0]):=by intro k b hk;simp[exp,aX,Fn.below];omega
 have LY:∀x∈l,o7 u jN (.fn (.func 246) [] [.κ (N+ext.length) 0]) (fp x) (f x) false:=by
  intro x hx s ext' T';have hd:(jN s++ext')[N+ext.length]?=some (.cells [.fn F fa fc]):=by
   have:N+ext.length=(Bk s++ext).length:=by simp[hN]
   simp only[jN,bQ,this];simp
  have dY:=h x hx s (ext++[.cells [.fn F fa fc]]++ext') [];refine ku (g:=GI) rfl rfl rfl (by simp[yk]) ?_;have a0:N+ext.length<(jN s++ext').length:=by simp[yk];omega
  have hb:exp (jN s++ext').length false (fp x)=fp x:=rp (hl x hx).1 (hl x hx).2;simp only[bB,cy,ax,aI,hb];simp only[exp,a0,if_true,GI,QF];have e1:Bk s++(ext++[.cells [.fn F fa fc]]++ext')=jN s++ext':=by simp[jN]
  have e2:Bk (f x s)++(ext++[.cells [.fn F fa fc]]++ext')=jN (f x s)++ext':=by simp[jN]
  rw[e1,e2]at dY;simp[hd,dY]
 have hx:=f245 (u:=u) yk nJ c hc l hl hlen LY s [] [];simp only[jN,dM,bQ]at hx;refine ku (g:=Gs) rfl rfl rfl (by simp[hN]) ?_;simp only[bB,dM,ax,aI,KV hc hl,hf _ false (show N<=(Bk s++ext).length by omega),Gs,c206];simp[Mem.push,Mem.ν,ν,fH,pJ,mX,hN,hx]
mutual
def wz{σ:Type}(f:δ->σ->σ):δ->σ->σ
 | .mk k g nm cp pl size to cb body ce els,s=>if bf k then(if bz k then rq f els (rq f body (f (.mk k g nm cp pl size to cb body ce els) s))else rq f body (f (.mk k g nm cp pl size to cb body ce els) s))else f (.mk k g nm cp pl size to cb body ce els) s
def rq{σ:Type}(f:δ->σ->σ):List δ->σ->σ
 |[],s=>s
 |x::l,s=>rq f l (wz f x s)
end
theorem SL{σ:Type}(f:δ->σ->σ)(l:List δ)(s:σ):rq f l s=l.foldl (fun s x=>wz f x s) s:=by
 induction l generalizing s with
 |nil=>rfl
 |cons a l ih=>simp only[rq,List.foldl_cons,ih]
theorem aaP{σ:Type}(f:δ->σ->σ)(x:δ)(s:σ):wz f x s=x.blocks.foldl (fun s p=>rq f p.2 s) (f x s):=by obtain⟨k,g,nm,cp,pl,size,to,cb,body,ce,els⟩:=x;simp only[wz,δ.blocks,δ.kind,δ.body,δ.els,δ.cb,δ.ce];by_cases hb:bf k=true<;>by_cases he:bz k=true<;>simp[hb,he];exfalso;simp only[bf,bz,decide_eq_true_eq]at hb he;omega
section
variable{σ:Type}{Bk:σ->List θ}{N:Nat}{F:Fn}{fa fc:List AV}{f:δ->σ->σ}
def l_(Bk:σ->List θ)(n:Nat)(e0:List θ)(yv:AV):σ->List θ:=fun s=>Bk s++e0++[.cells [yv],.cells [.fn (.func 205) [] [.κ n 0,.κ (n+1) 0]]]
theorem f205(hN:∀s,(Bk s).length=N)(e0:List θ)(hf:Fix N (.fn F fa fc))(hy:∀x:δ,x.Ok->o7 u Bk (.fn F fa fc) x.av (f x) true)(x:δ):x.Ok->x.wt<1000000000000→
  o7 u (l_ Bk (N+e0.length) e0 (.fn F fa fc)) (.fn (.func 205) [] [.κ (N+e0.length) 0,.κ (N+e0.length+1) 0]) x.av (wz f x) true:=by
 have sJ:∀s,(l_ Bk (N+e0.length) e0 (.fn F fa fc) s).length=N+e0.length+2:=fun s=>by simp[l_,hN];omega
 have Mb:Fix (N+e0.length+2) (.fn (.func 205) [] [.κ (N+e0.length) 0,.κ (N+e0.length+1) 0]):=by intro k b hk;simp[exp,aX,Fn.below];omega
 have hf7:Fix (N+e0.length+2) (.fn (.func 207) [] [.κ (N+e0.length+1) 0]):=by intro k b hk;simp[exp,aX,Fn.below];omega
 have d0:∀s ext,(l_ Bk (N+e0.length) e0 (.fn F fa fc) s++ext)[N+e0.length]?=some (.cells [.fn F fa fc]):=fun s ext=>by
  have:N+e0.length=(Bk s++e0).length:=by simp[hN]
  simp only[l_,bQ,this];simp
 have d1:∀s ext,(l_ Bk (N+e0.length) e0 (.fn F fa fc) s++ext)[N+e0.length+1]?=some (.cells [.fn (.func 205) [] [.κ (N+e0.length) 0,.κ (N+e0.length+1) 0]]):=fun s ext=>by
  have h1:N+e0.length=(Bk s++e0).length:=by simp[hN]
  have h2:((Bk s++e0)++([θ.cells [.fn F fa fc],.cells [.fn (.func 205) [] [.κ (N+e0.length) 0,.κ (N+e0.length+1) 0]]]++ext))[(Bk s++e0).length+1]?=some (.cells [.fn (.func 205) [] [.κ (N+e0.length) 0,.κ (N+e0.length+1) 0]]):=by rw[List.getElem?_append_right (by omega)];simp
  simp only[l_,bQ]at h2⊢;rw[h1]at h2⊢;simpa using h2
 refine δ.jd (Q:=fun x=>x.Ok->x.wt<1000000000000->o7 u (l_ Bk (N+e0.length) e0 (.fn F fa fc)) (.fn (.func 205) [] [.κ (N+e0.length) 0,.κ (N+e0.length+1) 0]) x.av (wz f x) true) (fun k g nm cp pl size to cb body ce els h1 h2 aj hw=>?_) x;have hyx:=hy _ aj;have eA:=δ.ll (.mk k g nm cp pl size to cb body ce els);have SQ:=f108 (u:=u) _ aj;have Hv:=aaP f (.mk k g nm cp pl size to cb body ce els);have u_:=fun p hp=>E9 aj (p:=p) hp;have h7:∀p∈(δ.mk k g nm cp pl size to cb body ce els).blocks,o7 u (l_ Bk (N+e0.length) e0 (.fn F fa fc)) (.fn (.func 207) [] [.κ (N+e0.length+1) 0]) (fp p) (rq f p.2) true:=by
  intro p hp s ext T;have AN:=u_ p hp;have AT:∀y∈p.2,o7 u (l_ Bk (N+e0.length) e0 (.fn F fa fc)) (.fn (.func 205) [] [.κ (N+e0.length) 0,.κ (N+e0.length+1) 0]) y.av (wz f y) true:=by
   intro y lV;have hyw:=δ.kP lV;rcases E_ hp with rfl|rfl
   ·exact h1 y lV (δ.gK AN.2.1 y lV) (by omega)
   ·exact h2 y lV (δ.gK AN.2.1 y lV) (by omega)
  have hlw:=δ.zM p.2;have hx:=f208 (u:=u) sJ Mb rfl rfl p.1 AN.1 p.2 AN.2.1 (by omega) AT s ext [];rw[<-SL]at hx;refine ku (g:=Gt) rfl rfl rfl (by simp[sJ]) ?_;have a0:N+e0.length+1<(l_ Bk (N+e0.length) e0 (.fn F fa fc) s++ext).length:=by simp[sJ];omega
  have hb:exp (l_ Bk (N+e0.length) e0 (.fn F fa fc) s++ext).length false (fp p)=fp p:=rp AN.1 AN.2.1;simp only[bB,cy,ax,aI,hb];simp only[exp,a0,if_true,Gt,Qu];simp[d1,hx,fp]
 have ek:(δ.mk k g nm cp pl size to cb body ce els).blocks.length<=2:=by unfold δ.blocks;split<;>(try split)<;>simp
 generalize bF:δ.mk k g nm cp pl size to cb body ce els=x at*;intro s ext T;have h6:=f206 (u:=u) sJ hf7 rfl rfl (if bf x.kind then .any else .nil) (by split<;>simp[bm]) x.blocks (fun p hp=>⟨(u_ p hp).1,(u_ p hp).2.1⟩) (by omega) h7 (f x s) ext [];rw[<-Hv]at h6;have Ng:=hyx s (e0++[.cells [.fn F fa fc],.cells [.fn (.func 205) [] [.κ (N+e0.length) 0,.κ (N+e0.length+1) 0]]]++ext) [];have e1:∀s,Bk s++(e0++[.cells [.fn F fa fc],.cells [.fn (.func 205) [] [.κ (N+e0.length) 0,.κ (N+e0.length+1) 0]]]++ext)=l_ Bk (N+e0.length) e0 (.fn F fa fc) s++ext:=fun s=>by simp[l_]
 rw[e1,e1]at Ng;refine ku (g:=Gr) rfl rfl rfl (by simp[sJ]) ?_;have a0:N+e0.length<(l_ Bk (N+e0.length) e0 (.fn F fa fc) s++ext).length:=by simp[sJ];omega
 have a1:N+e0.length+1<(l_ Bk (N+e0.length) e0 (.fn F fa fc) s++ext).length:=by simp[sJ];omega
 have qx:x.cells.take 14=x.cells:=fe (by omega);simp only[bB,cy,ax,aI,δ.jI _ _ _ aj];simp only[exp,a0,a1,if_true,Gr,Qt];simp only[δ.av,iG]at Ng SQ⊢;simp[eA,qx,d0,d1,Ng,SQ,h6]
theorem Sd(bs:List θ)(n:Nat):aQ bs n 8 (.aU [])= .aU []:=rfl
theorem f204(hN:∀s,(Bk s).length=N)(hf:Fix N (.fn F fa fc))(pJ:fa.map ν=fa)(mX:fc.map ν=fc)(hy:∀x:δ,x.Ok->o7 u Bk (.fn F fa fc) x.av (f x) true)(c:τ)(hc:bm c)(l:List δ)(hl:δ.cm l)(hw:δ.bC l<1000000000000):
  ∀s ext T,ab (C u) (.fn (.func 204) [] [.ref [.list c (δ.χ l)]]) [.fn F fa fc] {ε:=Bk s++ext,η:=T}=some (.aU [],{ε:=Bk (rq f l s)++ext,η:=T}):=by
 intro s ext T;have hlw:=δ.zM l;have sJ:∀s,(l_ Bk (N+ext.length) ext (.fn F fa fc) s).length=N+ext.length+2:=fun s=>by simp[l_,hN];omega
 have Mb:Fix (N+ext.length+2) (.fn (.func 205) [] [.κ (N+ext.length) 0,.κ (N+ext.length+1) 0]):=by intro k b hk;simp[exp,aX,Fn.below];omega
 have hx:=f208 (u:=u) sJ Mb rfl rfl c hc l hl (by omega) (fun x hx=>f205 (u:=u) hN ext hf hy x (δ.gK hl x hx) (by have:=δ.kP hx;omega)) s [] [];rw[<-SL]at hx;refine ku (g:=Gq) rfl rfl rfl (by simp[hN]) ?_;have wQ:(Bk s++ext).length=N+ext.length:=by simp[hN]
 have hr:exp (Bk s++ext).length false (.ref [.list c (δ.χ l)])= .ref [.list c (δ.χ l)]:=by have:=rp (n:=(Bk s++ext).length) (k:=false) hc hl;simp only[exp,aX]at this⊢;rw[this]
 simp only[bB,cy,ax,aI,hr,hf _ false (show N<=(Bk s++ext).length by omega),Gq,Qs];simp only[l_,dM,bQ,Nat.add_assoc]at hx;simp[Mem.push,Mem.put,Mem.ν,ν,fH,pJ,mX,hN,bn,lo,Fn.below,hx,Sd]
end
theorem aaB(bs:List θ)(n:Nat)(i:Nat)(hi:n<=i)(l:List AV)(h:bs[i]?=some (.cells l)):aQ bs n 8 (.fn (.func 204) [] [.κ i 0])= .fn (.func 204) [] [.ref (l.map (aQ bs n 7))]:=by
 have:¬i<n:=by omega
 simp[aQ,fC,oC,Fn.below,this,h]
theorem Le(bs:List θ)(n k:Nat)(c:τ)(l:List AV):aQ bs n (k+1) (.list c l)= .list (c.exp n false) (l.map (aQ bs n (k+1))):=by simp only[aQ,fC,qc]
theorem FL(bs:List θ)(n k:Nat)(l:List AV):aQ bs n (k+1) (.agg l)= .agg (l.map (aQ bs n (k+1))):=by simp only[aQ,fC,qc]
theorem ρ.Ld(bs:List θ)(n k:Nat)(p:ρ)(h:p.Ok):aQ bs n (k+1) p.av=p.av:=by
 have:(p.ix.map ζ.av).map (aQ bs n (k+1))=p.ix.map ζ.av:=by rw[cT];exact dh fun x hx=>ζ.yf bs n (k+1) x (h.2.2 x hx).1
 have hs:aQ bs n (k+1) (.str p.name)= .str p.name:=rfl;simp only[ρ.av,FL,ax,aI,Le,fq h.2.1,this,hs]
theorem δ.Ld(bs:List θ)(n j:Nat)(x:δ):x.Ok->x.cells.map (aQ bs n (j+1))=x.cells:=by
 refine δ.jd (Q:=fun x=>x.Ok->x.cells.map (aQ bs n (j+1))=x.cells) (fun kk g nm cp pl size to cb body ce els h1 h2 h=>?_) x;simp only[δ.Ok]at h;obtain⟨-,k1,k2,k3,k4,k5,k6,k7,k8⟩:=h;have e1:(pl.map ρ.av).map (aQ bs n (j+1))=pl.map ρ.av:=by rw[cT];exact dh fun x hx=>ρ.Ld bs n j x (k2 x hx)
 have go:∀l:List δ,δ.cm l->(∀y∈l,y.Ok->y.cells.map (aQ bs n (j+1))=y.cells)->(δ.χ l).map (aQ bs n (j+1))=δ.χ l:=by intro l hl hy;rw[δ.dW,cT];refine dh fun y hm=>?_;simp only[Function.comp,δ.av,FL,hy y hm (δ.gK hl y hm)]
 have q:∀y:ζ,y.Ok->y.four.map (aQ bs n (j+1))=y.four:=fun y hy=>by have:=ζ.yf bs n (j+1) y hy;rw[ζ.fm,FL]at this;simpa using this
 have hs:∀s,aQ bs n (j+1) (.str s)= .str s:=fun s=>rfl;have hi:∀k i,aQ bs n (j+1) (.int k i)= .int k i:=fun k i=>rfl;simp only[δ.cells,kQ,ax,aI,Le,fq k1,fq k5,fq k7,e1,q _ k3.1,q _ k4.1,go body k6 h1,go els k8 h2,hs,hi]
theorem aaA(bs:List θ)(n:Nat){c:τ}(hc:bm c){l:List δ}(h:δ.cm l):aQ bs n 7 (.list c (δ.χ l))= .list c (δ.χ l):=by
 have:(δ.χ l).map (aQ bs n 7)=δ.χ l:=by rw[δ.dW,cT];exact dh fun y hy=>by simp only[Function.comp,δ.av,FL,δ.Ld bs n 6 y (δ.gK h y hy)]
 rw[Le,fq hc,this]
theorem f134(c:τ)(hc:bm c)(l:List δ)(hl:δ.cm l)(m:Mem):kf u 134 [.list c (δ.χ l)] m=some (.fn (.func 204) [] [.ref [.list c (δ.χ l)]],m):=by
 refine dt (g:=F2) rfl rfl rfl ?_;simp only[ax,aI,rp hc hl,F2,Qb];have n1:(δ.χ l).map ν=δ.χ l:=by rw[δ.dW,cT];exact dh fun y _=>by simp only[Function.comp,δ.av,ν,δ.zk]
 simp[Mem.push,Mem.ν,ν,fH,n1];rw[aaB _ _ _ (Nat.le_refl _) [.list c (δ.χ l)] (by simp)];simp[aaA _ _ hc hl]
theorem ajt(n:Nat):bN .i64 (bN .i64 (n:Int)+1)=bN .i64 ((n+1:Nat):Int):=by
 have h:∀x:Int,bN .i64 x=if(true&&decide (x % 18446744073709551616≥9223372036854775808))=true then x % 18446744073709551616-18446744073709551616 else x % 18446744073709551616:=fun x=>rfl;simp only[h];simp
 (repeat' split)<;>omega
def Ai(B:List θ)(env:List AV)(n:Nat):List θ:=B++[.cells [.n (bN .i64 (n:Int))],.loop env [6] .skip (.block 1 (.ops [⟨(some 7),.ld false 1 (.t 3),none⟩,⟨(some 8),.bin .add (.t 7) (.c (.n 1)),none⟩,⟨none,.st 1 (.t 3) (.t 8),none⟩])) .ready]
theorem aaJ(l:List AV)(i:Nat):br (l.map ν) i=ν (br l i):=by
 induction l generalizing i with
 |nil=>simp[br,ν]
 |cons a l ih=>cases i with
  |zero=>rfl
  |succ i=>simp only[ax,br,ih]
theorem ajL(B:List θ)(env:List AV)(h3:br env 3= .κ B.length 0)(v:AV)(n:Nat)(ext:List θ)(T:List Nat):
  ab (C u) (.fn (.yield (B.length+1)) [] []) [v] {ε:=Ai B env n++ext,η:=T}=some (.bool true,{ε:=Ai B env (n+1)++ext,η:=T}):=by
 apply sy;simp only[body];unfold round;simp[Ai,vJ,Mem.ls,Mem.kM,h3,Mem.put,bn,lo,ajt,Mem.ν,ν]
theorem f135(c:τ)(hc:bm c)(l:List δ)(hl:δ.cm l)(hw:δ.bC l<1000000000000)(m:Mem):kf u 135 [.list c (δ.χ l)] m=some (.n (δ.bK l),m):=by
 have Z0:=f134 (u:=u) c hc l hl;refine dt (g:=F3) rfl rfl rfl ?_;simp only[ax,aI,rp hc hl,F3,Qc];let K:St->Prop:=fun st=>st.e 3= .κ m.ε.length 0/\st.mem= {ε:=m.ε++[.cells [.n 0]],η:=[]};refine Ψ (fun st=>st.e 0= .list c (δ.χ l)/\st.mem= {ε:=m.ε,η:=[]}) (by simp) fun s1 ⟨h1,h2⟩=>?_;refine Ψ (fun st=>K st/\st.e 0= .list c (δ.χ l)) (by simp[K,h1,h2,Mem.push,Mem.put,Mem.ν,ν,bn,lo]) fun s1 ⟨⟨h1,h2⟩,h3⟩=>?_;refine bS (fun st=>st.e 3= .κ m.ε.length 0/\st.mem= {ε:=m.ε++[.cells [.n (δ.bK l)]],η:=[]}) ?_ fun s2 ⟨h1,h2⟩=>by simp[h1,h2]
 refine Ψ (fun st=>K st/\st.e 5= .fn (.func 204) [] [.ref [.list c (δ.χ l)]]) (by simp[K,h1,h2,h3,Z0]) fun s1 ⟨⟨h1,h2⟩,h3⟩=>?_;refine μ.block ?_;have eI:∀M:Mem,M.ν=ν:=fun _=>rfl;have fN:br (s1.env.map ν) 3= .κ m.ε.length 0:=by rw[aaJ];exact congrArg ν h1
 have AT:=f204 (u:=u) (Bk:=Ai m.ε (s1.env.map ν)) (N:=m.ε.length+2) (F:= .yield (m.ε.length+1)) (fa:=[]) (fc:=[]) (f:=fun _ n=>n+1) (fun n=>by simp[Ai]) (fun k b hk=>by simp[exp,aX,Fn.below];omega) rfl rfl
  (fun x _ n ext T=>ajL m.ε _ fN x.av n ext T) c hc l hl hw 0 [] []
 have aa_:∀(l:List δ) (n:Nat),rq (fun _ n=>n+1) l n=n+δ.bK l:=by
  intro l;refine δ.lists (P:=fun l=>∀n:Nat,rq (fun _ n=>n+1) l n=n+δ.bK l) (fun l ih n=>?_) l;induction l generalizing n with
  |nil=>rfl
  |cons a l w7=>
   have ha:=ih a (by simp)
   obtain⟨k,g,nm,cp,pl,size,to,cb,body,ce,els⟩:=a;simp only[δ.body,δ.els]at ha;simp only[rq,wz,δ.bK,δ.cnt,w7 (fun y hy=>ih y (by simp[hy])),ha.1,ha.2];by_cases hb:bf k=true
   ·by_cases he:bz k=true<;>simp[hb,he]<;>omega
   ·have he:¬bz k=true:=by simp only[bf,bz,decide_eq_true_eq]at hb⊢;omega
    simp[hb,he];omega
 rw[aa_,lN]at AT;have hcw:=(δ.Kp l).1;have fW:bN .i64 (δ.bK l:Int)=(δ.bK l:Int):=wrap_i64 (by omega) (by omega);have yU:bN .i64 0=0:=by decide
 simp only[Ai,dM,fW]at AT;have ab_:bN .i64 ((0:Nat):Int)=0:=by decide
 rw[ab_]at AT;simp only[μ,exec,dF,h3,AV.DS,Option.bind_some,h2,List.length_append,List.length_cons,List.length_nil,lN,bQ,cy,bB];simp[eI,AT,h1,Mem.back,lF];rw[List.take_append];simp[fe]
def ae1(n:cU)(d:Int):ra:=if n.w=1\/n.w=3 then .j_ false else if n.w=2 then .j_ (decide (n.d=d))else if n.w=4 then .bit else if n.w=5 then .dZ else .none
structure ajO (l:List cU) (d:Int) (L:bT):Prop where
 look:∀s,L s=ae1 (iV l s) d
 ws:∀x∈l,1<=x.w/\x.w<=5
 ds:∀x∈l,x.d<=d
theorem R8(l:List cU)(s:List Nat):iV l s=⟨[],0,0⟩\/(iV l s∈l/\(iV l s).name=s):=by
 induction l with
 |nil=>exact .inl rfl
 |cons a l ih=>
  simp only[iV]
  split
  ·rename_i h;exact .inr ⟨by simp,h⟩
  ·rcases ih with h|⟨h,h'⟩
   ·exact .inl h
   ·exact .inr ⟨by simp[h],h'⟩
theorem aap{l:List cU}{s:List Nat}(h:¬∃y∈l,y.name=s):iV l s=⟨[],0,0⟩:=by
 rcases R8 l s with h1|⟨h1,h2⟩
 ·exact h1
 ·exact absurd ⟨_,h1,h2⟩ h
def kR(L:bT):Prop:=∀s,L s≠ .none->s.length<=8
theorem Ob{s:List Nat}(h:df s=true):s.length<=8:=by simp only[df,Bool.and_eq_true,decide_eq_true_eq]at h;exact h.1.1.1.2
theorem kR.put{L:bT}(h:kR L){s:List Nat}(hs:s.length<=8)(w:ra):kR (L.put s w):=by
 intro t ht;simp only[bT.put]at ht;split at ht
 ·rename_i he;rw[he];exact hs
 ·exact h t ht
theorem kR.del{L:bT}(h:kR L)(s:List Nat):kR (L.put s .none):=by
 intro t ht;simp only[bT.put]at ht;split at ht
 ·exact absurd rfl ht
 ·exact h t ht
theorem kR.inner{L:bT}(h:kR L):kR L.inner:=by intro t ht;refine h t fun he=>ht ?_;simp[bT.inner,he]
theorem Oc{L:bT}{s:List Nat}(h:fA L s=0):df s=true/\L s= .none:=by
 unfold fA at h;split at h
 ·cases h
 ·rename_i h1;split at h
  ·cases h
  ·rename_i h2;exact⟨by simpa using h1,by simpa using h2⟩
theorem V_{n:Nat}{k:Bool}{c:τ}(hc:bm c){l:List ρ}(h:∀p∈l,p.Ok):exp n k (.list c (l.map ρ.av))= .list c (l.map ρ.av):=by
 have:aX n k (l.map ρ.av)=l.map ρ.av:=by rw[ft,cT];exact dh fun p hp=>ρ.jI n k p (h p hp)
 simp only[exp,fq hc,this]
theorem ag3(p:ρ):p.ix.length<=p.wt:=by have:=ζ.Ak p.ix;simp only[ρ.wt];omega
def ti(c:τ)(ps:List ξ):AV:= .agg [.list c (ps.map ξ.av)]
theorem KW{n:Nat}{k:Bool}{c:τ}(hc:bm c){ps:List ξ}(h:∀x∈ps,x.Ok):exp n k (.list c (ps.map ξ.av))= .list c (ps.map ξ.av):=by
 have:aX n k (ps.map ξ.av)=ps.map ξ.av:=by rw[ft,cT];exact dh fun p hp=>ξ.jI n k p (h p hp)
 simp only[exp,fq hc,this]
theorem RU{n:Nat}{k:Bool}{c:τ}(hc:bm c){ps:List ξ}(h:∀x∈ps,x.Ok):exp n k (ti c ps)=ti c ps:=by have:=KW (n:=n) (k:=k) hc h;simp only[ti,exp,aX]at this⊢;rw[this]
theorem ahf(ps:List ξ)(s:List Nat):(Ee ps s= -1/\pS ps s=none)\/∃(n:Nat) (q:ξ),Ee ps s=(n:Int)/\pS ps s=some n/\ps[n]?=some q/\n<ps.length:=by
 unfold Ee;cases h:pS ps s with
 |none=>exact .inl ⟨rfl,rfl⟩
 |some n=>
  rw[pS,tD]at h
  obtain⟨h1,h2,_⟩:=h;exact .inr ⟨n,ps[n],rfl,rfl,dp h1,h1⟩
theorem cell0(x:δ):x.cells.take 1=[.n x.kind]:=by cases x;rfl
theorem oq(x:δ):(x.cells.drop 2).take 1=[.str x.name]:=by cases x;rfl
theorem Rg(x:δ):x.cells.take 14=x.cells:=fe (by have:=δ.ll x;omega)
theorem acd(ps:List ξ)(own:Nat)(x:δ)(L:bT):kX ps own x L=if bf x.kind then(if gb ps own x.body (inside L x.kind x.name)≠0 then gb ps own x.body (inside L x.kind x.name)else if bz x.kind then gb ps own x.els (inside L x.kind x.name)else 0)else 0:=by cases x;rfl
def bE(x:cU):AV×AV:=(.str x.name,.agg [.n x.w,.n x.d])
def jh:List cU->List Nat->Int->Int->List cU
 |[],s,w,d=>[⟨s,w,d⟩]
 |x::l,s,w,d=>if x.name=s then⟨s,w,d⟩::l else x::jh l s w d
def nA:List cU->List Nat->List cU
 |[],_=>[]
 |x::l,s=>if x.name=s then l else x::nA l s
theorem aeY(es:List cU)(s:List Nat):(jz (.str s) (es.map bE)=some none/\iV es s=⟨[],0,0⟩/\¬∃y∈es,y.name=s)\/∃w d,jz (.str s) (es.map bE)=some (some (.agg [.n w,.n d]))/\iV es s=⟨s,w,d⟩/\⟨s,w,d⟩∈es:=by
 induction es with
 |nil=>exact .inl ⟨rfl,rfl,by simp⟩
 |cons a l ih=>
  obtain⟨nn,w,d⟩:=a
  by_cases h:nn=s
  ·subst h;exact .inr ⟨w,d,by simp[jz,bE,jM],by simp[iV],by simp⟩
  ·have φ:¬s=nn:=Ne.symm h;rcases ih with⟨h1,h2,h3⟩|⟨w',d',h1,h2,h3⟩
   ·exact .inl ⟨by simpa[jz,bE,jM,φ]using h1,by simp[iV,h,h2],by simpa[h]using h3⟩
   ·exact .inr ⟨w',d',by simpa[jz,bE,jM,φ]using h1,by simp[iV,h,h2],by simp[h3]⟩
theorem Iv(es:List cU)(s:List Nat)(w d:Int):uj (.str s) (.agg [.n w,.n d]) (es.map bE)=some ((jh es s w d).map bE):=by
 induction es with
 |nil=>rfl
 |cons a l ih=>
  by_cases h:a.name=s
  ·have h':s=a.name:=h.symm;simp[uj,bE,jM,jh,h]
  ·have φ:¬s=a.name:=Ne.symm h;simp only[ax,uj,bE,jM,φ,decide_false,jh,h,if_false]at ih⊢;rw[ih];rfl
theorem afb(es:List cU)(s:List Nat):xf (.str s) (es.map bE)=some ((nA es s).map bE):=by
 induction es with
 |nil=>rfl
 |cons a l ih=>
  by_cases h:a.name=s
  ·simp[xf,bE,jM,nA,h]
  ·have φ:¬s=a.name:=Ne.symm h;have UL:xf (.str s) (l.map bE)=some ((nA l s).map bE):=ih;simp only[ax,xf,jM,bE,φ,decide_false,nA,h,if_false];have e:(l.map fun x=>(AV.str x.name,AV.agg [.n x.w,.n x.d]))=l.map bE:=rfl
   first|rw[UL]|(rw[e,UL])
   rfl
theorem aaq(es:List cU)(s:List Nat)(w d:Int)(t:List Nat):iV (jh es s w d) t=if t=s then⟨s,w,d⟩else iV es t:=by
 induction es with
 |nil=>
  by_cases h:t=s
  ·subst h;simp[jh,iV]
  ·simp[jh,iV,h,Ne.symm h]
 |cons a l ih=>
  by_cases h:a.name=s
  ·by_cases h2:t=s
   ·subst h2;simp[jh,iV,h]
   ·have:¬a.name=t:=fun he=>h2 (he.symm.trans h);simp[jh,iV,h,h2,Ne.symm h2,this]
  ·by_cases h2:t=s
   ·subst h2;simp[jh,iV,h,ih]
   ·simp only[jh,h,if_false,iV,ih,h2]
theorem OC{es:List cU}{s:List Nat}{w d:Int}{x:cU}(h:x∈jh es s w d):x=⟨s,w,d⟩\/x∈es:=by
 induction es with
 |nil=>simp[jh]at h;exact .inl h
 |cons a l ih=>
  simp only[jh]at h
  split at h
  ·rcases cB.1 h with h|h
   ·exact .inl h
   ·exact .inr (by simp[h])
  ·rcases cB.1 h with h|h
   ·exact .inr (by simp[h])
   ·rcases ih h with h|h
    ·exact .inl h
    ·exact .inr (by simp[h])
theorem Kz{es:List cU}{s:List Nat}{x:cU}(h:x∈nA es s):x∈es:=by
 induction es with
 |nil=>cases h
 |cons a l ih=>
  simp only[nA]at h
  split at h
  ·simp[h]
  ·rcases cB.1 h with h|h
   ·simp[h]
   ·simp[ih h]
theorem ahs{es:List cU}{s:List Nat}{w d:Int}(h:(es.map cU.name).Nodup):((jh es s w d).map cU.name).Nodup:=by
 induction es with
 |nil=>simp[jh]
 |cons a l ih=>
  rw[ax,xH]at h
  simp only[jh];split
  ·rename_i he;rw[ax,xH];exact⟨by rw[<-he];exact h.1,h.2⟩
  ·rename_i φ;rw[ax,xH];refine⟨fun hm=>?_,ih h.2⟩;obtain⟨x,hx,he⟩:=fb.1 hm;rcases OC hx with rfl|hx
   ·exact φ he.symm
   ·exact h.1 (fb.2 ⟨x,hx,he⟩)
theorem ZR{es:List cU}{s:List Nat}(h:(es.map cU.name).Nodup):((nA es s).map cU.name).Nodup:=by
 induction es with
 |nil=>simp[nA]
 |cons a l ih=>
  rw[ax,xH]at h
  simp only[nA];split
  ·exact h.2
  ·rw[ax,xH];refine⟨fun hm=>?_,ih h.2⟩;obtain⟨x,hx,he⟩:=fb.1 hm;exact h.1 (fb.2 ⟨x,Kz hx,he⟩)
theorem aao{es:List cU}(s:List Nat)(h:(es.map cU.name).Nodup)(t:List Nat):iV (nA es s) t=if t=s then⟨[],0,0⟩else iV es t:=by
 induction es with
 |nil=>simp[nA,iV]
 |cons a l ih=>
  rw[ax,xH]at h
  simp only[nA];by_cases he:a.name=s
  ·simp only[he,if_true];by_cases h2:t=s
   ·subst h2;simp only[if_true];refine aap ?_
    rintro⟨y,hy,vt⟩
    exact h.1 (fb.2 ⟨y,hy,vt.trans he.symm⟩)
   ·simp only[h2,if_false,iV,he,Ne.symm h2]
  ·simp only[he,if_false,iV,ih h.2];by_cases h2:t=s
   ·subst h2;simp[he]
   ·simp[h2]
def jY(n:cU)(b:Int):ra:=if n.w=1 then .j_ (decide (n.d=b))else if n.w=2 then .bit else if n.w=3 then .dZ else .none
structure fT (es:List cU) (b nb:Int) (L:bT):Prop where
 look:∀s,L s=jY (iV es s) b
 ws:∀x∈es,1<=x.w/\x.w<=3
 ds:∀x∈es,x.d<nb
 nd:(es.map cU.name).Nodup
theorem fT.empty(b nb:Int):fT [] b nb oW:=⟨fun _=>rfl,fun _ h=>(by cases h),fun _ h=>(by cases h),by simp⟩
theorem fT.mono{es:List cU}{b nb eE:Int}{L:bT}(h:fT es b nb L)(hb:nb<=eE):fT es b eE L:=⟨h.look,h.ws,fun x hx=>by have:=h.ds x hx;omega,h.nd⟩
theorem fT.put{es:List cU}{b nb:Int}{L:bT}(h:fT es b nb L)(s:List Nat)(w d:Int)(hw:1<=w/\w<=3)(hd:d<nb):fT (jh es s w d) b nb (L.put s (jY ⟨s,w,d⟩ b)):=by
 refine⟨fun t=>?_,fun x hx=>?_,fun x hx=>?_,ahs h.nd⟩
 ·rw[aaq];simp only[bT.put];by_cases ht:t=s
  ·simp[ht]
  ·simp[ht,h.look t]
 ·rcases OC hx with rfl|hx
  ·exact hw
  ·exact h.ws x hx
 ·rcases OC hx with rfl|hx
  ·exact hd
  ·exact h.ds x hx
theorem fT.del{es:List cU}{b nb:Int}{L:bT}(h:fT es b nb L)(s:List Nat):fT (nA es s) b nb (L.put s .none):=by
 refine⟨fun t=>?_,fun x hx=>h.ws x (Kz hx),fun x hx=>h.ds x (Kz hx),ZR h.nd⟩;rw[aao s h.nd];simp only[bT.put];by_cases ht:t=s
 ·simp[ht,jY]
 ·simp[ht,h.look t]
theorem fT.inner{es:List cU}{b nb:Int}{L:bT}(h:fT es b nb L):fT es nb (nb+1) L.inner:=by
 refine⟨fun t=>?_,h.ws,fun x hx=>by have:=h.ds x hx;omega,h.nd⟩;simp only[bT.inner,h.look t];rcases R8 es t with h1|⟨h1,_⟩
 ·simp[h1,jY]
 ·have hd:=h.ds _ h1;have φ:¬(iV es t).d=nb:=by omega
  unfold jY
  (repeat' split)<;>simp_all
theorem By{es:List cU}{b nb:Int}{L:bT}(h:fT es b nb L)(s:List Nat):
  (jz (.str s) (es.map bE)=some none/\L s= .none)\/∃w d,jz (.str s) (es.map bE)=some (some (.agg [.n w,.n d]))/\(w=1\/w=2\/w=3)/\L s=jY ⟨s,w,d⟩ b:=by
 have hl:=h.look s;rcases aeY es s with⟨h1,h2,_⟩|⟨w,d,h1,h2,h3⟩
 ·rw[h2]at hl;exact .inl ⟨h1,hl⟩
 ·rw[h2]at hl;have:=h.ws _ h3;dsimp only at this;exact .inr ⟨w,d,h1,by omega,hl⟩
def eJ(id:Nat)(b:Int):AV:= .agg [.map id,.n b]
theorem f298{B:List θ}{id:Nat}{es:List cU}{b nb:Int}{L:bT}(hid:B[id]?=some (.map (es.map bE)))(hs:fT es b nb L)(s:List Nat):lf u B (.fn (.func 298) [eJ id b] []) [.str s] (.bool (iN L s)):=by
 intro ext T;have ψ:id<B.length:=by
  rcases di id B.length with h|h
  ·exact h
  ·rw[gW h]at hid;cases hid
 have eZ:id<(B++ext).length:=by simp;omega
 have jb:(B++ext)[id]?=some (.map (es.map bE)):=by rw[d_ ψ];exact hid
 refine sw (g:=G2) rfl rfl rfl ?_;simp only[eJ,cy,bB,dM,ax,aI,exp,aX,eZ,if_true,G2,QV];generalize B++ext=BB at*;rcases By hs s with⟨h1,h2⟩|⟨w,d,h1,hw,h2⟩
 ·simp[jb,isKey,h1,iN,h2]
 ·simp only[iN,h2];rcases hw with rfl|rfl|rfl<;>simp[jb,isKey,h1,jY]
theorem f275{B:List θ}{id:Nat}{es:List cU}{b nb:Int}{L:bT}(hid:B[id]?=some (.map (es.map bE)))(hs:fT es b nb L)(x:ζ)(aj:x.Ok)(qv:x.qZ)(oG:x.cnt<1000000000000)(fst args:List AV)(Ma:fst++args=[eJ id b,x.av]):
  lf u B (.fn (.func 275) fst []) args (.n (x.err (iN L) 1)):=by
 intro ext T;have ψ:id<B.length:=by
  rcases di id B.length with h|h
  ·exact h
  ·rw[gW h]at hid;cases hid
 have eZ:id<(B++ext).length:=by simp;omega
 have sP:Fix B.length (.fn (.func 298) [eJ id b] []):=by
  intro k bb hk;have:id<k:=by omega
  simp[exp,aX,Fn.below,eJ,this]
 have Lq:=f112 (u:=u) (B:=B) 1 sP (by simp[eJ,ν,cG]) rfl (fun s _=>f298 hid hs s) x aj qv oG ext [];refine sw (g:=GR) rfl rfl rfl ?_;rw[Ma];simp only[dM,ax,aI,ζ.jI _ _ _ aj];simp only[eJ,exp,aX,eZ,if_true,GR,QN];simp only[eJ]at Lq;generalize B++ext=BB at*;generalize x.err (iN L) 1=xe at*;obtain⟨k,n,s,c,l⟩:=x;simp only[ζ.av]at Lq⊢;simp[Lq]
theorem f274{B:List θ}{id:Nat}{es:List cU}{b nb:Int}{L:bT}(hid:B[id]?=some (.map (es.map bE)))(hs:fT es b nb L)(p:ρ)(aj:p.Ok)(hw:p.wt<1000000000000)(fst args:List AV)(Ma:fst++args=[eJ id b,p.av]):
  lf u B (.fn (.func 274) fst []) args (.n (jg L p)):=by
 intro ext T;have ψ:id<B.length:=by
  rcases di id B.length with h|h
  ·exact h
  ·rw[gW h]at hid;cases hid
 have eZ:id<(B++ext).length:=by simp;omega
 have jb:(B++ext)[id]?=some (.map (es.map bE)):=by rw[d_ ψ];exact hid
 have sP:Fix B.length (.fn (.func 275) [eJ id b] []):=by
  intro k bb hk;have:id<k:=by omega
  simp[exp,aX,Fn.below,eJ,this]
 have eH:=ag3 p;have abN:ζ.cm p.ix:=by
  have:∀l:List ζ,(∀x∈l,x.gu)->ζ.cm l:=by
   intro l;induction l with
   |nil=>intro _;trivial
   |cons a l ih=>exact fun h=>⟨(h a (by simp)).1,ih fun x hx=>h x (by simp[hx])⟩
  exact this _ aj.2.2
 have SV:=f177 (u:=u) (B:=B) (F:=ζ.err (iN L) 1) sP p.c aj.2.1 p.ix abN (by omega) (fun x hx=>f275 hid hs x (aj.2.2 x hx).1 (aj.2.2 x hx).2 (by have:=ζ.Aj hx;simp only[ρ.wt]at hw;omega) [eJ id b] [x.av] rfl) ext [];have LW:p.av= .agg [.str p.name,.list p.c (ζ.χ p.ix)]:=by simp[ρ.av,ζ.dW]
 refine sw (g:=GQ) rfl rfl rfl ?_;rw[Ma];simp only[dM,ax,aI,ρ.jI _ _ _ aj];rw[LW];simp only[eJ,exp,aX,eZ,if_true,GQ,QM];simp only[eJ]at SV;generalize B++ext=BB at*;unfold jg;generalize first (ζ.err (iN L) 1) p.ix=pe at*
 have yE:∀q:Prop,(2:Int)<(p.ix.length:Int)↔2<p.ix.length:=fun _=>by omega
 rcases By hs p.name with⟨h1,h2⟩|⟨w,d,h1,nS,h2⟩
 ·simp[jb,isKey,h1,h2,ra.yZ]
 ·rw[h2];rcases nS with rfl|rfl|rfl
  ·by_cases TO:2<p.ix.length
   ·have:(2:Int)<(p.ix.length:Int):=by omega
    simp[jb,isKey,h1,jY,ra.yZ,rb,TO,this]
   ·have:¬(2:Int)<(p.ix.length:Int):=by omega
    simp[jb,isKey,h1,jY,ra.yZ,rb,TO,this,SV]
  ·simp[jb,isKey,h1,jY,ra.yZ]
  ·simp[jb,isKey,h1,jY,ra.yZ]
theorem f191{B:List θ}{id:Nat}{es:List cU}{b nb:Int}{L:bT}(hid:B[id]?=some (.map (es.map bE)))(hs:fT es b nb L)(s:List Nat)(qv:dB s):lf u B (.fn (.func 191) [] []) [eJ id b,.str s] (.n (fA L s)):=by
 intro ext T;have ψ:id<B.length:=by
  rcases di id B.length with h|h
  ·exact h
  ·rw[gW h]at hid;cases hid
 have eZ:id<(B++ext).length:=by simp;omega
 have jb:(B++ext)[id]?=some (.map (es.map bE)):=by rw[d_ ψ];exact hid
 have rn:=fun m=>f113 (u:=u) s qv m;refine dt (g:=Gl) rfl rfl rfl ?_;simp only[eJ,ax,aI,exp,aX,eZ,if_true,Gl,Qp];generalize B++ext=BB at*;unfold fA;cases hn:df s with
 |false=>rw[hn]at rn;simp[rn]
 |true=>
  rw[hn]at rn
  rcases By hs s with⟨h1,h2⟩|⟨w,d,h1,nS,h2⟩
  ·simp[jb,isKey,h1,h2,rn,dG,jH]
  ·rw[h2];rcases nS with rfl|rfl|rfl<;>simp[jb,isKey,h1,rn,dG,jH,jY]
theorem f273{B:List θ}{fv:AV}{F:ρ->Int}(hf:Fix B.length fv)(c:τ)(hc:bm c)(l:List ρ)(hl:∀p∈l,p.Ok)(hlen:l.length<1000000000000)
  (h:∀x∈l,lf u B fv [x.av] (.n (F x))):lf u B (.fn (.func 273) [] []) [.list c (l.map ρ.av),fv] (.n (first F l)):=by
 intro ext T;refine dt (g:=GP) rfl rfl rfl ?_;simp only[ax,aI,V_ hc hl,hf _ false (show B.length<=(B++ext).length by simp),GP,QL];let K:St->Prop:=fun st=>st.e 1=fv/\st.mem= {ε:=B++ext,η:=[]};refine Ψ (fun st=>K st/\st.e 0= .list c (l.map ρ.av)) (by simp[K]) fun s1 ⟨⟨h1,h2⟩,h3⟩=>?_;refine bS (fun st=>K st/\first F l=0) ?_ fun s2 ⟨⟨h1,h2⟩,h3⟩=>by simp[h1,h2,h3]
 let I:Nat->St->Prop:=fun i st=>K st/\st.e 8= .list c (l.map ρ.av)/\st.e 9= .n l.length/\st.e 10= .n i/\∀j (hj:j<l.length),j<i->F l[j]=0;refine Ψ (I 0) (by simp[I,K,h1,h2,h3]) fun s4 hI=>?_;refine μ.block (μ.loop (I:=I) l.length hI fun i st hi Ω=>?_);obtain⟨⟨h1,h2⟩,q1,q2,q3,q4⟩:=Ω;rcases di i l.length with ψ|eH
 ·have hw:bN .i64 ((i:Int)+1)=(i:Int)+1:=wrap_i64 (by omega) (by omega);have hx:=h _ (db ψ) ext [];simp only[ρ.av]at hx;by_cases hz:F l[i]=0
  ·left;refine⟨ψ,?_⟩;rw[hz]at hx;have q5:=Cf (P:=fun j=>∀hj:j<l.length,F l[j]=0) (n:=l.length) (fun j a b c=>q4 j c b) (fun _=>hz);simp[I,K,Ia,h1,h2,q1,q2,q3,ψ,ρ.av,hx,hw];exact fun j hj lU=>q5 j hj lU hj
  ·right;have rC:=K_ ψ q4 hz;rw[rC];have e1:=bne_true hz;simp[K,Ia,h1,h2,q1,q2,q3,ψ,ρ.av,hx,e1]
 ·right;have:i=l.length:=by omega
  subst this;have hz:=FJ (f:=F) fun j hj=>q4 j hj hj;simp[K,Ia,h1,h2,q1,q2,q3,hz]
theorem f272(g:Int)(hg:1<=g/\g<=12)(m:Mem):kf u 272 [.n g] m=some (.n (ga g),m):=by
 refine dt (g:=AH) rfl rfl rfl ?_;by_cases h1:g=12
 ·subst h1;simp[AH,Fa,exp,ga]
 by_cases h2:9<=g
 ·have:¬g<=8:=by omega
  have:g<=11:=by omega
  simp[AH,Fa,exp,ga,eK h1, *]
 ·have:g<=8:=by omega
  simp[AH,Fa,exp,ga,eK h1, *]
def yX(q:ξ->Bool)(l:List ξ):Int:=match l.findIdx? q with
 |none=> -1
 |some i=>i
theorem f66{B:List θ}{fv:AV}{q:ξ->Bool}(hf:Fix B.length fv)(c:τ)(hc:bm c)(l:List ξ)(hl:∀p∈l,p.Ok)(hlen:l.length<1000000000000)
  (h:∀x∈l,lf u B fv [x.av] (.bool (q x))):lf u B (.fn (.func 66) [] []) [.list c (l.map ξ.av),fv] (.n (yX q l)):=by
 intro ext T;refine dt (g:=G9) rfl rfl rfl ?_;simp only[ax,aI,KW hc hl,hf _ false (show B.length<=(B++ext).length by simp),G9,Q3];let K:St->Prop:=fun st=>st.e 0= .list c (l.map ξ.av)/\st.e 1=fv/\st.mem= {ε:=B++ext,η:=[]};refine Ψ (K) (by simp[K]) fun s1 ⟨h1,h2,h3⟩=>?_;refine bS (fun st=>K st/\yX q l= -1) ?_ fun s2 ⟨⟨h1,h2,h3⟩,h4⟩=>by simp[h3,h4]
 let I:Nat->St->Prop:=fun i st=>K st/\st.e 7= .n l.length/\st.e 8= .n i/\∀j (hj:j<l.length),j<i->q l[j]=false;refine Ψ (I 0) (by simp[I,K,h1,h2,h3]) fun s4 hI=>?_;refine μ.block (μ.loop (I:=I) l.length hI fun i st hi Ω=>?_);obtain⟨⟨h1,h2,h3⟩,q1,q2,q4⟩:=Ω;rcases di i l.length with ψ|eH
 ·have hw:bN .i64 ((i:Int)+1)=(i:Int)+1:=wrap_i64 (by omega) (by omega);have hx:=h _ (db ψ) ext [];simp only[ξ.av]at hx;cases hz:q l[i]with
  |false=>
   left
   refine⟨ψ,?_⟩;rw[hz]at hx;have q5:=Cf (P:=fun j=>∀hj:j<l.length,q l[j]=false) (n:=l.length) (fun j a b c=>q4 j c b) (fun _=>hz);simp[I,K,Ib,h1,h2,h3,q1,q2,ψ,ξ.av,hx,hw];exact fun j hj lU=>q5 j hj lU hj
  |true=>
   right
   rw[hz]at hx;have hi:yX q l=i:=by
    have:l.findIdx? q=some i:=by rw[tD];exact⟨ψ,hz,fun j hj=>by simp[q4 j (by omega) hj]⟩
    simp[yX,this]
   simp[K,Ib,h1,h2,h3,q1,q2,ψ,ξ.av,hx,hi]
 ·right;have:i=l.length:=by omega
  subst this;have hi:yX q l= -1:=by
   have:l.findIdx? q=none:=by rw[vV];intro x hx;obtain⟨j,hj,rfl⟩:=List.getElem_of_mem hx;exact q4 j hj hj
   simp[yX,this]
  simp[K,Ib,h1,h2,h3,q1,q2,hi]
theorem f189{B:List θ}{fv:AV}{q:ξ->Bool}(hf:Fix B.length fv)(c:τ)(hc:bm c)(l:List ξ)(hl:∀p∈l,p.Ok)(hlen:l.length<1000000000000)
  (h:∀x∈l,lf u B fv [x.av] (.bool (q x))):lf u B (.fn (.func 189) [] []) [.list c (l.map ξ.av),fv] (.bool (l.any q)):=by
 intro ext T;have hx:=f66 (u:=u) hf c hc l hl hlen h ext [];refine dt (g:=Gj) rfl rfl rfl ?_;simp only[ax,aI,KW hc hl,hf _ false (show B.length<=(B++ext).length by simp),Gj,Qm];unfold yX at hx;cases AS:l.findIdx? q with
 |none=>
  rw[AS]at hx
  have ha:l.any q=false:=by rw[vV]at AS;rw[List.any_eq_false];intro x hx;simp[AS x hx]
  rw[ha];simp[hx]
 |some i=>
  rw[AS]at hx
  have ha:l.any q=true:=by rw[tD]at AS;obtain⟨h1,h2,_⟩:=AS;rw[List.any_eq_true];exact⟨_,db h1,h2⟩
  rw[ha];have:(0:Int)<=(i:Int):=by omega
  simp[hx,this]
theorem f276{B:List θ}{n:Nat}(x:δ)(hn:B[n]?=some (.cells x.cells))(p:ξ)(hp:p.Ok):lf u B (.fn (.func 276) [] [.κ n 0]) [p.av] (.bool (p.name==x.name)):=by
 intro ext T;have ψ:n<B.length:=by
  rcases di n B.length with h|h
  ·exact h
  ·rw[gW h]at hn;cases hn
 have eZ:n<(B++ext).length:=by simp;omega
 have gR:(B++ext)[n]?=some (.cells x.cells):=by rw[d_ ψ];exact hn
 refine sw (g:=GS) rfl rfl rfl ?_;simp only[bB,cy,ax,aI,ξ.jI _ _ _ hp];simp only[exp,eZ,if_true,GS,QO];have k2:=oq x;have kl:=δ.ll x;have hb:(p.name==x.name)=decide (p.name=x.name):=by cases h:p.name==x.name<;>simp_all
 simp[ξ.av,gR,k2,kl,hb]
theorem f190{B:List θ}{n:Nat}(nm:List Nat)(r:List AV)(hn:B[n]?=some (.cells (.str nm::r)))(p:ξ)(hp:p.Ok):lf u B (.fn (.func 190) [] [.κ n 0]) [p.av] (.bool (p.name==nm)):=by
 intro ext T;have ψ:n<B.length:=by
  rcases di n B.length with h|h
  ·exact h
  ·rw[gW h]at hn;cases hn
 have eZ:n<(B++ext).length:=by simp;omega
 have gR:(B++ext)[n]?=some (.cells (.str nm::r)):=by rw[d_ ψ];exact hn
 refine sw (g:=Gk) rfl rfl rfl ?_;simp only[bB,cy,ax,aI,ξ.jI _ _ _ hp];simp only[exp,eZ,if_true,Gk,Qo];have hb:(p.name==nm)=decide (p.name=nm):=by cases h:p.name==nm<;>simp_all
 simp[ξ.av,gR,hb]
def _root_.Go.Δ.δ.gate:δ->Int
 | .mk _ g _ _ _ _ _ _ _ _ _=>g
def _root_.Go.Δ.δ.cp:δ->τ
 | .mk _ _ _ c _ _ _ _ _ _ _=>c
def _root_.Go.Δ.δ.pl:δ->List ρ
 | .mk _ _ _ _ l _ _ _ _ _ _=>l
def _root_.Go.Δ.δ.size:δ->ζ
 | .mk _ _ _ _ _ x _ _ _ _ _=>x
def _root_.Go.Δ.δ.to:δ->ζ
 | .mk _ _ _ _ _ _ x _ _ _ _=>x
theorem rh(x:δ):x.cells.tail.take 1=[.n x.gate]:=by cases x;rfl
theorem ri(x:δ):(x.cells.drop 3).take 1=[.list x.cp (x.pl.map ρ.av)]:=by cases x;rfl
theorem p9(x:δ):(x.cells.drop 4).take 4=x.size.four:=by obtain⟨k,g,nm,cp,pl,⟨k1,n1,s1,c1,l1⟩,⟨k2,n2,s2,c2,l2⟩,cb,body,ce,els⟩:=x;rfl
theorem rj(x:δ):(x.cells.drop 8).take 4=x.to.four:=by obtain⟨k,g,nm,cp,pl,⟨k1,n1,s1,c1,l1⟩,⟨k2,n2,s2,c2,l2⟩,cb,body,ce,els⟩:=x;rfl
theorem qS(ps:List ξ)(own:Nat)(L:bT)(x:δ):dV ps own L x=
  if x.kind=1 then(if x.gate<1\/12<x.gate then 3 else if x.pl.length≠ga x.gate then 2 else first (jg L) x.pl)
  else if x.kind=2\/x.kind=4 then(if fA L x.name≠0 then fA L x.name else x.size.err (iN L) 1)
  else if x.kind=8 then(if fA L x.name≠0 then fA L x.name else if x.size.err (iN L) 1≠0 then x.size.err (iN L) 1 else x.to.err (iN L) 1)
  else if x.kind=3 then(match L x.name with
   | .j_ true=>0
   | .j_ false=>7
   |_=>1)
  else if x.kind=5 then(match x.pl with
   |[p]=>if jg L p≠0 then jg L p else if L x.name= .bit then 0 else fA L x.name
   |_=>2)
  else if x.kind=6 then(match x.pl with
   |[p]=>jg L p
   |_=>2)
  else if x.kind=7 then(if L x.name= .bit then 0 else 1)
  else if x.kind=9 then(match pS ps x.name with
   |none=>1
   |some n=>if own<=n then 15 else match ps[n]? with
    |some q=>if x.pl.length≠q.au.length then 2 else first (jg L) x.pl
    |none=>1)
  else if x.kind=10\/x.kind=11 then 0 else 3:=by cases x;rfl
def _root_.Go.Δ.AC.snd:AC->AC
 | .seq _ b=>b
 |_=> .skip
def End(g:AF)(BB:List θ)(v:AV)(r:Ex×St):Prop:=(∀i,r.1≠ .exit i)/\(∃bs,r.2.mem= {ε:=BB++bs,η:=[]})/\∃l,cF r.2 g.results=some l/\aQ r.2.mem.ε BB.length 8 (cK l)=v
section
variable{BB:List θ}{ck id:Nat}{dE:τ}{ps:List ξ}{own:Nat}{b nb:Int}{es:List cU}{L:bT}{x:δ}{s1:St}
variable(h1:s1.e 0= .κ ck 0)(h2:s1.e 4= .ak 4 0 0)(h3:s1.q 4=some (0,.cells [.map id,.n b]))(h4:s1.e 5= .κ BB.length 0)(h5:s1.mem= {ε:=BB++[.cells x.cells],η:=[]})
 (hid:(BB++[.cells x.cells])[id]?=some (.map (es.map bE))) (dw:(BB++[.cells x.cells])[ck]?=some (.cells [.list dE (ps.map ξ.av),.n own,.n nb])) (dY:(BB++[.cells x.cells])[BB.length]?=some (.cells x.cells)) (hs:fT es b nb L)
 (iT:∀T,kf u 191 [.agg [.map id,.n b],.str x.name] {ε:=BB++[.cells x.cells],η:=T}=some (.n (fA L x.name),{ε:=BB++[.cells x.cells],η:=T}))
 (mq:∀T,kf u 275 [.agg [.map id,.n b],.agg x.size.four] {ε:=BB++[.cells x.cells],η:=T}=some (.n (x.size.err (iN L) 1),{ε:=BB++[.cells x.cells],η:=T}))
 (ov:∀T,kf u 275 [.agg [.map id,.n b],.agg x.to.four] {ε:=BB++[.cells x.cells],η:=T}=some (.n (x.to.err (iN L) 1),{ε:=BB++[.cells x.cells],η:=T}))
 (pz:∀p∈x.pl,∀T,kf u 274 [.agg [.map id,.n b],p.av] {ε:=BB++[.cells x.cells],η:=T}=some (.n (jg L p),{ε:=BB++[.cells x.cells],η:=T}))
 (pv:∀T,kf u 273 [.list x.cp (x.pl.map ρ.av),.fn (.func 274) [.agg [.map id,.n b]] []] {ε:=BB++[.cells x.cells],η:=T}=some (.n (first (jg L) x.pl),{ε:=BB++[.cells x.cells],η:=T}))
 (mr:∀T,kf u 66 [.list dE (ps.map ξ.av),.fn (.func 276) [] [.κ BB.length 0]] {ε:=BB++[.cells x.cells],η:=T}=some (.n (Ee ps x.name),{ε:=BB++[.cells x.cells],η:=T}))
 (q0:x.cells.take 1=[.n x.kind]) (q1:x.cells.tail.take 1=[.n x.gate]) (q2:(x.cells.drop 2).take 1=[.str x.name]) (q3:(x.cells.drop 3).take 1=[.list x.cp (x.pl.map ρ.av)]) (q4:(x.cells.drop 4).take 4=x.size.four) (q8:(x.cells.drop 8).take 4=x.to.four) (kl:x.cells.length=14)
include h1 h2 h3 h4 h5 hid dw dY hs iT mq ov pz pv mr q0 q1 q2 q3 q4 q8 kl
theorem aiq(hk:x.kind=1):μ (C u).gl (ab (C u)) c232.snd s1 (End dz BB (.n (dV ps own L x))):=by
 obtain⟨v,hv⟩:∃v,v=dV ps own L x:=⟨_,rfl⟩;rw[<-hv];rw[qS]at hv;simp only[hk,if_true]at hv;rw[hk]at q0;generalize first (jg L) x.pl=pe at*
 by_cases hg:x.gate<1\/12<x.gate
 ·rw[if_pos hg]at hv;rcases hg with hg|hg
  ·simp[c232,AC.snd,End,dz,h1,h2,h3,h4,h5,dY,kl,q0,hv,q1,hg]
  ·have:¬x.gate<1:=by omega
   simp[c232,AC.snd,End,dz,h1,h2,h3,h4,h5,dY,kl,q0,hv,q1,hg,this]
 ·rw[if_neg hg]at hv;have g1:¬x.gate<1:=by omega
  have g2:¬12<x.gate:=by omega
  have RD:=fun m=>f272 (u:=u) x.gate (by omega) m;by_cases HD:x.pl.length=ga x.gate
  ·have:((x.pl.length:Int) !=(ga x.gate:Int))=false:=by simp;omega
   simp[c232,AC.snd,End,dz,h1,h2,h3,h4,h5,dY,kl,q0,hv,q1,q3,g1,g2,RD,c7,de,fL,AV.gO,AV.beq,AV.kC,this,HD,pv]
  ·have:((x.pl.length:Int) !=(ga x.gate:Int))=true:=by simp;omega
   simp[c232,AC.snd,End,dz,h1,h2,h3,h4,h5,dY,kl,q0,hv,q1,q3,g1,g2,RD,c7,de,fL,AV.gO,AV.beq,AV.kC,this,HD]
theorem ais(hk:x.kind=2\/x.kind=4):μ (C u).gl (ab (C u)) c232.snd s1 (End dz BB (.n (dV ps own L x))):=by
 obtain⟨v,hv⟩:∃v,v=dV ps own L x:=⟨_,rfl⟩;rw[<-hv];rw[qS]at hv;have pF:¬x.kind=1:=by omega
 rw[if_neg pF,if_pos hk]at hv;generalize fA L x.name=ne at*;generalize x.size.err (iN L) 1=se at*;rcases hk with hk|hk<;>rw[hk]at q0
 ·by_cases hn:ne=0
  ·subst hn;by_cases hz:se=0
   ·subst hz;simp[c232,AC.snd,End,dz,h1,h2,h3,h4,h5,dY,kl,q0,hv,q2,q4,q8,iT,mq,ov]
   ·simp[c232,AC.snd,End,dz,h1,h2,h3,h4,h5,dY,kl,q0,hv,q2,q4,iT,mq,bne_true hz]
  ·simp[c232,AC.snd,End,dz,h1,h2,h3,h4,h5,dY,kl,q0,hv,q2,iT,bne_true hn,hn]
 ·by_cases hn:ne=0
  ·subst hn;by_cases hz:se=0
   ·subst hz;simp[c232,AC.snd,End,dz,h1,h2,h3,h4,h5,dY,kl,q0,hv,q2,q4,q8,iT,mq,ov]
   ·simp[c232,AC.snd,End,dz,h1,h2,h3,h4,h5,dY,kl,q0,hv,q2,q4,iT,mq,bne_true hz]
  ·simp[c232,AC.snd,End,dz,h1,h2,h3,h4,h5,dY,kl,q0,hv,q2,iT,bne_true hn,hn]
theorem aix(hk:x.kind=8):μ (C u).gl (ab (C u)) c232.snd s1 (End dz BB (.n (dV ps own L x))):=by
 obtain⟨v,hv⟩:∃v,v=dV ps own L x:=⟨_,rfl⟩;rw[<-hv];rw[qS]at hv;simp[hk]at hv;rw[hk]at q0;generalize fA L x.name=ne at*;generalize x.size.err (iN L) 1=se at*;generalize x.to.err (iN L) 1=te at*;by_cases hn:ne=0
 ·subst hn;by_cases hz:se=0
  ·subst hz;simp[c232,AC.snd,End,dz,h1,h2,h3,h4,h5,dY,kl,q0,hv,q2,q4,q8,iT,mq,ov]
  ·simp[c232,AC.snd,End,dz,h1,h2,h3,h4,h5,dY,kl,q0,hv,q2,q4,iT,mq,bne_true hz,hz]
 ·simp[c232,AC.snd,End,dz,h1,h2,h3,h4,h5,dY,kl,q0,hv,q2,iT,bne_true hn,hn]
theorem ait(hk:x.kind=3):μ (C u).gl (ab (C u)) c232.snd s1 (End dz BB (.n (dV ps own L x))):=by
 obtain⟨v,hv⟩:∃v,v=dV ps own L x:=⟨_,rfl⟩;rw[<-hv];rw[qS]at hv;simp[hk]at hv;rw[hk]at q0;rcases By hs x.name with⟨j1,j2⟩|⟨w,d,j1,hw,j2⟩
 ·simp[c232,AC.snd,End,dz,h1,h2,h3,h4,h5,dY,kl,q0,hv,q2,hid,isKey,j1,j2]
 ·rw[j2]at hv;rcases hw with rfl|rfl|rfl
  ·by_cases hd:d=b
   ·subst hd;simp[c232,AC.snd,End,dz,h1,h2,h3,h4,h5,dY,kl,q0,hv,q2,hid,isKey,j1,jY,dG,jH]
   ·simp[c232,AC.snd,End,dz,h1,h2,h3,h4,h5,dY,kl,q0,hv,q2,hid,isKey,j1,jY,dG,jH,hd]
  ·simp[c232,AC.snd,End,dz,h1,h2,h3,h4,h5,dY,kl,q0,hv,q2,hid,isKey,j1,jY]
  ·simp[c232,AC.snd,End,dz,h1,h2,h3,h4,h5,dY,kl,q0,hv,q2,hid,isKey,j1,jY]
theorem aiu(hk:x.kind=5):μ (C u).gl (ab (C u)) c232.snd s1 (End dz BB (.n (dV ps own L x))):=by
 obtain⟨v,hv⟩:∃v,v=dV ps own L x:=⟨_,rfl⟩;rw[<-hv];rw[qS]at hv;simp[hk]at hv;rw[hk]at q0;generalize dS:x.pl=pl at*;rcases pl with _|⟨p,_|⟨q,rest⟩⟩
 ·simp[c232,AC.snd,End,dz,h1,h2,h3,h4,h5,dY,kl,q0,hv,q3]
 ·have e:=pz p (by simp);simp only[ρ.av]at e;simp at hv;by_cases hz:jg L p=0
  ·rw[hz]at e;rw[if_pos hz]at hv;rcases By hs x.name with⟨j1,j2⟩|⟨w,d,j1,hw,j2⟩
   ·rw[j2]at hv;by_cases hn:fA L x.name=0
    ·rw[hn]at iT hv;simp[c232,AC.snd,End,dz,h1,h2,h3,h4,h5,dY,kl,q0,hv,q2,q3,ρ.av,e,iT,hid,isKey,j1]
    ·simp[c232,AC.snd,End,dz,h1,h2,h3,h4,h5,dY,kl,q0,hv,q2,q3,ρ.av,e,iT,hid,isKey,j1,bne_true hn]
   ·by_cases hn:fA L x.name=0
    ·have:=(Oc hn).2;rw[j2]at this;rcases hw with rfl|rfl|rfl<;>simp[jY]at this
    ·rw[j2]at hv;rcases hw with rfl|rfl|rfl<;>simp[c232,AC.snd,End,dz,h1,h2,h3,h4,h5,dY,kl,q0,hv,q2,q3,ρ.av,e,iT,hid,isKey,j1,bne_true hn,jY]
  ·rw[if_neg hz]at hv;simp[c232,AC.snd,End,dz,h1,h2,h3,h4,h5,dY,kl,q0,hv,q3,ρ.av,e,bne_true hz]
 ·have:((rest.length:Int)+1+1 !=1)=true:=by simp;omega
  simp[c232,AC.snd,End,dz,h1,h2,h3,h4,h5,dY,kl,q0,hv,q3,this]
theorem aiv(hk:x.kind=6):μ (C u).gl (ab (C u)) c232.snd s1 (End dz BB (.n (dV ps own L x))):=by
 obtain⟨v,hv⟩:∃v,v=dV ps own L x:=⟨_,rfl⟩;rw[<-hv];rw[qS]at hv;simp[hk]at hv;rw[hk]at q0;generalize dS:x.pl=pl at*;rcases pl with _|⟨p,_|⟨q,rest⟩⟩
 ·simp[c232,AC.snd,End,dz,h1,h2,h3,h4,h5,dY,kl,q0,hv,q3]
 ·have e:=pz p (by simp);simp only[ρ.av]at e;simp at hv;by_cases hz:jg L p=0
  ·rw[hz]at e hv;simp[c232,AC.snd,End,dz,h1,h2,h3,h4,h5,dY,kl,q0,hv,q3,q2,iT,ρ.av,e]
  ·simp[c232,AC.snd,End,dz,h1,h2,h3,h4,h5,dY,kl,q0,hv,q3,ρ.av,e,bne_true hz]
 ·have:((rest.length:Int)+1+1 !=1)=true:=by simp;omega
  simp[c232,AC.snd,End,dz,h1,h2,h3,h4,h5,dY,kl,q0,hv,q3,this]
theorem aiw(hk:x.kind=7):μ (C u).gl (ab (C u)) c232.snd s1 (End dz BB (.n (dV ps own L x))):=by
 obtain⟨v,hv⟩:∃v,v=dV ps own L x:=⟨_,rfl⟩;rw[<-hv];rw[qS]at hv;simp[hk]at hv;rw[hk]at q0;rcases By hs x.name with⟨j1,j2⟩|⟨w,d,j1,hw,j2⟩
 ·simp[c232,AC.snd,End,dz,h1,h2,h3,h4,h5,dY,kl,q0,hv,q2,hid,isKey,j1,j2]
 ·rw[j2]at hv;rcases hw with rfl|rfl|rfl<;>simp[c232,AC.snd,End,dz,h1,h2,h3,h4,h5,dY,kl,q0,hv,q2,hid,isKey,j1,jY]
theorem aiy(hk:x.kind=9):μ (C u).gl (ab (C u)) c232.snd s1 (End dz BB (.n (dV ps own L x))):=by
 obtain⟨v,hv⟩:∃v,v=dV ps own L x:=⟨_,rfl⟩;rw[<-hv];rw[qS]at hv;simp[hk]at hv;rw[hk]at q0;rcases ahf ps x.name with⟨j1,j2⟩|⟨n,q,j1,j2,j3,j4⟩
 ·rw[j1]at mr;simp[c232,AC.snd,End,dz,h1,h2,h3,h4,h5,dY,kl,q0,hv,q2,dw,mr,j2]
 ·rw[j1]at mr;have yJ:¬(n:Int)<0:=by omega
  by_cases ho:own<=n
  ·have rH:(own:Int)<=(n:Int):=by omega
   simp[c232,AC.snd,End,dz,h1,h2,h3,h4,h5,dY,kl,q0,hv,q2,dw,mr,j2,yJ,ho,rH]
  ·have rH:¬(own:Int)<=(n:Int):=by omega
   have UR:ps[n]=q:=by rw[dp j4]at j3;simpa using j3
   by_cases TX:x.pl.length=q.au.length
   ·have:((x.pl.length:Int) !=(q.au.length:Int))=false:=by simp;omega
    simp[c232,AC.snd,End,dz,h1,h2,h3,h4,h5,dY,kl,q0,hv,q2,q3,dw,mr,j2,yJ,ho,rH,j3,UR,j4,ξ.av,this,TX,pv]
   ·have:((x.pl.length:Int) !=(q.au.length:Int))=true:=by simp;omega
    simp[c232,AC.snd,End,dz,h1,h2,h3,h4,h5,dY,kl,q0,hv,q2,q3,dw,mr,j2,yJ,ho,rH,j3,UR,j4,ξ.av,this,TX]
theorem air(hk:x.kind=10\/x.kind=11):μ (C u).gl (ab (C u)) c232.snd s1 (End dz BB (.n (dV ps own L x))):=by
 obtain⟨v,hv⟩:∃v,v=dV ps own L x:=⟨_,rfl⟩;rw[<-hv];rw[qS]at hv;rcases hk with hk|hk
 ·rw[hk]at q0;simp[hk]at hv;simp[c232,AC.snd,End,dz,h1,h2,h3,h4,h5,dY,kl,q0,hv]
 ·rw[hk]at q0;simp[hk]at hv;simp[c232,AC.snd,End,dz,h1,h2,h3,h4,h5,dY,kl,q0,hv]
theorem aip(hk:¬(x.kind=1\/x.kind=2\/x.kind=3\/x.kind=4\/x.kind=5\/x.kind=6\/x.kind=7\/x.kind=8\/x.kind=9\/x.kind=10\/x.kind=11)):μ (C u).gl (ab (C u)) c232.snd s1 (End dz BB (.n (dV ps own L x))):=by obtain⟨v,hv⟩:∃v,v=dV ps own L x:=⟨_,rfl⟩;rw[<-hv];rw[qS]at hv;simp only[not_or]at hk;obtain⟨pF,wE,rE,Hd,pG,Mo,Mp,Mq,Mr,TR,t_⟩:=hk;simp[pF,wE,Hd,rE,pG,Mo,Mp,Mq,Mr,TR,t_]at hv;simp[c232,AC.snd,End,dz,h1,h2,h3,h4,h5,dY,kl,q0,hv,eK pF,eK wE,eK Hd,eK rE,eK pG,eK Mo,eK Mp,eK Mq,eK Mr,eK TR,eK t_]
end
theorem f232{B:List θ}{ck id:Nat}(dE:τ)(mV:bm dE)(ps:List ξ)(dd:∀x∈ps,x.Ok)(dS:ps.length<1000000000000)(own:Nat)(b nb:Int)(es:List cU)(L:bT)
  (dw:B[ck]?=some (.cells [.list dE (ps.map ξ.av),.n own,.n nb])) (hid:B[id]?=some (.map (es.map bE))) (hs:fT es b nb L) (x:δ) (hx:x.Ok) (hxw:x.wt<1000000000000) (ext:List θ) (T:List Nat):
  kf u 232 [.κ ck 0,eJ id b,x.av] {ε:=B++ext,η:=T}=some (.n (dV ps own L x),{ε:=B++ext,η:=T}):=by
 have ψ:id<B.length:=by
  rcases di id B.length with h|h
  ·exact h
  ·rw[gW h]at hid;cases hid
 have abC:ck<B.length:=by
  rcases di ck B.length with h|h
  ·exact h
  ·rw[gW h]at dw;cases dw
 have jb:((B++ext)++[θ.cells x.cells])[id]?=some (.map (es.map bE)):=by rw[d_ (by simp;omega),d_ ψ];exact hid
 have rA:((B++ext)++[θ.cells x.cells])[ck]?=some (.cells [.list dE (ps.map ξ.av),.n own,.n nb]):=by rw[d_ (by simp;omega),d_ abC];exact dw
 have gj:((B++ext)++[θ.cells x.cells])[(B++ext).length]?=some (.cells x.cells):=by simp
 have eZ:id<(B++ext).length:=by simp;omega
 have abD:ck<(B++ext).length:=by simp;omega
 have q0:=cell0 x;have q2:=oq x;have kl:=δ.ll x;have yK:x.cells.map ν=x.cells:=by rw[<-fH,δ.zk]
 generalize hBB:B++ext=BB at*;refine dt (g:=dz) rfl rfl rfl ?_;have eG:[AV.κ ck 0,eJ id b,x.av].map (exp BB.length false)=[.κ ck 0,eJ id b,x.av]:=by simp only[ax,aI,δ.jI _ _ _ hx,eJ,exp,aX,eZ,abD,if_true]
 simp only[eG,dz,c232];have iT:=fun m'=>f191 (u:=u) jb hs x.name (by cases x;exact hx.1) [] m';simp only[dM]at iT;have eI:∀M:Mem,M.ν=ν:=fun _=>rfl;let K:St->Prop:=fun st=>st.e 0= .κ ck 0/\st.e 4= .ak 4 0 0/\st.q 4=some (0,.cells [.map id,.n b])/\st.e 5= .κ BB.length 0/\st.mem= {ε:=BB++[.cells x.cells],η:=[]};refine Ψ (K) (by simp[K,eJ,δ.av,bJ,kl,Mem.push,eI,ν,yK]) fun s1 ⟨h1,h2,h3,h4,h5⟩=>?_;have Ω:x.size.gu/\x.to.gu/\bm x.cp/\(∀p∈x.pl,p.Ok)/\eL x.pl+x.size.cnt+x.to.cnt<1000000000000:=by obtain⟨k,g,nm,cp,pl,size,to,cb,body,ce,els⟩:=x;simp only[δ.Ok]at hx;simp only[δ.wt]at hxw;exact⟨hx.2.2.2.1,hx.2.2.2.2.1,hx.2.1,hx.2.2.1,by simp only[δ.pl,δ.size,δ.to];omega⟩
 obtain⟨o1,o2,o3,o4,o5⟩:=Ω;have MN:=ag1 x.pl;have mq:∀T,kf u 275 [.agg [.map id,.n b],.agg x.size.four] {ε:=BB++[.cells x.cells],η:=T}=some (.n (x.size.err (iN L) 1),{ε:=BB++[.cells x.cells],η:=T}):=fun T=>by have:=f275 (u:=u) jb hs x.size o1.1 o1.2 (by omega) [] [eJ id b,x.size.av] rfl [] T;rwa[dM,ζ.fm]at this
 have ov:∀T,kf u 275 [.agg [.map id,.n b],.agg x.to.four] {ε:=BB++[.cells x.cells],η:=T}=some (.n (x.to.err (iN L) 1),{ε:=BB++[.cells x.cells],η:=T}):=fun T=>by have:=f275 (u:=u) jb hs x.to o2.1 o2.2 (by omega) [] [eJ id b,x.to.av] rfl [] T;rwa[dM,ζ.fm]at this
 have pz:∀p∈x.pl,∀T,kf u 274 [.agg [.map id,.n b],p.av] {ε:=BB++[.cells x.cells],η:=T}=some (.n (jg L p),{ε:=BB++[.cells x.cells],η:=T}):=fun p hp T=>by have:=f274 (u:=u) jb hs p (o4 p hp) (by have:=ρ.kP hp;omega) [] [eJ id b,p.av] rfl [] T;rwa[dM]at this
 have aj9:id<(BB++[θ.cells x.cells]).length:=by simp;omega
 have sP:Fix (BB++[θ.cells x.cells]).length (.fn (.func 274) [eJ id b] []):=by
  intro k bb hk;have:id<k:=by omega
  simp[exp,aX,Fn.below,eJ,this]
 have pv:∀T,kf u 273 [.list x.cp (x.pl.map ρ.av),.fn (.func 274) [.agg [.map id,.n b]] []] {ε:=BB++[.cells x.cells],η:=T}=some (.n (first (jg L) x.pl),{ε:=BB++[.cells x.cells],η:=T}):=fun T=>by have:=f273 (u:=u) (F:=jg L) sP x.cp o3 x.pl o4 (by omega) (fun p hp=>f274 (u:=u) jb hs p (o4 p hp) (by have:=ρ.kP hp;omega) [eJ id b] [p.av] rfl) [] T;rwa[dM]at this
 have abh:Fix (BB++[θ.cells x.cells]).length (.fn (.func 276) [] [.κ BB.length 0]):=by
  intro k bb hk;have:BB.length<k:=by simp at hk;omega
  simp[exp,aX,Fn.below,this]
 have mr:∀T,kf u 66 [.list dE (ps.map ξ.av),.fn (.func 276) [] [.κ BB.length 0]] {ε:=BB++[.cells x.cells],η:=T}=some (.n (Ee ps x.name),{ε:=BB++[.cells x.cells],η:=T}):=fun T=>by have:=f66 (u:=u) (q:=fun p=>p.name==x.name) abh dE mV ps dd dS (fun p hp=>f276 x gj p (dd p hp)) [] T;rwa[dM]at this
 have q1:=rh x;have q3:=ri x;have q4:=p9 x;have q8:=rj x;show μ (C u).gl (ab (C u)) c232.snd s1 (End dz BB (.n (dV ps own L x)));by_cases j1:x.kind=1
 ·exact aiq h1 h2 h3 h4 h5 jb rA gj hs iT mq ov pz pv mr q0 q1 q2 q3 q4 q8 kl j1
 by_cases Nr:x.kind=2\/x.kind=4
 ·exact ais h1 h2 h3 h4 h5 jb rA gj hs iT mq ov pz pv mr q0 q1 q2 q3 q4 q8 kl Nr
 by_cases j8:x.kind=8
 ·exact aix h1 h2 h3 h4 h5 jb rA gj hs iT mq ov pz pv mr q0 q1 q2 q3 q4 q8 kl j8
 by_cases j3:x.kind=3
 ·exact ait h1 h2 h3 h4 h5 jb rA gj hs iT mq ov pz pv mr q0 q1 q2 q3 q4 q8 kl j3
 by_cases j5:x.kind=5
 ·exact aiu h1 h2 h3 h4 h5 jb rA gj hs iT mq ov pz pv mr q0 q1 q2 q3 q4 q8 kl j5
 by_cases j6:x.kind=6
 ·exact aiv h1 h2 h3 h4 h5 jb rA gj hs iT mq ov pz pv mr q0 q1 q2 q3 q4 q8 kl j6
 by_cases j7:x.kind=7
 ·exact aiw h1 h2 h3 h4 h5 jb rA gj hs iT mq ov pz pv mr q0 q1 q2 q3 q4 q8 kl j7
 by_cases j9:x.kind=9
 ·exact aiy h1 h2 h3 h4 h5 jb rA gj hs iT mq ov pz pv mr q0 q1 q2 q3 q4 q8 kl j9
 by_cases Nq:x.kind=10\/x.kind=11
 ·exact air h1 h2 h3 h4 h5 jb rA gj hs iT mq ov pz pv mr q0 q1 q2 q3 q4 q8 kl Nq
 exact aip h1 h2 h3 h4 h5 jb rA gj hs iT mq ov pz pv mr q0 q1 q2 q3 q4 q8 kl (by omega)
end Go.Δ.Tz
