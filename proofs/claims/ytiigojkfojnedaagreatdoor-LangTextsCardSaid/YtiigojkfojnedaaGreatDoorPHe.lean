import Derived.Test.YtiigojkfojnedaaGreatDoorPHc
set_option linter.unusedVariables false
set_option linter.unusedSimpArgs false
set_option maxRecDepth 100000
set_option maxHeartbeats 8000000
open List renaming map_map->di,map_congr_left->dz,map_cons->ah,map_nil->aw,map_append->pJ,getElem_mem->cz,take_of_length_le->dY,take_length->lX,nil_append->cO,append_nil->dx,take_succ_eq_append_getElem->rO,foldl_append->ahB,append_assoc->cr,cons_append->eK
open Go.IntKind renaming wrap->aT
open Nat renaming lt_or_ge->bP,zero_add->ly
namespace Go.ab.Tz
open Go.ab
variable{u:Nat}
attribute [local simp] exec eG eu fz aF d_ fQ fe bq gN bT gF gS hU hZ AV.cells newVar hH rd wr gg single fy bF er dL κ bf RV.get ba dU jy
def _root_.Go.ab.δ.cb:δ->Γ
 | .mk _ _ _ _ _ _ _ c _ _ _=>c
def _root_.Go.ab.δ.ce:δ->Γ
 | .mk _ _ _ _ _ _ _ _ _ c _=>c
def _root_.Go.ab.δ.blocks(x:δ):List (Γ×List δ):=if cB x.kind then[(x.cb,x.body),(x.ce,x.aA)]else if cg x.kind then[(x.cb,x.body)]else[]
def e_(p:Γ×List δ):AV:= .list p.1 (δ.ψ p.2)
def h_(x:δ):AV:= .list (if cg x.kind then .any else .nil) (x.blocks.map e_)
theorem φ.vK(bs:List θ)(n:Nat)(p:φ)(h:p.Ok):ax bs n 8 p.av=p.av:=by
 have:(p.ix.map ζ.av).map (ax bs n 8)=p.ix.map ζ.av:=by rw[di];exact dz fun x hx=>ζ.vK bs n 8 x (h.2.2 x hx).1
 simp only[φ.av,BP,ah,aw,zA,fu h.2.1,this,xB]
theorem ζ.Qq(bs:List θ)(n:Nat)(x:ζ)(h:x.Ok):x.four.map (ax bs n 8)=x.four:=by have:=ζ.vK bs n 8 x h;rw[ζ.gA,BP]at this;simpa using this
theorem δ.EG(bs:List θ)(n:Nat)(x:δ):x.Ok->x.cells.map (ax bs n 8)=x.cells:=by
 refine δ.iB (Q:=fun x=>x.Ok->x.cells.map (ax bs n 8)=x.cells) (fun kk g nm cp pl size to cb body ce aA h1 h2 h=>?_) x;simp only[δ.Ok]at h;obtain⟨-,k1,k2,k3,k4,k5,k6,k7,k8⟩:=h;have e1:(pl.map φ.av).map (ax bs n 8)=pl.map φ.av:=by rw[di];exact dz fun x hx=>φ.vK bs n x (k2 x hx)
 have go:∀l:List δ,δ.cW l->(∀y∈l,y.Ok->y.cells.map (ax bs n 8)=y.cells)->(δ.ψ l).map (ax bs n 8)=δ.ψ l:=by intro l hl hy;rw[δ.dZ,di];refine dz fun y hm=>?_;simp only[Function.comp,δ.av,BP,hy y hm (δ.gb hl y hm)]
 simp only[δ.cells,pJ,ah,aw,zA,fu k1,fu k5,fu k7,e1,ζ.Qq _ _ _ k3.1,ζ.Qq _ _ _ k4.1,go body k6 h1,go aA k8 h2,dU,xB]
theorem JS(bs:List θ)(n:Nat){c:Γ}(hc:aJ c){l:List δ}(h:δ.cW l):ax bs n 8 (.list c (δ.ψ l))= .list c (δ.ψ l):=by
 have:(δ.ψ l).map (ax bs n 8)=δ.ψ l:=by rw[δ.dZ,di];exact dz fun y hy=>by simp only[Function.comp,δ.av,BP,δ.EG bs n y (δ.gb h y hy)]
 rw[zA,fu hc,this]
theorem δ.zj{x:δ}(h:x.Ok):aJ x.cb/\aJ x.ce:=by obtain⟨k,g,nm,cp,pl,size,to,cb,body,ce,aA⟩:=x;simp only[δ.Ok]at h;exact⟨h.2.2.2.2.2.1,h.2.2.2.2.2.2.2.1⟩
theorem f108(x:δ)(hx:x.Ok)(m:Mem):kf u 108 [x.av] m=some (h_ x,m):=by
 have fM:=δ.yI hx;have nX:=δ.zj hx;refine bz (g:=EN) rfl rfl rfl ?_;simp only[ah,aw,δ.dH _ _ _ hx,EN,Od];obtain⟨k,g,nm,cp,pl,⟨k1,n1,s1,c1,l1⟩,⟨k2,n2,s2,c2,l2⟩,cb,body,ce,aA⟩:=x;simp only[δ.body,δ.aA,δ.cb,δ.ce]at fM nX;have z1:∀bs n,ax bs n 8 (.list .full [.list cb (δ.ψ body)])= .list .any [.list cb (δ.ψ body)]:=fun bs n=>by rw[zA];simp only[ah,aw,JS bs n nX.1 fM.1];rfl
 have z2:∀bs n,ax bs n 8 (.list .full [.list cb (δ.ψ body),.list ce (δ.ψ aA)])= .list .any [.list cb (δ.ψ body),.list ce (δ.ψ aA)]:=fun bs n=>by rw[zA];simp only[ah,aw,JS bs n nX.1 fM.1,JS bs n nX.2 fM.2];rfl
 have z0:∀bs n,ax bs n 8 (.list .nil [])= .list .nil []:=fun bs n=>rfl;have n1:cL (δ.ψ body)=δ.ψ body:=by rw[fC,δ.dZ,di];exact dz fun y _=>by simp only[Function.comp,δ.av,ρ,δ.yF]
 have n2:cL (δ.ψ aA)=δ.ψ aA:=by rw[fC,δ.dZ,di];exact dz fun y _=>by simp only[Function.comp,δ.av,ρ,δ.yF]
 by_cases e4:k=4
 ·subst e4;simp[δ.av,δ.cells,ζ.four,δ.kind,δ.body,δ.aA,δ.cb,δ.ce,δ.blocks,h_,e_,cg,cB,shaped,AV.one,Mem.ρ,ρ,n1,n2,z1,z2,z0]
 by_cases e8:k=8
 ·subst e8;simp[δ.av,δ.cells,ζ.four,δ.kind,δ.body,δ.aA,δ.cb,δ.ce,δ.blocks,h_,e_,cg,cB,shaped,AV.one,Mem.ρ,ρ,n1,n2,z1,z2,z0]
 by_cases ng:k=10
 ·subst ng;simp[δ.av,δ.cells,ζ.four,δ.kind,δ.body,δ.aA,δ.cb,δ.ce,δ.blocks,h_,e_,cg,cB,shaped,AV.one,Mem.ρ,ρ,n1,n2,z1,z2,z0]
 by_cases e7:k=7
 ·subst e7;simp[δ.av,δ.cells,ζ.four,δ.kind,δ.body,δ.aA,δ.cb,δ.ce,δ.blocks,h_,e_,cg,cB,shaped,AV.one,Mem.ρ,ρ,n1,n2,z1,z2,z0]
 by_cases sc:k=11
 ·subst sc;simp[δ.av,δ.cells,ζ.four,δ.kind,δ.body,δ.aA,δ.cb,δ.ce,δ.blocks,h_,e_,cg,cB,shaped,AV.one,Mem.ρ,ρ,n1,n2,z1,z2,z0]
 simp[δ.av,δ.cells,ζ.four,δ.kind,δ.body,δ.aA,δ.cb,δ.ce,δ.blocks,h_,e_,cg,cB,e4,e8,ng,e7,sc,dR,z0]
theorem DV{x:δ}{p:Γ×List δ}(h:p∈x.blocks):(p=(x.cb,x.body))\/(p=(x.ce,x.aA)):=by
 unfold δ.blocks at h;split at h
 ·simpa using h
 ·split at h
  ·exact .inl (by simpa using h)
  ·simp at h
def lZ(x d:Nat):Nat:=if x=0 then 0 else x+d-1
def qM(l:List (Γ×List δ)):Nat:=match l with
 |[]=>0
 |p::l=>max (δ.cH p.2) (qM l)
theorem W9(x:δ):x.deep=1+qM x.blocks:=by obtain⟨k,g,nm,cp,pl,size,to,cb,body,ce,aA⟩:=x;simp only[δ.deep,δ.blocks,δ.kind,δ.body,δ.aA,δ.cb,δ.ce];by_cases hb:cg k=true<;>by_cases he:cB k=true<;>simp[qM,hb,he];exfalso;simp only[cg,cB,decide_eq_true_eq]at hb he;omega
theorem Wd(l:List (Γ×List δ))(i:Nat)(h:i<l.length):qM (l.take (i+1))=max (qM (l.take i)) (δ.cH l[i].2):=by
 induction l generalizing i with
 |nil=>simp at h
 |cons a l ih=>
  cases i with
  |zero=>simp[qM]
  |succ i=>simp only[List.take_succ_cons,qM,List.getElem_cons_succ,ih i (by simpa using h),Nat.max_assoc]
theorem DU{x:δ}(hx:x.Ok){p:Γ×List δ}(h:p∈x.blocks):aJ p.1/\δ.cW p.2/\δ.bX p.2+3<=x.wt:=by
 have h1:=δ.zj hx;have h2:=δ.yI hx;have h3:=δ.vm x;rcases DV h with rfl|rfl
 ·exact⟨h1.1,h2.1,by simp only;omega⟩
 ·exact⟨h1.2,h2.2,by simp only;omega⟩
theorem f192(l:List δ):∀(c:Γ),aJ c->δ.cW l->∀d:Nat,0<d->δ.bX l+d<1000000000000->∀m,kf u 192 [.list c (δ.ψ l),.n d] m=some (.n (lZ (δ.cH l) d:Nat),m):=by
 refine δ.lists (P:=fun l=>∀(c:Γ),aJ c->δ.cW l->∀d:Nat,0<d->δ.bX l+d<1000000000000->∀m,kf u 192 [.list c (δ.ψ l),.n d] m=some (.n (lZ (δ.cH l) d:Nat),m)) (fun l ih c hc Θ d hd hw m=>?_) l;refine bz (g:=Fo) rfl rfl rfl ?_;simp only[ah,aw,np hc Θ];simp only[exp,Fo,OH];have gO:=δ.uh l;let K:St->Prop:=fun st=>st.e 1= .n d/\st.mem= {ε:=m.ε,η:=[]};refine χ (fun st=>K st/\st.e 0= .list c (δ.ψ l)) (by simp[K]) fun s1 ⟨⟨h1,h2⟩,h3⟩=>?_;refine χ (fun st=>K st/\st.e 0= .list c (δ.ψ l)/\st.e 5= .n 0) (by simp[K,h1,h2,h3]) fun s1 ⟨⟨h1,h2⟩,h3,h4⟩=>?_;refine aZ (fun st=>K st/\st.e 5= .n (lZ (δ.cH l) d:Nat)) ?_ fun s2 ⟨⟨h1,h2⟩,h3⟩=>by simp[h2,h3]
 let I:Nat->St->Prop:=fun i st=>K st/\st.e 10= .list c (δ.ψ l)/\st.e 11= .n l.length/\st.e 12= .n i/\st.e 5= .n (lZ (δ.cH (l.take i)) d:Nat);refine χ (I 0) (by simp[I,K,h1,h2,h3,h4,ke,δ.cH,lZ]) fun s4 hI=>?_;refine κ.block (κ.upto (I:=I) l.length hI (fun i st ν τ=>?_) (fun st τ=>?_))
 ·obtain⟨⟨h1,h2⟩,q1,q2,q3,q4⟩:=τ;have ej:aT .i64 ((i:Int)+1)=(i:Int)+1:=wrap_i64 (by omega) (by omega);have mO:aT .i64 ((d:Int)+1)=(d:Int)+1:=wrap_i64 (by omega) (by omega);have hg:=vh l i ν;have hm:l[i]∈l:=cz ν;have gD:=δ.gb Θ _ hm;have kL:=δ.my hm;have qP:=f108 (u:=u) l[i] gD;have t2:=P3 l i ν;have Za:=W9 l[i];have du:=δ.i_ l[i];have jX:l[i].cells.take 14=l[i].cells:=dY (by omega);have gZ:∀p∈l[i].blocks,∀m,kf u 192 [.list p.1 (δ.ψ p.2),.n ((d:Int)+1)] m=some (.n (lZ (δ.cH p.2) (d+1):Nat),m):=by
   intro p hp m;have hf:=DU gD hp;rcases DV hp with rfl|rfl
   ·dsimp only at hf;clear mO ej;simpa using(ih _ hm).1 _ hf.1 hf.2.1 (d+1) (by omega) (by omega) m
   ·dsimp only at hf;clear mO ej;simpa using(ih _ hm).2 _ hf.1 hf.2.1 (d+1) (by omega) (by omega) m
  generalize l[i]=y at*;simp only[δ.av]at hg qP;have GO:∀j (hj:j<y.blocks.length),δ.cH (y.blocks[j]).2+3<=y.wt:=fun j hj=>by have h5:=(DU gD (cz hj)).2.2;have h6:=(δ.xq (y.blocks[j]).2).2;omega
  have eT:y.blocks.length<=2:=by unfold δ.blocks;split<;>(try split)<;>simp
  let J:St->Prop:=fun st=>K st/\st.e 10= .list c (δ.ψ l)/\st.e 11= .n l.length/\st.e 12= .n i;let d0:=lZ (δ.cH (l.take i)) d;refine χ (fun st=>J st/\st.e 5= .n d0/\st.e 13= .bool true) (by simp[J,d0,K,h1,h2,q1,q2,q3,q4,ν]) fun s5 ⟨⟨⟨h1,h2⟩,q1,q2,q3⟩,q4,q5⟩=>?_;refine χ (fun st=>J st/\st.e 5= .n d0) (by simp[J,K,h1,h2,q1,q2,q3,q4,q5]) fun s5 ⟨⟨⟨h1,h2⟩,q1,q2,q3⟩,q4⟩=>?_;refine aZ (fun st=>J st/\st.e 5= .n (lZ (δ.cH (l.take (i+1))) d:Nat)) ?_ fun s6 ⟨⟨⟨h1,h2⟩,q1,q2,q3⟩,q4⟩=>by simp[I,K,h1,h2,q1,q2,q3,q4,ej]
  refine κ.block ?_;let J2:St->Prop:=fun st=>J st/\∃v,st.e 7= .Ω 7 v 0/\st.q 7=some (v,.cells y.cells);refine χ (fun st=>J2 st/\st.e 5= .n d0) (by simp[J2,J,K,h1,h2,q1,q2,q3,q4,hg,du,jX,ν,ke]) fun s5 ⟨⟨⟨⟨h1,h2⟩,q1,q2,q3⟩,v,q5,q6⟩,q4⟩=>?_;refine χ (fun st=>J2 st/\st.e 5= .n (max d0 d:Nat)) (by
   simp[J2,J,K,h1,h2,q1,q2,q3,q4,q5,q6]
   split<;>omega) fun s5 ⟨⟨⟨⟨h1,h2⟩,q1,q2,q3⟩,v,q5,q6⟩,q4⟩=>?_
  let L2:Nat->St->Prop:=fun j st=>J st/\st.e 20=h_ y/\st.e 21= .n y.blocks.length/\st.e 22= .n j/\st.e 5= .n (max (max d0 d) (lZ (qM (y.blocks.take j)) (d+1)):Nat);refine χ (L2 0) (by
   simp only[h_]at qP
   simp[L2,J,K,h1,h2,q1,q2,q3,q4,q5,q6,qP,du,jX,h_,qM,lZ]) fun s6 hL=>?_
  have qY:max (max d0 d) (lZ (qM y.blocks) (d+1))=lZ (δ.cH (l.take (i+1))) d:=by
   rw[t2,Za];simp only[d0,lZ]
   (repeat' split)<;>omega
  refine κ.block (κ.upto (I:=L2) y.blocks.length hL (fun j st cY τ=>?_) (fun st τ=>?_))
  ·obtain⟨⟨⟨h1,h2⟩,q1,q2,q3⟩,z1,z2,z3,z4⟩:=τ;have pz:aT .i64 ((j:Int)+1)=(j:Int)+1:=wrap_i64 (by omega) (by omega);have hb:=gZ _ (cz cY);have xO:=Wd y.blocks j cY;simp only[h_,e_]at z1;simp[L2,J,K,L1,h1,h2,q1,q2,q3,z1,z2,z3,z4,cY,pz,mO,hb,h_,e_];have me:lZ (qM (y.blocks.take (j+1))) (d+1)=max (lZ (qM (y.blocks.take j)) (d+1)) (lZ (δ.cH (y.blocks[j]).2) (d+1)):=by rw[xO];simp only[lZ];(repeat' split)<;>omega
   rw[me];split<;>omega
  ·obtain⟨⟨⟨h1,h2⟩,q1,q2,q3⟩,z1,z2,z3,z4⟩:=τ;simp only[lX,qY]at z4;simp[J,K,L1,h1,h2,q1,q2,q3,z1,z2,z3,z4]
 ·obtain⟨⟨h1,h2⟩,q1,q2,q3,q4⟩:=τ;simp only[lX]at q4;simp[K,Sx,h1,h2,q1,q2,q3,q4]
def oW(u:Nat){σ:Type}(Bk:σ->List θ)(fv:AV)(x:AV)(f:σ->σ)(r:Bool):Prop:=∀s ext T,aS (C u) fv [x] {ε:=Bk s++ext,η:=T}=some (.bool r,{ε:=Bk (f s)++ext,η:=T})
theorem f283{σ:Type}{Bk:σ->List θ}{N:Nat}(hN:∀s,(Bk s).length=N){fv:AV}{f:δ->σ->σ}(hf:Fix N fv)(c:Γ)(hc:aJ c)(l:List δ)(hl:δ.cW l)(hlen:l.length<1000000000000)
  (h:∀x∈l,oW u Bk fv x.av (f x) false):∀s ext T,kf u 283 [.list c (δ.ψ l),fv] {ε:=Bk s++ext,η:=T}=some (.n (-1),{ε:=Bk (l.foldl (fun s x=>f x s) s)++ext,η:=T}):=by
 intro s ext T;have e0:(Bk s++ext).length=N+ext.length:=by simp[hN]
 refine lO (g:=Gk) rfl rfl rfl (by simp[hN]) ?_;simp only[cO,dx,ah,aw,np hc hl,hf _ false (show N<=(Bk s++ext).length by omega),Gk,Pm];let K:σ->St->Prop:=fun s st=>st.e 1=fv/\st.e 0= .list c (δ.ψ l)/\st.mem= {ε:=Bk s++ext,η:=[]};refine χ (K s) (by simp[K]) fun s1 ⟨h1,h2,h3⟩=>?_;refine aZ (K (l.foldl (fun s x=>f x s) s)) ?_ fun s2 ⟨h1,h2,h3⟩=>?_
 ·let I:Nat->St->Prop:=fun i st=>K ((l.take i).foldl (fun s x=>f x s) s) st/\st.e 7= .n l.length/\st.e 8= .n i;refine χ (I 0) (by simp[I,K,h1,h2,h3,ke]) fun s4 hI=>?_;refine κ.block (κ.loop (I:=I) l.length hI fun i st hi τ=>?_);obtain⟨⟨h1,h2,h3⟩,q1,q2⟩:=τ;rcases bP i l.length with ν|cD
  ·left;refine⟨ν,?_⟩;have hw:aT .i64 ((i:Int)+1)=(i:Int)+1:=wrap_i64 (by omega) (by omega);have hg:=vh l i ν;have hx:=h _ (cz ν) ((l.take i).foldl (fun s x=>f x s) s) ext [];have ht:(l.take (i+1)).foldl (fun s x=>f x s) s=f l[i] ((l.take i).foldl (fun s x=>f x s) s):=by rw[rO ν,ahB];rfl
   have du:=δ.i_ l[i];have jX:l[i].cells.take 14=l[i].cells:=dY (by omega);simp only[δ.av]at hg hx;simp[I,K,L8,h1,h2,h3,q1,q2,ν,hg,hx,hw,ke,du,jX,ht]
  ·right;have:i=l.length:=by omega
   subst this;simp only[lX]at h3;simp[K,L8,h1,h2,h3,q1,q2]
 ·simp[h1,h2,h3]
theorem f247{σ:Type}{Bk:σ->List θ}{N:Nat}(hN:∀s,(Bk s).length=N){fv:AV}{f:δ->σ->σ}(hf:Fix N fv)(c:Γ)(hc:aJ c)(l:List δ)(hl:δ.cW l)(hlen:l.length<1000000000000)
  (h:∀x∈l,oW u Bk fv x.av (f x) false):∀s ext T,kf u 247 [.list c (δ.ψ l),fv] {ε:=Bk s++ext,η:=T}=some (.bool false,{ε:=Bk (l.foldl (fun s x=>f x s) s)++ext,η:=T}):=by
 intro s ext T;have e0:(Bk s++ext).length=N+ext.length:=by simp[hN]
 have hx:=f283 (u:=u) hN hf c hc l hl hlen h s ext [];refine lO (g:=FX) rfl rfl rfl (by simp[hN]) ?_;simp only[cO,dx,ah,aw,np hc hl,hf _ false (show N<=(Bk s++ext).length by omega),FX,O7];simp[hx]
theorem f208{σ:Type}{Bk:σ->List θ}{N:Nat}(hN:∀s,(Bk s).length=N){F:Fn}{fa fc:List AV}{f:δ->σ->σ}(hf:Fix N (.fn F fa fc))(nW:fa.map ρ=fa)(kK:fc.map ρ=fc)(c:Γ)(hc:aJ c)(l:List δ)(hl:δ.cW l)(hlen:l.length<1000000000000)
  (h:∀x∈l,oW u Bk (.fn F fa fc) x.av (f x) true):∀s ext T,kf u 208 [.list c (δ.ψ l),(.fn F fa fc)] {ε:=Bk s++ext,η:=T}=some (.bool true,{ε:=Bk (l.foldl (fun s x=>f x s) s)++ext,η:=T}):=by
 intro s ext T;have e0:(Bk s++ext).length=N+ext.length:=by simp[hN]
 let jJ:σ->List θ:=fun s=>Bk s++ext++[.cells [.fn F fa fc]];have sr:∀s,(jJ s).length=N+ext.length+1:=fun s=>by simp[jJ,hN];omega
 have Cc:Fix (N+ext.length+1) (.fn (.func 248) [] [.μ (N+ext.length) 0]):=by intro k b hk;simp[exp,bn,Fn.below];omega
 have Ko:∀x∈l,oW u jJ (.fn (.func 248) [] [.μ (N+ext.length) 0]) x.av (f x) false:=by
  intro x hx s ext' T';have hd:(jJ s++ext')[N+ext.length]?=some (.cells [.fn F fa fc]):=by
   have:N+ext.length=(Bk s++ext).length:=by simp[hN]
   simp only[jJ,cr,this];simp
  have dQ:=h x hx s (ext++[.cells [.fn F fa fc]]++ext') [];have du:=δ.i_ x;refine lO (g:=FY) rfl rfl rfl (by simp[sr]) ?_;have a0:N+ext.length<(jJ s++ext').length:=by simp[sr];omega
  simp only[cO,eK,ah,aw,δ.dH _ _ _ (δ.gb hl x hx),exp,a0,if_true,FY,O8];have e1:Bk s++(ext++[.cells [.fn F fa fc]]++ext')=jJ s++ext':=by simp[jJ]
  have e2:Bk (f x s)++(ext++[.cells [.fn F fa fc]]++ext')=jJ (f x s)++ext':=by simp[jJ]
  rw[e1,e2]at dQ;simp only[δ.av]at dQ⊢;have jX:x.cells.take 14=x.cells:=dY (by omega);simp[du,hd,dQ,jX]
 have hx:=f247 (u:=u) sr Cc c hc l hl hlen Ko s [] [];simp only[jJ,dx,cr]at hx;refine lO (g:=FC) rfl rfl rfl (by simp[hN]) ?_;simp only[cO,dx,ah,aw,np hc hl,hf _ false (show N<=(Bk s++ext).length by omega),FC,c208];simp[Mem.push,Mem.ρ,ρ,fC,nW,kK,hN,hx]
theorem JJ{n:Nat}{k:Bool}{cc:Γ}(hc:aJ cc){l:List (Γ×List δ)}(h:∀p∈l,aJ p.1/\δ.cW p.2):exp n k (.list cc (l.map e_))= .list cc (l.map e_):=by
 have:bn n k (l.map e_)=l.map e_:=by rw[fm,di];exact dz fun p hp=>np (h p hp).1 (h p hp).2
 simp only[exp,fu hc,this]
theorem f282{σ:Type}{Bk:σ->List θ}{N:Nat}(hN:∀s,(Bk s).length=N){fv:AV}{f:Γ×List δ->σ->σ}(hf:Fix N fv)(c:Γ)(hc:aJ c)(l:List (Γ×List δ))(hl:∀p∈l,aJ p.1/\δ.cW p.2)(hlen:l.length<1000000000000)
  (h:∀x∈l,oW u Bk fv (e_ x) (f x) false):∀s ext T,kf u 282 [.list c (l.map e_),fv] {ε:=Bk s++ext,η:=T}=some (.n (-1),{ε:=Bk (l.foldl (fun s x=>f x s) s)++ext,η:=T}):=by
 intro s ext T;have e0:(Bk s++ext).length=N+ext.length:=by simp[hN]
 refine lO (g:=Gj) rfl rfl rfl (by simp[hN]) ?_;simp only[cO,dx,ah,aw,JJ hc hl,hf _ false (show N<=(Bk s++ext).length by omega),Gj,Pl];let K:σ->St->Prop:=fun s st=>st.e 1=fv/\st.e 0= .list c (l.map e_)/\st.mem= {ε:=Bk s++ext,η:=[]};refine χ (K s) (by simp[K]) fun s1 ⟨h1,h2,h3⟩=>?_;refine aZ (K (l.foldl (fun s x=>f x s) s)) ?_ fun s2 ⟨h1,h2,h3⟩=>by simp[h1,h2,h3]
 let I:Nat->St->Prop:=fun i st=>K ((l.take i).foldl (fun s x=>f x s) s) st/\st.e 7= .n l.length/\st.e 8= .n i;refine χ (I 0) (by simp[I,K,h1,h2,h3]) fun s4 hI=>?_;refine κ.block (κ.loop (I:=I) l.length hI fun i st hi τ=>?_);obtain⟨⟨h1,h2,h3⟩,q1,q2⟩:=τ;rcases bP i l.length with ν|cD
 ·left;refine⟨ν,?_⟩;have hw:aT .i64 ((i:Int)+1)=(i:Int)+1:=wrap_i64 (by omega) (by omega);have hx:=h _ (cz ν) ((l.take i).foldl (fun s x=>f x s) s) ext [];have ht:(l.take (i+1)).foldl (fun s x=>f x s) s=f l[i] ((l.take i).foldl (fun s x=>f x s) s):=by rw[rO ν,ahB];rfl
  simp only[e_]at hx h2;simp[I,K,L7,h1,h2,h3,q1,q2,ν,hx,hw,ht,e_]
 ·right;have:i=l.length:=by omega
  subst this;simp only[lX]at h3;simp[K,L7,h1,h2,h3,q1,q2]
theorem f245{σ:Type}{Bk:σ->List θ}{N:Nat}(hN:∀s,(Bk s).length=N){fv:AV}{f:Γ×List δ->σ->σ}(hf:Fix N fv)(c:Γ)(hc:aJ c)(l:List (Γ×List δ))(hl:∀p∈l,aJ p.1/\δ.cW p.2)(hlen:l.length<1000000000000)
  (h:∀x∈l,oW u Bk fv (e_ x) (f x) false):∀s ext T,kf u 245 [.list c (l.map e_),fv] {ε:=Bk s++ext,η:=T}=some (.bool false,{ε:=Bk (l.foldl (fun s x=>f x s) s)++ext,η:=T}):=by
 intro s ext T;have e0:(Bk s++ext).length=N+ext.length:=by simp[hN]
 have hx:=f282 (u:=u) hN hf c hc l hl hlen h s ext [];refine lO (g:=FV) rfl rfl rfl (by simp[hN]) ?_;simp only[cO,dx,ah,aw,JJ hc hl,hf _ false (show N<=(Bk s++ext).length by omega),FV,O5];simp[hx]
theorem f206{σ:Type}{Bk:σ->List θ}{N:Nat}(hN:∀s,(Bk s).length=N){F:Fn}{fa fc:List AV}{f:Γ×List δ->σ->σ}(hf:Fix N (.fn F fa fc))(nW:fa.map ρ=fa)(kK:fc.map ρ=fc)(c:Γ)(hc:aJ c)(l:List (Γ×List δ))(hl:∀p∈l,aJ p.1/\δ.cW p.2)(hlen:l.length<1000000000000)
  (h:∀x∈l,oW u Bk (.fn F fa fc) (e_ x) (f x) true):∀s ext T,kf u 206 [.list c (l.map e_),(.fn F fa fc)] {ε:=Bk s++ext,η:=T}=some (.bool true,{ε:=Bk (l.foldl (fun s x=>f x s) s)++ext,η:=T}):=by
 intro s ext T;have e0:(Bk s++ext).length=N+ext.length:=by simp[hN]
 let jJ:σ->List θ:=fun s=>Bk s++ext++[.cells [.fn F fa fc]];have sr:∀s,(jJ s).length=N+ext.length+1:=fun s=>by simp[jJ,hN];omega
 have Cc:Fix (N+ext.length+1) (.fn (.func 246) [] [.μ (N+ext.length) 0]):=by intro k b hk;simp[exp,bn,Fn.below];omega
 have Ko:∀x∈l,oW u jJ (.fn (.func 246) [] [.μ (N+ext.length) 0]) (e_ x) (f x) false:=by
  intro x hx s ext' T';have hd:(jJ s++ext')[N+ext.length]?=some (.cells [.fn F fa fc]):=by
   have:N+ext.length=(Bk s++ext).length:=by simp[hN]
   simp only[jJ,cr,this];simp
  have dQ:=h x hx s (ext++[.cells [.fn F fa fc]]++ext') [];refine lO (g:=FW) rfl rfl rfl (by simp[sr]) ?_;have a0:N+ext.length<(jJ s++ext').length:=by simp[sr];omega
  have hb:exp (jJ s++ext').length false (e_ x)=e_ x:=np (hl x hx).1 (hl x hx).2;simp only[cO,eK,ah,aw,hb];simp only[exp,a0,if_true,FW,O6];have e1:Bk s++(ext++[.cells [.fn F fa fc]]++ext')=jJ s++ext':=by simp[jJ]
  have e2:Bk (f x s)++(ext++[.cells [.fn F fa fc]]++ext')=jJ (f x s)++ext':=by simp[jJ]
  rw[e1,e2]at dQ;simp[hd,dQ]
 have hx:=f245 (u:=u) sr Cc c hc l hl hlen Ko s [] [];simp only[jJ,dx,cr]at hx;refine lO (g:=FA) rfl rfl rfl (by simp[hN]) ?_;simp only[cO,dx,ah,aw,JJ hc hl,hf _ false (show N<=(Bk s++ext).length by omega),FA,c206];simp[Mem.push,Mem.ρ,ρ,fC,nW,kK,hN,hx]
mutual
def vP{σ:Type}(f:δ->σ->σ):δ->σ->σ
 | .mk k g nm cp pl size to cb body ce aA,s=>if cg k then(if cB k then qV f aA (qV f body (f (.mk k g nm cp pl size to cb body ce aA) s))else qV f body (f (.mk k g nm cp pl size to cb body ce aA) s))else f (.mk k g nm cp pl size to cb body ce aA) s
def qV{σ:Type}(f:δ->σ->σ):List δ->σ->σ
 |[],s=>s
 |x::l,s=>qV f l (vP f x s)
end
theorem QL{σ:Type}(f:δ->σ->σ)(l:List δ)(s:σ):qV f l s=l.foldl (fun s x=>vP f x s) s:=by
 induction l generalizing s with
 |nil=>rfl
 |cons a l ih=>simp only[qV,List.foldl_cons,ih]
theorem Yi{σ:Type}(f:δ->σ->σ)(x:δ)(s:σ):vP f x s=x.blocks.foldl (fun s p=>qV f p.2 s) (f x s):=by obtain⟨k,g,nm,cp,pl,size,to,cb,body,ce,aA⟩:=x;simp only[vP,δ.blocks,δ.kind,δ.body,δ.aA,δ.cb,δ.ce];by_cases hb:cg k=true<;>by_cases he:cB k=true<;>simp[hb,he];exfalso;simp only[cg,cB,decide_eq_true_eq]at hb he;omega
section
variable{σ:Type}{Bk:σ->List θ}{N:Nat}{F:Fn}{fa fc:List AV}{f:δ->σ->σ}
def mw(Bk:σ->List θ)(n:Nat)(e0:List θ)(yv:AV):σ->List θ:=fun s=>Bk s++e0++[.cells [yv],.cells [.fn (.func 205) [] [.μ n 0,.μ (n+1) 0]]]
theorem f205(hN:∀s,(Bk s).length=N)(e0:List θ)(hf:Fix N (.fn F fa fc))(hy:∀x:δ,x.Ok->oW u Bk (.fn F fa fc) x.av (f x) true)(x:δ):x.Ok->x.wt<1000000000000→
  oW u (mw Bk (N+e0.length) e0 (.fn F fa fc)) (.fn (.func 205) [] [.μ (N+e0.length) 0,.μ (N+e0.length+1) 0]) x.av (vP f x) true:=by
 have su:∀s,(mw Bk (N+e0.length) e0 (.fn F fa fc) s).length=N+e0.length+2:=fun s=>by simp[mw,hN];omega
 have uI:Fix (N+e0.length+2) (.fn (.func 205) [] [.μ (N+e0.length) 0,.μ (N+e0.length+1) 0]):=by intro k b hk;simp[exp,bn,Fn.below];omega
 have Zm:Fix (N+e0.length+2) (.fn (.func 207) [] [.μ (N+e0.length+1) 0]):=by intro k b hk;simp[exp,bn,Fn.below];omega
 have d0:∀s ext,(mw Bk (N+e0.length) e0 (.fn F fa fc) s++ext)[N+e0.length]?=some (.cells [.fn F fa fc]):=fun s ext=>by
  have:N+e0.length=(Bk s++e0).length:=by simp[hN]
  simp only[mw,cr,this];simp
 have d1:∀s ext,(mw Bk (N+e0.length) e0 (.fn F fa fc) s++ext)[N+e0.length+1]?=some (.cells [.fn (.func 205) [] [.μ (N+e0.length) 0,.μ (N+e0.length+1) 0]]):=fun s ext=>by
  have h1:N+e0.length=(Bk s++e0).length:=by simp[hN]
  have h2:((Bk s++e0)++([θ.cells [.fn F fa fc],.cells [.fn (.func 205) [] [.μ (N+e0.length) 0,.μ (N+e0.length+1) 0]]]++ext))[(Bk s++e0).length+1]?=some (.cells [.fn (.func 205) [] [.μ (N+e0.length) 0,.μ (N+e0.length+1) 0]]):=by rw[List.getElem?_append_right (by omega)];simp
  simp only[mw,cr]at h2⊢;rw[h1]at h2⊢;simpa using h2
 refine δ.iB (Q:=fun x=>x.Ok->x.wt<1000000000000->oW u (mw Bk (N+e0.length) e0 (.fn F fa fc)) (.fn (.func 205) [] [.μ (N+e0.length) 0,.μ (N+e0.length+1) 0]) x.av (vP f x) true) (fun k g nm cp pl size to cb body ce aA h1 h2 Θ hw=>?_) x;have hyx:=hy _ Θ;have du:=δ.i_ (.mk k g nm cp pl size to cb body ce aA);have QN:=f108 (u:=u) _ Θ;have GY:=Yi f (.mk k g nm cp pl size to cb body ce aA);have uD:=fun p hp=>DU Θ (p:=p) hp;have h7:∀p∈(δ.mk k g nm cp pl size to cb body ce aA).blocks,oW u (mw Bk (N+e0.length) e0 (.fn F fa fc)) (.fn (.func 207) [] [.μ (N+e0.length+1) 0]) (e_ p) (qV f p.2) true:=by
  intro p hp s ext T;have zP:=uD p hp;have oE:∀y∈p.2,oW u (mw Bk (N+e0.length) e0 (.fn F fa fc)) (.fn (.func 205) [] [.μ (N+e0.length) 0,.μ (N+e0.length+1) 0]) y.av (vP f y) true:=by
   intro y mj;have hyw:=δ.my mj;rcases DV hp with rfl|rfl
   ·exact h1 y mj (δ.gb zP.2.1 y mj) (by omega)
   ·exact h2 y mj (δ.gb zP.2.1 y mj) (by omega)
  have Z7:=δ.uh p.2;have hx:=f208 (u:=u) su uI rfl rfl p.1 zP.1 p.2 zP.2.1 (by omega) oE s ext [];rw[<-QL]at hx;refine lO (g:=FB) rfl rfl rfl (by simp[su]) ?_;have a0:N+e0.length+1<(mw Bk (N+e0.length) e0 (.fn F fa fc) s++ext).length:=by simp[su];omega
  have hb:exp (mw Bk (N+e0.length) e0 (.fn F fa fc) s++ext).length false (e_ p)=e_ p:=np zP.1 zP.2.1;simp only[cO,eK,ah,aw,hb];simp only[exp,a0,if_true,FB,ON];simp[d1,hx,e_]
 have eT:(δ.mk k g nm cp pl size to cb body ce aA).blocks.length<=2:=by unfold δ.blocks;split<;>(try split)<;>simp
 generalize bO:δ.mk k g nm cp pl size to cb body ce aA=x at*;intro s ext T;have h6:=f206 (u:=u) su Zm rfl rfl (if cg x.kind then .any else .nil) (by split<;>simp[aJ]) x.blocks (fun p hp=>⟨(uD p hp).1,(uD p hp).2.1⟩) (by omega) h7 (f x s) ext [];rw[<-GY]at h6;have LK:=hyx s (e0++[.cells [.fn F fa fc],.cells [.fn (.func 205) [] [.μ (N+e0.length) 0,.μ (N+e0.length+1) 0]]]++ext) [];have e1:∀s,Bk s++(e0++[.cells [.fn F fa fc],.cells [.fn (.func 205) [] [.μ (N+e0.length) 0,.μ (N+e0.length+1) 0]]]++ext)=mw Bk (N+e0.length) e0 (.fn F fa fc) s++ext:=fun s=>by simp[mw]
 rw[e1,e1]at LK;refine lO (g:=Fz) rfl rfl rfl (by simp[su]) ?_;have a0:N+e0.length<(mw Bk (N+e0.length) e0 (.fn F fa fc) s++ext).length:=by simp[su];omega
 have a1:N+e0.length+1<(mw Bk (N+e0.length) e0 (.fn F fa fc) s++ext).length:=by simp[su];omega
 have jX:x.cells.take 14=x.cells:=dY (by omega);simp only[cO,eK,ah,aw,δ.dH _ _ _ Θ];simp only[exp,a0,a1,if_true,Fz,OM];simp only[δ.av,h_]at LK QN⊢;simp[du,jX,d0,d1,LK,QN,h6]
theorem Qs(bs:List θ)(n:Nat):ax bs n 8 (.aO [])= .aO []:=rfl
theorem f204(hN:∀s,(Bk s).length=N)(hf:Fix N (.fn F fa fc))(nW:fa.map ρ=fa)(kK:fc.map ρ=fc)(hy:∀x:δ,x.Ok->oW u Bk (.fn F fa fc) x.av (f x) true)(c:Γ)(hc:aJ c)(l:List δ)(hl:δ.cW l)(hw:δ.bX l<1000000000000):
  ∀s ext T,aS (C u) (.fn (.func 204) [] [.ref [.list c (δ.ψ l)]]) [.fn F fa fc] {ε:=Bk s++ext,η:=T}=some (.aO [],{ε:=Bk (qV f l s)++ext,η:=T}):=by
 intro s ext T;have Z7:=δ.uh l;have su:∀s,(mw Bk (N+ext.length) ext (.fn F fa fc) s).length=N+ext.length+2:=fun s=>by simp[mw,hN];omega
 have uI:Fix (N+ext.length+2) (.fn (.func 205) [] [.μ (N+ext.length) 0,.μ (N+ext.length+1) 0]):=by intro k b hk;simp[exp,bn,Fn.below];omega
 have hx:=f208 (u:=u) su uI rfl rfl c hc l hl (by omega) (fun x hx=>f205 (u:=u) hN ext hf hy x (δ.gb hl x hx) (by have:=δ.my hx;omega)) s [] [];rw[<-QL]at hx;refine lO (g:=Fy) rfl rfl rfl (by simp[hN]) ?_;have wi:(Bk s++ext).length=N+ext.length:=by simp[hN]
 have hr:exp (Bk s++ext).length false (.ref [.list c (δ.ψ l)])= .ref [.list c (δ.ψ l)]:=by have:=np (n:=(Bk s++ext).length) (k:=false) hc hl;simp only[exp,bn]at this⊢;rw[this]
 simp only[cO,eK,ah,aw,hr,hf _ false (show N<=(Bk s++ext).length by omega),Fy,OL];simp only[mw,dx,cr,Nat.add_assoc]at hx;simp[Mem.push,Mem.put,Mem.ρ,ρ,fC,nW,kK,hN,bh,lo,Fn.below,hx,Qs]
end
theorem X4(bs:List θ)(n:Nat)(i:Nat)(hi:n<=i)(l:List AV)(h:bs[i]?=some (.cells l)):ax bs n 8 (.fn (.func 204) [] [.μ i 0])= .fn (.func 204) [] [.ref (l.map (ax bs n 7))]:=by
 have:¬i<n:=by omega
 simp[ax,cA,pc,Fn.below,this,h]
theorem JR(bs:List θ)(n k:Nat)(c:Γ)(l:List AV):ax bs n (k+1) (.list c l)= .list (c.exp n false) (l.map (ax bs n (k+1))):=by simp only[ax,cA,pd]
theorem EF(bs:List θ)(n k:Nat)(l:List AV):ax bs n (k+1) (.agg l)= .agg (l.map (ax bs n (k+1))):=by simp only[ax,cA,pd]
theorem φ.JQ(bs:List θ)(n k:Nat)(p:φ)(h:p.Ok):ax bs n (k+1) p.av=p.av:=by
 have:(p.ix.map ζ.av).map (ax bs n (k+1))=p.ix.map ζ.av:=by rw[di];exact dz fun x hx=>ζ.vK bs n (k+1) x (h.2.2 x hx).1
 have hs:ax bs n (k+1) (.str p.name)= .str p.name:=rfl;simp only[φ.av,EF,ah,aw,JR,fu h.2.1,this,hs]
theorem δ.JQ(bs:List θ)(n j:Nat)(x:δ):x.Ok->x.cells.map (ax bs n (j+1))=x.cells:=by
 refine δ.iB (Q:=fun x=>x.Ok->x.cells.map (ax bs n (j+1))=x.cells) (fun kk g nm cp pl size to cb body ce aA h1 h2 h=>?_) x;simp only[δ.Ok]at h;obtain⟨-,k1,k2,k3,k4,k5,k6,k7,k8⟩:=h;have e1:(pl.map φ.av).map (ax bs n (j+1))=pl.map φ.av:=by rw[di];exact dz fun x hx=>φ.JQ bs n j x (k2 x hx)
 have go:∀l:List δ,δ.cW l->(∀y∈l,y.Ok->y.cells.map (ax bs n (j+1))=y.cells)->(δ.ψ l).map (ax bs n (j+1))=δ.ψ l:=by intro l hl hy;rw[δ.dZ,di];refine dz fun y hm=>?_;simp only[Function.comp,δ.av,EF,hy y hm (δ.gb hl y hm)]
 have q:∀y:ζ,y.Ok->y.four.map (ax bs n (j+1))=y.four:=fun y hy=>by have:=ζ.vK bs n (j+1) y hy;rw[ζ.gA,EF]at this;simpa using this
 have hs:∀s,ax bs n (j+1) (.str s)= .str s:=fun s=>rfl;have hi:∀k i,ax bs n (j+1) (.int k i)= .int k i:=fun k i=>rfl;simp only[δ.cells,pJ,ah,aw,JR,fu k1,fu k5,fu k7,e1,q _ k3.1,q _ k4.1,go body k6 h1,go aA k8 h2,hs,hi]
theorem X3(bs:List θ)(n:Nat){c:Γ}(hc:aJ c){l:List δ}(h:δ.cW l):ax bs n 7 (.list c (δ.ψ l))= .list c (δ.ψ l):=by
 have:(δ.ψ l).map (ax bs n 7)=δ.ψ l:=by rw[δ.dZ,di];exact dz fun y hy=>by simp only[Function.comp,δ.av,EF,δ.JQ bs n 6 y (δ.gb h y hy)]
 rw[JR,fu hc,this]
theorem f134(c:Γ)(hc:aJ c)(l:List δ)(hl:δ.cW l)(m:Mem):kf u 134 [.list c (δ.ψ l)] m=some (.fn (.func 204) [] [.ref [.list c (δ.ψ l)]],m):=by
 refine bz (g:=E0) rfl rfl rfl ?_;simp only[ah,aw,np hc hl,E0,On];have n1:(δ.ψ l).map ρ=δ.ψ l:=by rw[δ.dZ,di];exact dz fun y _=>by simp only[Function.comp,δ.av,ρ,δ.yF]
 simp[Mem.push,Mem.ρ,ρ,fC,n1];rw[X4 _ _ _ (Nat.le_refl _) [.list c (δ.ψ l)] (by simp)];simp[X3 _ _ hc hl]
theorem agE(n:Nat):aT .i64 (aT .i64 (n:Int)+1)=aT .i64 ((n+1:Nat):Int):=by
 have h:∀x:Int,aT .i64 x=if(true&&decide (x % 18446744073709551616≥9223372036854775808))=true then x % 18446744073709551616-18446744073709551616 else x % 18446744073709551616:=fun x=>rfl;simp only[h];simp
 (repeat' split)<;>omega
def zn(B:List θ)(env:List AV)(n:Nat):List θ:=B++[.cells [.n (aT .i64 (n:Int))],.loop env [6] .skip (.block 1 (.ops [⟨(some 7),.ld false 1 (.t 3),none⟩,⟨(some 8),.bin .add (.t 7) (.c (.n 1)),none⟩,⟨none,.st 1 (.t 3) (.t 8),none⟩])) .ready]
theorem Yd(l:List AV)(i:Nat):bq (l.map ρ) i=ρ (bq l i):=by
 induction l generalizing i with
 |nil=>simp[bq,ρ]
 |cons a l ih=>cases i with
  |zero=>rfl
  |succ i=>simp only[ah,bq,ih]
theorem agY(B:List θ)(env:List AV)(h3:bq env 3= .μ B.length 0)(v:AV)(n:Nat)(ext:List θ)(T:List Nat):
  aS (C u) (.fn (.yield (B.length+1)) [] []) [v] {ε:=zn B env n++ext,η:=T}=some (.bool true,{ε:=zn B env (n+1)++ext,η:=T}):=by
 apply uw;simp only[body];unfold round;simp[zn,t_,Mem.ls,Mem.iF,h3,Mem.put,bh,lo,agE,Mem.ρ,ρ]
theorem f135(c:Γ)(hc:aJ c)(l:List δ)(hl:δ.cW l)(hw:δ.bX l<1000000000000)(m:Mem):kf u 135 [.list c (δ.ψ l)] m=some (.n (δ.aU l),m):=by
 have Xh:=f134 (u:=u) c hc l hl;refine bz (g:=E1) rfl rfl rfl ?_;simp only[ah,aw,np hc hl,E1,Oo];let K:St->Prop:=fun st=>st.e 3= .μ m.ε.length 0/\st.mem= {ε:=m.ε++[.cells [.n 0]],η:=[]};refine χ (fun st=>st.e 0= .list c (δ.ψ l)/\st.mem= {ε:=m.ε,η:=[]}) (by simp) fun s1 ⟨h1,h2⟩=>?_;refine χ (fun st=>K st/\st.e 0= .list c (δ.ψ l)) (by simp[K,h1,h2,Mem.push,Mem.put,Mem.ρ,ρ,bh,lo]) fun s1 ⟨⟨h1,h2⟩,h3⟩=>?_;refine aZ (fun st=>st.e 3= .μ m.ε.length 0/\st.mem= {ε:=m.ε++[.cells [.n (δ.aU l)]],η:=[]}) ?_ fun s2 ⟨h1,h2⟩=>by simp[h1,h2]
 refine χ (fun st=>K st/\st.e 5= .fn (.func 204) [] [.ref [.list c (δ.ψ l)]]) (by simp[K,h1,h2,h3,Xh]) fun s1 ⟨⟨h1,h2⟩,h3⟩=>?_;refine κ.block ?_;have dM:∀M:Mem,M.ρ=ρ:=fun _=>rfl;have gi:bq (s1.env.map ρ) 3= .μ m.ε.length 0:=by rw[Yd];exact congrArg ρ h1
 have oE:=f204 (u:=u) (Bk:=zn m.ε (s1.env.map ρ)) (N:=m.ε.length+2) (F:= .yield (m.ε.length+1)) (fa:=[]) (fc:=[]) (f:=fun _ n=>n+1) (fun n=>by simp[zn]) (fun k b hk=>by simp[exp,bn,Fn.below];omega) rfl rfl
  (fun x _ n ext T=>agY m.ε _ gi x.av n ext T) c hc l hl hw 0 [] []
 have Y7:∀(l:List δ) (n:Nat),qV (fun _ n=>n+1) l n=n+δ.aU l:=by
  intro l;refine δ.lists (P:=fun l=>∀n:Nat,qV (fun _ n=>n+1) l n=n+δ.aU l) (fun l ih n=>?_) l;induction l generalizing n with
  |nil=>rfl
  |cons a l wC=>
   have ha:=ih a (by simp)
   obtain⟨k,g,nm,cp,pl,size,to,cb,body,ce,aA⟩:=a;simp only[δ.body,δ.aA]at ha;simp only[qV,vP,δ.aU,δ.cnt,wC (fun y hy=>ih y (by simp[hy])),ha.1,ha.2];by_cases hb:cg k=true
   ·by_cases he:cB k=true<;>simp[hb,he]<;>omega
   ·have he:¬cB k=true:=by simp only[cg,cB,decide_eq_true_eq]at hb⊢;omega
    simp[hb,he];omega
 rw[Y7,ly]at oE;have Rf:=(δ.xq l).1;have dh:aT .i64 (δ.aU l:Int)=(δ.aU l:Int):=wrap_i64 (by omega) (by omega);have iA:aT .i64 0=0:=by decide
 simp only[zn,dx,dh]at oE;have aaM:aT .i64 ((0:Nat):Int)=0:=by decide
 rw[aaM]at oE;simp only[κ,exec,d_,h3,AV.yu,Option.bind_some,h2,List.length_append,List.length_cons,List.length_nil,ly,cr,eK,cO];simp[dM,oE,h1,Mem.back,lT];rw[List.take_append];simp[dY]
end Go.ab.Tz
