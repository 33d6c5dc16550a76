import Derived.Test.YtiigojkfojnedaaGreatDoorSVa
set_option linter.all false
set_option maxRecDepth 100000
set_option maxHeartbeats 8000000
open List renaming map_map->cT,map_congr_left->de,map_cons->az,map_nil->aJ,map_append->kr,getElem_mem->c_,take_of_length_le->fo,take_length->pH,nil_append->bE,append_nil->dF,take_succ_eq_append_getElem->wI,foldl_append->alH,append_assoc->bO,cons_append->cG,findIdx?_eq_some_iff_getElem->tU,getElem?_eq_getElem->dn,mem_cons->cy,nodup_cons->yk,mem_map->eP,getElem?_eq_none->h_,getElem?_append_left->ek,findIdx?_eq_none_iff->wG
open Go.IntKind renaming wrap->bC
open Nat renaming lt_or_ge->da,zero_add->lF
namespace Go.Θ.Tz
open Go.Θ
variable{u:Nat}
attribute [local simp] exec dY dP eX aI dw fA eN aK fL bQ iu iE iM jd AV.cells newVar iX rd wr gT single dk cE e_ ew κ cK RV.get cL fT kz
def _root_.Go.Θ.δ.cb:δ->ρ
 | .mk _ _ _ _ _ _ _ c _ _ _=>c
def _root_.Go.Θ.δ.ce:δ->ρ
 | .mk _ _ _ _ _ _ _ _ _ c _=>c
def _root_.Go.Θ.δ.blocks(x:δ):List (ρ×List δ):=if bm x.kind then[(x.cb,x.body),(x.ce,x.els)]else if aU x.kind then[(x.cb,x.body)]else[]
def fE(p:ρ×List δ):AV:= .list p.1 (δ.χ p.2)
def iN(x:δ):AV:= .list (if aU x.kind then .any else .nil) (x.blocks.map fE)
theorem ξ.yN(bs:List θ)(n:Nat)(p:ξ)(h:p.Ok):aO bs n 8 p.av=p.av:=by
 have:(p.ix.map ζ.av).map (aO bs n 8)=p.ix.map ζ.av:=by rw[cT];exact de fun x hx=>ζ.yN bs n 8 x (h.2.2 x hx).1
 simp only[ξ.av,Gk,az,aJ,C',fR h.2.1,this,rO]
theorem ζ.Tg(bs:List θ)(n:Nat)(x:ζ)(h:x.Ok):x.four.map (aO bs n 8)=x.four:=by have:=ζ.yN bs n 8 x h;rw[ζ.fD,Gk]at this;simpa using this
theorem δ.Gl(bs:List θ)(n:Nat)(x:δ):x.Ok->x.cells.map (aO bs n 8)=x.cells:=by
 refine δ.jR (Q:=fun x=>x.Ok->x.cells.map (aO bs n 8)=x.cells) (fun kk g nm cp pl size to cb body ce els h1 h2 h=>?_) x;simp only[δ.Ok]at h;obtain⟨-,k1,k2,k3,k4,k5,k6,k7,k8⟩:=h;have e1:(pl.map ξ.av).map (aO bs n 8)=pl.map ξ.av:=by rw[cT];exact de fun x hx=>ξ.yN bs n x (k2 x hx)
 have go:∀l:List δ,δ.cJ l->(∀y∈l,y.Ok->y.cells.map (aO bs n 8)=y.cells)->(δ.χ l).map (aO bs n 8)=δ.χ l:=by intro l hl hy;rw[δ.eo,cT];refine de fun y hm=>?_;simp only[Function.comp,δ.av,Gk,hy y hm (δ.iB hl y hm)]
 simp only[δ.cells,kr,az,aJ,C',fR k1,fR k5,fR k7,e1,ζ.Tg _ _ _ k3.1,ζ.Tg _ _ _ k4.1,go body k6 h1,go els k8 h2,fT,rO]
theorem L9(bs:List θ)(n:Nat){c:ρ}(hc:bp c){l:List δ}(h:δ.cJ l):aO bs n 8 (.list c (δ.χ l))= .list c (δ.χ l):=by
 have:(δ.χ l).map (aO bs n 8)=δ.χ l:=by rw[δ.eo,cT];exact de fun y hy=>by simp only[Function.comp,δ.av,Gk,δ.Gl bs n y (δ.iB h y hy)]
 rw[C',fR hc,this]
theorem δ.La{x:δ}(h:x.Ok):bp x.cb/\bp x.ce:=by obtain⟨k,g,nm,cp,pl,size,to,cb,body,ce,els⟩:=x;simp only[δ.Ok]at h;exact⟨h.2.2.2.2.2.1,h.2.2.2.2.2.2.2.1⟩
theorem f108(x:δ)(hx:x.Ok)(m:Mem):kf u 108 [x.av] m=some (iN x,m):=by
 have dx:=δ.O_ hx;have zm:=δ.La hx;refine dI (g:=Gp) rfl rfl rfl ?_;simp only[az,aJ,δ.jM _ _ _ hx,Gp,QR];obtain⟨k,g,nm,cp,pl,⟨k1,n1,s1,c1,l1⟩,⟨k2,n2,s2,c2,l2⟩,cb,body,ce,els⟩:=x;simp only[δ.body,δ.els,δ.cb,δ.ce]at dx zm;have z1:∀bs n,aO bs n 8 (.list .full [.list cb (δ.χ body)])= .list .any [.list cb (δ.χ body)]:=fun bs n=>by rw[C'];simp only[az,aJ,L9 bs n zm.1 dx.1];rfl
 have z2:∀bs n,aO bs n 8 (.list .full [.list cb (δ.χ body),.list ce (δ.χ els)])= .list .any [.list cb (δ.χ body),.list ce (δ.χ els)]:=fun bs n=>by rw[C'];simp only[az,aJ,L9 bs n zm.1 dx.1,L9 bs n zm.2 dx.2];rfl
 have z0:∀bs n,aO bs n 8 (.list .nil [])= .list .nil []:=fun bs n=>rfl;have n1:cw (δ.χ body)=δ.χ body:=by rw[fH,δ.eo,cT];exact de fun y _=>by simp only[Function.comp,δ.av,ν,δ.zN]
 have n2:cw (δ.χ els)=δ.χ els:=by rw[fH,δ.eo,cT];exact de fun y _=>by simp only[Function.comp,δ.av,ν,δ.zN]
 by_cases e4:k=4
 ·subst e4;simp[δ.av,δ.cells,ζ.four,δ.kind,δ.body,δ.els,δ.cb,δ.ce,δ.blocks,iN,fE,aU,bm,shaped,AV.one,Mem.ν,ν,n1,n2,z1,z2,z0]
 by_cases e8:k=8
 ·subst e8;simp[δ.av,δ.cells,ζ.four,δ.kind,δ.body,δ.els,δ.cb,δ.ce,δ.blocks,iN,fE,aU,bm,shaped,AV.one,Mem.ν,ν,n1,n2,z1,z2,z0]
 by_cases pP:k=10
 ·subst pP;simp[δ.av,δ.cells,ζ.four,δ.kind,δ.body,δ.els,δ.cb,δ.ce,δ.blocks,iN,fE,aU,bm,shaped,AV.one,Mem.ν,ν,n1,n2,z1,z2,z0]
 by_cases e7:k=7
 ·subst e7;simp[δ.av,δ.cells,ζ.four,δ.kind,δ.body,δ.els,δ.cb,δ.ce,δ.blocks,iN,fE,aU,bm,shaped,AV.one,Mem.ν,ν,n1,n2,z1,z2,z0]
 by_cases wQ:k=11
 ·subst wQ;simp[δ.av,δ.cells,ζ.four,δ.kind,δ.body,δ.els,δ.cb,δ.ce,δ.blocks,iN,fE,aU,bm,shaped,AV.one,Mem.ν,ν,n1,n2,z1,z2,z0]
 simp[δ.av,δ.cells,ζ.four,δ.kind,δ.body,δ.els,δ.cb,δ.ce,δ.blocks,iN,fE,aU,bm,e4,e8,pP,e7,wQ,ff,z0]
theorem FJ{x:δ}{p:ρ×List δ}(h:p∈x.blocks):(p=(x.cb,x.body))\/(p=(x.ce,x.els)):=by
 unfold δ.blocks at h;split at h
 ·simpa using h
 ·split at h
  ·exact .inl (by simpa using h)
  ·simp at h
def l7(x d:Nat):Nat:=if x=0 then 0 else x+d-1
def rG(l:List (ρ×List δ)):Nat:=match l with
 |[]=>0
 |p::l=>max (δ.dA p.2) (rG l)
theorem aaN(x:δ):x.deep=1+rG x.blocks:=by obtain⟨k,g,nm,cp,pl,size,to,cb,body,ce,els⟩:=x;simp only[δ.deep,δ.blocks,δ.kind,δ.body,δ.els,δ.cb,δ.ce];by_cases hb:aU k=true<;>by_cases he:bm k=true<;>simp[rG,hb,he];exfalso;simp only[aU,bm,decide_eq_true_eq]at hb he;omega
theorem ZE(l:List (ρ×List δ))(i:Nat)(h:i<l.length):rG (l.take (i+1))=max (rG (l.take i)) (δ.dA l[i].2):=by
 induction l generalizing i with
 |nil=>simp at h
 |cons a l ih=>
  cases i with
  |zero=>simp[rG]
  |succ i=>simp only[List.take_succ_cons,rG,List.getElem_cons_succ,ih i (by simpa using h),Nat.max_assoc]
theorem FI{x:δ}(hx:x.Ok){p:ρ×List δ}(h:p∈x.blocks):bp p.1/\δ.cJ p.2/\δ.bI p.2+3<=x.wt:=by
 have h1:=δ.La hx;have h2:=δ.O_ hx;have h3:=δ.Ck x;rcases FJ h with rfl|rfl
 ·exact⟨h1.1,h2.1,by simp only;omega⟩
 ·exact⟨h1.2,h2.2,by simp only;omega⟩
theorem f192(l:List δ):∀(c:ρ),bp c->δ.cJ l->∀d:Nat,0<d->δ.bI l+d<1000000000000->∀m,kf u 192 [.list c (δ.χ l),.n d] m=some (.n (l7 (δ.dA l) d:Nat),m):=by
 refine δ.lists (P:=fun l=>∀(c:ρ),bp c->δ.cJ l->∀d:Nat,0<d->δ.bI l+d<1000000000000->∀m,kf u 192 [.list c (δ.χ l),.n d] m=some (.n (l7 (δ.dA l) d:Nat),m)) (fun l ih c hc ai d hd hw m=>?_) l;refine dI (g:=GX) rfl rfl rfl ?_;simp only[az,aJ,rN hc ai];simp only[exp,GX,Ri];have vJ:=δ.Al l;let K:St->Prop:=fun st=>st.e 1= .n d/\st.mem= {ε:=m.ε,η:=[]};refine Δ (fun st=>K st/\st.e 0= .list c (δ.χ l)) (by simp[K]) fun s1 ⟨⟨h1,h2⟩,h3⟩=>?_;refine Δ (fun st=>K st/\st.e 0= .list c (δ.χ l)/\st.e 5= .n 0) (by simp[K,h1,h2,h3]) fun s1 ⟨⟨h1,h2⟩,h3,h4⟩=>?_;refine bJ (fun st=>K st/\st.e 5= .n (l7 (δ.dA l) d:Nat)) ?_ fun s2 ⟨⟨h1,h2⟩,h3⟩=>by simp[h2,h3]
 let I:Nat->St->Prop:=fun i st=>K st/\st.e 10= .list c (δ.χ l)/\st.e 11= .n l.length/\st.e 12= .n i/\st.e 5= .n (l7 (δ.dA (l.take i)) d:Nat);refine Δ (I 0) (by simp[I,K,h1,h2,h3,h4,u0,δ.dA,l7]) fun s4 hI=>?_;refine κ.block (κ.upto (I:=I) l.length hI (fun i st ψ Ω=>?_) (fun st Ω=>?_))
 ·obtain⟨⟨h1,h2⟩,q1,q2,q3,q4⟩:=Ω;have kS:bC .i64 ((i:Int)+1)=(i:Int)+1:=wrap_i64 (by omega) (by omega);have N9:bC .i64 ((d:Int)+1)=(d:Int)+1:=wrap_i64 (by omega) (by omega);have hg:=JI l i ψ;have hm:l[i]∈l:=c_ ψ;have r_:=δ.iB ai _ hm;have mg:=δ.oI hm;have rL:=f108 (u:=u) l[i] r_;have t2:=aaQ l i ψ;have hdb:=aaN l[i];have ep:=δ.lH l[i];have qW:l[i].cells.take 14=l[i].cells:=fo (by omega);have gx:∀p∈l[i].blocks,∀m,kf u 192 [.list p.1 (δ.χ p.2),.n ((d:Int)+1)] m=some (.n (l7 (δ.dA p.2) (d+1):Nat),m):=by
   intro p hp m;have hf:=FI r_ hp;rcases FJ hp with rfl|rfl
   ·dsimp only at hf;clear N9 kS;simpa using(ih _ hm).1 _ hf.1 hf.2.1 (d+1) (by omega) (by omega) m
   ·dsimp only at hf;clear N9 kS;simpa using(ih _ hm).2 _ hf.1 hf.2.1 (d+1) (by omega) (by omega) m
  generalize l[i]=y at*;simp only[δ.av]at hg rL;have HW:∀j (hj:j<y.blocks.length),δ.dA (y.blocks[j]).2+3<=y.wt:=fun j hj=>by have h5:=(FI r_ (c_ hj)).2.2;have h6:=(δ.Lm (y.blocks[j]).2).2;omega
  have eC:y.blocks.length<=2:=by unfold δ.blocks;split<;>(try split)<;>simp
  let J:St->Prop:=fun st=>K st/\st.e 10= .list c (δ.χ l)/\st.e 11= .n l.length/\st.e 12= .n i;let d0:=l7 (δ.dA (l.take i)) d;refine Δ (fun st=>J st/\st.e 5= .n d0/\st.e 13= .bool true) (by simp[J,d0,K,h1,h2,q1,q2,q3,q4,ψ]) fun s5 ⟨⟨⟨h1,h2⟩,q1,q2,q3⟩,q4,q5⟩=>?_;refine Δ (fun st=>J st/\st.e 5= .n d0) (by simp[J,K,h1,h2,q1,q2,q3,q4,q5]) fun s5 ⟨⟨⟨h1,h2⟩,q1,q2,q3⟩,q4⟩=>?_;refine bJ (fun st=>J st/\st.e 5= .n (l7 (δ.dA (l.take (i+1))) d:Nat)) ?_ fun s6 ⟨⟨⟨h1,h2⟩,q1,q2,q3⟩,q4⟩=>by simp[I,K,h1,h2,q1,q2,q3,q4,kS]
  refine κ.block ?_;let J2:St->Prop:=fun st=>J st/\∃v,st.e 7= .aj 7 v 0/\st.q 7=some (v,.cells y.cells);refine Δ (fun st=>J2 st/\st.e 5= .n d0) (by simp[J2,J,K,h1,h2,q1,q2,q3,q4,hg,ep,qW,ψ,u0]) fun s5 ⟨⟨⟨⟨h1,h2⟩,q1,q2,q3⟩,v,q5,q6⟩,q4⟩=>?_;refine Δ (fun st=>J2 st/\st.e 5= .n (max d0 d:Nat)) (by
   simp[J2,J,K,h1,h2,q1,q2,q3,q4,q5,q6]
   split<;>omega) fun s5 ⟨⟨⟨⟨h1,h2⟩,q1,q2,q3⟩,v,q5,q6⟩,q4⟩=>?_
  let L2:Nat->St->Prop:=fun j st=>J st/\st.e 20=iN y/\st.e 21= .n y.blocks.length/\st.e 22= .n j/\st.e 5= .n (max (max d0 d) (l7 (rG (y.blocks.take j)) (d+1)):Nat);refine Δ (L2 0) (by
   simp only[iN]at rL
   simp[L2,J,K,h1,h2,q1,q2,q3,q4,q5,q6,rL,ep,qW,iN,rG,l7]) fun s6 hL=>?_
  have uo:max (max d0 d) (l7 (rG y.blocks) (d+1))=l7 (δ.dA (l.take (i+1))) d:=by
   rw[t2,hdb];simp only[d0,l7]
   (repeat' split)<;>omega
  refine κ.block (κ.upto (I:=L2) y.blocks.length hL (fun j st eW Ω=>?_) (fun st Ω=>?_))
  ·obtain⟨⟨⟨h1,h2⟩,q1,q2,q3⟩,z1,z2,z3,z4⟩:=Ω;have sh:bC .i64 ((j:Int)+1)=(j:Int)+1:=wrap_i64 (by omega) (by omega);have hb:=gx _ (c_ eW);have Du:=ZE y.blocks j eW;simp only[iN,fE]at z1;simp[L2,J,K,Oz,h1,h2,q1,q2,q3,z1,z2,z3,z4,eW,sh,N9,hb,iN,fE];have jO:l7 (rG (y.blocks.take (j+1))) (d+1)=max (l7 (rG (y.blocks.take j)) (d+1)) (l7 (δ.dA (y.blocks[j]).2) (d+1)):=by rw[Du];simp only[l7];(repeat' split)<;>omega
   rw[jO];split<;>omega
  ·obtain⟨⟨⟨h1,h2⟩,q1,q2,q3⟩,z1,z2,z3,z4⟩:=Ω;simp only[pH,uo]at z4;simp[J,K,Oz,h1,h2,q1,q2,q3,z1,z2,z3,z4]
 ·obtain⟨⟨h1,h2⟩,q1,q2,q3,q4⟩:=Ω;simp only[pH]at q4;simp[K,VZ,h1,h2,q1,q2,q3,q4]
def pE(u:Nat){σ:Type}(Bk:σ->List θ)(fv:AV)(x:AV)(f:σ->σ)(r:Bool):Prop:=∀s ext T,ab (C u) fv [x] {ε:=Bk s++ext,η:=T}=some (.bool r,{ε:=Bk (f s)++ext,η:=T})
theorem f283{σ:Type}{Bk:σ->List θ}{N:Nat}(hN:∀s,(Bk s).length=N){fv:AV}{f:δ->σ->σ}(hf:Fix N fv)(c:ρ)(hc:bp c)(l:List δ)(hl:δ.cJ l)(hlen:l.length<1000000000000)
  (h:∀x∈l,pE u Bk fv x.av (f x) false):∀s ext T,kf u 283 [.list c (δ.χ l),fv] {ε:=Bk s++ext,η:=T}=some (.n (-1),{ε:=Bk (l.foldl (fun s x=>f x s) s)++ext,η:=T}):=by
 intro s ext T;have e0:(Bk s++ext).length=N+ext.length:=by simp[hN]
 refine kF (g:=Hq) rfl rfl rfl (by simp[hN]) ?_;simp only[bE,dF,az,aJ,rN hc hl,hf _ false (show N<=(Bk s++ext).length by omega),Hq,RJ];let K:σ->St->Prop:=fun s st=>st.e 1=fv/\st.e 0= .list c (δ.χ l)/\st.mem= {ε:=Bk s++ext,η:=[]};refine Δ (K s) (by simp[K]) fun s1 ⟨h1,h2,h3⟩=>?_;refine bJ (K (l.foldl (fun s x=>f x s) s)) ?_ fun s2 ⟨h1,h2,h3⟩=>?_
 ·let I:Nat->St->Prop:=fun i st=>K ((l.take i).foldl (fun s x=>f x s) s) st/\st.e 7= .n l.length/\st.e 8= .n i;refine Δ (I 0) (by simp[I,K,h1,h2,h3,u0]) fun s4 hI=>?_;refine κ.block (κ.loop (I:=I) l.length hI fun i st hi Ω=>?_);obtain⟨⟨h1,h2,h3⟩,q1,q2⟩:=Ω;rcases da i l.length with ψ|dD
  ·left;refine⟨ψ,?_⟩;have hw:bC .i64 ((i:Int)+1)=(i:Int)+1:=wrap_i64 (by omega) (by omega);have hg:=JI l i ψ;have hx:=h _ (c_ ψ) ((l.take i).foldl (fun s x=>f x s) s) ext [];have ht:(l.take (i+1)).foldl (fun s x=>f x s) s=f l[i] ((l.take i).foldl (fun s x=>f x s) s):=by rw[wI ψ,alH];rfl
   have ep:=δ.lH l[i];have qW:l[i].cells.take 14=l[i].cells:=fo (by omega);simp only[δ.av]at hg hx;simp[I,K,OE,h1,h2,h3,q1,q2,ψ,hg,hx,hw,u0,ep,qW,ht]
  ·right;have:i=l.length:=by omega
   subst this;simp only[pH]at h3;simp[K,OE,h1,h2,h3,q1,q2]
 ·simp[h1,h2,h3]
theorem f247{σ:Type}{Bk:σ->List θ}{N:Nat}(hN:∀s,(Bk s).length=N){fv:AV}{f:δ->σ->σ}(hf:Fix N fv)(c:ρ)(hc:bp c)(l:List δ)(hl:δ.cJ l)(hlen:l.length<1000000000000)
  (h:∀x∈l,pE u Bk fv x.av (f x) false):∀s ext T,kf u 247 [.list c (δ.χ l),fv] {ε:=Bk s++ext,η:=T}=some (.bool false,{ε:=Bk (l.foldl (fun s x=>f x s) s)++ext,η:=T}):=by
 intro s ext T;have e0:(Bk s++ext).length=N+ext.length:=by simp[hN]
 have hx:=f283 (u:=u) hN hf c hc l hl hlen h s ext [];refine kF (g:=Hf) rfl rfl rfl (by simp[hN]) ?_;simp only[bE,dF,az,aJ,rN hc hl,hf _ false (show N<=(Bk s++ext).length by omega),Hf,Rz];simp[hx]
theorem f208{σ:Type}{Bk:σ->List θ}{N:Nat}(hN:∀s,(Bk s).length=N){F:Fn}{fa fc:List AV}{f:δ->σ->σ}(hf:Fix N (.fn F fa fc))(p_:fa.map ν=fa)(nF:fc.map ν=fc)(c:ρ)(hc:bp c)(l:List δ)(hl:δ.cJ l)(hlen:l.length<1000000000000)
  (h:∀x∈l,pE u Bk (.fn F fa fc) x.av (f x) true):∀s ext T,kf u 208 [.list c (δ.χ l),(.fn F fa fc)] {ε:=Bk s++ext,η:=T}=some (.bool true,{ε:=Bk (l.foldl (fun s x=>f x s) s)++ext,η:=T}):=by
 intro s ext T;have e0:(Bk s++ext).length=N+ext.length:=by simp[hN]
 let jU:σ->List θ:=fun s=>Bk s++ext++[.cells [.fn F fa fc]];have yP:∀s,(jU s).length=N+ext.length+1:=fun s=>by simp[jU,hN];omega
 have om:Fix (N+ext.length+1) (.fn (.func 248) [] [.μ (N+ext.length) 0]):=by intro k b hk;simp[exp,aX,Fn.below];omega
 have MP:∀x∈l,pE u jU (.fn (.func 248) [] [.μ (N+ext.length) 0]) x.av (f x) false:=by
  intro x hx s ext' T';have hd:(jU s++ext')[N+ext.length]?=some (.cells [.fn F fa fc]):=by
   have:N+ext.length=(Bk s++ext).length:=by simp[hN]
   simp only[jU,bO,this];simp
  have eu:=h x hx s (ext++[.cells [.fn F fa fc]]++ext') [];have ep:=δ.lH x;refine kF (g:=Hg) rfl rfl rfl (by simp[yP]) ?_;have a0:N+ext.length<(jU s++ext').length:=by simp[yP];omega
  simp only[bE,cG,az,aJ,δ.jM _ _ _ (δ.iB hl x hx),exp,a0,if_true,Hg,RA];have e1:Bk s++(ext++[.cells [.fn F fa fc]]++ext')=jU s++ext':=by simp[jU]
  have e2:Bk (f x s)++(ext++[.cells [.fn F fa fc]]++ext')=jU (f x s)++ext':=by simp[jU]
  rw[e1,e2]at eu;simp only[δ.av]at eu⊢;have qW:x.cells.take 14=x.cells:=fo (by omega);simp[ep,hd,eu,qW]
 have hx:=f247 (u:=u) yP om c hc l hl hlen MP s [] [];simp only[jU,dF,bO]at hx;refine kF (g:=G4) rfl rfl rfl (by simp[hN]) ?_;simp only[bE,dF,az,aJ,rN hc hl,hf _ false (show N<=(Bk s++ext).length by omega),G4,c208];simp[Mem.push,Mem.ν,ν,fH,p_,nF,hN,hx]
theorem LR{n:Nat}{k:Bool}{cc:ρ}(hc:bp cc){l:List (ρ×List δ)}(h:∀p∈l,bp p.1/\δ.cJ p.2):exp n k (.list cc (l.map fE))= .list cc (l.map fE):=by
 have:aX n k (l.map fE)=l.map fE:=by rw[fe,cT];exact de fun p hp=>rN (h p hp).1 (h p hp).2
 simp only[exp,fR hc,this]
theorem f282{σ:Type}{Bk:σ->List θ}{N:Nat}(hN:∀s,(Bk s).length=N){fv:AV}{f:ρ×List δ->σ->σ}(hf:Fix N fv)(c:ρ)(hc:bp c)(l:List (ρ×List δ))(hl:∀p∈l,bp p.1/\δ.cJ p.2)(hlen:l.length<1000000000000)
  (h:∀x∈l,pE u Bk fv (fE x) (f x) false):∀s ext T,kf u 282 [.list c (l.map fE),fv] {ε:=Bk s++ext,η:=T}=some (.n (-1),{ε:=Bk (l.foldl (fun s x=>f x s) s)++ext,η:=T}):=by
 intro s ext T;have e0:(Bk s++ext).length=N+ext.length:=by simp[hN]
 refine kF (g:=Hp) rfl rfl rfl (by simp[hN]) ?_;simp only[bE,dF,az,aJ,LR hc hl,hf _ false (show N<=(Bk s++ext).length by omega),Hp,RI];let K:σ->St->Prop:=fun s st=>st.e 1=fv/\st.e 0= .list c (l.map fE)/\st.mem= {ε:=Bk s++ext,η:=[]};refine Δ (K s) (by simp[K]) fun s1 ⟨h1,h2,h3⟩=>?_;refine bJ (K (l.foldl (fun s x=>f x s) s)) ?_ fun s2 ⟨h1,h2,h3⟩=>by simp[h1,h2,h3]
 let I:Nat->St->Prop:=fun i st=>K ((l.take i).foldl (fun s x=>f x s) s) st/\st.e 7= .n l.length/\st.e 8= .n i;refine Δ (I 0) (by simp[I,K,h1,h2,h3]) fun s4 hI=>?_;refine κ.block (κ.loop (I:=I) l.length hI fun i st hi Ω=>?_);obtain⟨⟨h1,h2,h3⟩,q1,q2⟩:=Ω;rcases da i l.length with ψ|dD
 ·left;refine⟨ψ,?_⟩;have hw:bC .i64 ((i:Int)+1)=(i:Int)+1:=wrap_i64 (by omega) (by omega);have hx:=h _ (c_ ψ) ((l.take i).foldl (fun s x=>f x s) s) ext [];have ht:(l.take (i+1)).foldl (fun s x=>f x s) s=f l[i] ((l.take i).foldl (fun s x=>f x s) s):=by rw[wI ψ,alH];rfl
  simp only[fE]at hx h2;simp[I,K,OD,h1,h2,h3,q1,q2,ψ,hx,hw,ht,fE]
 ·right;have:i=l.length:=by omega
  subst this;simp only[pH]at h3;simp[K,OD,h1,h2,h3,q1,q2]
theorem f245{σ:Type}{Bk:σ->List θ}{N:Nat}(hN:∀s,(Bk s).length=N){fv:AV}{f:ρ×List δ->σ->σ}(hf:Fix N fv)(c:ρ)(hc:bp c)(l:List (ρ×List δ))(hl:∀p∈l,bp p.1/\δ.cJ p.2)(hlen:l.length<1000000000000)
  (h:∀x∈l,pE u Bk fv (fE x) (f x) false):∀s ext T,kf u 245 [.list c (l.map fE),fv] {ε:=Bk s++ext,η:=T}=some (.bool false,{ε:=Bk (l.foldl (fun s x=>f x s) s)++ext,η:=T}):=by
 intro s ext T;have e0:(Bk s++ext).length=N+ext.length:=by simp[hN]
 have hx:=f282 (u:=u) hN hf c hc l hl hlen h s ext [];refine kF (g:=Hd) rfl rfl rfl (by simp[hN]) ?_;simp only[bE,dF,az,aJ,LR hc hl,hf _ false (show N<=(Bk s++ext).length by omega),Hd,Rx];simp[hx]
theorem f206{σ:Type}{Bk:σ->List θ}{N:Nat}(hN:∀s,(Bk s).length=N){F:Fn}{fa fc:List AV}{f:ρ×List δ->σ->σ}(hf:Fix N (.fn F fa fc))(p_:fa.map ν=fa)(nF:fc.map ν=fc)(c:ρ)(hc:bp c)(l:List (ρ×List δ))(hl:∀p∈l,bp p.1/\δ.cJ p.2)(hlen:l.length<1000000000000)
  (h:∀x∈l,pE u Bk (.fn F fa fc) (fE x) (f x) true):∀s ext T,kf u 206 [.list c (l.map fE),(.fn F fa fc)] {ε:=Bk s++ext,η:=T}=some (.bool true,{ε:=Bk (l.foldl (fun s x=>f x s) s)++ext,η:=T}):=by
 intro s ext T;have e0:(Bk s++ext).length=N+ext.length:=by simp[hN]
 let jU:σ->List θ:=fun s=>Bk s++ext++[.cells [.fn F fa fc]];have yP:∀s,(jU s).length=N+ext.length+1:=fun s=>by simp[jU,hN];omega
 have om:Fix (N+ext.length+1) (.fn (.func 246) [] [.μ (N+ext.length) 0]):=by intro k b hk;simp[exp,aX,Fn.below];omega
 have MP:∀x∈l,pE u jU (.fn (.func 246) [] [.μ (N+ext.length) 0]) (fE x) (f x) false:=by
  intro x hx s ext' T';have hd:(jU s++ext')[N+ext.length]?=some (.cells [.fn F fa fc]):=by
   have:N+ext.length=(Bk s++ext).length:=by simp[hN]
   simp only[jU,bO,this];simp
  have eu:=h x hx s (ext++[.cells [.fn F fa fc]]++ext') [];refine kF (g:=He) rfl rfl rfl (by simp[yP]) ?_;have a0:N+ext.length<(jU s++ext').length:=by simp[yP];omega
  have hb:exp (jU s++ext').length false (fE x)=fE x:=rN (hl x hx).1 (hl x hx).2;simp only[bE,cG,az,aJ,hb];simp only[exp,a0,if_true,He,Ry];have e1:Bk s++(ext++[.cells [.fn F fa fc]]++ext')=jU s++ext':=by simp[jU]
  have e2:Bk (f x s)++(ext++[.cells [.fn F fa fc]]++ext')=jU (f x s)++ext':=by simp[jU]
  rw[e1,e2]at eu;simp[hd,eu]
 have hx:=f245 (u:=u) yP om c hc l hl hlen MP s [] [];simp only[jU,dF,bO]at hx;refine kF (g:=G2) rfl rfl rfl (by simp[hN]) ?_;simp only[bE,dF,az,aJ,LR hc hl,hf _ false (show N<=(Bk s++ext).length by omega),G2,c206];simp[Mem.push,Mem.ν,ν,fH,p_,nF,hN,hx]
mutual
def w_{σ:Type}(f:δ->σ->σ):δ->σ->σ
 | .mk k g nm cp pl size to cb body ce els,s=>if aU k then(if bm k then rP f els (rP f body (f (.mk k g nm cp pl size to cb body ce els) s))else rP f body (f (.mk k g nm cp pl size to cb body ce els) s))else f (.mk k g nm cp pl size to cb body ce els) s
def rP{σ:Type}(f:δ->σ->σ):List δ->σ->σ
 |[],s=>s
 |x::l,s=>rP f l (w_ f x s)
end
theorem TJ{σ:Type}(f:δ->σ->σ)(l:List δ)(s:σ):rP f l s=l.foldl (fun s x=>w_ f x s) s:=by
 induction l generalizing s with
 |nil=>rfl
 |cons a l ih=>simp only[rP,List.foldl_cons,ih]
theorem abS{σ:Type}(f:δ->σ->σ)(x:δ)(s:σ):w_ f x s=x.blocks.foldl (fun s p=>rP f p.2 s) (f x s):=by obtain⟨k,g,nm,cp,pl,size,to,cb,body,ce,els⟩:=x;simp only[w_,δ.blocks,δ.kind,δ.body,δ.els,δ.cb,δ.ce];by_cases hb:aU k=true<;>by_cases he:bm k=true<;>simp[hb,he];exfalso;simp only[aU,bm,decide_eq_true_eq]at hb he;omega
section
variable{σ:Type}{Bk:σ->List θ}{N:Nat}{F:Fn}{fa fc:List AV}{f:δ->σ->σ}
def my(Bk:σ->List θ)(n:Nat)(e0:List θ)(yv:AV):σ->List θ:=fun s=>Bk s++e0++[.cells [yv],.cells [.fn (.func 205) [] [.μ n 0,.μ (n+1) 0]]]
theorem f205(hN:∀s,(Bk s).length=N)(e0:List θ)(hf:Fix N (.fn F fa fc))(hy:∀x:δ,x.Ok->pE u Bk (.fn F fa fc) x.av (f x) true)(x:δ):x.Ok->x.wt<1000000000000→
  pE u (my Bk (N+e0.length) e0 (.fn F fa fc)) (.fn (.func 205) [] [.μ (N+e0.length) 0,.μ (N+e0.length+1) 0]) x.av (w_ f x) true:=by
 have s8:∀s,(my Bk (N+e0.length) e0 (.fn F fa fc) s).length=N+e0.length+2:=fun s=>by simp[my,hN];omega
 have M8:Fix (N+e0.length+2) (.fn (.func 205) [] [.μ (N+e0.length) 0,.μ (N+e0.length+1) 0]):=by intro k b hk;simp[exp,aX,Fn.below];omega
 have hf7:Fix (N+e0.length+2) (.fn (.func 207) [] [.μ (N+e0.length+1) 0]):=by intro k b hk;simp[exp,aX,Fn.below];omega
 have d0:∀s ext,(my Bk (N+e0.length) e0 (.fn F fa fc) s++ext)[N+e0.length]?=some (.cells [.fn F fa fc]):=fun s ext=>by
  have:N+e0.length=(Bk s++e0).length:=by simp[hN]
  simp only[my,bO,this];simp
 have d1:∀s ext,(my Bk (N+e0.length) e0 (.fn F fa fc) s++ext)[N+e0.length+1]?=some (.cells [.fn (.func 205) [] [.μ (N+e0.length) 0,.μ (N+e0.length+1) 0]]):=fun s ext=>by
  have h1:N+e0.length=(Bk s++e0).length:=by simp[hN]
  have h2:((Bk s++e0)++([θ.cells [.fn F fa fc],.cells [.fn (.func 205) [] [.μ (N+e0.length) 0,.μ (N+e0.length+1) 0]]]++ext))[(Bk s++e0).length+1]?=some (.cells [.fn (.func 205) [] [.μ (N+e0.length) 0,.μ (N+e0.length+1) 0]]):=by rw[List.getElem?_append_right (by omega)];simp
  simp only[my,bO]at h2⊢;rw[h1]at h2⊢;simpa using h2
 refine δ.jR (Q:=fun x=>x.Ok->x.wt<1000000000000->pE u (my Bk (N+e0.length) e0 (.fn F fa fc)) (.fn (.func 205) [] [.μ (N+e0.length) 0,.μ (N+e0.length+1) 0]) x.av (w_ f x) true) (fun k g nm cp pl size to cb body ce els h1 h2 ai hw=>?_) x;have hyx:=hy _ ai;have ep:=δ.lH (.mk k g nm cp pl size to cb body ce els);have TO:=f108 (u:=u) _ ai;have H8:=abS f (.mk k g nm cp pl size to cb body ce els);have vu:=fun p hp=>FI ai (p:=p) hp;have h7:∀p∈(δ.mk k g nm cp pl size to cb body ce els).blocks,pE u (my Bk (N+e0.length) e0 (.fn F fa fc)) (.fn (.func 207) [] [.μ (N+e0.length+1) 0]) (fE p) (rP f p.2) true:=by
  intro p hp s ext T;have Bm:=vu p hp;have Br:∀y∈p.2,pE u (my Bk (N+e0.length) e0 (.fn F fa fc)) (.fn (.func 205) [] [.μ (N+e0.length) 0,.μ (N+e0.length+1) 0]) y.av (w_ f y) true:=by
   intro y mh;have hyw:=δ.oI mh;rcases FJ hp with rfl|rfl
   ·exact h1 y mh (δ.iB Bm.2.1 y mh) (by omega)
   ·exact h2 y mh (δ.iB Bm.2.1 y mh) (by omega)
  have Ii:=δ.Al p.2;have hx:=f208 (u:=u) s8 M8 rfl rfl p.1 Bm.1 p.2 Bm.2.1 (by omega) Br s ext [];rw[<-TJ]at hx;refine kF (g:=G3) rfl rfl rfl (by simp[s8]) ?_;have a0:N+e0.length+1<(my Bk (N+e0.length) e0 (.fn F fa fc) s++ext).length:=by simp[s8];omega
  have hb:exp (my Bk (N+e0.length) e0 (.fn F fa fc) s++ext).length false (fE p)=fE p:=rN Bm.1 Bm.2.1;simp only[bE,cG,az,aJ,hb];simp only[exp,a0,if_true,G3,Rm];simp[d1,hx,fE]
 have eC:(δ.mk k g nm cp pl size to cb body ce els).blocks.length<=2:=by unfold δ.blocks;split<;>(try split)<;>simp
 generalize bG:δ.mk k g nm cp pl size to cb body ce els=x at*;intro s ext T;have h6:=f206 (u:=u) s8 hf7 rfl rfl (if aU x.kind then .any else .nil) (by split<;>simp[bp]) x.blocks (fun p hp=>⟨(vu p hp).1,(vu p hp).2.1⟩) (by omega) h7 (f x s) ext [];rw[<-H8]at h6;have Oc:=hyx s (e0++[.cells [.fn F fa fc],.cells [.fn (.func 205) [] [.μ (N+e0.length) 0,.μ (N+e0.length+1) 0]]]++ext) [];have e1:∀s,Bk s++(e0++[.cells [.fn F fa fc],.cells [.fn (.func 205) [] [.μ (N+e0.length) 0,.μ (N+e0.length+1) 0]]]++ext)=my Bk (N+e0.length) e0 (.fn F fa fc) s++ext:=fun s=>by simp[my]
 rw[e1,e1]at Oc;refine kF (g:=G1) rfl rfl rfl (by simp[s8]) ?_;have a0:N+e0.length<(my Bk (N+e0.length) e0 (.fn F fa fc) s++ext).length:=by simp[s8];omega
 have a1:N+e0.length+1<(my Bk (N+e0.length) e0 (.fn F fa fc) s++ext).length:=by simp[s8];omega
 have qW:x.cells.take 14=x.cells:=fo (by omega);simp only[bE,cG,az,aJ,δ.jM _ _ _ ai];simp only[exp,a0,a1,if_true,G1,Rl];simp only[δ.av,iN]at Oc TO⊢;simp[ep,qW,d0,d1,Oc,TO,h6]
theorem Th(bs:List θ)(n:Nat):aO bs n 8 (.aQ [])= .aQ []:=rfl
theorem f204(hN:∀s,(Bk s).length=N)(hf:Fix N (.fn F fa fc))(p_:fa.map ν=fa)(nF:fc.map ν=fc)(hy:∀x:δ,x.Ok->pE u Bk (.fn F fa fc) x.av (f x) true)(c:ρ)(hc:bp c)(l:List δ)(hl:δ.cJ l)(hw:δ.bI l<1000000000000):
  ∀s ext T,ab (C u) (.fn (.func 204) [] [.ref [.list c (δ.χ l)]]) [.fn F fa fc] {ε:=Bk s++ext,η:=T}=some (.aQ [],{ε:=Bk (rP f l s)++ext,η:=T}):=by
 intro s ext T;have Ii:=δ.Al l;have s8:∀s,(my Bk (N+ext.length) ext (.fn F fa fc) s).length=N+ext.length+2:=fun s=>by simp[my,hN];omega
 have M8:Fix (N+ext.length+2) (.fn (.func 205) [] [.μ (N+ext.length) 0,.μ (N+ext.length+1) 0]):=by intro k b hk;simp[exp,aX,Fn.below];omega
 have hx:=f208 (u:=u) s8 M8 rfl rfl c hc l hl (by omega) (fun x hx=>f205 (u:=u) hN ext hf hy x (δ.iB hl x hx) (by have:=δ.oI hx;omega)) s [] [];rw[<-TJ]at hx;refine kF (g:=G0) rfl rfl rfl (by simp[hN]) ?_;have xt:(Bk s++ext).length=N+ext.length:=by simp[hN]
 have hr:exp (Bk s++ext).length false (.ref [.list c (δ.χ l)])= .ref [.list c (δ.χ l)]:=by have:=rN (n:=(Bk s++ext).length) (k:=false) hc hl;simp only[exp,aX]at this⊢;rw[this]
 simp only[bE,cG,az,aJ,hr,hf _ false (show N<=(Bk s++ext).length by omega),G0,Rk];simp only[my,dF,bO,Nat.add_assoc]at hx;simp[Mem.push,Mem.put,Mem.ν,ν,fH,p_,nF,hN,ba,lo,Fn.below,hx,Th]
end
theorem abD(bs:List θ)(n:Nat)(i:Nat)(hi:n<=i)(l:List AV)(h:bs[i]?=some (.cells l)):aO bs n 8 (.fn (.func 204) [] [.μ i 0])= .fn (.func 204) [] [.ref (l.map (aO bs n 7))]:=by
 have:¬i<n:=by omega
 simp[aO,fK,oT,Fn.below,this,h]
theorem L8(bs:List θ)(n k:Nat)(c:ρ)(l:List AV):aO bs n (k+1) (.list c l)= .list (c.exp n false) (l.map (aO bs n (k+1))):=by simp only[aO,fK,qF]
theorem Gj(bs:List θ)(n k:Nat)(l:List AV):aO bs n (k+1) (.agg l)= .agg (l.map (aO bs n (k+1))):=by simp only[aO,fK,qF]
theorem ξ.L7(bs:List θ)(n k:Nat)(p:ξ)(h:p.Ok):aO bs n (k+1) p.av=p.av:=by
 have:(p.ix.map ζ.av).map (aO bs n (k+1))=p.ix.map ζ.av:=by rw[cT];exact de fun x hx=>ζ.yN bs n (k+1) x (h.2.2 x hx).1
 have hs:aO bs n (k+1) (.str p.name)= .str p.name:=rfl;simp only[ξ.av,Gj,az,aJ,L8,fR h.2.1,this,hs]
theorem δ.L7(bs:List θ)(n j:Nat)(x:δ):x.Ok->x.cells.map (aO bs n (j+1))=x.cells:=by
 refine δ.jR (Q:=fun x=>x.Ok->x.cells.map (aO bs n (j+1))=x.cells) (fun kk g nm cp pl size to cb body ce els h1 h2 h=>?_) x;simp only[δ.Ok]at h;obtain⟨-,k1,k2,k3,k4,k5,k6,k7,k8⟩:=h;have e1:(pl.map ξ.av).map (aO bs n (j+1))=pl.map ξ.av:=by rw[cT];exact de fun x hx=>ξ.L7 bs n j x (k2 x hx)
 have go:∀l:List δ,δ.cJ l->(∀y∈l,y.Ok->y.cells.map (aO bs n (j+1))=y.cells)->(δ.χ l).map (aO bs n (j+1))=δ.χ l:=by intro l hl hy;rw[δ.eo,cT];refine de fun y hm=>?_;simp only[Function.comp,δ.av,Gj,hy y hm (δ.iB hl y hm)]
 have q:∀y:ζ,y.Ok->y.four.map (aO bs n (j+1))=y.four:=fun y hy=>by have:=ζ.yN bs n (j+1) y hy;rw[ζ.fD,Gj]at this;simpa using this
 have hs:∀s,aO bs n (j+1) (.str s)= .str s:=fun s=>rfl;have hi:∀k i,aO bs n (j+1) (.int k i)= .int k i:=fun k i=>rfl;simp only[δ.cells,kr,az,aJ,L8,fR k1,fR k5,fR k7,e1,q _ k3.1,q _ k4.1,go body k6 h1,go els k8 h2,hs,hi]
theorem abC(bs:List θ)(n:Nat){c:ρ}(hc:bp c){l:List δ}(h:δ.cJ l):aO bs n 7 (.list c (δ.χ l))= .list c (δ.χ l):=by
 have:(δ.χ l).map (aO bs n 7)=δ.χ l:=by rw[δ.eo,cT];exact de fun y hy=>by simp only[Function.comp,δ.av,Gj,δ.L7 bs n 6 y (δ.iB h y hy)]
 rw[L8,fR hc,this]
theorem f134(c:ρ)(hc:bp c)(l:List δ)(hl:δ.cJ l)(m:Mem):kf u 134 [.list c (δ.χ l)] m=some (.fn (.func 204) [] [.ref [.list c (δ.χ l)]],m):=by
 refine dI (g:=GA) rfl rfl rfl ?_;simp only[az,aJ,rN hc hl,GA,QZ];have n1:(δ.χ l).map ν=δ.χ l:=by rw[δ.eo,cT];exact de fun y _=>by simp only[Function.comp,δ.av,ν,δ.zN]
 simp[Mem.push,Mem.ν,ν,fH,n1];rw[abD _ _ _ (Nat.le_refl _) [.list c (δ.χ l)] (by simp)];simp[abC _ _ hc hl]
theorem akB(n:Nat):bC .i64 (bC .i64 (n:Int)+1)=bC .i64 ((n+1:Nat):Int):=by
 have h:∀x:Int,bC .i64 x=if(true&&decide (x % 18446744073709551616≥9223372036854775808))=true then x % 18446744073709551616-18446744073709551616 else x % 18446744073709551616:=fun x=>rfl;simp only[h];simp
 (repeat' split)<;>omega
def AN(B:List θ)(env:List AV)(n:Nat):List θ:=B++[.cells [.n (bC .i64 (n:Int))],.loop env [6] .skip (.block 1 (.ops [⟨(some 7),.ld false 1 (.t 3),none⟩,⟨(some 8),.bin .add (.t 7) (.c (.n 1)),none⟩,⟨none,.st 1 (.t 3) (.t 8),none⟩])) .ready]
theorem abN(l:List AV)(i:Nat):aK (l.map ν) i=ν (aK l i):=by
 induction l generalizing i with
 |nil=>simp[aK,ν]
 |cons a l ih=>cases i with
  |zero=>rfl
  |succ i=>simp only[az,aK,ih]
theorem akT(B:List θ)(env:List AV)(h3:aK env 3= .μ B.length 0)(v:AV)(n:Nat)(ext:List θ)(T:List Nat):
  ab (C u) (.fn (.yield (B.length+1)) [] []) [v] {ε:=AN B env n++ext,η:=T}=some (.bool true,{ε:=AN B env (n+1)++ext,η:=T}):=by
 apply sS;simp only[body];unfold round;simp[AN,uX,Mem.ls,Mem.i_,h3,Mem.put,ba,lo,akB,Mem.ν,ν]
theorem f135(c:ρ)(hc:bp c)(l:List δ)(hl:δ.cJ l)(hw:δ.bI l<1000000000000)(m:Mem):kf u 135 [.list c (δ.χ l)] m=some (.n (δ.bL l),m):=by
 have aaZ:=f134 (u:=u) c hc l hl;refine dI (g:=GB) rfl rfl rfl ?_;simp only[az,aJ,rN hc hl,GB,Q0];let K:St->Prop:=fun st=>st.e 3= .μ m.ε.length 0/\st.mem= {ε:=m.ε++[.cells [.n 0]],η:=[]};refine Δ (fun st=>st.e 0= .list c (δ.χ l)/\st.mem= {ε:=m.ε,η:=[]}) (by simp) fun s1 ⟨h1,h2⟩=>?_;refine Δ (fun st=>K st/\st.e 0= .list c (δ.χ l)) (by simp[K,h1,h2,Mem.push,Mem.put,Mem.ν,ν,ba,lo]) fun s1 ⟨⟨h1,h2⟩,h3⟩=>?_;refine bJ (fun st=>st.e 3= .μ m.ε.length 0/\st.mem= {ε:=m.ε++[.cells [.n (δ.bL l)]],η:=[]}) ?_ fun s2 ⟨h1,h2⟩=>by simp[h1,h2]
 refine Δ (fun st=>K st/\st.e 5= .fn (.func 204) [] [.ref [.list c (δ.χ l)]]) (by simp[K,h1,h2,h3,aaZ]) fun s1 ⟨⟨h1,h2⟩,h3⟩=>?_;refine κ.block ?_;have er:∀M:Mem,M.ν=ν:=fun _=>rfl;have fw:aK (s1.env.map ν) 3= .μ m.ε.length 0:=by rw[abN];exact congrArg ν h1
 have Br:=f204 (u:=u) (Bk:=AN m.ε (s1.env.map ν)) (N:=m.ε.length+2) (F:= .yield (m.ε.length+1)) (fa:=[]) (fc:=[]) (f:=fun _ n=>n+1) (fun n=>by simp[AN]) (fun k b hk=>by simp[exp,aX,Fn.below];omega) rfl rfl
  (fun x _ n ext T=>akT m.ε _ fw x.av n ext T) c hc l hl hw 0 [] []
 have acd:∀(l:List δ) (n:Nat),rP (fun _ n=>n+1) l n=n+δ.bL l:=by
  intro l;refine δ.lists (P:=fun l=>∀n:Nat,rP (fun _ n=>n+1) l n=n+δ.bL l) (fun l ih n=>?_) l;induction l generalizing n with
  |nil=>rfl
  |cons a l xH=>
   have ha:=ih a (by simp)
   obtain⟨k,g,nm,cp,pl,size,to,cb,body,ce,els⟩:=a;simp only[δ.body,δ.els]at ha;simp only[rP,w_,δ.bL,δ.cnt,xH (fun y hy=>ih y (by simp[hy])),ha.1,ha.2];by_cases hb:aU k=true
   ·by_cases he:bm k=true<;>simp[hb,he]<;>omega
   ·have he:¬bm k=true:=by simp only[aU,bm,decide_eq_true_eq]at hb⊢;omega
    simp[hb,he];omega
 rw[acd,lF]at Br;have hcw:=(δ.Lm l).1;have gh:bC .i64 (δ.bL l:Int)=(δ.bL l:Int):=wrap_i64 (by omega) (by omega);have zu:bC .i64 0=0:=by decide
 simp only[AN,dF,gh]at Br;have adi:bC .i64 ((0:Nat):Int)=0:=by decide
 rw[adi]at Br;simp only[κ,exec,dw,h3,AV.zA,Option.bind_some,h2,List.length_append,List.length_cons,List.length_nil,lF,bO,cG,bE];simp[er,Br,h1,Mem.back,lV];rw[List.take_append];simp[fo]
def af7(n:c7)(d:Int):rD:=if n.w=1\/n.w=3 then .ki false else if n.w=2 then .ki (decide (n.d=d))else if n.w=4 then .bit else if n.w=5 then .dS else .none
structure akV (l:List c7) (d:Int) (L:bX):Prop where
 look:∀s,L s=af7 (jf l s) d
 ws:∀x∈l,1<=x.w/\x.w<=5
 ds:∀x∈l,x.d<=d
theorem Tc(l:List c7)(s:List Nat):jf l s=⟨[],0,0⟩\/(jf l s∈l/\(jf l s).name=s):=by
 induction l with
 |nil=>exact .inl rfl
 |cons a l ih=>
  simp only[jf]
  split
  ·rename_i h;exact .inr ⟨by simp,h⟩
  ·rcases ih with h|⟨h,h'⟩
   ·exact .inl h
   ·exact .inr ⟨by simp[h],h'⟩
theorem abq{l:List c7}{s:List Nat}(h:¬∃y∈l,y.name=s):jf l s=⟨[],0,0⟩:=by
 rcases Tc l s with h1|⟨h1,h2⟩
 ·exact h1
 ·exact absurd ⟨_,h1,h2⟩ h
def lf(L:bX):Prop:=∀s,L s≠ .none->s.length<=8
theorem O2{s:List Nat}(h:dc s=true):s.length<=8:=by simp only[dc,Bool.and_eq_true,decide_eq_true_eq]at h;exact h.1.1.1.2
theorem lf.put{L:bX}(h:lf L){s:List Nat}(hs:s.length<=8)(w:rD):lf (L.put s w):=by
 intro t ht;simp only[bX.put]at ht;split at ht
 ·rename_i he;rw[he];exact hs
 ·exact h t ht
theorem lf.del{L:bX}(h:lf L)(s:List Nat):lf (L.put s .none):=by
 intro t ht;simp only[bX.put]at ht;split at ht
 ·exact absurd rfl ht
 ·exact h t ht
theorem lf.inner{L:bX}(h:lf L):lf L.inner:=by intro t ht;refine h t fun he=>ht ?_;simp[bX.inner,he]
theorem O3{L:bX}{s:List Nat}(h:fG L s=0):dc s=true/\L s= .none:=by
 unfold fG at h;split at h
 ·cases h
 ·rename_i h1;split at h
  ·cases h
  ·rename_i h2;exact⟨by simpa using h1,by simpa using h2⟩
theorem Xa{n:Nat}{k:Bool}{c:ρ}(hc:bp c){l:List ξ}(h:∀p∈l,p.Ok):exp n k (.list c (l.map ξ.av))= .list c (l.map ξ.av):=by
 have:aX n k (l.map ξ.av)=l.map ξ.av:=by rw[fe,cT];exact de fun p hp=>ξ.jM n k p (h p hp)
 simp only[exp,fR hc,this]
theorem aib(p:ξ):p.ix.length<=p.wt:=by have:=ζ.AQ p.ix;simp only[ξ.wt];omega
def tH(c:ρ)(ps:List τ):AV:= .agg [.list c (ps.map τ.av)]
theorem LU{n:Nat}{k:Bool}{c:ρ}(hc:bp c){ps:List τ}(h:∀x∈ps,x.Ok):exp n k (.list c (ps.map τ.av))= .list c (ps.map τ.av):=by
 have:aX n k (ps.map τ.av)=ps.map τ.av:=by rw[fe,cT];exact de fun p hp=>τ.jM n k p (h p hp)
 simp only[exp,fR hc,this]
theorem S9{n:Nat}{k:Bool}{c:ρ}(hc:bp c){ps:List τ}(h:∀x∈ps,x.Ok):exp n k (tH c ps)=tH c ps:=by have:=LU (n:=n) (k:=k) hc h;simp only[tH,exp,aX]at this⊢;rw[this]
theorem aiq(ps:List τ)(s:List Nat):(EP ps s= -1/\ql ps s=none)\/∃(n:Nat) (q:τ),EP ps s=(n:Int)/\ql ps s=some n/\ps[n]?=some q/\n<ps.length:=by
 unfold EP;cases h:ql ps s with
 |none=>exact .inl ⟨rfl,rfl⟩
 |some n=>
  rw[ql,tU]at h
  obtain⟨h1,h2,_⟩:=h;exact .inr ⟨n,ps[n],rfl,rfl,dn h1,h1⟩
theorem cell0(x:δ):x.cells.take 1=[.n x.kind]:=by cases x;rfl
theorem oN(x:δ):(x.cells.drop 2).take 1=[.str x.name]:=by cases x;rfl
theorem Sg(x:δ):x.cells.take 14=x.cells:=fo (by have:=δ.lH x;omega)
theorem ado(ps:List τ)(own:Nat)(x:δ)(L:bX):lv ps own x L=if aU x.kind then(if gm ps own x.body (inside L x.kind x.name)≠0 then gm ps own x.body (inside L x.kind x.name)else if bm x.kind then gm ps own x.els (inside L x.kind x.name)else 0)else 0:=by cases x;rfl
def bF(x:c7):AV×AV:=(.str x.name,.agg [.n x.w,.n x.d])
def ju:List c7->List Nat->Int->Int->List c7
 |[],s,w,d=>[⟨s,w,d⟩]
 |x::l,s,w,d=>if x.name=s then⟨s,w,d⟩::l else x::ju l s w d
def n9:List c7->List Nat->List c7
 |[],_=>[]
 |x::l,s=>if x.name=s then l else x::n9 l s
theorem af4(es:List c7)(s:List Nat):(jF (.str s) (es.map bF)=some none/\jf es s=⟨[],0,0⟩/\¬∃y∈es,y.name=s)\/∃w d,jF (.str s) (es.map bF)=some (some (.agg [.n w,.n d]))/\jf es s=⟨s,w,d⟩/\⟨s,w,d⟩∈es:=by
 induction es with
 |nil=>exact .inl ⟨rfl,rfl,by simp⟩
 |cons a l ih=>
  obtain⟨nn,w,d⟩:=a
  by_cases h:nn=s
  ·subst h;exact .inr ⟨w,d,by simp[jF,bF,jT],by simp[jf],by simp⟩
  ·have φ:¬s=nn:=Ne.symm h;rcases ih with⟨h1,h2,h3⟩|⟨w',d',h1,h2,h3⟩
   ·exact .inl ⟨by simpa[jF,bF,jT,φ]using h1,by simp[jf,h,h2],by simpa[h]using h3⟩
   ·exact .inr ⟨w',d',by simpa[jF,bF,jT,φ]using h1,by simp[jf,h,h2],by simp[h3]⟩
theorem Jb(es:List c7)(s:List Nat)(w d:Int):uI (.str s) (.agg [.n w,.n d]) (es.map bF)=some ((ju es s w d).map bF):=by
 induction es with
 |nil=>rfl
 |cons a l ih=>
  by_cases h:a.name=s
  ·have h':s=a.name:=h.symm;simp[uI,bF,jT,ju,h]
  ·have φ:¬s=a.name:=Ne.symm h;simp only[az,uI,bF,jT,φ,decide_false,ju,h,if_false]at ih⊢;rw[ih];rfl
theorem agj(es:List c7)(s:List Nat):xN (.str s) (es.map bF)=some ((n9 es s).map bF):=by
 induction es with
 |nil=>rfl
 |cons a l ih=>
  by_cases h:a.name=s
  ·simp[xN,bF,jT,n9,h]
  ·have φ:¬s=a.name:=Ne.symm h;have Vz:xN (.str s) (l.map bF)=some ((n9 l s).map bF):=ih;simp only[az,xN,jT,bF,φ,decide_false,n9,h,if_false];have e:(l.map fun x=>(AV.str x.name,AV.agg [.n x.w,.n x.d]))=l.map bF:=rfl
   first|rw[Vz]|(rw[e,Vz])
   rfl
theorem abr(es:List c7)(s:List Nat)(w d:Int)(t:List Nat):jf (ju es s w d) t=if t=s then⟨s,w,d⟩else jf es t:=by
 induction es with
 |nil=>
  by_cases h:t=s
  ·subst h;simp[ju,jf]
  ·simp[ju,jf,h,Ne.symm h]
 |cons a l ih=>
  by_cases h:a.name=s
  ·by_cases h2:t=s
   ·subst h2;simp[ju,jf,h]
   ·have:¬a.name=t:=fun he=>h2 (he.symm.trans h);simp[ju,jf,h,h2,Ne.symm h2,this]
  ·by_cases h2:t=s
   ·subst h2;simp[ju,jf,h,ih]
   ·simp only[ju,h,if_false,jf,ih,h2]
theorem Pp{es:List c7}{s:List Nat}{w d:Int}{x:c7}(h:x∈ju es s w d):x=⟨s,w,d⟩\/x∈es:=by
 induction es with
 |nil=>simp[ju]at h;exact .inl h
 |cons a l ih=>
  simp only[ju]at h
  split at h
  ·rcases cy.1 h with h|h
   ·exact .inl h
   ·exact .inr (by simp[h])
  ·rcases cy.1 h with h|h
   ·exact .inr (by simp[h])
   ·rcases ih h with h|h
    ·exact .inl h
    ·exact .inr (by simp[h])
theorem Lt{es:List c7}{s:List Nat}{x:c7}(h:x∈n9 es s):x∈es:=by
 induction es with
 |nil=>cases h
 |cons a l ih=>
  simp only[n9]at h
  split at h
  ·simp[h]
  ·rcases cy.1 h with h|h
   ·simp[h]
   ·simp[ih h]
theorem aiD{es:List c7}{s:List Nat}{w d:Int}(h:(es.map c7.name).Nodup):((ju es s w d).map c7.name).Nodup:=by
 induction es with
 |nil=>simp[ju]
 |cons a l ih=>
  rw[az,yk]at h
  simp only[ju];split
  ·rename_i he;rw[az,yk];exact⟨by rw[<-he];exact h.1,h.2⟩
  ·rename_i φ;rw[az,yk];refine⟨fun hm=>?_,ih h.2⟩;obtain⟨x,hx,he⟩:=eP.1 hm;rcases Pp hx with rfl|hx
   ·exact φ he.symm
   ·exact h.1 (eP.2 ⟨x,hx,he⟩)
theorem aaR{es:List c7}{s:List Nat}(h:(es.map c7.name).Nodup):((n9 es s).map c7.name).Nodup:=by
 induction es with
 |nil=>simp[n9]
 |cons a l ih=>
  rw[az,yk]at h
  simp only[n9];split
  ·exact h.2
  ·rw[az,yk];refine⟨fun hm=>?_,ih h.2⟩;obtain⟨x,hx,he⟩:=eP.1 hm;exact h.1 (eP.2 ⟨x,Lt hx,he⟩)
theorem abp{es:List c7}(s:List Nat)(h:(es.map c7.name).Nodup)(t:List Nat):jf (n9 es s) t=if t=s then⟨[],0,0⟩else jf es t:=by
 induction es with
 |nil=>simp[n9,jf]
 |cons a l ih=>
  rw[az,yk]at h
  simp only[n9];by_cases he:a.name=s
  ·simp only[he,if_true];by_cases h2:t=s
   ·subst h2;simp only[if_true];refine abq ?_
    rintro⟨y,hy,vV⟩
    exact h.1 (eP.2 ⟨y,hy,vV.trans he.symm⟩)
   ·simp only[h2,if_false,jf,he,Ne.symm h2]
  ·simp only[he,if_false,jf,ih h.2];by_cases h2:t=s
   ·subst h2;simp[he]
   ·simp[h2]
def ke(n:c7)(b:Int):rD:=if n.w=1 then .ki (decide (n.d=b))else if n.w=2 then .bit else if n.w=3 then .dS else .none
structure fZ (es:List c7) (b nb:Int) (L:bX):Prop where
 look:∀s,L s=ke (jf es s) b
 ws:∀x∈es,1<=x.w/\x.w<=3
 ds:∀x∈es,x.d<nb
 nd:(es.map c7.name).Nodup
theorem fZ.empty(b nb:Int):fZ [] b nb pA:=⟨fun _=>rfl,fun _ h=>(by cases h),fun _ h=>(by cases h),by simp⟩
theorem fZ.mono{es:List c7}{b nb eJ:Int}{L:bX}(h:fZ es b nb L)(hb:nb<=eJ):fZ es b eJ L:=⟨h.look,h.ws,fun x hx=>by have:=h.ds x hx;omega,h.nd⟩
theorem fZ.put{es:List c7}{b nb:Int}{L:bX}(h:fZ es b nb L)(s:List Nat)(w d:Int)(hw:1<=w/\w<=3)(hd:d<nb):fZ (ju es s w d) b nb (L.put s (ke ⟨s,w,d⟩ b)):=by
 refine⟨fun t=>?_,fun x hx=>?_,fun x hx=>?_,aiD h.nd⟩
 ·rw[abr];simp only[bX.put];by_cases ht:t=s
  ·simp[ht]
  ·simp[ht,h.look t]
 ·rcases Pp hx with rfl|hx
  ·exact hw
  ·exact h.ws x hx
 ·rcases Pp hx with rfl|hx
  ·exact hd
  ·exact h.ds x hx
theorem fZ.del{es:List c7}{b nb:Int}{L:bX}(h:fZ es b nb L)(s:List Nat):fZ (n9 es s) b nb (L.put s .none):=by
 refine⟨fun t=>?_,fun x hx=>h.ws x (Lt hx),fun x hx=>h.ds x (Lt hx),aaR h.nd⟩;rw[abp s h.nd];simp only[bX.put];by_cases ht:t=s
 ·simp[ht,ke]
 ·simp[ht,h.look t]
theorem fZ.inner{es:List c7}{b nb:Int}{L:bX}(h:fZ es b nb L):fZ es nb (nb+1) L.inner:=by
 refine⟨fun t=>?_,h.ws,fun x hx=>by have:=h.ds x hx;omega,h.nd⟩;simp only[bX.inner,h.look t];rcases Tc es t with h1|⟨h1,_⟩
 ·simp[h1,ke]
 ·have hd:=h.ds _ h1;have φ:¬(jf es t).d=nb:=by omega
  unfold ke
  (repeat' split)<;>simp_all
theorem B8{es:List c7}{b nb:Int}{L:bX}(h:fZ es b nb L)(s:List Nat):
  (jF (.str s) (es.map bF)=some none/\L s= .none)\/∃w d,jF (.str s) (es.map bF)=some (some (.agg [.n w,.n d]))/\(w=1\/w=2\/w=3)/\L s=ke ⟨s,w,d⟩ b:=by
 have hl:=h.look s;rcases af4 es s with⟨h1,h2,_⟩|⟨w,d,h1,h2,h3⟩
 ·rw[h2]at hl;exact .inl ⟨h1,hl⟩
 ·rw[h2]at hl;have:=h.ws _ h3;dsimp only at this;exact .inr ⟨w,d,h1,by omega,hl⟩
def eM(id:Nat)(b:Int):AV:= .agg [.map id,.n b]
theorem f298{B:List θ}{id:Nat}{es:List c7}{b nb:Int}{L:bX}(hid:B[id]?=some (.map (es.map bF)))(hs:fZ es b nb L)(s:List Nat):lA u B (.fn (.func 298) [eM id b] []) [.str s] (.bool (iV L s)):=by
 intro ext T;have ψ:id<B.length:=by
  rcases da id B.length with h|h
  ·exact h
  ·rw[h_ h]at hid;cases hid
 have eQ:id<(B++ext).length:=by simp;omega
 have jq:(B++ext)[id]?=some (.map (es.map bF)):=by rw[ek ψ];exact hid
 refine sQ (g:=Hw) rfl rfl rfl ?_;simp only[eM,cG,bE,dF,az,aJ,exp,aX,eQ,if_true,Hw,RP];generalize B++ext=BB at*;rcases B8 hs s with⟨h1,h2⟩|⟨w,d,h1,hw,h2⟩
 ·simp[jq,isKey,h1,iV,h2]
 ·simp only[iV,h2];rcases hw with rfl|rfl|rfl<;>simp[jq,isKey,h1,ke]
theorem f275{B:List θ}{id:Nat}{es:List c7}{b nb:Int}{L:bX}(hid:B[id]?=some (.map (es.map bF)))(hs:fZ es b nb L)(x:ζ)(ai:x.Ok)(qV:x.rB)(oW:x.cnt<1000000000000)(fst args:List AV)(MZ:fst++args=[eM id b,x.av]):
  lA u B (.fn (.func 275) fst []) args (.n (x.err (iV L) 1)):=by
 intro ext T;have ψ:id<B.length:=by
  rcases da id B.length with h|h
  ·exact h
  ·rw[h_ h]at hid;cases hid
 have eQ:id<(B++ext).length:=by simp;omega
 have tf:Fix B.length (.fn (.func 298) [eM id b] []):=by
  intro k bb hk;have:id<k:=by omega
  simp[exp,aX,Fn.below,eM,this]
 have Mk:=f112 (u:=u) (B:=B) 1 tf (by simp[eM,ν,cw]) rfl (fun s _=>f298 hid hs s) x ai qV oW ext [];refine sQ (g:=Hn) rfl rfl rfl ?_;rw[MZ];simp only[dF,az,aJ,ζ.jM _ _ _ ai];simp only[eM,exp,aX,eQ,if_true,Hn,RG];simp only[eM]at Mk;generalize B++ext=BB at*;generalize x.err (iV L) 1=xe at*;obtain⟨k,n,s,c,l⟩:=x;simp only[ζ.av]at Mk⊢;simp[Mk]
theorem f274{B:List θ}{id:Nat}{es:List c7}{b nb:Int}{L:bX}(hid:B[id]?=some (.map (es.map bF)))(hs:fZ es b nb L)(p:ξ)(ai:p.Ok)(hw:p.wt<1000000000000)(fst args:List AV)(MZ:fst++args=[eM id b,p.av]):
  lA u B (.fn (.func 274) fst []) args (.n (jt L p)):=by
 intro ext T;have ψ:id<B.length:=by
  rcases da id B.length with h|h
  ·exact h
  ·rw[h_ h]at hid;cases hid
 have eQ:id<(B++ext).length:=by simp;omega
 have jq:(B++ext)[id]?=some (.map (es.map bF)):=by rw[ek ψ];exact hid
 have tf:Fix B.length (.fn (.func 275) [eM id b] []):=by
  intro k bb hk;have:id<k:=by omega
  simp[exp,aX,Fn.below,eM,this]
 have dD:=aib p;have acU:ζ.cJ p.ix:=by
  have:∀l:List ζ,(∀x∈l,x.gA)->ζ.cJ l:=by
   intro l;induction l with
   |nil=>intro _;trivial
   |cons a l ih=>exact fun h=>⟨(h a (by simp)).1,ih fun x hx=>h x (by simp[hx])⟩
  exact this _ ai.2.2
 have TQ:=f177 (u:=u) (B:=B) (F:=ζ.err (iV L) 1) tf p.c ai.2.1 p.ix acU (by omega) (fun x hx=>f275 hid hs x (ai.2.2 x hx).1 (ai.2.2 x hx).2 (by have:=ζ.AP hx;simp only[ξ.wt]at hw;omega) [eM id b] [x.av] rfl) ext [];have MN:p.av= .agg [.str p.name,.list p.c (ζ.χ p.ix)]:=by simp[ξ.av,ζ.eo]
 refine sQ (g:=Hm) rfl rfl rfl ?_;rw[MZ];simp only[dF,az,aJ,ξ.jM _ _ _ ai];rw[MN];simp only[eM,exp,aX,eQ,if_true,Hm,RF];simp only[eM]at TQ;generalize B++ext=BB at*;unfold jt;generalize first (ζ.err (iV L) 1) p.ix=pe at*
 have vH:∀q:Prop,(2:Int)<(p.ix.length:Int)↔2<p.ix.length:=fun _=>by omega
 rcases B8 hs p.name with⟨h1,h2⟩|⟨w,d,h1,lS,h2⟩
 ·simp[jq,isKey,h1,h2,rD.zB]
 ·rw[h2];rcases lS with rfl|rfl|rfl
  ·by_cases UO:2<p.ix.length
   ·have:(2:Int)<(p.ix.length:Int):=by omega
    simp[jq,isKey,h1,ke,rD.zB,rF,UO,this]
   ·have:¬(2:Int)<(p.ix.length:Int):=by omega
    simp[jq,isKey,h1,ke,rD.zB,rF,UO,this,TQ]
  ·simp[jq,isKey,h1,ke,rD.zB]
  ·simp[jq,isKey,h1,ke,rD.zB]
theorem f191{B:List θ}{id:Nat}{es:List c7}{b nb:Int}{L:bX}(hid:B[id]?=some (.map (es.map bF)))(hs:fZ es b nb L)(s:List Nat)(qV:du s):lA u B (.fn (.func 191) [] []) [eM id b,.str s] (.n (fG L s)):=by
 intro ext T;have ψ:id<B.length:=by
  rcases da id B.length with h|h
  ·exact h
  ·rw[h_ h]at hid;cases hid
 have eQ:id<(B++ext).length:=by simp;omega
 have jq:(B++ext)[id]?=some (.map (es.map bF)):=by rw[ek ψ];exact hid
 have rM:=fun m=>f113 (u:=u) s qV m;refine dI (g:=GV) rfl rfl rfl ?_;simp only[eM,az,aJ,exp,aX,eQ,if_true,GV,Rh];generalize B++ext=BB at*;unfold fG;cases hn:dc s with
 |false=>rw[hn]at rM;simp[rM]
 |true=>
  rw[hn]at rM
  rcases B8 hs s with⟨h1,h2⟩|⟨w,d,h1,lS,h2⟩
  ·simp[jq,isKey,h1,h2,rM,dd,jL]
  ·rw[h2];rcases lS with rfl|rfl|rfl<;>simp[jq,isKey,h1,rM,dd,jL,ke]
theorem f273{B:List θ}{fv:AV}{F:ξ->Int}(hf:Fix B.length fv)(c:ρ)(hc:bp c)(l:List ξ)(hl:∀p∈l,p.Ok)(hlen:l.length<1000000000000)
  (h:∀x∈l,lA u B fv [x.av] (.n (F x))):lA u B (.fn (.func 273) [] []) [.list c (l.map ξ.av),fv] (.n (first F l)):=by
 intro ext T;refine dI (g:=Hl) rfl rfl rfl ?_;simp only[az,aJ,Xa hc hl,hf _ false (show B.length<=(B++ext).length by simp),Hl,RE];let K:St->Prop:=fun st=>st.e 1=fv/\st.mem= {ε:=B++ext,η:=[]};refine Δ (fun st=>K st/\st.e 0= .list c (l.map ξ.av)) (by simp[K]) fun s1 ⟨⟨h1,h2⟩,h3⟩=>?_;refine bJ (fun st=>K st/\first F l=0) ?_ fun s2 ⟨⟨h1,h2⟩,h3⟩=>by simp[h1,h2,h3]
 let I:Nat->St->Prop:=fun i st=>K st/\st.e 8= .list c (l.map ξ.av)/\st.e 9= .n l.length/\st.e 10= .n i/\∀j (hj:j<l.length),j<i->F l[j]=0;refine Δ (I 0) (by simp[I,K,h1,h2,h3]) fun s4 hI=>?_;refine κ.block (κ.loop (I:=I) l.length hI fun i st hi Ω=>?_);obtain⟨⟨h1,h2⟩,q1,q2,q3,q4⟩:=Ω;rcases da i l.length with ψ|dD
 ·have hw:bC .i64 ((i:Int)+1)=(i:Int)+1:=wrap_i64 (by omega) (by omega);have hx:=h _ (c_ ψ) ext [];simp only[ξ.av]at hx;by_cases hz:F l[i]=0
  ·left;refine⟨ψ,?_⟩;rw[hz]at hx;have q5:=CE (P:=fun j=>∀hj:j<l.length,F l[j]=0) (n:=l.length) (fun j a b c=>q4 j c b) (fun _=>hz);simp[I,K,IV,h1,h2,q1,q2,q3,ψ,ξ.av,hx,hw];exact fun j hj me=>q5 j hj me hj
  ·right;have rW:=LZ ψ q4 hz;rw[rW];have e1:=bne_true hz;simp[K,IV,h1,h2,q1,q2,q3,ψ,ξ.av,hx,e1]
 ·right;have:i=l.length:=by omega
  subst this;have hz:=Gg (f:=F) fun j hj=>q4 j hj hj;simp[K,IV,h1,h2,q1,q2,q3,hz]
theorem f272(g:Int)(hg:1<=g/\g<=12)(m:Mem):kf u 272 [.n g] m=some (.n (gb g),m):=by
 refine dI (g:=Bd) rfl rfl rfl ?_;by_cases h1:g=12
 ·subst h1;simp[Bd,FL,exp,gb]
 by_cases h2:9<=g
 ·have:¬g<=8:=by omega
  have:g<=11:=by omega
  simp[Bd,FL,exp,gb,ff h1, *]
 ·have:g<=8:=by omega
  simp[Bd,FL,exp,gb,ff h1, *]
def zy(q:τ->Bool)(l:List τ):Int:=match l.findIdx? q with
 |none=> -1
 |some i=>i
theorem f66{B:List θ}{fv:AV}{q:τ->Bool}(hf:Fix B.length fv)(c:ρ)(hc:bp c)(l:List τ)(hl:∀p∈l,p.Ok)(hlen:l.length<1000000000000)
  (h:∀x∈l,lA u B fv [x.av] (.bool (q x))):lA u B (.fn (.func 66) [] []) [.list c (l.map τ.av),fv] (.n (zy q l)):=by
 intro ext T;refine dI (g:=HG) rfl rfl rfl ?_;simp only[az,aJ,LU hc hl,hf _ false (show B.length<=(B++ext).length by simp),HG,RZ];let K:St->Prop:=fun st=>st.e 0= .list c (l.map τ.av)/\st.e 1=fv/\st.mem= {ε:=B++ext,η:=[]};refine Δ (K) (by simp[K]) fun s1 ⟨h1,h2,h3⟩=>?_;refine bJ (fun st=>K st/\zy q l= -1) ?_ fun s2 ⟨⟨h1,h2,h3⟩,h4⟩=>by simp[h3,h4]
 let I:Nat->St->Prop:=fun i st=>K st/\st.e 7= .n l.length/\st.e 8= .n i/\∀j (hj:j<l.length),j<i->q l[j]=false;refine Δ (I 0) (by simp[I,K,h1,h2,h3]) fun s4 hI=>?_;refine κ.block (κ.loop (I:=I) l.length hI fun i st hi Ω=>?_);obtain⟨⟨h1,h2,h3⟩,q1,q2,q4⟩:=Ω;rcases da i l.length with ψ|dD
 ·have hw:bC .i64 ((i:Int)+1)=(i:Int)+1:=wrap_i64 (by omega) (by omega);have hx:=h _ (c_ ψ) ext [];simp only[τ.av]at hx;cases hz:q l[i]with
  |false=>
   left
   refine⟨ψ,?_⟩;rw[hz]at hx;have q5:=CE (P:=fun j=>∀hj:j<l.length,q l[j]=false) (n:=l.length) (fun j a b c=>q4 j c b) (fun _=>hz);simp[I,K,IW,h1,h2,h3,q1,q2,ψ,τ.av,hx,hw];exact fun j hj me=>q5 j hj me hj
  |true=>
   right
   rw[hz]at hx;have hi:zy q l=i:=by
    have:l.findIdx? q=some i:=by rw[tU];exact⟨ψ,hz,fun j hj=>by simp[q4 j (by omega) hj]⟩
    simp[zy,this]
   simp[K,IW,h1,h2,h3,q1,q2,ψ,τ.av,hx,hi]
 ·right;have:i=l.length:=by omega
  subst this;have hi:zy q l= -1:=by
   have:l.findIdx? q=none:=by rw[wG];intro x hx;obtain⟨j,hj,rfl⟩:=List.getElem_of_mem hx;exact q4 j hj hj
   simp[zy,this]
  simp[K,IW,h1,h2,h3,q1,q2,hi]
theorem f189{B:List θ}{fv:AV}{q:τ->Bool}(hf:Fix B.length fv)(c:ρ)(hc:bp c)(l:List τ)(hl:∀p∈l,p.Ok)(hlen:l.length<1000000000000)
  (h:∀x∈l,lA u B fv [x.av] (.bool (q x))):lA u B (.fn (.func 189) [] []) [.list c (l.map τ.av),fv] (.bool (l.any q)):=by
 intro ext T;have hx:=f66 (u:=u) hf c hc l hl hlen h ext [];refine dI (g:=GS) rfl rfl rfl ?_;simp only[az,aJ,LU hc hl,hf _ false (show B.length<=(B++ext).length by simp),GS,Re];unfold zy at hx;cases Bq:l.findIdx? q with
 |none=>
  rw[Bq]at hx
  have ha:l.any q=false:=by rw[wG]at Bq;rw[List.any_eq_false];intro x hx;simp[Bq x hx]
  rw[ha];simp[hx]
 |some i=>
  rw[Bq]at hx
  have ha:l.any q=true:=by rw[tU]at Bq;obtain⟨h1,h2,_⟩:=Bq;rw[List.any_eq_true];exact⟨_,c_ h1,h2⟩
  rw[ha];have:(0:Int)<=(i:Int):=by omega
  simp[hx,this]
theorem f276{B:List θ}{n:Nat}(x:δ)(hn:B[n]?=some (.cells x.cells))(p:τ)(hp:p.Ok):lA u B (.fn (.func 276) [] [.μ n 0]) [p.av] (.bool (p.name==x.name)):=by
 intro ext T;have ψ:n<B.length:=by
  rcases da n B.length with h|h
  ·exact h
  ·rw[h_ h]at hn;cases hn
 have eQ:n<(B++ext).length:=by simp;omega
 have gF:(B++ext)[n]?=some (.cells x.cells):=by rw[ek ψ];exact hn
 refine sQ (g:=Ho) rfl rfl rfl ?_;simp only[bE,cG,az,aJ,τ.jM _ _ _ hp];simp only[exp,eQ,if_true,Ho,RH];have k2:=oN x;have kl:=δ.lH x;have hb:(p.name==x.name)=decide (p.name=x.name):=by cases h:p.name==x.name<;>simp_all
 simp[τ.av,gF,k2,kl,hb]
theorem f190{B:List θ}{n:Nat}(nm:List Nat)(r:List AV)(hn:B[n]?=some (.cells (.str nm::r)))(p:τ)(hp:p.Ok):lA u B (.fn (.func 190) [] [.μ n 0]) [p.av] (.bool (p.name==nm)):=by
 intro ext T;have ψ:n<B.length:=by
  rcases da n B.length with h|h
  ·exact h
  ·rw[h_ h]at hn;cases hn
 have eQ:n<(B++ext).length:=by simp;omega
 have gF:(B++ext)[n]?=some (.cells (.str nm::r)):=by rw[ek ψ];exact hn
 refine sQ (g:=GU) rfl rfl rfl ?_;simp only[bE,cG,az,aJ,τ.jM _ _ _ hp];simp only[exp,eQ,if_true,GU,Rg];have hb:(p.name==nm)=decide (p.name=nm):=by cases h:p.name==nm<;>simp_all
 simp[τ.av,gF,hb]
def _root_.Go.Θ.δ.gate:δ->Int
 | .mk _ g _ _ _ _ _ _ _ _ _=>g
def _root_.Go.Θ.δ.cp:δ->ρ
 | .mk _ _ _ c _ _ _ _ _ _ _=>c
def _root_.Go.Θ.δ.pl:δ->List ξ
 | .mk _ _ _ _ l _ _ _ _ _ _=>l
def _root_.Go.Θ.δ.size:δ->ζ
 | .mk _ _ _ _ _ x _ _ _ _ _=>x
def _root_.Go.Θ.δ.to:δ->ζ
 | .mk _ _ _ _ _ _ x _ _ _ _=>x
theorem rH(x:δ):x.cells.tail.take 1=[.n x.gate]:=by cases x;rfl
theorem rI(x:δ):(x.cells.drop 3).take 1=[.list x.cp (x.pl.map ξ.av)]:=by cases x;rfl
theorem qA(x:δ):(x.cells.drop 4).take 4=x.size.four:=by obtain⟨k,g,nm,cp,pl,⟨k1,n1,s1,c1,l1⟩,⟨k2,n2,s2,c2,l2⟩,cb,body,ce,els⟩:=x;rfl
theorem rJ(x:δ):(x.cells.drop 8).take 4=x.to.four:=by obtain⟨k,g,nm,cp,pl,⟨k1,n1,s1,c1,l1⟩,⟨k2,n2,s2,c2,l2⟩,cb,body,ce,els⟩:=x;rfl
theorem rq(ps:List τ)(own:Nat)(L:bX)(x:δ):eh ps own L x=
  if x.kind=1 then(if x.gate<1\/12<x.gate then 3 else if x.pl.length≠gb x.gate then 2 else first (jt L) x.pl)
  else if x.kind=2\/x.kind=4 then(if fG L x.name≠0 then fG L x.name else x.size.err (iV L) 1)
  else if x.kind=8 then(if fG L x.name≠0 then fG L x.name else if x.size.err (iV L) 1≠0 then x.size.err (iV L) 1 else x.to.err (iV L) 1)
  else if x.kind=3 then(match L x.name with
   | .ki true=>0
   | .ki false=>7
   |_=>1)
  else if x.kind=5 then(match x.pl with
   |[p]=>if jt L p≠0 then jt L p else if L x.name= .bit then 0 else fG L x.name
   |_=>2)
  else if x.kind=6 then(match x.pl with
   |[p]=>jt L p
   |_=>2)
  else if x.kind=7 then(if L x.name= .bit then 0 else 1)
  else if x.kind=9 then(match ql ps x.name with
   |none=>1
   |some n=>if own<=n then 15 else match ps[n]? with
    |some q=>if x.pl.length≠q.au.length then 2 else first (jt L) x.pl
    |none=>1)
  else if x.kind=10\/x.kind=11 then 0 else 3:=by cases x;rfl
def _root_.Go.Θ.AC.snd:AC->AC
 | .seq _ b=>b
 |_=> .skip
def End(g:AF)(BB:List θ)(v:AV)(r:Ex×St):Prop:=(∀i,r.1≠ .exit i)/\(∃bs,r.2.mem= {ε:=BB++bs,η:=[]})/\∃l,cK r.2 g.results=some l/\aO r.2.mem.ε BB.length 8 (cL l)=v
section
variable{BB:List θ}{ck id:Nat}{dJ:ρ}{ps:List τ}{own:Nat}{b nb:Int}{es:List c7}{L:bX}{x:δ}{s1:St}
variable(h1:s1.e 0= .μ ck 0)(h2:s1.e 4= .aj 4 0 0)(h3:s1.q 4=some (0,.cells [.map id,.n b]))(h4:s1.e 5= .μ BB.length 0)(h5:s1.mem= {ε:=BB++[.cells x.cells],η:=[]})
 (hid:(BB++[.cells x.cells])[id]?=some (.map (es.map bF))) (dC:(BB++[.cells x.cells])[ck]?=some (.cells [.list dJ (ps.map τ.av),.n own,.n nb])) (eu:(BB++[.cells x.cells])[BB.length]?=some (.cells x.cells)) (hs:fZ es b nb L)
 (je:∀T,kf u 191 [.agg [.map id,.n b],.str x.name] {ε:=BB++[.cells x.cells],η:=T}=some (.n (fG L x.name),{ε:=BB++[.cells x.cells],η:=T}))
 (mH:∀T,kf u 275 [.agg [.map id,.n b],.agg x.size.four] {ε:=BB++[.cells x.cells],η:=T}=some (.n (x.size.err (iV L) 1),{ε:=BB++[.cells x.cells],η:=T}))
 (oQ:∀T,kf u 275 [.agg [.map id,.n b],.agg x.to.four] {ε:=BB++[.cells x.cells],η:=T}=some (.n (x.to.err (iV L) 1),{ε:=BB++[.cells x.cells],η:=T}))
 (pR:∀p∈x.pl,∀T,kf u 274 [.agg [.map id,.n b],p.av] {ε:=BB++[.cells x.cells],η:=T}=some (.n (jt L p),{ε:=BB++[.cells x.cells],η:=T}))
 (pQ:∀T,kf u 273 [.list x.cp (x.pl.map ξ.av),.fn (.func 274) [.agg [.map id,.n b]] []] {ε:=BB++[.cells x.cells],η:=T}=some (.n (first (jt L) x.pl),{ε:=BB++[.cells x.cells],η:=T}))
 (mI:∀T,kf u 66 [.list dJ (ps.map τ.av),.fn (.func 276) [] [.μ BB.length 0]] {ε:=BB++[.cells x.cells],η:=T}=some (.n (EP ps x.name),{ε:=BB++[.cells x.cells],η:=T}))
 (q0:x.cells.take 1=[.n x.kind]) (q1:x.cells.tail.take 1=[.n x.gate]) (q2:(x.cells.drop 2).take 1=[.str x.name]) (q3:(x.cells.drop 3).take 1=[.list x.cp (x.pl.map ξ.av)]) (q4:(x.cells.drop 4).take 4=x.size.four) (q8:(x.cells.drop 8).take 4=x.to.four) (kl:x.cells.length=14)
include h1 h2 h3 h4 h5 hid dC eu hs je mH oQ pR pQ mI q0 q1 q2 q3 q4 q8 kl
theorem ajB(hk:x.kind=1):κ (C u).gl (ab (C u)) c232.snd s1 (End dG BB (.n (eh ps own L x))):=by
 obtain⟨v,hv⟩:∃v,v=eh ps own L x:=⟨_,rfl⟩;rw[<-hv];rw[rq]at hv;simp only[hk,if_true]at hv;rw[hk]at q0;generalize first (jt L) x.pl=pe at*
 by_cases hg:x.gate<1\/12<x.gate
 ·rw[if_pos hg]at hv;rcases hg with hg|hg
  ·simp[c232,AC.snd,End,dG,h1,h2,h3,h4,h5,eu,kl,q0,hv,q1,hg]
  ·have:¬x.gate<1:=by omega
   simp[c232,AC.snd,End,dG,h1,h2,h3,h4,h5,eu,kl,q0,hv,q1,hg,this]
 ·rw[if_neg hg]at hv;have g1:¬x.gate<1:=by omega
  have g2:¬12<x.gate:=by omega
  have SJ:=fun m=>f272 (u:=u) x.gate (by omega) m;by_cases Ie:x.pl.length=gb x.gate
  ·have:((x.pl.length:Int) !=(gb x.gate:Int))=false:=by simp;omega
   simp[c232,AC.snd,End,dG,h1,h2,h3,h4,h5,eu,kl,q0,hv,q1,q3,g1,g2,SJ,cN,cQ,eK,AV.gK,AV.beq,AV.kM,this,Ie,pQ]
  ·have:((x.pl.length:Int) !=(gb x.gate:Int))=true:=by simp;omega
   simp[c232,AC.snd,End,dG,h1,h2,h3,h4,h5,eu,kl,q0,hv,q1,q3,g1,g2,SJ,cN,cQ,eK,AV.gK,AV.beq,AV.kM,this,Ie]
theorem ajD(hk:x.kind=2\/x.kind=4):κ (C u).gl (ab (C u)) c232.snd s1 (End dG BB (.n (eh ps own L x))):=by
 obtain⟨v,hv⟩:∃v,v=eh ps own L x:=⟨_,rfl⟩;rw[<-hv];rw[rq]at hv;have pZ:¬x.kind=1:=by omega
 rw[if_neg pZ,if_pos hk]at hv;generalize fG L x.name=ne at*;generalize x.size.err (iV L) 1=se at*;rcases hk with hk|hk<;>rw[hk]at q0
 ·by_cases hn:ne=0
  ·subst hn;by_cases hz:se=0
   ·subst hz;simp[c232,AC.snd,End,dG,h1,h2,h3,h4,h5,eu,kl,q0,hv,q2,q4,q8,je,mH,oQ]
   ·simp[c232,AC.snd,End,dG,h1,h2,h3,h4,h5,eu,kl,q0,hv,q2,q4,je,mH,bne_true hz]
  ·simp[c232,AC.snd,End,dG,h1,h2,h3,h4,h5,eu,kl,q0,hv,q2,je,bne_true hn,hn]
 ·by_cases hn:ne=0
  ·subst hn;by_cases hz:se=0
   ·subst hz;simp[c232,AC.snd,End,dG,h1,h2,h3,h4,h5,eu,kl,q0,hv,q2,q4,q8,je,mH,oQ]
   ·simp[c232,AC.snd,End,dG,h1,h2,h3,h4,h5,eu,kl,q0,hv,q2,q4,je,mH,bne_true hz]
  ·simp[c232,AC.snd,End,dG,h1,h2,h3,h4,h5,eu,kl,q0,hv,q2,je,bne_true hn,hn]
theorem ajI(hk:x.kind=8):κ (C u).gl (ab (C u)) c232.snd s1 (End dG BB (.n (eh ps own L x))):=by
 obtain⟨v,hv⟩:∃v,v=eh ps own L x:=⟨_,rfl⟩;rw[<-hv];rw[rq]at hv;simp[hk]at hv;rw[hk]at q0;generalize fG L x.name=ne at*;generalize x.size.err (iV L) 1=se at*;generalize x.to.err (iV L) 1=te at*;by_cases hn:ne=0
 ·subst hn;by_cases hz:se=0
  ·subst hz;simp[c232,AC.snd,End,dG,h1,h2,h3,h4,h5,eu,kl,q0,hv,q2,q4,q8,je,mH,oQ]
  ·simp[c232,AC.snd,End,dG,h1,h2,h3,h4,h5,eu,kl,q0,hv,q2,q4,je,mH,bne_true hz,hz]
 ·simp[c232,AC.snd,End,dG,h1,h2,h3,h4,h5,eu,kl,q0,hv,q2,je,bne_true hn,hn]
theorem ajE(hk:x.kind=3):κ (C u).gl (ab (C u)) c232.snd s1 (End dG BB (.n (eh ps own L x))):=by
 obtain⟨v,hv⟩:∃v,v=eh ps own L x:=⟨_,rfl⟩;rw[<-hv];rw[rq]at hv;simp[hk]at hv;rw[hk]at q0;rcases B8 hs x.name with⟨j1,j2⟩|⟨w,d,j1,hw,j2⟩
 ·simp[c232,AC.snd,End,dG,h1,h2,h3,h4,h5,eu,kl,q0,hv,q2,hid,isKey,j1,j2]
 ·rw[j2]at hv;rcases hw with rfl|rfl|rfl
  ·by_cases hd:d=b
   ·subst hd;simp[c232,AC.snd,End,dG,h1,h2,h3,h4,h5,eu,kl,q0,hv,q2,hid,isKey,j1,ke,dd,jL]
   ·simp[c232,AC.snd,End,dG,h1,h2,h3,h4,h5,eu,kl,q0,hv,q2,hid,isKey,j1,ke,dd,jL,hd]
  ·simp[c232,AC.snd,End,dG,h1,h2,h3,h4,h5,eu,kl,q0,hv,q2,hid,isKey,j1,ke]
  ·simp[c232,AC.snd,End,dG,h1,h2,h3,h4,h5,eu,kl,q0,hv,q2,hid,isKey,j1,ke]
theorem ajF(hk:x.kind=5):κ (C u).gl (ab (C u)) c232.snd s1 (End dG BB (.n (eh ps own L x))):=by
 obtain⟨v,hv⟩:∃v,v=eh ps own L x:=⟨_,rfl⟩;rw[<-hv];rw[rq]at hv;simp[hk]at hv;rw[hk]at q0;generalize dH:x.pl=pl at*;rcases pl with _|⟨p,_|⟨q,rest⟩⟩
 ·simp[c232,AC.snd,End,dG,h1,h2,h3,h4,h5,eu,kl,q0,hv,q3]
 ·have e:=pR p (by simp);simp only[ξ.av]at e;simp at hv;by_cases hz:jt L p=0
  ·rw[hz]at e;rw[if_pos hz]at hv;rcases B8 hs x.name with⟨j1,j2⟩|⟨w,d,j1,hw,j2⟩
   ·rw[j2]at hv;by_cases hn:fG L x.name=0
    ·rw[hn]at je hv;simp[c232,AC.snd,End,dG,h1,h2,h3,h4,h5,eu,kl,q0,hv,q2,q3,ξ.av,e,je,hid,isKey,j1]
    ·simp[c232,AC.snd,End,dG,h1,h2,h3,h4,h5,eu,kl,q0,hv,q2,q3,ξ.av,e,je,hid,isKey,j1,bne_true hn]
   ·by_cases hn:fG L x.name=0
    ·have:=(O3 hn).2;rw[j2]at this;rcases hw with rfl|rfl|rfl<;>simp[ke]at this
    ·rw[j2]at hv;rcases hw with rfl|rfl|rfl<;>simp[c232,AC.snd,End,dG,h1,h2,h3,h4,h5,eu,kl,q0,hv,q2,q3,ξ.av,e,je,hid,isKey,j1,bne_true hn,ke]
  ·rw[if_neg hz]at hv;simp[c232,AC.snd,End,dG,h1,h2,h3,h4,h5,eu,kl,q0,hv,q3,ξ.av,e,bne_true hz]
 ·have:((rest.length:Int)+1+1 !=1)=true:=by simp;omega
  simp[c232,AC.snd,End,dG,h1,h2,h3,h4,h5,eu,kl,q0,hv,q3,this]
theorem ajG(hk:x.kind=6):κ (C u).gl (ab (C u)) c232.snd s1 (End dG BB (.n (eh ps own L x))):=by
 obtain⟨v,hv⟩:∃v,v=eh ps own L x:=⟨_,rfl⟩;rw[<-hv];rw[rq]at hv;simp[hk]at hv;rw[hk]at q0;generalize dH:x.pl=pl at*;rcases pl with _|⟨p,_|⟨q,rest⟩⟩
 ·simp[c232,AC.snd,End,dG,h1,h2,h3,h4,h5,eu,kl,q0,hv,q3]
 ·have e:=pR p (by simp);simp only[ξ.av]at e;simp at hv;by_cases hz:jt L p=0
  ·rw[hz]at e hv;simp[c232,AC.snd,End,dG,h1,h2,h3,h4,h5,eu,kl,q0,hv,q3,q2,je,ξ.av,e]
  ·simp[c232,AC.snd,End,dG,h1,h2,h3,h4,h5,eu,kl,q0,hv,q3,ξ.av,e,bne_true hz]
 ·have:((rest.length:Int)+1+1 !=1)=true:=by simp;omega
  simp[c232,AC.snd,End,dG,h1,h2,h3,h4,h5,eu,kl,q0,hv,q3,this]
theorem ajH(hk:x.kind=7):κ (C u).gl (ab (C u)) c232.snd s1 (End dG BB (.n (eh ps own L x))):=by
 obtain⟨v,hv⟩:∃v,v=eh ps own L x:=⟨_,rfl⟩;rw[<-hv];rw[rq]at hv;simp[hk]at hv;rw[hk]at q0;rcases B8 hs x.name with⟨j1,j2⟩|⟨w,d,j1,hw,j2⟩
 ·simp[c232,AC.snd,End,dG,h1,h2,h3,h4,h5,eu,kl,q0,hv,q2,hid,isKey,j1,j2]
 ·rw[j2]at hv;rcases hw with rfl|rfl|rfl<;>simp[c232,AC.snd,End,dG,h1,h2,h3,h4,h5,eu,kl,q0,hv,q2,hid,isKey,j1,ke]
theorem ajJ(hk:x.kind=9):κ (C u).gl (ab (C u)) c232.snd s1 (End dG BB (.n (eh ps own L x))):=by
 obtain⟨v,hv⟩:∃v,v=eh ps own L x:=⟨_,rfl⟩;rw[<-hv];rw[rq]at hv;simp[hk]at hv;rw[hk]at q0;rcases aiq ps x.name with⟨j1,j2⟩|⟨n,q,j1,j2,j3,j4⟩
 ·rw[j1]at mI;simp[c232,AC.snd,End,dG,h1,h2,h3,h4,h5,eu,kl,q0,hv,q2,dC,mI,j2]
 ·rw[j1]at mI;have zj:¬(n:Int)<0:=by omega
  by_cases ho:own<=n
  ·have r9:(own:Int)<=(n:Int):=by omega
   simp[c232,AC.snd,End,dG,h1,h2,h3,h4,h5,eu,kl,q0,hv,q2,dC,mI,j2,zj,ho,r9]
  ·have r9:¬(own:Int)<=(n:Int):=by omega
   have VF:ps[n]=q:=by rw[dn j4]at j3;simpa using j3
   by_cases UX:x.pl.length=q.au.length
   ·have:((x.pl.length:Int) !=(q.au.length:Int))=false:=by simp;omega
    simp[c232,AC.snd,End,dG,h1,h2,h3,h4,h5,eu,kl,q0,hv,q2,q3,dC,mI,j2,zj,ho,r9,j3,VF,j4,τ.av,this,UX,pQ]
   ·have:((x.pl.length:Int) !=(q.au.length:Int))=true:=by simp;omega
    simp[c232,AC.snd,End,dG,h1,h2,h3,h4,h5,eu,kl,q0,hv,q2,q3,dC,mI,j2,zj,ho,r9,j3,VF,j4,τ.av,this,UX]
theorem ajC(hk:x.kind=10\/x.kind=11):κ (C u).gl (ab (C u)) c232.snd s1 (End dG BB (.n (eh ps own L x))):=by
 obtain⟨v,hv⟩:∃v,v=eh ps own L x:=⟨_,rfl⟩;rw[<-hv];rw[rq]at hv;rcases hk with hk|hk
 ·rw[hk]at q0;simp[hk]at hv;simp[c232,AC.snd,End,dG,h1,h2,h3,h4,h5,eu,kl,q0,hv]
 ·rw[hk]at q0;simp[hk]at hv;simp[c232,AC.snd,End,dG,h1,h2,h3,h4,h5,eu,kl,q0,hv]
theorem ajA(hk:¬(x.kind=1\/x.kind=2\/x.kind=3\/x.kind=4\/x.kind=5\/x.kind=6\/x.kind=7\/x.kind=8\/x.kind=9\/x.kind=10\/x.kind=11)):κ (C u).gl (ab (C u)) c232.snd s1 (End dG BB (.n (eh ps own L x))):=by obtain⟨v,hv⟩:∃v,v=eh ps own L x:=⟨_,rfl⟩;rw[<-hv];rw[rq]at hv;simp only[not_or]at hk;obtain⟨pZ,xd,rY,HN,p8,Nl,Nn,No,Np,UR,uw⟩:=hk;simp[pZ,xd,HN,rY,p8,Nl,Nn,No,Np,UR,uw]at hv;simp[c232,AC.snd,End,dG,h1,h2,h3,h4,h5,eu,kl,q0,hv,ff pZ,ff xd,ff HN,ff rY,ff p8,ff Nl,ff Nn,ff No,ff Np,ff UR,ff uw]
end
theorem f232{B:List θ}{ck id:Nat}(dJ:ρ)(nD:bp dJ)(ps:List τ)(cX:∀x∈ps,x.Ok)(dH:ps.length<1000000000000)(own:Nat)(b nb:Int)(es:List c7)(L:bX)
  (dC:B[ck]?=some (.cells [.list dJ (ps.map τ.av),.n own,.n nb])) (hid:B[id]?=some (.map (es.map bF))) (hs:fZ es b nb L) (x:δ) (hx:x.Ok) (hxw:x.wt<1000000000000) (ext:List θ) (T:List Nat):
  kf u 232 [.μ ck 0,eM id b,x.av] {ε:=B++ext,η:=T}=some (.n (eh ps own L x),{ε:=B++ext,η:=T}):=by
 have ψ:id<B.length:=by
  rcases da id B.length with h|h
  ·exact h
  ·rw[h_ h]at hid;cases hid
 have acJ:ck<B.length:=by
  rcases da ck B.length with h|h
  ·exact h
  ·rw[h_ h]at dC;cases dC
 have jq:((B++ext)++[θ.cells x.cells])[id]?=some (.map (es.map bF)):=by rw[ek (by simp;omega),ek ψ];exact hid
 have rU:((B++ext)++[θ.cells x.cells])[ck]?=some (.cells [.list dJ (ps.map τ.av),.n own,.n nb]):=by rw[ek (by simp;omega),ek acJ];exact dC
 have gr:((B++ext)++[θ.cells x.cells])[(B++ext).length]?=some (.cells x.cells):=by simp
 have eQ:id<(B++ext).length:=by simp;omega
 have acK:ck<(B++ext).length:=by simp;omega
 have q0:=cell0 x;have q2:=oN x;have kl:=δ.lH x;have zk:x.cells.map ν=x.cells:=by rw[<-fH,δ.zN]
 generalize hBB:B++ext=BB at*;refine dI (g:=dG) rfl rfl rfl ?_;have eL:[AV.μ ck 0,eM id b,x.av].map (exp BB.length false)=[.μ ck 0,eM id b,x.av]:=by simp only[az,aJ,δ.jM _ _ _ hx,eM,exp,aX,eQ,acK,if_true]
 simp only[eL,dG,c232];have je:=fun m'=>f191 (u:=u) jq hs x.name (by cases x;exact hx.1) [] m';simp only[dF]at je;have er:∀M:Mem,M.ν=ν:=fun _=>rfl;let K:St->Prop:=fun st=>st.e 0= .μ ck 0/\st.e 4= .aj 4 0 0/\st.q 4=some (0,.cells [.map id,.n b])/\st.e 5= .μ BB.length 0/\st.mem= {ε:=BB++[.cells x.cells],η:=[]};refine Δ (K) (by simp[K,eM,δ.av,bz,kl,Mem.push,er,ν,zk]) fun s1 ⟨h1,h2,h3,h4,h5⟩=>?_;have Ω:x.size.gA/\x.to.gA/\bp x.cp/\(∀p∈x.pl,p.Ok)/\eR x.pl+x.size.cnt+x.to.cnt<1000000000000:=by obtain⟨k,g,nm,cp,pl,size,to,cb,body,ce,els⟩:=x;simp only[δ.Ok]at hx;simp only[δ.wt]at hxw;exact⟨hx.2.2.2.1,hx.2.2.2.2.1,hx.2.1,hx.2.2.1,by simp only[δ.pl,δ.size,δ.to];omega⟩
 obtain⟨o1,o2,o3,o4,o5⟩:=Ω;have NN:=aia x.pl;have mH:∀T,kf u 275 [.agg [.map id,.n b],.agg x.size.four] {ε:=BB++[.cells x.cells],η:=T}=some (.n (x.size.err (iV L) 1),{ε:=BB++[.cells x.cells],η:=T}):=fun T=>by have:=f275 (u:=u) jq hs x.size o1.1 o1.2 (by omega) [] [eM id b,x.size.av] rfl [] T;rwa[dF,ζ.fD]at this
 have oQ:∀T,kf u 275 [.agg [.map id,.n b],.agg x.to.four] {ε:=BB++[.cells x.cells],η:=T}=some (.n (x.to.err (iV L) 1),{ε:=BB++[.cells x.cells],η:=T}):=fun T=>by have:=f275 (u:=u) jq hs x.to o2.1 o2.2 (by omega) [] [eM id b,x.to.av] rfl [] T;rwa[dF,ζ.fD]at this
 have pR:∀p∈x.pl,∀T,kf u 274 [.agg [.map id,.n b],p.av] {ε:=BB++[.cells x.cells],η:=T}=some (.n (jt L p),{ε:=BB++[.cells x.cells],η:=T}):=fun p hp T=>by have:=f274 (u:=u) jq hs p (o4 p hp) (by have:=ξ.oI hp;omega) [] [eM id b,p.av] rfl [] T;rwa[dF]at this
 have alf:id<(BB++[θ.cells x.cells]).length:=by simp;omega
 have tf:Fix (BB++[θ.cells x.cells]).length (.fn (.func 274) [eM id b] []):=by
  intro k bb hk;have:id<k:=by omega
  simp[exp,aX,Fn.below,eM,this]
 have pQ:∀T,kf u 273 [.list x.cp (x.pl.map ξ.av),.fn (.func 274) [.agg [.map id,.n b]] []] {ε:=BB++[.cells x.cells],η:=T}=some (.n (first (jt L) x.pl),{ε:=BB++[.cells x.cells],η:=T}):=fun T=>by have:=f273 (u:=u) (F:=jt L) tf x.cp o3 x.pl o4 (by omega) (fun p hp=>f274 (u:=u) jq hs p (o4 p hp) (by have:=ξ.oI hp;omega) [eM id b] [p.av] rfl) [] T;rwa[dF]at this
 have acn:Fix (BB++[θ.cells x.cells]).length (.fn (.func 276) [] [.μ BB.length 0]):=by
  intro k bb hk;have:BB.length<k:=by simp at hk;omega
  simp[exp,aX,Fn.below,this]
 have mI:∀T,kf u 66 [.list dJ (ps.map τ.av),.fn (.func 276) [] [.μ BB.length 0]] {ε:=BB++[.cells x.cells],η:=T}=some (.n (EP ps x.name),{ε:=BB++[.cells x.cells],η:=T}):=fun T=>by have:=f66 (u:=u) (q:=fun p=>p.name==x.name) acn dJ nD ps cX dH (fun p hp=>f276 x gr p (cX p hp)) [] T;rwa[dF]at this
 have q1:=rH x;have q3:=rI x;have q4:=qA x;have q8:=rJ x;show κ (C u).gl (ab (C u)) c232.snd s1 (End dG BB (.n (eh ps own L x)));by_cases j1:x.kind=1
 ·exact ajB h1 h2 h3 h4 h5 jq rU gr hs je mH oQ pR pQ mI q0 q1 q2 q3 q4 q8 kl j1
 by_cases Oq:x.kind=2\/x.kind=4
 ·exact ajD h1 h2 h3 h4 h5 jq rU gr hs je mH oQ pR pQ mI q0 q1 q2 q3 q4 q8 kl Oq
 by_cases j8:x.kind=8
 ·exact ajI h1 h2 h3 h4 h5 jq rU gr hs je mH oQ pR pQ mI q0 q1 q2 q3 q4 q8 kl j8
 by_cases j3:x.kind=3
 ·exact ajE h1 h2 h3 h4 h5 jq rU gr hs je mH oQ pR pQ mI q0 q1 q2 q3 q4 q8 kl j3
 by_cases j5:x.kind=5
 ·exact ajF h1 h2 h3 h4 h5 jq rU gr hs je mH oQ pR pQ mI q0 q1 q2 q3 q4 q8 kl j5
 by_cases j6:x.kind=6
 ·exact ajG h1 h2 h3 h4 h5 jq rU gr hs je mH oQ pR pQ mI q0 q1 q2 q3 q4 q8 kl j6
 by_cases j7:x.kind=7
 ·exact ajH h1 h2 h3 h4 h5 jq rU gr hs je mH oQ pR pQ mI q0 q1 q2 q3 q4 q8 kl j7
 by_cases j9:x.kind=9
 ·exact ajJ h1 h2 h3 h4 h5 jq rU gr hs je mH oQ pR pQ mI q0 q1 q2 q3 q4 q8 kl j9
 by_cases Oo:x.kind=10\/x.kind=11
 ·exact ajC h1 h2 h3 h4 h5 jq rU gr hs je mH oQ pR pQ mI q0 q1 q2 q3 q4 q8 kl Oo
 exact ajA h1 h2 h3 h4 h5 jq rU gr hs je mH oQ pR pQ mI q0 q1 q2 q3 q4 q8 kl (by omega)
end Go.Θ.Tz
