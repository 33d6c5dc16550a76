import Derived.Test.YtiigojkfojnedaaGreatDoorTVa
set_option linter.all false
set_option maxRecDepth 100000
set_option maxHeartbeats 8000000
open List renaming map_map->dc,map_congr_left->dD,map_cons->aA,map_nil->aP,map_append->jT,getElem_mem->df,take_of_length_le->fw,take_length->po,nil_append->bG,append_nil->de,take_succ_eq_append_getElem->uY,foldl_append->alm,append_assoc->bH,cons_append->cy,findIdx?_eq_some_iff_getElem->tK,getElem?_eq_getElem->dN,mem_cons->cw,nodup_cons->x_,mem_map->eT,getElem?_eq_none->hU,getElem?_append_left->eo,findIdx?_eq_none_iff->wv
open Go.IntKind renaming wrap->bC
open Nat renaming lt_or_ge->cX,zero_add->lj
namespace Go.Δ.Tz
open Go.Δ
variable{u:Nat}
attribute [local simp] exec dT dG eR aH dr ff eH aI fA bQ gX ib iC iL AV.cells newVar iH rd wr gL single dd cA eU ef κ cH RV.get cJ fF jU
def _root_.Go.Δ.δ.cb:δ->ξ
 | .mk _ _ _ _ _ _ _ c _ _ _=>c
def _root_.Go.Δ.δ.ce:δ->ξ
 | .mk _ _ _ _ _ _ _ _ _ c _=>c
def _root_.Go.Δ.δ.blocks(x:δ):List (ξ×List δ):=if bh x.kind then[(x.cb,x.body),(x.ce,x.els)]else if aS x.kind then[(x.cb,x.body)]else[]
def fy(p:ξ×List δ):AV:= .list p.1 (δ.ψ p.2)
def iN(x:δ):AV:= .list (if aS x.kind then .any else .nil) (x.blocks.map fy)
theorem ρ.yC(bs:List θ)(n:Nat)(p:ρ)(h:p.Ok):aK bs n 8 p.av=p.av:=by
 have:(p.ix.map η.av).map (aK bs n 8)=p.ix.map η.av:=by rw[dc];exact dD fun x hx=>η.yC bs n 8 x (h.2.2 x hx).1
 simp only[ρ.av,F3,aA,aP,CN,ga h.2.1,this,qn]
theorem η.S8(bs:List θ)(n:Nat)(x:η)(h:x.Ok):x.four.map (aK bs n 8)=x.four:=by have:=η.yC bs n 8 x h;rw[η.iM,F3]at this;simpa using this
theorem δ.F4(bs:List θ)(n:Nat)(x:δ):x.Ok->x.cells.map (aK bs n 8)=x.cells:=by
 refine δ.kR (Q:=fun x=>x.Ok->x.cells.map (aK bs n 8)=x.cells) (fun kk g nm cp pl size to cb body ce els h1 h2 h=>?_) x;simp only[δ.Ok]at h;obtain⟨-,k1,k2,k3,k4,k5,k6,k7,k8⟩:=h;have e1:(pl.map ρ.av).map (aK bs n 8)=pl.map ρ.av:=by rw[dc];exact dD fun x hx=>ρ.yC bs n x (k2 x hx)
 have go:∀l:List δ,δ.da l->(∀y∈l,y.Ok->y.cells.map (aK bs n 8)=y.cells)->(δ.ψ l).map (aK bs n 8)=δ.ψ l:=by intro l hl hy;rw[δ.eM,dc];refine dD fun y hm=>?_;simp only[Function.comp,δ.av,F3,hy y hm (δ.jE hl y hm)]
 simp only[δ.cells,jT,aA,aP,CN,ga k1,ga k5,ga k7,e1,η.S8 _ _ _ k3.1,η.S8 _ _ _ k4.1,go body k6 h1,go els k8 h2,fF,qn]
theorem LY(bs:List θ)(n:Nat){c:ξ}(hc:br c){l:List δ}(h:δ.da l):aK bs n 8 (.list c (δ.ψ l))= .list c (δ.ψ l):=by
 have:(δ.ψ l).map (aK bs n 8)=δ.ψ l:=by rw[δ.eM,dc];exact dD fun y hy=>by simp only[Function.comp,δ.av,F3,δ.F4 bs n y (δ.jE h y hy)]
 rw[CN,ga hc,this]
theorem δ.KO{x:δ}(h:x.Ok):br x.cb/\br x.ce:=by obtain⟨k,g,nm,cp,pl,size,to,cb,body,ce,els⟩:=x;simp only[δ.Ok]at h;exact⟨h.2.2.2.2.2.1,h.2.2.2.2.2.2.2.1⟩
theorem f108(x:δ)(hx:x.Ok)(m:Mem):kf u 108 [x.av] m=some (iN x,m):=by
 have dq:=δ.O_ hx;have za:=δ.KO hx;refine eN (g:=F6) rfl rfl rfl ?_;simp only[aA,aP,δ.jJ _ _ _ hx,F6,QO];obtain⟨k,g,nm,cp,pl,⟨k1,n1,s1,c1,l1⟩,⟨k2,n2,s2,c2,l2⟩,cb,body,ce,els⟩:=x;simp only[δ.body,δ.els,δ.cb,δ.ce]at dq za;have z1:∀bs n,aK bs n 8 (.list .full [.list cb (δ.ψ body)])= .list .any [.list cb (δ.ψ body)]:=fun bs n=>by rw[CN];simp only[aA,aP,LY bs n za.1 dq.1];rfl
 have z2:∀bs n,aK bs n 8 (.list .full [.list cb (δ.ψ body),.list ce (δ.ψ els)])= .list .any [.list cb (δ.ψ body),.list ce (δ.ψ els)]:=fun bs n=>by rw[CN];simp only[aA,aP,LY bs n za.1 dq.1,LY bs n za.2 dq.2];rfl
 have z0:∀bs n,aK bs n 8 (.list .nil [])= .list .nil []:=fun bs n=>rfl;have n1:cL (δ.ψ body)=δ.ψ body:=by rw[fM,δ.eM,dc];exact dD fun y _=>by simp only[Function.comp,δ.av,ν,δ.zx]
 have n2:cL (δ.ψ els)=δ.ψ els:=by rw[fM,δ.eM,dc];exact dD fun y _=>by simp only[Function.comp,δ.av,ν,δ.zx]
 by_cases e4:k=4
 ·subst e4;simp[δ.av,δ.cells,η.four,δ.kind,δ.body,δ.els,δ.cb,δ.ce,δ.blocks,iN,fy,aS,bh,shaped,AV.one,Mem.ν,ν,n1,n2,z1,z2,z0]
 by_cases e8:k=8
 ·subst e8;simp[δ.av,δ.cells,η.four,δ.kind,δ.body,δ.els,δ.cb,δ.ce,δ.blocks,iN,fy,aS,bh,shaped,AV.one,Mem.ν,ν,n1,n2,z1,z2,z0]
 by_cases pD:k=10
 ·subst pD;simp[δ.av,δ.cells,η.four,δ.kind,δ.body,δ.els,δ.cb,δ.ce,δ.blocks,iN,fy,aS,bh,shaped,AV.one,Mem.ν,ν,n1,n2,z1,z2,z0]
 by_cases e7:k=7
 ·subst e7;simp[δ.av,δ.cells,η.four,δ.kind,δ.body,δ.els,δ.cb,δ.ce,δ.blocks,iN,fy,aS,bh,shaped,AV.one,Mem.ν,ν,n1,n2,z1,z2,z0]
 by_cases wI:k=11
 ·subst wI;simp[δ.av,δ.cells,η.four,δ.kind,δ.body,δ.els,δ.cb,δ.ce,δ.blocks,iN,fy,aS,bh,shaped,AV.one,Mem.ν,ν,n1,n2,z1,z2,z0]
 simp[δ.av,δ.cells,η.four,δ.kind,δ.body,δ.els,δ.cb,δ.ce,δ.blocks,iN,fy,aS,bh,e4,e8,pD,e7,wI,gi,z0]
theorem Fm{x:δ}{p:ξ×List δ}(h:p∈x.blocks):(p=(x.cb,x.body))\/(p=(x.ce,x.els)):=by
 unfold δ.blocks at h;split at h
 ·simpa using h
 ·split at h
  ·exact .inl (by simpa using h)
  ·simp at h
def lW(x d:Nat):Nat:=if x=0 then 0 else x+d-1
def rj(l:List (ξ×List δ)):Nat:=match l with
 |[]=>0
 |p::l=>max (δ.dx p.2) (rj l)
theorem aat(x:δ):x.deep=1+rj x.blocks:=by obtain⟨k,g,nm,cp,pl,size,to,cb,body,ce,els⟩:=x;simp only[δ.deep,δ.blocks,δ.kind,δ.body,δ.els,δ.cb,δ.ce];by_cases hb:aS k=true<;>by_cases he:bh k=true<;>simp[rj,hb,he];exfalso;simp only[aS,bh,decide_eq_true_eq]at hb he;omega
theorem Zm(l:List (ξ×List δ))(i:Nat)(h:i<l.length):rj (l.take (i+1))=max (rj (l.take i)) (δ.dx l[i].2):=by
 induction l generalizing i with
 |nil=>simp at h
 |cons a l ih=>
  cases i with
  |zero=>simp[rj]
  |succ i=>simp only[List.take_succ_cons,rj,List.getElem_cons_succ,ih i (by simpa using h),Nat.max_assoc]
theorem Fl{x:δ}(hx:x.Ok){p:ξ×List δ}(h:p∈x.blocks):br p.1/\δ.da p.2/\δ.bX p.2+3<=x.wt:=by
 have h1:=δ.KO hx;have h2:=δ.O_ hx;have h3:=δ.JM x;rcases Fm h with rfl|rfl
 ·exact⟨h1.1,h2.1,by simp only;omega⟩
 ·exact⟨h1.2,h2.2,by simp only;omega⟩
theorem f192(l:List δ):∀(c:ξ),br c->δ.da l->∀d:Nat,0<d->δ.bX l+d<1000000000000->∀m,kf u 192 [.list c (δ.ψ l),.n d] m=some (.n (lW (δ.dx l) d:Nat),m):=by
 refine δ.lists (P:=fun l=>∀(c:ξ),br c->δ.da l->∀d:Nat,0<d->δ.bX l+d<1000000000000->∀m,kf u 192 [.list c (δ.ψ l),.n d] m=some (.n (lW (δ.dx l) d:Nat),m)) (fun l ih c hc ai d hd hw m=>?_) l;refine eN (g:=Gy) rfl rfl rfl ?_;simp only[aA,aP,ru hc ai];simp only[exp,Gy,Rd];have vC:=δ.ET l;let K:St->Prop:=fun st=>st.e 1= .n d/\st.mem= {ε:=m.ε,ζ:=[]};refine Θ (fun st=>K st/\st.e 0= .list c (δ.ψ l)) (by simp[K]) fun s1 ⟨⟨h1,h2⟩,h3⟩=>?_;refine Θ (fun st=>K st/\st.e 0= .list c (δ.ψ l)/\st.e 5= .n 0) (by simp[K,h1,h2,h3]) fun s1 ⟨⟨h1,h2⟩,h3,h4⟩=>?_;refine bP (fun st=>K st/\st.e 5= .n (lW (δ.dx l) d:Nat)) ?_ fun s2 ⟨⟨h1,h2⟩,h3⟩=>by simp[h2,h3]
 let I:Nat->St->Prop:=fun i st=>K st/\st.e 10= .list c (δ.ψ l)/\st.e 11= .n l.length/\st.e 12= .n i/\st.e 5= .n (lW (δ.dx (l.take i)) d:Nat);refine Θ (I 0) (by simp[I,K,h1,h2,h3,h4,uP,δ.dx,lW]) fun s4 hI=>?_;refine κ.block (κ.upto (I:=I) l.length hI (fun i st χ Ω=>?_) (fun st Ω=>?_))
 ·obtain⟨⟨h1,h2⟩,q1,q2,q3,q4⟩:=Ω;have kP:bC .i64 ((i:Int)+1)=(i:Int)+1:=wrap_i64 (by omega) (by omega);have NV:bC .i64 ((d:Int)+1)=(d:Int)+1:=wrap_i64 (by omega) (by omega);have hg:=Jt l i χ;have hm:l[i]∈l:=df χ;have rO:=δ.jE ai _ hm;have lz:=δ.uU hm;have rq:=f108 (u:=u) l[i] rO;have t2:=aaw l i χ;have hdb:=aat l[i];have eh:=δ.mw l[i];have qF:l[i].cells.take 14=l[i].cells:=fw (by omega);have gu:∀p∈l[i].blocks,∀m,kf u 192 [.list p.1 (δ.ψ p.2),.n ((d:Int)+1)] m=some (.n (lW (δ.dx p.2) (d+1):Nat),m):=by
   intro p hp m;have hf:=Fl rO hp;rcases Fm hp with rfl|rfl
   ·dsimp only at hf;clear NV kP;simpa using(ih _ hm).1 _ hf.1 hf.2.1 (d+1) (by omega) (by omega) m
   ·dsimp only at hf;clear NV kP;simpa using(ih _ hm).2 _ hf.1 hf.2.1 (d+1) (by omega) (by omega) m
  generalize l[i]=y at*;simp only[δ.av]at hg rq;have HA:∀j (hj:j<y.blocks.length),δ.dx (y.blocks[j]).2+3<=y.wt:=fun j hj=>by have h5:=(Fl rO (df hj)).2.2;have h6:=(δ.Lb (y.blocks[j]).2).2;omega
  have ep:y.blocks.length<=2:=by unfold δ.blocks;split<;>(try split)<;>simp
  let J:St->Prop:=fun st=>K st/\st.e 10= .list c (δ.ψ l)/\st.e 11= .n l.length/\st.e 12= .n i;let d0:=lW (δ.dx (l.take i)) d;refine Θ (fun st=>J st/\st.e 5= .n d0/\st.e 13= .bool true) (by simp[J,d0,K,h1,h2,q1,q2,q3,q4,χ]) fun s5 ⟨⟨⟨h1,h2⟩,q1,q2,q3⟩,q4,q5⟩=>?_;refine Θ (fun st=>J st/\st.e 5= .n d0) (by simp[J,K,h1,h2,q1,q2,q3,q4,q5]) fun s5 ⟨⟨⟨h1,h2⟩,q1,q2,q3⟩,q4⟩=>?_;refine bP (fun st=>J st/\st.e 5= .n (lW (δ.dx (l.take (i+1))) d:Nat)) ?_ fun s6 ⟨⟨⟨h1,h2⟩,q1,q2,q3⟩,q4⟩=>by simp[I,K,h1,h2,q1,q2,q3,q4,kP]
  refine κ.block ?_;let J2:St->Prop:=fun st=>J st/\∃v,st.e 7= .aj 7 v 0/\st.q 7=some (v,.cells y.cells);refine Θ (fun st=>J2 st/\st.e 5= .n d0) (by simp[J2,J,K,h1,h2,q1,q2,q3,q4,hg,eh,qF,χ,uP]) fun s5 ⟨⟨⟨⟨h1,h2⟩,q1,q2,q3⟩,v,q5,q6⟩,q4⟩=>?_;refine Θ (fun st=>J2 st/\st.e 5= .n (max d0 d:Nat)) (by
   simp[J2,J,K,h1,h2,q1,q2,q3,q4,q5,q6]
   split<;>omega) fun s5 ⟨⟨⟨⟨h1,h2⟩,q1,q2,q3⟩,v,q5,q6⟩,q4⟩=>?_
  let L2:Nat->St->Prop:=fun j st=>J st/\st.e 20=iN y/\st.e 21= .n y.blocks.length/\st.e 22= .n j/\st.e 5= .n (max (max d0 d) (lW (rj (y.blocks.take j)) (d+1)):Nat);refine Θ (L2 0) (by
   simp only[iN]at rq
   simp[L2,J,K,h1,h2,q1,q2,q3,q4,q5,q6,rq,eh,qF,iN,rj,lW]) fun s6 hL=>?_
  have ue:max (max d0 d) (lW (rj y.blocks) (d+1))=lW (δ.dx (l.take (i+1))) d:=by
   rw[t2,hdb];simp only[d0,lW]
   (repeat' split)<;>omega
  refine κ.block (κ.upto (I:=L2) y.blocks.length hL (fun j st eW Ω=>?_) (fun st Ω=>?_))
  ·obtain⟨⟨⟨h1,h2⟩,q1,q2,q3⟩,z1,z2,z3,z4⟩:=Ω;have rS:bC .i64 ((j:Int)+1)=(j:Int)+1:=wrap_i64 (by omega) (by omega);have hb:=gu _ (df eW);have C7:=Zm y.blocks j eW;simp only[iN,fy]at z1;simp[L2,J,K,Ou,h1,h2,q1,q2,q3,z1,z2,z3,z4,eW,rS,NV,hb,iN,fy];have jM:lW (rj (y.blocks.take (j+1))) (d+1)=max (lW (rj (y.blocks.take j)) (d+1)) (lW (δ.dx (y.blocks[j]).2) (d+1)):=by rw[C7];simp only[lW];(repeat' split)<;>omega
   rw[jM];split<;>omega
  ·obtain⟨⟨⟨h1,h2⟩,q1,q2,q3⟩,z1,z2,z3,z4⟩:=Ω;simp only[po,ue]at z4;simp[J,K,Ou,h1,h2,q1,q2,q3,z1,z2,z3,z4]
 ·obtain⟨⟨h1,h2⟩,q1,q2,q3,q4⟩:=Ω;simp only[po]at q4;simp[K,VN,h1,h2,q1,q2,q3,q4]
def pd(u:Nat){σ:Type}(Bk:σ->List θ)(fv:AV)(x:AV)(f:σ->σ)(r:Bool):Prop:=∀s ext T,ah (C u) fv [x] {ε:=Bk s++ext,ζ:=T}=some (.bool r,{ε:=Bk (f s)++ext,ζ:=T})
theorem f283{σ:Type}{Bk:σ->List θ}{N:Nat}(hN:∀s,(Bk s).length=N){fv:AV}{f:δ->σ->σ}(hf:Fix N fv)(c:ξ)(hc:br c)(l:List δ)(hl:δ.da l)(hlen:l.length<1000000000000)
  (h:∀x∈l,pd u Bk fv x.av (f x) false):∀s ext T,kf u 283 [.list c (δ.ψ l),fv] {ε:=Bk s++ext,ζ:=T}=some (.n (-1),{ε:=Bk (l.foldl (fun s x=>f x s) s)++ext,ζ:=T}):=by
 intro s ext T;have e0:(Bk s++ext).length=N+ext.length:=by simp[hN]
 refine kz (g:=G6) rfl rfl rfl (by simp[hN]) ?_;simp only[bG,de,aA,aP,ru hc hl,hf _ false (show N<=(Bk s++ext).length by omega),G6,RE];let K:σ->St->Prop:=fun s st=>st.e 1=fv/\st.e 0= .list c (δ.ψ l)/\st.mem= {ε:=Bk s++ext,ζ:=[]};refine Θ (K s) (by simp[K]) fun s1 ⟨h1,h2,h3⟩=>?_;refine bP (K (l.foldl (fun s x=>f x s) s)) ?_ fun s2 ⟨h1,h2,h3⟩=>?_
 ·let I:Nat->St->Prop:=fun i st=>K ((l.take i).foldl (fun s x=>f x s) s) st/\st.e 7= .n l.length/\st.e 8= .n i;refine Θ (I 0) (by simp[I,K,h1,h2,h3,uP]) fun s4 hI=>?_;refine κ.block (κ.loop (I:=I) l.length hI fun i st hi Ω=>?_);obtain⟨⟨h1,h2,h3⟩,q1,q2⟩:=Ω;rcases cX i l.length with χ|du
  ·left;refine⟨χ,?_⟩;have hw:bC .i64 ((i:Int)+1)=(i:Int)+1:=wrap_i64 (by omega) (by omega);have hg:=Jt l i χ;have hx:=h _ (df χ) ((l.take i).foldl (fun s x=>f x s) s) ext [];have ht:(l.take (i+1)).foldl (fun s x=>f x s) s=f l[i] ((l.take i).foldl (fun s x=>f x s) s):=by rw[uY χ,alm];rfl
   have eh:=δ.mw l[i];have qF:l[i].cells.take 14=l[i].cells:=fw (by omega);simp only[δ.av]at hg hx;simp[I,K,Oz,h1,h2,h3,q1,q2,χ,hg,hx,hw,uP,eh,qF,ht]
  ·right;have:i=l.length:=by omega
   subst this;simp only[po]at h3;simp[K,Oz,h1,h2,h3,q1,q2]
 ·simp[h1,h2,h3]
theorem f247{σ:Type}{Bk:σ->List θ}{N:Nat}(hN:∀s,(Bk s).length=N){fv:AV}{f:δ->σ->σ}(hf:Fix N fv)(c:ξ)(hc:br c)(l:List δ)(hl:δ.da l)(hlen:l.length<1000000000000)
  (h:∀x∈l,pd u Bk fv x.av (f x) false):∀s ext T,kf u 247 [.list c (δ.ψ l),fv] {ε:=Bk s++ext,ζ:=T}=some (.bool false,{ε:=Bk (l.foldl (fun s x=>f x s) s)++ext,ζ:=T}):=by
 intro s ext T;have e0:(Bk s++ext).length=N+ext.length:=by simp[hN]
 have hx:=f283 (u:=u) hN hf c hc l hl hlen h s ext [];refine kz (g:=GU) rfl rfl rfl (by simp[hN]) ?_;simp only[bG,de,aA,aP,ru hc hl,hf _ false (show N<=(Bk s++ext).length by omega),GU,Ru];simp[hx]
theorem f208{σ:Type}{Bk:σ->List θ}{N:Nat}(hN:∀s,(Bk s).length=N){F:Fn}{fa fc:List AV}{f:δ->σ->σ}(hf:Fix N (.fn F fa fc))(pR:fa.map ν=fa)(nf:fc.map ν=fc)(c:ξ)(hc:br c)(l:List δ)(hl:δ.da l)(hlen:l.length<1000000000000)
  (h:∀x∈l,pd u Bk (.fn F fa fc) x.av (f x) true):∀s ext T,kf u 208 [.list c (δ.ψ l),(.fn F fa fc)] {ε:=Bk s++ext,ζ:=T}=some (.bool true,{ε:=Bk (l.foldl (fun s x=>f x s) s)++ext,ζ:=T}):=by
 intro s ext T;have e0:(Bk s++ext).length=N+ext.length:=by simp[hN]
 let jQ:σ->List θ:=fun s=>Bk s++ext++[.cells [.fn F fa fc]];have yG:∀s,(jQ s).length=N+ext.length+1:=fun s=>by simp[jQ,hN];omega
 have nT:Fix (N+ext.length+1) (.fn (.func 248) [] [.μ (N+ext.length) 0]):=by intro k b hk;simp[exp,bn,Fn.below];omega
 have MH:∀x∈l,pd u jQ (.fn (.func 248) [] [.μ (N+ext.length) 0]) x.av (f x) false:=by
  intro x hx s ext' T';have hd:(jQ s++ext')[N+ext.length]?=some (.cells [.fn F fa fc]):=by
   have:N+ext.length=(Bk s++ext).length:=by simp[hN]
   simp only[jQ,bH,this];simp
  have ek:=h x hx s (ext++[.cells [.fn F fa fc]]++ext') [];have eh:=δ.mw x;refine kz (g:=GV) rfl rfl rfl (by simp[yG]) ?_;have a0:N+ext.length<(jQ s++ext').length:=by simp[yG];omega
  simp only[bG,cy,aA,aP,δ.jJ _ _ _ (δ.jE hl x hx),exp,a0,if_true,GV,Rv];have e1:Bk s++(ext++[.cells [.fn F fa fc]]++ext')=jQ s++ext':=by simp[jQ]
  have e2:Bk (f x s)++(ext++[.cells [.fn F fa fc]]++ext')=jQ (f x s)++ext':=by simp[jQ]
  rw[e1,e2]at ek;simp only[δ.av]at ek⊢;have qF:x.cells.take 14=x.cells:=fw (by omega);simp[eh,hd,ek,qF]
 have hx:=f247 (u:=u) yG nT c hc l hl hlen MH s [] [];simp only[jQ,de,bH]at hx;refine kz (g:=GG) rfl rfl rfl (by simp[hN]) ?_;simp only[bG,de,aA,aP,ru hc hl,hf _ false (show N<=(Bk s++ext).length by omega),GG,c208];simp[Mem.push,Mem.ν,ν,fM,pR,nf,hN,hx]
theorem LH{n:Nat}{k:Bool}{cc:ξ}(hc:br cc){l:List (ξ×List δ)}(h:∀p∈l,br p.1/\δ.da p.2):exp n k (.list cc (l.map fy))= .list cc (l.map fy):=by
 have:bn n k (l.map fy)=l.map fy:=by rw[fQ,dc];exact dD fun p hp=>ru (h p hp).1 (h p hp).2
 simp only[exp,ga hc,this]
theorem f282{σ:Type}{Bk:σ->List θ}{N:Nat}(hN:∀s,(Bk s).length=N){fv:AV}{f:ξ×List δ->σ->σ}(hf:Fix N fv)(c:ξ)(hc:br c)(l:List (ξ×List δ))(hl:∀p∈l,br p.1/\δ.da p.2)(hlen:l.length<1000000000000)
  (h:∀x∈l,pd u Bk fv (fy x) (f x) false):∀s ext T,kf u 282 [.list c (l.map fy),fv] {ε:=Bk s++ext,ζ:=T}=some (.n (-1),{ε:=Bk (l.foldl (fun s x=>f x s) s)++ext,ζ:=T}):=by
 intro s ext T;have e0:(Bk s++ext).length=N+ext.length:=by simp[hN]
 refine kz (g:=G5) rfl rfl rfl (by simp[hN]) ?_;simp only[bG,de,aA,aP,LH hc hl,hf _ false (show N<=(Bk s++ext).length by omega),G5,RD];let K:σ->St->Prop:=fun s st=>st.e 1=fv/\st.e 0= .list c (l.map fy)/\st.mem= {ε:=Bk s++ext,ζ:=[]};refine Θ (K s) (by simp[K]) fun s1 ⟨h1,h2,h3⟩=>?_;refine bP (K (l.foldl (fun s x=>f x s) s)) ?_ fun s2 ⟨h1,h2,h3⟩=>by simp[h1,h2,h3]
 let I:Nat->St->Prop:=fun i st=>K ((l.take i).foldl (fun s x=>f x s) s) st/\st.e 7= .n l.length/\st.e 8= .n i;refine Θ (I 0) (by simp[I,K,h1,h2,h3]) fun s4 hI=>?_;refine κ.block (κ.loop (I:=I) l.length hI fun i st hi Ω=>?_);obtain⟨⟨h1,h2,h3⟩,q1,q2⟩:=Ω;rcases cX i l.length with χ|du
 ·left;refine⟨χ,?_⟩;have hw:bC .i64 ((i:Int)+1)=(i:Int)+1:=wrap_i64 (by omega) (by omega);have hx:=h _ (df χ) ((l.take i).foldl (fun s x=>f x s) s) ext [];have ht:(l.take (i+1)).foldl (fun s x=>f x s) s=f l[i] ((l.take i).foldl (fun s x=>f x s) s):=by rw[uY χ,alm];rfl
  simp only[fy]at hx h2;simp[I,K,Oy,h1,h2,h3,q1,q2,χ,hx,hw,ht,fy]
 ·right;have:i=l.length:=by omega
  subst this;simp only[po]at h3;simp[K,Oy,h1,h2,h3,q1,q2]
theorem f245{σ:Type}{Bk:σ->List θ}{N:Nat}(hN:∀s,(Bk s).length=N){fv:AV}{f:ξ×List δ->σ->σ}(hf:Fix N fv)(c:ξ)(hc:br c)(l:List (ξ×List δ))(hl:∀p∈l,br p.1/\δ.da p.2)(hlen:l.length<1000000000000)
  (h:∀x∈l,pd u Bk fv (fy x) (f x) false):∀s ext T,kf u 245 [.list c (l.map fy),fv] {ε:=Bk s++ext,ζ:=T}=some (.bool false,{ε:=Bk (l.foldl (fun s x=>f x s) s)++ext,ζ:=T}):=by
 intro s ext T;have e0:(Bk s++ext).length=N+ext.length:=by simp[hN]
 have hx:=f282 (u:=u) hN hf c hc l hl hlen h s ext [];refine kz (g:=GR) rfl rfl rfl (by simp[hN]) ?_;simp only[bG,de,aA,aP,LH hc hl,hf _ false (show N<=(Bk s++ext).length by omega),GR,Rr];simp[hx]
theorem f206{σ:Type}{Bk:σ->List θ}{N:Nat}(hN:∀s,(Bk s).length=N){F:Fn}{fa fc:List AV}{f:ξ×List δ->σ->σ}(hf:Fix N (.fn F fa fc))(pR:fa.map ν=fa)(nf:fc.map ν=fc)(c:ξ)(hc:br c)(l:List (ξ×List δ))(hl:∀p∈l,br p.1/\δ.da p.2)(hlen:l.length<1000000000000)
  (h:∀x∈l,pd u Bk (.fn F fa fc) (fy x) (f x) true):∀s ext T,kf u 206 [.list c (l.map fy),(.fn F fa fc)] {ε:=Bk s++ext,ζ:=T}=some (.bool true,{ε:=Bk (l.foldl (fun s x=>f x s) s)++ext,ζ:=T}):=by
 intro s ext T;have e0:(Bk s++ext).length=N+ext.length:=by simp[hN]
 let jQ:σ->List θ:=fun s=>Bk s++ext++[.cells [.fn F fa fc]];have yG:∀s,(jQ s).length=N+ext.length+1:=fun s=>by simp[jQ,hN];omega
 have nT:Fix (N+ext.length+1) (.fn (.func 246) [] [.μ (N+ext.length) 0]):=by intro k b hk;simp[exp,bn,Fn.below];omega
 have MH:∀x∈l,pd u jQ (.fn (.func 246) [] [.μ (N+ext.length) 0]) (fy x) (f x) false:=by
  intro x hx s ext' T';have hd:(jQ s++ext')[N+ext.length]?=some (.cells [.fn F fa fc]):=by
   have:N+ext.length=(Bk s++ext).length:=by simp[hN]
   simp only[jQ,bH,this];simp
  have ek:=h x hx s (ext++[.cells [.fn F fa fc]]++ext') [];refine kz (g:=GS) rfl rfl rfl (by simp[yG]) ?_;have a0:N+ext.length<(jQ s++ext').length:=by simp[yG];omega
  have hb:exp (jQ s++ext').length false (fy x)=fy x:=ru (hl x hx).1 (hl x hx).2;simp only[bG,cy,aA,aP,hb];simp only[exp,a0,if_true,GS,Rt];have e1:Bk s++(ext++[.cells [.fn F fa fc]]++ext')=jQ s++ext':=by simp[jQ]
  have e2:Bk (f x s)++(ext++[.cells [.fn F fa fc]]++ext')=jQ (f x s)++ext':=by simp[jQ]
  rw[e1,e2]at ek;simp[hd,ek]
 have hx:=f245 (u:=u) yG nT c hc l hl hlen MH s [] [];simp only[jQ,de,bH]at hx;refine kz (g:=GD) rfl rfl rfl (by simp[hN]) ?_;simp only[bG,de,aA,aP,LH hc hl,hf _ false (show N<=(Bk s++ext).length by omega),GD,c206];simp[Mem.push,Mem.ν,ν,fM,pR,nf,hN,hx]
mutual
def wU{σ:Type}(f:δ->σ->σ):δ->σ->σ
 | .mk k g nm cp pl size to cb body ce els,s=>if aS k then(if bh k then rz f els (rz f body (f (.mk k g nm cp pl size to cb body ce els) s))else rz f body (f (.mk k g nm cp pl size to cb body ce els) s))else f (.mk k g nm cp pl size to cb body ce els) s
def rz{σ:Type}(f:δ->σ->σ):List δ->σ->σ
 |[],s=>s
 |x::l,s=>rz f l (wU f x s)
end
theorem Tq{σ:Type}(f:δ->σ->σ)(l:List δ)(s:σ):rz f l s=l.foldl (fun s x=>wU f x s) s:=by
 induction l generalizing s with
 |nil=>rfl
 |cons a l ih=>simp only[rz,List.foldl_cons,ih]
theorem abx{σ:Type}(f:δ->σ->σ)(x:δ)(s:σ):wU f x s=x.blocks.foldl (fun s p=>rz f p.2 s) (f x s):=by obtain⟨k,g,nm,cp,pl,size,to,cb,body,ce,els⟩:=x;simp only[wU,δ.blocks,δ.kind,δ.body,δ.els,δ.cb,δ.ce];by_cases hb:aS k=true<;>by_cases he:bh k=true<;>simp[hb,he];exfalso;simp only[aS,bh,decide_eq_true_eq]at hb he;omega
section
variable{σ:Type}{Bk:σ->List θ}{N:Nat}{F:Fn}{fa fc:List AV}{f:δ->σ->σ}
def mj(Bk:σ->List θ)(n:Nat)(e0:List θ)(yv:AV):σ->List θ:=fun s=>Bk s++e0++[.cells [yv],.cells [.fn (.func 205) [] [.μ n 0,.μ (n+1) 0]]]
theorem f205(hN:∀s,(Bk s).length=N)(e0:List θ)(hf:Fix N (.fn F fa fc))(hy:∀x:δ,x.Ok->pd u Bk (.fn F fa fc) x.av (f x) true)(x:δ):x.Ok->x.wt<1000000000000→
  pd u (mj Bk (N+e0.length) e0 (.fn F fa fc)) (.fn (.func 205) [] [.μ (N+e0.length) 0,.μ (N+e0.length+1) 0]) x.av (wU f x) true:=by
 have sM:∀s,(mj Bk (N+e0.length) e0 (.fn F fa fc) s).length=N+e0.length+2:=fun s=>by simp[mj,hN];omega
 have MV:Fix (N+e0.length+2) (.fn (.func 205) [] [.μ (N+e0.length) 0,.μ (N+e0.length+1) 0]):=by intro k b hk;simp[exp,bn,Fn.below];omega
 have hf7:Fix (N+e0.length+2) (.fn (.func 207) [] [.μ (N+e0.length+1) 0]):=by intro k b hk;simp[exp,bn,Fn.below];omega
 have d0:∀s ext,(mj Bk (N+e0.length) e0 (.fn F fa fc) s++ext)[N+e0.length]?=some (.cells [.fn F fa fc]):=fun s ext=>by
  have:N+e0.length=(Bk s++e0).length:=by simp[hN]
  simp only[mj,bH,this];simp
 have d1:∀s ext,(mj Bk (N+e0.length) e0 (.fn F fa fc) s++ext)[N+e0.length+1]?=some (.cells [.fn (.func 205) [] [.μ (N+e0.length) 0,.μ (N+e0.length+1) 0]]):=fun s ext=>by
  have h1:N+e0.length=(Bk s++e0).length:=by simp[hN]
  have h2:((Bk s++e0)++([θ.cells [.fn F fa fc],.cells [.fn (.func 205) [] [.μ (N+e0.length) 0,.μ (N+e0.length+1) 0]]]++ext))[(Bk s++e0).length+1]?=some (.cells [.fn (.func 205) [] [.μ (N+e0.length) 0,.μ (N+e0.length+1) 0]]):=by rw[List.getElem?_append_right (by omega)];simp
  simp only[mj,bH]at h2⊢;rw[h1]at h2⊢;simpa using h2
 refine δ.kR (Q:=fun x=>x.Ok->x.wt<1000000000000->pd u (mj Bk (N+e0.length) e0 (.fn F fa fc)) (.fn (.func 205) [] [.μ (N+e0.length) 0,.μ (N+e0.length+1) 0]) x.av (wU f x) true) (fun k g nm cp pl size to cb body ce els h1 h2 ai hw=>?_) x;have hyx:=hy _ ai;have eh:=δ.mw (.mk k g nm cp pl size to cb body ce els);have Tu:=f108 (u:=u) _ ai;have HL:=abx f (.mk k g nm cp pl size to cb body ce els);have vm:=fun p hp=>Fl ai (p:=p) hp;have h7:∀p∈(δ.mk k g nm cp pl size to cb body ce els).blocks,pd u (mj Bk (N+e0.length) e0 (.fn F fa fc)) (.fn (.func 207) [] [.μ (N+e0.length+1) 0]) (fy p) (rz f p.2) true:=by
  intro p hp s ext T;have AX:=vm p hp;have A5:∀y∈p.2,pd u (mj Bk (N+e0.length) e0 (.fn F fa fc)) (.fn (.func 205) [] [.μ (N+e0.length) 0,.μ (N+e0.length+1) 0]) y.av (wU f y) true:=by
   intro y l8;have hyw:=δ.uU l8;rcases Fm hp with rfl|rfl
   ·exact h1 y l8 (δ.jE AX.2.1 y l8) (by omega)
   ·exact h2 y l8 (δ.jE AX.2.1 y l8) (by omega)
  have hlw:=δ.ET p.2;have hx:=f208 (u:=u) sM MV rfl rfl p.1 AX.1 p.2 AX.2.1 (by omega) A5 s ext [];rw[<-Tq]at hx;refine kz (g:=GF) rfl rfl rfl (by simp[sM]) ?_;have a0:N+e0.length+1<(mj Bk (N+e0.length) e0 (.fn F fa fc) s++ext).length:=by simp[sM];omega
  have hb:exp (mj Bk (N+e0.length) e0 (.fn F fa fc) s++ext).length false (fy p)=fy p:=ru AX.1 AX.2.1;simp only[bG,cy,aA,aP,hb];simp only[exp,a0,if_true,GF,Rh];simp[d1,hx,fy]
 have ep:(δ.mk k g nm cp pl size to cb body ce els).blocks.length<=2:=by unfold δ.blocks;split<;>(try split)<;>simp
 generalize bJ:δ.mk k g nm cp pl size to cb body ce els=x at*;intro s ext T;have h6:=f206 (u:=u) sM hf7 rfl rfl (if aS x.kind then .any else .nil) (by split<;>simp[br]) x.blocks (fun p hp=>⟨(vm p hp).1,(vm p hp).2.1⟩) (by omega) h7 (f x s) ext [];rw[<-HL]at h6;have N0:=hyx s (e0++[.cells [.fn F fa fc],.cells [.fn (.func 205) [] [.μ (N+e0.length) 0,.μ (N+e0.length+1) 0]]]++ext) [];have e1:∀s,Bk s++(e0++[.cells [.fn F fa fc],.cells [.fn (.func 205) [] [.μ (N+e0.length) 0,.μ (N+e0.length+1) 0]]]++ext)=mj Bk (N+e0.length) e0 (.fn F fa fc) s++ext:=fun s=>by simp[mj]
 rw[e1,e1]at N0;refine kz (g:=GC) rfl rfl rfl (by simp[sM]) ?_;have a0:N+e0.length<(mj Bk (N+e0.length) e0 (.fn F fa fc) s++ext).length:=by simp[sM];omega
 have a1:N+e0.length+1<(mj Bk (N+e0.length) e0 (.fn F fa fc) s++ext).length:=by simp[sM];omega
 have qF:x.cells.take 14=x.cells:=fw (by omega);simp only[bG,cy,aA,aP,δ.jJ _ _ _ ai];simp only[exp,a0,a1,if_true,GC,Rg];simp only[δ.av,iN]at N0 Tu⊢;simp[eh,qF,d0,d1,N0,Tu,h6]
theorem S9(bs:List θ)(n:Nat):aK bs n 8 (.aU [])= .aU []:=rfl
theorem f204(hN:∀s,(Bk s).length=N)(hf:Fix N (.fn F fa fc))(pR:fa.map ν=fa)(nf:fc.map ν=fc)(hy:∀x:δ,x.Ok->pd u Bk (.fn F fa fc) x.av (f x) true)(c:ξ)(hc:br c)(l:List δ)(hl:δ.da l)(hw:δ.bX l<1000000000000):
  ∀s ext T,ah (C u) (.fn (.func 204) [] [.ref [.list c (δ.ψ l)]]) [.fn F fa fc] {ε:=Bk s++ext,ζ:=T}=some (.aU [],{ε:=Bk (rz f l s)++ext,ζ:=T}):=by
 intro s ext T;have hlw:=δ.ET l;have sM:∀s,(mj Bk (N+ext.length) ext (.fn F fa fc) s).length=N+ext.length+2:=fun s=>by simp[mj,hN];omega
 have MV:Fix (N+ext.length+2) (.fn (.func 205) [] [.μ (N+ext.length) 0,.μ (N+ext.length+1) 0]):=by intro k b hk;simp[exp,bn,Fn.below];omega
 have hx:=f208 (u:=u) sM MV rfl rfl c hc l hl (by omega) (fun x hx=>f205 (u:=u) hN ext hf hy x (δ.jE hl x hx) (by have:=δ.uU hx;omega)) s [] [];rw[<-Tq]at hx;refine kz (g:=GB) rfl rfl rfl (by simp[hN]) ?_;have xk:(Bk s++ext).length=N+ext.length:=by simp[hN]
 have hr:exp (Bk s++ext).length false (.ref [.list c (δ.ψ l)])= .ref [.list c (δ.ψ l)]:=by have:=ru (n:=(Bk s++ext).length) (k:=false) hc hl;simp only[exp,bn]at this⊢;rw[this]
 simp only[bG,cy,aA,aP,hr,hf _ false (show N<=(Bk s++ext).length by omega),GB,Rf];simp only[mj,de,bH,Nat.add_assoc]at hx;simp[Mem.push,Mem.put,Mem.ν,ν,fM,pR,nf,hN,bo,lo,Fn.below,hx,S9]
end
theorem abg(bs:List θ)(n:Nat)(i:Nat)(hi:n<=i)(l:List AV)(h:bs[i]?=some (.cells l)):aK bs n 8 (.fn (.func 204) [] [.μ i 0])= .fn (.func 204) [] [.ref (l.map (aK bs n 7))]:=by
 have:¬i<n:=by omega
 simp[aK,fE,oF,Fn.below,this,h]
theorem LX(bs:List θ)(n k:Nat)(c:ξ)(l:List AV):aK bs n (k+1) (.list c l)= .list (c.exp n false) (l.map (aK bs n (k+1))):=by simp only[aK,fE,qm]
theorem F2(bs:List θ)(n k:Nat)(l:List AV):aK bs n (k+1) (.agg l)= .agg (l.map (aK bs n (k+1))):=by simp only[aK,fE,qm]
theorem ρ.LV(bs:List θ)(n k:Nat)(p:ρ)(h:p.Ok):aK bs n (k+1) p.av=p.av:=by
 have:(p.ix.map η.av).map (aK bs n (k+1))=p.ix.map η.av:=by rw[dc];exact dD fun x hx=>η.yC bs n (k+1) x (h.2.2 x hx).1
 have hs:aK bs n (k+1) (.str p.name)= .str p.name:=rfl;simp only[ρ.av,F2,aA,aP,LX,ga h.2.1,this,hs]
theorem δ.LV(bs:List θ)(n j:Nat)(x:δ):x.Ok->x.cells.map (aK bs n (j+1))=x.cells:=by
 refine δ.kR (Q:=fun x=>x.Ok->x.cells.map (aK bs n (j+1))=x.cells) (fun kk g nm cp pl size to cb body ce els h1 h2 h=>?_) x;simp only[δ.Ok]at h;obtain⟨-,k1,k2,k3,k4,k5,k6,k7,k8⟩:=h;have e1:(pl.map ρ.av).map (aK bs n (j+1))=pl.map ρ.av:=by rw[dc];exact dD fun x hx=>ρ.LV bs n j x (k2 x hx)
 have go:∀l:List δ,δ.da l->(∀y∈l,y.Ok->y.cells.map (aK bs n (j+1))=y.cells)->(δ.ψ l).map (aK bs n (j+1))=δ.ψ l:=by intro l hl hy;rw[δ.eM,dc];refine dD fun y hm=>?_;simp only[Function.comp,δ.av,F2,hy y hm (δ.jE hl y hm)]
 have q:∀y:η,y.Ok->y.four.map (aK bs n (j+1))=y.four:=fun y hy=>by have:=η.yC bs n (j+1) y hy;rw[η.iM,F2]at this;simpa using this
 have hs:∀s,aK bs n (j+1) (.str s)= .str s:=fun s=>rfl;have hi:∀k i,aK bs n (j+1) (.int k i)= .int k i:=fun k i=>rfl;simp only[δ.cells,jT,aA,aP,LX,ga k1,ga k5,ga k7,e1,q _ k3.1,q _ k4.1,go body k6 h1,go els k8 h2,hs,hi]
theorem abf(bs:List θ)(n:Nat){c:ξ}(hc:br c){l:List δ}(h:δ.da l):aK bs n 7 (.list c (δ.ψ l))= .list c (δ.ψ l):=by
 have:(δ.ψ l).map (aK bs n 7)=δ.ψ l:=by rw[δ.eM,dc];exact dD fun y hy=>by simp only[Function.comp,δ.av,F2,δ.LV bs n 6 y (δ.jE h y hy)]
 rw[LX,ga hc,this]
theorem f134(c:ξ)(hc:br c)(l:List δ)(hl:δ.da l)(m:Mem):kf u 134 [.list c (δ.ψ l)] m=some (.fn (.func 204) [] [.ref [.list c (δ.ψ l)]],m):=by
 refine eN (g:=Gf) rfl rfl rfl ?_;simp only[aA,aP,ru hc hl,Gf,QV];have n1:(δ.ψ l).map ν=δ.ψ l:=by rw[δ.eM,dc];exact dD fun y _=>by simp only[Function.comp,δ.av,ν,δ.zx]
 simp[Mem.push,Mem.ν,ν,fM,n1];rw[abg _ _ _ (Nat.le_refl _) [.list c (δ.ψ l)] (by simp)];simp[abf _ _ hc hl]
theorem akg(n:Nat):bC .i64 (bC .i64 (n:Int)+1)=bC .i64 ((n+1:Nat):Int):=by
 have h:∀x:Int,bC .i64 x=if(true&&decide (x % 18446744073709551616≥9223372036854775808))=true then x % 18446744073709551616-18446744073709551616 else x % 18446744073709551616:=fun x=>rfl;simp only[h];simp
 (repeat' split)<;>omega
def Aw(B:List θ)(env:List AV)(n:Nat):List θ:=B++[.cells [.n (bC .i64 (n:Int))],.loop env [6] .skip (.block 1 (.ops [⟨(some 7),.ld false 1 (.t 3),none⟩,⟨(some 8),.bin .add (.t 7) (.c (.n 1)),none⟩,⟨none,.st 1 (.t 3) (.t 8),none⟩])) .ready]
theorem abq(l:List AV)(i:Nat):aI (l.map ν) i=ν (aI l i):=by
 induction l generalizing i with
 |nil=>simp[aI,ν]
 |cons a l ih=>cases i with
  |zero=>rfl
  |succ i=>simp only[aA,aI,ih]
theorem aky(B:List θ)(env:List AV)(h3:aI env 3= .μ B.length 0)(v:AV)(n:Nat)(ext:List θ)(T:List Nat):
  ah (C u) (.fn (.yield (B.length+1)) [] []) [v] {ε:=Aw B env n++ext,ζ:=T}=some (.bool true,{ε:=Aw B env (n+1)++ext,ζ:=T}):=by
 apply sF;simp only[body];unfold round;simp[Aw,wb,Mem.ls,Mem.kV,h3,Mem.put,bo,lo,akg,Mem.ν,ν]
theorem f135(c:ξ)(hc:br c)(l:List δ)(hl:δ.da l)(hw:δ.bX l<1000000000000)(m:Mem):kf u 135 [.list c (δ.ψ l)] m=some (.n (δ.bO l),m):=by
 have aaF:=f134 (u:=u) c hc l hl;refine eN (g:=Gg) rfl rfl rfl ?_;simp only[aA,aP,ru hc hl,Gg,QW];let K:St->Prop:=fun st=>st.e 3= .μ m.ε.length 0/\st.mem= {ε:=m.ε++[.cells [.n 0]],ζ:=[]};refine Θ (fun st=>st.e 0= .list c (δ.ψ l)/\st.mem= {ε:=m.ε,ζ:=[]}) (by simp) fun s1 ⟨h1,h2⟩=>?_;refine Θ (fun st=>K st/\st.e 0= .list c (δ.ψ l)) (by simp[K,h1,h2,Mem.push,Mem.put,Mem.ν,ν,bo,lo]) fun s1 ⟨⟨h1,h2⟩,h3⟩=>?_;refine bP (fun st=>st.e 3= .μ m.ε.length 0/\st.mem= {ε:=m.ε++[.cells [.n (δ.bO l)]],ζ:=[]}) ?_ fun s2 ⟨h1,h2⟩=>by simp[h1,h2]
 refine Θ (fun st=>K st/\st.e 5= .fn (.func 204) [] [.ref [.list c (δ.ψ l)]]) (by simp[K,h1,h2,h3,aaF]) fun s1 ⟨⟨h1,h2⟩,h3⟩=>?_;refine κ.block ?_;have eK:∀M:Mem,M.ν=ν:=fun _=>rfl;have ft:aI (s1.env.map ν) 3= .μ m.ε.length 0:=by rw[abq];exact congrArg ν h1
 have A5:=f204 (u:=u) (Bk:=Aw m.ε (s1.env.map ν)) (N:=m.ε.length+2) (F:= .yield (m.ε.length+1)) (fa:=[]) (fc:=[]) (f:=fun _ n=>n+1) (fun n=>by simp[Aw]) (fun k b hk=>by simp[exp,bn,Fn.below];omega) rfl rfl
  (fun x _ n ext T=>aky m.ε _ ft x.av n ext T) c hc l hl hw 0 [] []
 have abU:∀(l:List δ) (n:Nat),rz (fun _ n=>n+1) l n=n+δ.bO l:=by
  intro l;refine δ.lists (P:=fun l=>∀n:Nat,rz (fun _ n=>n+1) l n=n+δ.bO l) (fun l ih n=>?_) l;induction l generalizing n with
  |nil=>rfl
  |cons a l xy=>
   have ha:=ih a (by simp)
   obtain⟨k,g,nm,cp,pl,size,to,cb,body,ce,els⟩:=a;simp only[δ.body,δ.els]at ha;simp only[rz,wU,δ.bO,δ.cnt,xy (fun y hy=>ih y (by simp[hy])),ha.1,ha.2];by_cases hb:aS k=true
   ·by_cases he:bh k=true<;>simp[hb,he]<;>omega
   ·have he:¬bh k=true:=by simp only[aS,bh,decide_eq_true_eq]at hb⊢;omega
    simp[hb,he];omega
 rw[abU,lj]at A5;have hcw:=(δ.Lb l).1;have gg:bC .i64 (δ.bO l:Int)=(δ.bO l:Int):=wrap_i64 (by omega) (by omega);have vO:bC .i64 0=0:=by decide
 simp only[Aw,de,gg]at A5;have ac8:bC .i64 ((0:Nat):Int)=0:=by decide
 rw[ac8]at A5;simp only[κ,exec,dr,h3,AV.DW,Option.bind_some,h2,List.length_append,List.length_cons,List.length_nil,lj,bH,cy,bG];simp[eK,A5,h1,Mem.back,lS];rw[List.take_append];simp[fw]
def afJ(n:cY)(d:Int):rh:=if n.w=1\/n.w=3 then .j_ false else if n.w=2 then .j_ (decide (n.d=d))else if n.w=4 then .bit else if n.w=5 then .dR else .none
structure akB (l:List cY) (d:Int) (L:b_):Prop where
 look:∀s,L s=afJ (jb l s) d
 ws:∀x∈l,1<=x.w/\x.w<=5
 ds:∀x∈l,x.d<=d
theorem SY(l:List cY)(s:List Nat):jb l s=⟨[],0,0⟩\/(jb l s∈l/\(jb l s).name=s):=by
 induction l with
 |nil=>exact .inl rfl
 |cons a l ih=>
  simp only[jb]
  split
  ·rename_i h;exact .inr ⟨by simp,h⟩
  ·rcases ih with h|⟨h,h'⟩
   ·exact .inl h
   ·exact .inr ⟨by simp[h],h'⟩
theorem aa6{l:List cY}{s:List Nat}(h:¬∃y∈l,y.name=s):jb l s=⟨[],0,0⟩:=by
 rcases SY l s with h1|⟨h1,h2⟩
 ·exact h1
 ·exact absurd ⟨_,h1,h2⟩ h
def k_(L:b_):Prop:=∀s,L s≠ .none->s.length<=8
theorem O1{s:List Nat}(h:c_ s=true):s.length<=8:=by simp only[c_,Bool.and_eq_true,decide_eq_true_eq]at h;exact h.1.1.1.2
theorem k_.put{L:b_}(h:k_ L){s:List Nat}(hs:s.length<=8)(w:rh):k_ (L.put s w):=by
 intro t ht;simp only[b_.put]at ht;split at ht
 ·rename_i he;rw[he];exact hs
 ·exact h t ht
theorem k_.del{L:b_}(h:k_ L)(s:List Nat):k_ (L.put s .none):=by
 intro t ht;simp only[b_.put]at ht;split at ht
 ·exact absurd rfl ht
 ·exact h t ht
theorem k_.inner{L:b_}(h:k_ L):k_ L.inner:=by intro t ht;refine h t fun he=>ht ?_;simp[b_.inner,he]
theorem O3{L:b_}{s:List Nat}(h:fC L s=0):c_ s=true/\L s= .none:=by
 unfold fC at h;split at h
 ·cases h
 ·rename_i h1;split at h
  ·cases h
  ·rename_i h2;exact⟨by simpa using h1,by simpa using h2⟩
theorem WW{n:Nat}{k:Bool}{c:ξ}(hc:br c){l:List ρ}(h:∀p∈l,p.Ok):exp n k (.list c (l.map ρ.av))= .list c (l.map ρ.av):=by
 have:bn n k (l.map ρ.av)=l.map ρ.av:=by rw[fQ,dc];exact dD fun p hp=>ρ.jJ n k p (h p hp)
 simp only[exp,ga hc,this]
theorem ahO(p:ρ):p.ix.length<=p.wt:=by have:=η.La p.ix;simp only[ρ.wt];omega
def tq(c:ξ)(ps:List φ):AV:= .agg [.list c (ps.map φ.av)]
theorem LI{n:Nat}{k:Bool}{c:ξ}(hc:br c){ps:List φ}(h:∀x∈ps,x.Ok):exp n k (.list c (ps.map φ.av))= .list c (ps.map φ.av):=by
 have:bn n k (ps.map φ.av)=ps.map φ.av:=by rw[fQ,dc];exact dD fun p hp=>φ.jJ n k p (h p hp)
 simp only[exp,ga hc,this]
theorem SQ{n:Nat}{k:Bool}{c:ξ}(hc:br c){ps:List φ}(h:∀x∈ps,x.Ok):exp n k (tq c ps)=tq c ps:=by have:=LI (n:=n) (k:=k) hc h;simp only[tq,exp,bn]at this⊢;rw[this]
theorem ah2(ps:List φ)(s:List Nat):(Ej ps s= -1/\p8 ps s=none)\/∃(n:Nat) (q:φ),Ej ps s=(n:Int)/\p8 ps s=some n/\ps[n]?=some q/\n<ps.length:=by
 unfold Ej;cases h:p8 ps s with
 |none=>exact .inl ⟨rfl,rfl⟩
 |some n=>
  rw[p8,tK]at h
  obtain⟨h1,h2,_⟩:=h;exact .inr ⟨n,ps[n],rfl,rfl,dN h1,h1⟩
theorem cell0(x:δ):x.cells.take 1=[.n x.kind]:=by cases x;rfl
theorem oz(x:δ):(x.cells.drop 2).take 1=[.str x.name]:=by cases x;rfl
theorem R_(x:δ):x.cells.take 14=x.cells:=fw (by have:=δ.mw x;omega)
theorem ada(ps:List φ)(own:Nat)(x:δ)(L:b_):lA ps own x L=if aS x.kind then(if gn ps own x.body (inside L x.kind x.name)≠0 then gn ps own x.body (inside L x.kind x.name)else if bh x.kind then gn ps own x.els (inside L x.kind x.name)else 0)else 0:=by cases x;rfl
def bI(x:cY):AV×AV:=(.str x.name,.agg [.n x.w,.n x.d])
def jr:List cY->List Nat->Int->Int->List cY
 |[],s,w,d=>[⟨s,w,d⟩]
 |x::l,s,w,d=>if x.name=s then⟨s,w,d⟩::l else x::jr l s w d
def nK:List cY->List Nat->List cY
 |[],_=>[]
 |x::l,s=>if x.name=s then l else x::nK l s
theorem afG(es:List cY)(s:List Nat):(jD (.str s) (es.map bI)=some none/\jb es s=⟨[],0,0⟩/\¬∃y∈es,y.name=s)\/∃w d,jD (.str s) (es.map bI)=some (some (.agg [.n w,.n d]))/\jb es s=⟨s,w,d⟩/\⟨s,w,d⟩∈es:=by
 induction es with
 |nil=>exact .inl ⟨rfl,rfl,by simp⟩
 |cons a l ih=>
  obtain⟨nn,w,d⟩:=a
  by_cases h:nn=s
  ·subst h;exact .inr ⟨w,d,by simp[jD,bI,jO],by simp[jb],by simp⟩
  ·have τ:¬s=nn:=Ne.symm h;rcases ih with⟨h1,h2,h3⟩|⟨w',d',h1,h2,h3⟩
   ·exact .inl ⟨by simpa[jD,bI,jO,τ]using h1,by simp[jb,h,h2],by simpa[h]using h3⟩
   ·exact .inr ⟨w',d',by simpa[jD,bI,jO,τ]using h1,by simp[jb,h,h2],by simp[h3]⟩
theorem IV(es:List cY)(s:List Nat)(w d:Int):uC (.str s) (.agg [.n w,.n d]) (es.map bI)=some ((jr es s w d).map bI):=by
 induction es with
 |nil=>rfl
 |cons a l ih=>
  by_cases h:a.name=s
  ·have h':s=a.name:=h.symm;simp[uC,bI,jO,jr,h]
  ·have τ:¬s=a.name:=Ne.symm h;simp only[aA,uC,bI,jO,τ,decide_false,jr,h,if_false]at ih⊢;rw[ih];rfl
theorem afW(es:List cY)(s:List Nat):xF (.str s) (es.map bI)=some ((nK es s).map bI):=by
 induction es with
 |nil=>rfl
 |cons a l ih=>
  by_cases h:a.name=s
  ·simp[xF,bI,jO,nK,h]
  ·have τ:¬s=a.name:=Ne.symm h;have Vr:xF (.str s) (l.map bI)=some ((nK l s).map bI):=ih;simp only[aA,xF,jO,bI,τ,decide_false,nK,h,if_false];have e:(l.map fun x=>(AV.str x.name,AV.agg [.n x.w,.n x.d]))=l.map bI:=rfl
   first|rw[Vr]|(rw[e,Vr])
   rfl
theorem aa7(es:List cY)(s:List Nat)(w d:Int)(t:List Nat):jb (jr es s w d) t=if t=s then⟨s,w,d⟩else jb es t:=by
 induction es with
 |nil=>
  by_cases h:t=s
  ·subst h;simp[jr,jb]
  ·simp[jr,jb,h,Ne.symm h]
 |cons a l ih=>
  by_cases h:a.name=s
  ·by_cases h2:t=s
   ·subst h2;simp[jr,jb,h]
   ·have:¬a.name=t:=fun he=>h2 (he.symm.trans h);simp[jr,jb,h,h2,Ne.symm h2,this]
  ·by_cases h2:t=s
   ·subst h2;simp[jr,jb,h,ih]
   ·simp only[jr,h,if_false,jb,ih,h2]
theorem Po{es:List cY}{s:List Nat}{w d:Int}{x:cY}(h:x∈jr es s w d):x=⟨s,w,d⟩\/x∈es:=by
 induction es with
 |nil=>simp[jr]at h;exact .inl h
 |cons a l ih=>
  simp only[jr]at h
  split at h
  ·rcases cw.1 h with h|h
   ·exact .inl h
   ·exact .inr (by simp[h])
  ·rcases cw.1 h with h|h
   ·exact .inr (by simp[h])
   ·rcases ih h with h|h
    ·exact .inl h
    ·exact .inr (by simp[h])
theorem Lj{es:List cY}{s:List Nat}{x:cY}(h:x∈nK es s):x∈es:=by
 induction es with
 |nil=>cases h
 |cons a l ih=>
  simp only[nK]at h
  split at h
  ·simp[h]
  ·rcases cw.1 h with h|h
   ·simp[h]
   ·simp[ih h]
theorem aid{es:List cY}{s:List Nat}{w d:Int}(h:(es.map cY.name).Nodup):((jr es s w d).map cY.name).Nodup:=by
 induction es with
 |nil=>simp[jr]
 |cons a l ih=>
  rw[aA,x_]at h
  simp only[jr];split
  ·rename_i he;rw[aA,x_];exact⟨by rw[<-he];exact h.1,h.2⟩
  ·rename_i τ;rw[aA,x_];refine⟨fun hm=>?_,ih h.2⟩;obtain⟨x,hx,he⟩:=eT.1 hm;rcases Po hx with rfl|hx
   ·exact τ he.symm
   ·exact h.1 (eT.2 ⟨x,hx,he⟩)
theorem aax{es:List cY}{s:List Nat}(h:(es.map cY.name).Nodup):((nK es s).map cY.name).Nodup:=by
 induction es with
 |nil=>simp[nK]
 |cons a l ih=>
  rw[aA,x_]at h
  simp only[nK];split
  ·exact h.2
  ·rw[aA,x_];refine⟨fun hm=>?_,ih h.2⟩;obtain⟨x,hx,he⟩:=eT.1 hm;exact h.1 (eT.2 ⟨x,Lj hx,he⟩)
theorem aa5{es:List cY}(s:List Nat)(h:(es.map cY.name).Nodup)(t:List Nat):jb (nK es s) t=if t=s then⟨[],0,0⟩else jb es t:=by
 induction es with
 |nil=>simp[nK,jb]
 |cons a l ih=>
  rw[aA,x_]at h
  simp only[nK];by_cases he:a.name=s
  ·simp only[he,if_true];by_cases h2:t=s
   ·subst h2;simp only[if_true];refine aa6 ?_
    rintro⟨y,hy,vQ⟩
    exact h.1 (eT.2 ⟨y,hy,vQ.trans he.symm⟩)
   ·simp only[h2,if_false,jb,he,Ne.symm h2]
  ·simp only[he,if_false,jb,ih h.2];by_cases h2:t=s
   ·subst h2;simp[he]
   ·simp[h2]
def jZ(n:cY)(b:Int):rh:=if n.w=1 then .j_ (decide (n.d=b))else if n.w=2 then .bit else if n.w=3 then .dR else .none
structure fY (es:List cY) (b nb:Int) (L:b_):Prop where
 look:∀s,L s=jZ (jb es s) b
 ws:∀x∈es,1<=x.w/\x.w<=3
 ds:∀x∈es,x.d<nb
 nd:(es.map cY.name).Nodup
theorem fY.empty(b nb:Int):fY [] b nb o6:=⟨fun _=>rfl,fun _ h=>(by cases h),fun _ h=>(by cases h),by simp⟩
theorem fY.mono{es:List cY}{b nb eF:Int}{L:b_}(h:fY es b nb L)(hb:nb<=eF):fY es b eF L:=⟨h.look,h.ws,fun x hx=>by have:=h.ds x hx;omega,h.nd⟩
theorem fY.put{es:List cY}{b nb:Int}{L:b_}(h:fY es b nb L)(s:List Nat)(w d:Int)(hw:1<=w/\w<=3)(hd:d<nb):fY (jr es s w d) b nb (L.put s (jZ ⟨s,w,d⟩ b)):=by
 refine⟨fun t=>?_,fun x hx=>?_,fun x hx=>?_,aid h.nd⟩
 ·rw[aa7];simp only[b_.put];by_cases ht:t=s
  ·simp[ht]
  ·simp[ht,h.look t]
 ·rcases Po hx with rfl|hx
  ·exact hw
  ·exact h.ws x hx
 ·rcases Po hx with rfl|hx
  ·exact hd
  ·exact h.ds x hx
theorem fY.del{es:List cY}{b nb:Int}{L:b_}(h:fY es b nb L)(s:List Nat):fY (nK es s) b nb (L.put s .none):=by
 refine⟨fun t=>?_,fun x hx=>h.ws x (Lj hx),fun x hx=>h.ds x (Lj hx),aax h.nd⟩;rw[aa5 s h.nd];simp only[b_.put];by_cases ht:t=s
 ·simp[ht,jZ]
 ·simp[ht,h.look t]
theorem fY.inner{es:List cY}{b nb:Int}{L:b_}(h:fY es b nb L):fY es nb (nb+1) L.inner:=by
 refine⟨fun t=>?_,h.ws,fun x hx=>by have:=h.ds x hx;omega,h.nd⟩;simp only[b_.inner,h.look t];rcases SY es t with h1|⟨h1,_⟩
 ·simp[h1,jZ]
 ·have hd:=h.ds _ h1;have τ:¬(jb es t).d=nb:=by omega
  unfold jZ
  (repeat' split)<;>simp_all
theorem BD{es:List cY}{b nb:Int}{L:b_}(h:fY es b nb L)(s:List Nat):
  (jD (.str s) (es.map bI)=some none/\L s= .none)\/∃w d,jD (.str s) (es.map bI)=some (some (.agg [.n w,.n d]))/\(w=1\/w=2\/w=3)/\L s=jZ ⟨s,w,d⟩ b:=by
 have hl:=h.look s;rcases afG es s with⟨h1,h2,_⟩|⟨w,d,h1,h2,h3⟩
 ·rw[h2]at hl;exact .inl ⟨h1,hl⟩
 ·rw[h2]at hl;have:=h.ws _ h3;dsimp only at this;exact .inr ⟨w,d,h1,by omega,hl⟩
def eL(id:Nat)(b:Int):AV:= .agg [.map id,.n b]
theorem f298{B:List θ}{id:Nat}{es:List cY}{b nb:Int}{L:b_}(hid:B[id]?=some (.map (es.map bI)))(hs:fY es b nb L)(s:List Nat):lD u B (.fn (.func 298) [eL id b] []) [.str s] (.bool (iT L s)):=by
 intro ext T;have χ:id<B.length:=by
  rcases cX id B.length with h|h
  ·exact h
  ·rw[hU h]at hid;cases hid
 have eO:id<(B++ext).length:=by simp;omega
 have jh:(B++ext)[id]?=some (.map (es.map bI)):=by rw[eo χ];exact hid
 refine sD (g:=Ha) rfl rfl rfl ?_;simp only[eL,cy,bG,de,aA,aP,exp,bn,eO,if_true,Ha,RJ];generalize B++ext=BB at*;rcases BD hs s with⟨h1,h2⟩|⟨w,d,h1,hw,h2⟩
 ·simp[jh,isKey,h1,iT,h2]
 ·simp only[iT,h2];rcases hw with rfl|rfl|rfl<;>simp[jh,isKey,h1,jZ]
theorem f275{B:List θ}{id:Nat}{es:List cY}{b nb:Int}{L:b_}(hid:B[id]?=some (.map (es.map bI)))(hs:fY es b nb L)(x:η)(ai:x.Ok)(qE:x.rb)(oI:x.cnt<1000000000000)(fst args:List AV)(MT:fst++args=[eL id b,x.av]):
  lD u B (.fn (.func 275) fst []) args (.n (x.err (iT L) 1)):=by
 intro ext T;have χ:id<B.length:=by
  rcases cX id B.length with h|h
  ·exact h
  ·rw[hU h]at hid;cases hid
 have eO:id<(B++ext).length:=by simp;omega
 have sQ:Fix B.length (.fn (.func 298) [eL id b] []):=by
  intro k bb hk;have:id<k:=by omega
  simp[exp,bn,Fn.below,eL,this]
 have Mb:=f112 (u:=u) (B:=B) 1 sQ (by simp[eL,ν,cL]) rfl (fun s _=>f298 hid hs s) x ai qE oI ext [];refine sD (g:=G3) rfl rfl rfl ?_;rw[MT];simp only[de,aA,aP,η.jJ _ _ _ ai];simp only[eL,exp,bn,eO,if_true,G3,RB];simp only[eL]at Mb;generalize B++ext=BB at*;generalize x.err (iT L) 1=xe at*;obtain⟨k,n,s,c,l⟩:=x;simp only[η.av]at Mb⊢;simp[Mb]
theorem f274{B:List θ}{id:Nat}{es:List cY}{b nb:Int}{L:b_}(hid:B[id]?=some (.map (es.map bI)))(hs:fY es b nb L)(p:ρ)(ai:p.Ok)(hw:p.wt<1000000000000)(fst args:List AV)(MT:fst++args=[eL id b,p.av]):
  lD u B (.fn (.func 274) fst []) args (.n (jo L p)):=by
 intro ext T;have χ:id<B.length:=by
  rcases cX id B.length with h|h
  ·exact h
  ·rw[hU h]at hid;cases hid
 have eO:id<(B++ext).length:=by simp;omega
 have jh:(B++ext)[id]?=some (.map (es.map bI)):=by rw[eo χ];exact hid
 have sQ:Fix B.length (.fn (.func 275) [eL id b] []):=by
  intro k bb hk;have:id<k:=by omega
  simp[exp,bn,Fn.below,eL,this]
 have du:=ahO p;have acC:η.da p.ix:=by
  have:∀l:List η,(∀x∈l,x.gz)->η.da l:=by
   intro l;induction l with
   |nil=>intro _;trivial
   |cons a l ih=>exact fun h=>⟨(h a (by simp)).1,ih fun x hx=>h x (by simp[hx])⟩
  exact this _ ai.2.2
 have Tw:=f177 (u:=u) (B:=B) (F:=η.err (iT L) 1) sQ p.c ai.2.1 p.ix acC (by omega) (fun x hx=>f275 hid hs x (ai.2.2 x hx).1 (ai.2.2 x hx).2 (by have:=η.KZ hx;simp only[ρ.wt]at hw;omega) [eL id b] [x.av] rfl) ext [];have ME:p.av= .agg [.str p.name,.list p.c (η.ψ p.ix)]:=by simp[ρ.av,η.eM]
 refine sD (g:=G2) rfl rfl rfl ?_;rw[MT];simp only[de,aA,aP,ρ.jJ _ _ _ ai];rw[ME];simp only[eL,exp,bn,eO,if_true,G2,RA];simp only[eL]at Tw;generalize B++ext=BB at*;unfold jo;generalize first (η.err (iT L) 1) p.ix=pe at*
 have vA:∀q:Prop,(2:Int)<(p.ix.length:Int)↔2<p.ix.length:=fun _=>by omega
 rcases BD hs p.name with⟨h1,h2⟩|⟨w,d,h1,rR,h2⟩
 ·simp[jh,isKey,h1,h2,rh.zm]
 ·rw[h2];rcases rR with rfl|rfl|rfl
  ·by_cases Uz:2<p.ix.length
   ·have:(2:Int)<(p.ix.length:Int):=by omega
    simp[jh,isKey,h1,jZ,rh.zm,ri,Uz,this]
   ·have:¬(2:Int)<(p.ix.length:Int):=by omega
    simp[jh,isKey,h1,jZ,rh.zm,ri,Uz,this,Tw]
  ·simp[jh,isKey,h1,jZ,rh.zm]
  ·simp[jh,isKey,h1,jZ,rh.zm]
theorem f191{B:List θ}{id:Nat}{es:List cY}{b nb:Int}{L:b_}(hid:B[id]?=some (.map (es.map bI)))(hs:fY es b nb L)(s:List Nat)(qE:cV s):lD u B (.fn (.func 191) [] []) [eL id b,.str s] (.n (fC L s)):=by
 intro ext T;have χ:id<B.length:=by
  rcases cX id B.length with h|h
  ·exact h
  ·rw[hU h]at hid;cases hid
 have eO:id<(B++ext).length:=by simp;omega
 have jh:(B++ext)[id]?=some (.map (es.map bI)):=by rw[eo χ];exact hid
 have rr:=fun m=>f113 (u:=u) s qE m;refine eN (g:=Gx) rfl rfl rfl ?_;simp only[eL,aA,aP,exp,bn,eO,if_true,Gx,Q_];generalize B++ext=BB at*;unfold fC;cases hn:c_ s with
 |false=>rw[hn]at rr;simp[rr]
 |true=>
  rw[hn]at rr
  rcases BD hs s with⟨h1,h2⟩|⟨w,d,h1,rR,h2⟩
  ·simp[jh,isKey,h1,h2,rr,dp,kL]
  ·rw[h2];rcases rR with rfl|rfl|rfl<;>simp[jh,isKey,h1,rr,dp,kL,jZ]
theorem f273{B:List θ}{fv:AV}{F:ρ->Int}(hf:Fix B.length fv)(c:ξ)(hc:br c)(l:List ρ)(hl:∀p∈l,p.Ok)(hlen:l.length<1000000000000)
  (h:∀x∈l,lD u B fv [x.av] (.n (F x))):lD u B (.fn (.func 273) [] []) [.list c (l.map ρ.av),fv] (.n (first F l)):=by
 intro ext T;refine eN (g:=G1) rfl rfl rfl ?_;simp only[aA,aP,WW hc hl,hf _ false (show B.length<=(B++ext).length by simp),G1,Rz];let K:St->Prop:=fun st=>st.e 1=fv/\st.mem= {ε:=B++ext,ζ:=[]};refine Θ (fun st=>K st/\st.e 0= .list c (l.map ρ.av)) (by simp[K]) fun s1 ⟨⟨h1,h2⟩,h3⟩=>?_;refine bP (fun st=>K st/\first F l=0) ?_ fun s2 ⟨⟨h1,h2⟩,h3⟩=>by simp[h1,h2,h3]
 let I:Nat->St->Prop:=fun i st=>K st/\st.e 8= .list c (l.map ρ.av)/\st.e 9= .n l.length/\st.e 10= .n i/\∀j (hj:j<l.length),j<i->F l[j]=0;refine Θ (I 0) (by simp[I,K,h1,h2,h3]) fun s4 hI=>?_;refine κ.block (κ.loop (I:=I) l.length hI fun i st hi Ω=>?_);obtain⟨⟨h1,h2⟩,q1,q2,q3,q4⟩:=Ω;rcases cX i l.length with χ|du
 ·have hw:bC .i64 ((i:Int)+1)=(i:Int)+1:=wrap_i64 (by omega) (by omega);have hx:=h _ (df χ) ext [];simp only[ρ.av]at hx;by_cases hz:F l[i]=0
  ·left;refine⟨χ,?_⟩;rw[hz]at hx;have q5:=Ch (P:=fun j=>∀hj:j<l.length,F l[j]=0) (n:=l.length) (fun j a b c=>q4 j c b) (fun _=>hz);simp[I,K,IB,h1,h2,q1,q2,q3,χ,ρ.av,hx,hw];exact fun j hj oO=>q5 j hj oO hj
  ·right;have rJ:=LM χ q4 hz;rw[rJ];have e1:=bne_true hz;simp[K,IB,h1,h2,q1,q2,q3,χ,ρ.av,hx,e1]
 ·right;have:i=l.length:=by omega
  subst this;have hz:=F0 (f:=F) fun j hj=>q4 j hj hj;simp[K,IB,h1,h2,q1,q2,q3,hz]
theorem f272(g:Int)(hg:1<=g/\g<=12)(m:Mem):kf u 272 [.n g] m=some (.n (fL g),m):=by
 refine eN (g:=AP) rfl rfl rfl ?_;by_cases h1:g=12
 ·subst h1;simp[AP,Fq,exp,fL]
 by_cases h2:9<=g
 ·have:¬g<=8:=by omega
  have:g<=11:=by omega
  simp[AP,Fq,exp,fL,gi h1, *]
 ·have:g<=8:=by omega
  simp[AP,Fq,exp,fL,gi h1, *]
def zk(q:φ->Bool)(l:List φ):Int:=match l.findIdx? q with
 |none=> -1
 |some i=>i
theorem f66{B:List θ}{fv:AV}{q:φ->Bool}(hf:Fix B.length fv)(c:ξ)(hc:br c)(l:List φ)(hl:∀p∈l,p.Ok)(hlen:l.length<1000000000000)
  (h:∀x∈l,lD u B fv [x.av] (.bool (q x))):lD u B (.fn (.func 66) [] []) [.list c (l.map φ.av),fv] (.n (zk q l)):=by
 intro ext T;refine eN (g:=Hj) rfl rfl rfl ?_;simp only[aA,aP,LI hc hl,hf _ false (show B.length<=(B++ext).length by simp),Hj,RQ];let K:St->Prop:=fun st=>st.e 0= .list c (l.map φ.av)/\st.e 1=fv/\st.mem= {ε:=B++ext,ζ:=[]};refine Θ (K) (by simp[K]) fun s1 ⟨h1,h2,h3⟩=>?_;refine bP (fun st=>K st/\zk q l= -1) ?_ fun s2 ⟨⟨h1,h2,h3⟩,h4⟩=>by simp[h3,h4]
 let I:Nat->St->Prop:=fun i st=>K st/\st.e 7= .n l.length/\st.e 8= .n i/\∀j (hj:j<l.length),j<i->q l[j]=false;refine Θ (I 0) (by simp[I,K,h1,h2,h3]) fun s4 hI=>?_;refine κ.block (κ.loop (I:=I) l.length hI fun i st hi Ω=>?_);obtain⟨⟨h1,h2,h3⟩,q1,q2,q4⟩:=Ω;rcases cX i l.length with χ|du
 ·have hw:bC .i64 ((i:Int)+1)=(i:Int)+1:=wrap_i64 (by omega) (by omega);have hx:=h _ (df χ) ext [];simp only[φ.av]at hx;cases hz:q l[i]with
  |false=>
   left
   refine⟨χ,?_⟩;rw[hz]at hx;have q5:=Ch (P:=fun j=>∀hj:j<l.length,q l[j]=false) (n:=l.length) (fun j a b c=>q4 j c b) (fun _=>hz);simp[I,K,IC,h1,h2,h3,q1,q2,χ,φ.av,hx,hw];exact fun j hj oO=>q5 j hj oO hj
  |true=>
   right
   rw[hz]at hx;have hi:zk q l=i:=by
    have:l.findIdx? q=some i:=by rw[tK];exact⟨χ,hz,fun j hj=>by simp[q4 j (by omega) hj]⟩
    simp[zk,this]
   simp[K,IC,h1,h2,h3,q1,q2,χ,φ.av,hx,hi]
 ·right;have:i=l.length:=by omega
  subst this;have hi:zk q l= -1:=by
   have:l.findIdx? q=none:=by rw[wv];intro x hx;obtain⟨j,hj,rfl⟩:=List.getElem_of_mem hx;exact q4 j hj hj
   simp[zk,this]
  simp[K,IC,h1,h2,h3,q1,q2,hi]
theorem f189{B:List θ}{fv:AV}{q:φ->Bool}(hf:Fix B.length fv)(c:ξ)(hc:br c)(l:List φ)(hl:∀p∈l,p.Ok)(hlen:l.length<1000000000000)
  (h:∀x∈l,lD u B fv [x.av] (.bool (q x))):lD u B (.fn (.func 189) [] []) [.list c (l.map φ.av),fv] (.bool (l.any q)):=by
 intro ext T;have hx:=f66 (u:=u) hf c hc l hl hlen h ext [];refine eN (g:=Gv) rfl rfl rfl ?_;simp only[aA,aP,LI hc hl,hf _ false (show B.length<=(B++ext).length by simp),Gv,Q7];unfold zk at hx;cases A4:l.findIdx? q with
 |none=>
  rw[A4]at hx
  have ha:l.any q=false:=by rw[wv]at A4;rw[List.any_eq_false];intro x hx;simp[A4 x hx]
  rw[ha];simp[hx]
 |some i=>
  rw[A4]at hx
  have ha:l.any q=true:=by rw[tK]at A4;obtain⟨h1,h2,_⟩:=A4;rw[List.any_eq_true];exact⟨_,df h1,h2⟩
  rw[ha];have:(0:Int)<=(i:Int):=by omega
  simp[hx,this]
theorem f276{B:List θ}{n:Nat}(x:δ)(hn:B[n]?=some (.cells x.cells))(p:φ)(hp:p.Ok):lD u B (.fn (.func 276) [] [.μ n 0]) [p.av] (.bool (p.name==x.name)):=by
 intro ext T;have χ:n<B.length:=by
  rcases cX n B.length with h|h
  ·exact h
  ·rw[hU h]at hn;cases hn
 have eO:n<(B++ext).length:=by simp;omega
 have gF:(B++ext)[n]?=some (.cells x.cells):=by rw[eo χ];exact hn
 refine sD (g:=G4) rfl rfl rfl ?_;simp only[bG,cy,aA,aP,φ.jJ _ _ _ hp];simp only[exp,eO,if_true,G4,RC];have k2:=oz x;have kl:=δ.mw x;have hb:(p.name==x.name)=decide (p.name=x.name):=by cases h:p.name==x.name<;>simp_all
 simp[φ.av,gF,k2,kl,hb]
theorem f190{B:List θ}{n:Nat}(nm:List Nat)(r:List AV)(hn:B[n]?=some (.cells (.str nm::r)))(p:φ)(hp:p.Ok):lD u B (.fn (.func 190) [] [.μ n 0]) [p.av] (.bool (p.name==nm)):=by
 intro ext T;have χ:n<B.length:=by
  rcases cX n B.length with h|h
  ·exact h
  ·rw[hU h]at hn;cases hn
 have eO:n<(B++ext).length:=by simp;omega
 have gF:(B++ext)[n]?=some (.cells (.str nm::r)):=by rw[eo χ];exact hn
 refine sD (g:=Gw) rfl rfl rfl ?_;simp only[bG,cy,aA,aP,φ.jJ _ _ _ hp];simp only[exp,eO,if_true,Gw,Q9];have hb:(p.name==nm)=decide (p.name=nm):=by cases h:p.name==nm<;>simp_all
 simp[φ.av,gF,hb]
def _root_.Go.Δ.δ.gate:δ->Int
 | .mk _ g _ _ _ _ _ _ _ _ _=>g
def _root_.Go.Δ.δ.cp:δ->ξ
 | .mk _ _ _ c _ _ _ _ _ _ _=>c
def _root_.Go.Δ.δ.pl:δ->List ρ
 | .mk _ _ _ _ l _ _ _ _ _ _=>l
def _root_.Go.Δ.δ.size:δ->η
 | .mk _ _ _ _ _ x _ _ _ _ _=>x
def _root_.Go.Δ.δ.to:δ->η
 | .mk _ _ _ _ _ _ x _ _ _ _=>x
theorem rk(x:δ):x.cells.tail.take 1=[.n x.gate]:=by cases x;rfl
theorem rm(x:δ):(x.cells.drop 3).take 1=[.list x.cp (x.pl.map ρ.av)]:=by cases x;rfl
theorem qi(x:δ):(x.cells.drop 4).take 4=x.size.four:=by obtain⟨k,g,nm,cp,pl,⟨k1,n1,s1,c1,l1⟩,⟨k2,n2,s2,c2,l2⟩,cb,body,ce,els⟩:=x;rfl
theorem rn(x:δ):(x.cells.drop 8).take 4=x.to.four:=by obtain⟨k,g,nm,cp,pl,⟨k1,n1,s1,c1,l1⟩,⟨k2,n2,s2,c2,l2⟩,cb,body,ce,els⟩:=x;rfl
theorem qW(ps:List φ)(own:Nat)(L:b_)(x:δ):d_ ps own L x=
  if x.kind=1 then(if x.gate<1\/12<x.gate then 3 else if x.pl.length≠fL x.gate then 2 else first (jo L) x.pl)
  else if x.kind=2\/x.kind=4 then(if fC L x.name≠0 then fC L x.name else x.size.err (iT L) 1)
  else if x.kind=8 then(if fC L x.name≠0 then fC L x.name else if x.size.err (iT L) 1≠0 then x.size.err (iT L) 1 else x.to.err (iT L) 1)
  else if x.kind=3 then(match L x.name with
   | .j_ true=>0
   | .j_ false=>7
   |_=>1)
  else if x.kind=5 then(match x.pl with
   |[p]=>if jo L p≠0 then jo L p else if L x.name= .bit then 0 else fC L x.name
   |_=>2)
  else if x.kind=6 then(match x.pl with
   |[p]=>jo L p
   |_=>2)
  else if x.kind=7 then(if L x.name= .bit then 0 else 1)
  else if x.kind=9 then(match p8 ps x.name with
   |none=>1
   |some n=>if own<=n then 15 else match ps[n]? with
    |some q=>if x.pl.length≠q.aq.length then 2 else first (jo L) x.pl
    |none=>1)
  else if x.kind=10\/x.kind=11 then 0 else 3:=by cases x;rfl
def _root_.Go.Δ.AC.snd:AC->AC
 | .seq _ b=>b
 |_=> .skip
def End(g:AF)(BB:List θ)(v:AV)(r:Ex×St):Prop:=(∀i,r.1≠ .exit i)/\(∃bs,r.2.mem= {ε:=BB++bs,ζ:=[]})/\∃l,cH r.2 g.results=some l/\aK r.2.mem.ε BB.length 8 (cJ l)=v
section
variable{BB:List θ}{ck id:Nat}{dH:ξ}{ps:List φ}{own:Nat}{b nb:Int}{es:List cY}{L:b_}{x:δ}{s1:St}
variable(h1:s1.e 0= .μ ck 0)(h2:s1.e 4= .aj 4 0 0)(h3:s1.q 4=some (0,.cells [.map id,.n b]))(h4:s1.e 5= .μ BB.length 0)(h5:s1.mem= {ε:=BB++[.cells x.cells],ζ:=[]})
 (hid:(BB++[.cells x.cells])[id]?=some (.map (es.map bI))) (dz:(BB++[.cells x.cells])[ck]?=some (.cells [.list dH (ps.map φ.av),.n own,.n nb])) (ek:(BB++[.cells x.cells])[BB.length]?=some (.cells x.cells)) (hs:fY es b nb L)
 (i_:∀T,kf u 191 [.agg [.map id,.n b],.str x.name] {ε:=BB++[.cells x.cells],ζ:=T}=some (.n (fC L x.name),{ε:=BB++[.cells x.cells],ζ:=T}))
 (my:∀T,kf u 275 [.agg [.map id,.n b],.agg x.size.four] {ε:=BB++[.cells x.cells],ζ:=T}=some (.n (x.size.err (iT L) 1),{ε:=BB++[.cells x.cells],ζ:=T}))
 (oC:∀T,kf u 275 [.agg [.map id,.n b],.agg x.to.four] {ε:=BB++[.cells x.cells],ζ:=T}=some (.n (x.to.err (iT L) 1),{ε:=BB++[.cells x.cells],ζ:=T}))
 (pF:∀p∈x.pl,∀T,kf u 274 [.agg [.map id,.n b],p.av] {ε:=BB++[.cells x.cells],ζ:=T}=some (.n (jo L p),{ε:=BB++[.cells x.cells],ζ:=T}))
 (pE:∀T,kf u 273 [.list x.cp (x.pl.map ρ.av),.fn (.func 274) [.agg [.map id,.n b]] []] {ε:=BB++[.cells x.cells],ζ:=T}=some (.n (first (jo L) x.pl),{ε:=BB++[.cells x.cells],ζ:=T}))
 (mz:∀T,kf u 66 [.list dH (ps.map φ.av),.fn (.func 276) [] [.μ BB.length 0]] {ε:=BB++[.cells x.cells],ζ:=T}=some (.n (Ej ps x.name),{ε:=BB++[.cells x.cells],ζ:=T}))
 (q0:x.cells.take 1=[.n x.kind]) (q1:x.cells.tail.take 1=[.n x.gate]) (q2:(x.cells.drop 2).take 1=[.str x.name]) (q3:(x.cells.drop 3).take 1=[.list x.cp (x.pl.map ρ.av)]) (q4:(x.cells.drop 4).take 4=x.size.four) (q8:(x.cells.drop 8).take 4=x.to.four) (kl:x.cells.length=14)
include h1 h2 h3 h4 h5 hid dz ek hs i_ my oC pF pE mz q0 q1 q2 q3 q4 q8 kl
theorem ajc(hk:x.kind=1):κ (C u).gl (ah (C u)) c232.snd s1 (End dC BB (.n (d_ ps own L x))):=by
 obtain⟨v,hv⟩:∃v,v=d_ ps own L x:=⟨_,rfl⟩;rw[<-hv];rw[qW]at hv;simp only[hk,if_true]at hv;rw[hk]at q0;generalize first (jo L) x.pl=pe at*
 by_cases hg:x.gate<1\/12<x.gate
 ·rw[if_pos hg]at hv;rcases hg with hg|hg
  ·simp[c232,AC.snd,End,dC,h1,h2,h3,h4,h5,ek,kl,q0,hv,q1,hg]
  ·have:¬x.gate<1:=by omega
   simp[c232,AC.snd,End,dC,h1,h2,h3,h4,h5,ek,kl,q0,hv,q1,hg,this]
 ·rw[if_neg hg]at hv;have g1:¬x.gate<1:=by omega
  have g2:¬12<x.gate:=by omega
  have SC:=fun m=>f272 (u:=u) x.gate (by omega) m;by_cases HV:x.pl.length=fL x.gate
  ·have:((x.pl.length:Int) !=(fL x.gate:Int))=false:=by simp;omega
   simp[c232,AC.snd,End,dC,h1,h2,h3,h4,h5,ek,kl,q0,hv,q1,q3,g1,g2,SC,cZ,c8,eZ,AV.gS,AV.beq,AV.kH,this,HV,pE]
  ·have:((x.pl.length:Int) !=(fL x.gate:Int))=true:=by simp;omega
   simp[c232,AC.snd,End,dC,h1,h2,h3,h4,h5,ek,kl,q0,hv,q1,q3,g1,g2,SC,cZ,c8,eZ,AV.gS,AV.beq,AV.kH,this,HV]
theorem aje(hk:x.kind=2\/x.kind=4):κ (C u).gl (ah (C u)) c232.snd s1 (End dC BB (.n (d_ ps own L x))):=by
 obtain⟨v,hv⟩:∃v,v=d_ ps own L x:=⟨_,rfl⟩;rw[<-hv];rw[qW]at hv;have pO:¬x.kind=1:=by omega
 rw[if_neg pO,if_pos hk]at hv;generalize fC L x.name=ne at*;generalize x.size.err (iT L) 1=se at*;rcases hk with hk|hk<;>rw[hk]at q0
 ·by_cases hn:ne=0
  ·subst hn;by_cases hz:se=0
   ·subst hz;simp[c232,AC.snd,End,dC,h1,h2,h3,h4,h5,ek,kl,q0,hv,q2,q4,q8,i_,my,oC]
   ·simp[c232,AC.snd,End,dC,h1,h2,h3,h4,h5,ek,kl,q0,hv,q2,q4,i_,my,bne_true hz]
  ·simp[c232,AC.snd,End,dC,h1,h2,h3,h4,h5,ek,kl,q0,hv,q2,i_,bne_true hn,hn]
 ·by_cases hn:ne=0
  ·subst hn;by_cases hz:se=0
   ·subst hz;simp[c232,AC.snd,End,dC,h1,h2,h3,h4,h5,ek,kl,q0,hv,q2,q4,q8,i_,my,oC]
   ·simp[c232,AC.snd,End,dC,h1,h2,h3,h4,h5,ek,kl,q0,hv,q2,q4,i_,my,bne_true hz]
  ·simp[c232,AC.snd,End,dC,h1,h2,h3,h4,h5,ek,kl,q0,hv,q2,i_,bne_true hn,hn]
theorem ajj(hk:x.kind=8):κ (C u).gl (ah (C u)) c232.snd s1 (End dC BB (.n (d_ ps own L x))):=by
 obtain⟨v,hv⟩:∃v,v=d_ ps own L x:=⟨_,rfl⟩;rw[<-hv];rw[qW]at hv;simp[hk]at hv;rw[hk]at q0;generalize fC L x.name=ne at*;generalize x.size.err (iT L) 1=se at*;generalize x.to.err (iT L) 1=te at*;by_cases hn:ne=0
 ·subst hn;by_cases hz:se=0
  ·subst hz;simp[c232,AC.snd,End,dC,h1,h2,h3,h4,h5,ek,kl,q0,hv,q2,q4,q8,i_,my,oC]
  ·simp[c232,AC.snd,End,dC,h1,h2,h3,h4,h5,ek,kl,q0,hv,q2,q4,i_,my,bne_true hz,hz]
 ·simp[c232,AC.snd,End,dC,h1,h2,h3,h4,h5,ek,kl,q0,hv,q2,i_,bne_true hn,hn]
theorem ajf(hk:x.kind=3):κ (C u).gl (ah (C u)) c232.snd s1 (End dC BB (.n (d_ ps own L x))):=by
 obtain⟨v,hv⟩:∃v,v=d_ ps own L x:=⟨_,rfl⟩;rw[<-hv];rw[qW]at hv;simp[hk]at hv;rw[hk]at q0;rcases BD hs x.name with⟨j1,j2⟩|⟨w,d,j1,hw,j2⟩
 ·simp[c232,AC.snd,End,dC,h1,h2,h3,h4,h5,ek,kl,q0,hv,q2,hid,isKey,j1,j2]
 ·rw[j2]at hv;rcases hw with rfl|rfl|rfl
  ·by_cases hd:d=b
   ·subst hd;simp[c232,AC.snd,End,dC,h1,h2,h3,h4,h5,ek,kl,q0,hv,q2,hid,isKey,j1,jZ,dp,kL]
   ·simp[c232,AC.snd,End,dC,h1,h2,h3,h4,h5,ek,kl,q0,hv,q2,hid,isKey,j1,jZ,dp,kL,hd]
  ·simp[c232,AC.snd,End,dC,h1,h2,h3,h4,h5,ek,kl,q0,hv,q2,hid,isKey,j1,jZ]
  ·simp[c232,AC.snd,End,dC,h1,h2,h3,h4,h5,ek,kl,q0,hv,q2,hid,isKey,j1,jZ]
theorem ajg(hk:x.kind=5):κ (C u).gl (ah (C u)) c232.snd s1 (End dC BB (.n (d_ ps own L x))):=by
 obtain⟨v,hv⟩:∃v,v=d_ ps own L x:=⟨_,rfl⟩;rw[<-hv];rw[qW]at hv;simp[hk]at hv;rw[hk]at q0;generalize dQ:x.pl=pl at*;rcases pl with _|⟨p,_|⟨q,rest⟩⟩
 ·simp[c232,AC.snd,End,dC,h1,h2,h3,h4,h5,ek,kl,q0,hv,q3]
 ·have e:=pF p (by simp);simp only[ρ.av]at e;simp at hv;by_cases hz:jo L p=0
  ·rw[hz]at e;rw[if_pos hz]at hv;rcases BD hs x.name with⟨j1,j2⟩|⟨w,d,j1,hw,j2⟩
   ·rw[j2]at hv;by_cases hn:fC L x.name=0
    ·rw[hn]at i_ hv;simp[c232,AC.snd,End,dC,h1,h2,h3,h4,h5,ek,kl,q0,hv,q2,q3,ρ.av,e,i_,hid,isKey,j1]
    ·simp[c232,AC.snd,End,dC,h1,h2,h3,h4,h5,ek,kl,q0,hv,q2,q3,ρ.av,e,i_,hid,isKey,j1,bne_true hn]
   ·by_cases hn:fC L x.name=0
    ·have:=(O3 hn).2;rw[j2]at this;rcases hw with rfl|rfl|rfl<;>simp[jZ]at this
    ·rw[j2]at hv;rcases hw with rfl|rfl|rfl<;>simp[c232,AC.snd,End,dC,h1,h2,h3,h4,h5,ek,kl,q0,hv,q2,q3,ρ.av,e,i_,hid,isKey,j1,bne_true hn,jZ]
  ·rw[if_neg hz]at hv;simp[c232,AC.snd,End,dC,h1,h2,h3,h4,h5,ek,kl,q0,hv,q3,ρ.av,e,bne_true hz]
 ·have:((rest.length:Int)+1+1 !=1)=true:=by simp;omega
  simp[c232,AC.snd,End,dC,h1,h2,h3,h4,h5,ek,kl,q0,hv,q3,this]
theorem ajh(hk:x.kind=6):κ (C u).gl (ah (C u)) c232.snd s1 (End dC BB (.n (d_ ps own L x))):=by
 obtain⟨v,hv⟩:∃v,v=d_ ps own L x:=⟨_,rfl⟩;rw[<-hv];rw[qW]at hv;simp[hk]at hv;rw[hk]at q0;generalize dQ:x.pl=pl at*;rcases pl with _|⟨p,_|⟨q,rest⟩⟩
 ·simp[c232,AC.snd,End,dC,h1,h2,h3,h4,h5,ek,kl,q0,hv,q3]
 ·have e:=pF p (by simp);simp only[ρ.av]at e;simp at hv;by_cases hz:jo L p=0
  ·rw[hz]at e hv;simp[c232,AC.snd,End,dC,h1,h2,h3,h4,h5,ek,kl,q0,hv,q3,q2,i_,ρ.av,e]
  ·simp[c232,AC.snd,End,dC,h1,h2,h3,h4,h5,ek,kl,q0,hv,q3,ρ.av,e,bne_true hz]
 ·have:((rest.length:Int)+1+1 !=1)=true:=by simp;omega
  simp[c232,AC.snd,End,dC,h1,h2,h3,h4,h5,ek,kl,q0,hv,q3,this]
theorem aji(hk:x.kind=7):κ (C u).gl (ah (C u)) c232.snd s1 (End dC BB (.n (d_ ps own L x))):=by
 obtain⟨v,hv⟩:∃v,v=d_ ps own L x:=⟨_,rfl⟩;rw[<-hv];rw[qW]at hv;simp[hk]at hv;rw[hk]at q0;rcases BD hs x.name with⟨j1,j2⟩|⟨w,d,j1,hw,j2⟩
 ·simp[c232,AC.snd,End,dC,h1,h2,h3,h4,h5,ek,kl,q0,hv,q2,hid,isKey,j1,j2]
 ·rw[j2]at hv;rcases hw with rfl|rfl|rfl<;>simp[c232,AC.snd,End,dC,h1,h2,h3,h4,h5,ek,kl,q0,hv,q2,hid,isKey,j1,jZ]
theorem ajk(hk:x.kind=9):κ (C u).gl (ah (C u)) c232.snd s1 (End dC BB (.n (d_ ps own L x))):=by
 obtain⟨v,hv⟩:∃v,v=d_ ps own L x:=⟨_,rfl⟩;rw[<-hv];rw[qW]at hv;simp[hk]at hv;rw[hk]at q0;rcases ah2 ps x.name with⟨j1,j2⟩|⟨n,q,j1,j2,j3,j4⟩
 ·rw[j1]at mz;simp[c232,AC.snd,End,dC,h1,h2,h3,h4,h5,ek,kl,q0,hv,q2,dz,mz,j2]
 ·rw[j1]at mz;have uj:¬(n:Int)<0:=by omega
  by_cases ho:own<=n
  ·have rN:(own:Int)<=(n:Int):=by omega
   simp[c232,AC.snd,End,dC,h1,h2,h3,h4,h5,ek,kl,q0,hv,q2,dz,mz,j2,uj,ho,rN]
  ·have rN:¬(own:Int)<=(n:Int):=by omega
   have Vx:ps[n]=q:=by rw[dN j4]at j3;simpa using j3
   by_cases UI:x.pl.length=q.aq.length
   ·have:((x.pl.length:Int) !=(q.aq.length:Int))=false:=by simp;omega
    simp[c232,AC.snd,End,dC,h1,h2,h3,h4,h5,ek,kl,q0,hv,q2,q3,dz,mz,j2,uj,ho,rN,j3,Vx,j4,φ.av,this,UI,pE]
   ·have:((x.pl.length:Int) !=(q.aq.length:Int))=true:=by simp;omega
    simp[c232,AC.snd,End,dC,h1,h2,h3,h4,h5,ek,kl,q0,hv,q2,q3,dz,mz,j2,uj,ho,rN,j3,Vx,j4,φ.av,this,UI]
theorem ajd(hk:x.kind=10\/x.kind=11):κ (C u).gl (ah (C u)) c232.snd s1 (End dC BB (.n (d_ ps own L x))):=by
 obtain⟨v,hv⟩:∃v,v=d_ ps own L x:=⟨_,rfl⟩;rw[<-hv];rw[qW]at hv;rcases hk with hk|hk
 ·rw[hk]at q0;simp[hk]at hv;simp[c232,AC.snd,End,dC,h1,h2,h3,h4,h5,ek,kl,q0,hv]
 ·rw[hk]at q0;simp[hk]at hv;simp[c232,AC.snd,End,dC,h1,h2,h3,h4,h5,ek,kl,q0,hv]
theorem ajb(hk:¬(x.kind=1\/x.kind=2\/x.kind=3\/x.kind=4\/x.kind=5\/x.kind=6\/x.kind=7\/x.kind=8\/x.kind=9\/x.kind=10\/x.kind=11)):κ (C u).gl (ah (C u)) c232.snd s1 (End dC BB (.n (d_ ps own L x))):=by obtain⟨v,hv⟩:∃v,v=d_ ps own L x:=⟨_,rfl⟩;rw[<-hv];rw[qW]at hv;simp only[not_or]at hk;obtain⟨pO,wZ,rK,Hp,pP,Nd,Nf,Ng,Nh,UC,ui⟩:=hk;simp[pO,wZ,Hp,rK,pP,Nd,Nf,Ng,Nh,UC,ui]at hv;simp[c232,AC.snd,End,dC,h1,h2,h3,h4,h5,ek,kl,q0,hv,gi pO,gi wZ,gi Hp,gi rK,gi pP,gi Nd,gi Nf,gi Ng,gi Nh,gi UC,gi ui]
end
theorem f232{B:List θ}{ck id:Nat}(dH:ξ)(mZ:br dH)(ps:List φ)(cT:∀x∈ps,x.Ok)(dQ:ps.length<1000000000000)(own:Nat)(b nb:Int)(es:List cY)(L:b_)
  (dz:B[ck]?=some (.cells [.list dH (ps.map φ.av),.n own,.n nb])) (hid:B[id]?=some (.map (es.map bI))) (hs:fY es b nb L) (x:δ) (hx:x.Ok) (hxw:x.wt<1000000000000) (ext:List θ) (T:List Nat):
  kf u 232 [.μ ck 0,eL id b,x.av] {ε:=B++ext,ζ:=T}=some (.n (d_ ps own L x),{ε:=B++ext,ζ:=T}):=by
 have χ:id<B.length:=by
  rcases cX id B.length with h|h
  ·exact h
  ·rw[hU h]at hid;cases hid
 have acp:ck<B.length:=by
  rcases cX ck B.length with h|h
  ·exact h
  ·rw[hU h]at dz;cases dz
 have jh:((B++ext)++[θ.cells x.cells])[id]?=some (.map (es.map bI)):=by rw[eo (by simp;omega),eo χ];exact hid
 have rH:((B++ext)++[θ.cells x.cells])[ck]?=some (.cells [.list dH (ps.map φ.av),.n own,.n nb]):=by rw[eo (by simp;omega),eo acp];exact dz
 have gr:((B++ext)++[θ.cells x.cells])[(B++ext).length]?=some (.cells x.cells):=by simp
 have eO:id<(B++ext).length:=by simp;omega
 have acq:ck<(B++ext).length:=by simp;omega
 have q0:=cell0 x;have q2:=oz x;have kl:=δ.mw x;have yZ:x.cells.map ν=x.cells:=by rw[<-fM,δ.zx]
 generalize hBB:B++ext=BB at*;refine eN (g:=dC) rfl rfl rfl ?_;have eJ:[AV.μ ck 0,eL id b,x.av].map (exp BB.length false)=[.μ ck 0,eL id b,x.av]:=by simp only[aA,aP,δ.jJ _ _ _ hx,eL,exp,bn,eO,acq,if_true]
 simp only[eJ,dC,c232];have i_:=fun m'=>f191 (u:=u) jh hs x.name (by cases x;exact hx.1) [] m';simp only[de]at i_;have eK:∀M:Mem,M.ν=ν:=fun _=>rfl;let K:St->Prop:=fun st=>st.e 0= .μ ck 0/\st.e 4= .aj 4 0 0/\st.q 4=some (0,.cells [.map id,.n b])/\st.e 5= .μ BB.length 0/\st.mem= {ε:=BB++[.cells x.cells],ζ:=[]};refine Θ (K) (by simp[K,eL,δ.av,bL,kl,Mem.push,eK,ν,yZ]) fun s1 ⟨h1,h2,h3,h4,h5⟩=>?_;have Ω:x.size.gz/\x.to.gz/\br x.cp/\(∀p∈x.pl,p.Ok)/\fe x.pl+x.size.cnt+x.to.cnt<1000000000000:=by obtain⟨k,g,nm,cp,pl,size,to,cb,body,ce,els⟩:=x;simp only[δ.Ok]at hx;simp only[δ.wt]at hxw;exact⟨hx.2.2.2.1,hx.2.2.2.2.1,hx.2.1,hx.2.2.1,by simp only[δ.pl,δ.size,δ.to];omega⟩
 obtain⟨o1,o2,o3,o4,o5⟩:=Ω;have ND:=ahN x.pl;have my:∀T,kf u 275 [.agg [.map id,.n b],.agg x.size.four] {ε:=BB++[.cells x.cells],ζ:=T}=some (.n (x.size.err (iT L) 1),{ε:=BB++[.cells x.cells],ζ:=T}):=fun T=>by have:=f275 (u:=u) jh hs x.size o1.1 o1.2 (by omega) [] [eL id b,x.size.av] rfl [] T;rwa[de,η.iM]at this
 have oC:∀T,kf u 275 [.agg [.map id,.n b],.agg x.to.four] {ε:=BB++[.cells x.cells],ζ:=T}=some (.n (x.to.err (iT L) 1),{ε:=BB++[.cells x.cells],ζ:=T}):=fun T=>by have:=f275 (u:=u) jh hs x.to o2.1 o2.2 (by omega) [] [eL id b,x.to.av] rfl [] T;rwa[de,η.iM]at this
 have pF:∀p∈x.pl,∀T,kf u 274 [.agg [.map id,.n b],p.av] {ε:=BB++[.cells x.cells],ζ:=T}=some (.n (jo L p),{ε:=BB++[.cells x.cells],ζ:=T}):=fun p hp T=>by have:=f274 (u:=u) jh hs p (o4 p hp) (by have:=ρ.uU hp;omega) [] [eL id b,p.av] rfl [] T;rwa[de]at this
 have akY:id<(BB++[θ.cells x.cells]).length:=by simp;omega
 have sQ:Fix (BB++[θ.cells x.cells]).length (.fn (.func 274) [eL id b] []):=by
  intro k bb hk;have:id<k:=by omega
  simp[exp,bn,Fn.below,eL,this]
 have pE:∀T,kf u 273 [.list x.cp (x.pl.map ρ.av),.fn (.func 274) [.agg [.map id,.n b]] []] {ε:=BB++[.cells x.cells],ζ:=T}=some (.n (first (jo L) x.pl),{ε:=BB++[.cells x.cells],ζ:=T}):=fun T=>by have:=f273 (u:=u) (F:=jo L) sQ x.cp o3 x.pl o4 (by omega) (fun p hp=>f274 (u:=u) jh hs p (o4 p hp) (by have:=ρ.uU hp;omega) [eL id b] [p.av] rfl) [] T;rwa[de]at this
 have ab3:Fix (BB++[θ.cells x.cells]).length (.fn (.func 276) [] [.μ BB.length 0]):=by
  intro k bb hk;have:BB.length<k:=by simp at hk;omega
  simp[exp,bn,Fn.below,this]
 have mz:∀T,kf u 66 [.list dH (ps.map φ.av),.fn (.func 276) [] [.μ BB.length 0]] {ε:=BB++[.cells x.cells],ζ:=T}=some (.n (Ej ps x.name),{ε:=BB++[.cells x.cells],ζ:=T}):=fun T=>by have:=f66 (u:=u) (q:=fun p=>p.name==x.name) ab3 dH mZ ps cT dQ (fun p hp=>f276 x gr p (cT p hp)) [] T;rwa[de]at this
 have q1:=rk x;have q3:=rm x;have q4:=qi x;have q8:=rn x;show κ (C u).gl (ah (C u)) c232.snd s1 (End dC BB (.n (d_ ps own L x)));by_cases j1:x.kind=1
 ·exact ajc h1 h2 h3 h4 h5 jh rH gr hs i_ my oC pF pE mz q0 q1 q2 q3 q4 q8 kl j1
 by_cases Oj:x.kind=2\/x.kind=4
 ·exact aje h1 h2 h3 h4 h5 jh rH gr hs i_ my oC pF pE mz q0 q1 q2 q3 q4 q8 kl Oj
 by_cases j8:x.kind=8
 ·exact ajj h1 h2 h3 h4 h5 jh rH gr hs i_ my oC pF pE mz q0 q1 q2 q3 q4 q8 kl j8
 by_cases j3:x.kind=3
 ·exact ajf h1 h2 h3 h4 h5 jh rH gr hs i_ my oC pF pE mz q0 q1 q2 q3 q4 q8 kl j3
 by_cases j5:x.kind=5
 ·exact ajg h1 h2 h3 h4 h5 jh rH gr hs i_ my oC pF pE mz q0 q1 q2 q3 q4 q8 kl j5
 by_cases j6:x.kind=6
 ·exact ajh h1 h2 h3 h4 h5 jh rH gr hs i_ my oC pF pE mz q0 q1 q2 q3 q4 q8 kl j6
 by_cases j7:x.kind=7
 ·exact aji h1 h2 h3 h4 h5 jh rH gr hs i_ my oC pF pE mz q0 q1 q2 q3 q4 q8 kl j7
 by_cases j9:x.kind=9
 ·exact ajk h1 h2 h3 h4 h5 jh rH gr hs i_ my oC pF pE mz q0 q1 q2 q3 q4 q8 kl j9
 by_cases Oi:x.kind=10\/x.kind=11
 ·exact ajd h1 h2 h3 h4 h5 jh rH gr hs i_ my oC pF pE mz q0 q1 q2 q3 q4 q8 kl Oi
 exact ajb h1 h2 h3 h4 h5 jh rH gr hs i_ my oC pF pE mz q0 q1 q2 q3 q4 q8 kl (by omega)
end Go.Δ.Tz
