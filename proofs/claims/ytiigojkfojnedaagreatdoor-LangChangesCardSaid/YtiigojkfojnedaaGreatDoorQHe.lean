import Derived.Test.YtiigojkfojnedaaGreatDoorQHc
set_option linter.unusedVariables false
set_option linter.unusedSimpArgs false
set_option linter.unusedSectionVars false
set_option maxRecDepth 100000
set_option maxHeartbeats 8000000
open List renaming map_map->c6,map_congr_left->dt,map_cons->ay,map_nil->aA,map_append->qn,getElem_mem->cL,take_of_length_le->dY,take_length->mL,nil_append->cI,append_nil->dW,take_succ_eq_append_getElem->wZ,foldl_append->ahA,append_assoc->cj,cons_append->eO
open Go.IntKind renaming wrap->a_
open Nat renaming lt_or_ge->bP,zero_add->jz
namespace Go.ah.Tz
open Go.ah
variable{u:Nat}
attribute [local simp] exec ed dP eX aC dQ ft eL ζ gg τ fW gy gH gI AV.cells newVar gE rd wr fK single eV bY ek dF μ aY RV.get aV dB iE
def _root_.Go.ah.δ.cb:δ->χ
 | .mk _ _ _ _ _ _ _ c _ _ _=>c
def _root_.Go.ah.δ.ce:δ->χ
 | .mk _ _ _ _ _ _ _ _ _ c _=>c
def _root_.Go.ah.δ.blocks(x:δ):List (χ×List δ):=if de x.kind then[(x.cb,x.body),(x.ce,x.aG)]else if dh x.kind then[(x.cb,x.body)]else[]
def eT(p:χ×List δ):AV:= .list p.1 (δ.Δ p.2)
def g_(x:δ):AV:= .list (if dh x.kind then .any else .nil) (x.blocks.map eT)
theorem Γ.vH(bs:List κ)(n:Nat)(p:Γ)(h:p.Ok):ai bs n 8 p.av=p.av:=by
 have:(p.ix.map η.av).map (ai bs n 8)=p.ix.map η.av:=by rw[c6];exact dt fun x hx=>η.vH bs n 8 x (h.2.2 x hx).1
 simp only[Γ.av,BD,ay,aA,zo,fb h.2.1,this,vI]
theorem η.PX(bs:List κ)(n:Nat)(x:η)(h:x.Ok):x.four.map (ai bs n 8)=x.four:=by have:=η.vH bs n 8 x h;rw[η.jA,BD]at this;simpa using this
theorem δ.Ez(bs:List κ)(n:Nat)(x:δ):x.Ok->x.cells.map (ai bs n 8)=x.cells:=by
 refine δ.jY (Q:=fun x=>x.Ok->x.cells.map (ai bs n 8)=x.cells) (fun kk g nm cp pl size to cb body ce aG h1 h2 h=>?_) x;simp only[δ.Ok]at h;obtain⟨-,k1,k2,k3,k4,k5,k6,k7,k8⟩:=h;have e1:(pl.map Γ.av).map (ai bs n 8)=pl.map Γ.av:=by rw[c6];exact dt fun x hx=>Γ.vH bs n x (k2 x hx)
 have go:∀l:List δ,δ.c7 l->(∀y∈l,y.Ok->y.cells.map (ai bs n 8)=y.cells)->(δ.Δ l).map (ai bs n 8)=δ.Δ l:=by intro l hl hy;rw[δ.eo,c6];refine dt fun y hm=>?_;simp only[Function.comp,δ.av,BD,hy y hm (δ.gO hl y hm)]
 simp only[δ.cells,qn,ay,aA,zo,fb k1,fb k5,fb k7,e1,η.PX _ _ _ k3.1,η.PX _ _ _ k4.1,go body k6 h1,go aG k8 h2,dB,vI]
theorem JC(bs:List κ)(n:Nat){c:χ}(hc:aJ c){l:List δ}(h:δ.c7 l):ai bs n 8 (.list c (δ.Δ l))= .list c (δ.Δ l):=by
 have:(δ.Δ l).map (ai bs n 8)=δ.Δ l:=by rw[δ.eo,c6];exact dt fun y hy=>by simp only[Function.comp,δ.av,BD,δ.Ez bs n y (δ.gO h y hy)]
 rw[zo,fb hc,this]
theorem δ.D4{x:δ}(h:x.Ok):aJ x.cb/\aJ x.ce:=by obtain⟨k,g,nm,cp,pl,size,to,cb,body,ce,aG⟩:=x;simp only[δ.Ok]at h;exact⟨h.2.2.2.2.2.1,h.2.2.2.2.2.2.2.1⟩
theorem f108(x:δ)(hx:x.Ok)(m:Mem):kf u 108 [x.av] m=some (g_ x,m):=by
 have ib:=δ.CV hx;have tJ:=δ.D4 hx;refine bD (g:=EE) rfl rfl rfl ?_;simp only[ay,aA,δ.ep _ _ _ hx,EE,NP];obtain⟨k,g,nm,cp,pl,⟨k1,n1,s1,c1,l1⟩,⟨k2,n2,s2,c2,l2⟩,cb,body,ce,aG⟩:=x;simp only[δ.body,δ.aG,δ.cb,δ.ce]at ib tJ;have z1:∀bs n,ai bs n 8 (.list .full [.list cb (δ.Δ body)])= .list .any [.list cb (δ.Δ body)]:=fun bs n=>by rw[zo];simp only[ay,aA,JC bs n tJ.1 ib.1];rfl
 have z2:∀bs n,ai bs n 8 (.list .full [.list cb (δ.Δ body),.list ce (δ.Δ aG)])= .list .any [.list cb (δ.Δ body),.list ce (δ.Δ aG)]:=fun bs n=>by rw[zo];simp only[ay,aA,JC bs n tJ.1 ib.1,JC bs n tJ.2 ib.2];rfl
 have z0:∀bs n,ai bs n 8 (.list .nil [])= .list .nil []:=fun bs n=>rfl;have n1:cW (δ.Δ body)=δ.Δ body:=by rw[fO,δ.eo,c6];exact dt fun y _=>by simp only[Function.comp,δ.av,φ,δ.yt]
 have n2:cW (δ.Δ aG)=δ.Δ aG:=by rw[fO,δ.eo,c6];exact dt fun y _=>by simp only[Function.comp,δ.av,φ,δ.yt]
 by_cases e4:k=4
 ·subst e4;simp[δ.av,δ.cells,η.four,δ.kind,δ.body,δ.aG,δ.cb,δ.ce,δ.blocks,g_,eT,dh,de,shaped,AV.one,Mem.φ,φ,n1,n2,z1,z2,z0]
 by_cases e8:k=8
 ·subst e8;simp[δ.av,δ.cells,η.four,δ.kind,δ.body,δ.aG,δ.cb,δ.ce,δ.blocks,g_,eT,dh,de,shaped,AV.one,Mem.φ,φ,n1,n2,z1,z2,z0]
 by_cases mO:k=10
 ·subst mO;simp[δ.av,δ.cells,η.four,δ.kind,δ.body,δ.aG,δ.cb,δ.ce,δ.blocks,g_,eT,dh,de,shaped,AV.one,Mem.φ,φ,n1,n2,z1,z2,z0]
 by_cases e7:k=7
 ·subst e7;simp[δ.av,δ.cells,η.four,δ.kind,δ.body,δ.aG,δ.cb,δ.ce,δ.blocks,g_,eT,dh,de,shaped,AV.one,Mem.φ,φ,n1,n2,z1,z2,z0]
 by_cases rQ:k=11
 ·subst rQ;simp[δ.av,δ.cells,η.four,δ.kind,δ.body,δ.aG,δ.cb,δ.ce,δ.blocks,g_,eT,dh,de,shaped,AV.one,Mem.φ,φ,n1,n2,z1,z2,z0]
 simp[δ.av,δ.cells,η.four,δ.kind,δ.body,δ.aG,δ.cb,δ.ce,δ.blocks,g_,eT,dh,de,e4,e8,mO,e7,rQ,eC,z0]
theorem DQ{x:δ}{p:χ×List δ}(h:p∈x.blocks):(p=(x.cb,x.body))\/(p=(x.ce,x.aG)):=by
 unfold δ.blocks at h;split at h
 ·simpa using h
 ·split at h
  ·exact .inl (by simpa using h)
  ·simp at h
def lM(x d:Nat):Nat:=if x=0 then 0 else x+d-1
def qy(l:List (χ×List δ)):Nat:=match l with
 |[]=>0
 |p::l=>max (δ.cM p.2) (qy l)
theorem Ww(x:δ):x.deep=1+qy x.blocks:=by obtain⟨k,g,nm,cp,pl,size,to,cb,body,ce,aG⟩:=x;simp only[δ.deep,δ.blocks,δ.kind,δ.body,δ.aG,δ.cb,δ.ce];by_cases hb:dh k=true<;>by_cases he:de k=true<;>simp[qy,hb,he];exfalso;simp only[dh,de,decide_eq_true_eq]at hb he;omega
theorem Vz(l:List (χ×List δ))(i:Nat)(h:i<l.length):qy (l.take (i+1))=max (qy (l.take i)) (δ.cM l[i].2):=by
 induction l generalizing i with
 |nil=>simp at h
 |cons a l ih=>
  cases i with
  |zero=>simp[qy]
  |succ i=>simp only[List.take_succ_cons,qy,List.getElem_cons_succ,ih i (by simpa using h),Nat.max_assoc]
theorem DP{x:δ}(hx:x.Ok){p:χ×List δ}(h:p∈x.blocks):aJ p.1/\δ.c7 p.2/\δ.bX p.2+3<=x.wt:=by
 have h1:=δ.D4 hx;have h2:=δ.CV hx;have h3:=δ.yM x;rcases DQ h with rfl|rfl
 ·exact⟨h1.1,h2.1,by simp only;omega⟩
 ·exact⟨h1.2,h2.2,by simp only;omega⟩
theorem f192(l:List δ):∀(c:χ),aJ c->δ.c7 l->∀d:Nat,0<d->δ.bX l+d<1000000000000->∀m,kf u 192 [.list c (δ.Δ l),.int .i64 d] m=some (.int .i64 (lM (δ.cM l) d:Nat),m):=by
 refine δ.lists (P:=fun l=>∀(c:χ),aJ c->δ.c7 l->∀d:Nat,0<d->δ.bX l+d<1000000000000->∀m,kf u 192 [.list c (δ.Δ l),.int .i64 d] m=some (.int .i64 (lM (δ.cM l) d:Nat),m)) (fun l ih c hc ab d hd hw m=>?_) l;refine bD (g:=Fe) rfl rfl rfl ?_;simp only[ay,aA,oL hc ab];simp only[exp,Fe,Og];have jU:=δ.wT l;let K:St->Prop:=fun st=>ζ st.env 1= .int .i64 d/\st.mem= {ε:=m.ε,θ:=[]};refine ω (fun st=>K st/\ζ st.env 0= .list c (δ.Δ l)) (by simp[K]) fun s1 ⟨⟨h1,h2⟩,h3⟩=>?_;refine ω (fun st=>K st/\ζ st.env 0= .list c (δ.Δ l)/\ζ st.env 5= .int .i64 0) (by simp[K,h1,h2,h3]) fun s1 ⟨⟨h1,h2⟩,h3,h4⟩=>?_;refine bc (fun st=>K st/\ζ st.env 5= .int .i64 (lM (δ.cM l) d:Nat)) ?_ fun s2 ⟨⟨h1,h2⟩,h3⟩=>by simp[h2,h3]
 let I:Nat->St->Prop:=fun i st=>K st/\ζ st.env 10= .list c (δ.Δ l)/\ζ st.env 11= .int .i64 l.length/\ζ st.env 12= .int .i64 i/\ζ st.env 5= .int .i64 (lM (δ.cM (l.take i)) d:Nat);refine ω (I 0) (by simp[I,K,h1,h2,h3,h4,ng,δ.cM,lM]) fun s4 hI=>?_;refine μ.block (μ.upto (I:=I) l.length hI (fun i st ρ ψ=>?_) (fun st ψ=>?_))
 ·obtain⟨⟨h1,h2⟩,q1,q2,q3,q4⟩:=ψ;have fU:a_ .i64 ((i:Int)+1)=(i:Int)+1:=wrap_i64 (by omega) (by omega);have mD:a_ .i64 ((d:Int)+1)=(d:Int)+1:=wrap_i64 (by omega) (by omega);have hg:=Az l i ρ;have hm:l[i]∈l:=cL ρ;have jV:=δ.gO ab _ hm;have ou:=δ.o_ hm;have qE:=f108 (u:=u) l[i] jV;have t2:=Pw l i ρ;have YI:=Ww l[i];have er:=δ.jT l[i];have iX:l[i].cells.take 14=l[i].cells:=dY (by omega);have mF:∀p∈l[i].blocks,∀m,kf u 192 [.list p.1 (δ.Δ p.2),.int .i64 ((d:Int)+1)] m=some (.int .i64 (lM (δ.cM p.2) (d+1):Nat),m):=by
   intro p hp m;have hf:=DP jV hp;rcases DQ hp with rfl|rfl
   ·dsimp only at hf;clear mD fU;simpa using(ih _ hm).1 _ hf.1 hf.2.1 (d+1) (by omega) (by omega) m
   ·dsimp only at hf;clear mD fU;simpa using(ih _ hm).2 _ hf.1 hf.2.1 (d+1) (by omega) (by omega) m
  generalize l[i]=y at*;simp only[δ.av]at hg qE;have GB:∀j (hj:j<y.blocks.length),δ.cM (y.blocks[j]).2+3<=y.wt:=fun j hj=>by have h5:=(DP jV (cL hj)).2.2;have h6:=(δ.xm (y.blocks[j]).2).2;omega
  have eQ:y.blocks.length<=2:=by unfold δ.blocks;split<;>(try split)<;>simp
  let J:St->Prop:=fun st=>K st/\ζ st.env 10= .list c (δ.Δ l)/\ζ st.env 11= .int .i64 l.length/\ζ st.env 12= .int .i64 i;let d0:=lM (δ.cM (l.take i)) d;refine ω (fun st=>J st/\ζ st.env 5= .int .i64 d0/\ζ st.env 13= .bool true) (by simp[J,d0,K,h1,h2,q1,q2,q3,q4,ρ]) fun s5 ⟨⟨⟨h1,h2⟩,q1,q2,q3⟩,q4,q5⟩=>?_;refine ω (fun st=>J st/\ζ st.env 5= .int .i64 d0) (by simp[J,K,h1,h2,q1,q2,q3,q4,q5]) fun s5 ⟨⟨⟨h1,h2⟩,q1,q2,q3⟩,q4⟩=>?_;refine bc (fun st=>J st/\ζ st.env 5= .int .i64 (lM (δ.cM (l.take (i+1))) d:Nat)) ?_ fun s6 ⟨⟨⟨h1,h2⟩,q1,q2,q3⟩,q4⟩=>by simp[I,K,h1,h2,q1,q2,q3,q4,fU]
  refine μ.block ?_;let J2:St->Prop:=fun st=>J st/\∃v,ζ st.env 7= .ae 7 v 0/\τ st.loc 7=some (v,.cells y.cells);refine ω (fun st=>J2 st/\ζ st.env 5= .int .i64 d0) (by simp[J2,J,K,h1,h2,q1,q2,q3,q4,hg,er,iX,ρ,ng]) fun s5 ⟨⟨⟨⟨h1,h2⟩,q1,q2,q3⟩,v,q5,q6⟩,q4⟩=>?_;refine ω (fun st=>J2 st/\ζ st.env 5= .int .i64 (max d0 d:Nat)) (by
   simp[J2,J,K,h1,h2,q1,q2,q3,q4,q5,q6]
   split<;>omega) fun s5 ⟨⟨⟨⟨h1,h2⟩,q1,q2,q3⟩,v,q5,q6⟩,q4⟩=>?_
  let L2:Nat->St->Prop:=fun j st=>J st/\ζ st.env 20=g_ y/\ζ st.env 21= .int .i64 y.blocks.length/\ζ st.env 22= .int .i64 j/\ζ st.env 5= .int .i64 (max (max d0 d) (lM (qy (y.blocks.take j)) (d+1)):Nat);refine ω (L2 0) (by
   simp only[g_]at qE
   simp[L2,J,K,h1,h2,q1,q2,q3,q4,q5,q6,qE,er,iX,g_,qy,lM]) fun s6 hL=>?_
  have tG:max (max d0 d) (lM (qy y.blocks) (d+1))=lM (δ.cM (l.take (i+1))) d:=by
   rw[t2,YI];simp only[d0,lM]
   (repeat' split)<;>omega
  refine μ.block (μ.upto (I:=L2) y.blocks.length hL (fun j st dk ψ=>?_) (fun st ψ=>?_))
  ·obtain⟨⟨⟨h1,h2⟩,q1,q2,q3⟩,z1,z2,z3,z4⟩:=ψ;have oU:a_ .i64 ((j:Int)+1)=(j:Int)+1:=wrap_i64 (by omega) (by omega);have hb:=mF _ (cL dk);have xH:=Vz y.blocks j dk;simp only[g_,eT]at z1;simp[L2,J,K,LG,h1,h2,q1,q2,q3,z1,z2,z3,z4,dk,oU,mD,hb,g_,eT];have lU:lM (qy (y.blocks.take (j+1))) (d+1)=max (lM (qy (y.blocks.take j)) (d+1)) (lM (δ.cM (y.blocks[j]).2) (d+1)):=by rw[xH];simp only[lM];(repeat' split)<;>omega
   rw[lU];split<;>omega
  ·obtain⟨⟨⟨h1,h2⟩,q1,q2,q3⟩,z1,z2,z3,z4⟩:=ψ;simp only[mL,tG]at z4;simp[J,K,LG,h1,h2,q1,q2,q3,z1,z2,z3,z4]
 ·obtain⟨⟨h1,h2⟩,q1,q2,q3,q4⟩:=ψ;simp only[mL]at q4;simp[K,RQ,h1,h2,q1,q2,q3,q4]
def oB(u:Nat){σ:Type}(Bk:σ->List κ)(fv:AV)(x:AV)(f:σ->σ)(r:Bool):Prop:=∀s ext T,aU (C u) fv [x] {ε:=Bk s++ext,θ:=T}=some (.bool r,{ε:=Bk (f s)++ext,θ:=T})
theorem f283{σ:Type}{Bk:σ->List κ}{N:Nat}(hN:∀s,(Bk s).length=N){fv:AV}{f:δ->σ->σ}(hf:Fix N fv)(c:χ)(hc:aJ c)(l:List δ)(hl:δ.c7 l)(hlen:l.length<1000000000000)
  (h:∀x∈l,oB u Bk fv x.av (f x) false):∀s ext T,kf u 283 [.list c (δ.Δ l),fv] {ε:=Bk s++ext,θ:=T}=some (.int .i64 (-1),{ε:=Bk (l.foldl (fun s x=>f x s) s)++ext,θ:=T}):=by
 intro s ext T;have e0:(Bk s++ext).length=N+ext.length:=by simp[hN]
 refine lE (g:=F9) rfl rfl rfl (by simp[hN]) ?_;simp only[cI,dW,ay,aA,oL hc hl,hf _ false (show N<=(Bk s++ext).length by omega),F9,OX];let K:σ->St->Prop:=fun s st=>ζ st.env 1=fv/\ζ st.env 0= .list c (δ.Δ l)/\st.mem= {ε:=Bk s++ext,θ:=[]};refine ω (K s) (by simp[K]) fun s1 ⟨h1,h2,h3⟩=>?_;refine bc (K (l.foldl (fun s x=>f x s) s)) ?_ fun s2 ⟨h1,h2,h3⟩=>?_
 ·let I:Nat->St->Prop:=fun i st=>K ((l.take i).foldl (fun s x=>f x s) s) st/\ζ st.env 7= .int .i64 l.length/\ζ st.env 8= .int .i64 i;refine ω (I 0) (by simp[I,K,h1,h2,h3,ng]) fun s4 hI=>?_;refine μ.block (μ.loop (I:=I) l.length hI fun i st hi ψ=>?_);obtain⟨⟨h1,h2,h3⟩,q1,q2⟩:=ψ;rcases bP i l.length with ρ|cG
  ·left;refine⟨ρ,?_⟩;have hw:a_ .i64 ((i:Int)+1)=(i:Int)+1:=wrap_i64 (by omega) (by omega);have hg:=Az l i ρ;have hx:=h _ (cL ρ) ((l.take i).foldl (fun s x=>f x s) s) ext [];have ht:(l.take (i+1)).foldl (fun s x=>f x s) s=f l[i] ((l.take i).foldl (fun s x=>f x s) s):=by rw[wZ ρ,ahA];rfl
   have er:=δ.jT l[i];have iX:l[i].cells.take 14=l[i].cells:=dY (by omega);simp only[δ.av]at hg hx;simp[I,K,LK,h1,h2,h3,q1,q2,ρ,hg,hx,hw,ng,er,iX,ht]
  ·right;have:i=l.length:=by omega
   subst this;simp only[mL]at h3;simp[K,LK,h1,h2,h3,q1,q2]
 ·simp[h1,h2,h3]
theorem f247{σ:Type}{Bk:σ->List κ}{N:Nat}(hN:∀s,(Bk s).length=N){fv:AV}{f:δ->σ->σ}(hf:Fix N fv)(c:χ)(hc:aJ c)(l:List δ)(hl:δ.c7 l)(hlen:l.length<1000000000000)
  (h:∀x∈l,oB u Bk fv x.av (f x) false):∀s ext T,kf u 247 [.list c (δ.Δ l),fv] {ε:=Bk s++ext,θ:=T}=some (.bool false,{ε:=Bk (l.foldl (fun s x=>f x s) s)++ext,θ:=T}):=by
 intro s ext T;have e0:(Bk s++ext).length=N+ext.length:=by simp[hN]
 have hx:=f283 (u:=u) hN hf c hc l hl hlen h s ext [];refine lE (g:=FL) rfl rfl rfl (by simp[hN]) ?_;simp only[cI,dW,ay,aA,oL hc hl,hf _ false (show N<=(Bk s++ext).length by omega),FL,OH];simp[hx]
theorem f208{σ:Type}{Bk:σ->List κ}{N:Nat}(hN:∀s,(Bk s).length=N){F:Fn}{fa fc:List AV}{f:δ->σ->σ}(hf:Fix N (.fn F fa fc))(oT:fa.map φ=fa)(lA:fc.map φ=fc)(c:χ)(hc:aJ c)(l:List δ)(hl:δ.c7 l)(hlen:l.length<1000000000000)
  (h:∀x∈l,oB u Bk (.fn F fa fc) x.av (f x) true):∀s ext T,kf u 208 [.list c (δ.Δ l),(.fn F fa fc)] {ε:=Bk s++ext,θ:=T}=some (.bool true,{ε:=Bk (l.foldl (fun s x=>f x s) s)++ext,θ:=T}):=by
 intro s ext T;have e0:(Bk s++ext).length=N+ext.length:=by simp[hN]
 let ju:σ->List κ:=fun s=>Bk s++ext++[.cells [.fn F fa fc]];have rX:∀s,(ju s).length=N+ext.length+1:=fun s=>by simp[ju,hN];omega
 have BZ:Fix (N+ext.length+1) (.fn (.func 248) [] [.ν (N+ext.length) 0]):=by intro k b hk;simp[exp,bn,Fn.below];omega
 have J_:∀x∈l,oB u ju (.fn (.func 248) [] [.ν (N+ext.length) 0]) x.av (f x) false:=by
  intro x hx s ext' T';have hd:(ju s++ext')[N+ext.length]?=some (.cells [.fn F fa fc]):=by
   have:N+ext.length=(Bk s++ext).length:=by simp[hN]
   simp only[ju,cj,this];simp
  have dI:=h x hx s (ext++[.cells [.fn F fa fc]]++ext') [];have er:=δ.jT x;refine lE (g:=FM) rfl rfl rfl (by simp[rX]) ?_;have a0:N+ext.length<(ju s++ext').length:=by simp[rX];omega
  simp only[cI,eO,ay,aA,δ.ep _ _ _ (δ.gO hl x hx),exp,a0,if_true,FM,OI];have e1:Bk s++(ext++[.cells [.fn F fa fc]]++ext')=ju s++ext':=by simp[ju]
  have e2:Bk (f x s)++(ext++[.cells [.fn F fa fc]]++ext')=ju (f x s)++ext':=by simp[ju]
  rw[e1,e2]at dI;simp only[δ.av]at dI⊢;have iX:x.cells.take 14=x.cells:=dY (by omega);simp[er,hd,dI,iX]
 have hx:=f247 (u:=u) rX BZ c hc l hl hlen J_ s [] [];simp only[ju,dW,cj]at hx;refine lE (g:=Fs) rfl rfl rfl (by simp[hN]) ?_;simp only[cI,dW,ay,aA,oL hc hl,hf _ false (show N<=(Bk s++ext).length by omega),Fs,c208];simp[Mem.push,Mem.φ,φ,fO,oT,lA,hN,hx]
theorem Jt{n:Nat}{k:Bool}{cc:χ}(hc:aJ cc){l:List (χ×List δ)}(h:∀p∈l,aJ p.1/\δ.c7 p.2):exp n k (.list cc (l.map eT))= .list cc (l.map eT):=by
 have:bn n k (l.map eT)=l.map eT:=by rw[fo,c6];exact dt fun p hp=>oL (h p hp).1 (h p hp).2
 simp only[exp,fb hc,this]
theorem f282{σ:Type}{Bk:σ->List κ}{N:Nat}(hN:∀s,(Bk s).length=N){fv:AV}{f:χ×List δ->σ->σ}(hf:Fix N fv)(c:χ)(hc:aJ c)(l:List (χ×List δ))(hl:∀p∈l,aJ p.1/\δ.c7 p.2)(hlen:l.length<1000000000000)
  (h:∀x∈l,oB u Bk fv (eT x) (f x) false):∀s ext T,kf u 282 [.list c (l.map eT),fv] {ε:=Bk s++ext,θ:=T}=some (.int .i64 (-1),{ε:=Bk (l.foldl (fun s x=>f x s) s)++ext,θ:=T}):=by
 intro s ext T;have e0:(Bk s++ext).length=N+ext.length:=by simp[hN]
 refine lE (g:=F8) rfl rfl rfl (by simp[hN]) ?_;simp only[cI,dW,ay,aA,Jt hc hl,hf _ false (show N<=(Bk s++ext).length by omega),F8,OV];let K:σ->St->Prop:=fun s st=>ζ st.env 1=fv/\ζ st.env 0= .list c (l.map eT)/\st.mem= {ε:=Bk s++ext,θ:=[]};refine ω (K s) (by simp[K]) fun s1 ⟨h1,h2,h3⟩=>?_;refine bc (K (l.foldl (fun s x=>f x s) s)) ?_ fun s2 ⟨h1,h2,h3⟩=>by simp[h1,h2,h3]
 let I:Nat->St->Prop:=fun i st=>K ((l.take i).foldl (fun s x=>f x s) s) st/\ζ st.env 7= .int .i64 l.length/\ζ st.env 8= .int .i64 i;refine ω (I 0) (by simp[I,K,h1,h2,h3]) fun s4 hI=>?_;refine μ.block (μ.loop (I:=I) l.length hI fun i st hi ψ=>?_);obtain⟨⟨h1,h2,h3⟩,q1,q2⟩:=ψ;rcases bP i l.length with ρ|cG
 ·left;refine⟨ρ,?_⟩;have hw:a_ .i64 ((i:Int)+1)=(i:Int)+1:=wrap_i64 (by omega) (by omega);have hx:=h _ (cL ρ) ((l.take i).foldl (fun s x=>f x s) s) ext [];have ht:(l.take (i+1)).foldl (fun s x=>f x s) s=f l[i] ((l.take i).foldl (fun s x=>f x s) s):=by rw[wZ ρ,ahA];rfl
  simp only[eT]at hx h2;simp[I,K,LJ,h1,h2,h3,q1,q2,ρ,hx,hw,ht,eT]
 ·right;have:i=l.length:=by omega
  subst this;simp only[mL]at h3;simp[K,LJ,h1,h2,h3,q1,q2]
theorem f245{σ:Type}{Bk:σ->List κ}{N:Nat}(hN:∀s,(Bk s).length=N){fv:AV}{f:χ×List δ->σ->σ}(hf:Fix N fv)(c:χ)(hc:aJ c)(l:List (χ×List δ))(hl:∀p∈l,aJ p.1/\δ.c7 p.2)(hlen:l.length<1000000000000)
  (h:∀x∈l,oB u Bk fv (eT x) (f x) false):∀s ext T,kf u 245 [.list c (l.map eT),fv] {ε:=Bk s++ext,θ:=T}=some (.bool false,{ε:=Bk (l.foldl (fun s x=>f x s) s)++ext,θ:=T}):=by
 intro s ext T;have e0:(Bk s++ext).length=N+ext.length:=by simp[hN]
 have hx:=f282 (u:=u) hN hf c hc l hl hlen h s ext [];refine lE (g:=FJ) rfl rfl rfl (by simp[hN]) ?_;simp only[cI,dW,ay,aA,Jt hc hl,hf _ false (show N<=(Bk s++ext).length by omega),FJ,OF];simp[hx]
theorem f206{σ:Type}{Bk:σ->List κ}{N:Nat}(hN:∀s,(Bk s).length=N){F:Fn}{fa fc:List AV}{f:χ×List δ->σ->σ}(hf:Fix N (.fn F fa fc))(oT:fa.map φ=fa)(lA:fc.map φ=fc)(c:χ)(hc:aJ c)(l:List (χ×List δ))(hl:∀p∈l,aJ p.1/\δ.c7 p.2)(hlen:l.length<1000000000000)
  (h:∀x∈l,oB u Bk (.fn F fa fc) (eT x) (f x) true):∀s ext T,kf u 206 [.list c (l.map eT),(.fn F fa fc)] {ε:=Bk s++ext,θ:=T}=some (.bool true,{ε:=Bk (l.foldl (fun s x=>f x s) s)++ext,θ:=T}):=by
 intro s ext T;have e0:(Bk s++ext).length=N+ext.length:=by simp[hN]
 let ju:σ->List κ:=fun s=>Bk s++ext++[.cells [.fn F fa fc]];have rX:∀s,(ju s).length=N+ext.length+1:=fun s=>by simp[ju,hN];omega
 have BZ:Fix (N+ext.length+1) (.fn (.func 246) [] [.ν (N+ext.length) 0]):=by intro k b hk;simp[exp,bn,Fn.below];omega
 have J_:∀x∈l,oB u ju (.fn (.func 246) [] [.ν (N+ext.length) 0]) (eT x) (f x) false:=by
  intro x hx s ext' T';have hd:(ju s++ext')[N+ext.length]?=some (.cells [.fn F fa fc]):=by
   have:N+ext.length=(Bk s++ext).length:=by simp[hN]
   simp only[ju,cj,this];simp
  have dI:=h x hx s (ext++[.cells [.fn F fa fc]]++ext') [];refine lE (g:=FK) rfl rfl rfl (by simp[rX]) ?_;have a0:N+ext.length<(ju s++ext').length:=by simp[rX];omega
  have hb:exp (ju s++ext').length false (eT x)=eT x:=oL (hl x hx).1 (hl x hx).2;simp only[cI,eO,ay,aA,hb];simp only[exp,a0,if_true,FK,OG];have e1:Bk s++(ext++[.cells [.fn F fa fc]]++ext')=ju s++ext':=by simp[ju]
  have e2:Bk (f x s)++(ext++[.cells [.fn F fa fc]]++ext')=ju (f x s)++ext':=by simp[ju]
  rw[e1,e2]at dI;simp[hd,dI]
 have hx:=f245 (u:=u) rX BZ c hc l hl hlen J_ s [] [];simp only[ju,dW,cj]at hx;refine lE (g:=Fp) rfl rfl rfl (by simp[hN]) ?_;simp only[cI,dW,ay,aA,Jt hc hl,hf _ false (show N<=(Bk s++ext).length by omega),Fp,c206];simp[Mem.push,Mem.φ,φ,fO,oT,lA,hN,hx]
mutual
def vN{σ:Type}(f:δ->σ->σ):δ->σ->σ
 | .mk k g nm cp pl size to cb body ce aG,s=>if dh k then(if de k then qK f aG (qK f body (f (.mk k g nm cp pl size to cb body ce aG) s))else qK f body (f (.mk k g nm cp pl size to cb body ce aG) s))else f (.mk k g nm cp pl size to cb body ce aG) s
def qK{σ:Type}(f:δ->σ->σ):List δ->σ->σ
 |[],s=>s
 |x::l,s=>qK f l (vN f x s)
end
theorem Qf{σ:Type}(f:δ->σ->σ)(l:List δ)(s:σ):qK f l s=l.foldl (fun s x=>vN f x s) s:=by
 induction l generalizing s with
 |nil=>rfl
 |cons a l ih=>simp only[qK,List.foldl_cons,ih]
theorem XL{σ:Type}(f:δ->σ->σ)(x:δ)(s:σ):vN f x s=x.blocks.foldl (fun s p=>qK f p.2 s) (f x s):=by obtain⟨k,g,nm,cp,pl,size,to,cb,body,ce,aG⟩:=x;simp only[vN,δ.blocks,δ.kind,δ.body,δ.aG,δ.cb,δ.ce];by_cases hb:dh k=true<;>by_cases he:de k=true<;>simp[hb,he];exfalso;simp only[dh,de,decide_eq_true_eq]at hb he;omega
section
variable{σ:Type}{Bk:σ->List κ}{N:Nat}{F:Fn}{fa fc:List AV}{f:δ->σ->σ}
def l8(Bk:σ->List κ)(n:Nat)(e0:List κ)(yv:AV):σ->List κ:=fun s=>Bk s++e0++[.cells [yv],.cells [.fn (.func 205) [] [.ν n 0,.ν (n+1) 0]]]
theorem f205(hN:∀s,(Bk s).length=N)(e0:List κ)(hf:Fix N (.fn F fa fc))(hy:∀x:δ,x.Ok->oB u Bk (.fn F fa fc) x.av (f x) true)(x:δ):x.Ok->x.wt<1000000000000→
  oB u (l8 Bk (N+e0.length) e0 (.fn F fa fc)) (.fn (.func 205) [] [.ν (N+e0.length) 0,.ν (N+e0.length+1) 0]) x.av (vN f x) true:=by
 have rY:∀s,(l8 Bk (N+e0.length) e0 (.fn F fa fc) s).length=N+e0.length+2:=fun s=>by simp[l8,hN];omega
 have Kk:Fix (N+e0.length+2) (.fn (.func 205) [] [.ν (N+e0.length) 0,.ν (N+e0.length+1) 0]):=by intro k b hk;simp[exp,bn,Fn.below];omega
 have YW:Fix (N+e0.length+2) (.fn (.func 207) [] [.ν (N+e0.length+1) 0]):=by intro k b hk;simp[exp,bn,Fn.below];omega
 have d0:∀s ext,(l8 Bk (N+e0.length) e0 (.fn F fa fc) s++ext)[N+e0.length]?=some (.cells [.fn F fa fc]):=fun s ext=>by
  have:N+e0.length=(Bk s++e0).length:=by simp[hN]
  simp only[l8,cj,this];simp
 have d1:∀s ext,(l8 Bk (N+e0.length) e0 (.fn F fa fc) s++ext)[N+e0.length+1]?=some (.cells [.fn (.func 205) [] [.ν (N+e0.length) 0,.ν (N+e0.length+1) 0]]):=fun s ext=>by
  have h1:N+e0.length=(Bk s++e0).length:=by simp[hN]
  have h2:((Bk s++e0)++([κ.cells [.fn F fa fc],.cells [.fn (.func 205) [] [.ν (N+e0.length) 0,.ν (N+e0.length+1) 0]]]++ext))[(Bk s++e0).length+1]?=some (.cells [.fn (.func 205) [] [.ν (N+e0.length) 0,.ν (N+e0.length+1) 0]]):=by rw[List.getElem?_append_right (by omega)];simp
  simp only[l8,cj]at h2⊢;rw[h1]at h2⊢;simpa using h2
 refine δ.jY (Q:=fun x=>x.Ok->x.wt<1000000000000->oB u (l8 Bk (N+e0.length) e0 (.fn F fa fc)) (.fn (.func 205) [] [.ν (N+e0.length) 0,.ν (N+e0.length+1) 0]) x.av (vN f x) true) (fun k g nm cp pl size to cb body ce aG h1 h2 ab hw=>?_) x;have hyx:=hy _ ab;have er:=δ.jT (.mk k g nm cp pl size to cb body ce aG);have Qi:=f108 (u:=u) _ ab;have vY:=XL f (.mk k g nm cp pl size to cb body ce aG);have uC:=fun p hp=>DP ab (p:=p) hp;have h7:∀p∈(δ.mk k g nm cp pl size to cb body ce aG).blocks,oB u (l8 Bk (N+e0.length) e0 (.fn F fa fc)) (.fn (.func 207) [] [.ν (N+e0.length+1) 0]) (eT p) (qK f p.2) true:=by
  intro p hp s ext T;have zG:=uC p hp;have zP:∀y∈p.2,oB u (l8 Bk (N+e0.length) e0 (.fn F fa fc)) (.fn (.func 205) [] [.ν (N+e0.length) 0,.ν (N+e0.length+1) 0]) y.av (vN f y) true:=by
   intro y lX;have hyw:=δ.o_ lX;rcases DQ hp with rfl|rfl
   ·exact h1 y lX (δ.gO zG.2.1 y lX) (by omega)
   ·exact h2 y lX (δ.gO zG.2.1 y lX) (by omega)
  have ZH:=δ.wT p.2;have hx:=f208 (u:=u) rY Kk rfl rfl p.1 zG.1 p.2 zG.2.1 (by omega) zP s ext [];rw[<-Qf]at hx;refine lE (g:=Fq) rfl rfl rfl (by simp[rY]) ?_;have a0:N+e0.length+1<(l8 Bk (N+e0.length) e0 (.fn F fa fc) s++ext).length:=by simp[rY];omega
  have hb:exp (l8 Bk (N+e0.length) e0 (.fn F fa fc) s++ext).length false (eT p)=eT p:=oL zG.1 zG.2.1;simp only[cI,eO,ay,aA,hb];simp only[exp,a0,if_true,Fq,On];simp[d1,hx,eT]
 have eQ:(δ.mk k g nm cp pl size to cb body ce aG).blocks.length<=2:=by unfold δ.blocks;split<;>(try split)<;>simp
 generalize bL:δ.mk k g nm cp pl size to cb body ce aG=x at*;intro s ext T;have h6:=f206 (u:=u) rY YW rfl rfl (if dh x.kind then .any else .nil) (by split<;>simp[aJ]) x.blocks (fun p hp=>⟨(uC p hp).1,(uC p hp).2.1⟩) (by omega) h7 (f x s) ext [];rw[<-vY]at h6;have Lp:=hyx s (e0++[.cells [.fn F fa fc],.cells [.fn (.func 205) [] [.ν (N+e0.length) 0,.ν (N+e0.length+1) 0]]]++ext) [];have e1:∀s,Bk s++(e0++[.cells [.fn F fa fc],.cells [.fn (.func 205) [] [.ν (N+e0.length) 0,.ν (N+e0.length+1) 0]]]++ext)=l8 Bk (N+e0.length) e0 (.fn F fa fc) s++ext:=fun s=>by simp[l8]
 rw[e1,e1]at Lp;refine lE (g:=Fo) rfl rfl rfl (by simp[rY]) ?_;have a0:N+e0.length<(l8 Bk (N+e0.length) e0 (.fn F fa fc) s++ext).length:=by simp[rY];omega
 have a1:N+e0.length+1<(l8 Bk (N+e0.length) e0 (.fn F fa fc) s++ext).length:=by simp[rY];omega
 have iX:x.cells.take 14=x.cells:=dY (by omega);simp only[cI,eO,ay,aA,δ.ep _ _ _ ab];simp only[exp,a0,a1,if_true,Fo,Om];simp only[δ.av,g_]at Lp Qi⊢;simp[er,iX,d0,d1,Lp,Qi,h6]
theorem PZ(bs:List κ)(n:Nat):ai bs n 8 (.aP [])= .aP []:=rfl
theorem f204(hN:∀s,(Bk s).length=N)(hf:Fix N (.fn F fa fc))(oT:fa.map φ=fa)(lA:fc.map φ=fc)(hy:∀x:δ,x.Ok->oB u Bk (.fn F fa fc) x.av (f x) true)(c:χ)(hc:aJ c)(l:List δ)(hl:δ.c7 l)(hw:δ.bX l<1000000000000):
  ∀s ext T,aU (C u) (.fn (.func 204) [] [.ref [.list c (δ.Δ l)]]) [.fn F fa fc] {ε:=Bk s++ext,θ:=T}=some (.aP [],{ε:=Bk (qK f l s)++ext,θ:=T}):=by
 intro s ext T;have ZH:=δ.wT l;have rY:∀s,(l8 Bk (N+ext.length) ext (.fn F fa fc) s).length=N+ext.length+2:=fun s=>by simp[l8,hN];omega
 have Kk:Fix (N+ext.length+2) (.fn (.func 205) [] [.ν (N+ext.length) 0,.ν (N+ext.length+1) 0]):=by intro k b hk;simp[exp,bn,Fn.below];omega
 have hx:=f208 (u:=u) rY Kk rfl rfl c hc l hl (by omega) (fun x hx=>f205 (u:=u) hN ext hf hy x (δ.gO hl x hx) (by have:=δ.o_ hx;omega)) s [] [];rw[<-Qf]at hx;refine lE (g:=Fm) rfl rfl rfl (by simp[hN]) ?_;have wb:(Bk s++ext).length=N+ext.length:=by simp[hN]
 have hr:exp (Bk s++ext).length false (.ref [.list c (δ.Δ l)])= .ref [.list c (δ.Δ l)]:=by have:=oL (n:=(Bk s++ext).length) (k:=false) hc hl;simp only[exp,bn]at this⊢;rw[this]
 simp only[cI,eO,ay,aA,hr,hf _ false (show N<=(Bk s++ext).length by omega),Fm,Ol];simp only[l8,dW,cj,Nat.add_assoc]at hx;simp[Mem.push,Mem.put,Mem.φ,φ,fO,oT,lA,hN,bp,lo,Fn.below,hx,PZ]
end
theorem Xt(bs:List κ)(n:Nat)(i:Nat)(hi:n<=i)(l:List AV)(h:bs[i]?=some (.cells l)):ai bs n 8 (.fn (.func 204) [] [.ν i 0])= .fn (.func 204) [] [.ref (l.map (ai bs n 7))]:=by
 have:¬i<n:=by omega
 simp[ai,bK,hU,Fn.below,this,h]
theorem JA(bs:List κ)(n k:Nat)(c:χ)(l:List AV):ai bs n (k+1) (.list c l)= .list (c.exp n false) (l.map (ai bs n (k+1))):=by simp only[ai,bK,nZ]
theorem Ey(bs:List κ)(n k:Nat)(l:List AV):ai bs n (k+1) (.agg l)= .agg (l.map (ai bs n (k+1))):=by simp only[ai,bK,nZ]
theorem Γ.Jz(bs:List κ)(n k:Nat)(p:Γ)(h:p.Ok):ai bs n (k+1) p.av=p.av:=by
 have:(p.ix.map η.av).map (ai bs n (k+1))=p.ix.map η.av:=by rw[c6];exact dt fun x hx=>η.vH bs n (k+1) x (h.2.2 x hx).1
 have hs:ai bs n (k+1) (.str p.name)= .str p.name:=rfl;simp only[Γ.av,Ey,ay,aA,JA,fb h.2.1,this,hs]
theorem δ.Jz(bs:List κ)(n j:Nat)(x:δ):x.Ok->x.cells.map (ai bs n (j+1))=x.cells:=by
 refine δ.jY (Q:=fun x=>x.Ok->x.cells.map (ai bs n (j+1))=x.cells) (fun kk g nm cp pl size to cb body ce aG h1 h2 h=>?_) x;simp only[δ.Ok]at h;obtain⟨-,k1,k2,k3,k4,k5,k6,k7,k8⟩:=h;have e1:(pl.map Γ.av).map (ai bs n (j+1))=pl.map Γ.av:=by rw[c6];exact dt fun x hx=>Γ.Jz bs n j x (k2 x hx)
 have go:∀l:List δ,δ.c7 l->(∀y∈l,y.Ok->y.cells.map (ai bs n (j+1))=y.cells)->(δ.Δ l).map (ai bs n (j+1))=δ.Δ l:=by intro l hl hy;rw[δ.eo,c6];refine dt fun y hm=>?_;simp only[Function.comp,δ.av,Ey,hy y hm (δ.gO hl y hm)]
 have q:∀y:η,y.Ok->y.four.map (ai bs n (j+1))=y.four:=fun y hy=>by have:=η.vH bs n (j+1) y hy;rw[η.jA,Ey]at this;simpa using this
 have hs:∀s,ai bs n (j+1) (.str s)= .str s:=fun s=>rfl;have hi:∀k i,ai bs n (j+1) (.int k i)= .int k i:=fun k i=>rfl;simp only[δ.cells,qn,ay,aA,JA,fb k1,fb k5,fb k7,e1,q _ k3.1,q _ k4.1,go body k6 h1,go aG k8 h2,hs,hi]
theorem Xs(bs:List κ)(n:Nat){c:χ}(hc:aJ c){l:List δ}(h:δ.c7 l):ai bs n 7 (.list c (δ.Δ l))= .list c (δ.Δ l):=by
 have:(δ.Δ l).map (ai bs n 7)=δ.Δ l:=by rw[δ.eo,c6];exact dt fun y hy=>by simp only[Function.comp,δ.av,Ey,δ.Jz bs n 6 y (δ.gO h y hy)]
 rw[JA,fb hc,this]
theorem f134(c:χ)(hc:aJ c)(l:List δ)(hl:δ.c7 l)(m:Mem):kf u 134 [.list c (δ.Δ l)] m=some (.fn (.func 204) [] [.ref [.list c (δ.Δ l)]],m):=by
 refine bD (g:=ET) rfl rfl rfl ?_;simp only[ay,aA,oL hc hl,ET,NZ];have n1:(δ.Δ l).map φ=δ.Δ l:=by rw[δ.eo,c6];exact dt fun y _=>by simp only[Function.comp,δ.av,φ,δ.yt]
 simp[Mem.push,Mem.φ,φ,fO,n1];rw[Xt _ _ _ (Nat.le_refl _) [.list c (δ.Δ l)] (by simp)];simp[Xs _ _ hc hl]
theorem agz(n:Nat):a_ .i64 (a_ .i64 (n:Int)+1)=a_ .i64 ((n+1:Nat):Int):=by
 have h:∀x:Int,a_ .i64 x=if(true&&decide (x % 18446744073709551616≥9223372036854775808))=true then x % 18446744073709551616-18446744073709551616 else x % 18446744073709551616:=fun x=>rfl;simp only[h];simp
 (repeat' split)<;>omega
def za(B:List κ)(env:List AV)(n:Nat):List κ:=B++[.cells [.int .i64 (a_ .i64 (n:Int))],.loop env [6] .skip (.block 1 (.ops [⟨(some 7),.ld false 1 (.t 3),none⟩,⟨(some 8),.bin .add (.t 7) (.c (.int .i64 1)),none⟩,⟨none,.st 1 (.t 3) (.t 8),none⟩])) .ready]
theorem XF(l:List AV)(i:Nat):ζ (l.map φ) i=φ (ζ l i):=by
 induction l generalizing i with
 |nil=>simp[ζ,φ]
 |cons a l ih=>cases i with
  |zero=>rfl
  |succ i=>simp only[ay,ζ,ih]
theorem agV(B:List κ)(env:List AV)(h3:ζ env 3= .ν B.length 0)(v:AV)(n:Nat)(ext:List κ)(T:List Nat):
  aU (C u) (.fn (.yield (B.length+1)) [] []) [v] {ε:=za B env n++ext,θ:=T}=some (.bool true,{ε:=za B env (n+1)++ext,θ:=T}):=by
 apply ur;simp only[body];unfold round;simp[za,va,Mem.ls,Mem.kH,h3,Mem.put,bp,lo,agz,Mem.φ,φ]
theorem f135(c:χ)(hc:aJ c)(l:List δ)(hl:δ.c7 l)(hw:δ.bX l<1000000000000)(m:Mem):kf u 135 [.list c (δ.Δ l)] m=some (.int .i64 (δ.bj l),m):=by
 have WG:=f134 (u:=u) c hc l hl;refine bD (g:=EU) rfl rfl rfl ?_;simp only[ay,aA,oL hc hl,EU,N0];let K:St->Prop:=fun st=>ζ st.env 3= .ν m.ε.length 0/\st.mem= {ε:=m.ε++[.cells [.int .i64 0]],θ:=[]};refine ω (fun st=>ζ st.env 0= .list c (δ.Δ l)/\st.mem= {ε:=m.ε,θ:=[]}) (by simp) fun s1 ⟨h1,h2⟩=>?_;refine ω (fun st=>K st/\ζ st.env 0= .list c (δ.Δ l)) (by simp[K,h1,h2,Mem.push,Mem.put,Mem.φ,φ,bp,lo]) fun s1 ⟨⟨h1,h2⟩,h3⟩=>?_;refine bc (fun st=>ζ st.env 3= .ν m.ε.length 0/\st.mem= {ε:=m.ε++[.cells [.int .i64 (δ.bj l)]],θ:=[]}) ?_ fun s2 ⟨h1,h2⟩=>by simp[h1,h2]
 refine ω (fun st=>K st/\ζ st.env 5= .fn (.func 204) [] [.ref [.list c (δ.Δ l)]]) (by simp[K,h1,h2,h3,WG]) fun s1 ⟨⟨h1,h2⟩,h3⟩=>?_;refine μ.block ?_;have eR:∀M:Mem,M.φ=φ:=fun _=>rfl;have fe:ζ (s1.env.map φ) 3= .ν m.ε.length 0:=by rw[XF];exact congrArg φ h1
 have zP:=f204 (u:=u) (Bk:=za m.ε (s1.env.map φ)) (N:=m.ε.length+2) (F:= .yield (m.ε.length+1)) (fa:=[]) (fc:=[]) (f:=fun _ n=>n+1) (fun n=>by simp[za]) (fun k b hk=>by simp[exp,bn,Fn.below];omega) rfl rfl
  (fun x _ n ext T=>agV m.ε _ fe x.av n ext T) c hc l hl hw 0 [] []
 have YD:∀(l:List δ) (n:Nat),qK (fun _ n=>n+1) l n=n+δ.bj l:=by
  intro l;refine δ.lists (P:=fun l=>∀n:Nat,qK (fun _ n=>n+1) l n=n+δ.bj l) (fun l ih n=>?_) l;induction l generalizing n with
  |nil=>rfl
  |cons a l zZ=>
   have ha:=ih a (by simp)
   obtain⟨k,g,nm,cp,pl,size,to,cb,body,ce,aG⟩:=a;simp only[δ.body,δ.aG]at ha;simp only[qK,vN,δ.bj,δ.cnt,zZ (fun y hy=>ih y (by simp[hy])),ha.1,ha.2];by_cases hb:dh k=true
   ·by_cases he:de k=true<;>simp[hb,he]<;>omega
   ·have he:¬de k=true:=by simp only[dh,de,decide_eq_true_eq]at hb⊢;omega
    simp[hb,he];omega
 rw[YD,jz]at zP;have QH:=(δ.xm l).1;have cV:a_ .i64 (δ.bj l:Int)=(δ.bj l:Int):=wrap_i64 (by omega) (by omega);have iq:a_ .i64 0=0:=by decide
 simp only[za,dW,cV]at zP;have aat:a_ .i64 ((0:Nat):Int)=0:=by decide
 rw[aat]at zP;simp only[μ,exec,dQ,h3,AV.CA,Option.bind_some,h2,List.length_append,List.length_cons,List.length_nil,jz,cj,eO,cI];simp[eR,zP,h1,Mem.back,lJ];rw[List.take_append];simp[dY]
end Go.ah.Tz
