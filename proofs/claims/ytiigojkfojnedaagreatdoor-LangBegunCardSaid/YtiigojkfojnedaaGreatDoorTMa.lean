import Derived.Test.YtiigojkfojnedaaGreatDoorTKu
set_option linter.all false
set_option maxRecDepth 100000
set_option maxHeartbeats 8000000
open Go.IntKind renaming wrap->bC
open Bool renaming false_eq_true->jI,and_eq_true->dW,true_and->tG,and_true->alS
open Int renaming fdiv_eq_ediv_of_nonneg->alF,tmod_eq_emod_of_nonneg->JS,natCast_add->alH,cast_ofNat_Int->uX
open Nat renaming le_refl->bA,mod_lt->lf,le_trans->uZ,one_le_two_pow->alJ,pow_succ->alK,le_succ->Ag,add_zero->qd,zero_add->lj
open List renaming getElem?_eq_getElem->dN,getElem?_map->nD,all_eq_true->dS,set_comm->alG,length->ki,nil_append->bG,append_nil->de,getElem?_set_ne->gR,take_of_length_le->fw,length_map->cF,mem_of_getElem?->alI,map_cons->aA,map_nil->aP,set_append_left->mT,length_nil->eI,length_set->mS,cons_append->cy,length_cons->cE,mem_append->dE,mem_singleton->fK,mem_append_left->Ab,mem_filter->Ac,getElem_cons_zero->lE,getElem_cons_succ->qY,findIdx?_append->alL,map_append->jT,append_assoc->bH,findIdx?_eq_none_iff->wv,mem_cons->cw,mem_map->eT,length_append->cD,map_map->dc,findIdx?_eq_some_iff_getElem->tK,getElem?_eq_some_iff->fu,drop_eq_getElem_cons->mQ,getElem_of_mem->wy,map_congr_left->dD,drop_drop->ov,map_drop->alM,take_append->alN,drop->alO,map_take->alP,take_length->po,all_cons->alQ,getElem?_append_left->eo,all_nil->alR,drop_zero->BV,set_append_right->ya
open List.cons renaming injEq->xV
open Prod.mk renaming injEq->az
namespace Go.Δ.Tz
open Go.Δ
variable{u:Nat}
attribute [local simp] exec dT dG eR aH dr ff eH aI fA bQ gX ib iC iL lq AV.cells newVar iH rd wr gL single dd cA eU ef κ cH RV.get cJ fF jU
theorem wrap_u32(n:Int):0<=bC .u32 n/\bC .u32 n<4294967296:=by show 0<=(if(false&&decide (n % 4294967296≥2147483648))=true then n % 4294967296-4294967296 else n % 4294967296)/\(if(false&&decide (n % 4294967296≥2147483648))=true then n % 4294967296-4294967296 else n % 4294967296)<4294967296;simp only[Bool.false_and,jI,if_false];omega
def eB(c:ξ)(bs:List Nat):AV:= .list c (bs.map fun b:Nat=> .int .u8 (b:Int))
def aG(c:ξ)(bs:List Nat)(n:Nat)(x:Int):List AV:=[eB c bs,.n n,.int .u32 x]
theorem f182{c:ξ}{bs:List Nat}{B:List θ}{p:Nat}(hp:p<B.length)(hb:bs.length<=300)(n:Nat)(x:Int)(hn:n<4000000000000000000):
  ∃(x' r:Int) (n':Nat),n<=n'/\n'<=n+1/\0<=r/\r<4294967296/\∀T,kf u 182 [.μ p 0] {ε:=B.set p (.cells (aG c bs n x)),ζ:=T}=some (.int .u32 r,{ε:=B.set p (.cells (aG c bs n' x')),ζ:=T}):=by
 have hg:∀cs,(B.set p (θ.cells cs))[p]?=some (.cells cs):=fun cs=>by simp[hp]
 have hr:κ (C u).gl (ah (C u)) c182 {env:=[.μ p 0],loc:=[],mem:= {ε:=B.set p (.cells (aG c bs n x)),ζ:=[]}} fun q=>(∀i,q.1≠ .exit i)/\∃(x' r:Int) (n':Nat),n<=n'/\n'<=n+1/\0<=r/\r<4294967296/\q.2.mem= {ε:=B.set p (.cells (aG c bs n' x')),ζ:=[]}/\aI q.2.env 2= .int .u32 r:=by
  let M:St->Prop:=fun st=>st.e 0= .μ p 0/\∃x:Int,(0<=x/\x<4294967296)/\st.mem= {ε:=B.set p (.cells (aG c bs n x)),ζ:=[]};unfold c182;refine Θ (fun st=>st.e 0= .μ p 0/\st.mem= {ε:=B.set p (.cells (aG c bs n x)),ζ:=[]}) (by simp) fun s1 ⟨h1,h2⟩=>?_;refine Θ (M) (by
   simp[M,h1,h2,hg,aG,Mem.put,Mem.ν,ν,bo,lo]
   exact⟨_,wrap_u32 _,rfl⟩) fun s1 ⟨h1,x,hx,h2⟩=>?_
  refine Θ (M) (by
   simp[M,h1,h2,hg,aG,Mem.put,Mem.ν,ν,bo,lo]
   exact⟨_,wrap_u32 _,rfl⟩) fun s1 ⟨h1,x,hx,h2⟩=>?_
  refine Θ (M) (by
   simp[M,h1,h2,hg,aG,Mem.put,Mem.ν,ν,bo,lo]
   exact⟨_,wrap_u32 _,rfl⟩) fun s1 ⟨h1,x,hx,h2⟩=>?_
  refine Θ (fun st=>(st.e 0= .μ p 0/\st.mem= {ε:=B.set p (.cells (aG c bs n x)),ζ:=[]})/\st.e 3= .int .u32 (x.fdiv 8)) (by
   simp[h1,h2,hg,aG]
   rfl) fun s1 ⟨⟨h1,h2⟩,h3⟩=>?_
  have Vm:0<=x.fdiv 8/\x.fdiv 8<4294967296:=by rw[alF _ (by omega)];omega
  refine bP (fun st=>∃(x' r:Int) (n':Nat),n<=n'/\n'<=n+1/\0<=r/\r<4294967296/\st.mem= {ε:=B.set p (.cells (aG c bs n' x')),ζ:=[]}/\st.e 3= .int .u32 r) ?_ fun s2 ⟨x',r,n',q1,q2,q3,q4,q5,q6⟩=>?_
  ·by_cases gM:bs.length=0
   ·refine κ.done .normal (fun st=>st.mem= {ε:=B.set p (.cells (aG c bs n x)),ζ:=[]}/\st.e 3= .int .u32 (x.fdiv 8)) (by simp[h1,h2,h3,hg,aG,eB,gM]) fun s' ⟨e2,e3⟩=> .inl ⟨rfl,x,x.fdiv 8,n,bA _,by omega,Vm.1,Vm.2,e2,e3⟩
   ·have dt:(0:Int)<bs.length:=by omega
    have Uh:¬(bs.length:Int)=0:=by omega
    have ep:bs≠[]:=fun h=>gM (by rw[h];rfl);obtain⟨k,hk⟩:∃k:Nat,k=n % bs.length:=⟨_,rfl⟩;have χ:k<bs.length:=by rw[hk];exact lf _ (by omega)
    have A_:(n:Int).tmod bs.length=(k:Int):=by rw[JS (by omega),hk];simp
    have xn:(k:Int)<bs.length:=by omega
    obtain⟨b,rF⟩:∃b,bs[k]?=some b:=⟨_,dN χ⟩;have kN:(bs.map fun b:Nat=>AV.int .u8 (b:Int))[k]?=some (.int .u8 b):=by rw[nD,rF];rfl
    have nQ:bC .i64 ((n:Int)+1)=(n:Int)+1:=wrap_i64 (by omega) (by omega);refine Θ (fun st=>((st.e 0= .μ p 0/\st.mem= {ε:=B.set p (.cells (aG c bs n x)),ζ:=[]})/\st.e 3= .int .u32 (x.fdiv 8))/\st.e 50= .bool true) (by simp[h1,h2,h3,hg,aG,eB,dt,Nat.pos_of_ne_zero gM]) fun s2 ⟨⟨⟨h1,h2⟩,h3⟩,h4⟩=>?_;refine κ.yes (by simp[h4]) ?_;refine Θ (fun st=>(st.e 0= .μ p 0/\st.mem= {ε:=B.set p (.cells (aG c bs n x)),ζ:=[]})/\∃r:Int,(0<=r/\r<4294967296)/\st.e 3= .int .u32 r) (by
     simp[h1,h2,h3,hg,aG,eB,Uh,ep,A_,xn,kN]
     exact wrap_u32 _) fun s2 ⟨⟨h1,h2⟩,r,hr,h3⟩=>?_
    refine Θ (fun st=>(st.e 0= .μ p 0/\∃x:Int,st.mem= {ε:=B.set p (.cells (aG c bs n x)),ζ:=[]})/\st.e 3= .int .u32 r) (by
     simp[h1,h2,h3,hg,aG,eB,Uh,ep,A_,xn,kN,Mem.put,Mem.ν,ν,bo,lo]
     exact⟨_,rfl⟩) fun s2 ⟨⟨h1,x2,h2⟩,h3⟩=>?_
    refine κ.done .normal (fun st=>st.mem= {ε:=B.set p (.cells (aG c bs (n+1) x2)),ζ:=[]}/\st.e 3= .int .u32 r) (by simp[h1,h2,h3,hg,aG,eB,nQ,Mem.put,Mem.ν,ν,bo,lo]) fun s' ⟨e2,e3⟩=> .inl ⟨rfl,x2,r,n+1,by omega,bA _,hr.1,hr.2,e2,e3⟩
  ·refine κ.done .ret (fun st=>st.mem= {ε:=B.set p (.cells (aG c bs n' x')),ζ:=[]}/\st.e 2= .int .u32 r) (by simp[q5,q6]) fun s' ⟨m1,m2⟩=>⟨by simp,x',r,n',q1,q2,q3,q4,m1,m2⟩
 obtain⟨q,hx,h1,x',r,n',q1,q2,q3,q4,h2,h3⟩:=hr;exact⟨x',r,n',q1,q2,q3,q4,fun T=>oW (g:=Gr) rfl rfl rfl hp rfl ⟨q,hx,h1,⟨[],by simp[h2]⟩,[.int .u32 r],by simp[Gr,h3],rfl⟩ T⟩
theorem f121{c:ξ}{bs:List Nat}{B:List θ}{p:Nat}(hp:p<B.length)(hb:bs.length<=300)(n:Nat)(x k:Int)(hn:n<4000000000000000000):
  ∃(x' r:Int) (n':Nat),n<=n'/\n'<=n+1/\0<=r/\(0<k->r<k)/\(k<=0->r=0)/\∀T,kf u 121 [.μ p 0,.n k] {ε:=B.set p (.cells (aG c bs n x)),ζ:=T}=some (.n r,{ε:=B.set p (.cells (aG c bs n' x')),ζ:=T}):=by
 by_cases hk:k<=0
 ·refine⟨x,0,n,bA _,by omega,Int.le_refl _,fun h=>by omega,fun _=>rfl,fun T=>oW (g:=AG) rfl rfl rfl hp (by simp[exp]) ?_ T⟩;simp[AG,Kp,hk]
 ·obtain⟨x',r,n',q1,q2,q3,q4,q5⟩:=f182 (u:=u) (c:=c) (bs:=bs) hp hb n x hn;have hr:0<=r.fdiv 16/\r.fdiv 16<4294967296:=by rw[alF _ (by omega)];omega
  have hw:bC .i64 (r.fdiv 16)=r.fdiv 16:=wrap_i64 (by omega) (by omega);have oP:¬k=0:=by omega
  have ht:0<=(r.fdiv 16).tmod k/\(r.fdiv 16).tmod k<k:=by rw[JS hr.1];exact⟨Int.emod_nonneg _ oP,Int.emod_lt_of_pos _ (by omega)⟩
  refine⟨x',(r.fdiv 16).tmod k,n',q1,q2,ht.1,fun _=>ht.2,fun h=>absurd h hk,fun T=>oW (g:=AG) rfl rfl rfl hp (by simp[exp]) ?_ T⟩;have hm:(r.fdiv (2^Nat.min 4 IntKind.u32.bits):Int)=r.fdiv 16:=rfl;simp[AG,Kp,hk,q5,oP,hw,hm]
theorem f153{c:ξ}{bs:List Nat}{B:List θ}{p:Nat}(hp:p<B.length)(hb:bs.length<=300)(n:Nat)(x k:Int)(hn:n<4000000000000000000):
  ∃(x':Int) (r:Bool) (n':Nat),n<=n'/\n'<=n+1/\∀T,kf u 153 [.μ p 0,.n k] {ε:=B.set p (.cells (aG c bs n x)),ζ:=T}=some (.bool r,{ε:=B.set p (.cells (aG c bs n' x')),ζ:=T}):=by
 obtain⟨x',r,n',q1,q2,-,-,-,q5⟩:=f121 (u:=u) (c:=c) (bs:=bs) hp hb n x k hn;refine⟨x',r==0,n',q1,q2,fun T=>oW (g:=Gi) rfl rfl rfl hp (by simp[exp]) ?_ T⟩;simp[Gi,QX,q5]
theorem f119{c:ξ}{bs:List Nat}{B:List θ}{p:Nat}(hp:p<B.length)(hb:bs.length<=300)(n:Nat)(x lo hi:Int)(hn:n<4000000000000000000)(h1:0<=lo)(h2:lo<=hi)(h3:hi<1000000000):
  ∃(x' r:Int) (n':Nat),n<=n'/\n'<=n+1/\lo<=r/\r<=hi/\∀T,kf u 119 [.μ p 0,.n lo,.n hi] {ε:=B.set p (.cells (aG c bs n x)),ζ:=T}=some (.n r,{ε:=B.set p (.cells (aG c bs n' x')),ζ:=T}):=by
 obtain⟨x',r,n',q1,q2,q3,q4,-,q5⟩:=f121 (u:=u) (c:=c) (bs:=bs) hp hb n x (hi-lo+1) hn;have q4:=q4 (by omega);have e1:bC .i64 (hi-lo)=hi-lo:=wrap_i64 (by omega) (by omega);have e2:bC .i64 (hi-lo+1)=hi-lo+1:=wrap_i64 (by omega) (by omega);have e3:bC .i64 (lo+r)=lo+r:=wrap_i64 (by omega) (by omega);refine⟨x',lo+r,n',q1,q2,by omega,by omega,fun T=>oW (g:=Ga) rfl rfl rfl hp (by simp[exp]) ?_ T⟩;simp[Ga,c119,e1,e2,e3,q5]
attribute [local simp] qn
def bK(ps:Nat)(P:AV)(st:Int)(fr:Nat):List AV:=[.μ ps 0,P,.n st,.n fr]
theorem aaM:((List.range 128).all fun k=>decide ((Utf8.encode (k:Int)).data.toList.map UInt8.toNat=[k]))=true:=by kernel_rfl
theorem LA(k:Nat)(h:k<128):(Utf8.encode (k:Int)).data.toList.map UInt8.toNat=[k]:=by have:=dS.1 aaM k (List.mem_range.2 h);simpa using this
def bR(f:List Nat)(k:Nat):List Nat:=f++[118,97+k/26 % 26,97+k % 26]
theorem wrap_i32{n:Int}(h1:0<=n)(h2:n<2147483648):bC .i32 n=n:=by
 show(if(true&&decide (n % 4294967296≥2147483648))=true then n % 4294967296-4294967296 else n % 4294967296)=n;have:¬(n % 4294967296≥2147483648):=by omega
 simp only[this,decide_false,Bool.and_false,jI,if_false];omega
section
variable{B:List θ}{pm ps:Nat}(hm:pm<B.length)(hs:ps<B.length)(τ:pm≠ps)
include hm hs τ
theorem f120(P:AV)(st:Int)(fr:Nat)(dI:fr<4000000000000000000)(S:List AV)(f:List Nat)(hf:f.length<=10)(T:List Nat):
  kf u 120 [.μ pm 0,.str f] {ε:=(B.set pm (.cells (bK ps P st fr))).set ps (.cells S),ζ:=T}=some (.str (bR f (fr+1)),{ε:=(B.set pm (.cells (bK ps P st (fr+1)))).set ps (.cells S),ζ:=T}):=by
 rw[alG _ _ τ,alG _ _ τ];have hg:∀cs,((B.set ps (.cells S)).set pm (θ.cells cs))[pm]?=some (.cells cs):=fun cs=>by simp[hm]
 refine oW (g:=Gb) rfl rfl rfl (by simpa using hm) (by simp[exp]) ?_ T;generalize B.set ps (.cells S)=B2 at*;have e1:bC .i64 ((fr:Int)+1)=((fr+1:Nat):Int):=by rw[wrap_i64 (by omega) (by omega)];simp
 simp only[Gb,QT,bK];refine Θ (fun aL=>aL.e 0= .μ pm 0/\aL.e 1= .str f/\aL.mem= {ε:=B2.set pm (.cells [.μ ps 0,P,.n st,.n fr]),ζ:=[]}) (by simp) fun s1 ⟨h1,h2,h3⟩=>?_;refine Θ (fun aL=>aL.e 0= .μ pm 0/\aL.e 1= .str f/\aL.mem= {ε:=B2.set pm (.cells [.μ ps 0,P,.n st,.n ((fr+1:Nat):Int)]),ζ:=[]}) (by simp only[alH,uX]at e1⊢;simp[h1,h2,h3,hg,e1,Mem.put,Mem.ν,ν,bo,lo]) fun s1 ⟨h1,h2,h3⟩=>?_;obtain⟨k,hk⟩:∃k,k=fr+1:=⟨_,rfl⟩;rw[<-hk]at h3⊢;have gE:k<4000000000000000001:=by omega
 obtain⟨a,ha⟩:∃a,a=k/26 % 26:=⟨_,rfl⟩;obtain⟨b,hb⟩:∃b,b=k % 26:=⟨_,rfl⟩;have q1:bC .i64 ((k:Int).tdiv 26)=((k/26:Nat):Int):=by
  have:(k:Int).tdiv 26=((k/26:Nat):Int):=by rw[Int.tdiv_eq_ediv_of_nonneg (by omega)];simp
  rw[this,wrap_i64 (by omega) (by omega)]
 have q1':bC .i64 ((k:Int)/26)=((k/26:Nat):Int):=by rw[show(k:Int)/26=((k/26:Nat):Int) by simp,wrap_i64 (by omega) (by omega)]
 have q2:((k/26:Nat):Int).tmod 26=(a:Int):=by rw[JS (by omega),ha];simp
 have q3:(k:Int).tmod 26=(b:Int):=by rw[JS (by omega),hb];simp
 have q4:bC .i64 (97+(a:Int))=((97+a:Nat):Int):=by rw[wrap_i64 (by omega) (by omega)];simp
 have q5:bC .i64 (97+(b:Int))=((97+b:Nat):Int):=by rw[wrap_i64 (by omega) (by omega)];simp
 have q6:bC .i32 ((97+a:Nat):Int)=((97+a:Nat):Int):=wrap_i32 (by omega) (by omega);have q7:bC .i32 ((97+b:Nat):Int)=((97+b:Nat):Int):=wrap_i32 (by omega) (by omega);have q8:=LA (97+a) (by omega);have q9:=LA (97+b) (by omega);have z8:(Utf8.encode ((97+a:Nat):Int)).size=1:=by have:=congrArg ki q8;simpa using this
 have z9:(Utf8.encode ((97+b:Nat):Int)).size=1:=by have:=congrArg ki q9;simpa using this
 have n1:¬(9223372036854775807:Int)<(f.length:Int)+1:=by omega
 have n2:¬(9223372036854775807:Int)<(f.length:Int)+1+1:=by omega
 have n3:¬(9223372036854775807:Int)<(f.length:Int)+2+1:=by omega
 have hT:bR f k=f++[118,97+a,97+b]:=by rw[bR,ha,hb]
 rw[hT];generalize hqa:((k/26:Nat):Int)=kq at*;generalize Bb:((97+a:Nat):Int)=na at*;generalize vE:((97+b:Nat):Int)=nb at*;simp[h1,h2,h3,hg,q1,q1',q2,q3,q4,q5,q6,q7,q8,q9,z8,z9,n1,n2,n3]
end
theorem D7{f:FuncId}{g:AF}{args:List AV}{B B':List θ}{v:AV}(h1:(C u).iX f=none)(h2:(C u).fs f=some g)(h3:(C u).bm f=false)(hl:B'.length=B.length)(hx:args.map (exp B.length false)=args)
  (hr:κ (C u).gl (ah (C u)) g.code {env:=args,loc:=[],mem:= {ε:=B,ζ:=[]}} fun r=>(∀i,r.1≠ .exit i)/\(∃bs,r.2.mem= {ε:=B'++bs,ζ:=[]})/\∃l,cH r.2 g.results=some l/\aK r.2.mem.ε B.length 8 (cJ l)=v) (T:List Nat):
  ah (C u) (.fn (.func f) [] []) args {ε:=B,ζ:=T}=some (v,{ε:=B',ζ:=T}):=by
 refine kz h1 h2 h3 hl ?_;have eJ:([]++args++[]).map (exp B.length false)=args:=by simp only[bG,de,hx]
 dsimp only;rw[eJ];exact hr
inductive cW (ts:List (List Nat)):Nat->η->Prop
 |fix {s:Nat} {n:Int} (h1:0<=n) (h2:n<100):cW ts s (.mk 1 n [] .nil [])
 |dR {s:Nat} {t:List Nat} (h:t∈ts):cW ts s (.mk 2 0 t .nil [])
 |bin {s:Nat} {k:Int} {a b:η} (h0:1<=s) (h1:3<=k) (h2:k<=5) (ha:cW ts s a) (hb:cW ts s b):cW ts (s+2) (.mk k 0 [] .any [a,b])
theorem cW.mono{ts:List (List Nat)}{s:Nat}{i:η}(h:cW ts s i):∀{s':Nat},s<=s'->cW ts s' i:=by
 induction h with
 |fix h1 h2=>exact fun _=> .fix h1 h2
 |dR h=>exact fun _=> .dR h
 |@bin s k a b h0 h1 h2 ha hb dK gu=>
  intro s' hs
  obtain⟨r,rfl⟩:∃r,s'=r+2:=⟨s'-2,by omega⟩;exact .bin (by omega) h1 h2 (dK (by omega)) (gu (by omega))
theorem cW.fx{ts:List (List Nat)}{s:Nat}{i:η}(h:cW ts s i):Dv i.av i.av:=by
 induction h with
 |fix _ _=>exact .agg (.cons (.int _ _) (.cons (.int _ _) (.cons (.str _) (.cons (.list .nil .nil) .nil))))
 |dR _=>exact .agg (.cons (.int _ _) (.cons (.int _ _) (.cons (.str _) (.cons (.list .nil .nil) .nil))))
 |bin _ _ _ _ _ dK gu=>exact .agg (.cons (.int _ _) (.cons (.int _ _) (.cons (.str _) (.cons (Dv.list .any (.cons dK (.cons gu .nil))) .nil))))
theorem cW.ry{ts:List (List Nat)}{s:Nat}{i:η}(h:cW ts s i):ν (.agg i.four)= .agg i.four:=by have:=h.fx.ν;rwa[η.iM]at this
def kK:Nat->Nat
 |0=>5
 |1=>5
 |s+2=>5+2*kK s
theorem aaq:∀s,5<=kK s
 |0=>by simp[kK]
 |1=>by simp[kK]
 |s+2=>by simp[kK]
theorem So:∀s,kK s<=kK (s+1)
 |0=>by simp[kK]
 |1=>by simp[kK]
 |s+2=>by have:=So s;simp only[kK];omega
theorem Sn{a b:Nat}(h:a<=b):kK a<=kK b:=by
 induction h with
 |refl=>exact bA _
 |step _ ih=>exact uZ ih (So _)
theorem wM{gl:Nat->AV}{cv:cu}{a:AC}{s:St}{P Q:St->Prop}(h:∃s',exec gl cv dL a s=some (.normal,s')/\P s')(k:∀s',P s'->Q s'):∃s',exec gl cv dL a s=some (.normal,s')/\Q s':=by obtain⟨s',h1,h2⟩:=h;exact⟨s',h1,k s' h2⟩
section
variable{B:List θ}{pm ps:Nat}(hm:pm<B.length)(hs:ps<B.length)(τ:pm≠ps){c:ξ}{bs:List Nat}(hb:bs.length<=300)
include hm hs τ hb
theorem f83(ct:ξ)(xb:br ct)(ts:List (List Nat))(P:AV)(st:Int)(fr:Nat):∀(s:Nat),s<=9->∀(n:Nat) (x:Int),n+kK s<4000000000000000000→
  ∃(x':Int) (n':Nat) (i:η),n<=n'/\n'<=n+kK s/\cW ts s i/\∀T,kf u 83 [.μ pm 0,.n (s:Int),aX ct ts] {ε:=(B.set pm (.cells (bK ps P st fr))).set ps (.cells (aG c bs n x)),ζ:=T}=some (i.av,{ε:=(B.set pm (.cells (bK ps P st fr))).set ps (.cells (aG c bs n' x')),ζ:=T}):=by
 intro s;induction s using Nat.strongRecOn with
 |ind s ih=>
 intro hs9 n x hn
 have qp:ps<(B.set pm (.cells (bK ps P st fr))).length:=by simpa using hs
 have HK:∀S,((B.set pm (.cells (bK ps P st fr))).set ps S)[pm]?=some (.cells (bK ps P st fr)):=fun S=>by rw[gR (Ne.symm τ)];simp[hm]
 have hlen:∀S,((B.set pm (.cells (bK ps P st fr))).set ps S).length=B.length:=fun S=>by simp
 generalize Hs:B.set pm (.cells (bK ps P st fr))=B2 at*;have hr:κ (C u).gl (ah (C u)) KF {env:=[.μ pm 0,.n (s:Int),aX ct ts],loc:=[],mem:= {ε:=B2.set ps (.cells (aG c bs n x)),ζ:=[]}} fun q=>(∀i,q.1≠ .exit i)/\∃(x':Int) (n':Nat) (i:η),n<=n'/\n'<=n+kK s/\cW ts s i/\q.2.mem= {ε:=B2.set ps (.cells (aG c bs n' x')),ζ:=[]}/\aI q.2.env 6= .aj 6 0 0/\∃L,bQ q.2.loc 6=some (0,.cells L)/\L.length=4/\Dv (.agg L) i.av:=by
  unfold KF;let K:Nat->Int->St->Prop:=fun n x st=>(st.e 0= .μ pm 0/\st.e 1= .n (s:Int)/\st.e 2=aX ct ts)/\st.mem= {ε:=B2.set ps (.cells (aG c bs n x)),ζ:=[]}/\st.e 6= .aj 6 0 0/\st.q 6=some (0,.cells z0.four);refine Θ (fun st=>K n x st/\st.q 7=none) (by simp[K,bL,z0,η.four,η.ψ]) fun s1 ⟨⟨⟨h1,h2,h3⟩,h4,h5,h6⟩,h7⟩=>?_;have oK:=aaq s;have qA:∀S,(B2.set ps S)[pm]?=some (.cells [.μ ps 0,P,.n st,.n fr]):=HK;refine bP (fun st=>∃n2 x2,(n<=n2/\n2<=n+2)/\K n2 x2 st) (κ.block ?_) fun s2 ⟨n2,x2,⟨b1,b2⟩,⟨h1,h2,h3⟩,h4,h5,h6⟩=>?_
  ·refine Θ (fun st=>∃n1 x1 t,(n<=n1/\n1<=n+1/\(t=true->2<s))/\(K n1 x1 st/\st.q 7=none)/\st.e 8= .bool t) ?_ fun s2 ⟨n1,x1,t,⟨a1,a2,a3⟩,⟨⟨⟨h1,h2,h3⟩,h4,h5,h6⟩,h7⟩,h8⟩=>?_
   ·by_cases Ty:2<s
    ·obtain⟨x1,t,n1,a1,a2,q⟩:=f153 (u:=u) (c:=c) (bs:=bs) qp hb n x 3 (by omega);have Me:(2:Int)<s:=by omega
     exact wM (P:=fun st=>(K n1 x1 st/\st.q 7=none)/\st.e 8= .bool t) (by simp[K,h1,h2,h3,h4,h5,h6,h7,Me,qA,q]) fun s' h=>⟨n1,x1,t,⟨a1,a2,fun _=>Ty⟩,h⟩
    ·have Me:¬(2:Int)<s:=by omega
     exact wM (P:=fun st=>(K n x st/\st.q 7=none)/\st.e 8= .bool false) (by simp[K,h1,h2,h3,h4,h5,h6,h7,Me]) fun s' h=>⟨n,x,false,⟨bA _,by omega,fun h=>by cases h⟩,h⟩
   cases t with
   |true=>
    have Ty:=a3 rfl
    obtain⟨r,rfl⟩:∃r,s=r+2:=⟨s-2,by omega⟩;simp only[kK]at hn oK⊢;refine κ.yes (by simp[h8]) ?_;have di:bC .i64 (((r+2:Nat):Int)-2)=(r:Int):=by rw[wrap_i64 (by omega) (by omega)];omega
    have Vf:bC .i64 (r:Int)=(r:Int):=wrap_i64 (by omega) (by omega);obtain⟨x2,k1,n2,c1,c2,c3,c4,q1⟩:=f119 (u:=u) (c:=c) (bs:=bs) qp hb n1 x1 1 r (by omega) (by omega) (by omega) (by omega);obtain⟨k1,rfl⟩:∃k:Nat,k1=k:=⟨k1.toNat,by omega⟩;have hdk:=Sn (a:=k1) (b:=r) (by omega);obtain⟨x3,n3,a,d1,d2,d3,q2⟩:=ih k1 (by omega) (by omega) n2 x2 (by omega);obtain⟨x4,k2,n4,e1,e2,e3,e4,q3⟩:=f119 (u:=u) (c:=c) (bs:=bs) qp hb n3 x3 3 5 (by omega) (by omega) (by omega) (by omega);obtain⟨x5,k3,n5,g1,g2,g3,g4,q4⟩:=f119 (u:=u) (c:=c) (bs:=bs) qp hb n4 x4 1 r (by omega) (by omega) (by omega) (by omega);obtain⟨k3,rfl⟩:∃k:Nat,k3=k:=⟨k3.toNat,by omega⟩;have akP:=Sn (a:=k3) (b:=r) (by omega);obtain⟨x6,n6,b,l1,l2,l3,q5⟩:=ih k3 (by omega) (by omega) n5 x5 (by omega);have TW:=η.fR a;have yI:=η.fR b;have ij:a.four.take 4=a.four:=fw (by omega);simp only[η.iM]at q2 q5;refine Θ (fun st=>(K n3 x3 st/\st.e 7= .aj 7 0 0)/\st.q 7=some (0,.cells a.four)) (by simp[K,h1,h2,h3,h4,h5,h6,h7,qA,di,Vf,q1,q2,bL,TW,ij]) fun s3 ⟨⟨⟨⟨h1,h2,h3⟩,h4,h5,h6⟩,h7⟩,h8⟩=>?_;have h6:s3.q 6=some (0,.cells [.n 0,.n 0,.str [],.list .nil []]):=h6;refine Θ (fun st=>(st.mem= {ε:=B2.set ps (.cells (aG c bs n6 x6)),ζ:=[]}/\st.e 6= .aj 6 0 0)/\st.q 6=some (0,.cells [.n k2,.n 0,.str [],.list .full [.agg a.four,.agg b.four]])) (by simp[h1,h2,h3,h4,h5,h6,h7,h8,qA,di,Vf,q3,q4,q5,TW,yI,ij,cZ,c8,nO,dp,shaped,Mem.ν,d3.ry,l3.ry]) fun s4 ⟨⟨m1,m2⟩,m3⟩=>?_;refine κ.done .ret (fun st=>st.mem= {ε:=B2.set ps (.cells (aG c bs n6 x6)),ζ:=[]}/\st.e 6= .aj 6 0 0/\st.q 6=some (0,.cells [.n k2,.n 0,.str [],.list .full [.agg a.four,.agg b.four]])) (by simp[m1,m2,m3]) fun s' ⟨e1,e2,e3⟩=> .inr ⟨by simp,.inr ⟨by simp,by simp,x6,n6,.mk k2 0 [] .any [a,b],by omega,by omega,.bin (by omega) (by omega) (by omega) (d3.mono (by omega)) (l3.mono (by omega)),e1,e2,_,e3,rfl,?_⟩⟩;have ha:Dv (.agg a.four) a.av:=by rw[<-η.iM];exact d3.fx
    have hb:Dv (.agg b.four) b.av:=by rw[<-η.iM];exact l3.fx
    exact .agg (.cons (.int _ _) (.cons (.int _ _) (.cons (.str _) (.cons (Dv.list .full (.cons ha (.cons hb .nil))) .nil))))
   |false=>
    refine κ.no (by simp[h8]) ?_
    have tl:(ts.map AV.str).length=ts.length:=cF _;refine Θ (fun st=>∃n2 x2 t,(n1<=n2/\n2<=n1+1/\(t=true->0<ts.length))/\K n2 x2 st/\st.e 46= .bool t) ?_ fun s3 ⟨n2,x2,t,⟨b1,b2,b3⟩,⟨⟨h1,h2,h3⟩,h4,h5,h6⟩,h9⟩=>?_
    ·simp only[aX]at h3;by_cases uv:0<ts.length
     ·obtain⟨x2,t,n2,b1,b2,q⟩:=f153 (u:=u) (c:=c) (bs:=bs) qp hb n1 x1 2 (by omega);exact wM (P:=fun st=>K n2 x2 st/\st.e 46= .bool t) (by simp[K,aX,h1,h2,h3,h4,h5,h6,h7,uv,qA,q]) fun s' h=>⟨n2,x2,t,⟨b1,b2,fun _=>uv⟩,h⟩
     ·exact wM (P:=fun st=>K n1 x1 st/\st.e 46= .bool false) (by simp[K,aX,h1,h2,h3,h4,h5,h6,h7,uv]) fun s' h=>⟨n1,x1,false,⟨bA _,by omega,fun h=>by cases h⟩,h⟩
    cases t with
    |true=>
     have uv:=b3 rfl
     obtain⟨x3,r,n3,c1,c2,c3,c4,-,q⟩:=f121 (u:=u) (c:=c) (bs:=bs) qp hb n2 x2 ts.length (by omega);have c4:=c4 (by omega);obtain⟨r,rfl⟩:∃k:Nat,r=k:=⟨r.toNat,by omega⟩;obtain⟨w,hw⟩:∃w,ts[r]?=some w:=⟨_,dN (by omega)⟩;have lz:w∈ts:=alI hw;have kN:(ts.map AV.str)[r]?=some (.str w):=by rw[nD,hw];rfl
     simp only[aX]at h3;have h6:s3.q 6=some (0,.cells [.n 0,.n 0,.str [],.list .nil []]):=h6;refine κ.yes (by simp[h9]) (κ.done .ret (fun st=>st.mem= {ε:=B2.set ps (.cells (aG c bs n3 x3)),ζ:=[]}/\st.e 6= .aj 6 0 0/\st.q 6=some (0,.cells [.n 2,.n 0,.str w,.list .nil []])) (by simp[h1,h2,h3,h4,h5,h6,qA,q,kN,c4,dp]) fun s' ⟨e1,e2,e3⟩=> .inr ⟨by simp,.inr ⟨by simp,by simp,x3,n3,.mk 2 0 w .nil [],by omega,by omega,.dR lz,e1,e2,_,e3,rfl,(cW.dR (ts:=ts) (s:=0) lz).fx⟩⟩)
    |false=>refine κ.no (by simp[h9]) (κ.done .normal (K n2 x2) (by simp[K,h1,h2,h3,h4,h5,h6]) fun s' h=> .inr ⟨by simp,.inl ⟨rfl,n2,x2,⟨by omega,by omega⟩,h⟩⟩)
  ·obtain⟨x3,r,n3,c1,c2,c3,c4,-,q⟩:=f121 (u:=u) (c:=c) (bs:=bs) qp hb n2 x2 3 (by omega);have c4:=c4 (by omega);obtain⟨mx,jM,Ns,UL⟩:∃mx:Int,(r=0/\mx=3\/r=1/\mx=9\/r=2/\mx=100)/\0<mx/\mx<=100:=by
    have:r=0\/r=1\/r=2:=by omega
    rcases this with rfl|rfl|rfl
    ·exact⟨3,by omega,by omega,by omega⟩
    ·exact⟨9,by omega,by omega,by omega⟩
    ·exact⟨100,by omega,by omega,by omega⟩
   obtain⟨x4,v,n4,d1,d2,d3,d4,-,q2⟩:=f121 (u:=u) (c:=c) (bs:=bs) qp hb n3 x3 mx (by omega);have d4:=d4 Ns;have h6:s2.q 6=some (0,.cells [.n 0,.n 0,.str [],.list .nil []]):=h6;refine Θ (fun st=>st.mem= {ε:=B2.set ps (.cells (aG c bs n4 x4)),ζ:=[]}/\st.e 6= .aj 6 0 0/\st.q 6=some (0,.cells [.n 1,.n v,.str [],.list .nil []])) (by rcases jM with⟨rfl,rfl⟩|⟨rfl,rfl⟩|⟨rfl,rfl⟩<;>simp[h1,h2,h3,h4,h5,h6,qA,q,q2,dp,cZ,c8,nO,shaped,AV.one,Mem.ν,ν]) fun s3 ⟨m1,m2,m3⟩=>?_;refine κ.done .ret (fun st=>st.mem= {ε:=B2.set ps (.cells (aG c bs n4 x4)),ζ:=[]}/\st.e 6= .aj 6 0 0/\st.q 6=some (0,.cells [.n 1,.n v,.str [],.list .nil []])) (by simp[m1,m2,m3]) fun s' ⟨e1,e2,e3⟩=>⟨by simp,x4,n4,.mk 1 v [] .nil [],by omega,by omega,.fix d3 (by omega),e1,e2,_,e3,rfl,(cW.fix (ts:=ts) (s:=0) (n:=v) d3 (by omega)).fx⟩
 obtain⟨q,hx,h1,x',n',i,q1,q2,q3,h2,h3,h4⟩:=hr;refine⟨x',n',i,q1,q2,q3,fun T=>?_⟩;obtain⟨L,h4,hL,hD⟩:=h4;have iG:[AV.n (s:Int),aX ct ts].map (exp B2.length false)=[AV.n (s:Int),aX ct ts]:=by simp only[aA,aP,wN xb,exp]
 refine D7 (u:=u) (f:=83) (g:=Hk) (B:=B2.set ps (.cells (aG c bs n x))) (B':=B2.set ps (.cells (aG c bs n' x'))) (args:=[.μ pm 0,.n (s:Int),aX ct ts]) rfl rfl rfl (by simp) (by
  have:pm<(B2.set ps (.cells (aG c bs n x))).length:=by rw[hlen];exact hm
  simp only[aA,aP,exp,this,if_true,wN xb]) ⟨q,hx,h1,⟨[],by simp[h2]⟩,[.agg L],?_,?_⟩ T
 ·have:L.take 4=L:=fw (by omega);simp[Hk,h3,h4,hL,this]
 ·rw[h2];exact hD.aK _ _ _
end
theorem f183(g:Int)(hg:1<=g/\g<=12)(m:Mem):kf u 183 [.n g] m=some (.n (fL g),m):=by
 refine eN (g:=AJ) rfl rfl rfl ?_;by_cases h1:g<=8
 ·simp[AJ,c183,exp,fL,h1,hg.1]
 ·by_cases h2:g<=11
  ·have h3:9<=g:=by omega
   have h4:¬g=13:=by omega
   have h5:¬g=14:=by omega
   simp[AJ,c183,exp,fL,h1,hg.1,h2,h3,h4,h5]
  ·have h3:g=12:=by omega
   subst h3;simp[AJ,c183,exp,fL]
structure fZ (rs ts:List (List Nat)) (p:ρ):Prop where
 nm:p.name∈rs
 len:p.ix.length<=2
 qL:∀i∈p.ix,cW ts 4 i
 cp:p.c=if p.ix=[]then .nil else .any
def rA(b:Nat)(l:List η):AV:= .list (if l=[]then .nil else .own b) (l.map fun i=> .agg i.four)
def ve(n:Nat):List θ:=if n=0 then[]else[.front n 4 27]
section
variable{B:List θ}{pm ps:Nat}(hm:pm<B.length)(hs:ps<B.length)(τ:pm≠ps){c:ξ}{bs:List Nat}(hb:bs.length<=300)
include hm hs τ hb
theorem f184(cr ct:ξ)(oJ:br cr)(xb:br ct)(rs ts:List (List Nat))(NO:rs≠[])(H_:rs.length<1000000000)(X Y:AV)(hX:exp B.length false X=X)(hY:exp B.length false Y=Y)(P:AV)(st:Int)(fr:Nat)(n:Nat)(x:Int)(hn:n<3000000000000000000):
  ∃(x':Int) (n':Nat) (p:ρ),n<=n'/\n'<=n+72/\fZ rs ts p/\∀T,kf u 184 [.μ pm 0,.agg [aX cr rs,X,Y,aX ct ts]] {ε:=(B.set pm (.cells (bK ps P st fr))).set ps (.cells (aG c bs n x)),ζ:=T}=some (p.av,{ε:=(B.set pm (.cells (bK ps P st fr))).set ps (.cells (aG c bs n' x')),ζ:=T}):=by
 have qp:ps<(B.set pm (.cells (bK ps P st fr))).length:=by simpa using hs
 have HK:∀S,((B.set pm (.cells (bK ps P st fr))).set ps S)[pm]?=some (.cells (bK ps P st fr)):=fun S=>by rw[gR (Ne.symm τ)];simp[hm]
 have hlen:∀S,((B.set pm (.cells (bK ps P st fr))).set ps S).length=B.length:=fun S=>by simp
 have SV:=f83 (u:=u) (B:=B) hm hs τ (c:=c) hb ct xb ts P st fr 4 (by omega);have HF:kK 4=35:=rfl;have aa3:∀(F:θ) (n:Nat) (x:Int),n<3900000000000000000->∃(x':Int) (n':Nat) (i:η),n<=n'/\n'<=n+35/\cW ts 4 i/\∀T,kf u 83 [.μ pm 0,.n 4,aX ct ts] {ε:=(B.set pm (.cells (bK ps P st fr))).set ps (.cells (aG c bs n x))++[F],ζ:=T}=some (i.av,{ε:=(B.set pm (.cells (bK ps P st fr))).set ps (.cells (aG c bs n' x'))++[F],ζ:=T}):=by intro F n x hn;have:=f83 (u:=u) (B:=B++[F]) (pm:=pm) (ps:=ps) (by simp;omega) (by simp;omega) τ (c:=c) hb ct xb ts P st fr 4 (by omega) n x (by omega);simpa only[mT _ _ hm,mT _ _ qp,HF,uX]using this
 simp only[HF,uX]at SV;generalize Hs:B.set pm (.cells (bK ps P st fr))=B2 at*;have CX:B2.length=B.length:=by rw[<-Hs];simp
 obtain⟨x1,r,n1,a1,a2,a3,a4,-,q1⟩:=f121 (u:=u) (c:=c) (bs:=bs) qp hb n x rs.length (by omega);have hr0:0<rs.length:=List.length_pos_iff.2 NO;have a4:=a4 (by omega);obtain⟨r,rfl⟩:∃k:Nat,r=k:=⟨r.toNat,by omega⟩;have a4':r<rs.length:=by omega
 obtain⟨w,hw⟩:∃w,rs[r]?=some w:=⟨_,dN (by omega)⟩;have lz:w∈rs:=alI hw;have kN:(rs.map AV.str)[r]?=some (.str w):=by rw[nD,hw];rfl
 obtain⟨x2,k,n2,b1,b2,b3,b4,-,q2⟩:=f121 (u:=u) (c:=c) (bs:=bs) qp hb n1 x1 3 (by omega);have b4:=b4 (by omega);obtain⟨k,rfl⟩:∃j:Nat,k=j:=⟨k.toNat,by omega⟩;have hr:κ (C u).gl (ah (C u)) Ks {env:=[.μ pm 0,.agg [aX cr rs,X,Y,aX ct ts]],loc:=[],mem:= {ε:=B2.set ps (.cells (aG c bs n x)),ζ:=[]}} fun q=>(∀i,q.1≠ .exit i)/\∃(x':Int) (n':Nat) (l:List η),n<=n'/\n'<=n+72/\l.length<=2/\(∀i∈l,cW ts 4 i)/\q.2.mem= {ε:=B2.set ps (.cells (aG c bs n' x'))++ve l.length,ζ:=[]}/\aI q.2.env 4= .aj 4 0 0/\bQ q.2.loc 4=some (0,.cells [.str w,rA B.length l]):=by
  unfold Ks;let S4:St->Prop:=fun st=>st.e 0= .μ pm 0/\st.e 3= .aj 3 0 0/\st.q 3=some (0,.cells [aX cr rs,X,Y,aX ct ts])/\st.e 4= .aj 4 0 0/\st.q 4=some (0,.cells [.str [],.list .nil []]);refine Θ (fun st=>S4 st/\st.q 5=none/\st.mem= {ε:=B2.set ps (.cells (aG c bs n x)),ζ:=[]}) (by simp[S4,bL]) fun s1 ⟨⟨h0,h3,ft,h4,lH⟩,h5,dA⟩=>?_;refine Θ (fun st=>S4 st/\st.mem= {ε:=B2.set ps (.cells (aG c bs n1 x1)),ζ:=[]}/\st.e 5= .aj 5 0 0/\st.q 5=some (0,.cells [.str w,.list .nil []])) (by simp[S4,h0,h3,ft,h4,lH,h5,dA,HK,bK,aX,q1,a4,kN,dp,bL,cZ,pC,c8,eZ]) fun s2 ⟨⟨h0,h3,ft,h4,lH⟩,dA,h5,ig⟩=>?_;refine bP (fun st=>∃(x':Int) (n':Nat) (l:List η),n<=n'/\n'<=n+72/\l.length<=2/\(∀i∈l,cW ts 4 i)/\S4 st/\st.mem= {ε:=B2.set ps (.cells (aG c bs n' x'))++ve l.length,ζ:=[]}/\st.e 5= .aj 5 0 0/\st.q 5=some (0,.cells [.str w,rA B.length l])) ?_ fun s3 ⟨x',n',l,l1,l2,l3,l4,⟨h0,h3,ft,h4,lH⟩,dA,h5,ig⟩=>?_
  ·refine Θ (fun st=>S4 st/\st.mem= {ε:=B2.set ps (.cells (aG c bs n2 x2)),ζ:=[]}/\st.e 5= .aj 5 0 0/\st.q 5=some (0,.cells [.str w,.list .nil []])/\st.e 23= .n k/\st.e 24= .n 0) (by simp[S4,h0,h3,ft,h4,lH,h5,ig,dA,HK,bK,q2]) fun s3 ⟨⟨h0,h3,ft,h4,lH⟩,dA,h5,ig,CW,wZ⟩=>?_;let I:Nat->St->Prop:=fun i st=>∃(x':Int) (n':Nat) (l:List η),n<=n'/\n'<=n+2+35*i/\l.length=i/\(∀y∈l,cW ts 4 y)/\S4 st/\st.mem= {ε:=B2.set ps (.cells (aG c bs n' x'))++ve l.length,ζ:=[]}/\st.e 5= .aj 5 0 0/\st.q 5=some (0,.cells [.str w,rA B.length l])/\st.e 23= .n k/\st.e 24= .n (i:Int);refine κ.block (κ.kD (I:=I) k ⟨x2,n2,[],by omega,by omega,rfl,by simp,⟨h0,h3,ft,h4,lH⟩,by simp[ve,dA],h5,by simpa[rA]using ig,CW,wZ⟩ fun i st hi ⟨x',n',l,l1,l2,l3,l4,⟨h0,h3,ft,h4,lH⟩,dA,h5,ig,CW,wZ⟩=>?_);unfold VL;by_cases ug:i<k
   ·have HN:(i:Int)<k:=by omega
    have nQ:bC .i64 ((i:Int)+1)=((i+1:Nat):Int):=by rw[wrap_i64 (by omega) (by omega)];simp
    have jg:i=0\/i=1:=by omega
    have w1:bC .i64 1=1:=wrap_i64 (by omega) (by omega);have w2:bC .i64 2=2:=wrap_i64 (by omega) (by omega);rcases jg with rfl|rfl
    ·obtain rfl:l=[]:=List.length_eq_zero_iff.1 l3;simp only[ve,rA,eI,if_true,de,aP]at dA ig;obtain⟨x3,n3,y,d1,d2,d3,q3⟩:=SV n' x' (by omega);have dO:=Qs {ε:=B2.set ps (.cells (aG c bs n3 x3)),ζ:=[]} y.fR d3.ry;simp only[mS,Mem.push,CX]at dO;simp only[η.iM]at q3;refine κ.done .normal (fun st=>S4 st/\st.mem= {ε:=B2.set ps (.cells (aG c bs n3 x3))++[.front 1 4 27],ζ:=[]}/\st.e 5= .aj 5 0 0/\st.q 5=some (0,.cells [.str w,.list (.own B.length) [.agg y.four]])/\st.e 23= .n k/\st.e 24= .n 1) (by simp[S4,h0,h3,ft,h4,lH,h5,ig,dA,CW,wZ,HN,ug,w1,w2,q3,dO,shaped,Mem.ν,d3.ry,η.fR,cZ,c8,eZ]) fun s' ⟨g1,g2,g3,g4,g5,g6⟩=> .inl ⟨rfl,ug,x3,n3,[y],by omega,by omega,rfl,by simpa using d3,g1,g2,g3,by simpa[rA]using g4,g5,g6⟩
    ·have h1k:(1:Int)<k:=by omega
     obtain⟨y0,rfl⟩:∃y,l=[y]:=List.length_eq_one_iff.1 l3;have DS:=l4 y0 (by simp);simp only[ve,rA,List.length_singleton,List.cons_ne_nil,if_false,aA,aP,Nat.one_ne_zero]at dA ig;obtain⟨x3,n3,y,d1,d2,d3,q3⟩:=aa3 (.front 1 4 27) n' x' (by omega);have dO:=Qt (B2.set ps (.cells (aG c bs n3 x3))) [] y0.fR y.fR d3.ry;simp only[mS,CX]at dO;simp only[η.iM]at q3;refine κ.done .normal (fun st=>S4 st/\st.mem= {ε:=B2.set ps (.cells (aG c bs n3 x3))++[.front 2 4 27],ζ:=[]}/\st.e 5= .aj 5 0 0/\st.q 5=some (0,.cells [.str w,.list (.own B.length) [.agg y0.four,.agg y.four]])/\st.e 23= .n k/\st.e 24= .n 2) (by simp[S4,h0,h3,ft,h4,lH,h5,ig,dA,CW,wZ,HN,h1k,ug,w1,w2,q3,dO,shaped,Mem.ν,d3.ry,η.fR,cZ,c8,eZ]) fun s' ⟨g1,g2,g3,g4,g5,g6⟩=> .inl ⟨rfl,ug,x3,n3,[y0,y],by omega,by omega,rfl,by simpa using⟨DS,d3⟩,g1,g2,g3,by simpa[rA]using g4,g5,g6⟩
   ·have HN:¬(i:Int)<k:=by omega
    refine κ.done (.exit 0) (fun st=>S4 st/\st.mem= {ε:=B2.set ps (.cells (aG c bs n' x'))++ve l.length,ζ:=[]}/\st.e 5= .aj 5 0 0/\st.q 5=some (0,.cells [.str w,rA B.length l])) (by simp[S4,h0,h3,ft,h4,lH,h5,ig,dA,CW,wZ,HN]) fun s' ⟨g1,g2,g3,g4⟩=> .inr ⟨by simp,.inl ⟨rfl,.inl ⟨rfl,x',n',l,by omega,by omega,by omega,l4,g1,g2,g3,g4⟩⟩⟩
  ·refine κ.done .ret (fun st=>st.mem= {ε:=B2.set ps (.cells (aG c bs n' x'))++ve l.length,ζ:=[]}/\st.e 4= .aj 4 0 0/\st.q 4=some (0,.cells [.str w,rA B.length l])) (by simp[h0,h3,ft,h4,lH,h5,ig,dA]) fun s' ⟨g1,g2,g3⟩=>⟨by simp,x',n',l,l1,l2,l3,l4,g1,g2,g3⟩
 obtain⟨q,hx,h1,x',n',l,l1,l2,l3,l4,h2,h3,h4⟩:=hr;refine⟨x',n',⟨w,if l=[]then .nil else .any,l⟩,l1,l2,⟨lz,l3,l4,rfl⟩,fun T=>?_⟩;refine D7 (u:=u) (f:=184) (g:=Gs) (B:=B2.set ps (.cells (aG c bs n x))) (B':=B2.set ps (.cells (aG c bs n' x'))) (args:=[.μ pm 0,.agg [aX cr rs,X,Y,aX ct ts]]) rfl rfl rfl (by simp) (by
  have:pm<(B2.set ps (.cells (aG c bs n x))).length:=by rw[hlen];exact hm
  simp only[aA,aP,exp,bn,hm,if_true,wN xb,wN oJ,hlen,hX,hY]) ⟨q,hx,h1,⟨ve l.length,h2⟩,[.agg [.str w,rA B.length l]],?_,?_⟩ T
 ·simp[Gs,h3,h4]
 ·rw[h2];have hD:bS (l.map fun i=>AV.agg i.four) (l.map η.av):=by
   clear h4 h2 l3 l1 l2;induction l with
   |nil=>exact .nil
   |cons a l ih=>exact .cons (by have:=(l4 a (by simp)).fx;show Dv (AV.agg a.four) a.av;rw[<-η.iM];exact this) (ih fun i hi=>l4 i (by simp[hi]))
  have:Dv (.agg [.str w,rA B.length l]) (⟨w,if l=[]then .nil else .any,l⟩:ρ).av:=by
   have:=Dv.agg (.cons (.str w) (.cons (Dv.list (if l=[]then .nil else .own B.length) hD) .nil));cases l with
   |nil=>exact this
   |cons a l=>exact this
  exact this.aK _ _ _
end
structure Sc where
 aB:List (List Nat)
 cz:List (List Nat)
 bits:List (List Nat)
 turns:List (List Nat)
def Sc.put(s:Sc)(nm:List Nat):Sc:= {s with aB:=s.aB++[nm],cz:=s.cz++[nm]}
def Sc.drop(s:Sc)(nm:List Nat):Sc:= {s with aB:=s.aB.filter fun x=>!(x==nm),cz:=s.cz.filter fun x=>!(x==nm)}
def Sc.bit(s:Sc)(nm:List Nat):Sc:=if nm∈s.bits then s else{s with bits:=s.bits++[nm]}
def Sc.l_(s:Sc)(nm:List Nat):Sc:= {s with aB:=s.aB++[nm]}
def Sc.dR(s:Sc)(nm:List Nat):Sc:= {s with turns:=s.turns++[nm]}
def Sc.inner(s:Sc):Sc:= {s with cz:=[]}
def jB:η:= .mk 0 0 [] .nil []
def bz(k g:Int)(nm:List Nat)(cp:ξ)(pl:List ρ)(size to:η)(cb:ξ)(body:List δ)(ce:ξ)(els:List δ):δ:= .mk k g nm cp pl size to cb body ce els
mutual
inductive eY (ps:List (List Nat×Nat)):Nat->Nat->Sc->δ->Nat->Sc->Prop
 |gate {d fr:Nat} {s:Sc} {g:Int} {cp:ξ} {pl:List ρ} (h1:1<=g) (h2:g<=12) (h3:pl.length=fL g) (h4:∀p∈pl,fZ s.aB s.turns p) (hc:cp=Φ pl):eY ps d fr s (bz 1 g [] cp pl jB jB .nil [] .nil []) fr s
 |take {d fr:Nat} {s:Sc} {x:η} (h1:cW s.turns 4 x):eY ps d fr s (bz 2 0 (bR [113] (fr+1)) .nil [] x jB .nil [] .nil []) (fr+1) (s.put (bR [113] (fr+1)))
 |drop {d fr:Nat} {s:Sc} {nm:List Nat} (h1:nm∈s.cz):eY ps d fr s (bz 3 0 nm .nil [] jB jB .nil [] .nil []) fr (s.drop nm)
 |borrow {d fr aw:Nat} {s:Sc} {x:η} {cb:ξ} {body:List δ} (hd:d<5) (h1:cW s.turns 4 x) (h2:aN ps (d+1) (fr+1) (s.l_ (bR [114] (fr+1))).inner body aw) (hc:br cb) (hn:cb=Φ body):eY ps d fr s (bz 4 0 (bR [114] (fr+1)) .nil [] x jB cb body .nil []) aw s
 |measure {d fr:Nat} {s:Sc} {nm:List Nat} {p:ρ} (h1:fZ s.aB s.turns p) (h2:nm=bR [98] (fr+1)\/nm∈s.bits):eY ps d fr s (bz 5 0 nm .any [p] jB jB .nil [] .nil []) (fr+1) (s.bit nm)
 |reset {d fr:Nat} {s:Sc} {p:ρ} (h1:fZ s.aB s.turns p):eY ps d fr s (bz 6 0 [] .any [p] jB jB .nil [] .nil []) fr s
 |cond {d fr aw gV:Nat} {s:Sc} {nm:List Nat} {cb ce:ξ} {body els:List δ} (hd:d<5) (h1:nm∈s.bits) (h2:aN ps (d+1) fr s.inner body aw) (h3:aN ps (d+1) aw s.inner els gV) (hc:br cb) (hn:cb=Φ body) (gD:br ce) (gF:ce=Φ els):eY ps d fr s (bz 7 0 nm .nil [] jB jB cb body ce els) gV s
 |loop {d fr aw:Nat} {s:Sc} {x y:η} {cb:ξ} {body:List δ} (hd:d<5) (h1:cW s.turns 3 x) (h2:cW s.turns 3 y) (h3:aN ps (d+1) (fr+1) (s.dR (bR [105] (fr+1))).inner body aw) (hc:br cb) (hn:cb=Φ body):eY ps d fr s (bz 8 0 (bR [105] (fr+1)) .nil [] x y cb body .nil []) aw s
 |call {d fr k:Nat} {s:Sc} {nm:List Nat} {cp:ξ} {pl:List ρ} (h1:(nm,k)∈ps) (h2:pl.length=k) (h3:∀p∈pl,fZ s.aB s.turns p) (hc:cp=Φ pl):eY ps d fr s (bz 9 0 nm cp pl jB jB .nil [] .nil []) fr s
 |qa {d fr aw:Nat} {s:Sc} {cb:ξ} {body:List δ} (hd:d<5) (h2:aN ps (d+1) fr s.inner body aw) (hc:br cb) (hn:cb=Φ body):eY ps d fr s (bz 10 0 [] .nil [] jB jB cb body .nil []) aw s
 |within {d fr aw gV:Nat} {s:Sc} {cb ce:ξ} {body els:List δ} (hd:d<5) (h2:aN ps (d+1) fr s.inner body aw) (h3:aN ps (d+1) aw s.inner els gV) (hc:br cb) (hn:cb=Φ body) (gD:br ce) (gF:ce=Φ els):eY ps d fr s (bz 11 0 [] .nil [] jB jB cb body ce els) gV s
inductive aN (ps:List (List Nat×Nat)):Nat->Nat->Sc->List δ->Nat->Prop
 |nil {d fr:Nat} {s:Sc}:aN ps d fr s [] fr
 |cons {d fr aw gV:Nat} {s s':Sc} {x:δ} {l:List δ} (h1:eY ps d fr s x aw s') (h2:aN ps d aw s' l gV):aN ps d fr s (x::l) gV
end
def Sc.look(s:Sc):b_:=fun t=>if t∈s.turns then .dR else if t∈s.bits then .bit else if t∈s.cz then .j_ true else if t∈s.aB then .j_ false else .none
def yw:Nat->Nat
 |0=>1+4*300
 |d+1=>1+4*(300+2*yw d)
theorem IZ{a b i j:Nat}(hi:i<676)(hj:j<676)(h:bR [a] i=bR [b] j):a=b/\i=j:=by simp only[bR,cy,bG,xV,and_true,true_and]at h;obtain⟨h1,h2,h3⟩:=h;exact⟨h1,by omega⟩
theorem O7{a b i j:Nat}(h:bR [a] i=bR [b] j):a=b:=by simp only[bR,cy,bG,xV]at h;exact h.1
theorem oZ(a i:Nat)(h1:97<=a)(h2:a<=122):c_ (bR [a] i)=true:=by
 have h3:i/26 % 26<26:=lf _ (by decide);have h4:i % 26<26:=lf _ (by decide);have e1:97<=97+i/26 % 26:=by omega
 have e2:97+i/26 % 26<=122:=by omega
 have e3:97<=97+i % 26:=by omega
 have e4:97+i % 26<=122:=by omega
 simp only[bR,cy,bG];generalize 97+i/26 % 26=x at*;generalize 97+i % 26=y at*;simp[c_,rY,fq,uz,h1,h2,e1,e2,e3,e4]
theorem cW.cnt{ts:List (List Nat)}{s:Nat}{i:η}(h:cW ts s i):i.cnt+1<=2^(s/2+1):=by
 induction h with
 |@fix s _ _ _=>have:=alJ (n:=s/2);simp[η.cnt,η.bO,alK];omega
 |@dR s _ _=>have:=alJ (n:=s/2);simp[η.cnt,η.bO,alK];omega
 |@bin s k a b h0 h1 h2 ha hb dK gu=>
  have:(s+2)/2+1=(s/2+1)+1:=by omega
  rw[this,alK];simp only[η.cnt,η.bO];omega
theorem cW.part{ts:List (List Nat)}{s:Nat}{i:η}(h:cW ts s i)(may:List Nat->Bool)(hm:∀t∈ts,may t=true)(no:Int):i.part may no=0:=by
 induction h with
 |fix h1 h2=>
  have a1:¬_:=Int.not_lt.2 h1
  simp[η.part,η.parts,kW,h1,a1];omega
 |dR h=>simp[η.part,η.parts,kW,hm _ h]
 |@bin s k a b h0 h1 h2 ha hb dK gu=>
  have e1:kW k 0 2=0:=by
   have a1:¬(k<1\/5<k\/(k=1/\((0:Int)<0\/(99:Int)<0))):=by omega
   have a2:¬((3<=k/\(2:Nat)≠2)\/(k<3/\(2:Nat)≠0)):=by omega
   rw[kW,if_neg a1,if_neg a2]
  have e2:¬(k=2/\may []=false):=by omega
  simp only[η.part,η.parts,cE,eI,e1,e2,dK,gu];simp
theorem cW.err{ts:List (List Nat)}{i:η}(h:cW ts 4 i)(may:List Nat->Bool)(hm:∀t∈ts,may t=true)(no:Int):i.err may no=0:=by
 have:=h.cnt;have:¬9<i.cnt:=by simp at this;omega
 rw[η.err,if_neg this,h.part may hm]
structure bU (fr:Nat) (s:Sc):Prop where
 aB:∀t∈s.aB,∃a i,(a=113\/a=114)/\i<=fr/\t=bR [a] i
 cz:∀t∈s.cz,t∈s.aB
 bits:∀t∈s.bits,∃i,i<=fr/\t=bR [98] i
 turns:∀t∈s.turns,∃i,i<=fr/\t=bR [105] i
theorem bU.mono{fr aw:Nat}{s:Sc}(h:bU fr s)(hf:fr<=aw):bU aw s:=
 ⟨fun t ht=>by obtain⟨a,i,h1,h2,h3⟩:=h.aB t ht;exact⟨a,i,h1,by omega,h3⟩,h.cz,fun t ht=>by obtain⟨i,h1,h2⟩:=h.bits t ht;exact⟨i,by omega,h2⟩,fun t ht=>by obtain⟨i,h1,h2⟩:=h.turns t ht;exact⟨i,by omega,h2⟩⟩
theorem bU.PA{fr:Nat}{s:Sc}(h:bU fr s){t:List Nat}(ht:t∈s.aB):t∉s.turns:=fun k=>by obtain⟨a,i,h1,-,h2⟩:=h.aB t ht;obtain⟨j,-,h3⟩:=h.turns t k;have:=O7 (h2.symm.trans h3);omega
theorem bU.Pz{fr:Nat}{s:Sc}(h:bU fr s){t:List Nat}(ht:t∈s.aB):t∉s.bits:=fun k=>by obtain⟨a,i,h1,-,h2⟩:=h.aB t ht;obtain⟨j,-,h3⟩:=h.bits t k;have:=O7 (h2.symm.trans h3);omega
theorem bU.QF{fr:Nat}{s:Sc}(h:bU fr s){t:List Nat}(ht:t∈s.bits):t∉s.turns:=fun k=>by obtain⟨i,-,h2⟩:=h.bits t ht;obtain⟨j,-,h3⟩:=h.turns t k;have:=O7 (h2.symm.trans h3);omega
theorem bU.afP{fr:Nat}{s:Sc}(h:bU fr s){t:List Nat}(ht:t∈s.aB):(s.look t).zm=true:=by
 rw[Sc.look,if_neg (h.PA ht),if_neg (h.Pz ht)];by_cases hm:t∈s.cz
 ·rw[if_pos hm];rfl
 ·rw[if_neg hm,if_pos ht];rfl
theorem bU.afN{fr:Nat}{s:Sc}(h:bU fr s){t:List Nat}(ht:t∈s.cz):s.look t= .j_ true:=by rw[Sc.look,if_neg (h.PA (h.cz t ht)),if_neg (h.Pz (h.cz t ht)),if_pos ht]
theorem bU.IJ{fr:Nat}{s:Sc}(h:bU fr s){t:List Nat}(ht:t∈s.bits):s.look t= .bit:=by rw[Sc.look,if_neg (h.QF ht),if_pos ht]
theorem bU.Wh{s:Sc}{t:List Nat}(ht:t∈s.turns):s.look t= .dR:=by rw[Sc.look,if_pos ht]
theorem bU.fresh{fr:Nat}{s:Sc}(h:bU fr s)(hf:fr<675)(a:Nat):bR [a] (fr+1)∉s.aB/\bR [a] (fr+1)∉s.cz/\bR [a] (fr+1)∉s.bits/\bR [a] (fr+1)∉s.turns:=by
 have h1:bR [a] (fr+1)∉s.aB:=fun k=>by obtain⟨b,i,-,h2,h3⟩:=h.aB _ k;have:=(IZ (by omega) (by omega) h3).2;omega
 refine⟨h1,fun k=>h1 (h.cz _ k),fun k=>?_,fun k=>?_⟩
 ·obtain⟨i,h2,h3⟩:=h.bits _ k;have:=(IZ (by omega) (by omega) h3).2;omega
 ·obtain⟨i,h2,h3⟩:=h.turns _ k;have:=(IZ (by omega) (by omega) h3).2;omega
theorem bU.fC{fr:Nat}{s:Sc}(h:bU fr s)(hf:fr<675)(a:Nat)(h1:97<=a)(h2:a<=122):fC s.look (bR [a] (fr+1))=0:=by obtain⟨k1,k2,k3,k4⟩:=h.fresh hf a;simp[Go.Δ.fC,oZ a (fr+1) h1 h2,Sc.look,k1,k2,k3,k4]
theorem afO{fr:Nat}{s:Sc}(h:bU fr s)(hf:fr<675):(s.put (bR [113] (fr+1))).look=s.look.put (bR [113] (fr+1)) (.j_ true):=by
 obtain⟨k1,k2,k3,k4⟩:=h.fresh hf 113;funext t;by_cases ht:t=bR [113] (fr+1)
 ·subst ht;simp[Sc.look,Sc.put,b_.put,k3,k4]
 ·simp[Sc.look,Sc.put,b_.put,ht]
theorem afK{fr:Nat}{s:Sc}(h:bU fr s){nm:List Nat}(hn:nm∈s.cz):(s.drop nm).look=s.look.put nm .none:=by
 have k3:=h.Pz (h.cz _ hn);have k4:=h.PA (h.cz _ hn);funext t;by_cases ht:t=nm
 ·subst ht;simp[Sc.look,Sc.drop,b_.put,k3,k4]
 ·simp[Sc.look,Sc.drop,b_.put,ht]
theorem D4{fr:Nat}{s:Sc}(h:bU fr s):s.inner.look=s.look.inner:=by
 funext t;have:=h.cz t;by_cases h1:t∈s.turns
 ·simp[Sc.look,Sc.inner,b_.inner,h1]
 ·by_cases h2:t∈s.bits
  ·simp[Sc.look,Sc.inner,b_.inner,h1,h2]
  ·by_cases h3:t∈s.cz
   ·simp[Sc.look,Sc.inner,b_.inner,h1,h2,h3,this h3]
   ·by_cases h4:t∈s.aB<;>simp[Sc.look,Sc.inner,b_.inner,h1,h2,h3,h4]
theorem afL{fr:Nat}{s:Sc}(h:bU fr s)(hf:fr<675):(s.l_ (bR [114] (fr+1))).inner.look=s.look.inner.put (bR [114] (fr+1)) (.j_ false):=by
 obtain⟨k1,k2,k3,k4⟩:=h.fresh hf 114;rw[<-D4 h];funext t;by_cases ht:t=bR [114] (fr+1)
 ·subst ht;simp[Sc.look,Sc.l_,Sc.inner,b_.put,k3,k4]
 ·simp[Sc.look,Sc.l_,Sc.inner,b_.put,ht];congr
theorem afM{fr:Nat}{s:Sc}(h:bU fr s):(s.dR (bR [105] (fr+1))).inner.look=s.look.inner.put (bR [105] (fr+1)) .dR:=by
 rw[<-D4 h];funext t;by_cases ht:t=bR [105] (fr+1)
 ·subst ht;simp[Sc.look,Sc.dR,Sc.inner,b_.put]
 ·simp[Sc.look,Sc.dR,Sc.inner,b_.put,ht];congr
theorem IJ{fr:Nat}{s:Sc}(h:bU fr s)(hf:fr<675){nm:List Nat}(hn:nm=bR [98] (fr+1)\/nm∈s.bits):(s.bit nm).look=s.look.put nm .bit:=by
 have k4:nm∉s.turns:=by
  rcases hn with rfl|hn
  ·exact(h.fresh hf 98).2.2.2
  ·exact h.QF hn
 funext t;unfold Sc.bit;by_cases hb:nm∈s.bits
 ·rw[if_pos hb];by_cases ht:t=nm
  ·subst ht;simp[b_.put,Sc.look,k4,hb]
  ·simp[b_.put,ht]
 ·rw[if_neg hb];by_cases ht:t=nm
  ·subst ht;simp[b_.put,Sc.look,k4]
  ·simp[b_.put,Sc.look,ht]
theorem bU.put{fr:Nat}{s:Sc}(h:bU fr s):bU (fr+1) (s.put (bR [113] (fr+1))):=by
 have h':=h.mono (Ag fr);refine⟨fun t ht=>?_,fun t ht=>?_,h'.bits,h'.turns⟩
 ·rcases dE.1 ht with ht|ht
  ·exact h'.aB t ht
  ·exact⟨113,fr+1,.inl rfl,bA _,fK.1 ht⟩
 ·rcases dE.1 ht with ht|ht
  ·exact Ab _ (h.cz t ht)
  ·exact List.mem_append_right _ ht
theorem bU.drop{fr:Nat}{s:Sc}(h:bU fr s)(nm:List Nat):bU fr (s.drop nm):=
 ⟨fun t ht=>h.aB t (Ac.1 ht).1,fun t ht=>Ac.2 ⟨h.cz t (Ac.1 ht).1,(Ac.1 ht).2⟩,h.bits,h.turns⟩
theorem bU.inner{fr:Nat}{s:Sc}(h:bU fr s):bU fr s.inner:=
 ⟨h.aB,fun t ht=>by simp[Sc.inner]at ht,h.bits,h.turns⟩
theorem bU.l_{fr:Nat}{s:Sc}(h:bU fr s):bU (fr+1) (s.l_ (bR [114] (fr+1))):=by
 have h':=h.mono (Ag fr);refine⟨fun t ht=>?_,fun t ht=>Ab _ (h.cz t ht),h'.bits,h'.turns⟩;rcases dE.1 ht with ht|ht
 ·exact h'.aB t ht
 ·exact⟨114,fr+1,.inr rfl,bA _,fK.1 ht⟩
theorem bU.dR{fr:Nat}{s:Sc}(h:bU fr s):bU (fr+1) (s.dR (bR [105] (fr+1))):=by
 have h':=h.mono (Ag fr);refine⟨h'.aB,h'.cz,h'.bits,fun t ht=>?_⟩;rcases dE.1 ht with ht|ht
 ·exact h'.turns t ht
 ·exact⟨fr+1,bA _,fK.1 ht⟩
theorem bU.bit{fr:Nat}{s:Sc}(h:bU fr s){nm:List Nat}(hn:nm=bR [98] (fr+1)\/nm∈s.bits):bU (fr+1) (s.bit nm):=by
 have h':=h.mono (Ag fr);unfold Sc.bit;split
 ·exact h'
 ·rename_i hb;refine⟨h'.aB,h'.cz,fun t ht=>?_,h'.turns⟩;rcases dE.1 ht with ht|ht
  ·exact h'.bits t ht
  ·rw[fK.1 ht];exact⟨fr+1,bA _,hn.resolve_right hb⟩
mutual
theorem eY.le{bD:List (List Nat×Nat)}{d fr aw:Nat}{s s':Sc}{x:δ}(h:eY bD d fr s x aw s'):fr<=aw:=by
 match h with
 | .gate .. =>exact bA _
 | .take .. =>exact Ag _
 | .drop .. =>exact bA _
 | .borrow _ _ h2 _ _=>have:=aN.le h2;omega
 | .measure .. =>exact Ag _
 | .reset .. =>exact bA _
 | .cond _ _ h2 h3 _ _ _ _=>have:=aN.le h2;have:=aN.le h3;omega
 | .loop _ _ _ h3 _ _=>have:=aN.le h3;omega
 | .call .. =>exact bA _
 | .qa _ h2 _ _=>exact aN.le h2
 | .within _ h2 h3 _ _ _ _=>have:=aN.le h2;have:=aN.le h3;omega
theorem aN.le{bD:List (List Nat×Nat)}{d fr aw:Nat}{s:Sc}{l:List δ}(h:aN bD d fr s l aw):fr<=aw:=by
 match h with
 | .nil=>exact bA _
 | .cons h1 h2=>have:=eY.le h1;have:=aN.le h2;omega
end
theorem SZ{α:Type}{f:α->Int}{l:List α}(h:∀x∈l,f x=0):first f l=0:=
 F0 fun j hj=>h _ (List.getElem_mem hj)
theorem bU.place{fr:Nat}{s:Sc}(h:bU fr s){p:ρ}(hp:fZ s.aB s.turns p):jo s.look p=0:=by
 have h1:=h.afP hp.nm;have h2:¬2<p.ix.length:=by have:=hp.len;omega
 rw[jo,if_neg (by rw[h1];simp),if_neg h2];exact SZ fun i hi=>(hp.qL i hi).err _ (fun t ht=>by simp[iT,bU.Wh ht]) _
theorem bU.places{fr:Nat}{s:Sc}(h:bU fr s){l:List ρ}(hl:∀p∈l,fZ s.aB s.turns p):first (jo s.look) l=0:=
 SZ fun p hp=>h.place (hl p hp)
theorem bU.ix{s:Sc}{i:η}(hi:cW s.turns 4 i):i.err (iT s.look) 1=0:=
 hi.err _ (fun t ht=>by simp[iT,bU.Wh ht]) _
def JW(ps:List φ)(own:Nat)(bD:List (List Nat×Nat)):Prop:=∀nm k,(nm,k)∈bD->∃n q,p8 ps nm=some n/\n<own/\ps[n]?=some q/\q.aq.length=k
section
variable{ps:List φ}{own:Nat}{bD:List (List Nat×Nat)}(cT:JW ps own bD)
include cT
mutual
theorem eY.ok{d fr aw:Nat}{s s':Sc}{x:δ}(h:eY bD d fr s x aw s')(hf:aw<=675)(hs:bU fr s):
  d_ ps own s.look x=0/\lA ps own x s.look=0/\after s.look x.kind x.name=s'.look/\bU aw s':=by
 match h with
 | .gate h1 h2 h3 h4 hc=>
  rename_i g cp pl
  have a1:¬(g<1\/12<g):=by omega
  refine⟨?_,by simp[bz,lA,aS],by simp[bz,after,δ.kind],hs⟩;simp[bz,d_,a1,h3,hs.places h4]
 | .take h1=>
  have nT:fr<675:=by omega
  refine⟨?_,by simp[bz,lA,aS],?_,hs.put⟩
  ·simp[bz,d_,hs.fC nT 113 (by omega) (by omega),bU.ix h1]
  ·rw[afO hs nT];simp[bz,after,δ.kind,δ.name]
 | .drop h1=>
  refine⟨?_,by simp[bz,lA,aS],?_,hs.drop _⟩
  ·simp[bz,d_,hs.afN h1]
  ·rw[afK hs h1];simp[bz,after,δ.kind,δ.name]
 | .borrow hd h1 h2 hc hn=>
  have hle:=aN.le h2
  have nT:fr<675:=by omega
  have hb:=aN.ok h2 hf hs.l_.inner;rw[afL hs nT]at hb;refine⟨?_,?_,by simp[bz,after,δ.kind],hs.mono (by omega)⟩
  ·simp[bz,d_,hs.fC nT 114 (by omega) (by omega),bU.ix h1]
  ·simp[bz,lA,aS,bh,inside,hb]
 | .measure h1 h2=>
  rename_i nm p
  have nT:fr<675:=by omega
  refine⟨?_,by simp[bz,lA,aS],?_,hs.bit h2⟩
  ·rcases h2 with rfl|h2
   ·simp[bz,d_,hs.fC nT 98 (by omega) (by omega),hs.place h1]
   ·simp[bz,d_,hs.IJ h2,hs.place h1]
  ·rw[IJ hs nT h2];simp[bz,after,δ.kind,δ.name]
 | .reset h1=>
  refine⟨?_,by simp[bz,lA,aS],by simp[bz,after,δ.kind],hs⟩
  simp[bz,d_,hs.place h1]
 | .cond hd h1 h2 h3 hc hn gD gF=>
  have l1:=aN.le h2
  have l2:=aN.le h3;have hb:=aN.ok h2 (by omega) hs.inner;have he:=aN.ok h3 hf (hs.inner.mono l1);rw[D4 hs]at hb he;refine⟨?_,?_,by simp[bz,after,δ.kind],hs.mono (by omega)⟩
  ·simp[bz,d_,hs.IJ h1]
  ·simp[bz,lA,aS,bh,inside,hb,he]
 | .loop hd h1 h2 h3 hc hn=>
  have hle:=aN.le h3
  have nT:fr<675:=by omega
  have hb:=aN.ok h3 hf hs.dR.inner;rw[afM hs]at hb;refine⟨?_,?_,by simp[bz,after,δ.kind],hs.mono (by omega)⟩
  ·simp[bz,d_,hs.fC nT 105 (by omega) (by omega),bU.ix (h1.mono (by omega)),bU.ix (h2.mono (by omega))]
  ·simp[bz,lA,aS,bh,inside,hb]
 | .call h1 h2 h3 hc=>
  obtain⟨n,q,q1,q2,q3,q4⟩:=cT _ _ h1
  have a1:¬own<=n:=by omega
  refine⟨?_,by simp[bz,lA,aS],by simp[bz,after,δ.kind],hs⟩;simp[bz,d_,q1,q3,a1,h2,q4,hs.places h3]
 | .qa hd h2 hc hn=>
  have hb:=aN.ok h2 hf hs.inner
  rw[D4 hs]at hb;refine⟨by simp[bz,d_],?_,by simp[bz,after,δ.kind],hs.mono (aN.le h2)⟩;simp[bz,lA,aS,bh,inside,hb]
 | .within hd h2 h3 hc hn gD gF=>
  have l1:=aN.le h2
  have l2:=aN.le h3;have hb:=aN.ok h2 (by omega) hs.inner;have he:=aN.ok h3 hf (hs.inner.mono l1);rw[D4 hs]at hb he;refine⟨by simp[bz,d_],?_,by simp[bz,after,δ.kind],hs.mono (by omega)⟩;simp[bz,lA,aS,bh,inside,hb,he]
theorem aN.ok{d fr aw:Nat}{s:Sc}{l:List δ}(h:aN bD d fr s l aw)(hf:aw<=675)(hs:bU fr s):gn ps own l s.look=0:=by
 match h with
 | .nil=>rfl
 | .cons h1 h2=>
  have l2:=aN.le h2
  obtain⟨a1,a2,a3,a4⟩:=eY.ok h1 (by omega) hs;have:=aN.ok h2 hf a4;simp[gn,a1,a2,a3,this]
end
end
mutual
theorem eY.deep{bD:List (List Nat×Nat)}{d fr aw:Nat}{s s':Sc}{x:δ}(h:eY bD d fr s x aw s')(oK:d<=5):x.deep+d<=6:=by
 match h with
 | .gate .. =>simp[bz,δ.deep,aS,bh];omega
 | .take .. =>simp[bz,δ.deep,aS,bh];omega
 | .drop .. =>simp[bz,δ.deep,aS,bh];omega
 | .borrow hd _ h2 _ _=>have:=aN.deep h2 (by omega);simp[bz,δ.deep,aS,bh];omega
 | .measure .. =>simp[bz,δ.deep,aS,bh];omega
 | .reset .. =>simp[bz,δ.deep,aS,bh];omega
 | .cond hd _ h2 h3 _ _ _ _=>have:=aN.deep h2 (by omega);have:=aN.deep h3 (by omega);simp[bz,δ.deep,aS,bh];omega
 | .loop hd _ _ h3 _ _=>have:=aN.deep h3 (by omega);simp[bz,δ.deep,aS,bh];omega
 | .call .. =>simp[bz,δ.deep,aS,bh];omega
 | .qa hd h2 _ _=>have:=aN.deep h2 (by omega);simp[bz,δ.deep,aS,bh];omega
 | .within hd h2 h3 _ _ _ _=>have:=aN.deep h2 (by omega);have:=aN.deep h3 (by omega);simp[bz,δ.deep,aS,bh];omega
theorem aN.deep{bD:List (List Nat×Nat)}{d fr aw:Nat}{s:Sc}{l:List δ}(h:aN bD d fr s l aw)(oK:d<=5):δ.dx l+d<=6:=by
 match h with
 | .nil=>simp[δ.dx];omega
 | .cons h1 h2=>have:=eY.deep h1 oK;have:=aN.deep h2 oK;simp only[δ.dx];omega
end
structure nE (bD:List (List Nat×Nat)) (fr aw:Nat) (x:φ):Prop where
 nm:x.name=bR [112] (fr+1)
 vc:x.aq.length<=2
 aq:∀i (h:i<x.aq.length),x.aq[i].name=bR [113] (fr+2+i)/\1<=x.aq[i].size/\x.aq[i].size<=12
 body:aN bD 1 (fr+1+x.aq.length) ⟨x.aq.map ay.name,[],[],[]⟩ x.body aw
 cnt:δ.bO x.body<=40
 KN:x.cp=Φ x.aq
 RZ:x.cb=Φ x.body
theorem ahs(l:List ay):∀(s:Sc),s.cz=[]->s.bits=[]->s.turns=[]->qR l s.look=({s with aB:=s.aB++l.map ay.name}:Sc).look:=by
 induction l with
 |nil=>intro s _ _ _;simp[qR]
 |cons x l ih=>
  intro s h1 h2 h3
  have e:s.look.put x.name (.j_ false)=({s with aB:=s.aB++[x.name]}:Sc).look:=by
   funext t;by_cases ht:t=x.name
   ·subst ht;simp[b_.put,Sc.look,h1,h2,h3]
   ·simp[b_.put,Sc.look,h1,h2,h3,ht]
  rw[qR,e];refine(ih {s with aB:=s.aB++[x.name]} h1 h2 h3).trans ?_;simp
theorem Pe(f:Nat)(l:List ay)(k:Nat)(hk:k+l.length<=675)(h:∀i (h:i<l.length),l[i].name=bR [113] (k+1+i)/\1<=l[i].size/\l[i].size<=12):∀(s:Sc),bU k s->qQ l s.look=0/\bU (k+l.length) {s with aB:=s.aB++l.map ay.name}:=by
 induction l generalizing k with
 |nil=>intro s hs;exact⟨rfl,by simpa using hs⟩
 |cons x l ih=>
  intro s hs
  obtain⟨h1,h2,h3⟩:=h 0 (by simp);simp only[lE,qd]at h1 h2 h3;have dh:k<675:=by simp at hk;omega
  obtain⟨k1,k2,k3,k4⟩:=hs.fresh dh 113;have e:s.look.put x.name (.j_ false)=({s with aB:=s.aB++[x.name]}:Sc).look:=by
   rw[h1];funext t;by_cases ht:t=bR [113] (k+1)
   ·subst ht;simp[b_.put,Sc.look,k2,k3,k4]
   ·simp[b_.put,Sc.look,ht]
  have sY:=hs.mono (Ag k);have ok:bU (k+1) {s with aB:=s.aB++[x.name]}:=⟨fun t ht=>by
   rcases dE.1 ht with ht|ht
   ·exact sY.aB t ht
   ·exact⟨113,k+1,.inl rfl,bA _,(fK.1 ht).trans h1⟩,fun t ht=>Ab _ (hs.cz t ht),sY.bits,sY.turns⟩
  obtain⟨i1,i2⟩:=ih (k+1) (by simp at hk;omega) (fun i hi=>by
   have:=h (i+1) (by simpa using hi)
   simp only[qY]at this;rwa[show k+1+(i+1)=k+1+1+i by omega]at this) _ ok
  have hn:=oZ 113 (k+1) (by omega) (by omega);have gG:s.look (bR [113] (k+1))= .none:=by simp[Sc.look,k1,k2,k3,k4]
  have aJ:¬(x.size<1\/12<x.size):=by omega
  refine⟨?_,?_⟩
  ·rw[<-e]at i1;simp[qQ,h1,hn,gG,aJ];rw[<-h1];exact i1
  ·have:k+1+l.length=k+(x::l).length:=by simp;omega
   rw[<-this];simpa using i2
theorem nE.ok{ps:List φ}{own:Nat}{bD:List (List Nat×Nat)}(cT:JW ps own bD){fr aw:Nat}{x:φ}(h:nE bD fr aw x)(hf:aw<=675)(gG:(ps.take own).any (fun p=>p.name==x.name)=false):sg ps own x=0:=by
 have hle:=aN.le h.body;have kO:bU (fr+1) ⟨[],[],[],[]⟩:=⟨by simp,by simp,by simp,by simp⟩;obtain⟨p1,p2⟩:=Pe 0 x.aq (fr+1) (by omega) (fun i hi=>by have:=h.aq i hi;rwa[show fr+1+1+i=fr+2+i by omega]) _ kO;have e0:o6=(⟨[],[],[],[]⟩:Sc).look:=by funext t;simp[o6,Sc.look]
 have hl:=ahs x.aq ⟨[],[],[],[]⟩ rfl rfl rfl;simp only[bG]at p2 hl;have hb:=aN.ok cT h.body hf p2;have hd:=aN.deep h.body (by omega);have a1:¬4<x.aq.length:=by have:=h.vc;omega
 have a2:¬120<δ.bO x.body:=by have:=h.cnt;omega
 have a3:¬6<δ.dx x.body:=by omega
 have hn:c_ x.name=true:=by rw[h.nm];exact oZ 112 _ (by omega) (by omega)
 rw[sg,e0,hl,hb,p1];simp[hn,gG,a1,a2,a3]
def lB(l:List φ):List (List Nat×Nat):=l.map fun p=>(p.name,p.aq.length)
inductive gj:List φ->Nat->Prop
 |nil {fr:Nat}:gj [] fr
 |snoc {l:List φ} {x:φ} {fr aw:Nat} (h1:gj l fr) (h2:nE (lB l) fr aw x):gj (l++[x]) aw
theorem nE.le{bD:List (List Nat×Nat)}{fr aw:Nat}{x:φ}(h:nE bD fr aw x):fr+1<=aw:=by have:=aN.le h.body;omega
theorem gj.names{l:List φ}{fr:Nat}(h:gj l fr):∀x∈l,∃i,1<=i/\i<=fr/\x.name=bR [112] i:=by
 induction h with
 |nil=>intro x hx;cases hx
 |@snoc l x fr aw h1 h2 ih=>
  have hle:=h2.le
  intro y hy;rcases dE.1 hy with hy|hy
  ·obtain⟨i,a,b,c⟩:=ih y hy;exact⟨i,a,by omega,c⟩
  ·obtain rfl:=fK.1 hy;exact⟨fr+1,by omega,by omega,h2.nm⟩
theorem gj.new{l:List φ}{x:φ}{fr aw:Nat}(h1:gj l fr)(h2:nE (lB l) fr aw x)(hf:aw<=675):∀y∈l,(y.name==x.name)=false:=by intro y hy;obtain⟨i,a,b,c⟩:=h1.names y hy;have hle:=h2.le;apply beq_eq_false_iff_ne.2;rw[c,h2.nm];intro e;have:=(IZ (by omega) (by omega) e).2;omega
theorem ah3{l r:List φ}{nm:List Nat}{n:Nat}(h:p8 l nm=some n):p8 (l++r) nm=some n:=by rw[p8]at h⊢;rw[alL,h];rfl
theorem gj.known{l:List φ}{fr:Nat}(h:gj l fr)(hf:fr<=675):∀r:List φ,JW (l++r) l.length (lB l):=by
 induction h with
 |nil=>intro r nm k hk;cases hk
 |@snoc l x fr aw h1 h2 ih=>
  have hle:=h2.le
  intro r nm k hk;rw[lB,jT]at hk;rcases dE.1 hk with hk|hk
  ·obtain⟨n,q,q1,q2,q3,q4⟩:=ih (by omega) ([x]++r) nm k hk;rw[bH];exact⟨n,q,q1,by simp;omega,q3,q4⟩
  ·simp only[aA,aP,fK,az]at hk;obtain⟨rfl,rfl⟩:=hk;refine⟨l.length,x,ah3 ?_,by simp,by simp,rfl⟩;rw[p8,alL,wv.2 (h1.new h2 hf)];simp
theorem W_{ps:List φ}:∀(l:List φ) (k:Nat),(∀i (h:i<l.length),sg ps (k+i) l[i]=0)->tv ps k l=0
 |[],_,_=>rfl
 |x::l,k,h=>by
  have h0:=h 0 (by simp);simp only[lE,qd]at h0;have:=W_ l (k+1) fun i hi=>by have:=h (i+1) (by simpa using hi);simp only[qY]at this;rwa[show k+(i+1)=k+1+i by omega]at this
  simp[tv,h0,this]
theorem gj.each{l:List φ}{fr:Nat}(h:gj l fr)(hf:fr<=675):∀(r:List φ) (i:Nat) (hi:i<l.length),sg (l++r) i l[i]=0:=by
 induction h with
 |nil=>intro r i hi;cases hi
 |@snoc l x fr aw h1 h2 ih=>
  have hle:=h2.le
  intro r i hi;rw[bH];by_cases nW:i<l.length
  ·rw[List.getElem_append_left nW];exact ih (by omega) ([x]++r) i nW
  ·have:i=l.length:=by simp at hi;omega
   subst this;rw[List.getElem_append_right (bA _)];simp only[Nat.sub_self,lE];refine h2.ok (h1.known (by omega) _) hf ?_;rw[List.take_left,List.any_eq_false];intro y hy;rw[h1.new h2 hf y hy];simp
theorem gj.right{l:List φ}{fr:Nat}(h:gj l fr)(hf:fr<=675)(h1:1<=l.length)(h2:l.length<=12):mW l=0:=by
 have:=W_ (ps:=l) l 0 fun i hi=>by have:=h.each hf [] i hi;simpa using this
 rw[mW,if_neg (by omega),this]
theorem vY(a i:Nat)(ha:a<256):cV (bR [a] i):=by intro b hb;have h3:i/26 % 26<26:=lf _ (by decide);have h4:i % 26<26:=lf _ (by decide);simp only[bR,cy,bG,cw,List.not_mem_nil,or_false]at hb;omega
theorem bU.str{fr:Nat}{s:Sc}(h:bU fr s):(∀t∈s.aB,cV t)/\(∀t∈s.cz,cV t)/\(∀t∈s.bits,cV t)/\(∀t∈s.turns,cV t):=by
 have h1:∀t∈s.aB,cV t:=fun t ht=>by obtain⟨a,i,h1,-,rfl⟩:=h.aB t ht;exact vY a i (by omega)
 refine⟨h1,fun t ht=>h1 t (h.cz t ht),fun t ht=>?_,fun t ht=>?_⟩
 ·obtain⟨i,-,rfl⟩:=h.bits t ht;exact vY 98 i (by omega)
 ·obtain⟨i,-,rfl⟩:=h.turns t ht;exact vY 105 i (by omega)
theorem ZU{α:Type}{l:List α}(h:Φ l= .nil):l=[]:=by cases l<;>first|rfl|cases h
theorem zy:cV []:=fun b hb=>by cases hb
theorem cW.Ea{ts:List (List Nat)}{s:Nat}{i:η}(h:cW ts s i)(ht:∀t∈ts,cV t):i.gz:=by
 induction h with
 |fix h1 h2=>exact⟨by simp[η.Ok,η.da,br],by simp[η.rb,η.Strs,zy]⟩
 |dR h=>exact⟨by simp[η.Ok,η.da,br],by simp[η.rb,η.Strs,ht _ h]⟩
 |bin h0 h1 h2 ha hb dK gu=>exact⟨by simp[η.Ok,η.da,br,dK.1,gu.1],by simp[η.rb,η.Strs,zy,dK.2,gu.2]⟩
theorem mK:jB.gz:=⟨by simp[jB,η.Ok,η.da,br],by simp[jB,η.rb,η.Strs,zy]⟩
theorem fZ.ok{fr:Nat}{s:Sc}(hs:bU fr s){p:ρ}(h:fZ s.aB s.turns p):p.Ok:=
 ⟨hs.str.1 _ h.nm,by rw[h.cp];split<;>simp[br],fun x hx=>(h.qL x hx).Ea hs.str.2.2.2⟩
theorem eY.sc{bD:List (List Nat×Nat)}{d fr aw:Nat}{s s':Sc}{x:δ}(h:eY bD d fr s x aw s')(hs:bU fr s):bU aw s':=by
 have hle:=h.le;cases h with
 |take _=>exact hs.put
 |drop _=>exact hs.drop _
 |measure _ h2=>exact hs.bit h2
 |_=>exact hs.mono hle
section
variable{bD:List (List Nat×Nat)}(cT:∀nm k,(nm,k)∈bD->cV nm)
include cT
mutual
theorem eY.str{d fr aw:Nat}{s s':Sc}{x:δ}(h:eY bD d fr s x aw s')(hs:bU fr s):x.Ok:=by
 have c0:br .nil:= .inl rfl;have c1:br .any:= .inr rfl
 match h with
 | .gate h1 h2 h3 h4 hc=>exact⟨zy,hc▸kJ _,fun p hp=>(h4 p hp).ok hs,mK,mK,c0,trivial,c0,trivial⟩
 | .take h1=>exact⟨vY 113 _ (by omega),c0,by simp,h1.Ea hs.str.2.2.2,mK,c0,trivial,c0,trivial⟩
 | .drop h1=>exact⟨hs.str.2.1 _ h1,c0,by simp,mK,mK,c0,trivial,c0,trivial⟩
 | .borrow hd h1 h2 hc hn=>exact⟨vY 114 _ (by omega),c0,by simp,h1.Ea hs.str.2.2.2,mK,hc,aN.str h2 hs.l_.inner,c0,trivial⟩
 | .measure h1 h2=>
  refine⟨?_,c1,by simpa using h1.ok hs,mK,mK,c0,trivial,c0,trivial⟩
  rcases h2 with rfl|h2
  ·exact vY 98 _ (by omega)
  ·exact hs.str.2.2.1 _ h2
 | .reset h1=>exact⟨zy,c1,by simpa using h1.ok hs,mK,mK,c0,trivial,c0,trivial⟩
 | .cond hd h1 h2 h3 hc hn gD gF=>exact⟨hs.str.2.2.1 _ h1,c0,by simp,mK,mK,hc,aN.str h2 hs.inner,gD,aN.str h3 (hs.inner.mono (aN.le h2))⟩
 | .loop hd h1 h2 h3 hc hn=>exact⟨vY 105 _ (by omega),c0,by simp,h1.Ea hs.str.2.2.2,h2.Ea hs.str.2.2.2,hc,aN.str h3 hs.dR.inner,c0,trivial⟩
 | .call h1 h2 h3 hc=>exact⟨cT _ _ h1,hc▸kJ _,fun p hp=>(h3 p hp).ok hs,mK,mK,c0,trivial,c0,trivial⟩
 | .qa hd h2 hc hn=>exact⟨zy,c0,by simp,mK,mK,hc,aN.str h2 hs.inner,c0,trivial⟩
 | .within hd h2 h3 hc hn gD gF=>exact⟨zy,c0,by simp,mK,mK,hc,aN.str h2 hs.inner,gD,aN.str h3 (hs.inner.mono (aN.le h2))⟩
theorem aN.str{d fr aw:Nat}{s:Sc}{l:List δ}(h:aN bD d fr s l aw)(hs:bU fr s):δ.da l:=by
 match h with
 | .nil=>trivial
 | .cons h1 h2=>exact⟨eY.str h1 hs,aN.str h2 (h1.sc hs)⟩
end
end
theorem ah9{l:List φ}{fr:Nat}(h:gj l fr):∀nm k,(nm,k)∈lB l->cV nm:=by intro nm k hk;obtain⟨x,hx,e⟩:=eT.1 hk;obtain⟨i,-,-,h3⟩:=h.names x hx;rw[az]at e;rw[<-e.1,h3];exact vY 112 i (by omega)
theorem nE.str{bD:List (List Nat×Nat)}(cT:∀nm k,(nm,k)∈bD->cV nm){fr aw:Nat}{x:φ}(h:nE bD fr aw x)(hf:aw<=675):x.Ok:=by have hle:=aN.le h.body;have kO:bU (fr+1) ⟨[],[],[],[]⟩:=⟨by simp,by simp,by simp,by simp⟩;obtain⟨-,p2⟩:=Pe 0 x.aq (fr+1) (by omega) (fun i hi=>by have:=h.aq i hi;rwa[show fr+1+1+i=fr+2+i by omega]) _ kO;simp only[bG]at p2;refine⟨by rw[h.nm];exact vY 112 _ (by omega),h.KN▸kJ _,fun y hy=>?_,h.RZ▸kJ _,aN.str cT h.body p2,fun e=>ZU (h.KN▸e)⟩;exact p2.str.1 _ (eT.2 ⟨y,hy,rfl⟩)
theorem gj.str{l:List φ}{fr:Nat}(h:gj l fr)(hf:fr<=675):∀x∈l,x.Ok:=by
 induction h with
 |nil=>intro x hx;cases hx
 |@snoc l x fr aw h1 h2 ih=>
  have hle:=h2.le
  intro y hy;rcases dE.1 hy with hy|hy
  ·exact ih (by omega) y hy
  ·obtain rfl:=fK.1 hy;exact h2.str (ah9 h1) hf
theorem cW.Ct{ts:List (List Nat)}{s:Nat}{i:η}(h:cW ts s i)(hs:s<=4):i.cnt<=7:=by have:=(h.mono hs).cnt;simp at this;omega
theorem adn{ts:List (List Nat)}(l:List η)(h:∀i∈l,cW ts 4 i):η.bO l<=7*l.length:=by
 induction l with
 |nil=>simp[η.bO]
 |cons a l ih=>
  have h1:=(h a (by simp)).Ct (by omega)
  have h2:=ih fun i hi=>h i (by simp[hi]);simp only[η.bO,cE];omega
theorem fZ.wt{rs ts:List (List Nat)}{p:ρ}(h:fZ rs ts p):p.wt<=15:=by have h1:=adn p.ix h.qL;have h2:=h.len;rw[ρ.wt];omega
theorem W2{rs ts:List (List Nat)}(l:List ρ)(h:∀p∈l,fZ rs ts p):fe l<=15*l.length:=by
 induction l with
 |nil=>simp[fe]
 |cons a l ih=>
  have h1:=(h a (by simp)).wt
  have h2:=ih fun i hi=>h i (by simp[hi]);simp only[fe,cE];omega
theorem uy:jB.cnt=1:=rfl
theorem Qw(g:Int):fL g<=3:=by
 unfold fL;split
 ·omega
 ·split<;>omega
section
variable{bD:List (List Nat×Nat)}(cT:∀nm k,(nm,k)∈bD->k<=3)
include cT
mutual
theorem eY.wt{d fr aw:Nat}{s s':Sc}{x:δ}(h:eY bD d fr s x aw s'):x.wt<=60*x.cnt:=by
 match h with
 | .gate (pl:=pl) h1 h2 h3 h4 hc=>
  have a:=W2 pl h4
  have b:=Qw;rw[h3]at a;have b:=Qw ‹Int›;simp[bz,δ.wt,δ.bX,δ.cnt,aS,bh,uy];omega
 | .take h1=>have:=h1.Ct (by omega);simp[bz,δ.wt,δ.bX,δ.cnt,aS,bh,uy,fe];omega
 | .drop h1=>simp[bz,δ.wt,δ.bX,δ.cnt,aS,bh,uy,fe]
 | .borrow hd h1 h2 hc hn=>have:=h1.Ct (by omega);have:=aN.wt h2;simp[bz,δ.wt,δ.bX,δ.cnt,aS,bh,uy,fe];omega
 | .measure h1 h2=>have:=h1.wt;simp[bz,δ.wt,δ.bX,δ.cnt,aS,bh,uy,fe];omega
 | .reset h1=>have:=h1.wt;simp[bz,δ.wt,δ.bX,δ.cnt,aS,bh,uy,fe];omega
 | .cond hd h1 h2 h3 hc hn gD gF=>have:=aN.wt h2;have:=aN.wt h3;simp[bz,δ.wt,δ.cnt,aS,bh,uy,fe];omega
 | .loop hd h1 h2 h3 hc hn=>have:=h1.Ct (by omega);have:=h2.Ct (by omega);have:=aN.wt h3;simp[bz,δ.wt,δ.bX,δ.cnt,aS,bh,fe];omega
 | .call (pl:=pl) h1 h2 h3 hc=>
  have a:=W2 pl h3
  have b:=cT _ _ h1;simp[bz,δ.wt,δ.bX,δ.cnt,aS,bh,uy];omega
 | .qa hd h2 hc hn=>have:=aN.wt h2;simp[bz,δ.wt,δ.bX,δ.cnt,aS,bh,uy,fe];omega
 | .within hd h2 h3 hc hn gD gF=>have:=aN.wt h2;have:=aN.wt h3;simp[bz,δ.wt,δ.cnt,aS,bh,uy,fe];omega
theorem aN.wt{d fr aw:Nat}{s:Sc}{l:List δ}(h:aN bD d fr s l aw):δ.bX l<=60*δ.bO l:=by
 match h with
 | .nil=>simp[δ.bX]
 | .cons h1 h2=>have:=eY.wt h1;have:=aN.wt h2;simp only[δ.bX,δ.bO];omega
end
end
theorem gj.vc{l:List φ}{fr:Nat}(h:gj l fr):∀x∈l,x.aq.length<=2:=by
 induction h with
 |nil=>intro x hx;cases hx
 |@snoc l x fr aw h1 h2 ih=>
  intro y hy
  rcases dE.1 hy with hy|hy
  ·exact ih y hy
  ·obtain rfl:=fK.1 hy;exact h2.vc
theorem ahV(a b:List φ):jq (a++b)=jq a+jq b:=by
 induction a with
 |nil=>simp[jq]
 |cons x a ih=>simp only[cy,jq,ih];omega
theorem gj.wt{l:List φ}{fr:Nat}(h:gj l fr):jq l<=2403*l.length:=by
 induction h with
 |nil=>simp[jq]
 |@snoc l x fr aw h1 h2 ih=>
  have hf:=h1.vc
  have hb:=aN.wt (bD:=lB l) (fun nm k hk=>by
   obtain⟨y,hy,e⟩:=eT.1 hk
   rw[az]at e;have:=hf y hy;omega) h2.body
  have h3:=h2.vc;have h4:=h2.cnt;rw[ahV];simp only[jq,φ.wt,cD,cE,eI];omega
end Go.Δ.Tz
namespace Go.Δ
theorem KJ{C:iK}{f:FuncId}{g:AF}{args:List AV}{m:Mem}{ex:Ex}{s':St}{l:List AV}(hf:C.alts f=some g)
  (hx:exec C.gl (ah C) dL g.code {env:=args.map (exp m.ε.length true),loc:=[],mem:= {ε:=m.ε,ζ:=[]}}=some (ex,s')) (hex:∀i,ex≠ .exit i) (hl:cH s' g.results=some l):
  ah C (.fn (.methodOf f "") [] []) args m=some (exp s'.mem.ε.length true (cJ l),{ε:=s'.mem.ε,ζ:=m.ζ++s'.mem.ζ}):=by
 apply sF;simp only[body,hf,bG,de,hx];cases ex with
 |exit i=>exact absurd rfl (hex i)
 |_=>simp only[fin,hl];rfl
end Go.Δ
namespace Go.Δ.Tz
open Go.Δ
variable{u:Nat}
attribute [local simp] exec dT dG eR aH dr ff eH aI fA bQ gX ib iC iL lq AV.cells newVar iH rd wr gL single dd cA eU ef κ cH RV.get cJ fF jU qn
theorem Jv(l:List (List Nat)):(l.map AV.str).all (shaped false 1)=true:=by rw[dS];intro x hx;obtain⟨s,-,rfl⟩:=eT.1 hx;rfl
theorem XR(l:List (List Nat)):(l.map AV.str).all AV.one=true:=by rw[dS];intro x hx;obtain⟨s,-,rfl⟩:=eT.1 hx;rfl
theorem XQ(m:Mem)(l:List (List Nat)):(l.map AV.str).map m.ν=l.map AV.str:=by rw[dc];rfl
theorem ajM(l:List (List Nat)):(l.map AV.str).flatMap AV.cells=l.map AV.str:=by
 induction l with
 |nil=>rfl
 |cons a l ih=>rw[aA,List.flatMap_cons,ih];rfl
def uM(l:List (List Nat))(nm:List Nat):Int:=match l.findIdx? (·==nm)with
 |none=> -1
 |some i=>(i:Int)
theorem ahP{l:List (List Nat)}{nm:List Nat}(h:∀x∈l,(x==nm)=false):uM l nm= -1:=by rw[uM,wv.2 fun x hx=>h x hx]
theorem ahQ{l:List (List Nat)}{nm:List Nat}{i:Nat}(hi:i<l.length)(h1:(l[i]==nm)=true)(h2:∀j (hj:j<i),(l[j]==nm)=false):uM l nm=i:=by rw[uM,tK.2 ⟨hi,h1,fun j hj=>by simp[h2 j hj]⟩]
theorem f185{B:List θ}{q:Nat}{a b:AV}{nm:List Nat}{rest:List AV}(hq:B[q]?=some (.cells (a::b:: .str nm::rest)))(s:List Nat)(T:List Nat):
  ah (C u) (.fn (.func 185) [] [.μ q 0]) [.str s] {ε:=B,ζ:=T}=some (.bool (s==nm),{ε:=B,ζ:=T}):=by
 have uk:q<B.length:=(fu.1 hq).1;have eJ:([AV.str s]++[AV.μ q 0]).map (exp B.length true)=[.str s,.μ q 0]:=by simp[exp,uk]
 have:∃s',exec (C u).gl (ah (C u)) dL AK.code {env:=[.str s,.μ q 0],loc:=[],mem:= {ε:=B,ζ:=[]}}=some (.ret,s')/\s'.mem= {ε:=B,ζ:=[]}/\cH s' AK.results=some [.bool (s==nm)]:=by
  have:decide (s=nm)=(s==nm):=by rw[Bool.eq_iff_iff];simp
  simp[AK,Q5,hq,this]
 obtain⟨s',q1,q2,q3⟩:=this
 try unfold kf
 rw[sB (g:=AK) (ex:= .ret) rfl rfl rfl (by rw[eJ];exact q1) (by simp) q3,q2];simp[cJ,exp]
theorem f224{B:List θ}{q id:Nat}{a b:AV}{nm:List Nat}{rest:List AV}(hq:B[q]?=some (.cells (a::b:: .str nm::rest)))(l:List (List Nat))(hl:l.length<1000000000)(cap:Nat)(hid:B[id]?=some (.cells (l.map AV.str)))(T:List Nat):
  kf u 224 [.sl 0 id 0 l.length cap,.fn (.func 185) [] [.μ q 0]] {ε:=B,ζ:=T}=some (.n (uM l nm),{ε:=B,ζ:=T}):=by
 have uk:q<B.length:=(fu.1 hq).1;have Dj:id<B.length:=(fu.1 hid).1;have e:=f185 (u:=u) hq;refine D7 (B':=B) (g:=AM) rfl rfl rfl rfl (by simp[exp,bn,uk,Dj,Fn.below]) ?_ T;let M:St->Prop:=fun st=>st.e 0= .sl 0 id 0 l.length cap/\st.e 1= .fn (.func 185) [] [.μ q 0]/\st.mem= {ε:=B,ζ:=[]};unfold AM Kw;refine Θ (M) (by simp[M]) fun s1 ⟨h0,h1,dA⟩=>?_;refine bP (fun st=>st.mem= {ε:=B,ζ:=[]}/\∀x∈l,(x==nm)=false) ?_ fun s2 ⟨dA,gG⟩=>?_
 ·refine Θ (fun st=>M st/\st.e 7= .n l.length/\st.e 8= .n 0) (by simp[M,h0,h1,dA]) fun s2 ⟨⟨h0,h1,dA⟩,h7,h8⟩=>?_;let I:Nat->St->Prop:=fun i st=>(M st/\st.e 7= .n l.length/\st.e 8= .n (i:Int))/\∀j (hj:j<i) (hl:j<l.length),(l[j]==nm)=false;refine κ.block (κ.kD (I:=I) l.length ⟨⟨⟨h0,h1,dA⟩,h7,h8⟩,fun j hj=>by omega⟩ fun i st hi ⟨⟨⟨h0,h1,dA⟩,h7,h8⟩,gG⟩=>?_);unfold Ov;by_cases nW:i<l.length
  ·have nQ:bC .i64 ((i:Int)+1)=(i:Int)+1:=wrap_i64 (by omega) (by omega);have HU:(i:Int)<l.length:=by omega
   have kN:(l.map AV.str)[i]?=some (.str l[i]):=by rw[nD,dN nW];rfl
   have n9:((l.map AV.str).drop i).take 1=[.str l[i]]:=by rw[mQ (by simpa using nW)];simp
   have Ux:i+1<=l.length:=nW;cases hb:(l[i]==nm)with
   |true=>
    refine κ.done .ret (fun st=>st.mem= {ε:=B,ζ:=[]}/\st.e 4= .n (i:Int)) (by simp[h0,h1,dA,h7,h8,HU,nW,hid,n9,Ux,e,hb]) fun s' ⟨m1,m2⟩=> .inr ⟨by simp,.inr ⟨by simp,.inr ⟨by simp,by simp,⟨[],by simp[m1]⟩,[.n (i:Int)],by simp[m2],?_⟩⟩⟩
    simp[ahQ nW hb fun j hj=>gG j hj (by omega)]
   |false=>
    refine κ.done .normal (fun st=>M st/\st.e 7= .n l.length/\st.e 8= .n ((i:Int)+1)) (by simp[M,h0,h1,dA,h7,h8,HU,nW,hid,n9,Ux,e,hb,nQ]) fun s' ⟨m1,m2,m3⟩=> .inl ⟨rfl,nW,⟨m1,m2,by rw[m3];simp⟩,fun j hj qy=>?_⟩
    by_cases oO:j=i
    ·subst oO;exact hb
    ·exact gG j (by omega) qy
  ·have HU:¬(i:Int)<l.length:=by omega
   refine κ.done (.exit 0) (fun st=>st.mem= {ε:=B,ζ:=[]}) (by simp[h0,h1,dA,h7,h8,HU,nW]) fun s' m1=> .inr ⟨by simp,.inl ⟨rfl,.inl ⟨rfl,m1,fun x hx=>?_⟩⟩⟩;obtain⟨j,hj,rfl⟩:=wy hx;exact gG j (by omega) hj
 ·refine κ.done .ret (fun st=>st.mem= {ε:=B,ζ:=[]}/\st.e 4= .n (-1)) (by simp[dA]) fun s' ⟨m1,m2⟩=>⟨by simp,⟨[],by simp[m1]⟩,[.n (-1)],by simp[m2],by simp[ahP gG]⟩
theorem PH{B:List θ}{id:Nat}{b:θ}(h:B[id]?=some b):B.set id b=B:=by
 apply List.ext_getElem?;intro i;rw[List.getElem?_set];split
 ·rename_i hi;subst hi;rw[if_pos (fu.1 h).1,h]
 ·rfl
theorem aiE(n:Nat):(rep n [AV.str []]).length=n:=by
 induction n with
 |zero=>rfl
 |succ n ih=>simp[rep,ih]
theorem Xu(n:Nat):∀x∈rep n [AV.str []],x= .str []:=by
 induction n with
 |zero=>intro x hx;cases hx
 |succ n ih=>
  intro x hx
  rcases cw.1 hx with rfl|hx
  ·rfl
  ·exact ih x hx
theorem aiG(m:Mem)(n:Nat):(rep n [AV.str []]).map m.ν=rep n [AV.str []]:=by refine(dD fun x hx=>?_).trans (List.map_id _);rw[Xu n x hx];rfl
theorem aiF(i n:Nat):bo i (rep n [AV.str []])=true:=by rw[np,dS];intro x hx;rw[Xu n x hx];rfl
def gZ(nm:List Nat)(l:List (List Nat)):List (List Nat):=l.filter fun x=>!(x==nm)
theorem XD(nm:List Nat)(l:List (List Nat))(j:Nat)(hj:j<l.length):gZ nm (l.take (j+1))=gZ nm (l.take j)++if l[j]==nm then[]else[l[j]]:=by rw[List.take_succ_eq_append_getElem hj,gZ,List.filter_append];congr 1;cases h:(l[j]==nm)<;>simp[h]
theorem XC{nm:List Nat}{l:List (List Nat)}(h:∀x∈l,(x==nm)=false):gZ nm l=l:=
 List.filter_eq_self.2 fun x hx=>by simp only[h x hx,Bool.not_false]
structure Row (nm:List Nat) (l:List (List Nat)) (D:List AV) (j k:Nat):Prop where
 len:D.length=l.length
 hk:k=(gZ nm (l.take j)).length
 fst:D.take k=(gZ nm (l.take j)).map AV.str
 snd:D.drop j=(l.drop j).map AV.str
theorem Row.get{nm:List Nat}{l:List (List Nat)}{D:List AV}{j k:Nat}(h:Row nm l D j k)(hj:j<l.length):(D.drop j).take 1=[.str l[j]]:=by rw[h.snd,mQ hj];rfl
theorem Row.skip{nm:List Nat}{l:List (List Nat)}{D:List AV}{j k:Nat}(h:Row nm l D j k)(hj:j<l.length)(hb:(l[j]==nm)=true):Row nm l D (j+1) k:=by
 have e:gZ nm (l.take (j+1))=gZ nm (l.take j):=by rw[XD nm l j hj,hb];simp
 exact⟨h.len,by rw[e];exact h.hk,by rw[e];exact h.fst,by rw[<-ov,h.snd,<-alM,ov]⟩
theorem Row.bm{nm:List Nat}{l:List (List Nat)}{D:List AV}{j k:Nat}(h:Row nm l D j k)(hj:j<l.length)(vz:k<j)(hb:(l[j]==nm)=false):Row nm l (D.take k++([.str l[j]]++D.drop (k+1))) (j+1) (k+1):=by
 have e:gZ nm (l.take (j+1))=gZ nm (l.take j)++[l[j]]:=by rw[XD nm l j hj,hb];simp
 have hl:=h.len;have h1:(D.take k).length=k:=by simp;omega
 refine⟨by simp;omega,by rw[e,cD,<-h.hk];rfl,?_,?_⟩
 ·rw[alN,h1,fw (by omega),show k+1-k=1 by omega,e,jT,h.fst];rfl
 ·rw[List.drop_append,h1,List.drop_eq_nil_of_le (by omega),bG,show j+1-k=1+(j-k) by omega,<-ov];show alO (j-k) (D.drop (k+1))=_;rw[ov,show k+1+(j-k)=j+1 by omega,<-ov,h.snd,<-alM,ov]
theorem f186{B:List θ}{q id:Nat}{a b:AV}{nm:List Nat}{rest:List AV}(hqi:id≠q)(hq:B[q]?=some (.cells (a::b:: .str nm::rest)))(l:List (List Nat))(hl:l.length<1000000000)(cap:Nat)(hid:B[id]?=some (.cells (l.map AV.str))):
  ∃D:List AV,D.length=l.length/\D.take (gZ nm l).length=(gZ nm l).map AV.str/\∀T,kf u 186 [.sl 0 id 0 l.length cap,.fn (.func 185) [] [.μ q 0]] {ε:=B,ζ:=T}=some (.sl 0 id 0 (gZ nm l).length cap,{ε:=B.set id (.cells D),ζ:=T}):=by
 have uk:q<B.length:=(fu.1 hq).1;have Dj:id<B.length:=(fu.1 hid).1;have aaG:=f224 (u:=u) hq l hl cap hid;have Sz:∀D s T,ah (C u) (.fn (.func 185) [] [.μ q 0]) [.str s] {ε:=B.set id (.cells D),ζ:=T}=some (.bool (s==nm),{ε:=B.set id (.cells D),ζ:=T}):=fun D s T=>f185 (u:=u) (B:=B.set id (.cells D)) (by rw[gR hqi];exact hq) s T;have MW:∀D,(B.set id (.cells D))[id]?=some (.cells D):=fun D=>by simp[Dj]
 have hx:[AV.sl 0 id 0 l.length cap,.fn (.func 185) [] [.μ q 0]].map (exp B.length false)=[.sl 0 id 0 l.length cap,.fn (.func 185) [] [.μ q 0]]:=by simp[exp,bn,uk,Dj,Fn.below]
 have hr:κ (C u).gl (ah (C u)) wP.code {env:=[.sl 0 id 0 l.length cap,.fn (.func 185) [] [.μ q 0]],loc:=[],mem:= {ε:=B,ζ:=[]}} fun r=>
   (∀i,r.1≠ .exit i)/\∃D:List AV,(D.length=l.length/\D.take (gZ nm l).length=(gZ nm l).map AV.str)/\r.2.mem= {ε:=B.set id (.cells D),ζ:=[]}/\aI r.2.env 4= .sl 0 id 0 (gZ nm l).length cap:=by
  let M:List AV->St->Prop:=fun D st=>aI st.env 0= .sl 0 id 0 l.length cap/\aI st.env 1= .fn (.func 185) [] [.μ q 0]/\st.mem= {ε:=B.set id (.cells D),ζ:=[]};have Ml:=PH hid;unfold wP Ku;refine Θ (M (l.map .str)) (by simp[M,Ml]) fun s1 ⟨h0,h1,dA⟩=>?_;rw[Ml]at dA;refine Θ (fun st=>M (l.map .str) st/\aI st.env 5= .int .i64 (uM l nm)) (by simp[M,Ml,h0,h1,dA,aaG]) fun s2 ⟨⟨h0,h1,dA⟩,h5⟩=>?_;cases hf:l.findIdx? (·==nm)with
  |none=>
   have hp:uM l nm= -1:=by rw[uM,hf]
   have gG:=wv.1 hf;rw[hp]at h5;have hs:=XC (nm:=nm) (l:=l) gG;refine bP (fun _=>False) (κ.done .ret (fun st=>st.mem= {ε:=B.set id (.cells (l.map .str)),ζ:=[]}/\aI st.env 4= .sl 0 id 0 l.length cap) (by simp[h0,h1,dA,h5]) fun s' ⟨m1,m2⟩=> .inr ⟨by simp,by simp,l.map .str,⟨by simp,by rw[hs];exact fw (by simp)⟩,m1,by rw[m2,hs]⟩) fun s h=>h.elim
  |some i0=>
   have hp:uM l nm=i0:=by rw[uM,hf]
   obtain⟨sR,gM,fG⟩:=tK.1 hf;rw[hp]at h5;have zb:¬(i0:Int)= -1:=by omega
   have w0:bC .i64 ((i0:Int)+1)=((i0+1:Nat):Int):=by rw[wrap_i64 (by omega) (by omega)];simp
   have kO:gZ nm (l.take i0)=l.take i0:=XC fun x hx=>by
    obtain⟨j,hj,rfl⟩:=wy hx;have oO:j<i0:=by simp at hj;omega
    have:=fG j oO;simpa using this
   have R0:Row nm l (l.map .str) i0 i0:=⟨by simp,by rw[kO];simp;omega,by rw[kO,alP],by rw[alM]⟩;have R1:=R0.skip sR gM;refine bP (fun st=>M (l.map .str) st/\aI st.env 5= .int .i64 (i0:Int)) (κ.done .normal (fun st=>M (l.map .str) st/\aI st.env 5= .int .i64 (i0:Int)) (by simp[M,h0,h1,dA,h5,zb]) fun s' h=> .inl ⟨rfl,h⟩) fun s3 ⟨⟨h0,h1,dA⟩,h5⟩=>?_;refine bP (fun st=>∃D k,M D st/\Row nm l D l.length k/\k<l.length/\aI st.env 5= .int .i64 (k:Int)) ?_ fun s4 ⟨D,k,⟨h0,h1,dA⟩,hR,hk,h5⟩=>?_
   ·refine Θ (fun st=>M (l.map .str) st/\aI st.env 5= .int .i64 (i0:Int)/\aI st.env 6= .int .i64 ((i0+1:Nat):Int)) (by simp only[alH,uX]at w0⊢;simp[M,h0,h1,dA,h5,w0]) fun s4 ⟨⟨h0,h1,dA⟩,h5,h6⟩=>?_;let I:Nat->St->Prop:=fun r st=>∃D k j,j=i0+1+r/\M D st/\Row nm l D j k/\k<j/\aI st.env 5= .int .i64 (k:Int)/\aI st.env 6= .int .i64 (j:Int);refine κ.block (κ.kD (I:=I) (l.length-(i0+1)) ⟨_,_,_,rfl,⟨h0,h1,dA⟩,R1,Nat.lt_succ_self _,h5,h6⟩ fun r st hr ⟨D,k,j,hj,⟨h0,h1,dA⟩,hR,hk,h5,h6⟩=>?_);unfold VM;by_cases qy:j<l.length
    ·have lL:(j:Int)<l.length:=by omega
     have wj:bC .i64 ((j:Int)+1)=(j:Int)+1:=wrap_i64 (by omega) (by omega);have wk:bC .i64 ((k:Int)+1)=(k:Int)+1:=wrap_i64 (by omega) (by omega);have hg:=hR.get qy;have yF:=hR.len;have UA:j+1<=l.length:=qy;have pO:k+1<=l.length:=by omega
     have oR:k<l.length:=by omega
     have Ni:(k:Int)<l.length:=by omega
     cases hb:(l[j]==nm)with
     |true=>refine κ.done .normal (fun st=>M D st/\aI st.env 5= .int .i64 (k:Int)/\aI st.env 6= .int .i64 ((j:Int)+1)) (by simp[M,h0,h1,dA,h5,h6,lL,qy,MW,hg,yF,UA,Sz,hb,wj]) fun s' ⟨m1,m2,m3⟩=> .inl ⟨rfl,by omega,D,k,j+1,by omega,m1,hR.skip qy hb,by omega,m2,by rw[m3];simp⟩
     |false=>refine κ.done .normal (fun st=>M (D.take k++([.str l[j]]++D.drop (k+1))) st/\aI st.env 5= .int .i64 ((k:Int)+1)/\aI st.env 6= .int .i64 ((j:Int)+1)) (by simp[M,h0,h1,dA,h5,h6,lL,qy,MW,hg,yF,UA,Sz,hb,wj,wk,Ni,oR,pO,Mem.put,Mem.ν,ν,bo,lo]) fun s' ⟨m1,m2,m3⟩=> .inl ⟨rfl,by omega,_,k+1,j+1,by omega,m1,hR.bm qy hk hb,by omega,by rw[m2];simp,by rw[m3];simp⟩
    ·have lL:¬(j:Int)<l.length:=by omega
     obtain rfl:j=l.length:=by omega
     refine κ.done (.exit 0) (fun st=>M D st/\aI st.env 5= .int .i64 (k:Int)) (by simp[M,h0,h1,dA,h5,h6]) fun s' ⟨m1,m2⟩=> .inr ⟨by simp,.inl ⟨rfl,.inl ⟨rfl,D,k,m1,hR,hk,m2⟩⟩⟩
   ·have yF:=hR.len;have fb:k=(gZ nm l).length:=by have:=hR.hk;rwa[po]at this
    have xd:D.take k=(gZ nm l).map AV.str:=by have:=hR.fst;rwa[po]at this
    have UD:(k:Int)<=l.length:=by omega
    have gE:k<=l.length:=by omega
    have di:¬l.length-k=0:=by omega
    have nQ:k+(l.length-k)=l.length:=by omega
    generalize hZ:rep (l.length-k) [AV.str []]=Z;have TV:Z.length=l.length-k:=by rw[<-hZ,aiE]
    have hZn:∀m:Mem,Z.map m.ν=Z:=fun m=>by rw[<-hZ];exact aiG m _
    have hZo:bo id Z=true:=by rw[<-hZ];exact aiF _ _
    refine Θ (fun st=>M (D.take k++(Z++D.drop (k+Z.length))) st/\aI st.env 5= .int .i64 (k:Int)) (by simp[M,h0,h1,dA,h5,bound,UD,gE,hk,di,MW,hZ,TV,yF,nQ,Mem.put,hZn,hZo]) fun s5 ⟨⟨h0,h1,dA⟩,h5⟩=>?_;refine κ.done .ret (fun st=>st.mem= {ε:=B.set id (.cells (D.take k++(Z++D.drop (k+Z.length)))),ζ:=[]}/\aI st.env 4= .sl 0 id 0 k cap) (by simp[h0,h1,dA,h5,bound,UD,gE]) fun s' ⟨m1,m2⟩=>⟨by simp,_,⟨?_,?_⟩,m1,by rw[m2,fb]⟩
    ·simp[TV,yF];omega
    ·rw[<-fb,alN,fw (by simp[yF];omega),xd];have:k-(gZ nm l).length=0:=by omega
     simp[yF,Nat.min_eq_left gE,this]
 obtain⟨r,qG,h1,D,⟨TH,Ht⟩,h2,h3⟩:=hr;refine⟨D,TH,Ht,fun T=>?_⟩;refine D7 (u:=u) (f:=186) (g:=wP) (B:=B) (B':=B.set id (.cells D)) rfl rfl rfl (by simp) hx ⟨r,qG,h1,⟨[],by simp[h2]⟩,[.sl 0 id 0 (gZ nm l).length cap],by simp[wP,h3],?_⟩ T;simp[aK,fE,Dj]
theorem ZV(c:ξ)(n m:Nat):(c.exp n false).exp m false=c.exp 0 false:=by cases c<;>simp[ξ.exp]
theorem aa0{B:List θ}{q:Nat}(uk:q<B.length)(c:ξ)(T:List Nat):
  kf u 224 [.list c [],.fn (.func 185) [] [.μ q 0]] {ε:=B,ζ:=T}=some (.n (-1),{ε:=B,ζ:=T}):=by
 refine kz (B:=B) (g:=AM) rfl rfl rfl rfl ?_;simp only[bG,de,aA,aP,exp,bn,uk,Fn.below,if_true,AM,Kw];generalize c.exp B.length false=c';have F:=AV.fn (.func 185) [] [.μ q 0];refine Θ (fun st=>st.e 0= .list c' []/\st.mem= {ε:=B,ζ:=[]}) (by simp) fun s1 ⟨h0,dA⟩=>?_;refine bP (fun st=>st.mem= {ε:=B,ζ:=[]}) ?_ fun s2 dA=>κ.done .ret (fun st=>st.mem= {ε:=B,ζ:=[]}/\st.e 4= .n (-1)) (by simp[dA]) fun s' ⟨m1,m2⟩=>⟨by simp,⟨[],by simp[m1]⟩,[.n (-1)],by simp[m2],by simp⟩;refine Θ (fun st=>st.mem= {ε:=B,ζ:=[]}/\st.e 7= .n 0/\st.e 8= .n 0) (by simp[h0,dA]) fun s2 ⟨dA,h7,h8⟩=>?_;refine κ.block (κ.kD (I:=fun _ st=>st.mem= {ε:=B,ζ:=[]}/\st.e 7= .n 0/\st.e 8= .n 0) 0 ⟨dA,h7,h8⟩ fun i st hi ⟨dA,h7,h8⟩=>?_);unfold Ov;exact κ.done (.exit 0) (fun st=>st.mem= {ε:=B,ζ:=[]}) (by simp[dA,h7,h8]) fun s' m1=> .inr ⟨by simp,.inl ⟨rfl,.inl ⟨rfl,m1⟩⟩⟩
theorem aaY{B:List θ}{q:Nat}(uk:q<B.length)(c:ξ)(T:List Nat):
  kf u 186 [.list c [],.fn (.func 185) [] [.μ q 0]] {ε:=B,ζ:=T}=some (.list (c.exp 0 false) [],{ε:=B,ζ:=T}):=by
 refine kz (B:=B) (g:=wP) rfl rfl rfl rfl ?_;simp only[bG,de,aA,aP,exp,bn,uk,Fn.below,if_true,wP,Ku];obtain⟨c',gD⟩:∃c',c'=c.exp B.length false:=⟨_,rfl⟩;have e:=aa0 (u:=u) uk c';have vp:c'.exp B.length false=c.exp 0 false:=by rw[gD,ZV]
 rw[<-gD];refine Θ (fun st=>st.e 0= .list c' []/\st.e 1= .fn (.func 185) [] [.μ q 0]/\st.mem= {ε:=B,ζ:=[]}) (by simp) fun s1 ⟨h0,h1,dA⟩=>?_;refine Θ (fun st=>st.e 0= .list c' []/\st.e 5= .n (-1)/\st.mem= {ε:=B,ζ:=[]}) (by simp[h0,h1,dA,e]) fun s1 ⟨h0,h5,dA⟩=>?_;refine bP (fun _=>False) (κ.done .ret (fun st=>st.mem= {ε:=B,ζ:=[]}/\st.e 4= .list c' []) (by simp[h0,h5,dA]) fun s' ⟨m1,m2⟩=> .inr ⟨by simp,by simp,⟨[],by simp[m1]⟩,[.list c' []],by simp[m2],by simp[aK,fE,oF,vp]⟩) fun s h=>h.elim
theorem aa1(m:Mem):kf u 29 [.list .nil []] m=some (.list .nil [],m):=by
 have:∃s',exec (C u).gl (ah (C u)) dL pH.code {env:=([AV.list .nil []]++[]).map (exp m.ε.length true),loc:=[],mem:= {ε:=m.ε,ζ:=[]}}=some (.ret,s')/\s'.mem= {ε:=m.ε,ζ:=[]}/\cH s' pH.results=some [.list .nil []]:=by simp[pH,Fs,exp,bn,ξ.exp,isNil]
 obtain⟨s',q1,q2,q3⟩:=this
 try unfold kf
 rw[sB (g:=pH) (ex:= .ret) rfl rfl rfl q1 (by simp) q3,q2];simp[cJ,exp,bn,ξ.exp]
theorem aa2(m:Mem):ah (C u) (.fn (.methodOf 29 "") [] []) [.list .nil []] m=some (.list .nil [],m):=by
 have:∃s',exec (C u).gl (ah (C u)) dL pJ.code {env:=[AV.list .nil []].map (exp m.ε.length true),loc:=[],mem:= {ε:=m.ε,ζ:=[]}}=some (.ret,s')/\s'.mem= {ε:=m.ε,ζ:=[]}/\cH s' pJ.results=some [.list .nil []]:=by simp[pJ,Fy,exp,bn,ξ.exp,isNil]
 obtain⟨s',q1,q2,q3⟩:=this
 try unfold kf
 rw[KJ (g:=pJ) (ex:= .ret) (by rfl) q1 (by simp) q3,q2];simp[cJ,exp,bn,ξ.exp]
theorem QK(n:Nat)(k:Bool)(l:List Nat):bn n k (l.map fun b:Nat=>AV.int .u8 (b:Int))=l.map fun b:Nat=>AV.int .u8 (b:Int):=by rw[fQ,dc];rfl
theorem ZA(l:List Nat):(l.map fun b:Nat=>AV.int .u8 (b:Int)).all (shaped false 1)=true:=by rw[dS];intro x hx;obtain⟨s,-,rfl⟩:=eT.1 hx;rfl
theorem QL(m:Mem)(l:List Nat):(l.map fun b:Nat=>AV.int .u8 (b:Int)).map m.ν=l.map fun b:Nat=>AV.int .u8 (b:Int):=by rw[dc];rfl
theorem Zz(bs:List θ)(n:Nat)(c:ξ)(l:List Nat):aK bs n 8 (eB c l)=eB (c.exp 0 false) l:=by have:bS (l.map fun b:Nat=>AV.int .u8 (b:Int)) (l.map fun b:Nat=>AV.int .u8 (b:Int)):=bS.of _ l fun x _=>Dv.int _ _;exact(Dv.list c this).aK bs n 8
theorem f123(c:ξ)(l:List Nat)(hl:l.length<1000000000)(hn:c= .nil->l=[])(m:Mem):∃c',br c'/\kf u 123 [eB c l] m=some (eB c' l,m):=by
 by_cases hc:c= .nil
 ·subst hc;obtain rfl:=hn rfl;refine⟨.nil,.inl rfl,eN (g:=AH) rfl rfl rfl ?_⟩;simp[eB,AH,Kr,exp,bn,ξ.exp,isNil];rfl
 ·have vp:∀n,c.exp n false= .any:=fun n=>by cases c<;>first|rfl|exact absurd rfl hc
  refine⟨.any,.inr rfl,eN (g:=AH) rfl rfl rfl ?_⟩;simp only[aA,aP,eB,exp,QK,vp,AH,Kr];cases l with
  |nil=>
   simp[isNil,gA]
   rfl
  |cons a l=>
   have e1:(l.length+1)*1<=140737488355328:=by simp at hl;omega
   have e2:l.length+1<=140737488355328:=by simp at hl;omega
   have h1:=ZA (a::l);have h2:=QL {ε:=m.ε,ζ:=[]} (a::l);simp only[aA]at h1 h2;simp[isNil,gA,h1,e1,e2,Mem.push];exact Zz _ _ (.own m.ε.length) (a::l)
theorem f36(c:ξ)(hc:br c)(l:List Nat)(hn:c= .nil->l=[])(B:List θ):∃c',br c'/\∀T,kf u 36 [eB c l] {ε:=B,ζ:=T}=some (.μ B.length 0,{ε:=B++[.cells (aG c' (l.take 300) 0 2463534242)],ζ:=T}):=by
 obtain⟨c1,uc,q⟩:=f123 (u:=u) c (l.take 300) (by simp;omega) (fun h=>by rw[hn h];rfl) {ε:=B,ζ:=[]};refine⟨c1,uc,fun T=>?_⟩;have jv:((l.map fun b:Nat=>AV.int .u8 (b:Int)).all fun e=>decide (e.cells.length=1))=true:=by rw[dS];intro x hx;obtain⟨s,-,rfl⟩:=eT.1 hx;rfl
 have vt:([eB c l]++[]).map (exp B.length true)=[eB c l]:=by simp only[de,aA,aP,eB,exp,QK,ga hc]
 have H0:(min (l.length:Int) 300)=((min l.length 300:Nat):Int):=by omega
 have:∃s',exec (C u).gl (ah (C u)) dL wS.code {env:=([eB c l]++[]).map (exp B.length true),loc:=[],mem:= {ε:=B,ζ:=[]}}=some (.ret,s')/\s'.mem= {ε:=B++[.cells (aG c1 (l.take 300) 0 2463534242)],ζ:=[]}/\cH s' wS.results=some [.μ B.length 0]:=by
  rw[vt];rcases hc with rfl|rfl
  ·obtain rfl:=hn rfl;simp only[eB,alP,aP,List.take_nil]at q;simp[wS,Fv,eB,bound,q,dp,Mem.push,Mem.ν,ν,cL,aG]
  ·by_cases TA:300<l.length
   ·have h1:(300:Int)<l.length:=by omega
    have h2:(300:Int)<=l.length:=by omega
    simp only[eB,alP]at q;have gG:=QL {ε:=B,ζ:=[]} (l.take 300);simp[wS,Fv,eB,bound,jv,TA,h1,h2,q,dp,Mem.push,aG,Mem.ν,ν,fM];rfl
   ·have h1:¬(300:Int)<l.length:=by omega
    have hB:l.take 300=l:=fw (by omega);have hT:(l.map fun b:Nat=>AV.int .u8 (b:Int)).take l.length=l.map fun b:Nat=>AV.int .u8 (b:Int):=fw (by simp);rw[hB]at q⊢;simp only[eB]at q;simp[wS,Fv,eB,bound,jv,TA,h1,hT,q,dp,Mem.push,aG,Mem.ν,ν,fM]
 obtain⟨s',q1,q2,q3⟩:=this
 try unfold kf
 rw[sB (g:=wS) (ex:= .ret) rfl rfl rfl q1 (by simp) q3,q2];simp[cJ,exp]
end Go.Δ.Tz
namespace Go.Δ
def mB(b:Nat)(l:List AV):AV:= .list (if l=[]then .nil else .own b) l
def t_(sz:Nat)(e:TypeId)(n:Nat):List θ:=if n=0 then[]else[.front n sz e]
theorem Qu(D:List θ)(T:List Nat){ag:Bool}{sz bytes:Nat}{e:TypeId}{l:List AV}{y:AV}(aJ:0<sz)(hl:l.all (shaped ag sz)=true)(hy:shaped ag sz y=true)(hn:ν y=y)(hb:(l.length+1)*bytes<=140737488355328)(aT:l.length+1<=140737488355328):
  gA {ε:=D++t_ sz e l.length,ζ:=T} ag sz bytes e (mB D.length l) (.list .full [y])=some (mB D.length (l++[y]),{ε:=D++t_ sz e (l++[y]).length,ζ:=T}):=by
 cases l with
 |nil=>simp[gA,mB,t_,hy,aJ,Mem.push,Mem.ν,hn]at hb aT⊢;omega
 |cons a l=>
  simp only[cE]at hb aT
  simp only[alQ,dW]at hl;simp[gA,mB,t_,hy,aJ,hl.1,Mem.put,Mem.ν,hn,hb,aT];simpa using hl.2
theorem Tr(b:Nat){l ws:List AV}(h:bS l ws):Dv (mB b l) (.list (if l=[]then .nil else .any) ws):=by
 have:=Dv.list (if l=[]then .nil else .own b) h;cases l with
 |nil=>exact this
 |cons a l=>exact this
theorem FG{C:iK}{f:FuncId}{args args':List AV}{m:Mem}(hk:C.bm f=false)(h:args.map (exp m.ε.length false)=args'.map (exp m.ε.length false))(hp:C.iX f=none):ah C (.fn (.func f) [] []) args m=ah C (.fn (.func f) [] []) args' m:=by
 have hb:∀ax lp,body C ax lp (.fn (.func f) [] []) args m=body C ax lp (.fn (.func f) [] []) args' m:=by intro ax lp;simp only[body,hp,bG,de,hk,h]
 have hc:∀k,cv C k (.fn (.func f) [] []) args m=cv C k (.fn (.func f) [] []) args' m:=by
  intro k;cases k with
  |zero=>rfl
  |succ k=>exact hb _ _
 apply Option.ext;intro r;rw[oA,oA];exact⟨fun⟨k,hk⟩=>⟨k,by rw[<-hc];exact hk⟩,fun⟨k,hk⟩=>⟨k,by rw[hc];exact hk⟩⟩
theorem Br(c:ξ)(n:Nat):br (c.exp n false):=by cases c<;>first|exact .inl rfl|exact .inr rfl
end Go.Δ
namespace Go.Δ.Tz
open Go.Δ
variable{u:Nat}
theorem CI(n:Nat)(c:ξ)(l:List (List Nat)):exp n false (aX c l)=aX (c.exp 0 false) l:=by
 have:bn n false (l.map AV.str)=l.map AV.str:=by rw[fQ,dc];rfl
 simp only[aX,exp,this];cases c<;>simp[ξ.exp]
theorem XS(n:Nat)(c:ξ)(l:List (List Nat)):exp n false (aX (c.exp 0 false) l)=aX (c.exp 0 false) l:=wN (Br c 0) l
structure MS (pm ps:Nat) (P:AV) (c:ξ) (bs:List Nat) (st fr n:Nat) (x:Int) (M:List θ):Prop where
 m:M[pm]?=some (.cells (bK ps P st fr))
 s:M[ps]?=some (.cells (aG c bs n x))
section
variable{pm ps:Nat}{P:AV}{c:ξ}{bs:List Nat}{st fr n:Nat}{x:Int}{M:List θ}
theorem MS.xQ(h:MS pm ps P c bs st fr n x M):pm<M.length:=(fu.1 h.m).1
theorem MS.v_(h:MS pm ps P c bs st fr n x M):ps<M.length:=(fu.1 h.s).1
theorem MS.draw(h:MS pm ps P c bs st fr n x M)(τ:pm≠ps)(n':Nat)(x':Int):MS pm ps P c bs st fr n' x' (M.set ps (.cells (aG c bs n' x'))):=
 ⟨by rw[gR (Ne.symm τ)];exact h.m,by simp[h.v_]⟩
theorem MS.ma(h:MS pm ps P c bs st fr n x M)(τ:pm≠ps)(aL aw:Nat):MS pm ps P c bs aL aw n x (M.set pm (.cells (bK ps P aL aw))):=
 ⟨by simp[h.xQ],by rw[gR τ];exact h.s⟩
theorem MS.push(h:MS pm ps P c bs st fr n x M)(D:List θ):MS pm ps P c bs st fr n x (M++D):=
 ⟨by rw[eo h.xQ];exact h.m,by rw[eo h.v_];exact h.s⟩
theorem MS.put(h:MS pm ps P c bs st fr n x M){i:Nat}(h1:i≠pm)(h2:i≠ps)(b:θ):MS pm ps P c bs st fr n x (M.set i b):=
 ⟨by rw[gR h1];exact h.m,by rw[gR h2];exact h.s⟩
theorem MS.PJ(h:MS pm ps P c bs st fr n x M):M.set pm (.cells (bK ps P st fr))=M:=PH h.m
theorem MS.zQ(h:MS pm ps P c bs st fr n x M):M.set ps (.cells (aG c bs n x))=M:=PH h.s
theorem BO(h:MS pm ps P c bs st fr n x M)(hb:bs.length<=300)(k:Int)(hn:n<4000000000000000000):
  ∃(x' r:Int) (n':Nat),n<=n'/\n'<=n+1/\0<=r/\(0<k->r<k)/\(k<=0->r=0)/\∀T,kf u 121 [.μ ps 0,.n k] {ε:=M,ζ:=T}=some (.n r,{ε:=M.set ps (.cells (aG c bs n' x')),ζ:=T}):=by
 have:=f121 (u:=u) (c:=c) (bs:=bs) (B:=M) (p:=ps) h.v_ hb n x k hn;rw[h.zQ]at this;exact this
theorem aj'(h:MS pm ps P c bs st fr n x M)(hb:bs.length<=300)(k:Int)(hn:n<4000000000000000000):
  ∃(x':Int) (r:Bool) (n':Nat),n<=n'/\n'<=n+1/\∀T,kf u 153 [.μ ps 0,.n k] {ε:=M,ζ:=T}=some (.bool r,{ε:=M.set ps (.cells (aG c bs n' x')),ζ:=T}):=by
 have:=f153 (u:=u) (c:=c) (bs:=bs) (B:=M) (p:=ps) h.v_ hb n x k hn;rw[h.zQ]at this;exact this
theorem JI(h:MS pm ps P c bs st fr n x M)(hb:bs.length<=300)(lo hi:Int)(hn:n<4000000000000000000)(h1:0<=lo)(h2:lo<=hi)(h3:hi<1000000000):
  ∃(x' r:Int) (n':Nat),n<=n'/\n'<=n+1/\lo<=r/\r<=hi/\∀T,kf u 119 [.μ ps 0,.n lo,.n hi] {ε:=M,ζ:=T}=some (.n r,{ε:=M.set ps (.cells (aG c bs n' x')),ζ:=T}):=by
 have:=f119 (u:=u) (c:=c) (bs:=bs) (B:=M) (p:=ps) h.v_ hb n x lo hi hn h1 h2 h3;rw[h.zQ]at this;exact this
theorem BN(h:MS pm ps P c bs st fr n x M)(τ:pm≠ps)(dI:fr<4000000000000000000)(f:List Nat)(hf:f.length<=10)(T:List Nat):
  kf u 120 [.μ pm 0,.str f] {ε:=M,ζ:=T}=some (.str (bR f (fr+1)),{ε:=M.set pm (.cells (bK ps P st (fr+1:Nat))),ζ:=T}):=by
 have:=f120 (u:=u) (B:=M) h.xQ h.v_ τ P st fr dI (aG c bs n x) f hf T;rw[h.PJ,h.zQ,(h.ma τ st (fr+1)).zQ]at this;exact this
theorem JK(h:MS pm ps P c bs st fr n x M)(τ:pm≠ps)(hb:bs.length<=300)(ct:ξ)(ts:List (List Nat))(s:Nat)(hs:s<=9)(hn:n+kK s<4000000000000000000):
  ∃(x':Int) (n':Nat) (i:η),n<=n'/\n'<=n+kK s/\cW ts s i/\∀T,kf u 83 [.μ pm 0,.n (s:Int),aX ct ts] {ε:=M,ζ:=T}=some (i.av,{ε:=M.set ps (.cells (aG c bs n' x')),ζ:=T}):=by
 obtain⟨x',n',i,h1,h2,h3,q⟩:=f83 (u:=u) (B:=M) h.xQ h.v_ τ (c:=c) hb (ct.exp 0 false) (Br ct 0) ts P st fr s hs n x hn;refine⟨x',n',i,h1,h2,h3,fun T=>?_⟩;have:=q T;rw[h.PJ,h.zQ]at this;rw[<-this];exact FG (by rfl) (by simp only[aA,aP,CI,vb,exp]) (by rfl)
noncomputable def gJ(c1 c2 c3 c4:ξ)(s:Sc):List AV:=[aX c1 s.aB,aX c2 s.cz,aX c3 s.bits,aX c4 s.turns]
theorem fZ.fx{rs ts:List (List Nat)}{p:ρ}(h:fZ rs ts p):Dv p.av p.av:=by
 have hl:bS (p.ix.map η.av) (p.ix.map η.av):=bS.of η.av p.ix fun i hi=>(h.qL i hi).fx;have:=Dv.list p.c hl;have hc:p.c.exp 0 false=p.c:=by rw[h.cp];split<;>rfl
 rw[hc]at this;exact .agg (.cons (.str _) (.cons this .nil))
theorem JJ(h:MS pm ps P c bs st fr n x M)(τ:pm≠ps)(hb:bs.length<=300)(c1 c2 c3 c4:ξ)(s:Sc)(NO:s.aB≠[])(H_:s.aB.length<1000000000)(hn:n<3000000000000000000):
  ∃(x':Int) (n':Nat) (p:ρ),n<=n'/\n'<=n+72/\fZ s.aB s.turns p/\∀T,kf u 184 [.μ pm 0,.agg (gJ c1 c2 c3 c4 s)] {ε:=M,ζ:=T}=some (p.av,{ε:=M.set ps (.cells (aG c bs n' x')),ζ:=T}):=by
 obtain⟨x',n',p,h1,h2,h3,q⟩:=f184 (u:=u) (B:=M) h.xQ h.v_ τ (c:=c) hb (c1.exp 0 false) (c4.exp 0 false) (Br c1 0) (Br c4 0) s.aB s.turns NO H_ (aX (c2.exp 0 false) s.cz) (aX (c3.exp 0 false) s.bits) (XS _ _ _) (XS _ _ _) P st fr n x hn;refine⟨x',n',p,h1,h2,h3,fun T=>?_⟩;have:=q T;rw[h.PJ,h.zQ]at this;rw[<-this];exact FG (by rfl) (by simp only[gJ,aA,aP,CI,vb,exp,bn]) (by rfl)
end
structure Kt (B:List θ) (pm ps:Nat) (P:AV) (c:ξ) (bs:List Nat) (co:ξ) (lo st fr n:Nat) (x:Int) (M:List θ):Prop where
 ms:MS pm ps P c bs st fr n x M
 od:∀i,i<B.length->i≠pm->i≠ps->M[i]?=B[i]?
 len:B.length<=M.length
 row:Go.Δ.Row B.length M 14 66 co lo
section
variable{B:List θ}{pm ps:Nat}{P:AV}{c:ξ}{bs:List Nat}{co:ξ}{lo st fr n:Nat}{x:Int}{M:List θ}
theorem Kt.of{aL aw n':Nat}{x':Int}{M':List θ}(h:Kt B pm ps P c bs co lo st fr n x M)(ms:MS pm ps P c bs aL aw n' x' M')(hl:M.length<=M'.length)(ho:∀i,i<B.length->i≠pm->i≠ps->M'[i]?=M[i]?)
  (hr:∀(t k:Nat),M[t]?=some (θ.front k 14 66)->M'[t]?=some (θ.front k 14 66)):Kt B pm ps P c bs co lo aL aw n' x' M':=by
 refine⟨ms,fun i h1 h2 h3=>by rw[ho i h1 h2 h3];exact h.od i h1 h2 h3,uZ h.len hl,?_⟩;rcases h.row with h|⟨t,h1,h2,h3⟩
 ·exact .inl h
 ·exact .inr ⟨t,h1,h2,hr t _ h3⟩
theorem Kt.draw(h:Kt B pm ps P c bs co lo st fr n x M)(τ:pm≠ps)(n':Nat)(x':Int):Kt B pm ps P c bs co lo st fr n' x' (M.set ps (.cells (aG c bs n' x'))):=
 h.of (h.ms.draw τ n' x') (by simp) (fun i _ _ h3=>gR (Ne.symm h3)) fun t k ht=>by
  have:ps≠t:=fun e=>by rw[<-e,h.ms.s]at ht;cases ht
  rw[gR this];exact ht
theorem Kt.ma(h:Kt B pm ps P c bs co lo st fr n x M)(τ:pm≠ps)(aL aw:Nat):Kt B pm ps P c bs co lo aL aw n x (M.set pm (.cells (bK ps P aL aw))):=
 h.of (h.ms.ma τ aL aw) (by simp) (fun i _ h2 _=>gR (Ne.symm h2)) fun t k ht=>by
  have:pm≠t:=fun e=>by rw[<-e,h.ms.m]at ht;cases ht
  rw[gR this];exact ht
theorem Kt.push(h:Kt B pm ps P c bs co lo st fr n x M)(D:List θ):Kt B pm ps P c bs co lo st fr n x (M++D):=
 h.of (h.ms.push D) (by simp) (fun i h1 _ _=>eo (Nat.lt_of_lt_of_le h1 h.len)) fun t k ht=>by rw[eo (fu.1 ht).1];exact ht
theorem Kt.put(h:Kt B pm ps P c bs co lo st fr n x M)(hm:pm<B.length)(hs:ps<B.length){i:Nat}(hi:B.length<=i)(hf:∀k:Nat,M[i]?≠some (θ.front k 14 66))(b:θ):Kt B pm ps P c bs co lo st fr n x (M.set i b):=
 h.of (h.ms.put (by omega) (by omega) b) (by simp) (fun j h1 _ _=>gR (by omega)) fun t k ht=>by have:i≠t:=fun e=>hf k (by rw[e];exact ht);rw[gR this];exact ht
structure MM (B:List θ) (pm ps:Nat) (P:AV) (c:ξ) (bs:List Nat) (co:ξ) (lo st fr n:Nat) (x:Int) (q:Nat) (L:List AV) (M:List θ) (T:List Nat):Prop where
 kt:Kt B pm ps P c bs co lo st fr n x M
 q1:B.length<=q
 q2:M[q]?=some (.cells L)
 tt:∀i∈T,B.length<=i
variable{q:Nat}{L:List AV}{T:List Nat}
theorem MM.qB(h:MM B pm ps P c bs co lo st fr n x q L M T):q<M.length:=(fu.1 h.q2).1
theorem MM.draw(h:MM B pm ps P c bs co lo st fr n x q L M T)(hs:ps<B.length)(τ:pm≠ps)(n':Nat)(x':Int):MM B pm ps P c bs co lo st fr n' x' q L (M.set ps (.cells (aG c bs n' x'))) T:=
 ⟨h.kt.draw τ n' x',h.q1,by have:=h.q1;rw[gR (by omega)];exact h.q2,h.tt⟩
theorem MM.ma(h:MM B pm ps P c bs co lo st fr n x q L M T)(hm:pm<B.length)(τ:pm≠ps)(aL aw:Nat):MM B pm ps P c bs co lo aL aw n x q L (M.set pm (.cells (bK ps P aL aw))) T:=
 ⟨h.kt.ma τ aL aw,h.q1,by have:=h.q1;rw[gR (by omega)];exact h.q2,h.tt⟩
theorem MM.push(h:MM B pm ps P c bs co lo st fr n x q L M T)(D:List θ):MM B pm ps P c bs co lo st fr n x q L (M++D) T:=
 ⟨h.kt.push D,h.q1,by rw[eo h.qB];exact h.q2,h.tt⟩
theorem MM.put(h:MM B pm ps P c bs co lo st fr n x q L M T)(hm:pm<B.length)(hs:ps<B.length){i:Nat}(hi:B.length<=i)(hf:∀k:Nat,M[i]?≠some (θ.front k 14 66))(hq:i≠q)(b:θ):MM B pm ps P c bs co lo st fr n x q L (M.set i b) T:=
 ⟨h.kt.put hm hs hi hf b,h.q1,by rw[gR hq];exact h.q2,h.tt⟩
theorem MM.cell(h:MM B pm ps P c bs co lo st fr n x q L M T)(hm:pm<B.length)(hs:ps<B.length)(L':List AV):MM B pm ps P c bs co lo st fr n x q L' (M.set q (.cells L')) T:=
 ⟨h.kt.put hm hs h.q1 (fun k hk=>by rw[h.q2]at hk;cases hk) _,h.q1,by simp[h.qB],h.tt⟩
theorem MM.EP(h:MM B pm ps P c bs co lo st fr n x q L M T)(b:Bool):MM B pm ps P c bs co lo st fr n x q L M (if b then T else q::T):=
 ⟨h.kt,h.q1,h.q2,by
  cases b with
  |true=>exact h.tt
  |false=>
   intro i hi
   rcases cw.1 hi with rfl|hi
   ·exact h.q1
   ·exact h.tt i hi⟩
end
end Go.Δ.Tz
namespace Go.Δ
theorem yi{n:Nat}{M:List θ}{ag:Bool}{sz bytes:Nat}{e:TypeId}{cp:ξ}{pl:List AV}{v:AV}(h:Row n M sz e cp pl.length)(Du:n<=M.length)(hl:pl.all (shaped ag sz)=true)(hv:shaped ag sz v=true)(hn:ν v=v)
  (hs:0<sz) (hb:(pl.length+1)*bytes<=140737488355328) (aT:pl.length+1<=140737488355328):
  ∃c' M',(∀T,gA {ε:=M,ζ:=T} ag sz bytes e (.list cp pl) (.list .full [v])=some (.list c' (pl++[v]),{ε:=M',ζ:=T}))/\Row n M' sz e c' (pl.length+1)/\(∀k,c'.exp k false= .any)/\(M'=M++[.front 1 sz e]\/∃t,n<=t/\M[t]?=some (.front pl.length sz e)/\M'=M.set t (.front (pl.length+1) sz e)):=by
 rcases h with⟨hc,h0⟩|⟨t,rfl,h1,h2⟩
 ·obtain rfl:pl=[]:=List.eq_nil_of_length_eq_zero h0;have q1:bytes<=140737488355328:=by simpa using hb
  refine⟨.own M.length,M++[.front 1 sz e],fun T=>?_,.inr ⟨_,rfl,Du,by simp⟩,fun _=>rfl,.inl rfl⟩;rcases hc with rfl|rfl<;>simp[gA,hv,hs,Mem.push,Mem.ν,hn,q1]
 ·have ht:t<M.length:=(fu.1 h2).1;refine⟨.own t,M.set t (.front (pl.length+1) sz e),fun T=>?_,.inr ⟨t,rfl,h1,by simp[ht]⟩,fun _=>rfl,.inr ⟨t,h1,h2,rfl⟩⟩;simp only[gA];simp only[alQ,hv,alR,Bool.and_self,hl,hs,decide_true,cE,eI,lj,hb,aT,h2,tG,if_true,and_self,aA,aP,Mem.ν,hn,Mem.put]
theorem Row.bm{n:Nat}{M M':List θ}{sz:Nat}{e:TypeId}{c:ξ}{k:Nat}(h:Row n M sz e c k)(hr:∀(t k:Nat),M[t]?=some (θ.front k sz e)->M'[t]?=some (θ.front k sz e)):Row n M' sz e c k:=by
 rcases h with h|⟨t,h1,h2,h3⟩
 ·exact .inl h
 ·exact .inr ⟨t,h1,h2,hr t _ h3⟩
theorem vU{α:Type}{l:List α}(h:l.length=4):∃a b c d,l=[a,b,c,d]:=by
 match l,h with
 |[a,b,c,d],_=>exact⟨a,b,c,d,rfl⟩
end Go.Δ
namespace Go.Δ.Tz
open Go.Δ
variable{u:Nat}
theorem KR(l:List AV):(AV.agg l).cells=l:=rfl
theorem KV(c:ξ)(l:List AV):(AV.list c l).cells=[.list c l]:=rfl
theorem KX(s:List Nat):(AV.str s).cells=[.str s]:=rfl
theorem KU(k:IntKind)(n:Int):(AV.int k n).cells=[.int k n]:=rfl
theorem KS(b:Bool):(AV.bool b).cells=[.bool b]:=rfl
theorem KT(a b:Nat):(AV.μ a b).cells=[.μ a b]:=rfl
theorem wg(c':ξ)(l:List (List Nat)):(aX c' l).cells=[aX c' l]:=rfl
def aR(k g:Int)(nm:List Nat)(P:AV)(X Y:List AV)(b e:AV):List AV:= .n k:: .n g:: .str nm::P::(X++(Y++[b,e]))
def z4:List AV:=[.n 0,.n 0,.str [],.list .nil []]
abbrev ω:AV:= .list .nil []
section
variable{k g:Int}{nm:List Nat}{P:AV}{X Y:List AV}{b e:AV}
theorem ie(hX:X.length=4)(hY:Y.length=4):(aR k g nm P X Y b e).length=14:=by simp[aR,hX,hY]
theorem ZX(g':Int):dd (aR k g nm P X Y b e) 1 [.n g']=aR k g' nm P X Y b e:=rfl
theorem wG(IY:List Nat):dd (aR k g nm P X Y b e) 2 [.str IY]=aR k g IY P X Y b e:=rfl
theorem FB(P':AV):dd (aR k g nm P X Y b e) 3 [P']=aR k g nm P' X Y b e:=rfl
theorem KQ(hX:X.length=4){X':List AV}(hX':X'.length=4):dd (aR k g nm P X Y b e) 4 X'=aR k g nm P X' Y b e:=by obtain⟨a1,a2,a3,a4,rfl⟩:=vU hX;obtain⟨d1,d2,d3,d4,rfl⟩:=vU hX';rfl
theorem ZZ(hX:X.length=4)(hY:Y.length=4){Y':List AV}(hY':Y'.length=4):dd (aR k g nm P X Y b e) 8 Y'=aR k g nm P X Y' b e:=by obtain⟨a1,a2,a3,a4,rfl⟩:=vU hX;obtain⟨c1,c2,c3,c4,rfl⟩:=vU hY;obtain⟨d1,d2,d3,d4,rfl⟩:=vU hY';rfl
theorem R8(hX:X.length=4)(hY:Y.length=4)(b':AV):dd (aR k g nm P X Y b e) 12 [b']=aR k g nm P X Y b' e:=by obtain⟨a1,a2,a3,a4,rfl⟩:=vU hX;obtain⟨c1,c2,c3,c4,rfl⟩:=vU hY;rfl
theorem ZY(hX:X.length=4)(hY:Y.length=4)(e':AV):dd (aR k g nm P X Y b e) 13 [e']=aR k g nm P X Y b e':=by obtain⟨a1,a2,a3,a4,rfl⟩:=vU hX;obtain⟨c1,c2,c3,c4,rfl⟩:=vU hY;rfl
theorem Z0:(aR k g nm P X Y b e).tail.take 1=[.n g]:=rfl
theorem Cq:(alO 2 (aR k g nm P X Y b e)).take 1=[.str nm]:=rfl
theorem R9:(alO 3 (aR k g nm P X Y b e)).take 1=[P]:=rfl
end
section
variable{B:List θ}{pm ps:Nat}{P:AV}{c:ξ}{bs:List Nat}{co:ξ}{lo st fr n:Nat}{x:Int}{M:List θ}{q:Nat}{L:List AV}{T:List Nat}
theorem MM.grow(h:MM B pm ps P c bs co lo st fr n x q L M T)(hm:pm<B.length)(hs:ps<B.length){sz:Nat}{e:TypeId}(uu:¬(sz=14/\e=66)){M':List θ}{len:Nat}
  (hM:M'=M++[.front 1 sz e]\/∃t,B.length<=t/\M[t]?=some (.front len sz e)/\M'=M.set t (.front (len+1) sz e)):MM B pm ps P c bs co lo st fr n x q L M' T:=by
 rcases hM with rfl|⟨t,h1,h2,rfl⟩
 ·exact h.push _
 ·refine h.put hm hs h1 (fun k hk=>?_) (fun hq=>?_) _
  ·rw[h2]at hk;cases hk;exact uu ⟨rfl,rfl⟩
  ·rw[hq,h.q2]at h2;cases h2
theorem w29(c:ξ)(l:List (List Nat))(hl:l.length<1000000000)(hc:c= .nil->l=[])(N:Nat)(hN:N<=M.length):
  ∃c' M',(∀T,kf u 29 [aX c l] {ε:=M,ζ:=T}=some (aX c' l,{ε:=M',ζ:=T}))/\Go.Δ.Row N M' 1 9 c' l.length/\(M'=M\/M'=M++[.front l.length 1 9]):=by
 by_cases mD:c= .nil
 ·subst mD;obtain rfl:=hc rfl;exact⟨.nil,M,fun T=>aa1 _,Go.Δ.Row.nil,.inl rfl⟩
 ·have yO:∀n,c.exp n true≠ .nil:=fun n=>by
   cases c with
   |nil=>exact absurd rfl mD
   |own t=>by_cases h:t<n<;>simp[ξ.exp,h]
   |_=>simp[ξ.exp]
  have rM:∀n (L:List AV),isNil .slice (.list (c.exp n true) L)=some false:=fun n L=>by have:=yO n;cases h:c.exp n true<;>first|exact absurd h this|rfl
  have vt:∀n,([aX c l]++[]).map (exp n true)=[.list (c.exp n true) (l.map AV.str)]:=fun n=>by
   have:bn n true (l.map AV.str)=l.map AV.str:=by rw[fQ,dc];rfl
   simp[aX,exp,this]
  cases l with
  |nil=>
   refine⟨.full,M,fun T=>?_,Go.Δ.Row.full,.inl rfl⟩
   have:∃s',exec (C u).gl (ah (C u)) dL pH.code {env:=([aX c []]++[]).map (exp M.length true),loc:=[],mem:= {ε:=M,ζ:=[]}}=some (.ret,s')/\s'.mem= {ε:=M,ζ:=[]}/\cH s' pH.results=some [.list .full []]:=by rw[vt];simp[pH,Fs,rM,exec,dT,dG,eR,aH,dr,ff,eH,aI,fA,cH,RV.get,gA]
   obtain⟨s',q1,q2,q3⟩:=this
   try unfold kf
   rw[sB (g:=pH) (ex:= .ret) rfl rfl rfl q1 (by simp) q3,q2];simp[cJ,exp,bn,ξ.exp,aX]
  |cons a l=>
   have h1:=Jv (a::l)
   have h2:=fun T=>XQ {ε:=M,ζ:=T} (a::l);have dO:∀cc,gA {ε:=M,ζ:=[]} false 1 16 9 (.list .full []) (.list cc ((a::l).map AV.str))=some (.list (.own M.length) ((a::l).map AV.str),{ε:=M++[.front (l.length+1) 1 9],ζ:=[]}):=by
    intro cc;have e1:(l.length+1)*16<=140737488355328:=by simp at hl;omega
    have e2:l.length+1<=140737488355328:=by simp at hl;omega
    have h2:=h2 [];simp only[aA]at h1 h2;simp only[gA,aA,h1,cE,cF,eI,lj,e1,e2,decide_true,alS,Mem.push,tG,alR,bG,h2];rfl
   refine⟨.own M.length,M++[.front (l.length+1) 1 9],fun T=>?_,.inr ⟨_,rfl,hN,by simp⟩,.inr rfl⟩;have:∃s',exec (C u).gl (ah (C u)) dL pH.code {env:=([aX c (a::l)]++[]).map (exp M.length true),loc:=[],mem:= {ε:=M,ζ:=[]}}=some (.ret,s')/\s'.mem= {ε:=M++[.front (l.length+1) 1 9],ζ:=[]}/\cH s' pH.results=some [.list (.own M.length) ((a::l).map .str)]:=by rw[vt];simp only[aA]at dO;simp[pH,Fs,rM,dO,exec,dT,dG,eR,aH,dr,ff,eH,aI,fA,cH,RV.get]
   obtain⟨s',q1,q2,q3⟩:=this
   try unfold kf
   rw[sB (g:=pH) (ex:= .ret) rfl rfl rfl q1 (by simp) q3,q2];have:bn (M.length+1) true ((a::l).map AV.str)=(a::l).map AV.str:=by rw[fQ];exact(dD fun x hx=>by obtain⟨s,-,rfl⟩:=eT.1 hx;rfl).trans (List.map_id _)
   simp only[aA]at this;simp[cJ,exp,this,ξ.exp,aX]
theorem aka(c:ξ)(l:List (List Nat))(hl:l.length<1000000000)(hc:c= .nil->l=[]):
  (l=[]/\∃c',∀T,ah (C u) (.fn (.methodOf 29 "") [] []) [aX c l] {ε:=M,ζ:=T}=some (.list c' [],{ε:=M,ζ:=T}))∨
  (l≠[]/\∀T,ah (C u) (.fn (.methodOf 29 "") [] []) [aX c l] {ε:=M,ζ:=T}=some (.sl 0 M.length 0 l.length l.length,{ε:=M++[.cells (l.map AV.str)],ζ:=T})):=by
 by_cases mD:c= .nil
 ·subst mD;obtain rfl:=hc rfl;exact .inl ⟨rfl,.nil,fun T=>aa2 _⟩
 ·have yO:∀n,c.exp n true≠ .nil:=fun n=>by
   cases c with
   |nil=>exact absurd rfl mD
   |own t=>by_cases h:t<n<;>simp[ξ.exp,h]
   |_=>simp[ξ.exp]
  have rM:∀n (L:List AV),isNil .slice (.list (c.exp n true) L)=some false:=fun n L=>by have:=yO n;cases h:c.exp n true<;>first|exact absurd h this|rfl
  have vt:∀n,[aX c l].map (exp n true)=[.list (c.exp n true) (l.map AV.str)]:=fun n=>by
   have:bn n true (l.map AV.str)=l.map AV.str:=by rw[fQ,dc];rfl
   simp[aX,exp,this]
  cases l with
  |nil=>
   refine .inl ⟨rfl,.full,fun T=>?_⟩
   have:∃s',exec (C u).gl (ah (C u)) dL pJ.code {env:=[aX c []].map (exp M.length true),loc:=[],mem:= {ε:=M,ζ:=[]}}=some (.ret,s')/\s'.mem= {ε:=M,ζ:=[]}/\cH s' pJ.results=some [.list .full []]:=by rw[vt];simp[pJ,Fy,rM,exec,dT,dG,eR,aH,dr,ff,eH,aI,fA,cH,RV.get,wC]
   obtain⟨s',q1,q2,q3⟩:=this
   try unfold kf
   rw[KJ (g:=pJ) (ex:= .ret) (by rfl) q1 (by simp) q3,q2];simp[cJ,exp,bn,ξ.exp]
  |cons a l=>
   have h1:=Jv (a::l)
   have h2:=fun T=>XQ {ε:=M,ζ:=T} (a::l);have h3:=ajM (a::l);have dO:∀cc,wC {ε:=M,ζ:=[]} false 1 16 (.list .full []) (.list cc ((a::l).map AV.str))=some (.sl 0 M.length 0 (l.length+1) (l.length+1),{ε:=M++[.cells ((a::l).map AV.str)],ζ:=[]}):=by
    intro cc;have e1:(l.length+1)*16<=140737488355328:=by simp at hl;omega
    have e2:l.length+1<=140737488355328:=by simp at hl;omega
    simp only[aA]at h1 h2 h3;simp only[wC,aA,h1,h3,cE,cF,e1,e2,decide_true,alS,Mem.push,tG];simp[Mem.ν,ν]
   refine .inr ⟨by simp,fun T=>?_⟩;have:∃s',exec (C u).gl (ah (C u)) dL pJ.code {env:=[aX c (a::l)].map (exp M.length true),loc:=[],mem:= {ε:=M,ζ:=[]}}=some (.ret,s')/\s'.mem= {ε:=M++[.cells ((a::l).map AV.str)],ζ:=[]}/\cH s' pJ.results=some [.sl 0 M.length 0 (l.length+1) (l.length+1)]:=by rw[vt];simp only[aA]at dO;simp[pJ,Fy,rM,dO,exec,dT,dG,eR,aH,dr,ff,eH,aI,fA,cH,RV.get]
   obtain⟨s',q1,q2,q3⟩:=this
   try unfold kf
   rw[KJ (g:=pJ) (by rfl) q1 (by simp) q3,q2];simp[cJ,exp]
theorem Tn(c:ξ)(l:List (List Nat))(hl:l.length<1000000000)(hc:c= .nil->l=[]){q:Nat}{a b:AV}{nm:List Nat}{rest:List AV}(hq:M[q]?=some (.cells (a::b:: .str nm::rest))):
  ∃v M1 w M2 c' M3,(∀T,ah (C u) (.fn (.methodOf 29 "") [] []) [aX c l] {ε:=M,ζ:=T}=some (v,{ε:=M1,ζ:=T}))/\(∀T,kf u 186 [v,.fn (.func 185) [] [.μ q 0]] {ε:=M1,ζ:=T}=some (w,{ε:=M2,ζ:=T}))/\(∀T,fz {ε:=M2,ζ:=T} w=some (aX c' (gZ nm l),{ε:=M3,ζ:=T}))∧
   (c'= .nil->gZ nm l=[])/\(M3=M\/M3=M++[.dead]):=by
 have U8:q<M.length:=(fu.1 hq).1;rcases aka (u:=u) (M:=M) c l hl hc with⟨rfl,c1,q1⟩|⟨τ,q1⟩
 ·exact⟨_,M,_,M,_,M,q1,aaY (u:=u) U8 c1,fun T=>rfl,fun _=>rfl,.inl rfl⟩
 ·have vG:(M++[.cells (l.map AV.str)])[q]?=some (.cells (a::b:: .str nm::rest)):=by rw[eo U8];exact hq
  have hid:(M++[.cells (l.map AV.str)])[M.length]?=some (.cells (l.map AV.str)):=by simp
  obtain⟨D,TH,Ht,q2⟩:=f186 (u:=u) (id:=M.length) (by omega) vG l hl l.length hid;refine⟨_,_,_,_,.any,M++[.dead],q1,q2,fun T=>?_,fun h=>(by cases h),.inr rfl⟩;have rP:((D.drop 0).take (gZ nm l).length).all AV.one=true:=by rw[BV,Ht];exact XR _
  have hk:(gZ nm l).length<=l.length:=List.length_filter_le _ _;have hkD:0+(gZ nm l).length*Nat.max 0 1<=D.length/\((0:Nat)=0->((D.drop 0).take (gZ nm l).length).all AV.one=true):=⟨by show 0+(gZ nm l).length*1<=D.length;omega,fun _=>rP⟩;have lO:(M++[θ.cells (l.map AV.str)]).set M.length (.cells D)=M++[.cells D]:=by rw[ya _ _ (bA _)];simp
  have oM:(M++[θ.cells D])[M.length]?=some (.cells D):=by simp
  have acZ:(M++[θ.cells D]).set M.length .dead=M++[.dead]:=by rw[ya _ _ (bA _)];simp
  have ace:(gZ nm l).length<=D.length:=by omega
  have acD:=dS.1 rP;rw[BV]at acD;simp only[fz,lO,oM,Mem.put,acZ,aX,BV,Ht];simp[ace,XR,AV.one]
end
noncomputable def SS(pm:Nat)(d r i:Int)(c1 c2 c3 c4:ξ)(s:Sc)(co:ξ)(out:List AV)(σ:St):Prop:=
 σ.e 0= .μ pm 0/\σ.e 1= .n d/\σ.e 5= .aj 5 0 0/\σ.q 5=some (0,.cells (gJ c1 c2 c3 c4 s))/\σ.e 7= .list co out/\σ.e 18= .n r/\σ.e 19= .n i
def SI(k:Int)(q v:Nat)(e1 e2 e3 e4:ξ)(s':Sc)(σ:St):Prop:=
 σ.e 8= .n k/\σ.e 9= .μ q 0/\σ.e 10= .aj 10 v 0/\σ.q 10=some (v,.cells (gJ e1 e2 e3 e4 s'))
theorem SS.set{pm:Nat}{d r i:Int}{c1 c2 c3 c4:ξ}{s:Sc}{co:ξ}{out:List AV}{σ:St}(h:SS pm d r i c1 c2 c3 c4 s co out σ){j:Nat}(hj:20<=j)(v:AV):SS pm d r i c1 c2 c3 c4 s co out {σ with env:=mN σ.env j v}:=by
 have a0:j≠0:=by omega
 have a1:j≠1:=by omega
 have a2:j≠5:=by omega
 have a3:j≠7:=by omega
 have a4:j≠18:=by omega
 have a5:j≠19:=by omega
 simpa[SS,fA,a0,a1,a2,a3,a4,a5]using h
theorem SI.set{k:Int}{q w:Nat}{e1 e2 e3 e4:ξ}{s':Sc}{σ:St}(h:SI k q w e1 e2 e3 e4 s' σ){j:Nat}(hj:20<=j)(v:AV):SI k q w e1 e2 e3 e4 s' {σ with env:=mN σ.env j v}:=by
 have a0:j≠8:=by omega
 have a1:j≠9:=by omega
 have a2:j≠10:=by omega
 simpa[SI,fA,a0,a1,a2]using h
def BM(t:Nat):List (Nat×Nat×Int×AC)->AC->AC
 |[],e=>e
 |(a,w,j,x)::l,e=> .seq (.ops [⟨some a,.bin .eql (.t t) (.c (.int .i64 j)),none⟩,⟨some w,.mv (.t a),none⟩]) (.cond (.t w) x (BM t l e))
def swp(k:Int):List (Nat×Nat×Int×AC)->AC->AC
 |[],e=>e
 |(_,_,j,x)::l,e=>if k=j then x else swp k l e
theorem κ.BM{gl:Nat->AV}{c:cu}{K:St->Prop}{t:Nat}{k:Int}{Q:Ex×St->Prop}(hK:∀σ j v,20<=j->K σ->K {σ with env:=mN σ.env j v}):
  ∀(l:List (Nat×Nat×Int×AC)) (e:AC) (σ:St),(l.all fun x=>decide (20<=x.1/\20<=x.2.1/\x.1≠t/\x.2.1≠t))=true->K σ->aI σ.env t= .n k->(∀σ',K σ'->κ gl c (swp k l e) σ' Q)->κ gl c (BM t l e) σ Q
 |[],e,σ,_,hσ,_,h=>h σ hσ
 |(a,w,j,x)::l,e,σ,hl,hσ,ht,h=>by
  simp only[alQ,dW,decide_eq_true_eq]at hl;obtain⟨⟨h1,h2,h3,h4⟩,hl⟩:=hl;let σ1:St:= {σ with env:=mN σ.env a (.bool (k==j))};let σ2:St:= {σ1 with env:=mN σ1.env w (.bool (k==j))};have hr:exec gl c dL (.ops [⟨some a,.bin .eql (.t t) (.c (.n j)),none⟩,⟨some w,.mv (.t a),none⟩]) σ=some (.normal,σ2):=by simp[exec,dT,dG,eR,aH,dr,ht,ib,iC,ff,eH,fA,σ1,σ2]
  have k2:K σ2:=hK σ1 w _ h2 (hK σ a _ h1 hσ);have t2:aI σ2.env t= .n k:=by simp[σ2,σ1,fA,h3,h4,ht]
  have w2:aI σ2.env w= .bool (k==j):=by simp[σ2,fA]
  refine κ.go hr ?_;by_cases vz:k=j
  ·have:swp k ((a,w,j,x)::l) e=x:=if_pos vz;rw[this]at h;exact κ.yes (by rw[dr,w2,vz];simp) (h σ2 k2)
  ·have:swp k ((a,w,j,x)::l) e=swp k l e:=if_neg vz;rw[this]at h;exact κ.no (by rw[dr,w2];simpa using vz) (κ.BM hK l e σ2 hl k2 t2 h)
end Go.Δ.Tz
