import Derived.Test.YtiigojkfojnedaaGreatDoorRKu
set_option linter.all false
set_option maxRecDepth 100000
set_option maxHeartbeats 8000000
open Go.IntKind renaming wrap->bN
open Bool renaming false_eq_true->jO,true_and->sg,and_true->akV
open Int renaming fdiv_eq_ediv_of_nonneg->akI,tmod_eq_emod_of_nonneg->Jp,natCast_add->akK,cast_ofNat_Int->zP
open Nat renaming le_refl->b_,mod_lt->mj,le_trans->uO,one_le_two_pow->akM,pow_succ->akN,le_succ->zW,add_zero->qX,zero_add->lN
open List renaming getElem?_eq_getElem->dp,getElem?_map->od,all_eq_true->dL,set_comm->akJ,length->lK,nil_append->bB,append_nil->dM,getElem?_set_ne->gN,take_of_length_le->fe,length_map->cz,mem_of_getElem?->akL,map_cons->ax,map_nil->aI,set_append_left->ns,length_nil->eT,length_set->mN,cons_append->cy,length_cons->cN,mem_append->dQ,mem_singleton->fY,mem_append_left->zR,mem_filter->zS,getElem_cons_zero->kz,getElem_cons_succ->pX,findIdx?_append->akO,map_append->kQ,append_assoc->bQ,findIdx?_eq_none_iff->vV,mem_cons->cB,mem_map->fb,length_append->cX,map_map->cT,findIdx?_eq_some_iff_getElem->tD,getElem?_eq_some_iff->fI,drop_eq_getElem_cons->oc,getElem_of_mem->vX,map_congr_left->dh,drop_drop->o9,map_drop->akP,take_append->akQ,drop->akR,map_take->akS,take_length->pa,getElem?_append_left->d_,all_cons->akT,all_nil->akU,drop_zero->BV,set_append_right->xI
open List.cons renaming injEq->sk
open Prod.mk renaming injEq->az
namespace Go.Δ.Tz
open Go.Δ
variable{u:Nat}
attribute [local simp] exec ef dR e_ aJ dF fE eR br fM bR iL iS jm jE mo AV.cells newVar jA rd wr iu single dk cD ff eF μ cF RV.get cK fV kT
theorem wrap_u32(n:Int):0<=bN .u32 n/\bN .u32 n<4294967296:=by show 0<=(if(false&&decide (n % 4294967296≥2147483648))=true then n % 4294967296-4294967296 else n % 4294967296)/\(if(false&&decide (n % 4294967296≥2147483648))=true then n % 4294967296-4294967296 else n % 4294967296)<4294967296;simp only[Bool.false_and,jO,if_false];omega
def gg(c:τ)(bs:List Nat):AV:= .list c (bs.map fun b:Nat=> .int .u8 (b:Int))
def aP(c:τ)(bs:List Nat)(n:Nat)(x:Int):List AV:=[gg c bs,.n n,.int .u32 x]
theorem f182{c:τ}{bs:List Nat}{B:List θ}{p:Nat}(hp:p<B.length)(hb:bs.length<=300)(n:Nat)(x:Int)(hn:n<4000000000000000000):
  ∃(x' r:Int) (n':Nat),n<=n'/\n'<=n+1/\0<=r/\r<4294967296/\∀T,kf u 182 [.κ p 0] {ε:=B.set p (.cells (aP c bs n x)),η:=T}=some (.int .u32 r,{ε:=B.set p (.cells (aP c bs n' x')),η:=T}):=by
 have hg:∀cs,(B.set p (θ.cells cs))[p]?=some (.cells cs):=fun cs=>by simp[hp]
 have hr:μ (C u).gl (ab (C u)) c182 {env:=[.κ p 0],loc:=[],mem:= {ε:=B.set p (.cells (aP c bs n x)),η:=[]}} fun q=>(∀i,q.1≠ .exit i)/\∃(x' r:Int) (n':Nat),n<=n'/\n'<=n+1/\0<=r/\r<4294967296/\q.2.mem= {ε:=B.set p (.cells (aP c bs n' x')),η:=[]}/\br q.2.env 2= .int .u32 r:=by
  let M:St->Prop:=fun st=>st.e 0= .κ p 0/\∃x:Int,(0<=x/\x<4294967296)/\st.mem= {ε:=B.set p (.cells (aP c bs n x)),η:=[]};unfold c182;refine Ψ (fun st=>st.e 0= .κ p 0/\st.mem= {ε:=B.set p (.cells (aP c bs n x)),η:=[]}) (by simp) fun s1 ⟨h1,h2⟩=>?_;refine Ψ (M) (by
   simp[M,h1,h2,hg,aP,Mem.put,Mem.ν,ν,bn,lo]
   exact⟨_,wrap_u32 _,rfl⟩) fun s1 ⟨h1,x,hx,h2⟩=>?_
  refine Ψ (M) (by
   simp[M,h1,h2,hg,aP,Mem.put,Mem.ν,ν,bn,lo]
   exact⟨_,wrap_u32 _,rfl⟩) fun s1 ⟨h1,x,hx,h2⟩=>?_
  refine Ψ (M) (by
   simp[M,h1,h2,hg,aP,Mem.put,Mem.ν,ν,bn,lo]
   exact⟨_,wrap_u32 _,rfl⟩) fun s1 ⟨h1,x,hx,h2⟩=>?_
  refine Ψ (fun st=>(st.e 0= .κ p 0/\st.mem= {ε:=B.set p (.cells (aP c bs n x)),η:=[]})/\st.e 3= .int .u32 (x.fdiv 8)) (by
   simp[h1,h2,hg,aP]
   rfl) fun s1 ⟨⟨h1,h2⟩,h3⟩=>?_
  have UF:0<=x.fdiv 8/\x.fdiv 8<4294967296:=by rw[akI _ (by omega)];omega
  refine bS (fun st=>∃(x' r:Int) (n':Nat),n<=n'/\n'<=n+1/\0<=r/\r<4294967296/\st.mem= {ε:=B.set p (.cells (aP c bs n' x')),η:=[]}/\st.e 3= .int .u32 r) ?_ fun s2 ⟨x',r,n',q1,q2,q3,q4,q5,q6⟩=>?_
  ·by_cases gF:bs.length=0
   ·refine μ.done .normal (fun st=>st.mem= {ε:=B.set p (.cells (aP c bs n x)),η:=[]}/\st.e 3= .int .u32 (x.fdiv 8)) (by simp[h1,h2,h3,hg,aP,gg,gF]) fun s' ⟨e2,e3⟩=> .inl ⟨rfl,x,x.fdiv 8,n,b_ _,by omega,UF.1,UF.2,e2,e3⟩
   ·have dr:(0:Int)<bs.length:=by omega
    have Tw:¬(bs.length:Int)=0:=by omega
    have ek:bs≠[]:=fun h=>gF (by rw[h];rfl);obtain⟨k,hk⟩:∃k:Nat,k=n % bs.length:=⟨_,rfl⟩;have ψ:k<bs.length:=by rw[hk];exact mj _ (by omega)
    have Ug:(n:Int).tmod bs.length=(k:Int):=by rw[Jp (by omega),hk];simp
    have TZ:(k:Int)<bs.length:=by omega
    obtain⟨b,ry⟩:∃b,bs[k]?=some b:=⟨_,dp ψ⟩;have mB:(bs.map fun b:Nat=>AV.int .u8 (b:Int))[k]?=some (.int .u8 b):=by rw[od,ry];rfl
    have kj:bN .i64 ((n:Int)+1)=(n:Int)+1:=wrap_i64 (by omega) (by omega);refine Ψ (fun st=>((st.e 0= .κ p 0/\st.mem= {ε:=B.set p (.cells (aP c bs n x)),η:=[]})/\st.e 3= .int .u32 (x.fdiv 8))/\st.e 50= .bool true) (by simp[h1,h2,h3,hg,aP,gg,dr,Nat.pos_of_ne_zero gF]) fun s2 ⟨⟨⟨h1,h2⟩,h3⟩,h4⟩=>?_;refine μ.yes (by simp[h4]) ?_;refine Ψ (fun st=>(st.e 0= .κ p 0/\st.mem= {ε:=B.set p (.cells (aP c bs n x)),η:=[]})/\∃r:Int,(0<=r/\r<4294967296)/\st.e 3= .int .u32 r) (by
     simp[h1,h2,h3,hg,aP,gg,Tw,ek,Ug,TZ,mB]
     exact wrap_u32 _) fun s2 ⟨⟨h1,h2⟩,r,hr,h3⟩=>?_
    refine Ψ (fun st=>(st.e 0= .κ p 0/\∃x:Int,st.mem= {ε:=B.set p (.cells (aP c bs n x)),η:=[]})/\st.e 3= .int .u32 r) (by
     simp[h1,h2,h3,hg,aP,gg,Tw,ek,Ug,TZ,mB,Mem.put,Mem.ν,ν,bn,lo]
     exact⟨_,rfl⟩) fun s2 ⟨⟨h1,x2,h2⟩,h3⟩=>?_
    refine μ.done .normal (fun st=>st.mem= {ε:=B.set p (.cells (aP c bs (n+1) x2)),η:=[]}/\st.e 3= .int .u32 r) (by simp[h1,h2,h3,hg,aP,gg,kj,Mem.put,Mem.ν,ν,bn,lo]) fun s' ⟨e2,e3⟩=> .inl ⟨rfl,x2,r,n+1,by omega,b_ _,hr.1,hr.2,e2,e3⟩
  ·refine μ.done .ret (fun st=>st.mem= {ε:=B.set p (.cells (aP c bs n' x')),η:=[]}/\st.e 2= .int .u32 r) (by simp[q5,q6]) fun s' ⟨m1,m2⟩=>⟨by simp,x',r,n',q1,q2,q3,q4,m1,m2⟩
 obtain⟨q,hx,h1,x',r,n',q1,q2,q3,q4,h2,h3⟩:=hr;exact⟨x',r,n',q1,q2,q3,q4,fun T=>oT (g:=Ge) rfl rfl rfl hp rfl ⟨q,hx,h1,⟨[],by simp[h2]⟩,[.int .u32 r],by simp[Ge,h3],rfl⟩ T⟩
theorem f121{c:τ}{bs:List Nat}{B:List θ}{p:Nat}(hp:p<B.length)(hb:bs.length<=300)(n:Nat)(x k:Int)(hn:n<4000000000000000000):
  ∃(x' r:Int) (n':Nat),n<=n'/\n'<=n+1/\0<=r/\(0<k->r<k)/\(k<=0->r=0)/\∀T,kf u 121 [.κ p 0,.n k] {ε:=B.set p (.cells (aP c bs n x)),η:=T}=some (.n r,{ε:=B.set p (.cells (aP c bs n' x')),η:=T}):=by
 by_cases hk:k<=0
 ·refine⟨x,0,n,b_ _,by omega,Int.le_refl _,fun h=>by omega,fun _=>rfl,fun T=>oT (g:=Ax) rfl rfl rfl hp (by simp[exp]) ?_ T⟩;simp[Ax,JS,hk]
 ·obtain⟨x',r,n',q1,q2,q3,q4,q5⟩:=f182 (u:=u) (c:=c) (bs:=bs) hp hb n x hn;have hr:0<=r.fdiv 16/\r.fdiv 16<4294967296:=by rw[akI _ (by omega)];omega
  have hw:bN .i64 (r.fdiv 16)=r.fdiv 16:=wrap_i64 (by omega) (by omega);have oM:¬k=0:=by omega
  have ht:0<=(r.fdiv 16).tmod k/\(r.fdiv 16).tmod k<k:=by rw[Jp hr.1];exact⟨Int.emod_nonneg _ oM,Int.emod_lt_of_pos _ (by omega)⟩
  refine⟨x',(r.fdiv 16).tmod k,n',q1,q2,ht.1,fun _=>ht.2,fun h=>absurd h hk,fun T=>oT (g:=Ax) rfl rfl rfl hp (by simp[exp]) ?_ T⟩;have hm:(r.fdiv (2^Nat.min 4 IntKind.u32.bits):Int)=r.fdiv 16:=rfl;simp[Ax,JS,hk,q5,oM,hw,hm]
theorem f153{c:τ}{bs:List Nat}{B:List θ}{p:Nat}(hp:p<B.length)(hb:bs.length<=300)(n:Nat)(x k:Int)(hn:n<4000000000000000000):
  ∃(x':Int) (r:Bool) (n':Nat),n<=n'/\n'<=n+1/\∀T,kf u 153 [.κ p 0,.n k] {ε:=B.set p (.cells (aP c bs n x)),η:=T}=some (.bool r,{ε:=B.set p (.cells (aP c bs n' x')),η:=T}):=by
 obtain⟨x',r,n',q1,q2,-,-,-,q5⟩:=f121 (u:=u) (c:=c) (bs:=bs) hp hb n x k hn;refine⟨x',r==0,n',q1,q2,fun T=>oT (g:=F8) rfl rfl rfl hp (by simp[exp]) ?_ T⟩;simp[F8,Qe,q5]
theorem f119{c:τ}{bs:List Nat}{B:List θ}{p:Nat}(hp:p<B.length)(hb:bs.length<=300)(n:Nat)(x lo hi:Int)(hn:n<4000000000000000000)(h1:0<=lo)(h2:lo<=hi)(h3:hi<1000000000):
  ∃(x' r:Int) (n':Nat),n<=n'/\n'<=n+1/\lo<=r/\r<=hi/\∀T,kf u 119 [.κ p 0,.n lo,.n hi] {ε:=B.set p (.cells (aP c bs n x)),η:=T}=some (.n r,{ε:=B.set p (.cells (aP c bs n' x')),η:=T}):=by
 obtain⟨x',r,n',q1,q2,q3,q4,-,q5⟩:=f121 (u:=u) (c:=c) (bs:=bs) hp hb n x (hi-lo+1) hn;have q4:=q4 (by omega);have e1:bN .i64 (hi-lo)=hi-lo:=wrap_i64 (by omega) (by omega);have e2:bN .i64 (hi-lo+1)=hi-lo+1:=wrap_i64 (by omega) (by omega);have e3:bN .i64 (lo+r)=lo+r:=wrap_i64 (by omega) (by omega);refine⟨x',lo+r,n',q1,q2,by omega,by omega,fun T=>oT (g:=FX) rfl rfl rfl hp (by simp[exp]) ?_ T⟩;simp[FX,c119,e1,e2,e3,q5]
attribute [local simp] tQ
def bG(ps:Nat)(P:AV)(st:Int)(fr:Nat):List AV:=[.κ ps 0,P,.n st,.n fr]
theorem Z7:((List.range 128).all fun k=>decide ((Utf8.encode (k:Int)).data.toList.map UInt8.toNat=[k]))=true:=by kernel_rfl
theorem RI(k:Nat)(h:k<128):(Utf8.encode (k:Int)).data.toList.map UInt8.toNat=[k]:=by have:=dL.1 Z7 k (List.mem_range.2 h);simpa using this
def bV(f:List Nat)(k:Nat):List Nat:=f++[118,97+k/26 % 26,97+k % 26]
theorem wrap_i32{n:Int}(h1:0<=n)(h2:n<2147483648):bN .i32 n=n:=by
 show(if(true&&decide (n % 4294967296≥2147483648))=true then n % 4294967296-4294967296 else n % 4294967296)=n;have:¬(n % 4294967296≥2147483648):=by omega
 simp only[this,decide_false,Bool.and_false,jO,if_false];omega
section
variable{B:List θ}{pm ps:Nat}(hm:pm<B.length)(hs:ps<B.length)(φ:pm≠ps)
include hm hs φ
theorem f120(P:AV)(st:Int)(fr:Nat)(dH:fr<4000000000000000000)(S:List AV)(f:List Nat)(hf:f.length<=10)(T:List Nat):
  kf u 120 [.κ pm 0,.str f] {ε:=(B.set pm (.cells (bG ps P st fr))).set ps (.cells S),η:=T}=some (.str (bV f (fr+1)),{ε:=(B.set pm (.cells (bG ps P st (fr+1)))).set ps (.cells S),η:=T}):=by
 rw[akJ _ _ φ,akJ _ _ φ];have hg:∀cs,((B.set ps (.cells S)).set pm (θ.cells cs))[pm]?=some (.cells cs):=fun cs=>by simp[hm]
 refine oT (g:=FY) rfl rfl rfl (by simpa using hm) (by simp[exp]) ?_ T;generalize B.set ps (.cells S)=B2 at*;have e1:bN .i64 ((fr:Int)+1)=((fr+1:Nat):Int):=by rw[wrap_i64 (by omega) (by omega)];simp
 simp only[FY,P_,bG];refine Ψ (fun aT=>aT.e 0= .κ pm 0/\aT.e 1= .str f/\aT.mem= {ε:=B2.set pm (.cells [.κ ps 0,P,.n st,.n fr]),η:=[]}) (by simp) fun s1 ⟨h1,h2,h3⟩=>?_;refine Ψ (fun aT=>aT.e 0= .κ pm 0/\aT.e 1= .str f/\aT.mem= {ε:=B2.set pm (.cells [.κ ps 0,P,.n st,.n ((fr+1:Nat):Int)]),η:=[]}) (by simp only[akK,zP]at e1⊢;simp[h1,h2,h3,hg,e1,Mem.put,Mem.ν,ν,bn,lo]) fun s1 ⟨h1,h2,h3⟩=>?_;obtain⟨k,hk⟩:∃k,k=fr+1:=⟨_,rfl⟩;rw[<-hk]at h3⊢;have gy:k<4000000000000000001:=by omega
 obtain⟨a,ha⟩:∃a,a=k/26 % 26:=⟨_,rfl⟩;obtain⟨b,hb⟩:∃b,b=k % 26:=⟨_,rfl⟩;have q1:bN .i64 ((k:Int).tdiv 26)=((k/26:Nat):Int):=by
  have:(k:Int).tdiv 26=((k/26:Nat):Int):=by rw[Int.tdiv_eq_ediv_of_nonneg (by omega)];simp
  rw[this,wrap_i64 (by omega) (by omega)]
 have q1':bN .i64 ((k:Int)/26)=((k/26:Nat):Int):=by rw[show(k:Int)/26=((k/26:Nat):Int) by simp,wrap_i64 (by omega) (by omega)]
 have q2:((k/26:Nat):Int).tmod 26=(a:Int):=by rw[Jp (by omega),ha];simp
 have q3:(k:Int).tmod 26=(b:Int):=by rw[Jp (by omega),hb];simp
 have q4:bN .i64 (97+(a:Int))=((97+a:Nat):Int):=by rw[wrap_i64 (by omega) (by omega)];simp
 have q5:bN .i64 (97+(b:Int))=((97+b:Nat):Int):=by rw[wrap_i64 (by omega) (by omega)];simp
 have q6:bN .i32 ((97+a:Nat):Int)=((97+a:Nat):Int):=wrap_i32 (by omega) (by omega);have q7:bN .i32 ((97+b:Nat):Int)=((97+b:Nat):Int):=wrap_i32 (by omega) (by omega);have q8:=RI (97+a) (by omega);have q9:=RI (97+b) (by omega);have z8:(Utf8.encode ((97+a:Nat):Int)).size=1:=by have:=congrArg lK q8;simpa using this
 have z9:(Utf8.encode ((97+b:Nat):Int)).size=1:=by have:=congrArg lK q9;simpa using this
 have n1:¬(9223372036854775807:Int)<(f.length:Int)+1:=by omega
 have n2:¬(9223372036854775807:Int)<(f.length:Int)+1+1:=by omega
 have n3:¬(9223372036854775807:Int)<(f.length:Int)+2+1:=by omega
 have hT:bV f k=f++[118,97+a,97+b]:=by rw[bV,ha,hb]
 rw[hT];generalize hqa:((k/26:Nat):Int)=kq at*;generalize A6:((97+a:Nat):Int)=na at*;generalize vk:((97+b:Nat):Int)=nb at*;simp[h1,h2,h3,hg,q1,q1',q2,q3,q4,q5,q6,q7,q8,q9,z8,z9,n1,n2,n3]
end
theorem Iu{f:FuncId}{g:AF}{args:List AV}{B B':List θ}{v:AV}(h1:(C u).gM f=none)(h2:(C u).fs f=some g)(h3:(C u).ba f=false)(hl:B'.length=B.length)(hx:args.map (exp B.length false)=args)
  (hr:μ (C u).gl (ab (C u)) g.code {env:=args,loc:=[],mem:= {ε:=B,η:=[]}} fun r=>(∀i,r.1≠ .exit i)/\(∃bs,r.2.mem= {ε:=B'++bs,η:=[]})/\∃l,cF r.2 g.results=some l/\aQ r.2.mem.ε B.length 8 (cK l)=v) (T:List Nat):
  ab (C u) (.fn (.func f) [] []) args {ε:=B,η:=T}=some (v,{ε:=B',η:=T}):=by
 refine ku h1 h2 h3 hl ?_;have eG:([]++args++[]).map (exp B.length false)=args:=by simp only[bB,dM,hx]
 dsimp only;rw[eG];exact hr
inductive cZ (ts:List (List Nat)):Nat->ζ->Prop
 |fix {s:Nat} {n:Int} (h1:0<=n) (h2:n<100):cZ ts s (.mk 1 n [] .nil [])
 |dZ {s:Nat} {t:List Nat} (h:t∈ts):cZ ts s (.mk 2 0 t .nil [])
 |bin {s:Nat} {k:Int} {a b:ζ} (h0:1<=s) (h1:3<=k) (h2:k<=5) (ha:cZ ts s a) (hb:cZ ts s b):cZ ts (s+2) (.mk k 0 [] .any [a,b])
theorem cZ.mono{ts:List (List Nat)}{s:Nat}{i:ζ}(h:cZ ts s i):∀{s':Nat},s<=s'->cZ ts s' i:=by
 induction h with
 |fix h1 h2=>exact fun _=> .fix h1 h2
 |dZ h=>exact fun _=> .dZ h
 |@bin s k a b h0 h1 h2 ha hb dJ gm=>
  intro s' hs
  obtain⟨r,rfl⟩:∃r,s'=r+2:=⟨s'-2,by omega⟩;exact .bin (by omega) h1 h2 (dJ (by omega)) (gm (by omega))
theorem cZ.fx{ts:List (List Nat)}{s:Nat}{i:ζ}(h:cZ ts s i):Dv i.av i.av:=by
 induction h with
 |fix _ _=>exact .agg (.cons (.int _ _) (.cons (.int _ _) (.cons (.str _) (.cons (.list .nil .nil) .nil))))
 |dZ _=>exact .agg (.cons (.int _ _) (.cons (.int _ _) (.cons (.str _) (.cons (.list .nil .nil) .nil))))
 |bin _ _ _ _ _ dJ gm=>exact .agg (.cons (.int _ _) (.cons (.int _ _) (.cons (.str _) (.cons (Dv.list .any (.cons dJ (.cons gm .nil))) .nil))))
theorem cZ.jR{ts:List (List Nat)}{s:Nat}{i:ζ}(h:cZ ts s i):ν (.agg i.four)= .agg i.four:=by have:=h.fx.ν;rwa[ζ.fm]at this
def kF:Nat->Nat
 |0=>5
 |1=>5
 |s+2=>5+2*kF s
theorem ZK:∀s,5<=kF s
 |0=>by simp[kF]
 |1=>by simp[kF]
 |s+2=>by simp[kF]
theorem Rq:∀s,kF s<=kF (s+1)
 |0=>by simp[kF]
 |1=>by simp[kF]
 |s+2=>by have:=Rq s;simp only[kF];omega
theorem Rp{a b:Nat}(h:a<=b):kF a<=kF b:=by
 induction h with
 |refl=>exact b_ _
 |step _ ih=>exact uO ih (Rq _)
theorem wi{gl:Nat->AV}{cv:cg}{a:AC}{s:St}{P Q:St->Prop}(h:∃s',exec gl cv dP a s=some (.normal,s')/\P s')(k:∀s',P s'->Q s'):∃s',exec gl cv dP a s=some (.normal,s')/\Q s':=by obtain⟨s',h1,h2⟩:=h;exact⟨s',h1,k s' h2⟩
section
variable{B:List θ}{pm ps:Nat}(hm:pm<B.length)(hs:ps<B.length)(φ:pm≠ps){c:τ}{bs:List Nat}(hb:bs.length<=300)
include hm hs φ hb
theorem f83(ct:τ)(wJ:bm ct)(ts:List (List Nat))(P:AV)(st:Int)(fr:Nat):∀(s:Nat),s<=9->∀(n:Nat) (x:Int),n+kF s<4000000000000000000→
  ∃(x':Int) (n':Nat) (i:ζ),n<=n'/\n'<=n+kF s/\cZ ts s i/\∀T,kf u 83 [.κ pm 0,.n (s:Int),bw ct ts] {ε:=(B.set pm (.cells (bG ps P st fr))).set ps (.cells (aP c bs n x)),η:=T}=some (i.av,{ε:=(B.set pm (.cells (bG ps P st fr))).set ps (.cells (aP c bs n' x')),η:=T}):=by
 intro s;induction s using Nat.strongRecOn with
 |ind s ih=>
 intro hs9 n x hn
 have qh:ps<(B.set pm (.cells (bG ps P st fr))).length:=by simpa using hs
 have Hu:∀S,((B.set pm (.cells (bG ps P st fr))).set ps S)[pm]?=some (.cells (bG ps P st fr)):=fun S=>by rw[gN (Ne.symm φ)];simp[hm]
 have hlen:∀S,((B.set pm (.cells (bG ps P st fr))).set ps S).length=B.length:=fun S=>by simp
 generalize Hf:B.set pm (.cells (bG ps P st fr))=B2 at*;have hr:μ (C u).gl (ab (C u)) J8 {env:=[.κ pm 0,.n (s:Int),bw ct ts],loc:=[],mem:= {ε:=B2.set ps (.cells (aP c bs n x)),η:=[]}} fun q=>(∀i,q.1≠ .exit i)/\∃(x':Int) (n':Nat) (i:ζ),n<=n'/\n'<=n+kF s/\cZ ts s i/\q.2.mem= {ε:=B2.set ps (.cells (aP c bs n' x')),η:=[]}/\br q.2.env 6= .ak 6 0 0/\∃L,bR q.2.loc 6=some (0,.cells L)/\L.length=4/\Dv (.agg L) i.av:=by
  unfold J8;let K:Nat->Int->St->Prop:=fun n x st=>(st.e 0= .κ pm 0/\st.e 1= .n (s:Int)/\st.e 2=bw ct ts)/\st.mem= {ε:=B2.set ps (.cells (aP c bs n x)),η:=[]}/\st.e 6= .ak 6 0 0/\st.q 6=some (0,.cells z0.four);refine Ψ (fun st=>K n x st/\st.q 7=none) (by simp[K,bJ,z0,ζ.four,ζ.χ]) fun s1 ⟨⟨⟨h1,h2,h3⟩,h4,h5,h6⟩,h7⟩=>?_;have oI:=ZK s;have qp:∀S,(B2.set ps S)[pm]?=some (.cells [.κ ps 0,P,.n st,.n fr]):=Hu;refine bS (fun st=>∃n2 x2,(n<=n2/\n2<=n+2)/\K n2 x2 st) (μ.block ?_) fun s2 ⟨n2,x2,⟨b1,b2⟩,⟨h1,h2,h3⟩,h4,h5,h6⟩=>?_
  ·refine Ψ (fun st=>∃n1 x1 t,(n<=n1/\n1<=n+1/\(t=true->2<s))/\(K n1 x1 st/\st.q 7=none)/\st.e 8= .bool t) ?_ fun s2 ⟨n1,x1,t,⟨a1,a2,a3⟩,⟨⟨⟨h1,h2,h3⟩,h4,h5,h6⟩,h7⟩,h8⟩=>?_
   ·by_cases SW:2<s
    ·obtain⟨x1,t,n1,a1,a2,q⟩:=f153 (u:=u) (c:=c) (bs:=bs) qh hb n x 3 (by omega);have Ls:(2:Int)<s:=by omega
     exact wi (P:=fun st=>(K n1 x1 st/\st.q 7=none)/\st.e 8= .bool t) (by simp[K,h1,h2,h3,h4,h5,h6,h7,Ls,qp,q]) fun s' h=>⟨n1,x1,t,⟨a1,a2,fun _=>SW⟩,h⟩
    ·have Ls:¬(2:Int)<s:=by omega
     exact wi (P:=fun st=>(K n x st/\st.q 7=none)/\st.e 8= .bool false) (by simp[K,h1,h2,h3,h4,h5,h6,h7,Ls]) fun s' h=>⟨n,x,false,⟨b_ _,by omega,fun h=>by cases h⟩,h⟩
   cases t with
   |true=>
    have SW:=a3 rfl
    obtain⟨r,rfl⟩:∃r,s=r+2:=⟨s-2,by omega⟩;simp only[kF]at hn oI⊢;refine μ.yes (by simp[h8]) ?_;have c_:bN .i64 (((r+2:Nat):Int)-2)=(r:Int):=by rw[wrap_i64 (by omega) (by omega)];omega
    have UA:bN .i64 (r:Int)=(r:Int):=wrap_i64 (by omega) (by omega);obtain⟨x2,k1,n2,c1,c2,c3,c4,q1⟩:=f119 (u:=u) (c:=c) (bs:=bs) qh hb n1 x1 1 r (by omega) (by omega) (by omega) (by omega);obtain⟨k1,rfl⟩:∃k:Nat,k1=k:=⟨k1.toNat,by omega⟩;have hdk:=Rp (a:=k1) (b:=r) (by omega);obtain⟨x3,n3,a,d1,d2,d3,q2⟩:=ih k1 (by omega) (by omega) n2 x2 (by omega);obtain⟨x4,k2,n4,e1,e2,e3,e4,q3⟩:=f119 (u:=u) (c:=c) (bs:=bs) qh hb n3 x3 3 5 (by omega) (by omega) (by omega) (by omega);obtain⟨x5,k3,n5,g1,g2,g3,g4,q4⟩:=f119 (u:=u) (c:=c) (bs:=bs) qh hb n4 x4 1 r (by omega) (by omega) (by omega) (by omega);obtain⟨k3,rfl⟩:∃k:Nat,k3=k:=⟨k3.toNat,by omega⟩;have aj1:=Rp (a:=k3) (b:=r) (by omega);obtain⟨x6,n6,b,l1,l2,l3,q5⟩:=ih k3 (by omega) (by omega) n5 x5 (by omega);have Tk:=ζ.eY a;have yn:=ζ.eY b;have jr:a.four.take 4=a.four:=fe (by omega);simp only[ζ.fm]at q2 q5;refine Ψ (fun st=>(K n3 x3 st/\st.e 7= .ak 7 0 0)/\st.q 7=some (0,.cells a.four)) (by simp[K,h1,h2,h3,h4,h5,h6,h7,qp,c_,UA,q1,q2,bJ,Tk,jr]) fun s3 ⟨⟨⟨⟨h1,h2,h3⟩,h4,h5,h6⟩,h7⟩,h8⟩=>?_;have h6:s3.q 6=some (0,.cells [.n 0,.n 0,.str [],.list .nil []]):=h6;refine Ψ (fun st=>(st.mem= {ε:=B2.set ps (.cells (aP c bs n6 x6)),η:=[]}/\st.e 6= .ak 6 0 0)/\st.q 6=some (0,.cells [.n k2,.n 0,.str [],.list .full [.agg a.four,.agg b.four]])) (by simp[h1,h2,h3,h4,h5,h6,h7,h8,qp,c_,UA,q3,q4,q5,Tk,yn,jr,c7,de,nD,dG,shaped,Mem.ν,d3.jR,l3.jR]) fun s4 ⟨⟨m1,m2⟩,m3⟩=>?_;refine μ.done .ret (fun st=>st.mem= {ε:=B2.set ps (.cells (aP c bs n6 x6)),η:=[]}/\st.e 6= .ak 6 0 0/\st.q 6=some (0,.cells [.n k2,.n 0,.str [],.list .full [.agg a.four,.agg b.four]])) (by simp[m1,m2,m3]) fun s' ⟨e1,e2,e3⟩=> .inr ⟨by simp,.inr ⟨by simp,by simp,x6,n6,.mk k2 0 [] .any [a,b],by omega,by omega,.bin (by omega) (by omega) (by omega) (d3.mono (by omega)) (l3.mono (by omega)),e1,e2,_,e3,rfl,?_⟩⟩;have ha:Dv (.agg a.four) a.av:=by rw[<-ζ.fm];exact d3.fx
    have hb:Dv (.agg b.four) b.av:=by rw[<-ζ.fm];exact l3.fx
    exact .agg (.cons (.int _ _) (.cons (.int _ _) (.cons (.str _) (.cons (Dv.list .full (.cons ha (.cons hb .nil))) .nil))))
   |false=>
    refine μ.no (by simp[h8]) ?_
    have tl:(ts.map AV.str).length=ts.length:=cz _;refine Ψ (fun st=>∃n2 x2 t,(n1<=n2/\n2<=n1+1/\(t=true->0<ts.length))/\K n2 x2 st/\st.e 46= .bool t) ?_ fun s3 ⟨n2,x2,t,⟨b1,b2,b3⟩,⟨⟨h1,h2,h3⟩,h4,h5,h6⟩,h9⟩=>?_
    ·simp only[bw]at h3;by_cases rK:0<ts.length
     ·obtain⟨x2,t,n2,b1,b2,q⟩:=f153 (u:=u) (c:=c) (bs:=bs) qh hb n1 x1 2 (by omega);exact wi (P:=fun st=>K n2 x2 st/\st.e 46= .bool t) (by simp[K,bw,h1,h2,h3,h4,h5,h6,h7,rK,qp,q]) fun s' h=>⟨n2,x2,t,⟨b1,b2,fun _=>rK⟩,h⟩
     ·exact wi (P:=fun st=>K n1 x1 st/\st.e 46= .bool false) (by simp[K,bw,h1,h2,h3,h4,h5,h6,h7,rK]) fun s' h=>⟨n1,x1,false,⟨b_ _,by omega,fun h=>by cases h⟩,h⟩
    cases t with
    |true=>
     have rK:=b3 rfl
     obtain⟨x3,r,n3,c1,c2,c3,c4,-,q⟩:=f121 (u:=u) (c:=c) (bs:=bs) qh hb n2 x2 ts.length (by omega);have c4:=c4 (by omega);obtain⟨r,rfl⟩:∃k:Nat,r=k:=⟨r.toNat,by omega⟩;obtain⟨w,hw⟩:∃w,ts[r]?=some w:=⟨_,dp (by omega)⟩;have nT:w∈ts:=akL hw;have mB:(ts.map AV.str)[r]?=some (.str w):=by rw[od,hw];rfl
     simp only[bw]at h3;have h6:s3.q 6=some (0,.cells [.n 0,.n 0,.str [],.list .nil []]):=h6;refine μ.yes (by simp[h9]) (μ.done .ret (fun st=>st.mem= {ε:=B2.set ps (.cells (aP c bs n3 x3)),η:=[]}/\st.e 6= .ak 6 0 0/\st.q 6=some (0,.cells [.n 2,.n 0,.str w,.list .nil []])) (by simp[h1,h2,h3,h4,h5,h6,qp,q,mB,c4,dG]) fun s' ⟨e1,e2,e3⟩=> .inr ⟨by simp,.inr ⟨by simp,by simp,x3,n3,.mk 2 0 w .nil [],by omega,by omega,.dZ nT,e1,e2,_,e3,rfl,(cZ.dZ (ts:=ts) (s:=0) nT).fx⟩⟩)
    |false=>refine μ.no (by simp[h9]) (μ.done .normal (K n2 x2) (by simp[K,h1,h2,h3,h4,h5,h6]) fun s' h=> .inr ⟨by simp,.inl ⟨rfl,n2,x2,⟨by omega,by omega⟩,h⟩⟩)
  ·obtain⟨x3,r,n3,c1,c2,c3,c4,-,q⟩:=f121 (u:=u) (c:=c) (bs:=bs) qh hb n2 x2 3 (by omega);have c4:=c4 (by omega);obtain⟨mx,jK,MC,Ua⟩:∃mx:Int,(r=0/\mx=3\/r=1/\mx=9\/r=2/\mx=100)/\0<mx/\mx<=100:=by
    have:r=0\/r=1\/r=2:=by omega
    rcases this with rfl|rfl|rfl
    ·exact⟨3,by omega,by omega,by omega⟩
    ·exact⟨9,by omega,by omega,by omega⟩
    ·exact⟨100,by omega,by omega,by omega⟩
   obtain⟨x4,v,n4,d1,d2,d3,d4,-,q2⟩:=f121 (u:=u) (c:=c) (bs:=bs) qh hb n3 x3 mx (by omega);have d4:=d4 MC;have h6:s2.q 6=some (0,.cells [.n 0,.n 0,.str [],.list .nil []]):=h6;refine Ψ (fun st=>st.mem= {ε:=B2.set ps (.cells (aP c bs n4 x4)),η:=[]}/\st.e 6= .ak 6 0 0/\st.q 6=some (0,.cells [.n 1,.n v,.str [],.list .nil []])) (by rcases jK with⟨rfl,rfl⟩|⟨rfl,rfl⟩|⟨rfl,rfl⟩<;>simp[h1,h2,h3,h4,h5,h6,qp,q,q2,dG,c7,de,nD,shaped,AV.one,Mem.ν,ν]) fun s3 ⟨m1,m2,m3⟩=>?_;refine μ.done .ret (fun st=>st.mem= {ε:=B2.set ps (.cells (aP c bs n4 x4)),η:=[]}/\st.e 6= .ak 6 0 0/\st.q 6=some (0,.cells [.n 1,.n v,.str [],.list .nil []])) (by simp[m1,m2,m3]) fun s' ⟨e1,e2,e3⟩=>⟨by simp,x4,n4,.mk 1 v [] .nil [],by omega,by omega,.fix d3 (by omega),e1,e2,_,e3,rfl,(cZ.fix (ts:=ts) (s:=0) (n:=v) d3 (by omega)).fx⟩
 obtain⟨q,hx,h1,x',n',i,q1,q2,q3,h2,h3,h4⟩:=hr;refine⟨x',n',i,q1,q2,q3,fun T=>?_⟩;obtain⟨L,h4,hL,hD⟩:=h4;have iC:[AV.n (s:Int),bw ct ts].map (exp B2.length false)=[AV.n (s:Int),bw ct ts]:=by simp only[ax,aI,x_ wJ,exp]
 refine Iu (u:=u) (f:=83) (g:=Ha) (B:=B2.set ps (.cells (aP c bs n x))) (B':=B2.set ps (.cells (aP c bs n' x'))) (args:=[.κ pm 0,.n (s:Int),bw ct ts]) rfl rfl rfl (by simp) (by
  have:pm<(B2.set ps (.cells (aP c bs n x))).length:=by rw[hlen];exact hm
  simp only[ax,aI,exp,this,if_true,x_ wJ]) ⟨q,hx,h1,⟨[],by simp[h2]⟩,[.agg L],?_,?_⟩ T
 ·have:L.take 4=L:=fe (by omega);simp[Ha,h3,h4,hL,this]
 ·rw[h2];exact hD.aQ _ _ _
end
theorem f183(g:Int)(hg:1<=g/\g<=12)(m:Mem):kf u 183 [.n g] m=some (.n (ga g),m):=by
 refine dt (g:=AA) rfl rfl rfl ?_;by_cases h1:g<=8
 ·simp[AA,c183,exp,ga,h1,hg.1]
 ·by_cases h2:g<=11
  ·have h3:9<=g:=by omega
   have h4:¬g=13:=by omega
   have h5:¬g=14:=by omega
   simp[AA,c183,exp,ga,h1,hg.1,h2,h3,h4,h5]
  ·have h3:g=12:=by omega
   subst h3;simp[AA,c183,exp,ga]
structure gE (rs ts:List (List Nat)) (p:ρ):Prop where
 nm:p.name∈rs
 len:p.ix.length<=2
 lW:∀i∈p.ix,cZ ts 4 i
 cp:p.c=if p.ix=[]then .nil else .any
def rr(b:Nat)(l:List ζ):AV:= .list (if l=[]then .nil else .own b) (l.map fun i=> .agg i.four)
def u2(n:Nat):List θ:=if n=0 then[]else[.front n 4 27]
section
variable{B:List θ}{pm ps:Nat}(hm:pm<B.length)(hs:ps<B.length)(φ:pm≠ps){c:τ}{bs:List Nat}(hb:bs.length<=300)
include hm hs φ hb
theorem f184(cr ct:τ)(oH:bm cr)(wJ:bm ct)(rs ts:List (List Nat))(MY:rs≠[])(MW:rs.length<1000000000)(X Y:AV)(hX:exp B.length false X=X)(hY:exp B.length false Y=Y)(P:AV)(st:Int)(fr:Nat)(n:Nat)(x:Int)(hn:n<3000000000000000000):
  ∃(x':Int) (n':Nat) (p:ρ),n<=n'/\n'<=n+72/\gE rs ts p/\∀T,kf u 184 [.κ pm 0,.agg [bw cr rs,X,Y,bw ct ts]] {ε:=(B.set pm (.cells (bG ps P st fr))).set ps (.cells (aP c bs n x)),η:=T}=some (p.av,{ε:=(B.set pm (.cells (bG ps P st fr))).set ps (.cells (aP c bs n' x')),η:=T}):=by
 have qh:ps<(B.set pm (.cells (bG ps P st fr))).length:=by simpa using hs
 have Hu:∀S,((B.set pm (.cells (bG ps P st fr))).set ps S)[pm]?=some (.cells (bG ps P st fr)):=fun S=>by rw[gN (Ne.symm φ)];simp[hm]
 have hlen:∀S,((B.set pm (.cells (bG ps P st fr))).set ps S).length=B.length:=fun S=>by simp
 have RX:=f83 (u:=u) (B:=B) hm hs φ (c:=c) hb ct wJ ts P st fr 4 (by omega);have Hp:kF 4=35:=rfl;have aam:∀(F:θ) (n:Nat) (x:Int),n<3900000000000000000->∃(x':Int) (n':Nat) (i:ζ),n<=n'/\n'<=n+35/\cZ ts 4 i/\∀T,kf u 83 [.κ pm 0,.n 4,bw ct ts] {ε:=(B.set pm (.cells (bG ps P st fr))).set ps (.cells (aP c bs n x))++[F],η:=T}=some (i.av,{ε:=(B.set pm (.cells (bG ps P st fr))).set ps (.cells (aP c bs n' x'))++[F],η:=T}):=by intro F n x hn;have:=f83 (u:=u) (B:=B++[F]) (pm:=pm) (ps:=ps) (by simp;omega) (by simp;omega) φ (c:=c) hb ct wJ ts P st fr 4 (by omega) n x (by omega);simpa only[ns _ _ hm,ns _ _ qh,Hp,zP]using this
 simp only[Hp,zP]at RX;generalize Hf:B.set pm (.cells (bG ps P st fr))=B2 at*;have CS:B2.length=B.length:=by rw[<-Hf];simp
 obtain⟨x1,r,n1,a1,a2,a3,a4,-,q1⟩:=f121 (u:=u) (c:=c) (bs:=bs) qh hb n x rs.length (by omega);have hr0:0<rs.length:=List.length_pos_iff.2 MY;have a4:=a4 (by omega);obtain⟨r,rfl⟩:∃k:Nat,r=k:=⟨r.toNat,by omega⟩;have a4':r<rs.length:=by omega
 obtain⟨w,hw⟩:∃w,rs[r]?=some w:=⟨_,dp (by omega)⟩;have nT:w∈rs:=akL hw;have mB:(rs.map AV.str)[r]?=some (.str w):=by rw[od,hw];rfl
 obtain⟨x2,k,n2,b1,b2,b3,b4,-,q2⟩:=f121 (u:=u) (c:=c) (bs:=bs) qh hb n1 x1 3 (by omega);have b4:=b4 (by omega);obtain⟨k,rfl⟩:∃j:Nat,k=j:=⟨k.toNat,by omega⟩;have hr:μ (C u).gl (ab (C u)) JV {env:=[.κ pm 0,.agg [bw cr rs,X,Y,bw ct ts]],loc:=[],mem:= {ε:=B2.set ps (.cells (aP c bs n x)),η:=[]}} fun q=>(∀i,q.1≠ .exit i)/\∃(x':Int) (n':Nat) (l:List ζ),n<=n'/\n'<=n+72/\l.length<=2/\(∀i∈l,cZ ts 4 i)/\q.2.mem= {ε:=B2.set ps (.cells (aP c bs n' x'))++u2 l.length,η:=[]}/\br q.2.env 4= .ak 4 0 0/\bR q.2.loc 4=some (0,.cells [.str w,rr B.length l]):=by
  unfold JV;let S4:St->Prop:=fun st=>st.e 0= .κ pm 0/\st.e 3= .ak 3 0 0/\st.q 3=some (0,.cells [bw cr rs,X,Y,bw ct ts])/\st.e 4= .ak 4 0 0/\st.q 4=some (0,.cells [.str [],.list .nil []]);refine Ψ (fun st=>S4 st/\st.q 5=none/\st.mem= {ε:=B2.set ps (.cells (aP c bs n x)),η:=[]}) (by simp[S4,bJ]) fun s1 ⟨⟨h0,h3,fN,h4,lr⟩,h5,dx⟩=>?_;refine Ψ (fun st=>S4 st/\st.mem= {ε:=B2.set ps (.cells (aP c bs n1 x1)),η:=[]}/\st.e 5= .ak 5 0 0/\st.q 5=some (0,.cells [.str w,.list .nil []])) (by simp[S4,h0,h3,fN,h4,lr,h5,dx,Hu,bG,bw,q1,a4,mB,dG,bJ,c7,uV,de,fL]) fun s2 ⟨⟨h0,h3,fN,h4,lr⟩,dx,h5,gZ⟩=>?_;refine bS (fun st=>∃(x':Int) (n':Nat) (l:List ζ),n<=n'/\n'<=n+72/\l.length<=2/\(∀i∈l,cZ ts 4 i)/\S4 st/\st.mem= {ε:=B2.set ps (.cells (aP c bs n' x'))++u2 l.length,η:=[]}/\st.e 5= .ak 5 0 0/\st.q 5=some (0,.cells [.str w,rr B.length l])) ?_ fun s3 ⟨x',n',l,l1,l2,l3,l4,⟨h0,h3,fN,h4,lr⟩,dx,h5,gZ⟩=>?_
  ·refine Ψ (fun st=>S4 st/\st.mem= {ε:=B2.set ps (.cells (aP c bs n2 x2)),η:=[]}/\st.e 5= .ak 5 0 0/\st.q 5=some (0,.cells [.str w,.list .nil []])/\st.e 23= .n k/\st.e 24= .n 0) (by simp[S4,h0,h3,fN,h4,lr,h5,gZ,dx,Hu,bG,q2]) fun s3 ⟨⟨h0,h3,fN,h4,lr⟩,dx,h5,gZ,CR,wE⟩=>?_;let I:Nat->St->Prop:=fun i st=>∃(x':Int) (n':Nat) (l:List ζ),n<=n'/\n'<=n+2+35*i/\l.length=i/\(∀y∈l,cZ ts 4 y)/\S4 st/\st.mem= {ε:=B2.set ps (.cells (aP c bs n' x'))++u2 l.length,η:=[]}/\st.e 5= .ak 5 0 0/\st.q 5=some (0,.cells [.str w,rr B.length l])/\st.e 23= .n k/\st.e 24= .n (i:Int);refine μ.block (μ.lH (I:=I) k ⟨x2,n2,[],by omega,by omega,rfl,by simp,⟨h0,h3,fN,h4,lr⟩,by simp[u2,dx],h5,by simpa[rr]using gZ,CR,wE⟩ fun i st hi ⟨x',n',l,l1,l2,l3,l4,⟨h0,h3,fN,h4,lr⟩,dx,h5,gZ,CR,wE⟩=>?_);unfold U6;by_cases tY:i<k
   ·have Hx:(i:Int)<k:=by omega
    have kj:bN .i64 ((i:Int)+1)=((i+1:Nat):Int):=by rw[wrap_i64 (by omega) (by omega)];simp
    have ja:i=0\/i=1:=by omega
    have w1:bN .i64 1=1:=wrap_i64 (by omega) (by omega);have w2:bN .i64 2=2:=wrap_i64 (by omega) (by omega);rcases ja with rfl|rfl
    ·obtain rfl:l=[]:=List.length_eq_zero_iff.1 l3;simp only[u2,rr,eT,if_true,dM,aI]at dx gZ;obtain⟨x3,n3,y,d1,d2,d3,q3⟩:=RX n' x' (by omega);have eu:=PD {ε:=B2.set ps (.cells (aP c bs n3 x3)),η:=[]} y.eY d3.jR;simp only[mN,Mem.push,CS]at eu;simp only[ζ.fm]at q3;refine μ.done .normal (fun st=>S4 st/\st.mem= {ε:=B2.set ps (.cells (aP c bs n3 x3))++[.front 1 4 27],η:=[]}/\st.e 5= .ak 5 0 0/\st.q 5=some (0,.cells [.str w,.list (.own B.length) [.agg y.four]])/\st.e 23= .n k/\st.e 24= .n 1) (by simp[S4,h0,h3,fN,h4,lr,h5,gZ,dx,CR,wE,Hx,tY,w1,w2,q3,eu,shaped,Mem.ν,d3.jR,ζ.eY,c7,de,fL]) fun s' ⟨g1,g2,g3,g4,g5,g6⟩=> .inl ⟨rfl,tY,x3,n3,[y],by omega,by omega,rfl,by simpa using d3,g1,g2,g3,by simpa[rr]using g4,g5,g6⟩
    ·have h1k:(1:Int)<k:=by omega
     obtain⟨y0,rfl⟩:∃y,l=[y]:=List.length_eq_one_iff.1 l3;have DN:=l4 y0 (by simp);simp only[u2,rr,List.length_singleton,List.cons_ne_nil,if_false,ax,aI,Nat.one_ne_zero]at dx gZ;obtain⟨x3,n3,y,d1,d2,d3,q3⟩:=aam (.front 1 4 27) n' x' (by omega);have eu:=PE (B2.set ps (.cells (aP c bs n3 x3))) [] y0.eY y.eY d3.jR;simp only[mN,CS]at eu;simp only[ζ.fm]at q3;refine μ.done .normal (fun st=>S4 st/\st.mem= {ε:=B2.set ps (.cells (aP c bs n3 x3))++[.front 2 4 27],η:=[]}/\st.e 5= .ak 5 0 0/\st.q 5=some (0,.cells [.str w,.list (.own B.length) [.agg y0.four,.agg y.four]])/\st.e 23= .n k/\st.e 24= .n 2) (by simp[S4,h0,h3,fN,h4,lr,h5,gZ,dx,CR,wE,Hx,h1k,tY,w1,w2,q3,eu,shaped,Mem.ν,d3.jR,ζ.eY,c7,de,fL]) fun s' ⟨g1,g2,g3,g4,g5,g6⟩=> .inl ⟨rfl,tY,x3,n3,[y0,y],by omega,by omega,rfl,by simpa using⟨DN,d3⟩,g1,g2,g3,by simpa[rr]using g4,g5,g6⟩
   ·have Hx:¬(i:Int)<k:=by omega
    refine μ.done (.exit 0) (fun st=>S4 st/\st.mem= {ε:=B2.set ps (.cells (aP c bs n' x'))++u2 l.length,η:=[]}/\st.e 5= .ak 5 0 0/\st.q 5=some (0,.cells [.str w,rr B.length l])) (by simp[S4,h0,h3,fN,h4,lr,h5,gZ,dx,CR,wE,Hx]) fun s' ⟨g1,g2,g3,g4⟩=> .inr ⟨by simp,.inl ⟨rfl,.inl ⟨rfl,x',n',l,by omega,by omega,by omega,l4,g1,g2,g3,g4⟩⟩⟩
  ·refine μ.done .ret (fun st=>st.mem= {ε:=B2.set ps (.cells (aP c bs n' x'))++u2 l.length,η:=[]}/\st.e 4= .ak 4 0 0/\st.q 4=some (0,.cells [.str w,rr B.length l])) (by simp[h0,h3,fN,h4,lr,h5,gZ,dx]) fun s' ⟨g1,g2,g3⟩=>⟨by simp,x',n',l,l1,l2,l3,l4,g1,g2,g3⟩
 obtain⟨q,hx,h1,x',n',l,l1,l2,l3,l4,h2,h3,h4⟩:=hr;refine⟨x',n',⟨w,if l=[]then .nil else .any,l⟩,l1,l2,⟨nT,l3,l4,rfl⟩,fun T=>?_⟩;refine Iu (u:=u) (f:=184) (g:=Gf) (B:=B2.set ps (.cells (aP c bs n x))) (B':=B2.set ps (.cells (aP c bs n' x'))) (args:=[.κ pm 0,.agg [bw cr rs,X,Y,bw ct ts]]) rfl rfl rfl (by simp) (by
  have:pm<(B2.set ps (.cells (aP c bs n x))).length:=by rw[hlen];exact hm
  simp only[ax,aI,exp,aX,hm,if_true,x_ wJ,x_ oH,hlen,hX,hY]) ⟨q,hx,h1,⟨u2 l.length,h2⟩,[.agg [.str w,rr B.length l]],?_,?_⟩ T
 ·simp[Gf,h3,h4]
 ·rw[h2];have hD:bL (l.map fun i=>AV.agg i.four) (l.map ζ.av):=by
   clear h4 h2 l3 l1 l2;induction l with
   |nil=>exact .nil
   |cons a l ih=>exact .cons (by have:=(l4 a (by simp)).fx;show Dv (AV.agg a.four) a.av;rw[<-ζ.fm];exact this) (ih fun i hi=>l4 i (by simp[hi]))
  have:Dv (.agg [.str w,rr B.length l]) (⟨w,if l=[]then .nil else .any,l⟩:ρ).av:=by
   have:=Dv.agg (.cons (.str w) (.cons (Dv.list (if l=[]then .nil else .own B.length) hD) .nil));cases l with
   |nil=>exact this
   |cons a l=>exact this
  exact this.aQ _ _ _
end
structure Sc where
 aC:List (List Nat)
 cu:List (List Nat)
 bits:List (List Nat)
 turns:List (List Nat)
def Sc.put(s:Sc)(nm:List Nat):Sc:= {s with aC:=s.aC++[nm],cu:=s.cu++[nm]}
def Sc.drop(s:Sc)(nm:List Nat):Sc:= {s with aC:=s.aC.filter fun x=>!(x==nm),cu:=s.cu.filter fun x=>!(x==nm)}
def Sc.bit(s:Sc)(nm:List Nat):Sc:=if nm∈s.bits then s else{s with bits:=s.bits++[nm]}
def Sc.mI(s:Sc)(nm:List Nat):Sc:= {s with aC:=s.aC++[nm]}
def Sc.dZ(s:Sc)(nm:List Nat):Sc:= {s with turns:=s.turns++[nm]}
def Sc.inner(s:Sc):Sc:= {s with cu:=[]}
def jy:ζ:= .mk 0 0 [] .nil []
def bD(k g:Int)(nm:List Nat)(cp:τ)(pl:List ρ)(size to:ζ)(cb:τ)(body:List δ)(ce:τ)(els:List δ):δ:= .mk k g nm cp pl size to cb body ce els
mutual
inductive fB (ps:List (List Nat×Nat)):Nat->Nat->Sc->δ->Nat->Sc->Prop
 |gate {d fr:Nat} {s:Sc} {g:Int} {cp:τ} {pl:List ρ} (h1:1<=g) (h2:g<=12) (h3:pl.length=ga g) (h4:∀p∈pl,gE s.aC s.turns p) (hc:cp=Ξ pl):fB ps d fr s (bD 1 g [] cp pl jy jy .nil [] .nil []) fr s
 |take {d fr:Nat} {s:Sc} {x:ζ} (h1:cZ s.turns 4 x):fB ps d fr s (bD 2 0 (bV [113] (fr+1)) .nil [] x jy .nil [] .nil []) (fr+1) (s.put (bV [113] (fr+1)))
 |drop {d fr:Nat} {s:Sc} {nm:List Nat} (h1:nm∈s.cu):fB ps d fr s (bD 3 0 nm .nil [] jy jy .nil [] .nil []) fr (s.drop nm)
 |borrow {d fr aA:Nat} {s:Sc} {x:ζ} {cb:τ} {body:List δ} (hd:d<5) (h1:cZ s.turns 4 x) (h2:aY ps (d+1) (fr+1) (s.mI (bV [114] (fr+1))).inner body aA) (hc:bm cb) (hn:cb=Ξ body):fB ps d fr s (bD 4 0 (bV [114] (fr+1)) .nil [] x jy cb body .nil []) aA s
 |measure {d fr:Nat} {s:Sc} {nm:List Nat} {p:ρ} (h1:gE s.aC s.turns p) (h2:nm=bV [98] (fr+1)\/nm∈s.bits):fB ps d fr s (bD 5 0 nm .any [p] jy jy .nil [] .nil []) (fr+1) (s.bit nm)
 |reset {d fr:Nat} {s:Sc} {p:ρ} (h1:gE s.aC s.turns p):fB ps d fr s (bD 6 0 [] .any [p] jy jy .nil [] .nil []) fr s
 |cond {d fr aA gP:Nat} {s:Sc} {nm:List Nat} {cb ce:τ} {body els:List δ} (hd:d<5) (h1:nm∈s.bits) (h2:aY ps (d+1) fr s.inner body aA) (h3:aY ps (d+1) aA s.inner els gP) (hc:bm cb) (hn:cb=Ξ body) (gQ:bm ce) (gR:ce=Ξ els):fB ps d fr s (bD 7 0 nm .nil [] jy jy cb body ce els) gP s
 |loop {d fr aA:Nat} {s:Sc} {x y:ζ} {cb:τ} {body:List δ} (hd:d<5) (h1:cZ s.turns 3 x) (h2:cZ s.turns 3 y) (h3:aY ps (d+1) (fr+1) (s.dZ (bV [105] (fr+1))).inner body aA) (hc:bm cb) (hn:cb=Ξ body):fB ps d fr s (bD 8 0 (bV [105] (fr+1)) .nil [] x y cb body .nil []) aA s
 |call {d fr k:Nat} {s:Sc} {nm:List Nat} {cp:τ} {pl:List ρ} (h1:(nm,k)∈ps) (h2:pl.length=k) (h3:∀p∈pl,gE s.aC s.turns p) (hc:cp=Ξ pl):fB ps d fr s (bD 9 0 nm cp pl jy jy .nil [] .nil []) fr s
 |qT {d fr aA:Nat} {s:Sc} {cb:τ} {body:List δ} (hd:d<5) (h2:aY ps (d+1) fr s.inner body aA) (hc:bm cb) (hn:cb=Ξ body):fB ps d fr s (bD 10 0 [] .nil [] jy jy cb body .nil []) aA s
 |within {d fr aA gP:Nat} {s:Sc} {cb ce:τ} {body els:List δ} (hd:d<5) (h2:aY ps (d+1) fr s.inner body aA) (h3:aY ps (d+1) aA s.inner els gP) (hc:bm cb) (hn:cb=Ξ body) (gQ:bm ce) (gR:ce=Ξ els):fB ps d fr s (bD 11 0 [] .nil [] jy jy cb body ce els) gP s
inductive aY (ps:List (List Nat×Nat)):Nat->Nat->Sc->List δ->Nat->Prop
 |nil {d fr:Nat} {s:Sc}:aY ps d fr s [] fr
 |cons {d fr aA gP:Nat} {s s':Sc} {x:δ} {l:List δ} (h1:fB ps d fr s x aA s') (h2:aY ps d aA s' l gP):aY ps d fr s (x::l) gP
end
def Sc.look(s:Sc):bT:=fun t=>if t∈s.turns then .dZ else if t∈s.bits then .bit else if t∈s.cu then .j_ true else if t∈s.aC then .j_ false else .none
def xZ:Nat->Nat
 |0=>1+4*300
 |d+1=>1+4*(300+2*xZ d)
theorem Iy{a b i j:Nat}(hi:i<676)(hj:j<676)(h:bV [a] i=bV [b] j):a=b/\i=j:=by simp only[bV,cy,bB,sk,and_true,true_and]at h;obtain⟨h1,h2,h3⟩:=h;exact⟨h1,by omega⟩
theorem Og{a b i j:Nat}(h:bV [a] i=bV [b] j):a=b:=by simp only[bV,cy,bB,sk]at h;exact h.1
theorem pP(a i:Nat)(h1:97<=a)(h2:a<=122):df (bV [a] i)=true:=by
 have h3:i/26 % 26<26:=mj _ (by decide);have h4:i % 26<26:=mj _ (by decide);have e1:97<=97+i/26 % 26:=by omega
 have e2:97+i/26 % 26<=122:=by omega
 have e3:97<=97+i % 26:=by omega
 have e4:97+i % 26<=122:=by omega
 simp only[bV,cy,bB];generalize 97+i/26 % 26=x at*;generalize 97+i % 26=y at*;simp[df,rT,fu,uh,h1,h2,e1,e2,e3,e4]
theorem cZ.cnt{ts:List (List Nat)}{s:Nat}{i:ζ}(h:cZ ts s i):i.cnt+1<=2^(s/2+1):=by
 induction h with
 |@fix s _ _ _=>have:=akM (n:=s/2);simp[ζ.cnt,ζ.bK,akN];omega
 |@dZ s _ _=>have:=akM (n:=s/2);simp[ζ.cnt,ζ.bK,akN];omega
 |@bin s k a b h0 h1 h2 ha hb dJ gm=>
  have:(s+2)/2+1=(s/2+1)+1:=by omega
  rw[this,akN];simp only[ζ.cnt,ζ.bK];omega
theorem cZ.part{ts:List (List Nat)}{s:Nat}{i:ζ}(h:cZ ts s i)(may:List Nat->Bool)(hm:∀t∈ts,may t=true)(no:Int):i.part may no=0:=by
 induction h with
 |fix h1 h2=>
  have a1:¬_:=Int.not_lt.2 h1
  simp[ζ.part,ζ.parts,kN,h1,a1];omega
 |dZ h=>simp[ζ.part,ζ.parts,kN,hm _ h]
 |@bin s k a b h0 h1 h2 ha hb dJ gm=>
  have e1:kN k 0 2=0:=by
   have a1:¬(k<1\/5<k\/(k=1/\((0:Int)<0\/(99:Int)<0))):=by omega
   have a2:¬((3<=k/\(2:Nat)≠2)\/(k<3/\(2:Nat)≠0)):=by omega
   rw[kN,if_neg a1,if_neg a2]
  have e2:¬(k=2/\may []=false):=by omega
  simp only[ζ.part,ζ.parts,cN,eT,e1,e2,dJ,gm];simp
theorem cZ.err{ts:List (List Nat)}{i:ζ}(h:cZ ts 4 i)(may:List Nat->Bool)(hm:∀t∈ts,may t=true)(no:Int):i.err may no=0:=by
 have:=h.cnt;have:¬9<i.cnt:=by simp at this;omega
 rw[ζ.err,if_neg this,h.part may hm]
structure bU (fr:Nat) (s:Sc):Prop where
 aC:∀t∈s.aC,∃a i,(a=113\/a=114)/\i<=fr/\t=bV [a] i
 cu:∀t∈s.cu,t∈s.aC
 bits:∀t∈s.bits,∃i,i<=fr/\t=bV [98] i
 turns:∀t∈s.turns,∃i,i<=fr/\t=bV [105] i
theorem bU.mono{fr aA:Nat}{s:Sc}(h:bU fr s)(hf:fr<=aA):bU aA s:=
 ⟨fun t ht=>by obtain⟨a,i,h1,h2,h3⟩:=h.aC t ht;exact⟨a,i,h1,by omega,h3⟩,h.cu,fun t ht=>by obtain⟨i,h1,h2⟩:=h.bits t ht;exact⟨i,by omega,h2⟩,fun t ht=>by obtain⟨i,h1,h2⟩:=h.turns t ht;exact⟨i,by omega,h2⟩⟩
theorem bU.OO{fr:Nat}{s:Sc}(h:bU fr s){t:List Nat}(ht:t∈s.aC):t∉s.turns:=fun k=>by obtain⟨a,i,h1,-,h2⟩:=h.aC t ht;obtain⟨j,-,h3⟩:=h.turns t k;have:=Og (h2.symm.trans h3);omega
theorem bU.ON{fr:Nat}{s:Sc}(h:bU fr s){t:List Nat}(ht:t∈s.aC):t∉s.bits:=fun k=>by obtain⟨a,i,h1,-,h2⟩:=h.aC t ht;obtain⟨j,-,h3⟩:=h.bits t k;have:=Og (h2.symm.trans h3);omega
theorem bU.PU{fr:Nat}{s:Sc}(h:bU fr s){t:List Nat}(ht:t∈s.bits):t∉s.turns:=fun k=>by obtain⟨i,-,h2⟩:=h.bits t ht;obtain⟨j,-,h3⟩:=h.turns t k;have:=Og (h2.symm.trans h3);omega
theorem bU.ae7{fr:Nat}{s:Sc}(h:bU fr s){t:List Nat}(ht:t∈s.aC):(s.look t).yZ=true:=by
 rw[Sc.look,if_neg (h.OO ht),if_neg (h.ON ht)];by_cases hm:t∈s.cu
 ·rw[if_pos hm];rfl
 ·rw[if_neg hm,if_pos ht];rfl
theorem bU.ae5{fr:Nat}{s:Sc}(h:bU fr s){t:List Nat}(ht:t∈s.cu):s.look t= .j_ true:=by rw[Sc.look,if_neg (h.OO (h.cu t ht)),if_neg (h.ON (h.cu t ht)),if_pos ht]
theorem bU.Ij{fr:Nat}{s:Sc}(h:bU fr s){t:List Nat}(ht:t∈s.bits):s.look t= .bit:=by rw[Sc.look,if_neg (h.PU ht),if_pos ht]
theorem bU.Vu{s:Sc}{t:List Nat}(ht:t∈s.turns):s.look t= .dZ:=by rw[Sc.look,if_pos ht]
theorem bU.fresh{fr:Nat}{s:Sc}(h:bU fr s)(hf:fr<675)(a:Nat):bV [a] (fr+1)∉s.aC/\bV [a] (fr+1)∉s.cu/\bV [a] (fr+1)∉s.bits/\bV [a] (fr+1)∉s.turns:=by
 have h1:bV [a] (fr+1)∉s.aC:=fun k=>by obtain⟨b,i,-,h2,h3⟩:=h.aC _ k;have:=(Iy (by omega) (by omega) h3).2;omega
 refine⟨h1,fun k=>h1 (h.cu _ k),fun k=>?_,fun k=>?_⟩
 ·obtain⟨i,h2,h3⟩:=h.bits _ k;have:=(Iy (by omega) (by omega) h3).2;omega
 ·obtain⟨i,h2,h3⟩:=h.turns _ k;have:=(Iy (by omega) (by omega) h3).2;omega
theorem bU.fA{fr:Nat}{s:Sc}(h:bU fr s)(hf:fr<675)(a:Nat)(h1:97<=a)(h2:a<=122):fA s.look (bV [a] (fr+1))=0:=by obtain⟨k1,k2,k3,k4⟩:=h.fresh hf a;simp[Go.Δ.fA,pP a (fr+1) h1 h2,Sc.look,k1,k2,k3,k4]
theorem ae6{fr:Nat}{s:Sc}(h:bU fr s)(hf:fr<675):(s.put (bV [113] (fr+1))).look=s.look.put (bV [113] (fr+1)) (.j_ true):=by
 obtain⟨k1,k2,k3,k4⟩:=h.fresh hf 113;funext t;by_cases ht:t=bV [113] (fr+1)
 ·subst ht;simp[Sc.look,Sc.put,bT.put,k3,k4]
 ·simp[Sc.look,Sc.put,bT.put,ht]
theorem ae2{fr:Nat}{s:Sc}(h:bU fr s){nm:List Nat}(hn:nm∈s.cu):(s.drop nm).look=s.look.put nm .none:=by
 have k3:=h.ON (h.cu _ hn);have k4:=h.OO (h.cu _ hn);funext t;by_cases ht:t=nm
 ·subst ht;simp[Sc.look,Sc.drop,bT.put,k3,k4]
 ·simp[Sc.look,Sc.drop,bT.put,ht]
theorem D2{fr:Nat}{s:Sc}(h:bU fr s):s.inner.look=s.look.inner:=by
 funext t;have:=h.cu t;by_cases h1:t∈s.turns
 ·simp[Sc.look,Sc.inner,bT.inner,h1]
 ·by_cases h2:t∈s.bits
  ·simp[Sc.look,Sc.inner,bT.inner,h1,h2]
  ·by_cases h3:t∈s.cu
   ·simp[Sc.look,Sc.inner,bT.inner,h1,h2,h3,this h3]
   ·by_cases h4:t∈s.aC<;>simp[Sc.look,Sc.inner,bT.inner,h1,h2,h3,h4]
theorem ae3{fr:Nat}{s:Sc}(h:bU fr s)(hf:fr<675):(s.mI (bV [114] (fr+1))).inner.look=s.look.inner.put (bV [114] (fr+1)) (.j_ false):=by
 obtain⟨k1,k2,k3,k4⟩:=h.fresh hf 114;rw[<-D2 h];funext t;by_cases ht:t=bV [114] (fr+1)
 ·subst ht;simp[Sc.look,Sc.mI,Sc.inner,bT.put,k3,k4]
 ·simp[Sc.look,Sc.mI,Sc.inner,bT.put,ht];congr
theorem ae4{fr:Nat}{s:Sc}(h:bU fr s):(s.dZ (bV [105] (fr+1))).inner.look=s.look.inner.put (bV [105] (fr+1)) .dZ:=by
 rw[<-D2 h];funext t;by_cases ht:t=bV [105] (fr+1)
 ·subst ht;simp[Sc.look,Sc.dZ,Sc.inner,bT.put]
 ·simp[Sc.look,Sc.dZ,Sc.inner,bT.put,ht];congr
theorem Ij{fr:Nat}{s:Sc}(h:bU fr s)(hf:fr<675){nm:List Nat}(hn:nm=bV [98] (fr+1)\/nm∈s.bits):(s.bit nm).look=s.look.put nm .bit:=by
 have k4:nm∉s.turns:=by
  rcases hn with rfl|hn
  ·exact(h.fresh hf 98).2.2.2
  ·exact h.PU hn
 funext t;unfold Sc.bit;by_cases hb:nm∈s.bits
 ·rw[if_pos hb];by_cases ht:t=nm
  ·subst ht;simp[bT.put,Sc.look,k4,hb]
  ·simp[bT.put,ht]
 ·rw[if_neg hb];by_cases ht:t=nm
  ·subst ht;simp[bT.put,Sc.look,k4]
  ·simp[bT.put,Sc.look,ht]
theorem bU.put{fr:Nat}{s:Sc}(h:bU fr s):bU (fr+1) (s.put (bV [113] (fr+1))):=by
 have h':=h.mono (zW fr);refine⟨fun t ht=>?_,fun t ht=>?_,h'.bits,h'.turns⟩
 ·rcases dQ.1 ht with ht|ht
  ·exact h'.aC t ht
  ·exact⟨113,fr+1,.inl rfl,b_ _,fY.1 ht⟩
 ·rcases dQ.1 ht with ht|ht
  ·exact zR _ (h.cu t ht)
  ·exact List.mem_append_right _ ht
theorem bU.drop{fr:Nat}{s:Sc}(h:bU fr s)(nm:List Nat):bU fr (s.drop nm):=
 ⟨fun t ht=>h.aC t (zS.1 ht).1,fun t ht=>zS.2 ⟨h.cu t (zS.1 ht).1,(zS.1 ht).2⟩,h.bits,h.turns⟩
theorem bU.inner{fr:Nat}{s:Sc}(h:bU fr s):bU fr s.inner:=
 ⟨h.aC,fun t ht=>by simp[Sc.inner]at ht,h.bits,h.turns⟩
theorem bU.mI{fr:Nat}{s:Sc}(h:bU fr s):bU (fr+1) (s.mI (bV [114] (fr+1))):=by
 have h':=h.mono (zW fr);refine⟨fun t ht=>?_,fun t ht=>zR _ (h.cu t ht),h'.bits,h'.turns⟩;rcases dQ.1 ht with ht|ht
 ·exact h'.aC t ht
 ·exact⟨114,fr+1,.inr rfl,b_ _,fY.1 ht⟩
theorem bU.dZ{fr:Nat}{s:Sc}(h:bU fr s):bU (fr+1) (s.dZ (bV [105] (fr+1))):=by
 have h':=h.mono (zW fr);refine⟨h'.aC,h'.cu,h'.bits,fun t ht=>?_⟩;rcases dQ.1 ht with ht|ht
 ·exact h'.turns t ht
 ·exact⟨fr+1,b_ _,fY.1 ht⟩
theorem bU.bit{fr:Nat}{s:Sc}(h:bU fr s){nm:List Nat}(hn:nm=bV [98] (fr+1)\/nm∈s.bits):bU (fr+1) (s.bit nm):=by
 have h':=h.mono (zW fr);unfold Sc.bit;split
 ·exact h'
 ·rename_i hb;refine⟨h'.aC,h'.cu,fun t ht=>?_,h'.turns⟩;rcases dQ.1 ht with ht|ht
  ·exact h'.bits t ht
  ·rw[fY.1 ht];exact⟨fr+1,b_ _,hn.resolve_right hb⟩
mutual
theorem fB.le{bH:List (List Nat×Nat)}{d fr aA:Nat}{s s':Sc}{x:δ}(h:fB bH d fr s x aA s'):fr<=aA:=by
 match h with
 | .gate .. =>exact b_ _
 | .take .. =>exact zW _
 | .drop .. =>exact b_ _
 | .borrow _ _ h2 _ _=>have:=aY.le h2;omega
 | .measure .. =>exact zW _
 | .reset .. =>exact b_ _
 | .cond _ _ h2 h3 _ _ _ _=>have:=aY.le h2;have:=aY.le h3;omega
 | .loop _ _ _ h3 _ _=>have:=aY.le h3;omega
 | .call .. =>exact b_ _
 | .qT _ h2 _ _=>exact aY.le h2
 | .within _ h2 h3 _ _ _ _=>have:=aY.le h2;have:=aY.le h3;omega
theorem aY.le{bH:List (List Nat×Nat)}{d fr aA:Nat}{s:Sc}{l:List δ}(h:aY bH d fr s l aA):fr<=aA:=by
 match h with
 | .nil=>exact b_ _
 | .cons h1 h2=>have:=fB.le h1;have:=aY.le h2;omega
end
theorem R9{α:Type}{f:α->Int}{l:List α}(h:∀x∈l,f x=0):first f l=0:=
 FJ fun j hj=>h _ (List.getElem_mem hj)
theorem bU.place{fr:Nat}{s:Sc}(h:bU fr s){p:ρ}(hp:gE s.aC s.turns p):jg s.look p=0:=by
 have h1:=h.ae7 hp.nm;have h2:¬2<p.ix.length:=by have:=hp.len;omega
 rw[jg,if_neg (by rw[h1];simp),if_neg h2];exact R9 fun i hi=>(hp.lW i hi).err _ (fun t ht=>by simp[iN,bU.Vu ht]) _
theorem bU.places{fr:Nat}{s:Sc}(h:bU fr s){l:List ρ}(hl:∀p∈l,gE s.aC s.turns p):first (jg s.look) l=0:=
 R9 fun p hp=>h.place (hl p hp)
theorem bU.ix{s:Sc}{i:ζ}(hi:cZ s.turns 4 i):i.err (iN s.look) 1=0:=
 hi.err _ (fun t ht=>by simp[iN,bU.Vu ht]) _
def Jt(ps:List ξ)(own:Nat)(bH:List (List Nat×Nat)):Prop:=∀nm k,(nm,k)∈bH->∃n q,pS ps nm=some n/\n<own/\ps[n]?=some q/\q.au.length=k
section
variable{ps:List ξ}{own:Nat}{bH:List (List Nat×Nat)}(dd:Jt ps own bH)
include dd
mutual
theorem fB.ok{d fr aA:Nat}{s s':Sc}{x:δ}(h:fB bH d fr s x aA s')(hf:aA<=675)(hs:bU fr s):
  dV ps own s.look x=0/\kX ps own x s.look=0/\after s.look x.kind x.name=s'.look/\bU aA s':=by
 match h with
 | .gate h1 h2 h3 h4 hc=>
  rename_i g cp pl
  have a1:¬(g<1\/12<g):=by omega
  refine⟨?_,by simp[bD,kX,bf],by simp[bD,after,δ.kind],hs⟩;simp[bD,dV,a1,h3,hs.places h4]
 | .take h1=>
  have nJ:fr<675:=by omega
  refine⟨?_,by simp[bD,kX,bf],?_,hs.put⟩
  ·simp[bD,dV,hs.fA nJ 113 (by omega) (by omega),bU.ix h1]
  ·rw[ae6 hs nJ];simp[bD,after,δ.kind,δ.name]
 | .drop h1=>
  refine⟨?_,by simp[bD,kX,bf],?_,hs.drop _⟩
  ·simp[bD,dV,hs.ae5 h1]
  ·rw[ae2 hs h1];simp[bD,after,δ.kind,δ.name]
 | .borrow hd h1 h2 hc hn=>
  have hle:=aY.le h2
  have nJ:fr<675:=by omega
  have hb:=aY.ok h2 hf hs.mI.inner;rw[ae3 hs nJ]at hb;refine⟨?_,?_,by simp[bD,after,δ.kind],hs.mono (by omega)⟩
  ·simp[bD,dV,hs.fA nJ 114 (by omega) (by omega),bU.ix h1]
  ·simp[bD,kX,bf,bz,inside,hb]
 | .measure h1 h2=>
  rename_i nm p
  have nJ:fr<675:=by omega
  refine⟨?_,by simp[bD,kX,bf],?_,hs.bit h2⟩
  ·rcases h2 with rfl|h2
   ·simp[bD,dV,hs.fA nJ 98 (by omega) (by omega),hs.place h1]
   ·simp[bD,dV,hs.Ij h2,hs.place h1]
  ·rw[Ij hs nJ h2];simp[bD,after,δ.kind,δ.name]
 | .reset h1=>
  refine⟨?_,by simp[bD,kX,bf],by simp[bD,after,δ.kind],hs⟩
  simp[bD,dV,hs.place h1]
 | .cond hd h1 h2 h3 hc hn gQ gR=>
  have l1:=aY.le h2
  have l2:=aY.le h3;have hb:=aY.ok h2 (by omega) hs.inner;have he:=aY.ok h3 hf (hs.inner.mono l1);rw[D2 hs]at hb he;refine⟨?_,?_,by simp[bD,after,δ.kind],hs.mono (by omega)⟩
  ·simp[bD,dV,hs.Ij h1]
  ·simp[bD,kX,bf,bz,inside,hb,he]
 | .loop hd h1 h2 h3 hc hn=>
  have hle:=aY.le h3
  have nJ:fr<675:=by omega
  have hb:=aY.ok h3 hf hs.dZ.inner;rw[ae4 hs]at hb;refine⟨?_,?_,by simp[bD,after,δ.kind],hs.mono (by omega)⟩
  ·simp[bD,dV,hs.fA nJ 105 (by omega) (by omega),bU.ix (h1.mono (by omega)),bU.ix (h2.mono (by omega))]
  ·simp[bD,kX,bf,bz,inside,hb]
 | .call h1 h2 h3 hc=>
  obtain⟨n,q,q1,q2,q3,q4⟩:=dd _ _ h1
  have a1:¬own<=n:=by omega
  refine⟨?_,by simp[bD,kX,bf],by simp[bD,after,δ.kind],hs⟩;simp[bD,dV,q1,q3,a1,h2,q4,hs.places h3]
 | .qT hd h2 hc hn=>
  have hb:=aY.ok h2 hf hs.inner
  rw[D2 hs]at hb;refine⟨by simp[bD,dV],?_,by simp[bD,after,δ.kind],hs.mono (aY.le h2)⟩;simp[bD,kX,bf,bz,inside,hb]
 | .within hd h2 h3 hc hn gQ gR=>
  have l1:=aY.le h2
  have l2:=aY.le h3;have hb:=aY.ok h2 (by omega) hs.inner;have he:=aY.ok h3 hf (hs.inner.mono l1);rw[D2 hs]at hb he;refine⟨by simp[bD,dV],?_,by simp[bD,after,δ.kind],hs.mono (by omega)⟩;simp[bD,kX,bf,bz,inside,hb,he]
theorem aY.ok{d fr aA:Nat}{s:Sc}{l:List δ}(h:aY bH d fr s l aA)(hf:aA<=675)(hs:bU fr s):gb ps own l s.look=0:=by
 match h with
 | .nil=>rfl
 | .cons h1 h2=>
  have l2:=aY.le h2
  obtain⟨a1,a2,a3,a4⟩:=fB.ok h1 (by omega) hs;have:=aY.ok h2 hf a4;simp[gb,a1,a2,a3,this]
end
end
mutual
theorem fB.deep{bH:List (List Nat×Nat)}{d fr aA:Nat}{s s':Sc}{x:δ}(h:fB bH d fr s x aA s')(oI:d<=5):x.deep+d<=6:=by
 match h with
 | .gate .. =>simp[bD,δ.deep,bf,bz];omega
 | .take .. =>simp[bD,δ.deep,bf,bz];omega
 | .drop .. =>simp[bD,δ.deep,bf,bz];omega
 | .borrow hd _ h2 _ _=>have:=aY.deep h2 (by omega);simp[bD,δ.deep,bf,bz];omega
 | .measure .. =>simp[bD,δ.deep,bf,bz];omega
 | .reset .. =>simp[bD,δ.deep,bf,bz];omega
 | .cond hd _ h2 h3 _ _ _ _=>have:=aY.deep h2 (by omega);have:=aY.deep h3 (by omega);simp[bD,δ.deep,bf,bz];omega
 | .loop hd _ _ h3 _ _=>have:=aY.deep h3 (by omega);simp[bD,δ.deep,bf,bz];omega
 | .call .. =>simp[bD,δ.deep,bf,bz];omega
 | .qT hd h2 _ _=>have:=aY.deep h2 (by omega);simp[bD,δ.deep,bf,bz];omega
 | .within hd h2 h3 _ _ _ _=>have:=aY.deep h2 (by omega);have:=aY.deep h3 (by omega);simp[bD,δ.deep,bf,bz];omega
theorem aY.deep{bH:List (List Nat×Nat)}{d fr aA:Nat}{s:Sc}{l:List δ}(h:aY bH d fr s l aA)(oI:d<=5):δ.du l+d<=6:=by
 match h with
 | .nil=>simp[δ.du];omega
 | .cons h1 h2=>have:=fB.deep h1 oI;have:=aY.deep h2 oI;simp only[δ.du];omega
end
structure pg (bH:List (List Nat×Nat)) (fr aA:Nat) (x:ξ):Prop where
 nm:x.name=bV [112] (fr+1)
 yd:x.au.length<=2
 au:∀i (h:i<x.au.length),x.au[i].name=bV [113] (fr+2+i)/\1<=x.au[i].size/\x.au[i].size<=12
 body:aY bH 1 (fr+1+x.au.length) ⟨x.au.map ai.name,[],[],[]⟩ x.body aA
 cnt:δ.bK x.body<=40
 Kc:x.cp=Ξ x.au
 Q9:x.cb=Ξ x.body
theorem agG(l:List ai):∀(s:Sc),s.cu=[]->s.bits=[]->s.turns=[]->qK l s.look=({s with aC:=s.aC++l.map ai.name}:Sc).look:=by
 induction l with
 |nil=>intro s _ _ _;simp[qK]
 |cons x l ih=>
  intro s h1 h2 h3
  have e:s.look.put x.name (.j_ false)=({s with aC:=s.aC++[x.name]}:Sc).look:=by
   funext t;by_cases ht:t=x.name
   ·subst ht;simp[bT.put,Sc.look,h1,h2,h3]
   ·simp[bT.put,Sc.look,h1,h2,h3,ht]
  rw[qK,e];refine(ih {s with aC:=s.aC++[x.name]} h1 h2 h3).trans ?_;simp
theorem Ot(f:Nat)(l:List ai)(k:Nat)(hk:k+l.length<=675)(h:∀i (h:i<l.length),l[i].name=bV [113] (k+1+i)/\1<=l[i].size/\l[i].size<=12):∀(s:Sc),bU k s->qJ l s.look=0/\bU (k+l.length) {s with aC:=s.aC++l.map ai.name}:=by
 induction l generalizing k with
 |nil=>intro s hs;exact⟨rfl,by simpa using hs⟩
 |cons x l ih=>
  intro s hs
  obtain⟨h1,h2,h3⟩:=h 0 (by simp);simp only[kz,qX]at h1 h2 h3;have c8:k<675:=by simp at hk;omega
  obtain⟨k1,k2,k3,k4⟩:=hs.fresh c8 113;have e:s.look.put x.name (.j_ false)=({s with aC:=s.aC++[x.name]}:Sc).look:=by
   rw[h1];funext t;by_cases ht:t=bV [113] (k+1)
   ·subst ht;simp[bT.put,Sc.look,k2,k3,k4]
   ·simp[bT.put,Sc.look,ht]
  have sV:=hs.mono (zW k);have ok:bU (k+1) {s with aC:=s.aC++[x.name]}:=⟨fun t ht=>by
   rcases dQ.1 ht with ht|ht
   ·exact sV.aC t ht
   ·exact⟨113,k+1,.inl rfl,b_ _,(fY.1 ht).trans h1⟩,fun t ht=>zR _ (hs.cu t ht),sV.bits,sV.turns⟩
  obtain⟨i1,i2⟩:=ih (k+1) (by simp at hk;omega) (fun i hi=>by
   have:=h (i+1) (by simpa using hi)
   simp only[pX]at this;rwa[show k+1+(i+1)=k+1+1+i by omega]at this) _ ok
  have hn:=pP 113 (k+1) (by omega) (by omega);have gz:s.look (bV [113] (k+1))= .none:=by simp[Sc.look,k1,k2,k3,k4]
  have aO:¬(x.size<1\/12<x.size):=by omega
  refine⟨?_,?_⟩
  ·rw[<-e]at i1;simp[qJ,h1,hn,gz,aO];rw[<-h1];exact i1
  ·have:k+1+l.length=k+(x::l).length:=by simp;omega
   rw[<-this];simpa using i2
theorem pg.ok{ps:List ξ}{own:Nat}{bH:List (List Nat×Nat)}(dd:Jt ps own bH){fr aA:Nat}{x:ξ}(h:pg bH fr aA x)(hf:aA<=675)(gz:(ps.take own).any (fun p=>p.name==x.name)=false):rZ ps own x=0:=by
 have hle:=aY.le h.body;have kH:bU (fr+1) ⟨[],[],[],[]⟩:=⟨by simp,by simp,by simp,by simp⟩;obtain⟨p1,p2⟩:=Ot 0 x.au (fr+1) (by omega) (fun i hi=>by have:=h.au i hi;rwa[show fr+1+1+i=fr+2+i by omega]) _ kH;have e0:oW=(⟨[],[],[],[]⟩:Sc).look:=by funext t;simp[oW,Sc.look]
 have hl:=agG x.au ⟨[],[],[],[]⟩ rfl rfl rfl;simp only[bB]at p2 hl;have hb:=aY.ok dd h.body hf p2;have hd:=aY.deep h.body (by omega);have a1:¬4<x.au.length:=by have:=h.yd;omega
 have a2:¬120<δ.bK x.body:=by have:=h.cnt;omega
 have a3:¬6<δ.du x.body:=by omega
 have hn:df x.name=true:=by rw[h.nm];exact pP 112 _ (by omega) (by omega)
 rw[rZ,e0,hl,hb,p1];simp[hn,gz,a1,a2,a3]
def kZ(l:List ξ):List (List Nat×Nat):=l.map fun p=>(p.name,p.au.length)
inductive fZ:List ξ->Nat->Prop
 |nil {fr:Nat}:fZ [] fr
 |snoc {l:List ξ} {x:ξ} {fr aA:Nat} (h1:fZ l fr) (h2:pg (kZ l) fr aA x):fZ (l++[x]) aA
theorem pg.le{bH:List (List Nat×Nat)}{fr aA:Nat}{x:ξ}(h:pg bH fr aA x):fr+1<=aA:=by have:=aY.le h.body;omega
theorem fZ.names{l:List ξ}{fr:Nat}(h:fZ l fr):∀x∈l,∃i,1<=i/\i<=fr/\x.name=bV [112] i:=by
 induction h with
 |nil=>intro x hx;cases hx
 |@snoc l x fr aA h1 h2 ih=>
  have hle:=h2.le
  intro y hy;rcases dQ.1 hy with hy|hy
  ·obtain⟨i,a,b,c⟩:=ih y hy;exact⟨i,a,by omega,c⟩
  ·obtain rfl:=fY.1 hy;exact⟨fr+1,by omega,by omega,h2.nm⟩
theorem fZ.new{l:List ξ}{x:ξ}{fr aA:Nat}(h1:fZ l fr)(h2:pg (kZ l) fr aA x)(hf:aA<=675):∀y∈l,(y.name==x.name)=false:=by intro y hy;obtain⟨i,a,b,c⟩:=h1.names y hy;have hle:=h2.le;apply beq_eq_false_iff_ne.2;rw[c,h2.nm];intro e;have:=(Iy (by omega) (by omega) e).2;omega
theorem ahg{l r:List ξ}{nm:List Nat}{n:Nat}(h:pS l nm=some n):pS (l++r) nm=some n:=by rw[pS]at h⊢;rw[akO,h];rfl
theorem fZ.known{l:List ξ}{fr:Nat}(h:fZ l fr)(hf:fr<=675):∀r:List ξ,Jt (l++r) l.length (kZ l):=by
 induction h with
 |nil=>intro r nm k hk;cases hk
 |@snoc l x fr aA h1 h2 ih=>
  have hle:=h2.le
  intro r nm k hk;rw[kZ,kQ]at hk;rcases dQ.1 hk with hk|hk
  ·obtain⟨n,q,q1,q2,q3,q4⟩:=ih (by omega) ([x]++r) nm k hk;rw[bQ];exact⟨n,q,q1,by simp;omega,q3,q4⟩
  ·simp only[ax,aI,fY,az]at hk;obtain⟨rfl,rfl⟩:=hk;refine⟨l.length,x,ahg ?_,by simp,by simp,rfl⟩;rw[pS,akO,vV.2 (h1.new h2 hf)];simp
theorem Wk{ps:List ξ}:∀(l:List ξ) (k:Nat),(∀i (h:i<l.length),rZ ps (k+i) l[i]=0)->tm ps k l=0
 |[],_,_=>rfl
 |x::l,k,h=>by
  have h0:=h 0 (by simp);simp only[kz,qX]at h0;have:=Wk l (k+1) fun i hi=>by have:=h (i+1) (by simpa using hi);simp only[pX]at this;rwa[show k+(i+1)=k+1+i by omega]at this
  simp[tm,h0,this]
theorem fZ.each{l:List ξ}{fr:Nat}(h:fZ l fr)(hf:fr<=675):∀(r:List ξ) (i:Nat) (hi:i<l.length),rZ (l++r) i l[i]=0:=by
 induction h with
 |nil=>intro r i hi;cases hi
 |@snoc l x fr aA h1 h2 ih=>
  have hle:=h2.le
  intro r i hi;rw[bQ];by_cases gH:i<l.length
  ·rw[List.getElem_append_left gH];exact ih (by omega) ([x]++r) i gH
  ·have:i=l.length:=by simp at hi;omega
   subst this;rw[List.getElem_append_right (b_ _)];simp only[Nat.sub_self,kz];refine h2.ok (h1.known (by omega) _) hf ?_;rw[List.take_left,List.any_eq_false];intro y hy;rw[h1.new h2 hf y hy];simp
theorem fZ.right{l:List ξ}{fr:Nat}(h:fZ l fr)(hf:fr<=675)(h1:1<=l.length)(h2:l.length<=12):mQ l=0:=by
 have:=Wk (ps:=l) l 0 fun i hi=>by have:=h.each hf [] i hi;simpa using this
 rw[mQ,if_neg (by omega),this]
theorem vD(a i:Nat)(ha:a<256):dB (bV [a] i):=by intro b hb;have h3:i/26 % 26<26:=mj _ (by decide);have h4:i % 26<26:=mj _ (by decide);simp only[bV,cy,bB,cB,List.not_mem_nil,or_false]at hb;omega
theorem bU.str{fr:Nat}{s:Sc}(h:bU fr s):(∀t∈s.aC,dB t)/\(∀t∈s.cu,dB t)/\(∀t∈s.bits,dB t)/\(∀t∈s.turns,dB t):=by
 have h1:∀t∈s.aC,dB t:=fun t ht=>by obtain⟨a,i,h1,-,rfl⟩:=h.aC t ht;exact vD a i (by omega)
 refine⟨h1,fun t ht=>h1 t (h.cu t ht),fun t ht=>?_,fun t ht=>?_⟩
 ·obtain⟨i,-,rfl⟩:=h.bits t ht;exact vD 98 i (by omega)
 ·obtain⟨i,-,rfl⟩:=h.turns t ht;exact vD 105 i (by omega)
theorem Y_{α:Type}{l:List α}(h:Ξ l= .nil):l=[]:=by cases l<;>first|rfl|cases h
theorem zm:dB []:=fun b hb=>by cases hb
theorem cZ.D9{ts:List (List Nat)}{s:Nat}{i:ζ}(h:cZ ts s i)(ht:∀t∈ts,dB t):i.gu:=by
 induction h with
 |fix h1 h2=>exact⟨by simp[ζ.Ok,ζ.cm,bm],by simp[ζ.qZ,ζ.Strs,zm]⟩
 |dZ h=>exact⟨by simp[ζ.Ok,ζ.cm,bm],by simp[ζ.qZ,ζ.Strs,ht _ h]⟩
 |bin h0 h1 h2 ha hb dJ gm=>exact⟨by simp[ζ.Ok,ζ.cm,bm,dJ.1,gm.1],by simp[ζ.qZ,ζ.Strs,zm,dJ.2,gm.2]⟩
theorem mH:jy.gu:=⟨by simp[jy,ζ.Ok,ζ.cm,bm],by simp[jy,ζ.qZ,ζ.Strs,zm]⟩
theorem gE.ok{fr:Nat}{s:Sc}(hs:bU fr s){p:ρ}(h:gE s.aC s.turns p):p.Ok:=
 ⟨hs.str.1 _ h.nm,by rw[h.cp];split<;>simp[bm],fun x hx=>(h.lW x hx).D9 hs.str.2.2.2⟩
theorem fB.sc{bH:List (List Nat×Nat)}{d fr aA:Nat}{s s':Sc}{x:δ}(h:fB bH d fr s x aA s')(hs:bU fr s):bU aA s':=by
 have hle:=h.le;cases h with
 |take _=>exact hs.put
 |drop _=>exact hs.drop _
 |measure _ h2=>exact hs.bit h2
 |_=>exact hs.mono hle
section
variable{bH:List (List Nat×Nat)}(dd:∀nm k,(nm,k)∈bH->dB nm)
include dd
mutual
theorem fB.str{d fr aA:Nat}{s s':Sc}{x:δ}(h:fB bH d fr s x aA s')(hs:bU fr s):x.Ok:=by
 have c0:bm .nil:= .inl rfl;have c1:bm .any:= .inr rfl
 match h with
 | .gate h1 h2 h3 h4 hc=>exact⟨zm,hc▸kE _,fun p hp=>(h4 p hp).ok hs,mH,mH,c0,trivial,c0,trivial⟩
 | .take h1=>exact⟨vD 113 _ (by omega),c0,by simp,h1.D9 hs.str.2.2.2,mH,c0,trivial,c0,trivial⟩
 | .drop h1=>exact⟨hs.str.2.1 _ h1,c0,by simp,mH,mH,c0,trivial,c0,trivial⟩
 | .borrow hd h1 h2 hc hn=>exact⟨vD 114 _ (by omega),c0,by simp,h1.D9 hs.str.2.2.2,mH,hc,aY.str h2 hs.mI.inner,c0,trivial⟩
 | .measure h1 h2=>
  refine⟨?_,c1,by simpa using h1.ok hs,mH,mH,c0,trivial,c0,trivial⟩
  rcases h2 with rfl|h2
  ·exact vD 98 _ (by omega)
  ·exact hs.str.2.2.1 _ h2
 | .reset h1=>exact⟨zm,c1,by simpa using h1.ok hs,mH,mH,c0,trivial,c0,trivial⟩
 | .cond hd h1 h2 h3 hc hn gQ gR=>exact⟨hs.str.2.2.1 _ h1,c0,by simp,mH,mH,hc,aY.str h2 hs.inner,gQ,aY.str h3 (hs.inner.mono (aY.le h2))⟩
 | .loop hd h1 h2 h3 hc hn=>exact⟨vD 105 _ (by omega),c0,by simp,h1.D9 hs.str.2.2.2,h2.D9 hs.str.2.2.2,hc,aY.str h3 hs.dZ.inner,c0,trivial⟩
 | .call h1 h2 h3 hc=>exact⟨dd _ _ h1,hc▸kE _,fun p hp=>(h3 p hp).ok hs,mH,mH,c0,trivial,c0,trivial⟩
 | .qT hd h2 hc hn=>exact⟨zm,c0,by simp,mH,mH,hc,aY.str h2 hs.inner,c0,trivial⟩
 | .within hd h2 h3 hc hn gQ gR=>exact⟨zm,c0,by simp,mH,mH,hc,aY.str h2 hs.inner,gQ,aY.str h3 (hs.inner.mono (aY.le h2))⟩
theorem aY.str{d fr aA:Nat}{s:Sc}{l:List δ}(h:aY bH d fr s l aA)(hs:bU fr s):δ.cm l:=by
 match h with
 | .nil=>trivial
 | .cons h1 h2=>exact⟨fB.str h1 hs,aY.str h2 (h1.sc hs)⟩
end
end
theorem ahm{l:List ξ}{fr:Nat}(h:fZ l fr):∀nm k,(nm,k)∈kZ l->dB nm:=by intro nm k hk;obtain⟨x,hx,e⟩:=fb.1 hk;obtain⟨i,-,-,h3⟩:=h.names x hx;rw[az]at e;rw[<-e.1,h3];exact vD 112 i (by omega)
theorem pg.str{bH:List (List Nat×Nat)}(dd:∀nm k,(nm,k)∈bH->dB nm){fr aA:Nat}{x:ξ}(h:pg bH fr aA x)(hf:aA<=675):x.Ok:=by have hle:=aY.le h.body;have kH:bU (fr+1) ⟨[],[],[],[]⟩:=⟨by simp,by simp,by simp,by simp⟩;obtain⟨-,p2⟩:=Ot 0 x.au (fr+1) (by omega) (fun i hi=>by have:=h.au i hi;rwa[show fr+1+1+i=fr+2+i by omega]) _ kH;simp only[bB]at p2;refine⟨by rw[h.nm];exact vD 112 _ (by omega),h.Kc▸kE _,fun y hy=>?_,h.Q9▸kE _,aY.str dd h.body p2,fun e=>Y_ (h.Kc▸e)⟩;exact p2.str.1 _ (fb.2 ⟨y,hy,rfl⟩)
theorem fZ.str{l:List ξ}{fr:Nat}(h:fZ l fr)(hf:fr<=675):∀x∈l,x.Ok:=by
 induction h with
 |nil=>intro x hx;cases hx
 |@snoc l x fr aA h1 h2 ih=>
  have hle:=h2.le
  intro y hy;rcases dQ.1 hy with hy|hy
  ·exact ih (by omega) y hy
  ·obtain rfl:=fY.1 hy;exact h2.str (ahm h1) hf
theorem cZ.Cr{ts:List (List Nat)}{s:Nat}{i:ζ}(h:cZ ts s i)(hs:s<=4):i.cnt<=7:=by have:=(h.mono hs).cnt;simp at this;omega
theorem aco{ts:List (List Nat)}(l:List ζ)(h:∀i∈l,cZ ts 4 i):ζ.bK l<=7*l.length:=by
 induction l with
 |nil=>simp[ζ.bK]
 |cons a l ih=>
  have h1:=(h a (by simp)).Cr (by omega)
  have h2:=ih fun i hi=>h i (by simp[hi]);simp only[ζ.bK,cN];omega
theorem gE.wt{rs ts:List (List Nat)}{p:ρ}(h:gE rs ts p):p.wt<=15:=by have h1:=aco p.ix h.lW;have h2:=h.len;rw[ρ.wt];omega
theorem Wd{rs ts:List (List Nat)}(l:List ρ)(h:∀p∈l,gE rs ts p):eL l<=15*l.length:=by
 induction l with
 |nil=>simp[eL]
 |cons a l ih=>
  have h1:=(h a (by simp)).wt
  have h2:=ih fun i hi=>h i (by simp[hi]);simp only[eL,cN];omega
theorem ug:jy.cnt=1:=rfl
theorem PG(g:Int):ga g<=3:=by
 unfold ga;split
 ·omega
 ·split<;>omega
section
variable{bH:List (List Nat×Nat)}(dd:∀nm k,(nm,k)∈bH->k<=3)
include dd
mutual
theorem fB.wt{d fr aA:Nat}{s s':Sc}{x:δ}(h:fB bH d fr s x aA s'):x.wt<=60*x.cnt:=by
 match h with
 | .gate (pl:=pl) h1 h2 h3 h4 hc=>
  have a:=Wd pl h4
  have b:=PG;rw[h3]at a;have b:=PG ‹Int›;simp[bD,δ.wt,δ.bC,δ.cnt,bf,bz,ug];omega
 | .take h1=>have:=h1.Cr (by omega);simp[bD,δ.wt,δ.bC,δ.cnt,bf,bz,ug,eL];omega
 | .drop h1=>simp[bD,δ.wt,δ.bC,δ.cnt,bf,bz,ug,eL]
 | .borrow hd h1 h2 hc hn=>have:=h1.Cr (by omega);have:=aY.wt h2;simp[bD,δ.wt,δ.bC,δ.cnt,bf,bz,ug,eL];omega
 | .measure h1 h2=>have:=h1.wt;simp[bD,δ.wt,δ.bC,δ.cnt,bf,bz,ug,eL];omega
 | .reset h1=>have:=h1.wt;simp[bD,δ.wt,δ.bC,δ.cnt,bf,bz,ug,eL];omega
 | .cond hd h1 h2 h3 hc hn gQ gR=>have:=aY.wt h2;have:=aY.wt h3;simp[bD,δ.wt,δ.cnt,bf,bz,ug,eL];omega
 | .loop hd h1 h2 h3 hc hn=>have:=h1.Cr (by omega);have:=h2.Cr (by omega);have:=aY.wt h3;simp[bD,δ.wt,δ.bC,δ.cnt,bf,bz,eL];omega
 | .call (pl:=pl) h1 h2 h3 hc=>
  have a:=Wd pl h3
  have b:=dd _ _ h1;simp[bD,δ.wt,δ.bC,δ.cnt,bf,bz,ug];omega
 | .qT hd h2 hc hn=>have:=aY.wt h2;simp[bD,δ.wt,δ.bC,δ.cnt,bf,bz,ug,eL];omega
 | .within hd h2 h3 hc hn gQ gR=>have:=aY.wt h2;have:=aY.wt h3;simp[bD,δ.wt,δ.cnt,bf,bz,ug,eL];omega
theorem aY.wt{d fr aA:Nat}{s:Sc}{l:List δ}(h:aY bH d fr s l aA):δ.bC l<=60*δ.bK l:=by
 match h with
 | .nil=>simp[δ.bC]
 | .cons h1 h2=>have:=fB.wt h1;have:=aY.wt h2;simp only[δ.bC,δ.bK];omega
end
end
theorem fZ.yd{l:List ξ}{fr:Nat}(h:fZ l fr):∀x∈l,x.au.length<=2:=by
 induction h with
 |nil=>intro x hx;cases hx
 |@snoc l x fr aA h1 h2 ih=>
  intro y hy
  rcases dQ.1 hy with hy|hy
  ·exact ih y hy
  ·obtain rfl:=fY.1 hy;exact h2.yd
theorem ag_(a b:List ξ):gC (a++b)=gC a+gC b:=by
 induction a with
 |nil=>simp[gC]
 |cons x a ih=>simp only[cy,gC,ih];omega
theorem fZ.wt{l:List ξ}{fr:Nat}(h:fZ l fr):gC l<=2403*l.length:=by
 induction h with
 |nil=>simp[gC]
 |@snoc l x fr aA h1 h2 ih=>
  have hf:=h1.yd
  have hb:=aY.wt (bH:=kZ l) (fun nm k hk=>by
   obtain⟨y,hy,e⟩:=fb.1 hk
   rw[az]at e;have:=hf y hy;omega) h2.body
  have h3:=h2.yd;have h4:=h2.cnt;rw[ag_];simp only[gC,ξ.wt,cX,cN,eT];omega
end Go.Δ.Tz
namespace Go.Δ
theorem Ka{C:iF}{f:FuncId}{g:AF}{args:List AV}{m:Mem}{ex:Ex}{s':St}{l:List AV}(hf:C.alts f=some g)
  (hx:exec C.gl (ab C) dP g.code {env:=args.map (exp m.ε.length true),loc:=[],mem:= {ε:=m.ε,η:=[]}}=some (ex,s')) (hex:∀i,ex≠ .exit i) (hl:cF s' g.results=some l):
  ab C (.fn (.methodOf f "") [] []) args m=some (exp s'.mem.ε.length true (cK l),{ε:=s'.mem.ε,η:=m.η++s'.mem.η}):=by
 apply sy;simp only[body,hf,bB,dM,hx];cases ex with
 |exit i=>exact absurd rfl (hex i)
 |_=>simp only[fin,hl];rfl
end Go.Δ
namespace Go.Δ.Tz
open Go.Δ
variable{u:Nat}
attribute [local simp] exec ef dR e_ aJ dF fE eR br fM bR iL iS jm jE mo AV.cells newVar jA rd wr iu single dk cD ff eF μ cF RV.get cK fV kT tQ
theorem I8(l:List (List Nat)):(l.map AV.str).all (shaped false 1)=true:=by rw[dL];intro x hx;obtain⟨s,-,rfl⟩:=fb.1 hx;rfl
theorem W8(l:List (List Nat)):(l.map AV.str).all AV.one=true:=by rw[dL];intro x hx;obtain⟨s,-,rfl⟩:=fb.1 hx;rfl
theorem W7(m:Mem)(l:List (List Nat)):(l.map AV.str).map m.ν=l.map AV.str:=by rw[cT];rfl
theorem ai3(l:List (List Nat)):(l.map AV.str).flatMap AV.cells=l.map AV.str:=by
 induction l with
 |nil=>rfl
 |cons a l ih=>rw[ax,List.flatMap_cons,ih];rfl
def uA(l:List (List Nat))(nm:List Nat):Int:=match l.findIdx? (·==nm)with
 |none=> -1
 |some i=>(i:Int)
theorem ag4{l:List (List Nat)}{nm:List Nat}(h:∀x∈l,(x==nm)=false):uA l nm= -1:=by rw[uA,vV.2 fun x hx=>h x hx]
theorem ag5{l:List (List Nat)}{nm:List Nat}{i:Nat}(hi:i<l.length)(h1:(l[i]==nm)=true)(h2:∀j (hj:j<i),(l[j]==nm)=false):uA l nm=i:=by rw[uA,tD.2 ⟨hi,h1,fun j hj=>by simp[h2 j hj]⟩]
theorem f185{B:List θ}{q:Nat}{a b:AV}{nm:List Nat}{rest:List AV}(hq:B[q]?=some (.cells (a::b:: .str nm::rest)))(s:List Nat)(T:List Nat):
  ab (C u) (.fn (.func 185) [] [.κ q 0]) [.str s] {ε:=B,η:=T}=some (.bool (s==nm),{ε:=B,η:=T}):=by
 have ua:q<B.length:=(fI.1 hq).1;have eG:([AV.str s]++[AV.κ q 0]).map (exp B.length true)=[.str s,.κ q 0]:=by simp[exp,ua]
 have:∃s',exec (C u).gl (ab (C u)) dP AB.code {env:=[.str s,.κ q 0],loc:=[],mem:= {ε:=B,η:=[]}}=some (.ret,s')/\s'.mem= {ε:=B,η:=[]}/\cF s' AB.results=some [.bool (s==nm)]:=by
  have:decide (s=nm)=(s==nm):=by rw[Bool.eq_iff_iff];simp
  simp[AB,Qk,hq,this]
 obtain⟨s',q1,q2,q3⟩:=this;rw[sv (g:=AB) (ex:= .ret) rfl rfl rfl (by rw[eG];exact q1) (by simp) q3,q2];simp[cK,exp]
theorem f224{B:List θ}{q id:Nat}{a b:AV}{nm:List Nat}{rest:List AV}(hq:B[q]?=some (.cells (a::b:: .str nm::rest)))(l:List (List Nat))(hl:l.length<1000000000)(cap:Nat)(hid:B[id]?=some (.cells (l.map AV.str)))(T:List Nat):
  kf u 224 [.sl 0 id 0 l.length cap,.fn (.func 185) [] [.κ q 0]] {ε:=B,η:=T}=some (.n (uA l nm),{ε:=B,η:=T}):=by
 have ua:q<B.length:=(fI.1 hq).1;have De:id<B.length:=(fI.1 hid).1;have e:=f185 (u:=u) hq;refine Iu (B':=B) (g:=AE) rfl rfl rfl rfl (by simp[exp,aX,ua,De,Fn.below]) ?_ T;let M:St->Prop:=fun st=>st.e 0= .sl 0 id 0 l.length cap/\st.e 1= .fn (.func 185) [] [.κ q 0]/\st.mem= {ε:=B,η:=[]};unfold AE JZ;refine Ψ (M) (by simp[M]) fun s1 ⟨h0,h1,dx⟩=>?_;refine bS (fun st=>st.mem= {ε:=B,η:=[]}/\∀x∈l,(x==nm)=false) ?_ fun s2 ⟨dx,gz⟩=>?_
 ·refine Ψ (fun st=>M st/\st.e 7= .n l.length/\st.e 8= .n 0) (by simp[M,h0,h1,dx]) fun s2 ⟨⟨h0,h1,dx⟩,h7,h8⟩=>?_;let I:Nat->St->Prop:=fun i st=>(M st/\st.e 7= .n l.length/\st.e 8= .n (i:Int))/\∀j (hj:j<i) (hl:j<l.length),(l[j]==nm)=false;refine μ.block (μ.lH (I:=I) l.length ⟨⟨⟨h0,h1,dx⟩,h7,h8⟩,fun j hj=>by omega⟩ fun i st hi ⟨⟨⟨h0,h1,dx⟩,h7,h8⟩,gz⟩=>?_);unfold NB;by_cases gH:i<l.length
  ·have kj:bN .i64 ((i:Int)+1)=(i:Int)+1:=wrap_i64 (by omega) (by omega);have HC:(i:Int)<l.length:=by omega
   have mB:(l.map AV.str)[i]?=some (.str l[i]):=by rw[od,dp gH];rfl
   have nP:((l.map AV.str).drop i).take 1=[.str l[i]]:=by rw[oc (by simpa using gH)];simp
   have TM:i+1<=l.length:=gH;cases hb:(l[i]==nm)with
   |true=>
    refine μ.done .ret (fun st=>st.mem= {ε:=B,η:=[]}/\st.e 4= .n (i:Int)) (by simp[h0,h1,dx,h7,h8,HC,gH,hid,nP,TM,e,hb]) fun s' ⟨m1,m2⟩=> .inr ⟨by simp,.inr ⟨by simp,.inr ⟨by simp,by simp,⟨[],by simp[m1]⟩,[.n (i:Int)],by simp[m2],?_⟩⟩⟩
    simp[ag5 gH hb fun j hj=>gz j hj (by omega)]
   |false=>
    refine μ.done .normal (fun st=>M st/\st.e 7= .n l.length/\st.e 8= .n ((i:Int)+1)) (by simp[M,h0,h1,dx,h7,h8,HC,gH,hid,nP,TM,e,hb,kj]) fun s' ⟨m1,m2,m3⟩=> .inl ⟨rfl,gH,⟨m1,m2,by rw[m3];simp⟩,fun j hj rD=>?_⟩
    by_cases lU:j=i
    ·subst lU;exact hb
    ·exact gz j (by omega) rD
  ·have HC:¬(i:Int)<l.length:=by omega
   refine μ.done (.exit 0) (fun st=>st.mem= {ε:=B,η:=[]}) (by simp[h0,h1,dx,h7,h8,HC,gH]) fun s' m1=> .inr ⟨by simp,.inl ⟨rfl,.inl ⟨rfl,m1,fun x hx=>?_⟩⟩⟩;obtain⟨j,hj,rfl⟩:=vX hx;exact gz j (by omega) hj
 ·refine μ.done .ret (fun st=>st.mem= {ε:=B,η:=[]}/\st.e 4= .n (-1)) (by simp[dx]) fun s' ⟨m1,m2⟩=>⟨by simp,⟨[],by simp[m1]⟩,[.n (-1)],by simp[m2],by simp[ag4 gz]⟩
theorem OX{B:List θ}{id:Nat}{b:θ}(h:B[id]?=some b):B.set id b=B:=by
 apply List.ext_getElem?;intro i;rw[List.getElem?_set];split
 ·rename_i hi;subst hi;rw[if_pos (fI.1 h).1,h]
 ·rfl
theorem ahT(n:Nat):(rep n [AV.str []]).length=n:=by
 induction n with
 |zero=>rfl
 |succ n ih=>simp[rep,ih]
theorem WG(n:Nat):∀x∈rep n [AV.str []],x= .str []:=by
 induction n with
 |zero=>intro x hx;cases hx
 |succ n ih=>
  intro x hx
  rcases cB.1 hx with rfl|hx
  ·rfl
  ·exact ih x hx
theorem ahV(m:Mem)(n:Nat):(rep n [AV.str []]).map m.ν=rep n [AV.str []]:=by refine(dh fun x hx=>?_).trans (List.map_id _);rw[WG n x hx];rfl
theorem ahU(i n:Nat):bn i (rep n [AV.str []])=true:=by rw[m_,dL];intro x hx;rw[WG n x hx];rfl
def gT(nm:List Nat)(l:List (List Nat)):List (List Nat):=l.filter fun x=>!(x==nm)
theorem WT(nm:List Nat)(l:List (List Nat))(j:Nat)(hj:j<l.length):gT nm (l.take (j+1))=gT nm (l.take j)++if l[j]==nm then[]else[l[j]]:=by rw[List.take_succ_eq_append_getElem hj,gT,List.filter_append];congr 1;cases h:(l[j]==nm)<;>simp[h]
theorem WS{nm:List Nat}{l:List (List Nat)}(h:∀x∈l,(x==nm)=false):gT nm l=l:=
 List.filter_eq_self.2 fun x hx=>by simp only[h x hx,Bool.not_false]
structure Row (nm:List Nat) (l:List (List Nat)) (D:List AV) (j k:Nat):Prop where
 len:D.length=l.length
 hk:k=(gT nm (l.take j)).length
 fst:D.take k=(gT nm (l.take j)).map AV.str
 snd:D.drop j=(l.drop j).map AV.str
theorem Row.get{nm:List Nat}{l:List (List Nat)}{D:List AV}{j k:Nat}(h:Row nm l D j k)(hj:j<l.length):(D.drop j).take 1=[.str l[j]]:=by rw[h.snd,oc hj];rfl
theorem Row.skip{nm:List Nat}{l:List (List Nat)}{D:List AV}{j k:Nat}(h:Row nm l D j k)(hj:j<l.length)(hb:(l[j]==nm)=true):Row nm l D (j+1) k:=by
 have e:gT nm (l.take (j+1))=gT nm (l.take j):=by rw[WT nm l j hj,hb];simp
 exact⟨h.len,by rw[e];exact h.hk,by rw[e];exact h.fst,by rw[<-o9,h.snd,<-akP,o9]⟩
theorem Row.ba{nm:List Nat}{l:List (List Nat)}{D:List AV}{j k:Nat}(h:Row nm l D j k)(hj:j<l.length)(vh:k<j)(hb:(l[j]==nm)=false):Row nm l (D.take k++([.str l[j]]++D.drop (k+1))) (j+1) (k+1):=by
 have e:gT nm (l.take (j+1))=gT nm (l.take j)++[l[j]]:=by rw[WT nm l j hj,hb];simp
 have hl:=h.len;have h1:(D.take k).length=k:=by simp;omega
 refine⟨by simp;omega,by rw[e,cX,<-h.hk];rfl,?_,?_⟩
 ·rw[akQ,h1,fe (by omega),show k+1-k=1 by omega,e,kQ,h.fst];rfl
 ·rw[List.drop_append,h1,List.drop_eq_nil_of_le (by omega),bB,show j+1-k=1+(j-k) by omega,<-o9];show akR (j-k) (D.drop (k+1))=_;rw[o9,show k+1+(j-k)=j+1 by omega,<-o9,h.snd,<-akP,o9]
theorem f186{B:List θ}{q id:Nat}{a b:AV}{nm:List Nat}{rest:List AV}(hqi:id≠q)(hq:B[q]?=some (.cells (a::b:: .str nm::rest)))(l:List (List Nat))(hl:l.length<1000000000)(cap:Nat)(hid:B[id]?=some (.cells (l.map AV.str))):
  ∃D:List AV,D.length=l.length/\D.take (gT nm l).length=(gT nm l).map AV.str/\∀T,kf u 186 [.sl 0 id 0 l.length cap,.fn (.func 185) [] [.κ q 0]] {ε:=B,η:=T}=some (.sl 0 id 0 (gT nm l).length cap,{ε:=B.set id (.cells D),η:=T}):=by
 have ua:q<B.length:=(fI.1 hq).1;have De:id<B.length:=(fI.1 hid).1;have Z1:=f224 (u:=u) hq l hl cap hid;have RA:∀D s T,ab (C u) (.fn (.func 185) [] [.κ q 0]) [.str s] {ε:=B.set id (.cells D),η:=T}=some (.bool (s==nm),{ε:=B.set id (.cells D),η:=T}):=fun D s T=>f185 (u:=u) (B:=B.set id (.cells D)) (by rw[gN hqi];exact hq) s T;have Mc:∀D,(B.set id (.cells D))[id]?=some (.cells D):=fun D=>by simp[De]
 have hx:[AV.sl 0 id 0 l.length cap,.fn (.func 185) [] [.κ q 0]].map (exp B.length false)=[.sl 0 id 0 l.length cap,.fn (.func 185) [] [.κ q 0]]:=by simp[exp,aX,ua,De,Fn.below]
 have hr:μ (C u).gl (ab (C u)) wo.code {env:=[.sl 0 id 0 l.length cap,.fn (.func 185) [] [.κ q 0]],loc:=[],mem:= {ε:=B,η:=[]}} fun r=>
   (∀i,r.1≠ .exit i)/\∃D:List AV,(D.length=l.length/\D.take (gT nm l).length=(gT nm l).map AV.str)/\r.2.mem= {ε:=B.set id (.cells D),η:=[]}/\br r.2.env 4= .sl 0 id 0 (gT nm l).length cap:=by
  let M:List AV->St->Prop:=fun D st=>br st.env 0= .sl 0 id 0 l.length cap/\br st.env 1= .fn (.func 185) [] [.κ q 0]/\st.mem= {ε:=B.set id (.cells D),η:=[]};have LD:=OX hid;unfold wo JW;refine Ψ (M (l.map .str)) (by simp[M,LD]) fun s1 ⟨h0,h1,dx⟩=>?_;rw[LD]at dx;refine Ψ (fun st=>M (l.map .str) st/\br st.env 5= .n (uA l nm)) (by simp[M,LD,h0,h1,dx,Z1]) fun s2 ⟨⟨h0,h1,dx⟩,h5⟩=>?_;cases hf:l.findIdx? (·==nm)with
  |none=>
   have hp:uA l nm= -1:=by rw[uA,hf]
   have gz:=vV.1 hf;rw[hp]at h5;have hs:=WS (nm:=nm) (l:=l) gz;refine bS (fun _=>False) (μ.done .ret (fun st=>st.mem= {ε:=B.set id (.cells (l.map .str)),η:=[]}/\br st.env 4= .sl 0 id 0 l.length cap) (by simp[h0,h1,dx,h5]) fun s' ⟨m1,m2⟩=> .inr ⟨by simp,by simp,l.map .str,⟨by simp,by rw[hs];exact fe (by simp)⟩,m1,by rw[m2,hs]⟩) fun s h=>h.elim
  |some i0=>
   have hp:uA l nm=i0:=by rw[uA,hf]
   obtain⟨Hw,gF,fD⟩:=tD.1 hf;rw[hp]at h5;have yN:¬(i0:Int)= -1:=by omega
   have w0:bN .i64 ((i0:Int)+1)=((i0+1:Nat):Int):=by rw[wrap_i64 (by omega) (by omega)];simp
   have kH:gT nm (l.take i0)=l.take i0:=WS fun x hx=>by
    obtain⟨j,hj,rfl⟩:=vX hx;have lU:j<i0:=by simp at hj;omega
    have:=fD j lU;simpa using this
   have R0:Row nm l (l.map .str) i0 i0:=⟨by simp,by rw[kH];simp;omega,by rw[kH,akS],by rw[akP]⟩;have R1:=R0.skip Hw gF;refine bS (fun st=>M (l.map .str) st/\br st.env 5= .n (i0:Int)) (μ.done .normal (fun st=>M (l.map .str) st/\br st.env 5= .n (i0:Int)) (by simp[M,h0,h1,dx,h5,yN]) fun s' h=> .inl ⟨rfl,h⟩) fun s3 ⟨⟨h0,h1,dx⟩,h5⟩=>?_;refine bS (fun st=>∃D k,M D st/\Row nm l D l.length k/\k<l.length/\br st.env 5= .n (k:Int)) ?_ fun s4 ⟨D,k,⟨h0,h1,dx⟩,hR,hk,h5⟩=>?_
   ·refine Ψ (fun st=>M (l.map .str) st/\br st.env 5= .n (i0:Int)/\br st.env 6= .n ((i0+1:Nat):Int)) (by simp only[akK,zP]at w0⊢;simp[M,h0,h1,dx,h5,w0]) fun s4 ⟨⟨h0,h1,dx⟩,h5,h6⟩=>?_;let I:Nat->St->Prop:=fun r st=>∃D k j,j=i0+1+r/\M D st/\Row nm l D j k/\k<j/\br st.env 5= .n (k:Int)/\br st.env 6= .n (j:Int);refine μ.block (μ.lH (I:=I) (l.length-(i0+1)) ⟨_,_,_,rfl,⟨h0,h1,dx⟩,R1,Nat.lt_succ_self _,h5,h6⟩ fun r st hr ⟨D,k,j,hj,⟨h0,h1,dx⟩,hR,hk,h5,h6⟩=>?_);unfold U7;by_cases rD:j<l.length
    ·have ly:(j:Int)<l.length:=by omega
     have wj:bN .i64 ((j:Int)+1)=(j:Int)+1:=wrap_i64 (by omega) (by omega);have wk:bN .i64 ((k:Int)+1)=(k:Int)+1:=wrap_i64 (by omega) (by omega);have hg:=hR.get rD;have yj:=hR.len;have TP:j+1<=l.length:=rD;have pF:k+1<=l.length:=by omega
     have wO:k<l.length:=by omega
     have Ms:(k:Int)<l.length:=by omega
     cases hb:(l[j]==nm)with
     |true=>refine μ.done .normal (fun st=>M D st/\br st.env 5= .n (k:Int)/\br st.env 6= .n ((j:Int)+1)) (by simp[M,h0,h1,dx,h5,h6,ly,rD,Mc,hg,yj,TP,RA,hb,wj]) fun s' ⟨m1,m2,m3⟩=> .inl ⟨rfl,by omega,D,k,j+1,by omega,m1,hR.skip rD hb,by omega,m2,by rw[m3];simp⟩
     |false=>refine μ.done .normal (fun st=>M (D.take k++([.str l[j]]++D.drop (k+1))) st/\br st.env 5= .n ((k:Int)+1)/\br st.env 6= .n ((j:Int)+1)) (by simp[M,h0,h1,dx,h5,h6,ly,rD,Mc,hg,yj,TP,RA,hb,wj,wk,Ms,wO,pF,Mem.put,Mem.ν,ν,bn,lo]) fun s' ⟨m1,m2,m3⟩=> .inl ⟨rfl,by omega,_,k+1,j+1,by omega,m1,hR.ba rD hk hb,by omega,by rw[m2];simp,by rw[m3];simp⟩
    ·have ly:¬(j:Int)<l.length:=by omega
     obtain rfl:j=l.length:=by omega
     refine μ.done (.exit 0) (fun st=>M D st/\br st.env 5= .n (k:Int)) (by simp[M,h0,h1,dx,h5,h6]) fun s' ⟨m1,m2⟩=> .inr ⟨by simp,.inl ⟨rfl,.inl ⟨rfl,D,k,m1,hR,hk,m2⟩⟩⟩
   ·have yj:=hR.len;have eC:k=(gT nm l).length:=by have:=hR.hk;rwa[pa]at this
    have wK:D.take k=(gT nm l).map AV.str:=by have:=hR.fst;rwa[pa]at this
    have TT:(k:Int)<=l.length:=by omega
    have gy:k<=l.length:=by omega
    have c_:¬l.length-k=0:=by omega
    have kj:k+(l.length-k)=l.length:=by omega
    generalize hZ:rep (l.length-k) [AV.str []]=Z;have Tj:Z.length=l.length-k:=by rw[<-hZ,ahT]
    have hZn:∀m:Mem,Z.map m.ν=Z:=fun m=>by rw[<-hZ];exact ahV m _
    have hZo:bn id Z=true:=by rw[<-hZ];exact ahU _ _
    refine Ψ (fun st=>M (D.take k++(Z++D.drop (k+Z.length))) st/\br st.env 5= .n (k:Int)) (by simp[M,h0,h1,dx,h5,bound,TT,gy,hk,c_,Mc,hZ,Tj,yj,kj,Mem.put,hZn,hZo]) fun s5 ⟨⟨h0,h1,dx⟩,h5⟩=>?_;refine μ.done .ret (fun st=>st.mem= {ε:=B.set id (.cells (D.take k++(Z++D.drop (k+Z.length)))),η:=[]}/\br st.env 4= .sl 0 id 0 k cap) (by simp[h0,h1,dx,h5,bound,TT,gy]) fun s' ⟨m1,m2⟩=>⟨by simp,_,⟨?_,?_⟩,m1,by rw[m2,eC]⟩
    ·simp[Tj,yj];omega
    ·rw[<-eC,akQ,fe (by simp[yj];omega),wK];have:k-(gT nm l).length=0:=by omega
     simp[yj,Nat.min_eq_left gy,this]
 obtain⟨r,qz,h1,D,⟨S9,Hg⟩,h2,h3⟩:=hr;refine⟨D,S9,Hg,fun T=>?_⟩;refine Iu (u:=u) (f:=186) (g:=wo) (B:=B) (B':=B.set id (.cells D)) rfl rfl rfl (by simp) hx ⟨r,qz,h1,⟨[],by simp[h2]⟩,[.sl 0 id 0 (gT nm l).length cap],by simp[wo,h3],?_⟩ T;simp[aQ,fC,De]
theorem Za(c:τ)(n m:Nat):(c.exp n false).exp m false=c.exp 0 false:=by cases c<;>simp[τ.exp]
theorem aaj{B:List θ}{q:Nat}(ua:q<B.length)(c:τ)(T:List Nat):
  kf u 224 [.list c [],.fn (.func 185) [] [.κ q 0]] {ε:=B,η:=T}=some (.n (-1),{ε:=B,η:=T}):=by
 refine ku (B:=B) (g:=AE) rfl rfl rfl rfl ?_;simp only[bB,dM,ax,aI,exp,aX,ua,Fn.below,if_true,AE,JZ];generalize c.exp B.length false=c';have F:=AV.fn (.func 185) [] [.κ q 0];refine Ψ (fun st=>st.e 0= .list c' []/\st.mem= {ε:=B,η:=[]}) (by simp) fun s1 ⟨h0,dx⟩=>?_;refine bS (fun st=>st.mem= {ε:=B,η:=[]}) ?_ fun s2 dx=>μ.done .ret (fun st=>st.mem= {ε:=B,η:=[]}/\st.e 4= .n (-1)) (by simp[dx]) fun s' ⟨m1,m2⟩=>⟨by simp,⟨[],by simp[m1]⟩,[.n (-1)],by simp[m2],by simp⟩;refine Ψ (fun st=>st.mem= {ε:=B,η:=[]}/\st.e 7= .n 0/\st.e 8= .n 0) (by simp[h0,dx]) fun s2 ⟨dx,h7,h8⟩=>?_;refine μ.block (μ.lH (I:=fun _ st=>st.mem= {ε:=B,η:=[]}/\st.e 7= .n 0/\st.e 8= .n 0) 0 ⟨dx,h7,h8⟩ fun i st hi ⟨dx,h7,h8⟩=>?_);unfold NB;exact μ.done (.exit 0) (fun st=>st.mem= {ε:=B,η:=[]}) (by simp[dx,h7,h8]) fun s' m1=> .inr ⟨by simp,.inl ⟨rfl,.inl ⟨rfl,m1⟩⟩⟩
theorem aah{B:List θ}{q:Nat}(ua:q<B.length)(c:τ)(T:List Nat):
  kf u 186 [.list c [],.fn (.func 185) [] [.κ q 0]] {ε:=B,η:=T}=some (.list (c.exp 0 false) [],{ε:=B,η:=T}):=by
 refine ku (B:=B) (g:=wo) rfl rfl rfl rfl ?_;simp only[bB,dM,ax,aI,exp,aX,ua,Fn.below,if_true,wo,JW];obtain⟨c',gQ⟩:∃c',c'=c.exp B.length false:=⟨_,rfl⟩;have e:=aaj (u:=u) ua c';have yu:c'.exp B.length false=c.exp 0 false:=by rw[gQ,Za]
 rw[<-gQ];refine Ψ (fun st=>st.e 0= .list c' []/\st.e 1= .fn (.func 185) [] [.κ q 0]/\st.mem= {ε:=B,η:=[]}) (by simp) fun s1 ⟨h0,h1,dx⟩=>?_;refine Ψ (fun st=>st.e 0= .list c' []/\st.e 5= .n (-1)/\st.mem= {ε:=B,η:=[]}) (by simp[h0,h1,dx,e]) fun s1 ⟨h0,h5,dx⟩=>?_;refine bS (fun _=>False) (μ.done .ret (fun st=>st.mem= {ε:=B,η:=[]}/\st.e 4= .list c' []) (by simp[h0,h5,dx]) fun s' ⟨m1,m2⟩=> .inr ⟨by simp,by simp,⟨[],by simp[m1]⟩,[.list c' []],by simp[m2],by simp[aQ,fC,oC,yu]⟩) fun s h=>h.elim
theorem aak(m:Mem):kf u 29 [.list .nil []] m=some (.list .nil [],m):=by
 have:∃s',exec (C u).gl (ab (C u)) dP pB.code {env:=([AV.list .nil []]++[]).map (exp m.ε.length true),loc:=[],mem:= {ε:=m.ε,η:=[]}}=some (.ret,s')/\s'.mem= {ε:=m.ε,η:=[]}/\cF s' pB.results=some [.list .nil []]:=by simp[pB,Fb,exp,aX,τ.exp,isNil]
 obtain⟨s',q1,q2,q3⟩:=this;unfold kf;rw[sv (g:=pB) (ex:= .ret) rfl rfl rfl q1 (by simp) q3,q2];simp[cK,exp,aX,τ.exp]
attribute [simp] Sh.s Sh.mc Sh.m Sh.o Sh.k Sh.n
theorem aal(m:Mem):ab (C u) (.fn (.methodOf 29 "") [] []) [.list .nil []] m=some (.list .nil [],m):=by
 have:∃s',exec (C u).gl (ab (C u)) dP pC.code {env:=[AV.list .nil []].map (exp m.ε.length true),loc:=[],mem:= {ε:=m.ε,η:=[]}}=some (.ret,s')/\s'.mem= {ε:=m.ε,η:=[]}/\cF s' pC.results=some [.list .nil []]:=by simp[pC,Fh,exp,aX,τ.exp,isNil]
 obtain⟨s',q1,q2,q3⟩:=this;rw[Ka (g:=pC) (ex:= .ret) (by rfl) q1 (by simp) q3,q2];simp[cK,exp,aX,τ.exp]
theorem P0(n:Nat)(k:Bool)(l:List Nat):aX n k (l.map fun b:Nat=>AV.int .u8 (b:Int))=l.map fun b:Nat=>AV.int .u8 (b:Int):=by rw[ft,cT];rfl
theorem YI(l:List Nat):(l.map fun b:Nat=>AV.int .u8 (b:Int)).all (shaped false 1)=true:=by rw[dL];intro x hx;obtain⟨s,-,rfl⟩:=fb.1 hx;rfl
theorem P1(m:Mem)(l:List Nat):(l.map fun b:Nat=>AV.int .u8 (b:Int)).map m.ν=l.map fun b:Nat=>AV.int .u8 (b:Int):=by rw[cT];rfl
theorem YH(bs:List θ)(n:Nat)(c:τ)(l:List Nat):aQ bs n 8 (gg c l)=gg (c.exp 0 false) l:=by have:bL (l.map fun b:Nat=>AV.int .u8 (b:Int)) (l.map fun b:Nat=>AV.int .u8 (b:Int)):=bL.of _ l fun x _=>Dv.int _ _;exact(Dv.list c this).aQ bs n 8
theorem f123(c:τ)(l:List Nat)(hl:l.length<1000000000)(hn:c= .nil->l=[])(m:Mem):∃c',bm c'/\kf u 123 [gg c l] m=some (gg c' l,m):=by
 by_cases hc:c= .nil
 ·subst hc;obtain rfl:=hn rfl;refine⟨.nil,.inl rfl,dt (g:=Ay) rfl rfl rfl ?_⟩;simp[gg,Ay,JU,exp,aX,τ.exp,isNil];rfl
 ·have yu:∀n,c.exp n false= .any:=fun n=>by cases c<;>first|rfl|exact absurd rfl hc
  refine⟨.any,.inr rfl,dt (g:=Ay) rfl rfl rfl ?_⟩;simp only[ax,aI,gg,exp,P0,yu,Ay,JU];cases l with
  |nil=>
   simp[isNil,iq]
   rfl
  |cons a l=>
   have e1:(l.length+1)*1<=140737488355328:=by simp at hl;omega
   have e2:l.length+1<=140737488355328:=by simp at hl;omega
   have h1:=YI (a::l);have h2:=P1 {ε:=m.ε,η:=[]} (a::l);simp only[ax]at h1 h2;simp[isNil,iq,h1,e1,e2,Mem.push];exact YH _ _ (.own m.ε.length) (a::l)
theorem f36(c:τ)(hc:bm c)(l:List Nat)(hn:c= .nil->l=[])(B:List θ):∃c',bm c'/\∀T,kf u 36 [gg c l] {ε:=B,η:=T}=some (.κ B.length 0,{ε:=B++[.cells (aP c' (l.take 300) 0 2463534242)],η:=T}):=by
 obtain⟨c1,tT,q⟩:=f123 (u:=u) c (l.take 300) (by simp;omega) (fun h=>by rw[hn h];rfl) {ε:=B,η:=[]};refine⟨c1,tT,fun T=>?_⟩;have jU:((l.map fun b:Nat=>AV.int .u8 (b:Int)).all fun e=>decide (e.cells.length=1))=true:=by rw[dL];intro x hx;obtain⟨s,-,rfl⟩:=fb.1 hx;rfl
 have ve:([gg c l]++[]).map (exp B.length true)=[gg c l]:=by simp only[dM,ax,aI,gg,exp,P0,fq hc]
 have Ud:(min (l.length:Int) 300)=((min l.length 300:Nat):Int):=by omega
 have:∃s',exec (C u).gl (ab (C u)) dP wv.code {env:=([gg c l]++[]).map (exp B.length true),loc:=[],mem:= {ε:=B,η:=[]}}=some (.ret,s')/\s'.mem= {ε:=B++[.cells (aP c1 (l.take 300) 0 2463534242)],η:=[]}/\cF s' wv.results=some [.κ B.length 0]:=by
  rw[ve];rcases hc with rfl|rfl
  ·obtain rfl:=hn rfl;simp only[gg,akS,aI,List.take_nil]at q;simp[wv,Ff,gg,bound,q,dG,Mem.push,Mem.ν,ν,cG,aP]
  ·by_cases SX:300<l.length
   ·have h1:(300:Int)<l.length:=by omega
    have h2:(300:Int)<=l.length:=by omega
    simp only[gg,akS]at q;have gz:=P1 {ε:=B,η:=[]} (l.take 300);simp[wv,Ff,gg,bound,jU,SX,h1,h2,q,dG,Mem.push,aP,Mem.ν,ν,fH];rfl
   ·have h1:¬(300:Int)<l.length:=by omega
    have hB:l.take 300=l:=fe (by omega);have hT:(l.map fun b:Nat=>AV.int .u8 (b:Int)).take l.length=l.map fun b:Nat=>AV.int .u8 (b:Int):=fe (by simp);rw[hB]at q⊢;simp only[gg]at q;simp[wv,Ff,gg,bound,jU,SX,h1,hT,q,dG,Mem.push,aP,Mem.ν,ν,fH]
 obtain⟨s',q1,q2,q3⟩:=this;unfold kf;rw[sv (g:=wv) (ex:= .ret) rfl rfl rfl q1 (by simp) q3,q2];simp[cK,exp]
end Go.Δ.Tz
namespace Go.Δ
theorem Fq{C:iF}{f:FuncId}{args args':List AV}{m:Mem}(hk:C.ba f=false)(h:args.map (exp m.ε.length false)=args'.map (exp m.ε.length false))(hp:C.gM f=none):ab C (.fn (.func f) [] []) args m=ab C (.fn (.func f) [] []) args' m:=by
 have hb:∀ay lp,body C ay lp (.fn (.func f) [] []) args m=body C ay lp (.fn (.func f) [] []) args' m:=by intro ay lp;simp only[body,hp,bB,dM,hk,h]
 have hc:∀k,cv C k (.fn (.func f) [] []) args m=cv C k (.fn (.func f) [] []) args' m:=by
  intro k;cases k with
  |zero=>rfl
  |succ k=>exact hb _ _
 apply Option.ext;intro r;rw[ot,ot];exact⟨fun⟨k,hk⟩=>⟨k,by rw[<-hc];exact hk⟩,fun⟨k,hk⟩=>⟨k,by rw[hc];exact hk⟩⟩
theorem Bn(c:τ)(n:Nat):bm (c.exp n false):=by cases c<;>first|exact .inl rfl|exact .inr rfl
end Go.Δ
namespace Go.Δ.Tz
open Go.Δ
variable{u:Nat}
theorem CF(n:Nat)(c:τ)(l:List (List Nat)):exp n false (bw c l)=bw (c.exp 0 false) l:=by
 have:aX n false (l.map AV.str)=l.map AV.str:=by rw[ft,cT];rfl
 simp only[bw,exp,this];cases c<;>simp[τ.exp]
theorem W9(n:Nat)(c:τ)(l:List (List Nat)):exp n false (bw (c.exp 0 false) l)=bw (c.exp 0 false) l:=x_ (Bn c 0) l
structure MS (pm ps:Nat) (P:AV) (c:τ) (bs:List Nat) (st fr n:Nat) (x:Int) (M:List θ):Prop where
 m:M[pm]?=some (.cells (bG ps P st fr))
 s:M[ps]?=some (.cells (aP c bs n x))
section
variable{pm ps:Nat}{P:AV}{c:τ}{bs:List Nat}{st fr n:Nat}{x:Int}{M:List θ}
theorem MS.xu(h:MS pm ps P c bs st fr n x M):pm<M.length:=(fI.1 h.m).1
theorem MS.vH(h:MS pm ps P c bs st fr n x M):ps<M.length:=(fI.1 h.s).1
theorem MS.draw(h:MS pm ps P c bs st fr n x M)(φ:pm≠ps)(n':Nat)(x':Int):MS pm ps P c bs st fr n' x' (M.set ps (.cells (aP c bs n' x'))):=
 ⟨by rw[gN (Ne.symm φ)];exact h.m,by simp[h.vH]⟩
theorem MS.lY(h:MS pm ps P c bs st fr n x M)(φ:pm≠ps)(aT aA:Nat):MS pm ps P c bs aT aA n x (M.set pm (.cells (bG ps P aT aA))):=
 ⟨by simp[h.xu],by rw[gN φ];exact h.s⟩
theorem MS.push(h:MS pm ps P c bs st fr n x M)(D:List θ):MS pm ps P c bs st fr n x (M++D):=
 ⟨by rw[d_ h.xu];exact h.m,by rw[d_ h.vH];exact h.s⟩
theorem MS.put(h:MS pm ps P c bs st fr n x M){i:Nat}(h1:i≠pm)(h2:i≠ps)(b:θ):MS pm ps P c bs st fr n x (M.set i b):=
 ⟨by rw[gN h1];exact h.m,by rw[gN h2];exact h.s⟩
theorem MS.OY(h:MS pm ps P c bs st fr n x M):M.set pm (.cells (bG ps P st fr))=M:=OX h.m
theorem MS.zE(h:MS pm ps P c bs st fr n x M):M.set ps (.cells (aP c bs n x))=M:=OX h.s
theorem BL(h:MS pm ps P c bs st fr n x M)(hb:bs.length<=300)(k:Int)(hn:n<4000000000000000000):
  ∃(x' r:Int) (n':Nat),n<=n'/\n'<=n+1/\0<=r/\(0<k->r<k)/\(k<=0->r=0)/\∀T,kf u 121 [.κ ps 0,.n k] {ε:=M,η:=T}=some (.n r,{ε:=M.set ps (.cells (aP c bs n' x')),η:=T}):=by
 have:=f121 (u:=u) (c:=c) (bs:=bs) (B:=M) (p:=ps) h.vH hb n x k hn;rw[h.zE]at this;exact this
theorem ajn(h:MS pm ps P c bs st fr n x M)(hb:bs.length<=300)(k:Int)(hn:n<4000000000000000000):
  ∃(x':Int) (r:Bool) (n':Nat),n<=n'/\n'<=n+1/\∀T,kf u 153 [.κ ps 0,.n k] {ε:=M,η:=T}=some (.bool r,{ε:=M.set ps (.cells (aP c bs n' x')),η:=T}):=by
 have:=f153 (u:=u) (c:=c) (bs:=bs) (B:=M) (p:=ps) h.vH hb n x k hn;rw[h.zE]at this;exact this
theorem Jh(h:MS pm ps P c bs st fr n x M)(hb:bs.length<=300)(lo hi:Int)(hn:n<4000000000000000000)(h1:0<=lo)(h2:lo<=hi)(h3:hi<1000000000):
  ∃(x' r:Int) (n':Nat),n<=n'/\n'<=n+1/\lo<=r/\r<=hi/\∀T,kf u 119 [.κ ps 0,.n lo,.n hi] {ε:=M,η:=T}=some (.n r,{ε:=M.set ps (.cells (aP c bs n' x')),η:=T}):=by
 have:=f119 (u:=u) (c:=c) (bs:=bs) (B:=M) (p:=ps) h.vH hb n x lo hi hn h1 h2 h3;rw[h.zE]at this;exact this
theorem BK(h:MS pm ps P c bs st fr n x M)(φ:pm≠ps)(dH:fr<4000000000000000000)(f:List Nat)(hf:f.length<=10)(T:List Nat):
  kf u 120 [.κ pm 0,.str f] {ε:=M,η:=T}=some (.str (bV f (fr+1)),{ε:=M.set pm (.cells (bG ps P st (fr+1:Nat))),η:=T}):=by
 have:=f120 (u:=u) (B:=M) h.xu h.vH φ P st fr dH (aP c bs n x) f hf T;rw[h.OY,h.zE,(h.lY φ st (fr+1)).zE]at this;exact this
theorem Jj(h:MS pm ps P c bs st fr n x M)(φ:pm≠ps)(hb:bs.length<=300)(ct:τ)(ts:List (List Nat))(s:Nat)(hs:s<=9)(hn:n+kF s<4000000000000000000):
  ∃(x':Int) (n':Nat) (i:ζ),n<=n'/\n'<=n+kF s/\cZ ts s i/\∀T,kf u 83 [.κ pm 0,.n (s:Int),bw ct ts] {ε:=M,η:=T}=some (i.av,{ε:=M.set ps (.cells (aP c bs n' x')),η:=T}):=by
 obtain⟨x',n',i,h1,h2,h3,q⟩:=f83 (u:=u) (B:=M) h.xu h.vH φ (c:=c) hb (ct.exp 0 false) (Bn ct 0) ts P st fr s hs n x hn;refine⟨x',n',i,h1,h2,h3,fun T=>?_⟩;have:=q T;rw[h.OY,h.zE]at this;rw[<-this];exact Fq (by rfl) (by simp only[ax,aI,CF,uZ,exp]) (by rfl)
def gD(c1 c2 c3 c4:τ)(s:Sc):List AV:=[bw c1 s.aC,bw c2 s.cu,bw c3 s.bits,bw c4 s.turns]
theorem gE.fx{rs ts:List (List Nat)}{p:ρ}(h:gE rs ts p):Dv p.av p.av:=by
 have hl:bL (p.ix.map ζ.av) (p.ix.map ζ.av):=bL.of ζ.av p.ix fun i hi=>(h.lW i hi).fx;have:=Dv.list p.c hl;have hc:p.c.exp 0 false=p.c:=by rw[h.cp];split<;>rfl
 rw[hc]at this;exact .agg (.cons (.str _) (.cons this .nil))
theorem Ji(h:MS pm ps P c bs st fr n x M)(φ:pm≠ps)(hb:bs.length<=300)(c1 c2 c3 c4:τ)(s:Sc)(MY:s.aC≠[])(MW:s.aC.length<1000000000)(hn:n<3000000000000000000):
  ∃(x':Int) (n':Nat) (p:ρ),n<=n'/\n'<=n+72/\gE s.aC s.turns p/\∀T,kf u 184 [.κ pm 0,.agg (gD c1 c2 c3 c4 s)] {ε:=M,η:=T}=some (p.av,{ε:=M.set ps (.cells (aP c bs n' x')),η:=T}):=by
 obtain⟨x',n',p,h1,h2,h3,q⟩:=f184 (u:=u) (B:=M) h.xu h.vH φ (c:=c) hb (c1.exp 0 false) (c4.exp 0 false) (Bn c1 0) (Bn c4 0) s.aC s.turns MY MW (bw (c2.exp 0 false) s.cu) (bw (c3.exp 0 false) s.bits) (W9 _ _ _) (W9 _ _ _) P st fr n x hn;refine⟨x',n',p,h1,h2,h3,fun T=>?_⟩;have:=q T;rw[h.OY,h.zE]at this;rw[<-this];exact Fq (by rfl) (by simp only[gD,ax,aI,CF,uZ,exp,aX]) (by rfl)
end
structure Kt (B:List θ) (pm ps:Nat) (P:AV) (c:τ) (bs:List Nat) (co:τ) (lo st fr n:Nat) (x:Int) (M:List θ):Prop where
 ms:MS pm ps P c bs st fr n x M
 nW:∀i,i<B.length->i≠pm->i≠ps->M[i]?=B[i]?
 len:B.length<=M.length
 row:Go.Δ.Row B.length M 14 66 co lo
section
variable{B:List θ}{pm ps:Nat}{P:AV}{c:τ}{bs:List Nat}{co:τ}{lo st fr n:Nat}{x:Int}{M:List θ}
theorem Kt.of{aT aA n':Nat}{x':Int}{M':List θ}(h:Kt B pm ps P c bs co lo st fr n x M)(ms:MS pm ps P c bs aT aA n' x' M')(hl:M.length<=M'.length)(ho:∀i,i<B.length->i≠pm->i≠ps->M'[i]?=M[i]?)
  (hr:∀(t k:Nat),M[t]?=some (θ.front k 14 66)->M'[t]?=some (θ.front k 14 66)):Kt B pm ps P c bs co lo aT aA n' x' M':=by
 refine⟨ms,fun i h1 h2 h3=>by rw[ho i h1 h2 h3];exact h.nW i h1 h2 h3,uO h.len hl,?_⟩;rcases h.row with h|⟨t,h1,h2,h3⟩
 ·exact .inl h
 ·exact .inr ⟨t,h1,h2,hr t _ h3⟩
theorem Kt.draw(h:Kt B pm ps P c bs co lo st fr n x M)(φ:pm≠ps)(n':Nat)(x':Int):Kt B pm ps P c bs co lo st fr n' x' (M.set ps (.cells (aP c bs n' x'))):=
 h.of (h.ms.draw φ n' x') (by simp) (fun i _ _ h3=>gN (Ne.symm h3)) fun t k ht=>by
  have:ps≠t:=fun e=>by rw[<-e,h.ms.s]at ht;cases ht
  rw[gN this];exact ht
theorem Kt.lY(h:Kt B pm ps P c bs co lo st fr n x M)(φ:pm≠ps)(aT aA:Nat):Kt B pm ps P c bs co lo aT aA n x (M.set pm (.cells (bG ps P aT aA))):=
 h.of (h.ms.lY φ aT aA) (by simp) (fun i _ h2 _=>gN (Ne.symm h2)) fun t k ht=>by
  have:pm≠t:=fun e=>by rw[<-e,h.ms.m]at ht;cases ht
  rw[gN this];exact ht
theorem Kt.push(h:Kt B pm ps P c bs co lo st fr n x M)(D:List θ):Kt B pm ps P c bs co lo st fr n x (M++D):=
 h.of (h.ms.push D) (by simp) (fun i h1 _ _=>d_ (Nat.lt_of_lt_of_le h1 h.len)) fun t k ht=>by rw[d_ (fI.1 ht).1];exact ht
theorem Kt.put(h:Kt B pm ps P c bs co lo st fr n x M)(hm:pm<B.length)(hs:ps<B.length){i:Nat}(hi:B.length<=i)(hf:∀k:Nat,M[i]?≠some (θ.front k 14 66))(b:θ):Kt B pm ps P c bs co lo st fr n x (M.set i b):=
 h.of (h.ms.put (by omega) (by omega) b) (by simp) (fun j h1 _ _=>gN (by omega)) fun t k ht=>by have:i≠t:=fun e=>hf k (by rw[e];exact ht);rw[gN this];exact ht
structure MM (B:List θ) (pm ps:Nat) (P:AV) (c:τ) (bs:List Nat) (co:τ) (lo st fr n:Nat) (x:Int) (q:Nat) (L:List AV) (M:List θ) (T:List Nat):Prop where
 kt:Kt B pm ps P c bs co lo st fr n x M
 q1:B.length<=q
 q2:M[q]?=some (.cells L)
 tt:∀i∈T,B.length<=i
variable{q:Nat}{L:List AV}{T:List Nat}
theorem MM.qB(h:MM B pm ps P c bs co lo st fr n x q L M T):q<M.length:=(fI.1 h.q2).1
theorem MM.draw(h:MM B pm ps P c bs co lo st fr n x q L M T)(hs:ps<B.length)(φ:pm≠ps)(n':Nat)(x':Int):MM B pm ps P c bs co lo st fr n' x' q L (M.set ps (.cells (aP c bs n' x'))) T:=
 ⟨h.kt.draw φ n' x',h.q1,by have:=h.q1;rw[gN (by omega)];exact h.q2,h.tt⟩
theorem MM.lY(h:MM B pm ps P c bs co lo st fr n x q L M T)(hm:pm<B.length)(φ:pm≠ps)(aT aA:Nat):MM B pm ps P c bs co lo aT aA n x q L (M.set pm (.cells (bG ps P aT aA))) T:=
 ⟨h.kt.lY φ aT aA,h.q1,by have:=h.q1;rw[gN (by omega)];exact h.q2,h.tt⟩
theorem MM.push(h:MM B pm ps P c bs co lo st fr n x q L M T)(D:List θ):MM B pm ps P c bs co lo st fr n x q L (M++D) T:=
 ⟨h.kt.push D,h.q1,by rw[d_ h.qB];exact h.q2,h.tt⟩
theorem MM.put(h:MM B pm ps P c bs co lo st fr n x q L M T)(hm:pm<B.length)(hs:ps<B.length){i:Nat}(hi:B.length<=i)(hf:∀k:Nat,M[i]?≠some (θ.front k 14 66))(hq:i≠q)(b:θ):MM B pm ps P c bs co lo st fr n x q L (M.set i b) T:=
 ⟨h.kt.put hm hs hi hf b,h.q1,by rw[gN hq];exact h.q2,h.tt⟩
theorem MM.cell(h:MM B pm ps P c bs co lo st fr n x q L M T)(hm:pm<B.length)(hs:ps<B.length)(L':List AV):MM B pm ps P c bs co lo st fr n x q L' (M.set q (.cells L')) T:=
 ⟨h.kt.put hm hs h.q1 (fun k hk=>by rw[h.q2]at hk;cases hk) _,h.q1,by simp[h.qB],h.tt⟩
theorem MM.EI(h:MM B pm ps P c bs co lo st fr n x q L M T)(b:Bool):MM B pm ps P c bs co lo st fr n x q L M (if b then T else q::T):=
 ⟨h.kt,h.q1,h.q2,by
  cases b with
  |true=>exact h.tt
  |false=>
   intro i hi
   rcases cB.1 hi with rfl|hi
   ·exact h.q1
   ·exact h.tt i hi⟩
end
end Go.Δ.Tz
namespace Go.Δ
theorem xP{n:Nat}{M:List θ}{ag:Bool}{sz bytes:Nat}{e:TypeId}{cp:τ}{pl:List AV}{v:AV}(h:Row n M sz e cp pl.length)(Dn:n<=M.length)(hl:pl.all (shaped ag sz)=true)(hv:shaped ag sz v=true)(hn:ν v=v)
  (hs:0<sz) (hb:(pl.length+1)*bytes<=140737488355328) (aW:pl.length+1<=140737488355328):
  ∃c' M',(∀T,iq {ε:=M,η:=T} ag sz bytes e (.list cp pl) (.list .full [v])=some (.list c' (pl++[v]),{ε:=M',η:=T}))/\Row n M' sz e c' (pl.length+1)/\(∀k,c'.exp k false= .any)/\(M'=M++[.front 1 sz e]\/∃t,n<=t/\M[t]?=some (.front pl.length sz e)/\M'=M.set t (.front (pl.length+1) sz e)):=by
 rcases h with⟨hc,h0⟩|⟨t,rfl,h1,h2⟩
 ·obtain rfl:pl=[]:=List.eq_nil_of_length_eq_zero h0;have q1:bytes<=140737488355328:=by simpa using hb
  refine⟨.own M.length,M++[.front 1 sz e],fun T=>?_,.inr ⟨_,rfl,Dn,by simp⟩,fun _=>rfl,.inl rfl⟩;rcases hc with rfl|rfl<;>simp[iq,hv,hs,Mem.push,Mem.ν,hn,q1]
 ·have ht:t<M.length:=(fI.1 h2).1;refine⟨.own t,M.set t (.front (pl.length+1) sz e),fun T=>?_,.inr ⟨t,rfl,h1,by simp[ht]⟩,fun _=>rfl,.inr ⟨t,h1,h2,rfl⟩⟩;simp only[iq];simp only[akT,hv,akU,Bool.and_self,hl,hs,decide_true,cN,eT,lN,hb,aW,h2,sg,if_true,and_self,ax,aI,Mem.ν,hn,Mem.put]
theorem Row.ba{n:Nat}{M M':List θ}{sz:Nat}{e:TypeId}{c:τ}{k:Nat}(h:Row n M sz e c k)(hr:∀(t k:Nat),M[t]?=some (θ.front k sz e)->M'[t]?=some (θ.front k sz e)):Row n M' sz e c k:=by
 rcases h with h|⟨t,h1,h2,h3⟩
 ·exact .inl h
 ·exact .inr ⟨t,h1,h2,hr t _ h3⟩
theorem vA{α:Type}{l:List α}(h:l.length=4):∃a b c d,l=[a,b,c,d]:=by
 match l,h with
 |[a,b,c,d],_=>exact⟨a,b,c,d,rfl⟩
end Go.Δ
namespace Go.Δ.Tz
open Go.Δ
variable{u:Nat}
theorem Kg(l:List AV):(AV.agg l).cells=l:=rfl
theorem Kk(c:τ)(l:List AV):(AV.list c l).cells=[.list c l]:=rfl
theorem Kl(s:List Nat):(AV.str s).cells=[.str s]:=rfl
theorem Kj(k:IntKind)(n:Int):(AV.int k n).cells=[.int k n]:=rfl
theorem Kh(b:Bool):(AV.bool b).cells=[.bool b]:=rfl
theorem Ki(a b:Nat):(AV.κ a b).cells=[.κ a b]:=rfl
theorem vM(c':τ)(l:List (List Nat)):(bw c' l).cells=[bw c' l]:=rfl
def aS(k g:Int)(nm:List Nat)(P:AV)(X Y:List AV)(b e:AV):List AV:= .n k:: .n g:: .str nm::P::(X++(Y++[b,e]))
def z4:List AV:=[.n 0,.n 0,.str [],.list .nil []]
abbrev ω:AV:= .list .nil []
section
variable{k g:Int}{nm:List Nat}{P:AV}{X Y:List AV}{b e:AV}
theorem gY(hX:X.length=4)(hY:Y.length=4):(aS k g nm P X Y b e).length=14:=by simp[aS,hX,hY]
theorem Zc(g':Int):dk (aS k g nm P X Y b e) 1 [.n g']=aS k g' nm P X Y b e:=rfl
theorem wa(rV:List Nat):dk (aS k g nm P X Y b e) 2 [.str rV]=aS k g rV P X Y b e:=rfl
theorem Fk(P':AV):dk (aS k g nm P X Y b e) 3 [P']=aS k g nm P' X Y b e:=rfl
theorem Kf(hX:X.length=4){X':List AV}(hX':X'.length=4):dk (aS k g nm P X Y b e) 4 X'=aS k g nm P X' Y b e:=by obtain⟨a1,a2,a3,a4,rfl⟩:=vA hX;obtain⟨d1,d2,d3,d4,rfl⟩:=vA hX';rfl
theorem Ze(hX:X.length=4)(hY:Y.length=4){Y':List AV}(hY':Y'.length=4):dk (aS k g nm P X Y b e) 8 Y'=aS k g nm P X Y' b e:=by obtain⟨a1,a2,a3,a4,rfl⟩:=vA hX;obtain⟨c1,c2,c3,c4,rfl⟩:=vA hY;obtain⟨d1,d2,d3,d4,rfl⟩:=vA hY';rfl
theorem Re(hX:X.length=4)(hY:Y.length=4)(b':AV):dk (aS k g nm P X Y b e) 12 [b']=aS k g nm P X Y b' e:=by obtain⟨a1,a2,a3,a4,rfl⟩:=vA hX;obtain⟨c1,c2,c3,c4,rfl⟩:=vA hY;rfl
theorem Zd(hX:X.length=4)(hY:Y.length=4)(e':AV):dk (aS k g nm P X Y b e) 13 [e']=aS k g nm P X Y b e':=by obtain⟨a1,a2,a3,a4,rfl⟩:=vA hX;obtain⟨c1,c2,c3,c4,rfl⟩:=vA hY;rfl
theorem Zf:(aS k g nm P X Y b e).tail.take 1=[.n g]:=rfl
theorem Co:(akR 2 (aS k g nm P X Y b e)).take 1=[.str nm]:=rfl
theorem Rf:(akR 3 (aS k g nm P X Y b e)).take 1=[P]:=rfl
end
section
variable{B:List θ}{pm ps:Nat}{P:AV}{c:τ}{bs:List Nat}{co:τ}{lo st fr n:Nat}{x:Int}{M:List θ}{q:Nat}{L:List AV}{T:List Nat}
theorem MM.grow(h:MM B pm ps P c bs co lo st fr n x q L M T)(hm:pm<B.length)(hs:ps<B.length){sz:Nat}{e:TypeId}(ud:¬(sz=14/\e=66)){M':List θ}{len:Nat}
  (hM:M'=M++[.front 1 sz e]\/∃t,B.length<=t/\M[t]?=some (.front len sz e)/\M'=M.set t (.front (len+1) sz e)):MM B pm ps P c bs co lo st fr n x q L M' T:=by
 rcases hM with rfl|⟨t,h1,h2,rfl⟩
 ·exact h.push _
 ·refine h.put hm hs h1 (fun k hk=>?_) (fun hq=>?_) _
  ·rw[h2]at hk;cases hk;exact ud ⟨rfl,rfl⟩
  ·rw[hq,h.q2]at h2;cases h2
theorem w29(c:τ)(l:List (List Nat))(hl:l.length<1000000000)(hc:c= .nil->l=[])(N:Nat)(hN:N<=M.length):
  ∃c' M',(∀T,kf u 29 [bw c l] {ε:=M,η:=T}=some (bw c' l,{ε:=M',η:=T}))/\Go.Δ.Row N M' 1 9 c' l.length/\(M'=M\/M'=M++[.front l.length 1 9]):=by
 by_cases my:c= .nil
 ·subst my;obtain rfl:=hc rfl;exact⟨.nil,M,fun T=>aak _,Go.Δ.Row.nil,.inl rfl⟩
 ·have yx:∀n,c.exp n true≠ .nil:=fun n=>by
   cases c with
   |nil=>exact absurd rfl my
   |own t=>by_cases h:t<n<;>simp[τ.exp,h]
   |_=>simp[τ.exp]
  have rG:∀n (L:List AV),isNil .slice (.list (c.exp n true) L)=some false:=fun n L=>by have:=yx n;cases h:c.exp n true<;>first|exact absurd h this|rfl
  have ve:∀n,([bw c l]++[]).map (exp n true)=[.list (c.exp n true) (l.map AV.str)]:=fun n=>by
   have:aX n true (l.map AV.str)=l.map AV.str:=by rw[ft,cT];rfl
   simp[bw,exp,this]
  cases l with
  |nil=>
   refine⟨.full,M,fun T=>?_,Go.Δ.Row.full,.inl rfl⟩
   have:∃s',exec (C u).gl (ab (C u)) dP pB.code {env:=([bw c []]++[]).map (exp M.length true),loc:=[],mem:= {ε:=M,η:=[]}}=some (.ret,s')/\s'.mem= {ε:=M,η:=[]}/\cF s' pB.results=some [.list .full []]:=by rw[ve];simp[pB,Fb,rG,exec,ef,dR,e_,aJ,dF,fE,eR,br,fM,cF,RV.get,iq]
   obtain⟨s',q1,q2,q3⟩:=this;unfold kf;rw[sv (g:=pB) (ex:= .ret) rfl rfl rfl q1 (by simp) q3,q2];simp[cK,exp,aX,τ.exp,bw]
  |cons a l=>
   have h1:=I8 (a::l)
   have h2:=fun T=>W7 {ε:=M,η:=T} (a::l);have eu:∀cc,iq {ε:=M,η:=[]} false 1 16 9 (.list .full []) (.list cc ((a::l).map AV.str))=some (.list (.own M.length) ((a::l).map AV.str),{ε:=M++[.front (l.length+1) 1 9],η:=[]}):=by
    intro cc;have e1:(l.length+1)*16<=140737488355328:=by simp at hl;omega
    have e2:l.length+1<=140737488355328:=by simp at hl;omega
    have h2:=h2 [];simp only[ax]at h1 h2;simp only[iq,ax,h1,cN,cz,eT,lN,e1,e2,decide_true,akV,Mem.push,sg,akU,bB,h2];rfl
   refine⟨.own M.length,M++[.front (l.length+1) 1 9],fun T=>?_,.inr ⟨_,rfl,hN,by simp⟩,.inr rfl⟩;have:∃s',exec (C u).gl (ab (C u)) dP pB.code {env:=([bw c (a::l)]++[]).map (exp M.length true),loc:=[],mem:= {ε:=M,η:=[]}}=some (.ret,s')/\s'.mem= {ε:=M++[.front (l.length+1) 1 9],η:=[]}/\cF s' pB.results=some [.list (.own M.length) ((a::l).map .str)]:=by rw[ve];simp only[ax]at eu;simp[pB,Fb,rG,eu,exec,ef,dR,e_,aJ,dF,fE,eR,br,fM,cF,RV.get]
   obtain⟨s',q1,q2,q3⟩:=this;unfold kf;rw[sv (g:=pB) (ex:= .ret) rfl rfl rfl q1 (by simp) q3,q2];have:aX (M.length+1) true ((a::l).map AV.str)=(a::l).map AV.str:=by rw[ft];exact(dh fun x hx=>by obtain⟨s,-,rfl⟩:=fb.1 hx;rfl).trans (List.map_id _)
   simp only[ax]at this;simp[cK,exp,this,τ.exp,bw]
theorem ajo(c:τ)(l:List (List Nat))(hl:l.length<1000000000)(hc:c= .nil->l=[]):
  (l=[]/\∃c',∀T,ab (C u) (.fn (.methodOf 29 "") [] []) [bw c l] {ε:=M,η:=T}=some (.list c' [],{ε:=M,η:=T}))∨
  (l≠[]/\∀T,ab (C u) (.fn (.methodOf 29 "") [] []) [bw c l] {ε:=M,η:=T}=some (.sl 0 M.length 0 l.length l.length,{ε:=M++[.cells (l.map AV.str)],η:=T})):=by
 by_cases my:c= .nil
 ·subst my;obtain rfl:=hc rfl;exact .inl ⟨rfl,.nil,fun T=>aal _⟩
 ·have yx:∀n,c.exp n true≠ .nil:=fun n=>by
   cases c with
   |nil=>exact absurd rfl my
   |own t=>by_cases h:t<n<;>simp[τ.exp,h]
   |_=>simp[τ.exp]
  have rG:∀n (L:List AV),isNil .slice (.list (c.exp n true) L)=some false:=fun n L=>by have:=yx n;cases h:c.exp n true<;>first|exact absurd h this|rfl
  have ve:∀n,[bw c l].map (exp n true)=[.list (c.exp n true) (l.map AV.str)]:=fun n=>by
   have:aX n true (l.map AV.str)=l.map AV.str:=by rw[ft,cT];rfl
   simp[bw,exp,this]
  cases l with
  |nil=>
   refine .inl ⟨rfl,.full,fun T=>?_⟩
   have:∃s',exec (C u).gl (ab (C u)) dP pC.code {env:=[bw c []].map (exp M.length true),loc:=[],mem:= {ε:=M,η:=[]}}=some (.ret,s')/\s'.mem= {ε:=M,η:=[]}/\cF s' pC.results=some [.list .full []]:=by rw[ve];simp[pC,Fh,rG,exec,ef,dR,e_,aJ,dF,fE,eR,br,fM,cF,RV.get,vZ]
   obtain⟨s',q1,q2,q3⟩:=this;rw[Ka (g:=pC) (ex:= .ret) (by rfl) q1 (by simp) q3,q2];simp[cK,exp,aX,τ.exp]
  |cons a l=>
   have h1:=I8 (a::l)
   have h2:=fun T=>W7 {ε:=M,η:=T} (a::l);have h3:=ai3 (a::l);have eu:∀cc,vZ {ε:=M,η:=[]} false 1 16 (.list .full []) (.list cc ((a::l).map AV.str))=some (.sl 0 M.length 0 (l.length+1) (l.length+1),{ε:=M++[.cells ((a::l).map AV.str)],η:=[]}):=by
    intro cc;have e1:(l.length+1)*16<=140737488355328:=by simp at hl;omega
    have e2:l.length+1<=140737488355328:=by simp at hl;omega
    simp only[ax]at h1 h2 h3;simp only[vZ,ax,h1,h3,cN,cz,e1,e2,decide_true,akV,Mem.push,sg];simp[Mem.ν,ν]
   refine .inr ⟨by simp,fun T=>?_⟩;have:∃s',exec (C u).gl (ab (C u)) dP pC.code {env:=[bw c (a::l)].map (exp M.length true),loc:=[],mem:= {ε:=M,η:=[]}}=some (.ret,s')/\s'.mem= {ε:=M++[.cells ((a::l).map AV.str)],η:=[]}/\cF s' pC.results=some [.sl 0 M.length 0 (l.length+1) (l.length+1)]:=by rw[ve];simp only[ax]at eu;simp[pC,Fh,rG,eu,exec,ef,dR,e_,aJ,dF,fE,eR,br,fM,cF,RV.get]
   obtain⟨s',q1,q2,q3⟩:=this;rw[Ka (g:=pC) (by rfl) q1 (by simp) q3,q2];simp[cK,exp]
theorem SG(c:τ)(l:List (List Nat))(hl:l.length<1000000000)(hc:c= .nil->l=[]){q:Nat}{a b:AV}{nm:List Nat}{rest:List AV}(hq:M[q]?=some (.cells (a::b:: .str nm::rest))):
  ∃v M1 w M2 c' M3,(∀T,ab (C u) (.fn (.methodOf 29 "") [] []) [bw c l] {ε:=M,η:=T}=some (v,{ε:=M1,η:=T}))/\(∀T,kf u 186 [v,.fn (.func 185) [] [.κ q 0]] {ε:=M1,η:=T}=some (w,{ε:=M2,η:=T}))/\(∀T,fz {ε:=M2,η:=T} w=some (bw c' (gT nm l),{ε:=M3,η:=T}))∧
   (c'= .nil->gT nm l=[])/\(M3=M\/M3=M++[.dead]):=by
 have Uv:q<M.length:=(fI.1 hq).1;rcases ajo (u:=u) (M:=M) c l hl hc with⟨rfl,c1,q1⟩|⟨φ,q1⟩
 ·exact⟨_,M,_,M,_,M,q1,aah (u:=u) Uv c1,fun T=>rfl,fun _=>rfl,.inl rfl⟩
 ·have vn:(M++[.cells (l.map AV.str)])[q]?=some (.cells (a::b:: .str nm::rest)):=by rw[d_ Uv];exact hq
  have hid:(M++[.cells (l.map AV.str)])[M.length]?=some (.cells (l.map AV.str)):=by simp
  obtain⟨D,S9,Hg,q2⟩:=f186 (u:=u) (id:=M.length) (by omega) vn l hl l.length hid;refine⟨_,_,_,_,.any,M++[.dead],q1,q2,fun T=>?_,fun h=>(by cases h),.inr rfl⟩;have rJ:((D.drop 0).take (gT nm l).length).all AV.one=true:=by rw[BV,Hg];exact W8 _
  have hk:(gT nm l).length<=l.length:=List.length_filter_le _ _;have hkD:0+(gT nm l).length*Nat.max 0 1<=D.length/\((0:Nat)=0->((D.drop 0).take (gT nm l).length).all AV.one=true):=⟨by show 0+(gT nm l).length*1<=D.length;omega,fun _=>rJ⟩;have lB:(M++[θ.cells (l.map AV.str)]).set M.length (.cells D)=M++[.cells D]:=by rw[xI _ _ (b_ _)];simp
  have oK:(M++[θ.cells D])[M.length]?=some (.cells D):=by simp
  have ab2:(M++[θ.cells D]).set M.length .dead=M++[.dead]:=by rw[xI _ _ (b_ _)];simp
  have abu:(gT nm l).length<=D.length:=by omega
  have abO:=dL.1 rJ;rw[BV]at abO;simp only[fz,lB,oK,Mem.put,ab2,bw,BV,Hg];simp[abu,W8,AV.one]
end
def SS(pm:Nat)(d r i:Int)(c1 c2 c3 c4:τ)(s:Sc)(co:τ)(out:List AV)(σ:St):Prop:=
 σ.e 0= .κ pm 0/\σ.e 1= .n d/\σ.e 5= .ak 5 0 0/\σ.q 5=some (0,.cells (gD c1 c2 c3 c4 s))/\σ.e 7= .list co out/\σ.e 18= .n r/\σ.e 19= .n i
def SI(k:Int)(q v:Nat)(e1 e2 e3 e4:τ)(s':Sc)(σ:St):Prop:=
 σ.e 8= .n k/\σ.e 9= .κ q 0/\σ.e 10= .ak 10 v 0/\σ.q 10=some (v,.cells (gD e1 e2 e3 e4 s'))
theorem SS.set{pm:Nat}{d r i:Int}{c1 c2 c3 c4:τ}{s:Sc}{co:τ}{out:List AV}{σ:St}(h:SS pm d r i c1 c2 c3 c4 s co out σ){j:Nat}(hj:20<=j)(v:AV):SS pm d r i c1 c2 c3 c4 s co out {σ with env:=mL σ.env j v}:=by
 have a0:j≠0:=by omega
 have a1:j≠1:=by omega
 have a2:j≠5:=by omega
 have a3:j≠7:=by omega
 have a4:j≠18:=by omega
 have a5:j≠19:=by omega
 simpa[SS,fM,a0,a1,a2,a3,a4,a5]using h
theorem SI.set{k:Int}{q w:Nat}{e1 e2 e3 e4:τ}{s':Sc}{σ:St}(h:SI k q w e1 e2 e3 e4 s' σ){j:Nat}(hj:20<=j)(v:AV):SI k q w e1 e2 e3 e4 s' {σ with env:=mL σ.env j v}:=by
 have a0:j≠8:=by omega
 have a1:j≠9:=by omega
 have a2:j≠10:=by omega
 simpa[SI,fM,a0,a1,a2]using h
def BI(t:Nat):List (Nat×Nat×Int×AC)->AC->AC
 |[],e=>e
 |(a,w,j,x)::l,e=> .seq (.ops [⟨some a,.bin .eql (.t t) (.c (.int .i64 j)),none⟩,⟨some w,.mv (.t a),none⟩]) (.cond (.t w) x (BI t l e))
def swp(k:Int):List (Nat×Nat×Int×AC)->AC->AC
 |[],e=>e
 |(_,_,j,x)::l,e=>if k=j then x else swp k l e
theorem μ.BI{gl:Nat->AV}{c:cg}{K:St->Prop}{t:Nat}{k:Int}{Q:Ex×St->Prop}(hK:∀σ j v,20<=j->K σ->K {σ with env:=mL σ.env j v}):
  ∀(l:List (Nat×Nat×Int×AC)) (e:AC) (σ:St),(l.all fun x=>decide (20<=x.1/\20<=x.2.1/\x.1≠t/\x.2.1≠t))=true->K σ->br σ.env t= .n k->(∀σ',K σ'->μ gl c (swp k l e) σ' Q)->μ gl c (BI t l e) σ Q
 |[],e,σ,_,hσ,_,h=>h σ hσ
 |(a,w,j,x)::l,e,σ,hl,hσ,ht,h=>by
  simp only[akT,Bool.and_eq_true,decide_eq_true_eq]at hl;obtain⟨⟨h1,h2,h3,h4⟩,hl⟩:=hl;let σ1:St:= {σ with env:=mL σ.env a (.bool (k==j))};let σ2:St:= {σ1 with env:=mL σ1.env w (.bool (k==j))};have hr:exec gl c dP (.ops [⟨some a,.bin .eql (.t t) (.c (.n j)),none⟩,⟨some w,.mv (.t a),none⟩]) σ=some (.normal,σ2):=by simp[exec,ef,dR,e_,aJ,dF,ht,iS,jm,fE,eR,fM,σ1,σ2]
  have k2:K σ2:=hK σ1 w _ h2 (hK σ a _ h1 hσ);have t2:br σ2.env t= .n k:=by simp[σ2,σ1,fM,h3,h4,ht]
  have w2:br σ2.env w= .bool (k==j):=by simp[σ2,fM]
  refine μ.go hr ?_;by_cases vh:k=j
  ·have:swp k ((a,w,j,x)::l) e=x:=if_pos vh;rw[this]at h;exact μ.yes (by rw[dF,w2,vh];simp) (h σ2 k2)
  ·have:swp k ((a,w,j,x)::l) e=swp k l e:=if_neg vh;rw[this]at h;exact μ.no (by rw[dF,w2];simpa using vh) (μ.BI hK l e σ2 hl k2 t2 h)
end Go.Δ.Tz
