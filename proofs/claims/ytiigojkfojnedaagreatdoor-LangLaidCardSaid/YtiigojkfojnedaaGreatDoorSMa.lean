import Derived.Test.YtiigojkfojnedaaGreatDoorSKu
set_option linter.all false
set_option maxRecDepth 100000
set_option maxHeartbeats 8000000
open Go.IntKind renaming wrap->bC
open Bool renaming false_eq_true->jV,and_eq_true->ej,true_and->rr,and_true->al6
open Int renaming fdiv_eq_ediv_of_nonneg->alT,tmod_eq_emod_of_nonneg->J7,natCast_add->alV,cast_ofNat_Int->wF
open Nat renaming le_refl->bS,mod_lt->mC,le_trans->va,one_le_two_pow->alX,pow_succ->alY,le_succ->Ay,add_zero->qu,zero_add->lF
open List renaming getElem?_eq_getElem->dn,getElem?_map->lB,all_eq_true->dO,set_comm->alU,length->lC,nil_append->bE,append_nil->dF,getElem?_set_ne->gR,take_of_length_le->fo,length_map->cg,mem_of_getElem?->alW,map_cons->az,map_nil->aJ,set_append_left->nr,length_nil->eO,length_set->nq,cons_append->cG,length_cons->cD,mem_append->dT,mem_singleton->fU,mem_append_left->At,mem_filter->Au,getElem_cons_zero->kJ,getElem_cons_succ->pF,findIdx?_append->alZ,map_append->kr,append_assoc->bO,findIdx?_eq_none_iff->wG,mem_cons->cy,mem_map->eP,length_append->cI,map_map->cT,findIdx?_eq_some_iff_getElem->tU,getElem?_eq_some_iff->fB,drop_eq_getElem_cons->nk,getElem_of_mem->u_,map_congr_left->de,drop_drop->oL,map_drop->al0,take_append->al1,drop->al2,map_take->al3,take_length->pH,all_cons->al4,getElem?_append_left->ek,all_nil->al5,drop_zero->Cq,set_append_right->yl
open List.cons renaming injEq->u9
open Prod.mk renaming injEq->aA
namespace Go.Θ.Tz
open Go.Θ
variable{u:Nat}
attribute [local simp] exec dY dP eX aI dw fA eN aK fL bQ iu iE iM jd lG AV.cells newVar iX rd wr gT single dk cE e_ ew κ cK RV.get cL fT kz
theorem wrap_u32(n:Int):0<=bC .u32 n/\bC .u32 n<4294967296:=by show 0<=(if(false&&decide (n % 4294967296≥2147483648))=true then n % 4294967296-4294967296 else n % 4294967296)/\(if(false&&decide (n % 4294967296≥2147483648))=true then n % 4294967296-4294967296 else n % 4294967296)<4294967296;simp only[Bool.false_and,jV,if_false];omega
def gn(c:ρ)(bs:List Nat):AV:= .list c (bs.map fun b:Nat=> .int .u8 (b:Int))
def aG(c:ρ)(bs:List Nat)(n:Nat)(x:Int):List AV:=[gn c bs,.n n,.int .u32 x]
theorem f182{c:ρ}{bs:List Nat}{B:List θ}{p:Nat}(hp:p<B.length)(hb:bs.length<=300)(n:Nat)(x:Int)(hn:n<4000000000000000000):
  ∃(x' r:Int) (n':Nat),n<=n'/\n'<=n+1/\0<=r/\r<4294967296/\∀T,kf u 182 [.μ p 0] {ε:=B.set p (.cells (aG c bs n x)),η:=T}=some (.int .u32 r,{ε:=B.set p (.cells (aG c bs n' x')),η:=T}):=by
 have hg:∀cs,(B.set p (θ.cells cs))[p]?=some (.cells cs):=fun cs=>by simp[hp]
 have hr:κ (C u).gl (ab (C u)) c182 {env:=[.μ p 0],loc:=[],mem:= {ε:=B.set p (.cells (aG c bs n x)),η:=[]}} fun q=>(∀i,q.1≠ .exit i)/\∃(x' r:Int) (n':Nat),n<=n'/\n'<=n+1/\0<=r/\r<4294967296/\q.2.mem= {ε:=B.set p (.cells (aG c bs n' x')),η:=[]}/\aK q.2.env 2= .int .u32 r:=by
  let M:St->Prop:=fun st=>st.e 0= .μ p 0/\∃x:Int,(0<=x/\x<4294967296)/\st.mem= {ε:=B.set p (.cells (aG c bs n x)),η:=[]};unfold c182;refine Δ (fun st=>st.e 0= .μ p 0/\st.mem= {ε:=B.set p (.cells (aG c bs n x)),η:=[]}) (by simp) fun s1 ⟨h1,h2⟩=>?_;refine Δ (M) (by
   simp[M,h1,h2,hg,aG,Mem.put,Mem.ν,ν,ba,lo]
   exact⟨_,wrap_u32 _,rfl⟩) fun s1 ⟨h1,x,hx,h2⟩=>?_
  refine Δ (M) (by
   simp[M,h1,h2,hg,aG,Mem.put,Mem.ν,ν,ba,lo]
   exact⟨_,wrap_u32 _,rfl⟩) fun s1 ⟨h1,x,hx,h2⟩=>?_
  refine Δ (M) (by
   simp[M,h1,h2,hg,aG,Mem.put,Mem.ν,ν,ba,lo]
   exact⟨_,wrap_u32 _,rfl⟩) fun s1 ⟨h1,x,hx,h2⟩=>?_
  refine Δ (fun st=>(st.e 0= .μ p 0/\st.mem= {ε:=B.set p (.cells (aG c bs n x)),η:=[]})/\st.e 3= .int .u32 (x.fdiv 8)) (by
   simp[h1,h2,hg,aG]
   rfl) fun s1 ⟨⟨h1,h2⟩,h3⟩=>?_
  have Vt:0<=x.fdiv 8/\x.fdiv 8<4294967296:=by rw[alT _ (by omega)];omega
  refine bJ (fun st=>∃(x' r:Int) (n':Nat),n<=n'/\n'<=n+1/\0<=r/\r<4294967296/\st.mem= {ε:=B.set p (.cells (aG c bs n' x')),η:=[]}/\st.e 3= .int .u32 r) ?_ fun s2 ⟨x',r,n',q1,q2,q3,q4,q5,q6⟩=>?_
  ·by_cases gL:bs.length=0
   ·refine κ.done .normal (fun st=>st.mem= {ε:=B.set p (.cells (aG c bs n x)),η:=[]}/\st.e 3= .int .u32 (x.fdiv 8)) (by simp[h1,h2,h3,hg,aG,gn,gL]) fun s' ⟨e2,e3⟩=> .inl ⟨rfl,x,x.fdiv 8,n,bS _,by omega,Vt.1,Vt.2,e2,e3⟩
   ·have dy:(0:Int)<bs.length:=by omega
    have Uy:¬(bs.length:Int)=0:=by omega
    have eC:bs≠[]:=fun h=>gL (by rw[h];rfl);obtain⟨k,hk⟩:∃k:Nat,k=n % bs.length:=⟨_,rfl⟩;have ψ:k<bs.length:=by rw[hk];exact mC _ (by omega)
    have U6:(n:Int).tmod bs.length=(k:Int):=by rw[J7 (by omega),hk];simp
    have Bx:(k:Int)<bs.length:=by omega
    obtain⟨b,rS⟩:∃b,bs[k]?=some b:=⟨_,dn ψ⟩;have ma:(bs.map fun b:Nat=>AV.int .u8 (b:Int))[k]?=some (.int .u8 b):=by rw[lB,rS];rfl
    have kB:bC .i64 ((n:Int)+1)=(n:Int)+1:=wrap_i64 (by omega) (by omega);refine Δ (fun st=>((st.e 0= .μ p 0/\st.mem= {ε:=B.set p (.cells (aG c bs n x)),η:=[]})/\st.e 3= .int .u32 (x.fdiv 8))/\st.e 50= .bool true) (by simp[h1,h2,h3,hg,aG,gn,dy,Nat.pos_of_ne_zero gL]) fun s2 ⟨⟨⟨h1,h2⟩,h3⟩,h4⟩=>?_;refine κ.yes (by simp[h4]) ?_;refine Δ (fun st=>(st.e 0= .μ p 0/\st.mem= {ε:=B.set p (.cells (aG c bs n x)),η:=[]})/\∃r:Int,(0<=r/\r<4294967296)/\st.e 3= .int .u32 r) (by
     simp[h1,h2,h3,hg,aG,gn,Uy,eC,U6,Bx,ma]
     exact wrap_u32 _) fun s2 ⟨⟨h1,h2⟩,r,hr,h3⟩=>?_
    refine Δ (fun st=>(st.e 0= .μ p 0/\∃x:Int,st.mem= {ε:=B.set p (.cells (aG c bs n x)),η:=[]})/\st.e 3= .int .u32 r) (by
     simp[h1,h2,h3,hg,aG,gn,Uy,eC,U6,Bx,ma,Mem.put,Mem.ν,ν,ba,lo]
     exact⟨_,rfl⟩) fun s2 ⟨⟨h1,x2,h2⟩,h3⟩=>?_
    refine κ.done .normal (fun st=>st.mem= {ε:=B.set p (.cells (aG c bs (n+1) x2)),η:=[]}/\st.e 3= .int .u32 r) (by simp[h1,h2,h3,hg,aG,gn,kB,Mem.put,Mem.ν,ν,ba,lo]) fun s' ⟨e2,e3⟩=> .inl ⟨rfl,x2,r,n+1,by omega,bS _,hr.1,hr.2,e2,e3⟩
  ·refine κ.done .ret (fun st=>st.mem= {ε:=B.set p (.cells (aG c bs n' x')),η:=[]}/\st.e 2= .int .u32 r) (by simp[q5,q6]) fun s' ⟨m1,m2⟩=>⟨by simp,x',r,n',q1,q2,q3,q4,m1,m2⟩
 obtain⟨q,hx,h1,x',r,n',q1,q2,q3,q4,h2,h3⟩:=hr;exact⟨x',r,n',q1,q2,q3,q4,fun T=>po (g:=GO) rfl rfl rfl hp rfl ⟨q,hx,h1,⟨[],by simp[h2]⟩,[.int .u32 r],by simp[GO,h3],rfl⟩ T⟩
theorem f121{c:ρ}{bs:List Nat}{B:List θ}{p:Nat}(hp:p<B.length)(hb:bs.length<=300)(n:Nat)(x k:Int)(hn:n<4000000000000000000):
  ∃(x' r:Int) (n':Nat),n<=n'/\n'<=n+1/\0<=r/\(0<k->r<k)/\(k<=0->r=0)/\∀T,kf u 121 [.μ p 0,.n k] {ε:=B.set p (.cells (aG c bs n x)),η:=T}=some (.n r,{ε:=B.set p (.cells (aG c bs n' x')),η:=T}):=by
 by_cases hk:k<=0
 ·refine⟨x,0,n,bS _,by omega,Int.le_refl _,fun h=>by omega,fun _=>rfl,fun T=>po (g:=A6) rfl rfl rfl hp (by simp[exp]) ?_ T⟩;simp[A6,KE,hk]
 ·obtain⟨x',r,n',q1,q2,q3,q4,q5⟩:=f182 (u:=u) (c:=c) (bs:=bs) hp hb n x hn;have hr:0<=r.fdiv 16/\r.fdiv 16<4294967296:=by rw[alT _ (by omega)];omega
  have hw:bC .i64 (r.fdiv 16)=r.fdiv 16:=wrap_i64 (by omega) (by omega);have o8:¬k=0:=by omega
  have ht:0<=(r.fdiv 16).tmod k/\(r.fdiv 16).tmod k<k:=by rw[J7 hr.1];exact⟨Int.emod_nonneg _ o8,Int.emod_lt_of_pos _ (by omega)⟩
  refine⟨x',(r.fdiv 16).tmod k,n',q1,q2,ht.1,fun _=>ht.2,fun h=>absurd h hk,fun T=>po (g:=A6) rfl rfl rfl hp (by simp[exp]) ?_ T⟩;have hm:(r.fdiv (2^Nat.min 4 IntKind.u32.bits):Int)=r.fdiv 16:=rfl;simp[A6,KE,hk,q5,o8,hw,hm]
theorem f153{c:ρ}{bs:List Nat}{B:List θ}{p:Nat}(hp:p<B.length)(hb:bs.length<=300)(n:Nat)(x k:Int)(hn:n<4000000000000000000):
  ∃(x':Int) (r:Bool) (n':Nat),n<=n'/\n'<=n+1/\∀T,kf u 153 [.μ p 0,.n k] {ε:=B.set p (.cells (aG c bs n x)),η:=T}=some (.bool r,{ε:=B.set p (.cells (aG c bs n' x')),η:=T}):=by
 obtain⟨x',r,n',q1,q2,-,-,-,q5⟩:=f121 (u:=u) (c:=c) (bs:=bs) hp hb n x k hn;refine⟨x',r==0,n',q1,q2,fun T=>po (g:=GG) rfl rfl rfl hp (by simp[exp]) ?_ T⟩;simp[GG,Q4,q5]
theorem f119{c:ρ}{bs:List Nat}{B:List θ}{p:Nat}(hp:p<B.length)(hb:bs.length<=300)(n:Nat)(x lo hi:Int)(hn:n<4000000000000000000)(h1:0<=lo)(h2:lo<=hi)(h3:hi<1000000000):
  ∃(x' r:Int) (n':Nat),n<=n'/\n'<=n+1/\lo<=r/\r<=hi/\∀T,kf u 119 [.μ p 0,.n lo,.n hi] {ε:=B.set p (.cells (aG c bs n x)),η:=T}=some (.n r,{ε:=B.set p (.cells (aG c bs n' x')),η:=T}):=by
 obtain⟨x',r,n',q1,q2,q3,q4,-,q5⟩:=f121 (u:=u) (c:=c) (bs:=bs) hp hb n x (hi-lo+1) hn;have q4:=q4 (by omega);have e1:bC .i64 (hi-lo)=hi-lo:=wrap_i64 (by omega) (by omega);have e2:bC .i64 (hi-lo+1)=hi-lo+1:=wrap_i64 (by omega) (by omega);have e3:bC .i64 (lo+r)=lo+r:=wrap_i64 (by omega) (by omega);refine⟨x',lo+r,n',q1,q2,by omega,by omega,fun T=>po (g:=Gv) rfl rfl rfl hp (by simp[exp]) ?_ T⟩;simp[Gv,c119,e1,e2,e3,q5]
attribute [local simp] rO
def bH(ps:Nat)(P:AV)(st:Int)(fr:Nat):List AV:=[.μ ps 0,P,.n st,.n fr]
theorem aa6:((List.range 128).all fun k=>decide ((Utf8.encode (k:Int)).data.toList.map UInt8.toNat=[k]))=true:=by kernel_rfl
theorem SV(k:Nat)(h:k<128):(Utf8.encode (k:Int)).data.toList.map UInt8.toNat=[k]:=by have:=dO.1 aa6 k (List.mem_range.2 h);simpa using this
def bR(f:List Nat)(k:Nat):List Nat:=f++[118,97+k/26 % 26,97+k % 26]
theorem wrap_i32{n:Int}(h1:0<=n)(h2:n<2147483648):bC .i32 n=n:=by
 show(if(true&&decide (n % 4294967296≥2147483648))=true then n % 4294967296-4294967296 else n % 4294967296)=n;have:¬(n % 4294967296≥2147483648):=by omega
 simp only[this,decide_false,Bool.and_false,jV,if_false];omega
section
variable{B:List θ}{pm ps:Nat}(hm:pm<B.length)(hs:ps<B.length)(φ:pm≠ps)
include hm hs φ
theorem f120(P:AV)(st:Int)(fr:Nat)(dK:fr<4000000000000000000)(S:List AV)(f:List Nat)(hf:f.length<=10)(T:List Nat):
  kf u 120 [.μ pm 0,.str f] {ε:=(B.set pm (.cells (bH ps P st fr))).set ps (.cells S),η:=T}=some (.str (bR f (fr+1)),{ε:=(B.set pm (.cells (bH ps P st (fr+1)))).set ps (.cells S),η:=T}):=by
 rw[alU _ _ φ,alU _ _ φ];have hg:∀cs,((B.set ps (.cells S)).set pm (θ.cells cs))[pm]?=some (.cells cs):=fun cs=>by simp[hm]
 refine po (g:=Gw) rfl rfl rfl (by simpa using hm) (by simp[exp]) ?_ T;generalize B.set ps (.cells S)=B2 at*;have e1:bC .i64 ((fr:Int)+1)=((fr+1:Nat):Int):=by rw[wrap_i64 (by omega) (by omega)];simp
 simp only[Gw,QX,bH];refine Δ (fun aV=>aV.e 0= .μ pm 0/\aV.e 1= .str f/\aV.mem= {ε:=B2.set pm (.cells [.μ ps 0,P,.n st,.n fr]),η:=[]}) (by simp) fun s1 ⟨h1,h2,h3⟩=>?_;refine Δ (fun aV=>aV.e 0= .μ pm 0/\aV.e 1= .str f/\aV.mem= {ε:=B2.set pm (.cells [.μ ps 0,P,.n st,.n ((fr+1:Nat):Int)]),η:=[]}) (by simp only[alV,wF]at e1⊢;simp[h1,h2,h3,hg,e1,Mem.put,Mem.ν,ν,ba,lo]) fun s1 ⟨h1,h2,h3⟩=>?_;obtain⟨k,hk⟩:∃k,k=fr+1:=⟨_,rfl⟩;rw[<-hk]at h3⊢;have gE:k<4000000000000000001:=by omega
 obtain⟨a,ha⟩:∃a,a=k/26 % 26:=⟨_,rfl⟩;obtain⟨b,hb⟩:∃b,b=k % 26:=⟨_,rfl⟩;have q1:bC .i64 ((k:Int).tdiv 26)=((k/26:Nat):Int):=by
  have:(k:Int).tdiv 26=((k/26:Nat):Int):=by rw[Int.tdiv_eq_ediv_of_nonneg (by omega)];simp
  rw[this,wrap_i64 (by omega) (by omega)]
 have q1':bC .i64 ((k:Int)/26)=((k/26:Nat):Int):=by rw[show(k:Int)/26=((k/26:Nat):Int) by simp,wrap_i64 (by omega) (by omega)]
 have q2:((k/26:Nat):Int).tmod 26=(a:Int):=by rw[J7 (by omega),ha];simp
 have q3:(k:Int).tmod 26=(b:Int):=by rw[J7 (by omega),hb];simp
 have q4:bC .i64 (97+(a:Int))=((97+a:Nat):Int):=by rw[wrap_i64 (by omega) (by omega)];simp
 have q5:bC .i64 (97+(b:Int))=((97+b:Nat):Int):=by rw[wrap_i64 (by omega) (by omega)];simp
 have q6:bC .i32 ((97+a:Nat):Int)=((97+a:Nat):Int):=wrap_i32 (by omega) (by omega);have q7:bC .i32 ((97+b:Nat):Int)=((97+b:Nat):Int):=wrap_i32 (by omega) (by omega);have q8:=SV (97+a) (by omega);have q9:=SV (97+b) (by omega);have z8:(Utf8.encode ((97+a:Nat):Int)).size=1:=by have:=congrArg lC q8;simpa using this
 have z9:(Utf8.encode ((97+b:Nat):Int)).size=1:=by have:=congrArg lC q9;simpa using this
 have n1:¬(9223372036854775807:Int)<(f.length:Int)+1:=by omega
 have n2:¬(9223372036854775807:Int)<(f.length:Int)+1+1:=by omega
 have n3:¬(9223372036854775807:Int)<(f.length:Int)+2+1:=by omega
 have hT:bR f k=f++[118,97+a,97+b]:=by rw[bR,ha,hb]
 rw[hT];generalize hqa:((k/26:Nat):Int)=kq at*;generalize Bz:((97+a:Nat):Int)=na at*;generalize vM:((97+b:Nat):Int)=nb at*;simp[h1,h2,h3,hg,q1,q1',q2,q3,q4,q5,q6,q7,q8,q9,z8,z9,n1,n2,n3]
end
theorem ED{f:FuncId}{g:AF}{args:List AV}{B B':List θ}{v:AV}(h1:(C u).gQ f=none)(h2:(C u).fs f=some g)(h3:(C u).bf f=false)(hl:B'.length=B.length)(hx:args.map (exp B.length false)=args)
  (hr:κ (C u).gl (ab (C u)) g.code {env:=args,loc:=[],mem:= {ε:=B,η:=[]}} fun r=>(∀i,r.1≠ .exit i)/\(∃bs,r.2.mem= {ε:=B'++bs,η:=[]})/\∃l,cK r.2 g.results=some l/\aO r.2.mem.ε B.length 8 (cL l)=v) (T:List Nat):
  ab (C u) (.fn (.func f) [] []) args {ε:=B,η:=T}=some (v,{ε:=B',η:=T}):=by
 refine kF h1 h2 h3 hl ?_;have eL:([]++args++[]).map (exp B.length false)=args:=by simp only[bE,dF,hx]
 dsimp only;rw[eL];exact hr
inductive cZ (ts:List (List Nat)):Nat->ζ->Prop
 |fix {s:Nat} {n:Int} (h1:0<=n) (h2:n<100):cZ ts s (.mk 1 n [] .nil [])
 |dS {s:Nat} {t:List Nat} (h:t∈ts):cZ ts s (.mk 2 0 t .nil [])
 |bin {s:Nat} {k:Int} {a b:ζ} (h0:1<=s) (h1:3<=k) (h2:k<=5) (ha:cZ ts s a) (hb:cZ ts s b):cZ ts (s+2) (.mk k 0 [] .any [a,b])
theorem cZ.mono{ts:List (List Nat)}{s:Nat}{i:ζ}(h:cZ ts s i):∀{s':Nat},s<=s'->cZ ts s' i:=by
 induction h with
 |fix h1 h2=>exact fun _=> .fix h1 h2
 |dS h=>exact fun _=> .dS h
 |@bin s k a b h0 h1 h2 ha hb dM gx=>
  intro s' hs
  obtain⟨r,rfl⟩:∃r,s'=r+2:=⟨s'-2,by omega⟩;exact .bin (by omega) h1 h2 (dM (by omega)) (gx (by omega))
theorem cZ.fx{ts:List (List Nat)}{s:Nat}{i:ζ}(h:cZ ts s i):Dv i.av i.av:=by
 induction h with
 |fix _ _=>exact .agg (.cons (.int _ _) (.cons (.int _ _) (.cons (.str _) (.cons (.list .nil .nil) .nil))))
 |dS _=>exact .agg (.cons (.int _ _) (.cons (.int _ _) (.cons (.str _) (.cons (.list .nil .nil) .nil))))
 |bin _ _ _ _ _ dM gx=>exact .agg (.cons (.int _ _) (.cons (.int _ _) (.cons (.str _) (.cons (Dv.list .any (.cons dM (.cons gx .nil))) .nil))))
theorem cZ.mK{ts:List (List Nat)}{s:Nat}{i:ζ}(h:cZ ts s i):ν (.agg i.four)= .agg i.four:=by have:=h.fx.ν;rwa[ζ.fD]at this
def kO:Nat->Nat
 |0=>5
 |1=>5
 |s+2=>5+2*kO s
theorem aaK:∀s,5<=kO s
 |0=>by simp[kO]
 |1=>by simp[kO]
 |s+2=>by simp[kO]
theorem Sw:∀s,kO s<=kO (s+1)
 |0=>by simp[kO]
 |1=>by simp[kO]
 |s+2=>by have:=Sw s;simp only[kO];omega
theorem Sv{a b:Nat}(h:a<=b):kO a<=kO b:=by
 induction h with
 |refl=>exact bS _
 |step _ ih=>exact va ih (Sw _)
theorem wU{gl:Nat->AV}{cv:cx}{a:AC}{s:St}{P Q:St->Prop}(h:∃s',exec gl cv dN a s=some (.normal,s')/\P s')(k:∀s',P s'->Q s'):∃s',exec gl cv dN a s=some (.normal,s')/\Q s':=by obtain⟨s',h1,h2⟩:=h;exact⟨s',h1,k s' h2⟩
section
variable{B:List θ}{pm ps:Nat}(hm:pm<B.length)(hs:ps<B.length)(φ:pm≠ps){c:ρ}{bs:List Nat}(hb:bs.length<=300)
include hm hs φ hb
theorem f83(ct:ρ)(xl:bp ct)(ts:List (List Nat))(P:AV)(st:Int)(fr:Nat):∀(s:Nat),s<=9->∀(n:Nat) (x:Int),n+kO s<4000000000000000000→
  ∃(x':Int) (n':Nat) (i:ζ),n<=n'/\n'<=n+kO s/\cZ ts s i/\∀T,kf u 83 [.μ pm 0,.n (s:Int),aZ ct ts] {ε:=(B.set pm (.cells (bH ps P st fr))).set ps (.cells (aG c bs n x)),η:=T}=some (i.av,{ε:=(B.set pm (.cells (bH ps P st fr))).set ps (.cells (aG c bs n' x')),η:=T}):=by
 intro s;induction s using Nat.strongRecOn with
 |ind s ih=>
 intro hs9 n x hn
 have qH:ps<(B.set pm (.cells (bH ps P st fr))).length:=by simpa using hs
 have H7:∀S,((B.set pm (.cells (bH ps P st fr))).set ps S)[pm]?=some (.cells (bH ps P st fr)):=fun S=>by rw[gR (Ne.symm φ)];simp[hm]
 have hlen:∀S,((B.set pm (.cells (bH ps P st fr))).set ps S).length=B.length:=fun S=>by simp
 generalize HP:B.set pm (.cells (bH ps P st fr))=B2 at*;have hr:κ (C u).gl (ab (C u)) KU {env:=[.μ pm 0,.n (s:Int),aZ ct ts],loc:=[],mem:= {ε:=B2.set ps (.cells (aG c bs n x)),η:=[]}} fun q=>(∀i,q.1≠ .exit i)/\∃(x':Int) (n':Nat) (i:ζ),n<=n'/\n'<=n+kO s/\cZ ts s i/\q.2.mem= {ε:=B2.set ps (.cells (aG c bs n' x')),η:=[]}/\aK q.2.env 6= .aj 6 0 0/\∃L,bQ q.2.loc 6=some (0,.cells L)/\L.length=4/\Dv (.agg L) i.av:=by
  unfold KU;let K:Nat->Int->St->Prop:=fun n x st=>(st.e 0= .μ pm 0/\st.e 1= .n (s:Int)/\st.e 2=aZ ct ts)/\st.mem= {ε:=B2.set ps (.cells (aG c bs n x)),η:=[]}/\st.e 6= .aj 6 0 0/\st.q 6=some (0,.cells z0.four);refine Δ (fun st=>K n x st/\st.q 7=none) (by simp[K,bz,z0,ζ.four,ζ.χ]) fun s1 ⟨⟨⟨h1,h2,h3⟩,h4,h5,h6⟩,h7⟩=>?_;have oY:=aaK s;have qR:∀S,(B2.set ps S)[pm]?=some (.cells [.μ ps 0,P,.n st,.n fr]):=H7;refine bJ (fun st=>∃n2 x2,(n<=n2/\n2<=n+2)/\K n2 x2 st) (κ.block ?_) fun s2 ⟨n2,x2,⟨b1,b2⟩,⟨h1,h2,h3⟩,h4,h5,h6⟩=>?_
  ·refine Δ (fun st=>∃n1 x1 t,(n<=n1/\n1<=n+1/\(t=true->2<s))/\(K n1 x1 st/\st.q 7=none)/\st.e 8= .bool t) ?_ fun s2 ⟨n1,x1,t,⟨a1,a2,a3⟩,⟨⟨⟨h1,h2,h3⟩,h4,h5,h6⟩,h7⟩,h8⟩=>?_
   ·by_cases TR:2<s
    ·obtain⟨x1,t,n1,a1,a2,q⟩:=f153 (u:=u) (c:=c) (bs:=bs) qH hb n x 3 (by omega);have Mo:(2:Int)<s:=by omega
     exact wU (P:=fun st=>(K n1 x1 st/\st.q 7=none)/\st.e 8= .bool t) (by simp[K,h1,h2,h3,h4,h5,h6,h7,Mo,qR,q]) fun s' h=>⟨n1,x1,t,⟨a1,a2,fun _=>TR⟩,h⟩
    ·have Mo:¬(2:Int)<s:=by omega
     exact wU (P:=fun st=>(K n x st/\st.q 7=none)/\st.e 8= .bool false) (by simp[K,h1,h2,h3,h4,h5,h6,h7,Mo]) fun s' h=>⟨n,x,false,⟨bS _,by omega,fun h=>by cases h⟩,h⟩
   cases t with
   |true=>
    have TR:=a3 rfl
    obtain⟨r,rfl⟩:∃r,s=r+2:=⟨s-2,by omega⟩;simp only[kO]at hn oY⊢;refine κ.yes (by simp[h8]) ?_;have dh:bC .i64 (((r+2:Nat):Int)-2)=(r:Int):=by rw[wrap_i64 (by omega) (by omega)];omega
    have Vn:bC .i64 (r:Int)=(r:Int):=wrap_i64 (by omega) (by omega);obtain⟨x2,k1,n2,c1,c2,c3,c4,q1⟩:=f119 (u:=u) (c:=c) (bs:=bs) qH hb n1 x1 1 r (by omega) (by omega) (by omega) (by omega);obtain⟨k1,rfl⟩:∃k:Nat,k1=k:=⟨k1.toNat,by omega⟩;have hdk:=Sv (a:=k1) (b:=r) (by omega);obtain⟨x3,n3,a,d1,d2,d3,q2⟩:=ih k1 (by omega) (by omega) n2 x2 (by omega);obtain⟨x4,k2,n4,e1,e2,e3,e4,q3⟩:=f119 (u:=u) (c:=c) (bs:=bs) qH hb n3 x3 3 5 (by omega) (by omega) (by omega) (by omega);obtain⟨x5,k3,n5,g1,g2,g3,g4,q4⟩:=f119 (u:=u) (c:=c) (bs:=bs) qH hb n4 x4 1 r (by omega) (by omega) (by omega) (by omega);obtain⟨k3,rfl⟩:∃k:Nat,k3=k:=⟨k3.toNat,by omega⟩;have ak8:=Sv (a:=k3) (b:=r) (by omega);obtain⟨x6,n6,b,l1,l2,l3,q5⟩:=ih k3 (by omega) (by omega) n5 x5 (by omega);have Um:=ζ.ft a;have yR:=ζ.ft b;have jz:a.four.take 4=a.four:=fo (by omega);simp only[ζ.fD]at q2 q5;refine Δ (fun st=>(K n3 x3 st/\st.e 7= .aj 7 0 0)/\st.q 7=some (0,.cells a.four)) (by simp[K,h1,h2,h3,h4,h5,h6,h7,qR,dh,Vn,q1,q2,bz,Um,jz]) fun s3 ⟨⟨⟨⟨h1,h2,h3⟩,h4,h5,h6⟩,h7⟩,h8⟩=>?_;have h6:s3.q 6=some (0,.cells [.n 0,.n 0,.str [],.list .nil []]):=h6;refine Δ (fun st=>(st.mem= {ε:=B2.set ps (.cells (aG c bs n6 x6)),η:=[]}/\st.e 6= .aj 6 0 0)/\st.q 6=some (0,.cells [.n k2,.n 0,.str [],.list .full [.agg a.four,.agg b.four]])) (by simp[h1,h2,h3,h4,h5,h6,h7,h8,qR,dh,Vn,q3,q4,q5,Um,yR,jz,cN,cQ,ob,dd,shaped,Mem.ν,d3.mK,l3.mK]) fun s4 ⟨⟨m1,m2⟩,m3⟩=>?_;refine κ.done .ret (fun st=>st.mem= {ε:=B2.set ps (.cells (aG c bs n6 x6)),η:=[]}/\st.e 6= .aj 6 0 0/\st.q 6=some (0,.cells [.n k2,.n 0,.str [],.list .full [.agg a.four,.agg b.four]])) (by simp[m1,m2,m3]) fun s' ⟨e1,e2,e3⟩=> .inr ⟨by simp,.inr ⟨by simp,by simp,x6,n6,.mk k2 0 [] .any [a,b],by omega,by omega,.bin (by omega) (by omega) (by omega) (d3.mono (by omega)) (l3.mono (by omega)),e1,e2,_,e3,rfl,?_⟩⟩;have ha:Dv (.agg a.four) a.av:=by rw[<-ζ.fD];exact d3.fx
    have hb:Dv (.agg b.four) b.av:=by rw[<-ζ.fD];exact l3.fx
    exact .agg (.cons (.int _ _) (.cons (.int _ _) (.cons (.str _) (.cons (Dv.list .full (.cons ha (.cons hb .nil))) .nil))))
   |false=>
    refine κ.no (by simp[h8]) ?_
    have tl:(ts.map AV.str).length=ts.length:=cg _;refine Δ (fun st=>∃n2 x2 t,(n1<=n2/\n2<=n1+1/\(t=true->0<ts.length))/\K n2 x2 st/\st.e 46= .bool t) ?_ fun s3 ⟨n2,x2,t,⟨b1,b2,b3⟩,⟨⟨h1,h2,h3⟩,h4,h5,h6⟩,h9⟩=>?_
    ·simp only[aZ]at h3;by_cases sd:0<ts.length
     ·obtain⟨x2,t,n2,b1,b2,q⟩:=f153 (u:=u) (c:=c) (bs:=bs) qH hb n1 x1 2 (by omega);exact wU (P:=fun st=>K n2 x2 st/\st.e 46= .bool t) (by simp[K,aZ,h1,h2,h3,h4,h5,h6,h7,sd,qR,q]) fun s' h=>⟨n2,x2,t,⟨b1,b2,fun _=>sd⟩,h⟩
     ·exact wU (P:=fun st=>K n1 x1 st/\st.e 46= .bool false) (by simp[K,aZ,h1,h2,h3,h4,h5,h6,h7,sd]) fun s' h=>⟨n1,x1,false,⟨bS _,by omega,fun h=>by cases h⟩,h⟩
    cases t with
    |true=>
     have sd:=b3 rfl
     obtain⟨x3,r,n3,c1,c2,c3,c4,-,q⟩:=f121 (u:=u) (c:=c) (bs:=bs) qH hb n2 x2 ts.length (by omega);have c4:=c4 (by omega);obtain⟨r,rfl⟩:∃k:Nat,r=k:=⟨r.toNat,by omega⟩;obtain⟨w,hw⟩:∃w,ts[r]?=some w:=⟨_,dn (by omega)⟩;have mg:w∈ts:=alW hw;have ma:(ts.map AV.str)[r]?=some (.str w):=by rw[lB,hw];rfl
     simp only[aZ]at h3;have h6:s3.q 6=some (0,.cells [.n 0,.n 0,.str [],.list .nil []]):=h6;refine κ.yes (by simp[h9]) (κ.done .ret (fun st=>st.mem= {ε:=B2.set ps (.cells (aG c bs n3 x3)),η:=[]}/\st.e 6= .aj 6 0 0/\st.q 6=some (0,.cells [.n 2,.n 0,.str w,.list .nil []])) (by simp[h1,h2,h3,h4,h5,h6,qR,q,ma,c4,dd]) fun s' ⟨e1,e2,e3⟩=> .inr ⟨by simp,.inr ⟨by simp,by simp,x3,n3,.mk 2 0 w .nil [],by omega,by omega,.dS mg,e1,e2,_,e3,rfl,(cZ.dS (ts:=ts) (s:=0) mg).fx⟩⟩)
    |false=>refine κ.no (by simp[h9]) (κ.done .normal (K n2 x2) (by simp[K,h1,h2,h3,h4,h5,h6]) fun s' h=> .inr ⟨by simp,.inl ⟨rfl,n2,x2,⟨by omega,by omega⟩,h⟩⟩)
  ·obtain⟨x3,r,n3,c1,c2,c3,c4,-,q⟩:=f121 (u:=u) (c:=c) (bs:=bs) qH hb n2 x2 3 (by omega);have c4:=c4 (by omega);obtain⟨mx,jO,NB,U0⟩:∃mx:Int,(r=0/\mx=3\/r=1/\mx=9\/r=2/\mx=100)/\0<mx/\mx<=100:=by
    have:r=0\/r=1\/r=2:=by omega
    rcases this with rfl|rfl|rfl
    ·exact⟨3,by omega,by omega,by omega⟩
    ·exact⟨9,by omega,by omega,by omega⟩
    ·exact⟨100,by omega,by omega,by omega⟩
   obtain⟨x4,v,n4,d1,d2,d3,d4,-,q2⟩:=f121 (u:=u) (c:=c) (bs:=bs) qH hb n3 x3 mx (by omega);have d4:=d4 NB;have h6:s2.q 6=some (0,.cells [.n 0,.n 0,.str [],.list .nil []]):=h6;refine Δ (fun st=>st.mem= {ε:=B2.set ps (.cells (aG c bs n4 x4)),η:=[]}/\st.e 6= .aj 6 0 0/\st.q 6=some (0,.cells [.n 1,.n v,.str [],.list .nil []])) (by rcases jO with⟨rfl,rfl⟩|⟨rfl,rfl⟩|⟨rfl,rfl⟩<;>simp[h1,h2,h3,h4,h5,h6,qR,q,q2,dd,cN,cQ,ob,shaped,AV.one,Mem.ν,ν]) fun s3 ⟨m1,m2,m3⟩=>?_;refine κ.done .ret (fun st=>st.mem= {ε:=B2.set ps (.cells (aG c bs n4 x4)),η:=[]}/\st.e 6= .aj 6 0 0/\st.q 6=some (0,.cells [.n 1,.n v,.str [],.list .nil []])) (by simp[m1,m2,m3]) fun s' ⟨e1,e2,e3⟩=>⟨by simp,x4,n4,.mk 1 v [] .nil [],by omega,by omega,.fix d3 (by omega),e1,e2,_,e3,rfl,(cZ.fix (ts:=ts) (s:=0) (n:=v) d3 (by omega)).fx⟩
 obtain⟨q,hx,h1,x',n',i,q1,q2,q3,h2,h3,h4⟩:=hr;refine⟨x',n',i,q1,q2,q3,fun T=>?_⟩;obtain⟨L,h4,hL,hD⟩:=h4;have iG:[AV.n (s:Int),aZ ct ts].map (exp B2.length false)=[AV.n (s:Int),aZ ct ts]:=by simp only[az,aJ,wV xl,exp]
 refine ED (u:=u) (f:=83) (g:=HI) (B:=B2.set ps (.cells (aG c bs n x))) (B':=B2.set ps (.cells (aG c bs n' x'))) (args:=[.μ pm 0,.n (s:Int),aZ ct ts]) rfl rfl rfl (by simp) (by
  have:pm<(B2.set ps (.cells (aG c bs n x))).length:=by rw[hlen];exact hm
  simp only[az,aJ,exp,this,if_true,wV xl]) ⟨q,hx,h1,⟨[],by simp[h2]⟩,[.agg L],?_,?_⟩ T
 ·have:L.take 4=L:=fo (by omega);simp[HI,h3,h4,hL,this]
 ·rw[h2];exact hD.aO _ _ _
end
theorem f183(g:Int)(hg:1<=g/\g<=12)(m:Mem):kf u 183 [.n g] m=some (.n (gb g),m):=by
 refine dI (g:=A9) rfl rfl rfl ?_;by_cases h1:g<=8
 ·simp[A9,c183,exp,gb,h1,hg.1]
 ·by_cases h2:g<=11
  ·have h3:9<=g:=by omega
   have h4:¬g=13:=by omega
   have h5:¬g=14:=by omega
   simp[A9,c183,exp,gb,h1,hg.1,h2,h3,h4,h5]
  ·have h3:g=12:=by omega
   subst h3;simp[A9,c183,exp,gb]
structure f_ (rs ts:List (List Nat)) (p:ξ):Prop where
 nm:p.name∈rs
 len:p.ix.length<=2
 pn:∀i∈p.ix,cZ ts 4 i
 cp:p.c=if p.ix=[]then .nil else .any
def rQ(b:Nat)(l:List ζ):AV:= .list (if l=[]then .nil else .own b) (l.map fun i=> .agg i.four)
def vl(n:Nat):List θ:=if n=0 then[]else[.front n 4 27]
section
variable{B:List θ}{pm ps:Nat}(hm:pm<B.length)(hs:ps<B.length)(φ:pm≠ps){c:ρ}{bs:List Nat}(hb:bs.length<=300)
include hm hs φ hb
theorem f184(cr ct:ρ)(oX:bp cr)(xl:bp ct)(rs ts:List (List Nat))(NW:rs≠[])(Iq:rs.length<1000000000)(X Y:AV)(hX:exp B.length false X=X)(hY:exp B.length false Y=Y)(P:AV)(st:Int)(fr:Nat)(n:Nat)(x:Int)(hn:n<3000000000000000000):
  ∃(x':Int) (n':Nat) (p:ξ),n<=n'/\n'<=n+72/\f_ rs ts p/\∀T,kf u 184 [.μ pm 0,.agg [aZ cr rs,X,Y,aZ ct ts]] {ε:=(B.set pm (.cells (bH ps P st fr))).set ps (.cells (aG c bs n x)),η:=T}=some (p.av,{ε:=(B.set pm (.cells (bH ps P st fr))).set ps (.cells (aG c bs n' x')),η:=T}):=by
 have qH:ps<(B.set pm (.cells (bH ps P st fr))).length:=by simpa using hs
 have H7:∀S,((B.set pm (.cells (bH ps P st fr))).set ps S)[pm]?=some (.cells (bH ps P st fr)):=fun S=>by rw[gR (Ne.symm φ)];simp[hm]
 have hlen:∀S,((B.set pm (.cells (bH ps P st fr))).set ps S).length=B.length:=fun S=>by simp
 have S':=f83 (u:=u) (B:=B) hm hs φ (c:=c) hb ct xl ts P st fr 4 (by omega);have H0:kO 4=35:=rfl;have abn:∀(F:θ) (n:Nat) (x:Int),n<3900000000000000000->∃(x':Int) (n':Nat) (i:ζ),n<=n'/\n'<=n+35/\cZ ts 4 i/\∀T,kf u 83 [.μ pm 0,.n 4,aZ ct ts] {ε:=(B.set pm (.cells (bH ps P st fr))).set ps (.cells (aG c bs n x))++[F],η:=T}=some (i.av,{ε:=(B.set pm (.cells (bH ps P st fr))).set ps (.cells (aG c bs n' x'))++[F],η:=T}):=by intro F n x hn;have:=f83 (u:=u) (B:=B++[F]) (pm:=pm) (ps:=ps) (by simp;omega) (by simp;omega) φ (c:=c) hb ct xl ts P st fr 4 (by omega) n x (by omega);simpa only[nr _ _ hm,nr _ _ qH,H0,wF]using this
 simp only[H0,wF]at S';generalize HP:B.set pm (.cells (bH ps P st fr))=B2 at*;have Dk:B2.length=B.length:=by rw[<-HP];simp
 obtain⟨x1,r,n1,a1,a2,a3,a4,-,q1⟩:=f121 (u:=u) (c:=c) (bs:=bs) qH hb n x rs.length (by omega);have hr0:0<rs.length:=List.length_pos_iff.2 NW;have a4:=a4 (by omega);obtain⟨r,rfl⟩:∃k:Nat,r=k:=⟨r.toNat,by omega⟩;have a4':r<rs.length:=by omega
 obtain⟨w,hw⟩:∃w,rs[r]?=some w:=⟨_,dn (by omega)⟩;have mg:w∈rs:=alW hw;have ma:(rs.map AV.str)[r]?=some (.str w):=by rw[lB,hw];rfl
 obtain⟨x2,k,n2,b1,b2,b3,b4,-,q2⟩:=f121 (u:=u) (c:=c) (bs:=bs) qH hb n1 x1 3 (by omega);have b4:=b4 (by omega);obtain⟨k,rfl⟩:∃j:Nat,k=j:=⟨k.toNat,by omega⟩;have hr:κ (C u).gl (ab (C u)) KH {env:=[.μ pm 0,.agg [aZ cr rs,X,Y,aZ ct ts]],loc:=[],mem:= {ε:=B2.set ps (.cells (aG c bs n x)),η:=[]}} fun q=>(∀i,q.1≠ .exit i)/\∃(x':Int) (n':Nat) (l:List ζ),n<=n'/\n'<=n+72/\l.length<=2/\(∀i∈l,cZ ts 4 i)/\q.2.mem= {ε:=B2.set ps (.cells (aG c bs n' x'))++vl l.length,η:=[]}/\aK q.2.env 4= .aj 4 0 0/\bQ q.2.loc 4=some (0,.cells [.str w,rQ B.length l]):=by
  unfold KH;let S4:St->Prop:=fun st=>st.e 0= .μ pm 0/\st.e 3= .aj 3 0 0/\st.q 3=some (0,.cells [aZ cr rs,X,Y,aZ ct ts])/\st.e 4= .aj 4 0 0/\st.q 4=some (0,.cells [.str [],.list .nil []]);refine Δ (fun st=>S4 st/\st.q 5=none/\st.mem= {ε:=B2.set ps (.cells (aG c bs n x)),η:=[]}) (by simp[S4,bz]) fun s1 ⟨⟨h0,h3,fw,h4,lK⟩,h5,dE⟩=>?_;refine Δ (fun st=>S4 st/\st.mem= {ε:=B2.set ps (.cells (aG c bs n1 x1)),η:=[]}/\st.e 5= .aj 5 0 0/\st.q 5=some (0,.cells [.str w,.list .nil []])) (by simp[S4,h0,h3,fw,h4,lK,h5,dE,H7,bH,aZ,q1,a4,ma,dd,bz,cN,nY,cQ,eK]) fun s2 ⟨⟨h0,h3,fw,h4,lK⟩,dE,h5,ij⟩=>?_;refine bJ (fun st=>∃(x':Int) (n':Nat) (l:List ζ),n<=n'/\n'<=n+72/\l.length<=2/\(∀i∈l,cZ ts 4 i)/\S4 st/\st.mem= {ε:=B2.set ps (.cells (aG c bs n' x'))++vl l.length,η:=[]}/\st.e 5= .aj 5 0 0/\st.q 5=some (0,.cells [.str w,rQ B.length l])) ?_ fun s3 ⟨x',n',l,l1,l2,l3,l4,⟨h0,h3,fw,h4,lK⟩,dE,h5,ij⟩=>?_
  ·refine Δ (fun st=>S4 st/\st.mem= {ε:=B2.set ps (.cells (aG c bs n2 x2)),η:=[]}/\st.e 5= .aj 5 0 0/\st.q 5=some (0,.cells [.str w,.list .nil []])/\st.e 23= .n k/\st.e 24= .n 0) (by simp[S4,h0,h3,fw,h4,lK,h5,ij,dE,H7,bH,q2]) fun s3 ⟨⟨h0,h3,fw,h4,lK⟩,dE,h5,ij,Dj,xd⟩=>?_;let I:Nat->St->Prop:=fun i st=>∃(x':Int) (n':Nat) (l:List ζ),n<=n'/\n'<=n+2+35*i/\l.length=i/\(∀y∈l,cZ ts 4 y)/\S4 st/\st.mem= {ε:=B2.set ps (.cells (aG c bs n' x'))++vl l.length,η:=[]}/\st.e 5= .aj 5 0 0/\st.q 5=some (0,.cells [.str w,rQ B.length l])/\st.e 23= .n k/\st.e 24= .n (i:Int);refine κ.block (κ.kp (I:=I) k ⟨x2,n2,[],by omega,by omega,rfl,by simp,⟨h0,h3,fw,h4,lK⟩,by simp[vl,dE],h5,by simpa[rQ]using ij,Dj,xd⟩ fun i st hi ⟨x',n',l,l1,l2,l3,l4,⟨h0,h3,fw,h4,lK⟩,dE,h5,ij,Dj,xd⟩=>?_);unfold VX;by_cases uu:i<k
   ·have H_:(i:Int)<k:=by omega
    have kB:bC .i64 ((i:Int)+1)=((i+1:Nat):Int):=by rw[wrap_i64 (by omega) (by omega)];simp
    have jo:i=0\/i=1:=by omega
    have w1:bC .i64 1=1:=wrap_i64 (by omega) (by omega);have w2:bC .i64 2=2:=wrap_i64 (by omega) (by omega);rcases jo with rfl|rfl
    ·obtain rfl:l=[]:=List.length_eq_zero_iff.1 l3;simp only[vl,rQ,eO,if_true,dF,aJ]at dE ij;obtain⟨x3,n3,y,d1,d2,d3,q3⟩:=S' n' x' (by omega);have dB:=Qv {ε:=B2.set ps (.cells (aG c bs n3 x3)),η:=[]} y.ft d3.mK;simp only[nq,Mem.push,Dk]at dB;simp only[ζ.fD]at q3;refine κ.done .normal (fun st=>S4 st/\st.mem= {ε:=B2.set ps (.cells (aG c bs n3 x3))++[.front 1 4 27],η:=[]}/\st.e 5= .aj 5 0 0/\st.q 5=some (0,.cells [.str w,.list (.own B.length) [.agg y.four]])/\st.e 23= .n k/\st.e 24= .n 1) (by simp[S4,h0,h3,fw,h4,lK,h5,ij,dE,Dj,xd,H_,uu,w1,w2,q3,dB,shaped,Mem.ν,d3.mK,ζ.ft,cN,cQ,eK]) fun s' ⟨g1,g2,g3,g4,g5,g6⟩=> .inl ⟨rfl,uu,x3,n3,[y],by omega,by omega,rfl,by simpa using d3,g1,g2,g3,by simpa[rQ]using g4,g5,g6⟩
    ·have h1k:(1:Int)<k:=by omega
     obtain⟨y0,rfl⟩:∃y,l=[y]:=List.length_eq_one_iff.1 l3;have Ef:=l4 y0 (by simp);simp only[vl,rQ,List.length_singleton,List.cons_ne_nil,if_false,az,aJ,Nat.one_ne_zero]at dE ij;obtain⟨x3,n3,y,d1,d2,d3,q3⟩:=abn (.front 1 4 27) n' x' (by omega);have dB:=Qw (B2.set ps (.cells (aG c bs n3 x3))) [] y0.ft y.ft d3.mK;simp only[nq,Dk]at dB;simp only[ζ.fD]at q3;refine κ.done .normal (fun st=>S4 st/\st.mem= {ε:=B2.set ps (.cells (aG c bs n3 x3))++[.front 2 4 27],η:=[]}/\st.e 5= .aj 5 0 0/\st.q 5=some (0,.cells [.str w,.list (.own B.length) [.agg y0.four,.agg y.four]])/\st.e 23= .n k/\st.e 24= .n 2) (by simp[S4,h0,h3,fw,h4,lK,h5,ij,dE,Dj,xd,H_,h1k,uu,w1,w2,q3,dB,shaped,Mem.ν,d3.mK,ζ.ft,cN,cQ,eK]) fun s' ⟨g1,g2,g3,g4,g5,g6⟩=> .inl ⟨rfl,uu,x3,n3,[y0,y],by omega,by omega,rfl,by simpa using⟨Ef,d3⟩,g1,g2,g3,by simpa[rQ]using g4,g5,g6⟩
   ·have H_:¬(i:Int)<k:=by omega
    refine κ.done (.exit 0) (fun st=>S4 st/\st.mem= {ε:=B2.set ps (.cells (aG c bs n' x'))++vl l.length,η:=[]}/\st.e 5= .aj 5 0 0/\st.q 5=some (0,.cells [.str w,rQ B.length l])) (by simp[S4,h0,h3,fw,h4,lK,h5,ij,dE,Dj,xd,H_]) fun s' ⟨g1,g2,g3,g4⟩=> .inr ⟨by simp,.inl ⟨rfl,.inl ⟨rfl,x',n',l,by omega,by omega,by omega,l4,g1,g2,g3,g4⟩⟩⟩
  ·refine κ.done .ret (fun st=>st.mem= {ε:=B2.set ps (.cells (aG c bs n' x'))++vl l.length,η:=[]}/\st.e 4= .aj 4 0 0/\st.q 4=some (0,.cells [.str w,rQ B.length l])) (by simp[h0,h3,fw,h4,lK,h5,ij,dE]) fun s' ⟨g1,g2,g3⟩=>⟨by simp,x',n',l,l1,l2,l3,l4,g1,g2,g3⟩
 obtain⟨q,hx,h1,x',n',l,l1,l2,l3,l4,h2,h3,h4⟩:=hr;refine⟨x',n',⟨w,if l=[]then .nil else .any,l⟩,l1,l2,⟨mg,l3,l4,rfl⟩,fun T=>?_⟩;refine ED (u:=u) (f:=184) (g:=GP) (B:=B2.set ps (.cells (aG c bs n x))) (B':=B2.set ps (.cells (aG c bs n' x'))) (args:=[.μ pm 0,.agg [aZ cr rs,X,Y,aZ ct ts]]) rfl rfl rfl (by simp) (by
  have:pm<(B2.set ps (.cells (aG c bs n x))).length:=by rw[hlen];exact hm
  simp only[az,aJ,exp,aX,hm,if_true,wV xl,wV oX,hlen,hX,hY]) ⟨q,hx,h1,⟨vl l.length,h2⟩,[.agg [.str w,rQ B.length l]],?_,?_⟩ T
 ·simp[GP,h3,h4]
 ·rw[h2];have hD:bN (l.map fun i=>AV.agg i.four) (l.map ζ.av):=by
   clear h4 h2 l3 l1 l2;induction l with
   |nil=>exact .nil
   |cons a l ih=>exact .cons (by have:=(l4 a (by simp)).fx;show Dv (AV.agg a.four) a.av;rw[<-ζ.fD];exact this) (ih fun i hi=>l4 i (by simp[hi]))
  have:Dv (.agg [.str w,rQ B.length l]) (⟨w,if l=[]then .nil else .any,l⟩:ξ).av:=by
   have:=Dv.agg (.cons (.str w) (.cons (Dv.list (if l=[]then .nil else .own B.length) hD) .nil));cases l with
   |nil=>exact this
   |cons a l=>exact this
  exact this.aO _ _ _
end
structure Sc where
 aB:List (List Nat)
 cA:List (List Nat)
 bits:List (List Nat)
 turns:List (List Nat)
def Sc.put(s:Sc)(nm:List Nat):Sc:= {s with aB:=s.aB++[nm],cA:=s.cA++[nm]}
def Sc.drop(s:Sc)(nm:List Nat):Sc:= {s with aB:=s.aB.filter fun x=>!(x==nm),cA:=s.cA.filter fun x=>!(x==nm)}
def Sc.bit(s:Sc)(nm:List Nat):Sc:=if nm∈s.bits then s else{s with bits:=s.bits++[nm]}
def Sc.ml(s:Sc)(nm:List Nat):Sc:= {s with aB:=s.aB++[nm]}
def Sc.dS(s:Sc)(nm:List Nat):Sc:= {s with turns:=s.turns++[nm]}
def Sc.inner(s:Sc):Sc:= {s with cA:=[]}
def jE:ζ:= .mk 0 0 [] .nil []
def bw(k g:Int)(nm:List Nat)(cp:ρ)(pl:List ξ)(size to:ζ)(cb:ρ)(body:List δ)(ce:ρ)(els:List δ):δ:= .mk k g nm cp pl size to cb body ce els
mutual
inductive eZ (ps:List (List Nat×Nat)):Nat->Nat->Sc->δ->Nat->Sc->Prop
 |gate {d fr:Nat} {s:Sc} {g:Int} {cp:ρ} {pl:List ξ} (h1:1<=g) (h2:g<=12) (h3:pl.length=gb g) (h4:∀p∈pl,f_ s.aB s.turns p) (hc:cp=Φ pl):eZ ps d fr s (bw 1 g [] cp pl jE jE .nil [] .nil []) fr s
 |take {d fr:Nat} {s:Sc} {x:ζ} (h1:cZ s.turns 4 x):eZ ps d fr s (bw 2 0 (bR [113] (fr+1)) .nil [] x jE .nil [] .nil []) (fr+1) (s.put (bR [113] (fr+1)))
 |drop {d fr:Nat} {s:Sc} {nm:List Nat} (h1:nm∈s.cA):eZ ps d fr s (bw 3 0 nm .nil [] jE jE .nil [] .nil []) fr (s.drop nm)
 |borrow {d fr ax:Nat} {s:Sc} {x:ζ} {cb:ρ} {body:List δ} (hd:d<5) (h1:cZ s.turns 4 x) (h2:aR ps (d+1) (fr+1) (s.ml (bR [114] (fr+1))).inner body ax) (hc:bp cb) (hn:cb=Φ body):eZ ps d fr s (bw 4 0 (bR [114] (fr+1)) .nil [] x jE cb body .nil []) ax s
 |measure {d fr:Nat} {s:Sc} {nm:List Nat} {p:ξ} (h1:f_ s.aB s.turns p) (h2:nm=bR [98] (fr+1)\/nm∈s.bits):eZ ps d fr s (bw 5 0 nm .any [p] jE jE .nil [] .nil []) (fr+1) (s.bit nm)
 |reset {d fr:Nat} {s:Sc} {p:ξ} (h1:f_ s.aB s.turns p):eZ ps d fr s (bw 6 0 [] .any [p] jE jE .nil [] .nil []) fr s
 |cond {d fr ax gW:Nat} {s:Sc} {nm:List Nat} {cb ce:ρ} {body els:List δ} (hd:d<5) (h1:nm∈s.bits) (h2:aR ps (d+1) fr s.inner body ax) (h3:aR ps (d+1) ax s.inner els gW) (hc:bp cb) (hn:cb=Φ body) (gX:bp ce) (gF:ce=Φ els):eZ ps d fr s (bw 7 0 nm .nil [] jE jE cb body ce els) gW s
 |loop {d fr ax:Nat} {s:Sc} {x y:ζ} {cb:ρ} {body:List δ} (hd:d<5) (h1:cZ s.turns 3 x) (h2:cZ s.turns 3 y) (h3:aR ps (d+1) (fr+1) (s.dS (bR [105] (fr+1))).inner body ax) (hc:bp cb) (hn:cb=Φ body):eZ ps d fr s (bw 8 0 (bR [105] (fr+1)) .nil [] x y cb body .nil []) ax s
 |call {d fr k:Nat} {s:Sc} {nm:List Nat} {cp:ρ} {pl:List ξ} (h1:(nm,k)∈ps) (h2:pl.length=k) (h3:∀p∈pl,f_ s.aB s.turns p) (hc:cp=Φ pl):eZ ps d fr s (bw 9 0 nm cp pl jE jE .nil [] .nil []) fr s
 |qp {d fr ax:Nat} {s:Sc} {cb:ρ} {body:List δ} (hd:d<5) (h2:aR ps (d+1) fr s.inner body ax) (hc:bp cb) (hn:cb=Φ body):eZ ps d fr s (bw 10 0 [] .nil [] jE jE cb body .nil []) ax s
 |within {d fr ax gW:Nat} {s:Sc} {cb ce:ρ} {body els:List δ} (hd:d<5) (h2:aR ps (d+1) fr s.inner body ax) (h3:aR ps (d+1) ax s.inner els gW) (hc:bp cb) (hn:cb=Φ body) (gX:bp ce) (gF:ce=Φ els):eZ ps d fr s (bw 11 0 [] .nil [] jE jE cb body ce els) gW s
inductive aR (ps:List (List Nat×Nat)):Nat->Nat->Sc->List δ->Nat->Prop
 |nil {d fr:Nat} {s:Sc}:aR ps d fr s [] fr
 |cons {d fr ax gW:Nat} {s s':Sc} {x:δ} {l:List δ} (h1:eZ ps d fr s x ax s') (h2:aR ps d ax s' l gW):aR ps d fr s (x::l) gW
end
def Sc.look(s:Sc):bX:=fun t=>if t∈s.turns then .dS else if t∈s.bits then .bit else if t∈s.cA then .ki true else if t∈s.aB then .ki false else .none
def yI:Nat->Nat
 |0=>1+4*300
 |d+1=>1+4*(300+2*yI d)
theorem Jf{a b i j:Nat}(hi:i<676)(hj:j<676)(h:bR [a] i=bR [b] j):a=b/\i=j:=by simp only[bR,cG,bE,u9,and_true,true_and]at h;obtain⟨h1,h2,h3⟩:=h;exact⟨h1,by omega⟩
theorem O7{a b i j:Nat}(h:bR [a] i=bR [b] j):a=b:=by simp only[bR,cG,bE,u9]at h;exact h.1
theorem pz(a i:Nat)(h1:97<=a)(h2:a<=122):dc (bR [a] i)=true:=by
 have h3:i/26 % 26<26:=mC _ (by decide);have h4:i % 26<26:=mC _ (by decide);have e1:97<=97+i/26 % 26:=by omega
 have e2:97+i/26 % 26<=122:=by omega
 have e3:97<=97+i % 26:=by omega
 have e4:97+i % 26<=122:=by omega
 simp only[bR,cG,bE];generalize 97+i/26 % 26=x at*;generalize 97+i % 26=y at*;simp[dc,su,fu,uF,h1,h2,e1,e2,e3,e4]
theorem cZ.cnt{ts:List (List Nat)}{s:Nat}{i:ζ}(h:cZ ts s i):i.cnt+1<=2^(s/2+1):=by
 induction h with
 |@fix s _ _ _=>have:=alX (n:=s/2);simp[ζ.cnt,ζ.bL,alY];omega
 |@dS s _ _=>have:=alX (n:=s/2);simp[ζ.cnt,ζ.bL,alY];omega
 |@bin s k a b h0 h1 h2 ha hb dM gx=>
  have:(s+2)/2+1=(s/2+1)+1:=by omega
  rw[this,alY];simp only[ζ.cnt,ζ.bL];omega
theorem cZ.part{ts:List (List Nat)}{s:Nat}{i:ζ}(h:cZ ts s i)(may:List Nat->Bool)(hm:∀t∈ts,may t=true)(no:Int):i.part may no=0:=by
 induction h with
 |fix h1 h2=>
  have a1:¬_:=Int.not_lt.2 h1
  simp[ζ.part,ζ.parts,kX,h1,a1];omega
 |dS h=>simp[ζ.part,ζ.parts,kX,hm _ h]
 |@bin s k a b h0 h1 h2 ha hb dM gx=>
  have e1:kX k 0 2=0:=by
   have a1:¬(k<1\/5<k\/(k=1/\((0:Int)<0\/(99:Int)<0))):=by omega
   have a2:¬((3<=k/\(2:Nat)≠2)\/(k<3/\(2:Nat)≠0)):=by omega
   rw[kX,if_neg a1,if_neg a2]
  have e2:¬(k=2/\may []=false):=by omega
  simp only[ζ.part,ζ.parts,cD,eO,e1,e2,dM,gx];simp
theorem cZ.err{ts:List (List Nat)}{i:ζ}(h:cZ ts 4 i)(may:List Nat->Bool)(hm:∀t∈ts,may t=true)(no:Int):i.err may no=0:=by
 have:=h.cnt;have:¬9<i.cnt:=by simp at this;omega
 rw[ζ.err,if_neg this,h.part may hm]
structure bU (fr:Nat) (s:Sc):Prop where
 aB:∀t∈s.aB,∃a i,(a=113\/a=114)/\i<=fr/\t=bR [a] i
 cA:∀t∈s.cA,t∈s.aB
 bits:∀t∈s.bits,∃i,i<=fr/\t=bR [98] i
 turns:∀t∈s.turns,∃i,i<=fr/\t=bR [105] i
theorem bU.mono{fr ax:Nat}{s:Sc}(h:bU fr s)(hf:fr<=ax):bU ax s:=
 ⟨fun t ht=>by obtain⟨a,i,h1,h2,h3⟩:=h.aB t ht;exact⟨a,i,h1,by omega,h3⟩,h.cA,fun t ht=>by obtain⟨i,h1,h2⟩:=h.bits t ht;exact⟨i,by omega,h2⟩,fun t ht=>by obtain⟨i,h1,h2⟩:=h.turns t ht;exact⟨i,by omega,h2⟩⟩
theorem bU.PC{fr:Nat}{s:Sc}(h:bU fr s){t:List Nat}(ht:t∈s.aB):t∉s.turns:=fun k=>by obtain⟨a,i,h1,-,h2⟩:=h.aB t ht;obtain⟨j,-,h3⟩:=h.turns t k;have:=O7 (h2.symm.trans h3);omega
theorem bU.PB{fr:Nat}{s:Sc}(h:bU fr s){t:List Nat}(ht:t∈s.aB):t∉s.bits:=fun k=>by obtain⟨a,i,h1,-,h2⟩:=h.aB t ht;obtain⟨j,-,h3⟩:=h.bits t k;have:=O7 (h2.symm.trans h3);omega
theorem bU.QI{fr:Nat}{s:Sc}(h:bU fr s){t:List Nat}(ht:t∈s.bits):t∉s.turns:=fun k=>by obtain⟨i,-,h2⟩:=h.bits t ht;obtain⟨j,-,h3⟩:=h.turns t k;have:=O7 (h2.symm.trans h3);omega
theorem bU.agb{fr:Nat}{s:Sc}(h:bU fr s){t:List Nat}(ht:t∈s.aB):(s.look t).zB=true:=by
 rw[Sc.look,if_neg (h.PC ht),if_neg (h.PB ht)];by_cases hm:t∈s.cA
 ·rw[if_pos hm];rfl
 ·rw[if_neg hm,if_pos ht];rfl
theorem bU.af'{fr:Nat}{s:Sc}(h:bU fr s){t:List Nat}(ht:t∈s.cA):s.look t= .ki true:=by rw[Sc.look,if_neg (h.PC (h.cA t ht)),if_neg (h.PB (h.cA t ht)),if_pos ht]
theorem bU.I3{fr:Nat}{s:Sc}(h:bU fr s){t:List Nat}(ht:t∈s.bits):s.look t= .bit:=by rw[Sc.look,if_neg (h.QI ht),if_pos ht]
theorem bU.Wr{s:Sc}{t:List Nat}(ht:t∈s.turns):s.look t= .dS:=by rw[Sc.look,if_pos ht]
theorem bU.fresh{fr:Nat}{s:Sc}(h:bU fr s)(hf:fr<675)(a:Nat):bR [a] (fr+1)∉s.aB/\bR [a] (fr+1)∉s.cA/\bR [a] (fr+1)∉s.bits/\bR [a] (fr+1)∉s.turns:=by
 have h1:bR [a] (fr+1)∉s.aB:=fun k=>by obtain⟨b,i,-,h2,h3⟩:=h.aB _ k;have:=(Jf (by omega) (by omega) h3).2;omega
 refine⟨h1,fun k=>h1 (h.cA _ k),fun k=>?_,fun k=>?_⟩
 ·obtain⟨i,h2,h3⟩:=h.bits _ k;have:=(Jf (by omega) (by omega) h3).2;omega
 ·obtain⟨i,h2,h3⟩:=h.turns _ k;have:=(Jf (by omega) (by omega) h3).2;omega
theorem bU.fG{fr:Nat}{s:Sc}(h:bU fr s)(hf:fr<675)(a:Nat)(h1:97<=a)(h2:a<=122):fG s.look (bR [a] (fr+1))=0:=by obtain⟨k1,k2,k3,k4⟩:=h.fresh hf a;simp[Go.Θ.fG,pz a (fr+1) h1 h2,Sc.look,k1,k2,k3,k4]
theorem aga{fr:Nat}{s:Sc}(h:bU fr s)(hf:fr<675):(s.put (bR [113] (fr+1))).look=s.look.put (bR [113] (fr+1)) (.ki true):=by
 obtain⟨k1,k2,k3,k4⟩:=h.fresh hf 113;funext t;by_cases ht:t=bR [113] (fr+1)
 ·subst ht;simp[Sc.look,Sc.put,bX.put,k3,k4]
 ·simp[Sc.look,Sc.put,bX.put,ht]
theorem af8{fr:Nat}{s:Sc}(h:bU fr s){nm:List Nat}(hn:nm∈s.cA):(s.drop nm).look=s.look.put nm .none:=by
 have k3:=h.PB (h.cA _ hn);have k4:=h.PC (h.cA _ hn);funext t;by_cases ht:t=nm
 ·subst ht;simp[Sc.look,Sc.drop,bX.put,k3,k4]
 ·simp[Sc.look,Sc.drop,bX.put,ht]
theorem Ey{fr:Nat}{s:Sc}(h:bU fr s):s.inner.look=s.look.inner:=by
 funext t;have:=h.cA t;by_cases h1:t∈s.turns
 ·simp[Sc.look,Sc.inner,bX.inner,h1]
 ·by_cases h2:t∈s.bits
  ·simp[Sc.look,Sc.inner,bX.inner,h1,h2]
  ·by_cases h3:t∈s.cA
   ·simp[Sc.look,Sc.inner,bX.inner,h1,h2,h3,this h3]
   ·by_cases h4:t∈s.aB<;>simp[Sc.look,Sc.inner,bX.inner,h1,h2,h3,h4]
theorem af9{fr:Nat}{s:Sc}(h:bU fr s)(hf:fr<675):(s.ml (bR [114] (fr+1))).inner.look=s.look.inner.put (bR [114] (fr+1)) (.ki false):=by
 obtain⟨k1,k2,k3,k4⟩:=h.fresh hf 114;rw[<-Ey h];funext t;by_cases ht:t=bR [114] (fr+1)
 ·subst ht;simp[Sc.look,Sc.ml,Sc.inner,bX.put,k3,k4]
 ·simp[Sc.look,Sc.ml,Sc.inner,bX.put,ht];congr
theorem af_{fr:Nat}{s:Sc}(h:bU fr s):(s.dS (bR [105] (fr+1))).inner.look=s.look.inner.put (bR [105] (fr+1)) .dS:=by
 rw[<-Ey h];funext t;by_cases ht:t=bR [105] (fr+1)
 ·subst ht;simp[Sc.look,Sc.dS,Sc.inner,bX.put]
 ·simp[Sc.look,Sc.dS,Sc.inner,bX.put,ht];congr
theorem I3{fr:Nat}{s:Sc}(h:bU fr s)(hf:fr<675){nm:List Nat}(hn:nm=bR [98] (fr+1)\/nm∈s.bits):(s.bit nm).look=s.look.put nm .bit:=by
 have k4:nm∉s.turns:=by
  rcases hn with rfl|hn
  ·exact(h.fresh hf 98).2.2.2
  ·exact h.QI hn
 funext t;unfold Sc.bit;by_cases hb:nm∈s.bits
 ·rw[if_pos hb];by_cases ht:t=nm
  ·subst ht;simp[bX.put,Sc.look,k4,hb]
  ·simp[bX.put,ht]
 ·rw[if_neg hb];by_cases ht:t=nm
  ·subst ht;simp[bX.put,Sc.look,k4]
  ·simp[bX.put,Sc.look,ht]
theorem bU.put{fr:Nat}{s:Sc}(h:bU fr s):bU (fr+1) (s.put (bR [113] (fr+1))):=by
 have h':=h.mono (Ay fr);refine⟨fun t ht=>?_,fun t ht=>?_,h'.bits,h'.turns⟩
 ·rcases dT.1 ht with ht|ht
  ·exact h'.aB t ht
  ·exact⟨113,fr+1,.inl rfl,bS _,fU.1 ht⟩
 ·rcases dT.1 ht with ht|ht
  ·exact At _ (h.cA t ht)
  ·exact List.mem_append_right _ ht
theorem bU.drop{fr:Nat}{s:Sc}(h:bU fr s)(nm:List Nat):bU fr (s.drop nm):=
 ⟨fun t ht=>h.aB t (Au.1 ht).1,fun t ht=>Au.2 ⟨h.cA t (Au.1 ht).1,(Au.1 ht).2⟩,h.bits,h.turns⟩
theorem bU.inner{fr:Nat}{s:Sc}(h:bU fr s):bU fr s.inner:=
 ⟨h.aB,fun t ht=>by simp[Sc.inner]at ht,h.bits,h.turns⟩
theorem bU.ml{fr:Nat}{s:Sc}(h:bU fr s):bU (fr+1) (s.ml (bR [114] (fr+1))):=by
 have h':=h.mono (Ay fr);refine⟨fun t ht=>?_,fun t ht=>At _ (h.cA t ht),h'.bits,h'.turns⟩;rcases dT.1 ht with ht|ht
 ·exact h'.aB t ht
 ·exact⟨114,fr+1,.inr rfl,bS _,fU.1 ht⟩
theorem bU.dS{fr:Nat}{s:Sc}(h:bU fr s):bU (fr+1) (s.dS (bR [105] (fr+1))):=by
 have h':=h.mono (Ay fr);refine⟨h'.aB,h'.cA,h'.bits,fun t ht=>?_⟩;rcases dT.1 ht with ht|ht
 ·exact h'.turns t ht
 ·exact⟨fr+1,bS _,fU.1 ht⟩
theorem bU.bit{fr:Nat}{s:Sc}(h:bU fr s){nm:List Nat}(hn:nm=bR [98] (fr+1)\/nm∈s.bits):bU (fr+1) (s.bit nm):=by
 have h':=h.mono (Ay fr);unfold Sc.bit;split
 ·exact h'
 ·rename_i hb;refine⟨h'.aB,h'.cA,fun t ht=>?_,h'.turns⟩;rcases dT.1 ht with ht|ht
  ·exact h'.bits t ht
  ·rw[fU.1 ht];exact⟨fr+1,bS _,hn.resolve_right hb⟩
mutual
theorem eZ.le{bB:List (List Nat×Nat)}{d fr ax:Nat}{s s':Sc}{x:δ}(h:eZ bB d fr s x ax s'):fr<=ax:=by
 match h with
 | .gate .. =>exact bS _
 | .take .. =>exact Ay _
 | .drop .. =>exact bS _
 | .borrow _ _ h2 _ _=>have:=aR.le h2;omega
 | .measure .. =>exact Ay _
 | .reset .. =>exact bS _
 | .cond _ _ h2 h3 _ _ _ _=>have:=aR.le h2;have:=aR.le h3;omega
 | .loop _ _ _ h3 _ _=>have:=aR.le h3;omega
 | .call .. =>exact bS _
 | .qp _ h2 _ _=>exact aR.le h2
 | .within _ h2 h3 _ _ _ _=>have:=aR.le h2;have:=aR.le h3;omega
theorem aR.le{bB:List (List Nat×Nat)}{d fr ax:Nat}{s:Sc}{l:List δ}(h:aR bB d fr s l ax):fr<=ax:=by
 match h with
 | .nil=>exact bS _
 | .cons h1 h2=>have:=eZ.le h1;have:=aR.le h2;omega
end
theorem Td{α:Type}{f:α->Int}{l:List α}(h:∀x∈l,f x=0):first f l=0:=
 Gg fun j hj=>h _ (List.getElem_mem hj)
theorem bU.place{fr:Nat}{s:Sc}(h:bU fr s){p:ξ}(hp:f_ s.aB s.turns p):jt s.look p=0:=by
 have h1:=h.agb hp.nm;have h2:¬2<p.ix.length:=by have:=hp.len;omega
 rw[jt,if_neg (by rw[h1];simp),if_neg h2];exact Td fun i hi=>(hp.pn i hi).err _ (fun t ht=>by simp[iV,bU.Wr ht]) _
theorem bU.places{fr:Nat}{s:Sc}(h:bU fr s){l:List ξ}(hl:∀p∈l,f_ s.aB s.turns p):first (jt s.look) l=0:=
 Td fun p hp=>h.place (hl p hp)
theorem bU.ix{s:Sc}{i:ζ}(hi:cZ s.turns 4 i):i.err (iV s.look) 1=0:=
 hi.err _ (fun t ht=>by simp[iV,bU.Wr ht]) _
def J'(ps:List τ)(own:Nat)(bB:List (List Nat×Nat)):Prop:=∀nm k,(nm,k)∈bB->∃n q,ql ps nm=some n/\n<own/\ps[n]?=some q/\q.au.length=k
section
variable{ps:List τ}{own:Nat}{bB:List (List Nat×Nat)}(cX:J' ps own bB)
include cX
mutual
theorem eZ.ok{d fr ax:Nat}{s s':Sc}{x:δ}(h:eZ bB d fr s x ax s')(hf:ax<=675)(hs:bU fr s):
  eh ps own s.look x=0/\lv ps own x s.look=0/\after s.look x.kind x.name=s'.look/\bU ax s':=by
 match h with
 | .gate h1 h2 h3 h4 hc=>
  rename_i g cp pl
  have a1:¬(g<1\/12<g):=by omega
  refine⟨?_,by simp[bw,lv,aU],by simp[bw,after,δ.kind],hs⟩;simp[bw,eh,a1,h3,hs.places h4]
 | .take h1=>
  have om:fr<675:=by omega
  refine⟨?_,by simp[bw,lv,aU],?_,hs.put⟩
  ·simp[bw,eh,hs.fG om 113 (by omega) (by omega),bU.ix h1]
  ·rw[aga hs om];simp[bw,after,δ.kind,δ.name]
 | .drop h1=>
  refine⟨?_,by simp[bw,lv,aU],?_,hs.drop _⟩
  ·simp[bw,eh,hs.af' h1]
  ·rw[af8 hs h1];simp[bw,after,δ.kind,δ.name]
 | .borrow hd h1 h2 hc hn=>
  have hle:=aR.le h2
  have om:fr<675:=by omega
  have hb:=aR.ok h2 hf hs.ml.inner;rw[af9 hs om]at hb;refine⟨?_,?_,by simp[bw,after,δ.kind],hs.mono (by omega)⟩
  ·simp[bw,eh,hs.fG om 114 (by omega) (by omega),bU.ix h1]
  ·simp[bw,lv,aU,bm,inside,hb]
 | .measure h1 h2=>
  rename_i nm p
  have om:fr<675:=by omega
  refine⟨?_,by simp[bw,lv,aU],?_,hs.bit h2⟩
  ·rcases h2 with rfl|h2
   ·simp[bw,eh,hs.fG om 98 (by omega) (by omega),hs.place h1]
   ·simp[bw,eh,hs.I3 h2,hs.place h1]
  ·rw[I3 hs om h2];simp[bw,after,δ.kind,δ.name]
 | .reset h1=>
  refine⟨?_,by simp[bw,lv,aU],by simp[bw,after,δ.kind],hs⟩
  simp[bw,eh,hs.place h1]
 | .cond hd h1 h2 h3 hc hn gX gF=>
  have l1:=aR.le h2
  have l2:=aR.le h3;have hb:=aR.ok h2 (by omega) hs.inner;have he:=aR.ok h3 hf (hs.inner.mono l1);rw[Ey hs]at hb he;refine⟨?_,?_,by simp[bw,after,δ.kind],hs.mono (by omega)⟩
  ·simp[bw,eh,hs.I3 h1]
  ·simp[bw,lv,aU,bm,inside,hb,he]
 | .loop hd h1 h2 h3 hc hn=>
  have hle:=aR.le h3
  have om:fr<675:=by omega
  have hb:=aR.ok h3 hf hs.dS.inner;rw[af_ hs]at hb;refine⟨?_,?_,by simp[bw,after,δ.kind],hs.mono (by omega)⟩
  ·simp[bw,eh,hs.fG om 105 (by omega) (by omega),bU.ix (h1.mono (by omega)),bU.ix (h2.mono (by omega))]
  ·simp[bw,lv,aU,bm,inside,hb]
 | .call h1 h2 h3 hc=>
  obtain⟨n,q,q1,q2,q3,q4⟩:=cX _ _ h1
  have a1:¬own<=n:=by omega
  refine⟨?_,by simp[bw,lv,aU],by simp[bw,after,δ.kind],hs⟩;simp[bw,eh,q1,q3,a1,h2,q4,hs.places h3]
 | .qp hd h2 hc hn=>
  have hb:=aR.ok h2 hf hs.inner
  rw[Ey hs]at hb;refine⟨by simp[bw,eh],?_,by simp[bw,after,δ.kind],hs.mono (aR.le h2)⟩;simp[bw,lv,aU,bm,inside,hb]
 | .within hd h2 h3 hc hn gX gF=>
  have l1:=aR.le h2
  have l2:=aR.le h3;have hb:=aR.ok h2 (by omega) hs.inner;have he:=aR.ok h3 hf (hs.inner.mono l1);rw[Ey hs]at hb he;refine⟨by simp[bw,eh],?_,by simp[bw,after,δ.kind],hs.mono (by omega)⟩;simp[bw,lv,aU,bm,inside,hb,he]
theorem aR.ok{d fr ax:Nat}{s:Sc}{l:List δ}(h:aR bB d fr s l ax)(hf:ax<=675)(hs:bU fr s):gm ps own l s.look=0:=by
 match h with
 | .nil=>rfl
 | .cons h1 h2=>
  have l2:=aR.le h2
  obtain⟨a1,a2,a3,a4⟩:=eZ.ok h1 (by omega) hs;have:=aR.ok h2 hf a4;simp[gm,a1,a2,a3,this]
end
end
mutual
theorem eZ.deep{bB:List (List Nat×Nat)}{d fr ax:Nat}{s s':Sc}{x:δ}(h:eZ bB d fr s x ax s')(oY:d<=5):x.deep+d<=6:=by
 match h with
 | .gate .. =>simp[bw,δ.deep,aU,bm];omega
 | .take .. =>simp[bw,δ.deep,aU,bm];omega
 | .drop .. =>simp[bw,δ.deep,aU,bm];omega
 | .borrow hd _ h2 _ _=>have:=aR.deep h2 (by omega);simp[bw,δ.deep,aU,bm];omega
 | .measure .. =>simp[bw,δ.deep,aU,bm];omega
 | .reset .. =>simp[bw,δ.deep,aU,bm];omega
 | .cond hd _ h2 h3 _ _ _ _=>have:=aR.deep h2 (by omega);have:=aR.deep h3 (by omega);simp[bw,δ.deep,aU,bm];omega
 | .loop hd _ _ h3 _ _=>have:=aR.deep h3 (by omega);simp[bw,δ.deep,aU,bm];omega
 | .call .. =>simp[bw,δ.deep,aU,bm];omega
 | .qp hd h2 _ _=>have:=aR.deep h2 (by omega);simp[bw,δ.deep,aU,bm];omega
 | .within hd h2 h3 _ _ _ _=>have:=aR.deep h2 (by omega);have:=aR.deep h3 (by omega);simp[bw,δ.deep,aU,bm];omega
theorem aR.deep{bB:List (List Nat×Nat)}{d fr ax:Nat}{s:Sc}{l:List δ}(h:aR bB d fr s l ax)(oY:d<=5):δ.dA l+d<=6:=by
 match h with
 | .nil=>simp[δ.dA];omega
 | .cons h1 h2=>have:=eZ.deep h1 oY;have:=aR.deep h2 oY;simp only[δ.dA];omega
end
structure nU (bB:List (List Nat×Nat)) (fr ax:Nat) (x:τ):Prop where
 nm:x.name=bR [112] (fr+1)
 vj:x.au.length<=2
 au:∀i (h:i<x.au.length),x.au[i].name=bR [113] (fr+2+i)/\1<=x.au[i].size/\x.au[i].size<=12
 body:aR bB 1 (fr+1+x.au.length) ⟨x.au.map ak.name,[],[],[]⟩ x.body ax
 cnt:δ.bL x.body<=40
 K':x.cp=Φ x.au
 Sd:x.cb=Φ x.body
theorem ahR(l:List ak):∀(s:Sc),s.cA=[]->s.bits=[]->s.turns=[]->rj l s.look=({s with aB:=s.aB++l.map ak.name}:Sc).look:=by
 induction l with
 |nil=>intro s _ _ _;simp[rj]
 |cons x l ih=>
  intro s h1 h2 h3
  have e:s.look.put x.name (.ki false)=({s with aB:=s.aB++[x.name]}:Sc).look:=by
   funext t;by_cases ht:t=x.name
   ·subst ht;simp[bX.put,Sc.look,h1,h2,h3]
   ·simp[bX.put,Sc.look,h1,h2,h3,ht]
  rw[rj,e];refine(ih {s with aB:=s.aB++[x.name]} h1 h2 h3).trans ?_;simp
theorem Pe(f:Nat)(l:List ak)(k:Nat)(hk:k+l.length<=675)(h:∀i (h:i<l.length),l[i].name=bR [113] (k+1+i)/\1<=l[i].size/\l[i].size<=12):∀(s:Sc),bU k s->ri l s.look=0/\bU (k+l.length) {s with aB:=s.aB++l.map ak.name}:=by
 induction l generalizing k with
 |nil=>intro s hs;exact⟨rfl,by simpa using hs⟩
 |cons x l ih=>
  intro s hs
  obtain⟨h1,h2,h3⟩:=h 0 (by simp);simp only[kJ,qu]at h1 h2 h3;have df:k<675:=by simp at hk;omega
  obtain⟨k1,k2,k3,k4⟩:=hs.fresh df 113;have e:s.look.put x.name (.ki false)=({s with aB:=s.aB++[x.name]}:Sc).look:=by
   rw[h1];funext t;by_cases ht:t=bR [113] (k+1)
   ·subst ht;simp[bX.put,Sc.look,k2,k3,k4]
   ·simp[bX.put,Sc.look,ht]
  have tu:=hs.mono (Ay k);have ok:bU (k+1) {s with aB:=s.aB++[x.name]}:=⟨fun t ht=>by
   rcases dT.1 ht with ht|ht
   ·exact tu.aB t ht
   ·exact⟨113,k+1,.inl rfl,bS _,(fU.1 ht).trans h1⟩,fun t ht=>At _ (hs.cA t ht),tu.bits,tu.turns⟩
  obtain⟨i1,i2⟩:=ih (k+1) (by simp at hk;omega) (fun i hi=>by
   have:=h (i+1) (by simpa using hi)
   simp only[pF]at this;rwa[show k+1+(i+1)=k+1+1+i by omega]at this) _ ok
  have hn:=pz 113 (k+1) (by omega) (by omega);have gG:s.look (bR [113] (k+1))= .none:=by simp[Sc.look,k1,k2,k3,k4]
  have aL:¬(x.size<1\/12<x.size):=by omega
  refine⟨?_,?_⟩
  ·rw[<-e]at i1;simp[ri,h1,hn,gG,aL];rw[<-h1];exact i1
  ·have:k+1+l.length=k+(x::l).length:=by simp;omega
   rw[<-this];simpa using i2
theorem nU.ok{ps:List τ}{own:Nat}{bB:List (List Nat×Nat)}(cX:J' ps own bB){fr ax:Nat}{x:τ}(h:nU bB fr ax x)(hf:ax<=675)(gG:(ps.take own).any (fun p=>p.name==x.name)=false):sD ps own x=0:=by
 have hle:=aR.le h.body;have kQ:bU (fr+1) ⟨[],[],[],[]⟩:=⟨by simp,by simp,by simp,by simp⟩;obtain⟨p1,p2⟩:=Pe 0 x.au (fr+1) (by omega) (fun i hi=>by have:=h.au i hi;rwa[show fr+1+1+i=fr+2+i by omega]) _ kQ;have e0:pA=(⟨[],[],[],[]⟩:Sc).look:=by funext t;simp[pA,Sc.look]
 have hl:=ahR x.au ⟨[],[],[],[]⟩ rfl rfl rfl;simp only[bE]at p2 hl;have hb:=aR.ok cX h.body hf p2;have hd:=aR.deep h.body (by omega);have a1:¬4<x.au.length:=by have:=h.vj;omega
 have a2:¬120<δ.bL x.body:=by have:=h.cnt;omega
 have a3:¬6<δ.dA x.body:=by omega
 have hn:dc x.name=true:=by rw[h.nm];exact pz 112 _ (by omega) (by omega)
 rw[sD,e0,hl,hb,p1];simp[hn,gG,a1,a2,a3]
def ly(l:List τ):List (List Nat×Nat):=l.map fun p=>(p.name,p.au.length)
inductive gS:List τ->Nat->Prop
 |nil {fr:Nat}:gS [] fr
 |snoc {l:List τ} {x:τ} {fr ax:Nat} (h1:gS l fr) (h2:nU (ly l) fr ax x):gS (l++[x]) ax
theorem nU.le{bB:List (List Nat×Nat)}{fr ax:Nat}{x:τ}(h:nU bB fr ax x):fr+1<=ax:=by have:=aR.le h.body;omega
theorem gS.names{l:List τ}{fr:Nat}(h:gS l fr):∀x∈l,∃i,1<=i/\i<=fr/\x.name=bR [112] i:=by
 induction h with
 |nil=>intro x hx;cases hx
 |@snoc l x fr ax h1 h2 ih=>
  have hle:=h2.le
  intro y hy;rcases dT.1 hy with hy|hy
  ·obtain⟨i,a,b,c⟩:=ih y hy;exact⟨i,a,by omega,c⟩
  ·obtain rfl:=fU.1 hy;exact⟨fr+1,by omega,by omega,h2.nm⟩
theorem gS.new{l:List τ}{x:τ}{fr ax:Nat}(h1:gS l fr)(h2:nU (ly l) fr ax x)(hf:ax<=675):∀y∈l,(y.name==x.name)=false:=by intro y hy;obtain⟨i,a,b,c⟩:=h1.names y hy;have hle:=h2.le;apply beq_eq_false_iff_ne.2;rw[c,h2.nm];intro e;have:=(Jf (by omega) (by omega) e).2;omega
theorem air{l r:List τ}{nm:List Nat}{n:Nat}(h:ql l nm=some n):ql (l++r) nm=some n:=by rw[ql]at h⊢;rw[alZ,h];rfl
theorem gS.known{l:List τ}{fr:Nat}(h:gS l fr)(hf:fr<=675):∀r:List τ,J' (l++r) l.length (ly l):=by
 induction h with
 |nil=>intro r nm k hk;cases hk
 |@snoc l x fr ax h1 h2 ih=>
  have hle:=h2.le
  intro r nm k hk;rw[ly,kr]at hk;rcases dT.1 hk with hk|hk
  ·obtain⟨n,q,q1,q2,q3,q4⟩:=ih (by omega) ([x]++r) nm k hk;rw[bO];exact⟨n,q,q1,by simp;omega,q3,q4⟩
  ·simp only[az,aJ,fU,aA]at hk;obtain⟨rfl,rfl⟩:=hk;refine⟨l.length,x,air ?_,by simp,by simp,rfl⟩;rw[ql,alZ,wG.2 (h1.new h2 hf)];simp
theorem Xp{ps:List τ}:∀(l:List τ) (k:Nat),(∀i (h:i<l.length),sD ps (k+i) l[i]=0)->tI ps k l=0
 |[],_,_=>rfl
 |x::l,k,h=>by
  have h0:=h 0 (by simp);simp only[kJ,qu]at h0;have:=Xp l (k+1) fun i hi=>by have:=h (i+1) (by simpa using hi);simp only[pF]at this;rwa[show k+(i+1)=k+1+i by omega]at this
  simp[tI,h0,this]
theorem gS.each{l:List τ}{fr:Nat}(h:gS l fr)(hf:fr<=675):∀(r:List τ) (i:Nat) (hi:i<l.length),sD (l++r) i l[i]=0:=by
 induction h with
 |nil=>intro r i hi;cases hi
 |@snoc l x fr ax h1 h2 ih=>
  have hle:=h2.le
  intro r i hi;rw[bO];by_cases gN:i<l.length
  ·rw[List.getElem_append_left gN];exact ih (by omega) ([x]++r) i gN
  ·have:i=l.length:=by simp at hi;omega
   subst this;rw[List.getElem_append_right (bS _)];simp only[Nat.sub_self,kJ];refine h2.ok (h1.known (by omega) _) hf ?_;rw[List.take_left,List.any_eq_false];intro y hy;rw[h1.new h2 hf y hy];simp
theorem gS.right{l:List τ}{fr:Nat}(h:gS l fr)(hf:fr<=675)(h1:1<=l.length)(h2:l.length<=12):nw l=0:=by
 have:=Xp (ps:=l) l 0 fun i hi=>by have:=h.each hf [] i hi;simpa using this
 rw[nw,if_neg (by omega),this]
theorem v8(a i:Nat)(ha:a<256):du (bR [a] i):=by intro b hb;have h3:i/26 % 26<26:=mC _ (by decide);have h4:i % 26<26:=mC _ (by decide);simp only[bR,cG,bE,cy,List.not_mem_nil,or_false]at hb;omega
theorem bU.str{fr:Nat}{s:Sc}(h:bU fr s):(∀t∈s.aB,du t)/\(∀t∈s.cA,du t)/\(∀t∈s.bits,du t)/\(∀t∈s.turns,du t):=by
 have h1:∀t∈s.aB,du t:=fun t ht=>by obtain⟨a,i,h1,-,rfl⟩:=h.aB t ht;exact v8 a i (by omega)
 refine⟨h1,fun t ht=>h1 t (h.cA t ht),fun t ht=>?_,fun t ht=>?_⟩
 ·obtain⟨i,-,rfl⟩:=h.bits t ht;exact v8 98 i (by omega)
 ·obtain⟨i,-,rfl⟩:=h.turns t ht;exact v8 105 i (by omega)
theorem aae{α:Type}{l:List α}(h:Φ l= .nil):l=[]:=by cases l<;>first|rfl|cases h
theorem zO:du []:=fun b hb=>by cases hb
theorem cZ.EI{ts:List (List Nat)}{s:Nat}{i:ζ}(h:cZ ts s i)(ht:∀t∈ts,du t):i.gA:=by
 induction h with
 |fix h1 h2=>exact⟨by simp[ζ.Ok,ζ.cJ,bp],by simp[ζ.rB,ζ.Strs,zO]⟩
 |dS h=>exact⟨by simp[ζ.Ok,ζ.cJ,bp],by simp[ζ.rB,ζ.Strs,ht _ h]⟩
 |bin h0 h1 h2 ha hb dM gx=>exact⟨by simp[ζ.Ok,ζ.cJ,bp,dM.1,gx.1],by simp[ζ.rB,ζ.Strs,zO,dM.2,gx.2]⟩
theorem mY:jE.gA:=⟨by simp[jE,ζ.Ok,ζ.cJ,bp],by simp[jE,ζ.rB,ζ.Strs,zO]⟩
theorem f_.ok{fr:Nat}{s:Sc}(hs:bU fr s){p:ξ}(h:f_ s.aB s.turns p):p.Ok:=
 ⟨hs.str.1 _ h.nm,by rw[h.cp];split<;>simp[bp],fun x hx=>(h.pn x hx).EI hs.str.2.2.2⟩
theorem eZ.sc{bB:List (List Nat×Nat)}{d fr ax:Nat}{s s':Sc}{x:δ}(h:eZ bB d fr s x ax s')(hs:bU fr s):bU ax s':=by
 have hle:=h.le;cases h with
 |take _=>exact hs.put
 |drop _=>exact hs.drop _
 |measure _ h2=>exact hs.bit h2
 |_=>exact hs.mono hle
section
variable{bB:List (List Nat×Nat)}(cX:∀nm k,(nm,k)∈bB->du nm)
include cX
mutual
theorem eZ.str{d fr ax:Nat}{s s':Sc}{x:δ}(h:eZ bB d fr s x ax s')(hs:bU fr s):x.Ok:=by
 have c0:bp .nil:= .inl rfl;have c1:bp .any:= .inr rfl
 match h with
 | .gate h1 h2 h3 h4 hc=>exact⟨zO,hc▸kN _,fun p hp=>(h4 p hp).ok hs,mY,mY,c0,trivial,c0,trivial⟩
 | .take h1=>exact⟨v8 113 _ (by omega),c0,by simp,h1.EI hs.str.2.2.2,mY,c0,trivial,c0,trivial⟩
 | .drop h1=>exact⟨hs.str.2.1 _ h1,c0,by simp,mY,mY,c0,trivial,c0,trivial⟩
 | .borrow hd h1 h2 hc hn=>exact⟨v8 114 _ (by omega),c0,by simp,h1.EI hs.str.2.2.2,mY,hc,aR.str h2 hs.ml.inner,c0,trivial⟩
 | .measure h1 h2=>
  refine⟨?_,c1,by simpa using h1.ok hs,mY,mY,c0,trivial,c0,trivial⟩
  rcases h2 with rfl|h2
  ·exact v8 98 _ (by omega)
  ·exact hs.str.2.2.1 _ h2
 | .reset h1=>exact⟨zO,c1,by simpa using h1.ok hs,mY,mY,c0,trivial,c0,trivial⟩
 | .cond hd h1 h2 h3 hc hn gX gF=>exact⟨hs.str.2.2.1 _ h1,c0,by simp,mY,mY,hc,aR.str h2 hs.inner,gX,aR.str h3 (hs.inner.mono (aR.le h2))⟩
 | .loop hd h1 h2 h3 hc hn=>exact⟨v8 105 _ (by omega),c0,by simp,h1.EI hs.str.2.2.2,h2.EI hs.str.2.2.2,hc,aR.str h3 hs.dS.inner,c0,trivial⟩
 | .call h1 h2 h3 hc=>exact⟨cX _ _ h1,hc▸kN _,fun p hp=>(h3 p hp).ok hs,mY,mY,c0,trivial,c0,trivial⟩
 | .qp hd h2 hc hn=>exact⟨zO,c0,by simp,mY,mY,hc,aR.str h2 hs.inner,c0,trivial⟩
 | .within hd h2 h3 hc hn gX gF=>exact⟨zO,c0,by simp,mY,mY,hc,aR.str h2 hs.inner,gX,aR.str h3 (hs.inner.mono (aR.le h2))⟩
theorem aR.str{d fr ax:Nat}{s:Sc}{l:List δ}(h:aR bB d fr s l ax)(hs:bU fr s):δ.cJ l:=by
 match h with
 | .nil=>trivial
 | .cons h1 h2=>exact⟨eZ.str h1 hs,aR.str h2 (h1.sc hs)⟩
end
end
theorem aix{l:List τ}{fr:Nat}(h:gS l fr):∀nm k,(nm,k)∈ly l->du nm:=by intro nm k hk;obtain⟨x,hx,e⟩:=eP.1 hk;obtain⟨i,-,-,h3⟩:=h.names x hx;rw[aA]at e;rw[<-e.1,h3];exact v8 112 i (by omega)
theorem nU.str{bB:List (List Nat×Nat)}(cX:∀nm k,(nm,k)∈bB->du nm){fr ax:Nat}{x:τ}(h:nU bB fr ax x)(hf:ax<=675):x.Ok:=by have hle:=aR.le h.body;have kQ:bU (fr+1) ⟨[],[],[],[]⟩:=⟨by simp,by simp,by simp,by simp⟩;obtain⟨-,p2⟩:=Pe 0 x.au (fr+1) (by omega) (fun i hi=>by have:=h.au i hi;rwa[show fr+1+1+i=fr+2+i by omega]) _ kQ;simp only[bE]at p2;refine⟨by rw[h.nm];exact v8 112 _ (by omega),h.K'▸kN _,fun y hy=>?_,h.Sd▸kN _,aR.str cX h.body p2,fun e=>aae (h.K'▸e)⟩;exact p2.str.1 _ (eP.2 ⟨y,hy,rfl⟩)
theorem gS.str{l:List τ}{fr:Nat}(h:gS l fr)(hf:fr<=675):∀x∈l,x.Ok:=by
 induction h with
 |nil=>intro x hx;cases hx
 |@snoc l x fr ax h1 h2 ih=>
  have hle:=h2.le
  intro y hy;rcases dT.1 hy with hy|hy
  ·exact ih (by omega) y hy
  ·obtain rfl:=fU.1 hy;exact h2.str (aix h1) hf
theorem cZ.CR{ts:List (List Nat)}{s:Nat}{i:ζ}(h:cZ ts s i)(hs:s<=4):i.cnt<=7:=by have:=(h.mono hs).cnt;simp at this;omega
theorem ady{ts:List (List Nat)}(l:List ζ)(h:∀i∈l,cZ ts 4 i):ζ.bL l<=7*l.length:=by
 induction l with
 |nil=>simp[ζ.bL]
 |cons a l ih=>
  have h1:=(h a (by simp)).CR (by omega)
  have h2:=ih fun i hi=>h i (by simp[hi]);simp only[ζ.bL,cD];omega
theorem f_.wt{rs ts:List (List Nat)}{p:ξ}(h:f_ rs ts p):p.wt<=15:=by have h1:=ady p.ix h.pn;have h2:=h.len;rw[ξ.wt];omega
theorem Xh{rs ts:List (List Nat)}(l:List ξ)(h:∀p∈l,f_ rs ts p):eR l<=15*l.length:=by
 induction l with
 |nil=>simp[eR]
 |cons a l ih=>
  have h1:=(h a (by simp)).wt
  have h2:=ih fun i hi=>h i (by simp[hi]);simp only[eR,cD];omega
theorem uE:jE.cnt=1:=rfl
theorem Qz(g:Int):gb g<=3:=by
 unfold gb;split
 ·omega
 ·split<;>omega
section
variable{bB:List (List Nat×Nat)}(cX:∀nm k,(nm,k)∈bB->k<=3)
include cX
mutual
theorem eZ.wt{d fr ax:Nat}{s s':Sc}{x:δ}(h:eZ bB d fr s x ax s'):x.wt<=60*x.cnt:=by
 match h with
 | .gate (pl:=pl) h1 h2 h3 h4 hc=>
  have a:=Xh pl h4
  have b:=Qz;rw[h3]at a;have b:=Qz ‹Int›;simp[bw,δ.wt,δ.bI,δ.cnt,aU,bm,uE];omega
 | .take h1=>have:=h1.CR (by omega);simp[bw,δ.wt,δ.bI,δ.cnt,aU,bm,uE,eR];omega
 | .drop h1=>simp[bw,δ.wt,δ.bI,δ.cnt,aU,bm,uE,eR]
 | .borrow hd h1 h2 hc hn=>have:=h1.CR (by omega);have:=aR.wt h2;simp[bw,δ.wt,δ.bI,δ.cnt,aU,bm,uE,eR];omega
 | .measure h1 h2=>have:=h1.wt;simp[bw,δ.wt,δ.bI,δ.cnt,aU,bm,uE,eR];omega
 | .reset h1=>have:=h1.wt;simp[bw,δ.wt,δ.bI,δ.cnt,aU,bm,uE,eR];omega
 | .cond hd h1 h2 h3 hc hn gX gF=>have:=aR.wt h2;have:=aR.wt h3;simp[bw,δ.wt,δ.cnt,aU,bm,uE,eR];omega
 | .loop hd h1 h2 h3 hc hn=>have:=h1.CR (by omega);have:=h2.CR (by omega);have:=aR.wt h3;simp[bw,δ.wt,δ.bI,δ.cnt,aU,bm,eR];omega
 | .call (pl:=pl) h1 h2 h3 hc=>
  have a:=Xh pl h3
  have b:=cX _ _ h1;simp[bw,δ.wt,δ.bI,δ.cnt,aU,bm,uE];omega
 | .qp hd h2 hc hn=>have:=aR.wt h2;simp[bw,δ.wt,δ.bI,δ.cnt,aU,bm,uE,eR];omega
 | .within hd h2 h3 hc hn gX gF=>have:=aR.wt h2;have:=aR.wt h3;simp[bw,δ.wt,δ.cnt,aU,bm,uE,eR];omega
theorem aR.wt{d fr ax:Nat}{s:Sc}{l:List δ}(h:aR bB d fr s l ax):δ.bI l<=60*δ.bL l:=by
 match h with
 | .nil=>simp[δ.bI]
 | .cons h1 h2=>have:=eZ.wt h1;have:=aR.wt h2;simp only[δ.bI,δ.bL];omega
end
end
theorem gS.vj{l:List τ}{fr:Nat}(h:gS l fr):∀x∈l,x.au.length<=2:=by
 induction h with
 |nil=>intro x hx;cases hx
 |@snoc l x fr ax h1 h2 ih=>
  intro y hy
  rcases dT.1 hy with hy|hy
  ·exact ih y hy
  ·obtain rfl:=fU.1 hy;exact h2.vj
theorem aij(a b:List τ):g_ (a++b)=g_ a+g_ b:=by
 induction a with
 |nil=>simp[g_]
 |cons x a ih=>simp only[cG,g_,ih];omega
theorem gS.wt{l:List τ}{fr:Nat}(h:gS l fr):g_ l<=2403*l.length:=by
 induction h with
 |nil=>simp[g_]
 |@snoc l x fr ax h1 h2 ih=>
  have hf:=h1.vj
  have hb:=aR.wt (bB:=ly l) (fun nm k hk=>by
   obtain⟨y,hy,e⟩:=eP.1 hk
   rw[aA]at e;have:=hf y hy;omega) h2.body
  have h3:=h2.vj;have h4:=h2.cnt;rw[aij];simp only[g_,τ.wt,cI,cD,eO];omega
end Go.Θ.Tz
namespace Go.Θ
theorem KY{C:iL}{f:FuncId}{g:AF}{args:List AV}{m:Mem}{ex:Ex}{s':St}{l:List AV}(hf:C.alts f=some g)
  (hx:exec C.gl (ab C) dN g.code {env:=args.map (exp m.ε.length true),loc:=[],mem:= {ε:=m.ε,η:=[]}}=some (ex,s')) (hex:∀i,ex≠ .exit i) (hl:cK s' g.results=some l):
  ab C (.fn (.methodOf f "") [] []) args m=some (exp s'.mem.ε.length true (cL l),{ε:=s'.mem.ε,η:=m.η++s'.mem.η}):=by
 apply sS;simp only[body,hf,bE,dF,hx];cases ex with
 |exit i=>exact absurd rfl (hex i)
 |_=>simp only[fin,hl];rfl
end Go.Θ
namespace Go.Θ.Tz
open Go.Θ
variable{u:Nat}
attribute [local simp] exec dY dP eX aI dw fA eN aK fL bQ iu iE iM jd lG AV.cells newVar iX rd wr gT single dk cE e_ ew κ cK RV.get cL fT kz rO
theorem JJ(l:List (List Nat)):(l.map AV.str).all (shaped false 1)=true:=by rw[dO];intro x hx;obtain⟨s,-,rfl⟩:=eP.1 hx;rfl
theorem X8(l:List (List Nat)):(l.map AV.str).all AV.one=true:=by rw[dO];intro x hx;obtain⟨s,-,rfl⟩:=eP.1 hx;rfl
theorem X7(m:Mem)(l:List (List Nat)):(l.map AV.str).map m.ν=l.map AV.str:=by rw[cT];rfl
theorem aj'(l:List (List Nat)):(l.map AV.str).flatMap AV.cells=l.map AV.str:=by
 induction l with
 |nil=>rfl
 |cons a l ih=>rw[az,List.flatMap_cons,ih];rfl
def uT(l:List (List Nat))(nm:List Nat):Int:=match l.findIdx? (·==nm)with
 |none=> -1
 |some i=>(i:Int)
theorem aic{l:List (List Nat)}{nm:List Nat}(h:∀x∈l,(x==nm)=false):uT l nm= -1:=by rw[uT,wG.2 fun x hx=>h x hx]
theorem aid{l:List (List Nat)}{nm:List Nat}{i:Nat}(hi:i<l.length)(h1:(l[i]==nm)=true)(h2:∀j (hj:j<i),(l[j]==nm)=false):uT l nm=i:=by rw[uT,tU.2 ⟨hi,h1,fun j hj=>by simp[h2 j hj]⟩]
theorem f185{B:List θ}{q:Nat}{a b:AV}{nm:List Nat}{rest:List AV}(hq:B[q]?=some (.cells (a::b:: .str nm::rest)))(s:List Nat)(T:List Nat):
  ab (C u) (.fn (.func 185) [] [.μ q 0]) [.str s] {ε:=B,η:=T}=some (.bool (s==nm),{ε:=B,η:=T}):=by
 have uy:q<B.length:=(fB.1 hq).1;have eL:([AV.str s]++[AV.μ q 0]).map (exp B.length true)=[.str s,.μ q 0]:=by simp[exp,uy]
 have:∃s',exec (C u).gl (ab (C u)) dN A_.code {env:=[.str s,.μ q 0],loc:=[],mem:= {ε:=B,η:=[]}}=some (.ret,s')/\s'.mem= {ε:=B,η:=[]}/\cK s' A_.results=some [.bool (s==nm)]:=by
  have:decide (s=nm)=(s==nm):=by rw[Bool.eq_iff_iff];simp
  simp[A_,Q_,hq,this]
 obtain⟨s',q1,q2,q3⟩:=this
 try unfold kf
 rw[sP (g:=A_) (ex:= .ret) rfl rfl rfl (by rw[eL];exact q1) (by simp) q3,q2];simp[cL,exp]
theorem f224{B:List θ}{q id:Nat}{a b:AV}{nm:List Nat}{rest:List AV}(hq:B[q]?=some (.cells (a::b:: .str nm::rest)))(l:List (List Nat))(hl:l.length<1000000000)(cap:Nat)(hid:B[id]?=some (.cells (l.map AV.str)))(T:List Nat):
  kf u 224 [.sl 0 id 0 l.length cap,.fn (.func 185) [] [.μ q 0]] {ε:=B,η:=T}=some (.n (uT l nm),{ε:=B,η:=T}):=by
 have uy:q<B.length:=(fB.1 hq).1;have DJ:id<B.length:=(fB.1 hid).1;have e:=f185 (u:=u) hq;refine ED (B':=B) (g:=Bb) rfl rfl rfl rfl (by simp[exp,aX,uy,DJ,Fn.below]) ?_ T;let M:St->Prop:=fun st=>st.e 0= .sl 0 id 0 l.length cap/\st.e 1= .fn (.func 185) [] [.μ q 0]/\st.mem= {ε:=B,η:=[]};unfold Bb KL;refine Δ (M) (by simp[M]) fun s1 ⟨h0,h1,dE⟩=>?_;refine bJ (fun st=>st.mem= {ε:=B,η:=[]}/\∀x∈l,(x==nm)=false) ?_ fun s2 ⟨dE,gG⟩=>?_
 ·refine Δ (fun st=>M st/\st.e 7= .n l.length/\st.e 8= .n 0) (by simp[M,h0,h1,dE]) fun s2 ⟨⟨h0,h1,dE⟩,h7,h8⟩=>?_;let I:Nat->St->Prop:=fun i st=>(M st/\st.e 7= .n l.length/\st.e 8= .n (i:Int))/\∀j (hj:j<i) (hl:j<l.length),(l[j]==nm)=false;refine κ.block (κ.kp (I:=I) l.length ⟨⟨⟨h0,h1,dE⟩,h7,h8⟩,fun j hj=>by omega⟩ fun i st hi ⟨⟨⟨h0,h1,dE⟩,h7,h8⟩,gG⟩=>?_);unfold OA;by_cases gN:i<l.length
  ·have kB:bC .i64 ((i:Int)+1)=(i:Int)+1:=wrap_i64 (by omega) (by omega);have Ic:(i:Int)<l.length:=by omega
   have ma:(l.map AV.str)[i]?=some (.str l[i]):=by rw[lB,dn gN];rfl
   have oz:((l.map AV.str).drop i).take 1=[.str l[i]]:=by rw[nk (by simpa using gN)];simp
   have UM:i+1<=l.length:=gN;cases hb:(l[i]==nm)with
   |true=>
    refine κ.done .ret (fun st=>st.mem= {ε:=B,η:=[]}/\st.e 4= .n (i:Int)) (by simp[h0,h1,dE,h7,h8,Ic,gN,hid,oz,UM,e,hb]) fun s' ⟨m1,m2⟩=> .inr ⟨by simp,.inr ⟨by simp,.inr ⟨by simp,by simp,⟨[],by simp[m1]⟩,[.n (i:Int)],by simp[m2],?_⟩⟩⟩
    simp[aid gN hb fun j hj=>gG j hj (by omega)]
   |false=>
    refine κ.done .normal (fun st=>M st/\st.e 7= .n l.length/\st.e 8= .n ((i:Int)+1)) (by simp[M,h0,h1,dE,h7,h8,Ic,gN,hid,oz,UM,e,hb,kB]) fun s' ⟨m1,m2,m3⟩=> .inl ⟨rfl,gN,⟨m1,m2,by rw[m3];simp⟩,fun j hj rX=>?_⟩
    by_cases me:j=i
    ·subst me;exact hb
    ·exact gG j (by omega) rX
  ·have Ic:¬(i:Int)<l.length:=by omega
   refine κ.done (.exit 0) (fun st=>st.mem= {ε:=B,η:=[]}) (by simp[h0,h1,dE,h7,h8,Ic,gN]) fun s' m1=> .inr ⟨by simp,.inl ⟨rfl,.inl ⟨rfl,m1,fun x hx=>?_⟩⟩⟩;obtain⟨j,hj,rfl⟩:=u_ hx;exact gG j (by omega) hj
 ·refine κ.done .ret (fun st=>st.mem= {ε:=B,η:=[]}/\st.e 4= .n (-1)) (by simp[dE]) fun s' ⟨m1,m2⟩=>⟨by simp,⟨[],by simp[m1]⟩,[.n (-1)],by simp[m2],by simp[aic gG]⟩
theorem PJ{B:List θ}{id:Nat}{b:θ}(h:B[id]?=some b):B.set id b=B:=by
 apply List.ext_getElem?;intro i;rw[List.getElem?_set];split
 ·rename_i hi;subst hi;rw[if_pos (fB.1 h).1,h]
 ·rfl
theorem ai3(n:Nat):(rep n [AV.str []]).length=n:=by
 induction n with
 |zero=>rfl
 |succ n ih=>simp[rep,ih]
theorem XJ(n:Nat):∀x∈rep n [AV.str []],x= .str []:=by
 induction n with
 |zero=>intro x hx;cases hx
 |succ n ih=>
  intro x hx
  rcases cy.1 hx with rfl|hx
  ·rfl
  ·exact ih x hx
theorem ai5(m:Mem)(n:Nat):(rep n [AV.str []]).map m.ν=rep n [AV.str []]:=by refine(de fun x hx=>?_).trans (List.map_id _);rw[XJ n x hx];rfl
theorem ai4(i n:Nat):ba i (rep n [AV.str []])=true:=by rw[mn,dO];intro x hx;rw[XJ n x hx];rfl
def hH(nm:List Nat)(l:List (List Nat)):List (List Nat):=l.filter fun x=>!(x==nm)
theorem XT(nm:List Nat)(l:List (List Nat))(j:Nat)(hj:j<l.length):hH nm (l.take (j+1))=hH nm (l.take j)++if l[j]==nm then[]else[l[j]]:=by rw[List.take_succ_eq_append_getElem hj,hH,List.filter_append];congr 1;cases h:(l[j]==nm)<;>simp[h]
theorem XS{nm:List Nat}{l:List (List Nat)}(h:∀x∈l,(x==nm)=false):hH nm l=l:=
 List.filter_eq_self.2 fun x hx=>by simp only[h x hx,Bool.not_false]
structure Row (nm:List Nat) (l:List (List Nat)) (D:List AV) (j k:Nat):Prop where
 len:D.length=l.length
 hk:k=(hH nm (l.take j)).length
 fst:D.take k=(hH nm (l.take j)).map AV.str
 snd:D.drop j=(l.drop j).map AV.str
theorem Row.get{nm:List Nat}{l:List (List Nat)}{D:List AV}{j k:Nat}(h:Row nm l D j k)(hj:j<l.length):(D.drop j).take 1=[.str l[j]]:=by rw[h.snd,nk hj];rfl
theorem Row.skip{nm:List Nat}{l:List (List Nat)}{D:List AV}{j k:Nat}(h:Row nm l D j k)(hj:j<l.length)(hb:(l[j]==nm)=true):Row nm l D (j+1) k:=by
 have e:hH nm (l.take (j+1))=hH nm (l.take j):=by rw[XT nm l j hj,hb];simp
 exact⟨h.len,by rw[e];exact h.hk,by rw[e];exact h.fst,by rw[<-oL,h.snd,<-al0,oL]⟩
theorem Row.bf{nm:List Nat}{l:List (List Nat)}{D:List AV}{j k:Nat}(h:Row nm l D j k)(hj:j<l.length)(vF:k<j)(hb:(l[j]==nm)=false):Row nm l (D.take k++([.str l[j]]++D.drop (k+1))) (j+1) (k+1):=by
 have e:hH nm (l.take (j+1))=hH nm (l.take j)++[l[j]]:=by rw[XT nm l j hj,hb];simp
 have hl:=h.len;have h1:(D.take k).length=k:=by simp;omega
 refine⟨by simp;omega,by rw[e,cI,<-h.hk];rfl,?_,?_⟩
 ·rw[al1,h1,fo (by omega),show k+1-k=1 by omega,e,kr,h.fst];rfl
 ·rw[List.drop_append,h1,List.drop_eq_nil_of_le (by omega),bE,show j+1-k=1+(j-k) by omega,<-oL];show al2 (j-k) (D.drop (k+1))=_;rw[oL,show k+1+(j-k)=j+1 by omega,<-oL,h.snd,<-al0,oL]
theorem f186{B:List θ}{q id:Nat}{a b:AV}{nm:List Nat}{rest:List AV}(hqi:id≠q)(hq:B[q]?=some (.cells (a::b:: .str nm::rest)))(l:List (List Nat))(hl:l.length<1000000000)(cap:Nat)(hid:B[id]?=some (.cells (l.map AV.str))):
  ∃D:List AV,D.length=l.length/\D.take (hH nm l).length=(hH nm l).map AV.str/\∀T,kf u 186 [.sl 0 id 0 l.length cap,.fn (.func 185) [] [.μ q 0]] {ε:=B,η:=T}=some (.sl 0 id 0 (hH nm l).length cap,{ε:=B.set id (.cells D),η:=T}):=by
 have uy:q<B.length:=(fB.1 hq).1;have DJ:id<B.length:=(fB.1 hid).1;have aa0:=f224 (u:=u) hq l hl cap hid;have SF:∀D s T,ab (C u) (.fn (.func 185) [] [.μ q 0]) [.str s] {ε:=B.set id (.cells D),η:=T}=some (.bool (s==nm),{ε:=B.set id (.cells D),η:=T}):=fun D s T=>f185 (u:=u) (B:=B.set id (.cells D)) (by rw[gR hqi];exact hq) s T;have M_:∀D,(B.set id (.cells D))[id]?=some (.cells D):=fun D=>by simp[DJ]
 have hx:[AV.sl 0 id 0 l.length cap,.fn (.func 185) [] [.μ q 0]].map (exp B.length false)=[.sl 0 id 0 l.length cap,.fn (.func 185) [] [.μ q 0]]:=by simp[exp,aX,uy,DJ,Fn.below]
 have hr:κ (C u).gl (ab (C u)) wY.code {env:=[.sl 0 id 0 l.length cap,.fn (.func 185) [] [.μ q 0]],loc:=[],mem:= {ε:=B,η:=[]}} fun r=>
   (∀i,r.1≠ .exit i)/\∃D:List AV,(D.length=l.length/\D.take (hH nm l).length=(hH nm l).map AV.str)/\r.2.mem= {ε:=B.set id (.cells D),η:=[]}/\aK r.2.env 4= .sl 0 id 0 (hH nm l).length cap:=by
  let M:List AV->St->Prop:=fun D st=>aK st.env 0= .sl 0 id 0 l.length cap/\aK st.env 1= .fn (.func 185) [] [.μ q 0]/\st.mem= {ε:=B.set id (.cells D),η:=[]};have Mx:=PJ hid;unfold wY KI;refine Δ (M (l.map .str)) (by simp[M,Mx]) fun s1 ⟨h0,h1,dE⟩=>?_;rw[Mx]at dE;refine Δ (fun st=>M (l.map .str) st/\aK st.env 5= .int .i64 (uT l nm)) (by simp[M,Mx,h0,h1,dE,aa0]) fun s2 ⟨⟨h0,h1,dE⟩,h5⟩=>?_;cases hf:l.findIdx? (·==nm)with
  |none=>
   have hp:uT l nm= -1:=by rw[uT,hf]
   have gG:=wG.1 hf;rw[hp]at h5;have hs:=XS (nm:=nm) (l:=l) gG;refine bJ (fun _=>False) (κ.done .ret (fun st=>st.mem= {ε:=B.set id (.cells (l.map .str)),η:=[]}/\aK st.env 4= .sl 0 id 0 l.length cap) (by simp[h0,h1,dE,h5]) fun s' ⟨m1,m2⟩=> .inr ⟨by simp,by simp,l.map .str,⟨by simp,by rw[hs];exact fo (by simp)⟩,m1,by rw[m2,hs]⟩) fun s h=>h.elim
  |some i0=>
   have hp:uT l nm=i0:=by rw[uT,hf]
   obtain⟨th,gL,fM⟩:=tU.1 hf;rw[hp]at h5;have zn:¬(i0:Int)= -1:=by omega
   have w0:bC .i64 ((i0:Int)+1)=((i0+1:Nat):Int):=by rw[wrap_i64 (by omega) (by omega)];simp
   have kQ:hH nm (l.take i0)=l.take i0:=XS fun x hx=>by
    obtain⟨j,hj,rfl⟩:=u_ hx;have me:j<i0:=by simp at hj;omega
    have:=fM j me;simpa using this
   have R0:Row nm l (l.map .str) i0 i0:=⟨by simp,by rw[kQ];simp;omega,by rw[kQ,al3],by rw[al0]⟩;have R1:=R0.skip th gL;refine bJ (fun st=>M (l.map .str) st/\aK st.env 5= .int .i64 (i0:Int)) (κ.done .normal (fun st=>M (l.map .str) st/\aK st.env 5= .int .i64 (i0:Int)) (by simp[M,h0,h1,dE,h5,zn]) fun s' h=> .inl ⟨rfl,h⟩) fun s3 ⟨⟨h0,h1,dE⟩,h5⟩=>?_;refine bJ (fun st=>∃D k,M D st/\Row nm l D l.length k/\k<l.length/\aK st.env 5= .int .i64 (k:Int)) ?_ fun s4 ⟨D,k,⟨h0,h1,dE⟩,hR,hk,h5⟩=>?_
   ·refine Δ (fun st=>M (l.map .str) st/\aK st.env 5= .int .i64 (i0:Int)/\aK st.env 6= .int .i64 ((i0+1:Nat):Int)) (by simp only[alV,wF]at w0⊢;simp[M,h0,h1,dE,h5,w0]) fun s4 ⟨⟨h0,h1,dE⟩,h5,h6⟩=>?_;let I:Nat->St->Prop:=fun r st=>∃D k j,j=i0+1+r/\M D st/\Row nm l D j k/\k<j/\aK st.env 5= .int .i64 (k:Int)/\aK st.env 6= .int .i64 (j:Int);refine κ.block (κ.kp (I:=I) (l.length-(i0+1)) ⟨_,_,_,rfl,⟨h0,h1,dE⟩,R1,Nat.lt_succ_self _,h5,h6⟩ fun r st hr ⟨D,k,j,hj,⟨h0,h1,dE⟩,hR,hk,h5,h6⟩=>?_);unfold VY;by_cases rX:j<l.length
    ·have lO:(j:Int)<l.length:=by omega
     have wj:bC .i64 ((j:Int)+1)=(j:Int)+1:=wrap_i64 (by omega) (by omega);have wk:bC .i64 ((k:Int)+1)=(k:Int)+1:=wrap_i64 (by omega) (by omega);have hg:=hR.get rX;have yO:=hR.len;have UP:j+1<=l.length:=rX;have pZ:k+1<=l.length:=by omega
     have ux:k<l.length:=by omega
     have Nq:(k:Int)<l.length:=by omega
     cases hb:(l[j]==nm)with
     |true=>refine κ.done .normal (fun st=>M D st/\aK st.env 5= .int .i64 (k:Int)/\aK st.env 6= .int .i64 ((j:Int)+1)) (by simp[M,h0,h1,dE,h5,h6,lO,rX,M_,hg,yO,UP,SF,hb,wj]) fun s' ⟨m1,m2,m3⟩=> .inl ⟨rfl,by omega,D,k,j+1,by omega,m1,hR.skip rX hb,by omega,m2,by rw[m3];simp⟩
     |false=>refine κ.done .normal (fun st=>M (D.take k++([.str l[j]]++D.drop (k+1))) st/\aK st.env 5= .int .i64 ((k:Int)+1)/\aK st.env 6= .int .i64 ((j:Int)+1)) (by simp[M,h0,h1,dE,h5,h6,lO,rX,M_,hg,yO,UP,SF,hb,wj,wk,Nq,ux,pZ,Mem.put,Mem.ν,ν,ba,lo]) fun s' ⟨m1,m2,m3⟩=> .inl ⟨rfl,by omega,_,k+1,j+1,by omega,m1,hR.bf rX hk hb,by omega,by rw[m2];simp,by rw[m3];simp⟩
    ·have lO:¬(j:Int)<l.length:=by omega
     obtain rfl:j=l.length:=by omega
     refine κ.done (.exit 0) (fun st=>M D st/\aK st.env 5= .int .i64 (k:Int)) (by simp[M,h0,h1,dE,h5,h6]) fun s' ⟨m1,m2⟩=> .inr ⟨by simp,.inl ⟨rfl,.inl ⟨rfl,D,k,m1,hR,hk,m2⟩⟩⟩
   ·have yO:=hR.len;have eI:k=(hH nm l).length:=by have:=hR.hk;rwa[pH]at this
    have xm:D.take k=(hH nm l).map AV.str:=by have:=hR.fst;rwa[pH]at this
    have US:(k:Int)<=l.length:=by omega
    have gE:k<=l.length:=by omega
    have dh:¬l.length-k=0:=by omega
    have kB:k+(l.length-k)=l.length:=by omega
    generalize hZ:rep (l.length-k) [AV.str []]=Z;have Ul:Z.length=l.length-k:=by rw[<-hZ,ai3]
    have hZn:∀m:Mem,Z.map m.ν=Z:=fun m=>by rw[<-hZ];exact ai5 m _
    have hZo:ba id Z=true:=by rw[<-hZ];exact ai4 _ _
    refine Δ (fun st=>M (D.take k++(Z++D.drop (k+Z.length))) st/\aK st.env 5= .int .i64 (k:Int)) (by simp[M,h0,h1,dE,h5,bound,US,gE,hk,dh,M_,hZ,Ul,yO,kB,Mem.put,hZn,hZo]) fun s5 ⟨⟨h0,h1,dE⟩,h5⟩=>?_;refine κ.done .ret (fun st=>st.mem= {ε:=B.set id (.cells (D.take k++(Z++D.drop (k+Z.length)))),η:=[]}/\aK st.env 4= .sl 0 id 0 k cap) (by simp[h0,h1,dE,h5,bound,US,gE]) fun s' ⟨m1,m2⟩=>⟨by simp,_,⟨?_,?_⟩,m1,by rw[m2,eI]⟩
    ·simp[Ul,yO];omega
    ·rw[<-eI,al1,fo (by simp[yO];omega),xm];have:k-(hH nm l).length=0:=by omega
     simp[yO,Nat.min_eq_left gE,this]
 obtain⟨r,qX,h1,D,⟨TZ,HQ⟩,h2,h3⟩:=hr;refine⟨D,TZ,HQ,fun T=>?_⟩;refine ED (u:=u) (f:=186) (g:=wY) (B:=B) (B':=B.set id (.cells D)) rfl rfl rfl (by simp) hx ⟨r,qX,h1,⟨[],by simp[h2]⟩,[.sl 0 id 0 (hH nm l).length cap],by simp[wY,h3],?_⟩ T;simp[aO,fK,DJ]
theorem aaf(c:ρ)(n m:Nat):(c.exp n false).exp m false=c.exp 0 false:=by cases c<;>simp[ρ.exp]
theorem abk{B:List θ}{q:Nat}(uy:q<B.length)(c:ρ)(T:List Nat):
  kf u 224 [.list c [],.fn (.func 185) [] [.μ q 0]] {ε:=B,η:=T}=some (.n (-1),{ε:=B,η:=T}):=by
 refine kF (B:=B) (g:=Bb) rfl rfl rfl rfl ?_;simp only[bE,dF,az,aJ,exp,aX,uy,Fn.below,if_true,Bb,KL];generalize c.exp B.length false=c';have F:=AV.fn (.func 185) [] [.μ q 0];refine Δ (fun st=>st.e 0= .list c' []/\st.mem= {ε:=B,η:=[]}) (by simp) fun s1 ⟨h0,dE⟩=>?_;refine bJ (fun st=>st.mem= {ε:=B,η:=[]}) ?_ fun s2 dE=>κ.done .ret (fun st=>st.mem= {ε:=B,η:=[]}/\st.e 4= .n (-1)) (by simp[dE]) fun s' ⟨m1,m2⟩=>⟨by simp,⟨[],by simp[m1]⟩,[.n (-1)],by simp[m2],by simp⟩;refine Δ (fun st=>st.mem= {ε:=B,η:=[]}/\st.e 7= .n 0/\st.e 8= .n 0) (by simp[h0,dE]) fun s2 ⟨dE,h7,h8⟩=>?_;refine κ.block (κ.kp (I:=fun _ st=>st.mem= {ε:=B,η:=[]}/\st.e 7= .n 0/\st.e 8= .n 0) 0 ⟨dE,h7,h8⟩ fun i st hi ⟨dE,h7,h8⟩=>?_);unfold OA;exact κ.done (.exit 0) (fun st=>st.mem= {ε:=B,η:=[]}) (by simp[dE,h7,h8]) fun s' m1=> .inr ⟨by simp,.inl ⟨rfl,.inl ⟨rfl,m1⟩⟩⟩
theorem abi{B:List θ}{q:Nat}(uy:q<B.length)(c:ρ)(T:List Nat):
  kf u 186 [.list c [],.fn (.func 185) [] [.μ q 0]] {ε:=B,η:=T}=some (.list (c.exp 0 false) [],{ε:=B,η:=T}):=by
 refine kF (B:=B) (g:=wY) rfl rfl rfl rfl ?_;simp only[bE,dF,az,aJ,exp,aX,uy,Fn.below,if_true,wY,KI];obtain⟨c',gX⟩:∃c',c'=c.exp B.length false:=⟨_,rfl⟩;have e:=abk (u:=u) uy c';have vA:c'.exp B.length false=c.exp 0 false:=by rw[gX,aaf]
 rw[<-gX];refine Δ (fun st=>st.e 0= .list c' []/\st.e 1= .fn (.func 185) [] [.μ q 0]/\st.mem= {ε:=B,η:=[]}) (by simp) fun s1 ⟨h0,h1,dE⟩=>?_;refine Δ (fun st=>st.e 0= .list c' []/\st.e 5= .n (-1)/\st.mem= {ε:=B,η:=[]}) (by simp[h0,h1,dE,e]) fun s1 ⟨h0,h5,dE⟩=>?_;refine bJ (fun _=>False) (κ.done .ret (fun st=>st.mem= {ε:=B,η:=[]}/\st.e 4= .list c' []) (by simp[h0,h5,dE]) fun s' ⟨m1,m2⟩=> .inr ⟨by simp,by simp,⟨[],by simp[m1]⟩,[.list c' []],by simp[m2],by simp[aO,fK,oT,vA]⟩) fun s h=>h.elim
theorem abl(m:Mem):kf u 29 [.list .nil []] m=some (.list .nil [],m):=by
 have:∃s',exec (C u).gl (ab (C u)) dN pU.code {env:=([AV.list .nil []]++[]).map (exp m.ε.length true),loc:=[],mem:= {ε:=m.ε,η:=[]}}=some (.ret,s')/\s'.mem= {ε:=m.ε,η:=[]}/\cK s' pU.results=some [.list .nil []]:=by simp[pU,FM,exp,aX,ρ.exp,isNil]
 obtain⟨s',q1,q2,q3⟩:=this
 try unfold kf
 rw[sP (g:=pU) (ex:= .ret) rfl rfl rfl q1 (by simp) q3,q2];simp[cL,exp,aX,ρ.exp]
theorem abm(m:Mem):ab (C u) (.fn (.methodOf 29 "") [] []) [.list .nil []] m=some (.list .nil [],m):=by
 have:∃s',exec (C u).gl (ab (C u)) dN pV.code {env:=[AV.list .nil []].map (exp m.ε.length true),loc:=[],mem:= {ε:=m.ε,η:=[]}}=some (.ret,s')/\s'.mem= {ε:=m.ε,η:=[]}/\cK s' pV.results=some [.list .nil []]:=by simp[pV,FT,exp,aX,ρ.exp,isNil]
 obtain⟨s',q1,q2,q3⟩:=this
 try unfold kf
 rw[KY (g:=pV) (ex:= .ret) (by rfl) q1 (by simp) q3,q2];simp[cL,exp,aX,ρ.exp]
theorem QN(n:Nat)(k:Bool)(l:List Nat):aX n k (l.map fun b:Nat=>AV.int .u8 (b:Int))=l.map fun b:Nat=>AV.int .u8 (b:Int):=by rw[fe,cT];rfl
theorem ZS(l:List Nat):(l.map fun b:Nat=>AV.int .u8 (b:Int)).all (shaped false 1)=true:=by rw[dO];intro x hx;obtain⟨s,-,rfl⟩:=eP.1 hx;rfl
theorem QO(m:Mem)(l:List Nat):(l.map fun b:Nat=>AV.int .u8 (b:Int)).map m.ν=l.map fun b:Nat=>AV.int .u8 (b:Int):=by rw[cT];rfl
theorem ZR(bs:List θ)(n:Nat)(c:ρ)(l:List Nat):aO bs n 8 (gn c l)=gn (c.exp 0 false) l:=by have:bN (l.map fun b:Nat=>AV.int .u8 (b:Int)) (l.map fun b:Nat=>AV.int .u8 (b:Int)):=bN.of _ l fun x _=>Dv.int _ _;exact(Dv.list c this).aO bs n 8
theorem f123(c:ρ)(l:List Nat)(hl:l.length<1000000000)(hn:c= .nil->l=[])(m:Mem):∃c',bp c'/\kf u 123 [gn c l] m=some (gn c' l,m):=by
 by_cases hc:c= .nil
 ·subst hc;obtain rfl:=hn rfl;refine⟨.nil,.inl rfl,dI (g:=A7) rfl rfl rfl ?_⟩;simp[gn,A7,KG,exp,aX,ρ.exp,isNil];rfl
 ·have vA:∀n,c.exp n false= .any:=fun n=>by cases c<;>first|rfl|exact absurd rfl hc
  refine⟨.any,.inr rfl,dI (g:=A7) rfl rfl rfl ?_⟩;simp only[az,aJ,gn,exp,QN,vA,A7,KG];cases l with
  |nil=>
   simp[isNil,gC]
   rfl
  |cons a l=>
   have e1:(l.length+1)*1<=140737488355328:=by simp at hl;omega
   have e2:l.length+1<=140737488355328:=by simp at hl;omega
   have h1:=ZS (a::l);have h2:=QO {ε:=m.ε,η:=[]} (a::l);simp only[az]at h1 h2;simp[isNil,gC,h1,e1,e2,Mem.push];exact ZR _ _ (.own m.ε.length) (a::l)
theorem f36(c:ρ)(hc:bp c)(l:List Nat)(hn:c= .nil->l=[])(B:List θ):∃c',bp c'/\∀T,kf u 36 [gn c l] {ε:=B,η:=T}=some (.μ B.length 0,{ε:=B++[.cells (aG c' (l.take 300) 0 2463534242)],η:=T}):=by
 obtain⟨c1,uk,q⟩:=f123 (u:=u) c (l.take 300) (by simp;omega) (fun h=>by rw[hn h];rfl) {ε:=B,η:=[]};refine⟨c1,uk,fun T=>?_⟩;have jX:((l.map fun b:Nat=>AV.int .u8 (b:Int)).all fun e=>decide (e.cells.length=1))=true:=by rw[dO];intro x hx;obtain⟨s,-,rfl⟩:=eP.1 hx;rfl
 have qM:([gn c l]++[]).map (exp B.length true)=[gn c l]:=by simp only[dF,az,aJ,gn,exp,QN,fR hc]
 have U3:(min (l.length:Int) 300)=((min l.length 300:Nat):Int):=by omega
 have:∃s',exec (C u).gl (ab (C u)) dN w8.code {env:=([gn c l]++[]).map (exp B.length true),loc:=[],mem:= {ε:=B,η:=[]}}=some (.ret,s')/\s'.mem= {ε:=B++[.cells (aG c1 (l.take 300) 0 2463534242)],η:=[]}/\cK s' w8.results=some [.μ B.length 0]:=by
  rw[qM];rcases hc with rfl|rfl
  ·obtain rfl:=hn rfl;simp only[gn,al3,aJ,List.take_nil]at q;simp[w8,FP,gn,bound,q,dd,Mem.push,Mem.ν,ν,cw,aG]
  ·by_cases TT:300<l.length
   ·have h1:(300:Int)<l.length:=by omega
    have h2:(300:Int)<=l.length:=by omega
    simp only[gn,al3]at q;have gG:=QO {ε:=B,η:=[]} (l.take 300);simp[w8,FP,gn,bound,jX,TT,h1,h2,q,dd,Mem.push,aG,Mem.ν,ν,fH];rfl
   ·have h1:¬(300:Int)<l.length:=by omega
    have hB:l.take 300=l:=fo (by omega);have hT:(l.map fun b:Nat=>AV.int .u8 (b:Int)).take l.length=l.map fun b:Nat=>AV.int .u8 (b:Int):=fo (by simp);rw[hB]at q⊢;simp only[gn]at q;simp[w8,FP,gn,bound,jX,TT,h1,hT,q,dd,Mem.push,aG,Mem.ν,ν,fH]
 obtain⟨s',q1,q2,q3⟩:=this
 try unfold kf
 rw[sP (g:=w8) (ex:= .ret) rfl rfl rfl q1 (by simp) q3,q2];simp[cL,exp]
end Go.Θ.Tz
namespace Go.Θ
def mL(b:Nat)(l:List AV):AV:= .list (if l=[]then .nil else .own b) l
def ui(sz:Nat)(e:TypeId)(n:Nat):List θ:=if n=0 then[]else[.front n sz e]
theorem Qx(D:List θ)(T:List Nat){ag:Bool}{sz bytes:Nat}{e:TypeId}{l:List AV}{y:AV}(aL:0<sz)(hl:l.all (shaped ag sz)=true)(hy:shaped ag sz y=true)(hn:ν y=y)(hb:(l.length+1)*bytes<=140737488355328)(aY:l.length+1<=140737488355328):
  gC {ε:=D++ui sz e l.length,η:=T} ag sz bytes e (mL D.length l) (.list .full [y])=some (mL D.length (l++[y]),{ε:=D++ui sz e (l++[y]).length,η:=T}):=by
 cases l with
 |nil=>simp[gC,mL,ui,hy,aL,Mem.push,Mem.ν,hn]at hb aY⊢;omega
 |cons a l=>
  simp only[cD]at hb aY
  simp only[al4,ej]at hl;simp[gC,mL,ui,hy,aL,hl.1,Mem.put,Mem.ν,hn,hb,aY];simpa using hl.2
theorem TK(b:Nat){l ws:List AV}(h:bN l ws):Dv (mL b l) (.list (if l=[]then .nil else .any) ws):=by
 have:=Dv.list (if l=[]then .nil else .own b) h;cases l with
 |nil=>exact this
 |cons a l=>exact this
theorem F1{C:iL}{f:FuncId}{args args':List AV}{m:Mem}(hk:C.bf f=false)(h:args.map (exp m.ε.length false)=args'.map (exp m.ε.length false))(hp:C.gQ f=none):ab C (.fn (.func f) [] []) args m=ab C (.fn (.func f) [] []) args' m:=by
 have hb:∀ay lp,body C ay lp (.fn (.func f) [] []) args m=body C ay lp (.fn (.func f) [] []) args' m:=by intro ay lp;simp only[body,hp,bE,dF,hk,h]
 have hc:∀k,cv C k (.fn (.func f) [] []) args m=cv C k (.fn (.func f) [] []) args' m:=by
  intro k;cases k with
  |zero=>rfl
  |succ k=>exact hb _ _
 apply Option.ext;intro r;rw[oO,oO];exact⟨fun⟨k,hk⟩=>⟨k,by rw[<-hc];exact hk⟩,fun⟨k,hk⟩=>⟨k,by rw[hc];exact hk⟩⟩
theorem BP(c:ρ)(n:Nat):bp (c.exp n false):=by cases c<;>first|exact .inl rfl|exact .inr rfl
end Go.Θ
namespace Go.Θ.Tz
open Go.Θ
variable{u:Nat}
theorem C7(n:Nat)(c:ρ)(l:List (List Nat)):exp n false (aZ c l)=aZ (c.exp 0 false) l:=by
 have:aX n false (l.map AV.str)=l.map AV.str:=by rw[fe,cT];rfl
 simp only[aZ,exp,this];cases c<;>simp[ρ.exp]
theorem X9(n:Nat)(c:ρ)(l:List (List Nat)):exp n false (aZ (c.exp 0 false) l)=aZ (c.exp 0 false) l:=wV (BP c 0) l
structure MS (pm ps:Nat) (P:AV) (c:ρ) (bs:List Nat) (st fr n:Nat) (x:Int) (M:List θ):Prop where
 m:M[pm]?=some (.cells (bH ps P st fr))
 s:M[ps]?=some (.cells (aG c bs n x))
section
variable{pm ps:Nat}{P:AV}{c:ρ}{bs:List Nat}{st fr n:Nat}{x:Int}{M:List θ}
theorem MS.xY(h:MS pm ps P c bs st fr n x M):pm<M.length:=(fB.1 h.m).1
theorem MS.wc(h:MS pm ps P c bs st fr n x M):ps<M.length:=(fB.1 h.s).1
theorem MS.draw(h:MS pm ps P c bs st fr n x M)(φ:pm≠ps)(n':Nat)(x':Int):MS pm ps P c bs st fr n' x' (M.set ps (.cells (aG c bs n' x'))):=
 ⟨by rw[gR (Ne.symm φ)];exact h.m,by simp[h.wc]⟩
theorem MS.mo(h:MS pm ps P c bs st fr n x M)(φ:pm≠ps)(aV ax:Nat):MS pm ps P c bs aV ax n x (M.set pm (.cells (bH ps P aV ax))):=
 ⟨by simp[h.xY],by rw[gR φ];exact h.s⟩
theorem MS.push(h:MS pm ps P c bs st fr n x M)(D:List θ):MS pm ps P c bs st fr n x (M++D):=
 ⟨by rw[ek h.xY];exact h.m,by rw[ek h.wc];exact h.s⟩
theorem MS.put(h:MS pm ps P c bs st fr n x M){i:Nat}(h1:i≠pm)(h2:i≠ps)(b:θ):MS pm ps P c bs st fr n x (M.set i b):=
 ⟨by rw[gR h1];exact h.m,by rw[gR h2];exact h.s⟩
theorem MS.PL(h:MS pm ps P c bs st fr n x M):M.set pm (.cells (bH ps P st fr))=M:=PJ h.m
theorem MS.Ad(h:MS pm ps P c bs st fr n x M):M.set ps (.cells (aG c bs n x))=M:=PJ h.s
theorem Ci(h:MS pm ps P c bs st fr n x M)(hb:bs.length<=300)(k:Int)(hn:n<4000000000000000000):
  ∃(x' r:Int) (n':Nat),n<=n'/\n'<=n+1/\0<=r/\(0<k->r<k)/\(k<=0->r=0)/\∀T,kf u 121 [.μ ps 0,.n k] {ε:=M,η:=T}=some (.n r,{ε:=M.set ps (.cells (aG c bs n' x')),η:=T}):=by
 have:=f121 (u:=u) (c:=c) (bs:=bs) (B:=M) (p:=ps) h.wc hb n x k hn;rw[h.Ad]at this;exact this
theorem aku(h:MS pm ps P c bs st fr n x M)(hb:bs.length<=300)(k:Int)(hn:n<4000000000000000000):
  ∃(x':Int) (r:Bool) (n':Nat),n<=n'/\n'<=n+1/\∀T,kf u 153 [.μ ps 0,.n k] {ε:=M,η:=T}=some (.bool r,{ε:=M.set ps (.cells (aG c bs n' x')),η:=T}):=by
 have:=f153 (u:=u) (c:=c) (bs:=bs) (B:=M) (p:=ps) h.wc hb n x k hn;rw[h.Ad]at this;exact this
theorem JT(h:MS pm ps P c bs st fr n x M)(hb:bs.length<=300)(lo hi:Int)(hn:n<4000000000000000000)(h1:0<=lo)(h2:lo<=hi)(h3:hi<1000000000):
  ∃(x' r:Int) (n':Nat),n<=n'/\n'<=n+1/\lo<=r/\r<=hi/\∀T,kf u 119 [.μ ps 0,.n lo,.n hi] {ε:=M,η:=T}=some (.n r,{ε:=M.set ps (.cells (aG c bs n' x')),η:=T}):=by
 have:=f119 (u:=u) (c:=c) (bs:=bs) (B:=M) (p:=ps) h.wc hb n x lo hi hn h1 h2 h3;rw[h.Ad]at this;exact this
theorem Ch(h:MS pm ps P c bs st fr n x M)(φ:pm≠ps)(dK:fr<4000000000000000000)(f:List Nat)(hf:f.length<=10)(T:List Nat):
  kf u 120 [.μ pm 0,.str f] {ε:=M,η:=T}=some (.str (bR f (fr+1)),{ε:=M.set pm (.cells (bH ps P st (fr+1:Nat))),η:=T}):=by
 have:=f120 (u:=u) (B:=M) h.xY h.wc φ P st fr dK (aG c bs n x) f hf T;rw[h.PL,h.Ad,(h.mo φ st (fr+1)).Ad]at this;exact this
theorem JV(h:MS pm ps P c bs st fr n x M)(φ:pm≠ps)(hb:bs.length<=300)(ct:ρ)(ts:List (List Nat))(s:Nat)(hs:s<=9)(hn:n+kO s<4000000000000000000):
  ∃(x':Int) (n':Nat) (i:ζ),n<=n'/\n'<=n+kO s/\cZ ts s i/\∀T,kf u 83 [.μ pm 0,.n (s:Int),aZ ct ts] {ε:=M,η:=T}=some (i.av,{ε:=M.set ps (.cells (aG c bs n' x')),η:=T}):=by
 obtain⟨x',n',i,h1,h2,h3,q⟩:=f83 (u:=u) (B:=M) h.xY h.wc φ (c:=c) hb (ct.exp 0 false) (BP ct 0) ts P st fr s hs n x hn;refine⟨x',n',i,h1,h2,h3,fun T=>?_⟩;have:=q T;rw[h.PL,h.Ad]at this;rw[<-this];exact F1 (by rfl) (by simp only[az,aJ,C7,vi,exp]) (by rfl)
def gJ(c1 c2 c3 c4:ρ)(s:Sc):List AV:=[aZ c1 s.aB,aZ c2 s.cA,aZ c3 s.bits,aZ c4 s.turns]
theorem f_.fx{rs ts:List (List Nat)}{p:ξ}(h:f_ rs ts p):Dv p.av p.av:=by
 have hl:bN (p.ix.map ζ.av) (p.ix.map ζ.av):=bN.of ζ.av p.ix fun i hi=>(h.pn i hi).fx;have:=Dv.list p.c hl;have hc:p.c.exp 0 false=p.c:=by rw[h.cp];split<;>rfl
 rw[hc]at this;exact .agg (.cons (.str _) (.cons this .nil))
theorem JU(h:MS pm ps P c bs st fr n x M)(φ:pm≠ps)(hb:bs.length<=300)(c1 c2 c3 c4:ρ)(s:Sc)(NW:s.aB≠[])(Iq:s.aB.length<1000000000)(hn:n<3000000000000000000):
  ∃(x':Int) (n':Nat) (p:ξ),n<=n'/\n'<=n+72/\f_ s.aB s.turns p/\∀T,kf u 184 [.μ pm 0,.agg (gJ c1 c2 c3 c4 s)] {ε:=M,η:=T}=some (p.av,{ε:=M.set ps (.cells (aG c bs n' x')),η:=T}):=by
 obtain⟨x',n',p,h1,h2,h3,q⟩:=f184 (u:=u) (B:=M) h.xY h.wc φ (c:=c) hb (c1.exp 0 false) (c4.exp 0 false) (BP c1 0) (BP c4 0) s.aB s.turns NW Iq (aZ (c2.exp 0 false) s.cA) (aZ (c3.exp 0 false) s.bits) (X9 _ _ _) (X9 _ _ _) P st fr n x hn;refine⟨x',n',p,h1,h2,h3,fun T=>?_⟩;have:=q T;rw[h.PL,h.Ad]at this;rw[<-this];exact F1 (by rfl) (by simp only[gJ,az,aJ,C7,vi,exp,aX]) (by rfl)
end
structure Kt (B:List θ) (pm ps:Nat) (P:AV) (c:ρ) (bs:List Nat) (co:ρ) (lo st fr n:Nat) (x:Int) (M:List θ):Prop where
 ms:MS pm ps P c bs st fr n x M
 oD:∀i,i<B.length->i≠pm->i≠ps->M[i]?=B[i]?
 len:B.length<=M.length
 row:Go.Θ.Row B.length M 14 66 co lo
section
variable{B:List θ}{pm ps:Nat}{P:AV}{c:ρ}{bs:List Nat}{co:ρ}{lo st fr n:Nat}{x:Int}{M:List θ}
theorem Kt.of{aV ax n':Nat}{x':Int}{M':List θ}(h:Kt B pm ps P c bs co lo st fr n x M)(ms:MS pm ps P c bs aV ax n' x' M')(hl:M.length<=M'.length)(ho:∀i,i<B.length->i≠pm->i≠ps->M'[i]?=M[i]?)
  (hr:∀(t k:Nat),M[t]?=some (θ.front k 14 66)->M'[t]?=some (θ.front k 14 66)):Kt B pm ps P c bs co lo aV ax n' x' M':=by
 refine⟨ms,fun i h1 h2 h3=>by rw[ho i h1 h2 h3];exact h.oD i h1 h2 h3,va h.len hl,?_⟩;rcases h.row with h|⟨t,h1,h2,h3⟩
 ·exact .inl h
 ·exact .inr ⟨t,h1,h2,hr t _ h3⟩
theorem Kt.draw(h:Kt B pm ps P c bs co lo st fr n x M)(φ:pm≠ps)(n':Nat)(x':Int):Kt B pm ps P c bs co lo st fr n' x' (M.set ps (.cells (aG c bs n' x'))):=
 h.of (h.ms.draw φ n' x') (by simp) (fun i _ _ h3=>gR (Ne.symm h3)) fun t k ht=>by
  have:ps≠t:=fun e=>by rw[<-e,h.ms.s]at ht;cases ht
  rw[gR this];exact ht
theorem Kt.mo(h:Kt B pm ps P c bs co lo st fr n x M)(φ:pm≠ps)(aV ax:Nat):Kt B pm ps P c bs co lo aV ax n x (M.set pm (.cells (bH ps P aV ax))):=
 h.of (h.ms.mo φ aV ax) (by simp) (fun i _ h2 _=>gR (Ne.symm h2)) fun t k ht=>by
  have:pm≠t:=fun e=>by rw[<-e,h.ms.m]at ht;cases ht
  rw[gR this];exact ht
theorem Kt.push(h:Kt B pm ps P c bs co lo st fr n x M)(D:List θ):Kt B pm ps P c bs co lo st fr n x (M++D):=
 h.of (h.ms.push D) (by simp) (fun i h1 _ _=>ek (Nat.lt_of_lt_of_le h1 h.len)) fun t k ht=>by rw[ek (fB.1 ht).1];exact ht
theorem Kt.put(h:Kt B pm ps P c bs co lo st fr n x M)(hm:pm<B.length)(hs:ps<B.length){i:Nat}(hi:B.length<=i)(hf:∀k:Nat,M[i]?≠some (θ.front k 14 66))(b:θ):Kt B pm ps P c bs co lo st fr n x (M.set i b):=
 h.of (h.ms.put (by omega) (by omega) b) (by simp) (fun j h1 _ _=>gR (by omega)) fun t k ht=>by have:i≠t:=fun e=>hf k (by rw[e];exact ht);rw[gR this];exact ht
structure MM (B:List θ) (pm ps:Nat) (P:AV) (c:ρ) (bs:List Nat) (co:ρ) (lo st fr n:Nat) (x:Int) (q:Nat) (L:List AV) (M:List θ) (T:List Nat):Prop where
 kt:Kt B pm ps P c bs co lo st fr n x M
 q1:B.length<=q
 q2:M[q]?=some (.cells L)
 tt:∀i∈T,B.length<=i
variable{q:Nat}{L:List AV}{T:List Nat}
theorem MM.qB(h:MM B pm ps P c bs co lo st fr n x q L M T):q<M.length:=(fB.1 h.q2).1
theorem MM.draw(h:MM B pm ps P c bs co lo st fr n x q L M T)(hs:ps<B.length)(φ:pm≠ps)(n':Nat)(x':Int):MM B pm ps P c bs co lo st fr n' x' q L (M.set ps (.cells (aG c bs n' x'))) T:=
 ⟨h.kt.draw φ n' x',h.q1,by have:=h.q1;rw[gR (by omega)];exact h.q2,h.tt⟩
theorem MM.mo(h:MM B pm ps P c bs co lo st fr n x q L M T)(hm:pm<B.length)(φ:pm≠ps)(aV ax:Nat):MM B pm ps P c bs co lo aV ax n x q L (M.set pm (.cells (bH ps P aV ax))) T:=
 ⟨h.kt.mo φ aV ax,h.q1,by have:=h.q1;rw[gR (by omega)];exact h.q2,h.tt⟩
theorem MM.push(h:MM B pm ps P c bs co lo st fr n x q L M T)(D:List θ):MM B pm ps P c bs co lo st fr n x q L (M++D) T:=
 ⟨h.kt.push D,h.q1,by rw[ek h.qB];exact h.q2,h.tt⟩
theorem MM.put(h:MM B pm ps P c bs co lo st fr n x q L M T)(hm:pm<B.length)(hs:ps<B.length){i:Nat}(hi:B.length<=i)(hf:∀k:Nat,M[i]?≠some (θ.front k 14 66))(hq:i≠q)(b:θ):MM B pm ps P c bs co lo st fr n x q L (M.set i b) T:=
 ⟨h.kt.put hm hs hi hf b,h.q1,by rw[gR hq];exact h.q2,h.tt⟩
theorem MM.cell(h:MM B pm ps P c bs co lo st fr n x q L M T)(hm:pm<B.length)(hs:ps<B.length)(L':List AV):MM B pm ps P c bs co lo st fr n x q L' (M.set q (.cells L')) T:=
 ⟨h.kt.put hm hs h.q1 (fun k hk=>by rw[h.q2]at hk;cases hk) _,h.q1,by simp[h.qB],h.tt⟩
theorem MM.Fe(h:MM B pm ps P c bs co lo st fr n x q L M T)(b:Bool):MM B pm ps P c bs co lo st fr n x q L M (if b then T else q::T):=
 ⟨h.kt,h.q1,h.q2,by
  cases b with
  |true=>exact h.tt
  |false=>
   intro i hi
   rcases cy.1 hi with rfl|hi
   ·exact h.q1
   ·exact h.tt i hi⟩
end
end Go.Θ.Tz
namespace Go.Θ
theorem yw{n:Nat}{M:List θ}{ag:Bool}{sz bytes:Nat}{e:TypeId}{cp:ρ}{pl:List AV}{v:AV}(h:Row n M sz e cp pl.length)(DR:n<=M.length)(hl:pl.all (shaped ag sz)=true)(hv:shaped ag sz v=true)(hn:ν v=v)
  (hs:0<sz) (hb:(pl.length+1)*bytes<=140737488355328) (aY:pl.length+1<=140737488355328):
  ∃c' M',(∀T,gC {ε:=M,η:=T} ag sz bytes e (.list cp pl) (.list .full [v])=some (.list c' (pl++[v]),{ε:=M',η:=T}))/\Row n M' sz e c' (pl.length+1)/\(∀k,c'.exp k false= .any)/\(M'=M++[.front 1 sz e]\/∃t,n<=t/\M[t]?=some (.front pl.length sz e)/\M'=M.set t (.front (pl.length+1) sz e)):=by
 rcases h with⟨hc,h0⟩|⟨t,rfl,h1,h2⟩
 ·obtain rfl:pl=[]:=List.eq_nil_of_length_eq_zero h0;have q1:bytes<=140737488355328:=by simpa using hb
  refine⟨.own M.length,M++[.front 1 sz e],fun T=>?_,.inr ⟨_,rfl,DR,by simp⟩,fun _=>rfl,.inl rfl⟩;rcases hc with rfl|rfl<;>simp[gC,hv,hs,Mem.push,Mem.ν,hn,q1]
 ·have ht:t<M.length:=(fB.1 h2).1;refine⟨.own t,M.set t (.front (pl.length+1) sz e),fun T=>?_,.inr ⟨t,rfl,h1,by simp[ht]⟩,fun _=>rfl,.inr ⟨t,h1,h2,rfl⟩⟩;simp only[gC];simp only[al4,hv,al5,Bool.and_self,hl,hs,decide_true,cD,eO,lF,hb,aY,h2,rr,if_true,and_self,az,aJ,Mem.ν,hn,Mem.put]
theorem Row.bf{n:Nat}{M M':List θ}{sz:Nat}{e:TypeId}{c:ρ}{k:Nat}(h:Row n M sz e c k)(hr:∀(t k:Nat),M[t]?=some (θ.front k sz e)->M'[t]?=some (θ.front k sz e)):Row n M' sz e c k:=by
 rcases h with h|⟨t,h1,h2,h3⟩
 ·exact .inl h
 ·exact .inr ⟨t,h1,h2,hr t _ h3⟩
theorem vZ{α:Type}{l:List α}(h:l.length=4):∃a b c d,l=[a,b,c,d]:=by
 match l,h with
 |[a,b,c,d],_=>exact⟨a,b,c,d,rfl⟩
end Go.Θ
namespace Go.Θ.Tz
open Go.Θ
variable{u:Nat}
theorem Ld(l:List AV):(AV.agg l).cells=l:=rfl
theorem Lh(c:ρ)(l:List AV):(AV.list c l).cells=[.list c l]:=rfl
theorem Lj(s:List Nat):(AV.str s).cells=[.str s]:=rfl
theorem Lg(k:IntKind)(n:Int):(AV.int k n).cells=[.int k n]:=rfl
theorem Le(b:Bool):(AV.bool b).cells=[.bool b]:=rfl
theorem Lf(a b:Nat):(AV.μ a b).cells=[.μ a b]:=rfl
theorem wi(c':ρ)(l:List (List Nat)):(aZ c' l).cells=[aZ c' l]:=rfl
def aT(k g:Int)(nm:List Nat)(P:AV)(X Y:List AV)(b e:AV):List AV:= .n k:: .n g:: .str nm::P::(X++(Y++[b,e]))
def z4:List AV:=[.n 0,.n 0,.str [],.list .nil []]
abbrev ω:AV:= .list .nil []
section
variable{k g:Int}{nm:List Nat}{P:AV}{X Y:List AV}{b e:AV}
theorem ig(hX:X.length=4)(hY:Y.length=4):(aT k g nm P X Y b e).length=14:=by simp[aT,hX,hY]
theorem aah(g':Int):dk (aT k g nm P X Y b e) 1 [.n g']=aT k g' nm P X Y b e:=rfl
theorem wO(zM:List Nat):dk (aT k g nm P X Y b e) 2 [.str zM]=aT k g zM P X Y b e:=rfl
theorem FW(P':AV):dk (aT k g nm P X Y b e) 3 [P']=aT k g nm P' X Y b e:=rfl
theorem Lc(hX:X.length=4){X':List AV}(hX':X'.length=4):dk (aT k g nm P X Y b e) 4 X'=aT k g nm P X' Y b e:=by obtain⟨a1,a2,a3,a4,rfl⟩:=vZ hX;obtain⟨d1,d2,d3,d4,rfl⟩:=vZ hX';rfl
theorem aaj(hX:X.length=4)(hY:Y.length=4){Y':List AV}(hY':Y'.length=4):dk (aT k g nm P X Y b e) 8 Y'=aT k g nm P X Y' b e:=by obtain⟨a1,a2,a3,a4,rfl⟩:=vZ hX;obtain⟨c1,c2,c3,c4,rfl⟩:=vZ hY;obtain⟨d1,d2,d3,d4,rfl⟩:=vZ hY';rfl
theorem Se(hX:X.length=4)(hY:Y.length=4)(b':AV):dk (aT k g nm P X Y b e) 12 [b']=aT k g nm P X Y b' e:=by obtain⟨a1,a2,a3,a4,rfl⟩:=vZ hX;obtain⟨c1,c2,c3,c4,rfl⟩:=vZ hY;rfl
theorem aai(hX:X.length=4)(hY:Y.length=4)(e':AV):dk (aT k g nm P X Y b e) 13 [e']=aT k g nm P X Y b e':=by obtain⟨a1,a2,a3,a4,rfl⟩:=vZ hX;obtain⟨c1,c2,c3,c4,rfl⟩:=vZ hY;rfl
theorem aak:(aT k g nm P X Y b e).tail.take 1=[.n g]:=rfl
theorem CO:(al2 2 (aT k g nm P X Y b e)).take 1=[.str nm]:=rfl
theorem Sf:(al2 3 (aT k g nm P X Y b e)).take 1=[P]:=rfl
end
section
variable{B:List θ}{pm ps:Nat}{P:AV}{c:ρ}{bs:List Nat}{co:ρ}{lo st fr n:Nat}{x:Int}{M:List θ}{q:Nat}{L:List AV}{T:List Nat}
theorem MM.grow(h:MM B pm ps P c bs co lo st fr n x q L M T)(hm:pm<B.length)(hs:ps<B.length){sz:Nat}{e:TypeId}(uB:¬(sz=14/\e=66)){M':List θ}{len:Nat}
  (hM:M'=M++[.front 1 sz e]\/∃t,B.length<=t/\M[t]?=some (.front len sz e)/\M'=M.set t (.front (len+1) sz e)):MM B pm ps P c bs co lo st fr n x q L M' T:=by
 rcases hM with rfl|⟨t,h1,h2,rfl⟩
 ·exact h.push _
 ·refine h.put hm hs h1 (fun k hk=>?_) (fun hq=>?_) _
  ·rw[h2]at hk;cases hk;exact uB ⟨rfl,rfl⟩
  ·rw[hq,h.q2]at h2;cases h2
theorem w29(c:ρ)(l:List (List Nat))(hl:l.length<1000000000)(hc:c= .nil->l=[])(N:Nat)(hN:N<=M.length):
  ∃c' M',(∀T,kf u 29 [aZ c l] {ε:=M,η:=T}=some (aZ c' l,{ε:=M',η:=T}))/\Go.Θ.Row N M' 1 9 c' l.length/\(M'=M\/M'=M++[.front l.length 1 9]):=by
 by_cases mR:c= .nil
 ·subst mR;obtain rfl:=hc rfl;exact⟨.nil,M,fun T=>abl _,Go.Θ.Row.nil,.inl rfl⟩
 ·have yX:∀n,c.exp n true≠ .nil:=fun n=>by
   cases c with
   |nil=>exact absurd rfl mR
   |own t=>by_cases h:t<n<;>simp[ρ.exp,h]
   |_=>simp[ρ.exp]
  have r8:∀n (L:List AV),isNil .slice (.list (c.exp n true) L)=some false:=fun n L=>by have:=yX n;cases h:c.exp n true<;>first|exact absurd h this|rfl
  have qM:∀n,([aZ c l]++[]).map (exp n true)=[.list (c.exp n true) (l.map AV.str)]:=fun n=>by
   have:aX n true (l.map AV.str)=l.map AV.str:=by rw[fe,cT];rfl
   simp[aZ,exp,this]
  cases l with
  |nil=>
   refine⟨.full,M,fun T=>?_,Go.Θ.Row.full,.inl rfl⟩
   have:∃s',exec (C u).gl (ab (C u)) dN pU.code {env:=([aZ c []]++[]).map (exp M.length true),loc:=[],mem:= {ε:=M,η:=[]}}=some (.ret,s')/\s'.mem= {ε:=M,η:=[]}/\cK s' pU.results=some [.list .full []]:=by rw[qM];simp[pU,FM,r8,exec,dY,dP,eX,aI,dw,fA,eN,aK,fL,cK,RV.get,gC]
   obtain⟨s',q1,q2,q3⟩:=this
   try unfold kf
   rw[sP (g:=pU) (ex:= .ret) rfl rfl rfl q1 (by simp) q3,q2];simp[cL,exp,aX,ρ.exp,aZ]
  |cons a l=>
   have h1:=JJ (a::l)
   have h2:=fun T=>X7 {ε:=M,η:=T} (a::l);have dB:∀cc,gC {ε:=M,η:=[]} false 1 16 9 (.list .full []) (.list cc ((a::l).map AV.str))=some (.list (.own M.length) ((a::l).map AV.str),{ε:=M++[.front (l.length+1) 1 9],η:=[]}):=by
    intro cc;have e1:(l.length+1)*16<=140737488355328:=by simp at hl;omega
    have e2:l.length+1<=140737488355328:=by simp at hl;omega
    have h2:=h2 [];simp only[az]at h1 h2;simp only[gC,az,h1,cD,cg,eO,lF,e1,e2,decide_true,al6,Mem.push,rr,al5,bE,h2];rfl
   refine⟨.own M.length,M++[.front (l.length+1) 1 9],fun T=>?_,.inr ⟨_,rfl,hN,by simp⟩,.inr rfl⟩;have:∃s',exec (C u).gl (ab (C u)) dN pU.code {env:=([aZ c (a::l)]++[]).map (exp M.length true),loc:=[],mem:= {ε:=M,η:=[]}}=some (.ret,s')/\s'.mem= {ε:=M++[.front (l.length+1) 1 9],η:=[]}/\cK s' pU.results=some [.list (.own M.length) ((a::l).map .str)]:=by rw[qM];simp only[az]at dB;simp[pU,FM,r8,dB,exec,dY,dP,eX,aI,dw,fA,eN,aK,fL,cK,RV.get]
   obtain⟨s',q1,q2,q3⟩:=this
   try unfold kf
   rw[sP (g:=pU) (ex:= .ret) rfl rfl rfl q1 (by simp) q3,q2];have:aX (M.length+1) true ((a::l).map AV.str)=(a::l).map AV.str:=by rw[fe];exact(de fun x hx=>by obtain⟨s,-,rfl⟩:=eP.1 hx;rfl).trans (List.map_id _)
   simp only[az]at this;simp[cL,exp,this,ρ.exp,aZ]
theorem akv(c:ρ)(l:List (List Nat))(hl:l.length<1000000000)(hc:c= .nil->l=[]):
  (l=[]/\∃c',∀T,ab (C u) (.fn (.methodOf 29 "") [] []) [aZ c l] {ε:=M,η:=T}=some (.list c' [],{ε:=M,η:=T}))∨
  (l≠[]/\∀T,ab (C u) (.fn (.methodOf 29 "") [] []) [aZ c l] {ε:=M,η:=T}=some (.sl 0 M.length 0 l.length l.length,{ε:=M++[.cells (l.map AV.str)],η:=T})):=by
 by_cases mR:c= .nil
 ·subst mR;obtain rfl:=hc rfl;exact .inl ⟨rfl,.nil,fun T=>abm _⟩
 ·have yX:∀n,c.exp n true≠ .nil:=fun n=>by
   cases c with
   |nil=>exact absurd rfl mR
   |own t=>by_cases h:t<n<;>simp[ρ.exp,h]
   |_=>simp[ρ.exp]
  have r8:∀n (L:List AV),isNil .slice (.list (c.exp n true) L)=some false:=fun n L=>by have:=yX n;cases h:c.exp n true<;>first|exact absurd h this|rfl
  have qM:∀n,[aZ c l].map (exp n true)=[.list (c.exp n true) (l.map AV.str)]:=fun n=>by
   have:aX n true (l.map AV.str)=l.map AV.str:=by rw[fe,cT];rfl
   simp[aZ,exp,this]
  cases l with
  |nil=>
   refine .inl ⟨rfl,.full,fun T=>?_⟩
   have:∃s',exec (C u).gl (ab (C u)) dN pV.code {env:=[aZ c []].map (exp M.length true),loc:=[],mem:= {ε:=M,η:=[]}}=some (.ret,s')/\s'.mem= {ε:=M,η:=[]}/\cK s' pV.results=some [.list .full []]:=by rw[qM];simp[pV,FT,r8,exec,dY,dP,eX,aI,dw,fA,eN,aK,fL,cK,RV.get,wJ]
   obtain⟨s',q1,q2,q3⟩:=this
   try unfold kf
   rw[KY (g:=pV) (ex:= .ret) (by rfl) q1 (by simp) q3,q2];simp[cL,exp,aX,ρ.exp]
  |cons a l=>
   have h1:=JJ (a::l)
   have h2:=fun T=>X7 {ε:=M,η:=T} (a::l);have h3:=aj' (a::l);have dB:∀cc,wJ {ε:=M,η:=[]} false 1 16 (.list .full []) (.list cc ((a::l).map AV.str))=some (.sl 0 M.length 0 (l.length+1) (l.length+1),{ε:=M++[.cells ((a::l).map AV.str)],η:=[]}):=by
    intro cc;have e1:(l.length+1)*16<=140737488355328:=by simp at hl;omega
    have e2:l.length+1<=140737488355328:=by simp at hl;omega
    simp only[az]at h1 h2 h3;simp only[wJ,az,h1,h3,cD,cg,e1,e2,decide_true,al6,Mem.push,rr];simp[Mem.ν,ν]
   refine .inr ⟨by simp,fun T=>?_⟩;have:∃s',exec (C u).gl (ab (C u)) dN pV.code {env:=[aZ c (a::l)].map (exp M.length true),loc:=[],mem:= {ε:=M,η:=[]}}=some (.ret,s')/\s'.mem= {ε:=M++[.cells ((a::l).map AV.str)],η:=[]}/\cK s' pV.results=some [.sl 0 M.length 0 (l.length+1) (l.length+1)]:=by rw[qM];simp only[az]at dB;simp[pV,FT,r8,dB,exec,dY,dP,eX,aI,dw,fA,eN,aK,fL,cK,RV.get]
   obtain⟨s',q1,q2,q3⟩:=this
   try unfold kf
   rw[KY (g:=pV) (by rfl) q1 (by simp) q3,q2];simp[cL,exp]
theorem TG(c:ρ)(l:List (List Nat))(hl:l.length<1000000000)(hc:c= .nil->l=[]){q:Nat}{a b:AV}{nm:List Nat}{rest:List AV}(hq:M[q]?=some (.cells (a::b:: .str nm::rest))):
  ∃v M1 w M2 c' M3,(∀T,ab (C u) (.fn (.methodOf 29 "") [] []) [aZ c l] {ε:=M,η:=T}=some (v,{ε:=M1,η:=T}))/\(∀T,kf u 186 [v,.fn (.func 185) [] [.μ q 0]] {ε:=M1,η:=T}=some (w,{ε:=M2,η:=T}))/\(∀T,fz {ε:=M2,η:=T} w=some (aZ c' (hH nm l),{ε:=M3,η:=T}))∧
   (c'= .nil->hH nm l=[])/\(M3=M\/M3=M++[.dead]):=by
 have Vj:q<M.length:=(fB.1 hq).1;rcases akv (u:=u) (M:=M) c l hl hc with⟨rfl,c1,q1⟩|⟨φ,q1⟩
 ·exact⟨_,M,_,M,_,M,q1,abi (u:=u) Vj c1,fun T=>rfl,fun _=>rfl,.inl rfl⟩
 ·have vP:(M++[.cells (l.map AV.str)])[q]?=some (.cells (a::b:: .str nm::rest)):=by rw[ek Vj];exact hq
  have hid:(M++[.cells (l.map AV.str)])[M.length]?=some (.cells (l.map AV.str)):=by simp
  obtain⟨D,TZ,HQ,q2⟩:=f186 (u:=u) (id:=M.length) (by omega) vP l hl l.length hid;refine⟨_,_,_,_,.any,M++[.dead],q1,q2,fun T=>?_,fun h=>(by cases h),.inr rfl⟩;have sa:((D.drop 0).take (hH nm l).length).all AV.one=true:=by rw[Cq,HQ];exact X8 _
  have hk:(hH nm l).length<=l.length:=List.length_filter_le _ _;have hkD:0+(hH nm l).length*Nat.max 0 1<=D.length/\((0:Nat)=0->((D.drop 0).take (hH nm l).length).all AV.one=true):=⟨by show 0+(hH nm l).length*1<=D.length;omega,fun _=>sa⟩;have kR:(M++[θ.cells (l.map AV.str)]).set M.length (.cells D)=M++[.cells D]:=by rw[yl _ _ (bS _)];simp
  have o6:(M++[θ.cells D])[M.length]?=some (.cells D):=by simp
  have ac_:(M++[θ.cells D]).set M.length .dead=M++[.dead]:=by rw[yl _ _ (bS _)];simp
  have acA:(hH nm l).length<=D.length:=by omega
  have acV:=dO.1 sa;rw[Cq]at acV;simp only[fz,kR,o6,Mem.put,ac_,aZ,Cq,HQ];simp[acA,X8,AV.one]
end
def SS(pm:Nat)(d r i:Int)(c1 c2 c3 c4:ρ)(s:Sc)(co:ρ)(out:List AV)(σ:St):Prop:=
 σ.e 0= .μ pm 0/\σ.e 1= .n d/\σ.e 5= .aj 5 0 0/\σ.q 5=some (0,.cells (gJ c1 c2 c3 c4 s))/\σ.e 7= .list co out/\σ.e 18= .n r/\σ.e 19= .n i
def SI(k:Int)(q v:Nat)(e1 e2 e3 e4:ρ)(s':Sc)(σ:St):Prop:=
 σ.e 8= .n k/\σ.e 9= .μ q 0/\σ.e 10= .aj 10 v 0/\σ.q 10=some (v,.cells (gJ e1 e2 e3 e4 s'))
theorem SS.set{pm:Nat}{d r i:Int}{c1 c2 c3 c4:ρ}{s:Sc}{co:ρ}{out:List AV}{σ:St}(h:SS pm d r i c1 c2 c3 c4 s co out σ){j:Nat}(hj:20<=j)(v:AV):SS pm d r i c1 c2 c3 c4 s co out {σ with env:=nf σ.env j v}:=by
 have a0:j≠0:=by omega
 have a1:j≠1:=by omega
 have a2:j≠5:=by omega
 have a3:j≠7:=by omega
 have a4:j≠18:=by omega
 have a5:j≠19:=by omega
 simpa[SS,fL,a0,a1,a2,a3,a4,a5]using h
theorem SI.set{k:Int}{q w:Nat}{e1 e2 e3 e4:ρ}{s':Sc}{σ:St}(h:SI k q w e1 e2 e3 e4 s' σ){j:Nat}(hj:20<=j)(v:AV):SI k q w e1 e2 e3 e4 s' {σ with env:=nf σ.env j v}:=by
 have a0:j≠8:=by omega
 have a1:j≠9:=by omega
 have a2:j≠10:=by omega
 simpa[SI,fL,a0,a1,a2]using h
def Cg(t:Nat):List (Nat×Nat×Int×AC)->AC->AC
 |[],e=>e
 |(a,w,j,x)::l,e=> .seq (.ops [⟨some a,.bin .eql (.t t) (.c (.int .i64 j)),none⟩,⟨some w,.mv (.t a),none⟩]) (.cond (.t w) x (Cg t l e))
def swp(k:Int):List (Nat×Nat×Int×AC)->AC->AC
 |[],e=>e
 |(_,_,j,x)::l,e=>if k=j then x else swp k l e
theorem κ.Cg{gl:Nat->AV}{c:cx}{K:St->Prop}{t:Nat}{k:Int}{Q:Ex×St->Prop}(hK:∀σ j v,20<=j->K σ->K {σ with env:=nf σ.env j v}):
  ∀(l:List (Nat×Nat×Int×AC)) (e:AC) (σ:St),(l.all fun x=>decide (20<=x.1/\20<=x.2.1/\x.1≠t/\x.2.1≠t))=true->K σ->aK σ.env t= .n k->(∀σ',K σ'->κ gl c (swp k l e) σ' Q)->κ gl c (Cg t l e) σ Q
 |[],e,σ,_,hσ,_,h=>h σ hσ
 |(a,w,j,x)::l,e,σ,hl,hσ,ht,h=>by
  simp only[al4,ej,decide_eq_true_eq]at hl;obtain⟨⟨h1,h2,h3,h4⟩,hl⟩:=hl;let σ1:St:= {σ with env:=nf σ.env a (.bool (k==j))};let σ2:St:= {σ1 with env:=nf σ1.env w (.bool (k==j))};have hr:exec gl c dN (.ops [⟨some a,.bin .eql (.t t) (.c (.n j)),none⟩,⟨some w,.mv (.t a),none⟩]) σ=some (.normal,σ2):=by simp[exec,dY,dP,eX,aI,dw,ht,iE,iM,fA,eN,fL,σ1,σ2]
  have k2:K σ2:=hK σ1 w _ h2 (hK σ a _ h1 hσ);have t2:aK σ2.env t= .n k:=by simp[σ2,σ1,fL,h3,h4,ht]
  have w2:aK σ2.env w= .bool (k==j):=by simp[σ2,fL]
  refine κ.go hr ?_;by_cases vF:k=j
  ·have:swp k ((a,w,j,x)::l) e=x:=if_pos vF;rw[this]at h;exact κ.yes (by rw[dw,w2,vF];simp) (h σ2 k2)
  ·have:swp k ((a,w,j,x)::l) e=swp k l e:=if_neg vF;rw[this]at h;exact κ.no (by rw[dw,w2];simpa using vF) (κ.Cg hK l e σ2 hl k2 t2 h)
end Go.Θ.Tz
