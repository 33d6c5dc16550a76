import Derived.Test.YtiigojkfojnedaaGreatDoorQI
set_option linter.unusedVariables false
set_option linter.unusedSimpArgs false
set_option maxRecDepth 100000
set_option maxHeartbeats 8000000
open Nat renaming add_mul->kM,add_comm->yQ,lt_or_ge->bP,mod_lt->qt,add_zero->ui,le_refl->bF,le_trans->xb,lt_of_lt_of_le->rF,add_assoc->vt,le_of_lt->yR,eq_or_lt_of_le->ah_
open List renaming getElem?_append_left->dX,length_cons->eZ,mem_cons_of_mem->AQ,mem_of_mem_drop->qp,getElem_drop->wW,mem_of_mem_take->pa,getElem?_take->AK,all_eq_true->gu,getElem?_eq_getElem->dr,getElem_cons_zero->me,drop_drop->vn,replicate->rD,replicate_succ->ah6,drop_take->ah7,drop_zero->ah8,take_of_length_le->dY,getElem?_set->vq,mem_append->dE,mem_cons->dO,mem_append_left->wX,mem_append_right->s_,mem_filter->Dx,map_congr_left->dt,getElem?_cons_zero->vp,getD_eq_getElem?_getD->kJ,getElem?_cons_succ->Io,range->rC,getElem?_eq_some_iff->kg
open Option.some renaming injEq->aZ
open Prod.mk renaming injEq->aN
open Array renaming getElem_toList->l9,toArray_toList->wV,getElem?_toList->AE,getD_eq_getD_getElem?->rz
open Option renaming map_eq_some_iff->bH,map_some->qv
open Bool renaming not_true->ah5,false_eq_true->gY,true_and->ug,and_eq_true->jv,or_eq_true->ahL,not_eq_true'->ah9,or_eq_false_iff->Ig
namespace Go.ah
section
variable{P:Program}{base:Nat}{LC:eN}{g g':Gh}{lb lb':LB}{own aO:OW}{loc:Nat->Option (Nat×κ)}{mem:Mem}{w w':World}
variable{bJ:Nat->Bool}{aF:cx}{ev:bm->AV}{a:Act}{o:Oper}{ao:AO}{v:AV}{u:kZ}{m':Mem}
theorem HX(n:Nat)(z:List AV):(rep n z).length=n*z.length:=by
 induction n with
 |zero=>simp[rep]
 |succ n ih=>simp[rep,ih,kM,yQ]
theorem TC(z:List AV):∀(n k:Nat),k<n*z.length->(rep n z)[k]?=z[k % z.length]?:=by
 intro n;induction n with
 |zero=>intro k h;simp at h
 |succ n ih=>
  intro k h
  rw[rep];rcases bP k z.length with ρ|cG
  ·rw[dX ρ,Nat.mod_eq_of_lt ρ]
  ·rw[kM,Nat.one_mul]at h;rw[List.getElem?_append_right cG,ih (k-z.length) (by omega),Nat.mod_eq_sub_mod cG]
theorem FR.pw{sz:Nat}:∀{l:List AV} {vs:List Value},FR g lb sz l vs->PW (VR g lb) (l.flatMap AV.cells) vs:=by
 intro l;induction l with
 |nil=>
  intro vs h
  have:vs=[]:=List.eq_nil_of_length_eq_zero (by have:=h.1;simpa using this);subst this;exact PW.nil
 |cons e l ih=>
  intro vs h
  obtain⟨h1,h2,h3,h4⟩:=h;have Ke:e.cells.length=sz:=h2 e (by simp);simp only[eZ,kM,Nat.one_mul]at h1;have G3:FR g lb sz l (vs.drop sz):=by
   refine⟨by simp;omega,fun e he=>h2 e (AQ _ he),fun v hv=>h3 v (qp hv),fun i hi j hj dp=>?_⟩;have:=h4 (i+1) (by simpa using hi) j (by simpa using hj) (by rw[kM];simp at dp;omega);simp only[List.getElem_cons_succ,wW]at this⊢;have e1:(i+1)*sz+j=sz+(i*sz+j):=by rw[kM];omega
   simpa only[e1]using this
  have xJ:PW (VR g lb) e.cells (vs.take sz):=by refine⟨by simp;omega,fun j hj dp=>?_⟩;have:=h4 0 (by simp) j (by simpa using hj) (by simp at dp;omega);simpa using this
  have:=xJ.append (ih G3);rw[List.take_append_drop]at this;simpa[List.flatMap_cons]using this
theorem af_(hm:a8 g own LC mem w){y:AV}{yv:Value}(hy:VR g lb y yv){sz k:Nat}{cs:List AV}(hc:cellsOf mem sz y=some (k,cs)):
  cs.length=k*sz/\(Builtin.lenOf yv).run P w= .ok k w/\∀j,j<=k->∃vs:List Value,(Builtin.firstCells sz j yv).run P w= .ok vs.toArray w/\PW (VR g lb) (cs.take (j*sz)) vs/\∀v∈vs,v.oneCell'=true:=by
 have key:∀(b o cap:Nat) (full:List Value),yv= .slice (some ⟨b,o,none⟩) k cap->cs.length=k*sz->PW (VR g lb) cs full->(∀v∈full,v.oneCell'=true)→
   (∀j v,full[j]?=some v->w.cell? ⟨b,o+j,none⟩=some v)->cs.length=k*sz/\(Builtin.lenOf yv).run P w= .ok k w∧
   ∀j,j<=k->∃vs:List Value,(Builtin.firstCells sz j yv).run P w= .ok vs.toArray w/\PW (VR g lb) (cs.take (j*sz)) vs/\∀v∈vs,v.oneCell'=true:=by
  rintro b o cap full rfl hlen cU h1 n_
  refine⟨hlen,rfl,fun j hj=>⟨full.take (j*sz),?_,cU.take _,fun v hv=>h1 v (pa hv)⟩⟩;have Kz:j*sz<=full.length:=by rw[<-cU.1,hlen];exact Nat.mul_le_mul_right _ hj
  have zT:=run_loadCells_list (P:=P) w ⟨b,o,none⟩ (full.take (j*sz)) (fun q v hv=>by
   rw[Addr.add_mid]
   rw[AK]at hv;split at hv
   ·exact n_ q v hv
   ·cases hv)
  have Zn:(full.take (j*sz)).length=j*sz:=by simp;omega
  rw[Zn]at zT;simp only[Builtin.firstCells,zT]
 cases y with
 |list c l=>
  simp only[cellsOf]at hc
  split at hc
  ·rename_i oM;simp only[aZ,aN]at hc;obtain⟨rfl,rfl⟩:=hc;simp only[gu,decide_eq_true_eq]at oM;by_cases hle:l=[]
   ·subst hle;have Lq:(yv= .slice none 0 0)\/(∃ad cap,yv= .slice (some ad) 0 cap)\/∃b o cap,yv= .slice (some ⟨b,o,none⟩) 0 cap:=by
     cases hy with
     |iJ=>exact .inl rfl
     |gX _ _ ad cap hc=>exact .inr (.inl ⟨_,_,rfl⟩)
     |list _ _ _ b o eW n cap xs hn=>simp at hn;subst hn;exact .inr (.inr ⟨_,_,_,rfl⟩)
    rcases Lq with rfl|⟨ad,cap,rfl⟩|⟨b,o,cap,rfl⟩
    ·refine⟨by simp,rfl,fun j hj=>⟨[],rfl,by simp[PW],by simp⟩⟩
    ·refine⟨by simp,rfl,fun j hj=>⟨[],?_,by simp[PW],by simp⟩⟩;have:j=0:=by simp at hj;exact hj
     subst this;simp[Builtin.firstCells,loadCells,loadCellsFrom]
    ·exact key b o cap [] rfl (by simp) PW.nil (by simp) (by simp)
   ·obtain⟨b,o,cap,vs,rfl,-,-,lR,cu⟩:=hy.flat oM hle;have hp:=lR.pw;refine key b o cap vs rfl ?_ (hp.mono fun _ _ h=>h.mono g.eG fun _ _ _ h=>by cases h) lR.2.2.1 (fun j v hv=>hm.im _ _ _ (cu j v hv));rw[hp.1,lR.1]
  ·cases hc
 |sl kd id off n cap=>
  simp only[cellsOf]at hc
  split at hc
  ·rename_i l hb;split at hc
   ·rename_i hle;simp only[aZ,aN]at hc;obtain⟨rfl,rfl⟩:=hc;cases hy with
    |sl _ _ _ _ _ _ b zI bf=>
    obtain⟨b2,k1,k2⟩:=hm.blk id _ hb
    rw[bf]at k1;cases k1;obtain⟨aa,e,k3,k4,k5⟩:=k2.pw;refine key b off cap ((aa.toList.drop off).take (n*sz)) rfl (by simp;omega) (((k4.drop off).take (n*sz)).mono fun _ _ h=>h.mono g.eG fun _ _ _ h=>by cases h) (fun v hv=>k5 v (qp (pa hv))) (fun j v hv=>?_);rw[AK]at hv;split at hv
    ·rw[List.getElem?_drop]at hv;simpa[World.cell?,k3]using hv
    ·cases hv
   ·cases hc
  ·cases hc
 |_=>simp[cellsOf]at hc
theorem ad'(ax:eM g lb ev a)(hm:a8 g own LC mem w)(hl:cA g lb own loc w)(ho:bV base own w){t:TypeId}{x y:Operand}(Ω:o.op= .makeSlice t x y)
  (hc:bE P bJ o=some ao) (hr:aC ev loc mem aF o.dst ao=some (v,u,m')):eE P base LC g lb own loc w a o v u m':=by
 simp only[bE,Ω]at hc;split at hc
 ·rename_i e x' y' hu hx hy;split at hc
  ·rename_i z i hz hi;cases hc;simp only[aC]at hr;split at hr
   ·rename_i kn n kc c e1 e2;split at hr
    ·rename_i hb;simp only[aZ,aN]at hr;obtain⟨rfl,rfl,rfl⟩:=hr;have k1:=ax _ _ hx;have k2:=ax _ _ hy;rw[e1]at k1;rw[e2]at k2;obtain⟨zv,i',aj,oV,pW,mE,tN,jh,Ls,Lr⟩:=AD (P:=P) (g:=g) (lb:=lb) (w:=w) hz;rw[hi]at aj;cases aj;obtain⟨b0,b1,b2,b3⟩:=hb;have dj:=run_make (P:=P) w t e i zv hu hi oV kn kc n c b0 b1 b2 b3;have bh:(madeCells zv.cells (c.toNat*i.size)).size=(rep c.toNat z).length:=by rw[size_madeCells,HX,tN]
     have Ca:∀k (h:k<(rep c.toNat z).length) (h':k<(madeCells zv.cells (c.toNat*i.size)).size),
       (rep c.toNat z)[k]=z[k % z.length]'(qt _ (by omega))/\(madeCells zv.cells (c.toNat*i.size))[k]=zv.cells[k % zv.cells.size]'(qt _ (by omega)):=by
      intro k h h';have hk:k<c.toNat*z.length:=by rw[HX]at h;exact h
      refine⟨?_,?_⟩
      ·have:=TC z c.toNat k hk;rw[dr h,dr (qt _ (by omega))]at this;exact Option.some.inj this
      ·have hm:k % zv.cells.size<zv.cells.size:=qt _ (by omega);simp[madeCells,hm]
     have pN:=Ma (LC:=LC) (e:=e) (qJ:=true) (dst:=none) hm hl ho bh (fun k h h'=>by
       obtain⟨q1,q2⟩:=Ca k h h'
       rw[q1,q2];have:=Ls.2 (k % z.length) (qt _ (by omega)) (by simp;rw[mE,<-tN];exact qt _ (by omega));have he:k % zv.cells.size=k % z.length:=by rw[mE,tN]
       simpa only[he,l9]using this) (fun k h'=>by
       obtain⟨-,q2⟩:=Ca k (by omega) h';rw[q2];exact Lr _ (by simp)) (rfl:newVar loc mem true none (rep c.toNat z)=some (.ν mem.ε.length 0,none,_))
     refine⟨.slice (some ⟨w.heap.size,0,none⟩) n.toNat c.toNat,w.alloc (.cells (madeCells zv.cells (c.toNat*i.size)) e),.inl ?_,?_⟩
     ·exact(by simp only[execOp,Ω,ub k1,ub k2,Sem.run_bind,dj,Result.andThen_ok];rfl)
     ·obtain⟨g',lb',aO,p1,p2,p3,p4,p5,p6⟩:=pN;refine⟨g',lb',aO,p1,p2,?_,p4,p5,p6⟩;cases p3 with
      |ν _ _ _ b hb=>exact .sl _ _ _ _ _ _ _ (by omega) hb
    ·cases hr
   ·cases hr
  ·cases hc
 ·cases hc
theorem adW(ax:eM g lb ev a)(hm:a8 g own LC mem w)(hl:cA g lb own loc w)(ho:bV base own w){c:Call}(Ω:o.op= .call c)(hb:c.callee= .builtin .copy)
  (hc:bE P bJ o=some ao) (hr:aC ev loc mem aF o.dst ao=some (v,u,m')):eE P base LC g lb own loc w a o v u m':=by
 simp only[bE,Ω,hb]at hc;split at hc
 ·rename_i x y t ts jd uO;split at hc
  ·rename_i e x' y' hu hx hy;simp only[bH]at hc;obtain⟨sz,bh,rfl⟩:=hc;have oN:(c.args.map a.eval)= #[a.eval x,a.eval y]:=by
    have:(c.args.map a.eval).toList=[a.eval x,a.eval y]:=by simp[jd]
    rw[<-wV (xs:=c.args.map a.eval),this]
   have qT:c.argTypes[0]?=some t:=by rw[<-AE,uO];rfl
   simp only[aC]at hr;split at hr
   ·rename_i id off n cp e1;split at hr
    ·rename_i k cs fp;simp only[bH,aN,Prod.exists]at hr;obtain⟨u1,m1,hw,rfl,rfl,rfl⟩:=hr;have k1:=ax _ _ hx;rw[e1]at k1;obtain⟨b,bL,hid,db⟩:∃b,a.eval x= .slice (some ⟨b,off,none⟩) n cp/\g.mb id=some b/\n<=cp:=by
      generalize a.eval x=xv at k1;cases k1 with
      |sl _ _ _ _ _ _ b zI bf=>exact⟨b,rfl,bf,zI⟩
     obtain⟨s1,s2,-⟩:=oA (P:=P) (w:=w) bh;obtain⟨q1,q2,q3⟩:=af_ (P:=P) hm (ax _ _ hy) fp;obtain⟨vs,q4,q5,q6⟩:=q3 (Nat.min k n) (Nat.min_le_left _ _);have Lg:u1=none:=by
      simp only[wr]at hw;split at hw
      ·split at hw
       ·cases hw;rfl
       ·cases hw
      ·cases hw
     subst Lg;have lW:wr loc mem (.ν id off) (cs.take (Nat.min k n*sz))=some (none,m1):=hw;obtain⟨b2,adF,aa,ee,w1,w2,w3,w4⟩:=M5 hm hl ho (.ν lb id off b hid) q5 q6 lW;cases w1;have ψ:=run_storeCells_at P b off ee vs 0 aa w w2 (by simpa using w3) q6;simp only[ui]at ψ;refine⟨.int .i64 (Nat.min k n:Nat),w.setRow b (arr aa off vs),.inl ?_,?_⟩
     ·simp only[execOp,Ω,resolve,hb,oN,Sem.run_bind,Sem.run_pure,Result.andThen_ok,invoke,builtin,Builtin.copy_,qT,bL];have aam:(storeCells ⟨b,off,none⟩ vs).run P w= .ok () (w.setRow b (arr aa off vs)):=ψ;have wb:(Builtin.lenOf (.slice (some ⟨b,off,none⟩) n cp)).run P w= .ok n w:=rfl;simp[run_underlying hu,q2,s1,q4,aam,goInt]
     ·obtain⟨g',lb',aO,p1,p2,p3,p4,p5,p6⟩:=w4;exact⟨g',lb',aO,p1,p2,.int _ _ _,p4,p5,p6⟩
    ·cases hr
   ·cases hr
  ·cases hc
 ·cases hc
theorem adU(ax:eM g lb ev a)(hm:a8 g own LC mem w)(hl:cA g lb own loc w)(ho:bV base own w){c:Call}(Ω:o.op= .call c)(hb:c.callee= .builtin .clear)
  (hc:bE P bJ o=some ao) (hr:aC ev loc mem aF o.dst ao=some (v,u,m')):eE P base LC g lb own loc w a o v u m':=by
 simp only[bE,Ω,hb]at hc;split at hc
 ·rename_i x t jd uO;split at hc
  ·rename_i e x' hu hx;simp only[bH]at hc;obtain⟨z,hz,rfl⟩:=hc;have oN:(c.args.map a.eval)= #[a.eval x]:=by
    have:(c.args.map a.eval).toList=[a.eval x]:=by simp[jd]
    rw[<-wV (xs:=c.args.map a.eval),this]
   have qT:c.argTypes[0]?=some t:=by rw[<-AE,uO];rfl
   have k1:=ax _ _ hx;simp only[aC]at hr;split at hr
   ·rename_i cc e1;simp only[aZ,aN]at hr;obtain⟨rfl,rfl,rfl⟩:=hr;rw[e1]at k1;have bL:∃A cap,a.eval x= .slice A 0 cap:=by
     generalize a.eval x=xv at k1;cases k1 with
     |iJ=>exact⟨_,_,rfl⟩
     |gX=>exact⟨_,_,rfl⟩
     |list _ _ _ b o sz n cap xs hn=>simp at hn;subst hn;exact⟨_,_,rfl⟩
    obtain⟨A,cap,bL⟩:=bL;refine .pure hm hl ho (x:= .tuple #[]) ?_ (.undef _);simp only[execOp,Ω,resolve,hb,oN,Sem.run_bind,Sem.run_pure,Result.andThen_ok,invoke,builtin,Builtin.clear_,qT,bL];cases A<;>simp[run_underlying hu]
   ·rename_i id off n cp e1;rw[e1]at k1;obtain⟨b,bL,hid,db⟩:∃b,a.eval x= .slice (some ⟨b,off,none⟩) n cp/\g.mb id=some b/\n<=cp:=by
     generalize a.eval x=xv at k1;cases k1 with
     |sl _ _ _ _ _ _ b zI bf=>exact⟨b,rfl,bf,zI⟩
    split at hr
    ·rename_i hn;simp only[aZ,aN]at hr;obtain⟨rfl,rfl,rfl⟩:=hr;subst hn;refine .pure hm hl ho (x:= .tuple #[]) ?_ (.undef _);simp only[execOp,Ω,resolve,hb,oN,Sem.run_bind,Sem.run_pure,Result.andThen_ok,invoke,builtin,Builtin.clear_,qT,bL];simp[run_underlying hu]
    rename_i hn;simp only[bH,aN,Prod.exists]at hr;obtain⟨u1,m1,hw,rfl,rfl,rfl⟩:=hr;have Lg:u1=none:=by
     simp only[wr]at hw;split at hw
     ·split at hw
      ·cases hw;rfl
      ·cases hw
     ·cases hw
    subst Lg;have lW:wr loc mem (.ν id off) (rep n z)=some (none,m1):=hw;obtain⟨zv,i,hi,oV,pW,mE,tN,jh,Ls,Lr⟩:=AD (P:=P) (g:=g) (lb:=lb) (w:=w) hz;have bh:(Builtin.zeroCells zv.cells n).size=(rep n z).length:=by rw[size_zeroCells,HX,tN,mE]
    have Ca:∀k (h:k<(rep n z).length) (h':k<(Builtin.zeroCells zv.cells n).size),
      (rep n z)[k]=z[k % z.length]'(qt _ (by omega))/\(Builtin.zeroCells zv.cells n)[k]=zv.cells[k % zv.cells.size]'(qt _ (by omega)):=by
     intro k h h';have hk:k<n*z.length:=by rw[HX]at h;exact h
     refine⟨?_,?_⟩
     ·have:=TC z n k hk;rw[dr h,dr (qt _ (by omega))]at this;exact Option.some.inj this
     ·have hm:k % zv.cells.size<zv.cells.size:=qt _ (by omega);simp[Builtin.zeroCells,hm]
    have cU:PW (VR g lb) (rep n z) (Builtin.zeroCells zv.cells n).toList:=by
     refine⟨by simp[bh],fun k h h'=>?_⟩;obtain⟨q1,q2⟩:=Ca k h (by simpa using h');have e3:(Builtin.zeroCells zv.cells n).toList[k]=(Builtin.zeroCells zv.cells n)[k]'(by simpa using h'):=l9 _;rw[q1,e3,q2];have:=Ls.2 (k % z.length) (qt _ (by omega)) (by simp;rw[mE,<-tN];exact qt _ (by omega));have he:k % zv.cells.size=k % z.length:=by rw[mE,tN]
     simpa only[he,l9]using this
    have h1:∀v∈(Builtin.zeroCells zv.cells n).toList,v.oneCell'=true:=by intro v hv;obtain⟨k,hk,rfl⟩:=List.mem_iff_getElem.1 hv;obtain⟨-,q2⟩:=Ca k (by simpa[bh]using hk) (by simpa using hk);have e3:(Builtin.zeroCells zv.cells n).toList[k]=(Builtin.zeroCells zv.cells n)[k]'(by simpa using hk):=l9 _;rw[e3,q2];exact Lr _ (by simp)
    obtain⟨b2,adF,aa,ee,w1,w2,w3,w4⟩:=M5 hm hl ho (.ν lb id off b hid) cU h1 lW;cases w1;have ψ:=run_storeCells_at P b off ee _ 0 aa w w2 (by simpa using w3) h1;simp only[ui]at ψ;refine⟨.tuple #[],w.setRow b (arr aa off (Builtin.zeroCells zv.cells n).toList),.inl ?_,?_⟩
    ·simp only[execOp,Ω,resolve,hb,oN,Sem.run_bind,Sem.run_pure,Result.andThen_ok,invoke,builtin,Builtin.clear_,qT,bL];obtain⟨n',rfl⟩:∃n',n=n'+1:=⟨n-1,by omega⟩;simp[run_underlying hu,pW,ψ,arr]
    ·obtain⟨g',lb',aO,p1,p2,p3,p4,p5,p6⟩:=w4;exact⟨g',lb',aO,p1,p2,.undef _,p4,p5,p6⟩
   ·cases hr
  ·cases hc
 ·cases hc
end
section
variable{P:Program}{base:Nat}{LC:eN}{g:Gh}{lb:LB}{own:OW}{loc:Nat->Option (Nat×κ)}{mem:Mem}{w:World}{bJ:Nat->Bool}{aF:cx}
variable{ev:bm->AV}{a:Act}{o:Oper}{ao:AO}{v:AV}{u:kZ}{m':Mem}
def y8:KK->AV->AV->Option Bool
 | .int,.int k a,.int k' b=>if k=k' then some (decide (a=b))else none
 | .str,.str a,.str b=>some (decide (a=b))
 | .bool,.bool a,.bool b=>some (a==b)
 |_,_,_=>none
theorem Jq{k:KK}{ks:List KK}{l m:List AV}{r:Bool}(h:kp (k::ks) l m=some r):
  ∃x y l' m' r1 r2,l=x::l'/\m=y::m'/\y8 k x y=some r1/\kp ks l' m'=some r2/\r=(r1&&r2):=by
 cases k<;>cases l with
 |nil=>simp[kp]at h
 |cons x l=>
  cases m with
  |nil=>cases x<;>simp[kp]at h
  |cons y m=>
   cases x<;>cases y<;>simp only[kp]at h<;>first|(cases h;done)|skip
   all_goals first
    |(
      split at h
      ·rename_i hk;simp only[bH]at h;obtain⟨r2,h2,rfl⟩:=h;exact⟨_,_,_,_,_,r2,rfl,rfl,by simp only[y8,hk,if_true],h2,rfl⟩
      ·cases h)
    |(
      simp only[bH]at h
      obtain⟨r2,h2,rfl⟩:=h;exact⟨_,_,_,_,_,r2,rfl,rfl,rfl,h2,rfl⟩)
theorem TI{k:KK}{t:TypeId}(hk:oW P t=some k){x y:AV}{xv yv:Value}(hx:VR g lb x xv)(hy:VR g lb y yv){r:Bool}(h:y8 k x y=some r)(d:Nat):
  (Op.equalIn (d+1) t xv yv).run P w= .ok r w:=by
 unfold oW at hk;split at hk
 ·rename_i q hu;cases hk;cases x<;>cases y<;>simp only[y8]at h<;>first|(cases h;done)|skip
  split at h
  ·rename_i pH;subst pH;cases h;cases hx;cases hy;rw[run_equalIn_int w d t _ _ _ _ hu];rfl
  ·cases h
 ·rename_i hu;cases hk;cases x<;>cases y<;>simp only[y8]at h<;>first|(cases h;done)|skip
  cases h;cases hx;cases hy;rename_i b1 h1 b2 h2;rw[run_equalIn_string w d t _ _ hu,MR h1 h2]
 ·rename_i hu;cases hk;cases x<;>cases y<;>simp only[y8]at h<;>first|(cases h;done)|skip
  cases h;cases hx;cases hy;exact run_equalIn_bool d hu _ _
 ·cases hk
theorem acM{t:TypeId}{k:KK}(h:oW P t=some k):(isAgg t).run P w= .ok false w:=by
 unfold oW at h;split at h
 ·rename_i hu;simp[isAgg,run_underlying hu]
 ·rename_i hu;simp[isAgg,run_underlying hu]
 ·rename_i hu;simp[isAgg,run_underlying hu]
 ·cases h
theorem HZ{t:TypeId}{k:KK}(h:oW P t=some k){cs:Array Value}{off:Nat}(ho:off<cs.size):(part t cs off).run P w= .ok cs[off] w:=by simp[part,acM h,Array.getElem?_eq_getElem ho]
theorem PK(d:Nat){xs ys:Array Value}:∀(fs:List Field) (k:Nat) (ks:List KK) (l m:List AV) (r:Bool),Ew P k fs=some ks->kp ks l m=some r→
  PW (VR g lb) l (xs.toList.drop k)->PW (VR g lb) m (ys.toList.drop k)->(Op.eqFields (d+1) xs ys fs).run P w= .ok r w
 |[],k,ks,l,m,r,hf,he,_,_=>by cases hf;cases l<;>cases m<;>simp[kp]at he;subst he;rfl
 |f::fs,k,ks,l,m,r,hf,he,hx,hy=>by
  simp only[Ew]at hf;split at hf
  ·rename_i kk ks' h1 h2 h3;split at hf
   ·rename_i hc;obtain⟨ZT,rfl⟩:=hc;cases hf;obtain⟨x,y,l',m',r1,r2,rfl,rfl,e1,e2,rfl⟩:=Jq he;have KB:f.offset<xs.size:=by have:=hx.1;simp at this;omega
    have KD:f.offset<ys.size:=by have:=hy.1;simp at this;omega
    have vx:=hx.2 0 (by simp) (by simp;omega);have vy:=hy.2 0 (by simp) (by simp;omega);simp only[me,wW,ui,l9]at vx vy;have gn:PW (VR g lb) l' (xs.toList.drop (f.offset+1)):=by have:=hx.drop 1;simpa[vn]using this
    have lX:PW (VR g lb) m' (ys.toList.drop (f.offset+1)):=by have:=hy.drop 1;simpa[vn]using this
    have ih:=PK d fs (f.offset+1) ks' l' m' r2 h3 e2 gn lX;have GG:=TI (P:=P) (w:=w) h1 vx vy e1 d;simp only[Op.eqFields];rw[if_pos ZT];simp only[Sem.run_bind,HZ h1 KB,HZ h1 KD,Result.andThen_ok,GG];cases r1
    ·rfl
    ·simp only[ah5,gY,if_false,ug];exact ih
   ·cases hf
  ·cases hf
theorem Nx(d:Nat){e:TypeId}{k:KK}(hk:oW P e=some k){xs ys:Array Value}:∀(n i:Nat) (l m:List AV) (r:Bool),kp (rD n k) l m=some r→
  PW (VR g lb) l ((xs.toList.drop i).take n)->PW (VR g lb) m ((ys.toList.drop i).take n)→
  (forIn (m:=Sem) (List.range' i n) ((none,()):Option Bool×Unit) fun j _=>do
    if !(<-Op.equalIn (d+1) e (<-part e xs (j*1)) (<-part e ys (j*1)))then pure (ForInStep.done (some false,()))else pure (ForInStep.yield (none,()))).run P w=
   .ok (if r then(none,())else(some false,())) w
 |0,i,l,m,r,he,_,_=>by cases l<;>cases m<;>simp[kp]at he;subst he;rfl
 |n+1,i,l,m,r,he,hx,hy=>by
  rw[ah6]at he;obtain⟨x,y,l',m',r1,r2,rfl,rfl,e1,e2,rfl⟩:=Jq he;have KB:i<xs.size:=by have:=hx.1;simp at this;omega
  have KD:i<ys.size:=by have:=hy.1;simp at this;omega
  have vx:=hx.2 0 (by simp) (by simp;omega);have vy:=hy.2 0 (by simp) (by simp;omega);simp only[me,List.getElem_take,wW,ui,l9]at vx vy;have gn:PW (VR g lb) l' ((xs.toList.drop (i+1)).take n):=by have:=hx.drop 1;simpa[ah7,vn]using this
  have lX:PW (VR g lb) m' ((ys.toList.drop (i+1)).take n):=by have:=hy.drop 1;simpa[ah7,vn]using this
  have ih:=Nx d hk n (i+1) l' m' r2 e2 gn lX;have GG:=TI (P:=P) (w:=w) hk vx vy e1 d;rw[List.range'_succ];simp only[List.forIn_cons,Sem.run_bind,Nat.mul_one,HZ hk KB,HZ hk KD,Result.andThen_ok,GG];cases r1
  ·rfl
  ·simp only[ah5,gY,if_false,ug,Sem.run_pure,Result.andThen_ok];simp only[Nat.mul_one]at ih;exact ih
theorem Xi{t:TypeId}{ks:List KK}(hf:BC P t=some ks){l m:List AV}{xs ys:Array Value}{r:Bool}(hx:VR g lb (.agg l) (.agg xs))(hy:VR g lb (.agg m) (.agg ys))(he:kp ks l m=some r):
  P.eqGuardType P.depth t=false/\(Op.equalIn 10000 t (.agg xs) (.agg ys)).run P w= .ok r w:=by
 unfold BC at hf;split at hf
 ·cases hf
 ·rename_i oS;refine⟨by simpa using oS,?_⟩;have px:=(Tq hx).1;have py:=(Tq hy).1;split at hf
  ·rename_i fields hu;split at hf
   ·cases hf
   ·rename_i ψ;have QO:P.fieldsOf t=fields:=by simp[Program.fieldsOf,hu]
    rw[show(10000:Nat)=9998+1+1 from rfl,run_equalIn_struct w (9998+1) t xs ys (by rw[QO];exact hu) (by simpa using ψ),QO];exact PK 9998 fields.toList 0 ks l m r hf he (by simpa using px) (by simpa using py)
  ·rename_i n e hu;split at hf
   ·rename_i kk hk hs;cases hf;obtain⟨s1,-,-⟩:=oA (P:=P) (w:=w) hs;have hlx:l.length=n/\m.length=n:=by
     have:∀(n:Nat) (l m:List AV) (r:Bool),kp (rD n kk) l m=some r->l.length=n/\m.length=n:=by
      intro n;induction n with
      |zero=>intro l m r h;cases l<;>cases m<;>simp[kp]at h;exact⟨rfl,rfl⟩
      |succ n ih=>
       intro l m r h
       rw[ah6]at h;obtain⟨_,_,l',m',_,_,rfl,rfl,_,h2,_⟩:=Jq h;have:=ih _ _ _ h2;exact⟨by simp[this.1],by simp[this.2]⟩
     exact this n l m r he
    have ha:=Nx (P:=P) (w:=w) (xs:=xs) (ys:=ys) 9998 hk n 0 l m r he (by
     have:=px.1
     rw[ah8,dY (by omega)];exact px) (by
     have:=py.1;rw[ah8,dY (by omega)];exact py)
    rw[show(10000:Nat)=9998+1+1 from rfl,Op.equalIn];simp only[Sem.run_bind,run_underlying hu,Result.andThen_ok,s1];rw[Std.Legacy.Range.forIn_eq_forIn_range'];simp only[Std.Legacy.Range.size,Nat.sub_zero,Nat.add_sub_cancel,Nat.div_one];rw[ha];cases r<;>rfl
   ·cases hf
  ·cases hf
theorem HG(ax:eM g lb ev a)(hm:a8 g own LC mem w)(hl:cA g lb own loc w)(ho:bV base own w){op:BinOp}{t ty:TypeId}{x y:Operand}(Ω:o.op= .binOp op t x y ty)
  {x' y':bm} (hx:cm x=some x') (hy:cm y=some y') {ks:List KK} (hf:BC P t=some ks) {neg:Bool} (hn:op=if neg then .neq else .eql)
  (hr:aC ev loc mem aF o.dst (.eqs neg ks x' y')=some (v,u,m')):eE P base LC g lb own loc w a o v u m':=by
 simp only[aC]at hr;split at hr
 ·rename_i l m e1 e2;simp only[bH,aN]at hr;obtain⟨r,hr,rfl,rfl,rfl⟩:=hr;have k1:=ax _ _ hx;have k2:=ax _ _ hy;rw[e1]at k1;rw[e2]at k2;cases bL:a.eval x<;>rw[bL]at k1<;>(try(cases k1;done));cases uT:a.eval y<;>rw[uT]at k2<;>(try(cases k2;done));obtain⟨h1,h2⟩:=Xi (P:=P) (w:=w) hf k1 k2 hr;refine .pure (x:= .bool (if neg then !r else r)) hm hl ho ?_ (.bool _ _);cases neg<;>simp only[gY,if_false,if_true]at hn<;>subst hn
  ·simp only[execOp,Ω,bL,uT,Sem.run_bind,run_eqGuard_agg w .eql t x y _ _ h1,Result.andThen_ok,run_eql_struct,h2];rfl
  ·simp only[execOp,Ω,bL,uT,Sem.run_bind,run_eqGuard_agg w .neq t x y _ _ h1,Result.andThen_ok,run_neq_struct,h2];rfl
 ·cases hr
theorem ad2(ax:eM g lb ev a)(hm:a8 g own LC mem w)(hl:cA g lb own loc w)(ho:bV base own w){t:TypeId}{x y z:Operand}(Ω:o.op= .insert t x y z)
  (hc:bE P bJ o=some ao) (hr:aC ev loc mem aF o.dst ao=some (v,u,m')):eE P base LC g lb own loc w a o v u m':=by
 have e1:bE P bJ {o with op:= .mapUpdate t x y z}=some ao:=by rw[<-hc];simp only[bE,Ω]
 have e2:execOp a.eval o=execOp a.eval {o with op:= .mapUpdate t x y z}:=by simp only[execOp,Ω]
 have:=SW (o:= {o with op:= .mapUpdate t x y z}) ax hm hl ho rfl e1 hr;unfold eE at this⊢;rw[e2];exact this
theorem ad_(hm:a8 g own LC mem w)(hl:cA g lb own loc w)(ho:bV base own w){t:TypeId}{r:Operand}(Ω:o.op= .makeMap t (some r))
  (hc:bE P bJ o=some ao) (hr:aC ev loc mem aF o.dst ao=some (v,u,m')):eE P base LC g lb own loc w a o v u m':=by
 cases r with
 |const c=>
  cases c with
  |int k n=>
   simp only[bE,Ω]at hc
   split at hc
   ·rename_i kt et hu;cases hc;have e1:bE P bJ {o with op:= .makeMap t none}=some .mkmap:=by simp only[bE]
    have e2:(execOp a.eval o).run P w=(execOp a.eval {o with op:= .makeMap t none}).run P w:=by simp only[execOp,Ω,qv,Option.map_none,Instr.makeMap,Act.eval,Sem.run_bind,run_underlying hu,Result.andThen_ok,asInt,asIntOf,Sem.run_pure]
    have:=SY (a:=a) (o:= {o with op:= .makeMap t none}) hm hl ho rfl e1 hr;unfold eE at this⊢;rw[e2];exact this
   ·cases hc
  |_=>simp only[bE,Ω]at hc;cases hc
 |_=>simp only[bE,Ω]at hc;cases hc
theorem aef(ax:eM g lb ev a)(hm:a8 g own LC mem w)(hl:cA g lb own loc w)(ho:bV base own w)(hc:bE P bJ o=some ao)(Cd:∀f args,ao≠ .call f args)
  (hr:aC ev loc mem aF o.dst ao=some (v,u,m')):eE P base LC g lb own loc w a o v u m':=by
 cases Ω:o.op with
 |move x=>exact SZ ax hm hl ho (.inl Ω) hc hr
 |assign x=>exact SZ ax hm hl ho (.inr Ω) hc hr
 |pick c x y=>exact aec ax hm hl ho Ω hc hr
 |alloc e=>exact adP hm hl ho Ω hc hr
 |box e x=>exact adR ax hm hl ho Ω hc hr
 |build t ps=>exact adT ax hm hl ho Ω hc hr
 |buildSlice t n ps=>exact adS ax hm hl ho Ω hc hr
 |load t x=>exact ad4 ax hm hl ho Ω hc hr
 |store t x y=>exact aeg ax hm hl ho Ω hc hr
 |nilCheck x=>exact aea ax hm hl ho Ω hc hr
 |unOp op t x=>exact aeh ax hm hl ho Ω hc hr
 |convert s d x=>exact adV ax hm hl ho Ω hc hr
 |makeInterface t x=>exact ad9 ax hm hl ho Ω hc hr
 |makeFunc f x y=>exact ad8 ax hm hl ho Ω hc hr
 |fieldAddr s x f=>exact adZ ax hm hl ho Ω hc hr
 |field s x f=>exact ad0 ax hm hl ho Ω hc hr
 |indexAddr t x i=>exact ad1 ax hm hl ho Ω hc hr
 |index t x i=>exact ad3 ax hm hl ho Ω hc hr
 |lookup t x i ok=>exact ad6 ax hm hl ho Ω hc hr
 |mapUpdate t x y z=>exact SW ax hm hl ho Ω hc hr
 |slice t x lo hi mx=>exact aee ax hm hl ho Ω hc hr
 |extract x k=>exact adY ax hm hl ho Ω hc hr
 |range t x=>exact aed ax hm hl ho Ω hc hr
 |makeMap t r=>
  cases r with
  |none=>exact SY hm hl ho Ω hc hr
  |some r=>exact ad_ hm hl ho Ω hc hr
 |insert t x y z=>exact ad2 ax hm hl ho Ω hc hr
 |next x b=>
  cases b with
  |true=>exact aeb ax hm hl ho Ω hc hr
  |false=>simp only[bE,Ω]at hc;cases hc
 |binOp op t x y ty=>
  have zH:=hc
  simp only[bE,Ω]at hc;split at hc
  ·rename_i h1 h2 h3;cases hc;exact SU ax hm hl ho Ω h2 h3 hr
  ·rename_i h1 h2 h3;cases hc;exact SU ax hm hl ho Ω h2 h3 hr
  ·rename_i h1 h2 h3;split at hc
   ·cases hc;exact SV ax hm hl ho Ω h2 h3 h1 (neg:=false) rfl hr
   ·cases hc;exact SV ax hm hl ho Ω h2 h3 h1 (neg:=true) rfl hr
   ·cases hc
  ·rename_i h1 h2 h3;split at hc
   ·rename_i hf;cases hc;exact HG ax hm hl ho Ω h2 h3 hf (neg:=false) rfl hr
   ·rename_i hf;cases hc;exact HG ax hm hl ho Ω h2 h3 hf (neg:=true) rfl hr
   ·cases hc
  ·rename_i h1 h2 h3;split at hc
   ·rename_i hf;cases hc;exact HG ax hm hl ho Ω h2 h3 hf (neg:=false) rfl hr
   ·rename_i hf;cases hc;exact HG ax hm hl ho Ω h2 h3 hf (neg:=true) rfl hr
   ·cases hc
  ·rename_i h1 h2 h3;exact CW ax hm hl ho Ω h2 hc (fun v hv=>⟨⟨_,h1⟩,hv⟩) hr
  ·rename_i h1 h2 h3;exact CW ax hm hl ho Ω h2 hc (fun v hv=>⟨⟨_,h1⟩,hv⟩) hr
  ·rename_i h1 h2 h3;exact CW ax hm hl ho Ω h2 hc (fun v hv=>⟨⟨_,_,_,h1⟩,hv⟩) hr
  ·rename_i h1 h2 h3;exact CW ax hm hl ho Ω h2 hc (fun v hv=>⟨⟨_,h1⟩,hv⟩) hr
  ·rename_i h1 h2 h3;exact CW ax hm hl ho Ω h2 hc (fun v hv=>⟨⟨_,_,h1⟩,hv⟩) hr
  ·cases hc
 |makeSlice t x y=>exact ad' ax hm hl ho Ω hc hr
 |call c=>
  cases hb:c.callee with
  |value f=>
   simp only[bE,Ω,hb]at hc
   split at hc
   ·cases hc;exact absurd rfl (Cd _ _)
   ·cases hc
  |invoke r n=>simp only[bE,Ω,hb]at hc;cases hc
  |builtin b=>
   cases b<;>first
    |exact adQ ax hm hl ho Ω hb hc hr
    |exact ad5 ax hm hl ho Ω hb hc hr
    |exact adX ax hm hl ho Ω hb hc hr
    |exact adW ax hm hl ho Ω hb hc hr
    |exact adU ax hm hl ho Ω hb hc hr
    |exact SX ax hm hl ho Ω (.inl hb) hc hr
    |exact SX ax hm hl ho Ω (.inr hb) hc hr
    |(simp only[bE,Ω,hb]at hc;cases hc)
 |_=>simp only[bE,Ω]at hc;cases hc
end
structure KM (m m':Mem):Prop where
 len:m.ε.length<=m'.ε.length
 θ:∀id,id∈m.θ->id∈m'.θ
 cells:∀id l',m'.ε[id]?=some (.cells l')->id<m.ε.length->id∉m'.θ->∀v∈l',(∃l,m.ε[id]?=some (.cells l)/\v∈l)\/lo id v=true
theorem KM.refl(m:Mem):KM m m:=⟨bF _,fun _ h=>h,fun _ l' h _ _ _ hv=> .inl ⟨l',h,hv⟩⟩
theorem KM.trans{a b c:Mem}(h:KM a b)(k:KM b c):KM a c:= {
 len:=xb h.len k.len
 θ id hid:=k.θ id (h.θ id hid)
 cells id l' hl hid od v hv:=by
  rcases k.cells id l' hl (rF hid h.len) od v hv with⟨l,h1,h2⟩|h1
  ·exact h.cells id l h1 hid (fun hn=>od (k.θ id hn)) v h2
  ·exact .inr h1}
theorem KM.push(m:Mem)(b:κ):KM m (m.push b):= {
 len:=by simp[Mem.push]
 θ _ h:=h
 cells id l' hl hid _ v hv:=by simp only[Mem.push]at hl;rw[dX hid]at hl;exact .inl ⟨l',hl,hv⟩}
theorem KM.set{m:Mem}{i:Nat}{b:κ}(hb:∀l,b≠ .cells l)(t:Bool):KM m (m.put i b t):= {
 len:=by simp[Mem.put]
 θ id h:=by simp only[Mem.put];split<;>simp[h]
 cells id l' hl _ _ v hv:=by
  simp only[Mem.put,vq]at hl;split at hl
  ·split at hl
   ·cases hl;exact absurd rfl (hb _)
   ·cases hl
  ·exact .inl ⟨l',hl,hv⟩}
def KC(c:cx):Prop:=∀fv args m r m',c fv args m=some (r,m')->KM m m'
theorem M4{lk mem p vs u m'}(h:wr lk mem p vs=some (u,m')):KM mem m':=by
 unfold wr at h;split at h
 ·split at h
  ·split at h
   ·simp only[aZ,aN]at h;rw[<-h.2];exact KM.refl _
   ·cases h
  ·cases h
 ·split at h
  ·rename_i id off _ l hb;split at h
   ·simp only[aZ,aN]at h;rw[<-h.2];refine⟨by simp[Mem.put],fun i hi=>by simp only[Mem.put];split<;>simp[hi],fun i l' hl hi od v hv=>?_⟩;simp only[Mem.put,vq]at hl od;split at hl
    ·rename_i xN;subst xN;split at hl
     ·simp only[aZ,κ.cells.injEq]at hl;subst hl;have fz:bp id (vs.map mem.φ)=true:=by
       cases hc:bp id (vs.map mem.φ)with
       |true=>rfl
       |false=>rw[hc]at od;simp at od
      unfold eV at hv;rcases dE.1 hv with hv|hv
      ·rcases dE.1 hv with hv|hv
       ·exact .inl ⟨l,hb,pa hv⟩
       ·right;rw[nN,gu]at fz;exact fz v hv
      ·exact .inl ⟨l,hb,qp hv⟩
     ·omega
    ·exact .inl ⟨l',hl,hv⟩
   ·cases h
  ·cases h
 ·cases h
theorem SH{lk mem qJ dst l v u m'}(h:newVar lk mem qJ dst l=some (v,u,m')):KM mem m':=by
 unfold newVar at h;split at h
 ·simp only[aZ,aN]at h;rw[<-h.2.2];exact KM.push _ _
 ·split at h
  ·simp only[aZ,aN]at h;rw[<-h.2.2];exact KM.refl _
  ·cases h
theorem UH{mem ag sz bytes e x y v m'}(h:f_ mem ag sz bytes e x y=some (v,m')):KM mem m':=by
 unfold f_ at h;split at h
 ·split at h
  ·split at h
   ·simp only[aZ,aN]at h;rw[<-h.2];exact KM.refl _
   ·simp only[aZ,aN]at h;rw[<-h.2];exact KM.push _ _
   ·simp only[aZ,aN]at h;rw[<-h.2];exact KM.push _ _
   ·split at h
    ·split at h
     ·simp only[aZ,aN]at h;rw[<-h.2];exact KM.set (fun _ h=>by cases h) _
     ·cases h
    ·cases h
   ·cases h
  ·cases h
 ·cases h
theorem U3{ev lk mem dst o v u m'}{c:cx}(hc:KC c)(h:aC ev lk mem c dst o=some (v,u,m')):KM mem m':=by
 cases o<;>simp only[aC]at h
 case bad=>cases h
 case alloc=>exact SH h
 case box=>
  split at h
  ·exact SH h
  ·cases h
 case st=>
  split at h
  ·simp only[bH,aN,Prod.exists]at h;obtain⟨_,_,h1,_,_,rfl⟩:=h;exact M4 h1
  ·cases h
 case mapup=>
  (repeat' split at h)<;>first|(cases h;done)|skip
  simp only[bH,aN]at h;obtain⟨_,_,_,_,rfl⟩:=h;exact KM.set (fun _ h=>by cases h) _
 case del=>
  (repeat' split at h)<;>first|(cases h;done)|skip
  simp only[bH,aN]at h;obtain⟨_,_,_,_,rfl⟩:=h;exact KM.set (fun _ h=>by cases h) _
 case abld=>simp only[aZ,aN]at h;rw[<-h.2.2];exact KM.push _ _
 case mkmap=>simp only[aZ,aN]at h;rw[<-h.2.2];exact KM.push _ _
 case mkslc=>
  (repeat' split at h)<;>first|(cases h;done)|skip
  simp only[aZ,aN]at h;rw[<-h.2.2];exact KM.push _ _
 case cpy=>
  (repeat' split at h)<;>first|(cases h;done)|skip
  simp only[bH,aN,Prod.exists]at h;obtain⟨_,_,h1,_,_,rfl⟩:=h;exact M4 h1
 case clr=>
  split at h
  ·simp only[aZ,aN]at h;rw[<-h.2.2];exact KM.refl _
  ·split at h
   ·simp only[aZ,aN]at h;rw[<-h.2.2];exact KM.refl _
   ·simp only[bH,aN,Prod.exists]at h;obtain⟨_,_,h1,_,_,rfl⟩:=h;exact M4 h1
  ·cases h
 case call=>
  simp only[bH,aN,Prod.exists]at h
  obtain⟨_,_,h1,_,_,rfl⟩:=h;exact hc _ _ _ _ _ h1
 case app=>
  simp only[bH,aN,Prod.exists]at h
  obtain⟨_,_,h1,_,_,rfl⟩:=h;exact UH h1
 all_goals
  (repeat' split at h)<;>first
   |(cases h;done)
   |(simp only[aZ,aN]at h;obtain⟨_,_,rfl⟩:=h;exact KM.refl _)
   |(simp only[bH,aN]at h;obtain⟨_,_,_,_,rfl⟩:=h;exact KM.refl _)
   |(simp only[bH]at h;obtain⟨_,_,h⟩:=h;(repeat' split at h)<;>(simp only[aN]at h;obtain⟨_,_,rfl⟩:=h;exact KM.refl _))
theorem U_{gl o s s'}{c:cx}(hc:KC c)(h:dP gl c o s=some s'):KM s.mem s'.mem:=by
 unfold dP at h;split at h
 ·cases h
 ·split at h
  ·rename_i he;cases h;exact U3 hc he
  ·cases h
 ·cases h;exact KM.refl _
theorem Ns{gl l s s'}{c:cx}(hc:KC c)(h:ed gl c l s=some s'):KM s.mem s'.mem:=by
 induction l generalizing s with
 |nil=>cases h;exact KM.refl _
 |cons o l ih=>
  simp only[ed]at h
  split at h
  ·rename_i he;exact(U_ hc he).trans (ih h)
  ·cases h
theorem IE{gl l s tr}{c:cx}(h:dF gl c l s=some tr):tr.length=l.length+1/\tr[0]?=some s/\tr.getLast?=ed gl c l s∧
  ∀i (hi:i<l.length),∃si TT,tr[i]?=some si/\tr[i+1]?=some TT/\dP gl c l[i] si=some TT:=by
 induction l generalizing s tr with
 |nil=>cases h;exact⟨rfl,rfl,rfl,fun i hi=>by simp at hi⟩
 |cons o l ih=>
  simp only[dF]at h
  split at h
  ·rename_i s' he;simp only[bH]at h;obtain⟨tr',h1,rfl⟩:=h;obtain⟨k1,k2,k3,k4⟩:=ih h1;refine⟨by simp[k1],rfl,?_,fun i hi=>?_⟩
   ·simp only[ed,he,<-k3];cases tr' with
    |nil=>simp at k1
    |cons a t=>simp
   ·cases i with
    |zero=>exact⟨s,s',rfl,by simpa using k2,he⟩
    |succ i=>simpa using k4 i (by simpa using hi)
  ·cases h
theorem UN{gl l cf af s s'}{c:cx}(h:ek gl c l cf af s=some s'):ed gl c l s=some s':=by
 unfold ek at h;split at h
 ·rename_i tr zW;split at h
  ·rw[<-(IE zW).2.2.1];exact h
  ·cases h
 ·cases h
theorem TO{n:Nat}:∀(t:List Nat) (bs:List κ) (id:Nat),id∉t->(lJ n t bs)[id]?=bs[id]?
 |[],_,_,_=>rfl
 |i::t,bs,id,h=>by
  simp only[dO,not_or]at h;simp only[lJ];rw[TO t _ id h.2];split
  ·rw[List.getElem?_set_ne (fun e=>h.1 e.symm)]
  ·rfl
theorem TN{n:Nat}:∀(t:List Nat) (bs:List κ),(lJ n t bs).length=bs.length
 |[],_=>rfl
 |i::t,bs=>by simp only[lJ];rw[TN t];split<;>simp
theorem IG{m0 m:Mem}(h:m0.ε.length<=m.ε.length):(m0.back m).ε.length=m0.ε.length:=by simp only[Mem.back,TN,List.length_take];omega
theorem NC{m0 m:Mem}(hlen:m0.ε.length<=m.ε.length)
  (hc:∀id l',m.ε[id]?=some (.cells l')->id<m0.ε.length->id∉m.θ->∀v∈l',(∃l,m0.ε[id]?=some (.cells l)/\v∈l)\/lo id v=true):KM m0 (m0.back m):= {
 len:=by rw[IG hlen];exact bF _
 θ id h:=by simp only[Mem.back];exact wX _ h
 cells id l' hl hid od v hv:=by
  simp only[Mem.back]at hl od;by_cases ht:id∈m.θ
  ·have er:bp id l'=true:=by
    cases hc:bp id l' with
    |true=>rfl
    |false=>
     exfalso;apply od
     refine s_ _ (Dx.2 ⟨ht,?_⟩);rw[hl];simp[κ.clean,hc]
   rw[nN,gu]at er;exact .inr (er v hv)
  ·rw[TO _ _ _ ht,AK]at hl;rw[if_pos hid]at hl;exact hc id l' hl hid ht v hv}
def It(lp:oC):Prop:=∀b:St->Option (Ex×St),(∀s e s',b s=some (e,s')->KM s.mem s'.mem)->∀s e s',lp b s=some (e,s')->KM s.mem s'.mem
theorem IC(n:Nat):It (fD n):=by
 intro b hb s e s' h;induction n generalizing s with
 |zero=>simp[fD]at h
 |succ n ih=>
  simp only[fD]at h
  split at h
  ·rename_i he;exact(hb _ _ _ he).trans (ih _ h)
  ·exact hb _ _ _ h
theorem aeZ{d:Nat}{s s':St}(h:C4 d s=some s'):KM s.mem s'.mem:=by
 unfold C4 at h
 (repeat' split at h)<;>first|(cases h;done)|(cases h;exact KM.push _ _)
theorem Tl:∀{l:List Nat} {s s':St},An l s=some s'->KM s.mem s'.mem
 |[],s,s',h=>by cases h;exact KM.refl _
 |d::l,s,s',h=>by
  simp only[An]at h;split at h
  ·rename_i h1;exact(aeZ h1).trans (Tl h)
  ·cases h
theorem zf{gl}{c:cx}{lp:oC}(hc:KC c)(hl:It lp)(a:AC):∀s e s',exec gl c lp a s=some (e,s')->KM s.mem s'.mem:=by
 induction a with
 |skip=>intro s e s' h;cases h;exact KM.refl _
 |ops l=>
  intro s e s' h
  simp only[exec,bH,aN]at h;obtain⟨_,h1,_,rfl⟩:=h;exact Ns hc h1
 |draw l cf af=>
  intro s e s' h
  simp only[exec,bH,aN]at h;obtain⟨_,h1,_,rfl⟩:=h;exact Ns hc (UN h1)
 |seq a b fV mF=>
  intro s e s' h
  simp only[exec]at h;split at h
  ·rename_i he;exact(fV _ _ _ he).trans (mF _ _ _ h)
  ·exact fV _ _ _ h
 |cond x a b fV mF=>
  intro s e s' h
  simp only[exec]at h;split at h
  ·split at h
   ·exact fV _ _ _ h
   ·exact mF _ _ _ h
  ·cases h
 |block id a fV=>
  intro s e s' h
  simp only[exec]at h;split at h
  ·rename_i he;split at h<;>(cases h;exact fV _ _ _ he)
  ·exact fV _ _ _ h
 |loop a fV=>intro s e s' h;exact hl _ fV _ _ _ h
 |exit id=>intro s e s' h;cases h;exact KM.refl _
 |ret=>intro s e s' h;cases h;exact KM.refl _
 |wP f ps fL body _ _=>
  intro s e s' h
  simp only[exec]at h;split at h
  ·rename_i r m iH;obtain⟨fv,_,iH⟩:=Option.bind_eq_some_iff.1 iH;have hk:=hc _ _ _ _ _ iH;have uM:KM s.mem (s.mem.back m):=by
    have hlen:=hk.len;simp only[List.length_append,eZ,List.length_nil]at hlen;refine NC (by omega) (fun id l' hl hid od v hv=>?_);rcases hk.cells id l' hl (by simp;omega) od v hv with⟨l,h1,h2⟩|h1
    ·rw[dX hid]at h1;exact .inl ⟨l,h1,h2⟩
    ·exact .inr h1
   split at h<;>first|(cases h;exact uM)|cases h
  ·cases h
 |C3 ds=>
  intro s e s' h
  simp only[exec,bH,aN]at h;obtain⟨_,h1,_,rfl⟩:=h;exact Tl h1
 |bad=>intro s e s' h;cases h
theorem Ar(m:Mem)(l:Nat)(st:LS):KM m (m.kH l st):=by
 unfold Mem.kH;split
 ·exact KM.set (t:=true) (fun _ h=>by cases h)
 ·exact KM.refl _
theorem afo{gl}{c:cx}{lp:oC}(hc:KC c)(hl:It lp){l args mem r m'}(h:round (exec gl c lp) l args mem=some (r,m')):KM mem m':=by
 unfold round at h;split at h
 ·split at h
  ·split at h
   ·rename_i he;have h1:=zf hc hl _ _ _ _ he;split at h
    ·split at h
     ·rename_i gM;have h2:=zf hc hl _ _ _ _ gM;split at h
      ·cases h;exact h1.trans ((Ar _ _ _).trans (h2.trans (Ar _ _ _)))
      ·cases h
     ·rename_i gM;have h2:=zf hc hl _ _ _ _ gM;split at h
      ·cases h;exact h1.trans ((Ar _ _ _).trans (h2.trans (Ar _ _ _)))
      ·cases h
     ·rename_i gM;have h2:=zf hc hl _ _ _ _ gM;split at h
      ·cases h;exact h1.trans ((Ar _ _ _).trans (h2.trans (Ar _ _ _)))
      ·cases h
     ·cases h
    ·cases h
   ·cases h
  ·cases h
 ·cases h
theorem Xa{g:AF}{k:Bool}{m0:Mem}{ex:Ex}{s:St}{r m'}(h:fin g k m0 (some (ex,s))=some (r,m'))(hk:KM {ε:=m0.ε,θ:=[]} s.mem):KM m0 m':=by
 have key:∀r m',(match aY s g.results with
   |some l=>if k then some (exp s.mem.ε.length true (aV l),({ε:=s.mem.ε,θ:=m0.θ++s.mem.θ}:Mem))
    else some (ai s.mem.ε m0.ε.length 8 (aV l),m0.back s.mem)
   |none=>none)=some (r,m')->KM m0 m':=by
  intro r m' h;split at h
  ·split at h
   ·simp only[aZ,aN]at h;rw[<-h.2];exact⟨hk.len,fun id hid=>wX _ hid,fun id l' hl hid od v hv=>hk.cells id l' hl hid (fun hn=>od (s_ _ hn)) v hv⟩
   ·simp only[aZ,aN]at h;rw[<-h.2];exact NC hk.len (fun id l' hl hid od v hv=>hk.cells id l' hl hid od v hv)
  ·cases h
 cases ex with
 |exit id=>simp[fin]at h
 |normal=>exact key r m' h
 |ret=>exact key r m' h
theorem Pq(C:iM)(hp:∀f p,C.jm f=some p->∀args m r m',p args m=some (r,m')->KM m m')(n:Nat):KC (cv C n):=by
 induction n with
 |zero=>intro fv args m r m' h;simp[cv]at h
 |succ n ih=>
  intro fv args m r m' h
  simp only[cv,body]at h;split at h
  ·split at h
   ·rename_i p Cn;exact hp _ _ Cn _ _ _ _ h
   ·split at h
    ·rename_i g hg;generalize he:exec C.gl (cv C n) (fD n) g.code _=x at h;cases x with
     |none=>simp[fin]at h
     |some x=>
      obtain⟨ex,s⟩:=x
      exact Xa h (zf ih (IC n) _ _ _ _ he)
    ·cases h
  ·exact afo ih (IC n) h
  ·cases h
section
variable(P:Program)(bJ:Nat->Bool)(N:Nat)
def IT(ops:Array Oper):Option (Nat×Bool)->Option (Option (Nat×Bool))
 |none=>some none
 |some (j,want)=>match(ops[j]?).bind (·.dst)with
  |some d=>if d<N then some (some (d,want))else none
  |none=>none
def Jd:Option Nat->Bool
 |none=>true
 |some d=>decide (d<N)
def D0(ops:Array Oper)(o:Oper):Option aT:=match IT N ops o.guard with
 |some gd=>if Jd N o.dst then some {dst:=o.dst,op:=Pm P bJ o,guard:=gd}else none
 |none=>none
def tv(ops:Array Oper):List Oper->Option (List aT)
 |[]=>some []
 |o::l=>match D0 P bJ N ops o,tv ops l with
  |some x,some m=>some (x::m)
  |_,_=>none
end
def mJ(g:Gh)(gl:Nat->AV):Prop:=∀n,VR g bS (gl n) (.pointer (some ⟨n,0,none⟩))
def yn(r:Nat):Deferred:= {target:= .collected r,args:= #[]}
def Marks(cN:Nat)(own:OW)(w:World)(ds:List Deferred):Prop:=
 cN<=w.heap.size/\∃ms:List Nat,ms.Nodup/\ds=ms.map yn/\∀r∈ms,cN<=r/\r<w.heap.size/\own r=none/\w.heap[r]?=some (.deferred (some []))
theorem Marks.nil{cN:Nat}{own:OW}{w:World}(h:cN<=w.heap.size):Marks cN own w []:=⟨h,[],List.nodup_nil,rfl,fun r hr=>by cases hr⟩
theorem Marks.bw{cN:Nat}{g g':Gh}{own aO:OW}{w w':World}{ds:List Deferred}(h:Marks cN own w ds)(hs:dZ g own w g' aO w'):Marks cN aO w' ds:=by obtain⟨h0,ms,h1,h2,h3⟩:=h;refine⟨xb h0 hs.size,ms,h1,h2,fun r hr=>?_⟩;obtain⟨k1,k2,k3,k4⟩:=h3 r hr;exact⟨k1,rF k2 hs.size,hs.jO r k2 k3,(hs.bw r k2 k3).trans k4⟩
structure SR (gl:Nat->AV) (base N:Nat) (LC:eN) (cN:Nat) (g:Gh) (lb:LB) (own:OW) (s:St) (a:Act) (w:World):Prop where
 env:∀t,VR g lb (ζ s.env t) (a.tmps.getD t undef)
 gl:mJ g gl
 size:N<=a.tmps.size
 defers:Marks cN own w a.defers
 mem:a8 g own LC s.mem w
 loc:cA g lb own (τ s.loc) w
 own:bV base own w
def eh(own:OW):OW:=fun b=>match own b with
 |some (.m id)=>some (.m id)
 |_=>none
def AH(F:Fence)(n:Nat)(P:Program)(fx:Value)(bR:Array Value)(w:World)(R:Value->World->Prop):Prop:=
 (∃(f:FuncId) (as:Array Value),(do let d<-Deferred.ofValue fx bR;invoke d.target d.args:Sem Next).run P w= .ok (.enter f as) w/\CallsIn F n P f as w fun e w'=>∃x,e= .returned x/\R x w')∨
 (∃x w',(do let d<-Deferred.ofValue fx bR;invoke d.target d.args:Sem Next).run P w= .ok (.value x) w'/\R x w')∨
 (∃(l:Nat) (f:FuncId) (tmps:Array Value) (assign body:Code),(do let d<-Deferred.ofValue fx bR;invoke d.target d.args:Sem Next).run P w= .ok (.round l f tmps assign body) w∧
  RoundIn F n P l f tmps assign body w fun e w'=>∃x,e= .returned x/\R x w')
def nS(base:Nat)(LC:eN)(gl:Nat->AV)(g:Gh)(own:OW)(w:World)(r:AV)(m':Mem)(x:Value)(w':World):Prop:=
 ∃(g':Gh) (aO:OW),dZ g (eh own) w g' aO w'/\a8 g' aO LC m' w'/\VR g' bS r x/\bV base aO w'/\(∀b d,aO b≠some (.l d))/\mJ g' gl
def np(F:Fence)(P:Program)(base:Nat)(LC:eN)(gl:Nat->AV)(aF:cx):Prop:=
 ∀(n:Nat) (g:Gh) (lb:LB) (own:OW) (mem:Mem) (w:World) (fv:AV) (args:List AV) (r:AV) (m':Mem) (fx:Value) (bR:Array Value),
  a8 g own LC mem w->bV base own w->mJ g gl->VR g lb fv fx->PW (VR g lb) args bR.toList->aF fv args mem=some (r,m')→
  AH F n P fx bR w (nS base LC gl g own w r m')
section
variable{F:Fence}{n:Nat}{P:Program}{bJ:Nat->Bool}{N:Nat}{gl:Nat->AV}{base:Nat}{LC:eN}{cN:Nat}{g:Gh}{lb:LB}{own:OW}{s s':St}{a:Act}{w:World}{aF:cx}
variable{ops:Array Oper}{Q:Exit->Act->World->Prop}
theorem mJ.mono{g':Gh}(h:mJ g gl)(hs:g.sub g'):mJ g' gl:=fun n=>(h n).sub hs
theorem SR.ev(h:SR gl base N LC cN g lb own s a w):eM g lb (dQ gl s.env) a:=by
 intro x x' hx;cases x with
 |tmp t=>cases hx;exact h.env t
 |const v=>
  simp only[cm,bH]at hx
  obtain⟨av,J4,rfl⟩:=hx;exact IA J4
 |global i=>
  cases hx
  exact(h.gl i).mono g.eG fun _ _ _ h=>by cases h
 |func f=>
  cases hx
  exact .fn _ _ _ _ _ _ _ rfl rfl rfl (fun i hi=>by simp at hi) (fun i hi=>by simp at hi)
theorem XD(a:Act)(dst:Option Nat)(v:Value)(hd:∀d,dst=some d->d<a.tmps.size)(t:Nat):
  (a.put dst v).tmps.getD t undef=if dst=some t then v else a.tmps.getD t undef:=by
 cases dst with
 |none=>simp[Act.put]
 |some d=>
  have:=hd d rfl
  simp only[Act.put,rz,Array.getElem?_setIfInBounds,aZ];by_cases h:d=t
  ·subst h;simp[this]
  ·simp[h]
theorem ux(env:List AV)(dst:Option Nat)(v:AV)(t:Nat):ζ (ft env dst v) t=if dst=some t then v else ζ env t:=by
 cases dst with
 |none=>simp[ft]
 |some d=>simp[ft,gg]
theorem ae5(a:Act)(dst:Option Nat)(v:Value):(a.put dst v).tmps.size=a.tmps.size:=by cases dst<;>simp[Act.put]
theorem ae2(a:Act)(dst:Option Nat)(v:Value):(a.put dst v).defers=a.defers:=by cases dst<;>rfl
theorem SR.after(h:SR gl base N LC cN g lb own s a w){dst:Option Nat}(hd:Jd N dst=true){v:AV}{u:kZ}{m':Mem}{x:Value}{w':World}(hp:iO base LC g lb own (τ s.loc) w v u m' x w'):
  ∃g' lb' aO,dZ g own w g' aO w'/\SR gl base N LC cN g' lb' aO {env:=ft s.env dst v,loc:=eL s.loc u,mem:=m'} (a.put dst x) w':=by
 obtain⟨g',lb',aO,h1,h2,h3,h4,h5,h6⟩:=hp;have je:∀d,dst=some d->d<a.tmps.size:=by
  rintro d rfl
  simp only[Jd,decide_eq_true_eq]at hd;exact rF hd h.size
 refine⟨g',lb',aO,h1,fun t=>?_,h.gl.mono h1.sub,by rw[ae5];exact h.size,by rw[ae2];exact h.defers.bw h1,h4,by rw[LV];exact h5,h6⟩;rw[XD a dst x je,ux];split
 ·exact h3
 ·exact(h.env t).mono h1.sub h2
theorem Up(h:SR gl base N LC cN g lb own s a w){o:Oper}{gd:Option (Nat×Bool)}(hg:IT N ops o.guard=some gd){b:Bool}(hw:eX s.env gd=some b):
  Region.wanted o (yielded ops a.tmps)=b:=by
 unfold Region.wanted;cases oS:o.guard with
 |none=>
  rw[oS]at hg;cases hg
  cases hw;rfl
 |some jw=>
  obtain⟨j,want⟩:=jw
  rw[oS]at hg;simp only[IT]at hg;split at hg
  ·rename_i d hd;split at hg
   ·rename_i YJ;cases hg;simp only[eX]at hw;have ρ:d<a.tmps.size:=rF YJ h.size;have hv:=h.env d;have zO:a.tmps[d]?=some (a.tmps.getD d undef):=by simp[rz,ρ]
    simp only[yielded,hd,Option.bind_some,zO];generalize a.tmps.getD d undef=x at hv;split at hw
    ·rename_i b' he;rw[he]at hv;cases hv;cases hw;rfl
    ·rename_i he;rw[he]at hv;cases hv;cases hw;rfl
    ·cases hw
   ·cases hg
  ·cases hg
theorem tV{b:Nat}{o:Own}(h:eh own b=some o):own b=some o/\∃id,o= .m id:=by
 unfold eh at h;split at h
 ·rename_i id he;cases h;exact⟨he,id,rfl⟩
 ·cases h
theorem D2(hs:SR gl base N LC cN g lb own s a w){r:AV}{m':Mem}{x:Value}{w':World}(h:nS base LC gl g own w r m' x w'):iO base LC g lb own (τ s.loc) w r none m' x w':=by
 obtain⟨g',aO,h1,h2,h3,h4,h5,h6⟩:=h;let tT:OW:=fun b=>match own b with
  |some (.l d)=>some (.l d)
  |_=>aO b
 have hl:∀b d,own b=some (.l d)->b<w.heap.size/\eh own b=none:=fun b d hb=>⟨(hs.own.ge b _ hb).2,by simp[eh,hb]⟩;have Z7:∀b id,aO b=some (.m id)->tT b=aO b:=by
  intro b id hb;simp only[tT];split
  ·rename_i d hd;obtain⟨k1,k2⟩:=hl b d hd;rw[h1.jO b k1 k2]at hb;cases hb
  ·rfl
 have Cf:∀b,own b=none->eh own b=none:=fun b hb=>by simp[eh,hb]
 refine⟨g',lb,tT,⟨h1.sub,h1.size,h1.os,h1.tape,h1.output,fun b hb ho=>h1.bw b hb (Cf b ho),fun b hb ho=>?_,fun b hb ho=>h1.im b hb (Cf b ho)⟩,fun _ _ _ h=>h,
  h3.mono g'.eG (fun _ _ _ h=>by cases h),?_,?_,⟨fun b o hb=>?_,h4.base⟩⟩
 ·simp only[tT,ho];exact h1.jO b hb (Cf b ho)
 ·exact h2.bw g'.eG (fun _ h=>h) (fun _ _ h=>h) (fun id b hb=>⟨Z7 b id hb,rfl,fun _=>rfl⟩) h2.im
 ·exact hs.loc.bw h1.sub fun d b hb=>by obtain⟨k1,k2⟩:=hl b d hb;exact⟨by simp[tT,hb],h1.bw b k1 k2,h1.im b k1 k2⟩
 ·simp only[tT]at hb;split at hb
  ·rename_i d hd;have:=hs.own.ge b _ hd;exact⟨this.1,rF this.2 h1.size⟩
  ·exact h4.ge b o hb
theorem Wh{o:Oper}(h:bE P bJ o≠none):∀c,o.op≠ .defer c:=by intro c hc;apply h;simp only[bE,hc]
theorem Wg{o:Oper}{f':bm}{yT:List bm}(dS:bE P bJ o=some (.call f' yT)):
  ∃c f,o.op= .call c/\c.callee= .value f/\cm f=some f'/\vz c.args.toList=some yT:=by
 have hm:∀{α:Type} {x:Option α} {h:α->AO},x.map h=some (.call f' yT)->(∀y,h y≠ .call f' yT)->False:=fun hx hn=>by simp only[bH]at hx;obtain⟨y,_,hy⟩:=hx;exact hn y hy
 cases Ω:o.op with
 |call c=>
  simp only[bE,Ω]at dS
  cases pz:c.callee with
  |value f=>
   rw[pz]at dS
   dsimp only at dS;split at dS
   ·rename_i h1 h2;cases dS;exact⟨c,f,rfl,pz,h1,h2⟩
   ·cases dS
  |invoke r n=>rw[pz]at dS;cases dS
  |builtin b=>
   exfalso
   rw[pz]at dS;cases b<;>dsimp only at dS<;>(try(cases dS;done))<;>(repeat' split at dS)<;>first|(cases dS;done)|exact hm dS (fun _ h=>by cases h)
 |makeFunc fn x y=>
  exfalso
  cases fn<;>simp only[bE,Ω]at dS<;>(repeat' split at dS)<;>cases dS
 |makeMap t r=>
  exfalso
  cases r with
  |none=>simp only[bE,Ω]at dS;cases dS
  |some r=>
   cases r with
   |const c=>
    cases c with
    |int k n=>
     simp only[bE,Ω]at dS
     (repeat' split at dS)<;>cases dS
    |_=>simp only[bE,Ω]at dS;cases dS
   |_=>simp only[bE,Ω]at dS;cases dS
 |next x b=>exfalso;cases b<;>simp only[bE,Ω]at dS<;>first|(cases dS;done)|exact hm dS (fun _ h=>by cases h)
 |binOp op t x y ty=>
  exfalso
  have hn:∀k x' y',um k op x' y'≠some (.call f' yT):=fun k x' y' h=>by
   unfold um at h
   (repeat' split at h)<;>cases h
  simp only[bE,Ω]at dS
  (repeat' split at dS)<;>first|(cases dS;done)|exact hn _ _ _ dS
 |_=>
  exfalso
  simp only[bE,Ω]at dS
  (repeat' split at dS)<;>first|(cases dS;done)|exact hm dS (fun _ h=>by cases h)
theorem TZ(hF:∀f,F.fn f)(hd:F.depth=none)(iH:np F P base LC gl aF){i:Nat}{o:Oper}{o':aT}(hi:ops[i]?=some o)(hc:D0 P bJ N ops o=some o')
  (hs:SR gl base N LC cN g lb own s a w) (ψ:dP gl aF o' s=some s') {K:Act->World->Prop}
  (hK:∀g' lb' aO a' w',dZ g own w g' aO w'->SR gl base N LC cN g' lb' aO s' a' w'->K a' w'):wpOpIn F n P ops Q i K a w:=by
 unfold D0 at hc;split at hc
 ·rename_i gd oS;split at hc
  ·rename_i BY;cases hc;unfold dP at ψ;unfold wpOpIn;simp only[hi];split at ψ
   ·cases ψ
   ·rename_i hw;have tM:=Up hs oS hw;simp only[tM,if_true];refine⟨fun f _=>hF f,?_⟩;split at ψ
    ·rename_i v u m' he;cases ψ;dsimp only at he;unfold Pm at he;cases dS:bE P bJ o with
     |none=>rw[dS]at he;simp[aC]at he
     |some ao=>
      rw[dS]at he
      simp only[Option.getD_some]at he;have aai:Oper.semAt F.round a.eval o=execOp a.eval o:=Oper.semAt_eq _ _ _ (Wh (by rw[dS];simp));rw[aai];by_cases er:∃f args,ao= .call f args
      ·obtain⟨f',yT,rfl⟩:=er;simp only[aC,bH,aN,Prod.exists]at he;obtain⟨r,m1,he,rfl,rfl,rfl⟩:=he;have key:=Wg dS;obtain⟨c,f,Ω,pz,hf,jd⟩:=key;have cU:=Ek hs.ev jd;have BU:=iH (n-1) g lb own s.mem w _ _ _ _ (a.eval f) (c.args.map a.eval) hs.mem hs.own hs.gl (hs.ev _ _ hf) (by simpa using cU) he;have YS:execOp a.eval o=(do let d<-Deferred.ofValue (a.eval f) (c.args.map a.eval);invoke d.target d.args:Sem Next):=by simp only[execOp,Ω,resolve,pz]
       rw[YS];rcases BU with⟨nD,as,h1,h2⟩|⟨x,w',h1,h2⟩|⟨l,nD,tmps,fL,yZ,h1,h2⟩
       ·rw[h1,Oper.uponIn_enter];refine⟨fun h=>(by rw[hd]at h;cases h),h2.mono fun e w' he=>?_⟩;obtain⟨x,rfl,hR⟩:=he;obtain⟨g',lb',aO,k1,k2⟩:=hs.after BY (D2 hs hR);exact hK _ _ _ _ _ k1 k2
       ·rw[h1,Oper.uponIn_value];obtain⟨g',lb',aO,k1,k2⟩:=hs.after BY (D2 hs h2);exact hK _ _ _ _ _ k1 k2
       ·rw[h1,Oper.uponIn_round];refine⟨fun h=>(by rw[hd]at h;cases h),h2.mono fun e w' he=>?_⟩;obtain⟨x,rfl,hR⟩:=he;obtain⟨g',lb',aO,k1,k2⟩:=hs.after BY (D2 hs hR);exact hK _ _ _ _ _ k1 k2
      ·obtain⟨x,w',h1,h2⟩:=aef hs.ev hs.mem hs.loc hs.own dS (fun f args h=>er ⟨f,args,h⟩) he;obtain⟨g',lb',aO,k1,k2⟩:=hs.after BY h2;rcases h1 with h1|⟨h1,rfl⟩
       ·rw[h1,Oper.uponIn_value];exact hK _ _ _ _ _ k1 k2
       ·rw[h1,Oper.uponIn_skip];exact hK _ _ _ _ _ k1 k2
    ·cases ψ
   ·rename_i hw;have tM:=Up hs oS hw;cases ψ;simp only[tM,gY,if_false];refine⟨fun f _=>hF f,?_⟩;obtain⟨g',lb',aO,k1,k2⟩:=hs.after BY (iO.pure (x:=undef) hs.mem hs.loc hs.own (.undef lb));exact hK _ _ _ _ _ k1 k2
  ·cases hc
 ·cases hc
end
def AO.re:AO->List bm
 | .bad=>[]
 | .mv x=>[x]
 | .pick c a b=>[c,a,b]
 | .alloc _ _=>[]
 | .abld _ _=>[]
 | .box _ _ x=>[x]
 | .build _ parts=>parts.map (·.2.2)
 | .bU _ _ xs=>xs
 | .ld _ _ a=>[a]
 | .st _ a x=>[a,x]
 | .m_ x=>[x]
 | .bin _ x y=>[x,y]
 | .eqs _ _ x y=>[x,y]
 | .Bx _ x y=>[x,y]
 | .CB _ _ x=>[x]
 | .un _ x=>[x]
 | .conv _ x=>[x]
 | .L7 _ x=>[x]
 | .i_ _ a b=>a++b
 | .fa _ x=>[x]
 | .kq _ _ _ x=>[x]
 | .ia _ x i=>[x,i]
 | .qV _ _ x i=>[x,i]
 | .Ac _ _ _ x i=>[x,i]
 | .kE x i=>[x,i]
 | .lookup _ _ _ m k=>[m,k]
 | .mapup _ m k v=>[m,k,v]
 | .mkmap=>[]
 | .yJ _ x lo hi mx=>x::(lo.toList++hi.toList++mx.toList)
 | .o9 x lo hi=>x::(lo.toList++hi.toList)
 | .ext x _=>[x]
 | .call f args=>f::args
 | .app _ _ _ _ x y=>[x,y]
 | .len x=>[x]
 | .lens x=>[x]
 | .CN x=>[x]
 | .LU _=>[]
 | .mkslc _ _ _ n c=>[n,c]
 | .cpy _ x y=>[x,y]
 | .clr _ x=>[x]
 | .del _ m k=>[m,k]
 | .max x y=>[x,y]
 | .min x y=>[x,y]
 | .qd x=>[x]
 | .yw x=>[x]
def bm.Ug:bm->Option Nat
 | .t n=>some n
 |_=>none
def aT.H'(o:aT):List Nat:=o.op.re.filterMap bm.Ug++o.guard.toList.map (·.1)
theorem A7{ev ev':bm->AV}{top:Nat}{x:Option bm}{d:Nat}(h:∀y∈x.toList,ev y=ev' y):bound ev top x d=bound ev' top x d:=by
 cases x with
 |none=>rfl
 |some y=>simp only[bound,h y (by simp)]
theorem W_{ev ev':bm->AV}{l:List (Nat×Nat×bm)}{cs:List AV}(h:∀y∈l.map (·.2.2),ev y=ev' y):cF ev l cs=cF ev' l cs:=by
 induction l generalizing cs with
 |nil=>rfl
 |cons p l ih=>
  obtain⟨off,size,x⟩:=p
  simp only[List.map_cons,dO,forall_eq_or_imp]at h;simp only[cF,h.1];split
  ·exact ih h.2
  ·rfl
theorem U4{ev ev':bm->AV}{lk mem aF dst}{o:AO}(h:∀x∈o.re,ev x=ev' x):aC ev lk mem aF dst o=aC ev' lk mem aF dst o:=by
 cases o with
 |build z parts=>simp only[aC,W_ (ev:=ev) (ev':=ev') h]
 |bU ag sz xs=>
  have h1:(xs.all fun x=>shaped ag sz (ev x))=xs.all fun x=>shaped ag sz (ev' x):=by rw[Bool.eq_iff_iff];simp only[gu];exact forall_congr' fun x=>forall_congr' fun hx=>by rw[h x hx]
  have h2:(xs.map fun x=>mem.φ (ev x))=xs.map fun x=>mem.φ (ev' x):=dt fun x hx=>by rw[h x hx]
  simp only[aC,h1,h2]
 |i_ f a b=>
  have h1:a.map ev=a.map ev':=dt fun x hx=>h x (wX _ hx)
  have h2:b.map ev=b.map ev':=dt fun x hx=>h x (s_ _ hx);simp only[aC,h1,h2]
 |call f args=>
  have h1:args.map ev=args.map ev':=dt fun x hx=>h x (AQ _ hx)
  have h2:=h f (by simp[AO.re]);simp only[aC,h1,h2]
 |yJ sz x lo hi mx=>
  have h2:=h x (by simp[AO.re])
  have h3:=fun top d=>A7 (top:=top) (d:=d) (x:=lo) (ev:=ev) (ev':=ev') fun y hy=>h y (by simp only[AO.re,dO,dE];exact .inr (.inl (.inl hy)));have h4:=fun top d=>A7 (top:=top) (d:=d) (x:=hi) (ev:=ev) (ev':=ev') fun y hy=>h y (by simp only[AO.re,dO,dE];exact .inr (.inl (.inr hy)));have h5:=fun top d=>A7 (top:=top) (d:=d) (x:=mx) (ev:=ev) (ev':=ev') fun y hy=>h y (by simp only[AO.re,dO,dE];exact .inr (.inr hy));simp only[aC,h2,h3,h4,h5]
 |o9 x lo hi=>
  have h2:=h x (by simp[AO.re])
  have h3:=fun top d=>A7 (top:=top) (d:=d) (x:=lo) (ev:=ev) (ev':=ev') fun y hy=>h y (by simp only[AO.re,dO,dE];exact .inr (.inl hy));have h4:=fun top d=>A7 (top:=top) (d:=d) (x:=hi) (ev:=ev) (ev':=ev') fun y hy=>h y (by simp only[AO.re,dO,dE];exact .inr (.inr hy));simp only[aC,h2,h3,h4]
 |_=>
  simp only[AO.re,dO,List.not_mem_nil,or_false,forall_eq_or_imp,forall_eq,false_imp_iff,implies_true]at h
  simp only[aC,h]
inductive sY
 |quiet
 |load
 |new (d:Nat)
 |call
 |mz (st:Bool)
 deriving DecidableEq
def aT.cls(o:aT):sY:=
 match o.op with
 | .alloc false _| .box false _ _| .qd _=>match o.dst with
  |some d=> .new d
  |none=> .mz false
 | .ld _ _ _=> .load
 | .call _ _| .app _ _ _ _ _ _| .alloc true _| .box true _ _| .abld _ _=> .call
 | .st _ _ _=> .mz true
 | .bad| .lookup _ _ _ _ _| .CN _| .mapup _ _ _ _| .del _ _ _| .mkmap| .mkslc _ _ _ _ _| .cpy _ _ _| .clr _ _| .yw _=> .mz false
 |_=> .quiet
inductive uj
 |env (t:Nat)
 |loc (d:Nat)
 |mem
 deriving DecidableEq
def agree:uj->St->St->Prop
 | .env t,s,s'=>ζ s.env t=ζ s'.env t
 | .loc d,s,s'=>τ s.loc d=τ s'.loc d
 | .mem,s,s'=>s.mem=s'.mem
theorem xd(r:uj)(s:St):agree r s s:=by cases r<;>rfl
theorem Nl{r:uj}{s s':St}(h:agree r s s'):agree r s' s:=by cases r<;>exact Eq.symm h
theorem A0{r:uj}{s s' TK:St}(h:agree r s s')(k:agree r s' TK):agree r s TK:=by cases r<;>exact Eq.trans h k
def gG(o:aT):uj->Prop
 | .env t=>o.dst=some t
 | .loc d=>o.cls= .new d\/∃b,o.cls= .mz b
 | .mem=>o.cls= .call\/∃b,o.cls= .mz b
def ME(o:aT):uj->Prop
 | .env t=>t∈o.H'
 | .loc d=>o.cls= .new d\/∃b,o.cls= .mz b
 | .mem=>o.cls= .call\/∃b,o.cls= .mz b
theorem afe{o:aT}(hc:o.cls= .quiet){ev:bm->AV}{lk mem aF v u m}(h:aC ev lk mem aF o.dst o.op=some (v,u,m)):
  u=none/\m=mem/\∀nL wD,aC ev nL wD aF o.dst o.op=some (v,none,wD):=by
 obtain⟨dst,op,gd⟩:=o;cases op with
 |alloc g z=>cases g<;>cases dst<;>simp[aT.cls]at hc
 |box g n x=>cases g<;>cases dst<;>simp[aT.cls]at hc
 |qd x=>cases dst<;>simp[aT.cls]at hc
 |bad=>simp[aT.cls]at hc
 |ld=>simp[aT.cls]at hc
 |st=>simp[aT.cls]at hc
 |call=>simp[aT.cls]at hc
 |app=>simp[aT.cls]at hc
 |abld=>simp[aT.cls]at hc
 |lookup=>simp[aT.cls]at hc
 |CN=>simp[aT.cls]at hc
 |mapup=>simp[aT.cls]at hc
 |del=>simp[aT.cls]at hc
 |mkmap=>simp[aT.cls]at hc
 |yw=>simp[aT.cls]at hc
 |mkslc=>simp[aT.cls]at hc
 |cpy=>simp[aT.cls]at hc
 |clr=>simp[aT.cls]at hc
 |max x y=>
  simp only[aC]at h⊢
  split at h
  ·rename_i h1 h2;split at h
   ·rename_i h3;simp only[aN,aZ]at h;obtain⟨rfl,rfl,rfl⟩:=h;refine⟨rfl,rfl,fun _ _=>?_⟩;rw[if_pos h3]
   ·cases h
  ·cases h
 |min x y=>
  simp only[aC]at h⊢
  split at h
  ·rename_i h1 h2;split at h
   ·rename_i h3;simp only[aN,aZ]at h;obtain⟨rfl,rfl,rfl⟩:=h;refine⟨rfl,rfl,fun _ _=>?_⟩;rw[if_pos h3]
   ·cases h
  ·cases h
 |bU ag sz xs=>
  simp only[aC]at h⊢
  split at h
  ·rename_i hx;simp only[aZ,aN]at h;obtain⟨rfl,rfl,rfl⟩:=h;refine⟨rfl,rfl,fun _ _=>?_⟩;rw[if_pos hx];rfl
  ·cases h
 |_=>
  simp only[aC]at h⊢
  repeat' split at h
  all_goals first|(cases h;done)|skip
  all_goals(try simp only[bH,aN,aZ]at h)
  all_goals first
   |(obtain⟨rfl,rfl,rfl⟩:=h;refine⟨rfl,rfl,fun _ _=>?_⟩;simp_all;done)
   |(obtain⟨x,hx,rfl,rfl,rfl⟩:=h;refine⟨rfl,rfl,fun _ _=>?_⟩;simp_all;done)
   |skip
theorem V2{o:aT}(hc:o.cls= .call){ev:bm->AV}{lk mem aF v u m}(h:aC ev lk mem aF o.dst o.op=some (v,u,m)):
  u=none/\∀nL,aC ev nL mem aF o.dst o.op=some (v,none,m):=by
 obtain⟨dst,op,gd⟩:=o;cases op with
 |alloc g z=>
  cases g with
  |false=>cases dst<;>simp[aT.cls]at hc
  |true=>
   simp only[aC,newVar,if_true,aZ,aN]at h⊢
   obtain⟨rfl,rfl,rfl⟩:=h;exact⟨rfl,fun _=>by simp⟩
 |box g n x=>
  cases g with
  |false=>cases dst<;>simp[aT.cls]at hc
  |true=>
   simp only[aC,newVar,if_true]at h⊢
   split at h
   ·rename_i hn;simp only[aZ,aN]at h;obtain⟨rfl,rfl,rfl⟩:=h;exact⟨rfl,fun _=>by rw[if_pos hn]⟩
   ·cases h
 |qd x=>cases dst<;>simp[aT.cls]at hc
 |abld T e=>
  simp only[aC,aZ,aN]at h⊢
  obtain⟨rfl,rfl,rfl⟩:=h;exact⟨rfl,fun _=>by simp⟩
 |call f args=>
  simp only[aC,bH,aN,Prod.exists]at h
  obtain⟨a,b,h1,rfl,rfl,rfl⟩:=h;exact⟨rfl,fun _=>by simp only[aC,h1,qv]⟩
 |app ag sz bytes e x y=>
  simp only[aC,bH,aN,Prod.exists]at h
  obtain⟨a,b,h1,rfl,rfl,rfl⟩:=h;exact⟨rfl,fun _=>by simp only[aC,h1,qv]⟩
 |_=>simp[aT.cls]at hc
theorem ady{o:aT}{d:Nat}(hc:o.cls= .new d){ev:bm->AV}{lk mem aF v u m}(h:aC ev lk mem aF o.dst o.op=some (v,u,m)):
  o.dst=some d/\m=mem/\(∃x,u=some (d,x))/\∀nL wD,nL d=lk d->aC ev nL wD aF o.dst o.op=some (v,u,wD):=by
 obtain⟨dst,op,gd⟩:=o;have hv:∀(nL:Nat->Option (Nat×κ)),nL d=lk d->aR nL d=aR lk d:=fun nL h=>by simp only[aR,h]
 cases op with
 |alloc g z=>
  cases g<;>cases dst<;>simp[aT.cls]at hc
  subst hc;simp only[aC,newVar,gY,if_false,aZ,aN]at h⊢;obtain⟨rfl,rfl,rfl⟩:=h;refine⟨trivial,rfl,⟨_,rfl⟩,fun nL wD hl=>?_⟩;rw[hv nL hl];simp
 |box g n x=>
  cases g<;>cases dst<;>simp[aT.cls]at hc
  subst hc;simp only[aC,newVar,gY,if_false]at h⊢;split at h
  ·rename_i hn;simp only[aZ,aN]at h;obtain⟨rfl,rfl,rfl⟩:=h;refine⟨trivial,rfl,⟨_,rfl⟩,fun nL wD hl=>?_⟩;rw[hv nL hl,if_pos hn]
  ·cases h
 |qd x=>
  cases dst<;>simp[aT.cls]at hc
  subst hc;simp only[aC]at h⊢;split at h
  ·rename_i s d' hx hd;cases hd;simp only[aZ,aN]at h;obtain⟨rfl,rfl,rfl⟩:=h;refine⟨trivial,rfl,⟨_,rfl⟩,fun nL wD hl=>?_⟩;rw[hv nL hl]
  ·cases h
 |_=>simp[aT.cls]at hc
theorem adg{o:aT}(hc:o.cls= .load):∃ag n a,o.op= .ld ag n a:=by
 obtain⟨dst,op,gd⟩:=o;cases op with
 |alloc g z=>cases g<;>cases dst<;>simp[aT.cls]at hc
 |box g n x=>cases g<;>cases dst<;>simp[aT.cls]at hc
 |qd x=>cases dst<;>simp[aT.cls]at hc
 |ld ag n a=>exact⟨_,_,_,rfl⟩
 |_=>simp[aT.cls]at hc
def Nc(gl:Nat->AV)(o:aT)(s S:St):Prop:=
 ∀ag n a,o.op= .ld ag n a->eX S.env o.guard≠some false->rd (τ s.loc) s.mem (dQ gl S.env a) n=rd (τ S.loc) S.mem (dQ gl S.env a) n
theorem agt{env Bw:List AV}{gd:Option (Nat×Bool)}(h:∀t∈gd.toList.map (·.1),ζ env t=ζ Bw t):eX env gd=eX Bw gd:=by
 cases gd with
 |none=>rfl
 |some p=>simp only[eX];rw[h p.1 (by simp)]
theorem WT{gl:Nat->AV}{env Bw:List AV}{l:List bm}(h:∀t∈l.filterMap bm.Ug,ζ env t=ζ Bw t):∀x∈l,dQ gl env x=dQ gl Bw x:=by
 intro x hx;cases x with
 |t n=>exact h n (List.mem_filterMap.2 ⟨_,hx,rfl⟩)
 |c v=>rfl
 |g n=>rfl
theorem IF{gl:Nat->AV}{aF:cx}{o:aT}{s S S1:St}(ψ:dP gl aF o S=some S1)(pP:∀r,ME o r->agree r s S)(xQ:Nc gl o s S):
  ∃s1,dP gl aF o s=some s1/\(∀r,gG o r->agree r s1 S1)/\∀r,¬gG o r->agree r s1 s/\agree r S1 S:=by
 have hu:∀t∈o.H',ζ s.env t=ζ S.env t:=fun t ht=>pP (.env t) ht;have hw:eX s.env o.guard=eX S.env o.guard:=agt fun t ht=>hu t (s_ _ ht);have ax:∀x∈o.op.re,dQ gl s.env x=dQ gl S.env x:=WT fun t ht=>hu t (wX _ ht);unfold dP at ψ⊢;rw[hw];split at ψ
 ·cases ψ
 ·rename_i tM;split at ψ
  ·rename_i v u m he;cases ψ;have fin:∀(u':kZ) (m':Mem),(∀r,gG o r->r= .mem->m'=m)->(∀d,gG o (.loc d)->τ (eL s.loc u') d=τ (eL S.loc u) d)→
     (¬gG o .mem->m'=s.mem/\m=S.mem)->(∀d,¬gG o (.loc d)->τ (eL s.loc u') d=τ s.loc d/\τ (eL S.loc u) d=τ S.loc d)→
     (∀r,gG o r->agree r ({env:=ft s.env o.dst v,loc:=eL s.loc u',mem:=m'}:St) {env:=ft S.env o.dst v,loc:=eL S.loc u,mem:=m})∧
     ∀r,¬gG o r->agree r ({env:=ft s.env o.dst v,loc:=eL s.loc u',mem:=m'}:St) s/\agree r ({env:=ft S.env o.dst v,loc:=eL S.loc u,mem:=m}:St) S:=by
    intro u' m' h1 h2 h3 h4;refine⟨fun r hr=>?_,fun r hr=>?_⟩
    ·cases r with
     |env t=>simp only[agree];rw[ux,ux,if_pos (show o.dst=some t from hr),if_pos (show o.dst=some t from hr)]
     |loc d=>exact h2 d hr
     |mem=>exact h1 _ hr rfl
    ·cases r with
     |env t=>
      have hr:¬o.dst=some t:=hr
      simp only[agree];rw[ux,ux,if_neg hr,if_neg hr];exact⟨rfl,rfl⟩
     |loc d=>exact h4 d hr
     |mem=>exact h3 hr
   rw[U4 ax];cases hc:o.cls with
   |quiet=>
    obtain⟨rfl,rfl,k⟩:=afe hc he
    refine⟨_,by rw[k],fin none s.mem (fun r hr he=>?_) (fun d hr=>?_) (fun _=>⟨rfl,rfl⟩) (fun _ _=>⟨rfl,rfl⟩)⟩
    ·subst he;simp[gG,hc]at hr
    ·simp[gG,hc]at hr
   |load=>
    obtain⟨ag,n,a,Ω⟩:=adg hc
    have hl:=xQ ag n a Ω (by rw[tM];simp);simp only[Ω,aC]at he⊢;rw[hl];split at he
    ·rename_i l gV;simp only[bH,aN]at he;obtain⟨x,hx,rfl,rfl,rfl⟩:=he;refine⟨_,by simp only[hx,qv],fin none s.mem (fun r hr he=>?_) (fun d hr=>?_) (fun _=>⟨rfl,rfl⟩) (fun _ _=>⟨rfl,rfl⟩)⟩
     ·subst he;simp[gG,hc]at hr
     ·simp[gG,hc]at hr
    ·cases he
   |new d=>
    obtain⟨hd,rfl,⟨x,rfl⟩,k⟩:=ady hc he
    have hl:τ s.loc d=τ S.loc d:=pP (.loc d) (.inl hc);refine⟨_,by rw[k _ s.mem hl],fin (some (d,x)) s.mem (fun r hr he=>?_) (fun d' hr=>?_) (fun _=>⟨rfl,rfl⟩) (fun d' hr=>?_)⟩
    ·subst he;simp[gG,hc]at hr
    ·simp only[gG,hc,sY.new.injEq,reduceCtorEq,exists_const,or_false]at hr;subst hr;obtain⟨v',b⟩:=x;simp only[eL,fW,if_true]
    ·have ak:d≠d':=fun h=>hr (.inl (by rw[hc,h]));obtain⟨v',b⟩:=x;simp only[eL,fW,if_neg ak];exact⟨trivial,trivial⟩
   |call=>
    obtain⟨rfl,k⟩:=V2 hc he
    have hm:s.mem=S.mem:=pP .mem (.inl hc);refine⟨_,by rw[hm,k],fin none m (fun _ _ _=>rfl) (fun d hr=>?_) (fun hr=>absurd (.inl hc) hr) (fun _ _=>⟨rfl,rfl⟩)⟩;simp[gG,hc]at hr
   |mz b0=>
    have hm:s.mem=S.mem:=pP .mem ((.inr ⟨_,hc⟩))
    have hl:τ s.loc=τ S.loc:=funext fun d=>pP (.loc d) ((.inr ⟨_,hc⟩));refine⟨_,by rw[hm,hl,he],fin u m (fun _ _ _=>rfl) (fun d hr=>?_) (fun hr=>absurd (.inr ⟨_,hc⟩) hr) (fun d hr=>absurd (.inr ⟨_,hc⟩) hr)⟩;rw[LV,LV,hl]
  ·cases ψ
 ·cases ψ;refine⟨_,rfl,fun r hr=>?_,fun r hr=>?_⟩
  ·cases r with
   |env t=>simp only[agree];rw[ux,ux,if_pos (show o.dst=some t from hr),if_pos (show o.dst=some t from hr)]
   |loc d=>exact pP (.loc d) hr
   |mem=>exact pP .mem hr
  ·cases r with
   |env t=>
    have hr:¬o.dst=some t:=hr
    simp only[agree];rw[ux,ux,if_neg hr,if_neg hr];exact⟨rfl,rfl⟩
   |loc d=>exact⟨rfl,rfl⟩
   |mem=>exact⟨rfl,rfl⟩
def ins(x:Nat)(l:List Nat):List Nat:=if l.contains x then l else x::l
theorem SB{x y:Nat}{l:List Nat}(h:y∈ins x l):y=x\/y∈l:=by
 unfold ins at h;split at h
 ·exact .inr h
 ·simpa using h
def Ry(m l:List Nat):List Nat:=m.foldr ins l
theorem ado{y:Nat}{m l:List Nat}(h:y∈Ry m l):y∈m\/y∈l:=by
 induction m with
 |nil=>exact .inr h
 |cons a m ih=>
  rcases SB h with rfl|h
  ·exact .inl (by simp)
  ·rcases ih h with h|h
   ·exact .inl (by simp[h])
   ·exact .inr h
def sJ(acc:List (List Nat)):List Edge->List Nat
 |[]=>[]
 |e::l=>if Region.binds .any e then ins e.on (Ry (acc.getD e.on []) (sJ acc l))else sJ acc l
theorem adq{acc:List (List Nat)}{es:List Edge}{j:Nat}(h:j∈sJ acc es):∃e∈es,Region.binds .any e=true/\(j=e.on\/j∈acc.getD e.on []):=by
 induction es with
 |nil=>cases h
 |cons e l ih=>
  simp only[sJ]at h
  have tail:j∈sJ acc l->∃e'∈e::l,Region.binds .any e'=true/\(j=e'.on\/j∈acc.getD e'.on []):=fun h=>by obtain⟨e',h1,h2⟩:=ih h;exact⟨e',AQ _ h1,h2⟩
  split at h
  ·rename_i hb;rcases SB h with h|h
   ·exact⟨e,by simp,hb,.inl h⟩
   ·rcases ado h with h|h
    ·exact⟨e,by simp,hb,.inr h⟩
    ·exact tail h
  ·exact tail h
def qa:List Oper->List (List Nat)->List (List Nat)
 |[],acc=>acc
 |o::l,acc=>qa l (acc++[sJ acc o.after.toList])
def pn:List Oper->Nat->Bool
 |[],_=>true
 |o::l,i=>(o.after.toList.all fun e=>!Region.binds .any e||decide (e.on<i))&&pn l (i+1)
theorem Tj(l:List Oper)(acc:List (List Nat)):∃rest,qa l acc=acc++rest/\rest.length=l.length:=by
 induction l generalizing acc with
 |nil=>exact⟨[],by simp[qa],rfl⟩
 |cons o l ih=>
  obtain⟨rest,h1,h2⟩:=ih (acc++[sJ acc o.after.toList])
  exact⟨sJ acc o.after.toList::rest,by simp[qa,h1],by simp[h2]⟩
theorem aeR(l:List Oper)(acc:List (List Nat))(i:Nat)(o:Oper)(h:l[i]?=some o)(he:pn l acc.length=true)(j:Nat)
  (hj:j∈(qa l acc).getD (acc.length+i) []):
  ∃e∈o.after,Region.binds .any e=true/\e.on<acc.length+i/\(j=e.on\/j∈(qa l acc).getD e.on []):=by
 induction l generalizing acc i with
 |nil=>simp at h
 |cons o' l ih=>
  simp only[pn,jv,gu,ahL,ah9,decide_eq_true_eq]at he
  cases i with
  |zero=>
   simp only[vp,aZ]at h
   subst h;obtain⟨rest,h1,h2⟩:=Tj l (acc++[sJ acc o'.after.toList]);have hg:(qa (o'::l) acc).getD (acc.length+0) []=sJ acc o'.after.toList:=by simp only[qa,h1];simp[kJ]
   rw[hg]at hj;obtain⟨e,h3,h4,h5⟩:=adq hj;have ρ:=(he.1 e h3).resolve_left (by simp[h4]);refine⟨e,by simpa using h3,h4,by simpa using ρ,h5.imp id fun h5=>?_⟩;have:(qa (o'::l) acc).getD e.on []=acc.getD e.on []:=by simp only[qa,h1];simp[kJ,List.getElem?_append,ρ]
   rw[this];exact h5
  |succ i=>
   simp only[Io]at h
   have:=ih (acc++[sJ acc o'.after.toList]) i h (by simpa using he.2) (by simpa[qa,vt,yQ 1 i]using hj);simpa[qa,vt,yQ 1 i]using this
def iw(ops:Array Oper):List (List Nat):=qa ops.toList []
theorem Mn{ops:Array Oper}(he:pn ops.toList 0=true){i j:Nat}{o:Oper}(h:ops[i]?=some o)(hj:j∈(iw ops).getD i []):
  ∃e∈o.after,Region.binds .any e=true/\e.on<i/\(j=e.on\/j∈(iw ops).getD e.on []):=by
 have:=aeR ops.toList [] i o (by simpa using h) he j (by simpa[iw]using hj);simpa[iw]using this
theorem WM{l:List Oper}{k:Nat}(he:pn l k=true){i:Nat}{o:Oper}(h:l[i]?=some o):∀e∈o.after,Region.binds .any e=true->e.on<k+i:=by
 induction l generalizing k i with
 |nil=>simp at h
 |cons o' l ih=>
  simp only[pn,jv,gu,ahL,ah9,decide_eq_true_eq]at he
  cases i with
  |zero=>
   simp only[vp,aZ]at h
   subst h;intro e hm hb;exact(he.1 e (by simpa using hm)).resolve_left (by simp[hb])
  |succ i=>
   simp only[Io]at h
   intro e hm hb;have:=ih he.2 h e hm hb;omega
def Be:sY->sY->Bool
 | .quiet,_=>false
 |_,.quiet=>false
 | .mz true,.load=>false
 | .load,.mz true=>false
 | .mz _,_=>true
 |_,.mz _=>true
 | .call,.call=>true
 | .new d,.new d'=>d==d'
 |_,_=>false
def Kw(o o':aT):Bool:=match o.dst with
 |some t=>o'.dst==some t||o'.H'.contains t
 |none=>false
def y_(o o':aT):Bool:=Be o.cls o'.cls||Kw o o'||Kw o' o
theorem I1{o o':aT}(h:y_ o o'=false):∀r,gG o r->¬gG o' r/\¬ME o' r:=by
 intro r hr;simp only[y_,Ig]at h;obtain⟨⟨h1,h2⟩,h3⟩:=h;cases r with
 |env t=>
  have hr:o.dst=some t:=hr
  simp only[Kw,hr,Ig]at h2;refine⟨fun hw=>?_,fun hw=>?_⟩
  ·have hw:o'.dst=some t:=hw;simp[hw]at h2
  ·have hw:t∈o'.H':=hw;simp[hw]at h2
 |loc d=>
  have key:¬(o'.cls= .new d\/∃b,o'.cls= .mz b):=by rintro(hw|⟨b,hw⟩)<;>rcases hr with hr|⟨b',hr⟩<;>simp[hr,hw,Be]at h1
  exact⟨key,key⟩
 |mem=>
  have key:¬(o'.cls= .call\/∃b,o'.cls= .mz b):=by rintro(hw|⟨b,hw⟩)<;>rcases hr with hr|⟨b',hr⟩<;>simp[hr,hw,Be]at h1
  exact⟨key,key⟩
def cmp(pre:List (List Nat))(i j:Nat):Bool:=(pre.getD j []).contains i||(pre.getD i []).contains j
def Bj(l:List aT)(pre:List (List Nat)):Bool:=
 (rC l.length).all fun j=>(rC l.length).all fun i=>decide (i=j)||cmp pre i j||(match l[i]?,l[j]? with
  |some oi,some oj=>!y_ oi oj
  |_,_=>true)
def Lw(p:sY->Bool)(l:List aT)(i:Nat):Bool:=match l[i]? with
 |some o=>p o.cls
 |none=>false
def rh(l:List aT)(pre:List (List Nat))(p q:sY->Bool):List (Nat×Nat):=
 ((rC l.length).filter (Lw p l)).flatMap fun i=>(((rC l.length).filter (Lw q l)).filter fun j=>!(cmp pre i j)).map fun j=>(i,j)
def pY:sY->Bool
 | .load=>true
 |_=>false
def yg:sY->Bool
 | .call=>true
 | .mz true=>true
 |_=>false
def Aa:sY->Bool
 | .new _=>true
 |_=>false
theorem L4{l:List aT}{pre:List (List Nat)}{p q:sY->Bool}{i j:Nat}{o o':aT}(h1:l[i]?=some o)(h2:l[j]?=some o')(hp:p o.cls=true)(hq:q o'.cls=true)
  (hc:cmp pre i j=false):(i,j)∈rh l pre p q:=by
 have hi:i<l.length:=(kg.1 h1).1;have hj:j<l.length:=(kg.1 h2).1;simp only[rh,List.mem_flatMap,List.mem_map,Dx,List.mem_range,aN,Lw];exact⟨i,⟨hi,by simp[h1,hp]⟩,j,⟨⟨hj,by simp[h2,hq]⟩,by simp[hc]⟩,rfl,rfl⟩
mutual
theorem AV.eq_of_beq:∀(a b:AV),AV.beq a b=true->a=b
 | .undef,b,h=>by cases b<;>simp[AV.beq]at h;rfl
 | .cR,b,h=>by cases b<;>simp[AV.beq]at h;rfl
 | .int k n,b,h=>by cases b<;>simp[AV.beq]at h;rw[h.1,h.2]
 | .bool x,b,h=>by cases b<;>simp[AV.beq]at h;rw[h]
 | .str s,b,h=>by cases b<;>simp[AV.beq]at h;rw[h]
 | .iK,b,h=>by cases b<;>simp[AV.beq]at h;rfl
 | .ae d v o,b,h=>by cases b<;>simp[AV.beq]at h;rw[h.1.1,h.1.2,h.2]
 | .ν d o,b,h=>by cases b<;>simp[AV.beq]at h;rw[h.1,h.2]
 | .ref l,b,h=>by cases b<;>simp[AV.beq]at h;rw[AV.vE _ _ h]
 | .sl kd i o n c,b,h=>by cases b<;>simp[AV.beq]at h;rw[h.1.1.1.1,h.1.1.1.2,h.1.1.2,h.1.2,h.2]
 | .list c l,b,h=>by cases b<;>simp[AV.beq]at h;rw[h.1,AV.vE _ _ h.2]
 | .agg l,b,h=>by cases b<;>simp[AV.beq]at h;rw[AV.vE _ _ h]
 | .aP l,b,h=>by cases b<;>simp[AV.beq]at h;rw[AV.vE _ _ h]
 | .fn f x y,b,h=>by cases b<;>simp[AV.beq]at h;rw[h.1.1,AV.vE _ _ h.1.2,AV.vE _ _ h.2]
 | .eJ,b,h=>by cases b<;>simp[AV.beq]at h;rfl
 | .iface t v,b,h=>by cases b<;>simp[AV.beq]at h;rw[h.1,AV.eq_of_beq _ _ h.2]
 | .fY,b,h=>by cases b<;>simp[AV.beq]at h;rfl
 | .map i,b,h=>by cases b<;>simp[AV.beq]at h;rw[h]
 | .fJ,b,h=>by cases b<;>simp[AV.beq]at h;rfl
theorem AV.vE:∀(a b:List AV),AV.gz a b=true->a=b
 |[],b,h=>by cases b<;>simp[AV.gz]at h;rfl
 |x::l,b,h=>by
  cases b with
  |nil=>simp[AV.gz]at h
  |cons y m=>simp[AV.gz]at h;rw[AV.eq_of_beq _ _ h.1,AV.vE _ _ h.2]
end
theorem Eh{a b:Option (List AV)}(h:fm a b=true):a=b:=by cases a<;>cases b<;>simp[fm]at h;rw[AV.vE _ _ h]
theorem Pe{P:Program}{bJ:Nat->Bool}{N:Nat}{ops:Array Oper}{l:List Oper}{l':List aT}(h:tv P bJ N ops l=some l'):l'.length=l.length:=by
 induction l generalizing l' with
 |nil=>cases h;rfl
 |cons o l ih=>
  simp only[tv]at h
  split at h
  ·rename_i h1 h2;cases h;simp[ih h2]
  ·cases h
theorem Pd{P:Program}{bJ:Nat->Bool}{N:Nat}{ops:Array Oper}{l:List Oper}{l':List aT}(h:tv P bJ N ops l=some l'){i:Nat}{o:Oper}(hi:l[i]?=some o):
  ∃o',l'[i]?=some o'/\D0 P bJ N ops o=some o':=by
 induction l generalizing l' i with
 |nil=>simp at hi
 |cons x l ih=>
  simp only[tv]at h
  split at h
  ·rename_i h1 h2;cases h;cases i with
   |zero=>simp only[vp,aZ]at hi;subst hi;exact⟨_,rfl,h1⟩
   |succ i=>simp only[Io]at hi⊢;exact ih h2 hi
  ·cases h
structure Trace (gl:Nat->AV) (aF:cx) (l:List aT) (T:Nat->St):Prop where
 step:∀i o,l[i]?=some o->dP gl aF o (T i)=some (T (i+1))
theorem Ny{gl:Nat->AV}{aF:cx}{l:List aT}{s:St}{tr:List St}(h:dF gl aF l s=some tr):
  tr.length=l.length+1/\tr[0]?=some s/\∀i o,l[i]?=some o->∃a b,tr[i]?=some a/\tr[i+1]?=some b/\dP gl aF o a=some b:=by
 induction l generalizing s tr with
 |nil=>cases h;exact⟨rfl,rfl,fun i o h=>by simp at h⟩
 |cons x l ih=>
  simp only[dF]at h
  split at h
  ·rename_i s' he;simp only[bH]at h;obtain⟨t,ht,rfl⟩:=h;obtain⟨h1,h2,h3⟩:=ih ht;refine⟨by simp[h1],rfl,fun i o ho=>?_⟩;cases i with
   |zero=>
    simp only[vp,aZ]at ho
    subst ho;exact⟨s,s',rfl,by simpa using h2,he⟩
   |succ i=>
    simp only[Io]at ho⊢
    exact h3 i o ho
  ·cases h
section
variable{gl:Nat->AV}{aF:cx}{l:List aT}{T:Nat->St}
theorem Trace.same(hT:Trace gl aF l T){r:uj}{i:Nat}:∀{k:Nat},i<=k->k<=l.length->(∀j o,i<=j->j<k->l[j]?=some o->¬gG o r)->agree r (T k) (T i):=by
 intro k;induction k with
 |zero=>intro h _ _;obtain rfl:i=0:=(by omega);exact xd _ _
 |succ k ih=>
  intro h hk hn
  rcases bP k i with ρ|cG
  ·obtain rfl:i=k+1:=by omega
   exact xd _ _
  ·have h1:=ih cG (by omega) fun j o hj dp=>hn j o hj (by omega);have ρ:k<l.length:=by omega
   have ψ:=hT.step k l[k] (dr ρ);obtain⟨s1,h2,_,h4⟩:=IF (s:=T k) ψ (fun r _=>xd r _) (fun _ _ _ _ _=>rfl);exact A0 (h4 r (hn k l[k] cG (by omega) (dr ρ))).2 h1
theorem Trace.last(hT:Trace gl aF l T){r:uj}{i:Nat}:∀{k:Nat},i<=k->k<=l.length→
  agree r (T k) (T i)\/∃j o,i<=j/\j<k/\l[j]?=some o/\gG o r/\agree r (T k) (T (j+1)):=by
 intro k;induction k with
 |zero=>intro h _;obtain rfl:i=0:=(by omega);exact .inl (xd _ _)
 |succ k ih=>
  intro h hk
  rcases bP k i with ρ|cG
  ·obtain rfl:i=k+1:=by omega
   exact .inl (xd _ _)
  ·have ρ:k<l.length:=by omega
   have ho:l[k]?=some l[k]:=dr ρ;by_cases hw:gG l[k] r
   ·exact .inr ⟨k,l[k],cG,by omega,ho,hw,xd _ _⟩
   ·have ψ:=hT.step k l[k] ho;obtain⟨s1,h2,_,h4⟩:=IF (s:=T k) ψ (fun r _=>xd r _) (fun _ _ _ _ _=>rfl);have h5:=(h4 r hw).2;rcases ih cG (by omega)with h1|⟨j,o,k1,k2,k3,k4,k5⟩
    ·exact .inl (A0 h5 h1)
    ·exact .inr ⟨j,o,k1,by omega,k3,k4,A0 h5 k5⟩
def Inv(l:List aT)(T:Nat->St)(listed:Nat->Prop)(s:St):Prop:=
 ∀r k,k<=l.length->(∀j o,j<k->l[j]?=some o->gG o r->listed j)->(∀j o,k<=j->l[j]?=some o->gG o r->¬listed j)->agree r s (T k)
structure Iw (gl:Nat->AV) (l:List aT) (T:Nat->St) (iA:Nat->Nat->Prop):Prop where
 back:∀i j,iA i j->i<j
 free:∀i j oi oj,l[i]?=some oi->l[j]?=some oj->i≠j->¬iA i j->¬iA j i->y_ oi oj=false
 cf:∀i j oi oj ag n a,l[i]?=some oi->l[j]?=some oj->oi.op= .ld ag n a->(oj.cls= .call\/oj.cls= .mz true)->¬iA i j->¬iA j i->eX (T i).env oi.guard≠some false→
  ∀id off,dQ gl (T i).env a= .ν id off->rd (fun _=>none) (T j).mem (.ν id off) n=rd (fun _=>none) (T i).mem (.ν id off) n∧
   rd (fun _=>none) (T (j+1)).mem (.ν id off) n=rd (fun _=>none) (T i).mem (.ν id off) n
 sf:∀i j oi oj ag n a,l[i]?=some oi->l[j]?=some oj->oi.op= .ld ag n a->oj.cls= .mz true->¬iA i j->¬iA j i->eX (T i).env oi.guard≠some false→
  ∀d v off,dQ gl (T i).env a= .ae d v off->rd (τ (T j).loc) (T j).mem (.ae d v off) n=rd (τ (T i).loc) (T i).mem (.ae d v off) n∧
   rd (τ (T (j+1)).loc) (T (j+1)).mem (.ae d v off) n=rd (τ (T i).loc) (T i).mem (.ae d v off) n
 af:∀i j oi oj ag n a d,l[i]?=some oi->l[j]?=some oj->oj.op= .ld ag n a->oi.cls= .new d->¬iA i j->¬iA j i→
  ∀v off,dQ gl (T j).env a= .ae d v off->False
theorem Bf{o:aT}{ag n a}(h:o.op= .ld ag n a):o.cls= .load:=by obtain⟨dst,op,gd⟩:=o;cases h;rfl
theorem adx{o:aT}{d:Nat}(h:o.cls= .new d):o.dst=some d:=by
 obtain⟨dst,op,gd⟩:=o;cases op with
 |alloc g z=>cases g<;>cases dst<;>simp_all [aT.cls]
 |box g n x=>cases g<;>cases dst<;>simp_all [aT.cls]
 |qd x=>cases dst<;>simp_all [aT.cls]
 |_=>simp[aT.cls]at h
theorem aek(hT:Trace gl aF l T){iA:Nat->Nat->Prop}(hO:Iw gl l T iA){listed:Nat->Prop}{s:St}(hI:Inv l T listed s)
  (er:∀i j,iA i j->listed j->listed i) {i:Nat} {o:aT} (ho:l[i]?=some o) (ya:¬listed i) (G1:∀j,iA j i->listed j):
  ∃s1,dP gl aF o s=some s1/\Inv l T (fun j=>listed j\/j=i) s1:=by
 have hi:i<l.length:=(kg.1 ho).1;have side:∀r,(∀j oj,l[j]?=some oj->gG oj r->j≠i->iA i j\/iA j i)->agree r s (T i):=by
  intro r hr;refine hI r i (yR hi) (fun j oj hj ie hw=>?_) (fun j oj hj ie hw hl=>?_)
  ·rcases hr j oj ie hw (by omega)with h|h
   ·have:=hO.back _ _ h;omega
   ·exact G1 j h
  ·rcases ah_ hj with rfl|ρ
   ·exact ya hl
   ·rcases hr j oj ie hw (by omega)with h|h
    ·exact ya (er _ _ h hl)
    ·have:=hO.back _ _ h;omega
 have pP:∀r,ME o r->agree r s (T i):=by
  intro r hr;refine side r fun j oj ie hw ak=>?_;by_cases h1:iA i j
  ·exact .inl h1
  ·by_cases h2:iA j i
   ·exact .inr h2
   ·exact absurd hr (I1 (hO.free j i oj o ie ho ak h2 h1) r hw).2
 have look:∀{β:Type} (f:St->β) (r:uj),(∀s s',agree r s s'->f s=f s')→
   (∀j oj,l[j]?=some oj->gG oj r->j≠i->¬iA i j->¬iA j i->f (T j)=f (T i)/\f (T (j+1))=f (T i))->f s=f (T i):=by
  intro β f r hf QQ;have⟨k,hk,h_,eF⟩:∃k,k<=l.length/\(∀j oj,j<k->l[j]?=some oj->gG oj r->listed j)/\(k=l.length\/∃ok,l[k]?=some ok/\gG ok r/\¬listed k):=by
   have:∀k,k<=l.length->(∀j oj,j<k->l[j]?=some oj->gG oj r->listed j)\/∃m,m<k/\(∀j oj,j<m->l[j]?=some oj->gG oj r->listed j)/\∃ok,l[m]?=some ok/\gG ok r/\¬listed m:=by
    intro k;induction k with
    |zero=>intro _;exact .inl fun j oj hj=>by omega
    |succ k ih=>
     intro hk
     rcases ih (by omega)with h|⟨m,h1,h2⟩
     ·have ab:l[k]?=some l[k]:=dr (by omega);by_cases hx:gG l[k] r/\¬listed k
      ·exact .inr ⟨k,by omega,h,_,ab,hx⟩
      ·refine .inl fun j oj hj ie cV=>?_;rcases bP j k with ρ|cG
       ·exact h j oj ρ ie cV
       ·obtain rfl:j=k:=by omega
        rw[ab]at ie;cases ie;exact Classical.byContradiction fun hn=>hx ⟨cV,hn⟩
     ·exact .inr ⟨m,by omega,h2⟩
   rcases this l.length (bF _)with h|⟨m,h1,h2,h3⟩
   ·exact⟨l.length,bF _,h,.inl rfl⟩
   ·exact⟨m,yR h1,h2,.inr h3⟩
  have ca:agree r s (T k):=by
   refine hI r k hk h_ fun j oj hj ie cV hl=>?_;rcases eF with rfl|⟨ok,h1,h2,h3⟩
   ·have:=(kg.1 ie).1;omega
   ·rcases ah_ hj with rfl|ρ
    ·exact h3 hl
    ·by_cases g1:iA k j
     ·exact h3 (er _ _ g1 hl)
     ·by_cases g2:iA j k
      ·have:=hO.back _ _ g2;omega
      ·exact(I1 (hO.free k j ok oj h1 ie (by omega) g1 g2) r h2).1 cV
  rw[hf _ _ ca];have ordered:i<=k->f (T k)=f (T i):=by
   intro B7;rcases hT.last (r:=r) B7 hk with h|⟨j,oj,g1,g2,g3,g4,g5⟩
   ·exact hf _ _ h
   ·rw[hf _ _ g5];have hl:=h_ j oj g2 g3 g4;have ak:j≠i:=fun h=>ya (h▸hl);have n1:¬iA i j:=fun h=>ya (er _ _ h hl);have n2:¬iA j i:=fun h=>by have:=hO.back _ _ h;omega
    exact(QQ j oj g3 g4 ak n1 n2).2
  rcases eF with rfl|⟨ok,h1,h2,h3⟩
  ·exact ordered (yR hi)
  ·by_cases g1:iA i k
   ·exact ordered (yR (hO.back _ _ g1))
   ·by_cases g2:iA k i
    ·exact absurd (G1 k g2) h3
    ·by_cases Zt:k=i
     ·exact ordered (by omega)
     ·exact(QQ k ok h1 h2 Zt g1 g2).1
 have xQ:Nc gl o s (T i):=by
  intro ag n a Ω hw;cases hp:dQ gl (T i).env a with
  |ae d v off=>
   refine look (fun s=>rd (τ s.loc) s.mem (.ae d v off) n) (.loc d) (fun s s' h=>?_) fun j oj ie cV ak n1 n2=>?_
   ·simp only[rd];rw[show τ s.loc d=τ s'.loc d from h]
   ·rcases cV with cV|⟨b,cV⟩
    ·exact(hO.af j i oj o ag n a d ie ho Ω cV n2 n1 v off hp).elim
    ·cases b with
     |false=>
      have:=hO.free j i oj o ie ho ak n2 n1
      simp[y_,cV,Bf Ω,Be]at this
     |true=>exact hO.sf i j o oj ag n a ho ie Ω cV n1 n2 hw d v off hp
  |ν id off=>
   refine look (fun s=>rd (τ s.loc) s.mem (.ν id off) n) .mem (fun s s' h=>?_) fun j oj ie cV ak n1 n2=>?_
   ·show rd (fun _=>none) s.mem (.ν id off) n=rd (fun _=>none) s'.mem (.ν id off) n;rw[show s.mem=s'.mem from h]
   ·refine hO.cf i j o oj ag n a ho ie Ω ?_ n1 n2 hw id off hp;rcases cV with cV|⟨b,cV⟩
    ·exact .inl cV
    ·cases b with
     |false=>
      have:=hO.free j i oj o ie ho ak n2 n1
      simp[y_,cV,Bf Ω,Be]at this
     |true=>exact .inr cV
  |_=>rfl
 obtain⟨s1,h1,h2,h3⟩:=IF (hT.step i o ho) pP xQ;refine⟨s1,h1,fun r k hk ρ cG=>?_⟩;by_cases hw:gG o r
 ·have B7:i<k:=by
   rcases bP i k with h|h
   ·exact h
   ·exact absurd (.inr rfl) (cG i o h ho hw)
  refine A0 (h2 r hw) (Nl (hT.same (i:=i+1) B7 hk fun j oj hj Zm ie oU=>?_));have hl:listed j:=(ρ j oj Zm ie oU).resolve_right (by omega);by_cases g1:iA i j
  ·exact ya (er _ _ g1 hl)
  ·by_cases g2:iA j i
   ·have:=hO.back _ _ g2;omega
   ·exact(I1 (hO.free i j o oj ho ie (by omega) g1 g2) r hw).1 oU
 ·refine A0 (h3 r hw).1 (hI r k hk (fun j oj hj ie oU=>?_) (fun j oj hj ie oU hl=>cG j oj hj ie oU (.inl hl)));refine(ρ j oj hj ie oU).resolve_right ?_
  rintro rfl
  rw[ho]at ie;cases ie;exact hw oU
end
end Go.ah
