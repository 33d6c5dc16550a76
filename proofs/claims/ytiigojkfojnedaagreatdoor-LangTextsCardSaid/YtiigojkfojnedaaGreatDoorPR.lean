import Derived.Test.YtiigojkfojnedaaGreatDoorPI
set_option linter.unusedVariables false
set_option linter.unusedSimpArgs false
open Nat renaming add_mul->kV,add_comm->y0,lt_or_ge->bP,mod_lt->qJ,add_zero->um,le_refl->bQ,le_trans->xh,lt_of_lt_of_le->rP,add_assoc->vz,le_of_lt->y5,eq_or_lt_of_le->ah'
open List renaming getElem?_append_left->eg,length_cons->dO,mem_cons_of_mem->A6,mem_of_mem_drop->rL,getElem_drop->w_,mem_of_mem_take->oe,getElem?_take->A2,all_eq_true->gz,getElem?_eq_getElem->eo,getElem_cons_zero->mY,drop_drop->vr,replicate->rN,replicate_succ->ah7,drop_take->ah8,drop_zero->ah9,take_of_length_le->dY,getElem?_set->vu,mem_append->eL,mem_cons->dX,mem_append_left->IG,mem_append_right->xb,mem_filter->DA,map_congr_left->dz,getElem?_cons_zero->A1,getD_eq_getElem?_getD->kT,getElem?_cons_succ->IC,range->rM,getElem?_eq_some_iff->lx
open Option.some renaming injEq->bj
open Prod.mk renaming injEq->aL
open Array renaming getElem_toList->mz,toArray_toList->wZ,getElem?_toList->AU,getD_eq_getD_getElem?->rI
open Option renaming map_eq_some_iff->bL,map_some->rR
open Bool renaming not_true->ah6,false_eq_true->hS,true_and->uk,and_eq_true->kj,or_eq_true->ahO,not_eq_true'->ah_,or_eq_false_iff->Iw
namespace Go.ab
section
variable{P:Program}{base:Nat}{LC:eX}{g g':Gh}{lb lb':LB}{own aK:OW}{loc:Nat->Option (Nat×θ)}{mem:Mem}{w w':World}
variable{bN:Nat->Bool}{aH:cM}{ev:bp->AV}{a:Act}{o:Oper}{ao:AO}{v:AV}{u:lA}{m':Mem}
theorem H'(n:Nat)(z:List AV):(rep n z).length=n*z.length:=by
 induction n with
 |zero=>simp[rep]
 |succ n ih=>simp[rep,ih,kV,y0]
theorem Ut(z:List AV):∀(n k:Nat),k<n*z.length->(rep n z)[k]?=z[k % z.length]?:=by
 intro n;induction n with
 |zero=>intro k h;simp at h
 |succ n ih=>
  intro k h
  rw[rep];rcases bP k z.length with ν|cD
  ·rw[eg ν,Nat.mod_eq_of_lt ν]
  ·rw[kV,Nat.one_mul]at h;rw[List.getElem?_append_right cD,ih (k-z.length) (by omega),Nat.mod_eq_sub_mod cD]
theorem FR.pw{sz:Nat}:∀{l:List AV} {vs:List Value},FR g lb sz l vs->PW (VR g lb) (l.flatMap AV.cells) vs:=by
 intro l;induction l with
 |nil=>
  intro vs h
  have:vs=[]:=List.eq_nil_of_length_eq_zero (by have:=h.1;simpa using this);subst this;exact PW.nil
 |cons e l ih=>
  intro vs h
  obtain⟨h1,h2,h3,h4⟩:=h;have Ku:e.cells.length=sz:=h2 e (by simp);simp only[dO,kV,Nat.one_mul]at h1;have G_:FR g lb sz l (vs.drop sz):=by
   refine⟨by simp;omega,fun e he=>h2 e (A6 _ he),fun v hv=>h3 v (rL hv),fun i hi j hj dD=>?_⟩;have:=h4 (i+1) (by simpa using hi) j (by simpa using hj) (by rw[kV];simp at dD;omega);simp only[List.getElem_cons_succ,w_]at this⊢;have e1:(i+1)*sz+j=sz+(i*sz+j):=by rw[kV];omega
   simpa only[e1]using this
  have xR:PW (VR g lb) e.cells (vs.take sz):=by refine⟨by simp;omega,fun j hj dD=>?_⟩;have:=h4 0 (by simp) j (by simpa using hj) (by simp at dD;omega);simpa using this
  have:=xR.append (ih G_);rw[List.take_append_drop]at this;simpa[List.flatMap_cons]using this
theorem agf(hm:bc g own LC mem w){y:AV}{yv:Value}(hy:VR g lb y yv){sz k:Nat}{cs:List AV}(hc:cellsOf mem sz y=some (k,cs)):
  cs.length=k*sz/\(Builtin.lenOf yv).run P w= .ok k w/\∀j,j<=k->∃vs:List Value,(Builtin.firstCells sz j yv).run P w= .ok vs.toArray w/\PW (VR g lb) (cs.take (j*sz)) vs/\∀v∈vs,v.oneCell'=true:=by
 have key:∀(b o cap:Nat) (full:List Value),yv= .slice (some ⟨b,o,none⟩) k cap->cs.length=k*sz->PW (VR g lb) cs full->(∀v∈full,v.oneCell'=true)→
   (∀j v,full[j]?=some v->w.cell? ⟨b,o+j,none⟩=some v)->cs.length=k*sz/\(Builtin.lenOf yv).run P w= .ok k w∧
   ∀j,j<=k->∃vs:List Value,(Builtin.firstCells sz j yv).run P w= .ok vs.toArray w/\PW (VR g lb) (cs.take (j*sz)) vs/\∀v∈vs,v.oneCell'=true:=by
  rintro b o cap full rfl hlen dc h1 oD
  refine⟨hlen,rfl,fun j hj=>⟨full.take (j*sz),?_,dc.take _,fun v hv=>h1 v (oe hv)⟩⟩;have KP:j*sz<=full.length:=by rw[<-dc.1,hlen];exact Nat.mul_le_mul_right _ hj
  have Af:=run_loadCells_list (P:=P) w ⟨b,o,none⟩ (full.take (j*sz)) (fun q v hv=>by
   rw[Addr.add_mid]
   rw[A2]at hv;split at hv
   ·exact oD q v hv
   ·cases hv)
  have ZM:(full.take (j*sz)).length=j*sz:=by simp;omega
  rw[ZM]at Af;simp only[Builtin.firstCells,Af]
 cases y with
 |list c l=>
  simp only[cellsOf]at hc
  split at hc
  ·rename_i pg;simp only[bj,aL]at hc;obtain⟨rfl,rfl⟩:=hc;simp only[gz,decide_eq_true_eq]at pg;by_cases hle:l=[]
   ·subst hle;have LL:(yv= .slice none 0 0)\/(∃ad cap,yv= .slice (some ad) 0 cap)\/∃b o cap,yv= .slice (some ⟨b,o,none⟩) 0 cap:=by
     cases hy with
     |iQ=>exact .inl rfl
     |g_ _ _ ad cap hc=>exact .inr (.inl ⟨_,_,rfl⟩)
     |list _ _ _ b o ff n cap xs hn=>simp at hn;subst hn;exact .inr (.inr ⟨_,_,_,rfl⟩)
    rcases LL with rfl|⟨ad,cap,rfl⟩|⟨b,o,cap,rfl⟩
    ·refine⟨by simp,rfl,fun j hj=>⟨[],rfl,by simp[PW],by simp⟩⟩
    ·refine⟨by simp,rfl,fun j hj=>⟨[],?_,by simp[PW],by simp⟩⟩;have:j=0:=by simp at hj;exact hj
     subst this;simp[Builtin.firstCells,loadCells,loadCellsFrom]
    ·exact key b o cap [] rfl (by simp) PW.nil (by simp) (by simp)
   ·obtain⟨b,o,cap,vs,rfl,-,-,l9,cJ⟩:=hy.flat pg hle;have hp:=l9.pw;refine key b o cap vs rfl ?_ (hp.mono fun _ _ h=>h.mono g.eP fun _ _ _ h=>by cases h) l9.2.2.1 (fun j v hv=>hm.im _ _ _ (cJ j v hv));rw[hp.1,l9.1]
  ·cases hc
 |sl kd id off n cap=>
  simp only[cellsOf]at hc
  split at hc
  ·rename_i l hb;split at hc
   ·rename_i hle;simp only[bj,aL]at hc;obtain⟨rfl,rfl⟩:=hc;cases hy with
    |sl _ _ _ _ _ _ b vX aX=>
    obtain⟨b2,k1,k2⟩:=hm.blk id _ hb
    rw[aX]at k1;cases k1;obtain⟨aa,e,k3,k4,k5⟩:=k2.pw;refine key b off cap ((aa.toList.drop off).take (n*sz)) rfl (by simp;omega) (((k4.drop off).take (n*sz)).mono fun _ _ h=>h.mono g.eP fun _ _ _ h=>by cases h) (fun v hv=>k5 v (rL (oe hv))) (fun j v hv=>?_);rw[A2]at hv;split at hv
    ·rw[List.getElem?_drop]at hv;simpa[World.cell?,k3]using hv
    ·cases hv
   ·cases hc
  ·cases hc
 |_=>simp[cellsOf]at hc
theorem aep(au:eW g lb ev a)(hm:bc g own LC mem w)(hl:cQ g lb own loc w)(ho:bZ base own w){t:TypeId}{x y:Operand}(Ψ:o.op= .makeSlice t x y)
  (hc:bH P bN o=some ao) (hr:aF ev loc mem aH o.dst ao=some (v,u,m')):eM P base LC g lb own loc w a o v u m':=by
 simp only[bH,Ψ]at hc;split at hc
 ·rename_i e x' y' hu hx hy;split at hc
  ·rename_i z i hz hi;cases hc;simp only[aF]at hr;split at hr
   ·rename_i kn n kc c e1 e2;split at hr
    ·rename_i hb;simp only[bj,aL]at hr;obtain⟨rfl,rfl,rfl⟩:=hr;have k1:=au _ _ hx;have k2:=au _ _ hy;rw[e1]at k1;rw[e2]at k2;obtain⟨zv,i',ae,pA,qt,mP,rh,ji,LN,LM⟩:=AT (P:=P) (g:=g) (lb:=lb) (w:=w) hz;rw[hi]at ae;cases ae;obtain⟨b0,b1,b2,b3⟩:=hb;have dy:=run_make (P:=P) w t e i zv hu hi pA kn kc n c b0 b1 b2 b3;have bm:(madeCells zv.cells (c.toNat*i.size)).size=(rep c.toNat z).length:=by rw[size_madeCells,H',rh]
     have Cm:∀k (h:k<(rep c.toNat z).length) (h':k<(madeCells zv.cells (c.toNat*i.size)).size),
       (rep c.toNat z)[k]=z[k % z.length]'(qJ _ (by omega))/\(madeCells zv.cells (c.toNat*i.size))[k]=zv.cells[k % zv.cells.size]'(qJ _ (by omega)):=by
      intro k h h';have hk:k<c.toNat*z.length:=by rw[H']at h;exact h
      refine⟨?_,?_⟩
      ·have:=Ut z c.toNat k hk;rw[eo h,eo (qJ _ (by omega))]at this;exact Option.some.inj this
      ·have hm:k % zv.cells.size<zv.cells.size:=qJ _ (by omega);simp[madeCells,hm]
     have qj:=Mt (LC:=LC) (e:=e) (qU:=true) (dst:=none) hm hl ho bm (fun k h h'=>by
       obtain⟨q1,q2⟩:=Cm k h h'
       rw[q1,q2];have:=LN.2 (k % z.length) (qJ _ (by omega)) (by simp;rw[mP,<-rh];exact qJ _ (by omega));have he:k % zv.cells.size=k % z.length:=by rw[mP,rh]
       simpa only[he,mz]using this) (fun k h'=>by
       obtain⟨-,q2⟩:=Cm k (by omega) h';rw[q2];exact LM _ (by simp)) (rfl:newVar loc mem true none (rep c.toNat z)=some (.μ mem.ε.length 0,none,_))
     refine⟨.slice (some ⟨w.heap.size,0,none⟩) n.toNat c.toNat,w.alloc (.cells (madeCells zv.cells (c.toNat*i.size)) e),.inl ?_,?_⟩
     ·exact(by simp only[execOp,Ψ,ue k1,ue k2,Sem.run_bind,dy,Result.andThen_ok];rfl)
     ·obtain⟨g',lb',aK,p1,p2,p3,p4,p5,p6⟩:=qj;refine⟨g',lb',aK,p1,p2,?_,p4,p5,p6⟩;cases p3 with
      |μ _ _ _ b hb=>exact .sl _ _ _ _ _ _ _ (by omega) hb
    ·cases hr
   ·cases hr
  ·cases hc
 ·cases hc
theorem aea(au:eW g lb ev a)(hm:bc g own LC mem w)(hl:cQ g lb own loc w)(ho:bZ base own w){c:Call}(Ψ:o.op= .call c)(hb:c.callee= .builtin .copy)
  (hc:bH P bN o=some ao) (hr:aF ev loc mem aH o.dst ao=some (v,u,m')):eM P base LC g lb own loc w a o v u m':=by
 simp only[bH,Ψ,hb]at hc;split at hc
 ·rename_i x y t ts jz uU;split at hc
  ·rename_i e x' y' hu hx hy;simp only[bL]at hc;obtain⟨sz,bm,rfl⟩:=hc;have ph:(c.args.map a.eval)= #[a.eval x,a.eval y]:=by
    have:(c.args.map a.eval).toList=[a.eval x,a.eval y]:=by simp[jz]
    rw[<-wZ (xs:=c.args.map a.eval),this]
   have rb:c.argTypes[0]?=some t:=by rw[<-AU,uU];rfl
   simp only[aF]at hr;split at hr
   ·rename_i id off n cp e1;split at hr
    ·rename_i k cs fw;simp only[bL,aL,Prod.exists]at hr;obtain⟨u1,m1,hw,rfl,rfl,rfl⟩:=hr;have k1:=au _ _ hx;rw[e1]at k1;obtain⟨b,bO,hid,dp⟩:∃b,a.eval x= .slice (some ⟨b,off,none⟩) n cp/\g.mb id=some b/\n<=cp:=by
      generalize a.eval x=xv at k1;cases k1 with
      |sl _ _ _ _ _ _ b vX aX=>exact⟨b,rfl,aX,vX⟩
     obtain⟨s1,s2,-⟩:=oV (P:=P) (w:=w) bm;obtain⟨q1,q2,q3⟩:=agf (P:=P) hm (au _ _ hy) fw;obtain⟨vs,q4,q5,q6⟩:=q3 (Nat.min k n) (Nat.min_le_left _ _);have Lz:u1=none:=by
      simp only[wr]at hw;split at hw
      ·split at hw
       ·cases hw;rfl
       ·cases hw
      ·cases hw
     subst Lz;have iz:wr loc mem (.μ id off) (cs.take (Nat.min k n*sz))=some (none,m1):=hw;obtain⟨b2,adU,aa,ee,w1,w2,w3,w4⟩:=Nq hm hl ho (.μ lb id off b hid) q5 q6 iz;cases w1;have τ:=run_storeCells_at P b off ee vs 0 aa w w2 (by simpa using w3) q6;simp only[um]at τ;refine⟨.int .i64 (Nat.min k n:Nat),w.setRow b (arr aa off vs),.inl ?_,?_⟩
     ·simp only[execOp,Ψ,resolve,hb,ph,Sem.run_bind,Sem.run_pure,Result.andThen_ok,invoke,builtin,Builtin.copy_,rb,bO];have aaE:(storeCells ⟨b,off,none⟩ vs).run P w= .ok () (w.setRow b (arr aa off vs)):=τ;have wi:(Builtin.lenOf (.slice (some ⟨b,off,none⟩) n cp)).run P w= .ok n w:=rfl;simp[run_underlying hu,q2,s1,q4,aaE,goInt]
     ·obtain⟨g',lb',aK,p1,p2,p3,p4,p5,p6⟩:=w4;exact⟨g',lb',aK,p1,p2,.int _ _ _,p4,p5,p6⟩
    ·cases hr
   ·cases hr
  ·cases hc
 ·cases hc
theorem ad_(au:eW g lb ev a)(hm:bc g own LC mem w)(hl:cQ g lb own loc w)(ho:bZ base own w){c:Call}(Ψ:o.op= .call c)(hb:c.callee= .builtin .clear)
  (hc:bH P bN o=some ao) (hr:aF ev loc mem aH o.dst ao=some (v,u,m')):eM P base LC g lb own loc w a o v u m':=by
 simp only[bH,Ψ,hb]at hc;split at hc
 ·rename_i x t jz uU;split at hc
  ·rename_i e x' hu hx;simp only[bL]at hc;obtain⟨z,hz,rfl⟩:=hc;have ph:(c.args.map a.eval)= #[a.eval x]:=by
    have:(c.args.map a.eval).toList=[a.eval x]:=by simp[jz]
    rw[<-wZ (xs:=c.args.map a.eval),this]
   have rb:c.argTypes[0]?=some t:=by rw[<-AU,uU];rfl
   have k1:=au _ _ hx;simp only[aF]at hr;split at hr
   ·rename_i cc e1;simp only[bj,aL]at hr;obtain⟨rfl,rfl,rfl⟩:=hr;rw[e1]at k1;have bO:∃A cap,a.eval x= .slice A 0 cap:=by
     generalize a.eval x=xv at k1;cases k1 with
     |iQ=>exact⟨_,_,rfl⟩
     |g_=>exact⟨_,_,rfl⟩
     |list _ _ _ b o sz n cap xs hn=>simp at hn;subst hn;exact⟨_,_,rfl⟩
    obtain⟨A,cap,bO⟩:=bO;refine .pure hm hl ho (x:= .tuple #[]) ?_ (.undef _);simp only[execOp,Ψ,resolve,hb,ph,Sem.run_bind,Sem.run_pure,Result.andThen_ok,invoke,builtin,Builtin.clear_,rb,bO];cases A<;>simp[run_underlying hu]
   ·rename_i id off n cp e1;rw[e1]at k1;obtain⟨b,bO,hid,dp⟩:∃b,a.eval x= .slice (some ⟨b,off,none⟩) n cp/\g.mb id=some b/\n<=cp:=by
     generalize a.eval x=xv at k1;cases k1 with
     |sl _ _ _ _ _ _ b vX aX=>exact⟨b,rfl,aX,vX⟩
    split at hr
    ·rename_i hn;simp only[bj,aL]at hr;obtain⟨rfl,rfl,rfl⟩:=hr;subst hn;refine .pure hm hl ho (x:= .tuple #[]) ?_ (.undef _);simp only[execOp,Ψ,resolve,hb,ph,Sem.run_bind,Sem.run_pure,Result.andThen_ok,invoke,builtin,Builtin.clear_,rb,bO];simp[run_underlying hu]
    rename_i hn;simp only[bL,aL,Prod.exists]at hr;obtain⟨u1,m1,hw,rfl,rfl,rfl⟩:=hr;have Lz:u1=none:=by
     simp only[wr]at hw;split at hw
     ·split at hw
      ·cases hw;rfl
      ·cases hw
     ·cases hw
    subst Lz;have iz:wr loc mem (.μ id off) (rep n z)=some (none,m1):=hw;obtain⟨zv,i,hi,pA,qt,mP,rh,ji,LN,LM⟩:=AT (P:=P) (g:=g) (lb:=lb) (w:=w) hz;have bm:(Builtin.zeroCells zv.cells n).size=(rep n z).length:=by rw[size_zeroCells,H',rh,mP]
    have Cm:∀k (h:k<(rep n z).length) (h':k<(Builtin.zeroCells zv.cells n).size),
      (rep n z)[k]=z[k % z.length]'(qJ _ (by omega))/\(Builtin.zeroCells zv.cells n)[k]=zv.cells[k % zv.cells.size]'(qJ _ (by omega)):=by
     intro k h h';have hk:k<n*z.length:=by rw[H']at h;exact h
     refine⟨?_,?_⟩
     ·have:=Ut z n k hk;rw[eo h,eo (qJ _ (by omega))]at this;exact Option.some.inj this
     ·have hm:k % zv.cells.size<zv.cells.size:=qJ _ (by omega);simp[Builtin.zeroCells,hm]
    have dc:PW (VR g lb) (rep n z) (Builtin.zeroCells zv.cells n).toList:=by
     refine⟨by simp[bm],fun k h h'=>?_⟩;obtain⟨q1,q2⟩:=Cm k h (by simpa using h');have e3:(Builtin.zeroCells zv.cells n).toList[k]=(Builtin.zeroCells zv.cells n)[k]'(by simpa using h'):=mz _;rw[q1,e3,q2];have:=LN.2 (k % z.length) (qJ _ (by omega)) (by simp;rw[mP,<-rh];exact qJ _ (by omega));have he:k % zv.cells.size=k % z.length:=by rw[mP,rh]
     simpa only[he,mz]using this
    have h1:∀v∈(Builtin.zeroCells zv.cells n).toList,v.oneCell'=true:=by intro v hv;obtain⟨k,hk,rfl⟩:=List.mem_iff_getElem.1 hv;obtain⟨-,q2⟩:=Cm k (by simpa[bm]using hk) (by simpa using hk);have e3:(Builtin.zeroCells zv.cells n).toList[k]=(Builtin.zeroCells zv.cells n)[k]'(by simpa using hk):=mz _;rw[e3,q2];exact LM _ (by simp)
    obtain⟨b2,adU,aa,ee,w1,w2,w3,w4⟩:=Nq hm hl ho (.μ lb id off b hid) dc h1 iz;cases w1;have τ:=run_storeCells_at P b off ee _ 0 aa w w2 (by simpa using w3) h1;simp only[um]at τ;refine⟨.tuple #[],w.setRow b (arr aa off (Builtin.zeroCells zv.cells n).toList),.inl ?_,?_⟩
    ·simp only[execOp,Ψ,resolve,hb,ph,Sem.run_bind,Sem.run_pure,Result.andThen_ok,invoke,builtin,Builtin.clear_,rb,bO];obtain⟨n',rfl⟩:∃n',n=n'+1:=⟨n-1,by omega⟩;simp[run_underlying hu,qt,τ,arr]
    ·obtain⟨g',lb',aK,p1,p2,p3,p4,p5,p6⟩:=w4;exact⟨g',lb',aK,p1,p2,.undef _,p4,p5,p6⟩
   ·cases hr
  ·cases hc
 ·cases hc
end
section
variable{P:Program}{base:Nat}{LC:eX}{g:Gh}{lb:LB}{own:OW}{loc:Nat->Option (Nat×θ)}{mem:Mem}{w:World}{bN:Nat->Bool}{aH:cM}
variable{ev:bp->AV}{a:Act}{o:Oper}{ao:AO}{v:AV}{u:lA}{m':Mem}
def zk:KK->AV->AV->Option Bool
 | .int,.int k a,.int k' b=>if k=k' then some (decide (a=b))else none
 | .str,.str a,.str b=>some (decide (a=b))
 | .bool,.bool a,.bool b=>some (a==b)
 |_,_,_=>none
theorem JG{k:KK}{ks:List KK}{l m:List AV}{r:Bool}(h:kq (k::ks) l m=some r):
  ∃x y l' m' r1 r2,l=x::l'/\m=y::m'/\zk k x y=some r1/\kq ks l' m'=some r2/\r=(r1&&r2):=by
 cases k<;>cases l with
 |nil=>simp[kq]at h
 |cons x l=>
  cases m with
  |nil=>cases x<;>simp[kq]at h
  |cons y m=>
   cases x<;>cases y<;>simp only[kq]at h<;>first|(cases h;done)|skip
   all_goals first
    |(
      split at h
      ·rename_i hk;simp only[bL]at h;obtain⟨r2,h2,rfl⟩:=h;exact⟨_,_,_,_,_,r2,rfl,rfl,by simp only[zk,hk,if_true],h2,rfl⟩
      ·cases h)
    |(
      simp only[bL]at h
      obtain⟨r2,h2,rfl⟩:=h;exact⟨_,_,_,_,_,r2,rfl,rfl,rfl,h2,rfl⟩)
theorem Uz{k:KK}{t:TypeId}(hk:pC P t=some k){x y:AV}{xv yv:Value}(hx:VR g lb x xv)(hy:VR g lb y yv){r:Bool}(h:zk k x y=some r)(d:Nat):
  (Op.equalIn (d+1) t xv yv).run P w= .ok r w:=by
 unfold pC at hk;split at hk
 ·rename_i q hu;cases hk;cases x<;>cases y<;>simp only[zk]at h<;>first|(cases h;done)|skip
  split at h
  ·rename_i oI;subst oI;cases h;cases hx;cases hy;rw[run_equalIn_int w d t _ _ _ _ hu];rfl
  ·cases h
 ·rename_i hu;cases hk;cases x<;>cases y<;>simp only[zk]at h<;>first|(cases h;done)|skip
  cases h;cases hx;cases hy;rename_i b1 h1 b2 h2;rw[run_equalIn_string w d t _ _ hu,Ng h1 h2]
 ·rename_i hu;cases hk;cases x<;>cases y<;>simp only[zk]at h<;>first|(cases h;done)|skip
  cases h;cases hx;cases hy;exact run_equalIn_bool d hu _ _
 ·cases hk
theorem ac8{t:TypeId}{k:KK}(h:pC P t=some k):(isAgg t).run P w= .ok false w:=by
 unfold pC at h;split at h
 ·rename_i hu;simp[isAgg,run_underlying hu]
 ·rename_i hu;simp[isAgg,run_underlying hu]
 ·rename_i hu;simp[isAgg,run_underlying hu]
 ·cases h
theorem Ib{t:TypeId}{k:KK}(h:pC P t=some k){cs:Array Value}{off:Nat}(ho:off<cs.size):(part t cs off).run P w= .ok cs[off] w:=by simp[part,ac8 h,Array.getElem?_eq_getElem ho]
theorem Qj(d:Nat){xs ys:Array Value}:∀(fs:List Field) (k:Nat) (ks:List KK) (l m:List AV) (r:Bool),EE P k fs=some ks->kq ks l m=some r→
  PW (VR g lb) l (xs.toList.drop k)->PW (VR g lb) m (ys.toList.drop k)->(Op.eqFields (d+1) xs ys fs).run P w= .ok r w
 |[],k,ks,l,m,r,hf,he,_,_=>by cases hf;cases l<;>cases m<;>simp[kq]at he;subst he;rfl
 |f::fs,k,ks,l,m,r,hf,he,hx,hy=>by
  simp only[EE]at hf;split at hf
  ·rename_i kk ks' h1 h2 h3;split at hf
   ·rename_i hc;obtain⟨aaf,rfl⟩:=hc;cases hf;obtain⟨x,y,l',m',r1,r2,rfl,rfl,e1,e2,rfl⟩:=JG he;have KR:f.offset<xs.size:=by have:=hx.1;simp at this;omega
    have KS:f.offset<ys.size:=by have:=hy.1;simp at this;omega
    have vx:=hx.2 0 (by simp) (by simp;omega);have vy:=hy.2 0 (by simp) (by simp;omega);simp only[mY,w_,um,mz]at vx vy;have fS:PW (VR g lb) l' (xs.toList.drop (f.offset+1)):=by have:=hx.drop 1;simpa[vr]using this
    have mj:PW (VR g lb) m' (ys.toList.drop (f.offset+1)):=by have:=hy.drop 1;simpa[vr]using this
    have ih:=Qj d fs (f.offset+1) ks' l' m' r2 h3 e2 fS mj;have zR:=Uz (P:=P) (w:=w) h1 vx vy e1 d;simp only[Op.eqFields];rw[if_pos aaf];simp only[Sem.run_bind,Ib h1 KR,Ib h1 KS,Result.andThen_ok,zR];cases r1
    ·rfl
    ·simp only[ah6,hS,if_false,uk];exact ih
   ·cases hf
  ·cases hf
theorem NV(d:Nat){e:TypeId}{k:KK}(hk:pC P e=some k){xs ys:Array Value}:∀(n i:Nat) (l m:List AV) (r:Bool),kq (rN n k) l m=some r→
  PW (VR g lb) l ((xs.toList.drop i).take n)->PW (VR g lb) m ((ys.toList.drop i).take n)→
  (forIn (m:=Sem) (List.range' i n) ((none,()):Option Bool×Unit) fun j _=>do
    if !(<-Op.equalIn (d+1) e (<-part e xs (j*1)) (<-part e ys (j*1)))then pure (ForInStep.done (some false,()))else pure (ForInStep.yield (none,()))).run P w=
   .ok (if r then(none,())else(some false,())) w
 |0,i,l,m,r,he,_,_=>by cases l<;>cases m<;>simp[kq]at he;subst he;rfl
 |n+1,i,l,m,r,he,hx,hy=>by
  rw[ah7]at he;obtain⟨x,y,l',m',r1,r2,rfl,rfl,e1,e2,rfl⟩:=JG he;have KR:i<xs.size:=by have:=hx.1;simp at this;omega
  have KS:i<ys.size:=by have:=hy.1;simp at this;omega
  have vx:=hx.2 0 (by simp) (by simp;omega);have vy:=hy.2 0 (by simp) (by simp;omega);simp only[mY,List.getElem_take,w_,um,mz]at vx vy;have fS:PW (VR g lb) l' ((xs.toList.drop (i+1)).take n):=by have:=hx.drop 1;simpa[ah8,vr]using this
  have mj:PW (VR g lb) m' ((ys.toList.drop (i+1)).take n):=by have:=hy.drop 1;simpa[ah8,vr]using this
  have ih:=NV d hk n (i+1) l' m' r2 e2 fS mj;have zR:=Uz (P:=P) (w:=w) hk vx vy e1 d;rw[List.range'_succ];simp only[List.forIn_cons,Sem.run_bind,Nat.mul_one,Ib hk KR,Ib hk KS,Result.andThen_ok,zR];cases r1
  ·rfl
  ·simp only[ah6,hS,if_false,uk,Sem.run_pure,Result.andThen_ok];simp only[Nat.mul_one]at ih;exact ih
theorem XT{t:TypeId}{ks:List KK}(hf:BO P t=some ks){l m:List AV}{xs ys:Array Value}{r:Bool}(hx:VR g lb (.agg l) (.agg xs))(hy:VR g lb (.agg m) (.agg ys))(he:kq ks l m=some r):
  P.eqGuardType P.depth t=false/\(Op.equalIn 10000 t (.agg xs) (.agg ys)).run P w= .ok r w:=by
 unfold BO at hf;split at hf
 ·cases hf
 ·rename_i pt;refine⟨by simpa using pt,?_⟩;have px:=(Ud hx).1;have py:=(Ud hy).1;split at hf
  ·rename_i fields hu;split at hf
   ·cases hf
   ·rename_i τ;have Rn:P.fieldsOf t=fields:=by simp[Program.fieldsOf,hu]
    rw[show(10000:Nat)=9998+1+1 from rfl,run_equalIn_struct w (9998+1) t xs ys (by rw[Rn];exact hu) (by simpa using τ),Rn];exact Qj 9998 fields.toList 0 ks l m r hf he (by simpa using px) (by simpa using py)
  ·rename_i n e hu;split at hf
   ·rename_i kk hk hs;cases hf;obtain⟨s1,-,-⟩:=oV (P:=P) (w:=w) hs;have hlx:l.length=n/\m.length=n:=by
     have:∀(n:Nat) (l m:List AV) (r:Bool),kq (rN n kk) l m=some r->l.length=n/\m.length=n:=by
      intro n;induction n with
      |zero=>intro l m r h;cases l<;>cases m<;>simp[kq]at h;exact⟨rfl,rfl⟩
      |succ n ih=>
       intro l m r h
       rw[ah7]at h;obtain⟨_,_,l',m',_,_,rfl,rfl,_,h2,_⟩:=JG h;have:=ih _ _ _ h2;exact⟨by simp[this.1],by simp[this.2]⟩
     exact this n l m r he
    have ha:=NV (P:=P) (w:=w) (xs:=xs) (ys:=ys) 9998 hk n 0 l m r he (by
     have:=px.1
     rw[ah9,dY (by omega)];exact px) (by
     have:=py.1;rw[ah9,dY (by omega)];exact py)
    rw[show(10000:Nat)=9998+1+1 from rfl,Op.equalIn];simp only[Sem.run_bind,run_underlying hu,Result.andThen_ok,s1];rw[Std.Legacy.Range.forIn_eq_forIn_range'];simp only[Std.Legacy.Range.size,Nat.sub_zero,Nat.add_sub_cancel,Nat.div_one];rw[ha];cases r<;>rfl
   ·cases hf
  ·cases hf
theorem HU(au:eW g lb ev a)(hm:bc g own LC mem w)(hl:cQ g lb own loc w)(ho:bZ base own w){op:BinOp}{t ty:TypeId}{x y:Operand}(Ψ:o.op= .binOp op t x y ty)
  {x' y':bp} (hx:cG x=some x') (hy:cG y=some y') {ks:List KK} (hf:BO P t=some ks) {neg:Bool} (hn:op=if neg then .neq else .eql)
  (hr:aF ev loc mem aH o.dst (.eqs neg ks x' y')=some (v,u,m')):eM P base LC g lb own loc w a o v u m':=by
 simp only[aF]at hr;split at hr
 ·rename_i l m e1 e2;simp only[bL,aL]at hr;obtain⟨r,hr,rfl,rfl,rfl⟩:=hr;have k1:=au _ _ hx;have k2:=au _ _ hy;rw[e1]at k1;rw[e2]at k2;cases bO:a.eval x<;>rw[bO]at k1<;>(try(cases k1;done));cases uY:a.eval y<;>rw[uY]at k2<;>(try(cases k2;done));obtain⟨h1,h2⟩:=XT (P:=P) (w:=w) hf k1 k2 hr;refine .pure (x:= .bool (if neg then !r else r)) hm hl ho ?_ (.bool _ _);cases neg<;>simp only[hS,if_false,if_true]at hn<;>subst hn
  ·simp only[execOp,Ψ,bO,uY,Sem.run_bind,run_eqGuard_agg w .eql t x y _ _ h1,Result.andThen_ok,run_eql_struct,h2];rfl
  ·simp only[execOp,Ψ,bO,uY,Sem.run_bind,run_eqGuard_agg w .neq t x y _ _ h1,Result.andThen_ok,run_neq_struct,h2];rfl
 ·cases hr
theorem aeg(au:eW g lb ev a)(hm:bc g own LC mem w)(hl:cQ g lb own loc w)(ho:bZ base own w){t:TypeId}{x y z:Operand}(Ψ:o.op= .insert t x y z)
  (hc:bH P bN o=some ao) (hr:aF ev loc mem aH o.dst ao=some (v,u,m')):eM P base LC g lb own loc w a o v u m':=by
 have e1:bH P bN {o with op:= .mapUpdate t x y z}=some ao:=by rw[<-hc];simp only[bH,Ψ]
 have e2:execOp a.eval o=execOp a.eval {o with op:= .mapUpdate t x y z}:=by simp only[execOp,Ψ]
 have:=TG (o:= {o with op:= .mapUpdate t x y z}) au hm hl ho rfl e1 hr;unfold eM at this⊢;rw[e2];exact this
theorem aeo(hm:bc g own LC mem w)(hl:cQ g lb own loc w)(ho:bZ base own w){t:TypeId}{r:Operand}(Ψ:o.op= .makeMap t (some r))
  (hc:bH P bN o=some ao) (hr:aF ev loc mem aH o.dst ao=some (v,u,m')):eM P base LC g lb own loc w a o v u m':=by
 cases r with
 |const c=>
  cases c with
  |int k n=>
   simp only[bH,Ψ]at hc
   split at hc
   ·rename_i kt et hu;cases hc;have e1:bH P bN {o with op:= .makeMap t none}=some .mkmap:=by simp only[bH]
    have e2:(execOp a.eval o).run P w=(execOp a.eval {o with op:= .makeMap t none}).run P w:=by simp only[execOp,Ψ,rR,Option.map_none,Instr.makeMap,Act.eval,Sem.run_bind,run_underlying hu,Result.andThen_ok,asInt,asIntOf,Sem.run_pure]
    have:=TI (a:=a) (o:= {o with op:= .makeMap t none}) hm hl ho rfl e1 hr;unfold eM at this⊢;rw[e2];exact this
   ·cases hc
  |_=>simp only[bH,Ψ]at hc;cases hc
 |_=>simp only[bH,Ψ]at hc;cases hc
theorem aev(au:eW g lb ev a)(hm:bc g own LC mem w)(hl:cQ g lb own loc w)(ho:bZ base own w)(hc:bH P bN o=some ao)(Cp:∀f args,ao≠ .call f args)
  (hr:aF ev loc mem aH o.dst ao=some (v,u,m')):eM P base LC g lb own loc w a o v u m':=by
 cases Ψ:o.op with
 |move x=>exact TJ au hm hl ho (.inl Ψ) hc hr
 |assign x=>exact TJ au hm hl ho (.inr Ψ) hc hr
 |pick c x y=>exact aes au hm hl ho Ψ hc hr
 |alloc e=>exact ad5 hm hl ho Ψ hc hr
 |box e x=>exact ad7 au hm hl ho Ψ hc hr
 |build t ps=>exact ad9 au hm hl ho Ψ hc hr
 |buildSlice t n ps=>exact ad8 au hm hl ho Ψ hc hr
 |load t x=>exact aei au hm hl ho Ψ hc hr
 |store t x y=>exact aew au hm hl ho Ψ hc hr
 |nilCheck x=>exact aeq au hm hl ho Ψ hc hr
 |unOp op t x=>exact aex au hm hl ho Ψ hc hr
 |convert s d x=>exact ad' au hm hl ho Ψ hc hr
 |makeInterface t x=>exact aen au hm hl ho Ψ hc hr
 |makeFunc f x y=>exact aem au hm hl ho Ψ hc hr
 |fieldAddr s x f=>exact aed au hm hl ho Ψ hc hr
 |field s x f=>exact aee au hm hl ho Ψ hc hr
 |indexAddr t x i=>exact aef au hm hl ho Ψ hc hr
 |index t x i=>exact aeh au hm hl ho Ψ hc hr
 |lookup t x i ok=>exact aek au hm hl ho Ψ hc hr
 |mapUpdate t x y z=>exact TG au hm hl ho Ψ hc hr
 |slice t x lo hi mx=>exact aeu au hm hl ho Ψ hc hr
 |extract x k=>exact aec au hm hl ho Ψ hc hr
 |range t x=>exact aet au hm hl ho Ψ hc hr
 |makeMap t r=>
  cases r with
  |none=>exact TI hm hl ho Ψ hc hr
  |some r=>exact aeo hm hl ho Ψ hc hr
 |insert t x y z=>exact aeg au hm hl ho Ψ hc hr
 |next x b=>
  cases b with
  |true=>exact aer au hm hl ho Ψ hc hr
  |false=>simp only[bH,Ψ]at hc;cases hc
 |binOp op t x y ty=>
  have vV:=hc
  simp only[bH,Ψ]at hc;split at hc
  ·rename_i h1 h2 h3;cases hc;exact TE au hm hl ho Ψ h2 h3 hr
  ·rename_i h1 h2 h3;cases hc;exact TE au hm hl ho Ψ h2 h3 hr
  ·rename_i h1 h2 h3;split at hc
   ·cases hc;exact TF au hm hl ho Ψ h2 h3 h1 (neg:=false) rfl hr
   ·cases hc;exact TF au hm hl ho Ψ h2 h3 h1 (neg:=true) rfl hr
   ·cases hc
  ·rename_i h1 h2 h3;split at hc
   ·rename_i hf;cases hc;exact HU au hm hl ho Ψ h2 h3 hf (neg:=false) rfl hr
   ·rename_i hf;cases hc;exact HU au hm hl ho Ψ h2 h3 hf (neg:=true) rfl hr
   ·cases hc
  ·rename_i h1 h2 h3;split at hc
   ·rename_i hf;cases hc;exact HU au hm hl ho Ψ h2 h3 hf (neg:=false) rfl hr
   ·rename_i hf;cases hc;exact HU au hm hl ho Ψ h2 h3 hf (neg:=true) rfl hr
   ·cases hc
  ·rename_i h1 h2 h3;exact C2 au hm hl ho Ψ h2 hc (fun v hv=>⟨⟨_,h1⟩,hv⟩) hr
  ·rename_i h1 h2 h3;exact C2 au hm hl ho Ψ h2 hc (fun v hv=>⟨⟨_,h1⟩,hv⟩) hr
  ·rename_i h1 h2 h3;exact C2 au hm hl ho Ψ h2 hc (fun v hv=>⟨⟨_,_,_,h1⟩,hv⟩) hr
  ·rename_i h1 h2 h3;exact C2 au hm hl ho Ψ h2 hc (fun v hv=>⟨⟨_,h1⟩,hv⟩) hr
  ·rename_i h1 h2 h3;exact C2 au hm hl ho Ψ h2 hc (fun v hv=>⟨⟨_,_,h1⟩,hv⟩) hr
  ·cases hc
 |makeSlice t x y=>exact aep au hm hl ho Ψ hc hr
 |call c=>
  cases hb:c.callee with
  |value f=>
   simp only[bH,Ψ,hb]at hc
   split at hc
   ·cases hc;exact absurd rfl (Cp _ _)
   ·cases hc
  |invoke r n=>simp only[bH,Ψ,hb]at hc;cases hc
  |builtin b=>
   cases b<;>first
    |exact ad6 au hm hl ho Ψ hb hc hr
    |exact aej au hm hl ho Ψ hb hc hr
    |exact aeb au hm hl ho Ψ hb hc hr
    |exact aea au hm hl ho Ψ hb hc hr
    |exact ad_ au hm hl ho Ψ hb hc hr
    |exact TH au hm hl ho Ψ (.inl hb) hc hr
    |exact TH au hm hl ho Ψ (.inr hb) hc hr
    |(simp only[bH,Ψ,hb]at hc;cases hc)
 |_=>simp only[bH,Ψ]at hc;cases hc
end
structure KM (m m':Mem):Prop where
 len:m.ε.length<=m'.ε.length
 η:∀id,id∈m.η->id∈m'.η
 cells:∀id l',m'.ε[id]?=some (.cells l')->id<m.ε.length->id∉m'.η->∀v∈l',(∃l,m.ε[id]?=some (.cells l)/\v∈l)\/lo id v=true
theorem KM.refl(m:Mem):KM m m:=⟨bQ _,fun _ h=>h,fun _ l' h _ _ _ hv=> .inl ⟨l',h,hv⟩⟩
theorem KM.trans{a b c:Mem}(h:KM a b)(k:KM b c):KM a c:= {
 len:=xh h.len k.len
 η id hid:=k.η id (h.η id hid)
 cells id l' hl hid oL v hv:=by
  rcases k.cells id l' hl (rP hid h.len) oL v hv with⟨l,h1,h2⟩|h1
  ·exact h.cells id l h1 hid (fun hn=>oL (k.η id hn)) v h2
  ·exact .inr h1}
theorem KM.push(m:Mem)(b:θ):KM m (m.push b):= {
 len:=by simp[Mem.push]
 η _ h:=h
 cells id l' hl hid _ v hv:=by simp only[Mem.push]at hl;rw[eg hid]at hl;exact .inl ⟨l',hl,hv⟩}
theorem KM.set{m:Mem}{i:Nat}{b:θ}(hb:∀l,b≠ .cells l)(t:Bool):KM m (m.put i b t):= {
 len:=by simp[Mem.put]
 η id h:=by simp only[Mem.put];split<;>simp[h]
 cells id l' hl _ _ v hv:=by
  simp only[Mem.put,vu]at hl;split at hl
  ·split at hl
   ·cases hl;exact absurd rfl (hb _)
   ·cases hl
  ·exact .inl ⟨l',hl,hv⟩}
def KC(c:cM):Prop:=∀fv args m r m',c fv args m=some (r,m')->KM m m'
theorem Np{lk mem p vs u m'}(h:wr lk mem p vs=some (u,m')):KM mem m':=by
 unfold wr at h;split at h
 ·split at h
  ·split at h
   ·simp only[bj,aL]at h;rw[<-h.2];exact KM.refl _
   ·cases h
  ·cases h
 ·split at h
  ·rename_i id off _ l hb;split at h
   ·simp only[bj,aL]at h;rw[<-h.2];refine⟨by simp[Mem.put],fun i hi=>by simp only[Mem.put];split<;>simp[hi],fun i l' hl hi oL v hv=>?_⟩;simp only[Mem.put,vu]at hl oL;split at hl
    ·rename_i xV;subst xV;split at hl
     ·simp only[bj,θ.cells.injEq]at hl;subst hl;have fB:bh id (vs.map mem.ρ)=true:=by
       cases hc:bh id (vs.map mem.ρ)with
       |true=>rfl
       |false=>rw[hc]at oL;simp at oL
      unfold fy at hv;rcases eL.1 hv with hv|hv
      ·rcases eL.1 hv with hv|hv
       ·exact .inl ⟨l,hb,oe hv⟩
       ·right;rw[mS,gz]at fB;exact fB v hv
      ·exact .inl ⟨l,hb,rL hv⟩
     ·omega
    ·exact .inl ⟨l',hl,hv⟩
   ·cases h
  ·cases h
 ·cases h
theorem Ts{lk mem qU dst l v u m'}(h:newVar lk mem qU dst l=some (v,u,m')):KM mem m':=by
 unfold newVar at h;split at h
 ·simp only[bj,aL]at h;rw[<-h.2.2];exact KM.push _ _
 ·split at h
  ·simp only[bj,aL]at h;rw[<-h.2.2];exact KM.refl _
  ·cases h
theorem Vk{mem ag sz bytes e x y v m'}(h:gL mem ag sz bytes e x y=some (v,m')):KM mem m':=by
 unfold gL at h;split at h
 ·split at h
  ·split at h
   ·simp only[bj,aL]at h;rw[<-h.2];exact KM.refl _
   ·simp only[bj,aL]at h;rw[<-h.2];exact KM.push _ _
   ·simp only[bj,aL]at h;rw[<-h.2];exact KM.push _ _
   ·split at h
    ·split at h
     ·simp only[bj,aL]at h;rw[<-h.2];exact KM.set (fun _ h=>by cases h) _
     ·cases h
    ·cases h
   ·cases h
  ·cases h
 ·cases h
theorem VF{ev lk mem dst o v u m'}{c:cM}(hc:KC c)(h:aF ev lk mem c dst o=some (v,u,m')):KM mem m':=by
 cases o<;>simp only[aF]at h
 case bad=>cases h
 case alloc=>exact Ts h
 case box=>
  split at h
  ·exact Ts h
  ·cases h
 case st=>
  split at h
  ·simp only[bL,aL,Prod.exists]at h;obtain⟨_,_,h1,_,_,rfl⟩:=h;exact Np h1
  ·cases h
 case mapup=>
  (repeat' split at h)<;>first|(cases h;done)|skip
  simp only[bL,aL]at h;obtain⟨_,_,_,_,rfl⟩:=h;exact KM.set (fun _ h=>by cases h) _
 case del=>
  (repeat' split at h)<;>first|(cases h;done)|skip
  simp only[bL,aL]at h;obtain⟨_,_,_,_,rfl⟩:=h;exact KM.set (fun _ h=>by cases h) _
 case abld=>simp only[bj,aL]at h;rw[<-h.2.2];exact KM.push _ _
 case mkmap=>simp only[bj,aL]at h;rw[<-h.2.2];exact KM.push _ _
 case mkslc=>
  (repeat' split at h)<;>first|(cases h;done)|skip
  simp only[bj,aL]at h;rw[<-h.2.2];exact KM.push _ _
 case cpy=>
  (repeat' split at h)<;>first|(cases h;done)|skip
  simp only[bL,aL,Prod.exists]at h;obtain⟨_,_,h1,_,_,rfl⟩:=h;exact Np h1
 case clr=>
  split at h
  ·simp only[bj,aL]at h;rw[<-h.2.2];exact KM.refl _
  ·split at h
   ·simp only[bj,aL]at h;rw[<-h.2.2];exact KM.refl _
   ·simp only[bL,aL,Prod.exists]at h;obtain⟨_,_,h1,_,_,rfl⟩:=h;exact Np h1
  ·cases h
 case call=>
  simp only[bL,aL,Prod.exists]at h
  obtain⟨_,_,h1,_,_,rfl⟩:=h;exact hc _ _ _ _ _ h1
 case app=>
  simp only[bL,aL,Prod.exists]at h
  obtain⟨_,_,h1,_,_,rfl⟩:=h;exact Vk h1
 all_goals
  (repeat' split at h)<;>first
   |(cases h;done)
   |(simp only[bj,aL]at h;obtain⟨_,_,rfl⟩:=h;exact KM.refl _)
   |(simp only[bL,aL]at h;obtain⟨_,_,_,_,rfl⟩:=h;exact KM.refl _)
   |(simp only[bL]at h;obtain⟨_,_,h⟩:=h;(repeat' split at h)<;>(simp only[aL]at h;obtain⟨_,_,rfl⟩:=h;exact KM.refl _))
theorem VM{gl o s s'}{c:cM}(hc:KC c)(h:eu gl c o s=some s'):KM s.mem s'.mem:=by
 unfold eu at h;split at h
 ·cases h
 ·split at h
  ·rename_i he;cases h;exact VF hc he
  ·cases h
 ·cases h;exact KM.refl _
theorem NR{gl l s s'}{c:cM}(hc:KC c)(h:eG gl c l s=some s'):KM s.mem s'.mem:=by
 induction l generalizing s with
 |nil=>cases h;exact KM.refl _
 |cons o l ih=>
  simp only[eG]at h
  split at h
  ·rename_i he;exact(VM hc he).trans (ih h)
  ·cases h
theorem IT{gl l s tr}{c:cM}(h:dL gl c l s=some tr):tr.length=l.length+1/\tr[0]?=some s/\tr.getLast?=eG gl c l s∧
  ∀i (hi:i<l.length),∃si UK,tr[i]?=some si/\tr[i+1]?=some UK/\eu gl c l[i] si=some UK:=by
 induction l generalizing s tr with
 |nil=>cases h;exact⟨rfl,rfl,rfl,fun i hi=>by simp at hi⟩
 |cons o l ih=>
  simp only[dL]at h
  split at h
  ·rename_i s' he;simp only[bL]at h;obtain⟨tr',h1,rfl⟩:=h;obtain⟨k1,k2,k3,k4⟩:=ih h1;refine⟨by simp[k1],rfl,?_,fun i hi=>?_⟩
   ·simp only[eG,he,<-k3];cases tr' with
    |nil=>simp at k1
    |cons a t=>simp
   ·cases i with
    |zero=>exact⟨s,s',rfl,by simpa using k2,he⟩
    |succ i=>simpa using k4 i (by simpa using hi)
  ·cases h
theorem Vq{gl l cf af s s'}{c:cM}(h:er gl c l cf af s=some s'):eG gl c l s=some s':=by
 unfold er at h;split at h
 ·rename_i tr Ai;split at h
  ·rw[<-(IT Ai).2.2.1];exact h
  ·cases h
 ·cases h
theorem UG{n:Nat}:∀(t:List Nat) (bs:List θ) (id:Nat),id∉t->(lT n t bs)[id]?=bs[id]?
 |[],_,_,_=>rfl
 |i::t,bs,id,h=>by
  simp only[dX,not_or]at h;simp only[lT];rw[UG t _ id h.2];split
  ·rw[List.getElem?_set_ne (fun e=>h.1 e.symm)]
  ·rfl
theorem UF{n:Nat}:∀(t:List Nat) (bs:List θ),(lT n t bs).length=bs.length
 |[],_=>rfl
 |i::t,bs=>by simp only[lT];rw[UF t];split<;>simp
theorem IV{m0 m:Mem}(h:m0.ε.length<=m.ε.length):(m0.back m).ε.length=m0.ε.length:=by simp only[Mem.back,UF,List.length_take];omega
theorem N0{m0 m:Mem}(hlen:m0.ε.length<=m.ε.length)
  (hc:∀id l',m.ε[id]?=some (.cells l')->id<m0.ε.length->id∉m.η->∀v∈l',(∃l,m0.ε[id]?=some (.cells l)/\v∈l)\/lo id v=true):KM m0 (m0.back m):= {
 len:=by rw[IV hlen];exact bQ _
 η id h:=by simp only[Mem.back];exact IG _ h
 cells id l' hl hid oL v hv:=by
  simp only[Mem.back]at hl oL;by_cases ht:id∈m.η
  ·have du:bh id l'=true:=by
    cases hc:bh id l' with
    |true=>rfl
    |false=>
     exfalso;apply oL
     refine xb _ (DA.2 ⟨ht,?_⟩);rw[hl];simp[θ.clean,hc]
   rw[mS,gz]at du;exact .inr (du v hv)
  ·rw[UG _ _ _ ht,A2]at hl;rw[if_pos hid]at hl;exact hc id l' hl hid ht v hv}
def II(lp:oX):Prop:=∀b:St->Option (Ex×St),(∀s e s',b s=some (e,s')->KM s.mem s'.mem)->∀s e s',lp b s=some (e,s')->KM s.mem s'.mem
theorem IQ(n:Nat):II (fG n):=by
 intro b hb s e s' h;induction n generalizing s with
 |zero=>simp[fG]at h
 |succ n ih=>
  simp only[fG]at h
  split at h
  ·rename_i he;exact(hb _ _ _ he).trans (ih _ h)
  ·exact hb _ _ _ h
theorem afb{d:Nat}{s s':St}(h:C8 d s=some s'):KM s.mem s'.mem:=by
 unfold C8 at h
 (repeat' split at h)<;>first|(cases h;done)|(cases h;exact KM.push _ _)
theorem Ua:∀{l:List Nat} {s s':St},AE l s=some s'->KM s.mem s'.mem
 |[],s,s',h=>by cases h;exact KM.refl _
 |d::l,s,s',h=>by
  simp only[AE]at h;split at h
  ·rename_i h1;exact(afb h1).trans (Ua h)
  ·cases h
theorem zr{gl}{c:cM}{lp:oX}(hc:KC c)(hl:II lp)(a:AC):∀s e s',exec gl c lp a s=some (e,s')->KM s.mem s'.mem:=by
 induction a with
 |skip=>intro s e s' h;cases h;exact KM.refl _
 |ops l=>
  intro s e s' h
  simp only[exec,bL,aL]at h;obtain⟨_,h1,_,rfl⟩:=h;exact NR hc h1
 |draw l cf af=>
  intro s e s' h
  simp only[exec,bL,aL]at h;obtain⟨_,h1,_,rfl⟩:=h;exact NR hc (Vq h1)
 |seq a b eZ gZ=>
  intro s e s' h
  simp only[exec]at h;split at h
  ·rename_i he;exact(eZ _ _ _ he).trans (gZ _ _ _ h)
  ·exact eZ _ _ _ h
 |cond x a b eZ gZ=>
  intro s e s' h
  simp only[exec]at h;split at h
  ·split at h
   ·exact eZ _ _ _ h
   ·exact gZ _ _ _ h
  ·cases h
 |block id a eZ=>
  intro s e s' h
  simp only[exec]at h;split at h
  ·rename_i he;split at h<;>(cases h;exact eZ _ _ _ he)
  ·exact eZ _ _ _ h
 |loop a eZ=>intro s e s' h;exact hl _ eZ _ _ _ h
 |exit id=>intro s e s' h;cases h;exact KM.refl _
 |ret=>intro s e s' h;cases h;exact KM.refl _
 |vd f ps fH body _ _=>
  intro s e s' h
  simp only[exec]at h;split at h
  ·rename_i r m iO;obtain⟨fv,_,iO⟩:=Option.bind_eq_some_iff.1 iO;have hk:=hc _ _ _ _ _ iO;have wg:KM s.mem (s.mem.back m):=by
    have hlen:=hk.len;simp only[List.length_append,dO,List.length_nil]at hlen;refine N0 (by omega) (fun id l' hl hid oL v hv=>?_);rcases hk.cells id l' hl (by simp;omega) oL v hv with⟨l,h1,h2⟩|h1
    ·rw[eg hid]at h1;exact .inl ⟨l,h1,h2⟩
    ·exact .inr h1
   split at h<;>first|(cases h;exact wg)|cases h
  ·cases h
 |C7 ds=>
  intro s e s' h
  simp only[exec,bL,aL]at h;obtain⟨_,h1,_,rfl⟩:=h;exact Ua h1
 |bad=>intro s e s' h;cases h
theorem AI(m:Mem)(l:Nat)(st:LS):KM m (m.iF l st):=by
 unfold Mem.iF;split
 ·exact KM.set (t:=true) (fun _ h=>by cases h)
 ·exact KM.refl _
theorem afz{gl}{c:cM}{lp:oX}(hc:KC c)(hl:II lp){l args mem r m'}(h:round (exec gl c lp) l args mem=some (r,m')):KM mem m':=by
 unfold round at h;split at h
 ·split at h
  ·split at h
   ·rename_i he;have h1:=zr hc hl _ _ _ _ he;split at h
    ·split at h
     ·rename_i kJ;have h2:=zr hc hl _ _ _ _ kJ;split at h
      ·cases h;exact h1.trans ((AI _ _ _).trans (h2.trans (AI _ _ _)))
      ·cases h
     ·rename_i kJ;have h2:=zr hc hl _ _ _ _ kJ;split at h
      ·cases h;exact h1.trans ((AI _ _ _).trans (h2.trans (AI _ _ _)))
      ·cases h
     ·rename_i kJ;have h2:=zr hc hl _ _ _ _ kJ;split at h
      ·cases h;exact h1.trans ((AI _ _ _).trans (h2.trans (AI _ _ _)))
      ·cases h
     ·cases h
    ·cases h
   ·cases h
  ·cases h
 ·cases h
theorem XM{g:AF}{k:Bool}{m0:Mem}{ex:Ex}{s:St}{r m'}(h:fin g k m0 (some (ex,s))=some (r,m'))(hk:KM {ε:=m0.ε,η:=[]} s.mem):KM m0 m':=by
 have key:∀r m',(match bf s g.results with
   |some l=>if k then some (exp s.mem.ε.length true (ba l),({ε:=s.mem.ε,η:=m0.η++s.mem.η}:Mem))
    else some (ax s.mem.ε m0.ε.length 8 (ba l),m0.back s.mem)
   |none=>none)=some (r,m')->KM m0 m':=by
  intro r m' h;split at h
  ·split at h
   ·simp only[bj,aL]at h;rw[<-h.2];exact⟨hk.len,fun id hid=>IG _ hid,fun id l' hl hid oL v hv=>hk.cells id l' hl hid (fun hn=>oL (xb _ hn)) v hv⟩
   ·simp only[bj,aL]at h;rw[<-h.2];exact N0 hk.len (fun id l' hl hid oL v hv=>hk.cells id l' hl hid oL v hv)
  ·cases h
 cases ex with
 |exit id=>simp[fin]at h
 |normal=>exact key r m' h
 |ret=>exact key r m' h
theorem PU(C:iT)(hp:∀f p,C.jG f=some p->∀args m r m',p args m=some (r,m')->KM m m')(n:Nat):KC (cv C n):=by
 induction n with
 |zero=>intro fv args m r m' h;simp[cv]at h
 |succ n ih=>
  intro fv args m r m' h
  simp only[cv,body]at h;split at h
  ·split at h
   ·rename_i p Cx;exact hp _ _ Cx _ _ _ _ h
   ·split at h
    ·rename_i g hg;generalize he:exec C.gl (cv C n) (fG n) g.code _=x at h;cases x with
     |none=>simp[fin]at h
     |some x=>
      obtain⟨ex,s⟩:=x
      exact XM h (zr ih (IQ n) _ _ _ _ he)
    ·cases h
  ·exact afz ih (IQ n) h
  ·cases h
section
variable(P:Program)(bN:Nat->Bool)(N:Nat)
def I9(ops:Array Oper):Option (Nat×Bool)->Option (Option (Nat×Bool))
 |none=>some none
 |some (j,want)=>match(ops[j]?).bind (·.dst)with
  |some d=>if d<N then some (some (d,want))else none
  |none=>none
def Jr:Option Nat->Bool
 |none=>true
 |some d=>decide (d<N)
def D4(ops:Array Oper)(o:Oper):Option aR:=match I9 N ops o.guard with
 |some gd=>if Jr N o.dst then some {dst:=o.dst,op:=PL P bN o,guard:=gd}else none
 |none=>none
def tz(ops:Array Oper):List Oper->Option (List aR)
 |[]=>some []
 |o::l=>match D4 P bN N ops o,tz ops l with
  |some x,some m=>some (x::m)
  |_,_=>none
end
def mX(g:Gh)(gl:Nat->AV):Prop:=∀n,VR g cd (gl n) (.pointer (some ⟨n,0,none⟩))
def yB(r:Nat):Deferred:= {target:= .collected r,args:= #[]}
def Marks(db:Nat)(own:OW)(w:World)(ds:List Deferred):Prop:=
 db<=w.heap.size/\∃ms:List Nat,ms.Nodup/\ds=ms.map yB/\∀r∈ms,db<=r/\r<w.heap.size/\own r=none/\w.heap[r]?=some (.deferred (some []))
theorem Marks.nil{db:Nat}{own:OW}{w:World}(h:db<=w.heap.size):Marks db own w []:=⟨h,[],List.nodup_nil,rfl,fun r hr=>by cases hr⟩
theorem Marks.bD{db:Nat}{g g':Gh}{own aK:OW}{w w':World}{ds:List Deferred}(h:Marks db own w ds)(hs:ep g own w g' aK w'):Marks db aK w' ds:=by obtain⟨h0,ms,h1,h2,h3⟩:=h;refine⟨xh h0 hs.size,ms,h1,h2,fun r hr=>?_⟩;obtain⟨k1,k2,k3,k4⟩:=h3 r hr;exact⟨k1,rP k2 hs.size,hs.kg r k2 k3,(hs.bD r k2 k3).trans k4⟩
structure SR (gl:Nat->AV) (base N:Nat) (LC:eX) (db:Nat) (g:Gh) (lb:LB) (own:OW) (s:St) (a:Act) (w:World):Prop where
 env:∀t,VR g lb (bq s.env t) (a.tmps.getD t undef)
 gl:mX g gl
 size:N<=a.tmps.size
 defers:Marks db own w a.defers
 mem:bc g own LC s.mem w
 loc:cQ g lb own (bT s.loc) w
 own:bZ base own w
def ez(own:OW):OW:=fun b=>match own b with
 |some (.m id)=>some (.m id)
 |_=>none
def AX(F:Fence)(n:Nat)(P:Program)(fx:Value)(bU:Array Value)(w:World)(R:Value->World->Prop):Prop:=
 (∃(f:FuncId) (as:Array Value),(do let d<-Deferred.ofValue fx bU;invoke d.target d.args:Sem Next).run P w= .ok (.enter f as) w/\CallsIn F n P f as w fun e w'=>∃x,e= .returned x/\R x w')∨
 (∃x w',(do let d<-Deferred.ofValue fx bU;invoke d.target d.args:Sem Next).run P w= .ok (.value x) w'/\R x w')∨
 (∃(l:Nat) (f:FuncId) (tmps:Array Value) (assign body:Code),(do let d<-Deferred.ofValue fx bU;invoke d.target d.args:Sem Next).run P w= .ok (.round l f tmps assign body) w∧
  RoundIn F n P l f tmps assign body w fun e w'=>∃x,e= .returned x/\R x w')
def od(base:Nat)(LC:eX)(gl:Nat->AV)(g:Gh)(own:OW)(w:World)(r:AV)(m':Mem)(x:Value)(w':World):Prop:=
 ∃(g':Gh) (aK:OW),ep g (ez own) w g' aK w'/\bc g' aK LC m' w'/\VR g' cd r x/\bZ base aK w'/\(∀b d,aK b≠some (.l d))/\mX g' gl
def nJ(F:Fence)(P:Program)(base:Nat)(LC:eX)(gl:Nat->AV)(aH:cM):Prop:=
 ∀(n:Nat) (g:Gh) (lb:LB) (own:OW) (mem:Mem) (w:World) (fv:AV) (args:List AV) (r:AV) (m':Mem) (fx:Value) (bU:Array Value),
  bc g own LC mem w->bZ base own w->mX g gl->VR g lb fv fx->PW (VR g lb) args bU.toList->aH fv args mem=some (r,m')→
  AX F n P fx bU w (od base LC gl g own w r m')
section
variable{F:Fence}{n:Nat}{P:Program}{bN:Nat->Bool}{N:Nat}{gl:Nat->AV}{base:Nat}{LC:eX}{db:Nat}{g:Gh}{lb:LB}{own:OW}{s s':St}{a:Act}{w:World}{aH:cM}
variable{ops:Array Oper}{Q:Exit->Act->World->Prop}
theorem mX.mono{g':Gh}(h:mX g gl)(hs:g.sub g'):mX g' gl:=fun n=>(h n).sub hs
theorem SR.ev(h:SR gl base N LC db g lb own s a w):eW g lb (d_ gl s.env) a:=by
 intro x x' hx;cases x with
 |tmp t=>cases hx;exact h.env t
 |const v=>
  simp only[cG,bL]at hx
  obtain⟨av,Kj,rfl⟩:=hx;exact IP Kj
 |global i=>
  cases hx
  exact(h.gl i).mono g.eP fun _ _ _ h=>by cases h
 |func f=>
  cases hx
  exact .fn _ _ _ _ _ _ _ rfl rfl rfl (fun i hi=>by simp at hi) (fun i hi=>by simp at hi)
theorem Yb(a:Act)(dst:Option Nat)(v:Value)(hd:∀d,dst=some d->d<a.tmps.size)(t:Nat):
  (a.put dst v).tmps.getD t undef=if dst=some t then v else a.tmps.getD t undef:=by
 cases dst with
 |none=>simp[Act.put]
 |some d=>
  have:=hd d rfl
  simp only[Act.put,rI,Array.getElem?_setIfInBounds,bj];by_cases h:d=t
  ·subst h;simp[this]
  ·simp[h]
theorem uz(env:List AV)(dst:Option Nat)(v:AV)(t:Nat):bq (fQ env dst v) t=if dst=some t then v else bq env t:=by
 cases dst with
 |none=>simp[fQ]
 |some d=>simp[fQ,gN]
theorem afh(a:Act)(dst:Option Nat)(v:Value):(a.put dst v).tmps.size=a.tmps.size:=by cases dst<;>simp[Act.put]
theorem afe(a:Act)(dst:Option Nat)(v:Value):(a.put dst v).defers=a.defers:=by cases dst<;>rfl
theorem SR.after(h:SR gl base N LC db g lb own s a w){dst:Option Nat}(hd:Jr N dst=true){v:AV}{u:lA}{m':Mem}{x:Value}{w':World}(hp:iW base LC g lb own (bT s.loc) w v u m' x w'):
  ∃g' lb' aK,ep g own w g' aK w'/\SR gl base N LC db g' lb' aK {env:=fQ s.env dst v,loc:=fe s.loc u,mem:=m'} (a.put dst x) w':=by
 obtain⟨g',lb',aK,h1,h2,h3,h4,h5,h6⟩:=hp;have jA:∀d,dst=some d->d<a.tmps.size:=by
  rintro d rfl
  simp only[Jr,decide_eq_true_eq]at hd;exact rP hd h.size
 refine⟨g',lb',aK,h1,fun t=>?_,h.gl.mono h1.sub,by rw[afh];exact h.size,by rw[afe];exact h.defers.bD h1,h4,by rw[Mg];exact h5,h6⟩;rw[Yb a dst x jA,uz];split
 ·exact h3
 ·exact(h.env t).mono h1.sub h2
theorem U3(h:SR gl base N LC db g lb own s a w){o:Oper}{gd:Option (Nat×Bool)}(hg:I9 N ops o.guard=some gd){b:Bool}(hw:fz s.env gd=some b):
  Region.wanted o (yielded ops a.tmps)=b:=by
 unfold Region.wanted;cases pt:o.guard with
 |none=>
  rw[pt]at hg;cases hg
  cases hw;rfl
 |some jw=>
  obtain⟨j,want⟩:=jw
  rw[pt]at hg;simp only[I9]at hg;split at hg
  ·rename_i d hd;split at hg
   ·rename_i Zb;cases hg;simp only[fz]at hw;have ν:d<a.tmps.size:=rP Zb h.size;have hv:=h.env d;have z7:a.tmps[d]?=some (a.tmps.getD d undef):=by simp[rI,ν]
    simp only[yielded,hd,Option.bind_some,z7];generalize a.tmps.getD d undef=x at hv;split at hw
    ·rename_i b' he;rw[he]at hv;cases hv;cases hw;rfl
    ·rename_i he;rw[he]at hv;cases hv;cases hw;rfl
    ·cases hw
   ·cases hg
  ·cases hg
theorem tV{b:Nat}{o:Own}(h:ez own b=some o):own b=some o/\∃id,o= .m id:=by
 unfold ez at h;split at h
 ·rename_i id he;cases h;exact⟨he,id,rfl⟩
 ·cases h
theorem D6(hs:SR gl base N LC db g lb own s a w){r:AV}{m':Mem}{x:Value}{w':World}(h:od base LC gl g own w r m' x w'):iW base LC g lb own (bT s.loc) w r none m' x w':=by
 obtain⟨g',aK,h1,h2,h3,h4,h5,h6⟩:=h;let tT:OW:=fun b=>match own b with
  |some (.l d)=>some (.l d)
  |_=>aK b
 have hl:∀b d,own b=some (.l d)->b<w.heap.size/\ez own b=none:=fun b d hb=>⟨(hs.own.ge b _ hb).2,by simp[ez,hb]⟩;have aaq:∀b id,aK b=some (.m id)->tT b=aK b:=by
  intro b id hb;simp only[tT];split
  ·rename_i d hd;obtain⟨k1,k2⟩:=hl b d hd;rw[h1.kg b k1 k2]at hb;cases hb
  ·rfl
 have Cq:∀b,own b=none->ez own b=none:=fun b hb=>by simp[ez,hb]
 refine⟨g',lb,tT,⟨h1.sub,h1.size,h1.os,h1.tape,h1.output,fun b hb ho=>h1.bD b hb (Cq b ho),fun b hb ho=>?_,fun b hb ho=>h1.im b hb (Cq b ho)⟩,fun _ _ _ h=>h,
  h3.mono g'.eP (fun _ _ _ h=>by cases h),?_,?_,⟨fun b o hb=>?_,h4.base⟩⟩
 ·simp only[tT,ho];exact h1.kg b hb (Cq b ho)
 ·exact h2.bD g'.eP (fun _ h=>h) (fun _ _ h=>h) (fun id b hb=>⟨aaq b id hb,rfl,fun _=>rfl⟩) h2.im
 ·exact hs.loc.bD h1.sub fun d b hb=>by obtain⟨k1,k2⟩:=hl b d hb;exact⟨by simp[tT,hb],h1.bD b k1 k2,h1.im b k1 k2⟩
 ·simp only[tT]at hb;split at hb
  ·rename_i d hd;have:=hs.own.ge b _ hd;exact⟨this.1,rP this.2 h1.size⟩
  ·exact h4.ge b o hb
theorem WV{o:Oper}(h:bH P bN o≠none):∀c,o.op≠ .defer c:=by intro c hc;apply h;simp only[bH,hc]
theorem WU{o:Oper}{f':bp}{y_:List bp}(ed:bH P bN o=some (.call f' y_)):
  ∃c f,o.op= .call c/\c.callee= .value f/\cG f=some f'/\vC c.args.toList=some y_:=by
 have hm:∀{α:Type} {x:Option α} {h:α->AO},x.map h=some (.call f' y_)->(∀y,h y≠ .call f' y_)->False:=fun hx hn=>by simp only[bL]at hx;obtain⟨y,_,hy⟩:=hx;exact hn y hy
 cases Ψ:o.op with
 |call c=>
  simp only[bH,Ψ]at ed
  cases pX:c.callee with
  |value f=>
   rw[pX]at ed
   dsimp only at ed;split at ed
   ·rename_i h1 h2;cases ed;exact⟨c,f,rfl,pX,h1,h2⟩
   ·cases ed
  |invoke r n=>rw[pX]at ed;cases ed
  |builtin b=>
   exfalso
   rw[pX]at ed;cases b<;>dsimp only at ed<;>(try(cases ed;done))<;>(repeat' split at ed)<;>first|(cases ed;done)|exact hm ed (fun _ h=>by cases h)
 |makeFunc fn x y=>
  exfalso
  cases fn<;>simp only[bH,Ψ]at ed<;>(repeat' split at ed)<;>cases ed
 |makeMap t r=>
  exfalso
  cases r with
  |none=>simp only[bH,Ψ]at ed;cases ed
  |some r=>
   cases r with
   |const c=>
    cases c with
    |int k n=>
     simp only[bH,Ψ]at ed
     (repeat' split at ed)<;>cases ed
    |_=>simp only[bH,Ψ]at ed;cases ed
   |_=>simp only[bH,Ψ]at ed;cases ed
 |next x b=>exfalso;cases b<;>simp only[bH,Ψ]at ed<;>first|(cases ed;done)|exact hm ed (fun _ h=>by cases h)
 |binOp op t x y ty=>
  exfalso
  have hn:∀k x' y',ur k op x' y'≠some (.call f' y_):=fun k x' y' h=>by
   unfold ur at h
   (repeat' split at h)<;>cases h
  simp only[bH,Ψ]at ed
  (repeat' split at ed)<;>first|(cases ed;done)|exact hn _ _ _ ed
 |_=>
  exfalso
  simp only[bH,Ψ]at ed
  (repeat' split at ed)<;>first|(cases ed;done)|exact hm ed (fun _ h=>by cases h)
theorem UM(hF:∀f,F.fn f)(hd:F.depth=none)(iO:nJ F P base LC gl aH){i:Nat}{o:Oper}{o':aR}(hi:ops[i]?=some o)(hc:D4 P bN N ops o=some o')
  (hs:SR gl base N LC db g lb own s a w) (τ:eu gl aH o' s=some s') {K:Act->World->Prop}
  (hK:∀g' lb' aK a' w',ep g own w g' aK w'->SR gl base N LC db g' lb' aK s' a' w'->K a' w'):wpOpIn F n P ops Q i K a w:=by
 unfold D4 at hc;split at hc
 ·rename_i gd pt;split at hc
  ·rename_i Cb;cases hc;unfold eu at τ;unfold wpOpIn;simp only[hi];split at τ
   ·cases τ
   ·rename_i hw;have tN:=U3 hs pt hw;simp only[tN,if_true];refine⟨fun f _=>hF f,?_⟩;split at τ
    ·rename_i v u m' he;cases τ;dsimp only at he;unfold PL at he;cases ed:bH P bN o with
     |none=>rw[ed]at he;simp[aF]at he
     |some ao=>
      rw[ed]at he
      simp only[Option.getD_some]at he;have aaB:Oper.semAt F.round a.eval o=execOp a.eval o:=Oper.semAt_eq _ _ _ (WV (by rw[ed];simp));rw[aaB];by_cases du:∃f args,ao= .call f args
      ·obtain⟨f',y_,rfl⟩:=du;simp only[aF,bL,aL,Prod.exists]at he;obtain⟨r,m1,he,rfl,rfl,rfl⟩:=he;have key:=WU ed;obtain⟨c,f,Ψ,pX,hf,jz⟩:=key;have dc:=Ew hs.ev jz;have B9:=iO (n-1) g lb own s.mem w _ _ _ _ (a.eval f) (c.args.map a.eval) hs.mem hs.own hs.gl (hs.ev _ _ hf) (by simpa using dc) he;have Zi:execOp a.eval o=(do let d<-Deferred.ofValue (a.eval f) (c.args.map a.eval);invoke d.target d.args:Sem Next):=by simp only[execOp,Ψ,resolve,pX]
       rw[Zi];rcases B9 with⟨nR,as,h1,h2⟩|⟨x,w',h1,h2⟩|⟨l,nR,tmps,fH,zd,h1,h2⟩
       ·rw[h1,Oper.uponIn_enter];refine⟨fun h=>(by rw[hd]at h;cases h),h2.mono fun e w' he=>?_⟩;obtain⟨x,rfl,hR⟩:=he;obtain⟨g',lb',aK,k1,k2⟩:=hs.after Cb (D6 hs hR);exact hK _ _ _ _ _ k1 k2
       ·rw[h1,Oper.uponIn_value];obtain⟨g',lb',aK,k1,k2⟩:=hs.after Cb (D6 hs h2);exact hK _ _ _ _ _ k1 k2
       ·rw[h1,Oper.uponIn_round];refine⟨fun h=>(by rw[hd]at h;cases h),h2.mono fun e w' he=>?_⟩;obtain⟨x,rfl,hR⟩:=he;obtain⟨g',lb',aK,k1,k2⟩:=hs.after Cb (D6 hs hR);exact hK _ _ _ _ _ k1 k2
      ·obtain⟨x,w',h1,h2⟩:=aev hs.ev hs.mem hs.loc hs.own ed (fun f args h=>du ⟨f,args,h⟩) he;obtain⟨g',lb',aK,k1,k2⟩:=hs.after Cb h2;rcases h1 with h1|⟨h1,rfl⟩
       ·rw[h1,Oper.uponIn_value];exact hK _ _ _ _ _ k1 k2
       ·rw[h1,Oper.uponIn_skip];exact hK _ _ _ _ _ k1 k2
    ·cases τ
   ·rename_i hw;have tN:=U3 hs pt hw;cases τ;simp only[tN,hS,if_false];refine⟨fun f _=>hF f,?_⟩;obtain⟨g',lb',aK,k1,k2⟩:=hs.after Cb (iW.pure (x:=undef) hs.mem hs.loc hs.own (.undef lb));exact hK _ _ _ _ _ k1 k2
  ·cases hc
 ·cases hc
end
def AO.rr:AO->List bp
 | .bad=>[]
 | .mv x=>[x]
 | .pick c a b=>[c,a,b]
 | .alloc _ _=>[]
 | .abld _ _=>[]
 | .box _ _ x=>[x]
 | .build _ parts=>parts.map (·.2.2)
 | .bV _ _ xs=>xs
 | .ld _ _ a=>[a]
 | .st _ a x=>[a,x]
 | .nE x=>[x]
 | .bin _ x y=>[x,y]
 | .eqs _ _ x y=>[x,y]
 | .BJ _ x y=>[x,y]
 | .Hk _ _ x=>[x]
 | .un _ x=>[x]
 | .conv _ x=>[x]
 | .Mp _ x=>[x]
 | .jq _ a b=>a++b
 | .fa _ x=>[x]
 | .kH _ _ _ x=>[x]
 | .ia _ x i=>[x,i]
 | .ri _ _ x i=>[x,i]
 | .Ar _ _ _ x i=>[x,i]
 | .kO x i=>[x,i]
 | .lookup _ _ _ m k=>[m,k]
 | .mapup _ m k v=>[m,k,v]
 | .mkmap=>[]
 | .AM _ x lo hi mx=>x::(lo.toList++hi.toList++mx.toList)
 | .rE x lo hi=>x::(lo.toList++hi.toList)
 | .ext x _=>[x]
 | .call f args=>f::args
 | .app _ _ _ _ x y=>[x,y]
 | .len x=>[x]
 | .lens x=>[x]
 | .CS x=>[x]
 | .Mf _=>[]
 | .mkslc _ _ _ n c=>[n,c]
 | .cpy _ x y=>[x,y]
 | .clr _ x=>[x]
 | .del _ m k=>[m,k]
 | .max x y=>[x,y]
 | .min x y=>[x,y]
 | .qB x=>[x]
 | .yH x=>[x]
def bp.UT:bp->Option Nat
 | .t n=>some n
 |_=>none
def aR.Ir(o:aR):List Nat:=o.op.rr.filterMap bp.UT++o.guard.toList.map (·.1)
theorem Bg{ev ev':bp->AV}{top:Nat}{x:Option bp}{d:Nat}(h:∀y∈x.toList,ev y=ev' y):bound ev top x d=bound ev' top x d:=by
 cases x with
 |none=>rfl
 |some y=>simp only[bound,h y (by simp)]
theorem XL{ev ev':bp->AV}{l:List (Nat×Nat×bp)}{cs:List AV}(h:∀y∈l.map (·.2.2),ev y=ev' y):cX ev l cs=cX ev' l cs:=by
 induction l generalizing cs with
 |nil=>rfl
 |cons p l ih=>
  obtain⟨off,size,x⟩:=p
  simp only[List.map_cons,dX,forall_eq_or_imp]at h;simp only[cX,h.1];split
  ·exact ih h.2
  ·rfl
theorem VG{ev ev':bp->AV}{lk mem aH dst}{o:AO}(h:∀x∈o.rr,ev x=ev' x):aF ev lk mem aH dst o=aF ev' lk mem aH dst o:=by
 cases o with
 |build z parts=>simp only[aF,XL (ev:=ev) (ev':=ev') h]
 |bV ag sz xs=>
  have h1:(xs.all fun x=>shaped ag sz (ev x))=xs.all fun x=>shaped ag sz (ev' x):=by rw[Bool.eq_iff_iff];simp only[gz];exact forall_congr' fun x=>forall_congr' fun hx=>by rw[h x hx]
  have h2:(xs.map fun x=>mem.ρ (ev x))=xs.map fun x=>mem.ρ (ev' x):=dz fun x hx=>by rw[h x hx]
  simp only[aF,h1,h2]
 |jq f a b=>
  have h1:a.map ev=a.map ev':=dz fun x hx=>h x (IG _ hx)
  have h2:b.map ev=b.map ev':=dz fun x hx=>h x (xb _ hx);simp only[aF,h1,h2]
 |call f args=>
  have h1:args.map ev=args.map ev':=dz fun x hx=>h x (A6 _ hx)
  have h2:=h f (by simp[AO.rr]);simp only[aF,h1,h2]
 |AM sz x lo hi mx=>
  have h2:=h x (by simp[AO.rr])
  have h3:=fun top d=>Bg (top:=top) (d:=d) (x:=lo) (ev:=ev) (ev':=ev') fun y hy=>h y (by simp only[AO.rr,dX,eL];exact .inr (.inl (.inl hy)));have h4:=fun top d=>Bg (top:=top) (d:=d) (x:=hi) (ev:=ev) (ev':=ev') fun y hy=>h y (by simp only[AO.rr,dX,eL];exact .inr (.inl (.inr hy)));have h5:=fun top d=>Bg (top:=top) (d:=d) (x:=mx) (ev:=ev) (ev':=ev') fun y hy=>h y (by simp only[AO.rr,dX,eL];exact .inr (.inr hy));simp only[aF,h2,h3,h4,h5]
 |rE x lo hi=>
  have h2:=h x (by simp[AO.rr])
  have h3:=fun top d=>Bg (top:=top) (d:=d) (x:=lo) (ev:=ev) (ev':=ev') fun y hy=>h y (by simp only[AO.rr,dX,eL];exact .inr (.inl hy));have h4:=fun top d=>Bg (top:=top) (d:=d) (x:=hi) (ev:=ev) (ev':=ev') fun y hy=>h y (by simp only[AO.rr,dX,eL];exact .inr (.inr hy));simp only[aF,h2,h3,h4]
 |_=>
  simp only[AO.rr,dX,List.not_mem_nil,or_false,forall_eq_or_imp,forall_eq,false_imp_iff,implies_true]at h
  simp only[aF,h]
inductive tc
 |quiet
 |load
 |new (d:Nat)
 |call
 |mM (st:Bool)
 deriving DecidableEq
def aR.cls(o:aR):tc:=
 match o.op with
 | .alloc false _| .box false _ _| .qB _=>match o.dst with
  |some d=> .new d
  |none=> .mM false
 | .ld _ _ _=> .load
 | .call _ _| .app _ _ _ _ _ _| .alloc true _| .box true _ _| .abld _ _=> .call
 | .st _ _ _=> .mM true
 | .bad| .lookup _ _ _ _ _| .CS _| .mapup _ _ _ _| .del _ _ _| .mkmap| .mkslc _ _ _ _ _| .cpy _ _ _| .clr _ _| .yH _=> .mM false
 |_=> .quiet
inductive uo
 |env (t:Nat)
 |loc (d:Nat)
 |mem
 deriving DecidableEq
def agree:uo->St->St->Prop
 | .env t,s,s'=>bq s.env t=bq s'.env t
 | .loc d,s,s'=>bT s.loc d=bT s'.loc d
 | .mem,s,s'=>s.mem=s'.mem
theorem xk(r:uo)(s:St):agree r s s:=by cases r<;>rfl
theorem NL{r:uo}{s s':St}(h:agree r s s'):agree r s' s:=by cases r<;>exact Eq.symm h
theorem A_{r:uo}{s s' UB:St}(h:agree r s s')(k:agree r s' UB):agree r s UB:=by cases r<;>exact Eq.trans h k
def gK(o:aR):uo->Prop
 | .env t=>o.dst=some t
 | .loc d=>o.cls= .new d\/∃b,o.cls= .mM b
 | .mem=>o.cls= .call\/∃b,o.cls= .mM b
def M0(o:aR):uo->Prop
 | .env t=>t∈o.Ir
 | .loc d=>o.cls= .new d\/∃b,o.cls= .mM b
 | .mem=>o.cls= .call\/∃b,o.cls= .mM b
theorem afp{o:aR}(hc:o.cls= .quiet){ev:bp->AV}{lk mem aH v u m}(h:aF ev lk mem aH o.dst o.op=some (v,u,m)):
  u=none/\m=mem/\∀n9 wJ,aF ev n9 wJ aH o.dst o.op=some (v,none,wJ):=by
 obtain⟨dst,op,gd⟩:=o;cases op with
 |alloc g z=>cases g<;>cases dst<;>simp[aR.cls]at hc
 |box g n x=>cases g<;>cases dst<;>simp[aR.cls]at hc
 |qB x=>cases dst<;>simp[aR.cls]at hc
 |bad=>simp[aR.cls]at hc
 |ld=>simp[aR.cls]at hc
 |st=>simp[aR.cls]at hc
 |call=>simp[aR.cls]at hc
 |app=>simp[aR.cls]at hc
 |abld=>simp[aR.cls]at hc
 |lookup=>simp[aR.cls]at hc
 |CS=>simp[aR.cls]at hc
 |mapup=>simp[aR.cls]at hc
 |del=>simp[aR.cls]at hc
 |mkmap=>simp[aR.cls]at hc
 |yH=>simp[aR.cls]at hc
 |mkslc=>simp[aR.cls]at hc
 |cpy=>simp[aR.cls]at hc
 |clr=>simp[aR.cls]at hc
 |max x y=>
  simp only[aF]at h⊢
  split at h
  ·rename_i h1 h2;split at h
   ·rename_i h3;simp only[aL,bj]at h;obtain⟨rfl,rfl,rfl⟩:=h;refine⟨rfl,rfl,fun _ _=>?_⟩;rw[if_pos h3]
   ·cases h
  ·cases h
 |min x y=>
  simp only[aF]at h⊢
  split at h
  ·rename_i h1 h2;split at h
   ·rename_i h3;simp only[aL,bj]at h;obtain⟨rfl,rfl,rfl⟩:=h;refine⟨rfl,rfl,fun _ _=>?_⟩;rw[if_pos h3]
   ·cases h
  ·cases h
 |bV ag sz xs=>
  simp only[aF]at h⊢
  split at h
  ·rename_i hx;simp only[bj,aL]at h;obtain⟨rfl,rfl,rfl⟩:=h;refine⟨rfl,rfl,fun _ _=>?_⟩;rw[if_pos hx];rfl
  ·cases h
 |_=>
  simp only[aF]at h⊢
  repeat' split at h
  all_goals first|(cases h;done)|skip
  all_goals(try simp only[bL,aL,bj]at h)
  all_goals first
   |(obtain⟨rfl,rfl,rfl⟩:=h;refine⟨rfl,rfl,fun _ _=>?_⟩;simp_all;done)
   |(obtain⟨x,hx,rfl,rfl,rfl⟩:=h;refine⟨rfl,rfl,fun _ _=>?_⟩;simp_all;done)
   |skip
theorem WD{o:aR}(hc:o.cls= .call){ev:bp->AV}{lk mem aH v u m}(h:aF ev lk mem aH o.dst o.op=some (v,u,m)):
  u=none/\∀n9,aF ev n9 mem aH o.dst o.op=some (v,none,m):=by
 obtain⟨dst,op,gd⟩:=o;cases op with
 |alloc g z=>
  cases g with
  |false=>cases dst<;>simp[aR.cls]at hc
  |true=>
   simp only[aF,newVar,if_true,bj,aL]at h⊢
   obtain⟨rfl,rfl,rfl⟩:=h;exact⟨rfl,fun _=>by simp⟩
 |box g n x=>
  cases g with
  |false=>cases dst<;>simp[aR.cls]at hc
  |true=>
   simp only[aF,newVar,if_true]at h⊢
   split at h
   ·rename_i hn;simp only[bj,aL]at h;obtain⟨rfl,rfl,rfl⟩:=h;exact⟨rfl,fun _=>by rw[if_pos hn]⟩
   ·cases h
 |qB x=>cases dst<;>simp[aR.cls]at hc
 |abld T e=>
  simp only[aF,bj,aL]at h⊢
  obtain⟨rfl,rfl,rfl⟩:=h;exact⟨rfl,fun _=>by simp⟩
 |call f args=>
  simp only[aF,bL,aL,Prod.exists]at h
  obtain⟨a,b,h1,rfl,rfl,rfl⟩:=h;exact⟨rfl,fun _=>by simp only[aF,h1,rR]⟩
 |app ag sz bytes e x y=>
  simp only[aF,bL,aL,Prod.exists]at h
  obtain⟨a,b,h1,rfl,rfl,rfl⟩:=h;exact⟨rfl,fun _=>by simp only[aF,h1,rR]⟩
 |_=>simp[aR.cls]at hc
theorem adO{o:aR}{d:Nat}(hc:o.cls= .new d){ev:bp->AV}{lk mem aH v u m}(h:aF ev lk mem aH o.dst o.op=some (v,u,m)):
  o.dst=some d/\m=mem/\(∃x,u=some (d,x))/\∀n9 wJ,n9 d=lk d->aF ev n9 wJ aH o.dst o.op=some (v,u,wJ):=by
 obtain⟨dst,op,gd⟩:=o;have hv:∀(n9:Nat->Option (Nat×θ)),n9 d=lk d->aQ n9 d=aQ lk d:=fun n9 h=>by simp only[aQ,h]
 cases op with
 |alloc g z=>
  cases g<;>cases dst<;>simp[aR.cls]at hc
  subst hc;simp only[aF,newVar,hS,if_false,bj,aL]at h⊢;obtain⟨rfl,rfl,rfl⟩:=h;refine⟨trivial,rfl,⟨_,rfl⟩,fun n9 wJ hl=>?_⟩;rw[hv n9 hl];simp
 |box g n x=>
  cases g<;>cases dst<;>simp[aR.cls]at hc
  subst hc;simp only[aF,newVar,hS,if_false]at h⊢;split at h
  ·rename_i hn;simp only[bj,aL]at h;obtain⟨rfl,rfl,rfl⟩:=h;refine⟨trivial,rfl,⟨_,rfl⟩,fun n9 wJ hl=>?_⟩;rw[hv n9 hl,if_pos hn]
  ·cases h
 |qB x=>
  cases dst<;>simp[aR.cls]at hc
  subst hc;simp only[aF]at h⊢;split at h
  ·rename_i s d' hx hd;cases hd;simp only[bj,aL]at h;obtain⟨rfl,rfl,rfl⟩:=h;refine⟨trivial,rfl,⟨_,rfl⟩,fun n9 wJ hl=>?_⟩;rw[hv n9 hl]
  ·cases h
 |_=>simp[aR.cls]at hc
theorem ady{o:aR}(hc:o.cls= .load):∃ag n a,o.op= .ld ag n a:=by
 obtain⟨dst,op,gd⟩:=o;cases op with
 |alloc g z=>cases g<;>cases dst<;>simp[aR.cls]at hc
 |box g n x=>cases g<;>cases dst<;>simp[aR.cls]at hc
 |qB x=>cases dst<;>simp[aR.cls]at hc
 |ld ag n a=>exact⟨_,_,_,rfl⟩
 |_=>simp[aR.cls]at hc
def NB(gl:Nat->AV)(o:aR)(s S:St):Prop:=
 ∀ag n a,o.op= .ld ag n a->fz S.env o.guard≠some false->rd (bT s.loc) s.mem (d_ gl S.env a) n=rd (bT S.loc) S.mem (d_ gl S.env a) n
theorem agy{env BI:List AV}{gd:Option (Nat×Bool)}(h:∀t∈gd.toList.map (·.1),bq env t=bq BI t):fz env gd=fz BI gd:=by
 cases gd with
 |none=>rfl
 |some p=>simp only[fz];rw[h p.1 (by simp)]
theorem Xv{gl:Nat->AV}{env BI:List AV}{l:List bp}(h:∀t∈l.filterMap bp.UT,bq env t=bq BI t):∀x∈l,d_ gl env x=d_ gl BI x:=by
 intro x hx;cases x with
 |t n=>exact h n (List.mem_filterMap.2 ⟨_,hx,rfl⟩)
 |c v=>rfl
 |g n=>rfl
theorem IU{gl:Nat->AV}{aH:cM}{o:aR}{s S S1:St}(τ:eu gl aH o S=some S1)(qm:∀r,M0 o r->agree r s S)(Cl:NB gl o s S):
  ∃s1,eu gl aH o s=some s1/\(∀r,gK o r->agree r s1 S1)/\∀r,¬gK o r->agree r s1 s/\agree r S1 S:=by
 have hu:∀t∈o.Ir,bq s.env t=bq S.env t:=fun t ht=>qm (.env t) ht;have hw:fz s.env o.guard=fz S.env o.guard:=agy fun t ht=>hu t (xb _ ht);have au:∀x∈o.op.rr,d_ gl s.env x=d_ gl S.env x:=Xv fun t ht=>hu t (IG _ ht);unfold eu at τ⊢;rw[hw];split at τ
 ·cases τ
 ·rename_i tN;split at τ
  ·rename_i v u m he;cases τ;have fin:∀(u':lA) (m':Mem),(∀r,gK o r->r= .mem->m'=m)->(∀d,gK o (.loc d)->bT (fe s.loc u') d=bT (fe S.loc u) d)→
     (¬gK o .mem->m'=s.mem/\m=S.mem)->(∀d,¬gK o (.loc d)->bT (fe s.loc u') d=bT s.loc d/\bT (fe S.loc u) d=bT S.loc d)→
     (∀r,gK o r->agree r ({env:=fQ s.env o.dst v,loc:=fe s.loc u',mem:=m'}:St) {env:=fQ S.env o.dst v,loc:=fe S.loc u,mem:=m})∧
     ∀r,¬gK o r->agree r ({env:=fQ s.env o.dst v,loc:=fe s.loc u',mem:=m'}:St) s/\agree r ({env:=fQ S.env o.dst v,loc:=fe S.loc u,mem:=m}:St) S:=by
    intro u' m' h1 h2 h3 h4;refine⟨fun r hr=>?_,fun r hr=>?_⟩
    ·cases r with
     |env t=>simp only[agree];rw[uz,uz,if_pos (show o.dst=some t from hr),if_pos (show o.dst=some t from hr)]
     |loc d=>exact h2 d hr
     |mem=>exact h1 _ hr rfl
    ·cases r with
     |env t=>
      have hr:¬o.dst=some t:=hr
      simp only[agree];rw[uz,uz,if_neg hr,if_neg hr];exact⟨rfl,rfl⟩
     |loc d=>exact h4 d hr
     |mem=>exact h3 hr
   rw[VG au];cases hc:o.cls with
   |quiet=>
    obtain⟨rfl,rfl,k⟩:=afp hc he
    refine⟨_,by rw[k],fin none s.mem (fun r hr he=>?_) (fun d hr=>?_) (fun _=>⟨rfl,rfl⟩) (fun _ _=>⟨rfl,rfl⟩)⟩
    ·subst he;simp[gK,hc]at hr
    ·simp[gK,hc]at hr
   |load=>
    obtain⟨ag,n,a,Ψ⟩:=ady hc
    have hl:=Cl ag n a Ψ (by rw[tN];simp);simp only[Ψ,aF]at he⊢;rw[hl];split at he
    ·rename_i l gY;simp only[bL,aL]at he;obtain⟨x,hx,rfl,rfl,rfl⟩:=he;refine⟨_,by simp only[hx,rR],fin none s.mem (fun r hr he=>?_) (fun d hr=>?_) (fun _=>⟨rfl,rfl⟩) (fun _ _=>⟨rfl,rfl⟩)⟩
     ·subst he;simp[gK,hc]at hr
     ·simp[gK,hc]at hr
    ·cases he
   |new d=>
    obtain⟨hd,rfl,⟨x,rfl⟩,k⟩:=adO hc he
    have hl:bT s.loc d=bT S.loc d:=qm (.loc d) (.inl hc);refine⟨_,by rw[k _ s.mem hl],fin (some (d,x)) s.mem (fun r hr he=>?_) (fun d' hr=>?_) (fun _=>⟨rfl,rfl⟩) (fun d' hr=>?_)⟩
    ·subst he;simp[gK,hc]at hr
    ·simp only[gK,hc,tc.new.injEq,reduceCtorEq,exists_const,or_false]at hr;subst hr;obtain⟨v',b⟩:=x;simp only[fe,gF,if_true]
    ·have aj:d≠d':=fun h=>hr (.inl (by rw[hc,h]));obtain⟨v',b⟩:=x;simp only[fe,gF,if_neg aj];exact⟨trivial,trivial⟩
   |call=>
    obtain⟨rfl,k⟩:=WD hc he
    have hm:s.mem=S.mem:=qm .mem (.inl hc);refine⟨_,by rw[hm,k],fin none m (fun _ _ _=>rfl) (fun d hr=>?_) (fun hr=>absurd (.inl hc) hr) (fun _ _=>⟨rfl,rfl⟩)⟩;simp[gK,hc]at hr
   |mM b0=>
    have hm:s.mem=S.mem:=qm .mem ((.inr ⟨_,hc⟩))
    have hl:bT s.loc=bT S.loc:=funext fun d=>qm (.loc d) ((.inr ⟨_,hc⟩));refine⟨_,by rw[hm,hl,he],fin u m (fun _ _ _=>rfl) (fun d hr=>?_) (fun hr=>absurd (.inr ⟨_,hc⟩) hr) (fun d hr=>absurd (.inr ⟨_,hc⟩) hr)⟩;rw[Mg,Mg,hl]
  ·cases τ
 ·cases τ;refine⟨_,rfl,fun r hr=>?_,fun r hr=>?_⟩
  ·cases r with
   |env t=>simp only[agree];rw[uz,uz,if_pos (show o.dst=some t from hr),if_pos (show o.dst=some t from hr)]
   |loc d=>exact qm (.loc d) hr
   |mem=>exact qm .mem hr
  ·cases r with
   |env t=>
    have hr:¬o.dst=some t:=hr
    simp only[agree];rw[uz,uz,if_neg hr,if_neg hr];exact⟨rfl,rfl⟩
   |loc d=>exact⟨rfl,rfl⟩
   |mem=>exact⟨rfl,rfl⟩
def ins(x:Nat)(l:List Nat):List Nat:=if l.contains x then l else x::l
theorem Tn{x y:Nat}{l:List Nat}(h:y∈ins x l):y=x\/y∈l:=by
 unfold ins at h;split at h
 ·exact .inr h
 ·simpa using h
def Sf(m l:List Nat):List Nat:=m.foldr ins l
theorem adG{y:Nat}{m l:List Nat}(h:y∈Sf m l):y∈m\/y∈l:=by
 induction m with
 |nil=>exact .inr h
 |cons a m ih=>
  rcases Tn h with rfl|h
  ·exact .inl (by simp)
  ·rcases ih h with h|h
   ·exact .inl (by simp[h])
   ·exact .inr h
def sS(acc:List (List Nat)):List Edge->List Nat
 |[]=>[]
 |e::l=>if Region.binds .any e then ins e.on (Sf (acc.getD e.on []) (sS acc l))else sS acc l
theorem adH{acc:List (List Nat)}{es:List Edge}{j:Nat}(h:j∈sS acc es):∃e∈es,Region.binds .any e=true/\(j=e.on\/j∈acc.getD e.on []):=by
 induction es with
 |nil=>cases h
 |cons e l ih=>
  simp only[sS]at h
  have tail:j∈sS acc l->∃e'∈e::l,Region.binds .any e'=true/\(j=e'.on\/j∈acc.getD e'.on []):=fun h=>by obtain⟨e',h1,h2⟩:=ih h;exact⟨e',A6 _ h1,h2⟩
  split at h
  ·rename_i hb;rcases Tn h with h|h
   ·exact⟨e,by simp,hb,.inl h⟩
   ·rcases adG h with h|h
    ·exact⟨e,by simp,hb,.inr h⟩
    ·exact tail h
  ·exact tail h
def qz:List Oper->List (List Nat)->List (List Nat)
 |[],acc=>acc
 |o::l,acc=>qz l (acc++[sS acc o.after.toList])
def pQ:List Oper->Nat->Bool
 |[],_=>true
 |o::l,i=>(o.after.toList.all fun e=>!Region.binds .any e||decide (e.on<i))&&pQ l (i+1)
theorem TZ(l:List Oper)(acc:List (List Nat)):∃rest,qz l acc=acc++rest/\rest.length=l.length:=by
 induction l generalizing acc with
 |nil=>exact⟨[],by simp[qz],rfl⟩
 |cons o l ih=>
  obtain⟨rest,h1,h2⟩:=ih (acc++[sS acc o.after.toList])
  exact⟨sS acc o.after.toList::rest,by simp[qz,h1],by simp[h2]⟩
theorem ae5(l:List Oper)(acc:List (List Nat))(i:Nat)(o:Oper)(h:l[i]?=some o)(he:pQ l acc.length=true)(j:Nat)
  (hj:j∈(qz l acc).getD (acc.length+i) []):
  ∃e∈o.after,Region.binds .any e=true/\e.on<acc.length+i/\(j=e.on\/j∈(qz l acc).getD e.on []):=by
 induction l generalizing acc i with
 |nil=>simp at h
 |cons o' l ih=>
  simp only[pQ,kj,gz,ahO,ah_,decide_eq_true_eq]at he
  cases i with
  |zero=>
   simp only[A1,bj]at h
   subst h;obtain⟨rest,h1,h2⟩:=TZ l (acc++[sS acc o'.after.toList]);have hg:(qz (o'::l) acc).getD (acc.length+0) []=sS acc o'.after.toList:=by simp only[qz,h1];simp[kT]
   rw[hg]at hj;obtain⟨e,h3,h4,h5⟩:=adH hj;have ν:=(he.1 e h3).resolve_left (by simp[h4]);refine⟨e,by simpa using h3,h4,by simpa using ν,h5.imp id fun h5=>?_⟩;have:(qz (o'::l) acc).getD e.on []=acc.getD e.on []:=by simp only[qz,h1];simp[kT,List.getElem?_append,ν]
   rw[this];exact h5
  |succ i=>
   simp only[IC]at h
   have:=ih (acc++[sS acc o'.after.toList]) i h (by simpa using he.2) (by simpa[qz,vz,y0 1 i]using hj);simpa[qz,vz,y0 1 i]using this
def iD(ops:Array Oper):List (List Nat):=qz ops.toList []
theorem MH{ops:Array Oper}(he:pQ ops.toList 0=true){i j:Nat}{o:Oper}(h:ops[i]?=some o)(hj:j∈(iD ops).getD i []):
  ∃e∈o.after,Region.binds .any e=true/\e.on<i/\(j=e.on\/j∈(iD ops).getD e.on []):=by
 have:=ae5 ops.toList [] i o (by simpa using h) he j (by simpa[iD]using hj);simpa[iD]using this
theorem Xp{l:List Oper}{k:Nat}(he:pQ l k=true){i:Nat}{o:Oper}(h:l[i]?=some o):∀e∈o.after,Region.binds .any e=true->e.on<k+i:=by
 induction l generalizing k i with
 |nil=>simp at h
 |cons o' l ih=>
  simp only[pQ,kj,gz,ahO,ah_,decide_eq_true_eq]at he
  cases i with
  |zero=>
   simp only[A1,bj]at h
   subst h;intro e hm hb;exact(he.1 e (by simpa using hm)).resolve_left (by simp[hb])
  |succ i=>
   simp only[IC]at h
   intro e hm hb;have:=ih he.2 h e hm hb;omega
def Bp:tc->tc->Bool
 | .quiet,_=>false
 |_,.quiet=>false
 | .mM true,.load=>false
 | .load,.mM true=>false
 | .mM _,_=>true
 |_,.mM _=>true
 | .call,.call=>true
 | .new d,.new d'=>d==d'
 |_,_=>false
def KL(o o':aR):Bool:=match o.dst with
 |some t=>o'.dst==some t||o'.Ir.contains t
 |none=>false
def zm(o o':aR):Bool:=Bp o.cls o'.cls||KL o o'||KL o' o
theorem Jf{o o':aR}(h:zm o o'=false):∀r,gK o r->¬gK o' r/\¬M0 o' r:=by
 intro r hr;simp only[zm,Iw]at h;obtain⟨⟨h1,h2⟩,h3⟩:=h;cases r with
 |env t=>
  have hr:o.dst=some t:=hr
  simp only[KL,hr,Iw]at h2;refine⟨fun hw=>?_,fun hw=>?_⟩
  ·have hw:o'.dst=some t:=hw;simp[hw]at h2
  ·have hw:t∈o'.Ir:=hw;simp[hw]at h2
 |loc d=>
  have key:¬(o'.cls= .new d\/∃b,o'.cls= .mM b):=by rintro(hw|⟨b,hw⟩)<;>rcases hr with hr|⟨b',hr⟩<;>simp[hr,hw,Bp]at h1
  exact⟨key,key⟩
 |mem=>
  have key:¬(o'.cls= .call\/∃b,o'.cls= .mM b):=by rintro(hw|⟨b,hw⟩)<;>rcases hr with hr|⟨b',hr⟩<;>simp[hr,hw,Bp]at h1
  exact⟨key,key⟩
def cmp(pre:List (List Nat))(i j:Nat):Bool:=(pre.getD j []).contains i||(pre.getD i []).contains j
def Bw(l:List aR)(pre:List (List Nat)):Bool:=
 (rM l.length).all fun j=>(rM l.length).all fun i=>decide (i=j)||cmp pre i j||(match l[i]?,l[j]? with
  |some oi,some oj=>!zm oi oj
  |_,_=>true)
def LR(p:tc->Bool)(l:List aR)(i:Nat):Bool:=match l[i]? with
 |some o=>p o.cls
 |none=>false
def ru(l:List aR)(pre:List (List Nat))(p q:tc->Bool):List (Nat×Nat):=
 ((rM l.length).filter (LR p l)).flatMap fun i=>(((rM l.length).filter (LR q l)).filter fun j=>!(cmp pre i j)).map fun j=>(i,j)
def qu:tc->Bool
 | .load=>true
 |_=>false
def yt:tc->Bool
 | .call=>true
 | .mM true=>true
 |_=>false
def Ap:tc->Bool
 | .new _=>true
 |_=>false
theorem Mn{l:List aR}{pre:List (List Nat)}{p q:tc->Bool}{i j:Nat}{o o':aR}(h1:l[i]?=some o)(h2:l[j]?=some o')(hp:p o.cls=true)(hq:q o'.cls=true)
  (hc:cmp pre i j=false):(i,j)∈ru l pre p q:=by
 have hi:i<l.length:=(lx.1 h1).1;have hj:j<l.length:=(lx.1 h2).1;simp only[ru,List.mem_flatMap,List.mem_map,DA,List.mem_range,aL,LR];exact⟨i,⟨hi,by simp[h1,hp]⟩,j,⟨⟨hj,by simp[h2,hq]⟩,by simp[hc]⟩,rfl,rfl⟩
mutual
theorem AV.eq_of_beq:∀(a b:AV),AV.beq a b=true->a=b
 | .undef,b,h=>by cases b<;>simp[AV.beq]at h;rfl
 | .dd,b,h=>by cases b<;>simp[AV.beq]at h;rfl
 | .int k n,b,h=>by cases b<;>simp[AV.beq]at h;rw[h.1,h.2]
 | .bool x,b,h=>by cases b<;>simp[AV.beq]at h;rw[h]
 | .str s,b,h=>by cases b<;>simp[AV.beq]at h;rw[h]
 | .iR,b,h=>by cases b<;>simp[AV.beq]at h;rfl
 | .Ω d v o,b,h=>by cases b<;>simp[AV.beq]at h;rw[h.1.1,h.1.2,h.2]
 | .μ d o,b,h=>by cases b<;>simp[AV.beq]at h;rw[h.1,h.2]
 | .ref l,b,h=>by cases b<;>simp[AV.beq]at h;rw[AV.vI _ _ h]
 | .sl kd i o n c,b,h=>by cases b<;>simp[AV.beq]at h;rw[h.1.1.1.1,h.1.1.1.2,h.1.1.2,h.1.2,h.2]
 | .list c l,b,h=>by cases b<;>simp[AV.beq]at h;rw[h.1,AV.vI _ _ h.2]
 | .agg l,b,h=>by cases b<;>simp[AV.beq]at h;rw[AV.vI _ _ h]
 | .aO l,b,h=>by cases b<;>simp[AV.beq]at h;rw[AV.vI _ _ h]
 | .fn f x y,b,h=>by cases b<;>simp[AV.beq]at h;rw[h.1.1,AV.vI _ _ h.1.2,AV.vI _ _ h.2]
 | .eU,b,h=>by cases b<;>simp[AV.beq]at h;rfl
 | .iface t v,b,h=>by cases b<;>simp[AV.beq]at h;rw[h.1,AV.eq_of_beq _ _ h.2]
 | .ga,b,h=>by cases b<;>simp[AV.beq]at h;rfl
 | .map i,b,h=>by cases b<;>simp[AV.beq]at h;rw[h]
 | .fP,b,h=>by cases b<;>simp[AV.beq]at h;rfl
theorem AV.vI:∀(a b:List AV),AV.gh a b=true->a=b
 |[],b,h=>by cases b<;>simp[AV.gh]at h;rfl
 |x::l,b,h=>by
  cases b with
  |nil=>simp[AV.gh]at h
  |cons y m=>simp[AV.gh]at h;rw[AV.eq_of_beq _ _ h.1,AV.vI _ _ h.2]
end
theorem Et{a b:Option (List AV)}(h:dG a b=true):a=b:=by cases a<;>cases b<;>simp[dG]at h;rw[AV.vI _ _ h]
theorem PE{P:Program}{bN:Nat->Bool}{N:Nat}{ops:Array Oper}{l:List Oper}{l':List aR}(h:tz P bN N ops l=some l'):l'.length=l.length:=by
 induction l generalizing l' with
 |nil=>cases h;rfl
 |cons o l ih=>
  simp only[tz]at h
  split at h
  ·rename_i h1 h2;cases h;simp[ih h2]
  ·cases h
theorem PD{P:Program}{bN:Nat->Bool}{N:Nat}{ops:Array Oper}{l:List Oper}{l':List aR}(h:tz P bN N ops l=some l'){i:Nat}{o:Oper}(hi:l[i]?=some o):
  ∃o',l'[i]?=some o'/\D4 P bN N ops o=some o':=by
 induction l generalizing l' i with
 |nil=>simp at hi
 |cons x l ih=>
  simp only[tz]at h
  split at h
  ·rename_i h1 h2;cases h;cases i with
   |zero=>simp only[A1,bj]at hi;subst hi;exact⟨_,rfl,h1⟩
   |succ i=>simp only[IC]at hi⊢;exact ih h2 hi
  ·cases h
structure Trace (gl:Nat->AV) (aH:cM) (l:List aR) (T:Nat->St):Prop where
 step:∀i o,l[i]?=some o->eu gl aH o (T i)=some (T (i+1))
theorem NW{gl:Nat->AV}{aH:cM}{l:List aR}{s:St}{tr:List St}(h:dL gl aH l s=some tr):
  tr.length=l.length+1/\tr[0]?=some s/\∀i o,l[i]?=some o->∃a b,tr[i]?=some a/\tr[i+1]?=some b/\eu gl aH o a=some b:=by
 induction l generalizing s tr with
 |nil=>cases h;exact⟨rfl,rfl,fun i o h=>by simp at h⟩
 |cons x l ih=>
  simp only[dL]at h
  split at h
  ·rename_i s' he;simp only[bL]at h;obtain⟨t,ht,rfl⟩:=h;obtain⟨h1,h2,h3⟩:=ih ht;refine⟨by simp[h1],rfl,fun i o ho=>?_⟩;cases i with
   |zero=>
    simp only[A1,bj]at ho
    subst ho;exact⟨s,s',rfl,by simpa using h2,he⟩
   |succ i=>
    simp only[IC]at ho⊢
    exact h3 i o ho
  ·cases h
section
variable{gl:Nat->AV}{aH:cM}{l:List aR}{T:Nat->St}
theorem Trace.same(hT:Trace gl aH l T){r:uo}{i:Nat}:∀{k:Nat},i<=k->k<=l.length->(∀j o,i<=j->j<k->l[j]?=some o->¬gK o r)->agree r (T k) (T i):=by
 intro k;induction k with
 |zero=>intro h _ _;obtain rfl:i=0:=(by omega);exact xk _ _
 |succ k ih=>
  intro h hk hn
  rcases bP k i with ν|cD
  ·obtain rfl:i=k+1:=by omega
   exact xk _ _
  ·have h1:=ih cD (by omega) fun j o hj dD=>hn j o hj (by omega);have ν:k<l.length:=by omega
   have τ:=hT.step k l[k] (eo ν);obtain⟨s1,h2,_,h4⟩:=IU (s:=T k) τ (fun r _=>xk r _) (fun _ _ _ _ _=>rfl);exact A_ (h4 r (hn k l[k] cD (by omega) (eo ν))).2 h1
theorem Trace.last(hT:Trace gl aH l T){r:uo}{i:Nat}:∀{k:Nat},i<=k->k<=l.length→
  agree r (T k) (T i)\/∃j o,i<=j/\j<k/\l[j]?=some o/\gK o r/\agree r (T k) (T (j+1)):=by
 intro k;induction k with
 |zero=>intro h _;obtain rfl:i=0:=(by omega);exact .inl (xk _ _)
 |succ k ih=>
  intro h hk
  rcases bP k i with ν|cD
  ·obtain rfl:i=k+1:=by omega
   exact .inl (xk _ _)
  ·have ν:k<l.length:=by omega
   have ho:l[k]?=some l[k]:=eo ν;by_cases hw:gK l[k] r
   ·exact .inr ⟨k,l[k],cD,by omega,ho,hw,xk _ _⟩
   ·have τ:=hT.step k l[k] ho;obtain⟨s1,h2,_,h4⟩:=IU (s:=T k) τ (fun r _=>xk r _) (fun _ _ _ _ _=>rfl);have h5:=(h4 r hw).2;rcases ih cD (by omega)with h1|⟨j,o,k1,k2,k3,k4,k5⟩
    ·exact .inl (A_ h5 h1)
    ·exact .inr ⟨j,o,k1,by omega,k3,k4,A_ h5 k5⟩
def Inv(l:List aR)(T:Nat->St)(listed:Nat->Prop)(s:St):Prop:=
 ∀r k,k<=l.length->(∀j o,j<k->l[j]?=some o->gK o r->listed j)->(∀j o,k<=j->l[j]?=some o->gK o r->¬listed j)->agree r s (T k)
structure IK (gl:Nat->AV) (l:List aR) (T:Nat->St) (iH:Nat->Nat->Prop):Prop where
 back:∀i j,iH i j->i<j
 free:∀i j oi oj,l[i]?=some oi->l[j]?=some oj->i≠j->¬iH i j->¬iH j i->zm oi oj=false
 cf:∀i j oi oj ag n a,l[i]?=some oi->l[j]?=some oj->oi.op= .ld ag n a->(oj.cls= .call\/oj.cls= .mM true)->¬iH i j->¬iH j i->fz (T i).env oi.guard≠some false→
  ∀id off,d_ gl (T i).env a= .μ id off->rd (fun _=>none) (T j).mem (.μ id off) n=rd (fun _=>none) (T i).mem (.μ id off) n∧
   rd (fun _=>none) (T (j+1)).mem (.μ id off) n=rd (fun _=>none) (T i).mem (.μ id off) n
 sf:∀i j oi oj ag n a,l[i]?=some oi->l[j]?=some oj->oi.op= .ld ag n a->oj.cls= .mM true->¬iH i j->¬iH j i->fz (T i).env oi.guard≠some false→
  ∀d v off,d_ gl (T i).env a= .Ω d v off->rd (bT (T j).loc) (T j).mem (.Ω d v off) n=rd (bT (T i).loc) (T i).mem (.Ω d v off) n∧
   rd (bT (T (j+1)).loc) (T (j+1)).mem (.Ω d v off) n=rd (bT (T i).loc) (T i).mem (.Ω d v off) n
 af:∀i j oi oj ag n a d,l[i]?=some oi->l[j]?=some oj->oj.op= .ld ag n a->oi.cls= .new d->¬iH i j->¬iH j i→
  ∀v off,d_ gl (T j).env a= .Ω d v off->False
theorem Bq{o:aR}{ag n a}(h:o.op= .ld ag n a):o.cls= .load:=by obtain⟨dst,op,gd⟩:=o;cases h;rfl
theorem adN{o:aR}{d:Nat}(h:o.cls= .new d):o.dst=some d:=by
 obtain⟨dst,op,gd⟩:=o;cases op with
 |alloc g z=>cases g<;>cases dst<;>simp_all [aR.cls]
 |box g n x=>cases g<;>cases dst<;>simp_all [aR.cls]
 |qB x=>cases dst<;>simp_all [aR.cls]
 |_=>simp[aR.cls]at h
theorem aeA(hT:Trace gl aH l T){iH:Nat->Nat->Prop}(hO:IK gl l T iH){listed:Nat->Prop}{s:St}(hI:Inv l T listed s)
  (du:∀i j,iH i j->listed j->listed i) {i:Nat} {o:aR} (ho:l[i]?=some o) (yj:¬listed i) (G8:∀j,iH j i->listed j):
  ∃s1,eu gl aH o s=some s1/\Inv l T (fun j=>listed j\/j=i) s1:=by
 have hi:i<l.length:=(lx.1 ho).1;have side:∀r,(∀j oj,l[j]?=some oj->gK oj r->j≠i->iH i j\/iH j i)->agree r s (T i):=by
  intro r hr;refine hI r i (y5 hi) (fun j oj hj iq hw=>?_) (fun j oj hj iq hw hl=>?_)
  ·rcases hr j oj iq hw (by omega)with h|h
   ·have:=hO.back _ _ h;omega
   ·exact G8 j h
  ·rcases ah' hj with rfl|ν
   ·exact yj hl
   ·rcases hr j oj iq hw (by omega)with h|h
    ·exact yj (du _ _ h hl)
    ·have:=hO.back _ _ h;omega
 have qm:∀r,M0 o r->agree r s (T i):=by
  intro r hr;refine side r fun j oj iq hw aj=>?_;by_cases h1:iH i j
  ·exact .inl h1
  ·by_cases h2:iH j i
   ·exact .inr h2
   ·exact absurd hr (Jf (hO.free j i oj o iq ho aj h2 h1) r hw).2
 have look:∀{β:Type} (f:St->β) (r:uo),(∀s s',agree r s s'->f s=f s')→
   (∀j oj,l[j]?=some oj->gK oj r->j≠i->¬iH i j->¬iH j i->f (T j)=f (T i)/\f (T (j+1))=f (T i))->f s=f (T i):=by
  intro β f r hf Rq;have⟨k,hk,je,fo⟩:∃k,k<=l.length/\(∀j oj,j<k->l[j]?=some oj->gK oj r->listed j)/\(k=l.length\/∃ok,l[k]?=some ok/\gK ok r/\¬listed k):=by
   have:∀k,k<=l.length->(∀j oj,j<k->l[j]?=some oj->gK oj r->listed j)\/∃m,m<k/\(∀j oj,j<m->l[j]?=some oj->gK oj r->listed j)/\∃ok,l[m]?=some ok/\gK ok r/\¬listed m:=by
    intro k;induction k with
    |zero=>intro _;exact .inl fun j oj hj=>by omega
    |succ k ih=>
     intro hk
     rcases ih (by omega)with h|⟨m,h1,h2⟩
     ·have Θ:l[k]?=some l[k]:=eo (by omega);by_cases hx:gK l[k] r/\¬listed k
      ·exact .inr ⟨k,by omega,h,_,Θ,hx⟩
      ·refine .inl fun j oj hj iq dh=>?_;rcases bP j k with ν|cD
       ·exact h j oj ν iq dh
       ·obtain rfl:j=k:=by omega
        rw[Θ]at iq;cases iq;exact Classical.byContradiction fun hn=>hx ⟨dh,hn⟩
     ·exact .inr ⟨m,by omega,h2⟩
   rcases this l.length (bQ _)with h|⟨m,h1,h2,h3⟩
   ·exact⟨l.length,bQ _,h,.inl rfl⟩
   ·exact⟨m,y5 h1,h2,.inr h3⟩
  have cE:agree r s (T k):=by
   refine hI r k hk je fun j oj hj iq dh hl=>?_;rcases fo with rfl|⟨ok,h1,h2,h3⟩
   ·have:=(lx.1 iq).1;omega
   ·rcases ah' hj with rfl|ν
    ·exact h3 hl
    ·by_cases g1:iH k j
     ·exact h3 (du _ _ g1 hl)
     ·by_cases g2:iH j k
      ·have:=hO.back _ _ g2;omega
      ·exact(Jf (hO.free k j ok oj h1 iq (by omega) g1 g2) r h2).1 dh
  rw[hf _ _ cE];have ordered:i<=k->f (T k)=f (T i):=by
   intro Ch;rcases hT.last (r:=r) Ch hk with h|⟨j,oj,g1,g2,g3,g4,g5⟩
   ·exact hf _ _ h
   ·rw[hf _ _ g5];have hl:=je j oj g2 g3 g4;have aj:j≠i:=fun h=>yj (h▸hl);have n1:¬iH i j:=fun h=>yj (du _ _ h hl);have n2:¬iH j i:=fun h=>by have:=hO.back _ _ h;omega
    exact(Rq j oj g3 g4 aj n1 n2).2
  rcases fo with rfl|⟨ok,h1,h2,h3⟩
  ·exact ordered (y5 hi)
  ·by_cases g1:iH i k
   ·exact ordered (y5 (hO.back _ _ g1))
   ·by_cases g2:iH k i
    ·exact absurd (G8 k g2) h3
    ·by_cases ZT:k=i
     ·exact ordered (by omega)
     ·exact(Rq k ok h1 h2 ZT g1 g2).1
 have Cl:NB gl o s (T i):=by
  intro ag n a Ψ hw;cases hp:d_ gl (T i).env a with
  |Ω d v off=>
   refine look (fun s=>rd (bT s.loc) s.mem (.Ω d v off) n) (.loc d) (fun s s' h=>?_) fun j oj iq dh aj n1 n2=>?_
   ·simp only[rd];rw[show bT s.loc d=bT s'.loc d from h]
   ·rcases dh with dh|⟨b,dh⟩
    ·exact(hO.af j i oj o ag n a d iq ho Ψ dh n2 n1 v off hp).elim
    ·cases b with
     |false=>
      have:=hO.free j i oj o iq ho aj n2 n1
      simp[zm,dh,Bq Ψ,Bp]at this
     |true=>exact hO.sf i j o oj ag n a ho iq Ψ dh n1 n2 hw d v off hp
  |μ id off=>
   refine look (fun s=>rd (bT s.loc) s.mem (.μ id off) n) .mem (fun s s' h=>?_) fun j oj iq dh aj n1 n2=>?_
   ·show rd (fun _=>none) s.mem (.μ id off) n=rd (fun _=>none) s'.mem (.μ id off) n;rw[show s.mem=s'.mem from h]
   ·refine hO.cf i j o oj ag n a ho iq Ψ ?_ n1 n2 hw id off hp;rcases dh with dh|⟨b,dh⟩
    ·exact .inl dh
    ·cases b with
     |false=>
      have:=hO.free j i oj o iq ho aj n2 n1
      simp[zm,dh,Bq Ψ,Bp]at this
     |true=>exact .inr dh
  |_=>rfl
 obtain⟨s1,h1,h2,h3⟩:=IU (hT.step i o ho) qm Cl;refine⟨s1,h1,fun r k hk ν cD=>?_⟩;by_cases hw:gK o r
 ·have Ch:i<k:=by
   rcases bP i k with h|h
   ·exact h
   ·exact absurd (.inr rfl) (cD i o h ho hw)
  refine A_ (h2 r hw) (NL (hT.same (i:=i+1) Ch hk fun j oj hj ZL iq pz=>?_));have hl:listed j:=(ν j oj ZL iq pz).resolve_right (by omega);by_cases g1:iH i j
  ·exact yj (du _ _ g1 hl)
  ·by_cases g2:iH j i
   ·have:=hO.back _ _ g2;omega
   ·exact(Jf (hO.free i j o oj ho iq (by omega) g1 g2) r hw).1 pz
 ·refine A_ (h3 r hw).1 (hI r k hk (fun j oj hj iq pz=>?_) (fun j oj hj iq pz hl=>cD j oj hj iq pz (.inl hl)));refine(ν j oj hj iq pz).resolve_right ?_
  rintro rfl
  rw[ho]at iq;cases iq;exact hw pz
end
end Go.ab
